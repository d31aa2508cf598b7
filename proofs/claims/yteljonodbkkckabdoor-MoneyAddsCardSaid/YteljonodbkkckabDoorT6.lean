/- For any two integers and any list of integers the law MoneyAdds returns true, and its arguments read as before. -/
import Derived.Test.YteljonodbkkckabDoorT5
import Derived.Test.YteljonodbkkckabDoorCards
import Derived.Test.YteljonodbkkckabDoorTie
import Derived.WalkKit
import Derived.ProofKit
import Derived.OpenShut
import Derived.ChangeSlices
import Derived.Deep.DeepHandedRow
import Derived.Lib.LaidTab
namespace Go.Proofs.YteljonodbkkckabDoor.Av
open Go Go.Proofs Go.ChangeShapes Go.WideShapes Go.ChangeAt Go.RowKit Go.Proofs.YteljonodbkkckabDoor
theorem glAny {ro : Nat → Prop} {W : World} : GlRel G0 (fun _ => none) ro W := fun _ => .any

theorem rep_ints {P : Program} {H : Type} {enc : TypeId × Value → H} {W : World} {t e : TypeId} {v : Value} {d : DataW H} {ps : List MemPlace} (ht : P.underlying t = some (.slice e)) (he : P.underlying e = some (.int .i64)) (hc : P.cellsOf e = 1)
    (hval : ∀ cs, v ≠ .agg cs) (h : DataW.Trod enc P W 0 (fun _ => true) true t v d ps) : ∃ l : List Int, Rep (fun _ => none) (fun b => b < W.heap.size) W false (.lst (l.map (AV.int .i64)) l.length) v ∧ ∀ n ∈ l, (Lit.int .i64 n).wf = true := by
  obtain ⟨fuel, hf⟩ := h
  have hv : v.cells.toList = [v] := by
    cases v <;> first | rfl | exact absurd rfl (hval _)
  rw [hv] at hf
  rcases open_ints ht he hc hf with ⟨h1, h2⟩ | ⟨a, len, cap, zs, h1, h2, h3, h4, h5, h6, h7, h8⟩
  · simp only [List.cons.injEq, and_true] at h1
    subst h1
    exact ⟨[], .lstn, by simp⟩
  · simp only [List.cons.injEq, and_true] at h1
    subst h1
    simp only [if_true] at h5
    refine ⟨zs.take len, ?_, fun n hn => h8 n (List.mem_of_mem_take hn)⟩
    have hl : (zs.take len).length = len := by simp; omega
    rw [hl]
    have hcell : ∀ i, i < len → W.cell? (a.add i) = some (.int .i64 ((zs.take len).getD i 0)) := fun i hi => by
      rw [h7 i (by omega)]
      simp [List.getD, hi]
    by_cases h0 : len = 0
    · subst h0
      exact .lst (fun _ => undef) (fun h => absurd (by simp) h) (fun i hi => by simp at hi) (fun i hi => by simp at hi) (by omega)
    have hsp : a.spot = none ∧ a.block < W.heap.size := by
      have := hcell 0 (by omega)
      obtain ⟨b, o, s⟩ := a
      cases s with
      | some s =>
        have hnone : W.cell? ((⟨b, o, some s⟩ : Addr).add 0) = none := by unfold World.cell?; split <;> simp [Addr.add]
        rw [hnone] at this; cases this
      | none =>
        refine ⟨rfl, ?_⟩
        cases hh : W.heap[b]? with
        | none => simp [Addr.add, World.cell?, hh] at this
        | some x => exact (Array.getElem?_eq_some_iff.1 hh).1
    obtain ⟨b, o, s⟩ := a
    obtain ⟨rfl, hb⟩ := hsp
    refine .lst (fun i => .int .i64 ((zs.take len).getD i 0)) (fun _ => ⟨hb, rfl⟩) (fun i hi => ?_) (fun i hi => ?_) h3
    · simp only [List.length_map, hl] at hi
      have := hcell i hi
      rw [addr_add] at this
      exact this
    · simp only [List.length_map] at hi
      have e : ((zs.take len).map (AV.int .i64)).getD i .any = .int .i64 ((zs.take len).getD i 0) := by
        simp only [List.getD, List.getElem?_map, List.getElem?_eq_getElem hi]
        rfl
      rw [e]
      exact .int

theorem contract (H : Type) (enc : TypeId × Value → H) (W : World) (base : Nat) (args : Array Value) (ds gs : List (DataW H)) (before : List MemPlace)
    (hval : ∀ (j : Nat) t v, Tryd.f6.params[j]? = some t → args[j]? = some v → Value.okWide Tryd.prog W .any base t v)
    (hW : DataW.Whole enc Tryd.prog Tryd.f6.params.toList Rows.moneyAddsSpec.vars false W args.toList ds gs before) :
    Calls Tryd.prog 6 args W fun e W' => ∃ v, e = .returned v ∧ Rows.moneyAddsSpec.post enc Tryd.prog Tryd.f6 false true false false W args v W' := by
  have hW' := hW
  obtain ⟨p, q, hA, hV, hpq, hz, hn⟩ := hW
  rw [Tryd.params6] at hA hval
  obtain ⟨v0, vs0, d0, ds0, p0, q0, hargs, rfl, rfl, h0, r0⟩ := trodAll_cons hA
  obtain ⟨v1, vs1, d1, ds1, p1, q1, rfl, rfl, rfl, h1, r1⟩ := trodAll_cons r0
  obtain ⟨v2, vs2, d2, ds2, p2, q2, rfl, rfl, rfl, h2, r2⟩ := trodAll_cons r1
  obtain ⟨rfl, rfl, rfl⟩ := trodAll_nil r2
  obtain rfl : args = #[v0, v1, v2] := by cases args; simp_all
  obtain ⟨a, rfl, _, _, _⟩ := open_int Tryd.underlying3 (hval 0 3 v0 rfl rfl) h0
  obtain ⟨b, rfl, _, _, _⟩ := open_int Tryd.underlying3 (hval 1 3 v1 rfl rfl) h1
  obtain ⟨l, hl, hwf⟩ := rep_ints Tryd.underlying26 Tryd.underlying3 (by kernel_rfl) (fun cs hc => by
    have := hval 2 26 v2 rfl rfl
    rw [hc] at this
    simp [Value.okWide, Tryd.underlying26, Cell.okWide, Cell.ok] at this) h2
  refine (Ret.calls_true (law a b l) (vs := #[.int .i64 a, .int .i64 b, v2]) (Reps.cons .int (Reps.cons .int (Reps.cons hl Reps.nil))) glAny).mono ?_
  rintro e W1 ⟨hB, rfl⟩
  exact ⟨_, rfl, post_true (tb := 4) (by kernel_rfl) (fun t ht => by
    rw [Tryd.params6] at ht
    simp only [List.mem_cons, List.not_mem_nil, or_false] at ht
    rcases ht with rfl | rfl | rfl <;> exact ⟨by kernel_rfl, of_decide_eq_true (by kernel_rfl)⟩) rfl (by kernel_rfl) Tryd.underlying4 (fun ds hd => by
      rw [show Tryd.f6.params.size = 3 by kernel_rfl] at hd
      match ds, hd with
      | [x, y, z], _ => rfl) hW' hB⟩
end Go.Proofs.YteljonodbkkckabDoor.Av
namespace Go.Proofs.YteljonodbkkckabDoor.Av
open Go Go.Proofs Go.ChangeShapes Go.WideShapes Go.ChangeAt Go.RowKit Go.Proofs.YteljonodbkkckabDoor
theorem own : ownKnob Tryd.prog.godebug = none := by kernel_rfl
def litV {H : Type} : DataW H → Value
  | .lit (.int k n) => .int k n
  | _ => undef
def tabV {H : Type} : DataW H → Array Value
  | .agg l => (l.map litV).toArray
  | _ => #[]
def setTab (g : Nat) (c : Array Value) (h : Array Obj) : Array Obj := h.modify g fun | .cells _ t frozen => .cells c t frozen | o => o
noncomputable def laidWorld (os : Os) : World :=
  { World.holding Tryd.prog os ⟨#[], #[], []⟩ with heap := setTab 3 (tabV (H := Unit) Rows.laid_math_bits_deBruijn32tab) (setTab 4 (tabV (H := Unit) Rows.laid_math_bits_deBruijn64tab) (setTab 2 (tabV (H := Unit) Rows.laid_internal_strconv_uint64pow10) (World.holding Tryd.prog os ⟨#[], #[], []⟩).heap)) }
theorem laid_met (os : Os) : laidMet Tryd.prog Rows.moneyAddsRow.laid ((laidWorld os).forCall (fun _ _ => 0) ⟨#[], #[.int .i64 0, .int .i64 0, .slice none 0 0], []⟩).memory :=
  laidMet_of_run' 8 (by kernel_rfl) (by kernel_rfl)
theorem reads (os : Os) {H : Type} (enc : TypeId × Value → H) : ∃ places, DataW.whole enc Tryd.prog ((laidWorld os).forCall (fun _ _ => 0) ⟨#[], #[.int .i64 0, .int .i64 0, .slice none 0 0], []⟩).memory Tryd.f6.params.toList Rows.moneyAddsSpec.vars false #[Value.int .i64 0, .int .i64 0, .slice none 0 0].toList 8 = some ([.lit (.int .i64 0), .lit (.int .i64 0), .nil], [], places) :=
  ⟨[], by kernel_rfl⟩
set_option maxRecDepth 100000 in
theorem lifted (os : Os) (started : os.Started) (H : Type) (enc : TypeId × Value → H) (F : Stop.Interp) :
    ReturnsInHanded {} Tryd.checked os 6 .any ((OpenSpec.ofChange Rows.moneyAddsSpec).preRow enc Tryd.prog Tryd.f6 Rows.moneyAddsRow.domain false Rows.moneyAddsRow.laid) (((OpenSpec.ofChange Rows.moneyAddsSpec).at F).post enc Tryd.prog Tryd.f6 false true false false) := by
  obtain ⟨places, hx⟩ := reads os enc
  refine returnsInHanded_of_row (C := Tryd.checked) (s := OpenSpec.ofChange Rows.moneyAddsSpec) own started (by kernel_rfl) Tryd.func6
    (witness_row_at (enc := enc) (C := Tryd.checked) false (laidWorld os) #[.int .i64 0, .int .i64 0, .slice none 0 0] rfl (by kernel_rfl) (by kernel_rfl) (by kernel_rfl)
      (OpenSpec.preRow_of_cond 8 hx (by kernel_rfl) (fun k hk => by cases hk) (by kernel_rfl) (laid_met os))) ?_
  intro W base args ds gs before hval hW _ _ _ hL _ _
  exact contract H enc W base args ds gs before hval hW
theorem said : Rows.MoneyAddsSaid :=
  OpenClaim.holds_of_cond 6 Tryd.f6 rfl rfl rfl rfl rfl rfl rfl ⟨rfl, rfl, rfl, rfl, rfl⟩ rfl rfl rfl rfl rfl (by kernel_rfl) Tryd.func6 (by kernel_rfl)
    (of_decide_eq_true (by kernel_rfl)) (by unfold Func.isWrapper; first | (rw [if_pos (by decide +kernel)]; kernel_rfl) | (rw [if_neg (by decide +kernel)]; exact ⟨rfl, rfl⟩))
    (fun os started H enc _ F => by rw [OpenClaim.pre_eq_preRow]; exact lifted os started H enc F)
theorem plain (f : FuncId) (fn : Func) (hf : Tryd.pinned.checked.prog.funcNamed "tollway/tollwaylaw03.MoneyAdds" = some f) (hfn : Tryd.pinned.checked.prog.funcs[f]? = some fn) :
    false = Tryd.pinned.checked.prog.looks [] ∧ ∀ (j : Nat) t, fn.params[j]? = some t → Tryd.pinned.checked.prog.wantsStandIn t = false := by
  obtain rfl : f = 6 := Option.some.inj ((show Tryd.prog.funcNamed "tollway/tollwaylaw03.MoneyAdds" = some 6 by kernel_rfl).symm.trans hf) |>.symm
  obtain rfl : fn = Tryd.f6 := (Option.some.inj (Tryd.func6.symm.trans hfn)).symm
  refine ⟨by kernel_rfl, fun j t ht => ?_⟩
  rw [Tryd.params6] at ht
  have hm : t = 3 ∨ t = 26 := by
    have := Array.mem_of_getElem? ht
    simp at this
    omega
  rcases hm with rfl | rfl
  · exact (show Tryd.prog.wantsStandIn 3 = false by kernel_rfl)
  · exact (show Tryd.prog.wantsStandIn 26 = false by kernel_rfl)
theorem card : Rows.MoneyAddsCardSaid :=
  Claim7.holds_tied_plain_at .later [] _ _ _ _ said (fun _ h => by cases h) (by kernel_rfl) (fun _ h => by cases h) moneyAdds_row_tie rfl ⟨rfl, rfl⟩ (by kernel_rfl) rfl plain (by kernel_rfl)
end Go.Proofs.YteljonodbkkckabDoor.Av
namespace Go.Proofs.YteljonodbkkckabDoor
theorem money_adds_card : Rows.MoneyAddsCardSaid := Go.Proofs.YteljonodbkkckabDoor.Av.card
end Go.Proofs.YteljonodbkkckabDoor
