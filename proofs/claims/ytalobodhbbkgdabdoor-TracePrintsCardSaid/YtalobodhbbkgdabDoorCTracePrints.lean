/- For any list of facts and any number the law TracePrints returns true, and its arguments read as before. -/
import Derived.Test.YtalobodhbbkgdabDoorPTr2
import Derived.Test.YtalobodhbbkgdabDoorPGl
import Derived.Test.YtalobodhbbkgdabDoorAvZ
import Derived.Test.YtalobodhbbkgdabDoorCards
import Derived.Test.YtalobodhbbkgdabDoorTie
import Derived.Lib.LaidTab
set_option linter.unusedVariables false
set_option linter.unusedSimpArgs false
set_option maxHeartbeats 4000000
set_option maxRecDepth 100000
namespace Go.Proofs.YtalobodhbbkgdabDoor.Av
open Go Go.Proofs Go.ChangeShapes Go.WideShapes Go.ChangeAt Go.RowKit Go.Proofs.YtalobodhbbkgdabDoor
def Tapi_Fact.wf (x : Tapi_Fact) : Prop := (swf x.Kind) ∧ (swf x.Key) ∧ (InR .i64 x.Why)
theorem Tapi_Fact.reads (n : Nat) : Reads Tryd.prog (n + 2) 81 Tapi_Fact.enc Tapi_Fact.wf := fun c h => by
  have h := hasT_struct Tryd.underlying81 h
  obtain ⟨a0, b0, h0, g0, h⟩ := h
  obtain ⟨a1, b1, h1, g1, h⟩ := h
  obtain ⟨a2, b2, h2, g2, h⟩ := h
  have e := h
  obtain ⟨x0, e0, w0⟩ := ((reads_str Tryd.underlying9) : Reads Tryd.prog (n + 1) 9 (fun s : List UInt8 => [.str s]) swf) _ g0
  obtain ⟨x1, e1, w1⟩ := ((reads_str Tryd.underlying9) : Reads Tryd.prog (n + 1) 9 (fun s : List UInt8 => [.str s]) swf) _ g1
  obtain ⟨x2, e2, w2⟩ := ((reads_int Tryd.underlying3) : Reads Tryd.prog (n + 1) 3 (fun z : Int => [.int .i64 z]) (InR .i64)) _ g2
  simp only [HasFs] at e
  subst e e0 e1 e2
  subst h2
  subst h1
  subst h0
  exact ⟨⟨x0, x1, x2⟩, rfl, w0, w1, w2⟩
theorem tollwaylaw52_TracePrints_contract (H : Type) (enc : TypeId × Value → H) (W : World) (base : Nat) (args : Array Value) (ds gs : List (DataW H)) (before : List MemPlace)
    (hval : ∀ (j : Nat) t v, Tryd.f5.params[j]? = some t → args[j]? = some v → Value.okWide Tryd.prog W .any base t v)
    (hW : DataW.Whole enc Tryd.prog Tryd.f5.params.toList Rows.tracePrintsSpec.vars false W args.toList ds gs before) (hL : laidMet Tryd.prog Rows.tracePrintsRow.laid W) :
    Calls Tryd.prog 5 args W fun e W2 => ∃ v, e = .returned v ∧ Rows.tracePrintsSpec.post enc Tryd.prog Tryd.f5 false true false false W args v W2 := by
  have hW2 := hW
  obtain ⟨p, q, hA, hV, hpq, hz, hn⟩ := hW
  rw [Tryd.params5] at hA hval
  obtain ⟨v0, vs0, d0, ds0, p0, q0, hargs, rfl, rfl, h0, r0⟩ := trodAll_cons hA
  obtain ⟨v1, vs1, d1, ds1, p1, q1, rfl, rfl, rfl, h1, r1⟩ := trodAll_cons r0
  obtain ⟨rfl, rfl, rfl⟩ := trodAll_nil r1
  obtain rfl : args = #[v0, v1] := by cases args; simp_all
  obtain ⟨x0, hr0, hw0⟩ := arg_one (f := (fun l : List Tapi_Fact => AV.lst (fl Tapi_Fact.enc l) l.length)) ((reads_list Tryd.underlying69 (Tapi_Fact.reads _)) : Reads Tryd.prog 3 69 (lstf Tapi_Fact.enc) (lwf Tapi_Fact.wf)) (fun _ => rfl) (by kernel_rfl) (fun cs hc => by
    have := hval 0 69 v0 rfl rfl
    rw [hc] at this
    simp [Value.okWide, Tryd.underlying69, Cell.okWide, Cell.ok] at this) h0
  obtain ⟨x1, hr1, hw1⟩ := arg_one (f := AV.int .i64) ((reads_int Tryd.underlying3) : Reads Tryd.prog 1 3 (fun z : Int => [.int .i64 z]) (InR .i64)) (fun _ => rfl) (by kernel_rfl) (fun cs hc => by
    have := hval 1 3 v1 rfl rfl
    rw [hc] at this
    simp [Value.okWide, Tryd.underlying3, Cell.okWide, Cell.ok] at this) h1
  refine (Ret.calls_true (tollwaylaw52_TracePrints_ret x0 x1 true (tollwaylaw52_TracePrints_true x0 x1 hw0 hw1)) (vs := #[v0, v1]) (Reps.cons hr0 (Reps.cons hr1 Reps.nil)) (gl_GT hL)).mono ?_
  rintro e W1 ⟨hB, rfl⟩
  exact ⟨_, rfl, post_true (tb := 4) (by kernel_rfl) (fun t ht => by
    rw [Tryd.params5] at ht
    simp only [List.mem_cons, List.not_mem_nil, or_false] at ht
    rcases ht with rfl | rfl <;> exact ⟨by kernel_rfl, of_decide_eq_true (by kernel_rfl)⟩) rfl (by kernel_rfl) Tryd.underlying4 (fun ds hd => by
      rw [show Tryd.f5.params.size = 2 by kernel_rfl] at hd
      match ds, hd with
      | [y0, y1], _ => rfl) hW2 hB⟩
theorem tollwaylaw52_TracePrints_own : ownKnob Tryd.prog.godebug = none := by kernel_rfl
noncomputable def tollwaylaw52_TracePrints_world (os : Os) : World := { World.holding Tryd.prog os ⟨#[], #[], []⟩ with heap := setTab 1 (tabV (H := Unit) Rows.laid_math_bits_deBruijn32tab) (setTab 2 (tabV (H := Unit) Rows.laid_math_bits_deBruijn64tab) (setTab 0 (tabV (H := Unit) Rows.laid_internal_strconv_uint64pow10) ((World.holding Tryd.prog os ⟨#[], #[], []⟩).heap))) }
def tollwaylaw52_TracePrints_zero : Array Value := #[Value.slice none 0 0, Value.int .i64 0]
theorem tollwaylaw52_TracePrints_met (os : Os) : laidMet Tryd.prog Rows.tracePrintsRow.laid ((tollwaylaw52_TracePrints_world os).forCall (fun _ _ => 0) ⟨#[], tollwaylaw52_TracePrints_zero, []⟩).memory :=
  laidMet_of_run' 8 (by kernel_rfl) (by kernel_rfl)
theorem tollwaylaw52_TracePrints_reads (os : Os) {H : Type} (enc : TypeId × Value → H) : ∃ places, DataW.whole enc Tryd.prog ((tollwaylaw52_TracePrints_world os).forCall (fun _ _ => 0) ⟨#[], tollwaylaw52_TracePrints_zero, []⟩).memory Tryd.f5.params.toList Rows.tracePrintsSpec.vars false (tollwaylaw52_TracePrints_zero).toList 5 = some ([.nil, .lit (.int .i64 0)], [], places) :=
  ⟨[], by kernel_rfl⟩
set_option maxRecDepth 100000 in
theorem tollwaylaw52_TracePrints_lifted (os : Os) (started : os.Started) (H : Type) (enc : TypeId × Value → H) (F : Stop.Interp) :
    ReturnsInHanded {} Tryd.checked os 5 .any ((OpenSpec.ofChange Rows.tracePrintsSpec).preRow enc Tryd.prog Tryd.f5 Rows.tracePrintsRow.domain false Rows.tracePrintsRow.laid) (((OpenSpec.ofChange Rows.tracePrintsSpec).at F).post enc Tryd.prog Tryd.f5 false true false false) := by
  obtain ⟨places, hx⟩ := tollwaylaw52_TracePrints_reads os enc
  refine returnsInHanded_of_row (C := Tryd.checked) (s := OpenSpec.ofChange Rows.tracePrintsSpec) tollwaylaw52_TracePrints_own started (by kernel_rfl) Tryd.func5
    (witness_row_at (enc := enc) (C := Tryd.checked) false (tollwaylaw52_TracePrints_world os) tollwaylaw52_TracePrints_zero rfl (by kernel_rfl) (by kernel_rfl) (by kernel_rfl)
      (OpenSpec.preRow_of_cond 5 hx (by kernel_rfl) (fun k hk => by cases hk) (by kernel_rfl) (tollwaylaw52_TracePrints_met os))) ?_
  intro W base args ds gs before hval hW _ _ _ hL _ _
  exact tollwaylaw52_TracePrints_contract H enc W base args ds gs before hval hW hL
theorem tollwaylaw52_TracePrints_said : Rows.TracePrintsSaid :=
  OpenClaim.holds_of_cond 5 Tryd.f5 rfl rfl rfl rfl rfl rfl rfl ⟨rfl, rfl, rfl, rfl, rfl⟩ rfl rfl rfl rfl rfl (by kernel_rfl) Tryd.func5 (by kernel_rfl)
    (of_decide_eq_true (by kernel_rfl)) (by unfold Func.isWrapper; first | (rw [if_pos (by decide +kernel)]; kernel_rfl) | (rw [if_neg (by decide +kernel)]; exact ⟨rfl, rfl⟩))
    (fun os started H enc _ F => by rw [OpenClaim.pre_eq_preRow]; exact tollwaylaw52_TracePrints_lifted os started H enc F)
theorem tollwaylaw52_TracePrints_plain (f : FuncId) (fn : Func) (hf : Tryd.pinned.checked.prog.funcNamed "tollway/tollwaylaw52.TracePrints" = some f) (hfn : Tryd.pinned.checked.prog.funcs[f]? = some fn) :
    false = Tryd.pinned.checked.prog.looks [] ∧ ∀ (j : Nat) t, fn.params[j]? = some t → Tryd.pinned.checked.prog.wantsStandIn t = false := by
  obtain rfl : f = 5 := Option.some.inj ((show Tryd.prog.funcNamed "tollway/tollwaylaw52.TracePrints" = some 5 by kernel_rfl).symm.trans hf) |>.symm
  obtain rfl : fn = Tryd.f5 := (Option.some.inj (Tryd.func5.symm.trans hfn)).symm
  refine ⟨by kernel_rfl, fun j t ht => ?_⟩
  rw [Tryd.params5] at ht
  have hm : t = 3 ∨ t = 69 := by
    have := Array.mem_of_getElem? ht
    simp only [List.mem_toArray, List.mem_cons, List.not_mem_nil, or_false] at this
    rcases this with rfl | rfl <;> simp
  rcases hm with rfl | rfl
  · exact (show Tryd.prog.wantsStandIn 3 = false by kernel_rfl)
  · exact (show Tryd.prog.wantsStandIn 69 = false by kernel_rfl)
theorem tollwaylaw52_TracePrints_card : Rows.TracePrintsCardSaid :=
  Claim7.holds_tied_plain_at .later [] _ _ _ _ tollwaylaw52_TracePrints_said (fun _ h => by cases h) (by kernel_rfl) (fun _ h => by cases h) tracePrints_row_tie rfl ⟨rfl, rfl⟩ (by kernel_rfl) rfl tollwaylaw52_TracePrints_plain (by kernel_rfl)
end Go.Proofs.YtalobodhbbkgdabDoor.Av
namespace Go.Proofs.YtalobodhbbkgdabDoor
theorem trace_prints_card : Rows.TracePrintsCardSaid := Go.Proofs.YtalobodhbbkgdabDoor.Av.tollwaylaw52_TracePrints_card
end Go.Proofs.YtalobodhbbkgdabDoor
