/- For any list of states the law TagHistory returns true, and its arguments read as before. -/
import Derived.Test.YtalobodhbbkgdaaDoorPT7
import Derived.Test.YtalobodhbbkgdaaDoorPGl
import Derived.Test.YtalobodhbbkgdaaDoorAvZ
import Derived.Test.YtalobodhbbkgdaaDoorCards
import Derived.Test.YtalobodhbbkgdaaDoorTie
import Derived.Lib.LaidTab
set_option linter.unusedVariables false
set_option linter.unusedSimpArgs false
set_option maxHeartbeats 4000000
namespace Go.Proofs.YtalobodhbbkgdaaDoor.Av
open Go Go.Proofs Go.ChangeShapes Go.WideShapes Go.ChangeAt Go.RowKit Go.Proofs.YtalobodhbbkgdaaDoor
def Tapi_TagState.wf (x : Tapi_TagState) : Prop := (swf x.Tag) ∧ (InR .i64 x.From) ∧ (InR .i64 x.State)
theorem Tapi_TagState.reads (n : Nat) : Reads Tryd.prog (n + 2) 36 Tapi_TagState.enc Tapi_TagState.wf := fun c h => by
  have h := hasT_struct Tryd.underlying36 h
  obtain ⟨a0, b0, h0, g0, h⟩ := h
  obtain ⟨a1, b1, h1, g1, h⟩ := h
  obtain ⟨a2, b2, h2, g2, h⟩ := h
  have e := h
  obtain ⟨x0, e0, w0⟩ := ((reads_str Tryd.underlying9) : Reads Tryd.prog (n + 1) 9 (fun s : List UInt8 => [.str s]) swf) _ g0
  obtain ⟨x1, e1, w1⟩ := ((reads_int Tryd.underlying3) : Reads Tryd.prog (n + 1) 3 (fun z : Int => [.int .i64 z]) (InR .i64)) _ g1
  obtain ⟨x2, e2, w2⟩ := ((reads_int Tryd.underlying3) : Reads Tryd.prog (n + 1) 3 (fun z : Int => [.int .i64 z]) (InR .i64)) _ g2
  simp only [HasFs] at e
  subst e e0 e1 e2
  subst h2
  subst h1
  subst h0
  exact ⟨⟨x0, x1, x2⟩, rfl, w0, w1, w2⟩
theorem tollwaylaw11_TagHistory_contract (H : Type) (enc : TypeId × Value → H) (W : World) (base : Nat) (args : Array Value) (ds gs : List (DataW H)) (before : List MemPlace)
    (hval : ∀ (j : Nat) t v, Tryd.f8.params[j]? = some t → args[j]? = some v → Value.okWide Tryd.prog W .any base t v)
    (hW : DataW.Whole enc Tryd.prog Tryd.f8.params.toList Rows.tagHistorySpec.vars false W args.toList ds gs before) (hL : laidMet Tryd.prog Rows.tagHistoryRow.laid W) :
    Calls Tryd.prog 8 args W fun e W2 => ∃ v, e = .returned v ∧ Rows.tagHistorySpec.post enc Tryd.prog Tryd.f8 false true false false W args v W2 := by
  have hW2 := hW
  obtain ⟨p, q, hA, hV, hpq, hz, hn⟩ := hW
  rw [Tryd.params8] at hA hval
  obtain ⟨v0, vs0, d0, ds0, p0, q0, hargs, rfl, rfl, h0, r0⟩ := trodAll_cons hA
  obtain ⟨v1, vs1, d1, ds1, p1, q1, rfl, rfl, rfl, h1, r1⟩ := trodAll_cons r0
  obtain ⟨rfl, rfl, rfl⟩ := trodAll_nil r1
  obtain rfl : args = #[v0, v1] := by cases args; simp_all
  obtain ⟨x0, hr0, hw0⟩ := arg_one (f := (fun l : List Tapi_TagState => AV.lst (fl Tapi_TagState.enc l) l.length)) ((reads_list Tryd.underlying29 (Tapi_TagState.reads _)) : Reads Tryd.prog 3 29 (lstf Tapi_TagState.enc) (lwf Tapi_TagState.wf)) (fun _ => rfl) (by kernel_rfl) (fun cs hc => by
    have := hval 0 29 v0 rfl rfl
    rw [hc] at this
    simp [Value.okWide, Tryd.underlying29, Cell.okWide, Cell.ok] at this) h0
  obtain ⟨x1, hr1, hw1⟩ := arg_one (f := AV.int .u8) ((reads_int Tryd.underlying5) : Reads Tryd.prog 1 5 (fun z : Int => [.int .u8 z]) (InR .u8)) (fun _ => rfl) (by kernel_rfl) (fun cs hc => by
    have := hval 1 5 v1 rfl rfl
    rw [hc] at this
    simp [Value.okWide, Tryd.underlying5, Cell.okWide, Cell.ok] at this) h1
  refine (Ret.calls_true (tollwaylaw11_TagHistory_ret x0 x1 true (tollwaylaw11_TagHistory_true x0 x1 hw0 hw1)) (vs := #[v0, v1]) (Reps.cons hr0 (Reps.cons hr1 Reps.nil)) (gl_GT hL)).mono ?_
  rintro e W1 ⟨hB, rfl⟩
  exact ⟨_, rfl, post_true (tb := 4) (by kernel_rfl) (fun t ht => by
    rw [Tryd.params8] at ht
    simp only [List.mem_cons, List.not_mem_nil, or_false] at ht
    rcases ht with rfl | rfl <;> exact ⟨by kernel_rfl, of_decide_eq_true (by kernel_rfl)⟩) rfl (by kernel_rfl) Tryd.underlying4 (fun ds hd => by
      rw [show Tryd.f8.params.size = 2 by kernel_rfl] at hd
      match ds, hd with
      | [y0, y1], _ => rfl) hW2 hB⟩
theorem tollwaylaw11_TagHistory_own : ownKnob Tryd.prog.godebug = none := by kernel_rfl
noncomputable def tollwaylaw11_TagHistory_world (os : Os) : World := { World.holding Tryd.prog os ⟨#[], #[], []⟩ with heap := setTab 2 (tabV (H := Unit) Rows.laid_math_bits_deBruijn32tab) (setTab 3 (tabV (H := Unit) Rows.laid_math_bits_deBruijn64tab) (setTab 1 (tabV (H := Unit) Rows.laid_internal_strconv_uint64pow10) ((World.holding Tryd.prog os ⟨#[], #[], []⟩).heap))) }
def tollwaylaw11_TagHistory_zero : Array Value := #[Value.slice none 0 0, Value.int .u8 0]
theorem tollwaylaw11_TagHistory_met (os : Os) : laidMet Tryd.prog Rows.tagHistoryRow.laid ((tollwaylaw11_TagHistory_world os).forCall (fun _ _ => 0) ⟨#[], tollwaylaw11_TagHistory_zero, []⟩).memory :=
  laidMet_of_run' 8 (by kernel_rfl) (by kernel_rfl)
theorem tollwaylaw11_TagHistory_reads (os : Os) {H : Type} (enc : TypeId × Value → H) : ∃ places, DataW.whole enc Tryd.prog ((tollwaylaw11_TagHistory_world os).forCall (fun _ _ => 0) ⟨#[], tollwaylaw11_TagHistory_zero, []⟩).memory Tryd.f8.params.toList Rows.tagHistorySpec.vars false (tollwaylaw11_TagHistory_zero).toList 5 = some ([.nil, .lit (.int .u8 0)], [], places) :=
  ⟨[], by kernel_rfl⟩
set_option maxRecDepth 100000 in
theorem tollwaylaw11_TagHistory_lifted (os : Os) (started : os.Started) (H : Type) (enc : TypeId × Value → H) (F : Stop.Interp) :
    ReturnsInHanded {} Tryd.checked os 8 .any ((OpenSpec.ofChange Rows.tagHistorySpec).preRow enc Tryd.prog Tryd.f8 Rows.tagHistoryRow.domain false Rows.tagHistoryRow.laid) (((OpenSpec.ofChange Rows.tagHistorySpec).at F).post enc Tryd.prog Tryd.f8 false true false false) := by
  obtain ⟨places, hx⟩ := tollwaylaw11_TagHistory_reads os enc
  refine returnsInHanded_of_row (C := Tryd.checked) (s := OpenSpec.ofChange Rows.tagHistorySpec) tollwaylaw11_TagHistory_own started (by kernel_rfl) Tryd.func8
    (witness_row_at (enc := enc) (C := Tryd.checked) false (tollwaylaw11_TagHistory_world os) tollwaylaw11_TagHistory_zero rfl (by kernel_rfl) (by kernel_rfl) (by kernel_rfl)
      (OpenSpec.preRow_of_cond 5 hx (by kernel_rfl) (fun k hk => by cases hk) (by kernel_rfl) (tollwaylaw11_TagHistory_met os))) ?_
  intro W base args ds gs before hval hW _ _ _ hL _ _
  exact tollwaylaw11_TagHistory_contract H enc W base args ds gs before hval hW hL
theorem tollwaylaw11_TagHistory_said : Rows.TagHistorySaid :=
  OpenClaim.holds_of_cond 8 Tryd.f8 rfl rfl rfl rfl rfl rfl rfl ⟨rfl, rfl, rfl, rfl, rfl⟩ rfl rfl rfl rfl rfl (by kernel_rfl) Tryd.func8 (by kernel_rfl)
    (of_decide_eq_true (by kernel_rfl)) (by unfold Func.isWrapper; first | (rw [if_pos (by decide +kernel)]; kernel_rfl) | (rw [if_neg (by decide +kernel)]; exact ⟨rfl, rfl⟩))
    (fun os started H enc _ F => by rw [OpenClaim.pre_eq_preRow]; exact tollwaylaw11_TagHistory_lifted os started H enc F)
theorem tollwaylaw11_TagHistory_plain (f : FuncId) (fn : Func) (hf : Tryd.pinned.checked.prog.funcNamed "tollway/tollwaylaw11.TagHistory" = some f) (hfn : Tryd.pinned.checked.prog.funcs[f]? = some fn) :
    false = Tryd.pinned.checked.prog.looks [] ∧ ∀ (j : Nat) t, fn.params[j]? = some t → Tryd.pinned.checked.prog.wantsStandIn t = false := by
  obtain rfl : f = 8 := Option.some.inj ((show Tryd.prog.funcNamed "tollway/tollwaylaw11.TagHistory" = some 8 by kernel_rfl).symm.trans hf) |>.symm
  obtain rfl : fn = Tryd.f8 := (Option.some.inj (Tryd.func8.symm.trans hfn)).symm
  refine ⟨by kernel_rfl, fun j t ht => ?_⟩
  rw [Tryd.params8] at ht
  have hm : t = 5 ∨ t = 29 := by
    have := Array.mem_of_getElem? ht
    simp only [List.mem_toArray, List.mem_cons, List.not_mem_nil, or_false] at this
    rcases this with rfl | rfl <;> simp
  rcases hm with rfl | rfl
  · exact (show Tryd.prog.wantsStandIn 5 = false by kernel_rfl)
  · exact (show Tryd.prog.wantsStandIn 29 = false by kernel_rfl)
theorem tollwaylaw11_TagHistory_card : Rows.TagHistoryCardSaid :=
  Claim7.holds_tied_plain_at .later [] _ _ _ _ tollwaylaw11_TagHistory_said (fun _ h => by cases h) (by kernel_rfl) (fun _ h => by cases h) tagHistory_row_tie rfl ⟨rfl, rfl⟩ (by kernel_rfl) rfl tollwaylaw11_TagHistory_plain (by kernel_rfl)
end Go.Proofs.YtalobodhbbkgdaaDoor.Av
namespace Go.Proofs.YtalobodhbbkgdaaDoor
theorem tag_history_card : Rows.TagHistoryCardSaid := Go.Proofs.YtalobodhbbkgdaaDoor.Av.tollwaylaw11_TagHistory_card
end Go.Proofs.YtalobodhbbkgdaaDoor
