/- For any agency, serial number and place the law TagMisread returns true, and its arguments read as before. -/
import Derived.Test.YtalobodhbbkgdaaDoorPT8
import Derived.Test.YtalobodhbbkgdaaDoorPGl
import Derived.Test.YtalobodhbbkgdaaDoorAvZ
import Derived.Test.YtalobodhbbkgdaaDoorCards
import Derived.Test.YtalobodhbbkgdaaDoorTie
import Derived.Lib.LaidTab
set_option linter.unusedVariables false
set_option linter.unusedSimpArgs false
set_option maxHeartbeats 4000000
namespace Go.Proofs.YtalobodhbbkgdaaDoor.Av
open Go Go.Proofs Go.ChangeShapes Go.WideShapes Go.ChangeAt Go.RowKit Go.Proofs.YtalobodhbbkgdaaDoor
theorem tollwaylaw11_TagMisread_contract (H : Type) (enc : TypeId × Value → H) (W : World) (base : Nat) (args : Array Value) (ds gs : List (DataW H)) (before : List MemPlace)
    (hval : ∀ (j : Nat) t v, Tryd.f7.params[j]? = some t → args[j]? = some v → Value.okWide Tryd.prog W .any base t v)
    (hW : DataW.Whole enc Tryd.prog Tryd.f7.params.toList Rows.tagMisreadSpec.vars false W args.toList ds gs before) (hL : laidMet Tryd.prog Rows.tagMisreadRow.laid W) :
    Calls Tryd.prog 7 args W fun e W2 => ∃ v, e = .returned v ∧ Rows.tagMisreadSpec.post enc Tryd.prog Tryd.f7 false true false false W args v W2 := by
  have hW2 := hW
  obtain ⟨p, q, hA, hV, hpq, hz, hn⟩ := hW
  rw [Tryd.params7] at hA hval
  obtain ⟨v0, vs0, d0, ds0, p0, q0, hargs, rfl, rfl, h0, r0⟩ := trodAll_cons hA
  obtain ⟨v1, vs1, d1, ds1, p1, q1, rfl, rfl, rfl, h1, r1⟩ := trodAll_cons r0
  obtain ⟨v2, vs2, d2, ds2, p2, q2, rfl, rfl, rfl, h2, r2⟩ := trodAll_cons r1
  obtain ⟨v3, vs3, d3, ds3, p3, q3, rfl, rfl, rfl, h3, r3⟩ := trodAll_cons r2
  obtain ⟨rfl, rfl, rfl⟩ := trodAll_nil r3
  obtain rfl : args = #[v0, v1, v2, v3] := by cases args; simp_all
  obtain ⟨x0, hr0, hw0⟩ := arg_one (f := AV.int .u16) ((reads_int Tryd.underlying33) : Reads Tryd.prog 1 33 (fun z : Int => [.int .u16 z]) (InR .u16)) (fun _ => rfl) (by kernel_rfl) (fun cs hc => by
    have := hval 0 33 v0 rfl rfl
    rw [hc] at this
    simp [Value.okWide, Tryd.underlying33, Cell.okWide, Cell.ok] at this) h0
  obtain ⟨x1, hr1, hw1⟩ := arg_one (f := AV.int .u32) ((reads_int Tryd.underlying40) : Reads Tryd.prog 1 40 (fun z : Int => [.int .u32 z]) (InR .u32)) (fun _ => rfl) (by kernel_rfl) (fun cs hc => by
    have := hval 1 40 v1 rfl rfl
    rw [hc] at this
    simp [Value.okWide, Tryd.underlying40, Cell.okWide, Cell.ok] at this) h1
  obtain ⟨x2, hr2, hw2⟩ := arg_one (f := AV.int .u8) ((reads_int Tryd.underlying5) : Reads Tryd.prog 1 5 (fun z : Int => [.int .u8 z]) (InR .u8)) (fun _ => rfl) (by kernel_rfl) (fun cs hc => by
    have := hval 2 5 v2 rfl rfl
    rw [hc] at this
    simp [Value.okWide, Tryd.underlying5, Cell.okWide, Cell.ok] at this) h2
  obtain ⟨x3, hr3, hw3⟩ := arg_one (f := AV.int .u8) ((reads_int Tryd.underlying5) : Reads Tryd.prog 1 5 (fun z : Int => [.int .u8 z]) (InR .u8)) (fun _ => rfl) (by kernel_rfl) (fun cs hc => by
    have := hval 3 5 v3 rfl rfl
    rw [hc] at this
    simp [Value.okWide, Tryd.underlying5, Cell.okWide, Cell.ok] at this) h3
  refine (Ret.calls_true (tollwaylaw11_TagMisread_ret x0 x1 x2 x3 true (tollwaylaw11_TagMisread_true x0 x1 x2 x3 hw0 hw1 hw2 hw3)) (vs := #[v0, v1, v2, v3]) (Reps.cons hr0 (Reps.cons hr1 (Reps.cons hr2 (Reps.cons hr3 Reps.nil)))) (gl_GT hL)).mono ?_
  rintro e W1 ⟨hB, rfl⟩
  exact ⟨_, rfl, post_true (tb := 4) (by kernel_rfl) (fun t ht => by
    rw [Tryd.params7] at ht
    simp only [List.mem_cons, List.not_mem_nil, or_false] at ht
    rcases ht with rfl | rfl | rfl | rfl <;> exact ⟨by kernel_rfl, of_decide_eq_true (by kernel_rfl)⟩) rfl (by kernel_rfl) Tryd.underlying4 (fun ds hd => by
      rw [show Tryd.f7.params.size = 4 by kernel_rfl] at hd
      match ds, hd with
      | [y0, y1, y2, y3], _ => rfl) hW2 hB⟩
theorem tollwaylaw11_TagMisread_own : ownKnob Tryd.prog.godebug = none := by kernel_rfl
noncomputable def tollwaylaw11_TagMisread_world (os : Os) : World := { World.holding Tryd.prog os ⟨#[], #[], []⟩ with heap := setTab 2 (tabV (H := Unit) Rows.laid_math_bits_deBruijn32tab) (setTab 3 (tabV (H := Unit) Rows.laid_math_bits_deBruijn64tab) (setTab 1 (tabV (H := Unit) Rows.laid_internal_strconv_uint64pow10) ((World.holding Tryd.prog os ⟨#[], #[], []⟩).heap))) }
def tollwaylaw11_TagMisread_zero : Array Value := #[Value.int .u16 0, Value.int .u32 0, Value.int .u8 0, Value.int .u8 0]
theorem tollwaylaw11_TagMisread_met (os : Os) : laidMet Tryd.prog Rows.tagMisreadRow.laid ((tollwaylaw11_TagMisread_world os).forCall (fun _ _ => 0) ⟨#[], tollwaylaw11_TagMisread_zero, []⟩).memory :=
  laidMet_of_run' 8 (by kernel_rfl) (by kernel_rfl)
theorem tollwaylaw11_TagMisread_reads (os : Os) {H : Type} (enc : TypeId × Value → H) : ∃ places, DataW.whole enc Tryd.prog ((tollwaylaw11_TagMisread_world os).forCall (fun _ _ => 0) ⟨#[], tollwaylaw11_TagMisread_zero, []⟩).memory Tryd.f7.params.toList Rows.tagMisreadSpec.vars false (tollwaylaw11_TagMisread_zero).toList 3 = some ([.lit (.int .u16 0), .lit (.int .u32 0), .lit (.int .u8 0), .lit (.int .u8 0)], [], places) :=
  ⟨[], by kernel_rfl⟩
set_option maxRecDepth 100000 in
theorem tollwaylaw11_TagMisread_lifted (os : Os) (started : os.Started) (H : Type) (enc : TypeId × Value → H) (F : Stop.Interp) :
    ReturnsInHanded {} Tryd.checked os 7 .any ((OpenSpec.ofChange Rows.tagMisreadSpec).preRow enc Tryd.prog Tryd.f7 Rows.tagMisreadRow.domain false Rows.tagMisreadRow.laid) (((OpenSpec.ofChange Rows.tagMisreadSpec).at F).post enc Tryd.prog Tryd.f7 false true false false) := by
  obtain ⟨places, hx⟩ := tollwaylaw11_TagMisread_reads os enc
  refine returnsInHanded_of_row (C := Tryd.checked) (s := OpenSpec.ofChange Rows.tagMisreadSpec) tollwaylaw11_TagMisread_own started (by kernel_rfl) Tryd.func7
    (witness_row_at (enc := enc) (C := Tryd.checked) false (tollwaylaw11_TagMisread_world os) tollwaylaw11_TagMisread_zero rfl (by kernel_rfl) (by kernel_rfl) (by kernel_rfl)
      (OpenSpec.preRow_of_cond 3 hx (by kernel_rfl) (fun k hk => by cases hk) (by kernel_rfl) (tollwaylaw11_TagMisread_met os))) ?_
  intro W base args ds gs before hval hW _ _ _ hL _ _
  exact tollwaylaw11_TagMisread_contract H enc W base args ds gs before hval hW hL
theorem tollwaylaw11_TagMisread_said : Rows.TagMisreadSaid :=
  OpenClaim.holds_of_cond 7 Tryd.f7 rfl rfl rfl rfl rfl rfl rfl ⟨rfl, rfl, rfl, rfl, rfl⟩ rfl rfl rfl rfl rfl (by kernel_rfl) Tryd.func7 (by kernel_rfl)
    (of_decide_eq_true (by kernel_rfl)) (by unfold Func.isWrapper; first | (rw [if_pos (by decide +kernel)]; kernel_rfl) | (rw [if_neg (by decide +kernel)]; exact ⟨rfl, rfl⟩))
    (fun os started H enc _ F => by rw [OpenClaim.pre_eq_preRow]; exact tollwaylaw11_TagMisread_lifted os started H enc F)
theorem tollwaylaw11_TagMisread_plain (f : FuncId) (fn : Func) (hf : Tryd.pinned.checked.prog.funcNamed "tollway/tollwaylaw11.TagMisread" = some f) (hfn : Tryd.pinned.checked.prog.funcs[f]? = some fn) :
    false = Tryd.pinned.checked.prog.looks [] ∧ ∀ (j : Nat) t, fn.params[j]? = some t → Tryd.pinned.checked.prog.wantsStandIn t = false := by
  obtain rfl : f = 7 := Option.some.inj ((show Tryd.prog.funcNamed "tollway/tollwaylaw11.TagMisread" = some 7 by kernel_rfl).symm.trans hf) |>.symm
  obtain rfl : fn = Tryd.f7 := (Option.some.inj (Tryd.func7.symm.trans hfn)).symm
  refine ⟨by kernel_rfl, fun j t ht => ?_⟩
  rw [Tryd.params7] at ht
  have hm : t = 5 ∨ t = 33 ∨ t = 40 := by
    have := Array.mem_of_getElem? ht
    simp only [List.mem_toArray, List.mem_cons, List.not_mem_nil, or_false] at this
    rcases this with rfl | rfl | rfl | rfl <;> simp
  rcases hm with rfl | rfl | rfl
  · exact (show Tryd.prog.wantsStandIn 5 = false by kernel_rfl)
  · exact (show Tryd.prog.wantsStandIn 33 = false by kernel_rfl)
  · exact (show Tryd.prog.wantsStandIn 40 = false by kernel_rfl)
theorem tollwaylaw11_TagMisread_card : Rows.TagMisreadCardSaid :=
  Claim7.holds_tied_plain_at .later [] _ _ _ _ tollwaylaw11_TagMisread_said (fun _ h => by cases h) (by kernel_rfl) (fun _ h => by cases h) tagMisread_row_tie rfl ⟨rfl, rfl⟩ (by kernel_rfl) rfl tollwaylaw11_TagMisread_plain (by kernel_rfl)
end Go.Proofs.YtalobodhbbkgdaaDoor.Av
namespace Go.Proofs.YtalobodhbbkgdaaDoor
theorem tag_misread_card : Rows.TagMisreadCardSaid := Go.Proofs.YtalobodhbbkgdaaDoor.Av.tollwaylaw11_TagMisread_card
end Go.Proofs.YtalobodhbbkgdaaDoor
