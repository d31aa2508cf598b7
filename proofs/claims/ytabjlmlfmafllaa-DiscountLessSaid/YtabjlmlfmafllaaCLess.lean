/- For any discounts and any numbers the law DiscountLess returns true, and its arguments read as before. -/
import Derived.Test.YtabjlmlfmafllaaAvZ
import Derived.Test.YtabjlmlfmafllaaPLL
import Derived.Test.YtabjlmlfmafllaaRDs
import Derived.Test.YtabjlmlfmafllaaRows
set_option linter.unusedVariables false
set_option linter.unusedSimpArgs false
set_option maxHeartbeats 4000000
set_option maxRecDepth 100000
namespace Go.Proofs.Ytabjlmlfmafllaa.Av
open Go Go.Proofs Go.ChangeShapes Go.WideShapes Go.ChangeAt Go.RowKit Go.Proofs.Ytabjlmlfmafllaa
theorem tollwaylaw24_DiscountLess_contract (H : Type) (enc : TypeId × Value → H) (W : World) (base : Nat) (args : Array Value) (ds gs : List (DataW H)) (before : List MemPlace)
    (hval : ∀ (j : Nat) t v, Try.f6.params[j]? = some t → args[j]? = some v → Value.okWide Try.prog W .any base t v)
    (hW : DataW.Whole enc Try.prog Try.f6.params.toList Rows.discountLessSpec.vars false W args.toList ds gs before) :
    Calls Try.prog 6 args W fun e W2 => ∃ v, e = .returned v ∧ Rows.discountLessSpec.post enc Try.prog Try.f6 false true false false W args v W2 := by
  have hW2 := hW
  obtain ⟨p, q, hA, hV, hpq, hz, hn⟩ := hW
  rw [Try.params6] at hA hval
  obtain ⟨v0, vs0, d0, ds0, p0, q0, hargs, rfl, rfl, h0, r0⟩ := trodAll_cons hA
  obtain ⟨v1, vs1, d1, ds1, p1, q1, rfl, rfl, rfl, h1, r1⟩ := trodAll_cons r0
  obtain ⟨v2, vs2, d2, ds2, p2, q2, rfl, rfl, rfl, h2, r2⟩ := trodAll_cons r1
  obtain ⟨rfl, rfl, rfl⟩ := trodAll_nil r2
  obtain rfl : args = #[v0, v1, v2] := by cases args; simp_all
  obtain ⟨x0, hr0, hw0⟩ := arg_one (f := (fun l : List Tapi_Discount => AV.lst (fl Tapi_Discount.enc l) l.length)) ((reads_list Try.underlying22 (Tapi_Discount.reads _)) : Reads Try.prog 4 22 (lstf Tapi_Discount.enc) (lwf Tapi_Discount.wf)) (fun _ => rfl) (by kernel_rfl) (fun cs hc => by
    have := hval 0 22 v0 rfl rfl
    rw [hc] at this
    simp [Value.okWide, Try.underlying22, Cell.okWide, Cell.ok] at this) h0
  obtain ⟨x1, hr1, hw1⟩ := arg_one (f := AV.int .u8) ((reads_int Try.underlying5) : Reads Try.prog 1 5 (fun z : Int => [.int .u8 z]) (InR .u8)) (fun _ => rfl) (by kernel_rfl) (fun cs hc => by
    have := hval 1 5 v1 rfl rfl
    rw [hc] at this
    simp [Value.okWide, Try.underlying5, Cell.okWide, Cell.ok] at this) h1
  obtain ⟨x2, hr2, hw2⟩ := arg_one (f := AV.int .i64) ((reads_int Try.underlying3) : Reads Try.prog 1 3 (fun z : Int => [.int .i64 z]) (InR .i64)) (fun _ => rfl) (by kernel_rfl) (fun cs hc => by
    have := hval 2 3 v2 rfl rfl
    rw [hc] at this
    simp [Value.okWide, Try.underlying3, Cell.okWide, Cell.ok] at this) h2
  refine (Ret.calls_true (tollwaylaw24_DiscountLess_ret x0 x1 x2 true (tollwaylaw24_DiscountLess_true x0 x1 x2 hw0 hw1 hw2)) (vs := #[v0, v1, v2]) (Reps.cons hr0 (Reps.cons hr1 (Reps.cons hr2 Reps.nil))) glAny).mono ?_
  rintro e W1 ⟨hB, rfl⟩
  exact ⟨_, rfl, post_true (tb := 4) (by kernel_rfl) (fun t ht => by
    rw [Try.params6] at ht
    simp only [List.mem_cons, List.not_mem_nil, or_false] at ht
    rcases ht with rfl | rfl | rfl <;> exact ⟨by kernel_rfl, of_decide_eq_true (by kernel_rfl)⟩) rfl (by kernel_rfl) Try.underlying4 (fun ds hd => by
      rw [show Try.f6.params.size = 3 by kernel_rfl] at hd
      match ds, hd with
      | [y0, y1, y2], _ => rfl) hW2 hB⟩
theorem tollwaylaw24_DiscountLess_own : ownKnob Try.prog.godebug = none := by kernel_rfl
noncomputable def tollwaylaw24_DiscountLess_world (os : Os) : World := World.holding Try.prog os ⟨#[], #[], []⟩
def tollwaylaw24_DiscountLess_zero : Array Value := #[Value.slice none 0 0, Value.int .u8 0, Value.int .i64 0]
theorem tollwaylaw24_DiscountLess_reads (os : Os) {H : Type} (enc : TypeId × Value → H) : ∃ places, DataW.whole enc Try.prog ((tollwaylaw24_DiscountLess_world os).forCall (fun _ _ => 0) ⟨#[], tollwaylaw24_DiscountLess_zero, []⟩).memory Try.f6.params.toList Rows.discountLessSpec.vars false (tollwaylaw24_DiscountLess_zero).toList 6 = some ([.nil, .lit (.int .u8 0), .lit (.int .i64 0)], [], places) :=
  ⟨[], by kernel_rfl⟩
set_option maxRecDepth 100000 in
theorem tollwaylaw24_DiscountLess_lifted (os : Os) (started : os.Started) (H : Type) (enc : TypeId × Value → H) (F : Stop.Interp) :
    ReturnsInHanded {} Try.checked os 6 .any ((OpenSpec.ofChange Rows.discountLessSpec).preRow enc Try.prog Try.f6 Rows.discountLessRow.domain false Rows.discountLessRow.laid) (((OpenSpec.ofChange Rows.discountLessSpec).at F).post enc Try.prog Try.f6 false true false false) := by
  obtain ⟨places, hx⟩ := tollwaylaw24_DiscountLess_reads os enc
  refine returnsInHanded_of_row (C := Try.checked) (s := OpenSpec.ofChange Rows.discountLessSpec) tollwaylaw24_DiscountLess_own started (by kernel_rfl) Try.func6
    (witness_row_at (enc := enc) (C := Try.checked) false (tollwaylaw24_DiscountLess_world os) tollwaylaw24_DiscountLess_zero rfl (by kernel_rfl) (by kernel_rfl) (by kernel_rfl)
      (OpenSpec.preRow_of_cond 6 hx (by kernel_rfl) (fun k hk => by cases hk) (by kernel_rfl) (laidMet_nil _ _))) ?_
  intro W base args ds gs before hval hW _ _ hz hL _ _
  exact tollwaylaw24_DiscountLess_contract H enc W base args ds gs before hval hW
theorem tollwaylaw24_DiscountLess_said : Rows.DiscountLessSaid :=
  OpenClaim.holds_of_cond 6 Try.f6 rfl rfl rfl rfl rfl rfl rfl ⟨rfl, rfl, rfl, rfl, rfl⟩ rfl rfl rfl rfl rfl (by kernel_rfl) Try.func6 (by kernel_rfl)
    (of_decide_eq_true (by kernel_rfl)) (by unfold Func.isWrapper; first | (rw [if_pos (by decide +kernel)]; kernel_rfl) | (rw [if_neg (by decide +kernel)]; exact ⟨rfl, rfl⟩))
    (fun os started H enc _ F => by rw [OpenClaim.pre_eq_preRow]; exact tollwaylaw24_DiscountLess_lifted os started H enc F)
end Go.Proofs.Ytabjlmlfmafllaa.Av
namespace Go.Proofs.Ytabjlmlfmafllaa
theorem discount_less : Rows.DiscountLessSaid := Go.Proofs.Ytabjlmlfmafllaa.Av.tollwaylaw24_DiscountLess_said
end Go.Proofs.Ytabjlmlfmafllaa
