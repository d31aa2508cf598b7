import Derived.Test.YteljonodbkkckaaAvZ
import Derived.Test.YteljonodbkkckaaD2
import Derived.Test.YteljonodbkkckaaP24L
import Derived.Test.YteljonodbkkckaaR24a
import Derived.Test.YteljonodbkkckaaRows
set_option linter.unusedVariables false
set_option linter.unusedSimpArgs false
set_option maxHeartbeats 4000000
set_option maxRecDepth 100000
namespace Go.Proofs.Yteljonodbkkckaa.Av
open Go Go.Proofs Go.ChangeShapes Go.WideShapes Go.ChangeAt Go.RowKit Go.Proofs.Yteljonodbkkckaa
theorem tollwaylaw24_DiscountLists_contract (H : Type) (enc : TypeId × Value → H) (W : World) (base : Nat) (args : Array Value) (ds gs : List (DataW H)) (before : List MemPlace)
    (hval : ∀ (j : Nat) t v, Try.f5.params[j]? = some t → args[j]? = some v → Value.okWide Try.prog W .any base t v)
    (hW : DataW.Whole enc Try.prog Try.f5.params.toList Rows.discountListsSpec.vars false W args.toList ds gs before) :
    Calls Try.prog 5 args W fun e W2 => ∃ v, e = .returned v ∧ Rows.discountListsSpec.post enc Try.prog Try.f5 false true false false W args v W2 := by
  have hW2 := hW
  obtain ⟨p, q, hA, hV, hpq, hz, hn⟩ := hW
  rw [Try.params5] at hA hval
  obtain ⟨v0, vs0, d0, ds0, p0, q0, hargs, rfl, rfl, h0, r0⟩ := trodAll_cons hA
  obtain ⟨rfl, rfl, rfl⟩ := trodAll_nil r0
  obtain rfl : args = #[v0] := by cases args; simp_all
  obtain ⟨x0, hr0, hw0⟩ := arg_one (f := (fun l : List Tapi_Discount => AV.lst (fl Tapi_Discount.enc l) l.length)) ((reads_list Try.underlying36 (Tapi_Discount.reads _)) : Reads Try.prog 4 36 (lstf Tapi_Discount.enc) (lwf Tapi_Discount.wf)) (fun _ => rfl) (by kernel_rfl) (fun cs hc => by
    have := hval 0 36 v0 rfl rfl
    rw [hc] at this
    simp [Value.okWide, Try.underlying36, Cell.okWide, Cell.ok] at this) h0
  refine (Ret.calls_true (tollwaylaw24_DiscountLists_ret x0 true (tollwaylaw24_DiscountLists_true x0 hw0)) (vs := #[v0]) (Reps.cons hr0 Reps.nil) glAny).mono ?_
  rintro e W1 ⟨hB, rfl⟩
  exact ⟨_, rfl, post_true (tb := 4) (by kernel_rfl) (fun t ht => by
    rw [Try.params5] at ht
    simp only [List.mem_cons, List.not_mem_nil, or_false] at ht
    subst ht; exact ⟨by kernel_rfl, of_decide_eq_true (by kernel_rfl)⟩) rfl (by kernel_rfl) Try.underlying4 (fun ds hd => by
      rw [show Try.f5.params.size = 1 by kernel_rfl] at hd
      match ds, hd with
      | [y0], _ => rfl) hW2 hB⟩
theorem tollwaylaw24_DiscountLists_own : ownKnob Try.prog.godebug = none := by kernel_rfl
noncomputable def tollwaylaw24_DiscountLists_world (os : Os) : World := World.holding Try.prog os ⟨#[], #[], []⟩
def tollwaylaw24_DiscountLists_zero : Array Value := #[Value.slice none 0 0]
theorem tollwaylaw24_DiscountLists_reads (os : Os) {H : Type} (enc : TypeId × Value → H) : ∃ places, DataW.whole enc Try.prog ((tollwaylaw24_DiscountLists_world os).forCall (fun _ _ => 0) ⟨#[], tollwaylaw24_DiscountLists_zero, []⟩).memory Try.f5.params.toList Rows.discountListsSpec.vars false (tollwaylaw24_DiscountLists_zero).toList 6 = some ([.nil], [], places) :=
  ⟨[], by kernel_rfl⟩
set_option maxRecDepth 100000 in
theorem tollwaylaw24_DiscountLists_lifted (os : Os) (started : os.Started) (H : Type) (enc : TypeId × Value → H) (F : Stop.Interp) :
    ReturnsInHanded {} Try.checked os 5 .any ((OpenSpec.ofChange Rows.discountListsSpec).preRow enc Try.prog Try.f5 Rows.discountListsRow.domain false Rows.discountListsRow.laid) (((OpenSpec.ofChange Rows.discountListsSpec).at F).post enc Try.prog Try.f5 false true false false) := by
  obtain ⟨places, hx⟩ := tollwaylaw24_DiscountLists_reads os enc
  refine returnsInHanded_of_row (C := Try.checked) (s := OpenSpec.ofChange Rows.discountListsSpec) tollwaylaw24_DiscountLists_own started (by kernel_rfl) Try.func5
    (witness_row_at (enc := enc) (C := Try.checked) false (tollwaylaw24_DiscountLists_world os) tollwaylaw24_DiscountLists_zero rfl (by kernel_rfl) (by kernel_rfl) (by kernel_rfl)
      (OpenSpec.preRow_of_cond 6 hx (by kernel_rfl) (fun k hk => by cases hk) (by kernel_rfl) (laidMet_nil _ _))) ?_
  intro W base args ds gs before hval hW _ _ _ hL _ _
  exact tollwaylaw24_DiscountLists_contract H enc W base args ds gs before hval hW
theorem tollwaylaw24_DiscountLists_said : Rows.DiscountListsSaid :=
  OpenClaim.holds_of_cond 5 Try.f5 rfl rfl rfl rfl rfl rfl rfl ⟨rfl, rfl, rfl, rfl, rfl⟩ rfl rfl rfl rfl rfl (by kernel_rfl) Try.func5 (by kernel_rfl)
    (of_decide_eq_true (by kernel_rfl)) (by unfold Func.isWrapper; first | (rw [if_pos (by decide +kernel)]; kernel_rfl) | (rw [if_neg (by decide +kernel)]; exact ⟨rfl, rfl⟩))
    (fun os started H enc _ F => by rw [OpenClaim.pre_eq_preRow]; exact tollwaylaw24_DiscountLists_lifted os started H enc F)
end Go.Proofs.Yteljonodbkkckaa.Av
namespace Go.Proofs.Yteljonodbkkckaa
theorem discount_lists : Rows.DiscountListsSaid := Go.Proofs.Yteljonodbkkckaa.Av.tollwaylaw24_DiscountLists_said
end Go.Proofs.Yteljonodbkkckaa
