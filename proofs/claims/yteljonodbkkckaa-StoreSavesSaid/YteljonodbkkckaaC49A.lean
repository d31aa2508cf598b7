import Derived.Test.YteljonodbkkckaaAvZ
import Derived.Test.YteljonodbkkckaaB3
import Derived.Test.YteljonodbkkckaaP49
import Derived.Test.YteljonodbkkckaaR49
import Derived.Test.YteljonodbkkckaaRows
set_option linter.unusedVariables false
set_option linter.unusedSimpArgs false
set_option maxHeartbeats 4000000
set_option maxRecDepth 100000
namespace Go.Proofs.Yteljonodbkkckaa.Av
open Go Go.Proofs Go.ChangeShapes Go.WideShapes Go.ChangeAt Go.RowKit Go.Proofs.Yteljonodbkkckaa
theorem tollwaylaw49_StoreSaves_contract (H : Type) (enc : TypeId × Value → H) (W : World) (base : Nat) (args : Array Value) (ds gs : List (DataW H)) (before : List MemPlace)
    (hval : ∀ (j : Nat) t v, Try.f3.params[j]? = some t → args[j]? = some v → Value.okWide Try.prog W .any base t v)
    (hW : DataW.Whole enc Try.prog Try.f3.params.toList Rows.storeSavesSpec.vars false W args.toList ds gs before) :
    Calls Try.prog 3 args W fun e W2 => ∃ v, e = .returned v ∧ Rows.storeSavesSpec.post enc Try.prog Try.f3 false true false false W args v W2 := by
  have hW2 := hW
  obtain ⟨p, q, hA, hV, hpq, hz, hn⟩ := hW
  rw [Try.params3] at hA hval
  obtain ⟨v0, vs0, d0, ds0, p0, q0, hargs, rfl, rfl, h0, r0⟩ := trodAll_cons hA
  obtain ⟨rfl, rfl, rfl⟩ := trodAll_nil r0
  obtain rfl : args = #[v0] := by cases args; simp_all
  obtain ⟨x0, hr0, hw0⟩ := arg_agg (Tapi_State.reads 0) (by kernel_rfl) (by
    have := hval 0 64 v0 rfl rfl
    simp only [Value.okWide, Try.underlying64] at this
    obtain ⟨cs, h, _⟩ := this
    exact ⟨cs, h⟩) h0
  refine (Ret.calls_true (tollwaylaw49_StoreSaves_ret x0 true (tollwaylaw49_StoreSaves_true x0 hw0)) (vs := #[v0]) (Reps.cons hr0 Reps.nil) glAny).mono ?_
  rintro e W1 ⟨hB, rfl⟩
  exact ⟨_, rfl, post_true (tb := 4) (by kernel_rfl) (fun t ht => by
    rw [Try.params3] at ht
    simp only [List.mem_cons, List.not_mem_nil, or_false] at ht
    subst ht; exact ⟨by kernel_rfl, of_decide_eq_true (by kernel_rfl)⟩) rfl (by kernel_rfl) Try.underlying4 (fun ds hd => by
      rw [show Try.f3.params.size = 1 by kernel_rfl] at hd
      match ds, hd with
      | [y0], _ => rfl) hW2 hB⟩
end Go.Proofs.Yteljonodbkkckaa.Av
