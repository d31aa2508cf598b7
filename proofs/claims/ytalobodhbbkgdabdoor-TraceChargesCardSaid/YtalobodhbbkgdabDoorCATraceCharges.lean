/- The contract of TraceCharges. -/
import Derived.Test.YtalobodhbbkgdabDoorCRQ
import Derived.Test.YtalobodhbbkgdabDoorPTr67
import Derived.Test.YtalobodhbbkgdabDoorPGl
import Derived.Test.YtalobodhbbkgdabDoorRows
set_option linter.unusedVariables false
set_option linter.unusedSimpArgs false
set_option maxHeartbeats 4000000
set_option maxRecDepth 100000
namespace Go.Proofs.YtalobodhbbkgdabDoor.Av
open Go Go.Proofs Go.ChangeShapes Go.WideShapes Go.ChangeAt Go.RowKit Go.Proofs.YtalobodhbbkgdabDoor
theorem tollwaylaw52_TraceCharges_true (s : Tapi_State) (k : List UInt8) (hs : Tapi_State.wf s) (hx : swfW k) : tollwaylaw52_TraceCharges s k = some true :=
  charges_true s k (fun hf => ⟨hf, fun t ht => (hs.2.2.2.2.2.1.2.2.1.2 t ht).1, fun t ht => (hs.2.2.2.2.2.1.2.2.2.1.2 t ht).1, fun p hp x hx => (hs.2.2.2.2.2.1.1.2 p hp).2.2.2.2.2.2.2.2 x hx⟩)
theorem tollwaylaw52_TraceCharges_contract (H : Type) (enc : TypeId × Value → H) (W : World) (base : Nat) (args : Array Value) (ds gs : List (DataW H)) (before : List MemPlace)
    (hval : ∀ (j : Nat) t v, Tryd.f4.params[j]? = some t → args[j]? = some v → Value.okWide Tryd.prog W .any base t v)
    (hW : DataW.Whole enc Tryd.prog Tryd.f4.params.toList Rows.traceChargesSpec.vars false W args.toList ds gs before) (hL : laidMet Tryd.prog Rows.traceChargesRow.laid W) (hz : (DataW.weightsEach Tryd.prog (Tryd.f4.params.toList ++ (OpenSpec.ofChange Rows.traceChargesSpec).bare.plain.varTypes Tryd.prog) (ds ++ gs)).all (· ≤ reachBytes) = true) :
    Calls Tryd.prog 4 args W fun e W2 => ∃ v, e = .returned v ∧ Rows.traceChargesSpec.post enc Tryd.prog Tryd.f4 false true false false W args v W2 := by
  have hW2 := hW
  obtain ⟨p, q, hA, hV, hpq, hz, hn⟩ := hW
  rw [Tryd.params4] at hA hval
  obtain ⟨v0, vs0, d0, ds0, p0, q0, hargs, rfl, rfl, h0, r0⟩ := trodAll_cons hA
  obtain ⟨v1, vs1, d1, ds1, p1, q1, rfl, rfl, rfl, h1, r1⟩ := trodAll_cons r0
  obtain ⟨rfl, rfl, rfl⟩ := trodAll_nil r1
  obtain rfl : args = #[v0, v1] := by cases args; simp_all
  obtain ⟨x0, hr0, hw0⟩ := argW_agg (Tapi_State.reads 0) (by kernel_rfl) (by
    have := hval 0 64 v0 rfl rfl
    simp only [Value.okWide, Tryd.underlying64] at this
    obtain ⟨cs, h, _⟩ := this
    exact ⟨cs, h⟩) h0 (reach_of hz 0 (by kernel_rfl) rfl)
  obtain ⟨x1, hr1, hw1⟩ := argW_one (f := AV.str) ((readsW_str Tryd.underlying9) : ReadsW Tryd.prog 1 9 (fun s : List UInt8 => [.str s]) swfW) (fun _ => rfl) (by kernel_rfl) (fun cs hc => by
    have := hval 1 9 v1 rfl rfl
    rw [hc] at this
    simp [Value.okWide, Tryd.underlying9, Cell.okWide, Cell.ok] at this) h1 (reach_of hz 1 (by kernel_rfl) rfl)
  refine (Ret.calls_true (tollwaylaw52_TraceCharges_ret x0 x1 true (tollwaylaw52_TraceCharges_true x0 x1 hw0 hw1)) (vs := #[v0, v1]) (Reps.cons hr0 (Reps.cons hr1 Reps.nil)) (gl_GT hL)).mono ?_
  rintro e W1 ⟨hB, rfl⟩
  exact ⟨_, rfl, post_true (tb := 4) (by kernel_rfl) (fun t ht => by
    rw [Tryd.params4] at ht
    simp only [List.mem_cons, List.not_mem_nil, or_false] at ht
    rcases ht with rfl | rfl <;> exact ⟨by kernel_rfl, of_decide_eq_true (by kernel_rfl)⟩) rfl (by kernel_rfl) Tryd.underlying4 (fun ds hd => by
      rw [show Tryd.f4.params.size = 2 by kernel_rfl] at hd
      match ds, hd with
      | [y0, y1], _ => rfl) hW2 hB⟩
end Go.Proofs.YtalobodhbbkgdabDoor.Av
