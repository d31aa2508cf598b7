/- The contract of BatchSame. -/
import Derived.Test.YtnlaiahcemckkaaGreatDoorRA
import Derived.Test.YtnlaiahcemckkaaGreatDoorPGlBatchSame
import Derived.Test.YtnlaiahcemckkaaGreatDoorCLd
import Derived.Test.YtnlaiahcemckkaaGreatDoorRows
set_option linter.unusedVariables false
set_option linter.unusedSimpArgs false
set_option maxHeartbeats 4000000
set_option maxRecDepth 100000
namespace Go.Proofs.YtnlaiahcemckkaaGreatDoor.Av
open Go Go.Proofs Go.ChangeShapes Go.WideShapes Go.ChangeAt Go.RowKit Go.Proofs.YtnlaiahcemckkaaGreatDoor
theorem fitQ_of (r : Tapi_Result) (h : Tapi_Result.wf r) : FitQ r := by
  obtain ⟨⟨⟨_, hp⟩, hp1⟩, ⟨⟨_, _⟩, hj1⟩, ⟨⟨_, ht⟩, ht1⟩, ⟨⟨_, _⟩, hy1⟩, ⟨⟨_, hc⟩, hc1⟩, ⟨⟨_, he⟩, he1⟩⟩ := h
  have hr : reachBytes = 140737488351232 := rfl
  rw [hr] at hp1 hj1 ht1 hy1 hc1 he1
  refine ⟨by omega, by omega, by omega, by omega, by omega, by omega, fun x hx => ?_, fun x hx => ?_, fun x hx => ?_, fun x hx => (he x hx).2⟩
  · obtain ⟨a1, a2, _, a4, a5, _, _, ⟨⟨_, a8⟩, a9⟩⟩ := hp x hx
    rw [hr] at a9
    simp only [swfW, hr] at a1 a2 a4 a5
    refine ⟨by omega, by omega, by omega, by omega, by omega, fun s hs => ?_⟩
    have := (a8 s hs).1
    simp only [swfW, hr] at this
    omega
  · obtain ⟨a1, _, _, _, ⟨⟨_, _⟩, a5⟩⟩ := ht x hx
    rw [hr] at a5
    simp only [swfW, hr] at a1
    exact ⟨by omega, by omega⟩
  · obtain ⟨_, _, _, _, _, ⟨⟨_, _⟩, a6⟩, _⟩ := hc x hx
    rw [hr] at a6
    omega
theorem tollwaylaw47_BatchSame_true (a b : Tapi_Result) (id : List UInt8) (ha : Tapi_Result.wf a) (hb : Tapi_Result.wf b) (hid : swfW id) : tollwaylaw47_BatchSame a b id = some true :=
  batchSame_true a b id (fitQ_of a ha) (fitQ_of b hb)
theorem tollwaylaw47_BatchSame_contract (H : Type) (enc : TypeId × Value → H) (W : World) (base : Nat) (args : Array Value) (ds gs : List (DataW H)) (before : List MemPlace)
    (hval : ∀ (j : Nat) t v, Tryz.f3.params[j]? = some t → args[j]? = some v → Value.okWide Tryz.prog W .any base t v)
    (hW : DataW.Whole enc Tryz.prog Tryz.f3.params.toList Rows.batchSameSpec.vars false W args.toList ds gs before) (hL : laidMet Tryz.prog Rows.batchSameRow.laid W) (hz : (DataW.weightsEach Tryz.prog (Tryz.f3.params.toList ++ (OpenSpec.ofChange Rows.batchSameSpec).bare.plain.varTypes Tryz.prog) (ds ++ gs)).all (· ≤ reachBytes) = true) :
    Calls Tryz.prog 3 args W fun e W2 => ∃ v, e = .returned v ∧ Rows.batchSameSpec.post enc Tryz.prog Tryz.f3 false true false false W args v W2 := by
  have hW2 := hW
  obtain ⟨p, q, hA, hV, hpq, hz, hn⟩ := hW
  rw [Tryz.params3] at hA hval
  obtain ⟨v0, vs0, d0, ds0, p0, q0, hargs, rfl, rfl, h0, r0⟩ := trodAll_cons hA
  obtain ⟨v1, vs1, d1, ds1, p1, q1, rfl, rfl, rfl, h1, r1⟩ := trodAll_cons r0
  obtain ⟨v2, vs2, d2, ds2, p2, q2, rfl, rfl, rfl, h2, r2⟩ := trodAll_cons r1
  obtain ⟨rfl, rfl, rfl⟩ := trodAll_nil r2
  obtain rfl : args = #[v0, v1, v2] := by cases args; simp_all
  obtain ⟨x0, hr0, hw0⟩ := argW_agg (Tapi_Result.reads 0) (by kernel_rfl) (by
    have := hval 0 29 v0 rfl rfl
    simp only [Value.okWide, Tryz.underlying29] at this
    obtain ⟨cs, h, _⟩ := this
    exact ⟨cs, h⟩) h0 (reach_of hz 0 (by kernel_rfl) rfl)
  obtain ⟨x1, hr1, hw1⟩ := argW_agg (Tapi_Result.reads 0) (by kernel_rfl) (by
    have := hval 1 29 v1 rfl rfl
    simp only [Value.okWide, Tryz.underlying29] at this
    obtain ⟨cs, h, _⟩ := this
    exact ⟨cs, h⟩) h1 (reach_of hz 1 (by kernel_rfl) rfl)
  obtain ⟨x2, hr2, hw2⟩ := argW_one (f := AV.str) ((readsW_str Tryz.underlying9) : ReadsW Tryz.prog 1 9 (fun s : List UInt8 => [.str s]) swfW) (fun _ => rfl) (by kernel_rfl) (fun cs hc => by
    have := hval 2 9 v2 rfl rfl
    rw [hc] at this
    simp [Value.okWide, Tryz.underlying9, Cell.okWide, Cell.ok] at this) h2 (reach_of hz 2 (by kernel_rfl) rfl)
  refine (Ret.calls_true (tollwaylaw47_BatchSame_ret x0 x1 x2 true (tollwaylaw47_BatchSame_true x0 x1 x2 hw0 hw1 hw2)) (vs := #[v0, v1, v2]) (Reps.cons hr0 (Reps.cons hr1 (Reps.cons hr2 Reps.nil))) (gl_GT hL)).mono ?_
  rintro e W1 ⟨hB, rfl⟩
  exact ⟨_, rfl, post_true (tb := 4) laid_out (fun t ht => by
    rw [Tryz.params3] at ht
    simp only [List.mem_cons, List.not_mem_nil, or_false] at ht
    rcases ht with rfl | rfl | rfl <;> exact ⟨by kernel_rfl, of_decide_eq_true (by kernel_rfl)⟩) rfl (by kernel_rfl) Tryz.underlying4 (fun ds hd => by
      rw [show Tryz.f3.params.size = 3 by kernel_rfl] at hd
      match ds, hd with
      | [y0, y1, y2], _ => rfl) hW2 hB⟩
end Go.Proofs.YtnlaiahcemckkaaGreatDoor.Av
