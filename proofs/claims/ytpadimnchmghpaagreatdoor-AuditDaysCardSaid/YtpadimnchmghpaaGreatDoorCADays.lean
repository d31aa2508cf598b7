import Derived.Test.YtpadimnchmghpaaGreatDoorPDy
import Derived.Test.YtpadimnchmghpaaGreatDoorCLd
open Prod (fst)
open Int (tdiv tmod)
set_option maxHeartbeats 4000000
set_option maxRecDepth 100000
set_option linter.unusedVariables false
set_option linter.unusedSimpArgs false
namespace Go.Proofs.YtpadimnchmghpaaGreatDoor.Av
open Go Go.Proofs Go.ChangeShapes Go.WideShapes Go.ChangeAt Go.RowKit Go.Proofs.YtpadimnchmghpaaGreatDoor
theorem w5AuditDays_contract (H : Type) (enc : TypeId × Value → H) (W : World) (base : Nat) (args : Array Value) (ds gs : List (DataW H)) (before : List MemPlace)
  (hval : ∀ (j : Nat) t v, Tryz.f5.params[j]? = some t → args[j]? = some v → Value.okWide Tryz.prog W .any base t v)
  (hW : DataW.Whole enc Tryz.prog Tryz.f5.params.toList Rows.auditDaysSpec.vars false W args.toList ds gs before) :
  Calls Tryz.prog 5 args W fun e W2 => ∃ v, e = .returned v ∧ Rows.auditDaysSpec.post enc Tryz.prog Tryz.f5 false true false false W args v W2 := by
 have hW2 := hW
 obtain ⟨p, q, hA, hV, hpq, hz, hn⟩ := hW
 rw [Tryz.params5] at hA hval
 obtain ⟨v0, vs0, d0, ds0, p0, q0, hargs, rfl, rfl, h0, r0⟩ := trodAll_cons hA
 obtain ⟨v1, vs1, d1, ds1, p1, q1, rfl, rfl, rfl, h1, r1⟩ := trodAll_cons r0
 obtain ⟨rfl, rfl, rfl⟩ := trodAll_nil r1
 obtain rfl : args = #[v0, v1] := by cases args; simp_all
 obtain ⟨x0, hr0, hw0⟩ := arg_one (f := (fun l : List TC => AV.lst (fl TC.enc l) l.length)) ((reads_list Tryz.underlying22 (TC.reads _)) : Reads Tryz.prog 5 22 (lstf TC.enc) (lwf TC.wf)) (fun _ => rfl) (by kernel_rfl) (fun cs hc => by
  have := hval 0 22 v0 rfl rfl
  rw [hc] at this
  simp [Value.okWide, Tryz.underlying22, Cell.okWide, Cell.ok] at this) h0
 obtain ⟨x1, hr1, hw1⟩ := arg_one (f := (fun l : List TC => AV.lst (fl TC.enc l) l.length)) ((reads_list Tryz.underlying22 (TC.reads _)) : Reads Tryz.prog 5 22 (lstf TC.enc) (lwf TC.wf)) (fun _ => rfl) (by kernel_rfl) (fun cs hc => by
  have := hval 1 22 v1 rfl rfl
  rw [hc] at this
  simp [Value.okWide, Tryz.underlying22, Cell.okWide, Cell.ok] at this) h1
 refine (Ret.calls_true (w5AuditDays_ret x0 x1 true (w5AuditDays_true x0 x1 hw0 hw1)) (vs := #[v0, v1]) (Reps.cons hr0 (Reps.cons hr1 Reps.nil)) glAny).mono ?_
 rintro e W1 ⟨hB, rfl⟩
 exact ⟨_, rfl, post_true (tb := 4) laid_out (fun t ht => by
  rw [Tryz.params5] at ht
  simp only [List.mem_cons, List.not_mem_nil, or_false] at ht
  rcases ht with rfl | rfl <;> exact ⟨by kernel_rfl, of_decide_eq_true (by kernel_rfl)⟩) rfl (by kernel_rfl) Tryz.underlying4 (fun ds hd => by
   rw [show Tryz.f5.params.size = 2 by kernel_rfl] at hd
   match ds, hd with
   | [y0, y1], _ => rfl) hW2 hB⟩
end Go.Proofs.YtpadimnchmghpaaGreatDoor.Av
