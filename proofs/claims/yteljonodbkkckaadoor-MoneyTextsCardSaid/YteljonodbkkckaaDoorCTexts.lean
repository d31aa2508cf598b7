/- For any amount and text the law MoneyTexts returns true, and its arguments read as before. -/
import Derived.Test.YteljonodbkkckaaDoorPTx
import Derived.Test.YteljonodbkkckaaDoorPGl
import Derived.Test.YteljonodbkkckaaDoorAvZ
import Derived.Test.YteljonodbkkckaaDoorCards
import Derived.Test.YteljonodbkkckaaDoorTie
import Derived.Lib.LaidTab
set_option linter.unusedVariables false
set_option linter.unusedSimpArgs false
set_option maxHeartbeats 4000000
namespace Go.Proofs.YteljonodbkkckaaDoor.Av
open Go Go.Proofs Go.ChangeShapes Go.WideShapes Go.ChangeAt Go.RowKit Go.Proofs.YteljonodbkkckaaDoor
theorem tollwaylaw03_MoneyTexts_contract (H : Type) (enc : TypeId × Value → H) (W : World) (base : Nat) (args : Array Value) (ds gs : List (DataW H)) (before : List MemPlace)
    (hval : ∀ (j : Nat) t v, Tryd.f5.params[j]? = some t → args[j]? = some v → Value.okWide Tryd.prog W .any base t v)
    (hW : DataW.Whole enc Tryd.prog Tryd.f5.params.toList Rows.moneyTextsSpec.vars false W args.toList ds gs before) (hL : laidMet Tryd.prog Rows.moneyTextsRow.laid W) :
    Calls Tryd.prog 5 args W fun e W2 => ∃ v, e = .returned v ∧ Rows.moneyTextsSpec.post enc Tryd.prog Tryd.f5 false true false false W args v W2 := by
  have hW2 := hW
  obtain ⟨p, q, hA, hV, hpq, hz, hn⟩ := hW
  rw [Tryd.params5] at hA hval
  obtain ⟨v0, vs0, d0, ds0, p0, q0, hargs, rfl, rfl, h0, r0⟩ := trodAll_cons hA
  obtain ⟨v1, vs1, d1, ds1, p1, q1, rfl, rfl, rfl, h1, r1⟩ := trodAll_cons r0
  obtain ⟨rfl, rfl, rfl⟩ := trodAll_nil r1
  obtain rfl : args = #[v0, v1] := by cases args; simp_all
  obtain ⟨x0, hr0, hw0⟩ := arg_one (f := AV.int .i64) ((reads_int Tryd.underlying3) : Reads Tryd.prog 1 3 (fun z : Int => [.int .i64 z]) (InR .i64)) (fun _ => rfl) (by kernel_rfl) (fun cs hc => by
    have := hval 0 3 v0 rfl rfl
    rw [hc] at this
    simp [Value.okWide, Tryd.underlying3, Cell.okWide, Cell.ok] at this) h0
  obtain ⟨x1, hr1, hw1⟩ := arg_one (f := AV.str) ((reads_str Tryd.underlying9) : Reads Tryd.prog 1 9 (fun s : List UInt8 => [.str s]) swf) (fun _ => rfl) (by kernel_rfl) (fun cs hc => by
    have := hval 1 9 v1 rfl rfl
    rw [hc] at this
    simp [Value.okWide, Tryd.underlying9, Cell.okWide, Cell.ok] at this) h1
  refine (Ret.calls_true (tollwaylaw03_MoneyTexts_ret x0 x1 true (tollwaylaw03_MoneyTexts_true x0 x1 hw0 hw1)) (vs := #[v0, v1]) (Reps.cons hr0 (Reps.cons hr1 Reps.nil)) (gl_GT hL)).mono ?_
  rintro e W1 ⟨hB, rfl⟩
  exact ⟨_, rfl, post_true (tb := 4) (by kernel_rfl) (fun t ht => by
    rw [Tryd.params5] at ht
    simp only [List.mem_cons, List.not_mem_nil, or_false] at ht
    rcases ht with rfl | rfl <;> exact ⟨by kernel_rfl, of_decide_eq_true (by kernel_rfl)⟩) rfl (by kernel_rfl) Tryd.underlying4 (fun ds hd => by
      rw [show Tryd.f5.params.size = 2 by kernel_rfl] at hd
      match ds, hd with
      | [y0, y1], _ => rfl) hW2 hB⟩
theorem tollwaylaw03_MoneyTexts_own : ownKnob Tryd.prog.godebug = none := by kernel_rfl
noncomputable def tollwaylaw03_MoneyTexts_world (os : Os) : World := { World.holding Tryd.prog os ⟨#[], #[], []⟩ with heap := setTab 3 (tabV (H := Unit) Rows.laid_math_bits_deBruijn32tab) (setTab 4 (tabV (H := Unit) Rows.laid_math_bits_deBruijn64tab) (setTab 2 (tabV (H := Unit) Rows.laid_internal_strconv_uint64pow10) ((World.holding Tryd.prog os ⟨#[], #[], []⟩).heap))) }
def tollwaylaw03_MoneyTexts_zero : Array Value := #[Value.int .i64 0, Value.string ⟨#[]⟩]
theorem tollwaylaw03_MoneyTexts_met (os : Os) : laidMet Tryd.prog Rows.moneyTextsRow.laid ((tollwaylaw03_MoneyTexts_world os).forCall (fun _ _ => 0) ⟨#[], tollwaylaw03_MoneyTexts_zero, []⟩).memory :=
  laidMet_of_run' 8 (by kernel_rfl) (by kernel_rfl)
theorem tollwaylaw03_MoneyTexts_reads (os : Os) {H : Type} (enc : TypeId × Value → H) : ∃ places, DataW.whole enc Tryd.prog ((tollwaylaw03_MoneyTexts_world os).forCall (fun _ _ => 0) ⟨#[], tollwaylaw03_MoneyTexts_zero, []⟩).memory Tryd.f5.params.toList Rows.moneyTextsSpec.vars false (tollwaylaw03_MoneyTexts_zero).toList 3 = some ([.lit (.int .i64 0), .lit (.string [])], [], places) :=
  ⟨[], by kernel_rfl⟩
set_option maxRecDepth 100000 in
theorem tollwaylaw03_MoneyTexts_lifted (os : Os) (started : os.Started) (H : Type) (enc : TypeId × Value → H) (F : Stop.Interp) :
    ReturnsInHanded {} Tryd.checked os 5 .any ((OpenSpec.ofChange Rows.moneyTextsSpec).preRow enc Tryd.prog Tryd.f5 Rows.moneyTextsRow.domain false Rows.moneyTextsRow.laid) (((OpenSpec.ofChange Rows.moneyTextsSpec).at F).post enc Tryd.prog Tryd.f5 false true false false) := by
  obtain ⟨places, hx⟩ := tollwaylaw03_MoneyTexts_reads os enc
  refine returnsInHanded_of_row (C := Tryd.checked) (s := OpenSpec.ofChange Rows.moneyTextsSpec) tollwaylaw03_MoneyTexts_own started (by kernel_rfl) Tryd.func5
    (witness_row_at (enc := enc) (C := Tryd.checked) false (tollwaylaw03_MoneyTexts_world os) tollwaylaw03_MoneyTexts_zero rfl (by kernel_rfl) (by kernel_rfl) (by kernel_rfl)
      (OpenSpec.preRow_of_cond 3 hx (by kernel_rfl) (fun k hk => by cases hk) (by kernel_rfl) (tollwaylaw03_MoneyTexts_met os))) ?_
  intro W base args ds gs before hval hW _ _ _ hL _ _
  exact tollwaylaw03_MoneyTexts_contract H enc W base args ds gs before hval hW hL
theorem tollwaylaw03_MoneyTexts_said : Rows.MoneyTextsSaid :=
  OpenClaim.holds_of_cond 5 Tryd.f5 rfl rfl rfl rfl rfl rfl rfl ⟨rfl, rfl, rfl, rfl, rfl⟩ rfl rfl rfl rfl rfl (by kernel_rfl) Tryd.func5 (by kernel_rfl)
    (of_decide_eq_true (by kernel_rfl)) (by unfold Func.isWrapper; first | (rw [if_pos (by decide +kernel)]; kernel_rfl) | (rw [if_neg (by decide +kernel)]; exact ⟨rfl, rfl⟩))
    (fun os started H enc _ F => by rw [OpenClaim.pre_eq_preRow]; exact tollwaylaw03_MoneyTexts_lifted os started H enc F)
theorem tollwaylaw03_MoneyTexts_plain (f : FuncId) (fn : Func) (hf : Tryd.pinned.checked.prog.funcNamed "tollway/tollwaylaw03.MoneyTexts" = some f) (hfn : Tryd.pinned.checked.prog.funcs[f]? = some fn) :
    false = Tryd.pinned.checked.prog.looks [] ∧ ∀ (j : Nat) t, fn.params[j]? = some t → Tryd.pinned.checked.prog.wantsStandIn t = false := by
  obtain rfl : f = 5 := Option.some.inj ((show Tryd.prog.funcNamed "tollway/tollwaylaw03.MoneyTexts" = some 5 by kernel_rfl).symm.trans hf) |>.symm
  obtain rfl : fn = Tryd.f5 := (Option.some.inj (Tryd.func5.symm.trans hfn)).symm
  refine ⟨by kernel_rfl, fun j t ht => ?_⟩
  rw [Tryd.params5] at ht
  have hm : t = 3 ∨ t = 9 := by
    have := Array.mem_of_getElem? ht
    simp only [List.mem_toArray, List.mem_cons, List.not_mem_nil, or_false] at this
    rcases this with rfl | rfl <;> simp
  rcases hm with rfl | rfl
  · exact (show Tryd.prog.wantsStandIn 3 = false by kernel_rfl)
  · exact (show Tryd.prog.wantsStandIn 9 = false by kernel_rfl)
theorem tollwaylaw03_MoneyTexts_card : Rows.MoneyTextsCardSaid :=
  Claim7.holds_tied_plain_at .later [] _ _ _ _ tollwaylaw03_MoneyTexts_said (fun _ h => by cases h) (by kernel_rfl) (fun _ h => by cases h) moneyTexts_row_tie rfl ⟨rfl, rfl⟩ (by kernel_rfl) rfl tollwaylaw03_MoneyTexts_plain (by kernel_rfl)
end Go.Proofs.YteljonodbkkckaaDoor.Av
namespace Go.Proofs.YteljonodbkkckaaDoor
theorem money_texts_card : Rows.MoneyTextsCardSaid := Go.Proofs.YteljonodbkkckaaDoor.Av.tollwaylaw03_MoneyTexts_card
end Go.Proofs.YteljonodbkkckaaDoor
