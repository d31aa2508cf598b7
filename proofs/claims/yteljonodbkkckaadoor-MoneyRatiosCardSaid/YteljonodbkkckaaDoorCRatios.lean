/- For any fraction the law MoneyRatios returns true, and its arguments read as before. -/
import Derived.Test.YteljonodbkkckaaDoorPRatios
import Derived.Test.YteljonodbkkckaaDoorAvZ
import Derived.Test.YteljonodbkkckaaDoorCards
import Derived.Test.YteljonodbkkckaaDoorTie
import Derived.Lib.LaidTab
set_option linter.unusedVariables false
set_option linter.unusedSimpArgs false
set_option maxHeartbeats 4000000
namespace Go.Proofs.YteljonodbkkckaaDoor.Av
open Go Go.Proofs Go.ChangeShapes Go.WideShapes Go.ChangeAt Go.RowKit Go.Proofs.YteljonodbkkckaaDoor
def Ttollwaylaw03_Fraction.wf (x : Ttollwaylaw03_Fraction) : Prop := (InR .i64 x.N) ∧ (InR .i64 x.Num) ∧ (InR .i64 x.Den) ∧ (InR .i64 x.Mode)
theorem Ttollwaylaw03_Fraction.reads (n : Nat) : Reads Tryd.prog (n + 2) 23 Ttollwaylaw03_Fraction.enc Ttollwaylaw03_Fraction.wf := fun c h => by
  have h := hasT_struct Tryd.underlying23 h
  obtain ⟨a0, b0, h0, g0, h⟩ := h
  obtain ⟨a1, b1, h1, g1, h⟩ := h
  obtain ⟨a2, b2, h2, g2, h⟩ := h
  obtain ⟨a3, b3, h3, g3, h⟩ := h
  have e := h
  obtain ⟨x0, e0, w0⟩ := ((reads_int Tryd.underlying3) : Reads Tryd.prog (n + 1) 3 (fun z : Int => [.int .i64 z]) (InR .i64)) _ g0
  obtain ⟨x1, e1, w1⟩ := ((reads_int Tryd.underlying3) : Reads Tryd.prog (n + 1) 3 (fun z : Int => [.int .i64 z]) (InR .i64)) _ g1
  obtain ⟨x2, e2, w2⟩ := ((reads_int Tryd.underlying3) : Reads Tryd.prog (n + 1) 3 (fun z : Int => [.int .i64 z]) (InR .i64)) _ g2
  obtain ⟨x3, e3, w3⟩ := ((reads_int Tryd.underlying3) : Reads Tryd.prog (n + 1) 3 (fun z : Int => [.int .i64 z]) (InR .i64)) _ g3
  simp only [HasFs] at e
  subst e e0 e1 e2 e3
  subst h3
  subst h2
  subst h1
  subst h0
  exact ⟨⟨x0, x1, x2, x3⟩, rfl, w0, w1, w2, w3⟩
theorem tollwaylaw03_MoneyRatios_true (x : Ttollwaylaw03_Fraction) (hw : Ttollwaylaw03_Fraction.wf x) : tollwaylaw03_MoneyRatios x = some true := ratios_true x hw.1 hw.2.1 hw.2.2.1
theorem tollwaylaw03_MoneyRatios_contract (H : Type) (enc : TypeId × Value → H) (W : World) (base : Nat) (args : Array Value) (ds gs : List (DataW H)) (before : List MemPlace)
    (hval : ∀ (j : Nat) t v, Tryd.f3.params[j]? = some t → args[j]? = some v → Value.okWide Tryd.prog W .any base t v)
    (hW : DataW.Whole enc Tryd.prog Tryd.f3.params.toList Rows.moneyRatiosSpec.vars false W args.toList ds gs before) :
    Calls Tryd.prog 3 args W fun e W2 => ∃ v, e = .returned v ∧ Rows.moneyRatiosSpec.post enc Tryd.prog Tryd.f3 false true false false W args v W2 := by
  have hW2 := hW
  obtain ⟨p, q, hA, hV, hpq, hz, hn⟩ := hW
  rw [Tryd.params3] at hA hval
  obtain ⟨v0, vs0, d0, ds0, p0, q0, hargs, rfl, rfl, h0, r0⟩ := trodAll_cons hA
  obtain ⟨rfl, rfl, rfl⟩ := trodAll_nil r0
  obtain rfl : args = #[v0] := by cases args; simp_all
  obtain ⟨x0, hr0, hw0⟩ := arg_agg (Ttollwaylaw03_Fraction.reads 0) (by kernel_rfl) (by
    have := hval 0 23 v0 rfl rfl
    simp only [Value.okWide, Tryd.underlying23] at this
    obtain ⟨cs, h, _⟩ := this
    exact ⟨cs, h⟩) h0
  refine (Ret.calls_true (tollwaylaw03_MoneyRatios_ret x0 true (tollwaylaw03_MoneyRatios_true x0 hw0)) (vs := #[v0]) (Reps.cons hr0 Reps.nil) glAny).mono ?_
  rintro e W1 ⟨hB, rfl⟩
  exact ⟨_, rfl, post_true (tb := 4) (by kernel_rfl) (fun t ht => by
    rw [Tryd.params3] at ht
    simp only [List.mem_cons, List.not_mem_nil, or_false] at ht
    subst ht; exact ⟨by kernel_rfl, of_decide_eq_true (by kernel_rfl)⟩) rfl (by kernel_rfl) Tryd.underlying4 (fun ds hd => by
      rw [show Tryd.f3.params.size = 1 by kernel_rfl] at hd
      match ds, hd with
      | [y0], _ => rfl) hW2 hB⟩
theorem tollwaylaw03_MoneyRatios_own : ownKnob Tryd.prog.godebug = none := by kernel_rfl
noncomputable def tollwaylaw03_MoneyRatios_world (os : Os) : World := { World.holding Tryd.prog os ⟨#[], #[], []⟩ with heap := setTab 3 (tabV (H := Unit) Rows.laid_math_bits_deBruijn32tab) (setTab 4 (tabV (H := Unit) Rows.laid_math_bits_deBruijn64tab) (setTab 2 (tabV (H := Unit) Rows.laid_internal_strconv_uint64pow10) ((World.holding Tryd.prog os ⟨#[], #[], []⟩).heap))) }
def tollwaylaw03_MoneyRatios_zero : Array Value := #[Value.agg #[.int .i64 0, .int .i64 0, .int .i64 0, .int .i64 0]]
theorem tollwaylaw03_MoneyRatios_met (os : Os) : laidMet Tryd.prog Rows.moneyRatiosRow.laid ((tollwaylaw03_MoneyRatios_world os).forCall (fun _ _ => 0) ⟨#[], tollwaylaw03_MoneyRatios_zero, []⟩).memory :=
  laidMet_of_run' 8 (by kernel_rfl) (by kernel_rfl)
theorem tollwaylaw03_MoneyRatios_reads (os : Os) {H : Type} (enc : TypeId × Value → H) : ∃ places, DataW.whole enc Tryd.prog ((tollwaylaw03_MoneyRatios_world os).forCall (fun _ _ => 0) ⟨#[], tollwaylaw03_MoneyRatios_zero, []⟩).memory Tryd.f3.params.toList Rows.moneyRatiosSpec.vars false (tollwaylaw03_MoneyRatios_zero).toList 4 = some ([.agg [.lit (.int .i64 0), .lit (.int .i64 0), .lit (.int .i64 0), .lit (.int .i64 0)]], [], places) :=
  ⟨[], by kernel_rfl⟩
set_option maxRecDepth 100000 in
theorem tollwaylaw03_MoneyRatios_lifted (os : Os) (started : os.Started) (H : Type) (enc : TypeId × Value → H) (F : Stop.Interp) :
    ReturnsInHanded {} Tryd.checked os 3 .any ((OpenSpec.ofChange Rows.moneyRatiosSpec).preRow enc Tryd.prog Tryd.f3 Rows.moneyRatiosRow.domain false Rows.moneyRatiosRow.laid) (((OpenSpec.ofChange Rows.moneyRatiosSpec).at F).post enc Tryd.prog Tryd.f3 false true false false) := by
  obtain ⟨places, hx⟩ := tollwaylaw03_MoneyRatios_reads os enc
  refine returnsInHanded_of_row (C := Tryd.checked) (s := OpenSpec.ofChange Rows.moneyRatiosSpec) tollwaylaw03_MoneyRatios_own started (by kernel_rfl) Tryd.func3
    (witness_row_at (enc := enc) (C := Tryd.checked) false (tollwaylaw03_MoneyRatios_world os) tollwaylaw03_MoneyRatios_zero rfl (by kernel_rfl) (by kernel_rfl) (by kernel_rfl)
      (OpenSpec.preRow_of_cond 4 hx (by kernel_rfl) (fun k hk => by cases hk) (by kernel_rfl) (tollwaylaw03_MoneyRatios_met os))) ?_
  intro W base args ds gs before hval hW _ _ _ hL _ _
  exact tollwaylaw03_MoneyRatios_contract H enc W base args ds gs before hval hW
theorem tollwaylaw03_MoneyRatios_said : Rows.MoneyRatiosSaid :=
  OpenClaim.holds_of_cond 3 Tryd.f3 rfl rfl rfl rfl rfl rfl rfl ⟨rfl, rfl, rfl, rfl, rfl⟩ rfl rfl rfl rfl rfl (by kernel_rfl) Tryd.func3 (by kernel_rfl)
    (of_decide_eq_true (by kernel_rfl)) (by unfold Func.isWrapper; first | (rw [if_pos (by decide +kernel)]; kernel_rfl) | (rw [if_neg (by decide +kernel)]; exact ⟨rfl, rfl⟩))
    (fun os started H enc _ F => by rw [OpenClaim.pre_eq_preRow]; exact tollwaylaw03_MoneyRatios_lifted os started H enc F)
theorem tollwaylaw03_MoneyRatios_plain (f : FuncId) (fn : Func) (hf : Tryd.pinned.checked.prog.funcNamed "tollway/tollwaylaw03.MoneyRatios" = some f) (hfn : Tryd.pinned.checked.prog.funcs[f]? = some fn) :
    false = Tryd.pinned.checked.prog.looks [] ∧ ∀ (j : Nat) t, fn.params[j]? = some t → Tryd.pinned.checked.prog.wantsStandIn t = false := by
  obtain rfl : f = 3 := Option.some.inj ((show Tryd.prog.funcNamed "tollway/tollwaylaw03.MoneyRatios" = some 3 by kernel_rfl).symm.trans hf) |>.symm
  obtain rfl : fn = Tryd.f3 := (Option.some.inj (Tryd.func3.symm.trans hfn)).symm
  refine ⟨by kernel_rfl, fun j t ht => ?_⟩
  rw [Tryd.params3] at ht
  have hm : t = 23 := by
    have := Array.mem_of_getElem? ht
    simp only [List.mem_toArray, List.mem_cons, List.not_mem_nil, or_false] at this
    rcases this with rfl <;> simp
  rcases hm with rfl
  · exact (show Tryd.prog.wantsStandIn 23 = false by kernel_rfl)
theorem tollwaylaw03_MoneyRatios_card : Rows.MoneyRatiosCardSaid :=
  Claim7.holds_tied_plain_at .later [] _ _ _ _ tollwaylaw03_MoneyRatios_said (fun _ h => by cases h) (by kernel_rfl) (fun _ h => by cases h) moneyRatios_row_tie rfl ⟨rfl, rfl⟩ (by kernel_rfl) rfl tollwaylaw03_MoneyRatios_plain (by kernel_rfl)
end Go.Proofs.YteljonodbkkckaaDoor.Av
namespace Go.Proofs.YteljonodbkkckaaDoor
theorem money_ratios_card : Rows.MoneyRatiosCardSaid := Go.Proofs.YteljonodbkkckaaDoor.Av.tollwaylaw03_MoneyRatios_card
end Go.Proofs.YteljonodbkkckaaDoor
