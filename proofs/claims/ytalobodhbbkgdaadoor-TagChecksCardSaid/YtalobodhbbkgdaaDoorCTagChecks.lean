/- For any string the law TagChecks returns true, and its argument reads as before. -/
import Derived.Test.YtalobodhbbkgdaaDoorPL14
import Derived.Test.YtalobodhbbkgdaaDoorPGl
import Derived.Test.YtalobodhbbkgdaaDoorAvZ
import Derived.Test.YtalobodhbbkgdaaDoorCards
import Derived.Test.YtalobodhbbkgdaaDoorTie
import Derived.Lib.LaidTab
set_option linter.unusedVariables false
set_option linter.unusedSimpArgs false
set_option maxHeartbeats 4000000
namespace Go.Proofs.YtalobodhbbkgdaaDoor.Av
open Go Go.Proofs Go.ChangeShapes Go.WideShapes Go.ChangeAt Go.RowKit Go.Proofs.YtalobodhbbkgdaaDoor
theorem tollwaylaw11_TagChecks_contract (H : Type) (enc : TypeId × Value → H) (W : World) (base : Nat) (args : Array Value) (ds gs : List (DataW H)) (before : List MemPlace)
    (hval : ∀ (j : Nat) t v, Tryd.f9.params[j]? = some t → args[j]? = some v → Value.okWide Tryd.prog W .any base t v)
    (hW : DataW.Whole enc Tryd.prog Tryd.f9.params.toList Rows.tagChecksSpec.vars false W args.toList ds gs before) (hL : laidMet Tryd.prog Rows.tagChecksRow.laid W) :
    Calls Tryd.prog 9 args W fun e W2 => ∃ v, e = .returned v ∧ Rows.tagChecksSpec.post enc Tryd.prog Tryd.f9 false true false false W args v W2 := by
  have hW2 := hW
  obtain ⟨p, q, hA, hV, hpq, hz, hn⟩ := hW
  rw [Tryd.params9] at hA hval
  obtain ⟨v0, vs0, d0, ds0, p0, q0, hargs, rfl, rfl, h0, r0⟩ := trodAll_cons hA
  obtain ⟨rfl, rfl, rfl⟩ := trodAll_nil r0
  obtain rfl : args = #[v0] := by cases args; simp_all
  obtain ⟨x0, hr0, hw0⟩ := arg_one (f := AV.str) ((reads_str Tryd.underlying9) : Reads Tryd.prog 1 9 (fun s : List UInt8 => [.str s]) swf) (fun _ => rfl) (by kernel_rfl) (fun cs hc => by
    have := hval 0 9 v0 rfl rfl
    rw [hc] at this
    simp [Value.okWide, Tryd.underlying9, Cell.okWide, Cell.ok] at this) h0
  refine (Ret.calls_true (tollwaylaw11_TagChecks_ret x0 true (tollwaylaw11_TagChecks_true x0 hw0)) (vs := #[v0]) (Reps.cons hr0 Reps.nil) (gl_GT hL)).mono ?_
  rintro e W1 ⟨hB, rfl⟩
  exact ⟨_, rfl, post_true (tb := 4) (by kernel_rfl) (fun t ht => by
    rw [Tryd.params9] at ht
    simp only [List.mem_cons, List.not_mem_nil, or_false] at ht
    subst ht; exact ⟨by kernel_rfl, of_decide_eq_true (by kernel_rfl)⟩) rfl (by kernel_rfl) Tryd.underlying4 (fun ds hd => by
      rw [show Tryd.f9.params.size = 1 by kernel_rfl] at hd
      match ds, hd with
      | [y0], _ => rfl) hW2 hB⟩
theorem tollwaylaw11_TagChecks_own : ownKnob Tryd.prog.godebug = none := by kernel_rfl
noncomputable def tollwaylaw11_TagChecks_world (os : Os) : World := { World.holding Tryd.prog os ⟨#[], #[], []⟩ with heap := setTab 2 (tabV (H := Unit) Rows.laid_math_bits_deBruijn32tab) (setTab 3 (tabV (H := Unit) Rows.laid_math_bits_deBruijn64tab) (setTab 1 (tabV (H := Unit) Rows.laid_internal_strconv_uint64pow10) ((World.holding Tryd.prog os ⟨#[], #[], []⟩).heap))) }
def tollwaylaw11_TagChecks_zero : Array Value := #[Value.string ⟨#[]⟩]
theorem tollwaylaw11_TagChecks_met (os : Os) : laidMet Tryd.prog Rows.tagChecksRow.laid ((tollwaylaw11_TagChecks_world os).forCall (fun _ _ => 0) ⟨#[], tollwaylaw11_TagChecks_zero, []⟩).memory :=
  laidMet_of_run' 8 (by kernel_rfl) (by kernel_rfl)
theorem tollwaylaw11_TagChecks_reads (os : Os) {H : Type} (enc : TypeId × Value → H) : ∃ places, DataW.whole enc Tryd.prog ((tollwaylaw11_TagChecks_world os).forCall (fun _ _ => 0) ⟨#[], tollwaylaw11_TagChecks_zero, []⟩).memory Tryd.f9.params.toList Rows.tagChecksSpec.vars false (tollwaylaw11_TagChecks_zero).toList 3 = some ([.lit (.string [])], [], places) :=
  ⟨[], by kernel_rfl⟩
set_option maxRecDepth 100000 in
theorem tollwaylaw11_TagChecks_lifted (os : Os) (started : os.Started) (H : Type) (enc : TypeId × Value → H) (F : Stop.Interp) :
    ReturnsInHanded {} Tryd.checked os 9 .any ((OpenSpec.ofChange Rows.tagChecksSpec).preRow enc Tryd.prog Tryd.f9 Rows.tagChecksRow.domain false Rows.tagChecksRow.laid) (((OpenSpec.ofChange Rows.tagChecksSpec).at F).post enc Tryd.prog Tryd.f9 false true false false) := by
  obtain ⟨places, hx⟩ := tollwaylaw11_TagChecks_reads os enc
  refine returnsInHanded_of_row (C := Tryd.checked) (s := OpenSpec.ofChange Rows.tagChecksSpec) tollwaylaw11_TagChecks_own started (by kernel_rfl) Tryd.func9
    (witness_row_at (enc := enc) (C := Tryd.checked) false (tollwaylaw11_TagChecks_world os) tollwaylaw11_TagChecks_zero rfl (by kernel_rfl) (by kernel_rfl) (by kernel_rfl)
      (OpenSpec.preRow_of_cond 3 hx (by kernel_rfl) (fun k hk => by cases hk) (by kernel_rfl) (tollwaylaw11_TagChecks_met os))) ?_
  intro W base args ds gs before hval hW _ _ _ hL _ _
  exact tollwaylaw11_TagChecks_contract H enc W base args ds gs before hval hW hL
theorem tollwaylaw11_TagChecks_said : Rows.TagChecksSaid :=
  OpenClaim.holds_of_cond 9 Tryd.f9 rfl rfl rfl rfl rfl rfl rfl ⟨rfl, rfl, rfl, rfl, rfl⟩ rfl rfl rfl rfl rfl (by kernel_rfl) Tryd.func9 (by kernel_rfl)
    (of_decide_eq_true (by kernel_rfl)) (by unfold Func.isWrapper; first | (rw [if_pos (by decide +kernel)]; kernel_rfl) | (rw [if_neg (by decide +kernel)]; exact ⟨rfl, rfl⟩))
    (fun os started H enc _ F => by rw [OpenClaim.pre_eq_preRow]; exact tollwaylaw11_TagChecks_lifted os started H enc F)
theorem tollwaylaw11_TagChecks_plain (f : FuncId) (fn : Func) (hf : Tryd.pinned.checked.prog.funcNamed "tollway/tollwaylaw11.TagChecks" = some f) (hfn : Tryd.pinned.checked.prog.funcs[f]? = some fn) :
    false = Tryd.pinned.checked.prog.looks [] ∧ ∀ (j : Nat) t, fn.params[j]? = some t → Tryd.pinned.checked.prog.wantsStandIn t = false := by
  obtain rfl : f = 9 := Option.some.inj ((show Tryd.prog.funcNamed "tollway/tollwaylaw11.TagChecks" = some 9 by kernel_rfl).symm.trans hf) |>.symm
  obtain rfl : fn = Tryd.f9 := (Option.some.inj (Tryd.func9.symm.trans hfn)).symm
  refine ⟨by kernel_rfl, fun j t ht => ?_⟩
  rw [Tryd.params9] at ht
  have hm : t = 9 := by
    have := Array.mem_of_getElem? ht
    simp only [List.mem_toArray, List.mem_cons, List.not_mem_nil, or_false] at this
    rcases this with rfl <;> simp
  rcases hm with rfl
  · exact (show Tryd.prog.wantsStandIn 9 = false by kernel_rfl)
theorem tollwaylaw11_TagChecks_card : Rows.TagChecksCardSaid :=
  Claim7.holds_tied_plain_at .later [] _ _ _ _ tollwaylaw11_TagChecks_said (fun _ h => by cases h) (by kernel_rfl) (fun _ h => by cases h) tagChecks_row_tie rfl ⟨rfl, rfl⟩ (by kernel_rfl) rfl tollwaylaw11_TagChecks_plain (by kernel_rfl)
end Go.Proofs.YtalobodhbbkgdaaDoor.Av
namespace Go.Proofs.YtalobodhbbkgdaaDoor
theorem tag_checks_card : Rows.TagChecksCardSaid := Go.Proofs.YtalobodhbbkgdaaDoor.Av.tollwaylaw11_TagChecks_card
end Go.Proofs.YtalobodhbbkgdaaDoor
