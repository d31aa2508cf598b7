/- Calls over owned memory: what they do to a plain heap, and within a larger one. -/
import Derived.Test.YtnlaiahcemckkaaGreatDoorAvV
import Derived.ChangeArms
import Derived.ChangeShapes
import Derived.DataReads
import Derived.OpenShut
import Derived.ChangeSlices
import Derived.WalkKit
import Derived.ProofKit
import Derived.Deep.DeepHandedRow
set_option linter.unusedVariables false
set_option linter.unusedSimpArgs false
namespace Go.Proofs.YtnlaiahcemckkaaGreatDoor.Av
open Go.RowKit
variable {P : Program} {G : Nat → AV} {μ μ' : Nat → Option Loc} {ro ro' : Nat → Prop} {w w' : World}
/-- WHAT A CALL DOES TO A PLAIN HEAP: the first m blocks keep their numbers -/
def CallsM (P : Program) (G : Nat → AV) (m : Nat) (f : FuncId) (args : List AV) (blks : List Blk) (r : AV) (blks' : List Blk) : Prop :=
  ∀ μ ro w (vs : Array Value), Reps μ ro w true args vs.toList → HpRel μ ro (hpOf blks ⟨.e, 0⟩) w → GlRel G μ ro w → Calls P f vs w (CPost m μ ro w (.ret r) (hpOf blks' ⟨.e, 0⟩))
/-- the same within a larger heap, of which ρ names the blocks -/
def fspec (m : Nat) (ρ : List Nat) (args : List AV) (blks : List Blk) (r : AV) (blks' : List Blk) : CSpec where
  ok := fun _ _ => nodupB ρ && blks.all (shalB ρ.length) && args.all (shal ρ.length 4) && (blks'.all shaB && shaN 4 r) && Nat.ble m ρ.length
  req := fun args0 h => args0 = args.map (ren ρ 4) ∧ blkEqs h.m ρ ρ blks
  res := fun _ h => (.ret (mpN (fN ρ m h.nx) 4 r), ⟨putBl (fN ρ m h.nx) blks' 0 (delL ρ h.m), h.nx + blks'.length⟩)
theorem fspec_ok {m : Nat} {f : FuncId} {args : List AV} {blks : List Blk} {r : AV} {blks' : List Blk} (ρ : List Nat) (h : CallsM P G m f args blks r blks') : SpecOk P G f (fspec m ρ args blks r blks') := by
  intro args0 hp hc hreq μ ro w vs ha hh hg
  simp only [fspec, Bool.and_eq_true] at hc
  obtain ⟨rfl, hb⟩ := hreq
  obtain ⟨⟨⟨⟨hc1, hc2⟩, hc3⟩, hc'⟩, hm⟩ := hc
  have hm := Nat.le_of_ble_eq_true hm
  have ha0 : Reps (muOf ρ μ) ro w true args vs.toList := by
    refine ⟨by simpa using ha.1, fun i hi => ?_⟩
    have := ha.2 i (by simpa using hi)
    rw [map_get hi] at this
    exact ren_rep (fun i hi => if_pos hi) 4 (all_get hc3 hi) this
  have hh0 : HpRel (muOf ρ μ) ro (hpOf blks ⟨.e, 0⟩) w := hh.ren hb hc1 hc2 (fun i hi => if_pos hi) (fun i hi => if_neg (by omega))
  have hmu : ∀ i l, muOf ρ μ i = some l → i < ρ.length ∧ μ (rho ρ i) = some l := fun i l hi => by
    unfold muOf at hi
    split at hi
    · exact ⟨by assumption, hi⟩
    · cases hi
  have hin : ∀ i, i < ρ.length → rho ρ i ∈ ρ := fun i hi => by
    unfold rho; rw [List.getD_eq_getElem?_getD, List.getElem?_eq_getElem hi]; exact List.getElem_mem hi
  have hbl := (blkEqs_get hb).1
  have hbg := (blkEqs_get hb).2
  have hent : ∀ i, i < ρ.length → ∃ k, hp.m.get (rho ρ i) = some k := fun i hi => ⟨_, hbg i _ (List.getElem?_eq_getElem (hbl ▸ hi))⟩
  have hltnx : ∀ {i k}, hp.m.get i = some k → i < hp.nx := fun {i k} hi => by
    rcases Nat.lt_or_ge i hp.nx with h1 | h1
    · exact h1
    · rcases hh.obs i k hi with ⟨b, hb, _⟩ | ⟨_, _, h3⟩
      · rw [hh.nx i h1] at hb; cases hb
      · exact h3
  refine (h (muOf ρ μ) ro w vs ha0 hh0 hg.any).mono ?_
  rintro e w1 ⟨μ1, ro1, hup, hco, hh1⟩
  have hoth : ∀ {i k b}, (delL ρ hp.m).get i = some k → μ i = some b → ∀ j l, muOf ρ μ j = some l → l.1 ≠ b.1 := fun {i k b} hi hbi j l hj e => by
    obtain ⟨h1, h2⟩ := delL_get hi
    obtain ⟨h3, h4⟩ := hmu j l hj
    obtain ⟨k', hk'⟩ := hent j h3
    have := hh.inj _ _ k' k l b hk' h2 h4 hbi e
    exact h1 (this ▸ hin j h3)
  have hsame : ∀ {i k b}, (delL ρ hp.m).get i = some k → μ i = some b → w1.heap[b.1]? = w.heap[b.1]? := fun {i k b} hi hbi => hup.fr.rest b.1 (hh.lt i b hbi) (hoth hi hbi)
  let μ2 : Nat → Option Loc := fun i => if i < hp.nx then μ i else μ1 (i - hp.nx)
  have hμ2 : ∀ i b, μ i = some b → μ2 i = some b := fun i b hi => by
    have : i < hp.nx := by
      rcases Nat.lt_or_ge i hp.nx with h | h
      · exact h
      · rw [hh.nx i h] at hi; cases hi
    simp only [μ2, if_pos this]; exact hi
  have hfN : ∀ q, μ2 (fN ρ m hp.nx q) = μ1 q := fun q => by
    rcases Nat.lt_or_ge q m with h1 | h1
    · rw [fN_lt h1]
      have h2 : q < ρ.length := by omega
      obtain ⟨k, hk⟩ := hent q h2
      simp only [μ2, if_pos (hltnx hk)]
      rw [hup.ag q h1]
      unfold muOf
      rw [if_pos h2]
    · rw [fN_ge h1]
      simp only [μ2]
      rw [if_neg (by omega), Nat.add_sub_cancel_left]
  have hμ1 : ∀ i b, μ1 i = some b → μ2 (fN ρ m hp.nx i) = some b := fun i b hi => (hfN i).trans hi
  have hget1 := fun i => (hpOf_get blks' ⟨.e, 0⟩ i)
  have hnx1 : (hpOf blks' ⟨.e, 0⟩).nx = blks'.length := by
    have := (hget1 0).1
    simp only [Nat.zero_add] at this
    exact this
  have hcase : ∀ i k, (putBl (fN ρ m hp.nx) blks' 0 (delL ρ hp.m)).get i = some k →
      (i < hp.nx ∧ (delL ρ hp.m).get i = some k) ∨ (∃ q b, i = fN ρ m hp.nx q ∧ q < blks'.length ∧ (hpOf blks' ⟨.e, 0⟩).m.get q = some b.ob ∧ k = (mpB (fN ρ m hp.nx) b).ob ∧ b ∈ blks') := fun i k hi => by
    rcases putBl_get hi with ⟨q, b, h1, h2, h3⟩ | h1
    · rw [Nat.zero_add] at h2
      have hlt := (List.getElem?_eq_some_iff.1 h1).1
      refine .inr ⟨q, b, h2, hlt, ?_, h3, List.mem_of_getElem? h1⟩
      rw [(hget1 q).2, if_pos (by simp only; omega)]
      simp only [Nat.sub_zero, h1, Option.map_some]
    · exact .inl ⟨hltnx (delL_get h1).2, h1⟩
  have hfr : Fr μ ro w μ2 w1 := ⟨hup.fr.os, hup.fr.tape, hup.fr.output, hup.fr.size, hup.fr.block, fun b hb hno => hup.fr.rest b hb fun i l hi => hno _ l (hmu i l hi).2, fun i l hi => by
    simp only [μ2] at hi
    split at hi
    · exact .inl ⟨i, l, hi, rfl⟩
    · rcases hup.fr.new _ l hi with ⟨j, m, hj, hm⟩ | h
      · exact .inl ⟨_, m, (hmu j m hj).2, hm⟩
      · exact .inr h⟩
  refine ⟨μ2, ro1, ⟨fun i hi => by simp only [μ2]; rw [if_pos (by omega)], hup.up, fun b hb => (hup.nw b hb).imp_right (Or.imp_right fun ⟨i, l, h1, h2⟩ => ⟨_, l, (hmu i l h1).2, h2⟩), hfr⟩, ?_, ?_⟩
  · cases e with
    | returned x => exact mpN_rep hμ1 4 hc'.2 hco
    | panicked c => exact hco.elim
    | outgrown => exact hco.elim
  · refine ⟨fun i k hi => ?_, fun i j k l b c hi hj hbi hbj hbc => ?_, fun i k b hi hbi hr => ?_, fun i b hbi => ?_, hh1.old, fun i hi => ?_⟩
    · rcases hcase i k hi with ⟨h1, h2⟩ | ⟨q, b, rfl, hql, h2, rfl, h3⟩
      · rcases hh.obs i k (delL_get h2).2 with ⟨b, hb, hob⟩ | ⟨q1, q2, q3⟩
        · exact .inl ⟨b, hμ2 _ _ hb, hob.mono hμ2 hup.up hup.fr.block (hsame h2 hb)⟩
        · exact .inr ⟨by simp only [μ2, if_pos h1]; exact q1, q2, by simp only [fspec]; omega⟩
      · cases hit : b.it with
        | some sp =>
          have e1 : (mpB (fN ρ m hp.nx) b).ob = sp.ob := by simp [Blk.ob, mpB, hit]
          have e2 : b.ob = sp.ob := by simp [Blk.ob, hit]
          rw [e2] at h2
          obtain ⟨l, hl, hob⟩ := hh1.obsT _ _ h2
          rw [e1]
          exact .inl ⟨l, hμ1 _ _ hl, hob.it_mu⟩
        | none =>
        have e1 : (mpB (fN ρ m hp.nx) b).ob = .blk (mpB (fN ρ m hp.nx) b) := by simp [Blk.ob, mpB, hit]
        have e2 : b.ob = .blk b := by simp [Blk.ob, hit]
        rw [e2] at h2
        rw [e1]
        rcases hh1.obs _ _ h2 with ⟨l, hl, hob⟩ | ⟨q1, q2, q3⟩
        · refine .inl ⟨l, hμ1 _ _ hl, ?_⟩
          obtain ⟨cs, fr, g1, g0, g2, g3, g4, g5⟩ := BlkRel.get hob
          have h4 := hc'.1
          rw [List.all_eq_true] at h4
          have h5 := h4 b h3
          cases hp0 : b.pl with
          | true =>
            have hcc : (mpB (fN ρ m hp.nx) b).c = b.c := by simp [mpB, hp0]
            refine ⟨⟨cs, fr, g1, g0, hcc ▸ g2, fun h => by rw [hcc]; exact g3 h, g4, fun j hj => ?_⟩⟩
            rw [hcc] at hj ⊢
            have := g5 j hj
            simp only [mpB, hp0, Bool.not_true] at this ⊢
            exact this.any_mu
          | false =>
            have hcc : (mpB (fN ρ m hp.nx) b).c = b.c.map (mpN (fN ρ m hp.nx) 6) := by simp [mpB, hp0]
            refine ⟨⟨cs, fr, g1, g0, by rw [hcc]; simpa using g2, fun h => by rw [hcc]; simpa using g3 h, g4, fun j hj => ?_⟩⟩
            rw [hcc] at hj ⊢
            simp only [List.length_map] at hj
            rw [map_get hj]
            have := g5 j hj
            simp only [mpB, hp0, Bool.not_false] at this ⊢
            simp only [shaB, hp0, Bool.false_or] at h5
            exact mpN_rep hμ1 6 (all_get h5 hj) this
        · refine .inr ⟨(hfN q).trans q1, ⟨q2.1, ?_⟩, ?_⟩
          · have h6 := q2.2
            simp only [mpB]
            cases b.pl <;> simp [h6]
          · rcases Nat.lt_or_ge q m with h1 | h1
            · rw [fN_lt h1]
              obtain ⟨k, hk⟩ := hent q (by omega)
              have := hltnx hk
              simp only [fspec]; omega
            · rw [fN_ge h1]; simp only [fspec]; omega
    · rcases hcase i k hi with ⟨h1, h2⟩ | ⟨q, kb, rfl, _, h2, rfl, _⟩ <;> rcases hcase j l hj with ⟨h3, h4⟩ | ⟨q', lb, rfl, _, h4, rfl, _⟩
      · simp only [μ2, if_pos h1] at hbi; simp only [μ2, if_pos h3] at hbj
        exact hh.inj i j k l b c (delL_get h2).2 (delL_get h4).2 hbi hbj hbc
      · simp only [μ2, if_pos h1] at hbi; rw [hfN] at hbj
        rcases hup.fr.new _ c hbj with ⟨q, m, hq, hm⟩ | h
        · exact absurd (hm.trans hbc.symm) (hoth h2 hbi q m hq)
        · have := hh.lt i b hbi; omega
      · rw [hfN] at hbi; simp only [μ2, if_pos h3] at hbj
        rcases hup.fr.new _ b hbi with ⟨q, m, hq, hm⟩ | h
        · exact absurd (hm.trans hbc) (hoth h4 hbj q m hq)
        · have := hh.lt j c hbj; omega
      · rw [hfN] at hbi hbj
        have := hh1.inj _ _ _ _ b c h2 h4 hbi hbj hbc
        rw [this]
    · rcases hcase i k hi with ⟨h1, h2⟩ | ⟨q, kb, rfl, _, h2, rfl, _⟩
      · simp only [μ2, if_pos h1] at hbi
        rcases hup.nw b.1 hr with h | h | ⟨q, m, hq, hm⟩
        · exact hh.own i k b (delL_get h2).2 hbi h
        · have := hh.lt i b hbi; omega
        · exact hoth h2 hbi q m hq hm
      · rw [hfN] at hbi
        exact hh1.own _ _ b h2 hbi hr
    · simp only [μ2] at hbi
      split at hbi
      · exact Nat.lt_of_lt_of_le (hh.lt i b hbi) hup.fr.size
      · exact hh1.lt _ b hbi
    · simp only [fspec] at hi
      simp only [μ2]
      rw [if_neg (by omega)]
      exact hh1.nx _ (by rw [hnx1]; omega)
/-- FROM A VIEW: what a call does to a plain heap -/
theorem CallsM.of_view (m fuel : Nat) (hs : List CH) (ρ : List Nat) {f : FuncId} {args : List AV} {blks : List Blk} {r : AV} {blks' : List Blk} {ps : List Prop}
    (he : viewB ρ (evBody P (ev P G fuel) f args (hpOf blks ⟨.e, 0⟩) hs) = some (.ret (ren ρ 4 r), blks'.map (fun b => some (renB ρ b).ob), ps))
    (hc : (okR ρ r blks' && idM ρ m && Nat.ble m blks.length) = true) (hok : allOk ps) : CallsM P G m f args blks r blks' := by
  intro μ ro w vs ha hh hg
  cases hr : evBody P (ev P G fuel) f args (hpOf blks ⟨.e, 0⟩) hs with
  | none => rw [hr] at he; cases he
  | some x =>
    obtain ⟨⟨co, h', rest⟩, ps'⟩ := x
    rw [hr] at he
    simp only [viewB, Option.some.injEq, Prod.mk.injEq] at he
    obtain ⟨rfl, h1, rfl⟩ := he
    have hb : blkEqs h'.m ρ ρ blks' := blkEqs_of h1
    simp only [Bool.and_eq_true, okR] at hc
    obtain ⟨⟨⟨⟨hc1, hc2⟩, hc3⟩, hid⟩, hm⟩ := hc
    have hm := Nat.le_of_ble_eq_true hm
    have hid := idM_spec hid
    have hd := call_sat P G fuel f args (hpOf blks ⟨.e, 0⟩) hs _ _ hr hok μ ro w vs ha hh hg
    have hnx : (hpOf blks ⟨.e, 0⟩).nx = blks.length := by
      have := (hpOf_get blks ⟨.e, 0⟩ 0).1
      simp only [Nat.zero_add] at this
      exact this
    refine hd.mono ?_
    rintro e w1 ⟨μ', ro', hup, hco, hh1⟩
    refine ⟨muOf ρ μ', ro', ⟨fun i hi => ?_, hup.up, hup.nw, ⟨hup.fr.os, hup.fr.tape, hup.fr.output, hup.fr.size, hup.fr.block, hup.fr.rest, fun i l hi => ?_⟩⟩, ?_, hh1.ren hb hc1 hc2 (fun i hi => if_pos hi) (fun i hi => if_neg (by omega))⟩
    · unfold muOf
      rw [if_pos (hid i hi).1, (hid i hi).2]
      exact hup.ag i (by rw [hnx]; omega)
    · unfold muOf at hi
      split at hi
      · exact hup.fr.new _ l hi
      · cases hi
    · cases e <;> simp only [CoRel] at hco ⊢
      exact ren_rep (fun i hi => if_pos hi) 4 hc3 hco
end Go.Proofs.YtnlaiahcemckkaaGreatDoor.Av
/- Loops as functions; lists of elements as cells. -/
set_option linter.unusedVariables false
set_option linter.unusedSimpArgs false
namespace Go.Proofs.YtnlaiahcemckkaaGreatDoor.Av
open Go.RowKit
variable {P : Program} {G : Nat → AV}
/-! ### loops as functions -/
def iter {σ ρ : Type} (step : σ → Option (σ ⊕ ρ)) : Nat → σ → Option ρ
  | 0, _ => none
  | n + 1, s => match step s with | none => none | some (.inl s') => iter step n s' | some (.inr r) => some r
theorem iter_mono {σ ρ : Type} {step : σ → Option (σ ⊕ ρ)} : ∀ {n m : Nat} {s : σ} {r : ρ}, n ≤ m → iter step n s = some r → iter step m s = some r
  | 0, _, _, _, _, h => by cases h
  | n + 1, 0, _, _, hm, _ => by omega
  | n + 1, m + 1, s, r, hm, h => by
    simp only [iter] at h ⊢
    cases hs : step s with
    | none => rw [hs] at h; cases h
    | some x =>
      rw [hs] at h
      cases x with
      | inl s' => exact iter_mono (by omega) h
      | inr r' => exact h
/-- what a loop comes to, if it ends -/
noncomputable def lp {σ ρ : Type} (step : σ → Option (σ ⊕ ρ)) (s : σ) : Option ρ :=
  open Classical in if h : ∃ n r, iter step n s = some r then some (Classical.choose (Classical.choose_spec h)) else none
theorem lp_iff {σ ρ : Type} {step : σ → Option (σ ⊕ ρ)} {s : σ} {r : ρ} : lp step s = some r ↔ ∃ n, iter step n s = some r := by
  unfold lp
  constructor
  · intro h
    split at h
    · rename_i hx
      simp only [Option.some.injEq] at h
      exact ⟨_, h ▸ Classical.choose_spec (Classical.choose_spec hx)⟩
    · cases h
  · rintro ⟨n, h⟩
    have hx : ∃ n r, iter step n s = some r := ⟨n, r, h⟩
    rw [dif_pos hx]
    have h2 := Classical.choose_spec (Classical.choose_spec hx)
    have h3 := iter_mono (Nat.le_max_left n (Classical.choose hx)) h
    have h4 := iter_mono (Nat.le_max_right n (Classical.choose hx)) h2
    rw [h3] at h4
    exact h4.symm
theorem lp_unfold {σ ρ : Type} (step : σ → Option (σ ⊕ ρ)) (s : σ) : lp step s = match step s with | none => none | some (.inl s') => lp step s' | some (.inr r) => some r := by
  have key : ∀ r, lp step s = some r ↔ (match step s with | none => none | some (.inl s') => lp step s' | some (.inr r) => some r) = some r := fun r => by
    rw [lp_iff]
    cases hs : step s with
    | none =>
      simp only [reduceCtorEq, iff_false, not_exists]
      intro n
      cases n <;> simp [iter, hs]
    | some x =>
      cases x with
      | inl s' =>
        simp only
        rw [lp_iff]
        constructor
        · rintro ⟨n, h⟩
          cases n with
          | zero => cases h
          | succ n => simp only [iter, hs] at h; exact ⟨n, h⟩
        · rintro ⟨n, h⟩
          exact ⟨n + 1, by simp only [iter, hs]; exact h⟩
      | inr r' =>
        simp only
        constructor
        · rintro ⟨n, h⟩
          cases n with
          | zero => cases h
          | succ n => simp only [iter, hs] at h; exact h
        · intro h
          exact ⟨1, by simp only [iter, hs]; exact h⟩
  cases hl : lp step s with
  | none =>
    cases hr : (match step s with | none => none | some (.inl s') => lp step s' | some (.inr r) => some r) with
    | none => rfl
    | some r => rw [(key r).2 hr] at hl; cases hl
  | some r => exact ((key r).1 hl).symm
theorem lp_go {σ ρ : Type} {step : σ → Option (σ ⊕ ρ)} {s s' : σ} (h : step s = some (.inl s')) : lp step s = lp step s' := by rw [lp_unfold, h]
theorem lp_end {σ ρ : Type} {step : σ → Option (σ ⊕ ρ)} {s : σ} {r : ρ} (h : step s = some (.inr r)) : lp step s = some r := by rw [lp_unfold, h]
/-- a loop does what the function says -/
theorem Does.lp {σ ρ : Type} {m : Nat} {b : Code} {step : σ → Option (σ ⊕ ρ)} {H : σ → St} {X : ρ → AEx} {E : ρ → St} (hs : ∀ s s', step s = some (.inl s') → Does P G m b (H s) .normal (H s'))
    (hx : ∀ s r, step s = some (.inr r) → Does P G m b (H s) (X r) (E r) ∧ X r ≠ .normal) {s : σ} {r : ρ} (hlp : Go.Proofs.YtnlaiahcemckkaaGreatDoor.Av.lp step s = some r) : Does P G m (.loop b) (H s) (X r) (E r) := by
  obtain ⟨n, h⟩ := lp_iff.1 hlp
  clear hlp
  induction n generalizing s with
  | zero => cases h
  | succ n ih =>
    simp only [iter] at h
    cases hst : step s with
    | none => rw [hst] at h; cases h
    | some x =>
      rw [hst] at h
      cases x with
      | inl s' => exact (hs s s' hst).loop (ih h)
      | inr r' =>
        simp only [Option.some.injEq] at h
        subst h
        obtain ⟨h1, h2⟩ := hx s r' hst
        exact h1.loop_out h2
/-! ### trees -/
theorem ite_some {α : Type} {p : Prop} [Decidable p] {a b : Option α} {r : α} (h : (if p then a else b) = some r) : (p ∧ a = some r) ∨ (¬p ∧ b = some r) := by
  split at h
  · exact .inl ⟨by assumption, h⟩
  · exact .inr ⟨by assumption, h⟩
theorem guard_some {α : Type} {p : Prop} [Decidable p] {a : Option α} {r : α} (h : (if p then a else none) = some r) : p ∧ a = some r := by
  split at h
  · exact ⟨by assumption, h⟩
  · cases h
theorem bind_some {α β : Type} {o : Option α} {f : α → Option β} {r : β} (h : o.bind f = some r) : ∃ v, o = some v ∧ f v = some r := Option.bind_eq_some_iff.1 h
/-! ### elements as cells -/
/-- the cells of all -/
def fl {α : Type} (f : α → List AV) (l : List α) : List AV := l.flatMap f
theorem fl_nil {α : Type} {f : α → List AV} : fl f [] = [] := rfl
theorem fl_cons {α : Type} {f : α → List AV} {x : α} {l : List α} : fl f (x :: l) = f x ++ fl f l := rfl
theorem fl_app {α : Type} {f : α → List AV} {l m : List α} : fl f (l ++ m) = fl f l ++ fl f m := List.flatMap_append
theorem fl_snoc {α : Type} {f : α → List AV} {l : List α} {x : α} {c : List AV} (h : c = f x) : fl f l ++ c = fl f (l ++ [x]) := by simp [fl, h]
theorem fl_length {α : Type} {f : α → List AV} {z : Nat} (hz : ∀ x, (f x).length = z) : ∀ l : List α, (fl f l).length = l.length * z
  | [] => by simp [fl_nil]
  | x :: l => by rw [fl_cons, List.length_append, fl_length hz l, hz, List.length_cons, Nat.add_mul]; omega
theorem fl_drop {α : Type} {f : α → List AV} {z : Nat} (hz : ∀ x, (f x).length = z) : ∀ (l : List α) (n : Nat), (fl f l).drop (n * z) = fl f (l.drop n)
  | l, 0 => by simp
  | [], n + 1 => by simp [fl_nil]
  | x :: l, n + 1 => by
    rw [fl_cons, List.drop_succ_cons, ← fl_drop hz l n, show (n + 1) * z = (f x).length + n * z by rw [hz, Nat.add_mul]; omega, List.drop_append]
    simp
theorem fl_take {α : Type} {f : α → List AV} {z : Nat} (hz : ∀ x, (f x).length = z) : ∀ (l : List α) (n : Nat), (fl f l).take (n * z) = fl f (l.take n)
  | l, 0 => by simp [fl_nil]
  | [], n + 1 => by simp [fl_nil]
  | x :: l, n + 1 => by
    rw [fl_cons, List.take_succ_cons, fl_cons, ← fl_take hz l n, show (n + 1) * z = (f x).length + n * z by rw [hz, Nat.add_mul]; omega, List.take_append]
    simp [List.take_of_length_le (Nat.le_add_right _ _)]
theorem fl_sub {α : Type} {f : α → List AV} {z : Nat} (hz : ∀ x, (f x).length = z) {l : List α} {j : Nat} {x : α} (h : l[j]? = some x) {c : List AV} {a n : Nat} (ha : a + n ≤ z) (hc : sub (f x) a n = c) : sub (fl f l) (j * z + a) n = c := by
  have hj := (List.getElem?_eq_some_iff.1 h).1
  have hx := (List.getElem?_eq_some_iff.1 h).2
  subst hc
  unfold sub
  rw [← List.drop_drop, fl_drop hz, List.drop_eq_getElem_cons hj, hx, fl_cons, List.drop_append, hz, List.take_append]
  have : n - ((f x).length - a) = 0 := by rw [hz]; omega
  simp [this]
theorem fl_sub0 {α : Type} {f : α → List AV} {z : Nat} (hz : ∀ x, (f x).length = z) {l : List α} {j : Nat} {x : α} (h : l[j]? = some x) {c : List AV} (hc : f x = c) : sub (fl f l) (j * z) z = c := by
  have := fl_sub hz h (a := 0) (n := z) (by omega) (c := c) (by subst hc; simp [sub, List.take_of_length_le (Nat.le_of_eq (hz x))])
  simpa using this
theorem fl_sub1 {α : Type} {f : α → List AV} (hz : ∀ x, (f x).length = 1) {l : List α} {j : Nat} {x : α} (h : l[j]? = some x) {c : List AV} (hc : f x = c) : sub (fl f l) j 1 = c := by
  have := fl_sub0 hz h hc
  simpa using this
theorem fl_ne {α : Type} {f : α → List AV} {z : Nat} (hz : ∀ x, (f x).length = z + 1) {l : List α} {j : Nat} {x : α} (h : l[j]? = some x) : fl f l ≠ [] := by
  intro e
  have h1 := congrArg List.length e
  rw [fl_length hz] at h1
  have := (List.getElem?_eq_some_iff.1 h).1
  have h2 : l.length * (z + 1) = 0 := h1
  rcases Nat.mul_eq_zero.1 h2 with h3 | h3 <;> omega
theorem get_lt {α : Type} {l : List α} {j : Nat} {x : α} (h : l[j]? = some x) : j < l.length := (List.getElem?_eq_some_iff.1 h).1
theorem all_one {α : Type} {f : α → List AV} (hf : ∀ x, (f x).all AV.one = true) : ∀ l : List α, (fl f l).all AV.one = true
  | [] => rfl
  | x :: l => by rw [fl_cons, List.all_append, hf, all_one hf l]; rfl
end Go.Proofs.YtnlaiahcemckkaaGreatDoor.Av
/- Small lemmas for the lines that the program dc.py prints. -/
set_option linter.unusedVariables false
set_option linter.unusedSimpArgs false
namespace Go.Proofs.YtnlaiahcemckkaaGreatDoor.Av
open Go.RowKit
/-- blocks, in short -/
abbrev bT (c : List AV) (e : TypeId) : Blk := { c := c, e := e, ext := false, fz := 0, pl := true }
abbrev bV (c : List AV) (e : TypeId) : Blk := { c := c, e := e, ext := true, fz := 0, pl := true, o := true }
/-- within the range of a kind -/
def InR (k : IntKind) (x : Int) : Prop := k.min ≤ x ∧ x ≤ k.max
instance (k : IntKind) (x : Int) : Decidable (InR k x) := inferInstanceAs (Decidable (_ ∧ _))
theorem inR_i64 {x : Int} : InR .i64 x ↔ -9223372036854775808 ≤ x ∧ x ≤ 9223372036854775807 := Iff.rfl
theorem not_t {b : Bool} (h : b = false) : (!b) = true := by rw [h]; rfl
theorem not_f {b : Bool} (h : b = true) : (!b) = false := by rw [h]; rfl
theorem beq_t {α : Type} [BEq α] [LawfulBEq α] {a b : α} (h : a = b) : (a == b) = true := beq_iff_eq.2 h
theorem beq_f {α : Type} [BEq α] [LawfulBEq α] {a b : α} (h : ¬ a = b) : (a == b) = false := by
  cases hh : a == b with
  | false => rfl
  | true => exact absurd (beq_iff_eq.1 hh) h
def e_i64 (x : Int) : List AV := [.int .i64 x]
def e_str (x : List UInt8) : List AV := [.str x]
theorem fl_length1 {α : Type} {f : α → List AV} (hz : ∀ x, (f x).length = 1) (l : List α) : (fl f l).length = l.length := by rw [fl_length hz]; omega
theorem fl_take1 {α : Type} {f : α → List AV} (hz : ∀ x, (f x).length = 1) (l : List α) (n : Nat) : (fl f l).take n = fl f (l.take n) := by have := fl_take hz l n; rwa [Nat.mul_one] at this
theorem fl_drop1 {α : Type} {f : α → List AV} (hz : ∀ x, (f x).length = 1) (l : List α) (n : Nat) : (fl f l).drop n = fl f (l.drop n) := by have := fl_drop hz l n; rwa [Nat.mul_one] at this
theorem lst_eq {c d : List AV} {n m : Nat} (h : c = d) (k : n = m) : AV.lst c n = AV.lst d m := by rw [h, k]
theorem getD_u8 {l : List UInt8} {j : Nat} {y : UInt8} (h : l[j]? = some y) : (AV.int .u8 ((List.getD l j 0).toNat : Int)) = .int .u8 (y.toNat : Int) := by
  rw [List.getD_eq_getElem?_getD, h]
  rfl
end Go.Proofs.YtnlaiahcemckkaaGreatDoor.Av
namespace Go.Proofs.YtnlaiahcemckkaaGreatDoor.Av
end Go.Proofs.YtnlaiahcemckkaaGreatDoor.Av
namespace Go.Proofs.YtnlaiahcemckkaaGreatDoor.Av
/-- so many steps of which nothing is told -/
def cs : Nat → List CH → List CH
  | 0, l => l
  | n + 1, l => .op none .c :: cs n l
end Go.Proofs.YtnlaiahcemckkaaGreatDoor.Av
namespace Go.Proofs.YtnlaiahcemckkaaGreatDoor.Av
theorem fl_dat {α : Type} {f : α → List AV} (hf : ∀ x, (f x).all AV.dat1 = true) {l : List α} : ∀ x ∈ fl f l, x.dat1 = true := by
  intro x hx
  simp only [fl, List.mem_flatMap] at hx
  obtain ⟨b, _, h⟩ := hx
  have := hf b
  rw [List.all_eq_true] at this
  exact this x h
end Go.Proofs.YtnlaiahcemckkaaGreatDoor.Av
namespace Go.Proofs.YtnlaiahcemckkaaGreatDoor.Av
theorem ok1 {p : Prop} (h : p) : allOk [p] := h
end Go.Proofs.YtnlaiahcemckkaaGreatDoor.Av
namespace Go.Proofs.YtnlaiahcemckkaaGreatDoor.Av
theorem k2 {p : Prop} {ps : List Prop} (h : p) (t : allOk ps) : allOk (p :: ps) := by
  cases ps with
  | nil => exact h
  | cons q ps => exact ⟨h, t⟩
end Go.Proofs.YtnlaiahcemckkaaGreatDoor.Av
/- Plain laws for the functions that the program dc.py prints. -/
set_option linter.unusedVariables false
namespace Go.Proofs.YtnlaiahcemckkaaGreatDoor.Av
/-! ### plain laws of the functions that dc.py prints -/
theorem guard_i {α : Type} {p : Prop} [Decidable p] {a b : Option α} (h : p) (h2 : a = b) : (if p then a else none) = b := by rw [if_pos h, h2]
theorem ite_t {α : Type} {p : Prop} [Decidable p] {a b r : α} (h : p) (h2 : a = r) : (if p then a else b) = r := by rw [if_pos h, h2]
theorem ite_f {α : Type} {p : Prop} [Decidable p] {a b r : α} (h : ¬p) (h2 : b = r) : (if p then a else b) = r := by rw [if_neg h, h2]
theorem bind_i {α β : Type} {o : Option α} {v : α} {f : α → Option β} {r : Option β} (h : o = some v) (h2 : f v = r) : o.bind f = r := by rw [h]; exact h2
/-- over a list, with a way out -/
def foldE {α β ρ : Type} (g : β → α → ρ ⊕ β) (out : β → ρ) : List α → β → ρ
  | [], a => out a
  | x :: l, a => match g a x with | .inl r => r | .inr b => foldE g out l b
theorem lp_foldE {α β ρ σ : Type} {l : List α} {mk : β → Nat → σ} {step : σ → Option (σ ⊕ ρ)} {g : β → α → ρ ⊕ β} {out : β → ρ} (I : Nat → β → Prop)
    (hstep : ∀ k x a, l[k]? = some x → I k a → step (mk a k) = some (match g a x with | .inl r => .inr r | .inr b => .inl (mk b (k + 1))) ∧ ∀ b, g a x = .inr b → I (k + 1) b)
    (hend : ∀ a, I l.length a → step (mk a l.length) = some (.inr (out a))) : ∀ (m k : Nat) (a : β), k + m = l.length → I k a → lp step (mk a k) = some (foldE g out (l.drop k) a)
  | 0, k, a, hk, hi => by
    have hk : k = l.length := by omega
    subst hk
    rw [lp_end (hend a hi), List.drop_length]
    rfl
  | m + 1, k, a, hk, hi => by
    have hlt : k < l.length := by omega
    obtain ⟨h1, h2⟩ := hstep k l[k] a (List.getElem?_eq_getElem hlt) hi
    rw [List.drop_eq_getElem_cons hlt]
    unfold foldE
    cases hg : g a l[k] with
    | inl r => rw [hg] at h1; exact lp_end h1
    | inr b => rw [hg] at h1; rw [lp_go h1]; exact lp_foldE I hstep hend m (k + 1) b (by omega) (h2 b hg)
theorem lp_foldE0 {α β ρ σ : Type} {l : List α} {mk : β → Nat → σ} {step : σ → Option (σ ⊕ ρ)} {g : β → α → ρ ⊕ β} {out : β → ρ} (I : Nat → β → Prop)
    (hstep : ∀ k x a, l[k]? = some x → I k a → step (mk a k) = some (match g a x with | .inl r => .inr r | .inr b => .inl (mk b (k + 1))) ∧ ∀ b, g a x = .inr b → I (k + 1) b)
    (hend : ∀ a, I l.length a → step (mk a l.length) = some (.inr (out a))) {a : β} (hi : I 0 a) : lp step (mk a 0) = some (foldE g out l a) := by
  have := lp_foldE I hstep hend l.length 0 a (by omega) hi
  simpa using this
theorem foldE_foldl {α β ρ : Type} {g : β → α → β} {out : β → ρ} : ∀ (l : List α) (a : β), foldE (fun b x => .inr (g b x)) out l a = out (l.foldl g a)
  | [], a => rfl
  | x :: l, a => by simp only [foldE, List.foldl_cons]; exact foldE_foldl l _
/-- over a list, straight -/
theorem lp_foldl {α β ρ σ : Type} {l : List α} {mk : β → Nat → σ} {step : σ → Option (σ ⊕ ρ)} {g : β → α → β} {out : β → ρ} (I : Nat → β → Prop)
    (hstep : ∀ k x a, l[k]? = some x → I k a → step (mk a k) = some (.inl (mk (g a x) (k + 1))) ∧ I (k + 1) (g a x))
    (hend : ∀ a, I l.length a → step (mk a l.length) = some (.inr (out a))) {a : β} (hi : I 0 a) : lp step (mk a 0) = some (out (l.foldl g a)) := by
  have key := lp_foldE0 (mk := mk) (step := step) (g := fun b x => Sum.inr (g b x)) (out := out) I (fun k x a hx ha => ⟨(hstep k x a hx ha).1, fun b hb => by cases hb; exact (hstep k x a hx ha).2⟩) hend hi
  rw [key, foldE_foldl]
end Go.Proofs.YtnlaiahcemckkaaGreatDoor.Av
/- Data that come in: what is read of plain data describes the values. -/
set_option linter.unusedVariables false
set_option linter.unusedSimpArgs false
namespace Go.Proofs.YtnlaiahcemckkaaGreatDoor.Av
open Go.RowKit
variable {P : Program} {W : World} {H : Type} {enc : TypeId × Value → H} {sp : Nat → Bool} {held : Bool}
def HasFs (h : TypeId → List AV → Prop) : List Field → List AV → Prop
  | [], c => c = []
  | f :: fs, c => ∃ a b, c = a ++ b ∧ h f.type a ∧ HasFs h fs b
/-- the fields lie one behind the other -/
def layB (P : Program) : List Field → Nat → Nat → Bool
  | [], o, m => Nat.beq o m
  | f :: fs, o, m => Nat.beq f.offset o && layB P fs (o + P.cellsOf f.type) m
def plainT (P : Program) : Nat → TypeId → Bool
  | 0, _ => false
  | n + 1, t =>
    match P.underlying t with
    | some .bool => Nat.beq (P.cellsOf t) 1
    | some (.int _) => Nat.beq (P.cellsOf t) 1
    | some .string => Nat.beq (P.cellsOf t) 1
    | some (.slice e) => Nat.beq (P.cellsOf t) 1 && plainT P n e
    | some (.struct fs) => fs.toList.all (fun f => plainT P n f.type) && layB P fs.toList 0 (P.cellsOf t)
    | _ => false
theorem flatten_get {α : Type} {z : Nat} : ∀ {es : List (List α)} {q r : Nat}, (∀ x ∈ es, x.length = z) → r < z → es.flatten[q * z + r]? = (es[q]?).bind (·[r]?)
  | [], q, r, _, _ => by simp
  | x :: es, 0, r, h, hr => by
    have hx := h x (List.mem_cons_self ..)
    simp [List.getElem?_append_left (show r < x.length by omega)]
  | x :: es, q + 1, r, h, hr => by
    have hx := h x (List.mem_cons_self ..)
    rw [List.flatten_cons, List.getElem?_append_right (by rw [Nat.add_mul]; omega), show (q + 1) * z + r - x.length = q * z + r by rw [hx, Nat.add_mul]; omega,
      flatten_get (fun y hy => h y (List.mem_cons_of_mem _ hy)) hr]
    simp
theorem flatten_len {α : Type} {z : Nat} : ∀ {es : List (List α)}, (∀ x ∈ es, x.length = z) → es.flatten.length = es.length * z
  | [], _ => by simp
  | x :: es, h => by
    rw [List.flatten_cons, List.length_append, flatten_len (fun y hy => h y (List.mem_cons_of_mem _ hy)), h x (List.mem_cons_self ..), List.length_cons, Nat.add_mul]; omega
abbrev roW (W : World) : Nat → Prop := fun b => b < W.heap.size
/-- a list of what is there for each -/
theorem list_of {α : Type} {n : Nat} {p : Nat → α → Prop} (h : ∀ i, i < n → ∃ x, p i x) : ∃ l : List α, l.length = n ∧ ∀ i x, l[i]? = some x → p i x := by
  induction n with
  | zero => exact ⟨[], rfl, fun i x h => by simp at h⟩
  | succ n ih =>
    obtain ⟨l, h1, h2⟩ := ih fun i hi => h i (by omega)
    obtain ⟨x, hx⟩ := h n (by omega)
    refine ⟨l ++ [x], by simp [h1], fun i y hy => ?_⟩
    by_cases hi : i < l.length
    · rw [List.getElem?_append_left hi] at hy; exact h2 i y hy
    · rw [List.getElem?_append_right (by omega)] at hy
      have : i = n := by
        have := (List.getElem?_eq_some_iff.1 hy).1
        simp at this; omega
      subst this
      rw [h1] at hy
      simp at hy
      exact hy ▸ hx
theorem add_add (a : Addr) (n m : Nat) : (a.add n).add m = a.add (n + m) := by
  obtain ⟨b, o, s⟩ := a
  unfold Addr.add
  by_cases hn : n = 0 <;> by_cases hm : m = 0 <;> simp [hn, hm, Nat.add_assoc]
end Go.Proofs.YtnlaiahcemckkaaGreatDoor.Av
/- From cells that read as plain data to typed values; a law's row. -/
set_option linter.unusedVariables false
set_option linter.unusedSimpArgs false
namespace Go.Proofs.YtnlaiahcemckkaaGreatDoor.Av
open Go.RowKit Go.ChangeShapes Go.WideShapes Go.ChangeAt
variable {P : Program} {W : World} {H : Type} {enc : TypeId × Value → H} {sp : Nat → Bool} {held : Bool}
def lstf {X : Type} (f : X → List AV) (l : List X) : List AV := [.lst (fl f l) l.length]
def lwf {X : Type} (wf : X → Prop) (l : List X) : Prop := l.length ≤ maxLen ∧ ∀ x ∈ l, wf x
end Go.Proofs.YtnlaiahcemckkaaGreatDoor.Av
namespace Go.Proofs.YtnlaiahcemckkaaGreatDoor.Av
end Go.Proofs.YtnlaiahcemckkaaGreatDoor.Av
namespace Go.Proofs.YtnlaiahcemckkaaGreatDoor.Av
/-- the cells of a table that is laid -/
def litV {H : Type} : DataW H → Value
  | .lit (.int k n) => .int k n
  | _ => undef
def tabV {H : Type} : DataW H → Array Value
  | .agg l => (l.map litV).toArray
  | _ => #[]
def setTab (g : Nat) (c : Array Value) (h : Array Obj) : Array Obj := h.modify g fun | .cells _ t frozen => .cells c t frozen | o => o
end Go.Proofs.YtnlaiahcemckkaaGreatDoor.Av
