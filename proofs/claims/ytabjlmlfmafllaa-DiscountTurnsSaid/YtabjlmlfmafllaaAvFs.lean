/- Calls over owned memory: what they do to a plain heap, and within a larger one. -/
import Derived.Test.YtabjlmlfmafllaaAvV
set_option linter.unusedVariables false
set_option linter.unusedSimpArgs false
namespace Go.Proofs.Ytabjlmlfmafllaa.Av
open Go.RowKit

variable {P : Program} {G : Nat → AV} {μ μ' : Nat → Option Loc} {ro ro' : Nat → Prop} {w w' : World}

/-- WHAT A CALL DOES TO A PLAIN HEAP: the first m blocks keep their numbers -/
def CallsM (P : Program) (G : Nat → AV) (m : Nat) (f : FuncId) (args : List AV) (blks : List Blk) (r : AV) (blks' : List Blk) : Prop :=
  ∀ μ ro w (vs : Array Value), Reps μ ro w true args vs.toList → HpRel μ ro (hpOf blks ⟨.e, 0⟩) w → GlRel G μ ro w → Calls P f vs w (CPost m μ ro w (.ret r) (hpOf blks' ⟨.e, 0⟩))

/-- the same within a larger heap, of which ρ names the blocks -/
def fspec (m : Nat) (ρ : List Nat) (args : List AV) (blks : List Blk) (r : AV) (blks' : List Blk) : CSpec where
  ok := fun _ _ => nodupB ρ && blks.all (shalB ρ.length) && args.all (shal ρ.length 4) && (blks'.all shaB && shaN 4 r) && Nat.ble m ρ.length
  req := fun args0 h => args0 = args.map (ren ρ 4) ∧ blkEqs h.m ρ ρ blks
  res := fun _ h => (.ret (mpN (fN ρ m h.nx) 4 r), ⟨putBl (fN ρ m h.nx) blks' 0 (delL ρ h.m), h.nx + blks'.length⟩)

theorem fspec_ok {m : Nat} {f : FuncId} {args : List AV} {blks : List Blk} {r : AV} {blks' : List Blk} (ρ : List Nat) (h : CallsM P G m f args blks r blks') : SpecOk P G f (fspec m ρ args blks r blks') := by
  intro args0 hp hc hreq μ ro w vs ha hh hg
  simp only [fspec, Bool.and_eq_true] at hc
  obtain ⟨rfl, hb⟩ := hreq
  obtain ⟨⟨⟨⟨hc1, hc2⟩, hc3⟩, hc'⟩, hm⟩ := hc
  have hm := Nat.le_of_ble_eq_true hm
  have ha0 : Reps (muOf ρ μ) ro w true args vs.toList := by
    refine ⟨by simpa using ha.1, fun i hi => ?_⟩
    have := ha.2 i (by simpa using hi)
    rw [map_get hi] at this
    exact ren_rep (fun i hi => if_pos hi) 4 (all_get hc3 hi) this
  have hh0 : HpRel (muOf ρ μ) ro (hpOf blks ⟨.e, 0⟩) w := hh.ren hb hc1 hc2 (fun i hi => if_pos hi) (fun i hi => if_neg (by omega))
  have hmu : ∀ i l, muOf ρ μ i = some l → i < ρ.length ∧ μ (rho ρ i) = some l := fun i l hi => by
    unfold muOf at hi
    split at hi
    · exact ⟨by assumption, hi⟩
    · cases hi
  have hin : ∀ i, i < ρ.length → rho ρ i ∈ ρ := fun i hi => by
    unfold rho; rw [List.getD_eq_getElem?_getD, List.getElem?_eq_getElem hi]; exact List.getElem_mem hi
  have hbl := (blkEqs_get hb).1
  have hbg := (blkEqs_get hb).2
  have hent : ∀ i, i < ρ.length → ∃ k, hp.m.get (rho ρ i) = some k := fun i hi => ⟨_, hbg i _ (List.getElem?_eq_getElem (hbl ▸ hi))⟩
  have hltnx : ∀ {i k}, hp.m.get i = some k → i < hp.nx := fun {i k} hi => by
    rcases Nat.lt_or_ge i hp.nx with h1 | h1
    · exact h1
    · rcases hh.obs i k hi with ⟨b, hb, _⟩ | ⟨_, _, h3⟩
      · rw [hh.nx i h1] at hb; cases hb
      · exact h3
  refine (h (muOf ρ μ) ro w vs ha0 hh0 hg.any).mono ?_
  rintro e w1 ⟨μ1, ro1, hup, hco, hh1⟩
  have hoth : ∀ {i k b}, (delL ρ hp.m).get i = some k → μ i = some b → ∀ j l, muOf ρ μ j = some l → l.1 ≠ b.1 := fun {i k b} hi hbi j l hj e => by
    obtain ⟨h1, h2⟩ := delL_get hi
    obtain ⟨h3, h4⟩ := hmu j l hj
    obtain ⟨k', hk'⟩ := hent j h3
    have := hh.inj _ _ k' k l b hk' h2 h4 hbi e
    exact h1 (this ▸ hin j h3)
  have hsame : ∀ {i k b}, (delL ρ hp.m).get i = some k → μ i = some b → w1.heap[b.1]? = w.heap[b.1]? := fun {i k b} hi hbi => hup.fr.rest b.1 (hh.lt i b hbi) (hoth hi hbi)
  let μ2 : Nat → Option Loc := fun i => if i < hp.nx then μ i else μ1 (i - hp.nx)
  have hμ2 : ∀ i b, μ i = some b → μ2 i = some b := fun i b hi => by
    have : i < hp.nx := by
      rcases Nat.lt_or_ge i hp.nx with h | h
      · exact h
      · rw [hh.nx i h] at hi; cases hi
    simp only [μ2, if_pos this]; exact hi
  have hfN : ∀ q, μ2 (fN ρ m hp.nx q) = μ1 q := fun q => by
    rcases Nat.lt_or_ge q m with h1 | h1
    · rw [fN_lt h1]
      have h2 : q < ρ.length := by omega
      obtain ⟨k, hk⟩ := hent q h2
      simp only [μ2, if_pos (hltnx hk)]
      rw [hup.ag q h1]
      unfold muOf
      rw [if_pos h2]
    · rw [fN_ge h1]
      simp only [μ2]
      rw [if_neg (by omega), Nat.add_sub_cancel_left]
  have hμ1 : ∀ i b, μ1 i = some b → μ2 (fN ρ m hp.nx i) = some b := fun i b hi => (hfN i).trans hi
  have hget1 := fun i => (hpOf_get blks' ⟨.e, 0⟩ i)
  have hnx1 : (hpOf blks' ⟨.e, 0⟩).nx = blks'.length := by
    have := (hget1 0).1
    simp only [Nat.zero_add] at this
    exact this
  have hcase : ∀ i k, (putBl (fN ρ m hp.nx) blks' 0 (delL ρ hp.m)).get i = some k →
      (i < hp.nx ∧ (delL ρ hp.m).get i = some k) ∨ (∃ q b, i = fN ρ m hp.nx q ∧ q < blks'.length ∧ (hpOf blks' ⟨.e, 0⟩).m.get q = some b.ob ∧ k = (mpB (fN ρ m hp.nx) b).ob ∧ b ∈ blks') := fun i k hi => by
    rcases putBl_get hi with ⟨q, b, h1, h2, h3⟩ | h1
    · rw [Nat.zero_add] at h2
      have hlt := (List.getElem?_eq_some_iff.1 h1).1
      refine .inr ⟨q, b, h2, hlt, ?_, h3, List.mem_of_getElem? h1⟩
      rw [(hget1 q).2, if_pos (by simp only; omega)]
      simp only [Nat.sub_zero, h1, Option.map_some]
    · exact .inl ⟨hltnx (delL_get h1).2, h1⟩
  have hfr : Fr μ ro w μ2 w1 := ⟨hup.fr.os, hup.fr.tape, hup.fr.output, hup.fr.size, hup.fr.block, fun b hb hno => hup.fr.rest b hb fun i l hi => hno _ l (hmu i l hi).2, fun i l hi => by
    simp only [μ2] at hi
    split at hi
    · exact .inl ⟨i, l, hi, rfl⟩
    · rcases hup.fr.new _ l hi with ⟨j, m, hj, hm⟩ | h
      · exact .inl ⟨_, m, (hmu j m hj).2, hm⟩
      · exact .inr h⟩
  refine ⟨μ2, ro1, ⟨fun i hi => by simp only [μ2]; rw [if_pos (by omega)], hup.up, fun b hb => (hup.nw b hb).imp_right (Or.imp_right fun ⟨i, l, h1, h2⟩ => ⟨_, l, (hmu i l h1).2, h2⟩), hfr⟩, ?_, ?_⟩
  · cases e with
    | returned x => exact mpN_rep hμ1 4 hc'.2 hco
    | panicked c => exact hco.elim
    | outgrown => exact hco.elim
  · refine ⟨fun i k hi => ?_, fun i j k l b c hi hj hbi hbj hbc => ?_, fun i k b hi hbi hr => ?_, fun i b hbi => ?_, hh1.old, fun i hi => ?_⟩
    · rcases hcase i k hi with ⟨h1, h2⟩ | ⟨q, b, rfl, hql, h2, rfl, h3⟩
      · rcases hh.obs i k (delL_get h2).2 with ⟨b, hb, hob⟩ | ⟨q1, q2, q3⟩
        · exact .inl ⟨b, hμ2 _ _ hb, hob.mono hμ2 hup.up hup.fr.block (hsame h2 hb)⟩
        · exact .inr ⟨by simp only [μ2, if_pos h1]; exact q1, q2, by simp only [fspec]; omega⟩
      · cases hit : b.it with
        | some sp =>
          have e1 : (mpB (fN ρ m hp.nx) b).ob = .iter sp.1 sp.2 := by simp [Blk.ob, mpB, hit]
          have e2 : b.ob = .iter sp.1 sp.2 := by simp [Blk.ob, hit]
          rw [e2] at h2
          obtain ⟨l, hl, hob⟩ := hh1.obsI _ _ _ h2
          rw [e1]
          exact .inl ⟨l, hμ1 _ _ hl, hob⟩
        | none =>
        have e1 : (mpB (fN ρ m hp.nx) b).ob = .blk (mpB (fN ρ m hp.nx) b) := by simp [Blk.ob, mpB, hit]
        have e2 : b.ob = .blk b := by simp [Blk.ob, hit]
        rw [e2] at h2
        rw [e1]
        rcases hh1.obs _ _ h2 with ⟨l, hl, hob⟩ | ⟨q1, q2, q3⟩
        · refine .inl ⟨l, hμ1 _ _ hl, ?_⟩
          obtain ⟨cs, fr, g1, g0, g2, g3, g4, g5⟩ := BlkRel.get hob
          have h4 := hc'.1
          rw [List.all_eq_true] at h4
          have h5 := h4 b h3
          cases hp0 : b.pl with
          | true =>
            have hcc : (mpB (fN ρ m hp.nx) b).c = b.c := by simp [mpB, hp0]
            refine ⟨⟨cs, fr, g1, g0, hcc ▸ g2, fun h => by rw [hcc]; exact g3 h, g4, fun j hj => ?_⟩⟩
            rw [hcc] at hj ⊢
            have := g5 j hj
            simp only [mpB, hp0, Bool.not_true] at this ⊢
            exact this.any_mu
          | false =>
            have hcc : (mpB (fN ρ m hp.nx) b).c = b.c.map (mpN (fN ρ m hp.nx) 6) := by simp [mpB, hp0]
            refine ⟨⟨cs, fr, g1, g0, by rw [hcc]; simpa using g2, fun h => by rw [hcc]; simpa using g3 h, g4, fun j hj => ?_⟩⟩
            rw [hcc] at hj ⊢
            simp only [List.length_map] at hj
            rw [map_get hj]
            have := g5 j hj
            simp only [mpB, hp0, Bool.not_false] at this ⊢
            simp only [shaB, hp0, Bool.false_or] at h5
            exact mpN_rep hμ1 6 (all_get h5 hj) this
        · refine .inr ⟨(hfN q).trans q1, ⟨q2.1, ?_⟩, ?_⟩
          · have h6 := q2.2
            simp only [mpB]
            cases b.pl <;> simp [h6]
          · rcases Nat.lt_or_ge q m with h1 | h1
            · rw [fN_lt h1]
              obtain ⟨k, hk⟩ := hent q (by omega)
              have := hltnx hk
              simp only [fspec]; omega
            · rw [fN_ge h1]; simp only [fspec]; omega
    · rcases hcase i k hi with ⟨h1, h2⟩ | ⟨q, kb, rfl, _, h2, rfl, _⟩ <;> rcases hcase j l hj with ⟨h3, h4⟩ | ⟨q', lb, rfl, _, h4, rfl, _⟩
      · simp only [μ2, if_pos h1] at hbi; simp only [μ2, if_pos h3] at hbj
        exact hh.inj i j k l b c (delL_get h2).2 (delL_get h4).2 hbi hbj hbc
      · simp only [μ2, if_pos h1] at hbi; rw [hfN] at hbj
        rcases hup.fr.new _ c hbj with ⟨q, m, hq, hm⟩ | h
        · exact absurd (hm.trans hbc.symm) (hoth h2 hbi q m hq)
        · have := hh.lt i b hbi; omega
      · rw [hfN] at hbi; simp only [μ2, if_pos h3] at hbj
        rcases hup.fr.new _ b hbi with ⟨q, m, hq, hm⟩ | h
        · exact absurd (hm.trans hbc) (hoth h4 hbj q m hq)
        · have := hh.lt j c hbj; omega
      · rw [hfN] at hbi hbj
        have := hh1.inj _ _ _ _ b c h2 h4 hbi hbj hbc
        rw [this]
    · rcases hcase i k hi with ⟨h1, h2⟩ | ⟨q, kb, rfl, _, h2, rfl, _⟩
      · simp only [μ2, if_pos h1] at hbi
        rcases hup.nw b.1 hr with h | h | ⟨q, m, hq, hm⟩
        · exact hh.own i k b (delL_get h2).2 hbi h
        · have := hh.lt i b hbi; omega
        · exact hoth h2 hbi q m hq hm
      · rw [hfN] at hbi
        exact hh1.own _ _ b h2 hbi hr
    · simp only [μ2] at hbi
      split at hbi
      · exact Nat.lt_of_lt_of_le (hh.lt i b hbi) hup.fr.size
      · exact hh1.lt _ b hbi
    · simp only [fspec] at hi
      simp only [μ2]
      rw [if_neg (by omega)]
      exact hh1.nx _ (by rw [hnx1]; omega)

/-- FROM A VIEW: what a call does to a plain heap -/
theorem CallsM.of_view (m fuel : Nat) (hs : List CH) (ρ : List Nat) {f : FuncId} {args : List AV} {blks : List Blk} {r : AV} {blks' : List Blk} {ps : List Prop}
    (he : viewB ρ (evBody P (ev P G fuel) f args (hpOf blks ⟨.e, 0⟩) hs) = some (.ret (ren ρ 4 r), blks'.map (fun b => some (renB ρ b).ob), ps))
    (hc : (okR ρ r blks' && idM ρ m && Nat.ble m blks.length) = true) (hok : allOk ps) : CallsM P G m f args blks r blks' := by
  intro μ ro w vs ha hh hg
  cases hr : evBody P (ev P G fuel) f args (hpOf blks ⟨.e, 0⟩) hs with
  | none => rw [hr] at he; cases he
  | some x =>
    obtain ⟨⟨co, h', rest⟩, ps'⟩ := x
    rw [hr] at he
    simp only [viewB, Option.some.injEq, Prod.mk.injEq] at he
    obtain ⟨rfl, h1, rfl⟩ := he
    have hb : blkEqs h'.m ρ ρ blks' := blkEqs_of h1
    simp only [Bool.and_eq_true, okR] at hc
    obtain ⟨⟨⟨⟨hc1, hc2⟩, hc3⟩, hid⟩, hm⟩ := hc
    have hm := Nat.le_of_ble_eq_true hm
    have hid := idM_spec hid
    have hd := call_sat P G fuel f args (hpOf blks ⟨.e, 0⟩) hs _ _ hr hok μ ro w vs ha hh hg
    have hnx : (hpOf blks ⟨.e, 0⟩).nx = blks.length := by
      have := (hpOf_get blks ⟨.e, 0⟩ 0).1
      simp only [Nat.zero_add] at this
      exact this
    refine hd.mono ?_
    rintro e w1 ⟨μ', ro', hup, hco, hh1⟩
    refine ⟨muOf ρ μ', ro', ⟨fun i hi => ?_, hup.up, hup.nw, ⟨hup.fr.os, hup.fr.tape, hup.fr.output, hup.fr.size, hup.fr.block, hup.fr.rest, fun i l hi => ?_⟩⟩, ?_, hh1.ren hb hc1 hc2 (fun i hi => if_pos hi) (fun i hi => if_neg (by omega))⟩
    · unfold muOf
      rw [if_pos (hid i hi).1, (hid i hi).2]
      exact hup.ag i (by rw [hnx]; omega)
    · unfold muOf at hi
      split at hi
      · exact hup.fr.new _ l hi
      · cases hi
    · cases e <;> simp only [CoRel] at hco ⊢
      exact ren_rep (fun i hi => if_pos hi) 4 hc3 hco
/-- a contract at no element, from that at nil and that at an empty slice that is not nil -/
theorem Ret.lst0 {f : FuncId} {r : AV} {blks : List Blk} (h1 : Ret P G f [.nils] r blks) (h2 : Ret P G f [.nen] r blks) : Ret P G f [.lst [] 0] r blks := fun ro w vs hro ha hg => by
  obtain ⟨x, rest, hv, hx, hr⟩ := ha.head
  have hn : rest = [] := List.length_eq_zero_iff.1 (by simpa using hr.1)
  subst hn
  have key : ∀ v, Rep (fun _ => none) ro w false v x → Reps (fun _ => none) ro w false [v] vs.toList := fun v h => by rw [hv]; exact Reps.cons h Reps.nil
  rcases hx.lst_cases with h | h
  · exact h1 ro w vs hro (key _ h) hg
  · exact h2 ro w vs hro (key _ h) hg
end Go.Proofs.Ytabjlmlfmafllaa.Av
