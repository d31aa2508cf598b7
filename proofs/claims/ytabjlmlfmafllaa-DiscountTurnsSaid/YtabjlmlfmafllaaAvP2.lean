/- Other numbers for the same; plain states; a cut. -/
import Derived.Test.YtabjlmlfmafllaaAvP
set_option linter.unusedVariables false
set_option linter.unusedSimpArgs false
namespace Go.Proofs.Ytabjlmlfmafllaa.Av
open Go.RowKit

variable {P : Program} {G : Nat → AV} {μ μ' : Nat → Option Loc} {ro ro' : Nat → Prop} {w w' : World}

def memN (x : Nat) : List Nat → Bool
  | [] => false
  | y :: l => match Nat.beq x y with | true => true | false => memN x l
theorem memN_iff {x : Nat} : ∀ {l : List Nat}, memN x l = true ↔ x ∈ l
  | [] => by simp [memN]
  | y :: l => by
    simp only [memN, List.mem_cons]
    cases h : Nat.beq x y with
    | true => simp [Nat.eq_of_beq_eq_true h]
    | false =>
      have : x ≠ y := Nat.ne_of_beq_eq_false h
      simp [this, memN_iff]

theorem memN_cons {x y : Nat} {l : List Nat} : memN x (y :: l) = if x = y then true else memN x l := by
  show (match Nat.beq x y with | true => true | false => memN x l) = _
  cases h : Nat.beq x y with
  | true => rw [if_pos (Nat.eq_of_beq_eq_true h)]
  | false => rw [if_neg (Nat.ne_of_beq_eq_false h)]
def rho (r : List Nat) (i : Nat) : Nat := r.getD i 0
/-- a value, by the numbers r -/
def ren (r : List Nat) : Nat → AV → AV
  | 0, v => match v with | .ptr i o => .ptr (rho r i) o | .sl i o l c e z => .sl (rho r i) o l c e z | .vec i n z => .vec (rho r i) n z | v => v
  | k + 1, v => match v with | .ptr i o => .ptr (rho r i) o | .sl i o l c e z => .sl (rho r i) o l c e z | .vec i n z => .vec (rho r i) n z | .agg c => .agg (c.map (ren r k)) | .tup c => .tup (c.map (ren r k)) | .fn f a c => .fn f (a.map (ren r k)) (c.map (ren r k)) | .ifc t v => .ifc t (ren r k v) | v => v
/-- it shows numbers below m only, and not too deep down -/
def shal (m : Nat) : Nat → AV → Bool
  | 0, v => match v with | .ptr i _ => Nat.blt i m | .sl i _ _ _ _ _ => Nat.blt i m | .vec i _ _ => Nat.blt i m | v => v.pl1
  | k + 1, v => match v with | .ptr i _ => Nat.blt i m | .sl i _ _ _ _ _ => Nat.blt i m | .vec i _ _ => Nat.blt i m | .agg c => c.all (shal m k) | .tup c => c.all (shal m k) | .fn _ a c => a.all (shal m k) && c.all (shal m k) | .ifc _ v => shal m k v | v => v.pl1

theorem pl1_mu {μ'' : Nat → Option Loc} {v : AV} {x : Value} {o : Bool} (h : Rep μ ro w o v x) (hp : v.pl1 = true) : Rep μ'' ro w o v x := by
  have := (h.pl1 (o' := false) hp).any_mu (μ'' := μ'')
  cases o
  · exact this
  · exact this.up

theorem ren_rep {r : List Nat} (hμ : ∀ i, i < r.length → μ' i = μ (rho r i)) : ∀ (k : Nat) {o : Bool} {v : AV} {x : Value}, shal r.length k v = true → Rep μ ro w o (ren r k v) x → Rep μ' ro w o v x
  | 0, o, v, x, hs, h => by
    cases v <;> simp only [shal] at hs <;> simp only [ren] at h
    case ptr i f => cases h with | ptr h => exact .ptr ((hμ i (Nat.le_of_ble_eq_true hs)).trans h)
    case sl => cases h with | sl h h1 h2 h3 => exact .sl ((hμ _ (Nat.le_of_ble_eq_true hs)).trans h) h1 h2 h3
    case vec => cases h with
      | vec h h1 h3 => exact .vec ((hμ _ (Nat.le_of_ble_eq_true hs)).trans h) h1 h3
      | vecn => exact .vecn
    all_goals exact pl1_mu h hs
  | k + 1, o, v, x, hs, h => by
    cases v <;> simp only [shal] at hs <;> simp only [ren] at h
    case ptr i f => cases h with | ptr h => exact .ptr ((hμ i (Nat.le_of_ble_eq_true hs)).trans h)
    case sl => cases h with | sl h h1 h2 h3 => exact .sl ((hμ _ (Nat.le_of_ble_eq_true hs)).trans h) h1 h2 h3
    case vec => cases h with
      | vec h h1 h3 => exact .vec ((hμ _ (Nat.le_of_ble_eq_true hs)).trans h) h1 h3
      | vecn => exact .vecn
    case agg c =>
      cases h with
      | agg hn hr =>
        refine .agg (by simpa using hn) fun i hi => ren_rep hμ k (all_get hs hi) ?_
        have := hr i (by simpa using hi)
        rwa [map_get hi] at this
    case tup c =>
      cases h with
      | tup hn hr =>
        refine .tup (by simpa using hn) fun i hi => ren_rep hμ k (all_get hs hi) ?_
        have := hr i (by simpa using hi)
        rwa [map_get hi] at this
    case ifc t v => cases h with | ifc h => exact .ifc (ren_rep hμ k hs h)
    case fn f a c =>
      simp only [Bool.and_eq_true] at hs
      cases h with
      | fn hn hr hm hs' =>
        refine .fn (by simpa using hn) (fun i hi => ren_rep hμ k (all_get hs.1 hi) ?_) (by simpa using hm) fun i hi => ren_rep hμ k (all_get hs.2 hi) ?_
        · have := hr i (by simpa using hi)
          rwa [map_get hi] at this
        · have := hs' i (by simpa using hi)
          rwa [map_get hi] at this
    all_goals exact pl1_mu h hs

def renB (r : List Nat) (b : Blk) : Blk := { b with c := match b.pl with | true => b.c | false => b.c.map (ren r 6) }
def shalB (m : Nat) (b : Blk) : Bool := b.pl || b.c.all (shal m 6)

def nodupB : List Nat → Bool
  | [] => true
  | x :: l => !memN x l && nodupB l
theorem nodupB_inj : ∀ {l : List Nat}, nodupB l = true → ∀ i j, i < l.length → j < l.length → rho l i = rho l j → i = j
  | [], _, i, _, h, _, _ => by simp at h
  | x :: l, hb, i, j, hi, hj, e => by
    simp only [nodupB, Bool.and_eq_true, Bool.not_eq_true'] at hb
    have no : ∀ k, k < l.length → rho l k ≠ x := fun k hk he => by
      have : x ∈ l := by rw [← he]; unfold rho; rw [List.getD_eq_getElem?_getD, List.getElem?_eq_getElem hk]; exact List.getElem_mem hk
      rw [memN_iff.2 this] at hb; cases hb.1
    cases i with
    | zero =>
      cases j with
      | zero => rfl
      | succ j => exact absurd e.symm (no j (by simpa using hj))
    | succ i =>
      cases j with
      | zero => exact absurd e (no i (by simpa using hi))
      | succ j => rw [nodupB_inj hb.2 i j (by simpa using hi) (by simpa using hj) e]

/-- the blocks, by the numbers r -/
def blkEqs (m : Tr Ob) (r : List Nat) : List Nat → List Blk → Prop
  | i :: l, b :: bs => m.get i = some (renB r b).ob ∧ blkEqs m r l bs
  | [], [] => True
  | _, _ => False
theorem blkEqs_get {m : Tr Ob} {r : List Nat} : ∀ {l : List Nat} {bs : List Blk}, blkEqs m r l bs → l.length = bs.length ∧ ∀ i b, bs[i]? = some b → m.get (rho l i) = some (renB r b).ob
  | [], [], _ => ⟨rfl, fun i b h => by simp at h⟩
  | i :: l, b :: bs, ⟨h1, h2⟩ => by
    obtain ⟨h3, h4⟩ := blkEqs_get h2
    refine ⟨by simp [h3], fun k b' hb => ?_⟩
    cases k with
    | zero => simp only [List.getElem?_cons_zero, Option.some.injEq] at hb; subst hb; exact h1
    | succ k => exact h4 k b' (by simpa using hb)
  | [], _ :: _, h => h.elim
  | _ :: _, [], h => h.elim

theorem HpRel.ren {h : Hp} {r : List Nat} {blks : List Blk} (hh : HpRel μ ro h w) (hb : blkEqs h.m r r blks) (hn : nodupB r = true) (hs : blks.all (shalB r.length) = true)
    (hμ : ∀ i, i < r.length → μ' i = μ (rho r i)) (hμ0 : ∀ i, r.length ≤ i → μ' i = none) : HpRel μ' ro (hpOf blks ⟨.e, 0⟩) w := by
  obtain ⟨hl, hget⟩ := blkEqs_get hb
  have hin : ∀ i k, (hpOf blks ⟨.e, 0⟩).m.get i = some k → i < r.length ∧ ∃ b, blks[i]? = some b ∧ k = b.ob := fun i k hk => by
    rw [(hpOf_get blks ⟨.e, 0⟩ i).2] at hk
    split at hk
    · rename_i hc
      simp only [Nat.zero_add] at hc
      simp only [Nat.sub_zero, Option.map_eq_some_iff] at hk
      obtain ⟨b, h1, rfl⟩ := hk
      exact ⟨by rw [hl]; exact hc.2, b, h1, rfl⟩
    · simp [Tr.get] at hk
  refine ⟨fun i k hk => ?_, fun i j k l b c hi hj hbi hbj e => ?_, fun i k b hi hbi => ?_, fun i b hi => ?_, hh.old, fun i hi => ?_⟩
  · obtain ⟨h1, b, h2, rfl⟩ := hin i k hk
    cases hit : b.it with
    | some sp =>
      have e1 : (renB r b).ob = .iter sp.1 sp.2 := by simp [Blk.ob, renB, hit]
      have e2 : b.ob = .iter sp.1 sp.2 := by simp [Blk.ob, hit]
      have hg := hget i b h2
      rw [e1] at hg
      obtain ⟨l, h3, h4⟩ := hh.obsI _ _ _ hg
      rw [e2]
      exact .inl ⟨l, (hμ i h1).trans h3, h4⟩
    | none =>
    have e1 : (renB r b).ob = .blk (renB r b) := by simp [Blk.ob, renB, hit]
    have e2 : b.ob = .blk b := by simp [Blk.ob, hit]
    have hg := hget i b h2
    rw [e1] at hg
    rw [e2]
    rcases hh.obs _ _ hg with ⟨l, h3, h4⟩ | ⟨q1, q2, q3⟩
    rotate_left
    · refine .inr ⟨(hμ i h1).trans q1, ⟨q2.1, ?_⟩, by rw [(hpOf_get blks ⟨.e, 0⟩ 0).1]; simp only [Nat.zero_add]; omega⟩
      have := q2.2
      simp only [renB] at this
      split at this
      · exact this
      · exact List.map_eq_nil_iff.1 this
    refine .inl ⟨l, (hμ i h1).trans h3, ?_⟩
    obtain ⟨cs, fr, g1, g0, g2, g3, g4, g5⟩ := h4.get
    have hsb : shalB r.length b = true := by rw [List.all_eq_true] at hs; exact hs b (List.mem_of_getElem? h2)
    cases hp : b.pl with
    | true =>
      have hc : (renB r b).c = b.c := by simp [renB, hp]
      rw [hc] at g2 g3 g5
      refine ⟨⟨cs, fr, g1, g0, g2, g3, g4, fun j hj => ?_⟩⟩
      have := g5 j hj
      simp only [renB, hp, Bool.not_true] at this ⊢
      exact this.any_mu
    | false =>
      have hc : (renB r b).c = b.c.map (Go.Proofs.Ytabjlmlfmafllaa.Av.ren r 6) := by simp [renB, hp]
      rw [hc] at g2 g3 g5
      simp only [List.length_map] at g2 g3 g5
      refine ⟨⟨cs, fr, g1, g0, g2, g3, g4, fun j hj => ?_⟩⟩
      have := g5 j hj
      rw [map_get hj] at this
      simp only [renB, hp, Bool.not_false] at this ⊢
      simp only [shalB, hp, Bool.false_or] at hsb
      exact ren_rep hμ 6 (all_get hsb hj) this
  · obtain ⟨h1, x, h2, rfl⟩ := hin i k hi
    obtain ⟨h3, y, h4, rfl⟩ := hin j l hj
    rw [hμ i h1] at hbi
    rw [hμ j h3] at hbj
    exact nodupB_inj hn i j h1 h3 (hh.inj _ _ _ _ b c (hget i x h2) (hget j y h4) hbi hbj e)
  · obtain ⟨h1, x, h2, rfl⟩ := hin i k hi
    rw [hμ i h1] at hbi
    exact hh.own _ _ b (hget i x h2) hbi
  · by_cases hc : i < r.length
    · rw [hμ i hc] at hi; exact hh.lt _ b hi
    · rw [hμ0 i (by omega)] at hi; cases hi
  · rw [(hpOf_get blks ⟨.e, 0⟩ i).1] at hi
    simp only [Nat.zero_add] at hi
    exact hμ0 i (by omega)

/-- the numbers' places, by r -/
def muOf (r : List Nat) (μ : Nat → Option Loc) (i : Nat) : Option Loc := if i < r.length then μ (rho r i) else none

/-! ### states in their plain form -/
def putTms : List (Nat × AV) → Tr AV → Tr AV
  | [], t => t
  | (k, v) :: l, t => (putTms l t).put k (some v)
def S (nt : Nat) (tms : List (Nat × AV)) (blks : List Blk) : St := ⟨putTms tms .e, nt, hpOf blks ⟨.e, 0⟩, []⟩
def tmEqs (t : Tr AV) (r : List Nat) : List (Nat × AV) → Prop
  | [] => True
  | (k, v) :: l => t.get k = some (ren r 4 v) ∧ tmEqs t r l
theorem tmEqs_get {t : Tr AV} {r : List Nat} : ∀ {l : List (Nat × AV)} {k : Nat} {v : AV}, tmEqs t r l → (putTms l .e).get k = some v → t.get k = some (ren r 4 v) ∧ ∃ x ∈ l, x.2 = v
  | [], k, v, _, h => by simp [putTms, Tr.get] at h
  | (k0, v0) :: l, k, v, ⟨h1, h2⟩, h => by
    simp only [putTms, Tr.get_put] at h
    split at h
    · rename_i e
      simp only [Option.some.injEq] at h
      subst h; subst e
      exact ⟨h1, _, List.mem_cons_self .., rfl⟩
    · obtain ⟨h3, x, h4, h5⟩ := tmEqs_get h2 h
      exact ⟨h3, x, List.mem_cons_of_mem _ h4, h5⟩

theorem Sub.of_renM {s : St} {nt : Nat} {tms : List (Nat × AV)} {blks : List Blk} (ρ : List Nat) (hnt : s.nt = nt) (hdf : s.df = []) (ht : tmEqs s.tm ρ tms) (hb : blkEqs s.hp.m ρ ρ blks)
    (hc : (nodupB ρ && blks.all (shalB ρ.length) && tms.all fun x => shal ρ.length 4 x.2) = true) (m : Nat) (hm : ∀ i, i < m → i < ρ.length ∧ rho ρ i = i) : Sub m s (S nt tms blks) := by
  intro G μ ro w a hst
  simp only [Bool.and_eq_true] at hc
  refine ⟨muOf ρ μ, ro, fun i hi => by unfold muOf; rw [if_pos (hm i hi).1, (hm i hi).2], fun i l hi => ?_, fun _ h => h, fun _ h => .inl h, ⟨fun t v hv => ?_, hst.nt.trans hnt, hst.hp.ren hb hc.1.1 hc.1.2 (fun i hi => if_pos hi) (fun i hi => if_neg (by omega)), hst.gl.any, ?_⟩⟩
  · unfold muOf at hi
    split at hi
    · exact ⟨_, l, hi, rfl⟩
    · cases hi
  · obtain ⟨h1, x, h2, rfl⟩ := tmEqs_get ht hv
    have h3 := hc.2
    rw [List.all_eq_true] at h3
    exact ren_rep (fun i hi => if_pos hi) 4 (h3 x h2) (hst.tm t _ h1)
  · have := hst.df
    rw [hdf] at this
    cases hq : a.defers with
    | nil => trivial
    | cons x y => rw [hq] at this; exact this.elim


theorem Sub.of_ren {s : St} {nt : Nat} {tms : List (Nat × AV)} {blks : List Blk} (ρ : List Nat) (hnt : s.nt = nt) (hdf : s.df = []) (ht : tmEqs s.tm ρ tms) (hb : blkEqs s.hp.m ρ ρ blks)
    (hc : (nodupB ρ && blks.all (shalB ρ.length) && tms.all fun x => shal ρ.length 4 x.2) = true) : Sub 0 s (S nt tms blks) := Sub.of_renM ρ hnt hdf ht hb hc 0 (fun i hi => absurd hi (Nat.not_lt_zero i))
/-- the first m are themselves -/
def idM (ρ : List Nat) (m : Nat) : Bool := (List.range m).all fun i => Nat.blt i ρ.length && Nat.beq (rho ρ i) i
theorem idM_spec {ρ : List Nat} {m : Nat} (h : idM ρ m = true) : ∀ i, i < m → i < ρ.length ∧ rho ρ i = i := fun i hi => by
  unfold idM at h
  rw [List.all_eq_true] at h
  have := h i (List.mem_range.2 hi)
  simp only [Bool.and_eq_true] at this
  exact ⟨Nat.le_of_ble_eq_true this.1, Nat.eq_of_beq_eq_true this.2⟩

def okS (ρ : List Nat) (tms : List (Nat × AV)) (blks : List Blk) : Bool := nodupB ρ && blks.all (shalB ρ.length) && tms.all fun x => shal ρ.length 4 x.2
def okR (ρ : List Nat) (r : AV) (blks : List Blk) : Bool := nodupB ρ && blks.all (shalB ρ.length) && shal ρ.length 4 r

/-- the temporaries are these, as owed -/
def oweT (t : Tr AV) (r : List Nat) : List (Nat × AV) → W Unit
  | [] => W.pure ()
  | (k, v) :: l => match t.get k with | some v' => (W.owe (v' = ren r 4 v)).bind fun _ => oweT t r l | none => W.fail
theorem oweT_sat {t : Tr AV} {r : List Nat} : ∀ {l : List (Nat × AV)}, (oweT t r l).sat fun _ => tmEqs t r l
  | [] => W.sat_pure trivial
  | (k, v) :: l => by
    unfold oweT
    split
    · rename_i v' hv
      refine W.sat_bind W.sat_owe fun _ h1 => W.sat_mono oweT_sat fun _ h2 => ⟨?_, h2⟩
      rw [hv, h1]
    · exact W.sat_fail
def oweB (m : Tr Ob) (r : List Nat) : List Nat → List Blk → W Unit
  | [], [] => W.pure ()
  | i :: l, b :: bs => match m.get i, b.it with | some (.blk b'), none => (W.owe (b' = renB r b)).bind fun _ => oweB m r l bs | some (.iter s p), some (s', p') => (W.owe (s = s' ∧ p = p')).bind fun _ => oweB m r l bs | _, _ => W.fail
  | _, _ => W.fail
theorem oweB_sat {m : Tr Ob} {r : List Nat} : ∀ {l : List Nat} {bs : List Blk}, (oweB m r l bs).sat fun _ => blkEqs m r l bs
  | [], [] => W.sat_pure trivial
  | i :: l, b :: bs => by
    unfold oweB
    split
    · rename_i b' hm hit
      refine W.sat_bind W.sat_owe fun _ h1 => W.sat_mono oweB_sat fun _ h2 => ⟨?_, h2⟩
      have e1 : (renB r b).ob = .blk (renB r b) := by simp [Blk.ob, renB, hit]
      rw [e1, hm, h1]
    · rename_i s p s' p' hm hit
      refine W.sat_bind W.sat_owe fun _ h1 => W.sat_mono oweB_sat fun _ h2 => ⟨?_, h2⟩
      have e1 : (renB r b).ob = .iter s' p' := by simp [Blk.ob, renB, hit]
      rw [e1, hm, h1.1, h1.2]
    · exact W.sat_fail
  | [], _ :: _ => W.sat_fail
  | _ :: _, [] => W.sat_fail
/-- a state brought down to a plain one -/
def aSub (n : Nat) (s : St) (ρ : List Nat) (tms : List (Nat × AV)) (blks : List Blk) : W Unit :=
  match n, s.df, okS ρ tms blks with
  | 0, [], true => (oweT s.tm ρ tms).bind fun _ => oweB s.hp.m ρ ρ blks
  | _, _, _ => W.fail
theorem aSub_sat {n : Nat} {s : St} {ρ : List Nat} {tms : List (Nat × AV)} {blks : List Blk} : (aSub n s ρ tms blks).sat fun _ => Sub n s (S s.nt tms blks) := by
  unfold aSub
  split
  · rename_i hd hc
    exact W.sat_bind oweT_sat fun _ h1 => W.sat_mono oweB_sat fun _ h2 => Sub.of_ren ρ rfl hd h1 h2 hc
  · exact W.sat_fail
end Go.Proofs.Ytabjlmlfmafllaa.Av
