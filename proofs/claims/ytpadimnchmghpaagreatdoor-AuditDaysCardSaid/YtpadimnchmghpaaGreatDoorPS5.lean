import Derived.Sort.AssemblyPlain
import Derived.Test.YtpadimnchmghpaaGreatDoorN3
open Prod (fst)
open Int (tdiv tmod)
set_option maxHeartbeats 1000000
set_option linter.unusedVariables false
set_option linter.unusedSimpArgs false
namespace Go.Proofs.YtpadimnchmghpaaGreatDoor.Av
noncomputable section
open Go Go.Proofs Go.Sort
def dq (t : Int) : Int := if t ≥ 0 then if t < 68719476736 then tdiv t 86400 else -1 else -1
theorem dq_eq (t : Int) : clock_Day t = some (dq t) := by
 unfold clock_Day dq
 by_cases h : t ≥ 0
 ·rw [if_pos h, if_pos h]
  by_cases h2 : t < 68719476736
  ·rw [if_pos h2, if_pos h2, if_pos]
   rw [Int.tdiv_eq_ediv_of_nonneg h, inR_i64]; omega
  ·rw [if_neg h2, if_neg h2]
 ·rw [if_neg h, if_neg h]
theorem dq_R (t : Int) : -1 ≤ dq t ∧ dq t < 1000000 := by
 unfold dq
 split
 ·rename_i h
  split
  ·rw [Int.tdiv_eq_ediv_of_nonneg h]; omega
  ·omega
 ·omega
theorem bind_k {α β : Type} {o : Option α} {f : α → Option β} {r : Option β} (h : o ≠ none) (h2 : ∀ x, f x = r) : o.bind f = r := by
 cases o with
 | none => exact absurd rfl h
 | some x => exact h2 x
theorem gA (d : Array Int) {i : Nat} (h : i < d.size) : d.toList[i]? = some d[i]! := by
 simp [h]
theorem swL (d : Array Int) {i j : Nat} : (d.toList.set i d[j]!).set j d[i]! = (swp d i j).toList := by
 simp [swp]
theorem gS (l : List Int) {i j : Nat} {x : Int} (h : j < l.length) : (l.set i x)[j]? ≠ none := by
 simp [h]
variable (c : TB)
def dk (i : Int) : Int := match c.ucharges[i.toNat]? with | some x => dq x.Time | none => 0
def lk (x y : Int) : Bool := decide (dk c x < dk c y)
theorem swo_lk : SWO (lk c) := ⟨fun x => by simp [lk], fun x y z h1 h2 => by simp [lk] at *; omega, fun x y z h1 h2 => by simp [lk] at *; omega⟩
def okI (i : Int) : Prop := 0 ≤ i ∧ i.toNat < c.ucharges.length
def okA (d : Array Int) : Prop := d.size ≤ 64 ∧ ∀ i, i < d.size → okI c d[i]!
variable {c}
theorem cmp_eq {x y : Int} (hx : okI c x) (hy : okI c y) : cCmp c x y = some (dk c x - dk c y) := by
 unfold cCmp dk
 rw [if_pos hx.1, List.getElem?_eq_getElem hx.2, Option.bind_some, dq_eq, Option.bind_some, if_pos hy.1, List.getElem?_eq_getElem hy.2, Option.bind_some, dq_eq, Option.bind_some, if_pos]
 have h1 := dq_R (c.ucharges[x.toNat]'hx.2).Time
 have h2 := dq_R (c.ucharges[y.toNat]'hy.2).Time
 rw [inR_i64]; omega
theorem cmp_lt {d : Array Int} (hd : okA c d) {i j : Nat} (hi : i < d.size) (hj : j < d.size) : cCmp c d[i]! d[j]! = some (dk c d[i]! - dk c d[j]!) := cmp_eq (hd.2 i hi) (hd.2 j hj)
theorem lk_t {x y : Int} (h : lk c x y = true) : dk c x - dk c y < 0 := by simp [lk] at h; omega
theorem lk_f {x y : Int} (h : lk c x y = false) : ¬ dk c x - dk c y < 0 := by simp [lk] at h; omega
theorem okA.swp {d : Array Int} (hd : okA c d) {i j : Nat} (hi : i < d.size) (hj : j < d.size) : okA c (swp d i j) := by
 refine ⟨by rw [size_swp]; exact hd.1, fun k hk => ?_⟩
 rw [size_swp] at hk
 rw [swp_get d hi hj]
 split
 ·first | exact hd.2 _ hj | exact hd.2 _ hi
 ·split
  ·first | exact hd.2 _ hj | exact hd.2 _ hi
  ·exact hd.2 _ hk
theorem okA.perm {d d' : Array Int} {a b : Nat} (hd : okA c d) (hb : b ≤ d.size) (h : PermIn a b d d') : okA c d' := by
 refine ⟨by rw [h.1]; exact hd.1, fun k hk => ?_⟩
 rw [h.1] at hk
 by_cases hk2 : a ≤ k ∧ k < b
 ·exact permIn_all d d' a b (okI c) hb h (fun i h1 h2 => hd.2 i (by omega)) k hk2.1 hk2.2
 ·rw [h.2.1 k (by omega)]; exact hd.2 k hk
/-! ### insertion -/
theorem insI {a : Nat} {b v8 : Int} {p : List Int} : ∀ {j : Nat} {d : Array Int}, okA c d → j < d.size → lp (sInsertion_L94_step c a b v8 p) ((j : Int), d.toList) = some (insInner (lk c) a j d).toList
 | 0, d, hd, hj => by
  have h : ¬ (((0 : Nat) : Int) > (a : Int)) := by omega
  rw [lp_end (r := d.toList) (by simp only [sInsertion_L94_step, h, ↓reduceIte])]
  rfl
 | j + 1, d, hd, hj => by
  by_cases ha : j + 1 > a
  ·have h1 : ((j + 1 : Nat) : Int) > (a : Int) := by omega
   have h2 : (0 : Int) ≤ ((j + 1 : Nat) : Int) := by omega
   have e : ((j + 1 : Nat) : Int) - 1 = (j : Int) := by omega
   have h3 : (0 : Int) ≤ (j : Int) := by omega
   have r1 : InR .i64 (j : Int) := by have := hd.1; rw [inR_i64]; omega
   have hj' : j < d.size := by omega
   have hl' : j < d.toList.length := by simpa using hj'
   by_cases hl : lk c d[j + 1]! d[j]! = true
   ·have h4 := lk_t hl
    rw [lp_go (s' := ((j : Int), (Go.Sort.swp d (j + 1) j).toList)) (by
     simp only [sInsertion_L94_step, h1, h2, e, h3, r1, ↓reduceIte, Int.toNat_natCast, gA d hj, gA d hj', Option.bind_some, cmp_lt hd hj hj', h4, hl']
     exact bind_k (gS _ hl') fun x => by rw [swL])]
    rw [insI (hd.swp hj hj') (by rw [size_swp]; omega)]
    conv => rhs; unfold insInner
    simp [ha, hl]
   ·have h4 := lk_f (Bool.not_eq_true _ ▸ hl)
    rw [lp_end (r := d.toList) (by
     simp only [sInsertion_L94_step, h1, h2, e, h3, r1, ↓reduceIte, Int.toNat_natCast, gA d hj, gA d hj', Option.bind_some, cmp_lt hd hj hj', h4])]
    simp [insInner, ha, hl]
  ·have h1 : ¬ (((j + 1 : Nat) : Int) > (a : Int)) := by omega
   rw [lp_end (r := d.toList) (by simp only [sInsertion_L94_step, h1, ↓reduceIte])]
   simp [insInner, ha]
theorem insInner_perm {a b : Nat} : ∀ {j : Nat} {d : Array Int}, j < b → b ≤ d.size → PermIn a b d (insInner (lk c) a j d)
 | 0, d, h1, h2 => permIn_refl _ _ _
 | j + 1, d, h1, h2 => by
  unfold insInner
  split
  ·rename_i h
   simp only [Bool.and_eq_true, decide_eq_true_eq] at h
   exact permIn_trans _ _ _ _ _ (swp_permIn d a b (j + 1) j (by omega) h1 (by omega) (by omega) h2) (insInner_perm (by omega) (by rw [size_swp]; exact h2))
  ·exact permIn_refl _ _ _
theorem insO {a b : Nat} : ∀ {k i : Nat} {d : Array Int}, b - i = k → okA c d → b ≤ d.size → lp (sInsertion_L2_step c a b) ((i : Int), d.toList) = some (insOuter (lk c) a b i d).toList
 | 0, i, d, hk, hd, hb => by
  have h : ¬ ((i : Int) < (b : Int)) := by omega
  rw [lp_end (r := d.toList) (by simp only [sInsertion_L2_step, h, ↓reduceIte])]
  unfold insOuter
  rw [if_neg (by omega)]
 | k + 1, i, d, hk, hd, hb => by
  have h : ((i : Int) < (b : Int)) := by omega
  have r1 : InR .i64 ((i : Int) + 1) := by have := hd.1; rw [inR_i64]; omega
  have hp : PermIn a b d (insInner (lk c) a i d) := insInner_perm (by omega) hb
  rw [lp_go (s' := (((i + 1 : Nat) : Int), (insInner (lk c) a i d).toList)) (by
   simp only [sInsertion_L2_step, h, r1, ↓reduceIte, insI hd (show i < d.size by omega), Option.bind_some]; rfl)]
  rw [insO (k := k) (by omega) (hd.perm hb hp) (by rw [hp.1]; exact hb)]
  conv => rhs; unfold insOuter
  rw [if_pos (by omega)]
theorem ins_eq {a b : Nat} {d : Array Int} (hd : okA c d) (hb : b ≤ d.size) (ha : a ≤ b) : sInsertion c d.toList a b = some (insertionSort (lk c) d a b).toList := by
 have r1 : InR .i64 ((a : Int) + 1) := by have := hd.1; rw [inR_i64]; omega
 have := insO (c := c) (a := a) (b := b) (i := a + 1) rfl hd hb
 simp only [sInsertion, r1, ↓reduceIte]
 rw [show ((a : Int) + 1, d.toList) = (((a + 1 : Nat) : Int), d.toList) from rfl, this]
 rfl
/-! ### reversal -/
theorem revI : ∀ {k i j : Nat} {d : Array Int}, j - i ≤ k → j < d.size → d.size ≤ 64 → lp sReverse_L2_step ((i : Int), (j : Int), d.toList) = some (reverseLoop i j d).toList
 | 0, i, j, d, hk, hj, hn => by
  have h : ¬ ((i : Int) < (j : Int)) := by omega
  rw [lp_end (r := d.toList) (by simp only [sReverse_L2_step, h, ↓reduceIte])]
  unfold reverseLoop
  rw [if_neg (by omega)]
 | k + 1, i, j, d, hk, hj, hn => by
  by_cases hij : i < j
  rotate_left
  ·have h : ¬ ((i : Int) < (j : Int)) := by omega
   rw [lp_end (r := d.toList) (by simp only [sReverse_L2_step, h, ↓reduceIte])]
   unfold reverseLoop
   rw [if_neg hij]
  have h : ((i : Int) < (j : Int)) := by omega
  have h1 : (0 : Int) ≤ (j : Int) := by omega
  have h2 : (0 : Int) ≤ (i : Int) := by omega
  have hi : i < d.size := by omega
  have hl : j < d.toList.length := by simpa using hj
  have r1 : InR .i64 ((i : Int) + 1) := by rw [inR_i64]; omega
  have r2 : InR .i64 ((j : Int) - 1) := by rw [inR_i64]; omega
  have e : ((j : Int) - 1) = ((j - 1 : Nat) : Int) := by omega
  rw [lp_go (s' := (((i + 1 : Nat) : Int), ((j - 1 : Nat) : Int), (swp d i j).toList)) (by
   simp only [sReverse_L2_step, h, h1, h2, r1, r2, ↓reduceIte, Int.toNat_natCast, gA d hj, gA d hi, Option.bind_some, hl]
   refine bind_k (gS _ hl) fun x => ?_
   rw [swL, e]; rfl)]
  rw [revI (k := k) (by omega) (by rw [size_swp]; omega) (by rw [size_swp]; omega)]
  conv => rhs; unfold reverseLoop
  rw [if_pos (by omega)]
theorem rev_eq {a b : Nat} {d : Array Int} (hd : okA c d) (hb : b ≤ d.size) (h0 : 0 < b) : sReverse c d.toList a b = some (reverseRange d a b).toList := by
 have r1 : InR .i64 ((b : Int) - 1) := by have := hd.1; rw [inR_i64]; omega
 have e : ((b : Int) - 1) = ((b - 1 : Nat) : Int) := by omega
 simp only [sReverse, r1, ↓reduceIte]
 rw [e, revI (Nat.le_refl _) (by omega) hd.1]
 rfl
/-! ### the heap -/
theorem siftI {hi F : Nat} : ∀ {k root : Nat} {d : Array Int}, hi - root ≤ k → root ≤ 64 → okA c d → F + hi ≤ d.size →
  ∃ o, lp (sSift_L1_step c hi F) ((root : Int), d.toList) = some o ∧ (match o with | .inl q => q | .inr q => q) = (siftDown (lk c) hi F root d).toList := by
 intro k
 induction k with
 | zero =>
  intro root d hk hr hd hs
  have h : 2 * root + 1 ≥ hi := by omega
  have h1 : (2 * (root : Int)) + 1 ≥ (hi : Int) := by omega
  have r1 : InR .i64 (2 * (root : Int)) := by rw [inR_i64]; omega
  have r2 : InR .i64 (2 * (root : Int) + 1) := by rw [inR_i64]; omega
  refine ⟨.inl d.toList, lp_end (by simp only [sSift_L1_step, r1, r2, h1, ↓reduceIte]), ?_⟩
  unfold siftDown
  rw [dif_pos h]
 | succ k ih =>
  intro root d hk hr hd hs
  have hn := hd.1
  have r1 : InR .i64 (2 * (root : Int)) := by rw [inR_i64]; omega
  have r2 : InR .i64 (2 * (root : Int) + 1) := by rw [inR_i64]; omega
  by_cases h : 2 * root + 1 ≥ hi
  ·have h1 : (2 * (root : Int)) + 1 ≥ (hi : Int) := by omega
   refine ⟨.inl d.toList, lp_end (by simp only [sSift_L1_step, r1, r2, h1, ↓reduceIte]), ?_⟩
   unfold siftDown
   rw [dif_pos h]
  have h1 : ¬ (2 * (root : Int)) + 1 ≥ (hi : Int) := by omega
  have r3 : InR .i64 (2 * (root : Int) + 1 + 1) := by rw [inR_i64]; omega
  have e0 : (F : Int) + (root : Int) = ((F + root : Nat) : Int) := by omega
  have e1 : (F : Int) + (2 * (root : Int) + 1) = ((F + (2 * root + 1) : Nat) : Int) := by omega
  have e2 : (F : Int) + (2 * (root : Int) + 1 + 1) = ((F + (2 * root + 2) : Nat) : Int) := by omega
  have e3 : ((F + (2 * root + 1) : Nat) : Int) + 1 = ((F + (2 * root + 2) : Nat) : Int) := by omega
  have q : ∀ n : Nat, n ≤ 1000 → InR .i64 ((n : Nat) : Int) := fun n hn => by rw [inR_i64]; omega
  have z : ∀ n : Nat, (0 : Int) ≤ ((n : Nat) : Int) := fun n => by omega
  have i0 : F + root < d.size := by omega
  have i1 : F + (2 * root + 1) < d.size := by omega
  have q0 := q (F + root) (by omega)
  have q1 := q (F + (2 * root + 1)) (by omega)
  have l1 : F + (2 * root + 1) < d.toList.length := by simpa using i1
  have c01 := cmp_lt hd i0 i1
  have first : ∀ {o : Option ((Int × List Int) ⊕ (List Int ⊕ List Int))}, sSift_L1_step c hi F ((root : Int), d.toList) = o →
    (lk c d[F + root]! d[F + (2 * root + 1)]! = true → o = some (.inl (((2 * root + 1 : Nat) : Int), (swp d (F + root) (F + (2 * root + 1))).toList))) →
    (lk c d[F + root]! d[F + (2 * root + 1)]! = false → o = some (.inr (.inr d.toList))) →
    siftDown (lk c) hi F root d = (if !lk c d[F + root]! d[F + (2 * root + 1)]! then d else siftDown (lk c) hi F (2 * root + 1) (swp d (F + root) (F + (2 * root + 1)))) →
    ∃ o, lp (sSift_L1_step c hi F) ((root : Int), d.toList) = some o ∧ (match o with | .inl q => q | .inr q => q) = (siftDown (lk c) hi F root d).toList := by
   intro o ho ht hf hs'
   rw [hs']
   cases hl : lk c d[F + root]! d[F + (2 * root + 1)]! with
   | true =>
    obtain ⟨o1, g1, g2⟩ := ih (root := 2 * root + 1) (d := swp d (F + root) (F + (2 * root + 1))) (by omega) (by omega) (hd.swp i0 i1) (by rw [size_swp]; exact hs)
    refine ⟨o1, ?_, ?_⟩
    ·rw [lp_go (ho.trans (ht hl))]; exact g1
    ·rw [g2]; simp
   | false => exact ⟨_, lp_end (ho.trans (hf hl)), by simp⟩
  by_cases h2 : 2 * root + 1 + 1 < hi
  ·have h3 : 2 * (root : Int) + 1 + 1 < (hi : Int) := by omega
   have i2 : F + (2 * root + 2) < d.size := by omega
   have q2 := q (F + (2 * root + 2)) (by omega)
   have l2 : F + (2 * root + 2) < d.toList.length := by simpa using i2
   have c12 := cmp_lt hd i1 i2
   have c02 := cmp_lt hd i0 i2
   cases hl : lk c d[F + (2 * root + 1)]! d[F + (2 * root + 2)]! with
   | true =>
    have h4 := lk_t hl
    have hsd : siftDown (lk c) hi F root d = (if !lk c d[F + root]! d[F + (2 * root + 2)]! then d else siftDown (lk c) hi F (2 * root + 2) (swp d (F + root) (F + (2 * root + 2)))) := by
     conv => lhs; unfold siftDown
     rw [dif_neg h, if_pos (by rw [show F + (2 * root + 1) + 1 = F + (2 * root + 2) from rfl, hl]; simp [h2]), dif_pos (show 2 * root + 2 < hi from h2)]
    rw [hsd]
    cases hl2 : lk c d[F + root]! d[F + (2 * root + 2)]! with
    | true =>
     have h5 := lk_t hl2
     obtain ⟨o1, g1, g2⟩ := ih (root := 2 * root + 2) (d := swp d (F + root) (F + (2 * root + 2))) (by omega) (by omega) (hd.swp i0 i2) (by rw [size_swp]; exact hs)
     refine ⟨o1, ?_, by rw [g2]; simp⟩
     rw [lp_go (s' := (((2 * root + 2 : Nat) : Int), (swp d (F + root) (F + (2 * root + 2))).toList)) (by
      simp only [sSift_L1_step, r1, r2, r3, h1, h3, e0, e1, e2, e3, q0, q1, q2, z, ↓reduceIte, Int.toNat_natCast, gA d i0, gA d i1, gA d i2, Option.bind_some, c12, h4, c02, h5, l2]
      exact bind_k (gS _ l2) fun x => by rw [swL]; rfl)]
     exact g1
    | false =>
     have h5 := lk_f hl2
     exact ⟨_, lp_end (r := .inr d.toList) (by
      simp only [sSift_L1_step, r1, r2, r3, h1, h3, e0, e1, e2, e3, q0, q1, q2, z, ↓reduceIte, Int.toNat_natCast, gA d i0, gA d i1, gA d i2, Option.bind_some, c12, h4, c02, h5, l2]), by simp⟩
   | false =>
    have h4 := lk_f hl
    refine first rfl (fun hl2 => ?_) (fun hl2 => ?_) ?_
    ·have h5 := lk_t hl2
     simp only [sSift_L1_step, r1, r2, r3, h1, h3, e0, e1, e2, e3, q0, q1, q2, z, ↓reduceIte, Int.toNat_natCast, gA d i0, gA d i1, gA d i2, Option.bind_some, c12, h4, c01, h5, l1]
     exact bind_k (gS _ l1) fun x => by rw [swL]; rfl
    ·have h5 := lk_f hl2
     simp only [sSift_L1_step, r1, r2, r3, h1, h3, e0, e1, e2, e3, q0, q1, q2, z, ↓reduceIte, Int.toNat_natCast, gA d i0, gA d i1, gA d i2, Option.bind_some, c12, h4, c01, h5, l1]
    ·conv => lhs; unfold siftDown
     rw [dif_neg h, if_neg (by rw [show F + (2 * root + 1) + 1 = F + (2 * root + 2) from rfl, hl]; simp)]
  ·have h3 : ¬ 2 * (root : Int) + 1 + 1 < (hi : Int) := by omega
   refine first rfl (fun hl2 => ?_) (fun hl2 => ?_) ?_
   ·have h5 := lk_t hl2
    simp only [sSift_L1_step, r1, r2, r3, h1, h3, e0, e1, e2, e3, q0, q1, z, ↓reduceIte, Int.toNat_natCast, gA d i0, gA d i1, Option.bind_some, c01, h5, l1]
    exact bind_k (gS _ l1) fun x => by rw [swL]; rfl
   ·have h5 := lk_f hl2
    simp only [sSift_L1_step, r1, r2, r3, h1, h3, e0, e1, e2, e3, q0, q1, z, ↓reduceIte, Int.toNat_natCast, gA d i0, gA d i1, Option.bind_some, c01, h5, l1]
   ·conv => lhs; unfold siftDown
    rw [dif_neg h, if_neg (by simp [h2])]
theorem sift_eq {hi F lo : Nat} {d : Array Int} (hd : okA c d) (hl : lo ≤ 64) (hs : F + hi ≤ d.size) : sSift c d.toList lo hi F = some (siftDown (lk c) hi F lo d).toList := by
 obtain ⟨o, h1, h2⟩ := siftI (c := c) (Nat.le_refl (hi - lo)) hl hd hs
 simp only [sSift, h1, Option.bind_some]
 cases o <;> exact congrArg some h2
end
set_option maxHeartbeats 1000000
set_option maxRecDepth 100000
noncomputable section
open Go Go.Proofs Go.Sort
variable {c : TB}
theorem qR (n : Nat) (hn : n ≤ 1000) : InR .i64 ((n : Nat) : Int) := by rw [inR_i64]; omega
theorem zN (n : Nat) : (0 : Int) ≤ ((n : Nat) : Int) := by omega
theorem siftDown_size {lt : Int → Int → Bool} {hi F : Nat} : ∀ {k root : Nat} {d : Array Int}, hi - root ≤ k → (siftDown lt hi F root d).size = d.size
 | 0, root, d, h => by
  unfold siftDown
  rw [dif_pos (by omega)]
 | k + 1, root, d, h => by
  unfold siftDown
  split
  ·rfl
  ·split
   ·split
    ·rfl
    ·split
     ·rw [siftDown_size (k := k) (by omega), size_swp]
     ·rfl
   ·split
    ·rfl
    ·rw [siftDown_size (k := k) (by omega), size_swp]
theorem siftDown_ok {hi F : Nat} : ∀ {k root : Nat} {d : Array Int}, hi - root ≤ k → F + hi ≤ d.size → okA c d → okA c (siftDown (lk c) hi F root d)
 | 0, root, d, h, hs, hd => by
  unfold siftDown
  rw [dif_pos (by omega)]; exact hd
 | k + 1, root, d, h, hs, hd => by
  unfold siftDown
  split
  ·exact hd
  ·rename_i h1
   split
   ·split
    ·exact hd
    ·split
     ·exact siftDown_ok (k := k) (by omega) (by rw [size_swp]; exact hs) (hd.swp (by omega) (by omega))
     ·exact hd
   ·split
    ·exact hd
    ·exact siftDown_ok (k := k) (by omega) (by rw [size_swp]; exact hs) (hd.swp (by omega) (by omega))
theorem heapB {a b : Nat} : ∀ {k : Nat} {d : Array Int}, k ≤ 64 → okA c d → a ≤ b → b ≤ d.size → lp (sHeap_L4_step c a b) ((k : Int) - 1, d.toList) = some (heapBuild (lk c) (b - a) a k d).toList
 | 0, d, hk, hd, hab, hb => by
  have h : ¬ (((0 : Nat) : Int) - 1 ≥ 0) := by omega
  rw [lp_end (r := d.toList) (by simp only [sHeap_L4_step, h, ↓reduceIte])]
  rfl
 | k + 1, d, hk, hd, hab, hb => by
  have h : (((k + 1 : Nat) : Int) - 1 ≥ 0) := by omega
  have e : ((k + 1 : Nat) : Int) - 1 = (k : Int) := by omega
  have h' : (k : Int) ≥ 0 := by omega
  have e2 : (b : Int) - (a : Int) = ((b - a : Nat) : Int) := by omega
  have r1 : InR .i64 ((k : Int) - 1) := by rw [inR_i64]; omega
  have hl : (siftDown (lk c) (b - a) a k d).toList.length = d.toList.length := by simpa using siftDown_size (Nat.le_refl _)
  rw [lp_go (s' := ((k : Int) - 1, (siftDown (lk c) (b - a) a k d).toList)) (by
   simp only [sHeap_L4_step, e, e2, h', r1, ↓reduceIte, sift_eq hd (show k ≤ 64 by omega) (show a + (b - a) ≤ d.size by omega), Option.bind_some, hl])]
  rw [heapB (by omega) (siftDown_ok (Nat.le_refl _) (by omega) hd) hab (by rw [siftDown_size (Nat.le_refl _)]; exact hb)]
  rfl
theorem heapBuild_ok {hi F : Nat} : ∀ {k : Nat} {d : Array Int}, F + hi ≤ d.size → okA c d → okA c (heapBuild (lk c) hi F k d) ∧ (heapBuild (lk c) hi F k d).size = d.size
 | 0, d, hs, hd => ⟨hd, rfl⟩
 | k + 1, d, hs, hd => by
  have h2 : (siftDown (lk c) hi F k d).size = d.size := siftDown_size (Nat.le_refl _)
  have := heapBuild_ok (k := k) (hi := hi) (F := F) (d := siftDown (lk c) hi F k d) (by rw [h2]; exact hs) (siftDown_ok (Nat.le_refl _) hs hd)
  exact ⟨this.1, this.2.trans h2⟩
theorem heapP {a : Nat} : ∀ {k : Nat} {d : Array Int}, okA c d → a + k ≤ d.size → lp (sHeap_L20_step c a) ((k : Int) - 1, d.toList) = some (heapPop (lk c) a k d).toList
 | 0, d, hd, hk => by
  have h : ¬ (((0 : Nat) : Int) - 1 ≥ 0) := by omega
  rw [lp_end (r := d.toList) (by simp only [sHeap_L20_step, h, ↓reduceIte])]
  rfl
 | k + 1, d, hd, hk => by
  have hn := hd.1
  have h' : (k : Int) ≥ 0 := by omega
  have e : ((k + 1 : Nat) : Int) - 1 = (k : Int) := by omega
  have e2 : (a : Int) + (k : Int) = ((a + k : Nat) : Int) := by omega
  have r1 : InR .i64 ((k : Int) - 1) := by rw [inR_i64]; omega
  have ia : a < d.size := by omega
  have ik : a + k < d.size := by omega
  have lk' : a + k < d.toList.length := by simpa using ik
  have hsz : (siftDown (lk c) k a 0 (swp d a (a + k))).size = d.size := (siftDown_size (Nat.le_refl _)).trans (size_swp _ _ _)
  have hl : (siftDown (lk c) k a 0 (swp d a (a + k))).toList.length = d.toList.length := by simpa using hsz
  have hsw : okA c (swp d a (a + k)) := hd.swp ia ik
  have hse : sSift c (swp d a (a + k)).toList 0 (k : Int) (a : Int) = some (siftDown (lk c) k a 0 (swp d a (a + k))).toList := sift_eq (lo := 0) hsw (by omega) (by rw [size_swp]; omega)
  rw [lp_go (s' := ((k : Int) - 1, (siftDown (lk c) k a 0 (swp d a (a + k))).toList)) (by
   simp only [sHeap_L20_step, e, e2, h', r1, qR _ (show a + k ≤ 1000 by omega), zN, ↓reduceIte, Int.toNat_natCast, gA d ia, gA d ik, Option.bind_some, lk']
   refine bind_k (gS _ lk') fun x => ?_
   rw [swL, hse, Option.bind_some, if_pos hl])]
  rw [heapP (siftDown_ok (Nat.le_refl _) (by rw [size_swp]; omega) hsw) (by rw [hsz]; omega)]
  rfl
theorem heap_eq {a b : Nat} {d : Array Int} (hd : okA c d) (hb : b ≤ d.size) (hab : a < b) : sHeap c d.toList a b = some (heapSort (lk c) d a b).toList := by
 have hn := hd.1
 have e1 : (b : Int) - (a : Int) = ((b - a : Nat) : Int) := by omega
 have e2 : ((b - a : Nat) : Int) - 1 = ((b - a - 1 : Nat) : Int) := by omega
 have e3 : tdiv ((b - a - 1 : Nat) : Int) 2 = (((b - a - 1) / 2 + 1 : Nat) : Int) - 1 := by
  rw [Int.tdiv_eq_ediv_of_nonneg (by omega)]; omega
 have r3 : InR .i64 ((((b - a - 1) / 2 + 1 : Nat) : Int) - 1) := by rw [inR_i64]; omega
 have h1 := heapB (c := c) (a := a) (b := b) (k := (b - a - 1) / 2 + 1) (by omega) hd (by omega) hb
 obtain ⟨h2, h3⟩ := heapBuild_ok (c := c) (hi := b - a) (F := a) (k := (b - a - 1) / 2 + 1) (d := d) (by omega) hd
 have h4 := heapP (c := c) (a := a) (k := b - a) h2 (by rw [h3]; omega)
 have e4 : ((b - a - 1 : Nat) : Int) = ((b - a : Nat) : Int) - 1 := e2.symm
 simp only [sHeap, e1, e2, e3, qR _ (show b - a ≤ 1000 by omega), qR _ (show b - a - 1 ≤ 1000 by omega), r3, ↓reduceIte, h1, Option.bind_some]
 rw [e4, h4]
 rfl
/-! ### patterns -/
theorem np_all : (List.range 57).all (fun k => match slices_nextPowerOfTwo ((k + 8 : Nat) : Int) with | some r => decide (0 < r) && decide (r ≤ 2 * ((k + 8 : Nat) : Int)) | none => false) = true := by kernel_rfl
theorem np_eq {n : Nat} (h : 8 ≤ n) (h2 : n ≤ 64) : ∃ r, slices_nextPowerOfTwo ((n : Nat) : Int) = some r ∧ 0 < r ∧ r ≤ 2 * (n : Int) := by
 have := List.all_eq_true.1 np_all (n - 8) (List.mem_range.2 (by omega))
 rw [show n - 8 + 8 = n by omega] at this
 cases hr : slices_nextPowerOfTwo ((n : Nat) : Int) with
 | none => rw [hr] at this; cases this
 | some r =>
  rw [hr] at this
  simp only [Bool.and_eq_true, decide_eq_true_eq] at this
  exact ⟨r, rfl, this⟩
theorem wrapN_u64 {x : Int} (h0 : 0 ≤ x) (h : x < 18446744073709551616) : IntKind.wrap .u64 x = x := by
 show Int.emod x (2 ^ 64) = x
 exact Int.emod_eq_of_lt h0 (by simpa using h)
theorem and_R {x m : Int} (h0 : 0 ≤ m) (h : m < 1000) : 0 ≤ IntKind.wrap .u64 ((BitVec.ofInt (IntKind.bits .u64) x &&& BitVec.ofInt (IntKind.bits .u64) m).toNat : Int) ∧ IntKind.wrap .u64 ((BitVec.ofInt (IntKind.bits .u64) x &&& BitVec.ofInt (IntKind.bits .u64) m).toNat : Int) ≤ m := by
 have h1 : (BitVec.ofInt (IntKind.bits .u64) x &&& BitVec.ofInt (IntKind.bits .u64) m).toNat ≤ m.toNat := by
  rw [BitVec.toNat_and]
  refine Nat.le_trans Nat.and_le_right ?_
  rw [BitVec.toNat_ofInt]
  have : (m % ((2 ^ IntKind.bits .u64 : Nat) : Int)) ≤ m := by
   rw [Int.emod_eq_of_lt h0]; ·exact Int.le_refl _
   ·show m < (((2 : Nat) ^ 64 : Nat) : Int); omega
  omega
 have h2 : IntKind.wrap .u64 ((BitVec.ofInt (IntKind.bits .u64) x &&& BitVec.ofInt (IntKind.bits .u64) m).toNat : Int) = ((BitVec.ofInt (IntKind.bits .u64) x &&& BitVec.ofInt (IntKind.bits .u64) m).toNat : Int) := by
  generalize (BitVec.ofInt (IntKind.bits .u64) x &&& BitVec.ofInt (IntKind.bits .u64) m).toNat = k at h1
  have h3 : (0 : Int) ≤ (k : Int) := by omega
  have h4 : (k : Int) < 18446744073709551616 := by omega
  exact wrapN_u64 h3 h4
 rw [h2]; omega
theorem sw_range {a b i j : Nat} {d : Array Int} (hi : a ≤ i) (hi2 : i < b) (hj : a ≤ j) (hj2 : j < b) (hb : b ≤ d.size) : PermIn a b d (swp d i j) := swp_permIn d a b i j hi hi2 hj hj2 hb
theorem brk_step {a b i : Nat} {r w : Int} {d : Array Int} (hd : okA c d) (hb : b ≤ d.size) (h8 : a + 8 ≤ b) (hr0 : 0 < r) (hr : r ≤ 2 * ((b - a : Nat) : Int)) (hi : a ≤ i) (hi2 : i ≤ a + (b - a) / 4 * 2 + 1) :
  ∃ j w', a ≤ j ∧ j < b ∧ sBreak_L10_step a b r ((i : Int), d.toList, w) = some (.inl (((i + 1 : Nat) : Int), (swp d i j).toList, w')) := by
 have hn := hd.1
 have e1 : (b : Int) - (a : Int) = ((b - a : Nat) : Int) := by omega
 have e2 : tdiv ((b - a : Nat) : Int) 4 = (((b - a) / 4 : Nat) : Int) := by rw [Int.tdiv_eq_ediv_of_nonneg (by omega)]; omega
 have e3 : (((b - a) / 4 : Nat) : Int) * 2 = (((b - a) / 4 * 2 : Nat) : Int) := by omega
 have e4 : (a : Int) + (((b - a) / 4 * 2 : Nat) : Int) = ((a + (b - a) / 4 * 2 : Nat) : Int) := by omega
 have e5 : ((a + (b - a) / 4 * 2 : Nat) : Int) + 1 = ((a + (b - a) / 4 * 2 + 1 : Nat) : Int) := by omega
 have h1 : (i : Int) ≤ ((a + (b - a) / 4 * 2 + 1 : Nat) : Int) := by omega
 have ru : InR .u64 (r - 1) := by rw [inR_u64]; omega
 have ii : i < d.size := by omega
 simp only [sBreak_L10_step, e1, e2, e3, e4, e5, h1, ru, qR _ (show (b - a) / 4 ≤ 1000 by omega), qR _ (show (b - a) / 4 * 2 ≤ 1000 by omega), qR _ (show a + (b - a) / 4 * 2 ≤ 1000 by omega), qR _ (show a + (b - a) / 4 * 2 + 1 ≤ 1000 by omega), ↓reduceIte, Option.bind_some]
 generalize IntKind.wrap .u64 ((BitVec.ofInt (IntKind.bits .u64) (IntKind.wrap .u64 ((BitVec.ofInt (IntKind.bits .u64) (IntKind.wrap .u64 ((BitVec.ofInt (IntKind.bits .u64) w ^^^ BitVec.ofInt (IntKind.bits .u64) (IntKind.wrap .u64 (w * 2 ^ (min (Int.toNat 13) (IntKind.bits .u64))))).toNat : Int)) ^^^ BitVec.ofInt (IntKind.bits .u64) (Int.fdiv (IntKind.wrap .u64 ((BitVec.ofInt (IntKind.bits .u64) w ^^^ BitVec.ofInt (IntKind.bits .u64) (IntKind.wrap .u64 (w * 2 ^ (min (Int.toNat 13) (IntKind.bits .u64))))).toNat : Int)) (2 ^ (min (Int.toNat 7) (IntKind.bits .u64))))).toNat : Int)) ^^^ BitVec.ofInt (IntKind.bits .u64) (IntKind.wrap .u64 ((IntKind.wrap .u64 ((BitVec.ofInt (IntKind.bits .u64) (IntKind.wrap .u64 ((BitVec.ofInt (IntKind.bits .u64) w ^^^ BitVec.ofInt (IntKind.bits .u64) (IntKind.wrap .u64 (w * 2 ^ (min (Int.toNat 13) (IntKind.bits .u64))))).toNat : Int)) ^^^ BitVec.ofInt (IntKind.bits .u64) (Int.fdiv (IntKind.wrap .u64 ((BitVec.ofInt (IntKind.bits .u64) w ^^^ BitVec.ofInt (IntKind.bits .u64) (IntKind.wrap .u64 (w * 2 ^ (min (Int.toNat 13) (IntKind.bits .u64))))).toNat : Int)) (2 ^ (min (Int.toNat 7) (IntKind.bits .u64))))).toNat : Int)) * 2 ^ (min (Int.toNat 17) (IntKind.bits .u64))))).toNat : Int) = W
 obtain ⟨y0, y1⟩ := and_R (x := W) (m := r - 1) (by omega) (by omega)
 generalize IntKind.wrap .u64 ((BitVec.ofInt (IntKind.bits .u64) W &&& BitVec.ofInt (IntKind.bits .u64) (r - 1)).toNat : Int) = y at y0 y1
 obtain ⟨m, rfl⟩ : ∃ m : Nat, y = (m : Int) := ⟨y.toNat, by omega⟩
 have e6 : (i : Int) + 1 = ((i + 1 : Nat) : Int) := by omega
 rw [if_pos (qR m (by omega))]
 by_cases hm : m ≥ b - a
 ·have h2 : (m : Int) ≥ ((b - a : Nat) : Int) := by omega
  have e7 : (m : Int) - ((b - a : Nat) : Int) = ((m - (b - a) : Nat) : Int) := by omega
  have e8 : (a : Int) + ((m - (b - a) : Nat) : Int) = ((a + (m - (b - a)) : Nat) : Int) := by omega
  have ij : a + (m - (b - a)) < d.size := by omega
  have lj : a + (m - (b - a)) < d.toList.length := by simpa using ij
  refine ⟨a + (m - (b - a)), W, by omega, by omega, ?_⟩
  simp only [h2, e7, e8, e6, qR _ (show m - (b - a) ≤ 1000 by omega), qR _ (show a + (m - (b - a)) ≤ 1000 by omega), qR _ (show i + 1 ≤ 1000 by omega), zN, ↓reduceIte, Int.toNat_natCast, gA d ii, gA d ij, Option.bind_some, lj]
  exact bind_k (gS _ lj) fun x => by rw [swL]
 ·have h2 : ¬ (m : Int) ≥ ((b - a : Nat) : Int) := by omega
  have e8 : (a : Int) + (m : Int) = ((a + m : Nat) : Int) := by omega
  have ij : a + m < d.size := by omega
  have lj : a + m < d.toList.length := by simpa using ij
  refine ⟨a + m, W, by omega, by omega, ?_⟩
  simp only [h2, e8, e6, qR _ (show a + m ≤ 1000 by omega), qR _ (show i + 1 ≤ 1000 by omega), zN, ↓reduceIte, Int.toNat_natCast, gA d ii, gA d ij, Option.bind_some, lj]
  exact bind_k (gS _ lj) fun x => by rw [swL]
theorem brk_loop {a b : Nat} {r : Int} : ∀ {k i : Nat} {w : Int} {d : Array Int}, a + (b - a) / 4 * 2 + 2 - i = k → okA c d → b ≤ d.size → a + 8 ≤ b → 0 < r → r ≤ 2 * ((b - a : Nat) : Int) → a ≤ i → i ≤ a + (b - a) / 4 * 2 + 2 →
  ∃ d' w', lp (sBreak_L10_step a b r) ((i : Int), d.toList, w) = some (d'.toList, w') ∧ PermIn a b d d'
 | 0, i, w, d, hk, hd, hb, h8, hr0, hr, hi, hi2 => by
  have hn := hd.1
  have e1 : (b : Int) - (a : Int) = ((b - a : Nat) : Int) := by omega
  have e2 : tdiv ((b - a : Nat) : Int) 4 = (((b - a) / 4 : Nat) : Int) := by rw [Int.tdiv_eq_ediv_of_nonneg (by omega)]; omega
  have e3 : (((b - a) / 4 : Nat) : Int) * 2 = (((b - a) / 4 * 2 : Nat) : Int) := by omega
  have e4 : (a : Int) + (((b - a) / 4 * 2 : Nat) : Int) = ((a + (b - a) / 4 * 2 : Nat) : Int) := by omega
  have e5 : ((a + (b - a) / 4 * 2 : Nat) : Int) + 1 = ((a + (b - a) / 4 * 2 + 1 : Nat) : Int) := by omega
  have h1 : ¬ (i : Int) ≤ ((a + (b - a) / 4 * 2 + 1 : Nat) : Int) := by omega
  exact ⟨d, w, lp_end (by simp only [sBreak_L10_step, e1, e2, e3, e4, e5, h1, qR _ (show (b - a) / 4 ≤ 1000 by omega), qR _ (show (b - a) / 4 * 2 ≤ 1000 by omega), qR _ (show a + (b - a) / 4 * 2 ≤ 1000 by omega), qR _ (show a + (b - a) / 4 * 2 + 1 ≤ 1000 by omega), ↓reduceIte]), permIn_refl _ _ _⟩
 | k + 1, i, w, d, hk, hd, hb, h8, hr0, hr, hi, hi2 => by
  obtain ⟨j, w1, h1, h2, h3⟩ := brk_step (w := w) hd hb h8 hr0 hr hi (by omega)
  have hp : PermIn a b d (swp d i j) := sw_range hi (by omega) h1 h2 hb
  obtain ⟨d', w', h4, h5⟩ := brk_loop (k := k) (i := i + 1) (w := w1) (d := swp d i j) (by omega) (hd.perm hb hp) (by rw [size_swp]; exact hb) h8 hr0 hr (by omega) (by omega)
  exact ⟨d', w', (lp_go h3).trans h4, permIn_trans _ _ _ _ _ hp h5⟩
theorem brk_eq {a b : Nat} {d : Array Int} (hd : okA c d) (hb : b ≤ d.size) (h8 : a + 8 ≤ b) : ∃ d', sBreak c d.toList a b = some d'.toList ∧ PermIn a b d d' := by
 have hn := hd.1
 obtain ⟨r, hr, hr0, hr1⟩ := np_eq (n := b - a) (by omega) (by omega)
 have e1 : (b : Int) - (a : Int) = ((b - a : Nat) : Int) := by omega
 have e2 : tdiv ((b - a : Nat) : Int) 4 = (((b - a) / 4 : Nat) : Int) := by rw [Int.tdiv_eq_ediv_of_nonneg (by omega)]; omega
 have e3 : (((b - a) / 4 : Nat) : Int) * 2 = (((b - a) / 4 * 2 : Nat) : Int) := by omega
 have e4 : (a : Int) + (((b - a) / 4 * 2 : Nat) : Int) = ((a + (b - a) / 4 * 2 : Nat) : Int) := by omega
 have e5 : ((a + (b - a) / 4 * 2 : Nat) : Int) - 1 = ((a + (b - a) / 4 * 2 - 1 : Nat) : Int) := by omega
 have h1 : ((b - a : Nat) : Int) ≥ 8 := by omega
 have ru : InR .u64 ((b - a : Nat) : Int) := by rw [inR_u64]; omega
 obtain ⟨d', w', h4, h5⟩ := brk_loop (c := c) (a := a) (b := b) (r := r) (i := a + (b - a) / 4 * 2 - 1) (w := ((b - a : Nat) : Int)) rfl hd hb h8 hr0 hr1 (by omega) (by omega)
 refine ⟨d', ?_, h5⟩
 simp only [sBreak, e1, e2, e3, e4, e5, h1, ru, hr, qR _ (show b - a ≤ 1000 by omega), qR _ (show (b - a) / 4 ≤ 1000 by omega), qR _ (show (b - a) / 4 * 2 ≤ 1000 by omega), qR _ (show a + (b - a) / 4 * 2 ≤ 1000 by omega), qR _ (show a + (b - a) / 4 * 2 - 1 ≤ 1000 by omega), ↓reduceIte, Option.bind_some, h4]
/-! ### the pivot -/
theorem ord_eq {a b s : Nat} {d : Array Int} (hd : okA c d) (ha : a < d.size) (hb : b < d.size) (hs : s ≤ 900) : ∃ r : Nat × Nat × Nat, order2 (lk c) d a b s = r ∧ sOrder2 c d.toList a b s = some ((r.2.2 : Int), (r.1 : Int), (r.2.1 : Int)) ∧ r.1 < d.size ∧ r.2.1 < d.size ∧ r.2.2 ≤ s + 1 := by
 have e : (s : Int) + 1 = ((s + 1 : Nat) : Int) := by omega
 have cb := cmp_lt hd hb ha
 cases hl : lk c d[b]! d[a]! with
 | true =>
  have h4 := lk_t hl
  refine ⟨(b, a, s + 1), by simp [order2, hl], ?_, hb, ha, Nat.le_refl _⟩
  simp only [sOrder2, e, zN, qR _ (show s + 1 ≤ 1000 by omega), ↓reduceIte, Int.toNat_natCast, gA d ha, gA d hb, Option.bind_some, cb, h4]
 | false =>
  have h4 := lk_f hl
  refine ⟨(a, b, s), by simp [order2, hl], ?_, ha, hb, Nat.le_succ _⟩
  simp only [sOrder2, e, zN, qR _ (show s + 1 ≤ 1000 by omega), ↓reduceIte, Int.toNat_natCast, gA d ha, gA d hb, Option.bind_some, cb, h4]
theorem med_eq {a b e s : Nat} {d : Array Int} (hd : okA c d) (ha : a < d.size) (hb : b < d.size) (he : e < d.size) (hs : s ≤ 800) : sMedian c d.toList a b e s = some (((median (lk c) d a b e s).2 : Int), ((median (lk c) d a b e s).1 : Int)) := by
 obtain ⟨r1, h1, g1, p1, q1, s1⟩ := ord_eq hd ha hb (show s ≤ 900 by omega)
 obtain ⟨r2, h2, g2, p2, q2, s2⟩ := ord_eq hd q1 he (show r1.2.2 ≤ 900 by omega)
 obtain ⟨r3, h3, g3, p3, q3, s3⟩ := ord_eq hd p1 p2 (show r2.2.2 ≤ 900 by omega)
 simp only [sMedian, g1, g2, g3, Option.bind_some, median, h1, h2, h3]
theorem choose_eq {a b : Nat} {d : Array Int} (hd : okA c d) (hb : b ≤ d.size) (h8 : a + 8 ≤ b) (h50 : b < a + 50) : ∃ (p : Nat) (h : Int), sChoose c d.toList a b = some ((p : Int), h) ∧ a ≤ p ∧ p < b := by
 have hn := hd.1
 have e1 : (b : Int) - (a : Int) = ((b - a : Nat) : Int) := by omega
 have e2 : tdiv ((b - a : Nat) : Int) 4 = (((b - a) / 4 : Nat) : Int) := by rw [Int.tdiv_eq_ediv_of_nonneg (by omega)]; omega
 have f1 : (((b - a) / 4 : Nat) : Int) * 1 = (((b - a) / 4 * 1 : Nat) : Int) := by omega
 have f2 : (((b - a) / 4 : Nat) : Int) * 2 = (((b - a) / 4 * 2 : Nat) : Int) := by omega
 have f3 : (((b - a) / 4 : Nat) : Int) * 3 = (((b - a) / 4 * 3 : Nat) : Int) := by omega
 have g1 : (a : Int) + (((b - a) / 4 * 1 : Nat) : Int) = ((a + (b - a) / 4 * 1 : Nat) : Int) := by omega
 have g2 : (a : Int) + (((b - a) / 4 * 2 : Nat) : Int) = ((a + (b - a) / 4 * 2 : Nat) : Int) := by omega
 have g3 : (a : Int) + (((b - a) / 4 * 3 : Nat) : Int) = ((a + (b - a) / 4 * 3 : Nat) : Int) := by omega
 have h1 : ((b - a : Nat) : Int) ≥ 8 := by omega
 have h2 : ¬ ((b - a : Nat) : Int) ≥ 50 := by omega
 have hm := med_eq (c := c) (a := a + (b - a) / 4 * 1) (b := a + (b - a) / 4 * 2) (e := a + (b - a) / 4 * 3) (s := 0) (d := d) hd (by omega) (by omega) (by omega) (by omega)
 have hmem := median_mem (lk c) d (a + (b - a) / 4 * 1) (a + (b - a) / 4 * 2) (a + (b - a) / 4 * 3) 0
 generalize median (lk c) d (a + (b - a) / 4 * 1) (a + (b - a) / 4 * 2) (a + (b - a) / 4 * 3) 0 = m at hm hmem
 have hm' : sMedian c d.toList ((a + (b - a) / 4 * 1 : Nat) : Int) ((a + (b - a) / 4 * 2 : Nat) : Int) ((a + (b - a) / 4 * 3 : Nat) : Int) 0 = some ((m.2 : Int), (m.1 : Int)) := hm
 have key : ∃ h : Int, sChoose c d.toList a b = some ((m.1 : Int), h) := by
  simp only [sChoose, e1, e2, f1, f2, f3, g1, g2, g3, h1, h2, qR _ (show b - a ≤ 1000 by omega), qR _ (show (b - a) / 4 ≤ 1000 by omega), qR _ (show (b - a) / 4 * 1 ≤ 1000 by omega), qR _ (show (b - a) / 4 * 2 ≤ 1000 by omega), qR _ (show (b - a) / 4 * 3 ≤ 1000 by omega),
   qR _ (show a + (b - a) / 4 * 1 ≤ 1000 by omega), qR _ (show a + (b - a) / 4 * 2 ≤ 1000 by omega), qR _ (show a + (b - a) / 4 * 3 ≤ 1000 by omega), ↓reduceIte, hm', Option.bind_some]
  split
  ·exact ⟨_, rfl⟩
  ·split
   ·exact ⟨_, rfl⟩
   ·exact ⟨_, rfl⟩
 obtain ⟨h, hh⟩ := key
 exact ⟨m.1, h, hh, by omega, by omega⟩
end
set_option maxHeartbeats 1000000
set_option maxRecDepth 100000
noncomputable section
open Go Go.Proofs Go.Sort
variable {c : TB}
/-! ### scans -/
theorem scanU {stp : Int → Option (Int ⊕ Int)} {p : Int → Bool} {d : Array Int} {lo j : Nat} (hgo : ∀ i, lo ≤ i → i ≤ j → p d[i]! = true → stp (i : Int) = some (.inl ((i + 1 : Nat) : Int)))
  (hst : ∀ i, lo ≤ i → i ≤ j → p d[i]! = false → stp (i : Int) = some (.inr (i : Int))) (hen : ∀ i, j < i → stp (i : Int) = some (.inr (i : Int))) :
  ∀ {k i : Nat}, lo ≤ i → j + 1 - i ≤ k → lp stp (i : Int) = some ((scanUp p d j i : Nat) : Int)
 | 0, i, h1, h2 => by
  rw [lp_end (hen i (by omega))]
  unfold scanUp
  rw [if_neg (by simp; omega)]
 | k + 1, i, h1, h2 => by
  by_cases hij : i ≤ j
  ·cases hp : p d[i]! with
   | true =>
    rw [lp_go (hgo i h1 hij hp), scanU hgo hst hen (k := k) (by omega) (by omega)]
    conv => rhs; unfold scanUp
    rw [if_pos (by simp [hij, hp])]
   | false =>
    rw [lp_end (hst i h1 hij hp)]
    unfold scanUp
    rw [if_neg (by simp [hp])]
  ·rw [lp_end (hen i (by omega))]
   unfold scanUp
   rw [if_neg (by simp; omega)]
theorem scanD {stp : Int → Option (Int ⊕ Int)} {p : Int → Bool} {d : Array Int} {i hi : Nat} (h0 : 0 < i) (hgo : ∀ j, i ≤ j → j ≤ hi → p d[j]! = true → stp (j : Int) = some (.inl ((j - 1 : Nat) : Int)))
  (hst : ∀ j, i ≤ j → j ≤ hi → p d[j]! = false → stp (j : Int) = some (.inr (j : Int))) (hen : ∀ j, j < i → stp (j : Int) = some (.inr (j : Int))) :
  ∀ {j : Nat}, j ≤ hi → lp stp (j : Int) = some ((scanDown p d i j : Nat) : Int)
 | 0, h1 => by rw [lp_end (hen 0 h0)]; rfl
 | j + 1, h1 => by
  by_cases hij : i ≤ j + 1
  ·cases hp : p d[j + 1]! with
   | true =>
    rw [lp_go (hgo (j + 1) hij h1 hp)]
    show lp stp (j : Int) = _
    rw [scanD h0 hgo hst hen (j := j) (by omega)]
    conv => rhs; unfold scanDown
    rw [if_pos (by simp [hij, hp])]
   | false =>
    rw [lp_end (hst (j + 1) hij h1 hp)]
    unfold scanDown
    rw [if_neg (by simp [hp])]
  ·rw [lp_end (hen (j + 1) (by omega))]
   unfold scanDown
   rw [if_neg (by simp; omega)]
/-! ### insertion in part -/
theorem scanSo {a b : Nat} {v9 : Int} {k10 : Nat} {d : Array Int} (hd : okA c d) (hb : b ≤ d.size) : ∀ {k i : Nat}, b - i = k → 1 ≤ i → i ≤ b → lp (sPartial_L33_step c d.toList a b v9 k10) (i : Int) = some ((scanSorted (lk c) d b i : Nat) : Int)
 | 0, i, hk, h1, h2 => by
  have h : ¬ ((i : Int) < (b : Int)) := by omega
  rw [lp_end (r := (i : Int)) (by simp only [sPartial_L33_step, h, ↓reduceIte])]
  unfold scanSorted
  rw [if_neg (by simp; omega)]
 | k + 1, i, hk, h1, h2 => by
  have hn := hd.1
  have h : ((i : Int) < (b : Int)) := by omega
  have e : (i : Int) - 1 = ((i - 1 : Nat) : Int) := by omega
  have e2 : (i : Int) + 1 = ((i + 1 : Nat) : Int) := by omega
  have ii : i < d.size := by omega
  have ij : i - 1 < d.size := by omega
  have cc := cmp_lt hd ii ij
  cases hl : lk c d[i]! d[i - 1]! with
  | true =>
   have h4 := lk_t hl
   rw [lp_end (r := (i : Int)) (by simp only [sPartial_L33_step, h, e, zN, qR _ (show i - 1 ≤ 1000 by omega), ↓reduceIte, Int.toNat_natCast, gA d ii, gA d ij, Option.bind_some, cc, h4])]
   unfold scanSorted
   rw [if_neg (by simp [hl])]
  | false =>
   have h4 := lk_f hl
   rw [lp_go (s' := ((i + 1 : Nat) : Int)) (by simp only [sPartial_L33_step, h, e, e2, zN, qR _ (show i - 1 ≤ 1000 by omega), qR _ (show i + 1 ≤ 1000 by omega), ↓reduceIte, Int.toNat_natCast, gA d ii, gA d ij, Option.bind_some, cc, h4])]
   rw [scanSo hd hb (k := k) (by omega) (by omega) (by omega)]
   conv => rhs; unfold scanSorted
   rw [if_pos (by simp [hl]; omega)]
theorem partial_eq {a b : Nat} {d : Array Int} (hd : okA c d) (hb : b ≤ d.size) (hab : a + 1 ≤ b) (h50 : b < a + 50) : sPartial c d.toList a b = some ((partialInsertionSort (lk c) d a b).1.toList, (partialInsertionSort (lk c) d a b).2) := by
 have hn := hd.1
 have e : (a : Int) + 1 = ((a + 1 : Nat) : Int) := by omega
 have e1 : (b : Int) - (a : Int) = ((b - a : Nat) : Int) := by omega
 have h5 : ((0 : Nat) : Int) < 5 := by omega
 have h6 : ((b - a : Nat) : Int) < 50 := by omega
 have hs := scanSo (c := c) (a := a) (v9 := ((a + 1 : Nat) : Int)) (k10 := 0) hd hb rfl (show 1 ≤ a + 1 by omega) hab
 have hk : partialInsertionSort (lk c) d a b = if scanSorted (lk c) d b (a + 1) = b then (d, true) else (d, false) := by
  unfold partialInsertionSort
  rw [partialIns_succ]
  split
  ·rfl
  ·rw [if_pos (by omega)]
 rw [hk]
 by_cases hsb : scanSorted (lk c) d b (a + 1) = b
 ·have h7 : ((scanSorted (lk c) d b (a + 1) : Nat) : Int) = (b : Int) := by omega
  have := lp_end (step := sPartial_L2_step c d.toList a b) (s := (((a + 1 : Nat) : Int), 0)) (r := .inl true) (by
   simp only [sPartial_L2_step, h5, ↓reduceIte, hs, Option.bind_some, h7])
  simp only [sPartial, e, qR _ (show a + 1 ≤ 1000 by omega), ↓reduceIte, this, Option.bind_some, hsb]
 ·have h7 : ¬ ((scanSorted (lk c) d b (a + 1) : Nat) : Int) = (b : Int) := by omega
  have := lp_end (step := sPartial_L2_step c d.toList a b) (s := (((a + 1 : Nat) : Int), 0)) (r := .inl false) (by
   simp only [sPartial_L2_step, h5, e1, qR _ (show b - a ≤ 1000 by omega), h6, ↓reduceIte, hs, Option.bind_some, h7])
  simp only [sPartial, e, qR _ (show a + 1 ≤ 1000 by omega), ↓reduceIte, this, Option.bind_some, hsb]
/-! ### the partitions -/
theorem up1 {a j : Nat} {v12 v13 : Int} {d : Array Int} (hd : okA c d) (ha : a < d.size) (hj : j < d.size) {i : Nat} : lp (sPart_L214_step c a v12 j d.toList) (i : Int) = some ((scanUp (fun x => lk c x d[a]!) d j i : Nat) : Int) := by
 have hn := hd.1
 refine scanU (lo := 0) (fun i _ h2 h3 => ?_) (fun i _ h2 h3 => ?_) (fun i h => ?_) (Nat.zero_le _) (Nat.le_refl _)
 ·have h : (i : Int) ≤ (j : Int) := by omega
  have ii : i < d.size := by omega
  have h4 := lk_t h3
  have e2 : (i : Int) + 1 = ((i + 1 : Nat) : Int) := by omega
  simp only [sPart_L214_step, h, e2, zN, qR _ (show i + 1 ≤ 1000 by omega), ↓reduceIte, Int.toNat_natCast, gA d ii, gA d ha, Option.bind_some, cmp_lt hd ii ha, h4]
 ·have h : (i : Int) ≤ (j : Int) := by omega
  have ii : i < d.size := by omega
  have h4 := lk_f h3
  simp only [sPart_L214_step, h, zN, ↓reduceIte, Int.toNat_natCast, gA d ii, gA d ha, Option.bind_some, cmp_lt hd ii ha, h4]
 ·have h : ¬ (i : Int) ≤ (j : Int) := by omega
  simp only [sPart_L214_step, h, ↓reduceIte]
theorem dn1 {a i j : Nat} {v13 : Int} {d : Array Int} (hd : okA c d) (ha : a < d.size) (hj : j < d.size) (h0 : 0 < i) : lp (sPart_L237_step c a v13 d.toList i) (j : Int) = some ((scanDown (fun x => !lk c x d[a]!) d i j : Nat) : Int) := by
 have hn := hd.1
 refine scanD (hi := j) h0 (fun k h2 h2' h3 => ?_) (fun k h2 h2' h3 => ?_) (fun k h => ?_) (Nat.le_refl _)
 ·have h : (i : Int) ≤ (k : Int) := by omega
  have ii : k < d.size := by omega
  have h4 := lk_f (Bool.not_eq_true' _ ▸ h3)
  have e2 : (k : Int) - 1 = ((k - 1 : Nat) : Int) := by omega
  simp only [sPart_L237_step, h, e2, zN, qR _ (show k - 1 ≤ 1000 by omega), ↓reduceIte, Int.toNat_natCast, gA d ii, gA d ha, Option.bind_some, cmp_lt hd ii ha, h4]
 ·have h : (i : Int) ≤ (k : Int) := by omega
  have ii : k < d.size := by omega
  have h4 := lk_t (Bool.not_eq_false' _ ▸ h3)
  simp only [sPart_L237_step, h, zN, ↓reduceIte, Int.toNat_natCast, gA d ii, gA d ha, Option.bind_some, cmp_lt hd ii ha, h4]
 ·have h : ¬ (i : Int) ≤ (k : Int) := by omega
  simp only [sPart_L237_step, h, ↓reduceIte]
theorem partLoop_facts {a : Nat} : ∀ {k i j : Nat} {d : Array Int}, j + 1 - i ≤ k → 0 < i → j < d.size → okA c d →
  (partLoop (lk c) a i j d).1 ≤ j ∧ (partLoop (lk c) a i j d).2.size = d.size ∧ okA c (partLoop (lk c) a i j d).2 := by
 intro k
 induction k with
 | zero =>
  intro i j d hk h0 hj hd
  rw [partLoop_eq]
  have h1 : scanUp (fun x => lk c x d[a]!) d j i = i := by unfold scanUp; rw [if_neg (by simp; omega)]
  have h2 := scanDown_le (fun x => !lk c x d[a]!) d i j
  rw [h1, if_pos (by omega)]
  exact ⟨h2, rfl, hd⟩
 | succ k ih =>
  intro i j d hk h0 hj hd
  rw [partLoop_eq]
  have h1 := scanUp_ge (fun x => lk c x d[a]!) d j i
  have h2 := scanDown_le (fun x => !lk c x d[a]!) d (scanUp (fun x => lk c x d[a]!) d j i) j
  split
  ·exact ⟨h2, rfl, hd⟩
  ·rename_i h3
   have := ih (i := scanUp (fun x => lk c x d[a]!) d j i + 1) (j := scanDown (fun x => !lk c x d[a]!) d (scanUp (fun x => lk c x d[a]!) d j i) j - 1) (d := swp d (scanUp (fun x => lk c x d[a]!) d j i) (scanDown (fun x => !lk c x d[a]!) d (scanUp (fun x => lk c x d[a]!) d j i) j)) (by omega) (by omega) (by rw [size_swp]; omega) (hd.swp (by omega) (by omega))
   exact ⟨by omega, this.2.1.trans (size_swp _ _ _), this.2.2⟩
theorem part_loop {a : Nat} : ∀ {k i j : Nat} {d : Array Int}, j + 1 - i ≤ k → 0 < i → i ≤ 1000 → j < d.size → a < d.size → okA c d →
  lp (sPart_L88_step c a) ((i : Int), (j : Int), d.toList) = some (((partLoop (lk c) a i j d).1 : Int), (partLoop (lk c) a i j d).2.toList) := by
 intro k
 induction k with
 | zero =>
  intro i j d hk h0 hi hj ha hd
  rw [partLoop_eq]
  have h1 : scanUp (fun x => lk c x d[a]!) d j i = i := by unfold scanUp; rw [if_neg (by simp; omega)]
  have h2 := scanDown_le (fun x => !lk c x d[a]!) d i j
  have hu := up1 (c := c) (a := a) (v12 := (i : Int)) (v13 := (j : Int)) (i := i) hd ha hj
  have hdn := dn1 (c := c) (a := a) (i := i) (v13 := (j : Int)) hd ha hj h0
  rw [h1] at hu
  rw [h1, if_pos (by omega)]
  have h3 : (i : Int) > ((scanDown (fun x => !lk c x d[a]!) d i j : Nat) : Int) := by omega
  exact lp_end (by simp only [sPart_L88_step, hu, hdn, Option.bind_some, h3, ↓reduceIte])
 | succ k ih =>
  intro i j d hk h0 hi hj ha hd
  have hn := hd.1
  rw [partLoop_eq]
  have h1 := scanUp_ge (fun x => lk c x d[a]!) d j i
  have hu := up1 (c := c) (a := a) (v12 := (i : Int)) (v13 := (j : Int)) (i := i) hd ha hj
  have hdn := dn1 (c := c) (a := a) (i := scanUp (fun x => lk c x d[a]!) d j i) (v13 := (j : Int)) hd ha hj (by omega)
  have h2 := scanDown_le (fun x => !lk c x d[a]!) d (scanUp (fun x => lk c x d[a]!) d j i) j
  generalize scanUp (fun x => lk c x d[a]!) d j i = i2 at *
  generalize scanDown (fun x => !lk c x d[a]!) d i2 j = j2 at *
  by_cases h3 : i2 > j2
  ·rw [if_pos h3]
   have h4 : (i2 : Int) > (j2 : Int) := by omega
   exact lp_end (by simp only [sPart_L88_step, hu, hdn, Option.bind_some, h4, ↓reduceIte])
  ·rw [if_neg h3]
   have h4 : ¬ (i2 : Int) > (j2 : Int) := by omega
   have ii : i2 < d.size := by omega
   have ij : j2 < d.size := by omega
   have lj : j2 < d.toList.length := by simpa using ij
   have e1 : (i2 : Int) + 1 = ((i2 + 1 : Nat) : Int) := by omega
   have e2 : (j2 : Int) - 1 = ((j2 - 1 : Nat) : Int) := by omega
   rw [lp_go (s' := (((i2 + 1 : Nat) : Int), ((j2 - 1 : Nat) : Int), (swp d i2 j2).toList)) (by
    simp only [sPart_L88_step, hu, hdn, Option.bind_some, h4, e1, e2, zN, qR _ (show i2 + 1 ≤ 1000 by omega), qR _ (show j2 - 1 ≤ 1000 by omega), ↓reduceIte, Int.toNat_natCast, gA d ii, gA d ij, lj]
    exact bind_k (gS _ lj) fun x => by rw [swL])]
   exact ih (by omega) (by omega) (by omega) (by rw [size_swp]; omega) (by rw [size_swp]; exact ha) (hd.swp ii ij)
theorem upH {a b pv i : Nat} {d : Array Int} (hd : okA c d) (ha : a < d.size) (hp : pv < d.size) (hb : b ≤ d.size) (h0 : 0 < b) :
  lp (sPart_L12_step c d.toList a b pv d[pv]! d[a]!) (i : Int) = some ((scanUp (fun x => lk c x (swp d a pv)[a]!) (swp d a pv) (b - 1) i : Nat) : Int) := by
 have hn := hd.1
 have hd2 : okA c (swp d a pv) := hd.swp ha hp
 have hs : (swp d a pv).size = d.size := size_swp _ _ _
 have ha2 : a < (swp d a pv).size := by rw [hs]; exact ha
 have la : a < d.toList.length := by simpa using ha
 have eb : (b : Int) - 1 = ((b - 1 : Nat) : Int) := by omega
 refine scanU (lo := 0) (fun i _ h2 h3 => ?_) (fun i _ h2 h3 => ?_) (fun i h => ?_) (Nat.zero_le _) (Nat.le_refl _)
 ·have h : (i : Int) ≤ ((b - 1 : Nat) : Int) := by omega
  have ii : i < (swp d a pv).size := by omega
  have li : i < d.toList.length := by simpa [hs] using ii
  have h4 := lk_t h3
  have e2 : (i : Int) + 1 = ((i + 1 : Nat) : Int) := by omega
  simp only [sPart_L12_step, eb, h, e2, zN, qR _ (show i + 1 ≤ 1000 by omega), ↓reduceIte, Int.toNat_natCast, swL, li, la, gA _ ii, gA _ ha2, Option.bind_some, cmp_lt hd2 ii ha2, h4]
 ·have h : (i : Int) ≤ ((b - 1 : Nat) : Int) := by omega
  have ii : i < (swp d a pv).size := by omega
  have li : i < d.toList.length := by simpa [hs] using ii
  have h4 := lk_f h3
  simp only [sPart_L12_step, eb, h, zN, ↓reduceIte, Int.toNat_natCast, swL, li, la, gA _ ii, gA _ ha2, Option.bind_some, cmp_lt hd2 ii ha2, h4]
 ·have h : ¬ (i : Int) ≤ ((b - 1 : Nat) : Int) := by omega
  simp only [sPart_L12_step, eb, h, ↓reduceIte]
theorem dnH {a pv i j : Nat} {d : Array Int} (hd : okA c d) (ha : a < d.size) (hp : pv < d.size) (hj : j < d.size) (h0 : 0 < i) :
  lp (sPart_L39_step c d.toList a pv d[pv]! d[a]! i) (j : Int) = some ((scanDown (fun x => !lk c x (swp d a pv)[a]!) (swp d a pv) i j : Nat) : Int) := by
 have hn := hd.1
 have hd2 : okA c (swp d a pv) := hd.swp ha hp
 have hs : (swp d a pv).size = d.size := size_swp _ _ _
 have ha2 : a < (swp d a pv).size := by rw [hs]; exact ha
 have la : a < d.toList.length := by simpa using ha
 refine scanD (hi := j) h0 (fun k h2 h2' h3 => ?_) (fun k h2 h2' h3 => ?_) (fun k h => ?_) (Nat.le_refl _)
 ·have h : (i : Int) ≤ (k : Int) := by omega
  have ii : k < (swp d a pv).size := by omega
  have li : k < d.toList.length := by simpa [hs] using ii
  have h4 := lk_f (Bool.not_eq_true' _ ▸ h3)
  have e2 : (k : Int) - 1 = ((k - 1 : Nat) : Int) := by omega
  simp only [sPart_L39_step, h, e2, zN, qR _ (show k - 1 ≤ 1000 by omega), ↓reduceIte, Int.toNat_natCast, swL, li, la, gA _ ii, gA _ ha2, Option.bind_some, cmp_lt hd2 ii ha2, h4]
 ·have h : (i : Int) ≤ (k : Int) := by omega
  have ii : k < (swp d a pv).size := by omega
  have li : k < d.toList.length := by simpa [hs] using ii
  have h4 := lk_t (Bool.not_eq_false' _ ▸ h3)
  simp only [sPart_L39_step, h, zN, ↓reduceIte, Int.toNat_natCast, swL, li, la, gA _ ii, gA _ ha2, Option.bind_some, cmp_lt hd2 ii ha2, h4]
 ·have h : ¬ (i : Int) ≤ (k : Int) := by omega
  simp only [sPart_L39_step, h, ↓reduceIte]
end
set_option maxHeartbeats 1000000
set_option maxRecDepth 100000
noncomputable section
open Go Go.Proofs Go.Sort
variable {c : TB}
theorem part_eq {a b pv : Nat} {d : Array Int} (hd : okA c d) (h1 : a ≤ pv) (h2 : pv < b) (hb : b ≤ d.size) :
  sPart c d.toList a b pv = some ((partition (lk c) d a b pv).2.2.toList, ((partition (lk c) d a b pv).1 : Int), (partition (lk c) d a b pv).2.1) := by
 have hn := hd.1
 have ha : a < d.size := by omega
 have hp : pv < d.size := by omega
 have hd2 : okA c (swp d a pv) := hd.swp ha hp
 have hs : (swp d a pv).size = d.size := size_swp _ _ _
 have lp' : pv < d.toList.length := by simpa using hp
 have la : a < d.toList.length := by simpa using ha
 have e1 : (a : Int) + 1 = ((a + 1 : Nat) : Int) := by omega
 have e2 : (b : Int) - 1 = ((b - 1 : Nat) : Int) := by omega
 have hu := upH (c := c) (i := a + 1) hd ha hp hb (by omega)
 have hdn := dnH (c := c) (a := a) (pv := pv) (i := scanUp (fun x => lk c x (swp d a pv)[a]!) (swp d a pv) (b - 1) (a + 1)) (j := b - 1) hd ha hp (by omega) (by have := scanUp_ge (fun x => lk c x (swp d a pv)[a]!) (swp d a pv) (b - 1) (a + 1); omega)
 have f1 := scanUp_ge (fun x => lk c x (swp d a pv)[a]!) (swp d a pv) (b - 1) (a + 1)
 have f2 := scanDown_le (fun x => !lk c x (swp d a pv)[a]!) (swp d a pv) (scanUp (fun x => lk c x (swp d a pv)[a]!) (swp d a pv) (b - 1) (a + 1)) (b - 1)
 unfold partition
 dsimp only
 generalize scanUp (fun x => lk c x (swp d a pv)[a]!) (swp d a pv) (b - 1) (a + 1) = i at *
 generalize scanDown (fun x => !lk c x (swp d a pv)[a]!) (swp d a pv) i (b - 1) = j at *
 have ia : a < (swp d a pv).size := by omega
 have ij : j < (swp d a pv).size := by omega
 have lj : j < d.toList.length := by simpa [hs] using ij
 have la2 : a < (swp d a pv).toList.length := by simpa using ia
 have lj2 : j < (swp d a pv).toList.length := by simpa using ij
 have gB : ∀ {k : Nat}, k < (swp d a pv).size → ((d.toList.set a d[pv]!).set pv d[a]!)[k]? = some (swp d a pv)[k]! := fun h => by rw [swL]; exact gA _ h
 have gC : ∀ {k m : Nat} {y : Int}, k < d.toList.length → ((((d.toList.set a d[pv]!).set pv d[a]!).set m y)[k]?) ≠ none := fun h => gS _ (by simpa using h)
 unfold sPart
 refine guard_i (zN _) (bind_i (gA d hp) (guard_i (zN _) (bind_i (gA d ha) (guard_i lp' (bind_k (gS _ lp') fun x8 => guard_i (by rw [e1]; exact qR _ (by omega)) (guard_i (by rw [e2]; exact qR _ (by omega)) (bind_i (v := (i : Int)) (by rw [e1]; exact hu) (bind_i (v := (j : Int)) (by rw [e2]; exact hdn) ?_))))))))
 by_cases h3 : i > j
 ·have h4 : (i : Int) > (j : Int) := by omega
  rw [if_pos h4, if_pos h3]
  refine guard_i la (bind_i (gB ia) (guard_i (zN _) (guard_i lj (bind_i (gB ij) (bind_k (gC la) fun x => ?_)))))
  simp only [Int.toNat_natCast, swL]
 ·have h4 : ¬ (i : Int) > (j : Int) := by omega
  have ii : i < (swp d a pv).size := by omega
  have li : i < d.toList.length := by simpa [hs] using ii
  have e3 : (i : Int) + 1 = ((i + 1 : Nat) : Int) := by omega
  have e4 : (j : Int) - 1 = ((j - 1 : Nat) : Int) := by omega
  have hd3 : okA c (swp (swp d a pv) i j) := hd2.swp ii ij
  have hs3 : (swp (swp d a pv) i j).size = d.size := (size_swp _ _ _).trans hs
  have hl := part_loop (c := c) (a := a) (i := i + 1) (j := j - 1) (d := swp (swp d a pv) i j) (Nat.le_refl _) (by omega) (by omega) (by omega) (by omega) hd3
  obtain ⟨g1, g2, g3⟩ := partLoop_facts (c := c) (a := a) (i := i + 1) (j := j - 1) (d := swp (swp d a pv) i j) (Nat.le_refl _) (by omega) (by omega) hd3
  rw [if_neg h4, if_neg h3]
  refine guard_i (zN _) (guard_i lj (bind_i (gB ij) (guard_i (zN _) (guard_i li (bind_i (gB ii) (bind_k (gC lj) fun x => guard_i (by rw [e3]; exact qR _ (by omega)) (guard_i (by rw [e4]; exact qR _ (by omega)) (bind_i (by rw [e3, e4]; simp only [Int.toNat_natCast, swL]; exact hl) ?_))))))))
  generalize partLoop (lk c) a (i + 1) (j - 1) (swp (swp d a pv) i j) = R at *
  obtain ⟨r1, r2⟩ := R
  simp only at g1 g2 g3 ⊢
  have ra : a < r2.size := by omega
  have rj : r1 < r2.size := by omega
  have lra : a < r2.toList.length := by simpa using ra
  refine bind_i (gA _ ra) (guard_i (zN _) (bind_i (gA _ rj) (guard_i lra (bind_k (gS _ lra) fun x => ?_))))
  simp only [Int.toNat_natCast, swL]
/-! ### the part of equals -/
theorem upE {a j : Nat} {v11 v12 : Int} {d : Array Int} (hd : okA c d) (ha : a < d.size) (hj : j < d.size) {i : Nat} : lp (sPartEq_L138_step c a v11 j d.toList) (i : Int) = some ((scanUp (fun x => !lk c d[a]! x) d j i : Nat) : Int) := by
 have hn := hd.1
 refine scanU (lo := 0) (fun i _ h2 h3 => ?_) (fun i _ h2 h3 => ?_) (fun i h => ?_) (Nat.zero_le _) (Nat.le_refl _)
 ·have h : (i : Int) ≤ (j : Int) := by omega
  have ii : i < d.size := by omega
  have h4 := lk_f (Bool.not_eq_true' _ ▸ h3)
  have e2 : (i : Int) + 1 = ((i + 1 : Nat) : Int) := by omega
  simp only [sPartEq_L138_step, h, e2, zN, qR _ (show i + 1 ≤ 1000 by omega), ↓reduceIte, Int.toNat_natCast, gA d ii, gA d ha, Option.bind_some, cmp_lt hd ha ii, h4]
 ·have h : (i : Int) ≤ (j : Int) := by omega
  have ii : i < d.size := by omega
  have h4 := lk_t (Bool.not_eq_false' _ ▸ h3)
  simp only [sPartEq_L138_step, h, zN, ↓reduceIte, Int.toNat_natCast, gA d ii, gA d ha, Option.bind_some, cmp_lt hd ha ii, h4]
 ·have h : ¬ (i : Int) ≤ (j : Int) := by omega
  simp only [sPartEq_L138_step, h, ↓reduceIte]
theorem dnE {a i j : Nat} {v12 : Int} {d : Array Int} (hd : okA c d) (ha : a < d.size) (hj : j < d.size) (h0 : 0 < i) : lp (sPartEq_L161_step c a v12 d.toList i) (j : Int) = some ((scanDown (fun x => lk c d[a]! x) d i j : Nat) : Int) := by
 have hn := hd.1
 refine scanD (hi := j) h0 (fun k h2 h2' h3 => ?_) (fun k h2 h2' h3 => ?_) (fun k h => ?_) (Nat.le_refl _)
 ·have h : (i : Int) ≤ (k : Int) := by omega
  have ii : k < d.size := by omega
  have h4 := lk_t h3
  have e2 : (k : Int) - 1 = ((k - 1 : Nat) : Int) := by omega
  simp only [sPartEq_L161_step, h, e2, zN, qR _ (show k - 1 ≤ 1000 by omega), ↓reduceIte, Int.toNat_natCast, gA d ii, gA d ha, Option.bind_some, cmp_lt hd ha ii, h4]
 ·have h : (i : Int) ≤ (k : Int) := by omega
  have ii : k < d.size := by omega
  have h4 := lk_f h3
  simp only [sPartEq_L161_step, h, zN, ↓reduceIte, Int.toNat_natCast, gA d ii, gA d ha, Option.bind_some, cmp_lt hd ha ii, h4]
 ·have h : ¬ (i : Int) ≤ (k : Int) := by omega
  simp only [sPartEq_L161_step, h, ↓reduceIte]
theorem partEq_loop {a : Nat} : ∀ {k i j : Nat} {d : Array Int}, j + 1 - i ≤ k → 0 < i → i ≤ 1000 → j < d.size → a < d.size → okA c d →
  lp (sPartEq_L12_step c a) ((i : Int), (j : Int), d.toList) = some (((partEqLoop (lk c) a i j d).1 : Int), (partEqLoop (lk c) a i j d).2.toList) := by
 intro k
 induction k with
 | zero =>
  intro i j d hk h0 hi hj ha hd
  rw [partEqLoop_eq]
  have h1 : scanUp (fun x => !lk c d[a]! x) d j i = i := by unfold scanUp; rw [if_neg (by simp; omega)]
  have h2 := scanDown_le (fun x => lk c d[a]! x) d i j
  have hu := upE (c := c) (a := a) (v11 := (i : Int)) (v12 := (j : Int)) (i := i) hd ha hj
  have hdn := dnE (c := c) (a := a) (i := i) (v12 := (j : Int)) hd ha hj h0
  rw [h1] at hu
  rw [h1, if_pos (by omega)]
  have h3 : (i : Int) > ((scanDown (fun x => lk c d[a]! x) d i j : Nat) : Int) := by omega
  exact lp_end (by simp only [sPartEq_L12_step, hu, hdn, Option.bind_some, h3, ↓reduceIte])
 | succ k ih =>
  intro i j d hk h0 hi hj ha hd
  have hn := hd.1
  rw [partEqLoop_eq]
  have h1 := scanUp_ge (fun x => !lk c d[a]! x) d j i
  have hu := upE (c := c) (a := a) (v11 := (i : Int)) (v12 := (j : Int)) (i := i) hd ha hj
  have hdn := dnE (c := c) (a := a) (i := scanUp (fun x => !lk c d[a]! x) d j i) (v12 := (j : Int)) hd ha hj (by omega)
  have h2 := scanDown_le (fun x => lk c d[a]! x) d (scanUp (fun x => !lk c d[a]! x) d j i) j
  generalize scanUp (fun x => !lk c d[a]! x) d j i = i2 at *
  generalize scanDown (fun x => lk c d[a]! x) d i2 j = j2 at *
  by_cases h3 : i2 > j2
  ·rw [if_pos h3]
   have h4 : (i2 : Int) > (j2 : Int) := by omega
   exact lp_end (by simp only [sPartEq_L12_step, hu, hdn, Option.bind_some, h4, ↓reduceIte])
  ·rw [if_neg h3]
   have h4 : ¬ (i2 : Int) > (j2 : Int) := by omega
   have ii : i2 < d.size := by omega
   have ij : j2 < d.size := by omega
   have lj : j2 < d.toList.length := by simpa using ij
   have e1 : (i2 : Int) + 1 = ((i2 + 1 : Nat) : Int) := by omega
   have e2 : (j2 : Int) - 1 = ((j2 - 1 : Nat) : Int) := by omega
   rw [lp_go (s' := (((i2 + 1 : Nat) : Int), ((j2 - 1 : Nat) : Int), (swp d i2 j2).toList)) (by
    simp only [sPartEq_L12_step, hu, hdn, Option.bind_some, h4, e1, e2, zN, qR _ (show i2 + 1 ≤ 1000 by omega), qR _ (show j2 - 1 ≤ 1000 by omega), ↓reduceIte, Int.toNat_natCast, gA d ii, gA d ij, lj]
    exact bind_k (gS _ lj) fun x => by rw [swL])]
   exact ih (by omega) (by omega) (by omega) (by rw [size_swp]; omega) (by rw [size_swp]; exact ha) (hd.swp ii ij)
theorem partEq_eq {a b pv : Nat} {d : Array Int} (hd : okA c d) (h1 : a ≤ pv) (h2 : pv < b) (hb : b ≤ d.size) :
  sPartEq c d.toList a b pv = some ((partitionEqual (lk c) d a b pv).2.toList, ((partitionEqual (lk c) d a b pv).1 : Int)) := by
 have hn := hd.1
 have ha : a < d.size := by omega
 have hp : pv < d.size := by omega
 have hd2 : okA c (swp d a pv) := hd.swp ha hp
 have hs : (swp d a pv).size = d.size := size_swp _ _ _
 have lp' : pv < d.toList.length := by simpa using hp
 have e1 : (a : Int) + 1 = ((a + 1 : Nat) : Int) := by omega
 have e2 : (b : Int) - 1 = ((b - 1 : Nat) : Int) := by omega
 have hl := partEq_loop (c := c) (a := a) (i := a + 1) (j := b - 1) (d := swp d a pv) (Nat.le_refl _) (by omega) (by omega) (by omega) (by omega) hd2
 unfold sPartEq partitionEqual
 refine guard_i (zN _) (bind_i (gA d hp) (guard_i (zN _) (bind_i (gA d ha) (guard_i lp' (bind_k (gS _ lp') fun x8 => guard_i (by rw [e1]; exact qR _ (by omega)) (guard_i (by rw [e2]; exact qR _ (by omega)) (bind_i (by rw [e1, e2]; simp only [Int.toNat_natCast, swL]; exact hl) rfl)))))))
/-! ### the whole -/
theorem bIns {a b : Nat} {d : Array Int} (hd : okA c d) (hab : a ≤ b) (hb : b ≤ d.size) : ∃ d', sInsertion c d.toList a b = some d'.toList ∧ PermIn a b d d' ∧ SortedIn (lk c) a b d' :=
 ⟨_, ins_eq hd hb hab, insertionSort_holds (swo_lk c) d a b hab hb⟩
theorem bHeap {a b : Nat} {d : Array Int} (hd : okA c d) (hab : a < b) (hb : b ≤ d.size) : ∃ d', sHeap c d.toList a b = some d'.toList ∧ PermIn a b d d' ∧ SortedIn (lk c) a b d' :=
 ⟨_, heap_eq hd hb hab, heapSort_holds (swo_lk c) d a b (Nat.le_of_lt hab) hb⟩
theorem len_eq {a b : Nat} {d d' : Array Int} (h : PermIn a b d d') : d'.toList.length = d.toList.length := by simpa using h.1
def RecS (c : TB) (rec : TB → List Int → Int → Int → Int → Option (List Int)) (m : Nat) : Prop :=
 ∀ (a b : Nat) (limit : Int) (d : Array Int), b - a < m → a ≤ b → b ≤ d.size → d.size < 50 → okA c d → Below (lk c) a b d → 0 ≤ limit → limit ≤ 100 →
  ∃ d', rec c d.toList a b limit = some d'.toList ∧ PermIn a b d d' ∧ SortedIn (lk c) a b d'
def GoesOn (c : TB) (a b : Nat) (d : Array Int) (r : Int × Int × Int × Bool × Bool × List Int) : Prop :=
 ∃ (a' b' : Nat) (limit : Int) (wb wp : Bool) (d' : Array Int), r = ((a' : Int), (b' : Int), limit, wb, wp, d'.toList) ∧ a' ≤ b' ∧ b' ≤ d.size ∧ b' - a' < b - a ∧ d'.size = d.size ∧ okA c d' ∧ Below (lk c) a' b' d' ∧ 0 ≤ limit ∧ limit ≤ 100 ∧
  ∀ R, PermIn a' b' d' R → SortedIn (lk c) a' b' R → PermIn a b d R ∧ SortedIn (lk c) a b R
end
set_option maxHeartbeats 1000000
set_option maxRecDepth 100000
noncomputable section
open Go Go.Proofs Go.Sort
variable {c : TB} {rec : TB → List Int → Int → Int → Int → Option (List Int)}
theorem j1_part {a b pv : Nat} {limit : Int} {d : Array Int} (hrec : RecS c rec (b - a)) (hd : okA c d) (hb : b ≤ d.size) (h50 : d.size < 50) (hB : Below (lk c) a b d) (h1 : a ≤ pv) (h2 : pv < b) (l0 : 0 ≤ limit) (l1 : limit ≤ 100) (h12 : 1 < b - a) :
  ∃ (m : Nat) (ap : Bool) (d4 : Array Int), sPart c d.toList a b pv = some (d4.toList, (m : Int), ap) ∧ d4.toList.length = d.toList.length ∧ a ≤ m ∧ m < b ∧
   ((m - a < b - m ∧ ∃ d5 : Array Int, rec c d4.toList a m limit = some d5.toList ∧ d5.toList.length = d4.toList.length ∧ ∀ wb, GoesOn c a b d (((m + 1 : Nat) : Int), (b : Int), limit, wb, ap, d5.toList)) ∨
    (¬ (m - a < b - m) ∧ ∃ d5 : Array Int, rec c d4.toList ((m + 1 : Nat) : Int) b limit = some d5.toList ∧ d5.toList.length = d4.toList.length ∧ ∀ wb, GoesOn c a b d ((a : Int), (m : Int), limit, wb, ap, d5.toList))) := by
 have hp := part_eq hd h1 h2 hb
 have hperm := (partition_holds (lk c) (swo_lk c) d a b pv h1 h2 hb).2.2.1
 cases hx : partition (lk c) d a b pv with
 | mk m q =>
  obtain ⟨ap, d4⟩ := q
  rw [hx] at hp hperm
  simp only at hp hperm
  obtain ⟨g1, g2, g3, g4, g5, g6, g7⟩ := round_part (swo_lk c) (partition_holds (lk c)) h1 h2 hb hB hx
  have hd4 : okA c d4 := hd.perm hb hperm
  refine ⟨m, ap, d4, hp, by simpa using g3, g1, g2, ?_⟩
  by_cases hm : m - a < b - m
  ·obtain ⟨d5, q1, q2, q3⟩ := hrec a m limit d4 (by omega) g1 (by omega) (by omega) hd4 g4 l0 l1
   obtain ⟨f1, f2⟩ := g6 d5 q2 q3
   have s5 : d5.size = d4.size := q2.1
   exact .inl ⟨hm, d5, q1, by simpa using s5, fun wb => ⟨m + 1, b, limit, wb, ap, d5, rfl, by omega, hb, by omega, by omega, hd4.perm (by omega) q2, f1, l0, l1, f2⟩⟩
  ·obtain ⟨d5, q1, q2, q3⟩ := hrec (m + 1) b limit d4 (by omega) (by omega) (by omega) (by omega) hd4 g5 l0 l1
   obtain ⟨f1, f2⟩ := g7 d5 q2 q3
   have s5 : d5.size = d4.size := q2.1
   exact .inr ⟨hm, d5, q1, by simpa using s5, fun wb => ⟨a, m, limit, wb, ap, d5, rfl, g1, by omega, by omega, by omega, hd4.perm (by omega) q2, f1, l0, l1, f2⟩⟩
def outJ {α : Type} : α ⊕ α → α | .inl r => r | .inr r => r
theorem j1_eq {a b pv : Nat} {limit : Int} {wb wp : Bool} {d : Array Int} (hrec : RecS c rec (b - a)) (hd : okA c d) (hb : b ≤ d.size) (h50 : d.size < 50) (hB : Below (lk c) a b d) (h1 : a ≤ pv) (h2 : pv < b) (l0 : 0 ≤ limit) (l1 : limit ≤ 100) (h12 : 1 < b - a) :
  ∃ o, sPdq_J1166_step rec c ((a : Int), (b : Int), limit, wb, wp, ((b - a : Nat) : Int), (pv : Int), d.toList) = some o ∧ GoesOn c a b d (outJ o) := by
 have hn := hd.1
 have hpv : pv < d.size := by omega
 obtain ⟨m, ap, d4, p1, p2, p3, p4, p5⟩ := j1_part (limit := limit) hrec hd hb h50 hB h1 h2 l0 l1 h12
 have e3 : (m : Int) - (a : Int) = ((m - a : Nat) : Int) := by omega
 have e4 : (b : Int) - (m : Int) = ((b - m : Nat) : Int) := by omega
 have e5 : tdiv ((b - a : Nat) : Int) 8 = (((b - a) / 8 : Nat) : Int) := by rw [Int.tdiv_eq_ediv_of_nonneg (by omega)]; omega
 have e6 : (m : Int) + 1 = ((m + 1 : Nat) : Int) := by omega
 have part : ∀ {T : Option ((Int × Int × Int × Bool × Bool × List Int) ⊕ (Int × Int × Int × Bool × Bool × List Int))}, ((sPart c d.toList a b pv).bind fun r =>
   if r.1.length = d.toList.length then
    if InR .i64 (r.2.1 - (a : Int)) then
     if InR .i64 ((b : Int) - r.2.1) then
      if InR .i64 (tdiv ((b - a : Nat) : Int) 8) then
       if (r.2.1 - (a : Int)) < ((b : Int) - r.2.1) then
        (rec c r.1 a r.2.1 limit).bind fun r2 =>
        if r2.length = r.1.length then
         if InR .i64 (r.2.1 + 1) then
          some ((Sum.inl ((r.2.1 + 1), (b : Int), limit, (decide ((r.2.1 - (a : Int)) ≥ (tdiv ((b - a : Nat) : Int) 8))), r.2.2, r2)))
         else none
        else none
       else
        if InR .i64 (r.2.1 + 1) then
         (rec c r.1 (r.2.1 + 1) b limit).bind fun r2 =>
         if r2.length = r.1.length then
          some ((Sum.inl ((a : Int), r.2.1, limit, (decide (((b : Int) - r.2.1) ≥ (tdiv ((b - a : Nat) : Int) 8))), r.2.2, r2)))
         else none
        else none
      else none
     else none
    else none
   else none) = T → ∃ o, T = some o ∧ GoesOn c a b d (outJ o) := by
  intro T hT
  subst hT
  rw [p1, Option.bind_some]
  dsimp only
  rw [if_pos p2, e3, e4, e5, e6, if_pos (qR _ (by omega)), if_pos (qR _ (by omega)), if_pos (qR _ (by omega))]
  rcases p5 with ⟨q0, d5, q1, q2, q3⟩ | ⟨q0, d5, q1, q2, q3⟩
  ·rw [if_pos (show ((m - a : Nat) : Int) < ((b - m : Nat) : Int) by omega), q1, Option.bind_some, if_pos q2, if_pos (qR _ (by omega))]
   exact ⟨_, rfl, q3 _⟩
  ·rw [if_neg (show ¬ ((m - a : Nat) : Int) < ((b - m : Nat) : Int) by omega), if_pos (qR _ (by omega)), q1, Option.bind_some, if_pos q2]
   exact ⟨_, rfl, q3 _⟩
 unfold sPdq_J1166_step
 dsimp only
 by_cases ha : 0 < a
 ·have ga : (a : Int) > 0 := by omega
  have e1 : (a : Int) - 1 = ((a - 1 : Nat) : Int) := by omega
  have ia : a - 1 < d.size := by omega
  rw [if_pos ga, e1, if_pos (qR _ (by omega)), if_pos (zN _), Int.toNat_natCast, gA d ia, Option.bind_some, if_pos (zN _), Int.toNat_natCast, gA d hpv, Option.bind_some, cmp_lt hd ia hpv, Option.bind_some]
  cases hl : lk c d[a - 1]! d[pv]! with
  | true =>
   rw [if_pos (lk_t hl)]
   exact part rfl
  | false =>
   rw [if_neg (lk_f hl), partEq_eq hd h1 h2 hb, Option.bind_some]
   cases hx : partitionEqual (lk c) d a b pv with
   | mk m2 d6 =>
    obtain ⟨g1, g2, g3, g4, g5⟩ := round_eq (swo_lk c) (partitionEqual_holds (lk c)) ha h1 h2 hb hB hl hx
    have hge : ∀ i, a ≤ i → i < b → lk c d[i]! d[pv]! = false := fun i hi hi' => by
     rcases hB with h0 | hB
     ·omega
     ·exact (swo_lk c).ntrans _ _ _ (hB i hi hi') hl
    have hperm := (partitionEqual_holds (lk c) (swo_lk c) d a b pv h1 h2 hb hge).2.2.1
    rw [hx] at hperm
    rw [if_pos (by simpa using g3)]
    exact ⟨_, rfl, m2, b, limit, wb, wp, d6, rfl, g2, hb, by omega, g3, hd.perm hb hperm, g4, l0, l1, g5⟩
 ·have ga : ¬ (a : Int) > 0 := by omega
  rw [if_neg ga]
  exact part rfl
theorem GoesOn.of_perm {a b : Nat} {d d' : Array Int} {r} (h : PermIn a b d d') (hg : GoesOn c a b d' r) : GoesOn c a b d r := by
 obtain ⟨a', b', limit, wb, wp, d2, h1, h2, h3, h4, h5, h6, h7, h8, h9, h10⟩ := hg
 exact ⟨a', b', limit, wb, wp, d2, h1, h2, by rw [← h.1]; exact h3, h4, h5.trans h.1, h6, h7, h8, h9, fun R q1 q2 => ⟨permIn_trans _ _ _ _ _ h (h10 R q1 q2).1, (h10 R q1 q2).2⟩⟩
def EndsOr (c : TB) (a b : Nat) (d : Array Int) : (List Int) ⊕ ((Int × Int × Int × Bool × Bool × List Int) ⊕ (Int × Int × Int × Bool × Bool × List Int)) → Prop
 | .inl l => ∃ d', l = d'.toList ∧ PermIn a b d d' ∧ SortedIn (lk c) a b d'
 | .inr q => GoesOn c a b d (outJ q)
theorem EndsOr.of_perm {a b : Nat} {d d' : Array Int} {o} (h : PermIn a b d d') (hg : EndsOr c a b d' o) : EndsOr c a b d o := by
 cases o with
 | inl l => obtain ⟨d2, h1, h2, h3⟩ := hg; exact ⟨d2, h1, permIn_trans _ _ _ _ _ h h2, h3⟩
 | inr q => exact GoesOn.of_perm h hg
theorem j2_eq {a b pv : Nat} {limit hint : Int} {wb wp : Bool} {d : Array Int} (hrec : RecS c rec (b - a)) (hd : okA c d) (hb : b ≤ d.size) (h50 : d.size < 50) (hB : Below (lk c) a b d) (h1 : a ≤ pv) (h2 : pv < b) (l0 : 0 ≤ limit) (l1 : limit ≤ 100) (h12 : 1 < b - a) :
  ∃ o, sPdq_J1062_step rec c ((a : Int), (b : Int), limit, wb, wp, ((b - a : Nat) : Int), (pv : Int), hint, d.toList) = some o ∧ EndsOr c a b d o := by
 have plain : ∀ {d' : Array Int} {T}, PermIn a b d d' → okA c d' → ((sPdq_J1166_step rec c ((a : Int), (b : Int), limit, wb, wp, ((b - a : Nat) : Int), (pv : Int), d'.toList)).bind fun qq => match qq with
     | Sum.inl o => some ((Sum.inr (Sum.inl (o.1, o.2.1, o.2.2.1, o.2.2.2.1, o.2.2.2.2.1, o.2.2.2.2.2))))
     | Sum.inr (o) => some ((Sum.inr (Sum.inr ((o.1, o.2.1, o.2.2.1, o.2.2.2.1, o.2.2.2.2.1, o.2.2.2.2.2)))))) = T → ∃ o, T = some o ∧ EndsOr c a b d o := by
  intro d' T hp hd' hT
  subst hT
  obtain ⟨o, q1, q2⟩ := j1_eq (wb := wb) (wp := wp) (limit := limit) hrec hd' (by rw [hp.1]; exact hb) (by rw [hp.1]; exact h50) (hB.perm hb hp) h1 h2 l0 l1 h12
  rw [q1, Option.bind_some]
  cases o with
  | inl r => exact ⟨_, rfl, GoesOn.of_perm hp q2⟩
  | inr r => exact ⟨_, rfl, GoesOn.of_perm hp q2⟩
 unfold sPdq_J1062_step
 dsimp only
 by_cases hwb : wb = true
 ·rw [if_pos hwb]
  by_cases hwp : wp = true
  ·rw [if_pos hwp]
   by_cases hh : hint = 1
   ·rw [if_pos hh, partial_eq hd hb (by omega) (by omega), Option.bind_some]
    obtain ⟨s1, s2⟩ := partialInsertionSort_holds (swo_lk c) d a b (by omega) hb hB
    dsimp only
    rw [if_pos (len_eq s1)]
    by_cases hs : (partialInsertionSort (lk c) d a b).2 = true
    ·rw [if_pos hs]
     exact ⟨_, rfl, _, rfl, s1, s2 hs⟩
    ·rw [if_neg hs]
     exact plain s1 (hd.perm hb s1) rfl
   ·rw [if_neg hh]; exact plain (permIn_refl _ _ _) hd rfl
  ·rw [if_neg hwp]; exact plain (permIn_refl _ _ _) hd rfl
 ·rw [if_neg hwb]; exact plain (permIn_refl _ _ _) hd rfl
theorem j3_eq {a b : Nat} {limit : Int} {wb wp : Bool} {d : Array Int} (hrec : RecS c rec (b - a)) (hd : okA c d) (hb : b ≤ d.size) (h50 : d.size < 50) (hB : Below (lk c) a b d) (l0 : 0 ≤ limit) (l1 : limit ≤ 100) (h12 : 12 < b - a) :
  ∃ o, sPdq_J850_step rec c ((a : Int), (b : Int), limit, wb, wp, ((b - a : Nat) : Int), d.toList) = some o ∧ EndsOr c a b d o := by
 have hn := hd.1
 obtain ⟨pv, hint, p1, p2, p3⟩ := choose_eq (a := a) (b := b) hd hb (by omega) (by omega)
 have fin : ∀ {pv : Nat} {hint : Int} {d' : Array Int} {T}, a ≤ pv → pv < b → PermIn a b d d' → okA c d' → ((sPdq_J1062_step rec c ((a : Int), (b : Int), limit, wb, wp, ((b - a : Nat) : Int), (pv : Int), hint, d'.toList)).bind fun qq => match qq with
       | Sum.inl o => some ((Sum.inl o))
       | Sum.inr (Sum.inl o) => some ((Sum.inr (Sum.inl (o.1, o.2.1, o.2.2.1, o.2.2.2.1, o.2.2.2.2.1, o.2.2.2.2.2))))
       | Sum.inr (Sum.inr (o)) => some ((Sum.inr (Sum.inr ((o.1, o.2.1, o.2.2.1, o.2.2.2.1, o.2.2.2.2.1, o.2.2.2.2.2)))))) = T → ∃ o, T = some o ∧ EndsOr c a b d o := by
  intro pv hint d' T h1 h2 hp hd' hT
  subst hT
  obtain ⟨o, q1, q2⟩ := j2_eq (wb := wb) (wp := wp) (hint := hint) (limit := limit) hrec hd' (by rw [hp.1]; exact hb) (by rw [hp.1]; exact h50) (hB.perm hb hp) h1 h2 l0 l1 (by omega)
  rw [q1, Option.bind_some]
  have q3 := EndsOr.of_perm hp q2
  rcases o with l | r | r
  ·exact ⟨_, rfl, q3⟩
  ·exact ⟨_, rfl, q3⟩
  ·exact ⟨_, rfl, q3⟩
 unfold sPdq_J850_step
 dsimp only
 rw [p1, Option.bind_some]
 dsimp only
 by_cases hh : hint = 2
 ·have s1 := reverseRange_holds d a b (by omega) hb
  have e1 : (b : Int) - 1 = ((b - 1 : Nat) : Int) := by omega
  have e2 : (pv : Int) - (a : Int) = ((pv - a : Nat) : Int) := by omega
  have e3 : ((b - 1 : Nat) : Int) - ((pv - a : Nat) : Int) = ((b - 1 - (pv - a) : Nat) : Int) := by omega
  rw [if_pos hh, rev_eq hd hb (by omega), Option.bind_some, if_pos (len_eq s1), e1, e2, e3, if_pos (qR _ (by omega)), if_pos (qR _ (by omega)), if_pos (qR _ (by omega))]
  exact fin (by omega) (by omega) s1 (hd.perm hb s1) rfl
 ·rw [if_neg hh]
  exact fin p2 p3 (permIn_refl _ _ _) hd rfl
theorem RecS.mono {m m' : Nat} (h : RecS c rec m) (hm : m' ≤ m) : RecS c rec m' := fun a b l d h1 => h a b l d (by omega)
theorem pdq_loop : ∀ (n : Nat) {a b : Nat} {limit : Int} {wb wp : Bool} {d : Array Int}, b - a ≤ n → RecS c rec (b - a) → okA c d → a ≤ b → b ≤ d.size → d.size < 50 → Below (lk c) a b d → 0 ≤ limit → limit ≤ 100 →
  ∃ d', lp (sPdq_L1_step rec c) ((a : Int), (b : Int), limit, wb, wp, d.toList) = some d'.toList ∧ PermIn a b d d' ∧ SortedIn (lk c) a b d' := by
 intro n
 induction n with
 | zero =>
  intro a b limit wb wp d hn hrec hd hab hb h50 hB l0 l1
  obtain ⟨d', q1, q2, q3⟩ := bIns hd hab hb
  have e1 : (b : Int) - (a : Int) = ((b - a : Nat) : Int) := by omega
  refine ⟨d', lp_end ?_, q2, q3⟩
  unfold sPdq_L1_step
  dsimp only
  rw [e1, if_pos (qR _ (by omega)), if_pos (show ((b - a : Nat) : Int) ≤ 12 by omega), q1, Option.bind_some, if_pos (len_eq q2)]
 | succ n ih =>
  intro a b limit wb wp d hn hrec hd hab hb h50 hB l0 l1
  have e1 : (b : Int) - (a : Int) = ((b - a : Nat) : Int) := by omega
  by_cases h12 : b - a ≤ 12
  ·obtain ⟨d', q1, q2, q3⟩ := bIns hd hab hb
   refine ⟨d', lp_end ?_, q2, q3⟩
   unfold sPdq_L1_step
   dsimp only
   rw [e1, if_pos (qR _ (by omega)), if_pos (show ((b - a : Nat) : Int) ≤ 12 by omega), q1, Option.bind_some, if_pos (len_eq q2)]
  by_cases hl : limit = 0
  ·obtain ⟨d', q1, q2, q3⟩ := bHeap hd (show a < b by omega) hb
   refine ⟨d', lp_end ?_, q2, q3⟩
   unfold sPdq_L1_step
   dsimp only
   rw [e1, if_pos (qR _ (by omega)), if_neg (show ¬ ((b - a : Nat) : Int) ≤ 12 by omega), if_pos hl, q1, Option.bind_some, if_pos (len_eq q2)]
  have fin : ∀ {limit' : Int} {d' : Array Int}, PermIn a b d d' → okA c d' → 0 ≤ limit' → limit' ≤ 100 →
    sPdq_L1_step rec c ((a : Int), (b : Int), limit, wb, wp, d.toList) = ((sPdq_J850_step rec c ((a : Int), (b : Int), limit', wb, wp, ((b - a : Nat) : Int), d'.toList)).bind fun qq => match qq with
        | Sum.inl o => some (Sum.inr o)
        | Sum.inr (Sum.inl o) => some (Sum.inl (o.1, o.2.1, o.2.2.1, o.2.2.2.1, o.2.2.2.2.1, o.2.2.2.2.2))
        | Sum.inr (Sum.inr (o)) => some (Sum.inl (o.1, o.2.1, o.2.2.1, o.2.2.2.1, o.2.2.2.2.1, o.2.2.2.2.2))) →
    ∃ d', lp (sPdq_L1_step rec c) ((a : Int), (b : Int), limit, wb, wp, d.toList) = some d'.toList ∧ PermIn a b d d' ∧ SortedIn (lk c) a b d' := by
   intro limit' d' hp hd' k0 k1 hs
   obtain ⟨o, q1, q2⟩ := j3_eq (wb := wb) (wp := wp) (limit := limit') hrec hd' (by rw [hp.1]; exact hb) (by rw [hp.1]; exact h50) (hB.perm hb hp) k0 k1 (by omega)
   have q3 := EndsOr.of_perm hp q2
   rw [q1, Option.bind_some] at hs
   have go : ∀ r, GoesOn c a b d r → sPdq_L1_step rec c ((a : Int), (b : Int), limit, wb, wp, d.toList) = some (Sum.inl r) → ∃ d', lp (sPdq_L1_step rec c) ((a : Int), (b : Int), limit, wb, wp, d.toList) = some d'.toList ∧ PermIn a b d d' ∧ SortedIn (lk c) a b d' := by
    rintro r ⟨a', b', l', wb', wp', d2, rfl, g1, g2, g3, g4, g5, g6, g7, g8, g9⟩ hr
    obtain ⟨R, r1, r2, r3⟩ := ih (wb := wb') (wp := wp') (limit := l') (by omega) (hrec.mono (by omega)) g5 g1 (by omega) (by omega) g6 g7 g8
    exact ⟨R, (lp_go hr).trans r1, (g9 R r2 r3).1, (g9 R r2 r3).2⟩
   rcases o with l | r | r
   ·obtain ⟨d3, rfl, t1, t2⟩ := q3
    exact ⟨d3, lp_end hs, t1, t2⟩
   ·exact go r q3 hs
   ·exact go r q3 hs
  by_cases hwb : wb = true
  ·refine fin (limit' := limit) (permIn_refl _ _ _) hd l0 l1 ?_
   conv => lhs; unfold sPdq_L1_step
   dsimp only
   rw [e1, if_pos (qR _ (by omega)), if_neg (show ¬ ((b - a : Nat) : Int) ≤ 12 by omega), if_neg hl, if_pos hwb]
   rfl
  ·obtain ⟨d', q1, q2⟩ := brk_eq hd hb (show a + 8 ≤ b by omega)
   refine fin (limit' := limit - 1) q2 (hd.perm hb q2) (by omega) (by omega) ?_
   conv => lhs; unfold sPdq_L1_step
   dsimp only
   rw [e1, if_pos (qR _ (by omega)), if_neg (show ¬ ((b - a : Nat) : Int) ≤ 12 by omega), if_neg hl, if_neg hwb, q1, Option.bind_some, if_pos (len_eq q2), if_pos (by rw [inR_i64]; omega)]
   rfl
theorem pdq_fuel : ∀ (k : Nat), RecS c (sPdq_fuel k) k
 | 0 => fun a b l d h => absurd h (Nat.not_lt_zero _)
 | k + 1 => fun a b limit d h1 hab hb h50 hd hB l0 l1 => by
  obtain ⟨d', q1, q2⟩ := pdq_loop (rec := sPdq_fuel k) (wb := true) (wp := true) (b - a) (Nat.le_refl _) ((pdq_fuel k).mono (by omega)) hd hab hb h50 hB l0 l1
  refine ⟨d', ?_, q2⟩
  show sPdq (sPdq_fuel k) c d.toList a b limit = _
  unfold sPdq
  rw [q1, Option.bind_some]
end
end Go.Proofs.YtpadimnchmghpaaGreatDoor.Av
