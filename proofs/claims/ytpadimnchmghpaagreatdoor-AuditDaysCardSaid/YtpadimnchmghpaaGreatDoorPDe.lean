import Derived.Test.YtpadimnchmghpaaGreatDoorPS5
import Derived.Test.YtpadimnchmghpaaGreatDoorR3
import Derived.Test.YtpadimnchmghpaaGreatDoorPLv
open Prod (fst)
open Int (tdiv tmod)
set_option maxHeartbeats 1000000
set_option linter.unusedVariables false
set_option linter.unusedSimpArgs false
namespace Go.Proofs.YtpadimnchmghpaaGreatDoor.Av
noncomputable section
open Go Go.Proofs Go.Sort
/-! ### days and sums of a list of charges -/
def okCh (x : TC) : Bool := decide (0 ≤ dq x.Time) && (decide (-1125899906842624 ≤ x.Cents) && decide (x.Cents ≤ 1125899906842624))
def sumC (cs : List TC) (d : Int) : Int := ((cs.filter fun x => decide (dq x.Time = d)).map (·.Cents)).sum
structure DayP (cs : List TC) (ds ss : List Int) : Prop where
 asc : ds.Pairwise (·< ·)
 mem : ∀ d, d ∈ ds ↔ ∃ x ∈ cs, dq x.Time = d
 sums : ss = ds.map (sumC cs)
theorem ascI_unique {l m : List Int} (h1 : l.Pairwise (·< ·)) (h2 : m.Pairwise (·< ·)) (h : ∀ k, k ∈ l ↔ k ∈ m) : l = m := by
 have n1 : l.Nodup := h1.imp fun {a b} hab e => by omega
 have n2 : m.Nodup := h2.imp fun {a b} hab e => by omega
 exact List.Perm.eq_of_pairwise (le := (·< ·)) (fun a b _ _ h3 h4 => by omega) h1 h2 ((List.perm_ext_iff_of_nodup n1 n2).2 h)
theorem DayP.unique {cs ds ss ds' ss'} (h : DayP cs ds ss) (h' : DayP cs ds' ss') : ds = ds' ∧ ss = ss' := by
 have : ds = ds' := ascI_unique h.asc h'.asc fun k => by rw [h.mem, h'.mem]
 subst this
 exact ⟨rfl, by rw [h.sums, h'.sums]⟩
theorem sum_perm {l l' : List Int} (h : l.Perm l') : l.sum = l'.sum := by
 induction h with
 | nil => rfl
 | cons x _ ih => simp only [List.sum_cons, ih]
 | swap x y l => simp only [List.sum_cons]; omega
 | trans _ _ ih1 ih2 => exact ih1.trans ih2
theorem sumC_perm {cs cs' : List TC} (h : cs.Perm cs') (d : Int) : sumC cs d = sumC cs' d := sum_perm ((h.filter _).map _)
theorem DayP.perm {cs cs' ds ss} (h : cs.Perm cs') (hp : DayP cs ds ss) : DayP cs' ds ss := by
 refine ⟨hp.asc, fun d => by rw [hp.mem]; exact ⟨fun ⟨x, h1, h2⟩ => ⟨x, h.mem_iff.1 h1, h2⟩, fun ⟨x, h1, h2⟩ => ⟨x, h.mem_iff.2 h1, h2⟩⟩, ?_⟩
 rw [hp.sums]
 exact List.map_congr_left fun d _ => sumC_perm h d
theorem sumC_snoc (cs : List TC) (x : TC) (d : Int) : sumC (cs ++ [x]) d = sumC cs d + if dq x.Time = d then x.Cents else 0 := by
 unfold sumC
 rw [List.filter_append, List.map_append, List.sum_append]
 by_cases h : dq x.Time = d <;> simp [h]
theorem sumC_none {cs : List TC} {d : Int} (h : ¬ ∃ x ∈ cs, dq x.Time = d) : sumC cs d = 0 := by
 unfold sumC
 have : (cs.filter fun x => decide (dq x.Time = d)) = [] := List.filter_eq_nil_iff.2 fun x hx => by
  simp only [decide_eq_true_eq]
  exact fun e => h ⟨x, hx, e⟩
 rw [this]; rfl
theorem sum_R : ∀ {l : List Int}, (∀ x ∈ l, -1125899906842624 ≤ x ∧ x ≤ 1125899906842624) → -(1125899906842624 * (l.length : Int)) ≤ l.sum ∧ l.sum ≤ 1125899906842624 * (l.length : Int)
 | [], _ => by simp
 | x :: l, h => by
  have h1 := h x (by simp)
  have h2 := sum_R (l := l) fun y hy => h y (by simp [hy])
  simp only [List.sum_cons, List.length_cons]
  omega
theorem okCh_iff {x : TC} : okCh x = true ↔ 0 ≤ dq x.Time ∧ -1125899906842624 ≤ x.Cents ∧ x.Cents ≤ 1125899906842624 := by
 simp [okCh]
theorem sumC_R {cs : List TC} (h : ∀ x ∈ cs, okCh x = true) (hn : cs.length ≤ 21) (d : Int) : -25000000000000000 ≤ sumC cs d ∧ sumC cs d ≤ 25000000000000000 := by
 unfold sumC
 have h1 := sum_R (l := ((cs.filter fun x => decide (dq x.Time = d)).map (·.Cents))) fun y hy => by
  obtain ⟨x, hx, rfl⟩ := List.mem_map.1 hy
  exact (okCh_iff.1 (h x (List.mem_filter.1 hx).1)).2
 have h2 := List.length_filter_le (fun x => decide (dq x.Time = d)) cs
 simp only [List.length_map] at h1
 omega
theorem DayP.same {cs : List TC} {q : List Int} {ss : List Int} {x : TC} {y : Int} (h : DayP cs (q ++ [y]) ss) (hy : dq x.Time = y) : ss = q.map (sumC cs) ++ [sumC cs y] ∧ DayP (cs ++ [x]) (q ++ [y]) (q.map (sumC cs) ++ [sumC cs y + x.Cents]) := by
 have hs := h.sums
 rw [List.map_append] at hs
 refine ⟨hs, h.asc, fun d => ?_, ?_⟩
 ·rw [h.mem]
  constructor
  ·rintro ⟨z, h1, h2⟩; exact ⟨z, List.mem_append_left _ h1, h2⟩
  ·rintro ⟨z, h1, h2⟩
   rcases List.mem_append.1 h1 with h1 | h1
   ·exact ⟨z, h1, h2⟩
   ·simp only [List.mem_singleton] at h1
    subst h1
    obtain ⟨z2, h3, h4⟩ := (h.mem y).1 (by simp)
    exact ⟨z2, h3, by rw [h4, ← h2, hy]⟩
 ·rw [List.map_append]
  congr 1
  ·refine List.map_congr_left fun d hd => ?_
   have hlt : d < y := (List.pairwise_append.1 h.asc).2.2 d hd y (by simp)
   rw [sumC_snoc, if_neg (by omega), Int.add_zero]
  ·simp only [List.map_cons, List.map_nil]
   rw [sumC_snoc, if_pos hy]
theorem DayP.new {cs : List TC} {ds ss : List Int} {x : TC} (h : DayP cs ds ss) (hlt : ∀ d ∈ ds, d < dq x.Time) : DayP (cs ++ [x]) (ds ++ [dq x.Time]) (ss ++ [x.Cents]) := by
 refine ⟨?_, fun d => ?_, ?_⟩
 ·rw [List.pairwise_append]
  exact ⟨h.asc, by simp, fun a ha b hb => by simp only [List.mem_singleton] at hb; subst hb; exact hlt a ha⟩
 ·rw [List.mem_append, h.mem, List.mem_singleton]
  constructor
  ·rintro (⟨z, h1, h2⟩ | h1)
   ·exact ⟨z, List.mem_append_left _ h1, h2⟩
   ·exact ⟨x, by simp, h1.symm⟩
  ·rintro ⟨z, h1, h2⟩
   rcases List.mem_append.1 h1 with h1 | h1
   ·exact .inl ⟨z, h1, h2⟩
   ·simp only [List.mem_singleton] at h1
    subst h1; exact .inr h2.symm
 ·rw [List.map_append, h.sums]
  congr 1
  ·refine List.map_congr_left fun d hd => ?_
   have := hlt d hd
   rw [sumC_snoc, if_neg (by omega), Int.add_zero]
  ·simp only [List.map_cons, List.map_nil]
   rw [sumC_snoc, if_pos rfl, sumC_none, Int.zero_add]
   rintro ⟨z, h1, h2⟩
   have := hlt _ ((h.mem _).2 ⟨z, h1, h2⟩)
   omega
/-! ### the order of the usable charges -/
def idx : List TC → Nat → List Int
 | [], _ => []
 | x :: l, k => if okCh x = true then (k : Int) :: idx l (k + 1) else idx l (k + 1)
theorem idx_len : ∀ (l : List TC) (k : Nat), (idx l k).length ≤ l.length
 | [], k => Nat.le_refl _
 | x :: l, k => by
  have := idx_len l (k + 1)
  unfold idx
  split <;> simp <;> omega
theorem idx_ok : ∀ {l : List TC} {k : Nat} {i : Int}, i ∈ idx l k → (k : Int) ≤ i ∧ i < k + l.length
 | [], k, i, h => by cases h
 | x :: l, k, i, h => by
  unfold idx at h
  simp only [List.length_cons]
  split at h
  ·rcases List.mem_cons.1 h with rfl | h
   ·omega
   ·have := idx_ok h; omega
  ·have := idx_ok h; omega
theorem idx_at {L : List TC} : ∀ {l : List TC} {k : Nat}, L.drop k = l → (idx l k).map (fun i => L[i.toNat]?) = (l.filter okCh).map some
 | [], k, h => rfl
 | x :: l, k, h => by
  have hk : k < L.length := by
   have := congrArg List.length h
   simp only [List.length_drop, List.length_cons] at this; omega
  have hx : L[k]? = some x := by
   have := congrArg (·[0]?) h
   simpa using this
  have hl : L.drop (k + 1) = l := by
   rw [List.drop_eq_getElem_cons hk] at h
   exact (List.cons.inj h).2
  unfold idx
  by_cases ho : okCh x = true
  ·rw [if_pos ho, List.filter_cons_of_pos ho, List.map_cons, List.map_cons, idx_at hl]
   simp [hx]
  ·rw [if_neg ho, List.filter_cons_of_neg ho, idx_at hl]
theorem fits_eq (n : Int) : money_Fits n = some (decide (-1125899906842624 ≤ n) && decide (n ≤ 1125899906842624)) := by
 unfold money_Fits
 by_cases h : n ≥ -1125899906842624
 ·rw [if_pos h]; simp [h]
 ·rw [if_neg h]
  have : ¬ (-1125899906842624 ≤ n) := h
  simp [this]
theorem ord_loop {L : List TC} (hn : L.length ≤ 1000) : ∀ {l : List TC} {k : Nat} {b : List Int}, L.drop k = l → k ≤ L.length → b.length ≤ k → lp (bill_Days_L1_step L) (k, b) = some (b ++ idx l k)
 | [], k, b, h, hk2, hb => by
  have hk : ¬ ((k : Int) < (L.length : Int)) := by
   have := congrArg List.length h
   simp only [List.length_drop, List.length_nil] at this; omega
  rw [lp_end (r := b) (by simp only [bill_Days_L1_step, hk, ↓reduceIte])]
  simp [idx]
 | x :: l, k, b, h, hk2, hb => by
  have hk : k < L.length := by
   have := congrArg List.length h
   simp only [List.length_drop, List.length_cons] at this; omega
  have hx : L[k]? = some x := by
   have := congrArg (·[0]?) h
   simpa using this
  have hl : L.drop (k + 1) = l := by
   rw [List.drop_eq_getElem_cons hk] at h
   exact (List.cons.inj h).2
  have h1 : ((k : Int) < (L.length : Int)) := by omega
  have r1 : InR .i64 ((k : Int) + 1) := by rw [inR_i64]; omega
  unfold idx
  have step : ∀ {b' : List Int}, b'.length ≤ k + 1 → bill_Days_L1_step L (k, b) = some (.inl (k + 1, b')) → lp (bill_Days_L1_step L) (k, b) = some (b' ++ idx l (k + 1)) := fun hb' hs => by
   rw [lp_go hs, ord_loop hn hl (by omega) hb']
  by_cases ho : okCh x = true
  ·obtain ⟨o1, o2, o3⟩ := okCh_iff.1 ho
   have o1' : dq x.Time ≥ 0 := o1
   rw [if_pos ho, step (b' := b ++ [(k : Int)]) (by simp; omega) (by
    simp only [bill_Days_L1_step, h1, hx, dq_eq, o1', fits_eq, o2, o3, r1, ↓reduceIte, Option.bind_some, decide_true, Bool.and_self, show b.length + 1 ≤ 4294967296 by omega])]
   simp
  ·rw [if_neg ho]
   refine step (b' := b) (by omega) ?_
   by_cases o1 : dq x.Time ≥ 0
   ·have o2 : (decide (-1125899906842624 ≤ x.Cents) && decide (x.Cents ≤ 1125899906842624)) = false := by
     cases hc : (decide (-1125899906842624 ≤ x.Cents) && decide (x.Cents ≤ 1125899906842624)) with
     | false => rfl
     | true => exact absurd (by unfold okCh; rw [hc]; simp; exact o1) ho
    simp only [bill_Days_L1_step, h1, hx, dq_eq, o1, fits_eq, o2, r1, ↓reduceIte, Option.bind_some, Bool.false_eq_true]
   ·simp only [bill_Days_L1_step, h1, hx, dq_eq, o1, r1, ↓reduceIte, Option.bind_some]
/-! ### the second loop -/
theorem set_last {q : List Int} {v w : Int} : (q ++ [v]).set q.length w = q ++ [w] := by
 induction q with
 | nil => rfl
 | cons x q ih => simp [ih]
def Ats (L : List TC) (r : List Int) (cs : List TC) : Prop := r.map (fun i => L[i.toNat]?) = cs.map some
theorem day_loop {L : List TC} {r : List Int} {cs : List TC} (hn : r.length ≤ 20) (hr0 : ∀ i ∈ r, 0 ≤ i) (hat : Ats L r cs) (hok : ∀ x ∈ cs, okCh x = true) (hs : cs.Pairwise (fun x y => dq x.Time ≤ dq y.Time)) :
  ∀ {m k : Nat} {ds ss : List Int}, cs.length - k = m → k ≤ cs.length → DayP (cs.take k) ds ss → ds.length ≤ k → ∃ ds' ss', lp (bill_Days_L31_step L r) (k, ds, ss) = some (ds', ss') ∧ DayP cs ds' ss' ∧ ds'.length ≤ cs.length
 | 0, k, ds, ss, hm, hk, hd, hlen => by
  have hlr : r.length = cs.length := by have := congrArg List.length hat; simpa using this
  have h : ¬ ((k : Int) < (r.length : Int)) := by omega
  refine ⟨ds, ss, lp_end (by simp only [bill_Days_L31_step, h, ↓reduceIte]), ?_, by omega⟩
  rwa [List.take_of_length_le (by omega)] at hd
 | m + 1, k, ds, ss, hm, hk, hd, hlen => by
  have hlr : r.length = cs.length := by have := congrArg List.length hat; simpa using this
  have hkc : k < cs.length := by omega
  have h : ((k : Int) < (r.length : Int)) := by omega
  have hrk : r[k]? = some (r[k]'(by omega)) := List.getElem?_eq_getElem _
  have hx : L[(r[k]'(by omega)).toNat]? = some cs[k] := by
   have := congrArg (·[k]?) hat
   simpa [hkc, show k < r.length by omega] using this
  have h0 : 0 ≤ r[k]'(by omega) := hr0 _ (List.getElem_mem _)
  have r1 : InR .i64 ((k : Int) + 1) := by rw [inR_i64]; omega
  have htk : cs.take (k + 1) = cs.take k ++ [cs[k]] := by rw [List.take_succ_eq_append_getElem hkc]
  have hxo := hok _ (List.getElem_mem hkc)
  obtain ⟨x1, x2, x3⟩ := okCh_iff.1 hxo
  have hle : ∀ d ∈ ds, d ≤ dq cs[k].Time := fun d hdm => by
   obtain ⟨z, hz, rfl⟩ := (hd.mem d).1 hdm
   obtain ⟨i, hi, rfl⟩ := List.mem_iff_getElem.1 hz
   rw [List.getElem_take]
   simp only [List.length_take] at hi
   exact List.pairwise_iff_getElem.1 hs i k (by omega) hkc (by omega)
  generalize hX : cs[k] = X at *
  generalize hR : r[k]'(by omega) = R at *
  have hsr : InR .i64 (0 + X.Cents) := by rw [inR_i64]; omega
  have lss : ss.length = ds.length := by rw [hd.sums, List.length_map]
  have newday : (∀ d ∈ ds, d < dq X.Time) → bill_Days_L31_step L r (k, ds, ss) = some (.inl (k + 1, ds ++ [dq X.Time], ss ++ [X.Cents])) → ∃ ds' ss', lp (bill_Days_L31_step L r) (k, ds, ss) = some (ds', ss') ∧ DayP cs ds' ss' ∧ ds'.length ≤ cs.length := fun hlt hstep => by
   obtain ⟨ds', ss', q1, q2⟩ := day_loop hn hr0 hat hok hs (m := m) (k := k + 1) (ds := ds ++ [dq X.Time]) (ss := ss ++ [X.Cents]) (by omega) hkc (by rw [htk]; exact hd.new hlt) (by simp; omega)
   exact ⟨ds', ss', (lp_go hstep).trans q1, q2⟩
  have e1 : ((((ss ++ [0]).length : Nat) : Int) - 1) = (ss.length : Int) := by simp
  have e2 : (ss ++ [(0 : Int)])[ss.length]? = some 0 := by simp
  have e3 : (ss ++ [(0 : Int)]).set ss.length (0 + X.Cents) = ss ++ [X.Cents] := by rw [set_last, Int.zero_add]
  have rss : InR .i64 ((ss.length : Nat) : Int) := by rw [inR_i64]; omega
  have zss : (0 : Int) ≤ ((ss.length : Nat) : Int) := by omega
  rcases List.eq_nil_or_concat ds with hnil | ⟨q, y, hq⟩
  ·subst hnil
   refine newday (fun d hd => by cases hd) ?_
   have g1 : ((([] : List Int).length : Nat) : Int) = 0 := rfl
   simp only [bill_Days_L31_step, h, hrk, h0, hx, dq_eq, g1, e1, e2, e3, rss, zss, hsr, r1, ↓reduceIte, Option.bind_some, Int.toNat_natCast, show ([] : List Int).length + 1 ≤ 4294967296 by decide, show ss.length + 1 ≤ 4294967296 by omega]
  ·subst hq
   rw [List.concat_eq_append] at *
   have g1 : ¬ (((q ++ [y]).length : Nat) : Int) = 0 := by simp; omega
   have g2 : (((q ++ [y]).length : Nat) : Int) - 1 = (q.length : Int) := by simp
   have g3 : (q ++ [y])[q.length]? = some y := by simp
   have rq : InR .i64 ((q.length : Nat) : Int) := by simp at hlen; rw [inR_i64]; omega
   have zq : (0 : Int) ≤ ((q.length : Nat) : Int) := by omega
   by_cases hy : y = dq X.Time
   ·subst hy
    obtain ⟨s1, s2⟩ := hd.same (x := X) rfl
    have hb := sumC_R (cs := cs.take k) (fun x hx => hok x (List.mem_of_mem_take hx)) (by simp; omega) (dq X.Time)
    have hsum : InR .i64 (sumC (cs.take k) (dq X.Time) + X.Cents) := by rw [inR_i64]; omega
    have k1 : ((ss.length : Nat) : Int) - 1 = (q.length : Int) := by rw [lss]; simp
    have k2 : ss[q.length]? = some (sumC (cs.take k) (dq X.Time)) := by rw [s1]; simp
    have k3 : ss.set q.length (sumC (cs.take k) (dq X.Time) + X.Cents) = q.map (sumC (cs.take k)) ++ [sumC (cs.take k) (dq X.Time) + X.Cents] := by
     rw [s1]
     have := @set_last (q.map (sumC (cs.take k))) (sumC (cs.take k) (dq X.Time)) (sumC (cs.take k) (dq X.Time) + X.Cents)
     rwa [List.length_map] at this
    obtain ⟨ds', ss', q1, q2⟩ := day_loop hn hr0 hat hok hs (m := m) (k := k + 1) (ds := q ++ [dq X.Time]) (ss := q.map (sumC (cs.take k)) ++ [sumC (cs.take k) (dq X.Time) + X.Cents]) (by omega) hkc (by rw [htk]; exact s2) (by omega)
    refine ⟨ds', ss', (lp_go ?_).trans q1, q2⟩
    simp only [bill_Days_L31_step, h, hrk, h0, hx, dq_eq, g1, g2, g3, rq, zq, k1, k2, k3, hsum, r1, eq_self, ↓reduceIte, Option.bind_some, Int.toNat_natCast]
   ·have hyl := hle y (by simp)
    refine newday (fun d hdm => ?_) ?_
    ·rcases List.mem_append.1 hdm with h1 | h1
     ·have := (List.pairwise_append.1 hd.asc).2.2 d h1 y (by simp); omega
     ·simp only [List.mem_singleton] at h1; subst h1; omega
    ·simp only [bill_Days_L31_step, h, hrk, h0, hx, dq_eq, g1, g2, g3, rq, zq, e1, e2, e3, rss, zss, hsr, r1, hy, ↓reduceIte, Option.bind_some, Int.toNat_natCast, show (q ++ [y]).length + 1 ≤ 4294967296 by omega, show ss.length + 1 ≤ 4294967296 by omega]
end
set_option maxHeartbeats 1000000
set_option maxRecDepth 100000
noncomputable section
open Go Go.Proofs Go.Sort
theorem len_all : (List.range 60).all (fun k => match math_bits_Len ((k : Nat) : Int) with | some r => decide (0 ≤ r) && decide (r ≤ 100) | none => false) = true := by kernel_rfl
theorem blen_eq {n : Nat} (h : n < 60) : ∃ r, math_bits_Len ((n : Nat) : Int) = some r ∧ 0 ≤ r ∧ r ≤ 100 := by
 have := List.all_eq_true.1 len_all n (List.mem_range.2 h)
 cases hr : math_bits_Len ((n : Nat) : Int) with
 | none => rw [hr] at this; cases this
 | some r =>
  rw [hr] at this
  simp only [Bool.and_eq_true, decide_eq_true_eq] at this
  exact ⟨r, rfl, this⟩
theorem sort_eq {c : TB} {l : List Int} (hn : l.length < 50) (hok : ∀ i ∈ l, okI c i) : ∃ r : List Int, sSort c l = some r ∧ r.length = l.length ∧ r.Perm l ∧ r.Pairwise (fun i j => dk c i ≤ dk c j) := by
 have hd : okA c l.toArray := ⟨by simp; omega, fun i hi => by
  have hi' : i < l.length := by simpa using hi
  have : l.toArray[i]! = l[i] := by simp [hi']
  rw [this]; exact hok _ (List.getElem_mem hi')⟩
 obtain ⟨r2, h1, h2, h3⟩ := blen_eq (n := l.length) (by omega)
 obtain ⟨d', q1, q2, q3⟩ := pdq_fuel (c := c) 64 0 l.length r2 l.toArray (by omega) (Nat.zero_le _) (by simp) (by simpa using hn) hd (.inl rfl) h2 h3
 have hsz : d'.size = l.length := by rw [q2.1]; simp
 have hl : d'.toList.length = l.length := by simpa using hsz
 refine ⟨d'.toList, ?_, hl, ?_, ?_⟩
 ·have ru : InR .u64 ((l.length : Nat) : Int) := by rw [inR_u64]; omega
  have q1' : sPdq_fuel 64 c l 0 (l.length : Int) r2 = some d'.toList := q1
  unfold sSort
  rw [if_pos ru, h1, Option.bind_some, q1', Option.bind_some, if_pos hl]
 ·have := q2.2.2
  have e1 : d'.extract 0 l.length = d' := by rw [← hsz]; simp
  have e2 : l.toArray.extract 0 l.length = l.toArray := by simp
  rw [e1, e2] at this
  simpa using this
 ·rw [List.pairwise_iff_getElem]
  intro i j hi hj hij
  have := q3 i j (Nat.zero_le _) hij (by omega)
  have gi : i < d'.size := by simpa using hi
  have gj : j < d'.size := by simpa using hj
  simp only [lk, decide_eq_false_iff_not] at this
  have ei : d'[i]! = d'.toList[i] := by simp [gi]
  have ej : d'[j]! = d'.toList[j] := by simp [gj]
  rw [ei, ej] at this
  omega
def zch : TC := ⟨[], [], [], 0, 0, [], 0⟩
theorem billDays_eq {L : List TC} (hn : L.length ≤ 20) : ∃ ds ss, bill_Days L = some (ds, ss) ∧ DayP (L.filter okCh) ds ss ∧ ds.length ≤ L.length := by
 have ho := ord_loop (L := L) (by omega) (l := L) (k := 0) (b := []) rfl (Nat.zero_le _) (Nat.le_refl _)
 have hix : ∀ i ∈ idx L 0, 0 ≤ i ∧ i.toNat < L.length := fun i hi => by have := idx_ok hi; omega
 have hlen := idx_len L 0
 obtain ⟨r, q1, q2, q3, q4⟩ := sort_eq (c := ⟨L⟩) (l := idx L 0) (by omega) fun i hi => hix i hi
 have hrx : ∀ i ∈ r, 0 ≤ i ∧ i.toNat < L.length := fun i hi => hix i (q3.mem_iff.1 hi)
 let cs := r.map fun i => (L[i.toNat]?).getD zch
 have hat : Ats L r cs := by
  show r.map _ = (r.map _).map some
  rw [List.map_map]
  refine List.map_congr_left fun i hi => ?_
  simp [(hrx i hi).2]
 have hperm : cs.Perm (L.filter okCh) := by
  have h1 : cs.Perm ((idx L 0).map fun i => (L[i.toNat]?).getD zch) := q3.map _
  have h2 : ((idx L 0).map fun i => (L[i.toNat]?).getD zch) = L.filter okCh := by
   have := idx_at (L := L) (l := L) (k := 0) rfl
   have := congrArg (List.map (fun o : Option TC => o.getD zch)) this
   rw [List.map_map, List.map_map] at this
   rw [show ((fun o : Option TC => o.getD zch) ∘ some) = id from rfl, List.map_id] at this
   exact this
  rw [h2] at h1; exact h1
 have hok : ∀ x ∈ cs, okCh x = true := fun x hx => (List.mem_filter.1 (hperm.mem_iff.1 hx)).2
 have hs : cs.Pairwise (fun x y => dq x.Time ≤ dq y.Time) := by
  show (r.map _).Pairwise _
  rw [List.pairwise_map]
  refine (List.Pairwise.and_mem.1 q4).imp fun {i j} ⟨h1, h2, h3⟩ => ?_
  have g1 := (hrx i h1).2
  have g2 := (hrx j h2).2
  simp only [dk, List.getElem?_eq_getElem g1, List.getElem?_eq_getElem g2, Option.getD_some] at h3 ⊢
  exact h3
 obtain ⟨ds, ss, p1, p2, p3⟩ := day_loop (L := L) (r := r) (cs := cs) (by omega) (fun i hi => (hrx i hi).1) hat hok hs (k := 0) (ds := []) (ss := []) rfl (Nat.zero_le _) ⟨by simp, by simp, rfl⟩ (Nat.le_refl _)
 refine ⟨ds, ss, ?_, p2.perm hperm, by have : cs.length = r.length := List.length_map _; omega⟩
 unfold bill_Days
 rw [ho, Option.bind_some]
 simp only [List.nil_append]
 rw [q1, Option.bind_some, if_pos q2, p1, Option.bind_some]
def daysP (L : List TC) : List Int × List Int := (bill_Days L).getD ([], [])
theorem bill_eq {L : List TC} (hn : L.length ≤ 20) : bill_Days L = some (daysP L) ∧ DayP (L.filter okCh) (daysP L).1 (daysP L).2 ∧ (daysP L).1.length ≤ L.length := by
 obtain ⟨ds, ss, h1, h2⟩ := billDays_eq hn
 unfold daysP
 rw [h1]
 exact ⟨rfl, h2⟩
def sumD (L : List TC) (d : Int) : Int := sumC (L.filter okCh) d
end
set_option maxHeartbeats 1000000
set_option maxRecDepth 100000
noncomputable section
open Go Go.Proofs Go.Sort
theorem refDq_eq (t : Int) : f04Day t = some (dq t) := refDay_eq t
theorem DayP.insert {cs : List TC} {p q ss : List Int} {x : TC} (h : DayP cs (p ++ q) ss) (hp : ∀ d ∈ p, d < dq x.Time) (hq : ∀ d ∈ q, dq x.Time < d) :
  ss = p.map (sumC cs) ++ q.map (sumC cs) ∧ DayP (cs ++ [x]) (p ++ [dq x.Time] ++ q) (p.map (sumC cs) ++ [x.Cents] ++ q.map (sumC cs)) := by
 have hs := h.sums
 rw [List.map_append] at hs
 obtain ⟨a1, a2, a3⟩ := List.pairwise_append.1 h.asc
 have hno : ¬ ∃ z ∈ cs, dq z.Time = dq x.Time := fun ⟨z, h1, h2⟩ => by
  rcases List.mem_append.1 ((h.mem (dq x.Time)).2 ⟨z, h1, h2⟩) with h3 | h3
  ·have := hp _ h3; omega
  ·have := hq _ h3; omega
 refine ⟨hs, ?_, fun d => ?_, ?_⟩
 ·rw [List.pairwise_append, List.pairwise_append]
  refine ⟨⟨a1, by simp, fun a ha b hb => by simp only [List.mem_singleton] at hb; subst hb; exact hp a ha⟩, a2, fun a ha b hb => ?_⟩
  rcases List.mem_append.1 ha with h1 | h1
  ·exact a3 a h1 b hb
  ·simp only [List.mem_singleton] at h1; subst h1; exact hq b hb
 ·have := h.mem d
  simp only [List.mem_append, List.mem_singleton] at this ⊢
  constructor
  ·rintro ((h1 | h1) | h1)
   ·obtain ⟨z, g1, g2⟩ := this.1 (.inl h1); exact ⟨z, .inl g1, g2⟩
   ·exact ⟨x, .inr rfl, h1.symm⟩
   ·obtain ⟨z, g1, g2⟩ := this.1 (.inr h1); exact ⟨z, .inl g1, g2⟩
  ·rintro ⟨z, h1 | h1, h2⟩
   ·rcases this.2 ⟨z, h1, h2⟩ with g | g
    ·exact .inl (.inl g)
    ·exact .inr g
   ·subst h1; exact .inl (.inr h2.symm)
 ·rw [List.map_append, List.map_append]
  congr 1
  ·congr 1
   ·refine List.map_congr_left fun d hd => ?_
    have := hp d hd
    rw [sumC_snoc, if_neg (by omega), Int.add_zero]
   ·simp only [List.map_cons, List.map_nil]
    rw [sumC_snoc, if_pos rfl, sumC_none hno, Int.zero_add]
  ·refine List.map_congr_left fun d hd => ?_
   have := hq d hd
   rw [sumC_snoc, if_neg (by omega), Int.add_zero]
theorem DayP.at_ {cs : List TC} {p q ss : List Int} {x : TC} (h : DayP cs (p ++ dq x.Time :: q) ss) :
  ss = p.map (sumC cs) ++ sumC cs (dq x.Time) :: q.map (sumC cs) ∧ DayP (cs ++ [x]) (p ++ dq x.Time :: q) (p.map (sumC cs) ++ (sumC cs (dq x.Time) + x.Cents) :: q.map (sumC cs)) := by
 have hs := h.sums
 rw [List.map_append, List.map_cons] at hs
 obtain ⟨a1, a2, a3⟩ := List.pairwise_append.1 h.asc
 obtain ⟨a4, a5⟩ := List.pairwise_cons.1 a2
 refine ⟨hs, h.asc, fun d => ?_, ?_⟩
 ·rw [h.mem]
  simp only [List.mem_append, List.mem_singleton]
  constructor
  ·rintro ⟨z, h1, h2⟩; exact ⟨z, .inl h1, h2⟩
  ·rintro ⟨z, h1 | h1, h2⟩
   ·exact ⟨z, h1, h2⟩
   ·subst h1
    obtain ⟨w, g1, g2⟩ := (h.mem (dq z.Time)).1 (by simp)
    exact ⟨w, g1, g2.trans h2⟩
 ·rw [List.map_append, List.map_cons]
  congr 1
  ·refine List.map_congr_left fun d hd => ?_
   have := a3 d hd (dq x.Time) (by simp)
   rw [sumC_snoc, if_neg (by omega), Int.add_zero]
  ·congr 1
   ·rw [sumC_snoc, if_pos rfl]
   ·refine List.map_congr_left fun d hd => ?_
    have := a4 d hd
    rw [sumC_snoc, if_neg (by omega), Int.add_zero]
theorem split_at (ds : List Int) (d : Int) (h : ds.Pairwise (·< ·)) : ∃ p q, ds = p ++ q ∧ (∀ x ∈ p, x < d) ∧ (∀ x ∈ q, d ≤ x) := by
 induction ds with
 | nil => exact ⟨[], [], rfl, by simp, by simp⟩
 | cons y ds ih =>
  obtain ⟨h1, h2⟩ := List.pairwise_cons.1 h
  by_cases hy : y < d
  ·obtain ⟨p, q, rfl, h3, h4⟩ := ih h2
   exact ⟨y :: p, q, rfl, fun x hx => by
    rcases List.mem_cons.1 hx with rfl | hx
    ·exact hy
    ·exact h3 x hx, h4⟩
  ·exact ⟨[], y :: ds, rfl, by simp, fun x hx => by
    rcases List.mem_cons.1 hx with rfl | hx
    ·omega
    ·have := h1 x hx; omega⟩
theorem at_loop {L : List TC} {k6 : Nat} {p q b1 : List Int} {d : Int} (hp : ∀ x ∈ p, x < d) (hq : ∀ x ∈ q, d ≤ x) (hn : (p ++ q).length ≤ 1000) : ∀ {m k : Nat}, p.length - k = m → k ≤ p.length → lp (f34Days_L67_step L k6 (p ++ q) b1 d) k = some (p.length : Int)
 | 0, k, hm, hk => by
  have hk2 : k = p.length := by omega
  subst hk2
  cases q with
  | nil =>
   have h : ¬ ((p.length : Int) < (((p ++ []).length : Nat) : Int)) := by simp
   exact lp_end (by simp only [f34Days_L67_step, h, ↓reduceIte])
  | cons y q =>
   have h : ((p.length : Int) < (((p ++ y :: q).length : Nat) : Int)) := by simp; omega
   have h2 : (p ++ y :: q)[p.length]? = some y := by simp
   have h3 : ¬ y < d := by have := hq y (by simp); omega
   exact lp_end (by simp only [f34Days_L67_step, h, h2, h3, ↓reduceIte, Option.bind_some])
 | m + 1, k, hm, hk => by
  have hkp : k < p.length := by omega
  have h : ((k : Int) < (((p ++ q).length : Nat) : Int)) := by simp; omega
  have h2 : (p ++ q)[k]? = some p[k] := by rw [List.getElem?_append_left hkp, List.getElem?_eq_getElem hkp]
  have h3 : p[k] < d := hp _ (List.getElem_mem _)
  simp only [List.length_append] at hn
  have r1 : InR .i64 ((k : Int) + 1) := by rw [inR_i64]; omega
  rw [lp_go (s' := k + 1) (by simp only [f34Days_L67_step, h, h2, h3, r1, ↓reduceIte, Option.bind_some])]
  exact at_loop hp hq (by simpa using hn) (m := m) (by omega) (by omega)
theorem set_mid {p q : List Int} {v w : Int} : (p ++ v :: q).set p.length w = p ++ w :: q := by
 induction p with
 | nil => rfl
 | cons x p ih => simp [ih]
theorem ref_loop {L : List TC} (hn : L.length ≤ 20) : ∀ {m k : Nat} {ds ss : List Int}, L.length - k = m → k ≤ L.length → DayP ((L.take k).filter okCh) ds ss → ds.length ≤ k → ∃ ds' ss', lp (f34Days_L1_step L) (k, ds, ss) = some (ds', ss') ∧ DayP (L.filter okCh) ds' ss'
 | 0, k, ds, ss, hm, hk, hd, hlen => by
  have h : ¬ ((k : Int) < (L.length : Int)) := by omega
  refine ⟨ds, ss, lp_end (by simp only [f34Days_L1_step, h, ↓reduceIte]), ?_⟩
  rwa [List.take_of_length_le (by omega)] at hd
 | m + 1, k, ds, ss, hm, hk, hd, hlen => by
  have hkL : k < L.length := by omega
  have h : ((k : Int) < (L.length : Int)) := by omega
  have hx : L[k]? = some L[k] := List.getElem?_eq_getElem hkL
  have r1 : InR .i64 ((k : Int) + 1) := by rw [inR_i64]; omega
  have htk : (L.take (k + 1)).filter okCh = (L.take k).filter okCh ++ if okCh L[k] = true then [L[k]] else [] := by
   rw [List.take_succ_eq_append_getElem hkL, List.filter_append]
   by_cases ho : okCh L[k] = true <;> simp [ho]
  generalize L[k] = X at *
  have skip : okCh X = false → f34Days_L1_step L (k, ds, ss) = some (.inl (k + 1, ds, ss)) → ∃ ds' ss', lp (f34Days_L1_step L) (k, ds, ss) = some (ds', ss') ∧ DayP (L.filter okCh) ds' ss' := fun ho hs => by
   rw [ho] at htk
   simp only [Bool.false_eq_true, ↓reduceIte, List.append_nil] at htk
   obtain ⟨ds', ss', q1, q2⟩ := ref_loop hn (m := m) (k := k + 1) (ds := ds) (ss := ss) (by omega) hkL (by rw [htk]; exact hd) (by omega)
   exact ⟨ds', ss', (lp_go hs).trans q1, q2⟩
  by_cases x1 : dq X.Time < 0
  ·refine skip ?_ (by simp only [f34Days_L1_step, h, hx, refDq_eq, x1, r1, ↓reduceIte, Option.bind_some])
   cases ho : okCh X with
   | false => rfl
   | true => have := (okCh_iff.1 ho).1; omega
  by_cases x2 : X.Cents ≥ -1125899906842624
  rotate_left
  ·refine skip ?_ (by simp only [f34Days_L1_step, h, hx, refDq_eq, x1, x2, r1, ↓reduceIte, Option.bind_some])
   cases ho : okCh X with
   | false => rfl
   | true => have := (okCh_iff.1 ho).2.1; omega
  by_cases x3 : X.Cents ≤ 1125899906842624
  rotate_left
  ·refine skip ?_ (by simp only [f34Days_L1_step, h, hx, refDq_eq, x1, x2, x3, r1, ↓reduceIte, Option.bind_some])
   cases ho : okCh X with
   | false => rfl
   | true => have := (okCh_iff.1 ho).2.2; omega
  have ho : okCh X = true := okCh_iff.2 ⟨by omega, x2, x3⟩
  rw [if_pos ho] at htk
  obtain ⟨p, q, rfl, hp, hq⟩ := split_at ds (dq X.Time) hd.asc
  have hat := at_loop (L := L) (k6 := k) (b1 := ss) hp hq (by omega) (m := p.length) (k := 0) rfl (Nat.zero_le _)
  have zp : (0 : Int) ≤ (p.length : Int) := by omega
  have go : ∀ {ds2 ss2 : List Int}, DayP ((L.take k).filter okCh ++ [X]) ds2 ss2 → ds2.length ≤ k + 1 → f34Days_L1_step L (k, p ++ q, ss) = some (.inl (k + 1, ds2, ss2)) → ∃ ds' ss', lp (f34Days_L1_step L) (k, p ++ q, ss) = some (ds', ss') ∧ DayP (L.filter okCh) ds' ss' := fun h1 h2 h3 => by
   obtain ⟨ds', ss', q1, q2⟩ := ref_loop hn (m := m) (k := k + 1) (by omega) hkL (by rw [htk]; exact h1) h2
   exact ⟨ds', ss', (lp_go h3).trans q1, q2⟩
  have lss : ss.length = (p ++ q).length := by rw [hd.sums, List.length_map]
  simp only [List.length_append] at hlen lss
  have hsr : InR .i64 (0 + X.Cents) := by rw [inR_i64]; omega
  have t1 : (p ++ q).take p.length = p := by simp
  have t2 : (p ++ q).drop p.length = q := by simp
  have t3 : ss.take p.length = p.map (sumC ((L.take k).filter okCh)) := by rw [hd.sums, List.map_append]; simp
  have t4 : ss.drop p.length = q.map (sumC ((L.take k).filter okCh)) := by rw [hd.sums, List.map_append]; simp
  have ins : (∀ d ∈ q, dq X.Time < d) → ∃ ds' ss', f34Days_L1_step L (k, p ++ q, ss) = some (.inl (k + 1, ds', ss')) → ∃ ds' ss', lp (f34Days_L1_step L) (k, p ++ q, ss) = some (ds', ss') ∧ DayP (L.filter okCh) ds' ss' := fun hq' => ⟨_, _, go (hd.insert hp hq').2 (by simp; omega)⟩
  have u1 : ((p.map (sumC ((L.take k).filter okCh)) ++ [(0 : Int)]) ++ q.map (sumC ((L.take k).filter okCh)))[p.length]? = some 0 := by simp
  have u2 : ((p.map (sumC ((L.take k).filter okCh)) ++ [(0 : Int)]) ++ q.map (sumC ((L.take k).filter okCh))).set p.length (0 + X.Cents) = p.map (sumC ((L.take k).filter okCh)) ++ [X.Cents] ++ q.map (sumC ((L.take k).filter okCh)) := by
   have := @set_mid (p.map (sumC ((L.take k).filter okCh))) (q.map (sumC ((L.take k).filter okCh))) 0 (0 + X.Cents)
   rw [List.length_map] at this
   simp only [List.append_assoc, List.singleton_append]
   rw [this, Int.zero_add]
  have v1 : p.length ≤ (p ++ q).length := by simp
  have v2 : 0 + p.length ≤ 4294967296 := by omega
  have v3 : p.length + 1 ≤ 4294967296 := by omega
  have v4 : (p ++ [dq X.Time]).length + q.length ≤ 4294967296 := by simp; omega
  have v5 : p.length ≤ ss.length := by omega
  have v6 : 0 + (p.map (sumC ((L.take k).filter okCh))).length ≤ 4294967296 := by simp; omega
  have v7 : (p.map (sumC ((L.take k).filter okCh))).length + 1 ≤ 4294967296 := by simp; omega
  have v8 : (p.map (sumC ((L.take k).filter okCh)) ++ [(0 : Int)]).length + (q.map (sumC ((L.take k).filter okCh))).length ≤ 4294967296 := by simp; omega
  cases q with
  | nil =>
   have h4 : (p.length : Int) = (((p ++ []).length : Nat) : Int) := by simp
   refine go (hd.insert hp (by simp)).2 (by simp; omega) ?_
   simp only [f34Days_L1_step, h, hx, refDq_eq, x1, x2, x3, hat, ← h4, zp, eq_self, ↓reduceIte, Option.bind_some, Int.toNat_natCast, t1, t2, t3, t4, v1, v2, v3, v4, v5, v6, v7, v8, u1, u2, hsr, r1]
  | cons y q =>
   have h4 : ¬ (p.length : Int) = (((p ++ y :: q).length : Nat) : Int) := by simp; omega
   have h5 : (p ++ y :: q)[p.length]? = some y := by simp
   by_cases hy : y = dq X.Time
   ·subst hy
    obtain ⟨s1, s2⟩ := hd.at_
    have w1 : ss[p.length]? = some (sumC ((L.take k).filter okCh) (dq X.Time)) := by rw [s1]; simp
    have w2 : ss.set p.length (sumC ((L.take k).filter okCh) (dq X.Time) + X.Cents) = p.map (sumC ((L.take k).filter okCh)) ++ (sumC ((L.take k).filter okCh) (dq X.Time) + X.Cents) :: q.map (sumC ((L.take k).filter okCh)) := by
     rw [s1]
     have := @set_mid (p.map (sumC ((L.take k).filter okCh))) (q.map (sumC ((L.take k).filter okCh))) (sumC ((L.take k).filter okCh) (dq X.Time)) (sumC ((L.take k).filter okCh) (dq X.Time) + X.Cents)
     rwa [List.length_map] at this
    have hb := sumC_R (cs := (L.take k).filter okCh) (fun x hx => (List.mem_filter.1 hx).2) (by have := List.length_filter_le okCh (L.take k); simp only [List.length_take] at this; omega) (dq X.Time)
    have hsum : InR .i64 (sumC ((L.take k).filter okCh) (dq X.Time) + X.Cents) := by rw [inR_i64]; omega
    refine go s2 (by simp at hlen ⊢; omega) ?_
    simp only [f34Days_L1_step, h, hx, refDq_eq, x1, x2, x3, hat, h4, h5, w1, w2, zp, eq_self, ↓reduceIte, Option.bind_some, Int.toNat_natCast, hsum, r1]
   ·have hy' := hq y (by simp)
    have hq' : ∀ d ∈ y :: q, dq X.Time < d := fun d hdm => by
     obtain ⟨a1, a2, a3⟩ := List.pairwise_append.1 hd.asc
     rcases List.mem_cons.1 hdm with rfl | h1
     ·omega
     ·have := (List.pairwise_cons.1 a2).1 d h1; omega
    refine go (hd.insert hp hq').2 (by simp at hlen ⊢; omega) ?_
    simp only [f34Days_L1_step, h, hx, refDq_eq, x1, x2, x3, hat, h4, h5, hy, zp, ↓reduceIte, Option.bind_some, Int.toNat_natCast, t1, t2, t3, t4, v1, v2, v3, v4, v5, v6, v7, v8, u1, u2, hsr, r1]
theorem refDays_eq {L : List TC} (hn : L.length ≤ 20) : f34Days L = some (daysP L) := by
 obtain ⟨ds, ss, h1, h2⟩ := ref_loop hn (m := L.length) (k := 0) (ds := []) (ss := []) rfl (Nat.zero_le _) ⟨by simp, by simp, rfl⟩ (Nat.le_refl _)
 obtain ⟨q1, q2, _⟩ := bill_eq hn
 obtain ⟨e1, e2⟩ := h2.unique q2
 unfold f34Days
 rw [h1, Option.bind_some, e1, e2]
end
set_option maxHeartbeats 1000000
set_option maxRecDepth 100000
noncomputable section
open Go Go.Proofs Go.Sort
abbrev KI := Int × Int
def mD (L : List TC) : List KI := (daysP L).1.map fun d => (d, sumD L d)
theorem setK_new {m : List KI} {x : KI} (h : ∀ y ∈ m, y.1 ≠ x.1) : setK fst m x = m ++ [x] := by
 induction m with
 | nil => rfl
 | cons y m ih =>
  have h1 : ¬ y.1 = x.1 := h y (by simp)
  have h2 := ih fun z hz => h z (by simp [hz])
  simp only [setK, if_neg h1, h2, List.cons_append]
theorem sums_loop {L : List TC} (hn : L.length ≤ 20) : lp (aUDays_L3_step (daysP L)) ((0 : Nat), ([] : List KI)) = some (mD L) := by
 obtain ⟨q1, q2, q3⟩ := bill_eq hn
 have key : ∀ {m k : Nat}, (daysP L).1.length - k = m → k ≤ (daysP L).1.length → lp (aUDays_L3_step (daysP L)) (k, ((daysP L).1.take k).map fun d => (d, sumD L d)) = some (mD L) := by
  intro m
  induction m with
  | zero =>
   intro k hm hk
   have h : ¬ ((k : Int) < ((daysP L).1.length : Int)) := by omega
   rw [lp_end (by simp only [aUDays_L3_step, h, ↓reduceIte]; rfl), List.take_of_length_le (by omega)]
   rfl
  | succ m ih =>
   intro k hm hk
   have hkd : k < (daysP L).1.length := by omega
   have h : ((k : Int) < ((daysP L).1.length : Int)) := by omega
   have hd : (daysP L).1[k]? = some (daysP L).1[k] := List.getElem?_eq_getElem hkd
   have hs : (daysP L).2[k]? = some (sumD L (daysP L).1[k]) := by rw [q2.sums]; simp [hkd, sumD]
   have r1 : InR .i64 ((k : Int) + 1) := by rw [inR_i64]; omega
   have hset : setK fst (((daysP L).1.take k).map fun d => (d, sumD L d)) ((daysP L).1[k], sumD L (daysP L).1[k]) = ((daysP L).1.take (k + 1)).map fun d => (d, sumD L d) := by
    rw [setK_new, List.take_succ_eq_append_getElem hkd, List.map_append]
    ·rfl
    ·intro y hy
     obtain ⟨d, hd, rfl⟩ := List.mem_map.1 hy
     obtain ⟨i, hi, rfl⟩ := List.mem_iff_getElem.1 hd
     simp only [List.length_take] at hi
     rw [List.getElem_take]
     have := List.pairwise_iff_getElem.1 q2.asc i k (by omega) hkd (by omega)
     show (daysP L).1[i] ≠ (daysP L).1[k]
     omega
   rw [lp_go (by simp only [aUDays_L3_step, h, hd, hs, r1, ↓reduceIte, Option.bind_some, hset]; rfl)]
   exact ih (by omega) hkd
 exact key rfl (Nat.zero_le _)
theorem mD_get (L : List TC) (d : Int) : getK fst (mD L) d = if d ∈ (daysP L).1 then some (d, sumD L d) else none := by
 unfold mD
 induction (daysP L).1 with
 | nil => rfl
 | cons y l ih =>
  show (if y = d then some (y, sumD L y) else getK fst (l.map fun d => (d, sumD L d)) d) = _
  by_cases h : y = d
  ·subst h; simp
  ·rw [if_neg h, ih]
   simp only [List.mem_cons, show ¬ d = y from fun e => h e.symm, false_or]
theorem mD_nd {L : List TC} (hn : L.length ≤ 20) : ((mD L).map fst).Nodup := by
 have e : (mD L).map fst = (daysP L).1 := by unfold mD; rw [List.map_map]; exact List.map_id _
 rw [e]
 exact (bill_eq hn).2.1.asc.imp fun {a b} h => by omega
def kyI (a b : List TC) : List Int := sortI (List.map fst (mrgK fst (mD a) (mD b)))
theorem kyI_mem {a b : List TC} (ha : a.length ≤ 20) (hb : b.length ≤ 20) (d : Int) : d ∈ kyI a b ↔ d ∈ (daysP a).1 ∨ d ∈ (daysP b).1 := by
 unfold kyI sortI
 rw [(List.mergeSort_perm _ _).mem_iff, List.mem_map]
 constructor
 ·rintro ⟨y, h1, rfl⟩
  rcases (mrgK_mem (mD_nd hb) (mD_nd ha) y).1 h1 with h2 | ⟨h2, _⟩
  ·right; obtain ⟨d, hd, rfl⟩ := List.mem_map.1 h2; exact hd
  ·left; obtain ⟨d, hd, rfl⟩ := List.mem_map.1 h2; exact hd
 ·intro h
  by_cases hdb : d ∈ (daysP b).1
  ·exact ⟨(d, sumD b d), (mrgK_mem (mD_nd hb) (mD_nd ha) _).2 (.inl (List.mem_map.2 ⟨d, hdb, rfl⟩)), rfl⟩
  ·have hda := h.resolve_right hdb
   refine ⟨(d, sumD a d), (mrgK_mem (mD_nd hb) (mD_nd ha) _).2 (.inr ⟨List.mem_map.2 ⟨d, hda, rfl⟩, fun x hx e => ?_⟩), rfl⟩
   obtain ⟨z, hz, rfl⟩ := List.mem_map.1 hx
   exact hdb (by have e' : d = z := e; rw [e']; exact hz)
theorem kyI_asc {a b : List TC} (ha : a.length ≤ 20) (hb : b.length ≤ 20) : (kyI a b).Pairwise (·< ·) := by
 have tr : ∀ a b c : Int, decide (a ≤ b) = true → decide (b ≤ c) = true → decide (a ≤ c) = true := fun a b c h1 h2 => by simp only [decide_eq_true_eq] at *; omega
 have to : ∀ a b : Int, (decide (a ≤ b) || decide (b ≤ a)) = true := fun a b => by simp only [Bool.or_eq_true, decide_eq_true_eq]; omega
 have h1 := List.pairwise_mergeSort tr to (List.map fst (mrgK fst (mD a) (mD b)))
 have h2 : (kyI a b).Nodup := (List.mergeSort_perm _ _).nodup_iff.2 (mrgK_nodup (mD_nd ha))
 exact (h1.and h2).imp fun {x y} ⟨h3, h4⟩ => by
  have h3 := of_decide_eq_true h3
  omega
theorem setK_lenI (x : KI) : ∀ m : List KI, (setK fst m x).length ≤ m.length + 1
 | [] => by simp [setK]
 | y :: m => by
  have := setK_lenI x m
  simp only [setK]
  split <;> simp only [List.length_cons] <;> omega
theorem mrgK_lenI : ∀ (m l : List KI), (mrgK fst l m).length ≤ l.length + m.length
 | [], l => by simp [mrgK]
 | x :: m, l => by
  have h1 := mrgK_lenI m (setK fst l x)
  have h2 := setK_lenI x l
  show (mrgK fst (setK fst l x) m).length ≤ _
  rw [List.length_cons]; omega
theorem kyI_len {a b : List TC} (ha : a.length ≤ 20) (hb : b.length ≤ 20) : (kyI a b).length ≤ 40 := by
 unfold kyI sortI
 rw [List.length_mergeSort, List.length_map]
 have h1 := mrgK_lenI (mD b) (mD a)
 have h2 := (bill_eq ha).2.2
 have h3 := (bill_eq hb).2.2
 have e1 : (mD a).length = (daysP a).1.length := List.length_map _
 have e2 : (mD b).length = (daysP b).1.length := List.length_map _
 omega
theorem day_in {L : List TC} (hn : L.length ≤ 20) {d : Int} (h : d ∈ (daysP L).1) : 0 ≤ d ∧ d < 1000000 := by
 obtain ⟨x, hx, rfl⟩ := ((bill_eq hn).2.1.mem d).1 h
 have h1 := (okCh_iff.1 (List.mem_filter.1 hx).2).1
 have h2 := dq_R x.Time
 omega
theorem day_no {L : List TC} (hn : L.length ≤ 20) {d : Int} (h : d ∉ (daysP L).1) : sumD L d = 0 := sumC_none fun hx => h (((bill_eq hn).2.1.mem d).2 hx)
theorem kyI_ok {a b : List TC} (ha : a.length ≤ 20) (hb : b.length ≤ 20) : SkI (List.map fst (mrgK fst (mD a) (mD b))) := by
 have hl := kyI_len ha hb
 have e : (kyI a b).length = (List.map fst (mrgK fst (mD a) (mD b))).length := List.length_mergeSort _
 refine ⟨by omega, fun k hk => ?_⟩
 have hk' : k ∈ kyI a b := (List.mergeSort_perm _ _).mem_iff.2 hk
 have : 0 ≤ k ∧ k < 1000000 := by
  rcases (kyI_mem ha hb k).1 hk' with h | h
  ·exact day_in ha h
  ·exact day_in hb h
 simp only [Lit.wf, decide_eq_true_eq, Bool.and_eq_true]
 show IntKind.min .i64 ≤ k ∧ k ≤ IntKind.max .i64
 exact inR_i64.2 (by omega)
def fR (a b : List TC) (d : Int) : List TF := if sumD a d = sumD b d then [] else [⟨[], d, sumD a d, sumD b d⟩]
def daysR (a b : List TC) : List TF := (kyI a b).flatMap (fR a b)
theorem fR_len (a b : List TC) (d : Int) : (fR a b d).length ≤ 1 := by unfold fR; split <;> simp
theorem flat_len1 {f : Int → List TF} (h : ∀ x, (f x).length ≤ 1) : ∀ l : List Int, (l.flatMap f).length ≤ l.length
 | [] => by simp
 | x :: l => by
  have := flat_len1 h l
  have := h x
  simp only [List.flatMap_cons, List.length_append, List.length_cons]
  omega
theorem daysR_len {a b : List TC} (ha : a.length ≤ 20) (hb : b.length ≤ 20) : (daysR a b).length ≤ 40 := Nat.le_trans (flat_len1 (fR_len a b) _) (kyI_len ha hb)
theorem Days_eq {a b : List TC} (ha : a.length ≤ 20) (hb : b.length ≤ 20) : aUDays a b = some (daysR a b) := by
 have key : ∀ {m k : Nat}, (kyI a b).length - k = m → k ≤ (kyI a b).length → lp (aUDays_L44_step (mD a) (mD b)) (k, ((kyI a b).take k).flatMap (fR a b)) = some (daysR a b) := by
  intro m
  induction m with
  | zero =>
   intro k hm hk
   have h : ¬ ((k : Int) < (((sortI (List.map fst (mrgK fst (mD a) (mD b)))).length : Nat) : Int)) := by show ¬ ((k : Int) < (((kyI a b).length : Nat) : Int)); omega
   rw [lp_end (by simp only [aUDays_L44_step, h, ↓reduceIte]; rfl), List.take_of_length_le (by omega)]
   rfl
  | succ m ih =>
   intro k hm hk
   have hkd : k < (kyI a b).length := by omega
   have hl := kyI_len ha hb
   have h : ((k : Int) < (((sortI (List.map fst (mrgK fst (mD a) (mD b)))).length : Nat) : Int)) := by show ((k : Int) < (((kyI a b).length : Nat) : Int)); omega
   have hd : (sortI (List.map fst (mrgK fst (mD a) (mD b))))[k]? = some (kyI a b)[k] := List.getElem?_eq_getElem hkd
   have r1 : InR .i64 ((k : Int) + 1) := by rw [inR_i64]; omega
   have hacc : (((kyI a b).take k).flatMap (fR a b)).length + 1 ≤ 4294967296 := by
    have := flat_len1 (fR_len a b) ((kyI a b).take k)
    simp only [List.length_take] at this
    omega
   have htk : ((kyI a b).take (k + 1)).flatMap (fR a b) = ((kyI a b).take k).flatMap (fR a b) ++ fR a b (kyI a b)[k] := by rw [List.take_succ_eq_append_getElem hkd, List.flatMap_append]; simp
   rw [lp_go (s' := (k + 1, ((kyI a b).take (k + 1)).flatMap (fR a b))) ?_]
   ·exact ih (by omega) hkd
   rw [htk]
   generalize (kyI a b)[k] = d at *
   generalize ((kyI a b).take k).flatMap (fR a b) = acc at *
   by_cases h1 : d ∈ (daysP a).1
   ·by_cases h2 : d ∈ (daysP b).1
    ·by_cases h3 : sumD a d = sumD b d
     ·simp only [aUDays_L44_step, h, hd, mD_get, h1, h2, h3, r1, ↓reduceIte, Option.bind_some, Option.isSome_some, fR, List.append_nil]
     ·simp only [aUDays_L44_step, h, hd, mD_get, h1, h2, h3, r1, hacc, ↓reduceIte, Option.bind_some, Option.isSome_some, fR]
    ·have z := day_no hb h2
     by_cases h3 : sumD a d = 0
     ·simp only [aUDays_L44_step, h, hd, mD_get, h1, h2, h3, z, r1, ↓reduceIte, Option.bind_some, Option.isSome_some, Option.isSome_none, Bool.false_eq_true, fR, List.append_nil]
     ·simp only [aUDays_L44_step, h, hd, mD_get, h1, h2, h3, z, r1, hacc, ↓reduceIte, Option.bind_some, Option.isSome_some, Option.isSome_none, Bool.false_eq_true, fR]
   ·have z1 := day_no ha h1
    by_cases h2 : d ∈ (daysP b).1
    ·by_cases h3 : 0 = sumD b d
     ·simp only [aUDays_L44_step, h, hd, mD_get, h1, h2, z1, r1, ← h3, ↓reduceIte, Option.bind_some, Option.isSome_some, Option.isSome_none, Bool.false_eq_true, fR, List.append_nil]
     ·simp only [aUDays_L44_step, h, hd, mD_get, h1, h2, h3, z1, r1, hacc, ↓reduceIte, Option.bind_some, Option.isSome_some, Option.isSome_none, Bool.false_eq_true, fR]
    ·have z2 := day_no hb h2
     simp only [aUDays_L44_step, h, hd, mD_get, h1, h2, z1, z2, r1, ↓reduceIte, Option.bind_some, Option.isSome_none, Bool.false_eq_true, fR, List.append_nil]
 unfold aUDays
 rw [(bill_eq ha).1, Option.bind_some, sums_loop ha, Option.bind_some, (bill_eq hb).1, Option.bind_some, sums_loop hb, Option.bind_some, if_pos (kyI_ok ha hb), show ((0 : Nat), ([] : List TF)) = (0, ((kyI a b).take 0).flatMap (fR a b)) by simp, key rfl (Nat.zero_le _), Option.bind_some]
end
set_option maxHeartbeats 1000000
set_option maxRecDepth 100000
noncomputable section
open Go Go.Proofs Go.Sort
theorem sum_eq {L : List TC} (hn : L.length ≤ 20) (d : Int) : f50sum (daysP L).1 (daysP L).2 d = some (sumD L d) := by
 obtain ⟨_, q2, q3⟩ := bill_eq hn
 have key : ∀ {m k : Nat}, (daysP L).1.length - k = m → k ≤ (daysP L).1.length → (∀ x ∈ (daysP L).1.take k, x ≠ d) →
   lp (f50sum_L1_step (daysP L).1 (daysP L).2 d) k = some (if d ∈ (daysP L).1 then .inl (sumD L d) else .inr ()) := by
  intro m
  induction m with
  | zero =>
   intro k hm hk hno
   rw [List.take_of_length_le (by omega)] at hno
   have h : ¬ ((k : Int) < ((daysP L).1.length : Int)) := by omega
   have h2 : ¬ d ∈ (daysP L).1 := fun h => hno d h rfl
   rw [if_neg h2]
   exact lp_end (by simp only [f50sum_L1_step, h, ↓reduceIte])
  | succ m ih =>
   intro k hm hk hno
   have hkd : k < (daysP L).1.length := by omega
   have h : ((k : Int) < ((daysP L).1.length : Int)) := by omega
   have hd : (daysP L).1[k]? = some (daysP L).1[k] := List.getElem?_eq_getElem hkd
   have hs : (daysP L).2[k]? = some (sumD L (daysP L).1[k]) := by rw [q2.sums]; simp [hkd, sumD]
   have r1 : InR .i64 ((k : Int) + 1) := by rw [inR_i64]; omega
   have hmem := List.getElem_mem hkd
   have htk : (daysP L).1.take (k + 1) = (daysP L).1.take k ++ [(daysP L).1[k]] := List.take_succ_eq_append_getElem hkd
   generalize (daysP L).1[k] = y at *
   by_cases hy : y = d
   ·subst hy
    rw [if_pos hmem]
    exact lp_end (by simp only [f50sum_L1_step, h, hd, hs, eq_self, ↓reduceIte, Option.bind_some])
   ·rw [lp_go (s' := k + 1) (by simp only [f50sum_L1_step, h, hd, hy, r1, ↓reduceIte, Option.bind_some])]
    refine ih (by omega) hkd fun x hx => ?_
    rw [htk] at hx
    rcases List.mem_append.1 hx with h1 | h1
    ·exact hno x h1
    ·simp only [List.mem_singleton] at h1; subst h1; exact hy
 unfold f50sum
 rw [key rfl (Nat.zero_le _) (by simp)]
 by_cases h : d ∈ (daysP L).1
 ·rw [if_pos h]; rfl
 ·rw [if_neg h, day_no hn h]; rfl
theorem of_eq {L : List TC} (hn : L.length ≤ 20) (d : Int) : w5of L d = some (sumD L d) := by
 obtain ⟨q1, q2, q3⟩ := bill_eq hn
 have lss : (daysP L).2.length = (daysP L).1.length := by rw [q2.sums, List.length_map]
 have key : ∀ {m k : Nat}, (daysP L).1.length - k = m → k ≤ (daysP L).1.length → (∀ x ∈ (daysP L).1.take k, x ≠ d) →
   lp (w5of_L3_step d (daysP L)) k = some (if d ∈ (daysP L).1 then .inl (sumD L d) else .inr ()) := by
  intro m
  induction m with
  | zero =>
   intro k hm hk hno
   rw [List.take_of_length_le (by omega)] at hno
   have h : ¬ ((k : Int) < ((daysP L).1.length : Int)) := by omega
   have h2 : ¬ d ∈ (daysP L).1 := fun h => hno d h rfl
   rw [if_neg h2]
   exact lp_end (by simp only [w5of_L3_step, h, ↓reduceIte])
  | succ m ih =>
   intro k hm hk hno
   have hkd : k < (daysP L).1.length := by omega
   have h : ((k : Int) < ((daysP L).1.length : Int)) := by omega
   have h' : ((k : Int) < ((daysP L).2.length : Int)) := by omega
   have hd : (daysP L).1[k]? = some (daysP L).1[k] := List.getElem?_eq_getElem hkd
   have hs : (daysP L).2[k]? = some (sumD L (daysP L).1[k]) := by rw [q2.sums]; simp [hkd, sumD]
   have r1 : InR .i64 ((k : Int) + 1) := by rw [inR_i64]; omega
   have hmem := List.getElem_mem hkd
   have htk : (daysP L).1.take (k + 1) = (daysP L).1.take k ++ [(daysP L).1[k]] := List.take_succ_eq_append_getElem hkd
   generalize (daysP L).1[k] = y at *
   by_cases hy : y = d
   ·subst hy
    rw [if_pos hmem]
    exact lp_end (by simp only [w5of_L3_step, h, h', hd, hs, eq_self, ↓reduceIte, Option.bind_some])
   ·rw [lp_go (s' := k + 1) (by simp only [w5of_L3_step, h, h', hd, hy, r1, ↓reduceIte, Option.bind_some])]
    refine ih (by omega) hkd fun x hx => ?_
    rw [htk] at hx
    rcases List.mem_append.1 hx with h1 | h1
    ·exact hno x h1
    ·simp only [List.mem_singleton] at h1; subst h1; exact hy
 unfold w5of
 rw [q1, Option.bind_some, key rfl (Nat.zero_le _) (by simp)]
 by_cases h : d ∈ (daysP L).1
 ·rw [if_pos h]; rfl
 ·rw [if_neg h, day_no hn h]; rfl
/-! ### two ascending lists merged -/
def mergeU : List Int → List Int → List Int
 | [], q => q
 | x :: p, [] => x :: p
 | x :: p, y :: q => if x < y then x :: mergeU p (y :: q) else if x = y then x :: mergeU p q else y :: mergeU (x :: p) q
 termination_by p q => p.length + q.length
theorem mergeU_mem (p q : List Int) (d : Int) : d ∈ mergeU p q ↔ d ∈ p ∨ d ∈ q := by
 fun_induction mergeU p q with
 | case1 q => simp
 | case2 x p => simp
 | case3 x p y q h ih => simp only [List.mem_cons, ih]; constructor <;> (rintro h; grind)
 | case4 x p q h ih => simp only [List.mem_cons, ih]; constructor <;> (rintro h; grind)
 | case5 x p y q h h2 ih => simp only [List.mem_cons, ih]; constructor <;> (rintro h; grind)
theorem mergeU_asc (p q : List Int) (hp : p.Pairwise (·< ·)) (hq : q.Pairwise (·< ·)) : (mergeU p q).Pairwise (·< ·) := by
 fun_induction mergeU p q with
 | case1 q => exact hq
 | case2 x p => exact hp
 | case3 x p y q h ih =>
  obtain ⟨p1, p2⟩ := List.pairwise_cons.1 hp
  obtain ⟨q1, q2⟩ := List.pairwise_cons.1 hq
  refine List.pairwise_cons.2 ⟨fun d hd => ?_, ih p2 hq⟩
  rcases (mergeU_mem _ _ _).1 hd with h1 | h1
  ·exact p1 d h1
  ·rcases List.mem_cons.1 h1 with rfl | h1
   ·exact h
   ·have := q1 d h1; omega
 | case4 x p q h ih =>
  obtain ⟨p1, p2⟩ := List.pairwise_cons.1 hp
  obtain ⟨q1, q2⟩ := List.pairwise_cons.1 hq
  refine List.pairwise_cons.2 ⟨fun d hd => ?_, ih p2 q2⟩
  rcases (mergeU_mem _ _ _).1 hd with h1 | h1
  ·exact p1 d h1
  ·exact q1 d h1
 | case5 x p y q h h2 ih =>
  obtain ⟨p1, p2⟩ := List.pairwise_cons.1 hp
  obtain ⟨q1, q2⟩ := List.pairwise_cons.1 hq
  refine List.pairwise_cons.2 ⟨fun d hd => ?_, ih hp q2⟩
  rcases (mergeU_mem _ _ _).1 hd with h1 | h1
  ·rcases List.mem_cons.1 h1 with rfl | h1
   ·omega
   ·have := p1 d h1; omega
  ·exact q1 d h1
section
variable {a b : List TC}
theorem j200_eq (ha : a.length ≤ 20) (hb : b.length ≤ 20) {i k d : Int} {out : List TF} (ho : out.length ≤ 1000) : f50Days_J200_step (daysP a) (daysP b) (i, k, d, out) = some (i, k, out ++ fR a b d) := by
 have hl : out.length + 1 ≤ 4294967296 := by omega
 by_cases h : sumD a d = sumD b d
 ·simp only [f50Days_J200_step, sum_eq ha, sum_eq hb, Option.bind_some, h, ↓reduceIte, fR, List.append_nil]
 ·simp only [f50Days_J200_step, sum_eq ha, sum_eq hb, Option.bind_some, h, hl, ↓reduceIte, fR]
theorem j174_eq (ha : a.length ≤ 20) (hb : b.length ≤ 20) {i d : Int} {k : Nat} {out : List TF} (ho : out.length ≤ 1000) : f50Days_J174_step (daysP a) (daysP b) (i, (k : Int), d, out) = some (i, ((if (daysP b).1[k]? = some d then k + 1 else k : Nat) : Int), out ++ fR a b d) := by
 have hlb := (bill_eq hb).2.2
 by_cases hk : k < (daysP b).1.length
 ·have h : (k : Int) < ((daysP b).1.length : Int) := by omega
  have hg : (daysP b).1[k]? = some (daysP b).1[k] := List.getElem?_eq_getElem hk
  have z : (0 : Int) ≤ (k : Int) := by omega
  have r1 : InR .i64 ((k + 1 : Nat) : Int) := by rw [inR_i64]; omega
  have e : (k : Int) + 1 = ((k + 1 : Nat) : Int) := by omega
  rw [hg]
  generalize (daysP b).1[k] = y at *
  by_cases hy : y = d
  ·simp only [f50Days_J174_step, h, z, hg, hy, r1, j200_eq ha hb ho, Int.toNat_natCast, ↓reduceIte, Option.bind_some, e]
  ·have hy' : ¬ (some y = some d) := fun h => hy (Option.some.inj h)
   simp only [f50Days_J174_step, h, z, hg, hy, hy', j200_eq ha hb ho, Int.toNat_natCast, ↓reduceIte, Option.bind_some]
 ·have h : ¬ (k : Int) < ((daysP b).1.length : Int) := by omega
  have hg : (daysP b).1[k]? = none := List.getElem?_eq_none (by omega)
  rw [hg]
  simp only [f50Days_J174_step, h, j200_eq ha hb ho, ↓reduceIte, Option.bind_some, reduceCtorEq]
theorem j122_eq (ha : a.length ≤ 20) (hb : b.length ≤ 20) {d : Int} {i k : Nat} {out : List TF} (ho : out.length ≤ 1000) : f50Days_J122_step (daysP a) (daysP b) ((i : Int), (k : Int), d, out) = some (((if (daysP a).1[i]? = some d then i + 1 else i : Nat) : Int), ((if (daysP b).1[k]? = some d then k + 1 else k : Nat) : Int), out ++ fR a b d) := by
 have hla := (bill_eq ha).2.2
 by_cases hi : i < (daysP a).1.length
 ·have h : (i : Int) < ((daysP a).1.length : Int) := by omega
  have hg : (daysP a).1[i]? = some (daysP a).1[i] := List.getElem?_eq_getElem hi
  have z : (0 : Int) ≤ (i : Int) := by omega
  have r1 : InR .i64 ((i + 1 : Nat) : Int) := by rw [inR_i64]; omega
  have e : (i : Int) + 1 = ((i + 1 : Nat) : Int) := by omega
  rw [hg]
  generalize (daysP a).1[i] = y at *
  by_cases hy : y = d
  ·simp only [f50Days_J122_step, h, z, hg, hy, r1, j174_eq ha hb ho, Int.toNat_natCast, ↓reduceIte, Option.bind_some, e]
  ·have hy' : ¬ (some y = some d) := fun h => hy (Option.some.inj h)
   simp only [f50Days_J122_step, h, z, hg, hy, hy', j174_eq ha hb ho, Int.toNat_natCast, ↓reduceIte, Option.bind_some]
 ·have h : ¬ (i : Int) < ((daysP a).1.length : Int) := by omega
  have hg : (daysP a).1[i]? = none := List.getElem?_eq_none (by omega)
  rw [hg]
  simp only [f50Days_J122_step, h, j174_eq ha hb ho, ↓reduceIte, Option.bind_some, reduceCtorEq]
theorem merge_loop (ha : a.length ≤ 20) (hb : b.length ≤ 20) : ∀ (n : Nat) {i k : Nat} {out : List TF}, ((daysP a).1.length - i) + ((daysP b).1.length - k) = n → i ≤ (daysP a).1.length → k ≤ (daysP b).1.length → out.length ≤ i + k →
  lp (f50Days_L5_step (daysP a) (daysP b)) ((i : Int), (k : Int), out) = some (out ++ (mergeU ((daysP a).1.drop i) ((daysP b).1.drop k)).flatMap (fR a b)) := by
 have hla := (bill_eq ha).2.2
 have hlb := (bill_eq hb).2.2
 intro n
 induction n using Nat.strongRecOn with
 | ind n ih =>
 intro i k out hn hi hk ho
 have ho' : out.length ≤ 1000 := by omega
 have zi : (0 : Int) ≤ (i : Int) := by omega
 have zk : (0 : Int) ≤ (k : Int) := by omega
 have go : ∀ {d : Int} {i' k' : Nat}, f50Days_L5_step (daysP a) (daysP b) ((i : Int), (k : Int), out) = (f50Days_J122_step (daysP a) (daysP b) ((i : Int), (k : Int), d, out)).bind (fun o => some (.inl (o.1, o.2.1, o.2.2))) →
   (if (daysP a).1[i]? = some d then i + 1 else i) = i' → (if (daysP b).1[k]? = some d then k + 1 else k) = k' → i + k < i' + k' → i' ≤ (daysP a).1.length → k' ≤ (daysP b).1.length →
   mergeU ((daysP a).1.drop i) ((daysP b).1.drop k) = d :: mergeU ((daysP a).1.drop i') ((daysP b).1.drop k') →
   lp (f50Days_L5_step (daysP a) (daysP b)) ((i : Int), (k : Int), out) = some (out ++ (mergeU ((daysP a).1.drop i) ((daysP b).1.drop k)).flatMap (fR a b)) := by
  intro d i' k' hs hi' hk' hlt hi2 hk2 hm
  rw [j122_eq ha hb ho', hi', hk', Option.bind_some] at hs
  have hf := fR_len a b d
  rw [lp_go hs, ih _ (by omega) rfl hi2 hk2 (by simp only [List.length_append]; split at hi' <;> split at hk' <;> omega), hm, List.flatMap_cons, List.append_assoc]
 by_cases hi2 : i < (daysP a).1.length
 ·have h1 : (i : Int) < ((daysP a).1.length : Int) := by omega
  have ga : (daysP a).1[i]? = some (daysP a).1[i] := List.getElem?_eq_getElem hi2
  have da : (daysP a).1.drop i = (daysP a).1[i] :: (daysP a).1.drop (i + 1) := List.drop_eq_getElem_cons hi2
  by_cases hk2 : k < (daysP b).1.length
  ·have h2 : ¬ (k : Int) = ((daysP b).1.length : Int) := by omega
   have gb : (daysP b).1[k]? = some (daysP b).1[k] := List.getElem?_eq_getElem hk2
   have db : (daysP b).1.drop k = (daysP b).1[k] :: (daysP b).1.drop (k + 1) := List.drop_eq_getElem_cons hk2
   generalize (daysP a).1[i] = x at *
   generalize (daysP b).1[k] = y at *
   by_cases hxy : x ≤ y
   ·by_cases he : x = y
    ·subst he
     refine go (d := x) (i' := i + 1) (k' := k + 1) ?_ (by rw [ga, if_pos rfl]) (by rw [gb, if_pos rfl]) (by omega) (by omega) (by omega) ?_
     ·simp only [f50Days_L5_step, h1, h2, zi, zk, ga, gb, hxy, ↓reduceIte, Option.bind_some, Int.toNat_natCast]
     ·rw [da, db]; conv => lhs; unfold mergeU
      rw [if_neg (by omega), if_pos rfl]
    ·refine go (d := x) (i' := i + 1) (k' := k) ?_ (by rw [ga, if_pos rfl]) (by rw [gb, if_neg (fun h => he (Option.some.inj h).symm)]) (by omega) (by omega) (by omega) ?_
     ·simp only [f50Days_L5_step, h1, h2, zi, zk, ga, gb, hxy, ↓reduceIte, Option.bind_some, Int.toNat_natCast]
     ·rw [da, db]; conv => lhs; unfold mergeU
      rw [if_pos (by omega)]
   ·refine go (d := y) (i' := i) (k' := k + 1) ?_ (by rw [ga, if_neg (fun h => by have := Option.some.inj h; omega)]) (by rw [gb, if_pos rfl]) (by omega) (by omega) (by omega) ?_
    ·simp only [f50Days_L5_step, h1, h2, zi, zk, ga, gb, hxy, ↓reduceIte, Option.bind_some, Int.toNat_natCast]
    ·rw [da, db]; conv => lhs; unfold mergeU
     rw [if_neg (by omega), if_neg (by omega)]
  ·have h2 : (k : Int) = ((daysP b).1.length : Int) := by omega
   have gb : (daysP b).1[k]? = none := List.getElem?_eq_none (by omega)
   have db : (daysP b).1.drop k = [] := List.drop_eq_nil_of_le (by omega)
   generalize (daysP a).1[i] = x at *
   refine go (d := x) (i' := i + 1) (k' := k) ?_ (by rw [ga, if_pos rfl]) (by rw [gb, if_neg (by simp)]) (by omega) (by omega) (by omega) ?_
   ·simp only [f50Days_L5_step, h1, ← h2, zi, ga, ↓reduceIte, Option.bind_some, Int.toNat_natCast]
   ·rw [da, db]; conv => lhs; unfold mergeU
    cases (daysP a).1.drop (i + 1) <;> simp [mergeU]
 ·have h1 : ¬ (i : Int) < ((daysP a).1.length : Int) := by omega
  have ga : (daysP a).1[i]? = none := List.getElem?_eq_none (by omega)
  have da : (daysP a).1.drop i = [] := List.drop_eq_nil_of_le (by omega)
  by_cases hk2 : k < (daysP b).1.length
  ·have h2 : (k : Int) < ((daysP b).1.length : Int) := by omega
   have h3 : ¬ (k : Int) = ((daysP b).1.length : Int) := by omega
   have gb : (daysP b).1[k]? = some (daysP b).1[k] := List.getElem?_eq_getElem hk2
   have db : (daysP b).1.drop k = (daysP b).1[k] :: (daysP b).1.drop (k + 1) := List.drop_eq_getElem_cons hk2
   generalize (daysP b).1[k] = y at *
   refine go (d := y) (i' := i) (k' := k + 1) ?_ (by rw [ga, if_neg (by simp)]) (by rw [gb, if_pos rfl]) (by omega) (by omega) (by omega) ?_
   ·simp only [f50Days_L5_step, h1, h2, h3, zk, gb, ↓reduceIte, Option.bind_some, Int.toNat_natCast]
   ·rw [da, db]; simp [mergeU]
  ·have h2 : ¬ (k : Int) < ((daysP b).1.length : Int) := by omega
   have db : (daysP b).1.drop k = [] := List.drop_eq_nil_of_le (by omega)
   rw [lp_end (r := out) (by simp only [f50Days_L5_step, h1, h2, ↓reduceIte]), da, db]
   simp [mergeU]
theorem refDays50_eq (ha : a.length ≤ 20) (hb : b.length ≤ 20) : f50Days a b = some (daysR a b) := by
 have hm : mergeU (daysP a).1 (daysP b).1 = kyI a b := ascI_unique (mergeU_asc _ _ (bill_eq ha).2.1.asc (bill_eq hb).2.1.asc) (kyI_asc ha hb) fun d => by rw [mergeU_mem, kyI_mem ha hb]
 have h := merge_loop ha hb _ (i := 0) (k := 0) (out := []) rfl (Nat.zero_le _) (Nat.zero_le _) (Nat.le_refl _)
 unfold f50Days
 rw [refDays_eq ha, Option.bind_some, refDays_eq hb, Option.bind_some]
 have h' : lp (f50Days_L5_step (daysP a) (daysP b)) ((0 : Int), (0 : Int), ([] : List TF)) = some (daysR a b) := by
  have e : ((0 : Int), (0 : Int), ([] : List TF)) = (((0 : Nat) : Int), ((0 : Nat) : Int), []) := rfl
  rw [e, h, List.drop_zero, List.drop_zero, hm]
  rfl
 rw [h', Option.bind_some]
end
end
end Go.Proofs.YtpadimnchmghpaaGreatDoor.Av
