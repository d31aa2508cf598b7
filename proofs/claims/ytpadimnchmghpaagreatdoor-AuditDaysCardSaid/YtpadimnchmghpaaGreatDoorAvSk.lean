import Derived.Test.YtpadimnchmghpaaGreatDoorAvTm
import Derived.Test.YtpadimnchmghpaaGreatDoorAvSh
import Derived.Sort.KeysCollected
import Derived.Lib.SlKeysI
import Derived.Maps.Own
open Prod (fst)
open Int (tdiv tmod)
set_option linter.unusedVariables false
set_option linter.unusedSimpArgs false
namespace Go.Proofs.YtpadimnchmghpaaGreatDoor.Av
open Go.RowKit Go.MapKept
open Go.WideElems (Fit rd rg)
variable {P : Program} {G : Nat → AV} {μ μ' : Nat → Option Loc} {ro ro' : Nat → Prop} {w w' : World}
theorem hpOf_snoc : ∀ (l : List Blk) (b : Blk) (h : Hp), hpOf (l ++ [b]) h = (hpOf l h).new b.ob
 | [], b, h => rfl
 | c :: l, b, h => by
  simp only [List.cons_append, hpOf]
  exact hpOf_snoc l b _
theorem cpost_row {blks : List Blk} {v : Value} {n : Nat} {xs : List Value} {c : List AV} {et : TypeId} (hh : HpRel μ ro (hpOf blks ⟨.e, 0⟩) w) (hB : Below w.heap.size w w')
  (hrow : w'.ownsRow w.heap.size et 1 v n xs) (hc : c.length = n) (hrep : ∀ μ ro, ∀ i, i < n → Rep μ ro w' false (c.getD i .any) (xs.getD i undef)) :
  CPost blks.length μ ro w (.ret (.vec blks.length n 1)) (hpOf (blks ++ [bV c et]) ⟨.e, 0⟩) (.returned v) w' := by
 have hnx : (hpOf blks ⟨.e, 0⟩).nx = blks.length := by
  have := (hpOf_get blks ⟨.e, 0⟩ 0).1
  simp only [Nat.zero_add] at this
  exact this
 have hro : ∀ b, ro b → b < w.heap.size := hh.old
 have hfr : Fr μ ro w μ w' := ⟨hB.os, hB.tape, hB.output, hB.size, fun b hb => hB.block b (hro b hb), fun b hb _ => hB.block b hb, fun i l h => .inl ⟨i, l, h, rfl⟩⟩
 have hh' : HpRel μ ro (hpOf blks ⟨.e, 0⟩) w' := hh.same hB.size (fun b hb => hB.block b (hro b hb)) (fun i k b hi hb => hB.block _ (hh.lt i b hb))
 rw [hpOf_snoc]
 obtain ⟨hl, hcase⟩ := hrow
 rw [Nat.mul_one] at hl
 rcases hcase with ⟨rfl, hz⟩ | ⟨g, cap, cur, rfl, hbase, hgb, r1, r2, r3, r4⟩
 ·subst hz
  have hc0 : c = [] := List.length_eq_zero_iff.1 hc
  subst hc0
  refine ⟨μ, ro, ⟨.refl _ _, fun _ h => h, fun _ h => .inl h, hfr⟩, .vecn, ?_⟩
  refine ⟨fun i k hi => ?_, fun i j k l b c hi hj hbi hbj hbc => ?_, fun i k b hi hb hr => ?_, hh'.lt, hh'.old, fun i hi => hh'.nx i (by simp only [Hp.new] at hi; omega)⟩
  ·simp only [Hp.new, Tr.get_put] at hi
   split at hi
   ·rename_i e
    subst e
    simp only [sJ] at hi
    subst hi
    exact .inr ⟨hh'.nx _ (Nat.le_refl _), ⟨rfl, rfl⟩, Nat.lt_succ_self _⟩
   ·exact (hh'.obs i k hi).imp_right fun ⟨h1, h2, h3⟩ => ⟨h1, h2, Nat.lt_succ_of_lt h3⟩
  ·have key : ∀ {i k b}, ((hpOf blks ⟨.e, 0⟩).new (Blk.ob (bV [] et))).m.get i = some k → μ i = some b → ∃ k', (hpOf blks ⟨.e, 0⟩).m.get i = some k' := fun {i k b} hi hb => by
    simp only [Hp.new, Tr.get_put] at hi
    split at hi
    ·rename_i e; subst e; rw [hh'.nx _ (Nat.le_refl _)] at hb; cases hb
    ·exact ⟨_, hi⟩
   obtain ⟨k', h1⟩ := key hi hbi
   obtain ⟨l', h2⟩ := key hj hbj
   exact hh'.inj i j k' l' b c h1 h2 hbi hbj hbc
  ·simp only [Hp.new, Tr.get_put] at hi
   split at hi
   ·rename_i e; subst e; rw [hh'.nx _ (Nat.le_refl _)] at hb; cases hb
   ·exact hh'.own i k b hi hb hr
 ·rw [Nat.mul_one] at r3 r4
  have hglt : g < w'.heap.size := by
   rcases Nat.lt_or_ge g w'.heap.size with h | h
   ·exact h
   ·rw [Array.getElem?_eq_none h] at hgb; cases hgb
  have hnotro : ¬ ro g := fun h => by have := hro g h; omega
  have hx : ∀ i, i < n → cur.getD i undef = xs.getD i undef := fun i hi => by
   rw [← r4, ← arr_getD_toList]
   simp only [List.getD_eq_getElem?_getD]
   rw [List.getElem?_take, if_pos hi]
  have hadd := hh'.add (w' := w') (.blk (bV c et)) (g, cur.size) (Nat.le_refl _) hglt (fun i k' b hi hb => by have := hh.lt i b hb; simp only; omega) hnotro (fun j _ _ => rfl)
   ⟨⟨cur, (0, 0), hgb, rfl, (by simp only; omega), fun h => (by cases h), fun i h1 h2 => absurd h2 (Nat.not_lt_zero i), fun i hi => (by
    simp only at hi
    rw [hx i (by omega)]
    exact hrep _ _ i (by omega))⟩⟩
  refine ⟨_, ro, ⟨?_, fun _ h => h, fun _ h => .inl h, hfr.os, hfr.tape, hfr.output, hfr.size, hfr.block, fun b hb hno => hB.block b hb, fun i l hi => ?_⟩, ?_, hadd⟩
  ·rw [← hnx]; exact upd_agree _ _
  ·unfold upd at hi
   split at hi
   ·simp only [sJ] at hi; subst hi; exact .inr hbase
   ·exact .inl ⟨i, l, hi, rfl⟩
  ·refine .vec (b := (g, cur.size)) ?_ r1 (by simp only; omega)
   rw [← hnx]
   exact upd_self _ _
def noElem (v : Value) : Option (DataW Unit × List MemPlace) := some (.nil, [])
theorem map_owns {b : Loc} {kd : KK} {es : List (AV × AV)} {kt : TypeId} (hm : MapRel μ ro w b kd es) (hn : es.length ≤ maxLen) (hk : ∀ e ∈ es, ∀ v, keyVal kd e.1 = some v → ∃ l, keyOf P kt v = some l) (ι : Type) (f : Lit → ι) (g : AV → ι)
  (hfg : ∀ e ∈ es, ∀ v l, keyVal kd e.1 = some v → keyOf P kt v = some l → f l = g e.1) :
  ∃ ds : List (Lit × DataW Unit), w.ownsMap P kt noElem b.1 es.length (.map ds) ∧ ds.length = es.length ∧ (ds.map fun p => f p.1).Perm (es.map fun e => g e.1) := by
 obtain ⟨ms, cl, p, g1, g2, g3, g4, g5, g6⟩ := hm
 have hsz : ms.size = es.length := by rw [← g3.length, g2.length_eq, Array.length_toList]
 have hread : ∀ x ∈ p, ∃ l, keyOf P kt x.key = some l := fun x hx => by
  obtain ⟨e, h1, h2⟩ := g3.keys x hx
  exact hk e h1 _ h2
 have hrd : ∀ x ∈ p, ∃ y, rd P kt noElem x = some y := fun x hx => by
  obtain ⟨l, hl⟩ := hread x hx
  exact ⟨(l, .nil), by simp [rd, hl, noElem]⟩
 refine ⟨(ms.toList.map (rg P kt noElem)).foldr DataW.insert [], ⟨ms, cl, g1, ⟨by omega, ⟨g4, g5, (g2.map _).nodup_iff.1 (g3.nodup g6)⟩, fun x hx => hrd x (g2.mem_iff.2 hx)⟩, Nat.le_of_eq hsz, rfl⟩, by rw [length_sorted, List.length_map, Array.length_toList, hsz], ?_⟩
 refine ((WideShapes.sorted_perm _).map _).trans ?_
 refine ((g2.symm.map _).map _).trans ?_
 clear hrd hread g1 g2 g4 g5 g6 hsz hn
 induction g3 with
 | nil => exact .nil
 | cons hk' hv he ih =>
  rename_i k v m es ms'
  simp only [List.map_cons]
  obtain ⟨l, hl⟩ := hk (k, v) (by simp) _ hk'
  have e1 : rg P kt noElem m = (l, .nil) := by simp [rg, rd, hl, noElem]
  rw [e1, hfg (k, v) (by simp) _ l hk' hl]
  exact (ih (fun e he => hk e (by simp [he])) (fun e he => hfg e (by simp [he]))).cons _
/-! ### nil as an owned slice without elements -/
/-! ### nil slices within arguments that are read -/
def nlA : Nat → AV → AV
 | 0, v => v
 | k + 1, v => match v with | .nils => .lst [] 0 | .agg c => .agg (c.map (nlA k)) | .tup c => .tup (c.map (nlA k)) | .lst c n => .lst (c.map (nlA k)) n | v => v
theorem nlA_any (k : Nat) : nlA k .any = .any := by cases k <;> rfl
theorem getD_nlA (k : Nat) (c : List AV) (i : Nat) : (c.map (nlA k)).getD i .any = nlA k (c.getD i .any) := by
 simp only [List.getD_eq_getElem?_getD, List.getElem?_map]
 cases c[i]? <;> simp [nlA_any]
theorem Rep.nlA : ∀ (k : Nat) {o : Bool} {v : AV} {x : Value}, Rep μ ro w o v x → Rep μ ro w o (Av.nlA k v) x
 | 0, _, _, _, h => h
 | k + 1, o, v, x, h => by
  unfold Av.nlA
  cases v with
  | nils => cases h; exact .lstn
  | agg c => cases h with | agg hn hr => exact .agg (by simpa using hn) fun i hi => by rw [getD_nlA]; exact Rep.nlA k (hr i (by simpa using hi))
  | tup c => cases h with | tup hn hr => exact .tup (by simpa using hn) fun i hi => by rw [getD_nlA]; exact Rep.nlA k (hr i (by simpa using hi))
  | lst c n =>
   cases h with
   | lst vs hb hc hr hn => exact .lst vs (fun hne => hb (by simpa using hne)) (fun i hi => hc i (by simpa using hi)) (fun i hi => by rw [getD_nlA]; exact Rep.nlA k (hr i (by simpa using hi))) hn
   | lstn => exact .lstn
  | _ => exact h
theorem Ret.nla (k : Nat) {f : FuncId} {args : List AV} {r : AV} {blks : List Blk} (h : Ret P G f (args.map (Av.nlA k)) r blks) : Ret P G f args r blks := by
 intro ro w vs hlt hr hg
 exact h ro w vs hlt ⟨by rw [List.length_map]; exact hr.1, fun i hi => by rw [getD_nlA]; exact Rep.nlA k (hr.2 i (by simpa using hi))⟩ hg
end Go.Proofs.YtpadimnchmghpaaGreatDoor.Av
