import Derived.Test.YtpadimnchmghpaaGreatDoorAvMk
import Derived.Laws.Externs
open Prod (fst)
open Int (tdiv tmod)
set_option linter.unusedVariables false
set_option linter.unusedSimpArgs false
namespace Go.Proofs.YtpadimnchmghpaaGreatDoor.Av
noncomputable section
open Go.RowKit
variable {P : Program} {μ μ' : Nat → Option Loc} {ro ro' : Nat → Prop} {w w' : World}
def lookE : List (AV × AV) → AV → Option AV
 | [], _ => none
 | (k, v) :: es, key => match keyEq k key with | true => some v | false => lookE es key
def setE : List (AV × AV) → AV → AV → List (AV × AV)
 | [], key, x => [(key, x)]
 | (k, v) :: es, key, x => match keyEq k key with | true => (k, x) :: es | false => (k, v) :: setE es key x
/-! ### what is found -/
theorem look_some {kd : KK} {key : AV} {b : Value} (hb : keyVal kd key = some b) : ∀ {es : List (AV × AV)} {p : List MapEntry} {v : AV}, Ents kd μ ro w es p → lookE es key = some v → ∃ m ∈ p, m.key = b ∧ Rep μ ro w false v m.val
 | [], [], v, _, h => by cases h
 | (k, x) :: es, m :: p, v, .cons hk hv he, h => by
  unfold lookE at h
  split at h
  ·rename_i hq
   cases h
   exact ⟨m, by simp, (keyEq_iff hk hb).1 hq, hv⟩
  ·obtain ⟨m', h1, h2⟩ := look_some hb he h
   exact ⟨m', by simp [h1], h2⟩
theorem look_none {kd : KK} {key : AV} {b : Value} (hb : keyVal kd key = some b) : ∀ {es : List (AV × AV)} {p : List MapEntry}, Ents kd μ ro w es p → lookE es key = none → ∀ m ∈ p, m.key ≠ b
 | [], [], _, _, m, hm => by cases hm
 | (k, x) :: es, m :: p, .cons hk hv he, h, m', hm => by
  unfold lookE at h
  split at h
  ·cases h
  ·rename_i hq
   rcases List.mem_cons.1 hm with rfl | hm
   ·intro e
    rw [(keyEq_iff hk hb).2 e] at hq
    cases hq
   ·exact look_none hb he h m' hm
def findIx (b : Value) : List MapEntry → Nat → Option (Nat × Value)
 | [], _ => none
 | m :: ms, i => open Classical in if m.key = b then some (i, m.val) else findIx b ms (i + 1)
def kdOf : TypeDesc → Option KK
 | .string => some .s
 | .int k => some (.i k)
 | _ => none
theorem same_now {kd : KK} {d : TypeDesc} {a c : Value} {k key : AV} (hd : kdOf d = some kd) (ha : keyVal kd key = some a) (hc : keyVal kd k = some c) : Instr.sameNow d a c = some (open Classical in decide (c = a)) := by
 have hiff := keyEq_iff hc ha
 cases kd with
 | s =>
  cases d <;> simp only [kdOf, reduceCtorEq, sJ] at hd
  cases k <;> simp only [keyVal, reduceCtorEq] at hc
  cases key <;> simp only [keyVal, reduceCtorEq] at ha
  simp only [sJ] at ha hc
  subst ha; subst hc
  rename_i s t
  simp only [Instr.sameNow]
  have e : ((⟨t.toArray⟩ : ByteArray) == ⟨s.toArray⟩) = decide (s = t) := by
   rw [bytes_beq]
   by_cases h : s = t
   ·subst h; simp
   ·have h2 : ¬ t = s := fun q => h q.symm
    simp [h, h2]
  rw [e]
  congr 1
  by_cases h : s = t
  ·simp [h]
  ·have : ¬ (Value.string ⟨s.toArray⟩ = Value.string ⟨t.toArray⟩) := fun q => h (of_decide_eq_true (hiff.2 q))
   simp [h, this]
 | i j =>
  cases d <;> simp only [kdOf, reduceCtorEq, sJ, KK.i.injEq] at hd
  cases k <;> simp only [keyVal, reduceCtorEq] at hc
  cases key <;> simp only [keyVal, reduceCtorEq] at ha
  split at ha
  ·split at hc
   ·rename_i h1 h2
    simp only [sJ] at ha hc
    subst ha; subst hc; subst h1; subst h2
    rename_i m n
    simp only [Instr.sameNow, if_true]
    congr 1
    by_cases h : m = n
    ·subst h; simp
    ·have h2 : ¬ n = m := fun q => h q.symm
     simp [h, h2]
   ·cases hc
  ·cases ha
 | g l => cases d <;> simp [kdOf] at hd
theorem find_now {kd : KK} {d : TypeDesc} {key : AV} {b : Value} (hd : kdOf d = some kd) (hb : keyVal kd key = some b) : ∀ (ms : List MapEntry) (i : Nat), (∀ m ∈ ms, ∃ k, keyVal kd k = some m.key) → Instr.findNow d b ms i = some (findIx b ms i)
 | [], i, _ => rfl
 | m :: ms, i, h => by
  obtain ⟨k, hk⟩ := h m (by simp)
  have hs := same_now hd hb hk
  unfold Instr.findNow findIx
  rw [hs]
  by_cases e : m.key = b
  ·simp [e]
  ·simp only [e, decide_false, if_false]
   exact find_now hd hb ms (i + 1) (fun m hm => h m (by simp [hm]))
theorem findIx_some {b : Value} : ∀ {ms : List MapEntry} {i j : Nat} {x : Value}, findIx b ms i = some (j, x) → i ≤ j ∧ ∃ m, ms[j - i]? = some m ∧ m.key = b ∧ x = m.val
 | [], i, j, x, h => by cases h
 | m :: ms, i, j, x, h => by
  unfold findIx at h
  split at h
  ·rename_i e
   simp only [sJ, Prod.mk.injEq] at h
   obtain ⟨rfl, rfl⟩ := h
   exact ⟨Nat.le_refl _, m, by simp, e, rfl⟩
  ·obtain ⟨h1, m', h2, h3⟩ := findIx_some h
   refine ⟨by omega, m', ?_, h3⟩
   rw [show j - i = (j - (i + 1)) + 1 by omega]
   simpa using h2
theorem findIx_none {b : Value} : ∀ {ms : List MapEntry} {i : Nat}, findIx b ms i = none → ∀ m ∈ ms, m.key ≠ b
 | [], i, _, m, hm => by cases hm
 | m :: ms, i, h, m', hm => by
  unfold findIx at h
  split at h
  ·cases h
  ·rename_i e
   rcases List.mem_cons.1 hm with rfl | hm
   ·exact e
   ·exact findIx_none h m' hm
theorem Ents.keys {kd : KK} : ∀ {es : List (AV × AV)} {p : List MapEntry}, Ents kd μ ro w es p → ∀ m ∈ p, ∃ e ∈ es, keyVal kd e.1 = some m.key
 | _, _, .nil, m, hm => by cases hm
 | _, _, .cons hk hv he, m, hm => by
  rcases List.mem_cons.1 hm with rfl | hm
  ·exact ⟨_, List.mem_cons_self .., hk⟩
  ·obtain ⟨e, h1, h2⟩ := he.keys m hm
   exact ⟨e, List.mem_cons_of_mem _ h1, h2⟩
theorem Ents.nodup {kd : KK} : ∀ {es : List (AV × AV)} {p : List MapEntry}, Ents kd μ ro w es p → (es.map (·.1)).Nodup → (p.map (·.key)).Nodup
 | _, _, .nil, _ => List.nodup_nil
 | (k, v) :: es, m :: p, .cons hk hv he, hn => by
  simp only [List.map_cons, List.nodup_cons] at hn ⊢
  refine ⟨fun hm => hn.1 ?_, he.nodup hn.2⟩
  obtain ⟨m', h1, h2⟩ := List.mem_map.1 hm
  obtain ⟨e, h3, h4⟩ := he.keys m' h1
  rw [h2] at h4
  have := keyEq_same ((keyEq_iff h4 hk).2 rfl)
  rw [← this]
  exact List.mem_map.2 ⟨e, h3, rfl⟩
theorem key_unique {ms : List MapEntry} (hn : (ms.map (·.key)).Nodup) {i j : Nat} {m m' : MapEntry} (hi : ms[i]? = some m) (hj : ms[j]? = some m') (he : m.key = m'.key) : i = j := by
 have h1 : (ms.map (·.key))[i]? = some m.key := by rw [List.getElem?_map, hi]; rfl
 have h2 : (ms.map (·.key))[j]? = some m'.key := by rw [List.getElem?_map, hj]; rfl
 obtain ⟨hil, e1⟩ := List.getElem?_eq_some_iff.1 h1
 obtain ⟨hjl, e2⟩ := List.getElem?_eq_some_iff.1 h2
 rw [List.Nodup, List.pairwise_iff_getElem] at hn
 rcases Nat.lt_trichotomy i j with h | h | h
 ·exact absurd (e1.trans (he.trans e2.symm)) (hn i j hil hjl h)
 ·exact h
 ·exact absurd (e2.trans (he.symm.trans e1.symm)) (hn j i hjl hil h)
/-! ### the operations -/
theorem kdT_flat {kt : TypeId} {kd : KK} (h : kdT P kt = some kd) : (∃ d, P.underlying kt = some d ∧ kdOf d = some kd) ∨ (∃ l, kd = .g l ∧ (match P.underlying kt with | some (.array _ _) | some (.struct _) => true | _ => false) = true) := by
 have h0 := h
 unfold kdT at h
 split at h
 ·rename_i hu; cases h; exact .inl ⟨_, hu, rfl⟩
 ·rename_i hu; cases h; exact .inl ⟨_, hu, rfl⟩
 ·rename_i fs hu
  split at h
  ·obtain ⟨l, hl, rfl⟩ := Option.map_eq_some_iff.1 h
   exact .inr ⟨l, rfl, by rw [hu]⟩
  ·cases h
 ·rename_i n e hu
  split at h
  ·cases h; exact .inr ⟨_, rfl, by rw [hu]⟩
  ·cases h
 ·cases h
theorem find_asking {l : List KB} {kt : TypeId} {key : AV} {b : Value} (hd : kdT P kt = some (.g l)) (hb : keyVal (.g l) key = some b) (w' : World) : ∀ (ms : List MapEntry) (i : Nat), (∀ m ∈ ms, ∃ k, keyVal (.g l) k = some m.key) →
  (Instr.findAsking kt b ms i).run P w' = .ok (findIx b ms i) w'
 | [], i, _ => by simp [Instr.findAsking, findIx]
 | m :: ms, i, h => by
  obtain ⟨k, hk⟩ := h m (by simp)
  obtain ⟨r, h1, h2⟩ := r_equal hd hb hk w'
  unfold Instr.findAsking findIx
  simp only [Sem.run_bind, h1, Result.andThen_ok]
  by_cases e : m.key = b
  ·have hr : r = true := h2.2 e.symm
   subst hr
   simp [e]
  ·have hr : r = false := by cases r; rfl; exact absurd (h2.1 rfl).symm e
   subst hr
   simp only [Bool.false_eq_true, if_false, e]
   exact find_asking hd hb w' ms (i + 1) (fun m hm => h m (by simp [hm]))
theorem r_findKey {kd : KK} {kt : TypeId} {key : AV} {b : Value} {es : List (AV × AV)} {p ms : List MapEntry} (hd : kdT P kt = some kd) (hb : keyVal kd key = some b) (hp : p.Perm ms) (he : Ents kd μ ro w es p) (w' : World) :
  (Instr.findKey kt b ms).run P w' = .ok (findIx b ms 0) w' := by
 have hks : ∀ m ∈ ms, ∃ k, keyVal kd k = some m.key := fun m hm => by
  obtain ⟨e, h1, h2⟩ := he.keys m (hp.mem_iff.2 hm)
  exact ⟨_, h2⟩
 rcases kdT_flat hd with ⟨d, hu, hd'⟩ | ⟨l, rfl, hw⟩
 ·unfold Instr.findKey
  simp only [Sem.run_bind, r_underlying hu, Result.andThen_ok, find_now hd' hb ms 0 hks, Sem.run_pure]
 ·rw [run_findKey_eq w' hw]
  exact find_asking hd hb w' ms 0 hks
def lookH (hn : Hint) (es : List (AV × AV)) (key : AV) : W (Option AV) :=
 match hn with
 | .v [v] => (W.owe (lookE es key = some v)).bind fun _ => W.pure (some v)
 | .b _ => (W.owe (lookE es key = none)).bind fun _ => W.pure none
 | _ => W.pure (lookE es key)
theorem lookH_sat {hn : Hint} {es : List (AV × AV)} {key : AV} : (lookH hn es key).sat fun r => r = lookE es key := by
 unfold lookH
 split
 ·exact W.sat_bind W.sat_owe fun _ h => W.sat_pure h.symm
 ·exact W.sat_bind W.sat_owe fun _ h => W.sat_pure h.symm
 ·exact W.sat_pure rfl
def lookRes (ok : Bool) (r : Option AV) (z : AV) : AV :=
 match r with
 | some v => match ok with | true => .tup [v, .bool true] | false => v
 | none => match ok with | true => .tup [z, .bool false] | false => z
def aLookup (P : Program) (hn : Hint) (t : TypeId) (x key : AV) (ok : Bool) (h : Hp) : W AV :=
 match P.underlying t with
 | some (.map kt et) =>
  match (P.info? et).bind (·.zero) with
  | some z =>
   match kdT P kt with
   | some kd =>
    match (keyVal kd key).isSome with
    | true =>
     match x with
     | .nilm => W.pure (lookRes ok none (cst z))
     | .mapr id =>
      match h.m.get id with
      | some (.map kd' es) => match kkEq kd' kd with | true => (lookH hn es key).bind fun r => W.pure (lookRes ok r (cst z)) | false => W.fail
      | _ => W.fail
     | _ => W.fail
    | false => W.fail
   | none => W.fail
  | _ => W.fail
 | _ => W.fail
theorem lookRes_some {ok : Bool} {v z : AV} {x : Value} {o : Bool} (h : Rep μ ro w o v x) : Rep μ ro w o (lookRes ok (some v) z) (if ok then .tuple #[x, .bool true] else x) := by
 cases ok with
 | true => exact (Reps.cons h (Reps.cons .bool Reps.nil)).tup
 | false => exact h
theorem lookRes_none {ok : Bool} {z : AV} {x : Value} {o : Bool} (h : Rep μ ro w o z x) : Rep μ ro w o (lookRes ok none z) (if ok then .tuple #[x, .bool false] else x) := by
 cases ok with
 | true => exact (Reps.cons h (Reps.cons .bool Reps.nil)).tup
 | false => exact h
theorem findIx_look {kd : KK} {key : AV} {b : Value} {es : List (AV × AV)} {p ms : List MapEntry} (hb : keyVal kd key = some b) (hp : p.Perm ms) (he : Ents kd μ ro w es p) (hn : (es.map (·.1)).Nodup) :
  (∃ v i x, lookE es key = some v ∧ findIx b ms 0 = some (i, x) ∧ Rep μ ro w false v x) ∨ (lookE es key = none ∧ findIx b ms 0 = none) := by
 have hkn : (ms.map (·.key)).Nodup := (hp.map _).nodup_iff.1 (he.nodup hn)
 cases hl : lookE es key with
 | some v =>
  obtain ⟨m, h1, h2, h3⟩ := look_some hb he hl
  cases hf : findIx b ms 0 with
  | none => exact absurd h2 (findIx_none hf m (hp.mem_iff.1 h1))
  | some q =>
   obtain ⟨i, x⟩ := q
   obtain ⟨-, m', h4, h5, rfl⟩ := findIx_some hf
   obtain ⟨j, hj, e⟩ := List.getElem_of_mem (hp.mem_iff.1 h1)
   have hj' : ms[j]? = some m := by rw [List.getElem?_eq_getElem hj, e]
   have := key_unique hkn hj' h4 (h2.trans h5.symm)
   rw [Nat.sub_zero] at h4 this
   subst this
   rw [hj'] at h4
   cases h4
   exact .inl ⟨v, _, _, rfl, rfl, h3⟩
 | none =>
  cases hf : findIx b ms 0 with
  | none => exact .inr ⟨rfl, rfl⟩
  | some q =>
   obtain ⟨i, x⟩ := q
   obtain ⟨-, m', h4, h5, -⟩ := findIx_some hf
   exact absurd h5 (look_none hb he hl m' (hp.mem_iff.2 (List.mem_of_getElem? h4)))
theorem aLookup_sat {hn : Hint} {t : TypeId} {x key : AV} {a b' : Value} {ok : Bool} {h : Hp} (hx : Rep μ ro w true x a) (hk : Rep μ ro w true key b') (hh : HpRel μ ro h w) :
  (aLookup P hn t x key ok h).sat fun v => ∃ v', (Instr.lookup t a b' ok).run P w = .ok v' w ∧ Rep μ ro w true v v' := by
 unfold aLookup
 split
 ·rename_i kt et hu
  split
  ·rename_i z hz
   split
   ·rename_i kd hd
    split
    ·rename_i hsome
     obtain ⟨b, hb⟩ := Option.isSome_iff_exists.1 hsome
     have hbb := rep_key hk hb
     subst hbb
     have hzero : ∀ w : World, (zeroValue et).run P w = .ok z w := fun w => by
      cases hi : P.info? et with
      | none => rw [hi] at hz; cases hz
      | some i => rw [hi] at hz; exact r_zero hi hz w
     split
     ·cases hx
      refine W.sat_pure ⟨_, ?_, lookRes_none (cst_rep z)⟩
      have hf : (Instr.findKey kt b' ([] : List MapEntry)).run P w = .ok none w := by
       exact r_findKey (μ := μ) (ro := ro) (w := w) (es := []) hd hb (List.Perm.refl _) .nil w
      simp only [Instr.lookup, Sem.run_bind, r_underlying hu, Result.andThen_ok, Sem.run_pure, r_checkKey hd hb, hf, hzero]
     ·rename_i id
      split
      ·rename_i kd' es hm
       split
       ·rename_i hkk
        have := kkEq_eq hkk
        subst this
        refine W.sat_bind lookH_sat fun r hr => W.sat_pure ?_
        subst hr
        cases hx with
        | mapr hmu =>
         rename_i bl
         obtain ⟨ms, cl, p, g1, g2, g3, g4, g5, g6⟩ := hh.obsM id _ _ hm hmu
         have hget : (getObj bl.1).run P w = .ok (.map ms cl) w := by simp [getObj, Sem.run, g1]
         have hfk := r_findKey (P := P) hd hb g2 g3 w
         rcases findIx_look hb g2 g3 g6 with ⟨v, i, x, h1, h2, h3⟩ | ⟨h1, h2⟩
         ·rw [h1]
          refine ⟨_, ?_, lookRes_some h3.up⟩
          rw [h2] at hfk
          simp only [Instr.lookup, Sem.run_bind, r_underlying hu, Result.andThen_ok, Sem.run_pure, hget, r_checkKey hd hb, hfk]
         ·rw [h1]
          refine ⟨_, ?_, lookRes_none (cst_rep z)⟩
          rw [h2] at hfk
          simp only [Instr.lookup, Sem.run_bind, r_underlying hu, Result.andThen_ok, Sem.run_pure, hget, r_checkKey hd hb, hfk, hzero]
       ·exact W.sat_fail
      ·exact W.sat_fail
     ·exact W.sat_fail
    ·exact W.sat_fail
   ·exact W.sat_fail
  ·exact W.sat_fail
 ·exact W.sat_fail
def aMakeMap (P : Program) (t : TypeId) (r : Option AV) (h : Hp) : Option (AV × Hp) :=
 match P.underlying t, r with
 | some (.map kt _), none => match kdT P kt with | some kd => some (.mapr h.nx, h.new (.map kd [])) | none => none
 | _, _ => none
theorem aMakeMap_good {t : TypeId} {r : Option AV} {r' : Option Value} {h : Hp} {q : AV × Hp} (hq : aMakeMap P t r h = some q) (hr : r = none → r' = none) (hh : HpRel μ ro h w) : Good P (Instr.makeMap t r') μ ro w h.nx q.1 q.2 := by
 unfold aMakeMap at hq
 split at hq
 ·rename_i kt et hu
  obtain rfl := hr rfl
  split at hq
  ·rename_i kd hkd
   simp only [sJ] at hq
   subst hq
   refine ⟨.map (some w.heap.size), w.alloc (.map #[] 0), upd μ h.nx (w.heap.size, 0), ?_, upd_agree _ _, .mapr (upd_self _ _), hh.new _ _ _ ⟨#[], 0, [], heap_new w _, List.Perm.refl _, .nil, fun e he => by simp at he, by simp, by simp⟩, Fr.alloc hh _ _⟩
   simp only [Instr.makeMap, Sem.run_bind, Sem.run_pure, run_newObj, Result.andThen_ok]
   rfl
  ·cases hq
 ·cases hq
/-! ### an entry laid -/
def gUp (b x : Value) (m : MapEntry) : MapEntry := open Classical in if m.key = b then { m with val := x } else m
theorem gUp_born {b x : Value} {m : MapEntry} : (gUp b x m).born = m.born := by unfold gUp; split <;> rfl
theorem gUp_other {b x : Value} {m : MapEntry} (h : m.key ≠ b) : gUp b x m = m := by unfold gUp; rw [if_neg h]
theorem gUp_map {b x : Value} : ∀ {p : List MapEntry}, (∀ m ∈ p, m.key ≠ b) → p.map (gUp b x) = p
 | [], _ => rfl
 | m :: p, h => by rw [List.map_cons, gUp_other (h m (by simp)), gUp_map (fun m hm => h m (by simp [hm]))]
theorem ents_set {kd : KK} {key v : AV} {b x : Value} (hb : keyVal kd key = some b) (hv : Rep μ ro w false v x) : ∀ {es : List (AV × AV)} {p : List MapEntry}, Ents kd μ ro w es p → (es.map (·.1)).Nodup → lookE es key ≠ none →
  Ents kd μ ro w (setE es key v) (p.map (gUp b x)) ∧ (setE es key v).map (·.1) = es.map (·.1)
 | _, _, .nil, _, h => absurd rfl h
 | (k, y) :: es, m :: p, .cons hk hy he, hn, h => by
  have hnp := (Ents.cons hk hy he).nodup hn
  simp only [List.map_cons, List.nodup_cons] at hn hnp
  unfold lookE at h
  unfold setE
  cases hq : keyEq k key with
  | true =>
   have hmb := (keyEq_iff hk hb).1 hq
   have h2 : p.map (gUp b x) = p := gUp_map fun m' hm' e => hnp.1 (List.mem_map.2 ⟨m', hm', e.trans hmb.symm⟩)
   rw [List.map_cons, h2]
   refine ⟨.cons ?_ ?_ he, rfl⟩
   ·unfold gUp; rw [if_pos hmb]; exact hk
   ·unfold gUp; rw [if_pos hmb]; exact hv
  | false =>
   rw [hq] at h
   have hmb : m.key ≠ b := fun e => by rw [(keyEq_iff hk hb).2 e] at hq; cases hq
   obtain ⟨h1, h2⟩ := ents_set hb hv he hn.2 h
   rw [List.map_cons, gUp_other hmb]
   refine ⟨.cons hk hy h1, ?_⟩
   simp only [List.map_cons, h2]
theorem ents_add {kd : KK} {key v : AV} {b x : Value} {c : Nat} (hb : keyVal kd key = some b) (hv : Rep μ ro w false v x) : ∀ {es : List (AV × AV)} {p : List MapEntry}, Ents kd μ ro w es p → lookE es key = none →
  Ents kd μ ro w (setE es key v) (p ++ [⟨b, x, c⟩]) ∧ (setE es key v).map (·.1) = es.map (·.1) ++ [key]
 | _, _, .nil, _ => ⟨.cons hb hv .nil, rfl⟩
 | (k, y) :: es, m :: p, .cons hk hy he, h => by
  unfold lookE at h
  unfold setE
  cases hq : keyEq k key with
  | true => rw [hq] at h; cases h
  | false =>
   rw [hq] at h
   obtain ⟨h1, h2⟩ := ents_add (c := c) hb hv he h
   refine ⟨.cons hk hy h1, ?_⟩
   simp only [List.map_cons, h2, List.cons_append]
theorem modify_map {ms : List MapEntry} {b x : Value} {i : Nat} {m : MapEntry} (hn : (ms.map (·.key)).Nodup) (hi : ms[i]? = some m) (hm : m.key = b) : ms.modify i (fun e => { e with key := b, val := x }) = ms.map (gUp b x) := by
 apply List.ext_getElem?
 intro q
 rw [List.getElem?_modify, List.getElem?_map]
 cases hq : ms[q]? with
 | none => rfl
 | some m' =>
  by_cases e : i = q
  ·subst e
   rw [hi] at hq
   cases hq
   simp only [Option.map_some, if_true, gUp, if_pos hm]
   show some (MapEntry.mk b x m.born) = some (MapEntry.mk m.key x m.born)
   rw [hm]
  ·have : m'.key ≠ b := fun e2 => e (key_unique hn hi hq (hm.trans e2.symm))
   simp only [Option.map_some, if_neg e, gUp_other this]
   rfl
theorem lookE_none_mem {kd : KK} {key : AV} {b : Value} (hb : keyVal kd key = some b) : ∀ {es : List (AV × AV)}, lookE es key = none → key ∉ es.map (·.1)
 | [], _ => by simp
 | (k, y) :: es, h => by
  unfold lookE at h
  split at h
  ·cases h
  ·rename_i hq
   simp only [List.map_cons, List.mem_cons, not_or]
   refine ⟨fun e => ?_, lookE_none_mem hb h⟩
   subst e
   rw [keyEq_refl hb] at hq
   cases hq
def aMapSet (P : Program) (t : TypeId) (m key x : AV) (h : Hp) : Option Hp :=
 match P.underlying t, m with
 | some (.map kt _), .mapr id =>
  match kdT P kt with
  | some kd =>
   match h.m.get id, (keyVal kd key).isSome && x.pl with
   | some (.map kd' es), true => match kkEq kd' kd with | true => some (h.set id (.map kd (setE es key x))) | false => none
   | _, _ => none
  | none => none
 | _, _ => none
theorem aMapSet_run {t : TypeId} {m key x : AV} {a b' xv : Value} {h h' : Hp} (hs : aMapSet P t m key x h = some h') (hm : Rep μ ro w true m a) (hk : Rep μ ro w true key b') (hx : Rep μ ro w true x xv) (hh : HpRel μ ro h w) :
  ∃ w', (Instr.mapUpdate t a b' xv).run P w = .ok () w' ∧ HpRel μ ro h' w' ∧ Fr μ ro w μ w' := by
 unfold aMapSet at hs
 split at hs
 ·rename_i kt et id hu
  split at hs
  ·rename_i kd hd
   split at hs
   ·rename_i kd' es hget hc
    split at hs
    ·rename_i hkk
     have := kkEq_eq hkk
     subst this
     simp only [sJ] at hs
     subst hs
     simp only [Bool.and_eq_true] at hc
     obtain ⟨b, hb⟩ := Option.isSome_iff_exists.1 hc.1
     have hbb := rep_key hk hb
     subst hbb
     have hxv : Rep μ ro w false x xv := hx.pl hc.2
     cases hm with
     | mapr hmu =>
      rename_i bl
      obtain ⟨ms, cl, p, g1, g2, g3, g4, g5, g6⟩ := hh.obsM id _ _ hget hmu
      have hlt := hh.lt id bl hmu
      have hgo : (getObj bl.1).run P w = .ok (.map ms cl) w := by simp [getObj, Sem.run, g1]
      have hfk := r_findKey (P := P) hd hb g2 g3 w
      have key : ∀ (ms' : Array MapEntry) (cl' : Nat) (es' : List (AV × AV)) (p' : List MapEntry), p'.Perm ms'.toList → Ents kd' μ ro w es' p' → (∀ e ∈ ms'.toList, e.born < cl') → (ms'.toList.map (·.born)).Nodup → (es'.map (·.1)).Nodup →
        (setObj bl.1 (.map ms' cl')).run P w = .ok () { w with heap := w.heap.setIfInBounds bl.1 (.map ms' cl') } ∧ HpRel μ ro (h.set id (.map kd' es')) { w with heap := w.heap.setIfInBounds bl.1 (.map ms' cl') } ∧ Fr μ ro w μ { w with heap := w.heap.setIfInBounds bl.1 (.map ms' cl') } := by
       intro ms' cl' es' p' q1 q2 q3 q4 q5
       have hw1 : ∀ j, j ≠ bl.1 → (w.heap.setIfInBounds bl.1 (.map ms' cl'))[j]? = w.heap[j]? := fun j hj => by rw [Array.getElem?_setIfInBounds_ne (Ne.symm hj)]
       have hw2 : (w.heap.setIfInBounds bl.1 (.map ms' cl'))[bl.1]? = some (.map ms' cl') := by rw [Array.getElem?_setIfInBounds_self_of_lt hlt]
       have hsz : (w.heap.setIfInBounds bl.1 (.map ms' cl')).size = w.heap.size := by simp
       have hro : ∀ j, ro j → (w.heap.setIfInBounds bl.1 (.map ms' cl'))[j]? = w.heap[j]? := fun j hj => hw1 j (fun e => hh.own id _ bl hget hmu (e ▸ hj))
       refine ⟨by simp [setObj, Sem.run, g1], ?_, Fr.write hmu rfl rfl rfl hsz (hh.own id _ bl hget hmu) hw1⟩
       exact hh.set hget hmu (Nat.le_of_eq hsz.symm) (fun j hj _ => hw1 j hj) ⟨ms', cl', p', hw2, q1, q2.mono (fun _ _ h => h) (fun _ h => h) hro, q3, q4, q5⟩
      rcases findIx_look hb g2 g3 g6 with ⟨v, i, x0, h1, h2, h3⟩ | ⟨h1, h2⟩
      ·rw [h2] at hfk
       obtain ⟨-, m', h4, h5, rfl⟩ := findIx_some h2
       rw [Nat.sub_zero] at h4
       have hkn : (ms.toList.map (·.key)).Nodup := (g2.map _).nodup_iff.1 (g3.nodup g6)
       have hmod : (ms.modify i fun e => { e with key := b', val := xv }).toList = ms.toList.map (gUp b' xv) := by
        rw [Array.toList_modify]; exact modify_map hkn h4 h5
       obtain ⟨k1, k2⟩ := ents_set hb hxv g3 g6 (by rw [h1]; simp)
       obtain ⟨q1, q2, q3⟩ := key (ms.modify i fun e => { e with key := b', val := xv }) cl (setE es _ _) _ (by rw [hmod]; exact g2.map _) k1 (fun e he => by
        rw [hmod] at he
        obtain ⟨e', he', rfl⟩ := List.mem_map.1 he
        rw [gUp_born]; exact g4 e' he') (by
        rw [hmod, List.map_map]
        have : ((fun e : MapEntry => e.born) ∘ gUp b' xv) = (fun e : MapEntry => e.born) := funext fun e => gUp_born
        rw [this]; exact g5) (by rw [k2]; exact g6)
       refine ⟨_, ?_, q2, q3⟩
       have h4' : ms[i]? = some m' := by rw [← Array.getElem?_toList]; exact h4
       simp only [Instr.mapUpdate, Sem.run_bind, r_underlying hu, Result.andThen_ok, Sem.run_pure, hgo, r_checkKey hd hb, hfk, h4', Option.map_some, Option.getD_some, h5, r_keyStays hb, q1]
      ·rw [h2] at hfk
       obtain ⟨k1, k2⟩ := ents_add (c := cl) hb hxv g3 h1
       obtain ⟨q1, q2, q3⟩ := key (ms.push ⟨b', xv, cl⟩) (cl + 1) (setE es _ _) _ (by rw [Array.toList_push]; exact g2.append_right _) k1 (fun e he => by
        rw [Array.toList_push, List.mem_append] at he
        rcases he with he | he
        ·have := g4 e he; omega
        ·simp at he; subst he; exact Nat.lt_succ_self _) (by
        rw [Array.toList_push, List.map_append, List.map_cons, List.map_nil, List.nodup_append]
        refine ⟨g5, by simp, fun a ha c hc e => ?_⟩
        simp at hc
        obtain ⟨e', he', rfl⟩ := List.mem_map.1 ha
        have := g4 e' he'
        omega) (by
        rw [k2, List.nodup_append]
        refine ⟨g6, by simp, fun a ha c hc e => ?_⟩
        simp at hc
        subst hc; subst e
        exact lookE_none_mem hb h1 ha)
       refine ⟨_, ?_, q2, q3⟩
       simp only [Instr.mapUpdate, Sem.run_bind, r_underlying hu, Result.andThen_ok, Sem.run_pure, hgo, r_checkKey hd hb, hfk, q1]
    ·cases hs
   ·cases hs
  ·cases hs
 ·cases hs
/-! ### an entry taken away -/
def delE : List (AV × AV) → AV → List (AV × AV)
 | [], _ => []
 | (k, v) :: es, key => match keyEq k key with | true => es | false => (k, v) :: delE es key
def delP (b : Value) (p : List MapEntry) : List MapEntry := open Classical in p.filter fun m => decide (m.key ≠ b)
theorem delP_none {b : Value} : ∀ {p : List MapEntry}, (∀ m ∈ p, m.key ≠ b) → delP b p = p := fun {p} h => by
 unfold delP
 rw [List.filter_eq_self]
 intro m hm
 simpa using h m hm
theorem delP_cons {b : Value} {m : MapEntry} {p : List MapEntry} : delP b (m :: p) = open Classical in if m.key = b then delP b p else m :: delP b p := by
 unfold delP
 by_cases h : m.key = b <;> simp [List.filter_cons, h]
theorem ents_del {kd : KK} {key : AV} {b : Value} (hb : keyVal kd key = some b) : ∀ {es : List (AV × AV)} {p : List MapEntry}, Ents kd μ ro w es p → (es.map (·.1)).Nodup → Ents kd μ ro w (delE es key) (delP b p) ∧ (delE es key).Sublist es
 | _, _, .nil, _ => ⟨.nil, List.Sublist.refl _⟩
 | (k, y) :: es, m :: p, .cons hk hy he, hn => by
  have hnp := (Ents.cons hk hy he).nodup hn
  simp only [List.map_cons, List.nodup_cons] at hn hnp
  unfold delE
  rw [delP_cons]
  cases hq : keyEq k key with
  | true =>
   have hmb := (keyEq_iff hk hb).1 hq
   rw [if_pos hmb, delP_none fun m' hm' e => hnp.1 (List.mem_map.2 ⟨m', hm', e.trans hmb.symm⟩)]
   exact ⟨he, List.sublist_cons_self _ _⟩
  | false =>
   have hmb : m.key ≠ b := fun e => by rw [(keyEq_iff hk hb).2 e] at hq; cases hq
   obtain ⟨h1, h2⟩ := ents_del hb he hn.2
   rw [if_neg hmb]
   exact ⟨.cons hk hy h1, h2.cons_cons _⟩
theorem erase_del {b : Value} : ∀ {ms : List MapEntry} {i : Nat} {m : MapEntry}, (ms.map (·.key)).Nodup → ms[i]? = some m → m.key = b → ms.eraseIdx i = delP b ms
 | [], i, m, _, h, _ => by simp at h
 | x :: ms, 0, m, hn, h, hm => by
  simp only [List.getElem?_cons_zero, sJ] at h
  subst h
  simp only [List.map_cons, List.nodup_cons] at hn
  rw [delP_cons, if_pos hm, List.eraseIdx_cons_zero, delP_none fun m' hm' e => hn.1 (List.mem_map.2 ⟨m', hm', e.trans hm.symm⟩)]
 | x :: ms, i + 1, m, hn, h, hm => by
  simp only [List.getElem?_cons_succ] at h
  simp only [List.map_cons, List.nodup_cons] at hn
  have hx : x.key ≠ b := fun e => hn.1 (List.mem_map.2 ⟨m, List.mem_of_getElem? h, hm.trans e.symm⟩)
  rw [delP_cons, if_neg hx, List.eraseIdx_cons_succ, erase_del hn.2 h hm]
def aDelete (P : Program) (t : TypeId) (m key : AV) (h : Hp) : Option Hp :=
 match P.underlying t, m with
 | some (.map kt _), .mapr id =>
  match kdT P kt with
  | some kd =>
   match h.m.get id, (keyVal kd key).isSome with
   | some (.map kd' es), true => match kkEq kd' kd with | true => some (h.set id (.map kd (delE es key))) | false => none
   | _, _ => none
  | none => none
 | _, _ => none
theorem aDelete_run {ts : Array TypeId} {ty t : TypeId} {m key : AV} {a b' : Value} {h h' : Hp} (ht : ts[0]? = some t) (hs : aDelete P t m key h = some h') (hm : Rep μ ro w true m a) (hk : Rep μ ro w true key b') (hh : HpRel μ ro h w) :
  ∃ w', (Builtin.delete_ ts ty #[a, b']).run P w = .ok (.tuple #[]) w' ∧ HpRel μ ro h' w' ∧ Fr μ ro w μ w' := by
 unfold aDelete at hs
 split at hs
 ·rename_i kt et id hu
  split at hs
  ·rename_i kd hd
   split at hs
   ·rename_i kd' es hget hc
    split at hs
    ·rename_i hkk
     have := kkEq_eq hkk
     subst this
     simp only [sJ] at hs
     subst hs
     obtain ⟨b, hb⟩ := Option.isSome_iff_exists.1 hc
     have hbb := rep_key hk hb
     subst hbb
     cases hm with
     | mapr hmu =>
      rename_i bl
      obtain ⟨ms, cl, p, g1, g2, g3, g4, g5, g6⟩ := hh.obsM id _ _ hget hmu
      have hlt := hh.lt id bl hmu
      have hgo : (getObj bl.1).run P w = .ok (.map ms cl) w := by simp [getObj, Sem.run, g1]
      have hfk := r_findKey (P := P) hd hb g2 g3 w
      have hkn : (ms.toList.map (·.key)).Nodup := (g2.map _).nodup_iff.1 (g3.nodup g6)
      obtain ⟨k1, k2⟩ := ents_del hb g3 g6
      have key : ∀ (ms' : Array MapEntry), ms'.toList = delP b' ms.toList →
        (setObj bl.1 (.map ms' cl)).run P w = .ok () { w with heap := w.heap.setIfInBounds bl.1 (.map ms' cl) } ∧ HpRel μ ro (h.set id (.map kd' (delE es key))) { w with heap := w.heap.setIfInBounds bl.1 (.map ms' cl) } ∧ Fr μ ro w μ { w with heap := w.heap.setIfInBounds bl.1 (.map ms' cl) } := by
       intro ms' hms
       have hw1 : ∀ j, j ≠ bl.1 → (w.heap.setIfInBounds bl.1 (.map ms' cl))[j]? = w.heap[j]? := fun j hj => by rw [Array.getElem?_setIfInBounds_ne (Ne.symm hj)]
       have hw2 : (w.heap.setIfInBounds bl.1 (.map ms' cl))[bl.1]? = some (.map ms' cl) := by rw [Array.getElem?_setIfInBounds_self_of_lt hlt]
       have hsz : (w.heap.setIfInBounds bl.1 (.map ms' cl)).size = w.heap.size := by simp
       have hro : ∀ j, ro j → (w.heap.setIfInBounds bl.1 (.map ms' cl))[j]? = w.heap[j]? := fun j hj => hw1 j (fun e => hh.own id _ bl hget hmu (e ▸ hj))
       have hsub : (delP b' ms.toList).Sublist ms.toList := List.filter_sublist
       refine ⟨by simp [setObj, Sem.run, g1], ?_, Fr.write hmu rfl rfl rfl hsz (hh.own id _ bl hget hmu) hw1⟩
       refine hh.set hget hmu (Nat.le_of_eq hsz.symm) (fun j hj _ => hw1 j hj) ⟨ms', cl, delP b' p, hw2, ?_, k1.mono (fun _ _ h => h) (fun _ h => h) hro, ?_, ?_, ?_⟩
       ·rw [hms]; exact g2.filter _
       ·rw [hms]; exact fun e he => g4 e (hsub.subset he)
       ·rw [hms]; exact (hsub.map _).nodup g5
       ·exact (k2.map _).nodup g6
      have run : ∀ (ms' : Array MapEntry) (o : Option (Nat × Value)), findIx b' ms.toList 0 = o → (match o with | some (i, _) => ms' = ms.eraseIdxIfInBounds i | none => ms' = ms) →
        (Builtin.delete_ ts ty #[.map (some bl.1), b']).run P w = ((setObj bl.1 (.map ms' cl)).run P w).andThen fun _ w' => .ok (.tuple #[]) w' := by
       intro ms' o ho hm'
       rw [ho] at hfk
       unfold Builtin.delete_
       simp only [ht, List.getElem?_toArray, List.getElem?_cons_zero, List.getElem?_cons_succ, Sem.run_bind, r_underlying hu, Result.andThen_ok, hgo, r_checkKey hd hb, hfk]
       cases o with
       | none => simp only at hm'; subst hm'; simp only [Sem.run_bind, Sem.run_pure]
       | some q => obtain ⟨i, x⟩ := q; simp only at hm'; subst hm'; simp only [Sem.run_bind, Sem.run_pure]
      cases hf : findIx b' ms.toList 0 with
      | none =>
       obtain ⟨q1, q2, q3⟩ := key ms (delP_none (findIx_none hf)).symm
       refine ⟨_, ?_, q2, q3⟩
       rw [run ms none hf rfl, q1]; rfl
      | some q =>
       obtain ⟨i, x⟩ := q
       obtain ⟨-, m', h4, h5, rfl⟩ := findIx_some hf
       rw [Nat.sub_zero] at h4
       obtain ⟨q1, q2, q3⟩ := key (ms.eraseIdxIfInBounds i) (by rw [Array.toList_eraseIdxIfInBounds]; exact erase_del hkn h4 h5)
       refine ⟨_, ?_, q2, q3⟩
       rw [run _ (some (i, m'.val)) hf rfl, q1]; rfl
    ·cases hs
   ·cases hs
  ·cases hs
 ·cases hs
/-! ### a copy -/
def isClone (P : Program) (f : FuncId) : Bool :=
 match P.funcs[f]? with
 | some fn => fn.body.isNone && (fn.name == "maps.clone" && (Extern.allNextRows.lookup fn.origin).isNone)
 | none => false
def aClone (args : List AV) (h : Hp) : Option (AV × Hp) :=
 match args with
 | [.ifc t (.mapr id)] => match h.m.get id with | some (.map kd es) => some (.ifc t (.mapr h.nx), h.new (.map kd es)) | _ => none
 | _ => none
theorem isClone_run {f : FuncId} (h : isClone P f = true) (args : Array Value) (w : World) : (callFunc f args).run P w = ((Extern.MapsClone.clone args).run P w).andThen fun v w' => .ok (.value v) w' := by
 unfold isClone at h
 split at h
 ·rename_i fn hf
  simp only [Bool.and_eq_true] at h
  obtain ⟨h1, h2, h3⟩ := h
  have hn : fn.name = "maps.clone" := by simpa using h2
  have h3' : Extern.allNextRows.lookup fn.origin = none := by simpa using h3
  refine run_callFunc_extern hf (by rw [hn]; rfl) h1 ?_ ?_ args w
  ·unfold Extern.findNext
   simp only [hn, h3']
   rfl
  ·unfold Extern.find
   simp only [hn]
   have e1 : Extern.allGenericRows.lookup "maps.clone" = none := by rfl
   have e2 : Extern.allTypedRows.lookup "maps.clone" = none := by rfl
   have e3 : Extern.allRows.lookup "maps.clone" = some Extern.MapsClone.clone := by rfl
   rw [e1, e2, e3]
   rfl
 ·cases h
theorem aClone_run {args : List AV} {vs : Array Value} {h : Hp} {r : AV × Hp} (hs : aClone args h = some r) (ha : Reps μ ro w true args vs.toList) (hh : HpRel μ ro h w) : Good P (Extern.MapsClone.clone vs) μ ro w h.nx r.1 r.2 := by
 unfold aClone at hs
 split at hs
 ·rename_i t id
  split at hs
  ·rename_i kd es hm
   simp only [sJ] at hs
   subst hs
   obtain ⟨x, rest, hv, hx, hr⟩ := ha.head
   have hn : rest = [] := List.length_eq_zero_iff.1 (by simpa using hr.1)
   subst hn
   cases hx with
   | ifc hx =>
    rename_i y
    cases hx with
    | mapr hmu =>
     rename_i b
     obtain ⟨ms, cl, p, g1, g2, g3, g4⟩ := hh.obsM id _ _ hm hmu
     have hvs : vs = #[.iface t (.map (some b.1))] := by
      have := congrArg List.toArray hv
      simpa using this
     subst hvs
     refine ⟨.iface t (.map (some w.heap.size)), w.alloc (.map ms cl), upd μ h.nx (w.heap.size, 0), ?_, upd_agree _ _, .ifc (.mapr (upd_self _ _)), hh.new _ _ _ ⟨ms, cl, p, heap_new w _, g2, g3.mono (upd_le hh _) (fun _ h => h) (fun b hb => Below.heap_alloc _ _ _ (hh.old b hb)), g4⟩, Fr.alloc hh _ _⟩
     have e : Extern.MapsClone.clone #[.iface t (.map (some b.1))] = (getObj b.1 >>= fun o => match o with
       | .map entries clock => (newObj (.map entries clock) >>= fun n => pure (.iface t (.map (some n))))
       | _ => stuck "maps.clone: a map expected") := rfl
     have hgo : (getObj b.1).run P w = .ok (.map ms cl) w := by simp [getObj, Sem.run, g1]
     rw [e]
     simp only [Sem.run_bind, hgo, Result.andThen_ok, run_newObj, Sem.run_pure]
     rfl
  ·cases hs
 ·cases hs
def aMapLen (P : Program) (t : TypeId) (x : AV) (h : Hp) : Option AV :=
 match P.underlying t, x with
 | some (.map _ _), .nilm => some (.int .i64 0)
 | some (.map _ _), .mapr id => match h.m.get id with | some (.map _ es) => some (.int .i64 (es.length : Int)) | _ => none
 | _, _ => none
theorem Ents.length {kd : KK} : ∀ {es : List (AV × AV)} {p : List MapEntry}, Ents kd μ ro w es p → p.length = es.length
 | _, _, .nil => rfl
 | _, _, .cons _ _ h => by simp [h.length]
theorem aMapLen_run {ts : Array TypeId} {ty t : TypeId} {x v : AV} {a : Value} {h : Hp} (ht : ts[0]? = some t) (hv : aMapLen P t x h = some v) (hx : Rep μ ro w true x a) (hh : HpRel μ ro h w) :
  ∃ v', (Builtin.len_ ts ty #[a]).run P w = .ok v' w ∧ Rep μ ro w true v v' := by
 unfold aMapLen at hv
 split at hv
 ·rename_i hu
  simp only [sJ] at hv
  subst hv
  cases hx
  refine ⟨goInt 0, ?_, .int⟩
  simp only [Builtin.len_, ht, List.getElem?_toArray, List.getElem?_cons_zero, Sem.run_bind, r_underlying hu, Result.andThen_ok]
  rfl
 ·rename_i id hu
  split at hv
  ·rename_i kd es hm
   simp only [sJ] at hv
   subst hv
   cases hx with
   | mapr hmu =>
    rename_i bl
    obtain ⟨ms, cl, p, g1, g2, g3, g4⟩ := hh.obsM id _ _ hm hmu
    have hl : ms.size = es.length := by rw [← g3.length, g2.length_eq, Array.length_toList]
    have hgo : (getObj bl.1).run P w = .ok (.map ms cl) w := by simp [getObj, Sem.run, g1]
    refine ⟨goInt ms.size, ?_, ?_⟩
    ·simp only [Builtin.len_, ht, List.getElem?_toArray, List.getElem?_cons_zero, Sem.run_bind, r_underlying hu, Result.andThen_ok, hgo, Sem.run_pure]
    ·rw [hl]; exact .int
  ·cases hv
 ·cases hv
/-! ### the entry an iterator stands at -/
theorem find_born {s : Nat} : ∀ {ms : List MapEntry} {i : Nat} {e : MapEntry}, (ms.map (·.born)).Nodup → ms[i]? = some e → e.born = s → ms.find? (fun x => x.born == s) = some e
 | [], i, e, _, h, _ => by simp at h
 | m :: ms, 0, e, _, h, hb => by simp only [List.getElem?_cons_zero, sJ] at h; subst h; simp [hb]
 | m :: ms, i + 1, e, hn, h, hb => by
  simp only [List.map_cons, List.nodup_cons] at hn
  simp only [List.getElem?_cons_succ] at h
  have hne : ¬ m.born = s := fun q => hn.1 (by rw [q, ← hb]; exact List.mem_map.2 ⟨e, List.mem_of_getElem? h, rfl⟩)
  rw [List.find?_cons_of_neg (by simpa using hne)]
  exact find_born hn.2 h hb
theorem Ents.at {kd : KK} : ∀ {es : List (AV × AV)} {ms : List MapEntry} {i : Nat} {k v : AV} {e : MapEntry}, Ents kd μ ro w es ms → es[i]? = some (k, v) → ms[i]? = some e → keyVal kd k = some e.key ∧ Rep μ ro w false v e.val
 | _, _, i, _, _, _, .nil, h, _ => by simp at h
 | _, _, 0, _, _, _, .cons hk hv _, h, h' => by simp only [List.getElem?_cons_zero, sJ] at h h'; cases h; cases h'; exact ⟨hk, hv⟩
 | _, _, i + 1, _, _, _, .cons _ _ he, h, h' => he.at (by simpa using h) (by simpa using h')
def EntAt (es : List (AV × AV)) (ms : List MapEntry) (seen : List Nat) (k v : AV) : Prop :=
 ∃ (i : Nat) (e : MapEntry), ms[i]? = some e ∧ es[i]? = some (k, v) ∧ seen.getLast? = some e.born
def aEntry (hn : Hint) (x : AV) (h : Hp) : W AV :=
 match x, hn with
 | .ptr id 0, .v [.mapr mid, k, v] =>
  match h.m.get id, h.m.get mid with
  | some (.mit m _ seen cl), some (.rm m' _ es ms cl') => (W.owe (m = m' ∧ cl = cl' ∧ EntAt es ms seen k v)).bind fun _ => W.pure (.tup [k, v])
  | _, _ => W.fail
 | _, _ => W.fail
theorem aEntry_sat {hn : Hint} {x : AV} {a : Value} {h : Hp} (hx : Rep μ ro w true x a) (hh : HpRel μ ro h w) : (aEntry hn x h).sat fun v => ∃ v', (Instr.entry a).run P w = .ok v' w ∧ Rep μ ro w true v v' := by
 unfold aEntry
 split
 ·rename_i id mid k v
  split
  ·rename_i m since seen cl m' kd es ms cl' hi hm
   refine W.sat_bind W.sat_owe fun _ ⟨e1, e2, i, e, h1, h2, h3⟩ => W.sat_pure ?_
   subst e1; subst e2
   cases hx with
   | ptr hb =>
    rename_i b
    have hit : w.heap[b.1]? = some (.mapIter (some m) since seen.toArray cl) := hh.obsM id _ _ hi hb
    obtain ⟨bm, hbm, g⟩ : ∃ bm, μ mid = some bm ∧ RmRel μ ro w bm m kd es ms cl := by
     rcases hh.obs mid _ hm with h | ⟨_, h, _⟩
     ·exact h
     ·exact h.elim
    obtain ⟨g0, g1, g2, g3, g4, g5⟩ := g
    rw [g0] at g1
    have hg1 : (getObj b.1).run P w = .ok (.mapIter (some m) since seen.toArray cl) w := by simp [getObj, Sem.run, hit]
    have hg2 : (getObj m).run P w = .ok (.map ms.toArray cl) w := by simp [getObj, Sem.run, g1]
    obtain ⟨q1, q2⟩ := g2.at h2 h1
    have hbk : seen.toArray.back? = some e.born := by simpa [Array.back?, List.getLast?_eq_getElem?] using h3
    have hf : ms.toArray.find? (fun x => x.born == e.born) = some e := by
     rw [List.find?_toArray]; exact find_born g4 h1 rfl
    refine ⟨.tuple #[e.key, e.val], ?_, (Reps.cons (keyVal_rep q1) (Reps.cons q2.up Reps.nil)).tup⟩
    simp only [Instr.entry, Sem.run_bind, hg1, hg2, Result.andThen_ok, hbk, hf, bne_self_eq_false, if_false, Bool.false_eq_true, Sem.run_pure]
  ·exact W.sat_fail
 ·exact W.sat_fail
end
end Go.Proofs.YtpadimnchmghpaaGreatDoor.Av
