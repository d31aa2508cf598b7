import Derived.Test.YtpadimnchmghpaaGreatDoorAvL
import Derived.DeepKeys
import Derived.WideKeyRuns
open Prod (fst)
open Int (tdiv tmod)
set_option linter.unusedVariables false
set_option linter.unusedSimpArgs false
namespace Go.Proofs.YtpadimnchmghpaaGreatDoor.Av
open Go.RowKit
variable {P : Program} {μ μ' : Nat → Option Loc} {ro ro' : Nat → Prop} {w w' : World}
def keyEqB : AV → AV → Bool
 | .str s, .str t => decide (s = t)
 | .int k a, .int j b => decide (k = j) && decide (a = b)
 | _, _ => false
def keyEqs : List AV → List AV → Bool
 | [], [] => true
 | a :: as, b :: bs => keyEqB a b && keyEqs as bs
 | _, _ => false
def keyEq : AV → AV → Bool
 | .str s, .str t => decide (s = t)
 | .int k a, .int j b => decide (k = j) && decide (a = b)
 | .agg as, .agg bs => keyEqs as bs
 | _, _ => false
def kbOf : TypeDesc → Option KB
 | .string => some .s
 | .int k => some (.i k)
 | _ => none
def kbFs (P : Program) : List Field → Nat → Option (List KB)
 | [], _ => some []
 | f :: fs, n =>
  match decide (f.name ≠ "_") && Nat.beq f.offset n, (P.underlying f.type).bind kbOf, kbFs P fs (n + 1) with
  | true, some b, some l => some (b :: l)
  | _, _, _ => none
def kdT (P : Program) (t : TypeId) : Option KK :=
 match P.underlying t with
 | some .string => some .s
 | some (.int k) => some (.i k)
 | some (.struct fs) => match P.stoodInHeld t with | false => (kbFs P fs.toList 0).map .g | true => none
 | some (.array n e) => match (P.underlying e).bind kbOf, szOf P e with | some b, some 1 => some (.g (List.replicate n b)) | _, _ => none
 | _ => none
def kbEq : KB → KB → Bool
 | .s, .s => true
 | .i j, .i k => decide (j = k)
 | _, _ => false
def kbsEq : List KB → List KB → Bool
 | [], [] => true
 | a :: as, b :: bs => kbEq a b && kbsEq as bs
 | _, _ => false
def kkEq : KK → KK → Bool
 | .s, .s => true
 | .i j, .i k => decide (j = k)
 | .g l, .g m => kbsEq l m
 | _, _ => false
theorem kbEq_eq {a b : KB} (h : kbEq a b = true) : a = b := by
 cases a <;> cases b <;> simp [kbEq] at h ⊢ <;> exact h
theorem kbsEq_eq : ∀ {a b : List KB}, kbsEq a b = true → a = b
 | [], [], _ => rfl
 | a :: as, b :: bs, h => by
  simp only [kbsEq, Bool.and_eq_true] at h
  rw [kbEq_eq h.1, kbsEq_eq h.2]
 | [], _ :: _, h => by cases h
 | _ :: _, [], h => by cases h
theorem kkEq_eq {a b : KK} (h : kkEq a b = true) : a = b := by
 cases a <;> cases b <;> simp [kkEq] at h ⊢ <;> first | exact h | exact kbsEq_eq h
theorem bytes_inj {s t : List UInt8} (h : Value.string ⟨s.toArray⟩ = Value.string ⟨t.toArray⟩) : s = t := by
 injection h with h
 injection h with h
 simpa using congrArg Array.toList h
theorem keyEqB_iff {kd : KB} {k key : AV} {a b : Value} (ha : keyValB kd k = some a) (hb : keyValB kd key = some b) : keyEqB k key = true ↔ a = b := by
 cases kd with
 | s =>
  cases k <;> simp only [keyValB, reduceCtorEq] at ha
  cases key <;> simp only [keyValB, reduceCtorEq] at hb
  simp only [sJ] at ha hb
  subst ha; subst hb
  simp only [keyEqB, decide_eq_true_eq]
  exact ⟨fun h => by rw [h], bytes_inj⟩
 | i j =>
  cases k <;> simp only [keyValB, reduceCtorEq] at ha
  cases key <;> simp only [keyValB, reduceCtorEq] at hb
  split at ha
  ·split at hb
   ·rename_i h1 h2
    simp only [sJ] at ha hb
    subst ha; subst hb; subst h1; subst h2
    simp [keyEqB]
   ·cases hb
  ·cases ha
theorem keyVals_cons {b : KB} {l : List KB} {c : AV} {cs : List AV} {vs : List Value} (h : keyVals (b :: l) (c :: cs) = some vs) : ∃ v us, vs = v :: us ∧ keyValB b c = some v ∧ keyVals l cs = some us := by
 unfold keyVals at h
 split at h
 ·rename_i v us h1 h2
  cases h
  exact ⟨v, us, rfl, h1, h2⟩
 ·cases h
theorem keyEqs_iff : ∀ {l : List KB} {as bs : List AV} {vs us : List Value}, keyVals l as = some vs → keyVals l bs = some us → (keyEqs as bs = true ↔ vs = us)
 | [], [], [], vs, us, ha, hb => by
  simp only [keyVals, sJ] at ha hb
  subst ha; subst hb
  simp [keyEqs]
 | b :: l, x :: xs, y :: ys, vs, us, ha, hb => by
  obtain ⟨v, vs', rfl, h1, h2⟩ := keyVals_cons ha
  obtain ⟨u, us', rfl, h3, h4⟩ := keyVals_cons hb
  simp only [keyEqs, Bool.and_eq_true, List.cons.injEq]
  rw [keyEqB_iff h1 h3, keyEqs_iff h2 h4]
 | [], _ :: _, _, _, _, ha, _ => by cases ha
 | [], [], _ :: _, _, _, _, hb => by cases hb
 | _ :: _, [], _, _, _, ha, _ => by cases ha
 | _ :: _, _ :: _, [], _, _, _, hb => by cases hb
theorem keyEq_iff {kd : KK} {k key : AV} {a b : Value} (ha : keyVal kd k = some a) (hb : keyVal kd key = some b) : keyEq k key = true ↔ a = b := by
 cases kd with
 | s =>
  cases k <;> simp only [keyVal, reduceCtorEq] at ha
  cases key <;> simp only [keyVal, reduceCtorEq] at hb
  simp only [sJ] at ha hb
  subst ha; subst hb
  simp only [keyEq, decide_eq_true_eq]
  exact ⟨fun h => by rw [h], bytes_inj⟩
 | i j =>
  cases k <;> simp only [keyVal, reduceCtorEq] at ha
  cases key <;> simp only [keyVal, reduceCtorEq] at hb
  split at ha
  ·split at hb
   ·rename_i h1 h2
    simp only [sJ] at ha hb
    subst ha; subst hb; subst h1; subst h2
    simp [keyEq]
   ·cases hb
  ·cases ha
 | g l =>
  cases k <;> simp only [keyVal, reduceCtorEq] at ha
  cases key <;> simp only [keyVal, reduceCtorEq] at hb
  obtain ⟨vs, h1, rfl⟩ := Option.map_eq_some_iff.1 ha
  obtain ⟨us, h2, rfl⟩ := Option.map_eq_some_iff.1 hb
  show keyEqs _ _ = true ↔ _
  rw [keyEqs_iff h1 h2]
  constructor
  ·intro h; rw [h]
  ·intro h
   injection h with h
   simpa using congrArg Array.toList h
theorem keyEqB_same {k key : AV} (h : keyEqB k key = true) : k = key := by
 unfold keyEqB at h
 split at h
 ·rw [of_decide_eq_true h]
 ·simp only [Bool.and_eq_true, decide_eq_true_eq] at h; rw [h.1, h.2]
 ·cases h
theorem keyEqs_same : ∀ {as bs : List AV}, keyEqs as bs = true → as = bs
 | [], [], _ => rfl
 | a :: as, b :: bs, h => by
  simp only [keyEqs, Bool.and_eq_true] at h
  rw [keyEqB_same h.1, keyEqs_same h.2]
 | [], _ :: _, h => by cases h
 | _ :: _, [], h => by cases h
theorem keyEq_same {k key : AV} (h : keyEq k key = true) : k = key := by
 unfold keyEq at h
 split at h
 ·rw [of_decide_eq_true h]
 ·simp only [Bool.and_eq_true, decide_eq_true_eq] at h; rw [h.1, h.2]
 ·rw [keyEqs_same h]
 ·cases h
theorem keyEq_refl {kd : KK} {k : AV} {a : Value} (h : keyVal kd k = some a) : keyEq k k = true := (keyEq_iff h h).2 rfl
/-! ### what the model does with keys -/
theorem part_small {t : TypeId} {d : TypeDesc} {vs : List Value} {i : Nat} {v : Value} (hu : P.underlying t = some d) (ha : isAggD d = false) (hv : vs[i]? = some v) (w : World) : (part t vs.toArray i).run P w = .ok v w := by
 simp only [part, Sem.run_bind, r_isAgg hu, ha, Result.andThen_ok]
 simp [hv]
theorem kb_under {t : TypeId} {b : KB} (h : (P.underlying t).bind kbOf = some b) : ∃ d, P.underlying t = some d ∧ kbOf d = some b ∧ isAggD d = false := by
 obtain ⟨d, h1, h2⟩ := Option.bind_eq_some_iff.1 h
 refine ⟨d, h1, h2, ?_⟩
 cases d <;> simp [kbOf] at h2 <;> rfl
theorem kb_check {t : TypeId} {b : KB} {c : AV} {v : Value} (h : (P.underlying t).bind kbOf = some b) (hv : keyValB b c = some v) (em : Bool) (n : Nat) (w : World) : (Instr.checkKey em (n + 1) t v).run P w = .ok () w := by
 obtain ⟨d, h1, h2, -⟩ := kb_under h
 unfold Instr.checkKey
 simp only [Sem.run_bind, r_underlying h1, Result.andThen_ok]
 cases d <;> simp [kbOf] at h2 <;> rfl
theorem kb_equal {t : TypeId} {b : KB} {c e : AV} {v u : Value} (h : (P.underlying t).bind kbOf = some b) (hv : keyValB b c = some v) (hu : keyValB b e = some u) (n : Nat) (w : World) :
  ∃ r : Bool, (Op.equalIn (n + 1) t v u).run P w = .ok r w ∧ (r = true ↔ v = u) := by
 obtain ⟨d, h1, h2, -⟩ := kb_under h
 cases b with
 | s =>
  cases c <;> simp only [keyValB, reduceCtorEq, sJ] at hv
  cases e <;> simp only [keyValB, reduceCtorEq, sJ] at hu
  subst hv; subst hu
  cases d <;> simp [kbOf] at h2
  rename_i s t'
  refine ⟨decide (s = t'), ?_, by simp only [decide_eq_true_eq]; exact ⟨fun h => by rw [h], bytes_inj⟩⟩
  simp only [Op.equalIn, Sem.run_bind, r_underlying h1, Result.andThen_ok, Sem.run_pure]
  rw [bytes_beq]
  congr 1
  by_cases hh : s = t' <;> simp [hh]
 | i j =>
  cases c <;> simp only [keyValB, reduceCtorEq] at hv
  cases e <;> simp only [keyValB, reduceCtorEq] at hu
  split at hv
  ·split at hu
   ·rename_i h3 h4
    simp only [sJ] at hv hu
    subst hv; subst hu; subst h3; subst h4
    cases d <;> simp [kbOf] at h2
    rename_i x1 k1 x2 kk
    exact ⟨x1 == x2, by simp only [Op.equalIn, Sem.run_bind, r_underlying h1, Result.andThen_ok, if_true, Sem.run_pure], by simp⟩
   ·cases hu
  ·cases hv
theorem drop_get {α : Type} {l : List α} {n : Nat} {a : α} {m : List α} (h : l.drop n = a :: m) : l[n]? = some a ∧ l.drop (n + 1) = m := by
 constructor
 ·have := congrArg (fun x => x[0]?) h
  simpa using this
 ·rw [← List.drop_drop, h]; rfl
theorem fields_check {em : Bool} {n : Nat} : ∀ {fs : List Field} {off : Nat} {l : List KB} {cs : List AV} {vs us : List Value} (w : World), kbFs P fs off = some l → keyVals l cs = some us → vs.drop off = us →
  (forIn (m := Sem) fs PUnit.unit fun f _ =>
   if f.name ≠ "_" then do
    let x ← part f.type vs.toArray f.offset
    Instr.checkKey em (n + 1) f.type x
    pure (ForInStep.yield PUnit.unit)
   else pure (ForInStep.yield PUnit.unit)).run P w = .ok PUnit.unit w
 | [], off, l, cs, vs, us, w, h, h2, h3 => by simp
 | f :: fs, off, l, cs, vs, us, w, h, h2, h3 => by
  unfold kbFs at h
  split at h
  ·rename_i b l' hc hb hl
   cases h
   cases cs with
   | nil => cases h2
   | cons c cs =>
    obtain ⟨v, us', rfl, q1, q2⟩ := keyVals_cons h2
    simp only [Bool.and_eq_true, decide_eq_true_eq] at hc
    have ho := Nat.eq_of_beq_eq_true hc.2
    subst ho
    obtain ⟨g1, g2⟩ := drop_get h3
    obtain ⟨d, k1, k2, k3⟩ := kb_under hb
    simp only [List.forIn_cons, Sem.run_bind, hc.1, ne_eq, not_false_eq_true, if_true, Result.andThen_ok, part_small k1 k3 g1, kb_check hb q1, Sem.run_pure]
    exact fields_check w hl q2 g2
  ·cases h
theorem fields_equal {n : Nat} : ∀ {fs : List Field} {off : Nat} {l : List KB} {cs es : List AV} {vs us vs' us' : List Value} (w : World), kbFs P fs off = some l → keyVals l cs = some vs' → keyVals l es = some us' → vs.drop off = vs' → us.drop off = us' →
  ∃ r : Bool, (Op.eqFields (n + 1) vs.toArray us.toArray fs).run P w = .ok r w ∧ (r = true ↔ vs' = us')
 | [], off, l, cs, es, vs, us, vs', us', w, h, h2, h3, _, _ => by
  simp only [kbFs, sJ] at h
  subst h
  cases cs with
  | nil =>
   cases es with
   | nil =>
    simp only [keyVals, sJ] at h2 h3
    subst h2; subst h3
    exact ⟨true, by simp [Op.eqFields], by simp⟩
   | cons e es => cases h3
  | cons c cs => cases h2
 | f :: fs, off, l, cs, es, vs, us, vs', us', w, h, h2, h3, h4, h5 => by
  unfold kbFs at h
  split at h
  ·rename_i b l' hc hb hl
   cases h
   cases cs with
   | nil => cases h2
   | cons c cs =>
    cases es with
    | nil => cases h3
    | cons e es =>
     obtain ⟨v, vs1, rfl, q1, q2⟩ := keyVals_cons h2
     obtain ⟨u, us1, rfl, q3, q4⟩ := keyVals_cons h3
     simp only [Bool.and_eq_true, decide_eq_true_eq] at hc
     have ho := Nat.eq_of_beq_eq_true hc.2
     subst ho
     obtain ⟨g1, g2⟩ := drop_get h4
     obtain ⟨g3, g4⟩ := drop_get h5
     obtain ⟨d, k1, k2, k3⟩ := kb_under hb
     obtain ⟨r, e1, e2⟩ := kb_equal hb q1 q3 n w
     obtain ⟨r', e3, e4⟩ := fields_equal (n := n) (vs := vs) (us := us) w hl q2 q4 g2 g4
     simp only [Op.eqFields, hc.1, ne_eq, not_false_eq_true, if_true, Sem.run_bind, part_small k1 k3 g1, part_small k1 k3 g3, e1, Result.andThen_ok, List.cons.injEq]
     cases r
     ·exact ⟨false, by simp, by simp; intro e; exact absurd (e2.2 e) (by simp)⟩
     ·refine ⟨r', by simpa using e3, ?_⟩
      rw [e4]
      simp [e2.1 rfl]
  ·cases h
theorem szOf_one {t : TypeId} (h : szOf P t = some 1) : ∃ i, P.info? t = some i ∧ i.size = 1 := by
 unfold szOf at h
 obtain ⟨i, h1, h2⟩ := Option.map_eq_some_iff.1 h
 exact ⟨i, h1, h2⟩
theorem items_check {em : Bool} {n : Nat} {e : TypeId} {b : KB} {i0 : TypeInfo} (hb : (P.underlying e).bind kbOf = some b) (hi : P.info? e = some i0) (hs : i0.size = 1) {vs : List Value} : ∀ (k off : Nat) {cs : List AV} {us : List Value} (w : World), keyVals (List.replicate k b) cs = some us → vs.drop off = us →
  (forIn (m := Sem) (List.range' off k) PUnit.unit fun i _ => do
   let z ← sizeOf e
   let x ← part e vs.toArray (i * z)
   Instr.checkKey em (n + 1) e x
   pure (ForInStep.yield PUnit.unit)).run P w = .ok PUnit.unit w
 | 0, off, cs, us, w, h2, h3 => by simp
 | k + 1, off, cs, us, w, h2, h3 => by
  rw [List.replicate_succ] at h2
  cases cs with
  | nil => cases h2
  | cons c cs =>
   obtain ⟨v, us', rfl, q1, q2⟩ := keyVals_cons h2
   obtain ⟨g1, g2⟩ := drop_get h3
   obtain ⟨d, k1, k2, k3⟩ := kb_under hb
   rw [List.range'_succ]
   have g1' : vs[off * 1]? = some v := by rw [Nat.mul_one]; exact g1
   simp only [List.forIn_cons, Sem.run_bind, r_sizeOf hi, hs, Result.andThen_ok, part_small k1 k3 g1', kb_check hb q1, Sem.run_pure]
   exact items_check hb hi hs k (off + 1) w q2 g2
theorem items_equal {n : Nat} {e : TypeId} {b : KB} (hb : (P.underlying e).bind kbOf = some b) {vs us : List Value} : ∀ (k off : Nat) {cs es : List AV} {vs' us' : List Value} (w : World), keyVals (List.replicate k b) cs = some vs' → keyVals (List.replicate k b) es = some us' → vs.drop off = vs' → us.drop off = us' →
  ∃ r : Bool, (Op.eqItems (n + 1) e 1 vs.toArray us.toArray (List.range' off k)).run P w = .ok r w ∧ (r = true ↔ vs' = us')
 | 0, off, cs, es, vs', us', w, h2, h3, _, _ => by
  cases cs with
  | nil =>
   cases es with
   | nil =>
    simp only [List.replicate_zero, keyVals, sJ] at h2 h3
    subst h2; subst h3
    exact ⟨true, by simp [Op.eqItems], by simp⟩
   | cons e es => cases h3
  | cons c cs => cases h2
 | k + 1, off, cs, es, vs', us', w, h2, h3, h4, h5 => by
  rw [List.replicate_succ] at h2 h3
  cases cs with
  | nil => cases h2
  | cons c cs =>
   cases es with
   | nil => cases h3
   | cons x es =>
    obtain ⟨v, vs1, rfl, q1, q2⟩ := keyVals_cons h2
    obtain ⟨u, us1, rfl, q3, q4⟩ := keyVals_cons h3
    obtain ⟨g1, g2⟩ := drop_get h4
    obtain ⟨g3, g4⟩ := drop_get h5
    obtain ⟨d, k1, k2, k3⟩ := kb_under hb
    obtain ⟨r, e1, e2⟩ := kb_equal hb q1 q3 n w
    obtain ⟨r', e3, e4⟩ := items_equal (n := n) hb (vs := vs) (us := us) k (off + 1) w q2 q4 g2 g4
    have g1' : vs[off * 1]? = some v := by rw [Nat.mul_one]; exact g1
    have g3' : us[off * 1]? = some u := by rw [Nat.mul_one]; exact g3
    rw [List.range'_succ]
    simp only [Op.eqItems, Sem.run_bind, part_small k1 k3 g1', part_small k1 k3 g3', e1, Result.andThen_ok, List.cons.injEq]
    cases r
    ·exact ⟨false, by simp, by simp; intro e; exact absurd (e2.2 e) (by simp)⟩
    ·refine ⟨r', by simpa using e3, ?_⟩
     rw [e4]
     simp [e2.1 rfl]
theorem r_checkKey {kd : KK} {kt : TypeId} {key : AV} {b : Value} (hd : kdT P kt = some kd) (hb : keyVal kd key = some b) (em : Bool) (w : World) : (Instr.checkKey em 10000 kt b).run P w = .ok () w := by
 unfold kdT at hd
 split at hd
 ·rename_i hu
  cases hd
  unfold Instr.checkKey
  simp only [Sem.run_bind, r_underlying hu, Result.andThen_ok]
  rfl
 ·rename_i k hu
  cases hd
  unfold Instr.checkKey
  simp only [Sem.run_bind, r_underlying hu, Result.andThen_ok]
  rfl
 ·rename_i fs hu
  split at hd
  ·obtain ⟨l, hl, rfl⟩ := Option.map_eq_some_iff.1 hd
   cases key <;> simp only [keyVal, reduceCtorEq] at hb
   obtain ⟨vs, h1, rfl⟩ := Option.map_eq_some_iff.1 hb
   rw [Instr.checkKey]
   simp only [Sem.run_bind, r_underlying hu, Result.andThen_ok]
   rw [← Array.forIn_toList]
   rw [fields_check (n := 9998) w hl h1 rfl]
   rfl
  ·cases hd
 ·rename_i n e hu
  split at hd
  ·rename_i b' hb' hs
   cases hd
   cases key <;> simp only [keyVal, reduceCtorEq] at hb
   obtain ⟨vs, h1, rfl⟩ := Option.map_eq_some_iff.1 hb
   obtain ⟨i0, hi, hs1⟩ := szOf_one hs
   rw [Instr.checkKey]
   simp only [Sem.run_bind, r_underlying hu, Result.andThen_ok]
   simp only [Std.Legacy.Range.forIn_eq_forIn_range', Std.Legacy.Range.size, Nat.sub_zero, Nat.add_one_sub_one, Nat.div_one]
   rw [items_check (n := 9998) hb' hi hs1 n 0 w h1 rfl]
   rfl
  ·cases hd
 ·cases hd
theorem r_equal {l : List KB} {kt : TypeId} {k key : AV} {a b : Value} (hd : kdT P kt = some (.g l)) (ha : keyVal (.g l) k = some a) (hb : keyVal (.g l) key = some b) (w : World) : ∃ r : Bool, (Op.equal kt a b).run P w = .ok r w ∧ (r = true ↔ a = b) := by
 cases k <;> simp only [keyVal, reduceCtorEq] at ha
 cases key <;> simp only [keyVal, reduceCtorEq] at hb
 obtain ⟨vs, h1, rfl⟩ := Option.map_eq_some_iff.1 ha
 obtain ⟨us, h2, rfl⟩ := Option.map_eq_some_iff.1 hb
 have hv : ∀ {x y : List Value}, (Value.agg x.toArray = Value.agg y.toArray) ↔ x = y := fun {x y} => ⟨fun h => by injection h with h; simpa using congrArg Array.toList h, fun h => by rw [h]⟩
 unfold kdT at hd
 split at hd
 ·cases hd
 ·cases hd
 ·rename_i fs hu
  split at hd
  ·rename_i hst
   obtain ⟨l', hl, e⟩ := Option.map_eq_some_iff.1 hd
   cases e
   have hf : P.fieldsOf kt = fs := by unfold Program.fieldsOf; rw [hu]
   obtain ⟨r, q1, q2⟩ := fields_equal (n := 9998) (vs := vs) (us := us) w hl h1 h2 rfl rfl
   refine ⟨r, ?_, by rw [q2, hv]⟩
   show (Op.equalIn (9999 + 1) kt _ _).run P w = _
   rw [run_equalIn_struct w 9999 kt _ _ (by rw [hf]; exact hu) hst, hf]
   exact q1
  ·cases hd
 ·rename_i n e hu
  split at hd
  ·rename_i b' hb' hs
   simp only [sJ, KK.g.injEq] at hd
   subst hd
   obtain ⟨i0, hi, hs1⟩ := szOf_one hs
   obtain ⟨r, q1, q2⟩ := items_equal (n := 9998) hb' (vs := vs) (us := us) n 0 w h1 h2 rfl rfl
   refine ⟨r, ?_, by rw [q2, hv]⟩
   show (Op.equalIn (9999 + 1) kt _ _).run P w = _
   have hc : P.cellsOf e = 1 := by
    unfold Program.cellsOf
    rw [hi]
    exact hs1
   rw [run_equalIn_array w 9999 _ _ hu hi, hc, List.range_eq_range']
   exact q1
  ·cases hd
 ·cases hd
theorem r_keyStays {kd : KK} {key : AV} {b : Value} (hb : keyVal kd key = some b) (w : World) : (Instr.keyThatStays b b).run P w = .ok b w := by
 have base : ∀ {m : Nat} {kb : KB} {c : AV} {v : Value}, keyValB kb c = some v → Instr.sameBits m v v = true := fun {m kb c v} h => by
  cases kb with
  | s =>
   cases c <;> simp only [keyValB, reduceCtorEq, sJ] at h
   subst h
   simp [Instr.sameBits, bytes_beq]
  | i j =>
   cases c <;> simp only [keyValB, reduceCtorEq] at h
   split at h
   ·cases h; simp [Instr.sameBits]
   ·cases h
 unfold Instr.keyThatStays
 have key : Instr.sameBits 10000 b b = true := by
  cases kd with
  | s =>
   cases key <;> simp only [keyVal, reduceCtorEq, sJ] at hb
   subst hb
   simp [Instr.sameBits, bytes_beq]
  | i j =>
   cases key <;> simp only [keyVal, reduceCtorEq] at hb
   split at hb
   ·cases hb; simp [Instr.sameBits]
   ·cases hb
  | g l =>
   cases key <;> simp only [keyVal, reduceCtorEq] at hb
   obtain ⟨vs, h1, rfl⟩ := Option.map_eq_some_iff.1 hb
   show Instr.sameBits (9999 + 1) _ _ = true
   unfold Instr.sameBits
   simp only [BEq.rfl, Bool.true_and]
   clear hb
   rename_i cs
   induction l generalizing cs vs with
   | nil => cases cs with
    | nil => simp only [keyVals, sJ] at h1; subst h1; rfl
    | cons c cs => cases h1
   | cons kb l ih =>
    cases cs with
    | nil => cases h1
    | cons c cs =>
     obtain ⟨v, us, rfl, q1, q2⟩ := keyVals_cons h1
     have := ih _ _ q2
     simp only [List.zip_cons_cons, List.all_cons, Bool.and_eq_true]
     exact ⟨base q1, this⟩
 rw [key]
 rfl
theorem reps_of_keys : ∀ {l : List KB} {cs : List AV} {vs : List Value} {o : Bool}, keyVals l cs = some vs → Reps μ ro w o cs vs
 | [], [], vs, o, h => by simp only [keyVals, sJ] at h; subst h; exact Reps.nil
 | kb :: l, c :: cs, vs, o, h => by
  obtain ⟨v, us, rfl, q1, q2⟩ := keyVals_cons h
  refine Reps.cons ?_ (reps_of_keys q2)
  cases kb with
  | s =>
   cases c <;> simp only [keyValB, reduceCtorEq, sJ] at q1
   subst q1
   exact .str (by simp)
  | i j =>
   cases c <;> simp only [keyValB, reduceCtorEq] at q1
   split at q1
   ·cases q1; exact .int
   ·cases q1
 | [], _ :: _, _, _, h => by cases h
 | _ :: _, [], _, _, h => by cases h
theorem keyVal_rep {kd : KK} {k : AV} {b : Value} {o : Bool} (h : keyVal kd k = some b) : Rep μ ro w o k b := by
 cases kd with
 | s =>
  cases k <;> simp only [keyVal, reduceCtorEq, sJ] at h
  subst h
  exact .str (by simp)
 | i j =>
  cases k <;> simp only [keyVal, reduceCtorEq] at h
  split at h
  ·cases h; exact .int
  ·cases h
 | g l =>
  cases k <;> simp only [keyVal, reduceCtorEq] at h
  obtain ⟨vs, h1, rfl⟩ := Option.map_eq_some_iff.1 h
  exact (reps_of_keys h1).agg
theorem reps_keys_eq : ∀ {l : List KB} {cs : List AV} {vs us : List Value} {o : Bool}, keyVals l cs = some vs → Reps μ ro w o cs us → us = vs
 | [], [], vs, us, o, h, hr => by
  simp only [keyVals, sJ] at h; subst h
  exact List.length_eq_zero_iff.1 (by simpa using hr.1)
 | kb :: l, c :: cs, vs, us, o, h, hr => by
  obtain ⟨v, vs', rfl, q1, q2⟩ := keyVals_cons h
  obtain ⟨u, us', rfl, r1, r2⟩ := hr.head
  rw [reps_keys_eq q2 r2]
  congr 1
  cases kb with
  | s =>
   cases c <;> simp only [keyValB, reduceCtorEq, sJ] at q1
   subst q1
   cases r1 with
   | str h => rw [← h]
  | i j =>
   cases c <;> simp only [keyValB, reduceCtorEq] at q1
   split at q1
   ·cases q1; cases r1; rfl
   ·cases q1
 | [], _ :: _, _, _, _, h, _ => by cases h
 | _ :: _, [], _, _, _, h, _ => by cases h
theorem rep_key {kd : KK} {key : AV} {b b' : Value} {o : Bool} (hr : Rep μ ro w o key b') (hb : keyVal kd key = some b) : b' = b := by
 cases kd with
 | s =>
  cases key <;> simp only [keyVal, reduceCtorEq] at hb
  simp only [sJ] at hb
  subst hb
  cases hr with
  | str h => rw [← h]
 | i j =>
  cases key <;> simp only [keyVal, reduceCtorEq] at hb
  split at hb
  ·simp only [sJ] at hb
   subst hb
   cases hr
   rfl
  ·cases hb
 | g l =>
  cases key <;> simp only [keyVal, reduceCtorEq] at hb
  obtain ⟨vs, h1, rfl⟩ := Option.map_eq_some_iff.1 hb
  obtain ⟨us, rfl, hus⟩ := hr.agg_inv
  rw [reps_keys_eq h1 hus]
end Go.Proofs.YtpadimnchmghpaaGreatDoor.Av
