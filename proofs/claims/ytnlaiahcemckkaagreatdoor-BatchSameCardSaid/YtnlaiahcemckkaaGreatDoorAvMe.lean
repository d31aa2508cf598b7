/- Keys of maps: strings, integers, structs and arrays of such. -/
import Derived.Test.YtnlaiahcemckkaaGreatDoorAvL
import Derived.DeepKeys
import Derived.WideKeyRuns
import Derived.Laws.Externs
set_option linter.unusedVariables false
set_option linter.unusedSimpArgs false
namespace Go.Proofs.YtnlaiahcemckkaaGreatDoor.Av
open Go.RowKit
variable {P : Program} {μ μ' : Nat → Option Loc} {ro ro' : Nat → Prop} {w w' : World}
/-- one key is another -/
def keyEqB : AV → AV → Bool
  | .str s, .str t => decide (s = t)
  | .int k a, .int j b => decide (k = j) && decide (a = b)
  | _, _ => false
def keyEqs : List AV → List AV → Bool
  | [], [] => true
  | a :: as, b :: bs => keyEqB a b && keyEqs as bs
  | _, _ => false
def keyEq : AV → AV → Bool
  | .str s, .str t => decide (s = t)
  | .int k a, .int j b => decide (k = j) && decide (a = b)
  | .agg as, .agg bs => keyEqs as bs
  | _, _ => false
def kbOf : TypeDesc → Option KB
  | .string => some .s
  | .int k => some (.i k)
  | _ => none
def kbFs (P : Program) : List Field → Nat → Option (List KB)
  | [], _ => some []
  | f :: fs, n =>
    match decide (f.name ≠ "_") && Nat.beq f.offset n, (P.underlying f.type).bind kbOf, kbFs P fs (n + 1) with
    | true, some b, some l => some (b :: l)
    | _, _, _ => none
/-- the kind of the keys of a type -/
def kdT (P : Program) (t : TypeId) : Option KK :=
  match P.underlying t with
  | some .string => some .s
  | some (.int k) => some (.i k)
  | some (.struct fs) => match P.stoodInHeld t with | false => (kbFs P fs.toList 0).map .g | true => none
  | some (.array n e) => match (P.underlying e).bind kbOf, szOf P e with | some b, some 1 => some (.g (List.replicate n b)) | _, _ => none
  | _ => none
def kbEq : KB → KB → Bool
  | .s, .s => true
  | .i j, .i k => decide (j = k)
  | _, _ => false
def kbsEq : List KB → List KB → Bool
  | [], [] => true
  | a :: as, b :: bs => kbEq a b && kbsEq as bs
  | _, _ => false
def kkEq : KK → KK → Bool
  | .s, .s => true
  | .i j, .i k => decide (j = k)
  | .g l, .g m => kbsEq l m
  | _, _ => false
theorem kbEq_eq {a b : KB} (h : kbEq a b = true) : a = b := by
  cases a <;> cases b <;> simp [kbEq] at h ⊢ <;> exact h
theorem kbsEq_eq : ∀ {a b : List KB}, kbsEq a b = true → a = b
  | [], [], _ => rfl
  | a :: as, b :: bs, h => by
    simp only [kbsEq, Bool.and_eq_true] at h
    rw [kbEq_eq h.1, kbsEq_eq h.2]
  | [], _ :: _, h => by cases h
  | _ :: _, [], h => by cases h
theorem kkEq_eq {a b : KK} (h : kkEq a b = true) : a = b := by
  cases a <;> cases b <;> simp [kkEq] at h ⊢ <;> first | exact h | exact kbsEq_eq h
theorem bytes_inj {s t : List UInt8} (h : Value.string ⟨s.toArray⟩ = Value.string ⟨t.toArray⟩) : s = t := by
  injection h with h
  injection h with h
  simpa using congrArg Array.toList h
theorem keyEqB_iff {kd : KB} {k key : AV} {a b : Value} (ha : keyValB kd k = some a) (hb : keyValB kd key = some b) : keyEqB k key = true ↔ a = b := by
  cases kd with
  | s =>
    cases k <;> simp only [keyValB, reduceCtorEq] at ha
    cases key <;> simp only [keyValB, reduceCtorEq] at hb
    simp only [Option.some.injEq] at ha hb
    subst ha; subst hb
    simp only [keyEqB, decide_eq_true_eq]
    exact ⟨fun h => by rw [h], bytes_inj⟩
  | i j =>
    cases k <;> simp only [keyValB, reduceCtorEq] at ha
    cases key <;> simp only [keyValB, reduceCtorEq] at hb
    split at ha
    · split at hb
      · rename_i h1 h2
        simp only [Option.some.injEq] at ha hb
        subst ha; subst hb; subst h1; subst h2
        simp [keyEqB]
      · cases hb
    · cases ha
theorem keyVals_cons {b : KB} {l : List KB} {c : AV} {cs : List AV} {vs : List Value} (h : keyVals (b :: l) (c :: cs) = some vs) : ∃ v us, vs = v :: us ∧ keyValB b c = some v ∧ keyVals l cs = some us := by
  unfold keyVals at h
  split at h
  · rename_i v us h1 h2
    cases h
    exact ⟨v, us, rfl, h1, h2⟩
  · cases h
theorem keyEqs_iff : ∀ {l : List KB} {as bs : List AV} {vs us : List Value}, keyVals l as = some vs → keyVals l bs = some us → (keyEqs as bs = true ↔ vs = us)
  | [], [], [], vs, us, ha, hb => by
    simp only [keyVals, Option.some.injEq] at ha hb
    subst ha; subst hb
    simp [keyEqs]
  | b :: l, x :: xs, y :: ys, vs, us, ha, hb => by
    obtain ⟨v, vs', rfl, h1, h2⟩ := keyVals_cons ha
    obtain ⟨u, us', rfl, h3, h4⟩ := keyVals_cons hb
    simp only [keyEqs, Bool.and_eq_true, List.cons.injEq]
    rw [keyEqB_iff h1 h3, keyEqs_iff h2 h4]
  | [], _ :: _, _, _, _, ha, _ => by cases ha
  | [], [], _ :: _, _, _, _, hb => by cases hb
  | _ :: _, [], _, _, _, ha, _ => by cases ha
  | _ :: _, _ :: _, [], _, _, _, hb => by cases hb
theorem keyEq_iff {kd : KK} {k key : AV} {a b : Value} (ha : keyVal kd k = some a) (hb : keyVal kd key = some b) : keyEq k key = true ↔ a = b := by
  cases kd with
  | s =>
    cases k <;> simp only [keyVal, reduceCtorEq] at ha
    cases key <;> simp only [keyVal, reduceCtorEq] at hb
    simp only [Option.some.injEq] at ha hb
    subst ha; subst hb
    simp only [keyEq, decide_eq_true_eq]
    exact ⟨fun h => by rw [h], bytes_inj⟩
  | i j =>
    cases k <;> simp only [keyVal, reduceCtorEq] at ha
    cases key <;> simp only [keyVal, reduceCtorEq] at hb
    split at ha
    · split at hb
      · rename_i h1 h2
        simp only [Option.some.injEq] at ha hb
        subst ha; subst hb; subst h1; subst h2
        simp [keyEq]
      · cases hb
    · cases ha
  | g l =>
    cases k <;> simp only [keyVal, reduceCtorEq] at ha
    cases key <;> simp only [keyVal, reduceCtorEq] at hb
    obtain ⟨vs, h1, rfl⟩ := Option.map_eq_some_iff.1 ha
    obtain ⟨us, h2, rfl⟩ := Option.map_eq_some_iff.1 hb
    show keyEqs _ _ = true ↔ _
    rw [keyEqs_iff h1 h2]
    constructor
    · intro h; rw [h]
    · intro h
      injection h with h
      simpa using congrArg Array.toList h
theorem keyEqB_same {k key : AV} (h : keyEqB k key = true) : k = key := by
  unfold keyEqB at h
  split at h
  · rw [of_decide_eq_true h]
  · simp only [Bool.and_eq_true, decide_eq_true_eq] at h; rw [h.1, h.2]
  · cases h
theorem keyEqs_same : ∀ {as bs : List AV}, keyEqs as bs = true → as = bs
  | [], [], _ => rfl
  | a :: as, b :: bs, h => by
    simp only [keyEqs, Bool.and_eq_true] at h
    rw [keyEqB_same h.1, keyEqs_same h.2]
  | [], _ :: _, h => by cases h
  | _ :: _, [], h => by cases h
theorem keyEq_same {k key : AV} (h : keyEq k key = true) : k = key := by
  unfold keyEq at h
  split at h
  · rw [of_decide_eq_true h]
  · simp only [Bool.and_eq_true, decide_eq_true_eq] at h; rw [h.1, h.2]
  · rw [keyEqs_same h]
  · cases h
theorem keyEq_refl {kd : KK} {k : AV} {a : Value} (h : keyVal kd k = some a) : keyEq k k = true := (keyEq_iff h h).2 rfl
/-! ### what the model does with keys -/
theorem part_small {t : TypeId} {d : TypeDesc} {vs : List Value} {i : Nat} {v : Value} (hu : P.underlying t = some d) (ha : isAggD d = false) (hv : vs[i]? = some v) (w : World) : (part t vs.toArray i).run P w = .ok v w := by
  simp only [part, Sem.run_bind, r_isAgg hu, ha, Result.andThen_ok]
  simp [hv]
theorem kb_under {t : TypeId} {b : KB} (h : (P.underlying t).bind kbOf = some b) : ∃ d, P.underlying t = some d ∧ kbOf d = some b ∧ isAggD d = false := by
  obtain ⟨d, h1, h2⟩ := Option.bind_eq_some_iff.1 h
  refine ⟨d, h1, h2, ?_⟩
  cases d <;> simp [kbOf] at h2 <;> rfl
theorem kb_check {t : TypeId} {b : KB} {c : AV} {v : Value} (h : (P.underlying t).bind kbOf = some b) (hv : keyValB b c = some v) (em : Bool) (n : Nat) (w : World) : (Instr.checkKey em (n + 1) t v).run P w = .ok () w := by
  obtain ⟨d, h1, h2, -⟩ := kb_under h
  unfold Instr.checkKey
  simp only [Sem.run_bind, r_underlying h1, Result.andThen_ok]
  cases d <;> simp [kbOf] at h2 <;> rfl
theorem kb_equal {t : TypeId} {b : KB} {c e : AV} {v u : Value} (h : (P.underlying t).bind kbOf = some b) (hv : keyValB b c = some v) (hu : keyValB b e = some u) (n : Nat) (w : World) :
    ∃ r : Bool, (Op.equalIn (n + 1) t v u).run P w = .ok r w ∧ (r = true ↔ v = u) := by
  obtain ⟨d, h1, h2, -⟩ := kb_under h
  cases b with
  | s =>
    cases c <;> simp only [keyValB, reduceCtorEq, Option.some.injEq] at hv
    cases e <;> simp only [keyValB, reduceCtorEq, Option.some.injEq] at hu
    subst hv; subst hu
    cases d <;> simp [kbOf] at h2
    rename_i s t'
    refine ⟨decide (s = t'), ?_, by simp only [decide_eq_true_eq]; exact ⟨fun h => by rw [h], bytes_inj⟩⟩
    simp only [Op.equalIn, Sem.run_bind, r_underlying h1, Result.andThen_ok, Sem.run_pure]
    rw [bytes_beq]
    congr 1
    by_cases hh : s = t' <;> simp [hh]
  | i j =>
    cases c <;> simp only [keyValB, reduceCtorEq] at hv
    cases e <;> simp only [keyValB, reduceCtorEq] at hu
    split at hv
    · split at hu
      · rename_i h3 h4
        simp only [Option.some.injEq] at hv hu
        subst hv; subst hu; subst h3; subst h4
        cases d <;> simp [kbOf] at h2
        rename_i x1 k1 x2 kk
        exact ⟨x1 == x2, by simp only [Op.equalIn, Sem.run_bind, r_underlying h1, Result.andThen_ok, if_true, Sem.run_pure], by simp⟩
      · cases hu
    · cases hv
theorem drop_get {α : Type} {l : List α} {n : Nat} {a : α} {m : List α} (h : l.drop n = a :: m) : l[n]? = some a ∧ l.drop (n + 1) = m := by
  constructor
  · have := congrArg (fun x => x[0]?) h
    simpa using this
  · rw [← List.drop_drop, h]; rfl
theorem fields_check {em : Bool} {n : Nat} : ∀ {fs : List Field} {off : Nat} {l : List KB} {cs : List AV} {vs us : List Value} (w : World), kbFs P fs off = some l → keyVals l cs = some us → vs.drop off = us →
    (forIn (m := Sem) fs PUnit.unit fun f _ =>
      if f.name ≠ "_" then do
        let x ← part f.type vs.toArray f.offset
        Instr.checkKey em (n + 1) f.type x
        pure (ForInStep.yield PUnit.unit)
      else pure (ForInStep.yield PUnit.unit)).run P w = .ok PUnit.unit w
  | [], off, l, cs, vs, us, w, h, h2, h3 => by simp
  | f :: fs, off, l, cs, vs, us, w, h, h2, h3 => by
    unfold kbFs at h
    split at h
    · rename_i b l' hc hb hl
      cases h
      cases cs with
      | nil => cases h2
      | cons c cs =>
        obtain ⟨v, us', rfl, q1, q2⟩ := keyVals_cons h2
        simp only [Bool.and_eq_true, decide_eq_true_eq] at hc
        have ho := Nat.eq_of_beq_eq_true hc.2
        subst ho
        obtain ⟨g1, g2⟩ := drop_get h3
        obtain ⟨d, k1, k2, k3⟩ := kb_under hb
        simp only [List.forIn_cons, Sem.run_bind, hc.1, ne_eq, not_false_eq_true, if_true, Result.andThen_ok, part_small k1 k3 g1, kb_check hb q1, Sem.run_pure]
        exact fields_check w hl q2 g2
    · cases h
theorem fields_equal {n : Nat} : ∀ {fs : List Field} {off : Nat} {l : List KB} {cs es : List AV} {vs us vs' us' : List Value} (w : World), kbFs P fs off = some l → keyVals l cs = some vs' → keyVals l es = some us' → vs.drop off = vs' → us.drop off = us' →
    ∃ r : Bool, (Op.eqFields (n + 1) vs.toArray us.toArray fs).run P w = .ok r w ∧ (r = true ↔ vs' = us')
  | [], off, l, cs, es, vs, us, vs', us', w, h, h2, h3, _, _ => by
    simp only [kbFs, Option.some.injEq] at h
    subst h
    cases cs with
    | nil =>
      cases es with
      | nil =>
        simp only [keyVals, Option.some.injEq] at h2 h3
        subst h2; subst h3
        exact ⟨true, by simp [Op.eqFields], by simp⟩
      | cons e es => cases h3
    | cons c cs => cases h2
  | f :: fs, off, l, cs, es, vs, us, vs', us', w, h, h2, h3, h4, h5 => by
    unfold kbFs at h
    split at h
    · rename_i b l' hc hb hl
      cases h
      cases cs with
      | nil => cases h2
      | cons c cs =>
        cases es with
        | nil => cases h3
        | cons e es =>
          obtain ⟨v, vs1, rfl, q1, q2⟩ := keyVals_cons h2
          obtain ⟨u, us1, rfl, q3, q4⟩ := keyVals_cons h3
          simp only [Bool.and_eq_true, decide_eq_true_eq] at hc
          have ho := Nat.eq_of_beq_eq_true hc.2
          subst ho
          obtain ⟨g1, g2⟩ := drop_get h4
          obtain ⟨g3, g4⟩ := drop_get h5
          obtain ⟨d, k1, k2, k3⟩ := kb_under hb
          obtain ⟨r, e1, e2⟩ := kb_equal hb q1 q3 n w
          obtain ⟨r', e3, e4⟩ := fields_equal (n := n) (vs := vs) (us := us) w hl q2 q4 g2 g4
          simp only [Op.eqFields, hc.1, ne_eq, not_false_eq_true, if_true, Sem.run_bind, part_small k1 k3 g1, part_small k1 k3 g3, e1, Result.andThen_ok, List.cons.injEq]
          cases r
          · exact ⟨false, by simp, by simp; intro e; exact absurd (e2.2 e) (by simp)⟩
          · refine ⟨r', by simpa using e3, ?_⟩
            rw [e4]
            simp [e2.1 rfl]
    · cases h
theorem szOf_one {t : TypeId} (h : szOf P t = some 1) : ∃ i, P.info? t = some i ∧ i.size = 1 := by
  unfold szOf at h
  obtain ⟨i, h1, h2⟩ := Option.map_eq_some_iff.1 h
  exact ⟨i, h1, h2⟩
theorem items_check {em : Bool} {n : Nat} {e : TypeId} {b : KB} {i0 : TypeInfo} (hb : (P.underlying e).bind kbOf = some b) (hi : P.info? e = some i0) (hs : i0.size = 1) {vs : List Value} : ∀ (k off : Nat) {cs : List AV} {us : List Value} (w : World), keyVals (List.replicate k b) cs = some us → vs.drop off = us →
    (forIn (m := Sem) (List.range' off k) PUnit.unit fun i _ => do
      let z ← sizeOf e
      let x ← part e vs.toArray (i * z)
      Instr.checkKey em (n + 1) e x
      pure (ForInStep.yield PUnit.unit)).run P w = .ok PUnit.unit w
  | 0, off, cs, us, w, h2, h3 => by simp
  | k + 1, off, cs, us, w, h2, h3 => by
    rw [List.replicate_succ] at h2
    cases cs with
    | nil => cases h2
    | cons c cs =>
      obtain ⟨v, us', rfl, q1, q2⟩ := keyVals_cons h2
      obtain ⟨g1, g2⟩ := drop_get h3
      obtain ⟨d, k1, k2, k3⟩ := kb_under hb
      rw [List.range'_succ]
      have g1' : vs[off * 1]? = some v := by rw [Nat.mul_one]; exact g1
      simp only [List.forIn_cons, Sem.run_bind, r_sizeOf hi, hs, Result.andThen_ok, part_small k1 k3 g1', kb_check hb q1, Sem.run_pure]
      exact items_check hb hi hs k (off + 1) w q2 g2
theorem items_equal {n : Nat} {e : TypeId} {b : KB} (hb : (P.underlying e).bind kbOf = some b) {vs us : List Value} : ∀ (k off : Nat) {cs es : List AV} {vs' us' : List Value} (w : World), keyVals (List.replicate k b) cs = some vs' → keyVals (List.replicate k b) es = some us' → vs.drop off = vs' → us.drop off = us' →
    ∃ r : Bool, (Op.eqItems (n + 1) e 1 vs.toArray us.toArray (List.range' off k)).run P w = .ok r w ∧ (r = true ↔ vs' = us')
  | 0, off, cs, es, vs', us', w, h2, h3, _, _ => by
    cases cs with
    | nil =>
      cases es with
      | nil =>
        simp only [List.replicate_zero, keyVals, Option.some.injEq] at h2 h3
        subst h2; subst h3
        exact ⟨true, by simp [Op.eqItems], by simp⟩
      | cons e es => cases h3
    | cons c cs => cases h2
  | k + 1, off, cs, es, vs', us', w, h2, h3, h4, h5 => by
    rw [List.replicate_succ] at h2 h3
    cases cs with
    | nil => cases h2
    | cons c cs =>
      cases es with
      | nil => cases h3
      | cons x es =>
        obtain ⟨v, vs1, rfl, q1, q2⟩ := keyVals_cons h2
        obtain ⟨u, us1, rfl, q3, q4⟩ := keyVals_cons h3
        obtain ⟨g1, g2⟩ := drop_get h4
        obtain ⟨g3, g4⟩ := drop_get h5
        obtain ⟨d, k1, k2, k3⟩ := kb_under hb
        obtain ⟨r, e1, e2⟩ := kb_equal hb q1 q3 n w
        obtain ⟨r', e3, e4⟩ := items_equal (n := n) hb (vs := vs) (us := us) k (off + 1) w q2 q4 g2 g4
        have g1' : vs[off * 1]? = some v := by rw [Nat.mul_one]; exact g1
        have g3' : us[off * 1]? = some u := by rw [Nat.mul_one]; exact g3
        rw [List.range'_succ]
        simp only [Op.eqItems, Sem.run_bind, part_small k1 k3 g1', part_small k1 k3 g3', e1, Result.andThen_ok, List.cons.injEq]
        cases r
        · exact ⟨false, by simp, by simp; intro e; exact absurd (e2.2 e) (by simp)⟩
        · refine ⟨r', by simpa using e3, ?_⟩
          rw [e4]
          simp [e2.1 rfl]
/-- a key may be asked for -/
theorem r_checkKey {kd : KK} {kt : TypeId} {key : AV} {b : Value} (hd : kdT P kt = some kd) (hb : keyVal kd key = some b) (em : Bool) (w : World) : (Instr.checkKey em 10000 kt b).run P w = .ok () w := by
  unfold kdT at hd
  split at hd
  · rename_i hu
    cases hd
    unfold Instr.checkKey
    simp only [Sem.run_bind, r_underlying hu, Result.andThen_ok]
    rfl
  · rename_i k hu
    cases hd
    unfold Instr.checkKey
    simp only [Sem.run_bind, r_underlying hu, Result.andThen_ok]
    rfl
  · rename_i fs hu
    split at hd
    · obtain ⟨l, hl, rfl⟩ := Option.map_eq_some_iff.1 hd
      cases key <;> simp only [keyVal, reduceCtorEq] at hb
      obtain ⟨vs, h1, rfl⟩ := Option.map_eq_some_iff.1 hb
      rw [Instr.checkKey]
      simp only [Sem.run_bind, r_underlying hu, Result.andThen_ok]
      rw [← Array.forIn_toList]
      rw [fields_check (n := 9998) w hl h1 rfl]
      rfl
    · cases hd
  · rename_i n e hu
    split at hd
    · rename_i b' hb' hs
      cases hd
      cases key <;> simp only [keyVal, reduceCtorEq] at hb
      obtain ⟨vs, h1, rfl⟩ := Option.map_eq_some_iff.1 hb
      obtain ⟨i0, hi, hs1⟩ := szOf_one hs
      rw [Instr.checkKey]
      simp only [Sem.run_bind, r_underlying hu, Result.andThen_ok]
      simp only [Std.Legacy.Range.forIn_eq_forIn_range', Std.Legacy.Range.size, Nat.sub_zero, Nat.add_one_sub_one, Nat.div_one]
      rw [items_check (n := 9998) hb' hi hs1 n 0 w h1 rfl]
      rfl
    · cases hd
  · cases hd
theorem r_equal {l : List KB} {kt : TypeId} {k key : AV} {a b : Value} (hd : kdT P kt = some (.g l)) (ha : keyVal (.g l) k = some a) (hb : keyVal (.g l) key = some b) (w : World) : ∃ r : Bool, (Op.equal kt a b).run P w = .ok r w ∧ (r = true ↔ a = b) := by
  cases k <;> simp only [keyVal, reduceCtorEq] at ha
  cases key <;> simp only [keyVal, reduceCtorEq] at hb
  obtain ⟨vs, h1, rfl⟩ := Option.map_eq_some_iff.1 ha
  obtain ⟨us, h2, rfl⟩ := Option.map_eq_some_iff.1 hb
  have hv : ∀ {x y : List Value}, (Value.agg x.toArray = Value.agg y.toArray) ↔ x = y := fun {x y} => ⟨fun h => by injection h with h; simpa using congrArg Array.toList h, fun h => by rw [h]⟩
  unfold kdT at hd
  split at hd
  · cases hd
  · cases hd
  · rename_i fs hu
    split at hd
    · rename_i hst
      obtain ⟨l', hl, e⟩ := Option.map_eq_some_iff.1 hd
      cases e
      have hf : P.fieldsOf kt = fs := by unfold Program.fieldsOf; rw [hu]
      obtain ⟨r, q1, q2⟩ := fields_equal (n := 9998) (vs := vs) (us := us) w hl h1 h2 rfl rfl
      refine ⟨r, ?_, by rw [q2, hv]⟩
      show (Op.equalIn (9999 + 1) kt _ _).run P w = _
      rw [run_equalIn_struct w 9999 kt _ _ (by rw [hf]; exact hu) hst, hf]
      exact q1
    · cases hd
  · rename_i n e hu
    split at hd
    · rename_i b' hb' hs
      simp only [Option.some.injEq, KK.g.injEq] at hd
      subst hd
      obtain ⟨i0, hi, hs1⟩ := szOf_one hs
      obtain ⟨r, q1, q2⟩ := items_equal (n := 9998) hb' (vs := vs) (us := us) n 0 w h1 h2 rfl rfl
      refine ⟨r, ?_, by rw [q2, hv]⟩
      show (Op.equalIn (9999 + 1) kt _ _).run P w = _
      have hc : P.cellsOf e = 1 := by
        unfold Program.cellsOf
        rw [hi]
        exact hs1
      rw [run_equalIn_array w 9999 _ _ hu hi, hc, List.range_eq_range']
      exact q1
    · cases hd
  · cases hd
/-- a key lies as it is -/
theorem r_keyStays {kd : KK} {key : AV} {b : Value} (hb : keyVal kd key = some b) (w : World) : (Instr.keyThatStays b b).run P w = .ok b w := by
  have base : ∀ {m : Nat} {kb : KB} {c : AV} {v : Value}, keyValB kb c = some v → Instr.sameBits m v v = true := fun {m kb c v} h => by
    cases kb with
    | s =>
      cases c <;> simp only [keyValB, reduceCtorEq, Option.some.injEq] at h
      subst h
      simp [Instr.sameBits, bytes_beq]
    | i j =>
      cases c <;> simp only [keyValB, reduceCtorEq] at h
      split at h
      · cases h; simp [Instr.sameBits]
      · cases h
  unfold Instr.keyThatStays
  have key : Instr.sameBits 10000 b b = true := by
    cases kd with
    | s =>
      cases key <;> simp only [keyVal, reduceCtorEq, Option.some.injEq] at hb
      subst hb
      simp [Instr.sameBits, bytes_beq]
    | i j =>
      cases key <;> simp only [keyVal, reduceCtorEq] at hb
      split at hb
      · cases hb; simp [Instr.sameBits]
      · cases hb
    | g l =>
      cases key <;> simp only [keyVal, reduceCtorEq] at hb
      obtain ⟨vs, h1, rfl⟩ := Option.map_eq_some_iff.1 hb
      show Instr.sameBits (9999 + 1) _ _ = true
      unfold Instr.sameBits
      simp only [BEq.rfl, Bool.true_and]
      clear hb
      rename_i cs
      induction l generalizing cs vs with
      | nil => cases cs with
        | nil => simp only [keyVals, Option.some.injEq] at h1; subst h1; rfl
        | cons c cs => cases h1
      | cons kb l ih =>
        cases cs with
        | nil => cases h1
        | cons c cs =>
          obtain ⟨v, us, rfl, q1, q2⟩ := keyVals_cons h1
          have := ih _ _ q2
          simp only [List.zip_cons_cons, List.all_cons, Bool.and_eq_true]
          exact ⟨base q1, this⟩
  rw [key]
  rfl
theorem reps_of_keys : ∀ {l : List KB} {cs : List AV} {vs : List Value} {o : Bool}, keyVals l cs = some vs → Reps μ ro w o cs vs
  | [], [], vs, o, h => by simp only [keyVals, Option.some.injEq] at h; subst h; exact Reps.nil
  | kb :: l, c :: cs, vs, o, h => by
    obtain ⟨v, us, rfl, q1, q2⟩ := keyVals_cons h
    refine Reps.cons ?_ (reps_of_keys q2)
    cases kb with
    | s =>
      cases c <;> simp only [keyValB, reduceCtorEq, Option.some.injEq] at q1
      subst q1
      exact .str (by simp)
    | i j =>
      cases c <;> simp only [keyValB, reduceCtorEq] at q1
      split at q1
      · cases q1; exact .int
      · cases q1
  | [], _ :: _, _, _, h => by cases h
  | _ :: _, [], _, _, h => by cases h
theorem keyVal_rep {kd : KK} {k : AV} {b : Value} {o : Bool} (h : keyVal kd k = some b) : Rep μ ro w o k b := by
  cases kd with
  | s =>
    cases k <;> simp only [keyVal, reduceCtorEq, Option.some.injEq] at h
    subst h
    exact .str (by simp)
  | i j =>
    cases k <;> simp only [keyVal, reduceCtorEq] at h
    split at h
    · cases h; exact .int
    · cases h
  | g l =>
    cases k <;> simp only [keyVal, reduceCtorEq] at h
    obtain ⟨vs, h1, rfl⟩ := Option.map_eq_some_iff.1 h
    exact (reps_of_keys h1).agg
theorem reps_keys_eq : ∀ {l : List KB} {cs : List AV} {vs us : List Value} {o : Bool}, keyVals l cs = some vs → Reps μ ro w o cs us → us = vs
  | [], [], vs, us, o, h, hr => by
    simp only [keyVals, Option.some.injEq] at h; subst h
    exact List.length_eq_zero_iff.1 (by simpa using hr.1)
  | kb :: l, c :: cs, vs, us, o, h, hr => by
    obtain ⟨v, vs', rfl, q1, q2⟩ := keyVals_cons h
    obtain ⟨u, us', rfl, r1, r2⟩ := hr.head
    rw [reps_keys_eq q2 r2]
    congr 1
    cases kb with
    | s =>
      cases c <;> simp only [keyValB, reduceCtorEq, Option.some.injEq] at q1
      subst q1
      cases r1 with
      | str h => rw [← h]
    | i j =>
      cases c <;> simp only [keyValB, reduceCtorEq] at q1
      split at q1
      · cases q1; cases r1; rfl
      · cases q1
  | [], _ :: _, _, _, _, h, _ => by cases h
  | _ :: _, [], _, _, _, h, _ => by cases h
theorem rep_key {kd : KK} {key : AV} {b b' : Value} {o : Bool} (hr : Rep μ ro w o key b') (hb : keyVal kd key = some b) : b' = b := by
  cases kd with
  | s =>
    cases key <;> simp only [keyVal, reduceCtorEq] at hb
    simp only [Option.some.injEq] at hb
    subst hb
    cases hr with
    | str h => rw [← h]
  | i j =>
    cases key <;> simp only [keyVal, reduceCtorEq] at hb
    split at hb
    · simp only [Option.some.injEq] at hb
      subst hb
      cases hr
      rfl
    · cases hb
  | g l =>
    cases key <;> simp only [keyVal, reduceCtorEq] at hb
    obtain ⟨vs, h1, rfl⟩ := Option.map_eq_some_iff.1 hb
    obtain ⟨us, rfl, hus⟩ := hr.agg_inv
    rw [reps_keys_eq h1 hus]
end Go.Proofs.YtnlaiahcemckkaaGreatDoor.Av
/- Maps: made, looked into, written. -/
set_option linter.unusedVariables false
set_option linter.unusedSimpArgs false
namespace Go.Proofs.YtnlaiahcemckkaaGreatDoor.Av
open Go.RowKit
variable {P : Program} {μ μ' : Nat → Option Loc} {ro ro' : Nat → Prop} {w w' : World}
def lookE : List (AV × AV) → AV → Option AV
  | [], _ => none
  | (k, v) :: es, key => match keyEq k key with | true => some v | false => lookE es key
/-- an entry laid: where its key is, or behind all -/
def setE : List (AV × AV) → AV → AV → List (AV × AV)
  | [], key, x => [(key, x)]
  | (k, v) :: es, key, x => match keyEq k key with | true => (k, x) :: es | false => (k, v) :: setE es key x
/-! ### what is found -/
theorem look_some {kd : KK} {key : AV} {b : Value} (hb : keyVal kd key = some b) : ∀ {es : List (AV × AV)} {p : List MapEntry} {v : AV}, Ents kd μ ro w es p → lookE es key = some v → ∃ m ∈ p, m.key = b ∧ Rep μ ro w false v m.val
  | [], [], v, _, h => by cases h
  | (k, x) :: es, m :: p, v, .cons hk hv he, h => by
    unfold lookE at h
    split at h
    · rename_i hq
      cases h
      exact ⟨m, by simp, (keyEq_iff hk hb).1 hq, hv⟩
    · obtain ⟨m', h1, h2⟩ := look_some hb he h
      exact ⟨m', by simp [h1], h2⟩
theorem look_none {kd : KK} {key : AV} {b : Value} (hb : keyVal kd key = some b) : ∀ {es : List (AV × AV)} {p : List MapEntry}, Ents kd μ ro w es p → lookE es key = none → ∀ m ∈ p, m.key ≠ b
  | [], [], _, _, m, hm => by cases hm
  | (k, x) :: es, m :: p, .cons hk hv he, h, m', hm => by
    unfold lookE at h
    split at h
    · cases h
    · rename_i hq
      rcases List.mem_cons.1 hm with rfl | hm
      · intro e
        rw [(keyEq_iff hk hb).2 e] at hq
        cases hq
      · exact look_none hb he h m' hm
/-- the first entry of a key, and its place -/
noncomputable def findIx (b : Value) : List MapEntry → Nat → Option (Nat × Value)
  | [], _ => none
  | m :: ms, i => open Classical in if m.key = b then some (i, m.val) else findIx b ms (i + 1)
def kdOf : TypeDesc → Option KK
  | .string => some .s
  | .int k => some (.i k)
  | _ => none
theorem same_now {kd : KK} {d : TypeDesc} {a c : Value} {k key : AV} (hd : kdOf d = some kd) (ha : keyVal kd key = some a) (hc : keyVal kd k = some c) : Instr.sameNow d a c = some (open Classical in decide (c = a)) := by
  have hiff := keyEq_iff hc ha
  cases kd with
  | s =>
    cases d <;> simp only [kdOf, reduceCtorEq, Option.some.injEq] at hd
    cases k <;> simp only [keyVal, reduceCtorEq] at hc
    cases key <;> simp only [keyVal, reduceCtorEq] at ha
    simp only [Option.some.injEq] at ha hc
    subst ha; subst hc
    rename_i s t
    simp only [Instr.sameNow]
    have e : ((⟨t.toArray⟩ : ByteArray) == ⟨s.toArray⟩) = decide (s = t) := by
      rw [bytes_beq]
      by_cases h : s = t
      · subst h; simp
      · have h2 : ¬ t = s := fun q => h q.symm
        simp [h, h2]
    rw [e]
    congr 1
    by_cases h : s = t
    · simp [h]
    · have : ¬ (Value.string ⟨s.toArray⟩ = Value.string ⟨t.toArray⟩) := fun q => h (of_decide_eq_true (hiff.2 q))
      simp [h, this]
  | i j =>
    cases d <;> simp only [kdOf, reduceCtorEq, Option.some.injEq, KK.i.injEq] at hd
    cases k <;> simp only [keyVal, reduceCtorEq] at hc
    cases key <;> simp only [keyVal, reduceCtorEq] at ha
    split at ha
    · split at hc
      · rename_i h1 h2
        simp only [Option.some.injEq] at ha hc
        subst ha; subst hc; subst h1; subst h2
        rename_i m n
        simp only [Instr.sameNow, if_true]
        congr 1
        by_cases h : m = n
        · subst h; simp
        · have h2 : ¬ n = m := fun q => h q.symm
          simp [h, h2]
      · cases hc
    · cases ha
  | g l => cases d <;> simp [kdOf] at hd
theorem find_now {kd : KK} {d : TypeDesc} {key : AV} {b : Value} (hd : kdOf d = some kd) (hb : keyVal kd key = some b) : ∀ (ms : List MapEntry) (i : Nat), (∀ m ∈ ms, ∃ k, keyVal kd k = some m.key) → Instr.findNow d b ms i = some (findIx b ms i)
  | [], i, _ => rfl
  | m :: ms, i, h => by
    obtain ⟨k, hk⟩ := h m (by simp)
    have hs := same_now hd hb hk
    unfold Instr.findNow findIx
    rw [hs]
    by_cases e : m.key = b
    · simp [e]
    · simp only [e, decide_false, if_false]
      exact find_now hd hb ms (i + 1) (fun m hm => h m (by simp [hm]))
theorem findIx_some {b : Value} : ∀ {ms : List MapEntry} {i j : Nat} {x : Value}, findIx b ms i = some (j, x) → i ≤ j ∧ ∃ m, ms[j - i]? = some m ∧ m.key = b ∧ x = m.val
  | [], i, j, x, h => by cases h
  | m :: ms, i, j, x, h => by
    unfold findIx at h
    split at h
    · rename_i e
      simp only [Option.some.injEq, Prod.mk.injEq] at h
      obtain ⟨rfl, rfl⟩ := h
      exact ⟨Nat.le_refl _, m, by simp, e, rfl⟩
    · obtain ⟨h1, m', h2, h3⟩ := findIx_some h
      refine ⟨by omega, m', ?_, h3⟩
      rw [show j - i = (j - (i + 1)) + 1 by omega]
      simpa using h2
theorem findIx_none {b : Value} : ∀ {ms : List MapEntry} {i : Nat}, findIx b ms i = none → ∀ m ∈ ms, m.key ≠ b
  | [], i, _, m, hm => by cases hm
  | m :: ms, i, h, m', hm => by
    unfold findIx at h
    split at h
    · cases h
    · rename_i e
      rcases List.mem_cons.1 hm with rfl | hm
      · exact e
      · exact findIx_none h m' hm
theorem Ents.keys {kd : KK} : ∀ {es : List (AV × AV)} {p : List MapEntry}, Ents kd μ ro w es p → ∀ m ∈ p, ∃ e ∈ es, keyVal kd e.1 = some m.key
  | _, _, .nil, m, hm => by cases hm
  | _, _, .cons hk hv he, m, hm => by
    rcases List.mem_cons.1 hm with rfl | hm
    · exact ⟨_, List.mem_cons_self .., hk⟩
    · obtain ⟨e, h1, h2⟩ := he.keys m hm
      exact ⟨e, List.mem_cons_of_mem _ h1, h2⟩
/-- no key twice -/
theorem Ents.nodup {kd : KK} : ∀ {es : List (AV × AV)} {p : List MapEntry}, Ents kd μ ro w es p → (es.map (·.1)).Nodup → (p.map (·.key)).Nodup
  | _, _, .nil, _ => List.nodup_nil
  | (k, v) :: es, m :: p, .cons hk hv he, hn => by
    simp only [List.map_cons, List.nodup_cons] at hn ⊢
    refine ⟨fun hm => hn.1 ?_, he.nodup hn.2⟩
    obtain ⟨m', h1, h2⟩ := List.mem_map.1 hm
    obtain ⟨e, h3, h4⟩ := he.keys m' h1
    rw [h2] at h4
    have := keyEq_same ((keyEq_iff h4 hk).2 rfl)
    rw [← this]
    exact List.mem_map.2 ⟨e, h3, rfl⟩
theorem key_unique {ms : List MapEntry} (hn : (ms.map (·.key)).Nodup) {i j : Nat} {m m' : MapEntry} (hi : ms[i]? = some m) (hj : ms[j]? = some m') (he : m.key = m'.key) : i = j := by
  have h1 : (ms.map (·.key))[i]? = some m.key := by rw [List.getElem?_map, hi]; rfl
  have h2 : (ms.map (·.key))[j]? = some m'.key := by rw [List.getElem?_map, hj]; rfl
  obtain ⟨hil, e1⟩ := List.getElem?_eq_some_iff.1 h1
  obtain ⟨hjl, e2⟩ := List.getElem?_eq_some_iff.1 h2
  rw [List.Nodup, List.pairwise_iff_getElem] at hn
  rcases Nat.lt_trichotomy i j with h | h | h
  · exact absurd (e1.trans (he.trans e2.symm)) (hn i j hil hjl h)
  · exact h
  · exact absurd (e2.trans (he.symm.trans e1.symm)) (hn j i hjl hil h)
/-! ### the operations -/
theorem kdT_flat {kt : TypeId} {kd : KK} (h : kdT P kt = some kd) : (∃ d, P.underlying kt = some d ∧ kdOf d = some kd) ∨ (∃ l, kd = .g l ∧ (match P.underlying kt with | some (.array _ _) | some (.struct _) => true | _ => false) = true) := by
  have h0 := h
  unfold kdT at h
  split at h
  · rename_i hu; cases h; exact .inl ⟨_, hu, rfl⟩
  · rename_i hu; cases h; exact .inl ⟨_, hu, rfl⟩
  · rename_i fs hu
    split at h
    · obtain ⟨l, hl, rfl⟩ := Option.map_eq_some_iff.1 h
      exact .inr ⟨l, rfl, by rw [hu]⟩
    · cases h
  · rename_i n e hu
    split at h
    · cases h; exact .inr ⟨_, rfl, by rw [hu]⟩
    · cases h
  · cases h
theorem find_asking {l : List KB} {kt : TypeId} {key : AV} {b : Value} (hd : kdT P kt = some (.g l)) (hb : keyVal (.g l) key = some b) (w' : World) : ∀ (ms : List MapEntry) (i : Nat), (∀ m ∈ ms, ∃ k, keyVal (.g l) k = some m.key) →
    (Instr.findAsking kt b ms i).run P w' = .ok (findIx b ms i) w'
  | [], i, _ => by simp [Instr.findAsking, findIx]
  | m :: ms, i, h => by
    obtain ⟨k, hk⟩ := h m (by simp)
    obtain ⟨r, h1, h2⟩ := r_equal hd hb hk w'
    unfold Instr.findAsking findIx
    simp only [Sem.run_bind, h1, Result.andThen_ok]
    by_cases e : m.key = b
    · have hr : r = true := h2.2 e.symm
      subst hr
      simp [e]
    · have hr : r = false := by cases r; rfl; exact absurd (h2.1 rfl).symm e
      subst hr
      simp only [Bool.false_eq_true, if_false, e]
      exact find_asking hd hb w' ms (i + 1) (fun m hm => h m (by simp [hm]))
theorem r_findKey {kd : KK} {kt : TypeId} {key : AV} {b : Value} {es : List (AV × AV)} {p ms : List MapEntry} (hd : kdT P kt = some kd) (hb : keyVal kd key = some b) (hp : p.Perm ms) (he : Ents kd μ ro w es p) (w' : World) :
    (Instr.findKey kt b ms).run P w' = .ok (findIx b ms 0) w' := by
  have hks : ∀ m ∈ ms, ∃ k, keyVal kd k = some m.key := fun m hm => by
    obtain ⟨e, h1, h2⟩ := he.keys m (hp.mem_iff.2 hm)
    exact ⟨_, h2⟩
  rcases kdT_flat hd with ⟨d, hu, hd'⟩ | ⟨l, rfl, hw⟩
  · unfold Instr.findKey
    simp only [Sem.run_bind, r_underlying hu, Result.andThen_ok, find_now hd' hb ms 0 hks, Sem.run_pure]
  · rw [run_findKey_eq w' hw]
    exact find_asking hd hb w' ms 0 hks
/-- is it there? as told, or as it is -/
def lookH (hn : Hint) (es : List (AV × AV)) (key : AV) : W (Option AV) :=
  match hn with
  | .v [v] => (W.owe (lookE es key = some v)).bind fun _ => W.pure (some v)
  | .b _ => (W.owe (lookE es key = none)).bind fun _ => W.pure none
  | _ => W.pure (lookE es key)
theorem lookH_sat {hn : Hint} {es : List (AV × AV)} {key : AV} : (lookH hn es key).sat fun r => r = lookE es key := by
  unfold lookH
  split
  · exact W.sat_bind W.sat_owe fun _ h => W.sat_pure h.symm
  · exact W.sat_bind W.sat_owe fun _ h => W.sat_pure h.symm
  · exact W.sat_pure rfl
def lookRes (ok : Bool) (r : Option AV) (z : AV) : AV :=
  match r with
  | some v => match ok with | true => .tup [v, .bool true] | false => v
  | none => match ok with | true => .tup [z, .bool false] | false => z
def aLookup (P : Program) (hn : Hint) (t : TypeId) (x key : AV) (ok : Bool) (h : Hp) : W AV :=
  match P.underlying t with
  | some (.map kt et) =>
    match (P.info? et).bind (·.zero) with
    | some z =>
      match kdT P kt with
      | some kd =>
        match (keyVal kd key).isSome with
        | true =>
          match x with
          | .nilm => W.pure (lookRes ok none (cst z))
          | .mapr id =>
            match h.m.get id with
            | some (.map kd' es) => match kkEq kd' kd with | true => (lookH hn es key).bind fun r => W.pure (lookRes ok r (cst z)) | false => W.fail
            | none =>
              match h.m.get (h.nx - 1) with
              | some (.mst id' kd' es _) => match Nat.beq id id' && kkEq kd' kd with | true => (lookH hn es key).bind fun r => W.pure (lookRes ok r (cst z)) | false => W.fail
              | _ => W.fail
            | _ => W.fail
          | _ => W.fail
        | false => W.fail
      | none => W.fail
    | _ => W.fail
  | _ => W.fail
theorem lookRes_some {ok : Bool} {v z : AV} {x : Value} {o : Bool} (h : Rep μ ro w o v x) : Rep μ ro w o (lookRes ok (some v) z) (if ok then .tuple #[x, .bool true] else x) := by
  cases ok with
  | true => exact (Reps.cons h (Reps.cons .bool Reps.nil)).tup
  | false => exact h
theorem lookRes_none {ok : Bool} {z : AV} {x : Value} {o : Bool} (h : Rep μ ro w o z x) : Rep μ ro w o (lookRes ok none z) (if ok then .tuple #[x, .bool false] else x) := by
  cases ok with
  | true => exact (Reps.cons h (Reps.cons .bool Reps.nil)).tup
  | false => exact h
theorem findIx_look {kd : KK} {key : AV} {b : Value} {es : List (AV × AV)} {p ms : List MapEntry} (hb : keyVal kd key = some b) (hp : p.Perm ms) (he : Ents kd μ ro w es p) (hn : (es.map (·.1)).Nodup) :
    (∃ v i x, lookE es key = some v ∧ findIx b ms 0 = some (i, x) ∧ Rep μ ro w false v x) ∨ (lookE es key = none ∧ findIx b ms 0 = none) := by
  have hkn : (ms.map (·.key)).Nodup := (hp.map _).nodup_iff.1 (he.nodup hn)
  cases hl : lookE es key with
  | some v =>
    obtain ⟨m, h1, h2, h3⟩ := look_some hb he hl
    cases hf : findIx b ms 0 with
    | none => exact absurd h2 (findIx_none hf m (hp.mem_iff.1 h1))
    | some q =>
      obtain ⟨i, x⟩ := q
      obtain ⟨-, m', h4, h5, rfl⟩ := findIx_some hf
      obtain ⟨j, hj, e⟩ := List.getElem_of_mem (hp.mem_iff.1 h1)
      have hj' : ms[j]? = some m := by rw [List.getElem?_eq_getElem hj, e]
      have := key_unique hkn hj' h4 (h2.trans h5.symm)
      rw [Nat.sub_zero] at h4 this
      subst this
      rw [hj'] at h4
      cases h4
      exact .inl ⟨v, _, _, rfl, rfl, h3⟩
  | none =>
    cases hf : findIx b ms 0 with
    | none => exact .inr ⟨rfl, rfl⟩
    | some q =>
      obtain ⟨i, x⟩ := q
      obtain ⟨-, m', h4, h5, -⟩ := findIx_some hf
      exact absurd h5 (look_none hb he hl m' (hp.mem_iff.2 (List.mem_of_getElem? h4)))
theorem aLookup_sat {hn : Hint} {t : TypeId} {x key : AV} {a b' : Value} {ok : Bool} {h : Hp} (hx : Rep μ ro w true x a) (hk : Rep μ ro w true key b') (hh : HpRel μ ro h w) :
    (aLookup P hn t x key ok h).sat fun v => ∃ v', (Instr.lookup t a b' ok).run P w = .ok v' w ∧ Rep μ ro w true v v' := by
  unfold aLookup
  split
  · rename_i kt et hu
    split
    · rename_i z hz
      split
      · rename_i kd hd
        split
        · rename_i hsome
          obtain ⟨b, hb⟩ := Option.isSome_iff_exists.1 hsome
          have hbb := rep_key hk hb
          subst hbb
          have hzero : ∀ w : World, (zeroValue et).run P w = .ok z w := fun w => by
            cases hi : P.info? et with
            | none => rw [hi] at hz; cases hz
            | some i => rw [hi] at hz; exact r_zero hi hz w
          split
          · cases hx
            refine W.sat_pure ⟨_, ?_, lookRes_none (cst_rep z)⟩
            have hf : (Instr.findKey kt b' ([] : List MapEntry)).run P w = .ok none w := by
              exact r_findKey (μ := μ) (ro := ro) (w := w) (es := []) hd hb (List.Perm.refl _) .nil w
            simp only [Instr.lookup, Sem.run_bind, r_underlying hu, Result.andThen_ok, Sem.run_pure, r_checkKey hd hb, hf, hzero]
          · rename_i id
            split
            · rename_i kd' es hm
              split
              · rename_i hkk
                have := kkEq_eq hkk
                subst this
                refine W.sat_bind lookH_sat fun r hr => W.sat_pure ?_
                subst hr
                cases hx with
                | mapr hmu =>
                  rename_i bl
                  obtain ⟨ms, cl, p, g1, g2, g3, g4, g5, g6⟩ := hh.obsM id _ _ hm hmu
                  have hget : (getObj bl.1).run P w = .ok (.map ms cl) w := by simp [getObj, Sem.run, g1]
                  have hfk := r_findKey (P := P) hd hb g2 g3 w
                  rcases findIx_look hb g2 g3 g6 with ⟨v, i, x, h1, h2, h3⟩ | ⟨h1, h2⟩
                  · rw [h1]
                    refine ⟨_, ?_, lookRes_some h3.up⟩
                    rw [h2] at hfk
                    simp only [Instr.lookup, Sem.run_bind, r_underlying hu, Result.andThen_ok, Sem.run_pure, hget, r_checkKey hd hb, hfk]
                  · rw [h1]
                    refine ⟨_, ?_, lookRes_none (cst_rep z)⟩
                    rw [h2] at hfk
                    simp only [Instr.lookup, Sem.run_bind, r_underlying hu, Result.andThen_ok, Sem.run_pure, hget, r_checkKey hd hb, hfk, hzero]
              · exact W.sat_fail
            · split
              · rename_i id' kd' es y hm
                split
                · rename_i hkk
                  simp only [Bool.and_eq_true] at hkk
                  have hid := Nat.eq_of_beq_eq_true hkk.1
                  subst hid
                  have := kkEq_eq hkk.2
                  subst this
                  refine W.sat_bind lookH_sat fun r hr => W.sat_pure ?_
                  subst hr
                  cases hx with
                  | mapr hmu =>
                    rename_i bl
                    rcases hh.obs _ _ hm with ⟨c, hc, hob⟩ | ⟨_, hab, _⟩
                    rotate_left
                    · exact hab.elim
                    obtain ⟨l, ms, cl, p, m0, e1, e2, g1, g2, g3, g4, g5, g6, g7⟩ := hob
                    rw [hmu] at e1; cases e1
                    have hget : (getObj bl.1).run P w = .ok (.map ms cl) w := by rw [e2]; simp [getObj, Sem.run, g1]
                    have hfk := r_findKey (P := P) hd hb g2 g3 w
                    rcases findIx_look hb g2 g3 g6 with ⟨v, i, x, h1, h2, h3⟩ | ⟨h1, h2⟩
                    · rw [h1]
                      refine ⟨_, ?_, lookRes_some h3.up⟩
                      rw [h2] at hfk
                      simp only [Instr.lookup, Sem.run_bind, r_underlying hu, Result.andThen_ok, Sem.run_pure, hget, r_checkKey hd hb, hfk]
                    · rw [h1]
                      refine ⟨_, ?_, lookRes_none (cst_rep z)⟩
                      rw [h2] at hfk
                      simp only [Instr.lookup, Sem.run_bind, r_underlying hu, Result.andThen_ok, Sem.run_pure, hget, r_checkKey hd hb, hfk, hzero]
                · exact W.sat_fail
              · exact W.sat_fail
            · exact W.sat_fail
          · exact W.sat_fail
        · exact W.sat_fail
      · exact W.sat_fail
    · exact W.sat_fail
  · exact W.sat_fail
def aMakeMap (P : Program) (t : TypeId) (r : Option AV) (h : Hp) : Option (AV × Hp) :=
  match P.underlying t, r with
  | some (.map kt _), none => match kdT P kt with | some kd => some (.mapr h.nx, h.new (.map kd [])) | none => none
  | _, _ => none
theorem aMakeMap_good {t : TypeId} {r : Option AV} {r' : Option Value} {h : Hp} {q : AV × Hp} (hq : aMakeMap P t r h = some q) (hr : r = none → r' = none) (hh : HpRel μ ro h w) : Good P (Instr.makeMap t r') μ ro w h.nx q.1 q.2 := by
  unfold aMakeMap at hq
  split at hq
  · rename_i kt et hu
    obtain rfl := hr rfl
    split at hq
    · rename_i kd hkd
      simp only [Option.some.injEq] at hq
      subst hq
      refine ⟨.map (some w.heap.size), w.alloc (.map #[] 0), upd μ h.nx (w.heap.size, 0), ?_, upd_agree _ _, .mapr (upd_self _ _), hh.new _ _ _ ⟨#[], 0, [], heap_new w _, List.Perm.refl _, .nil, fun e he => by simp at he, by simp, by simp⟩, Fr.alloc hh _ _⟩
      simp only [Instr.makeMap, Sem.run_bind, Sem.run_pure, run_newObj, Result.andThen_ok]
      rfl
    · cases hq
  · cases hq
/-! ### an entry laid -/
noncomputable def gUp (b x : Value) (m : MapEntry) : MapEntry := open Classical in if m.key = b then { m with val := x } else m
theorem gUp_born {b x : Value} {m : MapEntry} : (gUp b x m).born = m.born := by unfold gUp; split <;> rfl
theorem gUp_other {b x : Value} {m : MapEntry} (h : m.key ≠ b) : gUp b x m = m := by unfold gUp; rw [if_neg h]
theorem gUp_map {b x : Value} : ∀ {p : List MapEntry}, (∀ m ∈ p, m.key ≠ b) → p.map (gUp b x) = p
  | [], _ => rfl
  | m :: p, h => by rw [List.map_cons, gUp_other (h m (by simp)), gUp_map (fun m hm => h m (by simp [hm]))]
theorem ents_set {kd : KK} {key v : AV} {b x : Value} (hb : keyVal kd key = some b) (hv : Rep μ ro w false v x) : ∀ {es : List (AV × AV)} {p : List MapEntry}, Ents kd μ ro w es p → (es.map (·.1)).Nodup → lookE es key ≠ none →
    Ents kd μ ro w (setE es key v) (p.map (gUp b x)) ∧ (setE es key v).map (·.1) = es.map (·.1)
  | _, _, .nil, _, h => absurd rfl h
  | (k, y) :: es, m :: p, .cons hk hy he, hn, h => by
    have hnp := (Ents.cons hk hy he).nodup hn
    simp only [List.map_cons, List.nodup_cons] at hn hnp
    unfold lookE at h
    unfold setE
    cases hq : keyEq k key with
    | true =>
      have hmb := (keyEq_iff hk hb).1 hq
      have h2 : p.map (gUp b x) = p := gUp_map fun m' hm' e => hnp.1 (List.mem_map.2 ⟨m', hm', e.trans hmb.symm⟩)
      rw [List.map_cons, h2]
      refine ⟨.cons ?_ ?_ he, rfl⟩
      · unfold gUp; rw [if_pos hmb]; exact hk
      · unfold gUp; rw [if_pos hmb]; exact hv
    | false =>
      rw [hq] at h
      have hmb : m.key ≠ b := fun e => by rw [(keyEq_iff hk hb).2 e] at hq; cases hq
      obtain ⟨h1, h2⟩ := ents_set hb hv he hn.2 h
      rw [List.map_cons, gUp_other hmb]
      refine ⟨.cons hk hy h1, ?_⟩
      simp only [List.map_cons, h2]
theorem ents_add {kd : KK} {key v : AV} {b x : Value} {c : Nat} (hb : keyVal kd key = some b) (hv : Rep μ ro w false v x) : ∀ {es : List (AV × AV)} {p : List MapEntry}, Ents kd μ ro w es p → lookE es key = none →
    Ents kd μ ro w (setE es key v) (p ++ [⟨b, x, c⟩]) ∧ (setE es key v).map (·.1) = es.map (·.1) ++ [key]
  | _, _, .nil, _ => ⟨.cons hb hv .nil, rfl⟩
  | (k, y) :: es, m :: p, .cons hk hy he, h => by
    unfold lookE at h
    unfold setE
    cases hq : keyEq k key with
    | true => rw [hq] at h; cases h
    | false =>
      rw [hq] at h
      obtain ⟨h1, h2⟩ := ents_add (c := c) hb hv he h
      refine ⟨.cons hk hy h1, ?_⟩
      simp only [List.map_cons, h2, List.cons_append]
theorem modify_map {ms : List MapEntry} {b x : Value} {i : Nat} {m : MapEntry} (hn : (ms.map (·.key)).Nodup) (hi : ms[i]? = some m) (hm : m.key = b) : ms.modify i (fun e => { e with key := b, val := x }) = ms.map (gUp b x) := by
  apply List.ext_getElem?
  intro q
  rw [List.getElem?_modify, List.getElem?_map]
  cases hq : ms[q]? with
  | none => rfl
  | some m' =>
    by_cases e : i = q
    · subst e
      rw [hi] at hq
      cases hq
      simp only [Option.map_some, if_true, gUp, if_pos hm]
      show some (MapEntry.mk b x m.born) = some (MapEntry.mk m.key x m.born)
      rw [hm]
    · have : m'.key ≠ b := fun e2 => e (key_unique hn hi hq (hm.trans e2.symm))
      simp only [Option.map_some, if_neg e, gUp_other this]
      rfl
theorem lookE_none_mem {kd : KK} {key : AV} {b : Value} (hb : keyVal kd key = some b) : ∀ {es : List (AV × AV)}, lookE es key = none → key ∉ es.map (·.1)
  | [], _ => by simp
  | (k, y) :: es, h => by
    unfold lookE at h
    split at h
    · cases h
    · rename_i hq
      simp only [List.map_cons, List.mem_cons, not_or]
      refine ⟨fun e => ?_, lookE_none_mem hb h⟩
      subst e
      rw [keyEq_refl hb] at hq
      cases hq
def aMapSet (P : Program) (t : TypeId) (m key x : AV) (h : Hp) : Option Hp :=
  match P.underlying t, m with
  | some (.map kt _), .mapr id =>
    match kdT P kt with
    | some kd =>
      match h.m.get id, (keyVal kd key).isSome && x.pl with
      | some (.map kd' es), true => match kkEq kd' kd with | true => some (h.set id (.map kd (setE es key x))) | false => none
      | _, _ => none
    | none => none
  | _, _ => none
theorem aMapSet_run {t : TypeId} {m key x : AV} {a b' xv : Value} {h h' : Hp} (hs : aMapSet P t m key x h = some h') (hm : Rep μ ro w true m a) (hk : Rep μ ro w true key b') (hx : Rep μ ro w true x xv) (hh : HpRel μ ro h w) :
    ∃ w', (Instr.mapUpdate t a b' xv).run P w = .ok () w' ∧ HpRel μ ro h' w' ∧ Fr μ ro w μ w' := by
  unfold aMapSet at hs
  split at hs
  · rename_i kt et id hu
    split at hs
    · rename_i kd hd
      split at hs
      · rename_i kd' es hget hc
        split at hs
        · rename_i hkk
          have := kkEq_eq hkk
          subst this
          simp only [Option.some.injEq] at hs
          subst hs
          simp only [Bool.and_eq_true] at hc
          obtain ⟨b, hb⟩ := Option.isSome_iff_exists.1 hc.1
          have hbb := rep_key hk hb
          subst hbb
          have hxv : Rep μ ro w false x xv := hx.pl hc.2
          cases hm with
          | mapr hmu =>
            rename_i bl
            obtain ⟨ms, cl, p, g1, g2, g3, g4, g5, g6⟩ := hh.obsM id _ _ hget hmu
            have hlt := hh.lt id bl hmu
            have hgo : (getObj bl.1).run P w = .ok (.map ms cl) w := by simp [getObj, Sem.run, g1]
            have hfk := r_findKey (P := P) hd hb g2 g3 w
            -- the world behind it
            have key : ∀ (ms' : Array MapEntry) (cl' : Nat) (es' : List (AV × AV)) (p' : List MapEntry), p'.Perm ms'.toList → Ents kd' μ ro w es' p' → (∀ e ∈ ms'.toList, e.born < cl') → (ms'.toList.map (·.born)).Nodup → (es'.map (·.1)).Nodup →
                (setObj bl.1 (.map ms' cl')).run P w = .ok () { w with heap := w.heap.setIfInBounds bl.1 (.map ms' cl') } ∧ HpRel μ ro (h.set id (.map kd' es')) { w with heap := w.heap.setIfInBounds bl.1 (.map ms' cl') } ∧ Fr μ ro w μ { w with heap := w.heap.setIfInBounds bl.1 (.map ms' cl') } := by
              intro ms' cl' es' p' q1 q2 q3 q4 q5
              have hw1 : ∀ j, j ≠ bl.1 → (w.heap.setIfInBounds bl.1 (.map ms' cl'))[j]? = w.heap[j]? := fun j hj => by rw [Array.getElem?_setIfInBounds_ne (Ne.symm hj)]
              have hw2 : (w.heap.setIfInBounds bl.1 (.map ms' cl'))[bl.1]? = some (.map ms' cl') := by rw [Array.getElem?_setIfInBounds_self_of_lt hlt]
              have hsz : (w.heap.setIfInBounds bl.1 (.map ms' cl')).size = w.heap.size := by simp
              have hro : ∀ j, ro j → (w.heap.setIfInBounds bl.1 (.map ms' cl'))[j]? = w.heap[j]? := fun j hj => hw1 j (fun e => hh.own id _ bl hget hmu (e ▸ hj))
              refine ⟨by simp [setObj, Sem.run, g1], ?_, Fr.write hmu rfl rfl rfl hsz (hh.own id _ bl hget hmu) hw1⟩
              exact hh.set hget hmu (Nat.le_of_eq hsz.symm) (fun j hj _ => hw1 j hj) ⟨ms', cl', p', hw2, q1, q2.mono (fun _ _ h => h) (fun _ h => h) hro, q3, q4, q5⟩
            rcases findIx_look hb g2 g3 g6 with ⟨v, i, x0, h1, h2, h3⟩ | ⟨h1, h2⟩
            · rw [h2] at hfk
              obtain ⟨-, m', h4, h5, rfl⟩ := findIx_some h2
              rw [Nat.sub_zero] at h4
              have hkn : (ms.toList.map (·.key)).Nodup := (g2.map _).nodup_iff.1 (g3.nodup g6)
              have hmod : (ms.modify i fun e => { e with key := b', val := xv }).toList = ms.toList.map (gUp b' xv) := by
                rw [Array.toList_modify]; exact modify_map hkn h4 h5
              obtain ⟨k1, k2⟩ := ents_set hb hxv g3 g6 (by rw [h1]; simp)
              obtain ⟨q1, q2, q3⟩ := key (ms.modify i fun e => { e with key := b', val := xv }) cl (setE es _ _) _ (by rw [hmod]; exact g2.map _) k1 (fun e he => by
                rw [hmod] at he
                obtain ⟨e', he', rfl⟩ := List.mem_map.1 he
                rw [gUp_born]; exact g4 e' he') (by
                rw [hmod, List.map_map]
                have : ((fun e : MapEntry => e.born) ∘ gUp b' xv) = (fun e : MapEntry => e.born) := funext fun e => gUp_born
                rw [this]; exact g5) (by rw [k2]; exact g6)
              refine ⟨_, ?_, q2, q3⟩
              have h4' : ms[i]? = some m' := by rw [← Array.getElem?_toList]; exact h4
              simp only [Instr.mapUpdate, Sem.run_bind, r_underlying hu, Result.andThen_ok, Sem.run_pure, hgo, r_checkKey hd hb, hfk, h4', Option.map_some, Option.getD_some, h5, r_keyStays hb, q1]
            · rw [h2] at hfk
              obtain ⟨k1, k2⟩ := ents_add (c := cl) hb hxv g3 h1
              obtain ⟨q1, q2, q3⟩ := key (ms.push ⟨b', xv, cl⟩) (cl + 1) (setE es _ _) _ (by rw [Array.toList_push]; exact g2.append_right _) k1 (fun e he => by
                rw [Array.toList_push, List.mem_append] at he
                rcases he with he | he
                · have := g4 e he; omega
                · simp at he; subst he; exact Nat.lt_succ_self _) (by
                rw [Array.toList_push, List.map_append, List.map_cons, List.map_nil, List.nodup_append]
                refine ⟨g5, by simp, fun a ha c hc e => ?_⟩
                simp at hc
                obtain ⟨e', he', rfl⟩ := List.mem_map.1 ha
                have := g4 e' he'
                omega) (by
                rw [k2, List.nodup_append]
                refine ⟨g6, by simp, fun a ha c hc e => ?_⟩
                simp at hc
                subst hc; subst e
                exact lookE_none_mem hb h1 ha)
              refine ⟨_, ?_, q2, q3⟩
              simp only [Instr.mapUpdate, Sem.run_bind, r_underlying hu, Result.andThen_ok, Sem.run_pure, hgo, r_checkKey hd hb, hfk, q1]
        · cases hs
      · cases hs
    · cases hs
  · cases hs
/-! ### an entry taken away -/
def delE : List (AV × AV) → AV → List (AV × AV)
  | [], _ => []
  | (k, v) :: es, key => match keyEq k key with | true => es | false => (k, v) :: delE es key
noncomputable def delP (b : Value) (p : List MapEntry) : List MapEntry := open Classical in p.filter fun m => decide (m.key ≠ b)
theorem delP_none {b : Value} : ∀ {p : List MapEntry}, (∀ m ∈ p, m.key ≠ b) → delP b p = p := fun {p} h => by
  unfold delP
  rw [List.filter_eq_self]
  intro m hm
  simpa using h m hm
theorem delP_cons {b : Value} {m : MapEntry} {p : List MapEntry} : delP b (m :: p) = open Classical in if m.key = b then delP b p else m :: delP b p := by
  unfold delP
  by_cases h : m.key = b <;> simp [List.filter_cons, h]
theorem ents_del {kd : KK} {key : AV} {b : Value} (hb : keyVal kd key = some b) : ∀ {es : List (AV × AV)} {p : List MapEntry}, Ents kd μ ro w es p → (es.map (·.1)).Nodup → Ents kd μ ro w (delE es key) (delP b p) ∧ (delE es key).Sublist es
  | _, _, .nil, _ => ⟨.nil, List.Sublist.refl _⟩
  | (k, y) :: es, m :: p, .cons hk hy he, hn => by
    have hnp := (Ents.cons hk hy he).nodup hn
    simp only [List.map_cons, List.nodup_cons] at hn hnp
    unfold delE
    rw [delP_cons]
    cases hq : keyEq k key with
    | true =>
      have hmb := (keyEq_iff hk hb).1 hq
      rw [if_pos hmb, delP_none fun m' hm' e => hnp.1 (List.mem_map.2 ⟨m', hm', e.trans hmb.symm⟩)]
      exact ⟨he, List.sublist_cons_self _ _⟩
    | false =>
      have hmb : m.key ≠ b := fun e => by rw [(keyEq_iff hk hb).2 e] at hq; cases hq
      obtain ⟨h1, h2⟩ := ents_del hb he hn.2
      rw [if_neg hmb]
      exact ⟨.cons hk hy h1, h2.cons_cons _⟩
theorem erase_del {b : Value} : ∀ {ms : List MapEntry} {i : Nat} {m : MapEntry}, (ms.map (·.key)).Nodup → ms[i]? = some m → m.key = b → ms.eraseIdx i = delP b ms
  | [], i, m, _, h, _ => by simp at h
  | x :: ms, 0, m, hn, h, hm => by
    simp only [List.getElem?_cons_zero, Option.some.injEq] at h
    subst h
    simp only [List.map_cons, List.nodup_cons] at hn
    rw [delP_cons, if_pos hm, List.eraseIdx_cons_zero, delP_none fun m' hm' e => hn.1 (List.mem_map.2 ⟨m', hm', e.trans hm.symm⟩)]
  | x :: ms, i + 1, m, hn, h, hm => by
    simp only [List.getElem?_cons_succ] at h
    simp only [List.map_cons, List.nodup_cons] at hn
    have hx : x.key ≠ b := fun e => hn.1 (List.mem_map.2 ⟨m, List.mem_of_getElem? h, hm.trans e.symm⟩)
    rw [delP_cons, if_neg hx, List.eraseIdx_cons_succ, erase_del hn.2 h hm]
def aDelete (P : Program) (t : TypeId) (m key : AV) (h : Hp) : Option Hp :=
  match P.underlying t, m with
  | some (.map kt _), .mapr id =>
    match kdT P kt with
    | some kd =>
      match h.m.get id, (keyVal kd key).isSome with
      | some (.map kd' es), true => match kkEq kd' kd with | true => some (h.set id (.map kd (delE es key))) | false => none
      | _, _ => none
    | none => none
  | _, _ => none
theorem aDelete_run {ts : Array TypeId} {ty t : TypeId} {m key : AV} {a b' : Value} {h h' : Hp} (ht : ts[0]? = some t) (hs : aDelete P t m key h = some h') (hm : Rep μ ro w true m a) (hk : Rep μ ro w true key b') (hh : HpRel μ ro h w) :
    ∃ w', (Builtin.delete_ ts ty #[a, b']).run P w = .ok (.tuple #[]) w' ∧ HpRel μ ro h' w' ∧ Fr μ ro w μ w' := by
  unfold aDelete at hs
  split at hs
  · rename_i kt et id hu
    split at hs
    · rename_i kd hd
      split at hs
      · rename_i kd' es hget hc
        split at hs
        · rename_i hkk
          have := kkEq_eq hkk
          subst this
          simp only [Option.some.injEq] at hs
          subst hs
          obtain ⟨b, hb⟩ := Option.isSome_iff_exists.1 hc
          have hbb := rep_key hk hb
          subst hbb
          cases hm with
          | mapr hmu =>
            rename_i bl
            obtain ⟨ms, cl, p, g1, g2, g3, g4, g5, g6⟩ := hh.obsM id _ _ hget hmu
            have hlt := hh.lt id bl hmu
            have hgo : (getObj bl.1).run P w = .ok (.map ms cl) w := by simp [getObj, Sem.run, g1]
            have hfk := r_findKey (P := P) hd hb g2 g3 w
            have hkn : (ms.toList.map (·.key)).Nodup := (g2.map _).nodup_iff.1 (g3.nodup g6)
            obtain ⟨k1, k2⟩ := ents_del hb g3 g6
            have key : ∀ (ms' : Array MapEntry), ms'.toList = delP b' ms.toList →
                (setObj bl.1 (.map ms' cl)).run P w = .ok () { w with heap := w.heap.setIfInBounds bl.1 (.map ms' cl) } ∧ HpRel μ ro (h.set id (.map kd' (delE es key))) { w with heap := w.heap.setIfInBounds bl.1 (.map ms' cl) } ∧ Fr μ ro w μ { w with heap := w.heap.setIfInBounds bl.1 (.map ms' cl) } := by
              intro ms' hms
              have hw1 : ∀ j, j ≠ bl.1 → (w.heap.setIfInBounds bl.1 (.map ms' cl))[j]? = w.heap[j]? := fun j hj => by rw [Array.getElem?_setIfInBounds_ne (Ne.symm hj)]
              have hw2 : (w.heap.setIfInBounds bl.1 (.map ms' cl))[bl.1]? = some (.map ms' cl) := by rw [Array.getElem?_setIfInBounds_self_of_lt hlt]
              have hsz : (w.heap.setIfInBounds bl.1 (.map ms' cl)).size = w.heap.size := by simp
              have hro : ∀ j, ro j → (w.heap.setIfInBounds bl.1 (.map ms' cl))[j]? = w.heap[j]? := fun j hj => hw1 j (fun e => hh.own id _ bl hget hmu (e ▸ hj))
              have hsub : (delP b' ms.toList).Sublist ms.toList := List.filter_sublist
              refine ⟨by simp [setObj, Sem.run, g1], ?_, Fr.write hmu rfl rfl rfl hsz (hh.own id _ bl hget hmu) hw1⟩
              refine hh.set hget hmu (Nat.le_of_eq hsz.symm) (fun j hj _ => hw1 j hj) ⟨ms', cl, delP b' p, hw2, ?_, k1.mono (fun _ _ h => h) (fun _ h => h) hro, ?_, ?_, ?_⟩
              · rw [hms]; exact g2.filter _
              · rw [hms]; exact fun e he => g4 e (hsub.subset he)
              · rw [hms]; exact (hsub.map _).nodup g5
              · exact (k2.map _).nodup g6
            have run : ∀ (ms' : Array MapEntry) (o : Option (Nat × Value)), findIx b' ms.toList 0 = o → (match o with | some (i, _) => ms' = ms.eraseIdxIfInBounds i | none => ms' = ms) →
                (Builtin.delete_ ts ty #[.map (some bl.1), b']).run P w = ((setObj bl.1 (.map ms' cl)).run P w).andThen fun _ w' => .ok (.tuple #[]) w' := by
              intro ms' o ho hm'
              rw [ho] at hfk
              unfold Builtin.delete_
              simp only [ht, List.getElem?_toArray, List.getElem?_cons_zero, List.getElem?_cons_succ, Sem.run_bind, r_underlying hu, Result.andThen_ok, hgo, r_checkKey hd hb, hfk]
              cases o with
              | none => simp only at hm'; subst hm'; simp only [Sem.run_bind, Sem.run_pure]
              | some q => obtain ⟨i, x⟩ := q; simp only at hm'; subst hm'; simp only [Sem.run_bind, Sem.run_pure]
            cases hf : findIx b' ms.toList 0 with
            | none =>
              obtain ⟨q1, q2, q3⟩ := key ms (delP_none (findIx_none hf)).symm
              refine ⟨_, ?_, q2, q3⟩
              rw [run ms none hf rfl, q1]; rfl
            | some q =>
              obtain ⟨i, x⟩ := q
              obtain ⟨-, m', h4, h5, rfl⟩ := findIx_some hf
              rw [Nat.sub_zero] at h4
              obtain ⟨q1, q2, q3⟩ := key (ms.eraseIdxIfInBounds i) (by rw [Array.toList_eraseIdxIfInBounds]; exact erase_del hkn h4 h5)
              refine ⟨_, ?_, q2, q3⟩
              rw [run _ (some (i, m'.val)) hf rfl, q1]; rfl
        · cases hs
      · cases hs
    · cases hs
  · cases hs
/-! ### a copy -/
def isClone (P : Program) (f : FuncId) : Bool :=
  match P.funcs[f]? with
  | some fn => fn.body.isNone && (fn.name == "maps.clone" && (Extern.allNextRows.lookup fn.origin).isNone)
  | none => false
def aClone (args : List AV) (h : Hp) : Option (AV × Hp) :=
  match args with
  | [.ifc t (.mapr id)] => match h.m.get id with | some (.map kd es) => some (.ifc t (.mapr h.nx), h.new (.map kd es)) | _ => none
  | _ => none
theorem isClone_run {f : FuncId} (h : isClone P f = true) (args : Array Value) (w : World) : (callFunc f args).run P w = ((Extern.MapsClone.clone args).run P w).andThen fun v w' => .ok (.value v) w' := by
  unfold isClone at h
  split at h
  · rename_i fn hf
    simp only [Bool.and_eq_true] at h
    obtain ⟨h1, h2, h3⟩ := h
    have hn : fn.name = "maps.clone" := by simpa using h2
    have h3' : Extern.allNextRows.lookup fn.origin = none := by simpa using h3
    refine run_callFunc_extern hf (by rw [hn]; rfl) h1 ?_ ?_ args w
    · unfold Extern.findNext
      simp only [hn, h3']
      rfl
    · unfold Extern.find
      simp only [hn]
      have e1 : Extern.allGenericRows.lookup "maps.clone" = none := by rfl
      have e2 : Extern.allTypedRows.lookup "maps.clone" = none := by rfl
      have e3 : Extern.allRows.lookup "maps.clone" = some Extern.MapsClone.clone := by rfl
      rw [e1, e2, e3]
      rfl
  · cases h
theorem aClone_run {args : List AV} {vs : Array Value} {h : Hp} {r : AV × Hp} (hs : aClone args h = some r) (ha : Reps μ ro w true args vs.toList) (hh : HpRel μ ro h w) : Good P (Extern.MapsClone.clone vs) μ ro w h.nx r.1 r.2 := by
  unfold aClone at hs
  split at hs
  · rename_i t id
    split at hs
    · rename_i kd es hm
      simp only [Option.some.injEq] at hs
      subst hs
      obtain ⟨x, rest, hv, hx, hr⟩ := ha.head
      have hn : rest = [] := List.length_eq_zero_iff.1 (by simpa using hr.1)
      subst hn
      cases hx with
      | ifc hx =>
        rename_i y
        cases hx with
        | mapr hmu =>
          rename_i b
          obtain ⟨ms, cl, p, g1, g2, g3, g4⟩ := hh.obsM id _ _ hm hmu
          have hvs : vs = #[.iface t (.map (some b.1))] := by
            have := congrArg List.toArray hv
            simpa using this
          subst hvs
          refine ⟨.iface t (.map (some w.heap.size)), w.alloc (.map ms cl), upd μ h.nx (w.heap.size, 0), ?_, upd_agree _ _, .ifc (.mapr (upd_self _ _)), hh.new _ _ _ ⟨ms, cl, p, heap_new w _, g2, g3.mono (upd_le hh _) (fun _ h => h) (fun b hb => Below.heap_alloc _ _ _ (hh.old b hb)), g4⟩, Fr.alloc hh _ _⟩
          have e : Extern.MapsClone.clone #[.iface t (.map (some b.1))] = (getObj b.1 >>= fun o => match o with
              | .map entries clock => (newObj (.map entries clock) >>= fun n => pure (.iface t (.map (some n))))
              | _ => stuck "maps.clone: a map expected") := rfl
          have hgo : (getObj b.1).run P w = .ok (.map ms cl) w := by simp [getObj, Sem.run, g1]
          rw [e]
          simp only [Sem.run_bind, hgo, Result.andThen_ok, run_newObj, Sem.run_pure]
          rfl
    · cases hs
  · cases hs
/-! ### the first place of a byte in a string (the model stands in) -/
def fIdx (c : UInt8) : List UInt8 → Nat → Int
  | [], _ => -1
  | b :: l, k => match b == c with | true => (k : Int) | false => fIdx c l (k + 1)
theorem fIdx_find {c : UInt8} {f : Nat → Bool} : ∀ (l : List UInt8) (k : Nat), (∀ i, i < l.length → f (k + i) = (l.getD i 0 == c)) →
    (match (List.range' k l.length).find? f with | some i => (i : Int) | none => -1) = fIdx c l k
  | [], k, _ => rfl
  | b :: l, k, h => by
    have h0 : f k = (b == c) := by have := h 0 (Nat.zero_lt_succ _); simpa using this
    have ih := fIdx_find (c := c) (f := f) l (k + 1) fun i hi => by
      have := h (i + 1) (Nat.succ_lt_succ hi)
      rw [Nat.add_assoc, Nat.add_comm 1 i]
      simpa using this
    rw [List.length_cons, List.range'_succ, List.find?_cons]
    unfold fIdx
    cases hb : b == c with
    | true => rw [h0, hb]
    | false => rw [h0, hb]; exact ih
theorem firstIdx_eq {s : List UInt8} {b : ByteArray} {c : UInt8} (h : b.data.toList = s) : firstIdx b c = fIdx c s 0 := by
  subst h
  have hs : b.size = b.data.toList.length := rfl
  unfold firstIdx
  rw [hs, List.range_eq_range']
  refine fIdx_find _ 0 fun i hi => ?_
  rw [Nat.zero_add]
  have : b[i]! = b.data.toList.getD i 0 := by
    have hi' : i < b.size := by rw [hs]; exact hi
    rw [getElem!_pos b i hi', List.getD_eq_getElem?_getD, List.getElem?_eq_getElem hi]
    rfl
  rw [this]
def isIdx (P : Program) (f : FuncId) : Bool :=
  match P.funcs[f]? with
  | some fn => fn.body.isNone && (fn.name == "internal/bytealg.IndexByteString" && (Extern.allNextRows.lookup fn.origin).isNone)
  | none => false
def aByteIx (args : List AV) : Option AV :=
  match args with
  | [.str s, .int .u8 c] => some (.int .i64 (fIdx c.toNat.toUInt8 s 0))
  | _ => none
theorem isIdx_run {f : FuncId} (h : isIdx P f = true) (args : Array Value) (w : World) : (callFunc f args).run P w = ((Extern.BytealgIndexByte.indexByte args).run P w).andThen fun v w' => .ok (.value v) w' := by
  unfold isIdx at h
  split at h
  · rename_i fn hf
    simp only [Bool.and_eq_true] at h
    obtain ⟨h1, h2, h3⟩ := h
    have hn : fn.name = "internal/bytealg.IndexByteString" := eq_of_beq h2
    have h3' : Extern.allNextRows.lookup fn.origin = none := Option.isNone_iff_eq_none.1 h3
    refine run_callFunc_extern hf (by rw [hn]; rfl) h1 ?_ ?_ args w
    · unfold Extern.findNext
      simp only [hn, h3']
      rfl
    · unfold Extern.find
      simp only [hn]
      have e1 : Extern.allGenericRows.lookup "internal/bytealg.IndexByteString" = none := by rfl
      have e2 : Extern.allTypedRows.lookup "internal/bytealg.IndexByteString" = none := by rfl
      have e3 : Extern.allRows.lookup "internal/bytealg.IndexByteString" = some Extern.BytealgIndexByte.indexByte := by rfl
      rw [e1, e2, e3]
      rfl
  · cases h
theorem aByteIx_run {args : List AV} {vs : Array Value} {r : AV} (hs : aByteIx args = some r) (ha : Reps μ ro w true args vs.toList) :
    ∃ v, (Extern.BytealgIndexByte.indexByte vs).run P w = .ok v w ∧ Rep μ ro w true r v := by
  unfold aByteIx at hs
  split at hs
  · rename_i s0 n0
    simp only [Option.some.injEq] at hs
    subst hs
    obtain ⟨x, rest, hv, hx, hr⟩ := ha.head
    obtain ⟨y, rest2, hv2, hy, hr2⟩ := hr.head
    have hn : rest2 = [] := List.length_eq_zero_iff.1 (by simpa using hr2.1)
    subst hn; subst hv2
    cases hx with
    | str hb =>
      rename_i b
      cases hy
      have hvs : vs = #[.string b, .int .u8 n0] := by have := congrArg List.toArray hv; simpa using this
      subst hvs
      exact ⟨_, run_indexByte_string _ _ w, by rw [firstIdx_eq hb]; exact .int⟩
  · cases hs
/-- how many entries -/
def aMapLen (P : Program) (t : TypeId) (x : AV) (h : Hp) : Option AV :=
  match P.underlying t, x with
  | some (.map _ _), .nilm => some (.int .i64 0)
  | some (.map _ _), .mapr id => match h.m.get id with | some (.map _ es) => some (.int .i64 (es.length : Int)) | _ => none
  | _, _ => none
theorem Ents.length {kd : KK} : ∀ {es : List (AV × AV)} {p : List MapEntry}, Ents kd μ ro w es p → p.length = es.length
  | _, _, .nil => rfl
  | _, _, .cons _ _ h => by simp [h.length]
theorem aMapLen_run {ts : Array TypeId} {ty t : TypeId} {x v : AV} {a : Value} {h : Hp} (ht : ts[0]? = some t) (hv : aMapLen P t x h = some v) (hx : Rep μ ro w true x a) (hh : HpRel μ ro h w) :
    ∃ v', (Builtin.len_ ts ty #[a]).run P w = .ok v' w ∧ Rep μ ro w true v v' := by
  unfold aMapLen at hv
  split at hv
  · rename_i hu
    simp only [Option.some.injEq] at hv
    subst hv
    cases hx
    refine ⟨goInt 0, ?_, .int⟩
    simp only [Builtin.len_, ht, List.getElem?_toArray, List.getElem?_cons_zero, Sem.run_bind, r_underlying hu, Result.andThen_ok]
    rfl
  · rename_i id hu
    split at hv
    · rename_i kd es hm
      simp only [Option.some.injEq] at hv
      subst hv
      cases hx with
      | mapr hmu =>
        rename_i bl
        obtain ⟨ms, cl, p, g1, g2, g3, g4⟩ := hh.obsM id _ _ hm hmu
        have hl : ms.size = es.length := by rw [← g3.length, g2.length_eq, Array.length_toList]
        have hgo : (getObj bl.1).run P w = .ok (.map ms cl) w := by simp [getObj, Sem.run, g1]
        refine ⟨goInt ms.size, ?_, ?_⟩
        · simp only [Builtin.len_, ht, List.getElem?_toArray, List.getElem?_cons_zero, Sem.run_bind, r_underlying hu, Result.andThen_ok, hgo, Sem.run_pure]
        · rw [hl]; exact .int
    · cases hv
  · cases hv
/-! ### the entry an iterator stands at -/
theorem find_born {s : Nat} : ∀ {ms : List MapEntry} {i : Nat} {e : MapEntry}, (ms.map (·.born)).Nodup → ms[i]? = some e → e.born = s → ms.find? (fun x => x.born == s) = some e
  | [], i, e, _, h, _ => by simp at h
  | m :: ms, 0, e, _, h, hb => by simp only [List.getElem?_cons_zero, Option.some.injEq] at h; subst h; simp [hb]
  | m :: ms, i + 1, e, hn, h, hb => by
    simp only [List.map_cons, List.nodup_cons] at hn
    simp only [List.getElem?_cons_succ] at h
    have hne : ¬ m.born = s := fun q => hn.1 (by rw [q, ← hb]; exact List.mem_map.2 ⟨e, List.mem_of_getElem? h, rfl⟩)
    rw [List.find?_cons_of_neg (by simpa using hne)]
    exact find_born hn.2 h hb
theorem Ents.at {kd : KK} : ∀ {es : List (AV × AV)} {ms : List MapEntry} {i : Nat} {k v : AV} {e : MapEntry}, Ents kd μ ro w es ms → es[i]? = some (k, v) → ms[i]? = some e → keyVal kd k = some e.key ∧ Rep μ ro w false v e.val
  | _, _, i, _, _, _, .nil, h, _ => by simp at h
  | _, _, 0, _, _, _, .cons hk hv _, h, h' => by simp only [List.getElem?_cons_zero, Option.some.injEq] at h h'; cases h; cases h'; exact ⟨hk, hv⟩
  | _, _, i + 1, _, _, _, .cons _ _ he, h, h' => he.at (by simpa using h) (by simpa using h')
/-- the last that was seen stands at k, v -/
def EntAt (es : List (AV × AV)) (ms : List MapEntry) (seen : List Nat) (k v : AV) : Prop :=
  ∃ (i : Nat) (e : MapEntry), ms[i]? = some e ∧ es[i]? = some (k, v) ∧ seen.getLast? = some e.born
def aEntry (hn : Hint) (x : AV) (h : Hp) : W AV :=
  match x, hn with
  | .ptr id 0, .v [.mapr mid, k, v] =>
    match h.m.get id, h.m.get mid with
    | some (.mit m _ seen cl), some (.rm m' _ es ms cl') => (W.owe (m = m' ∧ cl = cl' ∧ EntAt es ms seen k v)).bind fun _ => W.pure (.tup [k, v])
    | _, _ => W.fail
  | _, _ => W.fail
theorem aEntry_sat {hn : Hint} {x : AV} {a : Value} {h : Hp} (hx : Rep μ ro w true x a) (hh : HpRel μ ro h w) : (aEntry hn x h).sat fun v => ∃ v', (Instr.entry a).run P w = .ok v' w ∧ Rep μ ro w true v v' := by
  unfold aEntry
  split
  · rename_i id mid k v
    split
    · rename_i m since seen cl m' kd es ms cl' hi hm
      refine W.sat_bind W.sat_owe fun _ ⟨e1, e2, i, e, h1, h2, h3⟩ => W.sat_pure ?_
      subst e1; subst e2
      cases hx with
      | ptr hb =>
        rename_i b
        have hit : w.heap[b.1]? = some (.mapIter (some m) since seen.toArray cl) := hh.obsM id _ _ hi hb
        obtain ⟨bm, hbm, g⟩ : ∃ bm, μ mid = some bm ∧ RmRel μ ro w bm m kd es ms cl := by
          rcases hh.obs mid _ hm with h | ⟨_, h, _⟩
          · exact h
          · exact h.elim
        obtain ⟨g0, g1, g2, g3, g4, g5⟩ := g
        rw [g0] at g1
        have hg1 : (getObj b.1).run P w = .ok (.mapIter (some m) since seen.toArray cl) w := by simp [getObj, Sem.run, hit]
        have hg2 : (getObj m).run P w = .ok (.map ms.toArray cl) w := by simp [getObj, Sem.run, g1]
        obtain ⟨q1, q2⟩ := g2.at h2 h1
        have hbk : seen.toArray.back? = some e.born := by simpa [Array.back?, List.getLast?_eq_getElem?] using h3
        have hf : ms.toArray.find? (fun x => x.born == e.born) = some e := by
          rw [List.find?_toArray]; exact find_born g4 h1 rfl
        refine ⟨.tuple #[e.key, e.val], ?_, (Reps.cons (keyVal_rep q1) (Reps.cons q2.up Reps.nil)).tup⟩
        simp only [Instr.entry, Sem.run_bind, hg1, hg2, Result.andThen_ok, hbk, hf, bne_self_eq_false, if_false, Bool.false_eq_true, Sem.run_pure]
    · exact W.sat_fail
  · exact W.sat_fail
end Go.Proofs.YtnlaiahcemckkaaGreatDoor.Av
/- An entry of a map sought out, and stored into. -/
set_option linter.unusedVariables false
set_option linter.unusedSimpArgs false
namespace Go.Proofs.YtnlaiahcemckkaaGreatDoor.Av
open Go.RowKit
variable {P : Program} {G : Nat → AV} {μ μ' : Nat → Option Loc} {ro ro' : Nat → Prop} {w w' : World}
def aMapEntry (P : Program) (t : TypeId) (m key : AV) (h : Hp) : Option (AV × Hp) :=
  match P.underlying t, m with
  | some (.map kt et), .mapr id =>
    match (P.info? et).bind (·.zero), kdT P kt with
    | some z, some kd =>
      match h.m.get id, (keyVal kd key).isSome && (cst z).pl with
      | some (.map kd' es), true =>
        match kkEq kd' kd with
        | true =>
          match lookE es key with
          | some x => some (.tup [x, .stp h.nx], (h.del id).new (.mst id kd es key))
          | none => some (.tup [cst z, .stp h.nx], (h.del id).new (.mst id kd (setE es key (cst z)) key))
        | false => none
      | _, _ => none
    | _, _ => none
  | _, _ => none
theorem modify_same {α : Type} {ms : Array α} {i : Nat} {m : α} {f : α → α} (hi : ms[i]? = some m) (hf : f m = m) : ms.modify i f = ms := by
  apply Array.ext_getElem?
  intro q
  rw [Array.getElem?_modify]
  split
  · rename_i e
    subst e
    rw [hi, Option.map_some, hf]
  · rfl
theorem aMapEntry_good {t : TypeId} {m key : AV} {a b' : Value} {h : Hp} {r : AV × Hp} (hs : aMapEntry P t m key h = some r) (hm : Rep μ ro w true m a) (hk : Rep μ ro w true key b') (hh : HpRel μ ro h w) :
    Good P (Instr.mapEntry t a b') μ ro w h.nx r.1 r.2 := by
  unfold aMapEntry at hs
  split at hs
  · rename_i kt et id hu
    split at hs
    · rename_i z kd hz hd
      split at hs
      · rename_i kd' es hget hc
        split at hs
        · rename_i hkk
          have := kkEq_eq hkk
          subst this
          simp only [Bool.and_eq_true] at hc
          obtain ⟨b, hb⟩ := Option.isSome_iff_exists.1 hc.1
          have hbb := rep_key hk hb
          subst hbb
          have hzero : ∀ w : World, (zeroValue et).run P w = .ok z w := fun w => by
            cases hi : P.info? et with
            | none => rw [hi] at hz; cases hz
            | some i => rw [hi] at hz; exact r_zero hi hz w
          have hzr : Rep μ ro w false (cst z) z := (cst_rep z : Rep μ ro w true (cst z) z).pl hc.2
          cases hm with
          | mapr hmu =>
            rename_i bl
            obtain ⟨ms, cl, p, g1, g2, g3, g4, g5, g6⟩ := hh.obsM id _ _ hget hmu
            have hlt := hh.lt id bl hmu
            have hgo : (getObj bl.1).run P w = .ok (.map ms cl) w := by simp [getObj, Sem.run, g1]
            have hfk := r_findKey (P := P) hd hb g2 g3 w
            have hown := hh.own id _ bl hget hmu
            have hdel := hh.del id
            -- the world behind it
            have key : ∀ (ms' : Array MapEntry) (cl' : Nat) (es' : List (AV × AV)) (p' : List MapEntry) (m0 : MapEntry), p'.Perm ms'.toList → Ents kd' μ ro w es' p' → (∀ e ∈ ms'.toList, e.born < cl') → (ms'.toList.map (·.born)).Nodup → (es'.map (·.1)).Nodup → m0 ∈ ms'.toList → m0.key = b' →
                (setObj bl.1 (.map ms' cl')).run P w = .ok () { w with heap := w.heap.setIfInBounds bl.1 (.map ms' cl') } ∧ HpRel (upd μ h.nx (bl.1, m0.born)) ro ((h.del id).new (.mst id kd' es' key)) { w with heap := w.heap.setIfInBounds bl.1 (.map ms' cl') } ∧ Fr μ ro w (upd μ h.nx (bl.1, m0.born)) { w with heap := w.heap.setIfInBounds bl.1 (.map ms' cl') } := by
              intro ms' cl' es' p' m0 q1 q2 q3 q4 q5 q6 q7
              have hw1 : ∀ j, j ≠ bl.1 → (w.heap.setIfInBounds bl.1 (.map ms' cl'))[j]? = w.heap[j]? := fun j hj => by rw [Array.getElem?_setIfInBounds_ne (Ne.symm hj)]
              have hw2 : (w.heap.setIfInBounds bl.1 (.map ms' cl'))[bl.1]? = some (.map ms' cl') := by rw [Array.getElem?_setIfInBounds_self_of_lt hlt]
              have hsz : (w.heap.setIfInBounds bl.1 (.map ms' cl')).size = w.heap.size := by simp
              have hro : ∀ j, ro j → (w.heap.setIfInBounds bl.1 (.map ms' cl'))[j]? = w.heap[j]? := fun j hj => hw1 j (fun e => hown (e ▸ hj))
              have hle := upd_le hdel (bl.1, m0.born)
              refine ⟨by simp [setObj, Sem.run, g1], ?_, ⟨rfl, rfl, rfl, Nat.le_of_eq hsz.symm, hro, fun c _ hn => hw1 c (fun e => hn id bl hmu e.symm), fun i l hi => ?_⟩⟩
              · refine hdel.add (.mst id kd' es' key) (bl.1, m0.born) (Nat.le_of_eq hsz.symm) (by simpa using hlt) (fun i k' c hi hc e => ?_) hown (fun j hj _ => hw1 j hj) ⟨bl, ms', cl', p', m0, hle _ _ hmu, rfl, hw2, q1, q2.mono hle (fun _ h => h) hro, q3, q4, q5, q6, rfl, by rw [q7]; exact hb⟩
                simp only [Hp.del, Tr.get_put] at hi
                split at hi
                · cases hi
                · rename_i hne
                  exact hne (hh.inj i id k' _ c bl hi hget hc hmu e)
              · unfold upd at hi
                split at hi
                · simp only [Option.some.injEq] at hi; subst hi; exact .inl ⟨id, bl, hmu, rfl⟩
                · exact .inl ⟨i, l, hi, rfl⟩
            rcases findIx_look hb g2 g3 g6 with ⟨v, i, x0, h1, h2, h3⟩ | ⟨h1, h2⟩
            · rw [h1] at hs
              simp only [Option.some.injEq] at hs
              subst hs
              rw [h2] at hfk
              obtain ⟨-, m', h4, h5, rfl⟩ := findIx_some h2
              rw [Nat.sub_zero] at h4
              have h4' : ms[i]? = some m' := by rw [← Array.getElem?_toList]; exact h4
              have hmod : (ms.modify i fun e => { e with key := b' }) = ms := modify_same h4' (by rw [← h5])
              obtain ⟨q1, q2, q3⟩ := key ms cl es p m' g2 g3 g4 g5 g6 (List.mem_of_getElem? h4) h5
              refine ⟨.tuple #[m'.val, goInt m'.born], _, _, ?_, upd_agree _ _, ?_, q2, q3⟩
              · simp only [Instr.mapEntry, Sem.run_bind, r_underlying hu, Result.andThen_ok, Sem.run_pure, hgo, r_checkKey hd hb, hfk, h4', Option.map_some, Option.getD_some, h5, r_keyStays hb, hmod, q1]
              · have hro := q3.block
                exact (Reps.cons ((h3.mono (upd_le hdel _) (fun _ h => h) hro).up) (Reps.cons (.stp (upd_self _ _)) Reps.nil)).tup
            · rw [h1] at hs
              simp only [Option.some.injEq] at hs
              subst hs
              rw [h2] at hfk
              obtain ⟨k1, k2⟩ := ents_add (c := cl) hb hzr g3 h1
              obtain ⟨q1, q2, q3⟩ := key (ms.push ⟨b', z, cl⟩) (cl + 1) (setE es _ _) _ ⟨b', z, cl⟩ (by rw [Array.toList_push]; exact g2.append_right _) k1 (fun e he => by
                rw [Array.toList_push, List.mem_append] at he
                rcases he with he | he
                · have := g4 e he; omega
                · simp at he; subst he; exact Nat.lt_succ_self _) (by
                rw [Array.toList_push, List.map_append, List.map_cons, List.map_nil, List.nodup_append]
                refine ⟨g5, by simp, fun a ha c hc e => ?_⟩
                simp at hc
                obtain ⟨e', he', rfl⟩ := List.mem_map.1 ha
                have := g4 e' he'
                omega) (by
                rw [k2, List.nodup_append]
                refine ⟨g6, by simp, fun a ha c hc e => ?_⟩
                simp at hc
                subst hc; subst e
                exact lookE_none_mem hb h1 ha) (by simp) rfl
              refine ⟨.tuple #[z, goInt cl], _, _, ?_, upd_agree _ _, ?_, q2, q3⟩
              · simp only [Instr.mapEntry, Sem.run_bind, r_underlying hu, Result.andThen_ok, Sem.run_pure, hgo, r_checkKey hd hb, hfk, hzero, q1]
              · exact (Reps.cons (cst_rep z) (Reps.cons (.stp (upd_self _ _)) Reps.nil)).tup
        · cases hs
      · cases hs
    · cases hs
  · cases hs
def aEntryStore (m s x : AV) (h : Hp) : Option Hp :=
  match m, s with
  | .mapr id, .stp q =>
    match h.m.get q with
    | some (.mst id' kd es key) =>
      match Nat.beq id id' && ((keyVal kd key).isSome && (x.pl && (lookE es key).isSome)) with
      | true => some ⟨(h.m.put q none).put id (some (.map kd (setE es key x))), h.nx⟩
      | false => none
    | _ => none
  | _, _ => none
theorem HpRel.back {h : Hp} (hh : HpRel μ ro h w) {q id : Nat} {b l : Loc} {k k' : Ob} (hq : h.m.get q = some k) (hb : μ q = some b) (hl : μ id = some l) (he : l.1 = b.1) (hs : w'.heap.size = w.heap.size)
    (hw : ∀ j, j ≠ b.1 → w'.heap[j]? = w.heap[j]?) (hk : ObRel μ ro w' l k') : HpRel μ ro ⟨(h.m.put q none).put id (some k'), h.nx⟩ w' := by
  have hro : ∀ j, ro j → w'.heap[j]? = w.heap[j]? := fun j hj => hw j (fun e => hh.own q k b hq hb (e ▸ hj))
  have hin : ∀ j o, ((h.m.put q none).put id (some k')).get j = some o → (j = id ∧ o = k') ∨ (j ≠ id ∧ j ≠ q ∧ h.m.get j = some o) := fun j o hj => by
    simp only [Tr.get_put] at hj
    by_cases e : j = id
    · rw [if_pos e] at hj; simp only [Option.some.injEq] at hj; exact .inl ⟨e, hj.symm⟩
    · rw [if_neg e] at hj
      by_cases e2 : j = q
      · rw [if_pos e2] at hj; cases hj
      · rw [if_neg e2] at hj; exact .inr ⟨e, e2, hj⟩
  refine ⟨fun j o hj => ?_, fun i j o o' c d hi hj h1 h2 h3 => ?_, fun j o c hj hc => ?_, fun j c hc => by rw [hs]; exact hh.lt j c hc, fun c hc => by rw [hs]; exact hh.old c hc, hh.nx⟩
  · rcases hin j o hj with ⟨rfl, rfl⟩ | ⟨e1, e2, hj⟩
    · exact .inl ⟨l, hl, hk⟩
    · exact (hh.obs j o hj).imp_left fun ⟨c, hc, hob⟩ => ⟨c, hc, hob.mono (fun _ _ h => h) (fun _ h => h) hro (hw c.1 fun e => e2 (hh.inj j q o k c b hj hq hc hb e))⟩
  · rcases hin i o hi with ⟨a1, a2⟩ | ⟨e1, e2, hi2⟩ <;> rcases hin j o' hj with ⟨a3, a4⟩ | ⟨e3, e4, hj2⟩
    · rw [a1, a3]
    · rw [a1, hl] at h1; cases h1
      exact absurd (hh.inj j q o' k d b hj2 hq h2 hb (h3.symm.trans he)) e4
    · rw [a3, hl] at h2; cases h2
      exact absurd (hh.inj i q o k c b hi2 hq h1 hb (h3.trans he)) e2
    · exact hh.inj i j o o' c d hi2 hj2 h1 h2 h3
  · rcases hin j o hj with ⟨rfl, rfl⟩ | ⟨e1, e2, hj⟩
    · rw [hl] at hc; cases hc
      rw [he]; exact hh.own q k b hq hb
    · exact hh.own j o c hj hc
theorem born_unique : ∀ {ms : List MapEntry} {i j : Nat} {m m' : MapEntry}, (ms.map (·.born)).Nodup → ms[i]? = some m → ms[j]? = some m' → m.born = m'.born → i = j
  | [], i, j, m, m', _, h, _, _ => by simp at h
  | x :: ms, 0, 0, m, m', _, _, _, _ => rfl
  | x :: ms, 0, j + 1, m, m', hn, h, h', e => by
    simp only [List.getElem?_cons_zero, Option.some.injEq] at h
    simp only [List.getElem?_cons_succ] at h'
    simp only [List.map_cons, List.nodup_cons] at hn
    subst h
    exact absurd (List.mem_map.2 ⟨m', List.mem_of_getElem? h', e.symm⟩) hn.1
  | x :: ms, i + 1, 0, m, m', hn, h, h', e => by
    simp only [List.getElem?_cons_zero, Option.some.injEq] at h'
    simp only [List.getElem?_cons_succ] at h
    simp only [List.map_cons, List.nodup_cons] at hn
    subst h'
    exact absurd (List.mem_map.2 ⟨m, List.mem_of_getElem? h, e⟩) hn.1
  | x :: ms, i + 1, j + 1, m, m', hn, h, h', e => by
    simp only [List.getElem?_cons_succ] at h h'
    simp only [List.map_cons, List.nodup_cons] at hn
    rw [born_unique hn.2 h h' e]
theorem aEntryStore_run {t : TypeId} {m s x : AV} {a b' xv : Value} {h h' : Hp} (hs : aEntryStore m s x h = some h') (hm : Rep μ ro w true m a) (hk : Rep μ ro w true s b') (hx : Rep μ ro w true x xv) (hh : HpRel μ ro h w) :
    ∃ w', (Instr.entryStore t a b' xv).run P w = .ok () w' ∧ HpRel μ ro h' w' ∧ Fr μ ro w μ w' := by
  unfold aEntryStore at hs
  split at hs
  · rename_i id q
    split at hs
    · rename_i id' kd es key hq
      split at hs
      · rename_i hc
        simp only [Bool.and_eq_true] at hc
        simp only [Option.some.injEq] at hs
        subst hs
        obtain ⟨hid, hc1, hc2, hc3⟩ := hc
        have hid := Nat.eq_of_beq_eq_true hid
        subst hid
        obtain ⟨b, hb⟩ := Option.isSome_iff_exists.1 hc1
        have hxv : Rep μ ro w false x xv := hx.pl hc2
        cases hm with
        | @mapr _ l0 hl0 =>
        cases hk with
        | @stp _ c hcq =>
        obtain ⟨l, ms, cl, p, m0, h1, h2, h3, h4, h5, h6, h7, h8, h9, h10, h11⟩ := hh.obsM q _ c hq hcq
        rw [hl0] at h1; cases h1
        rw [hb] at h11; cases h11
        have hlt := hh.lt q c hcq
        have hgo : (getObj l0.1).run P w = .ok (.map ms cl) w := by rw [h2]; simp [getObj, Sem.run, h3]
        have hkn : (ms.toList.map (·.key)).Nodup := (h4.map _).nodup_iff.1 (h5.nodup h8)
        -- the entry with this stamp
        obtain ⟨i, hi, hfi⟩ : ∃ i, ms[i]? = some m0 ∧ ms.findIdx? (fun e => (e.born : Int) == (c.2 : Int)) = some i := by
          cases hf : ms.findIdx? (fun e => (e.born : Int) == (c.2 : Int)) with
          | none =>
            rw [Array.findIdx?_eq_none_iff] at hf
            have := hf m0 (by simpa using h9)
            rw [h10] at this
            simp at this
          | some i =>
            rw [Array.findIdx?_eq_some_iff_getElem] at hf
            obtain ⟨hlti, hp, _⟩ := hf
            refine ⟨i, ?_, rfl⟩
            have hbi : ms[i].born = m0.born := by
              have : ((ms[i].born : Nat) : Int) = (c.2 : Int) := by simpa using hp
              omega
            obtain ⟨j, hj, e⟩ := List.getElem_of_mem h9
            have hij : i = j := by
              exact born_unique h7 (by rw [Array.getElem?_toList]; exact Array.getElem?_eq_getElem hlti) (by rw [List.getElem?_eq_getElem hj, e]) hbi
            subst hij
            rw [Array.getElem?_eq_getElem hlti]
            simpa using e
        have hmod : (ms.modify i fun e => { e with val := xv }).toList = ms.toList.map (gUp m0.key xv) := by
          rw [Array.toList_modify, ← modify_map (x := xv) hkn (by rw [Array.getElem?_toList]; exact hi) rfl]
          apply List.ext_getElem?
          intro r
          rw [List.getElem?_modify, List.getElem?_modify]
          by_cases e : i = r
          · subst e
            rw [Array.getElem?_toList, hi]
            simp
          · simp [e]
        obtain ⟨k1, k2⟩ := ents_set hb hxv h5 h8 (by intro e; rw [e] at hc3; cases hc3)
        obtain ⟨ms', hms'⟩ : ∃ ms', (ms.modify i fun e => { e with val := xv }) = ms' := ⟨_, rfl⟩
        rw [hms'] at hmod
        have hw1 : ∀ j, j ≠ c.1 → (w.heap.setIfInBounds l0.1 (.map ms' cl))[j]? = w.heap[j]? := fun j hj => by rw [h2, Array.getElem?_setIfInBounds_ne (Ne.symm hj)]
        have hw2 : (w.heap.setIfInBounds l0.1 (.map ms' cl))[l0.1]? = some (.map ms' cl) := by rw [h2, Array.getElem?_setIfInBounds_self_of_lt hlt]
        have hsz : (w.heap.setIfInBounds l0.1 (.map ms' cl)).size = w.heap.size := by simp
        have hown := hh.own q _ c hq hcq
        have hro : ∀ j, ro j → (w.heap.setIfInBounds l0.1 (.map ms' cl))[j]? = w.heap[j]? := fun j hj => hw1 j (fun e => hown (e ▸ hj))
        refine ⟨{ w with heap := w.heap.setIfInBounds l0.1 (.map ms' cl) }, ?_, ?_, Fr.write hcq rfl rfl rfl hsz hown hw1⟩
        · have hset : (setObj l0.1 (.map ms' cl)).run P w = .ok () { w with heap := w.heap.setIfInBounds l0.1 (.map ms' cl) } := by
            have : w.heap[l0.1]? = some (.map ms cl) := by rw [h2]; exact h3
            simp [setObj, Sem.run, this]
          simp only [Instr.entryStore, Sem.run_bind, hgo, Result.andThen_ok, asInt, asIntOf, Sem.run_pure, hfi, hms', hset]
        · refine hh.back hq hcq hl0 h2 hsz hw1 ⟨ms', cl, _, hw2, by rw [hmod]; exact h4.map _, k1.mono (fun _ _ h => h) (fun _ h => h) hro, fun e he => ?_, ?_, by rw [k2]; exact h8⟩
          · rw [hmod] at he
            obtain ⟨e', he', rfl⟩ := List.mem_map.1 he
            rw [gUp_born]; exact h6 e' he'
          · rw [hmod, List.map_map]
            have : ((fun e : MapEntry => e.born) ∘ gUp m0.key xv) = (fun e : MapEntry => e.born) := funext fun e => gUp_born
            rw [this]; exact h7
      · cases hs
    · cases hs
  · cases hs
end Go.Proofs.YtnlaiahcemckkaaGreatDoor.Av
