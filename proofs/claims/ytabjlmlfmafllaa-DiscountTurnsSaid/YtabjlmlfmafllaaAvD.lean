/- Strings, comparisons, parts of values, pointers, loads and stores. -/
import Derived.Test.YtabjlmlfmafllaaAvC
import Derived.Laws.StructEq
set_option linter.unusedVariables false
set_option linter.unusedSimpArgs false
namespace Go.Proofs.Ytabjlmlfmafllaa.Av
open Go.RowKit

variable {P : Program} {μ μ' : Nat → Option Loc} {ro ro' : Nat → Prop} {w w' : World}

/-- what runs to a value without a look at the memory -/
def Plain (P : Program) (s : Sem Value) (v : AV) : Prop := ∃ v', (∀ w, s.run P w = .ok v' w) ∧ ∀ μ ro w o, Rep μ ro w o v v'

/-! ### strings -/
def aStr (hn : Hint) (op : BinOp) (x y : List UInt8) : W AV :=
  match op with
  | .add => (W.req hn.sy (x.length + y.length ≤ 9223372036854775807)).bind fun _ => W.pure (.str (x ++ y))
  | .eql => W.pure (.bool (x == y))
  | .neq => W.pure (.bool !(x == y))
  | .lss => W.pure (.bool (Op.bytesLess x y))
  | .leq => W.pure (.bool (Op.bytesLess x y || x == y))
  | .gtr => W.pure (.bool !(Op.bytesLess x y || x == y))
  | .geq => W.pure (.bool !(Op.bytesLess x y))
  | _ => W.fail

theorem bytes_len (b : ByteArray) : b.data.toList.length = b.size := by cases b; rfl

theorem aStr_sat {hn : Hint} {op : BinOp} {t : TypeId} {x y : List UInt8} {a b : ByteArray} (ha : a.data.toList = x) (hb : b.data.toList = y) :
    (aStr hn op x y).sat fun v => ∃ v', (∀ w, (binOp op t (.string a) (.string b)).run P w = .ok v' w) ∧ ∀ μ ro w o, Rep μ ro w o v v' := by
  subst ha; subst hb
  cases op <;> simp only [aStr]
  case add =>
    refine W.sat_bind W.sat_req fun _ h => W.sat_pure ⟨.string (a ++ b), fun w => ?_, fun _ _ _ _ => .str (by simp)⟩
    rw [bytes_len, bytes_len] at h
    have : ¬ (((a.size + b.size : Nat) : Int) > IntKind.i64.max) := by
      simp [IntKind.max, IntKind.signed, IntKind.bits]; omega
    simp only [binOp, Op.stringOp, if_neg this]
    rfl
  all_goals first
    | exact W.sat_fail
    | exact W.sat_pure ⟨.bool _, fun w => by simp [binOp, Op.stringOp, ByteArray.toList_eq], fun _ _ _ _ => .bool⟩

/-! ### parts of values -/
/-- a part of so many cells as a value of its type -/
def asVal (ag : Bool) (c : List AV) : Option AV :=
  match ag with
  | true => some (.agg c)
  | false => match c with | [v] => some v | _ => none

def aPart (P : Program) (t : TypeId) (c : List AV) (off : Nat) : Option AV :=
  match P.underlying t, szOf P t with
  | some d, some n =>
    match isAggD d with
    | true => match Nat.ble (off + n) c.length with | true => some (.agg (sub c off n)) | false => none
    | false => c[off]?
  | _, _ => none
theorem aPart_run {t : TypeId} {c : List AV} {off : Nat} {v : AV} {vs : List Value} {o : Bool} (h : aPart P t c off = some v) (hc : Reps μ ro w o c vs) :
    ∃ v', (∀ w, (part t vs.toArray off).run P w = .ok v' w) ∧ Rep μ ro w o v v' := by
  unfold aPart szOf at h
  split at h
  · rename_i d n hd hn
    cases hi : P.info? t with
    | none => rw [hi] at hn; cases hn
    | some i =>
      rw [hi] at hn
      simp only [Option.map_some, Option.some.injEq] at hn
      subst hn
      split at h
      · rename_i ha
        split at h
        · rename_i hl
          simp only [Option.some.injEq] at h
          subst h
          have hl' := Nat.le_of_ble_eq_true hl
          refine ⟨.agg (vs.toArray.extract off (off + i.size)), fun w => ?_, ?_⟩
          · simp [part, r_isAgg hd, ha, r_sizeOf hi, Result.andThen]
          · have := (hc.sub off i.size).agg
            have e : (List.take i.size (List.drop off vs)).toArray = vs.toArray.extract off (off + i.size) := by
              simp [List.extract_eq_take_drop]
            rwa [e] at this
        · cases h
      · rename_i ha
        have hlt : off < c.length := (List.getElem?_eq_some_iff.1 h).1
        have hv := hc.2 off hlt
        have e : c.getD off .any = v := by simp [List.getD, h]
        rw [e] at hv
        refine ⟨vs.getD off undef, fun w => ?_, hv⟩
        have hg : vs.toArray[off]? = some (vs.getD off undef) := by
          rw [List.getElem?_toArray]; exact getD_list vs off undef (by rw [hc.1]; exact hlt)
        simp only [part, Sem.run_bind, r_isAgg hd, ha, Result.andThen_ok]
        simp [hg]
  · cases h

/-! ### equality that looks at no memory -/
/-- '==' of two values, where it needs no look: pointers, slices, functions and interface values against nil -/
def aEq0 (P : Program) (t : TypeId) (x y : AV) : Option Bool :=
  match P.underlying t, x, y with
  | some .bool, .bool a, .bool b => some (a == b)
  | some (.pointer _), .nilp, .nilp => some true
  | some (.pointer _), .nilp, .ptr _ _ => some false
  | some (.pointer _), .ptr _ _, .nilp => some false
  | some (.pointer _), .rop _ _, .nilp => some false
  | some (.pointer _), .nilp, .rop _ _ => some false
  | some (.slice _), .nils, .nils => some true
  | some (.slice _), .nils, .sl .. => some false
  | some (.slice _), .nils, .lst (_ :: _) _ => some false
  | some (.slice _), .sl .., .nils => some false
  | some (.slice _), .nils, .nen => some false
  | some (.slice _), .nen, .nils => some false
  | some (.slice _), .lst (_ :: _) _, .nils => some false
  | some (.func _ _ _), .nilf, .nilf => some true
  | some (.func _ _ _), .nilf, .fn .. => some false
  | some (.func _ _ _), .fn .., .nilf => some false
  | some (.interface _), .nili, .ifc .. => some false
  | some (.interface _), .ifc .., .nili => some false
  | _, _, _ => none

theorem aEq0_run {t : TypeId} {x y : AV} {b : Bool} {a c : Value} {o o' : Bool} (h : aEq0 P t x y = some b) (hx : Rep μ ro w o x a) (hy : Rep μ ro w o' y c) :
    (∀ d w, (Op.equalIn (d + 1) t a c).run P w = .ok b w) ∧ (∀ op p q w, (eqGuard op t p q a c).run P w = .ok () w) ∧
    (∀ w, (binOp .eql t a c).run P w = .ok (.bool b) w) ∧ (∀ w, (binOp .neq t a c).run P w = .ok (.bool !b) w) := by
  have key : (∀ d w, (Op.equalIn (d + 1) t a c).run P w = .ok b w) ∧ (∀ op p q w, (eqGuard op t p q a c).run P w = .ok () w) ∧
      binOp .eql t a c = (do pure (.bool (← Op.equal t a c)) : Sem Value) ∧ binOp .neq t a c = (do pure (.bool (!(← Op.equal t a c))) : Sem Value) := by
    unfold aEq0 at h
    split at h <;> simp only [Option.some.injEq, reduceCtorEq] at h <;> subst h <;> rename_i hu <;> cases hx <;> cases hy <;>
      exact ⟨fun d w => by simp only [Op.equalIn, Sem.run_bind, r_underlying hu, Result.andThen_ok]; rfl, fun op p q w => by cases op <;> rfl, rfl, rfl⟩
  obtain ⟨h1, h2, h3, h4⟩ := key
  have h1' : ∀ w, (Op.equal t a c).run P w = .ok b w := h1 9999
  exact ⟨h1, h2, fun w => by rw [h3]; simp [h1', Result.andThen], fun w => by rw [h4]; simp [h1', Result.andThen]⟩

/-- '==' of structures, field by field -/
def aEqFs (P : Program) (go : TypeId → AV → AV → Option Bool) (xs ys : List AV) : List Field → Option Bool
  | [] => some true
  | f :: fs =>
    if f.name ≠ "_" then
      match aPart P f.type xs f.offset, aPart P f.type ys f.offset with
      | some a, some b =>
        match go f.type a b with
        | some r => match aEqFs P go xs ys fs with | some q => some (r && q) | none => none
        | none => none
      | _, _ => none
    else aEqFs P go xs ys fs
def aEqD (P : Program) : Nat → TypeId → AV → AV → Option Bool
  | 0, _, _, _ => none
  | d + 1, t, x, y =>
    match x, y with
    | .agg xs, .agg ys => match P.underlying t, P.stoodInHeld t with | some (.struct fs), false => aEqFs P (aEqD P d) xs ys fs.toList | _, _ => none
    | .int k a, .int k' b => match P.underlying t, decide (k = k') with | some (.int _), true => some (a == b) | _, _ => none
    | .str a, .str b => match P.underlying t with | some .string => some (a == b) | _ => none
    | x, y => aEq0 P t x y
theorem aEqFs_run {go : TypeId → AV → AV → Option Bool} {e : Nat} {o o' : Bool} (hgo : ∀ t x y b a c, go t x y = some b → Rep μ ro w o x a → Rep μ ro w o' y c → ∀ w1, (Op.equalIn e t a c).run P w1 = .ok b w1) {xs ys : List AV} {vs us : List Value}
    (hx : Reps μ ro w o xs vs) (hy : Reps μ ro w o' ys us) : ∀ (l : List Field) (b : Bool), aEqFs P go xs ys l = some b → ∀ w1, (Op.eqFields e vs.toArray us.toArray l).run P w1 = .ok b w1
  | [], b, h, w1 => by simp only [aEqFs, Option.some.injEq] at h; subst h; rfl
  | f :: fs, b, h, w1 => by
    simp only [aEqFs] at h
    simp only [Op.eqFields]
    by_cases hn : f.name ≠ "_"
    · rw [if_pos hn] at h ⊢
      split at h
      · rename_i a c ha hc
        split at h
        · rename_i r hr
          split at h
          · rename_i q hq
            simp only [Option.some.injEq] at h
            subst h
            obtain ⟨a', ha1, ha2⟩ := aPart_run ha hx
            obtain ⟨c', hc1, hc2⟩ := aPart_run hc hy
            simp only [Sem.run_bind, ha1, hc1, Result.andThen_ok, hgo _ _ _ _ _ _ hr ha2 hc2]
            cases r with
            | false => rfl
            | true =>
              have := aEqFs_run hgo hx hy fs q hq w1
              simpa using this
          · cases h
        · cases h
      · cases h
    · rw [if_neg hn] at h ⊢
      exact aEqFs_run hgo hx hy fs b h w1
theorem bytes_beq {a b : ByteArray} : (a == b) = (a.data.toList == b.data.toList) := by
  obtain ⟨⟨x⟩⟩ := a
  obtain ⟨⟨y⟩⟩ := b
  show ((⟨x⟩ : Array UInt8) == ⟨y⟩) = (x == y)
  simp
theorem aEqD_run : ∀ (d : Nat) {o o' : Bool} (t : TypeId) (x y : AV) (b : Bool) (a c : Value), aEqD P d t x y = some b → Rep μ ro w o x a → Rep μ ro w o' y c → ∀ (k : Nat) (w1 : World), (Op.equalIn (d + k) t a c).run P w1 = .ok b w1
  | 0, o, o', t, x, y, b, a, c, h, _, _ => by cases h
  | d + 1, o, o', t, x, y, b, a, c, h, hx, hy => by
    intro k w1
    simp only [aEqD] at h
    rw [show d + 1 + k = (d + k) + 1 by omega]
    split at h
    · obtain ⟨vs, rfl, hvs⟩ := hx.agg_inv
      obtain ⟨us, rfl, hus⟩ := hy.agg_inv
      split at h
      · rename_i fs hu hs
        have hf : P.fieldsOf t = fs := by unfold Program.fieldsOf; rw [hu]
        rw [run_equalIn_struct w1 (d + k) t _ _ (by rw [hf]; exact hu) hs, hf]
        exact aEqFs_run (fun t x y b a c h1 h2 h3 w2 => aEqD_run d t x y b a c h1 h2 h3 k w2) hvs hus fs.toList b h w1
      · cases h
    · cases hx; cases hy
      split at h
      · rename_i hu hk
        simp only [Option.some.injEq] at h
        subst h
        have := of_decide_eq_true hk
        subst this
        simp [Op.equalIn, r_underlying hu]
      · cases h
    · cases hx; cases hy
      rename_i a' ha b' hb
      split at h
      · rename_i hu
        simp only [Option.some.injEq] at h
        subst h; subst ha; subst hb
        simp [Op.equalIn, r_underlying hu, bytes_beq]
      · cases h
    · have := (aEq0_run h hx hy).1 (d + k)
      exact this w1
def aEq (P : Program) (t : TypeId) (x y : AV) : Option Bool :=
  match x, y with
  | .agg _, .agg _ => match P.eqGuardType P.depth t with | false => aEqD P 30 t x y | true => none
  | x, y => aEq0 P t x y
theorem aEq_run {t : TypeId} {x y : AV} {b : Bool} {a c : Value} {o o' : Bool} (h : aEq P t x y = some b) (hx : Rep μ ro w o x a) (hy : Rep μ ro w o' y c) :
    (∀ op p q w, (eqGuard op t p q a c).run P w = .ok () w) ∧
    (∀ w, (binOp .eql t a c).run P w = .ok (.bool b) w) ∧ (∀ w, (binOp .neq t a c).run P w = .ok (.bool !b) w) := by
  unfold aEq at h
  split at h
  · split at h
    · rename_i hg
      have h1 := aEqD_run 30 t _ _ b a c h hx hy 9970
      obtain ⟨vs, rfl, hvs⟩ := hx.agg_inv
      obtain ⟨us, rfl, hus⟩ := hy.agg_inv
      refine ⟨fun op p q w => run_eqGuard_agg w op t p q _ _ hg, fun w => ?_, fun w => ?_⟩
      · rw [run_eql_struct w, h1]; rfl
      · rw [run_neq_struct w, h1]; rfl
    · cases h
  · exact (aEq0_run h hx hy).2

def aBin (P : Program) (hn : Hint) (op : BinOp) (t : TypeId) (x y : AV) : W AV :=
  match x, y with
  | .int k a, .int k' b =>
    match op with
    | .shl | .shr => aBinInt hn op k a b
    | op => match decide (k = k') with | true => aBinInt hn op k a b | false => W.fail
  | .str a, .str b => aStr hn op a b
  | x, y =>
    match op with
    | .eql => (W.of (aEq P t x y)).bind fun b => W.pure (.bool b)
    | .neq => (W.of (aEq P t x y)).bind fun b => W.pure (.bool !b)
    | _ => W.fail

theorem aBin_sat {hn : Hint} {op : BinOp} {t : TypeId} {x y : AV} {a c : Value} {o o' : Bool} {p q : Operand} (hx : Rep μ ro w o x a) (hy : Rep μ ro w o' y c) :
    (aBin P hn op t x y).sat fun v => Plain P (do eqGuard op t p q a c; binOp op t a c) v := by
  unfold aBin
  split
  · cases hx; cases hy
    rename_i k a k' b
    have hg : ∀ w, (eqGuard op t p q (.int k a) (.int k' b)).run P w = .ok () w := fun w => by cases op <;> rfl
    have lift : ∀ {v : AV}, (∃ v', (∀ w, (binOp op t (.int k a) (.int k' b)).run P w = .ok v' w) ∧ ∀ μ ro w o, Rep μ ro w o v v') →
        Plain P (do eqGuard op t p q (.int k a) (.int k' b); binOp op t (.int k a) (.int k' b)) v := fun ⟨v', h1, h2⟩ => ⟨v', fun w => by simp [hg, h1, Result.andThen], h2⟩
    split
    · exact W.sat_mono (aBinInt_sat (P := P) (k' := k') t (.inl rfl)) fun v hv => lift hv
    · exact W.sat_mono (aBinInt_sat (P := P) (k' := k') t (.inl rfl)) fun v hv => lift hv
    · split
      · rename_i hk
        exact W.sat_mono (aBinInt_sat (P := P) (k' := k') t (.inr (by simpa using hk))) fun v hv => lift hv
      · exact W.sat_fail
  · rename_i a b
    cases hx; cases hy
    rename_i a' ha b' hb
    have hg : ∀ w, (eqGuard op t p q (.string a') (.string b')).run P w = .ok () w := fun w => by cases op <;> rfl
    exact W.sat_mono (aStr_sat (P := P) (t := t) ha hb) fun v ⟨v', h1, h2⟩ => ⟨v', fun w => by simp [hg, h1, Result.andThen], h2⟩
  · split
    · refine W.sat_bind (W.sat_of (Q := fun b => aEq P t x y = some b) fun b hb => hb) fun b hb => W.sat_pure ?_
      obtain ⟨h2, h3, _⟩ := aEq_run hb hx hy
      exact ⟨.bool b, fun w => by simp [h2, h3, Result.andThen], fun _ _ _ _ => .bool⟩
    · refine W.sat_bind (W.sat_of (Q := fun b => aEq P t x y = some b) fun b hb => hb) fun b hb => W.sat_pure ?_
      obtain ⟨h2, _, h4⟩ := aEq_run hb hx hy
      exact ⟨.bool !b, fun w => by simp [h2, h4, Result.andThen], fun _ _ _ _ => .bool⟩
    · exact W.sat_fail

def aUn (hn : Hint) (op : UnOp) (x : AV) : W AV :=
  match op, x with
  | .neg, .int k n => aInt hn k (0 - n)
  | .xor, .int k n => (W.of (bitsOp .xor k (if k.signed then -1 else k.max) n)).bind fun z => aInt hn k z
  | .not, .bool b => W.pure (.bool !b)
  | _, _ => W.fail
theorem aUn_sat {hn : Hint} {op : UnOp} {x : AV} {a : Value} {o : Bool} (hx : Rep μ ro w o x a) : (aUn hn op x).sat fun v => Plain P (Op.unary op a) v := by
  unfold aUn
  split
  · cases hx
    exact W.sat_mono aInt_sat fun v hv => ⟨.int _ _, fun w => rfl, fun _ _ _ _ => by subst hv; exact .int⟩
  · cases hx
    refine W.sat_bind (W.sat_of (Q := fun z => bitsOp .xor _ _ _ = some z) fun z hz => hz) fun z hz => W.sat_mono aInt_sat fun v hv => ⟨_, fun w => ?_, fun _ _ _ _ => by subst hv; exact .int⟩
    simp only [bitsOp, Option.some.injEq] at hz
    subst hz
    simp [Op.unary, Op.intBits]
  · cases hx
    exact W.sat_pure ⟨_, fun w => rfl, fun _ _ _ _ => .bool⟩
  · exact W.sat_fail

def aField (P : Program) (t : TypeId) (x : AV) (f : Nat) : Option AV :=
  match P.underlying t, x with
  | some (.struct fs), .agg c => match fs[f]? with | some g => aPart P g.type c g.offset | none => none
  | _, _ => none
theorem aField_run {t : TypeId} {x : AV} {a : Value} {f : Nat} {v : AV} {o : Bool} (h : aField P t x f = some v) (hx : Rep μ ro w o x a) :
    ∃ v', (∀ w, (Instr.field t a f).run P w = .ok v' w) ∧ Rep μ ro w o v v' := by
  unfold aField at h
  split at h
  · rename_i fs c hu
    obtain ⟨vs, rfl, hc⟩ := hx.agg_inv
    cases hf : fs[f]? with
    | none => rw [hf] at h; cases h
    | some g =>
      rw [hf] at h
      obtain ⟨v', h1, h2⟩ := aPart_run h hc
      exact ⟨v', fun w => by simp [Instr.field, r_underlying hu, hf, asAgg, h1, Result.andThen], h2⟩
  · cases h

/-- an index: a literal, or told -/
def aIdx (hn : Hint) (x : Int) (n : Nat) : W Nat :=
  match hn with
  | .i j => some (j, [x = (j : Int) ∧ j < n])
  | _ => match x with | .ofNat j => (W.req hn.sy (j < n)).bind fun _ => W.pure j | _ => W.fail
theorem aIdx_sat {hn : Hint} {x : Int} {n : Nat} : (aIdx hn x n).sat fun j => x = (j : Int) ∧ j < n := by
  unfold aIdx
  split
  · intro a ps e h
    simp only [Option.some.injEq, Prod.mk.injEq] at e
    obtain ⟨rfl, rfl⟩ := e
    exact h
  · split
    · exact W.sat_bind W.sat_req fun _ h => W.sat_pure ⟨rfl, h⟩
    · exact W.sat_fail

def aIndex (P : Program) (hn : Hint) (t : TypeId) (x i : AV) : W AV :=
  match P.underlying t, x, i with
  | some .string, .str s, .int _ n => (aIdx hn n s.length).bind fun j => W.pure (.int .u8 (s.getD j 0).toNat)
  | some (.array len e), .agg c, .int _ n => (aIdx hn n len).bind fun j => (W.of (szOf P e)).bind fun z => W.of (aPart P e c (j * z))
  | _, _, _ => W.fail
theorem aIndex_sat {hn : Hint} {t : TypeId} {x i : AV} {a b : Value} {o o' : Bool} (hx : Rep μ ro w o x a) (hi : Rep μ ro w o' i b) :
    (aIndex P hn t x i).sat fun v => ∃ v', (∀ w, (Instr.index t a b).run P w = .ok v' w) ∧ Rep μ ro w o v v' := by
  unfold aIndex
  split
  · rename_i s k n hu
    cases hx; cases hi
    rename_i b hb
    refine W.sat_bind aIdx_sat fun j ⟨hj, hlt⟩ => W.sat_pure ⟨_, fun w => ?_, .int⟩
    subst hb; subst hj
    have hlt' : j < b.size := by rw [← bytes_len]; exact hlt
    have hg : b[j]? = some (b.data.toList.getD j 0) := by
      rw [getElem?_pos b j hlt', ByteArray.getElem_eq_getElem_data]
      have := getD_list b.data.toList j 0 hlt
      rw [List.getElem?_eq_getElem hlt] at this
      rw [← this]
      simp
    simp [Instr.index, asIntOf, r_underlying hu, hg, Result.andThen]
  · rename_i len e c k n hu
    cases hi
    obtain ⟨vs, rfl, hc⟩ := hx.agg_inv
    refine W.sat_bind aIdx_sat fun j ⟨hj, hlt⟩ => W.sat_bind (W.sat_of (Q := fun z => szOf P e = some z) fun z hz => hz) fun z hz => W.sat_of fun v hv => ?_
    obtain ⟨v', h1, h2⟩ := aPart_run hv hc
    refine ⟨v', fun w => ?_, h2⟩
    subst hj
    cases hi : P.info? e with
    | none => simp [szOf, hi] at hz
    | some i =>
      simp only [szOf, hi, Option.map_some, Option.some.injEq] at hz
      subst hz
      have : (0 : Int) ≤ j ∧ (j : Int) < len := ⟨by omega, by omega⟩
      simp [Instr.index, asIntOf, r_underlying hu, r_sizeOf hi, Result.andThen, this, h1]
      intro h; omega
  · exact W.sat_fail

def aExtract (x : AV) (i : Nat) : Option AV := match x with | .tup c => c[i]? | _ => none
theorem aExtract_run {x v : AV} {a : Value} {i : Nat} {o : Bool} (h : aExtract x i = some v) (hx : Rep μ ro w o x a) :
    ∃ v', (∀ w, (Instr.extract a i).run P w = .ok v' w) ∧ Rep μ ro w o v v' := by
  unfold aExtract at h
  split at h
  · obtain ⟨vs, rfl, hc⟩ := hx.tup_inv
    have hlt := (List.getElem?_eq_some_iff.1 h).1
    have hv := hc.2 i hlt
    rename_i c
    rw [show c.getD i .any = v by simp [List.getD, h]] at hv
    refine ⟨_, fun w => ?_, hv⟩
    have hg : vs.toArray[i]? = some (vs.getD i undef) := by rw [List.getElem?_toArray]; exact getD_list vs i undef (by rw [hc.1]; exact hlt)
    simp only [Instr.extract, hg]
    rfl
  · cases h

def aPick (c a b : AV) : Option AV :=
  match c with
  | .bool β =>
    match a, b with
    | .bool x, .bool y => some (.bool (bif β then x else y))
    | a, b => match β with | true => some a | false => some b
  | _ => none
theorem aPick_run {c a b v : AV} {x y z : Value} {o : Bool} (h : aPick c a b = some v) (hc : Rep μ ro w o c x) (ha : Rep μ ro w o a y) (hb : Rep μ ro w o b z) :
    ∃ v', (∀ w, (do pure (if ← asBool x then y else z) : Sem Value).run P w = .ok v' w) ∧ Rep μ ro w o v v' := by
  unfold aPick at h
  split at h
  · rename_i β
    cases hc
    refine ⟨if β then y else z, fun w => by simp [asBool, Result.andThen], ?_⟩
    split at h
    · cases ha; cases hb
      simp only [Option.some.injEq] at h
      subst h
      cases β <;> exact .bool
    · split at h <;> simp only [Option.some.injEq] at h <;> subst h
      · exact ha
      · exact hb
  · cases h

/-- a choice that is told -/
def aPickH (hn : Hint) (c a b : AV) : W AV :=
  match hn with
  | .b β => (match c with | .bool x => (W.owe (x = β)).bind fun _ => (match β with | true => W.pure a | false => W.pure b) | _ => W.fail)
  | _ => W.of (aPick c a b)
theorem aPickH_sat {hn : Hint} {c a b : AV} {x y z : Value} {o : Bool} (hc : Rep μ ro w o c x) (ha : Rep μ ro w o a y) (hb : Rep μ ro w o b z) :
    (aPickH hn c a b).sat fun v => ∃ v', (∀ w, (do pure (if ← asBool x then y else z) : Sem Value).run P w = .ok v' w) ∧ Rep μ ro w o v v' := by
  unfold aPickH
  split
  · rename_i β
    split
    · rename_i q
      refine W.sat_bind W.sat_owe fun _ he => ?_
      subst he
      cases hc
      cases q with
      | true => exact W.sat_pure ⟨y, fun w => by simp [asBool, Result.andThen], ha⟩
      | false => exact W.sat_pure ⟨z, fun w => by simp [asBool, Result.andThen], hb⟩
    · exact W.sat_fail
  · exact W.sat_of fun v hv => aPick_run hv hc ha hb
end Go.Proofs.Ytabjlmlfmafllaa.Av
