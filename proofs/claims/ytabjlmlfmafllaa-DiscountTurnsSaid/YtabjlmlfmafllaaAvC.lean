/- The operations on abstract values, and that each describes what the operation of the model comes to. -/
import Derived.Test.YtabjlmlfmafllaaAvB
import Derived.Laws.Strings
import Derived.IntWalk
set_option linter.unusedVariables false
set_option linter.unusedSimpArgs false
namespace Go.Proofs.Ytabjlmlfmafllaa.Av
open Go.RowKit

def allOk : List Prop → Prop
  | [] => True
  | [p] => p
  | p :: q :: ps => p ∧ allOk (q :: ps)
theorem allOk_cons {p : Prop} {ps : List Prop} : allOk (p :: ps) ↔ p ∧ allOk ps := by
  cases ps <;> simp [allOk]
theorem allOk_append : ∀ {p q : List Prop}, allOk (p ++ q) ↔ allOk p ∧ allOk q
  | [], q => by simp [allOk]
  | a :: p, q => by simp [allOk_cons, allOk_append, and_assoc]

/-- a value, under what is owed -/
abbrev W (α : Type) : Type := Option (α × List Prop)
namespace W
variable {α β : Type}
def pure (a : α) : W α := some (a, [])
def fail : W α := none
def bind (m : W α) (f : α → W β) : W β :=
  match m with
  | none => none
  | some (a, p) =>
    match f a with
    | none => none
    | some (b, q) =>
      match p with
      | [] => some (b, q)
      | p => some (b, p ++ q)
def of (o : Option α) : W α := match o with | some a => some (a, []) | none => none
/-- a condition: owed, or looked at -/
def req (sy : Bool) (p : Prop) [Decidable p] : W Unit := match sy with | true => some ((), [p]) | false => if p then some ((), []) else none
def sat (m : W α) (Q : α → Prop) : Prop := ∀ a ps, m = some (a, ps) → allOk ps → Q a
theorem sat_pure {a : α} {Q : α → Prop} (h : Q a) : (pure a).sat Q := by
  intro b ps e _; simp only [pure, Option.some.injEq, Prod.mk.injEq] at e; exact e.1 ▸ h
theorem sat_fail {Q : α → Prop} : (fail : W α).sat Q := by intro b ps e; cases e
theorem sat_none {Q : α → Prop} : W.sat (none : W α) Q := by intro b ps e; cases e
theorem sat_bind {m : W α} {f : α → W β} {Q : α → Prop} {R : β → Prop} (hm : m.sat Q) (hf : ∀ a, Q a → (f a).sat R) : (m.bind f).sat R := by
  intro b ps e h
  unfold bind at e
  cases hm' : m with
  | none => rw [hm'] at e; cases e
  | some x =>
    obtain ⟨a, p⟩ := x
    rw [hm'] at e
    simp only at e
    cases hf' : f a with
    | none => rw [hf'] at e; cases e
    | some y =>
      obtain ⟨b', q⟩ := y
      rw [hf'] at e
      have key : b' = b ∧ ps = p ++ q := by
        cases p with
        | nil => simp only [Option.some.injEq, Prod.mk.injEq] at e; exact ⟨e.1, e.2.symm⟩
        | cons x p => simp only [Option.some.injEq, Prod.mk.injEq] at e; exact ⟨e.1, e.2.symm⟩
      obtain ⟨rfl, rfl⟩ := key
      obtain ⟨h1, h2⟩ := allOk_append.1 h
      exact hf a (hm a p hm' h1) b' q hf' h2
theorem sat_of {o : Option α} {Q : α → Prop} (h : ∀ a, o = some a → Q a) : (of o).sat Q := by
  intro b ps e _
  cases o with
  | none => cases e
  | some a => simp only [of, Option.some.injEq, Prod.mk.injEq] at e; exact e.1 ▸ h a rfl
theorem sat_req {sy : Bool} {p : Prop} [Decidable p] : (req sy p).sat fun _ => p := by
  intro b ps e h
  unfold req at e
  cases sy
  · simp only at e
    split at e
    · assumption
    · cases e
  · simp only [Option.some.injEq, Prod.mk.injEq] at e
    obtain ⟨_, rfl⟩ := e
    exact h
theorem sat_mono {m : W α} {Q R : α → Prop} (h : m.sat Q) (k : ∀ a, Q a → R a) : m.sat R := fun a ps e ho => k a (h a ps e ho)
/-- something that is owed as it is -/
def owe (p : Prop) : W Unit := some ((), [p])
theorem sat_owe {p : Prop} : (owe p).sat fun _ => p := by
  intro b ps e h
  simp only [owe, Option.some.injEq, Prod.mk.injEq] at e
  obtain ⟨_, rfl⟩ := e
  exact h
end W

/-- an integer brought to its literal -/
def force {α : Type} (z : Int) (k : Int → α) : α :=
  match z with
  | .ofNat 0 => k 0
  | .ofNat (m + 1) => k (.ofNat (m + 1))
  | .negSucc 0 => k (.negSucc 0)
  | .negSucc (m + 1) => k (.negSucc (m + 1))
theorem force_eq {α : Type} (z : Int) (k : Int → α) : force z k = k z := by
  unfold force; split <;> rfl

/-- what is told of one operation -/
inductive Hint where
  | c
  | a
  | w
  | b (β : Bool)
  | i (j : Nat)
  | v (vs : List AV)
  | s (l h : Nat)
  | m (l c : Nat)
  | by (bs : List UInt8)
  | ap (k : Nat)
  | st
def Hint.sy : Hint → Bool
  | .c => false
  | _ => true

/-- what an operation that gives a value has to do -/
def Good (P : Program) (s : Sem Value) (μ : Nat → Option Loc) (ro : Nat → Prop) (w : World) (n : Nat) (v : AV) (h' : Hp) : Prop :=
  ∃ v' w' μ', s.run P w = .ok v' w' ∧ agree n μ μ' ∧ Rep μ' ro w' true v v' ∧ HpRel μ' ro h' w' ∧ Fr μ ro w μ' w'

variable {P : Program} {μ μ' : Nat → Option Loc} {ro ro' : Nat → Prop} {w w' : World}

theorem Good.of_pure {s : Sem Value} {v : AV} {v' : Value} {h : Hp} (hr : s.run P w = .ok v' w) (hv : Rep μ ro w true v v') (hh : HpRel μ ro h w) : Good P s μ ro w h.nx v h :=
  ⟨v', w, μ, hr, .refl _ _, hv, hh, Fr.refl _ _ _⟩

theorem heap_new (w : World) (o : Obj) : (w.alloc o).heap[w.heap.size]? = some o := by
  show (w.heap.push o)[w.heap.size]? = _
  rw [Array.getElem?_push, if_pos rfl]

theorem new_core {h : Hp} {cs : Array Value} {e : TypeId} {k : Blk} (hh : HpRel μ ro h w) (he : k.e = e) (hl : k.c.length ≤ cs.size) (hx : k.ext = false → cs.size = k.c.length)
    (hc : ∀ i, i < k.c.length → Rep μ ro w (!k.pl) (k.c.getD i .any) (cs.getD i undef)) :
    HpRel (upd μ h.nx (w.heap.size, cs.size)) ro (h.new (.blk k)) (w.alloc (.cells cs e)) ∧ Fr μ ro w (upd μ h.nx (w.heap.size, cs.size)) (w.alloc (.cells cs e)) := by
  refine ⟨hh.new _ _ _ ?_, Fr.alloc hh _ _⟩
  subst he
  refine ⟨⟨cs, (0, 0), heap_new w _, rfl, hl, hx, fun i h1 h2 => absurd h2 (Nat.not_lt_zero i), fun i hi => ?_⟩⟩
  exact (hc i hi).mono (upd_le hh _) (fun _ h => h) (fun b hb => Below.heap_alloc _ _ _ (hh.old b hb))

/-- a new block of cells -/
theorem Good.of_new {s : Sem Value} {h : Hp} {cs : Array Value} {e : TypeId} {k : Blk} {v : AV} {v' : Value} (hh : HpRel μ ro h w)
    (hr : s.run P w = .ok v' (w.alloc (.cells cs e))) (he : k.e = e) (hl : k.c.length ≤ cs.size) (hx : k.ext = false → cs.size = k.c.length) (hc : ∀ i, i < k.c.length → Rep μ ro w (!k.pl) (k.c.getD i .any) (cs.getD i undef))
    (hv : Rep (upd μ h.nx (w.heap.size, cs.size)) ro (w.alloc (.cells cs e)) true v v') : Good P s μ ro w h.nx v (h.new (.blk k)) :=
  let ⟨h1, h2⟩ := new_core hh he hl hx hc
  ⟨v', _, _, hr, upd_agree _ _, hv, h1, h2⟩

/-! ### integers -/
theorem wrap_id (k : IntKind) (x : Int) (h : k.min ≤ x ∧ x ≤ k.max) : k.wrap x = x := by
  cases k <;> simp only [IntKind.min, IntKind.max, IntKind.signed, IntKind.bits] at h <;> (simp at h)
  · exact IntWalk.i8_in x h
  · exact IntWalk.i16_in x h
  · exact IntWalk.i32_in x h
  · exact IntWalk.i64_in x h
  · exact IntWalk.u8_in x h
  · exact IntWalk.u16_in x h
  · exact IntWalk.u32_in x h
  · exact IntWalk.u64_in x h

def aInt (hn : Hint) (k : IntKind) (x : Int) : W AV :=
  match hn with
  | .w => some (.int k x, [k.min ≤ x ∧ x ≤ k.max])
  | .c => force (k.wrap x) fun z => some (.int k z, [])
  | _ => some (.int k (k.wrap x), [])
theorem aInt_sat {hn : Hint} {k : IntKind} {x : Int} : (aInt hn k x).sat fun v => v = .int k (k.wrap x) := by
  intro v ps e h
  unfold aInt at e
  split at e
  · simp only [Option.some.injEq, Prod.mk.injEq] at e
    obtain ⟨rfl, rfl⟩ := e
    rw [wrap_id k x h]
  · rw [force_eq] at e
    simp only [Option.some.injEq, Prod.mk.injEq] at e
    exact e.1.symm
  · simp only [Option.some.injEq, Prod.mk.injEq] at e
    exact e.1.symm
/-- an integer as it is -/
def aRaw (hn : Hint) (k : IntKind) (x : Int) : W AV :=
  match hn with
  | .c => force x fun z => some (.int k z, [])
  | _ => some (.int k x, [])
theorem aRaw_sat {hn : Hint} {k : IntKind} {x : Int} : (aRaw hn k x).sat fun v => v = .int k x := by
  intro v ps e h
  unfold aRaw at e
  split at e
  · rw [force_eq] at e
    simp only [Option.some.injEq, Prod.mk.injEq] at e
    exact e.1.symm
  · simp only [Option.some.injEq, Prod.mk.injEq] at e
    exact e.1.symm

def bitsOp (op : BinOp) (k : IntKind) (x y : Int) : Option Int :=
  match op with
  | .and => some (BitVec.ofInt k.bits x &&& BitVec.ofInt k.bits y).toNat
  | .or => some (BitVec.ofInt k.bits x ||| BitVec.ofInt k.bits y).toNat
  | .xor => some (BitVec.ofInt k.bits x ^^^ BitVec.ofInt k.bits y).toNat
  | .andNot => some (BitVec.ofInt k.bits x &&& ~~~(BitVec.ofInt k.bits y)).toNat
  | _ => none

def cmpOp (op : BinOp) (x y : Int) : Option Bool :=
  match op with
  | .eql => some (x == y)
  | .neq => some (x != y)
  | .lss => some (decide (x < y))
  | .leq => some (decide (x ≤ y))
  | .gtr => some (decide (x > y))
  | .geq => some (decide (x ≥ y))
  | _ => none

def aBinInt (hn : Hint) (op : BinOp) (k : IntKind) (x y : Int) : W AV :=
  match op with
  | .add => aInt hn k (x + y)
  | .sub => aInt hn k (x - y)
  | .mul => aInt hn k (x * y)
  | .quo => (W.req hn.sy (y ≠ 0)).bind fun _ => aInt hn k (x.tdiv y)
  | .rem => (W.req hn.sy (y ≠ 0)).bind fun _ => aRaw hn k (x.tmod y)
  | .shl => (W.req hn.sy (0 ≤ y)).bind fun _ => aInt hn k (x * 2 ^ (min y.toNat k.bits))
  | .shr => (W.req hn.sy (0 ≤ y)).bind fun _ => aRaw hn k (x.fdiv (2 ^ (min y.toNat k.bits)))
  | .and | .or | .xor | .andNot => (W.of (bitsOp op k x y)).bind fun z => aInt hn k z
  | op => (W.of (cmpOp op x y)).bind fun b => W.pure (.bool b)

theorem aBinInt_sat {hn : Hint} {op : BinOp} {k k' : IntKind} {x y : Int} (t : TypeId) (hk : (match op with | .shl | .shr => true | _ => false) = true ∨ k = k') :
    (aBinInt hn op k x y).sat fun v => ∃ v', (∀ w, (binOp op t (.int k x) (.int k' y)).run P w = .ok v' w) ∧ ∀ μ ro w o, Rep μ ro w o v v' := by
  have fin : ∀ {v : AV} {z : Int}, v = .int k z → ∀ μ ro w o, Rep μ ro w o v (.int k z) := fun h μ ro w o => by subst h; exact .int
  cases op <;> simp only [aBinInt]
  case add =>
    obtain rfl := hk.resolve_left (by simp)
    exact W.sat_mono aInt_sat fun v hv => ⟨_, fun w => by simp [binOp, Op.intArith], fin hv⟩
  case sub =>
    obtain rfl := hk.resolve_left (by simp)
    exact W.sat_mono aInt_sat fun v hv => ⟨_, fun w => by simp [binOp, Op.intArith], fin hv⟩
  case mul =>
    obtain rfl := hk.resolve_left (by simp)
    exact W.sat_mono aInt_sat fun v hv => ⟨_, fun w => by simp [binOp, Op.intArith], fin hv⟩
  case quo =>
    obtain rfl := hk.resolve_left (by simp)
    exact W.sat_bind W.sat_req fun _ hy => W.sat_mono aInt_sat fun v hv => ⟨_, fun w => by simp [binOp, Op.intDiv, hy], fin hv⟩
  case rem =>
    obtain rfl := hk.resolve_left (by simp)
    exact W.sat_bind W.sat_req fun _ hy => W.sat_mono aRaw_sat fun v hv => ⟨_, fun w => by simp [binOp, Op.intDiv, hy], fin hv⟩
  case shl =>
    exact W.sat_bind W.sat_req fun _ hy => W.sat_mono aInt_sat fun v hv => ⟨_, fun w => by simp [binOp, Op.shift, Int.not_lt.2 hy], fin hv⟩
  case shr =>
    exact W.sat_bind W.sat_req fun _ hy => W.sat_mono aRaw_sat fun v hv => ⟨_, fun w => by simp [binOp, Op.shift, Int.not_lt.2 hy], fin hv⟩
  case and =>
    obtain rfl := hk.resolve_left (by simp)
    exact W.sat_bind (W.sat_of (Q := fun z => bitsOp .and k x y = some z) fun z hz => hz) fun z hz => W.sat_mono aInt_sat fun v hv => ⟨_, fun w => by simp only [bitsOp, Option.some.injEq] at hz; subst hz; simp [binOp, Op.intBits], fin hv⟩
  case or =>
    obtain rfl := hk.resolve_left (by simp)
    exact W.sat_bind (W.sat_of (Q := fun z => bitsOp .or k x y = some z) fun z hz => hz) fun z hz => W.sat_mono aInt_sat fun v hv => ⟨_, fun w => by simp only [bitsOp, Option.some.injEq] at hz; subst hz; simp [binOp, Op.intBits], fin hv⟩
  case xor =>
    obtain rfl := hk.resolve_left (by simp)
    exact W.sat_bind (W.sat_of (Q := fun z => bitsOp .xor k x y = some z) fun z hz => hz) fun z hz => W.sat_mono aInt_sat fun v hv => ⟨_, fun w => by simp only [bitsOp, Option.some.injEq] at hz; subst hz; simp [binOp, Op.intBits], fin hv⟩
  case andNot =>
    obtain rfl := hk.resolve_left (by simp)
    exact W.sat_bind (W.sat_of (Q := fun z => bitsOp .andNot k x y = some z) fun z hz => hz) fun z hz => W.sat_mono aInt_sat fun v hv => ⟨_, fun w => by simp only [bitsOp, Option.some.injEq] at hz; subst hz; simp [binOp, Op.intBits], fin hv⟩
  all_goals
    obtain rfl := hk.resolve_left (by simp)
    refine W.sat_bind (W.sat_of (Q := fun b => cmpOp _ x y = some b) fun b hb => hb) fun b hb => W.sat_pure ⟨.bool b, fun w => ?_, fun _ _ _ _ => .bool⟩
    simp only [cmpOp, Option.some.injEq] at hb
    subst hb
    simp [binOp, Op.intCmp]

end Go.Proofs.Ytabjlmlfmafllaa.Av
