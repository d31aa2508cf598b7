/- The abstract values, blocks and states, and what it means that they describe values and a world. -/
import Derived.Calls
import Derived.Orders
import Derived.Below
import Derived.Laws.World
import Derived.Laws.Sem
import Derived.Laws.Cells
set_option linter.unusedVariables false
set_option linter.unusedSimpArgs false
namespace Go.Proofs.Ytabjlmlfmafllaa.Av
open Go.RowKit

/-- a finite map on numbers -/
inductive Tr (α : Type) where
  | e
  | n (l : Tr α) (v : Option α) (r : Tr α)

namespace Tr
variable {α : Type}
def get : Tr α → Nat → Option α
  | .e, _ => none
  | .n l v r, k => bif Nat.beq k 0 then v else bif Nat.beq (k % 2) 1 then l.get (k / 2) else r.get (k / 2 - 1)
def putF : Nat → Tr α → Nat → Option α → Tr α
  | 0, t, _, _ => t
  | f + 1, .e, k, x => bif Nat.beq k 0 then .n .e x .e else bif Nat.beq (k % 2) 1 then .n (putF f .e (k / 2) x) none .e else .n .e none (putF f .e (k / 2 - 1) x)
  | f + 1, .n l v r, k, x => bif Nat.beq k 0 then .n l x r else bif Nat.beq (k % 2) 1 then .n (putF f l (k / 2) x) v r else .n l v (putF f r (k / 2 - 1) x)
def put (t : Tr α) (k : Nat) (x : Option α) : Tr α := putF (k + 1) t k x
def of : List (Nat × α) → Tr α
  | [] => .e
  | (k, x) :: l => (of l).put k (some x)

theorem get_e (k : Nat) : (Tr.e : Tr α).get k = none := rfl
theorem putF_get : ∀ (f : Nat) (t : Tr α) (k j : Nat) (x : Option α), k < f → (putF f t k x).get j = if j = k then x else t.get j := by
  intro f
  induction f with
  | zero => intro t k j x h; omega
  | succ f ih =>
    intro t k j x h
    have hb : ∀ a b : Nat, Nat.beq a b = decide (a = b) := fun a b => by
      by_cases h : a = b
      · subst h; simp
      · simp only [h, decide_false]
        cases hh : Nat.beq a b
        · rfl
        · exact absurd (Nat.eq_of_beq_eq_true hh) h
    cases t with
    | e =>
      simp only [putF, hb]
      by_cases h0 : k = 0
      · subst h0; by_cases hj : j = 0 <;> simp [get, hb, hj]
      · by_cases h1 : k % 2 = 1
        · simp only [h0, h1, decide_true, decide_false, cond_true, cond_false, get, hb]
          by_cases hj : j = 0
          · subst hj; simp; intro e; omega
          · by_cases hj1 : j % 2 = 1
            · simp only [hj, hj1, decide_true, decide_false, cond_true, cond_false]
              rw [ih _ _ _ _ (by omega)]
              have : j / 2 = k / 2 ↔ j = k := by omega
              simp only [this, get]
            · simp only [hj, hj1, decide_true, decide_false, cond_true, cond_false]
              rw [if_neg (by intro e; subst e; exact hj1 h1)]
        · simp only [h0, h1, decide_true, decide_false, cond_true, cond_false, get, hb]
          by_cases hj : j = 0
          · subst hj; simp; intro e; omega
          · by_cases hj1 : j % 2 = 1
            · simp only [hj, hj1, decide_true, decide_false, cond_true, cond_false]
              rw [if_neg (by intro e; subst e; exact h1 hj1)]
            · simp only [hj, hj1, decide_true, decide_false, cond_true, cond_false]
              rw [ih _ _ _ _ (by omega)]
              have : j / 2 - 1 = k / 2 - 1 ↔ j = k := by omega
              simp only [this, get]
    | n l v r =>
      simp only [putF, hb]
      by_cases h0 : k = 0
      · subst h0; by_cases hj : j = 0 <;> simp [get, hb, hj]
      · by_cases h1 : k % 2 = 1
        · simp only [h0, h1, decide_true, decide_false, cond_true, cond_false, get, hb]
          by_cases hj : j = 0
          · subst hj; simp; intro e; omega
          · by_cases hj1 : j % 2 = 1
            · simp only [hj, hj1, decide_true, decide_false, cond_true, cond_false]
              rw [ih _ _ _ _ (by omega)]
              have : j / 2 = k / 2 ↔ j = k := by omega
              simp only [this, get]
            · simp only [hj, hj1, decide_true, decide_false, cond_true, cond_false]
              rw [if_neg (by intro e; subst e; exact hj1 h1)]
        · simp only [h0, h1, decide_true, decide_false, cond_true, cond_false, get, hb]
          by_cases hj : j = 0
          · subst hj; simp; intro e; omega
          · by_cases hj1 : j % 2 = 1
            · simp only [hj, hj1, decide_true, decide_false, cond_true, cond_false]
              rw [if_neg (by intro e; subst e; exact h1 hj1)]
            · simp only [hj, hj1, decide_true, decide_false, cond_true, cond_false]
              rw [ih _ _ _ _ (by omega)]
              have : j / 2 - 1 = k / 2 - 1 ↔ j = k := by omega
              simp only [this, get]
theorem get_put (t : Tr α) (k j : Nat) (x : Option α) : (t.put k x).get j = if j = k then x else t.get j := putF_get _ _ _ _ _ (Nat.lt_succ_self k)
end Tr

/-- An abstract value: what is known of a value. Owned memory by a number, memory that is only read by what it holds. -/
inductive AV where
  | any
  | bool (b : Bool)
  | int (k : IntKind) (n : Int)
  | str (s : List UInt8)
  | ptr (id off : Nat)
  | nilp
  | rop (c : List AV) (off : Nat)
  | sl (id off len cap : Nat) (ex : Bool) (z : Nat)
  | lst (c : List AV) (n : Nat)
  | vec (id n z : Nat)
  | nils
  | nen
  | agg (c : List AV)
  | tup (c : List AV)
  | fn (f : Fn) (first captured : List AV)
  | nilf
  | ifc (t : TypeId) (v : AV)
  | nili
  deriving Inhabited

/-- where owned memory lies: the block, and how many cells it has -/
abbrev Loc : Type := Nat × Nat

/-- 'v' describes 'x': 'μ' says where owned blocks lie, 'ro' which blocks stay as they are; 'o': may owned memory be met -/
inductive Rep (μ : Nat → Option Loc) (ro : Nat → Prop) (w : World) : Bool → AV → Value → Prop where
  | any {o : Bool} {v : Value} : Rep μ ro w o .any v
  | bool {o : Bool} {b : Bool} : Rep μ ro w o (.bool b) (.bool b)
  | int {o : Bool} {k : IntKind} {n : Int} : Rep μ ro w o (.int k n) (.int k n)
  | str {o : Bool} {s : List UInt8} {b : ByteArray} (h : b.data.toList = s) : Rep μ ro w o (.str s) (.string b)
  | ptr {id off : Nat} {b : Loc} (h : μ id = some b) : Rep μ ro w true (.ptr id off) (.pointer (some ⟨b.1, off, none⟩))
  | nilp {o : Bool} : Rep μ ro w o .nilp (.pointer none)
  | rop {o : Bool} {c : List AV} {off b p : Nat} (vs : Nat → Value) (hb : ro b)
      (hc : ∀ i, i < c.length → w.cell? ⟨b, p + i, none⟩ = some (vs i)) (hr : ∀ i, i < c.length → Rep μ ro w false (c.getD i .any) (vs i)) :
      Rep μ ro w o (.rop c off) (.pointer (some ⟨b, p + off, none⟩))
  | sl {id off len cap cap' z : Nat} {b : Loc} {ex : Bool} (h : μ id = some b) (h1 : cap ≤ cap') (h2 : ex = true → cap' = cap) (h3 : off + cap' * z ≤ b.2) :
      Rep μ ro w true (.sl id off len cap ex z) (.slice (some ⟨b.1, off, none⟩) len cap')
  | vec {id n z cap' : Nat} {b : Loc} (h : μ id = some b) (h1 : n ≤ cap') (h3 : cap' * z ≤ b.2) : Rep μ ro w true (.vec id n z) (.slice (some ⟨b.1, 0, none⟩) n cap')
  | vecn {id z : Nat} : Rep μ ro w true (.vec id 0 z) (.slice none 0 0)
  | lst {o : Bool} {c : List AV} {n cap' : Nat} {a : Addr} (vs : Nat → Value) (hb : c ≠ [] → ro a.block ∧ a.spot = none)
      (hc : ∀ i, i < c.length → w.cell? ⟨a.block, a.off + i, none⟩ = some (vs i)) (hr : ∀ i, i < c.length → Rep μ ro w false (c.getD i .any) (vs i)) (hn : n ≤ cap') :
      Rep μ ro w o (.lst c n) (.slice (some a) n cap')
  | lstn {o : Bool} : Rep μ ro w o (.lst [] 0) (.slice none 0 0)
  | nils {o : Bool} : Rep μ ro w o .nils (.slice none 0 0)
  | nen {o : Bool} {a : Addr} {cap' : Nat} : Rep μ ro w o .nen (.slice (some a) 0 cap')
  | agg {o : Bool} {c : List AV} {vs : Array Value} (hn : vs.size = c.length) (hr : ∀ i, i < c.length → Rep μ ro w o (c.getD i .any) (vs.getD i undef)) : Rep μ ro w o (.agg c) (.agg vs)
  | tup {o : Bool} {c : List AV} {vs : Array Value} (hn : vs.size = c.length) (hr : ∀ i, i < c.length → Rep μ ro w o (c.getD i .any) (vs.getD i undef)) : Rep μ ro w o (.tup c) (.tuple vs)
  | fn {o : Bool} {f : Fn} {a c : List AV} {as cs : Array Value} (hn : as.size = a.length) (hr : ∀ i, i < a.length → Rep μ ro w o (a.getD i .any) (as.getD i undef))
      (hm : cs.size = c.length) (hs : ∀ i, i < c.length → Rep μ ro w o (c.getD i .any) (cs.getD i undef)) : Rep μ ro w o (.fn f a c) (.func f as cs)
  | nilf {o : Bool} : Rep μ ro w o .nilf .nilFunc
  | ifc {o : Bool} {t : TypeId} {v : AV} {x : Value} (h : Rep μ ro w o v x) : Rep μ ro w o (.ifc t v) (.iface t x)
  | nili {o : Bool} : Rep μ ro w o .nili .nilIface

variable {μ μ' : Nat → Option Loc} {ro ro' : Nat → Prop} {w w' : World}

/-- what is said goes on to hold where nothing that is only read has turned -/
theorem Rep.mono {o : Bool} {v : AV} {x : Value} (h : Rep μ ro w o v x) (hμ : ∀ i b, μ i = some b → μ' i = some b) (hro : ∀ b, ro b → ro' b)
    (hw : ∀ b, ro b → w'.heap[b]? = w.heap[b]?) : Rep μ' ro' w' o v x := by
  have hcell : ∀ b i, ro b → w'.cell? ⟨b, i, none⟩ = w.cell? ⟨b, i, none⟩ := fun b i hb => by simp only [World.cell?, hw b hb]
  induction h with
  | any => exact .any
  | bool => exact .bool
  | int => exact .int
  | str h => exact .str h
  | ptr h => exact .ptr (hμ _ _ h)
  | nilp => exact .nilp
  | rop vs hb hc _ ih => exact .rop vs (hro _ hb) (fun i hi => (hcell _ _ hb).trans (hc i hi)) (fun i hi => ih i hi)
  | sl h h1 h2 h3 => exact .sl (hμ _ _ h) h1 h2 h3
  | vec h h1 h3 => exact .vec (hμ _ _ h) h1 h3
  | vecn => exact .vecn
  | lstn => exact .lstn
  | lst vs hb hc _ hn ih =>
    refine .lst vs (fun hne => ⟨hro _ (hb hne).1, (hb hne).2⟩) (fun i hi => ?_) (fun i hi => ih i hi) hn
    have hne := hb (fun e => by subst e; simp at hi)
    exact (hcell _ _ hne.1).trans (hc i hi)
  | nils => exact .nils
  | nen => exact .nen
  | agg hn _ ih => exact .agg hn fun i hi => ih i hi
  | tup hn _ ih => exact .tup hn fun i hi => ih i hi
  | fn hn _ hm _ ih ih' => exact .fn hn (fun i hi => ih i hi) hm (fun i hi => ih' i hi)
  | nilf => exact .nilf
  | ifc _ ih => exact .ifc ih
  | nili => exact .nili

/-- a slice without elements: nil or not -/
theorem Rep.lst_cases {o : Bool} {x : Value} (h : Rep μ ro w o (.lst [] 0) x) : Rep μ ro w o .nils x ∨ Rep μ ro w o .nen x := by
  cases h with
  | lstn => exact .inl .nils
  | lst => exact .inr .nen

theorem Rep.up {v : AV} {x : Value} (h : Rep μ ro w false v x) : Rep μ ro w true v x := by
  generalize ho : false = o at h
  induction h with
  | any => exact .any
  | bool => exact .bool
  | int => exact .int
  | str h => exact .str h
  | ptr h => cases ho
  | nilp => exact .nilp
  | rop vs hb hc hr _ => exact .rop vs hb hc hr
  | sl h h1 h2 h3 => cases ho
  | vec h h1 h3 => cases ho
  | vecn => cases ho
  | lst vs hb hc hr hn _ => exact .lst vs hb hc hr hn
  | lstn => exact .lstn
  | nils => exact .nils
  | nen => exact .nen
  | agg hn _ ih => exact .agg hn fun i hi => ih i hi ho
  | tup hn _ ih => exact .tup hn fun i hi => ih i hi ho
  | fn hn _ hm _ ih ih' => exact .fn hn (fun i hi => ih i hi ho) hm (fun i hi => ih' i hi ho)
  | nilf => exact .nilf
  | ifc _ ih => exact .ifc (ih ho)
  | nili => exact .nili
theorem Rep.any_o {o : Bool} {v : AV} {x : Value} (h : Rep μ ro w false v x) : Rep μ ro w o v x := by
  cases o
  · exact h
  · exact h.up

/-- holds of all in order -/
def Reps (μ : Nat → Option Loc) (ro : Nat → Prop) (w : World) (o : Bool) (c : List AV) (vs : List Value) : Prop :=
  vs.length = c.length ∧ ∀ i, i < c.length → Rep μ ro w o (c.getD i .any) (vs.getD i undef)

/-- an abstract block: its cells as far as they are known; 'ext': there may be more; below 'fz' it is not written; 'pl': it holds no owned memory -/
structure Blk where
  c : List AV
  e : TypeId
  ext : Bool
  fz : Nat
  pl : Bool
  o : Bool := false
  it : Option (List UInt8 × Nat) := none

inductive Ob where
  | blk (b : Blk)
  | iter (s : List UInt8) (pos : Nat)

/-- what a description stands for -/
def Blk.ob (b : Blk) : Ob := match b.it with | none => .blk b | some (s, p) => .iter s p

structure BlkRel (μ : Nat → Option Loc) (ro : Nat → Prop) (w : World) (b : Loc) (k : Blk) : Prop where
  mk' ::
  get : ∃ (cs : Array Value) (fr : Nat × Nat), w.heap[b.1]? = some (.cells cs k.e fr) ∧ cs.size = b.2 ∧ k.c.length ≤ cs.size ∧ (k.ext = false → cs.size = k.c.length) ∧
    (∀ i, fr.1 ≤ i → i < fr.2 → i < k.fz ∨ cs.size ≤ i) ∧ (∀ i, i < k.c.length → Rep μ ro w (!k.pl) (k.c.getD i .any) (cs.getD i undef))

def ObRel (μ : Nat → Option Loc) (ro : Nat → Prop) (w : World) (b : Loc) : Ob → Prop
  | .blk k => BlkRel μ ro w b k
  | .iter s pos => ∃ t : ByteArray, w.heap[b.1]? = some (.stringIter t pos) ∧ t.data.toList = s

theorem BlkRel.mono {b : Loc} {k : Blk} (h : BlkRel μ ro w b k) (hμ : ∀ i b, μ i = some b → μ' i = some b) (hro : ∀ b, ro b → ro' b)
    (hw : ∀ b, ro b → w'.heap[b]? = w.heap[b]?) (hb : w'.heap[b.1]? = w.heap[b.1]?) : BlkRel μ' ro' w' b k := by
  obtain ⟨cs, fr, h1, h0, h2, h3, h4, h5⟩ := h.get
  exact ⟨cs, fr, hb.trans h1, h0, h2, h3, h4, fun i hi => (h5 i hi).mono hμ hro hw⟩
theorem ObRel.mono {b : Loc} {k : Ob} (h : ObRel μ ro w b k) (hμ : ∀ i b, μ i = some b → μ' i = some b) (hro : ∀ b, ro b → ro' b)
    (hw : ∀ b, ro b → w'.heap[b]? = w.heap[b]?) (hb : w'.heap[b.1]? = w.heap[b.1]?) : ObRel μ' ro' w' b k := by
  cases k with
  | blk k => exact BlkRel.mono h hμ hro hw hb
  | iter s pos => obtain ⟨t, h1, h2⟩ := h; exact ⟨t, hb.trans h1, h2⟩

/-- a block that may not be there at all: it has no cells -/
def Ob.abs : Ob → Prop
  | .blk k => k.o = true ∧ k.c = []
  | _ => False
/-- the heap: what is owned, and the next number -/
structure Hp where
  m : Tr Ob
  nx : Nat

structure HpRel (μ : Nat → Option Loc) (ro : Nat → Prop) (h : Hp) (w : World) : Prop where
  obs : ∀ i k, h.m.get i = some k → (∃ b, μ i = some b ∧ ObRel μ ro w b k) ∨ (μ i = none ∧ k.abs ∧ i < h.nx)
  inj : ∀ i j k l (b c : Loc), h.m.get i = some k → h.m.get j = some l → μ i = some b → μ j = some c → b.1 = c.1 → i = j
  own : ∀ i k (b : Loc), h.m.get i = some k → μ i = some b → ¬ ro b.1
  lt : ∀ i (b : Loc), μ i = some b → b.1 < w.heap.size
  old : ∀ b, ro b → b < w.heap.size
  nx : ∀ i, h.nx ≤ i → μ i = none

theorem HpRel.obsI {h : Hp} (hh : HpRel μ ro h w) (i : Nat) (s : List UInt8) (p : Nat) (hi : h.m.get i = some (.iter s p)) : ∃ b, μ i = some b ∧ ObRel μ ro w b (.iter s p) := by
  rcases hh.obs i _ hi with h | ⟨_, h⟩
  · exact h
  · exact h.1.elim
theorem HpRel.obsM {h : Hp} (hh : HpRel μ ro h w) (i : Nat) (k : Ob) (l : Loc) (hi : h.m.get i = some k) (hl : μ i = some l) : ObRel μ ro w l k := by
  rcases hh.obs i _ hi with ⟨b, h1, h2⟩ | ⟨h1, _⟩
  · rw [hl] at h1; cases h1; exact h2
  · rw [hl] at h1; cases h1

/-- the numbers below n lie where they lay -/
def agree (n : Nat) (μ μ' : Nat → Option Loc) : Prop := ∀ i, i < n → μ' i = μ i
theorem agree.refl (n : Nat) (μ : Nat → Option Loc) : agree n μ μ := fun _ _ => rfl
theorem agree.trans {n : Nat} {μ'' : Nat → Option Loc} (h : agree n μ μ') (k : agree n μ' μ'') : agree n μ μ'' := fun i hi => (k i hi).trans (h i hi)
theorem agree.mono {n m : Nat} (h : agree n μ μ') (hm : m ≤ n) : agree m μ μ' := fun i hi => h i (Nat.lt_of_lt_of_le hi hm)
theorem agree.ext {n : Nat} (h : agree n μ μ') (hn : ∀ i, n ≤ i → μ i = none) : ∀ i b, μ i = some b → μ' i = some b := fun i b hb => by
  rcases Nat.lt_or_ge i n with hi | hi
  · rw [h i hi]; exact hb
  · rw [hn i hi] at hb; cases hb

/-- what a step leaves alone: what is only read, and whatever no number names; it names new blocks only, or such as were named -/
structure Fr (μ : Nat → Option Loc) (ro : Nat → Prop) (w : World) (μ' : Nat → Option Loc) (w' : World) : Prop where
  os : w'.os = w.os
  tape : w'.tape = w.tape
  output : w'.output = w.output
  size : w.heap.size ≤ w'.heap.size
  block : ∀ b, ro b → w'.heap[b]? = w.heap[b]?
  rest : ∀ b, b < w.heap.size → (∀ i l, μ i = some l → l.1 ≠ b) → w'.heap[b]? = w.heap[b]?
  new : ∀ i l, μ' i = some l → (∃ j m, μ j = some m ∧ m.1 = l.1) ∨ w.heap.size ≤ l.1
theorem Fr.refl (μ : Nat → Option Loc) (ro : Nat → Prop) (w : World) : Fr μ ro w μ w := ⟨rfl, rfl, rfl, Nat.le_refl _, fun _ _ => rfl, fun _ _ _ => rfl, fun i l h => .inl ⟨i, l, h, rfl⟩⟩
theorem Fr.trans {μ'' : Nat → Option Loc} {w'' : World} (h : Fr μ ro w μ' w') (k : Fr μ' ro' w' μ'' w'') (hro : ∀ b, ro b → ro' b) : Fr μ ro w μ'' w'' :=
  ⟨k.os.trans h.os, k.tape.trans h.tape, k.output.trans h.output, Nat.le_trans h.size k.size, fun b hb => (k.block b (hro b hb)).trans (h.block b hb),
   fun b hb hn => (k.rest b (Nat.lt_of_lt_of_le hb h.size) (fun i l hi e => by
     rcases h.new i l hi with ⟨j, m, hj, hm⟩ | hl
     · exact hn j m hj (hm.trans e)
     · omega)).trans (h.rest b hb hn),
   fun i l hi => by
     rcases k.new i l hi with ⟨j, m, hj, hm⟩ | hl
     · rcases h.new j m hj with ⟨j', m', hj', hm'⟩ | hl
       · exact .inl ⟨j', m', hj', hm'.trans hm⟩
       · exact .inr (by omega)
     · exact .inr (Nat.le_trans h.size hl)⟩
theorem Fr.weaken (h : Fr μ ro' w μ' w') (hro : ∀ b, ro b → ro' b) : Fr μ ro w μ' w' := ⟨h.os, h.tape, h.output, h.size, fun b hb => h.block b (hro b hb), h.rest, h.new⟩
/-- fewer numbers before -/
theorem Fr.pre {μ0 : Nat → Option Loc} (h : Fr μ0 ro w μ' w') (hn : ∀ i l, μ0 i = some l → ∃ j m, μ j = some m ∧ m.1 = l.1) : Fr μ ro w μ' w' :=
  ⟨h.os, h.tape, h.output, h.size, h.block, fun b hb hb2 => h.rest b hb fun i l hi e => by
     obtain ⟨j, m, hj, hm⟩ := hn i l hi
     exact hb2 j m hj (hm.trans e),
   fun i l hi => by
     rcases h.new i l hi with ⟨j, m, hj, hm⟩ | hl
     · obtain ⟨j', m', hj', hm'⟩ := hn j m hj
       exact .inl ⟨j', m', hj', hm'.trans hm⟩
     · exact .inr hl⟩

theorem Fr.drew (μ : Nat → Option Loc) (ro : Nat → Prop) (w : World) : Fr μ ro w μ w.drew := ⟨rfl, rfl, rfl, Nat.le_refl _, fun _ _ => rfl, fun _ _ _ => rfl, fun i l h => .inl ⟨i, l, h, rfl⟩⟩
theorem HpRel.drew {h : Hp} (hh : HpRel μ ro h w) : HpRel μ ro h w.drew :=
  ⟨fun i k hk => (hh.obs i k hk).imp_left fun ⟨b, h1, h2⟩ => ⟨b, h1, h2.mono (fun _ _ h => h) (fun _ h => h) (fun _ _ => rfl) rfl⟩, hh.inj, hh.own, hh.lt, hh.old, hh.nx⟩

/-- 'h' at a world that differs only outside of what is owned or only read -/
theorem HpRel.same {h : Hp} (hh : HpRel μ ro h w) (hs : w.heap.size ≤ w'.heap.size) (hro : ∀ b, ro b → w'.heap[b]? = w.heap[b]?)
    (hown : ∀ i k (b : Loc), h.m.get i = some k → μ i = some b → w'.heap[b.1]? = w.heap[b.1]?) : HpRel μ ro h w' :=
  ⟨fun i k hk => (hh.obs i k hk).imp_left fun ⟨b, h1, h2⟩ => ⟨b, h1, h2.mono (fun _ _ h => h) (fun _ h => h) hro (hown i k b hk h1)⟩, hh.inj, hh.own,
   fun i b hb => Nat.lt_of_lt_of_le (hh.lt i b hb) hs, fun b hb => Nat.lt_of_lt_of_le (hh.old b hb) hs, hh.nx⟩

/-- a new block -/
def Hp.new (h : Hp) (k : Ob) : Hp := ⟨h.m.put h.nx (some k), h.nx + 1⟩
def upd (μ : Nat → Option Loc) (i : Nat) (b : Loc) : Nat → Option Loc := fun j => if j = i then some b else μ j

theorem upd_le {h : Hp} (hh : HpRel μ ro h w) (n : Loc) : ∀ i b, μ i = some b → upd μ h.nx n i = some b := fun i b hb => by
  unfold upd
  rw [if_neg (by intro e; have := hh.nx i (by omega); rw [this] at hb; cases hb)]
  exact hb

theorem upd_agree (n : Nat) (l : Loc) : agree n μ (upd μ n l) := fun i hi => by
  unfold upd
  rw [if_neg (by omega)]

/-- a block that comes in: new in memory, or one that is no longer named -/
theorem HpRel.add {h : Hp} (hh : HpRel μ ro h w) (k : Ob) (l : Loc) (hs : w.heap.size ≤ w'.heap.size) (hl : l.1 < w'.heap.size) (hnew : ∀ i k' b, h.m.get i = some k' → μ i = some b → b.1 ≠ l.1) (hro : ¬ ro l.1)
    (hw : ∀ j, j ≠ l.1 → j < w.heap.size → w'.heap[j]? = w.heap[j]?) (hk : ObRel (upd μ h.nx l) ro w' l k) : HpRel (upd μ h.nx l) ro (h.new k) w' := by
  have hμ := upd_le hh l
  have hr : ∀ b, ro b → w'.heap[b]? = w.heap[b]? := fun b hb => hw b (fun e => hro (e ▸ hb)) (hh.old b hb)
  constructor
  · intro i k' hi
    simp only [Hp.new, Tr.get_put] at hi
    by_cases e : i = h.nx
    · subst e
      simp only [if_true, Option.some.injEq] at hi
      subst hi
      exact .inl ⟨l, by simp [upd], hk⟩
    · rw [if_neg e] at hi
      rcases hh.obs i k' hi with ⟨b, hb, hob⟩ | ⟨hb, hab⟩
      · exact .inl ⟨b, hμ _ _ hb, hob.mono hμ (fun _ h => h) hr (hw _ (hnew i k' b hi hb) (hh.lt i b hb))⟩
      · exact .inr ⟨by unfold upd; rw [if_neg e]; exact hb, hab.1, Nat.lt_succ_of_lt hab.2⟩
  · intro i j k' m b c hi hj hbi hbj hbc
    simp only [Hp.new, Tr.get_put] at hi hj
    unfold upd at hbi hbj
    by_cases e : i = h.nx <;> by_cases e' : j = h.nx
    · omega
    · rw [if_pos e] at hbi; rw [if_neg e'] at hbj hj
      simp only [Option.some.injEq] at hbi
      exact absurd (hbc.symm.trans (by rw [hbi])) (hnew j m c hj hbj)
    · rw [if_neg e] at hbi hi; rw [if_pos e'] at hbj
      simp only [Option.some.injEq] at hbj
      exact absurd (hbc.trans (by rw [hbj])) (hnew i k' b hi hbi)
    · rw [if_neg e] at hbi hi; rw [if_neg e'] at hbj hj
      exact hh.inj i j k' m b c hi hj hbi hbj hbc
  · intro i k' b hi hb hrb
    simp only [Hp.new, Tr.get_put] at hi
    unfold upd at hb
    by_cases e : i = h.nx
    · rw [if_pos e] at hb
      simp only [Option.some.injEq] at hb
      subst hb
      exact hro hrb
    · rw [if_neg e] at hb hi
      exact hh.own i k' b hi hb hrb
  · intro i b hb
    unfold upd at hb
    by_cases e : i = h.nx
    · rw [if_pos e] at hb
      simp only [Option.some.injEq] at hb
      subst hb
      exact hl
    · rw [if_neg e] at hb
      exact Nat.lt_of_lt_of_le (hh.lt i b hb) hs
  · intro b hb
    exact Nat.lt_of_lt_of_le (hh.old b hb) hs
  · intro i hi
    simp only [Hp.new] at hi
    unfold upd
    rw [if_neg (by omega)]
    exact hh.nx i (by omega)

theorem HpRel.new {h : Hp} (hh : HpRel μ ro h w) (o : Obj) (k : Ob) (n : Nat)
    (hk : ObRel (upd μ h.nx (w.heap.size, n)) ro (w.alloc o) (w.heap.size, n) k) : HpRel (upd μ h.nx (w.heap.size, n)) ro (h.new k) (w.alloc o) :=
  hh.add k _ (by simp) (by simp) (fun i k' b hi hb => Nat.ne_of_lt (hh.lt i b hb)) (fun hr => Nat.lt_irrefl _ (hh.old _ hr)) (fun j _ hj => Below.heap_alloc w o j hj) hk

theorem Fr.alloc {h : Hp} (hh : HpRel μ ro h w) (o : Obj) (n : Nat) : Fr μ ro w (upd μ h.nx (w.heap.size, n)) (w.alloc o) :=
  ⟨rfl, rfl, rfl, by simp, fun b hb => Below.heap_alloc _ _ _ (hh.old b hb), fun b hb _ => Below.heap_alloc _ _ _ hb, fun i l hi => by
    unfold upd at hi
    split at hi
    · simp only [Option.some.injEq] at hi; subst hi; exact .inr (Nat.le_refl _)
    · exact .inl ⟨i, l, hi, rfl⟩⟩
/-- one named block written -/
theorem Fr.write {b : Loc} {i : Nat} (hb : μ i = some b) (os : w'.os = w.os) (tape : w'.tape = w.tape) (output : w'.output = w.output) (size : w'.heap.size = w.heap.size) (hro : ¬ ro b.1)
    (hw : ∀ j, j ≠ b.1 → w'.heap[j]? = w.heap[j]?) : Fr μ ro w μ w' :=
  ⟨os, tape, output, Nat.le_of_eq size.symm, fun c hc => hw c (fun e => hro (e ▸ hc)), fun c _ hn => hw c (fun e => hn i b hb e.symm), fun j l h => .inl ⟨j, l, h, rfl⟩⟩

/-- a block that is written -/
def Hp.set (h : Hp) (i : Nat) (k : Ob) : Hp := ⟨h.m.put i (some k), h.nx⟩
theorem HpRel.set {h : Hp} (hh : HpRel μ ro h w) {i : Nat} {b : Loc} {k k' : Ob} (hi : h.m.get i = some k) (hb : μ i = some b) (hs : w.heap.size ≤ w'.heap.size)
    (hw : ∀ j, j ≠ b.1 → j < w.heap.size → w'.heap[j]? = w.heap[j]?) (hk : ObRel μ ro w' b k') : HpRel μ ro (h.set i k') w' := by
  have hro : ∀ j, ro j → w'.heap[j]? = w.heap[j]? := fun j hj => hw j (fun e => hh.own i k b hi hb (e ▸ hj)) (hh.old j hj)
  have hin : ∀ j l, (h.set i k').m.get j = some l → ∃ l', h.m.get j = some l' := fun j l hj => by
    simp only [Hp.set, Tr.get_put] at hj
    by_cases e : j = i
    · exact ⟨k, e ▸ hi⟩
    · rw [if_neg e] at hj; exact ⟨l, hj⟩
  constructor
  · intro j l hj
    simp only [Hp.set, Tr.get_put] at hj
    by_cases e : j = i
    · rw [if_pos e] at hj
      simp only [Option.some.injEq] at hj
      subst hj
      exact .inl ⟨b, e ▸ hb, hk⟩
    · rw [if_neg e] at hj
      exact (hh.obs j l hj).imp_left fun ⟨c, hc, hob⟩ => ⟨c, hc, hob.mono (fun _ _ h => h) (fun _ h => h) hro (hw c.1 (fun e' => e (hh.inj j i l k c b hj hi hc hb e')) (hh.lt j c hc))⟩
  · intro j j' l l' c d hj hj' h1 h2 h3
    obtain ⟨m, hm⟩ := hin j l hj
    obtain ⟨m', hm'⟩ := hin j' l' hj'
    exact hh.inj j j' m m' c d hm hm' h1 h2 h3
  · intro j l c hj hc
    obtain ⟨m, hm⟩ := hin j l hj
    exact hh.own j m c hm hc
  · intro j c hc; exact Nat.lt_of_lt_of_le (hh.lt j c hc) hs
  · intro c hc; exact Nat.lt_of_lt_of_le (hh.old c hc) hs
  · exact hh.nx

/-- fewer blocks -/
theorem HpRel.sub {h h' : Hp} (hh : HpRel μ ro h w) (hs : ∀ i k, h'.m.get i = some k → h.m.get i = some k) (hn : h'.nx = h.nx) : HpRel μ ro h' w :=
  ⟨fun i k hk => hn ▸ hh.obs i k (hs i k hk), fun i j k l b c hi hj => hh.inj i j k l b c (hs i k hi) (hs j l hj), fun i k b hi => hh.own i k b (hs i k hi), hh.lt, hh.old, hn ▸ hh.nx⟩
theorem HpRel.weak {h h' : Hp} (hh : HpRel μ ro h w) (hn : h'.nx = h.nx) (hk : ∀ i k', h'.m.get i = some k' → ∃ k, h.m.get i = some k ∧ (∀ b, μ i = some b → ObRel μ ro w b k → ObRel μ ro w b k') ∧ (k.abs → k'.abs)) : HpRel μ ro h' w :=
  ⟨fun i k' hi => let ⟨k, h1, h2, h5⟩ := hk i k' hi; (hh.obs i k h1).elim (fun ⟨b, h3, h4⟩ => .inl ⟨b, h3, h2 b h3 h4⟩) fun ⟨h3, h4, h6⟩ => .inr ⟨h3, h5 h4, hn ▸ h6⟩,
   fun i j k l b c hi hj => let ⟨k', h1, _⟩ := hk i k hi; let ⟨l', h2, _⟩ := hk j l hj; hh.inj i j k' l' b c h1 h2,
   fun i k b hi => let ⟨k', h1, _⟩ := hk i k hi; hh.own i k' b h1, hh.lt, hh.old, hn ▸ hh.nx⟩
def Hp.del (h : Hp) (i : Nat) : Hp := ⟨h.m.put i none, h.nx⟩
theorem HpRel.del {h : Hp} (hh : HpRel μ ro h w) (i : Nat) : HpRel μ ro (h.del i) w :=
  hh.sub (fun j k hj => by simp only [Hp.del, Tr.get_put] at hj; split at hj; cases hj; exact hj) rfl

end Go.Proofs.Ytabjlmlfmafllaa.Av
