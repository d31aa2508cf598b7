/- Small lemmas for the lines that the program dc.py prints. -/
import Derived.Test.YtabjlmlfmafllaaAvW
set_option linter.unusedVariables false
set_option linter.unusedSimpArgs false
namespace Go.Proofs.Ytabjlmlfmafllaa.Av
open Go.RowKit

/-- blocks, in short -/
abbrev bT (c : List AV) (e : TypeId) : Blk := { c := c, e := e, ext := false, fz := 0, pl := true }
abbrev bF (c : List AV) (e : TypeId) : Blk := { c := c, e := e, ext := false, fz := 0, pl := false }
abbrev bV (c : List AV) (e : TypeId) : Blk := { c := c, e := e, ext := true, fz := 0, pl := true, o := true }
abbrev bX (c : List AV) (e : TypeId) : Blk := { c := c, e := e, ext := true, fz := 0, pl := true }
abbrev bW (c : List AV) (e : TypeId) : Blk := { c := c, e := e, ext := true, fz := 0, pl := false, o := true }
/-- globals of which nothing is said -/
def G0 : Nat → AV := fun _ => .any
/-- within the range of a kind -/
def InR (k : IntKind) (x : Int) : Prop := k.min ≤ x ∧ x ≤ k.max
instance (k : IntKind) (x : Int) : Decidable (InR k x) := inferInstanceAs (Decidable (_ ∧ _))
theorem inR_i64 {x : Int} : InR .i64 x ↔ -9223372036854775808 ≤ x ∧ x ≤ 9223372036854775807 := Iff.rfl
theorem inR_u64 {x : Int} : InR .u64 x ↔ 0 ≤ x ∧ x ≤ 18446744073709551615 := Iff.rfl
theorem inR_u8 {x : Int} : InR .u8 x ↔ 0 ≤ x ∧ x ≤ 255 := Iff.rfl
theorem inR_i32 {x : Int} : InR .i32 x ↔ -2147483648 ≤ x ∧ x ≤ 2147483647 := Iff.rfl
theorem inR_u32 {x : Int} : InR .u32 x ↔ 0 ≤ x ∧ x ≤ 4294967295 := Iff.rfl

theorem not_t {b : Bool} (h : b = false) : (!b) = true := by rw [h]; rfl
theorem not_f {b : Bool} (h : b = true) : (!b) = false := by rw [h]; rfl
theorem beq_t {α : Type} [BEq α] [LawfulBEq α] {a b : α} (h : a = b) : (a == b) = true := beq_iff_eq.2 h
theorem beq_f {α : Type} [BEq α] [LawfulBEq α] {a b : α} (h : ¬ a = b) : (a == b) = false := by
  cases hh : a == b with
  | false => rfl
  | true => exact absurd (beq_iff_eq.1 hh) h

def e_i8 (x : Int) : List AV := [.int .i8 x]
def e_i16 (x : Int) : List AV := [.int .i16 x]
def e_i32 (x : Int) : List AV := [.int .i32 x]
def e_i64 (x : Int) : List AV := [.int .i64 x]
def e_u16 (x : Int) : List AV := [.int .u16 x]
def e_u32 (x : Int) : List AV := [.int .u32 x]
def e_u64 (x : Int) : List AV := [.int .u64 x]
def e_bool (x : Bool) : List AV := [.bool x]
def e_str (x : List UInt8) : List AV := [.str x]
def e_u8s (l : List UInt8) : List AV := [.lst (u8s l) l.length]
def e_lst {α : Type} (f : α → List AV) (l : List α) : List AV := [.lst (fl f l) l.length]

theorem fl_length1 {α : Type} {f : α → List AV} (hz : ∀ x, (f x).length = 1) (l : List α) : (fl f l).length = l.length := by rw [fl_length hz]; omega
theorem fl_take1 {α : Type} {f : α → List AV} (hz : ∀ x, (f x).length = 1) (l : List α) (n : Nat) : (fl f l).take n = fl f (l.take n) := by have := fl_take hz l n; rwa [Nat.mul_one] at this
theorem fl_drop1 {α : Type} {f : α → List AV} (hz : ∀ x, (f x).length = 1) (l : List α) (n : Nat) : (fl f l).drop n = fl f (l.drop n) := by have := fl_drop hz l n; rwa [Nat.mul_one] at this
theorem u8s_take (l : List UInt8) (n : Nat) : (u8s l).take n = u8s (l.take n) := by simp [u8s]
theorem u8s_drop (l : List UInt8) (n : Nat) : (u8s l).drop n = u8s (l.drop n) := by simp [u8s]
theorem u8s_app {l m : List UInt8} : u8s (l ++ m) = u8s l ++ u8s m := by simp [u8s]
theorem fl_appc {α : Type} {f : α → List AV} {l m : List α} {c : List AV} (h : c = fl f m) : fl f l ++ c = fl f (l ++ m) := by rw [h, fl_app]
theorem u8s_appc {l m : List UInt8} {c : List AV} (h : c = u8s m) : u8s l ++ c = u8s (l ++ m) := by rw [h, u8s_app]
theorem lst_eq {c d : List AV} {n m : Nat} (h : c = d) (k : n = m) : AV.lst c n = AV.lst d m := by rw [h, k]
theorem fl_room {α : Type} {f : α → List AV} {z : Nat} (hz : ∀ x, (f x).length = z) {l : List α} {j a n : Nat} (h : j < l.length) (ha : a + n ≤ z) : j * z + a + n ≤ (fl f l).length := by
  have hm : (j + 1) * z ≤ l.length * z := Nat.mul_le_mul_right _ h
  rw [fl_length hz]
  rw [Nat.add_mul] at hm
  omega
theorem fl_room1 {α : Type} {f : α → List AV} (hz : ∀ x, (f x).length = 1) {l : List α} {j : Nat} (h : j < l.length) : j + 1 ≤ (fl f l).length := by rw [fl_length1 hz]; omega
theorem u8s_room {l : List UInt8} {j : Nat} (h : j < l.length) : j + 1 ≤ (u8s l).length := by rw [u8s_length]; omega
theorem u8_of {x : Int} (h : InR .u8 x) : (AV.int .u8 x) = .int .u8 ((UInt8.ofNat x.toNat).toNat : Int) := by
  have h := inR_u8.1 h
  congr 1
  rw [UInt8.toNat_ofNat']
  omega
theorem zeros_one (v : AV) (n : Nat) : zeros [v] n = List.replicate n v := rfl
theorem zeros_fl {α : Type} {f : α → List AV} {x : α} {c : List AV} (h : c = f x) (n : Nat) : zeros c n = fl f (List.replicate n x) := by
  have key : ∀ n, (List.replicate n c).flatten = fl f (List.replicate n x) := fun n => by
    induction n with
    | zero => rfl
    | succ n ih => rw [List.replicate_succ, List.replicate_succ, List.flatten_cons, fl_cons, ih, h]
  unfold zeros
  split
  · rename_i v
    rw [← key]
    induction n with
    | zero => rfl
    | succ n ih => rw [List.replicate_succ, List.replicate_succ, List.flatten_cons, ← ih]; rfl
  · exact key n
theorem zeros_u8 (n : Nat) : zeros [.int .u8 0] n = u8s (List.replicate n 0) := by
  simp [zeros, u8s]
theorem getD_u8 {l : List UInt8} {j : Nat} {y : UInt8} (h : l[j]? = some y) : (AV.int .u8 ((List.getD l j 0).toNat : Int)) = .int .u8 (y.toNat : Int) := by
  rw [List.getD_eq_getElem?_getD, h]
  rfl
end Go.Proofs.Ytabjlmlfmafllaa.Av
namespace Go.Proofs.Ytabjlmlfmafllaa.Av
/-- the rune at a place and its width -/
def dec (s : List UInt8) (pos : Nat) : Nat × Nat := Utf8.decode ⟨s.toArray⟩ pos
end Go.Proofs.Ytabjlmlfmafllaa.Av
namespace Go.Proofs.Ytabjlmlfmafllaa.Av
/-- so many steps of which nothing is told -/
def cs : Nat → List CH → List CH
  | 0, l => l
  | n + 1, l => .op none .c :: cs n l
end Go.Proofs.Ytabjlmlfmafllaa.Av
namespace Go.Proofs.Ytabjlmlfmafllaa.Av
theorem u8s_dat {l : List UInt8} : ∀ x ∈ u8s l, x.dat1 = true := by
  intro x hx
  simp only [u8s, List.mem_map] at hx
  obtain ⟨b, _, rfl⟩ := hx
  rfl
theorem fl_dat {α : Type} {f : α → List AV} (hf : ∀ x, (f x).all AV.dat1 = true) {l : List α} : ∀ x ∈ fl f l, x.dat1 = true := by
  intro x hx
  simp only [fl, List.mem_flatMap] at hx
  obtain ⟨b, _, h⟩ := hx
  have := hf b
  rw [List.all_eq_true] at this
  exact this x h
end Go.Proofs.Ytabjlmlfmafllaa.Av
namespace Go.Proofs.Ytabjlmlfmafllaa.Av
theorem ok1 {p : Prop} (h : p) : allOk [p] := h
theorem fl_appl {α : Type} {f : α → List AV} {l m : List α} {c : List AV} (h : c = fl f l) : c ++ fl f m = fl f (l ++ m) := by rw [h, fl_app]
theorem u8s_appl {l m : List UInt8} {c : List AV} (h : c = u8s l) : c ++ u8s m = u8s (l ++ m) := by rw [h, u8s_app]
end Go.Proofs.Ytabjlmlfmafllaa.Av
