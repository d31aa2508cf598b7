import Derived.Test.YtpadimnchmghpaaGreatDoorR2
open Prod (fst)
open Int (tdiv tmod)
set_option maxHeartbeats 1000000
set_option linter.unusedVariables false
set_option linter.unusedSimpArgs false
namespace Go.Proofs.YtpadimnchmghpaaGreatDoor.Av
noncomputable section
open Go Go.Proofs
/-! ### numbers as bytes -/
def vbytes (n : Nat) : List UInt8 := if n < 128 then [UInt8.ofNat n] else UInt8.ofNat (n % 128 + 128) :: vbytes (n / 128)
termination_by n
decreasing_by omega
theorem vbytes_lt {n : Nat} (h : n < 128) : vbytes n = [UInt8.ofNat n] := by unfold vbytes; rw [if_pos h]
theorem vbytes_ge {n : Nat} (h : ¬ n < 128) : vbytes n = UInt8.ofNat (n % 128 + 128) :: vbytes (n / 128) := by rw [vbytes]; rw [if_neg h]
theorem vbytes_len : ∀ (k n : Nat), n < 128 ^ (k + 1) → (vbytes n).length ≤ k + 1
 | 0, n, h => by rw [vbytes_lt (by simpa using h)]; simp
 | k + 1, n, h => by
  by_cases h1 : n < 128
  ·rw [vbytes_lt h1]; simp
  ·rw [vbytes_ge h1, List.length_cons]
   have := vbytes_len k (n / 128) (by rw [Nat.pow_succ] at h; omega)
   omega
def zcode (n : Int) : Nat := if n < 0 then (2 * (0 - (n + 1)) + 1).toNat else (2 * n).toNat
theorem zcode_lt {n : Int} (h : InR .i64 n) : zcode n < 18446744073709551616 := by
 rw [inR_i64] at h
 unfold zcode
 split <;> omega
def putI (b : List UInt8) (n : Int) : List UInt8 := b ++ vbytes (zcode n)
def putT (b s : List UInt8) : List UInt8 := putI b s.length ++ s
theorem putI_len {b : List UInt8} {n : Int} (h : InR .i64 n) : (putI b n).length ≤ b.length + 10 := by
 unfold putI
 rw [List.length_append]
 have := vbytes_len 9 (zcode n) (by have := zcode_lt h; omega)
 omega
theorem len_i64 {α : Type} {l : List α} (h : l.length ≤ 4294967296) : InR .i64 (l.length : Int) := by rw [inR_i64]; omega
theorem putT_len {b s : List UInt8} (h : s.length ≤ 4294967296) : (putT b s).length ≤ b.length + s.length + 10 := by
 unfold putT
 rw [List.length_append]
 have := putI_len (b := b) (len_i64 h)
 omega
theorem put_loop : ∀ (k v : Nat) (b : List UInt8), v < 128 ^ (k + 1) → v < 18446744073709551616 → b.length + k + 1 ≤ 4294967296 →
  ∃ (v' : Int) (b' : List UInt8), lp f02PutInt_L9_step ((v : Int), b) = some (v', b') ∧ InR .u8 v' ∧ b'.length + 1 ≤ 4294967296 ∧ b' ++ [UInt8.ofNat (Int.toNat v')] = b ++ vbytes v
 | k, v, b, h, h64, hb => by
  by_cases hv : v < 128
  ·refine ⟨v, b, lp_end ?_, by rw [inR_u8]; omega, by omega, ?_⟩
   ·exact ite_f (by omega) rfl
   ·rw [vbytes_lt hv]; rfl
  ·cases k with
   | zero => simp at h; omega
   | succ k =>
    have e1 : tmod (v : Int) 128 = ((v % 128 : Nat) : Int) := rfl
    have e2 : tdiv (v : Int) 128 = ((v / 128 : Nat) : Int) := rfl
    obtain ⟨v', b', h1, h2, h3, h4⟩ := put_loop k (v / 128) (b ++ [UInt8.ofNat (v % 128 + 128)]) (by rw [Nat.pow_succ] at h; omega) (by omega) (by simp; omega)
    refine ⟨v', b', ?_, h2, h3, ?_⟩
    ·rw [lp_go (s' := (((v / 128 : Nat) : Int), b ++ [UInt8.ofNat (v % 128 + 128)]))]
     ·exact h1
     ·refine ite_t (by omega) ?_
      rw [e1, e2]
      refine guard_i (by rw [inR_u8]; omega) (guard_i (by rw [inR_u8]; omega) (guard_i (by omega) (guard_i (by rw [inR_u64]; omega) ?_)))
      rw [show Int.toNat (((v % 128 : Nat) : Int) + 128) = v % 128 + 128 by omega]
    ·rw [h4, vbytes_ge hv]; simp
theorem put_loop' {v : Int} {b : List UInt8} (h0 : 0 ≤ v) (h : v < 18446744073709551616) (hb : b.length + 10 ≤ 4294967296) :
  ∃ (o : Int × List UInt8), lp f02PutInt_L9_step (v, b) = some o ∧ InR .u8 o.1 ∧ o.2.length + 1 ≤ 4294967296 ∧ o.2 ++ [UInt8.ofNat (Int.toNat o.1)] = b ++ vbytes v.toNat := by
 obtain ⟨n, rfl⟩ := Int.eq_ofNat_of_zero_le h0
 obtain ⟨v', b', h1, h2, h3, h4⟩ := put_loop 9 n b (by omega) (by omega) (by omega)
 exact ⟨(v', b'), h1, h2, h3, h4⟩
theorem wrap_u64 {x : Int} (h0 : 0 ≤ x) (h : x < 18446744073709551616) : IntKind.wrap .u64 x = x := by
 show Int.emod x (2 ^ 64) = x
 exact Int.emod_eq_of_lt h0 (by simpa using h)
theorem codecPutInt_eq {b : List UInt8} {n : Int} (hn : InR .i64 n) (hb : b.length + 10 ≤ 4294967296) : cDPutInt b n = some (putI b n) := by
 have hn' := inR_i64.1 hn
 have hstep : cDPutInt_L8_step = f02PutInt_L9_step := rfl
 unfold cDPutInt
 rw [hstep]
 by_cases h : n < 0
 ·obtain ⟨o, h1, h2, h3, h4⟩ := put_loop' (v := (0 - (n + 1)) * 2 + 1) (b := b) (by omega) (by omega) hb
  refine ite_t h (guard_i (by rw [inR_i64]; omega) (guard_i (by rw [inR_i64]; omega) (guard_i (by rw [inR_u64]; omega) (guard_i (by rw [inR_u64]; omega) (guard_i (by rw [inR_u64]; omega) (guard_i (by omega) (bind_i h1 (guard_i h2 (guard_i h3 ?_)))))))))
  rw [h4]; unfold putI zcode; rw [if_pos h, Int.mul_comm]
 ·rw [wrap_u64 (x := n) (by omega) (by omega), wrap_u64 (x := n * 2) (by omega) (by omega)]
  obtain ⟨o, h1, h2, h3, h4⟩ := put_loop' (v := n * 2) (b := b) (by omega) (by omega) hb
  refine ite_f h (guard_i (by omega) (bind_i h1 (guard_i h2 (guard_i h3 ?_))))
  rw [h4]; unfold putI zcode; rw [if_neg h, Int.mul_comm]
theorem codecPutText_eq {b s : List UInt8} (h : b.length + s.length + 10 ≤ 4294967296) : cDPutText b s = some (putT b s) := by
 have hs : InR .i64 (s.length : Int) := len_i64 (by omega)
 have := putI_len (b := b) hs
 exact bind_i (codecPutInt_eq hs (by omega)) (guard_i (by omega) rfl)
/-! ### digests -/
def hstep (h : Int) (c : UInt8) : Int := IntKind.wrap .u64 (IntKind.wrap .u64 ((BitVec.ofInt (IntKind.bits .u64) h ^^^ BitVec.ofInt (IntKind.bits .u64) (c.toNat : Int)).toNat : Int) * 1099511628211)
def hashR (b : List UInt8) : Int := b.foldl hstep 14695981039346656037
theorem wrap_R (x : Int) : InR .u64 (IntKind.wrap .u64 x) := by
 rw [inR_u64]
 have h1 : IntKind.wrap .u64 x = Int.emod x 18446744073709551616 := rfl
 rw [h1]
 have h2 := Int.emod_nonneg x (show (18446744073709551616 : Int) ≠ 0 by decide)
 have h3 := Int.emod_lt_of_pos x (show (0 : Int) < 18446744073709551616 by decide)
 simp only [HMod.hMod, Mod.mod] at h2 h3
 omega
theorem hashR_R (b : List UInt8) : InR .u64 (hashR b) := by
 unfold hashR
 rcases b.eq_nil_or_concat with rfl | ⟨l, x, rfl⟩
 ·decide
 ·rw [List.concat_eq_append, List.foldl_append]
  exact wrap_R _
theorem refHash_eq {b : List UInt8} (h : b.length ≤ 4294967296) : f08Hash b = some (hashR b) := by
 unfold f08Hash
 refine bind_i (lp_foldl (l := b) (mk := fun (a : Int) k => (a, k)) (step := f08Hash_L1_step b) (g := hstep) (out := fun a => a) (fun k a => True)
  (fun k x a hx _ => ?_) (fun a _ => ?_) trivial) rfl
 ·have hk := (List.getElem?_eq_some_iff.1 hx).1
  refine ⟨ite_t (by omega) (bind_i hx (guard_i (by rw [inR_u64]; have := x.toNat_lt; omega) (bind_i rfl (guard_i (by rw [inR_i64]; omega) rfl)))), trivial⟩
 ·exact ite_f (by omega) rfl
theorem hash_same (b : List UInt8) : dGHash b = f08Hash b := rfl
theorem digHash_eq {b : List UInt8} (h : b.length ≤ 4294967296) : dGHash b = some (hashR b) := by rw [hash_same, refHash_eq h]
/-! ### charges -/
def ChW (x : TC) : Prop := InR .i64 x.Class ∧ InR .i64 x.Time ∧ InR .i64 x.Cents ∧ ∀ l ∈ x.Lines, InR .i64 l.Cents
def ChF (x : TC) : Prop := x.Key.length ≤ 80 ∧ x.Vehicle.length ≤ 80 ∧ x.System.length ≤ 80 ∧ x.Lines.length ≤ 8 ∧ ∀ l ∈ x.Lines, l.Text.length ≤ 80
def descr0 (x : TC) : List UInt8 := putI (putI (putI (putI (putT (putT (putT [] x.Key) x.Vehicle) x.System) x.Class) x.Time) x.Cents) x.Lines.length
def descr (x : TC) : List UInt8 := x.Lines.foldl (fun b l => putI (putT b l.Text) l.Cents) (descr0 x)
theorem descr0_len {x : TC} (hw : ChW x) (hf : ChF x) : (descr0 x).length ≤ 310 := by
 obtain ⟨w1, w2, w3, w4⟩ := hw
 obtain ⟨f1, f2, f3, f4, f5⟩ := hf
 have a1 := putT_len (b := []) (s := x.Key) (by omega)
 have a2 := putT_len (b := putT [] x.Key) (s := x.Vehicle) (by omega)
 have a3 := putT_len (b := putT (putT [] x.Key) x.Vehicle) (s := x.System) (by omega)
 have a4 := putI_len (b := putT (putT (putT [] x.Key) x.Vehicle) x.System) w1
 have a5 := putI_len (b := putI (putT (putT (putT [] x.Key) x.Vehicle) x.System) x.Class) w2
 have a6 := putI_len (b := putI (putI (putT (putT (putT [] x.Key) x.Vehicle) x.System) x.Class) x.Time) w3
 have a7 := putI_len (b := putI (putI (putI (putT (putT (putT [] x.Key) x.Vehicle) x.System) x.Class) x.Time) x.Cents) (len_i64 (l := x.Lines) (by omega))
 unfold descr0
 simp only [List.length_nil] at a1
 omega
theorem lines_len {m : Nat} : ∀ {l : List TL} {b : List UInt8}, (∀ x ∈ l, InR .i64 x.Cents) → (∀ x ∈ l, x.Text.length ≤ 80) → b.length ≤ m → (l.foldl (fun b l => putI (putT b l.Text) l.Cents) b).length ≤ m + 100 * l.length
 | [], b, _, _, h => by simpa using h
 | x :: l, b, h1, h2, h => by
  rw [List.foldl_cons]
  have a1 := putT_len (b := b) (s := x.Text) (by have := h2 x (by simp); omega)
  have a2 := putI_len (b := putT b x.Text) (h1 x (by simp))
  have h3 := h2 x (by simp)
  have := lines_len (m := m + 100) (l := l) (b := putI (putT b x.Text) x.Cents) (fun y hy => h1 y (by simp [hy])) (fun y hy => h2 y (by simp [hy])) (by omega)
  rw [List.length_cons]; omega
theorem descr_len {x : TC} (hw : ChW x) (hf : ChF x) : (descr x).length ≤ 1110 := by
 have := lines_len (m := 310) (l := x.Lines) hw.2.2.2 hf.2.2.2.2 (descr0_len hw hf)
 have := hf.2.2.2.1
 unfold descr
 omega
def leafR (x : TC) : Int := hashR (descr x)
theorem leaf_go {x : TC} {L : List Int} {k : Nat} {v : Int} {b r : List UInt8} (hk : (k : Int) < 4) (hx : L[k]? = some v) (hr : cDPutInt b v = some r) : aUleaf_L7_step x (k, L, b) = some (.inl (k + 1, L, r)) := by
 unfold aUleaf_L7_step
 exact ite_t hk (bind_i hx (bind_i hr (guard_i (by rw [inR_i64]; omega) rfl)))
theorem leaf_end {x : TC} {L : List Int} {b : List UInt8} : aUleaf_L7_step x (4, L, b) = some (.inr (L, b)) := by
 unfold aUleaf_L7_step
 exact ite_f (by decide) rfl
theorem leaf_eq {x : TC} (hw : ChW x) (hf : ChF x) : aUleaf x = some (leafR x) := by
 have hd := descr0_len hw hf
 have hdl := descr_len hw hf
 obtain ⟨w1, w2, w3, w4⟩ := hw
 obtain ⟨f1, f2, f3, f4, f5⟩ := hf
 have a1 := putT_len (b := []) (s := x.Key) (by omega)
 have a2 := putT_len (b := putT [] x.Key) (s := x.Vehicle) (by omega)
 have a3 := putT_len (b := putT (putT [] x.Key) x.Vehicle) (s := x.System) (by omega)
 have a4 := putI_len (b := putT (putT (putT [] x.Key) x.Vehicle) x.System) w1
 have a5 := putI_len (b := putI (putT (putT (putT [] x.Key) x.Vehicle) x.System) x.Class) w2
 have a6 := putI_len (b := putI (putI (putT (putT (putT [] x.Key) x.Vehicle) x.System) x.Class) x.Time) w3
 simp only [List.length_nil] at a1
 unfold aUleaf
 refine bind_i (codecPutText_eq (by simp; omega)) (bind_i (codecPutText_eq (by omega)) (bind_i (codecPutText_eq (by omega)) ?_))
 have wl : InR .i64 (x.Lines.length : Int) := len_i64 (by omega)
 refine bind_i (v := ([x.Class, x.Time, x.Cents, (x.Lines.length : Int)], descr0 x)) ?_ ?_
 ·rw [lp_go (step := aUleaf_L7_step x) (s := (0, [x.Class, x.Time, x.Cents, (x.Lines.length : Int)], putT (putT (putT [] x.Key) x.Vehicle) x.System)) (s' := (1, [x.Class, x.Time, x.Cents, (x.Lines.length : Int)], putI (putT (putT (putT [] x.Key) x.Vehicle) x.System) x.Class)) (leaf_go (by decide) rfl (codecPutInt_eq w1 (by omega)))]
  rw [lp_go (step := aUleaf_L7_step x) (s := (1, [x.Class, x.Time, x.Cents, (x.Lines.length : Int)], putI (putT (putT (putT [] x.Key) x.Vehicle) x.System) x.Class)) (s' := (2, [x.Class, x.Time, x.Cents, (x.Lines.length : Int)], putI (putI (putT (putT (putT [] x.Key) x.Vehicle) x.System) x.Class) x.Time)) (leaf_go (by decide) rfl (codecPutInt_eq w2 (by omega)))]
  rw [lp_go (step := aUleaf_L7_step x) (s := (2, [x.Class, x.Time, x.Cents, (x.Lines.length : Int)], putI (putI (putT (putT (putT [] x.Key) x.Vehicle) x.System) x.Class) x.Time)) (s' := (3, [x.Class, x.Time, x.Cents, (x.Lines.length : Int)], putI (putI (putI (putT (putT (putT [] x.Key) x.Vehicle) x.System) x.Class) x.Time) x.Cents)) (leaf_go (by decide) rfl (codecPutInt_eq w3 (by omega)))]
  rw [lp_go (step := aUleaf_L7_step x) (s := (3, [x.Class, x.Time, x.Cents, (x.Lines.length : Int)], putI (putI (putI (putT (putT (putT [] x.Key) x.Vehicle) x.System) x.Class) x.Time) x.Cents)) (s' := (4, [x.Class, x.Time, x.Cents, (x.Lines.length : Int)], putI (putI (putI (putI (putT (putT (putT [] x.Key) x.Vehicle) x.System) x.Class) x.Time) x.Cents) x.Lines.length)) (leaf_go (by decide) rfl (codecPutInt_eq wl (by omega)))]
  exact lp_end leaf_end
 ·refine bind_i (lp_foldl (l := x.Lines) (mk := fun (a : List UInt8) k => (k, a)) (step := aUleaf_L27_step x) (g := fun b l => putI (putT b l.Text) l.Cents) (out := fun a => a) (fun k a => a.length ≤ 310 + 100 * k)
   (fun k y a hy ha => ?_) (fun a _ => ite_f (by omega) rfl) (a := descr0 x) (by omega)) (bind_i (digHash_eq (by have := hdl; unfold descr at this; omega)) rfl)
  have hk := (List.getElem?_eq_some_iff.1 hy).1
  have hm := List.mem_of_getElem? hy
  have b1 := f5 y hm
  have c1 := putT_len (b := a) (s := y.Text) (by omega)
  have c2 := putI_len (b := putT a y.Text) (w4 y hm)
  exact ⟨ite_t (by omega) (bind_i hy (bind_i (codecPutText_eq (by omega)) (bind_i (codecPutInt_eq (w4 y hm) (by omega)) (guard_i (by rw [inR_i64]; omega) rfl)))), by omega⟩
theorem foldl_snoc {α β : Type} (f : α → β) : ∀ (l : List α) (a : List β), l.foldl (fun a x => a ++ [f x]) a = a ++ l.map f
 | [], a => by simp
 | x :: l, a => by rw [List.foldl_cons, foldl_snoc f l]; simp
theorem Leaves_eq {l : List TC} (hw : ∀ x ∈ l, ChW x) (hf : ∀ x ∈ l, ChF x) (hl : l.length ≤ 20) : aULeaves l = some (l.map leafR) := by
 unfold aULeaves
 have key := lp_foldl (l := l) (mk := fun (a : List Int) k => (k, a)) (step := aULeaves_L1_step l) (g := fun a x => a ++ [leafR x]) (out := fun a => a) (fun k a => a.length = k)
  (fun k y a hy ha => by
   have hk := (List.getElem?_eq_some_iff.1 hy).1
   have hm := List.mem_of_getElem? hy
   exact ⟨ite_t (by omega) (bind_i hy (bind_i (leaf_eq (hw y hm) (hf y hm)) (guard_i (by omega) (guard_i (by rw [inR_i64]; omega) rfl)))), by simp [ha]⟩)
  (fun a _ => ite_f (by omega) rfl) (a := []) rfl
 rw [foldl_snoc, List.nil_append] at key
 exact bind_i key rfl
end
set_option maxHeartbeats 1000000
noncomputable section
open Go Go.Proofs
/-! ### the digest of two digests -/
def by8 (x : Int) : List UInt8 := [UInt8.ofNat (Int.toNat (tmod (tdiv x 72057594037927936) 256)), UInt8.ofNat (Int.toNat (tmod (tdiv x 281474976710656) 256)), UInt8.ofNat (Int.toNat (tmod (tdiv x 1099511627776) 256)), UInt8.ofNat (Int.toNat (tmod (tdiv x 4294967296) 256)), UInt8.ofNat (Int.toNat (tmod (tdiv x 16777216) 256)), UInt8.ofNat (Int.toNat (tmod (tdiv x 65536) 256)), UInt8.ofNat (Int.toNat (tmod (tdiv x 256) 256)), UInt8.ofNat (Int.toNat (tmod (tdiv x 1) 256))]
def joinR (a b : Int) : Int := hashR (by8 a ++ by8 b)
theorem tdiv_R {a d : Int} (ha : InR .u64 a) (hd : 0 < d) : InR .u64 (tdiv a d) := by
 rw [inR_u64] at *
 rw [Int.tdiv_eq_ediv_of_nonneg ha.1]
 have := Int.ediv_nonneg ha.1 (Int.le_of_lt hd)
 have := Int.ediv_le_self d ha.1
 omega
theorem tmod_R {a : Int} (ha : InR .u64 a) : InR .u8 (tmod a 256) := by
 rw [inR_u64] at ha
 rw [inR_u8, Int.tmod_eq_emod_of_nonneg ha.1]
 omega
theorem wrap_u8 (x : Int) : IntKind.wrap .u8 x = Int.emod x 256 := rfl
theorem byte_eq {a d : Int} {k : Nat} (ha : InR .u64 a) (hd : (2 : Int) ^ k = d) (h0 : 0 < d) : IntKind.wrap .u8 (Int.fdiv a (2 ^ k)) = tmod (tdiv a d) 256 := by
 have h := tdiv_R ha h0
 rw [inR_u64] at ha h
 rw [wrap_u8, hd, Int.fdiv_eq_ediv_of_nonneg _ (Int.le_of_lt h0), Int.tmod_eq_emod_of_nonneg h.1, Int.tdiv_eq_ediv_of_nonneg ha.1]
 rfl
theorem join_eq {a b : Int} (ha : InR .u64 a) (hb : InR .u64 b) : dGJoin a b = some (joinR a b) := by
 unfold dGJoin
 have m56 : min (Int.toNat 56) (IntKind.bits .u64) = 56 := rfl
 have m48 : min (Int.toNat 48) (IntKind.bits .u64) = 48 := rfl
 have m40 : min (Int.toNat 40) (IntKind.bits .u64) = 40 := rfl
 have m32 : min (Int.toNat 32) (IntKind.bits .u64) = 32 := rfl
 have m24 : min (Int.toNat 24) (IntKind.bits .u64) = 24 := rfl
 have m16 : min (Int.toNat 16) (IntKind.bits .u64) = 16 := rfl
 have m8 : min (Int.toNat 8) (IntKind.bits .u64) = 8 := rfl
 have m0 : min (Int.toNat 0) (IntKind.bits .u64) = 0 := rfl
 rw [m56, m48, m40, m32, m24, m16, m8, m0]
 have q : ∀ {x : Int}, InR .u64 x → InR .u8 (tmod (tdiv x 72057594037927936) 256) ∧ InR .u8 (tmod (tdiv x 281474976710656) 256) ∧ InR .u8 (tmod (tdiv x 1099511627776) 256) ∧ InR .u8 (tmod (tdiv x 4294967296) 256) ∧ InR .u8 (tmod (tdiv x 16777216) 256) ∧ InR .u8 (tmod (tdiv x 65536) 256) ∧ InR .u8 (tmod (tdiv x 256) 256) ∧ InR .u8 (tmod (tdiv x 1) 256) := fun hx =>
  ⟨tmod_R (tdiv_R hx (by decide)), tmod_R (tdiv_R hx (by decide)), tmod_R (tdiv_R hx (by decide)), tmod_R (tdiv_R hx (by decide)), tmod_R (tdiv_R hx (by decide)), tmod_R (tdiv_R hx (by decide)), tmod_R (tdiv_R hx (by decide)), tmod_R (tdiv_R hx (by decide))⟩
 obtain ⟨a1, a2, a3, a4, a5, a6, a7, a8⟩ := q ha
 obtain ⟨b1, b2, b3, b4, b5, b6, b7, b8⟩ := q hb
 rw [byte_eq (k := 56) (d := 72057594037927936) ha (by decide) (by decide), byte_eq (k := 48) (d := 281474976710656) ha (by decide) (by decide), byte_eq (k := 40) (d := 1099511627776) ha (by decide) (by decide), byte_eq (k := 32) (d := 4294967296) ha (by decide) (by decide), byte_eq (k := 24) (d := 16777216) ha (by decide) (by decide), byte_eq (k := 16) (d := 65536) ha (by decide) (by decide), byte_eq (k := 8) (d := 256) ha (by decide) (by decide), byte_eq (k := 0) (d := 1) ha (by decide) (by decide),
  byte_eq (k := 56) (d := 72057594037927936) hb (by decide) (by decide), byte_eq (k := 48) (d := 281474976710656) hb (by decide) (by decide), byte_eq (k := 40) (d := 1099511627776) hb (by decide) (by decide), byte_eq (k := 32) (d := 4294967296) hb (by decide) (by decide), byte_eq (k := 24) (d := 16777216) hb (by decide) (by decide), byte_eq (k := 16) (d := 65536) hb (by decide) (by decide), byte_eq (k := 8) (d := 256) hb (by decide) (by decide), byte_eq (k := 0) (d := 1) hb (by decide) (by decide)]
 iterate 16 refine bind_i rfl ?_
 refine guard_i a1 (guard_i a2 (guard_i a3 (guard_i a4 (guard_i a5 (guard_i a6 (guard_i a7 (guard_i a8 (guard_i b1 (guard_i b2 (guard_i b3 (guard_i b4 (guard_i b5 (guard_i b6 (guard_i b7 (guard_i b8 ?_)))))))))))))))
 exact bind_i (digHash_eq (by simp)) rfl
/-! ### the level above -/
def upR : List Int → List Int
 | [] => []
 | [x] => [x]
 | x :: y :: l => joinR x y :: upR l
def ListR (l : List Int) : Prop := ∀ x ∈ l, InR .u64 x
theorem upR_len : ∀ l : List Int, (upR l).length = (l.length + 1) / 2
 | [] => rfl
 | [x] => by simp [upR]
 | x :: y :: l => by simp only [upR, List.length_cons, upR_len l]; omega
theorem upR_R : ∀ {l : List Int}, ListR l → ListR (upR l)
 | [], h => h
 | [x], h => h
 | x :: y :: l, h => by
  intro z hz
  simp only [upR, List.mem_cons] at hz
  rcases hz with rfl | hz
  ·exact hashR_R _
  ·exact upR_R (l := l) (fun w hw => h w (by simp [hw])) z hz
theorem upR_get : ∀ {l : List Int} {i : Nat} {x : Int}, (upR l)[i]? = some x → (∃ u v, l[2 * i]? = some u ∧ l[2 * i + 1]? = some v ∧ x = joinR u v) ∨ (2 * i + 1 = l.length ∧ l[2 * i]? = some x)
 | [], i, x, h => by simp [upR] at h
 | [y], i, x, h => by
  cases i with
  | zero => simp only [upR, List.getElem?_cons_zero, sJ] at h; subst h; exact .inr ⟨rfl, rfl⟩
  | succ i => simp [upR] at h
 | y :: z :: l, i, x, h => by
  cases i with
  | zero => simp only [upR, List.getElem?_cons_zero, sJ] at h; exact .inl ⟨y, z, rfl, rfl, h.symm⟩
  | succ i =>
   simp only [upR, List.getElem?_cons_succ] at h
   rcases upR_get h with ⟨u, v, h1, h2, h3⟩ | ⟨h1, h2⟩
   ·exact .inl ⟨u, v, by rw [show 2 * (i + 1) = 2 * i + 1 + 1 by omega]; simpa using h1, by rw [show 2 * (i + 1) + 1 = 2 * i + 1 + 1 + 1 by omega]; simpa using h2, h3⟩
   ·exact .inr ⟨by simp only [List.length_cons]; omega, by rw [show 2 * (i + 1) = 2 * i + 1 + 1 by omega]; simpa using h2⟩
theorem foldl_app1 {α : Type} (l a : List α) : l.foldl (fun a x => a ++ [x]) a = a ++ l := by
 induction l generalizing a with
 | nil => simp
 | cons x l ih => simp [ih]
theorem mem_R {l : List Int} (h : ListR l) {i : Nat} {x : Int} (hx : l[i]? = some x) : InR .u64 x := h x (List.mem_of_getElem? hx)
theorem above_eq {l : List Int} (h : ListR l) (hl : l.length ≤ 4294967295) : dGabove l = some (upR l) := by
 unfold dGabove
 have hd : tdiv ((l.length : Int) + 1) 2 = (((l.length + 1) / 2 : Nat) : Int) := rfl
 rw [hd]
 refine guard_i (by rw [inR_i64]; omega) (guard_i (by rw [inR_i64]; omega) ?_)
 have hu := upR_len l
 have key := lp_foldl (l := upR l) (mk := fun (a : List Int) k => (k, a)) (step := dGabove_L3_step l) (g := fun a x => a ++ [x]) (out := fun a => a) (fun k a => a.length = k)
  (fun k x a hx ha => by
   have hk := (List.getElem?_eq_some_iff.1 hx).1
   refine ⟨ite_t (by rw [hd]; omega) (guard_i (by rw [inR_i64]; omega) (guard_i (by rw [inR_i64]; omega) ?_)), by simp [ha]⟩
   have e1 : Int.toNat (2 * (k : Int)) = 2 * k := by omega
   have e2 : Int.toNat (2 * (k : Int) + 1) = 2 * k + 1 := by omega
   rw [e1, e2]
   rcases upR_get hx with ⟨u, v, h1, h2, rfl⟩ | ⟨h1, h2⟩
   ·have hk2 := (List.getElem?_eq_some_iff.1 h2).1
    exact ite_f (by omega) (guard_i (by omega) (bind_i h1 (guard_i (by omega) (bind_i h2 (bind_i (join_eq (mem_R h h1) (mem_R h h2)) (guard_i (by omega) (guard_i (by rw [inR_i64]; omega) rfl)))))))
   ·exact ite_t (by omega) (guard_i (by omega) (bind_i h2 (guard_i (by omega) (guard_i (by rw [inR_i64]; omega) rfl)))))
  (fun a _ => ite_f (by rw [hd]; omega) rfl) (a := []) rfl
 rw [foldl_app1, List.nil_append] at key
 exact bind_i key rfl
/-! ### all levels -/
def levR (l : List Int) : List (List Int) := if h : l.length ≤ 1 then [l] else l :: levR (upR l)
termination_by l.length
decreasing_by rw [upR_len]; omega
theorem levR_one {l : List Int} (h : l.length ≤ 1) : levR l = [l] := by unfold levR; rw [dif_pos h]
theorem levR_more {l : List Int} (h : ¬ l.length ≤ 1) : levR l = l :: levR (upR l) := by rw [levR]; rw [dif_neg h]
theorem lev_loop {up : List Int → Option (List Int)} {step : List Int × List (List Int) → Option ((List Int × List (List Int)) ⊕ List (List Int))}
  (hstep : ∀ v b, step (v, b) = if (v.length : Int) > (1 : Int) then (up v).bind fun r => if b.length + 1 ≤ 4294967296 then some (Sum.inl (r, b ++ [r])) else none else some (Sum.inr b))
  (hup : ∀ l, ListR l → l.length ≤ 4294967295 → up l = some (upR l)) : ∀ (n : Nat) (v : List Int) (acc : List (List Int)), v.length ≤ n → ListR v → acc.length + n + 2 ≤ 4294967296 → lp step (v, acc ++ [v]) = some (acc ++ levR v)
 | 0, v, acc, hv, hR, ha => by
  rw [levR_one (by omega)]
  exact lp_end (by rw [hstep]; exact ite_f (by omega) rfl)
 | n + 1, v, acc, hv, hR, ha => by
  by_cases h : v.length ≤ 1
  ·rw [levR_one h]
   exact lp_end (by rw [hstep]; exact ite_f (by omega) rfl)
  ·rw [lp_go (s' := (upR v, (acc ++ [v]) ++ [upR v])) (by rw [hstep]; exact ite_t (by omega) (bind_i (hup v hR (by omega)) (guard_i (by simp; omega) rfl)))]
   rw [lev_loop hstep hup n (upR v) (acc ++ [v]) (by rw [upR_len]; omega) (upR_R hR) (by simp; omega), levR_more h]
   simp
theorem levels_eq {l : List Int} (h : ListR l) (hl : l.length ≤ 4294967290) : dGlevels l = some (levR l) := by
 unfold dGlevels
 exact bind_i (lev_loop (up := dGabove) (step := dGlevels_L1_step) (fun _ _ => rfl) (fun _ => above_eq) l.length l [] (Nat.le_refl _) h (by simp; omega)) rfl
end
set_option maxHeartbeats 1000000
noncomputable section
open Go Go.Proofs
/-! ### down a tree -/
section
variable (len : Nat → Nat) (dif : Nat → Nat → Bool)
def chD (t i : Nat) : List Nat := if 2 * i + 1 = len t then [2 * i] else [2 * i, 2 * i + 1].filter (dif t)
def ED : Nat → Nat → List Nat
 | 0, i => [i]
 | t + 1, i => (chD len dif t i).flatMap (ED t)
end
variable {len : Nat → Nat} {dif : Nat → Nat → Bool}
theorem chD_len (t i : Nat) : (chD len dif t i).length ≤ 2 := by
 unfold chD
 split
 ·simp
 ·exact List.length_filter_le _ _
theorem flat_len {α β : Type} {f : α → List β} {m : Nat} (h : ∀ x, (f x).length ≤ m) : ∀ l : List α, (l.flatMap f).length ≤ l.length * m
 | [] => by simp
 | x :: l => by
  have := flat_len h l
  have := h x
  simp only [List.flatMap_cons, List.length_append, List.length_cons, Nat.add_mul]
  omega
theorem ED_len : ∀ (t i : Nat), (ED len dif t i).length ≤ 2 ^ t
 | 0, i => by simp [ED]
 | t + 1, i => by
  have h1 := flat_len (f := ED len dif t) (m := 2 ^ t) (ED_len t) (chD len dif t i)
  have h2 := chD_len (len := len) (dif := dif) t i
  have h3 : (chD len dif t i).length * 2 ^ t ≤ 2 * 2 ^ t := Nat.mul_le_mul_right _ h2
  unfold ED
  rw [Nat.pow_succ]
  omega
theorem ED_lt (T : Nat) (hl : ∀ t, t < T → len (t + 1) = (len t + 1) / 2) : ∀ (t i : Nat) {e : Nat}, t ≤ T → i < len t → e ∈ ED len dif t i → e < len 0
 | 0, i, e, _, hi, h => by simp [ED] at h; omega
 | t + 1, i, e, ht, hi, h => by
  unfold ED at h
  obtain ⟨j, hj, he⟩ := List.mem_flatMap.1 h
  refine ED_lt T hl t j (by omega) ?_ he
  rw [hl t (by omega)] at hi
  unfold chD at hj
  split at hj
  ·simp at hj; omega
  ·simp at hj; omega
/-! ### the levels of a tree -/
def upN : Nat → List Int → List Int
 | 0, l => l
 | t + 1, l => upN t (upR l)
theorem upN_succ : ∀ (t : Nat) (l : List Int), upN (t + 1) l = upR (upN t l)
 | 0, l => rfl
 | t + 1, l => upN_succ t (upR l)
theorem levR_get : ∀ (t : Nat) {l : List Int}, t < (levR l).length → (levR l)[t]? = some (upN t l)
 | t, l, h => by
  by_cases h1 : l.length ≤ 1
  ·rw [levR_one h1] at h ⊢
   simp at h; subst h; rfl
  ·rw [levR_more h1] at h ⊢
   cases t with
   | zero => rfl
   | succ t =>
    rw [List.getElem?_cons_succ]
    exact levR_get t (by simpa using h)
theorem levR_pos (l : List Int) : 0 < (levR l).length := by
 by_cases h : l.length ≤ 1
 ·rw [levR_one h]; simp
 ·rw [levR_more h]; simp
theorem levR_len : ∀ (n : Nat) {a b : List Int}, a.length ≤ n → a.length = b.length → (levR a).length = (levR b).length
 | 0, a, b, hn, h => by rw [levR_one (by omega), levR_one (by omega)]; rfl
 | n + 1, a, b, hn, h => by
  by_cases h1 : a.length ≤ 1
  ·rw [levR_one h1, levR_one (by omega)]; rfl
  ·rw [levR_more h1, levR_more (l := b) (by omega), List.length_cons, List.length_cons, levR_len n (a := upR a) (b := upR b) (by rw [upR_len]; omega) (by rw [upR_len, upR_len, h])]
theorem levR_top : ∀ (n : Nat) {a : List Int}, a.length ≤ n → a ≠ [] → (upN ((levR a).length - 1) a).length = 1
 | 0, a, hn, h => by cases a <;> simp at hn h
 | n + 1, a, hn, h => by
  by_cases h1 : a.length ≤ 1
  ·rw [levR_one h1]
   cases a with
   | nil => exact absurd rfl h
   | cons x l => simp only [List.length_cons] at h1; show (x :: l).length = 1; simp only [List.length_cons]; omega
  ·have h2 := levR_top n (a := upR a) (by rw [upR_len]; omega) (by intro e; have := upR_len a; rw [e] at this; simp at this; omega)
   have h3 := levR_pos (upR a)
   rw [levR_more h1, List.length_cons, show (levR (upR a)).length + 1 - 1 = (levR (upR a)).length - 1 + 1 by omega]
   exact h2
theorem levR_few : ∀ (k : Nat) {a : List Int}, a.length ≤ 2 ^ k → (levR a).length ≤ k + 1
 | 0, a, h => by rw [levR_one (by simpa using h)]; simp
 | k + 1, a, h => by
  by_cases h1 : a.length ≤ 1
  ·rw [levR_one h1]; simp
  ·rw [levR_more h1, List.length_cons]
   have := levR_few k (a := upR a) (by rw [upR_len]; rw [Nat.pow_succ] at h; omega)
   omega
theorem upN_len : ∀ (t : Nat) {a b : List Int}, a.length = b.length → (upN t a).length = (upN t b).length
 | 0, a, b, h => h
 | t + 1, a, b, h => upN_len t (by rw [upR_len, upR_len, h])
def lenD (a : List Int) (t : Nat) : Nat := (upN t a).length
def difD (a b : List Int) (t i : Nat) : Bool := decide ((upN t a)[i]? ≠ (upN t b)[i]?)
theorem lenD_succ (a : List Int) (t : Nat) : lenD a (t + 1) = (lenD a t + 1) / 2 := by unfold lenD; rw [upN_succ, upR_len]
def topD (a : List Int) : Nat := (levR a).length - 1
def diffR (a b : List Int) : List Nat := if difD a b (topD a) 0 = true then ED (lenD a) (difD a b) (topD a) 0 else []
theorem diffR_self (a : List Int) : diffR a a = [] := by unfold diffR difD; simp
/-! ### the program's way -/
theorem diff_inner {r3 r5 : List (List Int)} {v12 v69 x277 : Int} {b2 b3 : List Int} {t i : Nat} {c : Int} {acc X Y : List Int} {u0 u1 w0 w1 : Int} (hx : x277 = (i : Int)) (hX : r3[t]? = some X) (hY : r5[t]? = some Y)
  (h0 : X[2 * i]? = some u0) (h1 : X[2 * i + 1]? = some u1) (k0 : Y[2 * i]? = some w0) (k1 : Y[2 * i + 1]? = some w1) (hi : i ≤ 1000000) (hc : 0 ≤ c ∧ c ≤ 1000000000) (ha : acc.length ≤ 1000000000) :
  lp (dGDiffer_L287_step r3 r5 v12 (t : Int) b2 v69 b3 x277) (c, 2 * (i : Int), acc) = some (c + 2, acc ++ (([2 * i, 2 * i + 1].filter fun j => decide (X[j]? ≠ Y[j]?)).map fun (j : Nat) => (j : Int))) := by
 subst hx
 have e0 : Int.toNat (2 * (i : Int)) = 2 * i := by omega
 have e1 : Int.toNat (2 * (i : Int) + 1) = 2 * i + 1 := by omega
 have et : Int.toNat (t : Int) = t := rfl
 have s0 : dGDiffer_L287_step r3 r5 v12 (t : Int) b2 v69 b3 (i : Int) (c, 2 * (i : Int), acc) = some (.inl (c + 1, 2 * (i : Int) + 1, if u0 = w0 then acc else acc ++ [2 * (i : Int)])) := by
  unfold dGDiffer_L287_step
  refine guard_i (by rw [inR_i64]; omega) (guard_i (by rw [inR_i64]; omega) (ite_t (by omega) (guard_i (by rw [inR_i64]; omega) (guard_i (by omega) (bind_i (by rw [et]; exact hX) (guard_i (by omega) (bind_i (by rw [e0]; exact h0) (bind_i (by rw [et]; exact hY) (bind_i (by rw [e0]; exact k0) ?_)))))))))
  by_cases h : u0 = w0
  ·rw [if_pos h, if_pos h]; exact guard_i (by rw [inR_i64]; omega) rfl
  ·rw [if_neg h, if_neg h]; exact guard_i (by omega) (guard_i (by rw [inR_i64]; omega) rfl)
 have s1 : ∀ acc' : List Int, acc'.length ≤ 1000000001 → dGDiffer_L287_step r3 r5 v12 (t : Int) b2 v69 b3 (i : Int) (c + 1, 2 * (i : Int) + 1, acc') = some (.inl (c + 1 + 1, 2 * (i : Int) + 1 + 1, if u1 = w1 then acc' else acc' ++ [2 * (i : Int) + 1])) := fun acc' ha' => by
  unfold dGDiffer_L287_step
  refine guard_i (by rw [inR_i64]; omega) (guard_i (by rw [inR_i64]; omega) (ite_t (by omega) (guard_i (by rw [inR_i64]; omega) (guard_i (by omega) (bind_i (by rw [et]; exact hX) (guard_i (by omega) (bind_i (by rw [e1]; exact h1) (bind_i (by rw [et]; exact hY) (bind_i (by rw [e1]; exact k1) ?_)))))))))
  by_cases h : u1 = w1
  ·rw [if_pos h, if_pos h]; exact guard_i (by rw [inR_i64]; omega) rfl
  ·rw [if_neg h, if_neg h]; exact guard_i (by omega) (guard_i (by rw [inR_i64]; omega) rfl)
 have s2 : ∀ acc' : List Int, dGDiffer_L287_step r3 r5 v12 (t : Int) b2 v69 b3 (i : Int) (c + 1 + 1, 2 * (i : Int) + 1 + 1, acc') = some (.inr (c + 1 + 1, acc')) := fun acc' => by
  unfold dGDiffer_L287_step
  exact guard_i (by rw [inR_i64]; omega) (guard_i (by rw [inR_i64]; omega) (ite_f (by omega) rfl))
 rw [lp_go s0, lp_go (s1 _ (by split <;> (try simp only [List.length_append, List.length_cons, List.length_nil]) <;> omega)), lp_end (s2 _)]
 congr 2
 ·omega
 ·simp only [List.filter_cons, List.filter_nil, h0, h1, k0, k1, ne_eq, sJ, decide_not, Bool.not_eq_true', decide_eq_false_iff_not]
  by_cases q0 : u0 = w0 <;> by_cases q1 : u1 = w1 <;> simp [q0, q1]
theorem diff_level {r3 r5 : List (List Int)} {v12 : Int} {b2 : List Int} {t : Nat} {X Y : List Int} {a b : List Int} (hX : r3[t]? = some (upN t a)) (hY : r5[t]? = some (upN t b)) (hab : a.length = b.length) (hlen : a.length ≤ 1000000)
  (hsz : ∀ t, (upN t a).length ≤ 1000000) {o : List Nat} (ho : ∀ i ∈ o, 2 * i < (upN t a).length) (hb2 : b2 = o.map fun (j : Nat) => (j : Int)) {c : Int} (hc : 0 ≤ c ∧ c + 2 * o.length ≤ 100000000) (hol : o.length ≤ 10000000) :
  ∃ c' : Int, c ≤ c' ∧ c' ≤ c + 2 * o.length ∧ lp (dGDiffer_L174_step r3 r5 v12 (t : Int) b2) (c, (0 : Int), b2, []) = some (c', b2, (o.flatMap (chD (lenD a) (difD a b) t)).map fun (j : Nat) => (j : Int)) := by
 have hlab := upN_len t hab
 have key : ∀ (p q : List Nat) (c : Int) (acc : List Int), o = p ++ q → 0 ≤ c → c + 2 * q.length ≤ 100000000 → acc.length + 2 * q.length ≤ 100000000 →
   ∃ c' : Int, c ≤ c' ∧ c' ≤ c + 2 * q.length ∧ lp (dGDiffer_L174_step r3 r5 v12 (t : Int) b2) (c, (p.length : Int), b2, acc) = some (c', b2, acc ++ (q.flatMap (chD (lenD a) (difD a b) t)).map fun (j : Nat) => (j : Int)) := by
  intro p q
  induction q generalizing p with
  | nil =>
   intro c acc hpq h0 h1 h2
   refine ⟨c, Int.le_refl _, by simp, ?_⟩
   rw [List.flatMap_nil, List.map_nil, List.append_nil]
   refine lp_end ?_
   unfold dGDiffer_L174_step
   exact ite_f (by rw [hb2, hpq]; simp) rfl
  | cons i q ih =>
   intro c acc hpq h0 h1 h2
   have hi := ho i (by rw [hpq]; simp)
   have hget : b2[Int.toNat (p.length : Int)]? = some (i : Int) := by rw [hb2, hpq, Int.toNat_natCast]; simp
   have hplen : (p.length : Int) < (b2.length : Int) := by rw [hb2, hpq]; simp; omega
   have hp1 : ((p ++ [i]).length : Int) = (p.length : Int) + 1 := by simp
   have hpo : p.length ≤ 10000000 := by rw [hpq] at hol; simp at hol; omega
   have hs := hsz t
   have et : Int.toNat (t : Int) = t := rfl
   simp only [List.length_cons] at h1 h2
   by_cases hlone : 2 * i + 1 = (upN t a).length
   ·obtain ⟨c', g1, g2, g3⟩ := ih (p ++ [i]) c (acc ++ [((2 * i : Nat) : Int)]) (by rw [hpq]; simp) h0 (by omega) (by simp; omega)
    refine ⟨c', g1, by simp only [List.length_cons]; omega, ?_⟩
    rw [lp_go (s' := (c, (p.length : Int) + 1, b2, acc ++ [2 * (i : Int)]))]
    ·rw [hp1] at g3
     rw [show (2 * (i : Int)) = ((2 * i : Nat) : Int) by omega, g3]
     congr 3
     rw [List.flatMap_cons, List.map_append, chD, if_pos (show 2 * i + 1 = lenD a t from hlone)]
     simp
    ·unfold dGDiffer_L174_step
     exact ite_t hplen (guard_i (by omega) (bind_i hget (guard_i (by rw [inR_i64]; omega) (guard_i (by rw [inR_i64]; omega) (guard_i (by omega) (bind_i (by rw [et]; exact hX) (ite_t (by omega) (guard_i (by omega) (guard_i (by rw [inR_i64]; omega) rfl)))))))))
   ·have hb0 : 2 * i < (upN t b).length := by omega
    obtain ⟨c', g1, g2, g3⟩ := ih (p ++ [i]) (c + 2) (acc ++ (([2 * i, 2 * i + 1].filter fun j => decide ((upN t a)[j]? ≠ (upN t b)[j]?)).map fun (j : Nat) => (j : Int))) (by rw [hpq]; simp) (by omega) (by omega) (by
     have := List.length_filter_le (fun j => decide ((upN t a)[j]? ≠ (upN t b)[j]?)) [2 * i, 2 * i + 1]
     simp only [List.length_append, List.length_map, List.length_cons, List.length_nil] at this ⊢
     omega)
    refine ⟨c', by omega, by simp only [List.length_cons]; omega, ?_⟩
    rw [lp_go (s' := (c + 2, (p.length : Int) + 1, b2, acc ++ (([2 * i, 2 * i + 1].filter fun j => decide ((upN t a)[j]? ≠ (upN t b)[j]?)).map fun (j : Nat) => (j : Int))))]
    ·rw [hp1] at g3
     rw [g3]
     congr 3
     rw [List.flatMap_cons, List.map_append, chD, if_neg (show ¬ 2 * i + 1 = lenD a t from hlone), List.append_assoc]
     rfl
    ·unfold dGDiffer_L174_step
     have a0 := List.getElem?_eq_getElem (l := upN t a) (i := 2 * i) hi
     have a1 := List.getElem?_eq_getElem (l := upN t a) (i := 2 * i + 1) (by omega)
     have b0 := List.getElem?_eq_getElem (l := upN t b) (i := 2 * i) hb0
     have b1 := List.getElem?_eq_getElem (l := upN t b) (i := 2 * i + 1) (by omega)
     exact ite_t hplen (guard_i (by omega) (bind_i hget (guard_i (by rw [inR_i64]; omega) (guard_i (by rw [inR_i64]; omega) (guard_i (by omega) (bind_i (by rw [et]; exact hX) (ite_f (by omega) (bind_i (diff_inner rfl hX hY a0 a1 b0 b1 (by omega) ⟨h0, by omega⟩ (by omega)) (guard_i (by rw [inR_i64]; omega) rfl)))))))))
 obtain ⟨c', g1, g2, g3⟩ := key [] o c [] rfl hc.1 hc.2 (by simp; omega)
 exact ⟨c', g1, g2, by simpa using g3⟩
theorem flat_one (o : List Nat) : o.flatMap (fun i => [i]) = o := by induction o with
 | nil => rfl
 | cons x l ih => rw [List.flatMap_cons, ih]; rfl
theorem diff_down {a b : List Int} (hab : a.length = b.length) (hlen : a.length ≤ 1000000) (hsz : ∀ t, (upN t a).length ≤ 1000000) : ∀ (t k : Nat) (o : List Nat) (c : Int), t < (levR a).length → k + t ≤ 20 → o.length ≤ 2 ^ k → 0 ≤ c → c ≤ 1 + 4 * ((2 ^ k : Nat) : Int) → (∀ i ∈ o, i < (upN t a).length) →
  ∃ c', lp (dGDiffer_L19_step (levR a) (levR b)) (c, (t : Int) - 1, o.map fun (j : Nat) => (j : Int)) = some (c', (o.flatMap (ED (lenD a) (difD a b) t)).map fun (j : Nat) => (j : Int))
 | 0, k, o, c, ht, hk, hol, h0, h1, ho => by
  refine ⟨c, lp_end ?_⟩
  unfold dGDiffer_L19_step
  rw [show ED (lenD a) (difD a b) 0 = fun i => [i] from rfl, flat_one]
  exact ite_f (by omega) rfl
 | t + 1, k, o, c, ht, hk, hol, h0, h1, ho => by
  have hp : (2 : Nat) ^ k ≤ 2 ^ 20 := Nat.pow_le_pow_right (by omega) (by omega)
  have hp' : (2 : Nat) ^ 20 = 1048576 := by decide
  have hX := levR_get t (l := a) (by omega)
  have hY := levR_get t (l := b) (by rw [← levR_len _ (Nat.le_refl _) hab]; omega)
  have hoc : ∀ i ∈ o, 2 * i < (upN t a).length := fun i hi => by
   have := ho i hi
   rw [upN_succ, upR_len] at this
   omega
  obtain ⟨c1, g1, g2, g3⟩ := diff_level (v12 := c) (X := []) (Y := []) hX hY hab hlen hsz hoc rfl (c := c) ⟨h0, by omega⟩ (by omega)
  have hl2 := flat_len (f := chD (lenD a) (difD a b) t) (m := 2) (chD_len t) o
  obtain ⟨c2, g4⟩ := diff_down hab hlen hsz t (k + 1) (o.flatMap (chD (lenD a) (difD a b) t)) c1 (by omega) (by omega) (by rw [Nat.pow_succ]; omega) (by omega) (by rw [Nat.pow_succ]; generalize (2 : Nat) ^ k = q at *; omega) (fun i hi => by
   obtain ⟨j, hj, hi⟩ := List.mem_flatMap.1 hi
   have h3 := hoc j hj
   unfold chD at hi
   split at hi
   ·simp at hi; omega
   ·rename_i h4
    simp only [lenD] at h4
    simp at hi; omega)
  refine ⟨c2, ?_⟩
  rw [lp_go (s' := (c1, (t : Int) - 1, (o.flatMap (chD (lenD a) (difD a b) t)).map fun (j : Nat) => (j : Int)))]
  ·rw [g4, List.flatMap_assoc]; rfl
  ·unfold dGDiffer_L19_step
   rw [show ((t + 1 : Nat) : Int) - 1 = (t : Int) by omega]
   exact ite_t (by omega) (bind_i g3 (guard_i (by rw [inR_i64]; omega) rfl))
theorem upN_small {a : List Int} {m : Nat} (h : a.length ≤ m) (hm : 1 ≤ m) : ∀ t, (upN t a).length ≤ m
 | 0 => h
 | t + 1 => by rw [upN_succ, upR_len]; have := upN_small h hm t; omega
theorem Differ_eq {a b : List Int} (ha : ListR a) (hb : ListR b) (hab : a.length = b.length) (hl : a.length ≤ 64) : ∃ c, dGDiffer a b = some ((diffR a b).map (fun (j : Nat) => (j : Int)), c) := by
 have hsz : ∀ t, (upN t a).length ≤ 1000000 := upN_small (by omega) (by omega)
 have hk := levR_few 6 (a := a) (by omega)
 have hp := levR_pos a
 unfold dGDiffer
 by_cases h0 : a.length = 0
 ·refine ⟨0, ite_t (by omega) (ite_t (by omega) ?_)⟩
  have ea : a = [] := List.length_eq_zero_iff.1 h0
  have eb : b = [] := List.length_eq_zero_iff.1 (by omega)
  subst ea eb
  rw [diffR_self]; rfl
 ·have hane : a ≠ [] := fun e => h0 (by rw [e]; rfl)
  have hX := levR_get (topD a) (l := a) (by unfold topD; omega)
  have hY := levR_get (topD a) (l := b) (by rw [← levR_len _ (Nat.le_refl _) hab]; unfold topD; omega)
  have ht := levR_top _ (Nat.le_refl _) hane
  have htb := upN_len (topD a) hab
  have x0 := List.getElem?_eq_getElem (l := upN (topD a) a) (i := 0) (by unfold topD; omega)
  have y0 := List.getElem?_eq_getElem (l := upN (topD a) b) (i := 0) (by rw [← htb]; unfold topD; omega)
  have e1 : Int.toNat (((levR a).length : Int) - 1) = topD a := by unfold topD; omega
  by_cases hd : (upN (topD a) a)[0]'(by unfold topD; omega) = (upN (topD a) b)[0]'(by rw [← htb]; unfold topD; omega)
  ·refine ⟨1, ite_t (by omega) (ite_f (by omega) (bind_i (levels_eq ha (by omega)) (bind_i (levels_eq hb (by omega)) (guard_i (by rw [inR_i64]; omega) (guard_i (by omega) (bind_i (by rw [e1]; exact hX) (bind_i x0 (bind_i (by rw [e1]; exact hY) (bind_i y0 (ite_t hd ?_))))))))))⟩
   unfold diffR
   rw [if_neg]
   ·rfl
   ·unfold difD; rw [x0, y0]; simp [hd]
  ·obtain ⟨c, hc⟩ := diff_down hab (by omega) hsz (topD a) 0 [0] 1 (by unfold topD; omega) (by unfold topD; omega) (by simp) (by omega) (by simp) (fun i hi => by simp at hi; subst hi; unfold topD; omega)
   refine ⟨c, ite_t (by omega) (ite_f (by omega) (bind_i (levels_eq ha (by omega)) (bind_i (levels_eq hb (by omega)) (guard_i (by rw [inR_i64]; omega) (guard_i (by omega) (bind_i (by rw [e1]; exact hX) (bind_i x0 (bind_i (by rw [e1]; exact hY) (bind_i y0 (ite_f hd (guard_i (by rw [inR_i64]; omega) (bind_i (v := (c, _)) (by rw [show ((levR a).length : Int) - 1 - 1 = (topD a : Int) - 1 by unfold topD; omega]; exact hc) ?_))))))))))))⟩
   unfold diffR
   rw [if_pos]
   ·simp
   ·unfold difD; rw [x0, y0]; simp [hd]
end
set_option maxHeartbeats 1000000
noncomputable section
open Go Go.Proofs
end
end Go.Proofs.YtpadimnchmghpaaGreatDoor.Av
