/- The audit: descriptions of charges and their digests. (Plain.) -/
import Derived.Test.YtpadimnchmghpaaGreatDoorR0
import Derived.Test.YtpadimnchmghpaaGreatDoorAvZ
set_option linter.unusedVariables false
set_option linter.unusedSimpArgs false
set_option maxHeartbeats 1000000
namespace Go.Proofs.YtpadimnchmghpaaGreatDoor.Av
open Go Go.Proofs
/-! ### numbers as bytes -/
def vbytes (n : Nat) : List UInt8 := if n < 128 then [UInt8.ofNat n] else UInt8.ofNat (n % 128 + 128) :: vbytes (n / 128)
termination_by n
decreasing_by omega
theorem vbytes_lt {n : Nat} (h : n < 128) : vbytes n = [UInt8.ofNat n] := by unfold vbytes; rw [if_pos h]
theorem vbytes_ge {n : Nat} (h : ¬ n < 128) : vbytes n = UInt8.ofNat (n % 128 + 128) :: vbytes (n / 128) := by rw [vbytes]; rw [if_neg h]
theorem vbytes_len : ∀ (k n : Nat), n < 128 ^ (k + 1) → (vbytes n).length ≤ k + 1
  | 0, n, h => by rw [vbytes_lt (by simpa using h)]; simp
  | k + 1, n, h => by
    by_cases h1 : n < 128
    · rw [vbytes_lt h1]; simp
    · rw [vbytes_ge h1, List.length_cons]
      have := vbytes_len k (n / 128) (by rw [Nat.pow_succ] at h; omega)
      omega
def zcode (n : Int) : Nat := if n < 0 then (2 * (0 - (n + 1)) + 1).toNat else (2 * n).toNat
theorem zcode_lt {n : Int} (h : InR .i64 n) : zcode n < 18446744073709551616 := by
  rw [inR_i64] at h
  unfold zcode
  split <;> omega
def putI (b : List UInt8) (n : Int) : List UInt8 := b ++ vbytes (zcode n)
def putT (b s : List UInt8) : List UInt8 := putI b s.length ++ s
theorem putI_len {b : List UInt8} {n : Int} (h : InR .i64 n) : (putI b n).length ≤ b.length + 10 := by
  unfold putI
  rw [List.length_append]
  have := vbytes_len 9 (zcode n) (by have := zcode_lt h; omega)
  omega
theorem len_i64 {α : Type} {l : List α} (h : l.length ≤ 4294967296) : InR .i64 (l.length : Int) := by rw [inR_i64]; omega
theorem putT_len {b s : List UInt8} (h : s.length ≤ 4294967296) : (putT b s).length ≤ b.length + s.length + 10 := by
  unfold putT
  rw [List.length_append]
  have := putI_len (b := b) (len_i64 h)
  omega
theorem put_loop : ∀ (k v : Nat) (b : List UInt8), v < 128 ^ (k + 1) → v < 18446744073709551616 → b.length + k + 1 ≤ 4294967296 →
    ∃ (v' : Int) (b' : List UInt8), lp tollwayref02_PutInt_L9_step ((v : Int), b) = some (v', b') ∧ InR .u8 v' ∧ b'.length + 1 ≤ 4294967296 ∧ b' ++ [UInt8.ofNat (Int.toNat v')] = b ++ vbytes v
  | k, v, b, h, h64, hb => by
    by_cases hv : v < 128
    · refine ⟨v, b, lp_end ?_, by rw [inR_u8]; omega, by omega, ?_⟩
      · exact ite_f (by omega) rfl
      · rw [vbytes_lt hv]; rfl
    · cases k with
      | zero => simp at h; omega
      | succ k =>
        have e1 : Int.tmod (v : Int) 128 = ((v % 128 : Nat) : Int) := rfl
        have e2 : Int.tdiv (v : Int) 128 = ((v / 128 : Nat) : Int) := rfl
        obtain ⟨v', b', h1, h2, h3, h4⟩ := put_loop k (v / 128) (b ++ [UInt8.ofNat (v % 128 + 128)]) (by rw [Nat.pow_succ] at h; omega) (by omega) (by simp; omega)
        refine ⟨v', b', ?_, h2, h3, ?_⟩
        · rw [lp_go (s' := (((v / 128 : Nat) : Int), b ++ [UInt8.ofNat (v % 128 + 128)]))]
          · exact h1
          · refine ite_t (by omega) ?_
            rw [e1, e2]
            refine guard_i (by rw [inR_u8]; omega) (guard_i (by rw [inR_u8]; omega) (guard_i (by omega) (guard_i (by rw [inR_u64]; omega) ?_)))
            rw [show Int.toNat (((v % 128 : Nat) : Int) + 128) = v % 128 + 128 by omega]
        · rw [h4, vbytes_ge hv]; simp
theorem put_loop' {v : Int} {b : List UInt8} (h0 : 0 ≤ v) (h : v < 18446744073709551616) (hb : b.length + 10 ≤ 4294967296) :
    ∃ (o : Int × List UInt8), lp tollwayref02_PutInt_L9_step (v, b) = some o ∧ InR .u8 o.1 ∧ o.2.length + 1 ≤ 4294967296 ∧ o.2 ++ [UInt8.ofNat (Int.toNat o.1)] = b ++ vbytes v.toNat := by
  obtain ⟨n, rfl⟩ := Int.eq_ofNat_of_zero_le h0
  obtain ⟨v', b', h1, h2, h3, h4⟩ := put_loop 9 n b (by omega) (by omega) (by omega)
  exact ⟨(v', b'), h1, h2, h3, h4⟩
theorem refPutInt_eq {b : List UInt8} {n : Int} (hn : InR .i64 n) (hb : b.length + 10 ≤ 4294967296) : tollwayref02_PutInt b n = some (putI b n) := by
  have hn' := inR_i64.1 hn
  unfold tollwayref02_PutInt
  refine bind_i (v := b) (guard_i (by omega) rfl) ?_
  by_cases h : n < 0
  · obtain ⟨o, h1, h2, h3, h4⟩ := put_loop' (v := 2 * (0 - (n + 1)) + 1) (b := b) (by omega) (by omega) hb
    refine ite_t h (guard_i (by rw [inR_i64]; omega) (guard_i (by rw [inR_i64]; omega) (guard_i (by rw [inR_u64]; omega) (guard_i (by rw [inR_u64]; omega) (guard_i (by rw [inR_u64]; omega) (bind_i h1 (guard_i h2 (guard_i h3 ?_))))))))
    rw [h4]; unfold putI zcode; rw [if_pos h]
  · obtain ⟨o, h1, h2, h3, h4⟩ := put_loop' (v := 2 * n) (b := b) (by omega) (by omega) hb
    refine ite_f h (guard_i (by rw [inR_u64]; omega) (guard_i (by rw [inR_u64]; omega) (bind_i h1 (guard_i h2 (guard_i h3 ?_)))))
    rw [h4]; unfold putI zcode; rw [if_neg h]
theorem wrap_u64 {x : Int} (h0 : 0 ≤ x) (h : x < 18446744073709551616) : IntKind.wrap .u64 x = x := by
  show Int.emod x (2 ^ 64) = x
  exact Int.emod_eq_of_lt h0 (by simpa using h)
theorem codecPutInt_eq {b : List UInt8} {n : Int} (hn : InR .i64 n) (hb : b.length + 10 ≤ 4294967296) : codec_PutInt b n = some (putI b n) := by
  have hn' := inR_i64.1 hn
  have hstep : codec_PutInt_L8_step = tollwayref02_PutInt_L9_step := rfl
  unfold codec_PutInt
  rw [hstep]
  by_cases h : n < 0
  · obtain ⟨o, h1, h2, h3, h4⟩ := put_loop' (v := (0 - (n + 1)) * 2 + 1) (b := b) (by omega) (by omega) hb
    refine ite_t h (guard_i (by rw [inR_i64]; omega) (guard_i (by rw [inR_i64]; omega) (guard_i (by rw [inR_u64]; omega) (guard_i (by rw [inR_u64]; omega) (guard_i (by rw [inR_u64]; omega) (guard_i (by omega) (bind_i h1 (guard_i h2 (guard_i h3 ?_)))))))))
    rw [h4]; unfold putI zcode; rw [if_pos h, Int.mul_comm]
  · rw [wrap_u64 (x := n) (by omega) (by omega), wrap_u64 (x := n * 2) (by omega) (by omega)]
    obtain ⟨o, h1, h2, h3, h4⟩ := put_loop' (v := n * 2) (b := b) (by omega) (by omega) hb
    refine ite_f h (guard_i (by omega) (bind_i h1 (guard_i h2 (guard_i h3 ?_))))
    rw [h4]; unfold putI zcode; rw [if_neg h, Int.mul_comm]
theorem codecPutText_eq {b s : List UInt8} (h : b.length + s.length + 10 ≤ 4294967296) : codec_PutText b s = some (putT b s) := by
  have hs : InR .i64 (s.length : Int) := len_i64 (by omega)
  have := putI_len (b := b) hs
  exact bind_i (codecPutInt_eq hs (by omega)) (guard_i (by omega) rfl)
theorem refPutText_eq {b s : List UInt8} (h : b.length + s.length + 10 ≤ 4294967296) : tollwayref02_PutText b s = some (putT b s) := by
  have hs : InR .i64 (s.length : Int) := len_i64 (by omega)
  have hl := putI_len (b := b) hs
  refine bind_i (refPutInt_eq hs (by omega)) ?_
  have key := lp_foldl (l := s) (mk := fun (a : List UInt8) k => (k, a)) (step := tollwayref02_PutText_L3_step s) (g := fun a x => a ++ [x]) (out := fun a => a) (fun k a => a.length = (putI b s.length).length + k)
    (fun k x a hx ha => by
      have hk := (List.getElem?_eq_some_iff.1 hx).1
      refine ⟨ite_t (by omega) (bind_i hx (guard_i (by omega) (guard_i (by rw [inR_i64]; omega) rfl))), by simp; omega⟩)
    (fun a ha => ite_f (by omega) rfl) (a := putI b s.length) (by simp)
  refine bind_i key ?_
  rw [show ∀ (l a : List UInt8), l.foldl (fun a x => a ++ [x]) a = a ++ l from fun l => by
    induction l with
    | nil => simp
    | cons x l ih => intro a; simp [ih]]
  rfl
/-! ### digests -/
def hstep (h : Int) (c : UInt8) : Int := IntKind.wrap .u64 (IntKind.wrap .u64 ((BitVec.ofInt (IntKind.bits .u64) h ^^^ BitVec.ofInt (IntKind.bits .u64) (c.toNat : Int)).toNat : Int) * 1099511628211)
def hashR (b : List UInt8) : Int := b.foldl hstep 14695981039346656037
theorem wrap_R (x : Int) : InR .u64 (IntKind.wrap .u64 x) := by
  rw [inR_u64]
  have h1 : IntKind.wrap .u64 x = Int.emod x 18446744073709551616 := rfl
  rw [h1]
  have h2 := Int.emod_nonneg x (show (18446744073709551616 : Int) ≠ 0 by decide)
  have h3 := Int.emod_lt_of_pos x (show (0 : Int) < 18446744073709551616 by decide)
  simp only [HMod.hMod, Mod.mod] at h2 h3
  omega
theorem hashR_R (b : List UInt8) : InR .u64 (hashR b) := by
  unfold hashR
  rcases b.eq_nil_or_concat with rfl | ⟨l, x, rfl⟩
  · decide
  · rw [List.concat_eq_append, List.foldl_append]
    exact wrap_R _
theorem refHash_eq {b : List UInt8} (h : b.length ≤ 4294967296) : tollwayref08_Hash b = some (hashR b) := by
  unfold tollwayref08_Hash
  refine bind_i (lp_foldl (l := b) (mk := fun (a : Int) k => (a, k)) (step := tollwayref08_Hash_L1_step b) (g := hstep) (out := fun a => a) (fun k a => True)
    (fun k x a hx _ => ?_) (fun a _ => ?_) trivial) rfl
  · have hk := (List.getElem?_eq_some_iff.1 hx).1
    refine ⟨ite_t (by omega) (bind_i hx (guard_i (by rw [inR_u64]; have := x.toNat_lt; omega) (bind_i rfl (guard_i (by rw [inR_i64]; omega) rfl)))), trivial⟩
  · exact ite_f (by omega) rfl
theorem hash_same (b : List UInt8) : digest_Hash b = tollwayref08_Hash b := rfl
theorem digHash_eq {b : List UInt8} (h : b.length ≤ 4294967296) : digest_Hash b = some (hashR b) := by rw [hash_same, refHash_eq h]
/-! ### charges -/
def ChW (x : Tapi_Charge) : Prop := InR .i64 x.Class ∧ InR .i64 x.Time ∧ InR .i64 x.Cents ∧ ∀ l ∈ x.Lines, InR .i64 l.Cents
def ChF (x : Tapi_Charge) : Prop := x.Key.length ≤ 80 ∧ x.Vehicle.length ≤ 80 ∧ x.System.length ≤ 80 ∧ x.Lines.length ≤ 8 ∧ ∀ l ∈ x.Lines, l.Text.length ≤ 80
def descr0 (x : Tapi_Charge) : List UInt8 := putI (putI (putI (putI (putT (putT (putT [] x.Key) x.Vehicle) x.System) x.Class) x.Time) x.Cents) x.Lines.length
def descr (x : Tapi_Charge) : List UInt8 := x.Lines.foldl (fun b l => putI (putT b l.Text) l.Cents) (descr0 x)
theorem descr0_len {x : Tapi_Charge} (hw : ChW x) (hf : ChF x) : (descr0 x).length ≤ 310 := by
  obtain ⟨w1, w2, w3, w4⟩ := hw
  obtain ⟨f1, f2, f3, f4, f5⟩ := hf
  have a1 := putT_len (b := []) (s := x.Key) (by omega)
  have a2 := putT_len (b := putT [] x.Key) (s := x.Vehicle) (by omega)
  have a3 := putT_len (b := putT (putT [] x.Key) x.Vehicle) (s := x.System) (by omega)
  have a4 := putI_len (b := putT (putT (putT [] x.Key) x.Vehicle) x.System) w1
  have a5 := putI_len (b := putI (putT (putT (putT [] x.Key) x.Vehicle) x.System) x.Class) w2
  have a6 := putI_len (b := putI (putI (putT (putT (putT [] x.Key) x.Vehicle) x.System) x.Class) x.Time) w3
  have a7 := putI_len (b := putI (putI (putI (putT (putT (putT [] x.Key) x.Vehicle) x.System) x.Class) x.Time) x.Cents) (len_i64 (l := x.Lines) (by omega))
  unfold descr0
  simp only [List.length_nil] at a1
  omega
theorem lines_len {m : Nat} : ∀ {l : List Tapi_Line} {b : List UInt8}, (∀ x ∈ l, InR .i64 x.Cents) → (∀ x ∈ l, x.Text.length ≤ 80) → b.length ≤ m → (l.foldl (fun b l => putI (putT b l.Text) l.Cents) b).length ≤ m + 100 * l.length
  | [], b, _, _, h => by simpa using h
  | x :: l, b, h1, h2, h => by
    rw [List.foldl_cons]
    have a1 := putT_len (b := b) (s := x.Text) (by have := h2 x (by simp); omega)
    have a2 := putI_len (b := putT b x.Text) (h1 x (by simp))
    have h3 := h2 x (by simp)
    have := lines_len (m := m + 100) (l := l) (b := putI (putT b x.Text) x.Cents) (fun y hy => h1 y (by simp [hy])) (fun y hy => h2 y (by simp [hy])) (by omega)
    rw [List.length_cons]; omega
theorem descr_len {x : Tapi_Charge} (hw : ChW x) (hf : ChF x) : (descr x).length ≤ 1110 := by
  have := lines_len (m := 310) (l := x.Lines) hw.2.2.2 hf.2.2.2.2 (descr0_len hw hf)
  have := hf.2.2.2.1
  unfold descr
  omega
theorem Describe_eq {x : Tapi_Charge} (hw : ChW x) (hf : ChF x) : tollwayref50_Describe x = some (descr x) := by
  have hd := descr0_len hw hf
  obtain ⟨w1, w2, w3, w4⟩ := hw
  obtain ⟨f1, f2, f3, f4, f5⟩ := hf
  have a1 := putT_len (b := []) (s := x.Key) (by omega)
  have a2 := putT_len (b := putT [] x.Key) (s := x.Vehicle) (by omega)
  have a3 := putT_len (b := putT (putT [] x.Key) x.Vehicle) (s := x.System) (by omega)
  have a4 := putI_len (b := putT (putT (putT [] x.Key) x.Vehicle) x.System) w1
  have a5 := putI_len (b := putI (putT (putT (putT [] x.Key) x.Vehicle) x.System) x.Class) w2
  have a6 := putI_len (b := putI (putI (putT (putT (putT [] x.Key) x.Vehicle) x.System) x.Class) x.Time) w3
  simp only [List.length_nil] at a1
  unfold tollwayref50_Describe
  refine bind_i (refPutText_eq (by simp; omega)) (bind_i (refPutText_eq (by omega)) (bind_i (refPutText_eq (by omega)) (bind_i (refPutInt_eq w1 (by omega)) (bind_i (refPutInt_eq w2 (by omega)) (bind_i (refPutInt_eq w3 (by omega)) (bind_i (refPutInt_eq (len_i64 (l := x.Lines) (by omega)) (by omega)) ?_))))))
  refine bind_i (lp_foldl (l := x.Lines) (mk := fun (a : List UInt8) k => (k, a)) (step := tollwayref50_Describe_L15_step x) (g := fun b l => putI (putT b l.Text) l.Cents) (out := fun a => a) (fun k a => a.length ≤ 310 + 100 * k)
    (fun k y a hy ha => ?_) (fun a _ => ite_f (by omega) rfl) (a := descr0 x) (by omega)) rfl
  have hk := (List.getElem?_eq_some_iff.1 hy).1
  have hm := List.mem_of_getElem? hy
  have b1 := f5 y hm
  have c1 := putT_len (b := a) (s := y.Text) (by omega)
  have c2 := putI_len (b := putT a y.Text) (w4 y hm)
  exact ⟨ite_t (by omega) (bind_i hy (bind_i (refPutText_eq (by omega)) (bind_i (refPutInt_eq (w4 y hm) (by omega)) (guard_i (by rw [inR_i64]; omega) rfl)))), by omega⟩
def leafR (x : Tapi_Charge) : Int := hashR (descr x)
theorem leaf_go {x : Tapi_Charge} {L : List Int} {k : Nat} {v : Int} {b r : List UInt8} (hk : (k : Int) < 4) (hx : L[k]? = some v) (hr : codec_PutInt b v = some r) : audit_leaf_L7_step x (k, L, b) = some (.inl (k + 1, L, r)) := by
  unfold audit_leaf_L7_step
  exact ite_t hk (bind_i hx (bind_i hr (guard_i (by rw [inR_i64]; omega) rfl)))
theorem leaf_end {x : Tapi_Charge} {L : List Int} {b : List UInt8} : audit_leaf_L7_step x (4, L, b) = some (.inr (L, b)) := by
  unfold audit_leaf_L7_step
  exact ite_f (by decide) rfl
theorem leaf_eq {x : Tapi_Charge} (hw : ChW x) (hf : ChF x) : audit_leaf x = some (leafR x) := by
  have hd := descr0_len hw hf
  have hdl := descr_len hw hf
  obtain ⟨w1, w2, w3, w4⟩ := hw
  obtain ⟨f1, f2, f3, f4, f5⟩ := hf
  have a1 := putT_len (b := []) (s := x.Key) (by omega)
  have a2 := putT_len (b := putT [] x.Key) (s := x.Vehicle) (by omega)
  have a3 := putT_len (b := putT (putT [] x.Key) x.Vehicle) (s := x.System) (by omega)
  have a4 := putI_len (b := putT (putT (putT [] x.Key) x.Vehicle) x.System) w1
  have a5 := putI_len (b := putI (putT (putT (putT [] x.Key) x.Vehicle) x.System) x.Class) w2
  have a6 := putI_len (b := putI (putI (putT (putT (putT [] x.Key) x.Vehicle) x.System) x.Class) x.Time) w3
  simp only [List.length_nil] at a1
  unfold audit_leaf
  refine bind_i (codecPutText_eq (by simp; omega)) (bind_i (codecPutText_eq (by omega)) (bind_i (codecPutText_eq (by omega)) ?_))
  have wl : InR .i64 (x.Lines.length : Int) := len_i64 (by omega)
  refine bind_i (v := ([x.Class, x.Time, x.Cents, (x.Lines.length : Int)], descr0 x)) ?_ ?_
  · rw [lp_go (step := audit_leaf_L7_step x) (s := (0, [x.Class, x.Time, x.Cents, (x.Lines.length : Int)], putT (putT (putT [] x.Key) x.Vehicle) x.System)) (s' := (1, [x.Class, x.Time, x.Cents, (x.Lines.length : Int)], putI (putT (putT (putT [] x.Key) x.Vehicle) x.System) x.Class)) (leaf_go (by decide) rfl (codecPutInt_eq w1 (by omega)))]
    rw [lp_go (step := audit_leaf_L7_step x) (s := (1, [x.Class, x.Time, x.Cents, (x.Lines.length : Int)], putI (putT (putT (putT [] x.Key) x.Vehicle) x.System) x.Class)) (s' := (2, [x.Class, x.Time, x.Cents, (x.Lines.length : Int)], putI (putI (putT (putT (putT [] x.Key) x.Vehicle) x.System) x.Class) x.Time)) (leaf_go (by decide) rfl (codecPutInt_eq w2 (by omega)))]
    rw [lp_go (step := audit_leaf_L7_step x) (s := (2, [x.Class, x.Time, x.Cents, (x.Lines.length : Int)], putI (putI (putT (putT (putT [] x.Key) x.Vehicle) x.System) x.Class) x.Time)) (s' := (3, [x.Class, x.Time, x.Cents, (x.Lines.length : Int)], putI (putI (putI (putT (putT (putT [] x.Key) x.Vehicle) x.System) x.Class) x.Time) x.Cents)) (leaf_go (by decide) rfl (codecPutInt_eq w3 (by omega)))]
    rw [lp_go (step := audit_leaf_L7_step x) (s := (3, [x.Class, x.Time, x.Cents, (x.Lines.length : Int)], putI (putI (putI (putT (putT (putT [] x.Key) x.Vehicle) x.System) x.Class) x.Time) x.Cents)) (s' := (4, [x.Class, x.Time, x.Cents, (x.Lines.length : Int)], putI (putI (putI (putI (putT (putT (putT [] x.Key) x.Vehicle) x.System) x.Class) x.Time) x.Cents) x.Lines.length)) (leaf_go (by decide) rfl (codecPutInt_eq wl (by omega)))]
    exact lp_end leaf_end
  · refine bind_i (lp_foldl (l := x.Lines) (mk := fun (a : List UInt8) k => (k, a)) (step := audit_leaf_L27_step x) (g := fun b l => putI (putT b l.Text) l.Cents) (out := fun a => a) (fun k a => a.length ≤ 310 + 100 * k)
      (fun k y a hy ha => ?_) (fun a _ => ite_f (by omega) rfl) (a := descr0 x) (by omega)) (bind_i (digHash_eq (by have := hdl; unfold descr at this; omega)) rfl)
    have hk := (List.getElem?_eq_some_iff.1 hy).1
    have hm := List.mem_of_getElem? hy
    have b1 := f5 y hm
    have c1 := putT_len (b := a) (s := y.Text) (by omega)
    have c2 := putI_len (b := putT a y.Text) (w4 y hm)
    exact ⟨ite_t (by omega) (bind_i hy (bind_i (codecPutText_eq (by omega)) (bind_i (codecPutInt_eq (w4 y hm) (by omega)) (guard_i (by rw [inR_i64]; omega) rfl)))), by omega⟩
theorem foldl_snoc {α β : Type} (f : α → β) : ∀ (l : List α) (a : List β), l.foldl (fun a x => a ++ [f x]) a = a ++ l.map f
  | [], a => by simp
  | x :: l, a => by rw [List.foldl_cons, foldl_snoc f l]; simp
theorem Leaves_eq {l : List Tapi_Charge} (hw : ∀ x ∈ l, ChW x) (hf : ∀ x ∈ l, ChF x) (hl : l.length ≤ 20) : audit_Leaves l = some (l.map leafR) := by
  unfold audit_Leaves
  have key := lp_foldl (l := l) (mk := fun (a : List Int) k => (k, a)) (step := audit_Leaves_L1_step l) (g := fun a x => a ++ [leafR x]) (out := fun a => a) (fun k a => a.length = k)
    (fun k y a hy ha => by
      have hk := (List.getElem?_eq_some_iff.1 hy).1
      have hm := List.mem_of_getElem? hy
      exact ⟨ite_t (by omega) (bind_i hy (bind_i (leaf_eq (hw y hm) (hf y hm)) (guard_i (by omega) (guard_i (by rw [inR_i64]; omega) rfl)))), by simp [ha]⟩)
    (fun a _ => ite_f (by omega) rfl) (a := []) rfl
  rw [foldl_snoc, List.nil_append] at key
  exact bind_i key rfl
end Go.Proofs.YtpadimnchmghpaaGreatDoor.Av
