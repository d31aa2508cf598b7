/- The codec and the reference's codec write the same bytes. -/
import Derived.Test.YteljonodbkkckaaB3
import Derived.Test.YteljonodbkkckaaAvPl
set_option linter.unusedVariables false
namespace Go.Proofs.Yteljonodbkkckaa.Av
open Go Go.Proofs
theorem wrap_u64 (n : Int) : IntKind.wrap .u64 n = n % 18446744073709551616 := rfl
theorem lp_ex {σ ρ : Type} {step : σ → Option (σ ⊕ ρ)} (n : Nat) (I : Nat → σ → Prop) (Q : ρ → Prop)
    (hstep : ∀ k s, k < n → I k s → ∃ s', step s = some (.inl s') ∧ I (k + 1) s')
    (hend : ∀ s, I n s → ∃ r, step s = some (.inr r) ∧ Q r) : ∀ (m k : Nat) (s : σ), k + m = n → I k s → ∃ r, lp step s = some r ∧ Q r
  | 0, k, s, hk, hi => by
    have hk : k = n := by omega
    subst hk
    obtain ⟨r, h, hq⟩ := hend s hi
    exact ⟨r, lp_end h, hq⟩
  | m + 1, k, s, hk, hi => by
    obtain ⟨s', h, hi'⟩ := hstep k s (by omega) hi
    rw [lp_go h]
    exact lp_ex n I Q hstep hend m (k + 1) s' (by omega) hi'
/-! ### numbers -/
theorem vi_loop : ∀ (k : Nat) (v : Nat), v < 128 ^ (k + 1) → v < 18446744073709551616 → ∃ (w : List UInt8) (d : Nat), w.length ≤ k ∧ d < 128 ∧ ∀ b : List UInt8, b.length + k ≤ 4294967296 → lp tollwayref02_PutInt_L9_step ((v : Int), b) = some ((d : Int), b ++ w)
  | 0, v, h, h2 => ⟨[], v, Nat.le_refl _, by simpa using h, fun b hb => by
    have : v < 128 := by simpa using h
    rw [List.append_nil]
    refine lp_end ?_
    unfold tollwayref02_PutInt_L9_step
    exact ite_f (by omega) rfl⟩
  | k + 1, v, h, h2 => by
    by_cases hv : v < 128
    · refine ⟨[], v, Nat.zero_le _, hv, fun b hb => ?_⟩
      rw [List.append_nil]
      refine lp_end ?_
      unfold tollwayref02_PutInt_L9_step
      exact ite_f (by omega) rfl
    · have hlt : v / 128 < 128 ^ (k + 1) := by
        rw [Nat.div_lt_iff_lt_mul (by omega)]
        rw [Nat.pow_succ] at h
        exact h
      obtain ⟨w, d, hw, hd, hb⟩ := vi_loop k (v / 128) hlt (by omega)
      refine ⟨UInt8.ofNat (v % 128 + 128) :: w, d, by simp; omega, hd, fun b hbl => ?_⟩
      have e1 : Int.tmod (v : Int) 128 = ((v % 128 : Nat) : Int) := by rw [Int.tmod_eq_emod_of_nonneg (by omega)]; omega
      have e2 : Int.tdiv (v : Int) 128 = ((v / 128 : Nat) : Int) := by rw [Int.tdiv_eq_ediv_of_nonneg (by omega)]; omega
      rw [lp_go (s' := (((v / 128 : Nat) : Int), b ++ [UInt8.ofNat (v % 128 + 128)])), hb _ (by simp; omega), List.append_assoc, List.singleton_append]
      show tollwayref02_PutInt_L9_step ((v : Int), b) = _
      unfold tollwayref02_PutInt_L9_step
      show (if (v : Int) ≥ 128 then _ else _) = _
      rw [e1, e2]
      have e3 : ((v % 128 : Nat) : Int).toNat = v % 128 := Int.toNat_natCast _
      have e4 : (((v % 128 : Nat) : Int) + 128).toNat = v % 128 + 128 := by omega
      rw [e4]
      exact ite_t (by omega) (guard_i (inR_u8.2 (by omega)) (guard_i (inR_u8.2 (by omega)) (guard_i (by omega) (guard_i (inR_u64.2 (by omega)) rfl))))
theorem vi_loop' (v : Nat) (h : v < 18446744073709551616) : ∃ (w : List UInt8) (d : Nat), w.length ≤ 9 ∧ d < 128 ∧ ∀ b : List UInt8, b.length + 9 ≤ 4294967296 → lp tollwayref02_PutInt_L9_step ((v : Int), b) = some ((d : Int), b ++ w) :=
  vi_loop 9 v (Nat.lt_of_lt_of_le h (by decide)) h
/-- two writers put the same bytes, at most `m`, whatever lies before -/
def Puts (m : Nat) (F G : List UInt8 → Option (List UInt8)) : Prop := ∃ w : List UInt8, w.length ≤ m ∧ ∀ b : List UInt8, b.length + m ≤ 4294967296 → F b = some (b ++ w) ∧ G b = some (b ++ w)
theorem Puts.at_nil {m : Nat} {F G : List UInt8 → Option (List UInt8)} (h : Puts m F G) (hm : m ≤ 4294967296) : ∃ w : List UInt8, w.length ≤ m ∧ F [] = some w ∧ G [] = some w := by
  obtain ⟨w, hw, hb⟩ := h
  have := hb [] (by simpa using hm)
  exact ⟨w, hw, by simpa using this.1, by simpa using this.2⟩
theorem Puts.mono {m n : Nat} {F G : List UInt8 → Option (List UInt8)} (h : Puts m F G) (hm : m ≤ n) : Puts n F G := by
  obtain ⟨w, hw, hb⟩ := h
  exact ⟨w, by omega, fun b hl => hb b (by omega)⟩
theorem copy_eq (b : List UInt8) (h : b.length ≤ 4294967296) : tollwayref02_Copy b = some b := by
  unfold tollwayref02_Copy
  exact ite_t (by omega) rfl
theorem putInt_puts (n : Int) (h : -9223372036854775808 ≤ n ∧ n ≤ 9223372036854775807) : Puts 10 (fun b => codec_PutInt b n) (fun b => tollwayref02_PutInt b n) := by
  by_cases hn : n < 0
  · obtain ⟨w, d, hw, hd, hb⟩ := vi_loop' (2 * (0 - (n + 1)) + 1).toNat (by omega)
    refine ⟨w ++ [UInt8.ofNat d], by simp; omega, fun b hl => ⟨?_, ?_⟩⟩
    · show codec_PutInt b n = _
      unfold codec_PutInt
      rw [if_pos hn]
      refine guard_i (inR_i64.2 (by omega)) (guard_i (inR_i64.2 (by omega)) (guard_i (inR_u64.2 (by omega)) (guard_i (inR_u64.2 (by omega)) (guard_i (inR_u64.2 (by omega)) (guard_i (by omega) (bind_i (v := ((d : Int), b ++ w)) ?_ ?_))))))
      · have := hb b (by omega)
        rw [← this]
        have e : (((2 * (0 - (n + 1)) + 1).toNat : Nat) : Int) = (0 - (n + 1)) * 2 + 1 := by omega
        rw [e]
        rfl
      · show (if InR .u8 (d : Int) then if (b ++ w).length + 1 ≤ 4294967296 then some ((b ++ w) ++ [UInt8.ofNat (Int.toNat (d : Int))]) else none else none) = _
        rw [Int.toNat_natCast]
        exact guard_i (inR_u8.2 (by omega)) (guard_i (by simp; omega) (by rw [List.append_assoc]))
    · show tollwayref02_PutInt b n = _
      unfold tollwayref02_PutInt
      rw [copy_eq b (by omega), Option.bind_some, if_pos hn]
      refine guard_i (inR_i64.2 (by omega)) (guard_i (inR_i64.2 (by omega)) (guard_i (inR_u64.2 (by omega)) (guard_i (inR_u64.2 (by omega)) (guard_i (inR_u64.2 (by omega)) (bind_i (v := ((d : Int), b ++ w)) ?_ ?_)))))
      · have := hb b (by omega)
        rw [← this]
        have e : (((2 * (0 - (n + 1)) + 1).toNat : Nat) : Int) = 2 * (0 - (n + 1)) + 1 := by omega
        rw [e]
      · show (if InR .u8 (d : Int) then if (b ++ w).length + 1 ≤ 4294967296 then some ((b ++ w) ++ [UInt8.ofNat (Int.toNat (d : Int))]) else none else none) = _
        rw [Int.toNat_natCast]
        exact guard_i (inR_u8.2 (by omega)) (guard_i (by simp; omega) (by rw [List.append_assoc]))
  · obtain ⟨w, d, hw, hd, hb⟩ := vi_loop' (2 * n).toNat (by omega)
    have e : (((2 * n).toNat : Nat) : Int) = 2 * n := by omega
    have e2 : IntKind.wrap .u64 ((IntKind.wrap .u64 n) * 2) = 2 * n := by
      rw [wrap_u64, wrap_u64]; omega
    refine ⟨w ++ [UInt8.ofNat d], by simp; omega, fun b hl => ⟨?_, ?_⟩⟩
    · show codec_PutInt b n = _
      unfold codec_PutInt
      rw [if_neg hn]
      refine guard_i (by omega) (bind_i (v := ((d : Int), b ++ w)) ?_ ?_)
      · have := hb b (by omega)
        rw [← this, e, e2]
        rfl
      · show (if InR .u8 (d : Int) then if (b ++ w).length + 1 ≤ 4294967296 then some ((b ++ w) ++ [UInt8.ofNat (Int.toNat (d : Int))]) else none else none) = _
        rw [Int.toNat_natCast]
        exact guard_i (inR_u8.2 (by omega)) (guard_i (by simp; omega) (by rw [List.append_assoc]))
    · show tollwayref02_PutInt b n = _
      unfold tollwayref02_PutInt
      rw [copy_eq b (by omega), Option.bind_some, if_neg hn]
      refine guard_i (inR_u64.2 (by omega)) (guard_i (inR_u64.2 (by omega)) (bind_i (v := ((d : Int), b ++ w)) ?_ ?_))
      · have := hb b (by omega)
        rw [← this, e]
        rfl
      · show (if InR .u8 (d : Int) then if (b ++ w).length + 1 ≤ 4294967296 then some ((b ++ w) ++ [UInt8.ofNat (Int.toNat (d : Int))]) else none else none) = _
        rw [Int.toNat_natCast]
        exact guard_i (inR_u8.2 (by omega)) (guard_i (by simp; omega) (by rw [List.append_assoc]))
/-! ### texts -/
theorem putText_loop (s b : List UInt8) (h : b.length + s.length ≤ 4294967296) : lp (tollwayref02_PutText_L3_step s) ((0 : Nat), b) = some (b ++ s) := by
  have := lp_foldl (l := s) (mk := fun (a : List UInt8) k => (k, a)) (step := tollwayref02_PutText_L3_step s) (g := fun a x => a ++ [x]) (out := fun a => a) (fun k a => a.length = b.length + k) (fun k x a hx ha => ⟨by
      have hk := get_lt hx
      unfold tollwayref02_PutText_L3_step
      exact ite_t (by omega) (bind_i hx (guard_i (by omega) (guard_i (inR_i64.2 (by omega)) rfl))), by simp [ha]; omega⟩) (fun a ha => by
      unfold tollwayref02_PutText_L3_step
      exact ite_f (by omega) rfl) (a := b) rfl
  rw [this]
  have hs : ∀ (s b : List UInt8), s.foldl (fun a x => a ++ [x]) b = b ++ s := fun s => by
    induction s with
    | nil => intro b; simp
    | cons x s ih => intro b; rw [List.foldl_cons, ih]; simp
  rw [hs]
theorem putText_puts (s : List UInt8) (h : s.length ≤ 4000000000) : Puts (s.length + 10) (fun b => codec_PutText b s) (fun b => tollwayref02_PutText b s) := by
  obtain ⟨w, hw, hb⟩ := putInt_puts (s.length : Int) (by omega)
  refine ⟨w ++ s, by simp; omega, fun b hl => ⟨?_, ?_⟩⟩
  · show codec_PutText b s = _
    unfold codec_PutText
    refine bind_i (hb b (by omega)).1 (guard_i (by simp; omega) (by rw [List.append_assoc]))
  · show tollwayref02_PutText b s = _
    unfold tollwayref02_PutText
    refine bind_i (hb b (by omega)).2 (bind_i (putText_loop s _ (by simp; omega)) (by rw [List.append_assoc]))
/-! ### the sum -/
theorem wrap_u32_in {x : Int} : 0 ≤ IntKind.wrap .u32 x ∧ IntKind.wrap .u32 x ≤ 4294967295 := by rw [IntKind.wrap_u32]; omega
theorem sum_in (b : List UInt8) (v : Int) (k : Nat) (h : 0 ≤ v ∧ v ≤ 4294967295) : ∃ r : Int, lp (tollwayref02_Sum_L30_step b 0 0) (v, (0 : Nat)) = some r ∧ 0 ≤ r ∧ r ≤ 4294967295 := by
  refine lp_ex 8 (fun k s => s.2 = k ∧ 0 ≤ s.1 ∧ s.1 ≤ 4294967295) _ (fun k s hk hi => ?_) (fun s hi => ?_) 8 0 (v, 0) rfl ⟨rfl, h⟩
  · obtain ⟨v, k'⟩ := s
    obtain ⟨rfl, h0, h1⟩ := hi
    dsimp only at h0 h1 hk ⊢
    have hd : Int.tdiv v 2 = v / 2 := Int.tdiv_eq_ediv_of_nonneg h0
    unfold tollwayref02_Sum_L30_step
    by_cases hm : Int.tmod v 2 = 1
    · exact ⟨_, ite_t (by omega) (guard_i (inR_u32.2 (by omega)) (ite_t hm (bind_i rfl (guard_i (inR_i64.2 (by omega)) rfl)))), rfl, wrap_u32_in⟩
    · exact ⟨_, ite_t (by omega) (guard_i (inR_u32.2 (by omega)) (ite_f hm (guard_i (inR_i64.2 (by omega)) rfl))), rfl, by show 0 ≤ Int.tdiv v 2 ∧ _; dsimp only; omega⟩
  · obtain ⟨v, k'⟩ := s
    obtain ⟨rfl, h0, h1⟩ := hi
    unfold tollwayref02_Sum_L30_step
    exact ⟨_, ite_f (by omega) rfl, h0, h1⟩
theorem sum_out (b : List UInt8) (h : b.length ≤ 4294967296) : ∃ r : Int, lp (tollwayref02_Sum_L1_step b) ((4294967295 : Int), (0 : Nat)) = some r ∧ 0 ≤ r ∧ r ≤ 4294967295 := by
  refine lp_ex b.length (fun k s => s.2 = k ∧ 0 ≤ s.1 ∧ s.1 ≤ 4294967295) _ (fun k s hk hi => ?_) (fun s hi => ?_) b.length 0 (4294967295, 0) (by omega) ⟨rfl, by omega, by omega⟩
  · obtain ⟨v, k'⟩ := s
    obtain ⟨rfl, h0, h1⟩ := hi
    dsimp only at h0 h1 hk ⊢
    have hx := List.getElem?_eq_getElem hk
    have hb := (b[k']).toNat_lt
    obtain ⟨r, hr, hr0, hr1⟩ := sum_in b (IntKind.wrap .u32 ((BitVec.ofInt (IntKind.bits .u32) v ^^^ BitVec.ofInt (IntKind.bits .u32) (b[k'].toNat : Int)).toNat : Int)) 0 wrap_u32_in
    unfold tollwayref02_Sum_L1_step
    exact ⟨_, ite_t (by omega) (bind_i hx (guard_i (inR_u32.2 (by omega)) (bind_i rfl (bind_i hr (guard_i (inR_i64.2 (by omega)) rfl))))), rfl, hr0, hr1⟩
  · obtain ⟨v, k'⟩ := s
    obtain ⟨rfl, h0, h1⟩ := hi
    unfold tollwayref02_Sum_L1_step
    exact ⟨_, ite_f (by omega) rfl, h0, h1⟩
theorem sum_both (b : List UInt8) (h : b.length ≤ 4294967296) : ∃ r : Int, codec_Sum b = some r ∧ tollwayref02_Sum b = some r ∧ 0 ≤ r ∧ r ≤ 4294967295 := by
  obtain ⟨r, hr, h0, h1⟩ := sum_out b h
  refine ⟨IntKind.wrap .u32 ((BitVec.ofInt (IntKind.bits .u32) r ^^^ BitVec.ofInt (IntKind.bits .u32) 4294967295).toNat : Int), ?_, ?_, wrap_u32_in⟩
  · unfold codec_Sum
    refine bind_i (v := r) hr (bind_i rfl ?_)
    rw [BitVec.xor_comm]
    exact guard_i (inR_i64.2 (by have := wrap_u32_in (x := ((BitVec.ofInt (IntKind.bits .u32) r ^^^ BitVec.ofInt (IntKind.bits .u32) 4294967295).toNat : Int)); omega)) rfl
  · unfold tollwayref02_Sum
    refine bind_i (v := r) hr (bind_i rfl ?_)
    exact guard_i (inR_i64.2 (by have := wrap_u32_in (x := ((BitVec.ofInt (IntKind.bits .u32) r ^^^ BitVec.ofInt (IntKind.bits .u32) 4294967295).toNat : Int)); omega)) rfl
/-! ### frames -/
theorem putFrame_puts (k : Int) (p : List UInt8) (hk : 0 ≤ k ∧ k ≤ 255) (h : p.length ≤ 4000000000) : Puts (p.length + 20) (fun b => codec_PutFrame b k p) (fun b => tollwayref02_PutFrame b k p) := by
  obtain ⟨w, hw, hb⟩ := putText_puts p h
  obtain ⟨r, hs1, hs2, h0, h1⟩ := sum_both ([UInt8.ofNat k.toNat] ++ w) (by simp; omega)
  have e1 : IntKind.wrap .u8 k = k := by rw [IntKind.wrap_u8]; omega
  have e2 : Int.tmod k 256 = k := by rw [Int.tmod_eq_emod_of_nonneg (by omega)]; omega
  have f1 : IntKind.wrap .u8 (Int.fdiv r (2 ^ (min (Int.toNat 24) (IntKind.bits .i64)))) = r / 16777216 := by
    show IntKind.wrap .u8 (Int.fdiv r (2 ^ 24)) = _
    rw [Int.fdiv_eq_ediv_of_nonneg _ (by omega), IntKind.wrap_u8]; omega
  have f2 : IntKind.wrap .u8 (Int.fdiv r (2 ^ (min (Int.toNat 16) (IntKind.bits .i64)))) = r / 65536 % 256 := by
    show IntKind.wrap .u8 (Int.fdiv r (2 ^ 16)) = _
    rw [Int.fdiv_eq_ediv_of_nonneg _ (by omega), IntKind.wrap_u8]
    omega
  have f3 : IntKind.wrap .u8 (Int.fdiv r (2 ^ (min (Int.toNat 8) (IntKind.bits .i64)))) = r / 256 % 256 := by
    show IntKind.wrap .u8 (Int.fdiv r (2 ^ 8)) = _
    rw [Int.fdiv_eq_ediv_of_nonneg _ (by omega), IntKind.wrap_u8]
    omega
  have f4 : IntKind.wrap .u8 r = r % 256 := IntKind.wrap_u8 r
  have g1 : Int.tdiv r 16777216 = r / 16777216 := Int.tdiv_eq_ediv_of_nonneg h0
  have g2 : Int.tmod (Int.tdiv r 65536) 256 = r / 65536 % 256 := by rw [Int.tdiv_eq_ediv_of_nonneg h0, Int.tmod_eq_emod_of_nonneg (by omega)]
  have g3 : Int.tmod (Int.tdiv r 256) 256 = r / 256 % 256 := by rw [Int.tdiv_eq_ediv_of_nonneg h0, Int.tmod_eq_emod_of_nonneg (by omega)]
  have g4 : Int.tmod r 256 = r % 256 := by rw [Int.tmod_eq_emod_of_nonneg (by omega)]
  have g5 : Int.tdiv r 65536 = r / 65536 := Int.tdiv_eq_ediv_of_nonneg h0
  have g6 : Int.tdiv r 256 = r / 256 := Int.tdiv_eq_ediv_of_nonneg h0
  refine ⟨[UInt8.ofNat k.toNat] ++ w ++ [UInt8.ofNat (r / 16777216).toNat, UInt8.ofNat (r / 65536 % 256).toNat, UInt8.ofNat (r / 256 % 256).toNat, UInt8.ofNat (r % 256).toNat], by simp; omega, fun b hl => ⟨?_, ?_⟩⟩
  · show codec_PutFrame b k p = _
    unfold codec_PutFrame
    rw [e1]
    refine guard_i (inR_u8.2 hk) (bind_i (hb [UInt8.ofNat k.toNat] (by simp; omega)).1 (bind_i hs1 (bind_i rfl (bind_i rfl (bind_i rfl ?_)))))
    rw [f1, f2, f3, f4]
    exact guard_i (by simp; omega) (guard_i (inR_u8.2 (by omega)) (guard_i (inR_u8.2 (by omega)) (guard_i (inR_u8.2 (by omega)) (guard_i (inR_u8.2 (by omega)) (guard_i (by omega) (guard_i (by simp; omega) rfl))))))
  · show tollwayref02_PutFrame b k p = _
    unfold tollwayref02_PutFrame
    rw [e2, if_neg (by omega)]
    refine guard_i (inR_u8.2 hk) (bind_i (hb [UInt8.ofNat k.toNat] (by simp; omega)).2 (bind_i hs2 ?_))
    rw [g1, g2, g3, g4, g5, g6]
    exact guard_i (inR_i64.2 (by omega)) (guard_i (inR_u8.2 (by omega)) (guard_i (inR_i64.2 (by omega)) (guard_i (inR_u8.2 (by omega)) (guard_i (inR_i64.2 (by omega)) (guard_i (inR_u8.2 (by omega)) (guard_i (inR_u8.2 (by omega)) (guard_i (by simp; omega) (bind_i (copy_eq b (by omega)) (guard_i (by simp; omega) rfl)))))))))
theorem same_self (l : List UInt8) (h : l.length ≤ 4294967296) : tollwayref02_Same l l = some true := by
  unfold tollwayref02_Same
  rw [if_pos rfl]
  have := lp_foldE0 (l := l) (mk := fun (_ : Unit) k => k) (step := tollwayref02_Same_L2_step l l) (g := fun _ _ => Sum.inr ()) (out := fun _ => (Sum.inr () : Unit ⊕ Unit)) (fun _ _ => True) (fun k x a hx _ => ⟨by
      have hk := get_lt hx
      unfold tollwayref02_Same_L2_step
      exact ite_t (by omega) (bind_i hx (bind_i hx (ite_t rfl (guard_i (inR_i64.2 (by omega)) rfl)))), fun _ _ => trivial⟩) (fun a _ => by
      unfold tollwayref02_Same_L2_step
      exact ite_f (by omega) rfl) (a := ()) trivial
  have hf : ∀ l : List UInt8, foldE (fun (_ : Unit) (_ : UInt8) => Sum.inr ()) (fun _ => (Sum.inr () : Unit ⊕ Unit)) l () = .inr () := fun l => by
    induction l with
    | nil => rfl
    | cons x l ih => exact ih
  rw [this, hf]
  rfl
end Go.Proofs.Yteljonodbkkckaa.Av
