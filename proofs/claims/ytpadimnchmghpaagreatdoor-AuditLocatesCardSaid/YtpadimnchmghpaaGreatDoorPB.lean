/- Digests of two digests, trees over lists of digests, and where two trees differ. (Plain.) -/
import Derived.Test.YtpadimnchmghpaaGreatDoorPA
import Derived.Test.YtpadimnchmghpaaGreatDoorN1
import Derived.Test.YtpadimnchmghpaaGreatDoorR2
set_option linter.unusedVariables false
set_option linter.unusedSimpArgs false
set_option maxHeartbeats 1000000
namespace Go.Proofs.YtpadimnchmghpaaGreatDoor.Av
open Go Go.Proofs
/-! ### the digest of two digests -/
def by8 (x : Int) : List UInt8 := [UInt8.ofNat (Int.toNat (Int.tmod (Int.tdiv x 72057594037927936) 256)), UInt8.ofNat (Int.toNat (Int.tmod (Int.tdiv x 281474976710656) 256)), UInt8.ofNat (Int.toNat (Int.tmod (Int.tdiv x 1099511627776) 256)), UInt8.ofNat (Int.toNat (Int.tmod (Int.tdiv x 4294967296) 256)), UInt8.ofNat (Int.toNat (Int.tmod (Int.tdiv x 16777216) 256)), UInt8.ofNat (Int.toNat (Int.tmod (Int.tdiv x 65536) 256)), UInt8.ofNat (Int.toNat (Int.tmod (Int.tdiv x 256) 256)), UInt8.ofNat (Int.toNat (Int.tmod (Int.tdiv x 1) 256))]
def joinR (a b : Int) : Int := hashR (by8 a ++ by8 b)
theorem tdiv_R {a d : Int} (ha : InR .u64 a) (hd : 0 < d) : InR .u64 (Int.tdiv a d) := by
  rw [inR_u64] at *
  rw [Int.tdiv_eq_ediv_of_nonneg ha.1]
  have := Int.ediv_nonneg ha.1 (Int.le_of_lt hd)
  have := Int.ediv_le_self d ha.1
  omega
theorem tmod_R {a : Int} (ha : InR .u64 a) : InR .u8 (Int.tmod a 256) := by
  rw [inR_u64] at ha
  rw [inR_u8, Int.tmod_eq_emod_of_nonneg ha.1]
  omega
theorem refJoin_eq {a b : Int} (ha : InR .u64 a) (hb : InR .u64 b) : tollwayref08_Join a b = some (joinR a b) := by
  unfold tollwayref08_Join
  iterate 8 refine guard_i (tdiv_R ha (by decide)) (guard_i (tmod_R (tdiv_R ha (by decide))) ?_)
  iterate 8 refine guard_i (tdiv_R hb (by decide)) (guard_i (tmod_R (tdiv_R hb (by decide))) ?_)
  exact bind_i (refHash_eq (by simp)) rfl
theorem wrap_u8 (x : Int) : IntKind.wrap .u8 x = Int.emod x 256 := rfl
theorem byte_eq {a d : Int} {k : Nat} (ha : InR .u64 a) (hd : (2 : Int) ^ k = d) (h0 : 0 < d) : IntKind.wrap .u8 (Int.fdiv a (2 ^ k)) = Int.tmod (Int.tdiv a d) 256 := by
  have h := tdiv_R ha h0
  rw [inR_u64] at ha h
  rw [wrap_u8, hd, Int.fdiv_eq_ediv_of_nonneg _ (Int.le_of_lt h0), Int.tmod_eq_emod_of_nonneg h.1, Int.tdiv_eq_ediv_of_nonneg ha.1]
  rfl
theorem join_eq {a b : Int} (ha : InR .u64 a) (hb : InR .u64 b) : digest_Join a b = some (joinR a b) := by
  unfold digest_Join
  have m56 : min (Int.toNat 56) (IntKind.bits .u64) = 56 := rfl
  have m48 : min (Int.toNat 48) (IntKind.bits .u64) = 48 := rfl
  have m40 : min (Int.toNat 40) (IntKind.bits .u64) = 40 := rfl
  have m32 : min (Int.toNat 32) (IntKind.bits .u64) = 32 := rfl
  have m24 : min (Int.toNat 24) (IntKind.bits .u64) = 24 := rfl
  have m16 : min (Int.toNat 16) (IntKind.bits .u64) = 16 := rfl
  have m8 : min (Int.toNat 8) (IntKind.bits .u64) = 8 := rfl
  have m0 : min (Int.toNat 0) (IntKind.bits .u64) = 0 := rfl
  rw [m56, m48, m40, m32, m24, m16, m8, m0]
  have q : ∀ {x : Int}, InR .u64 x → InR .u8 (Int.tmod (Int.tdiv x 72057594037927936) 256) ∧ InR .u8 (Int.tmod (Int.tdiv x 281474976710656) 256) ∧ InR .u8 (Int.tmod (Int.tdiv x 1099511627776) 256) ∧ InR .u8 (Int.tmod (Int.tdiv x 4294967296) 256) ∧ InR .u8 (Int.tmod (Int.tdiv x 16777216) 256) ∧ InR .u8 (Int.tmod (Int.tdiv x 65536) 256) ∧ InR .u8 (Int.tmod (Int.tdiv x 256) 256) ∧ InR .u8 (Int.tmod (Int.tdiv x 1) 256) := fun hx =>
    ⟨tmod_R (tdiv_R hx (by decide)), tmod_R (tdiv_R hx (by decide)), tmod_R (tdiv_R hx (by decide)), tmod_R (tdiv_R hx (by decide)), tmod_R (tdiv_R hx (by decide)), tmod_R (tdiv_R hx (by decide)), tmod_R (tdiv_R hx (by decide)), tmod_R (tdiv_R hx (by decide))⟩
  obtain ⟨a1, a2, a3, a4, a5, a6, a7, a8⟩ := q ha
  obtain ⟨b1, b2, b3, b4, b5, b6, b7, b8⟩ := q hb
  rw [byte_eq (k := 56) (d := 72057594037927936) ha (by decide) (by decide), byte_eq (k := 48) (d := 281474976710656) ha (by decide) (by decide), byte_eq (k := 40) (d := 1099511627776) ha (by decide) (by decide), byte_eq (k := 32) (d := 4294967296) ha (by decide) (by decide), byte_eq (k := 24) (d := 16777216) ha (by decide) (by decide), byte_eq (k := 16) (d := 65536) ha (by decide) (by decide), byte_eq (k := 8) (d := 256) ha (by decide) (by decide), byte_eq (k := 0) (d := 1) ha (by decide) (by decide),
    byte_eq (k := 56) (d := 72057594037927936) hb (by decide) (by decide), byte_eq (k := 48) (d := 281474976710656) hb (by decide) (by decide), byte_eq (k := 40) (d := 1099511627776) hb (by decide) (by decide), byte_eq (k := 32) (d := 4294967296) hb (by decide) (by decide), byte_eq (k := 24) (d := 16777216) hb (by decide) (by decide), byte_eq (k := 16) (d := 65536) hb (by decide) (by decide), byte_eq (k := 8) (d := 256) hb (by decide) (by decide), byte_eq (k := 0) (d := 1) hb (by decide) (by decide)]
  iterate 16 refine bind_i rfl ?_
  refine guard_i a1 (guard_i a2 (guard_i a3 (guard_i a4 (guard_i a5 (guard_i a6 (guard_i a7 (guard_i a8 (guard_i b1 (guard_i b2 (guard_i b3 (guard_i b4 (guard_i b5 (guard_i b6 (guard_i b7 (guard_i b8 ?_)))))))))))))))
  exact bind_i (digHash_eq (by simp)) rfl
/-! ### the level above -/
def upR : List Int → List Int
  | [] => []
  | [x] => [x]
  | x :: y :: l => joinR x y :: upR l
def ListR (l : List Int) : Prop := ∀ x ∈ l, InR .u64 x
theorem upR_len : ∀ l : List Int, (upR l).length = (l.length + 1) / 2
  | [] => rfl
  | [x] => by simp [upR]
  | x :: y :: l => by simp only [upR, List.length_cons, upR_len l]; omega
theorem upR_R : ∀ {l : List Int}, ListR l → ListR (upR l)
  | [], h => h
  | [x], h => h
  | x :: y :: l, h => by
    intro z hz
    simp only [upR, List.mem_cons] at hz
    rcases hz with rfl | hz
    · exact hashR_R _
    · exact upR_R (l := l) (fun w hw => h w (by simp [hw])) z hz
theorem upR_get : ∀ {l : List Int} {i : Nat} {x : Int}, (upR l)[i]? = some x → (∃ u v, l[2 * i]? = some u ∧ l[2 * i + 1]? = some v ∧ x = joinR u v) ∨ (2 * i + 1 = l.length ∧ l[2 * i]? = some x)
  | [], i, x, h => by simp [upR] at h
  | [y], i, x, h => by
    cases i with
    | zero => simp only [upR, List.getElem?_cons_zero, Option.some.injEq] at h; subst h; exact .inr ⟨rfl, rfl⟩
    | succ i => simp [upR] at h
  | y :: z :: l, i, x, h => by
    cases i with
    | zero => simp only [upR, List.getElem?_cons_zero, Option.some.injEq] at h; exact .inl ⟨y, z, rfl, rfl, h.symm⟩
    | succ i =>
      simp only [upR, List.getElem?_cons_succ] at h
      rcases upR_get h with ⟨u, v, h1, h2, h3⟩ | ⟨h1, h2⟩
      · exact .inl ⟨u, v, by rw [show 2 * (i + 1) = 2 * i + 1 + 1 by omega]; simpa using h1, by rw [show 2 * (i + 1) + 1 = 2 * i + 1 + 1 + 1 by omega]; simpa using h2, h3⟩
      · exact .inr ⟨by simp only [List.length_cons]; omega, by rw [show 2 * (i + 1) = 2 * i + 1 + 1 by omega]; simpa using h2⟩
theorem foldl_app1 {α : Type} (l a : List α) : l.foldl (fun a x => a ++ [x]) a = a ++ l := by
  induction l generalizing a with
  | nil => simp
  | cons x l ih => simp [ih]
theorem mem_R {l : List Int} (h : ListR l) {i : Nat} {x : Int} (hx : l[i]? = some x) : InR .u64 x := h x (List.mem_of_getElem? hx)
theorem above_eq {l : List Int} (h : ListR l) (hl : l.length ≤ 4294967295) : digest_above l = some (upR l) := by
  unfold digest_above
  have hd : Int.tdiv ((l.length : Int) + 1) 2 = (((l.length + 1) / 2 : Nat) : Int) := rfl
  rw [hd]
  refine guard_i (by rw [inR_i64]; omega) (guard_i (by rw [inR_i64]; omega) ?_)
  have hu := upR_len l
  have key := lp_foldl (l := upR l) (mk := fun (a : List Int) k => (k, a)) (step := digest_above_L3_step l) (g := fun a x => a ++ [x]) (out := fun a => a) (fun k a => a.length = k)
    (fun k x a hx ha => by
      have hk := (List.getElem?_eq_some_iff.1 hx).1
      refine ⟨ite_t (by rw [hd]; omega) (guard_i (by rw [inR_i64]; omega) (guard_i (by rw [inR_i64]; omega) ?_)), by simp [ha]⟩
      have e1 : Int.toNat (2 * (k : Int)) = 2 * k := by omega
      have e2 : Int.toNat (2 * (k : Int) + 1) = 2 * k + 1 := by omega
      rw [e1, e2]
      rcases upR_get hx with ⟨u, v, h1, h2, rfl⟩ | ⟨h1, h2⟩
      · have hk2 := (List.getElem?_eq_some_iff.1 h2).1
        exact ite_f (by omega) (guard_i (by omega) (bind_i h1 (guard_i (by omega) (bind_i h2 (bind_i (join_eq (mem_R h h1) (mem_R h h2)) (guard_i (by omega) (guard_i (by rw [inR_i64]; omega) rfl)))))))
      · exact ite_t (by omega) (guard_i (by omega) (bind_i h2 (guard_i (by omega) (guard_i (by rw [inR_i64]; omega) rfl)))))
    (fun a _ => ite_f (by rw [hd]; omega) rfl) (a := []) rfl
  rw [foldl_app1, List.nil_append] at key
  exact bind_i key rfl
theorem refUp_eq {l : List Int} (h : ListR l) (hl : l.length ≤ 4294967295) : tollwayref08_up l = some (upR l) := by
  unfold tollwayref08_up
  have hu := upR_len l
  have key := lp_foldl (l := upR l) (mk := fun (a : List Int) k => ((2 * k : Int), a)) (step := tollwayref08_up_L1_step l) (g := fun a x => a ++ [x]) (out := fun a => a) (fun k a => a.length = k)
    (fun k x a hx ha => by
      have hk := (List.getElem?_eq_some_iff.1 hx).1
      refine ⟨?_, by simp [ha]⟩
      have e1 : Int.toNat (2 * (k : Int)) = 2 * k := by omega
      have e2 : Int.toNat (2 * (k : Int) + 1) = 2 * k + 1 := by omega
      have e3 : 2 * (k : Int) + 2 = 2 * ((k + 1 : Nat) : Int) := by omega
      unfold tollwayref08_up_L1_step
      dsimp only
      rw [e1, e2]
      rcases upR_get hx with ⟨u, v, h1, h2, rfl⟩ | ⟨h1, h2⟩
      · have hk2 := (List.getElem?_eq_some_iff.1 h2).1
        exact ite_t (by omega) (guard_i (by rw [inR_i64]; omega) (ite_t (by omega) (guard_i (by omega) (bind_i h1 (guard_i (by omega) (bind_i h2 (bind_i (refJoin_eq (mem_R h h1) (mem_R h h2)) (guard_i (by omega) (guard_i (by rw [inR_i64]; omega) (by rw [e3]))))))))))
      · exact ite_t (by omega) (guard_i (by rw [inR_i64]; omega) (ite_f (by omega) (guard_i (by omega) (bind_i h2 (guard_i (by omega) (guard_i (by rw [inR_i64]; omega) (by rw [e3]))))))))
    (fun a _ => ite_f (by omega) rfl) (a := []) rfl
  rw [foldl_app1, List.nil_append] at key
  exact bind_i key rfl
/-! ### all levels -/
def levR (l : List Int) : List (List Int) := if h : l.length ≤ 1 then [l] else l :: levR (upR l)
termination_by l.length
decreasing_by rw [upR_len]; omega
theorem levR_one {l : List Int} (h : l.length ≤ 1) : levR l = [l] := by unfold levR; rw [dif_pos h]
theorem levR_more {l : List Int} (h : ¬ l.length ≤ 1) : levR l = l :: levR (upR l) := by rw [levR]; rw [dif_neg h]
theorem lev_loop {up : List Int → Option (List Int)} {step : List Int × List (List Int) → Option ((List Int × List (List Int)) ⊕ List (List Int))}
    (hstep : ∀ v b, step (v, b) = if (v.length : Int) > (1 : Int) then (up v).bind fun r => if b.length + 1 ≤ 4294967296 then some (Sum.inl (r, b ++ [r])) else none else some (Sum.inr b))
    (hup : ∀ l, ListR l → l.length ≤ 4294967295 → up l = some (upR l)) : ∀ (n : Nat) (v : List Int) (acc : List (List Int)), v.length ≤ n → ListR v → acc.length + n + 2 ≤ 4294967296 → lp step (v, acc ++ [v]) = some (acc ++ levR v)
  | 0, v, acc, hv, hR, ha => by
    rw [levR_one (by omega)]
    exact lp_end (by rw [hstep]; exact ite_f (by omega) rfl)
  | n + 1, v, acc, hv, hR, ha => by
    by_cases h : v.length ≤ 1
    · rw [levR_one h]
      exact lp_end (by rw [hstep]; exact ite_f (by omega) rfl)
    · rw [lp_go (s' := (upR v, (acc ++ [v]) ++ [upR v])) (by rw [hstep]; exact ite_t (by omega) (bind_i (hup v hR (by omega)) (guard_i (by simp; omega) rfl)))]
      rw [lev_loop hstep hup n (upR v) (acc ++ [v]) (by rw [upR_len]; omega) (upR_R hR) (by simp; omega), levR_more h]
      simp
theorem levels_eq {l : List Int} (h : ListR l) (hl : l.length ≤ 4294967290) : digest_levels l = some (levR l) := by
  unfold digest_levels
  exact bind_i (lev_loop (up := digest_above) (step := digest_levels_L1_step) (fun _ _ => rfl) (fun _ => above_eq) l.length l [] (Nat.le_refl _) h (by simp; omega)) rfl
theorem refLevels_eq {l : List Int} (h : ListR l) (hl : l.length ≤ 4294967290) : tollwayref08_levels l = some (levR l) := by
  unfold tollwayref08_levels
  exact bind_i (lev_loop (up := tollwayref08_up) (step := tollwayref08_levels_L1_step) (fun _ _ => rfl) (fun _ => refUp_eq) l.length l [] (Nat.le_refl _) h (by simp; omega)) rfl
end Go.Proofs.YtpadimnchmghpaaGreatDoor.Av
