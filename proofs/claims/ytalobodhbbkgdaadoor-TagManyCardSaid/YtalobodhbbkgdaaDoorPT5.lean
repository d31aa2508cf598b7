/- The law TagMany holds. -/
import Derived.Test.YtalobodhbbkgdaaDoorPT4
import Derived.Test.YtalobodhbbkgdaaDoorL6
set_option linter.unusedVariables false
set_option linter.unusedSimpArgs false
set_option maxHeartbeats 1000000
namespace Go.Proofs.YtalobodhbbkgdaaDoor.Av
open Go Go.Proofs
/-- the list that TagMany builds -/
def mny (ag : List UInt8) (i : Nat) : Tapi_TagState := ⟨mkS ag i, i, 1 + Int.tmod i 3⟩
theorem many_L8 (more : Int) (sp : Bool) (c : UInt8) (hm : 0 ≤ more ∧ more ≤ 100) (hc : dg c = true) :
    lp (tollwaylaw11_TagMany_L8_step more sp [c]) (0, []) = some (.inr ((List.range (1024 + more.toNat)).map (mny [48, 48, c]))) := by
  refine lp_invE (fun p : Nat × List Tapi_TagState => p.1 ≤ 1024 + more.toNat ∧ p.2 = (List.range p.1).map (mny [48, 48, c])) (fun p => 1024 + more.toNat - p.1) _ ?_ (0, []) ⟨Nat.zero_le _, rfl⟩
  rintro ⟨k, b⟩ ⟨h1, h2⟩
  dsimp only at h1 h2
  unfold tollwaylaw11_TagMany_L8_step
  dsimp only
  have hag : ∀ x ∈ ([48, 48] : List UInt8) ++ [c], dg x = true := by
    intro x hx
    simp only [List.cons_append, List.nil_append, List.mem_cons, List.not_mem_nil, or_false] at hx
    rcases hx with rfl | rfl | rfl
    · rfl
    · rfl
    · exact hc
  rw [if_pos (inR_i64.2 (by omega)), if_pos (inR_i64.2 (by omega))]
  by_cases hk : k < 1024 + more.toNat
  · have hmod : Int.tmod (k : Int) 3 = ((k % 3 : Nat) : Int) := by rw [Int.tmod_eq_emod_of_nonneg (by omega)]; omega
    rw [if_pos (by omega), make_eq, mkR_ok _ k hag rfl (by omega), Option.bind_some]
    dsimp only
    rw [if_pos rfl, if_pos (inR_i64.2 (by omega)), if_pos (by rw [h2]; simp; omega), if_pos (inR_i64.2 (by omega))]
    refine .inl ⟨_, rfl, ⟨hk, ?_⟩, by dsimp only; omega⟩
    dsimp only
    rw [List.range_succ, List.map_append, h2]; rfl
  · rw [if_neg (by omega)]
    have : k = 1024 + more.toNat := by omega
    subst this
    exact .inr (by rw [h2])
theorem many_get (ag : List UInt8) (n k : Nat) (x : Tapi_TagState) (h : ((List.range n).map (mny ag))[k]? = some x) : k < n ∧ x = mny ag k := by
  rw [List.getElem?_map] at h
  have hk : k < n := by
    rcases Nat.lt_or_ge k n with h' | h'
    · exact h'
    · rw [List.getElem?_eq_none (by simpa using h')] at h; cases h
  rw [List.getElem?_range hk] at h
  exact ⟨hk, (Option.some.inj h).symm⟩
theorem many_ok (ag : List UInt8) (h1 : ∀ c ∈ ag, dg c = true) (h2 : ag.length = 3) : okL ((List.range 1024).map (mny ag)) := by
  intro k x hx
  obtain ⟨hk, rfl⟩ := many_get ag 1024 k x hx
  have hmod : Int.tmod (k : Int) 3 = ((k % 3 : Nat) : Int) := by rw [Int.tmod_eq_emod_of_nonneg (by omega)]; omega
  refine ⟨mk_chk ag k h1 h2, ⟨by show (0 : Int) ≤ (k : Int); omega, by show (k : Int) < 68719476736; omega⟩, ⟨by show (1 : Int) ≤ 1 + Int.tmod k 3; omega, by show 1 + Int.tmod (k : Int) 3 ≤ 3; omega⟩, fun p h0 hp => ?_⟩
  obtain ⟨_, rfl⟩ := many_get ag 1024 (k - 1) p hp
  have : Go.Lib.compareBytes (mny ag (k - 1)).Tag (mny ag k).Tag = -1 := mk_lt ag (k - 1) k (by omega) (by omega)
  unfold cmpT
  rw [this, if_neg (show ¬ ((-1 : Int) = 0) by decide)]; decide
theorem many_bad (l : List Tapi_TagState) (x : Tapi_TagState) (h0 : l[0]? = some x) (hl : l.length ≤ 1024) (hc : chk x.Tag = 0) (hf : 0 ≤ x.From ∧ x.From < 68719476736) (hs : x.State > 3) : tag_CheckAll l = some 1 := by
  have hp := (List.getElem?_eq_some_iff.1 h0).1
  unfold tag_CheckAll
  rw [if_neg (by omega), lp_end (r := .inl 1)]
  · rfl
  · unfold tag_CheckAll_L2_step
    rw [if_pos (by omega), h0, Option.bind_some, check_eq, Option.bind_some, hc, if_pos rfl, if_neg (by omega), if_neg (by omega), if_neg (by omega), if_pos hs]
theorem tollwaylaw11_TagMany_true (a more : Int) (sp : Bool) {q : Prop} (ha : InR .u16 a) (hm : InR .u8 more) (_ : q) : tollwaylaw11_TagMany a more sp = some true := by
  have ha : 0 ≤ a ∧ a ≤ 65535 := ha
  have hm : 0 ≤ more ∧ more ≤ 255 := hm
  unfold tollwaylaw11_TagMany
  by_cases hm1 : more > 100
  · rw [if_pos hm1]
  rw [if_neg hm1]
  by_cases ha1 : a > 999
  · rw [if_pos ha1]
  rw [if_neg ha1, Int.tmod_eq_emod_of_nonneg ha.1, if_pos (inR_u8.2 (by omega)), if_pos (inR_u8.2 (by omega)), Option.bind_some, if_pos (by simp)]
  have hc : dg (UInt8.ofNat (Int.toNat (48 + a % 10))) = true := dgI (by omega)
  generalize UInt8.ofNat (Int.toNat (48 + a % 10)) = c at hc
  have hag : ∀ x ∈ ([48, 48, c] : List UInt8), dg x = true := by
    intro x hx
    simp only [List.mem_cons, List.not_mem_nil, or_false] at hx
    rcases hx with rfl | rfl | rfl
    · rfl
    · rfl
    · exact hc
  rw [many_L8 more sp c (by omega) hc, Option.bind_some]
  dsimp only
  have hlen : ((List.range (1024 + more.toNat)).map (mny [48, 48, c])).length = 1024 + more.toNat := by simp
  have h0 : ((List.range (1024 + more.toNat)).map (mny [48, 48, c]))[0]? = some (mny [48, 48, c] 0) := by
    rw [List.getElem?_map, List.getElem?_range (by omega)]; rfl
  by_cases hs : sp = true
  · rw [if_pos hs, h0, Option.bind_some]
    by_cases h : more > 0
    · rw [if_pos h]
      obtain ⟨r, hr, h1, -⟩ := checkAll_res (List.set ((List.range (1024 + more.toNat)).map (mny [48, 48, c])) 0 ⟨(mny [48, 48, c] 0).Tag, (mny [48, 48, c] 0).From, 4⟩)
      rw [hr, Option.bind_some, h1 (by rw [List.length_set, hlen]; omega), if_pos rfl, alive_true]; rfl
    · rw [if_neg h, many_bad _ ⟨(mny [48, 48, c] 0).Tag, (mny [48, 48, c] 0).From, 4⟩ (by rw [List.getElem?_set, if_pos rfl, if_pos (by rw [hlen]; omega)]) (by rw [List.length_set, hlen]; omega) (mk_chk _ 0 hag rfl) (by show (0 : Int) ≤ ((0 : Nat) : Int) ∧ ((0 : Nat) : Int) < 68719476736; decide) (by show (4 : Int) > 3; decide), Option.bind_some, if_pos rfl, alive_true]; rfl
  · rw [if_neg hs]
    by_cases h : more > 0
    · rw [if_pos h]
      obtain ⟨r, hr, h1, -⟩ := checkAll_res ((List.range (1024 + more.toNat)).map (mny [48, 48, c]))
      rw [hr, Option.bind_some, h1 (by rw [hlen]; omega), if_pos rfl, alive_true]; rfl
    · rw [if_neg h]
      obtain ⟨r, hr, -, h1⟩ := checkAll_res ((List.range (1024 + more.toNat)).map (mny [48, 48, c]))
      have hok : okL ((List.range (1024 + more.toNat)).map (mny [48, 48, c])) := by
        rw [show 1024 + more.toNat = 1024 by omega]; exact many_ok _ hag rfl
      have hz : r = 0 := by
        rcases h1 (by rw [hlen]; omega) with ⟨h, _⟩ | ⟨_, h⟩
        · exact h
        · exact absurd hok h
      rw [hr, Option.bind_some, hz, if_pos rfl, alive_true]; rfl
end Go.Proofs.YtalobodhbbkgdaaDoor.Av
