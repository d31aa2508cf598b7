/- The law TagHistory holds. -/
import Derived.Test.YtalobodhbbkgdaaDoorPT6
import Derived.Test.YtalobodhbbkgdaaDoorL7b
set_option linter.unusedVariables false
set_option linter.unusedSimpArgs false
set_option maxHeartbeats 4000000
namespace Go.Proofs.YtalobodhbbkgdaaDoor.Av
open Go Go.Proofs
theorem tollwaylaw11_TagHistory_true (l : List Tapi_TagState) (a : Int) {p : Prop} (_ : p) (ha : InR .u8 a) : tollwaylaw11_TagHistory l a = some true := by
  have ha : 0 ≤ a ∧ a ≤ 255 := ha
  unfold tollwaylaw11_TagHistory
  by_cases h0 : (l.length : Int) = 0
  · rw [if_pos h0]
  rw [if_neg h0]
  by_cases h1 : (l.length : Int) > 100
  · rw [if_pos h1]
  rw [if_neg h1]
  obtain ⟨r, hr, -, hc⟩ := checkAll_res l
  rw [hr, Option.bind_some]
  rcases (hc (by omega)).symm with ⟨hn, _⟩ | ⟨rfl, hok⟩
  · rw [if_neg hn]
  rw [if_pos rfl, if_pos (inR_i64.2 (by omega)), if_pos h0]
  have hm : Int.tmod a (l.length : Int) = ((a.toNat % l.length : Nat) : Int) := by
    rw [Int.tmod_eq_emod_of_nonneg ha.1]
    obtain ⟨n, rfl⟩ := Int.eq_ofNat_of_zero_le ha.1
    rw [Int.toNat_natCast]; rfl
  have hi : a.toNat % l.length < l.length := Nat.mod_lt _ (by omega)
  generalize a.toNat % l.length = i at hm hi
  rw [hm]
  obtain ⟨x, hx⟩ : ∃ x, l[i]? = some x := ⟨_, List.getElem?_eq_getElem hi⟩
  obtain ⟨c1, c2, c3, -⟩ := hok i x hx
  rw [if_pos (by omega), show Int.toNat (i : Int) = i by omega, hx, Option.bind_some]
  have hst : ∀ t, tag_State l x.Tag t = some (stt l x.Tag t) := fun t => by rw [state_eq l x.Tag t (by omega), c1, if_pos rfl]
  have q1 : stt l x.Tag x.From = x.State := hist_on hok hx (Int.le_refl _) fun y hy e => ok_from hok (by omega) hx hy e.symm
  have q2 : ∀ y, l[i + 1]? = some y → y.Tag = x.Tag → stt l x.Tag (y.From - 1) = x.State := fun y hy e => by
    have := ok_from hok (by omega) hx hy e.symm
    refine hist_on hok hx (by omega) fun z hz _ => ?_
    rw [hy] at hz; obtain rfl := Option.some.inj hz; omega
  have q2' : (∀ y, l[i + 1]? = some y → y.Tag ≠ x.Tag) → stt l x.Tag 68719476735 = x.State := fun h =>
    hist_on hok hx (by omega) fun z hz e => absurd e (h z hz)
  have iF : InR .i64 (x.From - 1) := inR_i64.2 (by omega)
  have i1 : InR .i64 ((i : Int) + 1) := inR_i64.2 (by omega)
  have n1 : Int.toNat ((i : Int) + 1) = i + 1 := by omega
  simp only [hst, Option.bind_some, q1, n1, alive_true, if_true]
  by_cases hp : (i : Int) > 0
  · obtain ⟨p, hp'⟩ : ∃ x, l[i - 1]? = some x := ⟨_, List.getElem?_eq_getElem (by omega)⟩
    rw [if_pos hp, if_pos (inR_i64.2 (by omega)), if_pos (by omega), show Int.toNat ((i : Int) - 1) = i - 1 by omega, hp', Option.bind_some]
    by_cases hpe : p.Tag = x.Tag
    · have q3 : stt l x.Tag (x.From - 1) = p.State := hist_prev hok (by omega) hx hp' hpe
      rw [if_pos hpe, if_pos i1]
      by_cases hn : (i : Int) + 1 < (l.length : Int)
      · obtain ⟨y, hy⟩ : ∃ x, l[i + 1]? = some x := ⟨_, List.getElem?_eq_getElem (by omega)⟩
        have cy := (hok (i + 1) y hy).2.1
        rw [if_pos hn, if_pos (by omega), hy, Option.bind_some]
        by_cases hye : y.Tag = x.Tag
        · rw [if_pos hye, if_pos (inR_i64.2 (by omega)), q2 y hy hye, if_pos rfl, if_pos iF, q3, if_pos rfl]
        · rw [if_neg hye, q2' (fun z hz => by rw [hy] at hz; obtain rfl := Option.some.inj hz; exact hye), if_pos rfl, if_pos iF, q3, if_pos rfl]
      · rw [if_neg hn, q2' (fun z hz => by rw [List.getElem?_eq_none (by omega)] at hz; cases hz), if_pos rfl, if_pos iF, q3, if_pos rfl]
    · have q3 : stt l x.Tag (x.From - 1) = 1 := hist_none hok hx fun z _ hz => by rw [hp'] at hz; obtain rfl := Option.some.inj hz; exact hpe
      rw [if_neg hpe, if_pos i1]
      by_cases hn : (i : Int) + 1 < (l.length : Int)
      · obtain ⟨y, hy⟩ : ∃ x, l[i + 1]? = some x := ⟨_, List.getElem?_eq_getElem (by omega)⟩
        have cy := (hok (i + 1) y hy).2.1
        rw [if_pos hn, if_pos (by omega), hy, Option.bind_some]
        by_cases hye : y.Tag = x.Tag
        · rw [if_pos hye, if_pos (inR_i64.2 (by omega)), q2 y hy hye, if_pos rfl, if_pos iF, q3, if_pos rfl]
        · rw [if_neg hye, q2' (fun z hz => by rw [hy] at hz; obtain rfl := Option.some.inj hz; exact hye), if_pos rfl, if_pos iF, q3, if_pos rfl]
      · rw [if_neg hn, q2' (fun z hz => by rw [List.getElem?_eq_none (by omega)] at hz; cases hz), if_pos rfl, if_pos iF, q3, if_pos rfl]
  · have q3 : stt l x.Tag (x.From - 1) = 1 := hist_none hok hx fun z h _ => by omega
    rw [if_neg hp, if_pos i1]
    by_cases hn : (i : Int) + 1 < (l.length : Int)
    · obtain ⟨y, hy⟩ : ∃ x, l[i + 1]? = some x := ⟨_, List.getElem?_eq_getElem (by omega)⟩
      have cy := (hok (i + 1) y hy).2.1
      rw [if_pos hn, if_pos (by omega), hy, Option.bind_some]
      by_cases hye : y.Tag = x.Tag
      · rw [if_pos hye, if_pos (inR_i64.2 (by omega)), q2 y hy hye, if_pos rfl, if_pos iF, q3, if_pos rfl]
      · rw [if_neg hye, q2' (fun z hz => by rw [hy] at hz; obtain rfl := Option.some.inj hz; exact hye), if_pos rfl, if_pos iF, q3, if_pos rfl]
    · rw [if_neg hn, q2' (fun z hz => by rw [List.getElem?_eq_none (by omega)] at hz; cases hz), if_pos rfl, if_pos iF, q3, if_pos rfl]
end Go.Proofs.YtalobodhbbkgdaaDoor.Av
