/- Discounts: the law DiscountTurns. -/
import Derived.Test.YtabjlmlfmafllaaPLC
import Derived.Test.YtabjlmlfmafllaaK7
set_option linter.unusedVariables false
set_option linter.unusedSimpArgs false
set_option maxHeartbeats 1000000
namespace Go.Proofs.Ytabjlmlfmafllaa.Av
open Go Go.Proofs
theorem turn_loop (l : List Tapi_Discount) (n cents : Int) (k : Nat) (hk : Int.tmod n (l.length : Int) = (k : Int)) (hl : l.length ≤ 14) : ∀ (m : Nat) (b : List Tapi_Discount), k + m ≤ l.length → b.length + m ≤ 14 →
    lp (tollwaylaw24_DiscountTurns_L10_step l n cents) (((k + m : Nat) : Int) - 1, b) = some (b ++ ((l.take (k + m)).drop k).reverse)
  | 0, b, hm, hb => by
    have e : (l.take (k + 0)).drop k = [] := List.drop_eq_nil_of_le (by rw [List.length_take]; omega)
    rw [e, List.reverse_nil, List.append_nil]
    exact lp_end (by unfold tollwaylaw24_DiscountTurns_L10_step; rw [hk]; exact ite_f (by omega) rfl)
  | m + 1, b, hm, hb => by
    have hlt : k + m < l.length := by omega
    have e : (l.take (k + (m + 1))).drop k = (l.take (k + m)).drop k ++ [l[k + m]] := by
      rw [show k + (m + 1) = (k + m) + 1 by omega, List.take_succ_eq_append_getElem hlt, List.drop_append_of_le_length (by rw [List.length_take]; omega)]
    have e3 : ((k + (m + 1) : Nat) : Int) - 1 = ((k + m : Nat) : Int) := by omega
    rw [lp_go (s' := (((k + m : Nat) : Int) - 1, b ++ [l[k + m]])) (by
      unfold tollwaylaw24_DiscountTurns_L10_step
      rw [hk, e3]
      exact ite_t (by omega) (guard_i (Int.natCast_nonneg _) (bind_i (by rw [Int.toNat_natCast]; exact List.getElem?_eq_getElem hlt) (guard_i (by omega) (guard_i (inR_i64.2 (by omega)) rfl)))))]
    rw [turn_loop l n cents k hk hl m (b ++ [l[k + m]]) (by omega) (by simp; omega), e, List.reverse_append, List.append_assoc]
    rfl
theorem turned_get (l : List Tapi_Discount) (k : Nat) (hk : k < l.length) (i : Nat) (hi : i < l.length) : ((l.drop k).reverse ++ l.take k)[i]? = l[if i < l.length - k then l.length - 1 - i else i - (l.length - k)]? := by
  have hr : (l.drop k).reverse.length = l.length - k := by rw [List.length_reverse, List.length_drop]
  by_cases h : i < l.length - k
  · rw [if_pos h, List.getElem?_append_left (by omega), List.getElem?_reverse (by rw [List.length_drop]; exact h), List.getElem?_drop, List.length_drop]
    congr 1; omega
  · rw [if_neg h, List.getElem?_append_right (by omega), hr, List.getElem?_take_of_lt (by omega)]
theorem turned_len (l : List Tapi_Discount) (k : Nat) (hk : k ≤ l.length) : ((l.drop k).reverse ++ l.take k).length = l.length := by
  rw [List.length_append, List.length_reverse, List.length_drop, List.length_take]; omega
theorem turned_perm (l : List Tapi_Discount) (k : Nat) : ((l.drop k).reverse ++ l.take k).Perm l := by
  refine ((List.reverse_perm (l.drop k)).append_right (l.take k)).trans ?_
  refine List.perm_append_comm.trans ?_
  rw [List.take_append_drop]
theorem tollwaylaw24_DiscountTurns_true (l : List Tapi_Discount) (n : Int) (cents : Int) {p q : Prop} (hw : l.length ≤ maxLen ∧ p) (hn : InR .u8 n) (_ : q) : tollwaylaw24_DiscountTurns l n cents = some true := by
  obtain ⟨b, hb, hb2⟩ := few_tot l hw.1
  have hn' : 0 ≤ n ∧ n ≤ 255 := by simpa [InR, IntKind.min, IntKind.max, IntKind.signed, IntKind.bits] using hn
  unfold tollwaylaw24_DiscountTurns
  refine bind_i hb ?_
  cases b with
  | false => exact ite_f (by decide) (bind_i rfl rfl)
  | true =>
    have hl14 := hb2 rfl
    refine ite_t rfl ?_
    by_cases h0 : (l.length : Int) = 0
    · exact ite_t h0 (bind_i rfl rfl)
    · obtain ⟨k, hkl, hk⟩ := tmod_nat (n := n) (m := l.length) hn'.1 (by omega)
      have hloop := turn_loop l n cents k hk hl14 (l.length - k) [] (by omega) (by simp; omega)
      rw [show k + (l.length - k) = l.length by omega, List.take_length, List.nil_append] at hloop
      refine ite_f h0 (guard_i (inR_i64.2 (by omega)) (guard_i h0 (guard_i (inR_i64.2 (by omega)) (bind_i hloop ?_))))
      rw [hk, Int.toNat_natCast]
      refine guard_i (Int.natCast_nonneg _) (guard_i (by omega) (guard_i (by rw [List.length_reverse, List.length_drop, List.length_take]; omega) ?_))
      have hperm := turned_perm l k
      have hlen := turned_len l k (by omega)
      have hget := turned_get l k hkl
      generalize (l.drop k).reverse ++ l.take k = t at hperm hlen hget
      have hcheck : discount_CheckAll t = some 0 ↔ discount_CheckAll l = some 0 := by
        rw [checkAll_iff, checkAll_iff, hlen, hperm.pairwise_iff (fun {x y} h e => h e.symm)]
        refine and_congr_right fun _ => and_congr_left fun _ => ⟨fun h x hx => h x (hperm.mem_iff.2 hx), fun h x hx => h x (hperm.mem_iff.1 hx)⟩
      rcases both_eq l cents with ⟨d, hck, hl, hc, hbest, h1, -⟩ | ⟨e, he, h1, -, hwhy⟩
      · obtain ⟨d2, hl2, hbest2, h2⟩ := best_ok (hcheck.2 hck) hc
        have le1 : gval (amtR l cents) cents d ≤ gval (amtR t cents) cents d2 := by
          obtain ⟨c', hg, hs⟩ := transport2 (l' := t) (cents := cents) (fun j => if j < k then (l.length - k) + j else l.length - 1 - j) hbest.1 (fun j hj => by
            by_cases h : j < k
            · rw [if_pos h, hget _ (by omega), if_neg (by omega)]; exact ⟨by omega, by congr 1; omega⟩
            · rw [if_neg h, hget _ (by omega), if_pos (by omega)]; exact ⟨by omega, by congr 1; omega⟩) (fun i j hi hj => by split <;> split <;> omega)
          rw [← gval_of hs]
          exact (nb_iff.1 (hbest2.2 _ hg)).1
        have le2 : gval (amtR t cents) cents d2 ≤ gval (amtR l cents) cents d := by
          obtain ⟨c', hg, hs⟩ := transport2 (l' := l) (cents := cents) (fun i => if i < l.length - k then l.length - 1 - i else i - (l.length - k)) hbest2.1 (fun i hi => by
            rw [hlen] at hi
            rw [hget i hi]
            exact ⟨by split <;> omega, rfl⟩) (fun i j hi hj => by rw [hlen] at hi hj; split <;> split <;> omega)
          rw [← gval_of hs]
          exact (nb_iff.1 (hbest.2 _ hg)).1
        exact bind_i h1 (bind_i h2 (ite_t rfl (ite_t (by dsimp only; omega) (bind_i rfl rfl))))
      · rcases both_eq t cents with ⟨d2, hck2, -, hc, -, -, -⟩ | ⟨e2, he2, h2, -, -⟩
        · exfalso
          have := hcheck.1 hck2
          rcases hwhy with h | ⟨-, h, -⟩
          · rw [this] at h; exact he (Option.some.inj h).symm
          · omega
        · refine bind_i h1 (bind_i h2 (ite_t ?_ (ite_t rfl (bind_i rfl rfl))))
          have k1 : (e == 0) = false := by rw [beq_eq_false_iff_ne]; exact he
          have k2 : (e2 == 0) = false := by rw [beq_eq_false_iff_ne]; exact he2
          dsimp only
          rw [k1, k2]
end Go.Proofs.Ytabjlmlfmafllaa.Av
