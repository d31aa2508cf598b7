/- Discounts: the lines. -/
import Derived.Test.YtabjlmlfmafllaaPDs3
set_option linter.unusedVariables false
set_option linter.unusedSimpArgs false
set_option maxHeartbeats 1000000
namespace Go.Proofs.Ytabjlmlfmafllaa.Av
open Go Go.Proofs
def nameR (l : List Tapi_Discount) (i : Nat) : List UInt8 := match l[i]? with | some x => x.Name | none => []
/-- what the first k of the discounts c reduce -/
noncomputable def vk (l : List Tapi_Discount) (cents : Int) (c : List Nat) (k : Nat) : Int := gval (amtR l cents) cents (c.take k)
noncomputable def lineR (l : List Tapi_Discount) (cents : Int) (c : List Nat) (k : Nat) : Tapi_Line := ⟨nameR l (c.getD k 0), 0 - (vk l cents c (k + 1) - vk l cents c k)⟩
noncomputable def linesR (l : List Tapi_Discount) (cents : Int) (c : List Nat) : List Tapi_Line := (List.range c.length).map (lineR l cents c)
theorem vk_step {l : List Tapi_Discount} {cents : Int} (hc : 0 ≤ cents ∧ cents ≤ 1125899906842624) {c : List Nat} {k : Nat} (hk : k < c.length) :
    0 ≤ vk l cents c k ∧ vk l cents c k ≤ cents ∧ vk l cents c k ≤ vk l cents c (k + 1) ∧ vk l cents c (k + 1) ≤ cents ∧
    (if cents - vk l cents c k < amtR l cents c[k] then cents - vk l cents c k else amtR l cents c[k]) = vk l cents c (k + 1) - vk l cents c k ∧ vk l cents c (k + 1) - vk l cents c k ≤ amtR l cents c[k] := by
  have h1 := amtR_nn l cents c[k]
  have h2 := gsum_nn l cents (c.take k)
  have e : gsum (amtR l cents) (c.take (k + 1)) = gsum (amtR l cents) (c.take k) + amtR l cents c[k] := by
    rw [List.take_succ_eq_append_getElem hk, gsum_app]; simp [gsum]
  unfold vk gval
  rw [e]
  generalize gsum (amtR l cents) (c.take k) = s at h2
  generalize amtR l cents c[k] = a at h1
  refine ⟨?_, ?_, ?_, ?_, ?_, ?_⟩ <;> (repeat' split) <;> omega
theorem vk_zero (l : List Tapi_Discount) (cents : Int) (c : List Nat) (hc : 0 ≤ cents) : vk l cents c 0 = 0 := by
  unfold vk; rw [List.take_zero]; exact gval_nil l cents hc
theorem vk_all (l : List Tapi_Discount) (cents : Int) (c : List Nat) : vk l cents c c.length = gval (amtR l cents) cents c := by
  unfold vk; rw [List.take_length]
theorem range_snoc {α : Type} (f : Nat → α) (k : Nat) : (List.range k).map f ++ [f k] = (List.range (k + 1)).map f := by
  rw [List.range_succ, List.map_append]; rfl
theorem up_at {c : List Nat} {k : Nat} (hk : k < c.length) : (up c)[k]? = some (c[k] : Int) := by unfold up; rw [List.getElem?_map, List.getElem?_eq_getElem hk]; rfl
theorem lines_loop (l : List Tapi_Discount) (cents : Int) (hc : 0 ≤ cents ∧ cents ≤ 1125899906842624) (c : List Nat) (hcl : ∀ i ∈ c, i < l.length) (hlen : c.length ≤ 12) (v e : Int) : ∀ n k : Nat, k + n = c.length →
    lp (discount_Lines_L4_step l cents (up c, v, e)) (cents - vk l cents c k, k, (List.range k).map (lineR l cents c)) = some (linesR l cents c) ∧
    lp (tollwayref24_Lines_L4_step l cents (up c, v, e)) (cents - vk l cents c k, k, (List.range k).map (lineR l cents c)) = some (linesR l cents c)
  | 0, k, hk => by
    have hk : k = c.length := by omega
    subst hk
    exact ⟨lp_end (by unfold discount_Lines_L4_step; exact ite_f (by dsimp only; rw [up_len]; omega) rfl), lp_end (by unfold tollwayref24_Lines_L4_step; exact ite_f (by dsimp only; rw [up_len]; omega) rfl)⟩
  | n + 1, k, hk => by
    have hlt : k < c.length := by omega
    obtain ⟨g1, g2, g3, g4, g5, g6⟩ := vk_step (l := l) hc hlt
    have hxl := hcl c[k] (List.getElem_mem hlt)
    have gx := List.getElem?_eq_getElem hxl
    obtain ⟨ha, hb, ha0, ha1, -⟩ := amtR_eq cents gx
    have en : l[c[k]].Name = nameR l (c.getD k 0) := by
      unfold nameR
      rw [List.getD_eq_getElem?_getD, List.getElem?_eq_getElem hlt, Option.getD_some, gx]
    have hr : ((List.range k).map (lineR l cents c)).length ≤ 12 := by rw [List.length_map, List.length_range]; omega
    have eline : (⟨l[c[k]].Name, 0 - (vk l cents c (k + 1) - vk l cents c k)⟩ : Tapi_Line) = lineR l cents c k := by unfold lineR; rw [en]
    obtain ⟨k1, k2⟩ := lines_loop l cents hc c hcl hlen v e n (k + 1) (by omega)
    refine ⟨?_, ?_⟩
    · rw [lp_go (s' := (cents - vk l cents c (k + 1), k + 1, (List.range (k + 1)).map (lineR l cents c))) (by
        unfold discount_Lines_L4_step
        refine ite_t (by dsimp only; rw [up_len]; omega) (bind_i (up_at hlt) (guard_i (Int.natCast_nonneg _) (bind_i (by rw [Int.toNat_natCast]; exact gx) (bind_i ha ?_))))
        rw [g5]
        refine guard_i (inR_i64.2 (by omega)) (guard_i (by omega) (guard_i (inR_i64.2 (by omega)) (guard_i (inR_i64.2 (by omega)) ?_)))
        rw [eline, range_snoc, show cents - vk l cents c k - (vk l cents c (k + 1) - vk l cents c k) = cents - vk l cents c (k + 1) by omega])]
      exact k1
    · rw [lp_go (s' := (cents - vk l cents c (k + 1), k + 1, (List.range (k + 1)).map (lineR l cents c))) (by
        unfold tollwayref24_Lines_L4_step
        refine ite_t (by dsimp only; rw [up_len]; omega) (bind_i (up_at hlt) (guard_i (Int.natCast_nonneg _) (bind_i (by rw [Int.toNat_natCast]; exact gx) (bind_i hb ?_))))
        by_cases hgt : amtR l cents c[k] > cents - vk l cents c k
        · rw [if_pos (by omega)] at g5
          refine ite_t hgt (guard_i (inR_i64.2 (by omega)) (guard_i (inR_i64.2 (by omega)) (guard_i (by omega) (guard_i (inR_i64.2 (by omega)) ?_))))
          rw [g5, eline, range_snoc, show vk l cents c (k + 1) - vk l cents c k - (vk l cents c (k + 1) - vk l cents c k) = cents - vk l cents c (k + 1) by omega]
        · rw [if_neg (by omega)] at g5
          refine ite_f hgt (guard_i (inR_i64.2 (by omega)) (guard_i (inR_i64.2 (by omega)) (guard_i (by omega) (guard_i (inR_i64.2 (by omega)) ?_))))
          rw [g5, eline, range_snoc, show cents - vk l cents c k - (vk l cents c (k + 1) - vk l cents c k) = cents - vk l cents c (k + 1) by omega])]
      exact k2
theorem lines_eq (l : List Tapi_Discount) (cents : Int) (hc : 0 ≤ cents ∧ cents ≤ 1125899906842624) (c : List Nat) (hcl : ∀ i ∈ c, i < l.length) (hlen : c.length ≤ 12) (v : Int)
    (hb : discount_Best l cents = some (up c, v, 0)) (hr : tollwayref24_Best l cents = some (up c, v, 0)) : discount_Lines l cents = some (linesR l cents c) ∧ tollwayref24_Lines l cents = some (linesR l cents c) := by
  obtain ⟨h1, h2⟩ := lines_loop l cents hc c hcl hlen v 0 c.length 0 (by omega)
  rw [vk_zero l cents c hc.1, Int.sub_zero] at h1 h2
  unfold discount_Lines tollwayref24_Lines
  exact ⟨bind_i hb (ite_t rfl (bind_i h1 rfl)), bind_i hr (ite_t rfl (bind_i h2 rfl))⟩
theorem lines_none (l : List Tapi_Discount) (cents : Int) (v e : Int) (he : e ≠ 0) (hb : discount_Best l cents = some ([], v, e)) (hr : tollwayref24_Best l cents = some ([], v, e)) : discount_Lines l cents = some [] ∧ tollwayref24_Lines l cents = some [] := by
  unfold discount_Lines tollwayref24_Lines
  exact ⟨bind_i hb (ite_f he rfl), bind_i hr (ite_f he rfl)⟩
theorem none_fidx {α : Type} (l : List α) : fidx (fun _ => false) l 0 = none := by
  have h := fidx_any (p := fun _ : α => false) l 0
  rw [show l.any (fun _ => false) = false by simp] at h
  cases hc : fidx (fun _ : α => false) l 0 with
  | none => rfl
  | some i => rw [hc] at h; cases h
theorem sameNumbers_refl (a : List Int) (h : a.length ≤ 1000000) : tollwayref20_SameNumbers a a = some true := by
  have k1 := lp_find0 (l := a) (step := tollwayref20_SameNumbers_L2_step a a) (fun _ => false) (fun _ => ()) (fun k y hy hk => by
    unfold tollwayref20_SameNumbers_L2_step
    exact ite_t (by omega) (bind_i hy (bind_i hy (ite_t rfl (guard_i (inR_i64.2 (by omega)) rfl))))) (by unfold tollwayref20_SameNumbers_L2_step; exact ite_f (by omega) rfl)
  rw [none_fidx] at k1
  unfold tollwayref20_SameNumbers
  exact ite_t rfl (bind_i k1 rfl)
theorem sameLines_refl (a : List Tapi_Line) (h : a.length ≤ 1000000) : tollwayref24_SameLines a a = some true := by
  have k1 := lp_find0 (l := a) (step := tollwayref24_SameLines_L2_step a a) (fun _ => false) (fun _ => ()) (fun k y hy hk => by
    unfold tollwayref24_SameLines_L2_step
    exact ite_t (by omega) (bind_i hy (bind_i hy (ite_t rfl (ite_t rfl (guard_i (inR_i64.2 (by omega)) rfl)))))) (by unfold tollwayref24_SameLines_L2_step; exact ite_f (by omega) rfl)
  rw [none_fidx] at k1
  unfold tollwayref24_SameLines
  exact ite_t rfl (bind_i k1 rfl)
theorem linesR_len (l : List Tapi_Discount) (cents : Int) (c : List Nat) : (linesR l cents c).length = c.length := by simp [linesR]
end Go.Proofs.Ytabjlmlfmafllaa.Av
