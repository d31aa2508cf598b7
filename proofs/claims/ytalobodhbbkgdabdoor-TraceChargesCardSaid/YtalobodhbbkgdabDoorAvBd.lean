/- strings.Builder: what copyCheck does to a builder, over abstract values. -/
import Derived.Test.YtalobodhbbkgdabDoorAvSh
import Derived.Test.YtalobodhbbkgdabDoorProg
import Derived.Tactics
import Derived.Shelf.Strings.Builder1
import Derived.Lib.UnsafeStr
set_option linter.unusedVariables false
set_option linter.unusedSimpArgs false
namespace Go.Proofs.YtalobodhbbkgdabDoor.Av
open Go Go.Proofs Go.Shelf
def lay240_ren : Go.Shelf.Ren := ⟨(fun n => if n = 240 then 64 else if n = 276 then 73 else 0), (fun n => if n = 0 then 0 else if n = 4 then 4 else if n = 9 then 9 else if n = 20 then 20 else if n = 37 then 135 else if n = 70 then 134 else if n = 72 then 137 else if n = 164 then 168 else 0), (fun n => 0)⟩
theorem lay240 : Lays.n240 Tryd.prog lay240_ren := ⟨(by kernel_rfl), (by kernel_rfl), (by kernel_rfl), (by kernel_rfl), (fun w => by kernel_rfl), (fun w => by kernel_rfl), (fun w => by kernel_rfl), (by kernel_rfl), (fun w => by kernel_rfl), (fun w => by kernel_rfl), (fun w => by kernel_rfl), (by kernel_rfl), (fun w => by kernel_rfl), (fun w => by kernel_rfl), (fun w => by kernel_rfl), (by kernel_rfl), (fun w => by kernel_rfl), (fun w => by kernel_rfl), (fun w => by kernel_rfl), (by kernel_rfl), (fun w => by kernel_rfl), (fun w => by kernel_rfl), (fun w => by kernel_rfl), (by kernel_rfl), (fun w => by kernel_rfl), (fun w => by kernel_rfl), (fun w => by kernel_rfl), (by kernel_rfl), (fun w => by kernel_rfl), (fun w => by kernel_rfl), (fun w => by kernel_rfl)⟩
theorem x72 : Builder.X72 Tryd.prog lay240_ren := ⟨by kernel_rfl, by kernel_rfl⟩
/-- a fresh builder, or one that holds its own address -/
def copyOk (T : TypeId) (args : List AV) (h : Hp) : Bool :=
  match args with
  | [.ptr i 0] => match h.m.get i with
    | some (.blk k) => Nat.beq k.e T && !k.ext && Nat.beq k.fz 0 && (match k.c with | [.nilp, _] => true | [.ptr j 0, _] => Nat.beq j i | _ => false)
    | _ => false
  | _ => false
def copyRes (args : List AV) (h : Hp) : CO × Hp :=
  match args with
  | [.ptr i 0] => match h.m.get i with
    | some (.blk k) => match k.c with
      | [.nilp, v] => (.ret .undef, h.set i (.blk { k with c := [.ptr i 0, v], pl := false }))
      | _ => (.ret .undef, h)
    | _ => (.ret .undef, h)
  | _ => (.ret .undef, h)
def copySpec (T : TypeId) : CSpec := ⟨copyOk T, fun _ _ => True, copyRes⟩
theorem store_one {P : Program} (w : World) (b o : Nat) (v u : Value) (h1 : v.oneCell' = true) (hc : w.cell? ⟨b, o, none⟩ = some u) (hf : w.frozen? ⟨b, o, none⟩ = false) : Sem.run P (storeCells ⟨b, o, none⟩ [v]) w = .ok () (w.setCell ⟨b, o, none⟩ v) := by
  have hst := run_store P w ⟨b, o, none⟩ v .plain h1
  rw [hc] at hst
  simp only [hf] at hst
  have e0 : (⟨b, o, none⟩ : Addr).add 0 = ⟨b, o, none⟩ := by simp [Addr.add]
  simp [storeCells, e0, hst]
theorem copy_ok {G : Nat → AV} : SpecOk Tryd.prog G 64 (copySpec 137) := by
  intro args h hok hreq μ ro w vs ha hh hg
  clear hreq
  unfold copySpec copyOk at hok
  dsimp only at hok
  split at hok
  · rename_i i
    split at hok
    · rename_i k hk
      simp only [Bool.and_eq_true, Bool.not_eq_true'] at hok
      obtain ⟨⟨⟨he, hx⟩, hf⟩, hc⟩ := hok
      have he := Nat.eq_of_beq_eq_true he
      have hf := Nat.eq_of_beq_eq_true hf
      obtain ⟨x, rfl, hr⟩ := reps_one ha
      cases hr with
      | ptr hb =>
      rename_i b
      obtain ⟨cs, fr, h1, h0, h2, h3, h4, h5⟩ := BlkRel.get (hh.obsM i _ _ hk hb)
      split at hc
      · -- fresh
        rename_i v e1
        have hlen : cs.size = 2 := by rw [h3 hx, e1]; rfl
        have hc0 : w.cell? ⟨b.1, 0, none⟩ = some (.pointer none) := by
          have r0 := h5 0 (by rw [e1]; exact Nat.zero_lt_succ _)
          rw [e1] at r0
          have : cs.getD 0 undef = .pointer none := by
            generalize hq : cs.getD 0 undef = q at r0
            generalize ho : (!k.pl) = o at r0
            cases r0; rfl
          simp only [World.cell?, h1]
          simp only [Array.getD_eq_getD_getElem?] at this
          rw [Array.getElem?_eq_getElem (by omega)] at this ⊢
          simp at this
          simp [this]
        have hsh : w.shape? b.1 = some (137, 2) := by simp [World.shape?, h1, he, hlen]
        have hfz : w.frozen? ⟨b.1, 0, none⟩ = false := by
          simp only [World.frozen?, h1]
          by_cases g : fr.1 ≤ 0 ∧ 0 < fr.2
          · rcases h4 0 g.1 g.2 with g' | g' <;> omega
          · simp; omega
        refine (Any.Builder_copyCheck_fresh lay240 x72 b.1 w hc0 hsh hfz).mono ?_
        rintro e w' ⟨rfl, rfl⟩
        have hW := aWriteK_sat (P := Tryd.prog) (sy := false) (so := false) (pl := false) (vs := [.ptr i 0]) (xs := [.pointer (some ⟨b.1, 0, none⟩)]) (off := 0) hk (hh.obsM i _ _ hk hb) hb (Reps.cons (.ptr hb) Reps.nil) hh
        have e2 : aWriteK false false h i 0 [.ptr i 0] false k = some (h.set i (.blk { k with c := [.ptr i 0, v], pl := false }), []) := by
          unfold aWriteK
          rw [hf, e1]
          simp [W.req, W.bind, W.pure, setL, AV.one]
        have hW := hW _ _ e2 trivial
        obtain ⟨w'', hr, hh', hfr⟩ := hW
        rw [store_one w b.1 0 _ _ rfl hc0 hfz] at hr
        injection hr with _ hr
        subst hr
        have hres : copyRes [.ptr i 0] h = (.ret .undef, h.set i (.blk { k with c := [.ptr i 0, v], pl := false })) := by
          unfold copyRes
          simp only [hk, e1]
        unfold copySpec
        dsimp only
        rw [hres]
        exact ⟨μ, ro, Up.of_fr (.refl _ _) hfr, undef_rep, hh'⟩
      · -- used
        rename_i j v e1
        have hj := Nat.eq_of_beq_eq_true hc
        subst hj
        have hlen : cs.size = 2 := by rw [h3 hx, e1]; rfl
        have hc0 : w.cell? ⟨b.1, 0, none⟩ = some (.pointer (some ⟨b.1, 0, none⟩)) := by
          have r0 := h5 0 (by rw [e1]; exact Nat.zero_lt_succ _)
          rw [e1] at r0
          have : cs.getD 0 undef = .pointer (some ⟨b.1, 0, none⟩) := by
            generalize hq : cs.getD 0 undef = q at r0
            generalize ho : (!k.pl) = o at r0
            cases r0 with
            | ptr hb' => rw [hb] at hb'; obtain rfl := Option.some.inj hb'; rfl
          simp only [World.cell?, h1]
          simp only [Array.getD_eq_getD_getElem?] at this
          rw [Array.getElem?_eq_getElem (by omega)] at this ⊢
          simp at this
          simp [this]
        refine (Any.Builder_copyCheck_used lay240 x72 b.1 w hc0).mono ?_
        rintro e w' ⟨rfl, rfl⟩
        have hres : copyRes [.ptr j 0] h = (.ret .undef, h) := by
          unfold copyRes
          simp only [hk, e1]
        unfold copySpec
        dsimp only
        rw [hres]
        exact ⟨μ, ro, .refl _ _ _ _, undef_rep, hh⟩
      · cases hc
    · cases hok
  · cases hok
theorem freeze_other (w : World) (g n b : Nat) (h : b ≠ g) : (w.freeze ⟨g, 0, none⟩ n).heap[b]? = w.heap[b]? := by
  unfold World.freeze
  split
  · rfl
  · simp only [Array.getElem?_modify]
    rw [if_neg (fun e => h e.symm)]
theorem freeze_size (w : World) (g n : Nat) : (w.freeze ⟨g, 0, none⟩ n).heap.size = w.heap.size := by
  unfold World.freeze
  split
  · rfl
  · simp
set_option maxHeartbeats 4000000 in
set_option maxRecDepth 100000 in
theorem bstr_row (b g cap m : Nat) (l : List UInt8) (w : World) (h0 : l ≠ []) (hl : l.length ≤ cap) (hm : l.length ≤ m) (hmx : l.length ≤ 9223372036854775807) (c0 : w.cell? ⟨b, 1, none⟩ = some (.slice (some ⟨g, 0, none⟩) l.length cap)) (hsh : w.shape? g = some (5, m))
    (hcells : ∀ j x, l[j]? = some x → w.cell? ((⟨g, 0, none⟩ : Addr).add j) = some (.int .u8 x.toNat)) :
    Calls Tryd.prog 46 #[.pointer (some ⟨b, 0, none⟩)] w fun e w' => e = .returned (.string ⟨l.toArray⟩) ∧ w' = w.drew.freeze ⟨g, 0, none⟩ l.length := by
  have hl0 : l.length ≠ 0 := by simpa using h0
  have c1 : w.drew.cell? ⟨b, 1, none⟩ = some (.slice (some ⟨g, 0, none⟩) l.length cap) := c0
  have hSD : (Builtin.unsafeSliceData_ #[135] 160 #[.slice (some ⟨g, 0, none⟩) l.length cap]).run Tryd.prog w.drew = .ok (.pointer (some ⟨g, 0, none⟩)) w.drew :=
    Lib.run_unsafeSliceData_row _ _ _ _ _ _ (by omega)
  have hUS : (Builtin.unsafeString_ #[160, 3] 9 #[.pointer (some ⟨g, 0, none⟩), .int .i64 l.length]).run Tryd.prog w.drew = .ok (.string ⟨l.toArray⟩) (w.drew.freeze ⟨g, 0, none⟩ l.length) :=
    Lib.run_unsafeString_row w.drew 160 3 9 5 Tryd.underlying160 (by kernel_rfl) g m hsh l h0 hm hmx hcells
  go_enter Tryd.func46, Tryd.ntmps46
  go_wp2
  go_region
  all_goals (go_wp2; go_ret; exact ⟨rfl, rfl⟩)
theorem bstr_none (W : World) (q : Option Addr) : (Builtin.unsafeString_ #[160, 3] 9 #[.pointer q, .int .i64 0]).run Tryd.prog W = .ok (.string .empty) W := Lib.run_unsafeString_none W _ _ _ q
set_option maxHeartbeats 4000000 in
set_option maxRecDepth 100000 in
theorem bstr_nil (b : Nat) (w : World) (c0 : w.cell? ⟨b, 1, none⟩ = some (.slice none 0 0)) :
    Calls Tryd.prog 46 #[.pointer (some ⟨b, 0, none⟩)] w fun e w' => e = .returned (.string ⟨#[]⟩) ∧ w' = w.drew := by
  have hUS := bstr_none
  have c1 : w.drew.cell? ⟨b, 1, none⟩ = some (.slice none 0 0) := c0
  have hSD : (Builtin.unsafeSliceData_ #[135] 160 #[.slice none 0 0]).run Tryd.prog w.drew = .ok (.pointer none) w.drew := rfl
  go_enter Tryd.func46, Tryd.ntmps46
  go_wp2
  go_region
  all_goals (go_wp2; go_ret; exact ⟨rfl, rfl⟩)
set_option maxHeartbeats 4000000 in
set_option maxRecDepth 100000 in
theorem bstr_zero (b g cap : Nat) (w : World) (hc : cap ≠ 0) (c0 : w.cell? ⟨b, 1, none⟩ = some (.slice (some ⟨g, 0, none⟩) 0 cap)) :
    Calls Tryd.prog 46 #[.pointer (some ⟨b, 0, none⟩)] w fun e w' => e = .returned (.string ⟨#[]⟩) ∧ w' = w.drew := by
  have hUS := bstr_none
  have c1 : w.drew.cell? ⟨b, 1, none⟩ = some (.slice (some ⟨g, 0, none⟩) 0 cap) := c0
  have hSD : (Builtin.unsafeSliceData_ #[135] 160 #[.slice (some ⟨g, 0, none⟩) 0 cap]).run Tryd.prog w.drew = .ok (.pointer (some ⟨g, 0, none⟩)) w.drew :=
    Lib.run_unsafeSliceData_row _ _ _ _ _ _ hc
  clear hc
  go_enter Tryd.func46, Tryd.ntmps46
  go_wp2
  go_region
  all_goals (go_wp2; go_ret; exact ⟨rfl, rfl⟩)
set_option maxHeartbeats 4000000 in
set_option maxRecDepth 100000 in
theorem bstr_noroom (b g m : Nat) (w : World) (hlt : b < w.heap.size) (c0 : w.cell? ⟨b, 1, none⟩ = some (.slice (some ⟨g, 0, none⟩) 0 0)) (hsh : w.shape? g = some (5, m)) :
    Calls Tryd.prog 46 #[.pointer (some ⟨b, 0, none⟩)] w fun e w' => e = .returned (.string ⟨#[]⟩) ∧ ∃ o, w' = w.drew.alloc o := by
  have hUS := bstr_none
  have c1 : w.drew.cell? ⟨b, 1, none⟩ = some (.slice (some ⟨g, 0, none⟩) 0 0) := c0
  have hSD : (Builtin.unsafeSliceData_ #[135] 160 #[.slice (some ⟨g, 0, none⟩) 0 0]).run Tryd.prog w.drew = .ok (.pointer (some ⟨w.drew.heap.size, 0, none⟩)) (w.drew.alloc (.view ⟨g, 0, none⟩ 5)) :=
    Lib.run_unsafeSliceData_zero w.drew _ _ 5 Tryd.underlying160 ⟨g, 0, none⟩ 0 (5, m) hsh
  have c2 : (w.drew.alloc (.view ⟨g, 0, none⟩ 5)).cell? ⟨b, 1, none⟩ = some (.slice (some ⟨g, 0, none⟩) 0 0) := by
    rw [← c1]
    simp only [World.cell?]
    rw [Lib.alloc_old w.drew _ b hlt]
  have c3 : (w.alloc (.view ⟨g, 0, none⟩ 5)).drew.cell? ⟨b, 1, none⟩ = some (.slice (some ⟨g, 0, none⟩) 0 0) := c2
  go_enter Tryd.func46, Tryd.ntmps46
  go_wp2
  go_region
  all_goals (go_wp2; go_ret; exact ⟨rfl, _, rfl⟩)
def strOk (args : List AV) (h : Hp) : Bool :=
  match args with
  | [.ptr i 0] => match h.m.get i with
    | some (.blk k) => match k.c with
      | [_, .vec j _ 1] => match h.m.get j with
        | some (.blk kb) => Nat.beq kb.e 5 && !(Nat.beq i j)
        | _ => false
      | _ => false
    | _ => false
  | _ => false
def strReq (L : List UInt8) (args : List AV) (h : Hp) : Prop :=
  match args with
  | [.ptr i 0] => match h.m.get i with
    | some (.blk k) => match k.c with
      | [_, .vec j n 1] => match h.m.get j with
        | some (.blk kb) => n = L.length ∧ kb.c = u8s L ∧ L.length ≤ 9223372036854775807
        | _ => False
      | _ => False
    | _ => False
  | _ => False
def strRes (L : List UInt8) (args : List AV) (h : Hp) : CO × Hp :=
  match args with
  | [.ptr i 0] => match h.m.get i with
    | some (.blk k) => match k.c with
      | [_, .vec j n 1] => (.ret (.str L), h.del j)
      | _ => (.ret (.str L), h)
    | _ => (.ret (.str L), h)
  | _ => (.ret (.str L), h)
def strSpec (L : List UInt8) : CSpec := ⟨strOk, strReq L, strRes L⟩
theorem str_ok {G : Nat → AV} (L : List UInt8) : SpecOk Tryd.prog G 46 (strSpec L) := by
  intro args h hok hreq μ ro w vs ha hh hg
  unfold strSpec strOk at hok
  unfold strSpec strReq at hreq
  dsimp only at hok hreq
  split at hok
  · rename_i i
    split at hok
    · rename_i k hk
      split at hok
      · rename_i v0 j n e1
        split at hok
        · rename_i kb hkb
          simp only [hk, e1, hkb] at hreq
          obtain ⟨rfl, hc, hmx⟩ := hreq
          simp only [Bool.and_eq_true, Bool.not_eq_true'] at hok
          obtain ⟨he, hij⟩ := hok
          have he := Nat.eq_of_beq_eq_true he
          obtain ⟨x, rfl, hr⟩ := reps_one ha
          cases hr with
          | ptr hb =>
          rename_i b
          obtain ⟨cs, fr, h1, h0, h2, h3, h4, h5⟩ := BlkRel.get (hh.obsM i _ _ hk hb)
          have hlt : b.1 < w.heap.size := hh.lt i b hb
          have r1 := h5 1 (by rw [e1]; exact Nat.lt_succ_self _)
          rw [e1] at r1
          have hl2 : 2 ≤ cs.size := by rw [e1] at h2; exact h2
          have hcell : ∀ y, cs.getD 1 undef = y → w.cell? ⟨b.1, 1, none⟩ = some y := fun y hy => by
            simp only [World.cell?, h1]
            simp only [Array.getD_eq_getD_getElem?] at hy
            rw [Array.getElem?_eq_getElem (by omega)] at hy ⊢
            simp at hy
            simp [hy]
          have hres : strRes L [.ptr i 0] h = (.ret (.str L), h.del j) := by
            unfold strRes
            simp only [hk, e1]
          -- the end, where only the row has turned
          have fin : ∀ (w' : World) (x : Value), w'.os = w.os → w'.tape = w.tape → w'.output = w.output → w.heap.size ≤ w'.heap.size → (∀ q, q < w.heap.size → (∀ l, μ j = some l → l.1 ≠ q) → w'.heap[q]? = w.heap[q]?) → Rep μ ro w' true (.str L) x →
              CPost h.nx μ ro w ((strSpec L).res [.ptr i 0] h).1 ((strSpec L).res [.ptr i 0] h).2 (.returned x) w' := by
            intro w' x g1 g2 g3 g4 g5 g10
            have gro : ∀ q, ro q → w'.heap[q]? = w.heap[q]? := fun q hq => g5 q (hh.old q hq) fun l hl e => hh.own j _ l hkb hl (e ▸ hq)
            unfold strSpec
            dsimp only
            rw [hres]
            refine ⟨μ, ro, Up.of_fr (.refl _ _) ⟨g1, g2, g3, g4, gro, fun q hq hn => g5 q hq (fun l hl => hn j l hl), fun q l hl => .inl ⟨q, l, hl, rfl⟩⟩, g10, ?_⟩
            refine (hh.del j).same g4 gro fun q k' l hq hl => ?_
            have hqj : q ≠ j := by
              rintro rfl
              simp [Hp.del, Tr.get_put] at hq
            simp only [Hp.del, Tr.get_put, if_neg hqj] at hq
            exact g5 l.1 (hh.lt q l hl) fun l' hl' e => hqj (hh.inj q j _ _ l l' hq hkb hl hl' e.symm)
          generalize hq : cs.getD 1 undef = y at r1
          generalize ho : (!k.pl) = o at r1
          generalize hn0 : L.length = n0 at r1
          cases r1 with
          | vec hb2 hn hcap =>
            rename_i cap b2
            subst hn0
            obtain ⟨cs2, fr2, k1, k0, k2, k3, k4, k5⟩ := BlkRel.get (hh.obsM j _ _ hkb hb2)
            have hsh : w.shape? b2.1 = some (5, cs2.size) := by simp [World.shape?, k1, he]
            have c0 := hcell _ hq
            have hk2 : L.length ≤ cs2.size := by rw [hc, u8s_length] at k2; exact k2
            by_cases h00 : L = []
            · subst h00
              by_cases hz : cap = 0
              · subst hz
                refine (bstr_noroom b.1 b2.1 cs2.size w hlt c0 hsh).mono ?_
                rintro e w' ⟨rfl, ob, rfl⟩
                exact fin _ _ rfl rfl rfl (by show w.heap.size ≤ (w.heap.push ob).size; rw [Array.size_push]; omega) (fun q hq' _ => Lib.alloc_old w.drew _ q hq') (.str rfl)
              · refine (bstr_zero b.1 b2.1 cap w hz c0).mono ?_
                rintro e w' ⟨rfl, rfl⟩
                exact fin _ _ rfl rfl rfl (Nat.le_refl _) (fun q _ _ => rfl) (.str rfl)
            · refine (bstr_row b.1 b2.1 cap cs2.size L w h00 hn hk2 hmx c0 hsh (fun q y hy => ?_)).mono ?_
              · have hql : q < L.length := (List.getElem?_eq_some_iff.1 hy).1
                have r := k5 q (by rw [hc, u8s_length]; exact hql)
                rw [hc] at r
                have e2 : (u8s L).getD q .any = .int .u8 (y.toNat : Int) := by
                  simp [u8s, List.getD_eq_getElem?_getD, hy]
                rw [e2] at r
                have ea : (⟨b2.1, 0, none⟩ : Addr).add q = ⟨b2.1, q, none⟩ := by
                  unfold Addr.add
                  split
                  · rename_i h; subst h; rfl
                  · simp
                rw [ea]
                have hq2 : q < cs2.size := by omega
                generalize hw : cs2.getD q undef = z at r
                generalize (!kb.pl) = o2 at r
                cases r
                simp only [World.cell?, k1]
                simp only [Array.getD_eq_getD_getElem?] at hw
                rw [Array.getElem?_eq_getElem hq2] at hw ⊢
                simp at hw
                simp [hw]
              · rintro e w' ⟨rfl, rfl⟩
                refine fin _ _ (by unfold World.freeze; split <;> rfl) (by unfold World.freeze; split <;> rfl) (by unfold World.freeze; split <;> rfl) (by rw [freeze_size]; exact Nat.le_refl _) (fun q _ hne => freeze_other _ _ _ _ (fun e => hne b2 hb2 e.symm)) (.str (by simp))
          | vecn =>
            have h00 : L = [] := List.length_eq_zero_iff.1 hn0
            subst h00
            refine (bstr_nil b.1 w (hcell _ hq)).mono ?_
            rintro e w' ⟨rfl, rfl⟩
            exact fin _ _ rfl rfl rfl (Nat.le_refl _) (fun q _ _ => rfl) (.str rfl)
        · cases hok
      · cases hok
    · cases hok
  · cases hok
/-- a builder that holds nothing -/
def nilOk (args : List AV) (h : Hp) : Bool :=
  match args with
  | [.ptr i 0] => match h.m.get i with
    | some (.blk k) => match k.c with
      | [_, .nils] => true
      | _ => false
    | _ => false
  | _ => false
def strNil : CSpec := ⟨nilOk, fun _ _ => True, fun _ h => (.ret (.str []), h)⟩
theorem nil_ok {G : Nat → AV} : SpecOk Tryd.prog G 46 strNil := by
  intro args h hok hreq μ ro w vs ha hh hg
  clear hreq
  unfold strNil nilOk at hok
  dsimp only at hok
  split at hok
  · rename_i i
    split at hok
    · rename_i k hk
      split at hok
      · rename_i v0 e1
        obtain ⟨x, rfl, hr⟩ := reps_one ha
        cases hr with
        | ptr hb =>
        rename_i b
        obtain ⟨cs, fr, h1, h0, h2, h3, h4, h5⟩ := BlkRel.get (hh.obsM i _ _ hk hb)
        have r1 := h5 1 (by rw [e1]; exact Nat.lt_succ_self _)
        rw [e1] at r1
        have hl2 : 2 ≤ cs.size := by rw [e1] at h2; exact h2
        have hcell : w.cell? ⟨b.1, 1, none⟩ = some (.slice none 0 0) := by
          have hy : cs.getD 1 undef = .slice none 0 0 := by
            generalize hq : cs.getD 1 undef = y at r1
            generalize ho : (!k.pl) = o at r1
            cases r1; rfl
          simp only [World.cell?, h1]
          simp only [Array.getD_eq_getD_getElem?] at hy
          rw [Array.getElem?_eq_getElem (by omega)] at hy ⊢
          simp at hy
          simp [hy]
        refine (bstr_nil b.1 w hcell).mono ?_
        rintro e w' ⟨rfl, rfl⟩
        exact ⟨μ, ro, Up.of_fr (.refl _ _) ⟨rfl, rfl, rfl, Nat.le_refl _, fun _ _ => rfl, fun _ _ _ => rfl, fun q l hl => .inl ⟨q, l, hl, rfl⟩⟩, .str rfl, hh.same (Nat.le_refl _) (fun _ _ => rfl) (fun _ _ _ _ _ => rfl)⟩
      · cases hok
    · cases hok
  · cases hok
end Go.Proofs.YtalobodhbbkgdabDoor.Av
