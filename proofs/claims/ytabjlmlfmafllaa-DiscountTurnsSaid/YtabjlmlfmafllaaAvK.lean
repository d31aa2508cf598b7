/- append describes the model's append. -/
import Derived.Test.YtabjlmlfmafllaaAvJ
set_option linter.unusedVariables false
set_option linter.unusedSimpArgs false
namespace Go.Proofs.Ytabjlmlfmafllaa.Av
open Go.RowKit

variable {P : Program} {μ μ' : Nat → Option Loc} {ro ro' : Nat → Prop} {w w' : World}

theorem Rep.drew {o : Bool} {v : AV} {x : Value} (h : Rep μ ro w o v x) : Rep μ ro w.drew o v x := h.mono (fun _ _ h => h) (fun _ h => h) (fun _ _ => rfl)
theorem Reps.undrew {o : Bool} {c : List AV} {vs : List Value} (h : Reps μ ro w.drew o c vs) : Reps μ ro w o c vs := h.mono (fun _ _ h => h) (fun _ h => h) (fun _ _ => rfl)

/-- what is known of the elements that are read -/
def EP (P : Program) (μ : Nat → Option Loc) (ro : Nat → Prop) (w : World) (a : Value) (z : Nat) (p : Els) : Prop :=
  ∃ xs : Array Value, (∀ w, (Builtin.lenOf a).run P w = .ok p.n w) ∧ (Builtin.firstCells z p.n a).run P w = .ok xs w ∧ Reps μ ro w (!p.pl) p.c xs.toList ∧ p.c.length = p.n * z

structure AppT (P : Program) (ts : Array TypeId) (e : TypeId) (i : TypeInfo) (zv : Value) : Prop where
  ex : ∃ t t2 d2, ts[0]? = some t ∧ ts[1]? = some t2 ∧ P.underlying t = some (.slice e) ∧ P.underlying t2 = some d2 ∧ isSeq d2 = true
  hi : P.info? e = some i
  hz : i.zero = some zv
  hby : i.bytes ≤ 4096
  hs0 : i.size ≠ 0
  hzs : zv.cells.size = i.size

theorem app_grow {ts : Array TypeId} {ty e : TypeId} {i : TypeInfo} {zv : Value} (T : AppT P ts e i zv) {base : Option Addr} {sLen sCap : Nat} {b : Value} {h h' : Hp} {x y : Els}
    (hh : HpRel μ ro h w) (hh' : HpRel μ ro h' w) (hx : EP P μ ro w.drew b i.size x) (hy : EP P μ ro w.drew (.slice base sLen sCap) i.size y) (hyn : y.n = sLen) (hneed : ¬ sLen + x.n ≤ sCap) (hsm : sLen + x.n ≤ 4294967296) :
    Good P (Builtin.append_ ts ty #[.slice base sLen sCap, b]) μ ro w h'.nx (.sl h'.nx 0 (sLen + x.n) (sLen + x.n) false i.size) (h'.new (.blk ⟨y.c ++ x.c, e, true, 0, y.pl && x.pl, false, none⟩)) := by
  obtain ⟨t, t2, d2, h0, h1, hu, hu2, hd2⟩ := T.ex
  obtain ⟨xs, hn, hf, hr, hl⟩ := hx
  obtain ⟨ys, hn', hf', hr', hl'⟩ := hy
  rw [hyn] at hf'
  obtain ⟨cap, rest, hc1, hc2, hrun⟩ := append_grows (ty := ty) h0 h1 hu hu2 hd2 T.hi T.hz hn hneed hsm T.hby hf' hf
  have hlen : (ys ++ xs).size = (sLen + x.n) * i.size := by
    have e1 := hr.1; have e2 := hr'.1
    simp only [Array.length_toList] at e1 e2
    rw [Array.size_append, e1, e2, hl, hl', hyn, Nat.add_mul]
  refine Good.grown (cs := ys ++ xs) (rest := rest) hh' hrun ?_ hc1 ?_
  · rw [Array.toList_append]; exact hr'.undrew.app_pl hr.undrew
  · rw [Array.size_append, hlen, hc2, T.hzs, ← Nat.add_mul, Nat.add_sub_cancel' hc1]
    exact Nat.le_refl _

theorem aGrow_sat {sy : Bool} {h : Hp} {e : TypeId} {c : List AV} {pl : Bool} {n z : Nat} : (aGrow sy h e c pl n z).sat fun r => n ≤ 4294967296 ∧ r = (.sl h.nx 0 n n false z, h.new (.blk ⟨c, e, true, 0, pl, false, none⟩)) :=
  W.sat_bind W.sat_req fun _ hn => W.sat_pure ⟨hn, rfl⟩

theorem app_own {ts : Array TypeId} {ty e : TypeId} {i : TypeInfo} {zv : Value} (T : AppT P ts e i zv) {id len cap' : Nat} {l : Loc} {k : Blk} {ob : Ob} {b : Value} {h : Hp} {x : Els}
    (hk : h.m.get id = some ob) (hob : ObRel μ ro w l (.blk k)) (hb : μ id = some l) (hc3 : cap' * i.size ≤ l.2) (hh : HpRel μ ro h w) (hx : EP P μ ro w b i.size x) (hxd : EP P μ ro w.drew b i.size x)
    (hke : k.e = e) (hkl : k.c.length = len * i.size) (hfz : k.fz ≤ len * i.size) (hone : x.c.all AV.one = true) (hsm : len + x.n ≤ 4294967296) :
    Good P (Builtin.append_ ts ty #[.slice (some ⟨l.1, 0, none⟩) len cap', b]) μ ro w h.nx (.sl h.nx 0 (len + x.n) (len + x.n) false i.size) ((h.del id).new (.blk { k with c := k.c ++ x.c, ext := true, pl := k.pl && x.pl })) := by
  have hT := T
  obtain ⟨⟨t, t2, d2, h0, h1, hu, hu2, hd2⟩, hi, hz, hby, hs0, hzs⟩ := hT
  have hdel := hh.del id
  by_cases hroom : len + x.n ≤ cap'
  · -- in place
    obtain ⟨xs, hnl, hf, hr, hl⟩ := hx
    obtain ⟨cs, fr, g1, g0, g2, g3, g4, g5⟩ := hob.get
    have hxs : xs.toList.length = x.n * i.size := by rw [hr.1, hl]
    have hN : (len + x.n) * i.size ≤ cap' * i.size := Nat.mul_le_mul_right _ hroom
    rw [Nat.add_mul] at hN
    obtain ⟨w', hst, hw⟩ := r_storeCells (P := P) xs.toList 0 w l.1 (len * i.size) k.e fr cs g1 (by omega) (fun j h1 h2 hfr => by have := g4 j hfr.1 hfr.2; omega) (fun v hv => by
      obtain ⟨j, hj, rfl⟩ := List.getElem_of_mem hv
      have hj' : j < x.c.length := by rw [← hr.1]; exact hj
      have := hr.2 j hj'
      rw [List.all_eq_true] at hone
      have h1 := hone (x.c.getD j .any) (by rw [List.getD_eq_getElem?_getD, List.getElem?_eq_getElem hj']; exact List.getElem_mem hj')
      have h2 := this.one h1
      rwa [List.getD_eq_getElem?_getD, List.getElem?_eq_getElem hj] at h2)
    rw [Nat.add_zero] at hw
    have hro : ∀ j, ro j → w'.heap[j]? = w.heap[j]? := fun j hj => hw.other j (fun e => hh.own id _ l hk hb (e ▸ hj))
    have hle := upd_le hdel l
    refine ⟨.slice (some ⟨l.1, 0, none⟩) (len + x.n) cap', w', upd μ h.nx l, append_fits h0 h1 hu hu2 hd2 hi hnl hroom hf (by rw [addr_add, Nat.zero_add]; exact hst), upd_agree _ _,
      .sl (upd_self _ _) hroom (fun h => by cases h) (by omega), ?_, ⟨hw.os, hw.tape, hw.output, Nat.le_of_eq hw.size.symm, hro, fun c _ hn => hw.other c (fun e => hn id l hb e.symm), fun j m hj => ?_⟩⟩
    rotate_left
    · unfold upd at hj
      split at hj
      · simp only [Option.some.injEq] at hj; subst hj; exact .inl ⟨id, l, hb, rfl⟩
      · exact .inl ⟨j, m, hj, rfl⟩
    refine HpRel.add hdel _ l (Nat.le_of_eq hw.size.symm) (by rw [hw.size]; exact hh.lt id l hb) (fun j k' c hj hc e => ?_) (hh.own id _ l hk hb) (fun j hj _ => hw.other j hj) ?_
    · simp only [Hp.del, Tr.get_put] at hj
      split at hj
      · cases hj
      · rename_i hne
        exact hne (hh.inj j id k' _ c l hj hk hc hb e)
    · refine ⟨⟨_, fr, hw.at_, by rw [writeAt_size]; exact g0, by simp [writeAt_size]; omega, fun h => (by cases h), fun j h1 h2 => by rw [writeAt_size]; exact g4 j h1 h2, fun j hj => ?_⟩⟩
      simp only [List.length_append] at hj
      rw [writeAt_getD _ _ _ _ (by omega)]
      by_cases hjk : j < k.c.length
      · rw [if_neg (by omega)]
        have := g5 j hjk
        have e : (k.c ++ x.c).getD j .any = k.c.getD j .any := by simp [List.getD, List.getElem?_append_left hjk]
        rw [e]
        have h9 : Rep μ ro w (!(k.pl && x.pl)) (k.c.getD j .any) (cs.getD j undef) := by
          cases hp : k.pl with
          | true => rw [hp] at this; exact this.any_o
          | false => rw [hp] at this; exact this
        exact h9.mono hle (fun _ h => h) hro
      · rw [if_pos (by omega)]
        have h8 := hr.2 (j - k.c.length) (by omega)
        have e : (k.c ++ x.c).getD j .any = x.c.getD (j - k.c.length) .any := by simp [List.getD, List.getElem?_append_right (Nat.le_of_not_lt hjk)]
        rw [e, ← hkl]
        have h9 : Rep μ ro w (!(k.pl && x.pl)) (x.c.getD (j - k.c.length) .any) (xs.toList.getD (j - k.c.length) undef) := by
          cases hp : x.pl with
          | true => rw [hp] at h8; exact h8.any_o
          | false => rw [hp] at h8; simpa using h8
        exact h9.mono hle (fun _ h => h) hro
  · -- a new array
    have hy : EP P μ ro w.drew (.slice (some ⟨l.1, 0, none⟩) len cap') i.size ⟨len, k.c, k.pl⟩ := by
      obtain ⟨cs, fr, g1, g0, g2, g3, g4, g5⟩ := hob.get
      refine ⟨_, fun w => rfl, r_loadCells (f := fun j => cs.getD j undef) (fun j hj => by rw [Nat.zero_add]; exact cell_of (w := w.drew) g1 (by simp only at hj; omega)), ?_, hkl⟩
      have : Reps μ ro w (!k.pl) k.c ((List.range k.c.length).map fun j => cs.getD j undef) := range_reps g5
      rw [hkl] at this
      exact this.mono (fun _ _ h => h) (fun _ h => h) (fun _ _ => rfl)
    obtain ⟨v', w', μ'', q1, q2, q3, q4, q5⟩ := app_grow (ty := ty) T (h' := h.del id) hh hdel hxd hy rfl hroom hsm
    refine ⟨v', w', μ'', q1, q2, q3, ?_, q5⟩
    refine q4.weak rfl fun j k' hj => ?_
    simp only [Hp.new, Tr.get_put] at hj ⊢
    by_cases e2 : j = (h.del id).nx
    · simp only [if_pos e2, Option.some.injEq] at hj ⊢
      subst hj
      subst hke
      refine ⟨_, rfl, fun c hc ⟨⟨cs, fr, g1, g0, g2, g3, g4, g5⟩⟩ => ⟨⟨cs, fr, g1, g0, g2, g3, fun j h1 h2 => ?_, g5⟩⟩, fun h => by cases h.1⟩
      rcases g4 j h1 h2 with h | h
      · cases h
      · exact .inr h
    · simp only [if_neg e2] at hj ⊢
      exact ⟨k', hj, fun _ _ h => h, fun h => h⟩

/-- as one that might be nil -/
theorem Good.to_vec {s : Sem Value} {h : Hp} {n z : Nat} {k k' : Blk} (g : Good P s μ ro w h.nx (.sl h.nx 0 n n false z) (h.new (.blk k)))
    (hc : k'.c = k.c) (he : k'.e = k.e) (hx : k'.ext = false → k.ext = false) (hz : k.fz ≤ k'.fz) (hp : k'.pl = true → k.pl = true) (ho : k'.o = true) : Good P s μ ro w h.nx (.vec h.nx n z) (h.new (.blk k')) := by
  obtain ⟨v', w', μ', h1, h2, h3, h4, h5⟩ := g
  refine ⟨v', w', μ', h1, h2, ?_, ?_, h5⟩
  · cases h3 with
    | sl hb q1 q2 q3 => exact .vec hb q1 (by omega)
  · refine h4.weak rfl fun j k1 hj => ?_
    simp only [Hp.new, Tr.get_put] at hj ⊢
    by_cases e2 : j = h.nx
    · simp only [if_pos e2, Option.some.injEq] at hj ⊢
      subst hj
      refine ⟨_, rfl, fun c hc2 hr => ?_, fun h => ⟨ho, hc ▸ h.2⟩⟩
      obtain ⟨cs, fr, g1, g0, g2, g3, g4, g5⟩ := BlkRel.get hr
      refine ⟨⟨cs, fr, he ▸ g1, g0, hc ▸ g2, fun h => by rw [hc]; exact g3 (hx h), fun j a b => ?_, fun j hj => ?_⟩⟩
      · rcases g4 j a b with h | h
        · exact .inl (by omega)
        · exact .inr h
      · rw [hc] at hj ⊢
        have := g5 j hj
        cases hp' : k'.pl with
        | true => rw [hp hp'] at this; exact this
        | false => exact this.any_or
    · simp only [if_neg e2] at hj ⊢
      exact ⟨k1, hj, fun _ _ h => h, fun h => h⟩
/-- one that is nil -/
theorem HpRel.newAbs {h : Hp} (hh : HpRel μ ro h w) (k : Blk) (hk : k.o = true ∧ k.c = []) : HpRel μ ro (h.new (.blk k)) w := by
  have hne : ∀ {i k' b}, (h.new (.blk k)).m.get i = some k' → μ i = some b → h.m.get i = some k' := fun {i k' b} hi hb => by
    simp only [Hp.new, Tr.get_put] at hi
    by_cases e : i = h.nx
    · rw [hh.nx i (by omega)] at hb; cases hb
    · rwa [if_neg e] at hi
  refine ⟨fun i k' hi => ?_, fun i j k1 k2 b c hi hj hb hc e => hh.inj i j k1 k2 b c (hne hi hb) (hne hj hc) hb hc e, fun i k' b hi hb => hh.own i k' b (hne hi hb) hb, hh.lt, hh.old, fun i hi => hh.nx i (by simp only [Hp.new] at hi; omega)⟩
  simp only [Hp.new, Tr.get_put] at hi
  by_cases e : i = h.nx
  · rw [if_pos e] at hi
    cases hi
    exact .inr ⟨hh.nx i (by omega), hk, by simp only [Hp.new]; omega⟩
  · rw [if_neg e] at hi
    exact (hh.obs i k' hi).imp_right fun ⟨a, b, c⟩ => ⟨a, b, Nat.lt_succ_of_lt c⟩

theorem aAppend1_sat {hn : Hint} {kd : Option Nat} {ts : Array TypeId} {ty e : TypeId} {i : TypeInfo} {zv : Value} (T : AppT P ts e i zv) {s : AV} {a b : Value} {h : Hp} {x : Els}
    (hs : Rep μ ro w true s a) (hh : HpRel μ ro h w) (hx : EP P μ ro w b i.size x) (hxd : EP P μ ro w.drew b i.size x) :
    (aAppend1 hn kd e i.size s x h).sat fun r => Good P (Builtin.append_ ts ty #[a, b]) μ ro w h.nx r.1 r.2 := by
  have hT := T
  obtain ⟨⟨t, t2, d2, h0, h1, hu, hu2, hd2⟩, hi, hz, hby, hs0, hzs⟩ := hT
  unfold aAppend1
  split
  · cases hs
    split
    · refine W.sat_bind W.sat_req fun _ hn0 => W.sat_pure ?_
      obtain ⟨xs, hn, hf, hr, hl⟩ := hx
      rw [hn0] at hf
      exact Good.of_pure (append_nil h0 h1 hu hu2 hd2 hi (fun w => by rw [hn, hn0]) hf) .nils hh
    · refine W.sat_bind W.sat_req fun _ hn0 => W.sat_mono aGrow_sat fun r ⟨hsm, hr⟩ => ?_
      subst hr
      have := app_grow (ty := ty) T (y := ⟨0, [], true⟩) hh hh hxd ⟨#[], fun w => rfl, rfl, Reps.nil, by simp⟩ rfl (base := none) (sLen := 0) (sCap := 0) (by omega) (by omega)
      simpa using this
  · rename_i id off len cap ex z'
    refine W.sat_bind W.sat_req fun _ hzz => ?_
    subst hzz
    have hs' := hs
    cases hs with
    | sl hb hc1 hc2 hc3 =>
      rename_i cap' l
      split
      · refine W.sat_bind W.sat_req fun _ hn0 => W.sat_bind W.sat_req fun _ hlc => W.sat_pure ?_
        obtain ⟨xs, hnl, hf, hr, hl⟩ := hx
        have hxs : xs.toList = [] := by
          have := hr.1
          rw [hn0, Nat.zero_mul] at hl
          rw [hl] at this
          exact List.length_eq_zero_iff.1 this
        have hrun := append_fits (P := P) (w := w) (w' := w) (ty := ty) (a := ⟨l.1, off, none⟩) (sLen := len) (sCap := cap') h0 h1 hu hu2 hd2 hi hnl (by omega) hf (by rw [hxs]; rfl)
        rw [hn0] at hrun
        exact Good.of_pure hrun hs' hh
      · refine W.sat_bind W.sat_req fun _ hroom => ?_
        obtain ⟨xs, hnl, hf, hr, hl⟩ := hx
        refine W.sat_bind (aWrite_sat (P := P) hb hr hh) fun h' ⟨w', h5, h6, h7⟩ => W.sat_pure ?_
        rw [ad_eq, mu_eq] at h5
        refine ⟨.slice (some ⟨l.1, off, none⟩) (len + x.n) cap', w', μ, ?_, .refl _ _, .sl hb hc1 hc2 hc3, h6, h7⟩
        exact append_fits h0 h1 hu hu2 hd2 hi hnl (by omega) hf (by rw [addr_add]; exact h5)
      · refine W.sat_bind W.sat_req fun _ hex => W.sat_bind W.sat_req fun _ hroom => W.sat_bind (W.sat_and (aElems_sat (P := P) (w := w.drew) hs'.drew hh.drew) (aElems_sat (P := P) hs' hh)) fun y ⟨hy, hy2⟩ => W.sat_mono aGrow_sat fun r ⟨hsm, hr⟩ => ?_
        subst hr
        have hyn : y.n = len := by
          obtain ⟨_, h, _⟩ := hy
          have := h w
          simp only [Builtin.lenOf, Sem.run_pure, Result.ok.injEq] at this
          exact this.1.symm
        exact app_grow T hh hh hxd hy hyn (by rw [hc2 hex]; omega) hsm
      · split
        · rename_i k hk
          refine W.sat_bind W.sat_req fun _ ⟨hex, hoff, hke⟩ => W.sat_bind W.sat_req fun _ hn0 => W.sat_bind W.sat_req fun _ hkl => W.sat_bind (Q := fun _ => k.fz ≤ len * i.size) ?_ fun _ hfz =>
            W.sat_bind W.sat_req fun _ hone => W.sat_bind W.sat_req fun _ hsm => W.sat_pure ?_
          · split
            · rename_i h0; exact W.sat_pure (by omega)
            · rename_i n hn; exact W.sat_mono W.sat_req fun _ h => by rw [mu_eq] at h; omega
          subst hoff
          rw [mu_eq] at hkl
          have hob := hh.obsM id _ _ hk hb
          have hdel := hh.del id
          exact app_own T hk hob hb (by omega) hh hx hxd hke hkl hfz hone hsm
        · exact W.sat_fail
  · rename_i id len z'
    refine W.sat_bind W.sat_req fun _ hzz => ?_
    subst hzz
    split
    · rename_i k hk
      refine W.sat_bind W.sat_req fun _ ⟨hke, hfz⟩ => W.sat_bind W.sat_req fun _ hkl => W.sat_bind W.sat_req fun _ hone => W.sat_bind W.sat_req fun _ hsm => W.sat_pure ?_
      rw [mu_eq] at hkl
      have hdel := hh.del id
      cases hs with
      | vecn =>
        have hc0 : k.c = [] := List.length_eq_zero_iff.1 (by simpa using hkl)
        by_cases hn0 : x.n = 0
        · obtain ⟨xs, hn, hf, hr, hl⟩ := hx
          rw [hn0] at hf
          have hxc : x.c = [] := List.length_eq_zero_iff.1 (by rw [hl, hn0]; simp)
          refine ⟨.slice none 0 0, w, μ, append_nil h0 h1 hu hu2 hd2 hi (fun w => by rw [hn, hn0]) hf, .refl _ _, ?_, hdel.newAbs _ ⟨rfl, by simp [hc0, hxc]⟩, Fr.refl _ _ _⟩
          rw [hn0]
          exact .vecn
        · have := app_grow (ty := ty) T (y := ⟨0, [], true⟩) (h' := h.del id) hh hdel hxd ⟨#[], fun w => rfl, rfl, Reps.nil, by simp⟩ rfl (base := none) (sLen := 0) (sCap := 0) (by omega) (by omega)
          exact Good.to_vec (h := h.del id) this (by simp [hc0]) hke (fun h => by cases h) (by simp) (by simp) rfl
      | vec hb q1 q3 =>
        have hob := hh.obsM id _ _ hk hb
        have := app_own (ty := ty) T hk (show ObRel μ ro w _ (.blk k) from hob) hb q3 hh hx hxd hke hkl (by omega) hone hsm
        exact Good.to_vec (h := h.del id) this rfl rfl (fun h => h) (Nat.le_refl _) (fun h => h) rfl
    · exact W.sat_fail
  · exact W.sat_fail

theorem aAppend_sat {hn : Hint} {ts : Array TypeId} {ty : TypeId} {s x : AV} {a b : Value} {h : Hp} (hs : Rep μ ro w true s a) (hx : Rep μ ro w true x b) (hh : HpRel μ ro h w) :
    (aAppend P hn ts s x h).sat fun r => Good P (Builtin.append_ ts ty #[a, b]) μ ro w h.nx r.1 r.2 := by
  unfold aAppend
  split
  · rename_i t t2 h0 h1
    split
    · rename_i e d2 hu hu2
      split
      · rename_i i hi
        split
        · rename_i zv hz
          split
          · rename_i hb
            simp only [Bool.and_eq_true, Bool.not_eq_true'] at hb
            have hs0 : i.size ≠ 0 := fun e => by rw [e] at hb; simp at hb
            have T : AppT P ts e i zv := ⟨⟨t, t2, d2, h0, h1, hu, hu2, hb.1⟩, hi, hz, Nat.le_of_ble_eq_true hb.2.1, hs0, Nat.eq_of_beq_eq_true hb.2.2.2⟩
            exact W.sat_bind (W.sat_and (aElems_sat (P := P) hx hh) (aElems_sat (P := P) (w := w.drew) hx.drew hh.drew)) fun y ⟨h1, h2⟩ => aAppend1_sat T hs hh h1 h2
          · exact W.sat_fail
        · exact W.sat_fail
      · exact W.sat_fail
    · exact W.sat_fail
  · exact W.sat_fail

/-! ### copy -/
def aCopy (P : Program) (hn : Hint) (ts : Array TypeId) (s x : AV) (h : Hp) : W (AV × Hp) :=
  match ts[0]? with
  | some t =>
    match P.underlying t with
    | some (.slice e) =>
      match szOf P e, s with
      | some z, .sl id off len cap ex z' =>
        (W.req false (z' = z)).bind fun _ => (aElems hn none h x z).bind fun y =>
        -- all of the source fits
        (W.req hn.sy (y.n ≤ len)).bind fun _ => (aWrite hn.sy hn.sy h id off y.c y.pl).bind fun h' => W.pure (.int .i64 y.n, h')
      | _, _ => W.fail
    | _ => W.fail
  | none => W.fail
theorem aCopy_sat {hn : Hint} {ts : Array TypeId} {ty : TypeId} {s x : AV} {a b : Value} {h : Hp} (hs : Rep μ ro w true s a) (hx : Rep μ ro w true x b) (hh : HpRel μ ro h w) :
    (aCopy P hn ts s x h).sat fun r => Good P (Builtin.copy_ ts ty #[a, b]) μ ro w h.nx r.1 r.2 := by
  unfold aCopy
  split
  · rename_i t h0
    split
    · rename_i e hu
      split
      · rename_i z id off len cap ex z' hz
        obtain ⟨i, hi, hsz⟩ := szOf_info hz
        refine W.sat_bind W.sat_req fun _ hzz => W.sat_bind (aElems_sat (P := P) hx hh) fun y ⟨xs, h1, h2, h3, h4⟩ => W.sat_bind W.sat_req fun _ hle => ?_
        subst hzz; subst hsz
        cases hs with
        | sl hb hc1 hc2 hc3 =>
          refine W.sat_bind (aWrite_sat (P := P) hb h3 hh) fun h' ⟨w', h5, h6, h7⟩ => W.sat_pure ?_
          refine ⟨.int .i64 y.n, w', μ, ?_, .refl _ _, .int, h6, h7⟩
          have hmin : Nat.min y.n len = y.n := Nat.min_eq_left hle
          simp only [Builtin.copy_, h0, List.getElem?_toArray, List.getElem?_cons_zero, List.getElem?_cons_succ, Sem.run_bind, r_underlying hu, Result.andThen_ok, h1, r_sizeOf hi, hmin, h2, h5, Sem.run_pure, goInt]
      · exact W.sat_fail
    · exact W.sat_fail
  · exact W.sat_fail
end Go.Proofs.Ytabjlmlfmafllaa.Av
