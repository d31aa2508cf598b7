/- Slice literals, loads, stores, addresses, slices of slices, make. -/
import Derived.Test.YtabjlmlfmafllaaAvE
set_option linter.unusedVariables false
set_option linter.unusedSimpArgs false
namespace Go.Proofs.Ytabjlmlfmafllaa.Av
open Go.RowKit

variable {P : Program} {μ μ' : Nat → Option Loc} {ro ro' : Nat → Prop} {w w' : World}

theorem szOf_info {t : TypeId} {n : Nat} (h : szOf P t = some n) : ∃ i, P.info? t = some i ∧ i.size = n := by
  unfold szOf at h
  cases hi : P.info? t with
  | none => simp [hi] at h
  | some i => exact ⟨i, rfl, by simpa [hi] using h⟩

/-- zero cells of so many elements -/
def zeros (z : List AV) (n : Nat) : List AV := match z with | [v] => List.replicate n v | z => (List.replicate n z).flatten
theorem flatten_getD {α : Type} [Inhabited α] (z : List α) (d : α) : ∀ (n i : Nat), i < n * z.length → ((List.replicate n z).flatten).getD i d = z.getD (i % z.length) d
  | 0, i, h => by simp at h
  | n + 1, i, h => by
    rw [Nat.add_mul, Nat.one_mul] at h
    rw [List.replicate_succ, List.flatten_cons]
    by_cases hi : i < z.length
    · simp [List.getD, List.getElem?_append_left hi, Nat.mod_eq_of_lt hi]
    · have hz : 0 < z.length := by
        rcases Nat.eq_zero_or_pos z.length with e | e
        · rw [e] at h; omega
        · exact e
      have := flatten_getD z d n (i - z.length) (by omega)
      simp only [List.getD] at this ⊢
      rw [List.getElem?_append_right (by omega), this, Nat.mod_eq_sub_mod (Nat.le_of_not_lt hi)]
theorem zeros_length (z : List AV) (n : Nat) : (zeros z n).length = n * z.length := by
  unfold zeros
  split <;> simp
theorem zeros_getD (z : List AV) (n i : Nat) (h : i < n * z.length) : (zeros z n).getD i .any = z.getD (i % z.length) .any := by
  unfold zeros
  split
  · rename_i v
    have h' : i < n := by simpa using h
    have : i % 1 = 0 := Nat.mod_one i
    simp [List.getD, h', this]
  · exact flatten_getD z .any n i h
theorem zeros_reps {o : Bool} {z : List AV} {zs : Array Value} (hz : Reps μ ro w o z zs.toList) (n k : Nat) (hk : k = n * z.length) :
    Reps μ ro w o (zeros z n) ((Array.range k).map (zs[· % zs.size]!)).toList := by
  have e : zs.size = z.length := by simpa using hz.1
  refine ⟨by simp [zeros_length, hk], fun i hi => ?_⟩
  rw [zeros_length] at hi
  rw [zeros_getD z n i hi]
  have hz0 : 0 < z.length := by
    rcases Nat.eq_zero_or_pos z.length with e | e
    · rw [e] at hi; omega
    · exact e
  have hm : i % z.length < z.length := Nat.mod_lt _ hz0
  have := hz.2 (i % z.length) hm
  rw [arr_getD_toList zs] at this
  have e2 : (((Array.range k).map (zs[· % zs.size]!)).toList).getD i undef = zs.getD (i % z.length) undef := by
    rw [arr_getD_toList]
    simp only [Array.getD, Array.size_map, Array.size_range, hk, hi, dif_pos, Array.getElem_map, Array.getElem_range, e, hm]
    simp [e, hm]
  rw [e2]; exact this

def aBuildSlice (P : Program) (t : TypeId) (len : Nat) (parts : List (Nat × AV)) (h : Hp) : Option (AV × Hp) :=
  match P.underlying t with
  | some (.slice e) =>
    match P.info? e with
    | some i =>
      match i.zero with
      | some z =>
        match !(cst z).isAny && (Nat.ble (len * i.size) 16777216 && (!Nat.beq i.size 0 && Nat.beq (cst z).cells.length i.size)) with
        | true =>
          match aFill (fun j => some (j * i.size, i.size)) (zeros (cst z).cells len) parts with
          | some c => some (.sl h.nx 0 len len true i.size, h.cells c e false)
          | none => none
        | false => none
      | none => none
    | none => none
  | _ => none
theorem aBuildSlice_good {t : TypeId} {len : Nat} {parts : List (Nat × AV)} {ps : List (Nat × Value)} {h : Hp} {r : AV × Hp} (ha : aBuildSlice P t len parts h = some r) (hl : ps.length = parts.length)
    (hp : ∀ i (h : i < parts.length) (h' : i < ps.length), (ps[i]).1 = (parts[i]).1 ∧ Rep μ ro w true (parts[i]).2 (ps[i]).2) (hh : HpRel μ ro h w) :
    Good P (Instr.buildSlice t len ps.toArray) μ ro w h.nx r.1 r.2 := by
  unfold aBuildSlice at ha
  split at ha
  · rename_i e hu
    split at ha
    · rename_i i hi
      split at ha
      · rename_i z hz
        split at ha
        · rename_i hb
          split at ha
          · rename_i c hf
            simp only [Option.some.injEq] at ha
            subst ha
            simp only [Bool.and_eq_true, Bool.not_eq_true'] at hb
            have hlen := Nat.le_of_ble_eq_true hb.2.1
            have hs0 : i.size ≠ 0 := fun e => by rw [e] at hb; simp at hb
            have hzl' := Nat.eq_of_beq_eq_true hb.2.2.2
            have hzr := (cst_rep (μ := μ) (ro := ro) (w := w) (o := true) z).cells (AV.not_any (by simpa using hb.1))
            have hze : z.cells.size = i.size := by have := hzr.1; simp at this; omega
            obtain ⟨ds, h1, h2, h3⟩ := aFill_run parts ps _ c _ hf (zeros_reps hzr len (len * i.size) (by rw [hzl'])) hl hp
            refine Good.cells hh (cs := ds) (v' := .slice (some ⟨w.heap.size, 0, none⟩) len len) ?_ h2 (.sl (upd_self _ _) (Nat.le_refl _) (fun _ => rfl) (by have h4 := h2.1; rw [zeros_length, hzl'] at h3; simp at h4 ⊢; omega))
            simp only [Instr.buildSlice, Sem.run_bind, r_underlying hu, r_sizeOf hi, Result.andThen_ok]
            rw [if_neg (by omega)]
            by_cases hz0 : len * i.size = 0
            · simp only [hz0, if_true, Sem.run_pure, Result.andThen_ok]
              have hlen0 : len = 0 := by
                rcases Nat.mul_eq_zero.1 hz0 with h | h
                · exact h
                · exact absurd h hs0
              subst hlen0
              simp only [Nat.zero_mul] at h1
              have e0 : (Array.range 0).map (fun x => z.cells[x % z.cells.size]!) = #[] := by simp
              rw [e0] at h1
              have er : Array.range 0 = #[] := rfl
              simp [h1, newRow, Result.andThen, er]
            · simp only [hz0, if_false, Sem.run_bind, r_zero hi hz, Result.andThen_ok, Sem.run_pure]
              simp [h1, newRow, Result.andThen]
          · cases ha
        · cases ha
      · cases ha
    · cases ha
  · cases ha

/-! ### loads -/
/-- the cells that a load reads, as told or as they are -/
def aCells (hn : Hint) (c : List AV) (off n : Nat) : W (List AV) :=
  match hn with
  | .v vs => match Nat.beq vs.length n with | true => (W.owe (sub c off n = vs)).bind fun _ => W.pure vs | false => W.fail
  | _ =>
    match n with
    | 1 => match c[off]? with | some v => W.pure [v] | none => W.fail
    | n => match Nat.ble (off + n) c.length with | true => W.pure (sub c off n) | false => W.fail
theorem sub_one {c : List AV} {off : Nat} {v : AV} (h : c[off]? = some v) : sub c off 1 = [v] := by
  have hlt := (List.getElem?_eq_some_iff.1 h).1
  apply List.ext_getElem?
  intro i
  cases i with
  | zero => simp [sub, h]
  | succ i => simp [sub, List.getElem?_take]
theorem aCells_sat {hn : Hint} {c : List AV} {off n : Nat} : (aCells hn c off n).sat fun vs => sub c off n = vs ∧ vs.length = n := by
  unfold aCells
  split
  · split
    · rename_i hb
      exact W.sat_bind W.sat_owe fun _ h => W.sat_pure ⟨h, Nat.eq_of_beq_eq_true hb⟩
    · exact W.sat_fail
  · split
    · split
      · rename_i v hv
        exact W.sat_pure ⟨sub_one hv, rfl⟩
      · exact W.sat_fail
    · split
      · rename_i hb
        exact W.sat_pure ⟨rfl, sub_length (Nat.le_of_ble_eq_true hb)⟩
      · exact W.sat_fail

def nOf (ag : Bool) (z : Nat) : Nat := match ag with | true => z | false => 1
def aLoad (P : Program) (hn : Hint) (t : TypeId) (p : AV) (h : Hp) : W AV :=
  match P.underlying t, szOf P t with
  | some d, some z =>
    match p with
    | .ptr id off =>
      match h.m.get id with
      | some (.blk k) => (aCells hn k.c off (nOf (isAggD d) z)).bind fun vs => W.of (asVal (isAggD d) vs)
      | _ => W.fail
    | .rop c off => (aCells hn c off (nOf (isAggD d) z)).bind fun vs => W.of (asVal (isAggD d) vs)
    | _ => W.fail
  | _, _ => W.fail

theorem load_core {t : TypeId} {d : TypeDesc} {z : Nat} {c : List AV} {off n b p : Nat} {vs : List AV} {v : AV} {f : Nat → Value} {o : Bool}
    (hu : P.underlying t = some d) (hz : szOf P t = some z) (hn : n = nOf (isAggD d) z)
    (hs : sub c off n = vs ∧ vs.length = n) (hv : asVal (isAggD d) vs = some v) (hc : ∀ i, i < c.length → w.cell? ⟨b, p + i, none⟩ = some (f i))
    (hr : ∀ i, i < c.length → Rep μ ro w o (c.getD i .any) (f i)) :
    ∃ v', (loadVar t ⟨b, p + off, none⟩).run P w = .ok v' w ∧ Rep μ ro w o v v' := by
  obtain ⟨i, hi, rfl⟩ := szOf_info hz
  obtain ⟨rfl, hl⟩ := hs
  have hg : ∀ j, j < n → (sub c off n).getD j .any = c.getD (off + j) .any ∧ off + j < c.length := fun j hj => by
    obtain ⟨h1, h2, _⟩ := sub_getD (c := c) (o := off) (n := n) (i := j) (by omega)
    exact ⟨h1, h2⟩
  have hn' : (if isAggD d then i.size else 1) = n := by rw [hn]; cases isAggD d <;> simp [nOf]
  have hload := r_loadVar (P := P) (w := w) hu hi (b := b) (off := p + off) (f := fun j => f (off + j)) (fun j hj => by
    rw [hn'] at hj
    rw [Nat.add_assoc]
    exact hc _ (hg j hj).2)
  refine ⟨_, hload, ?_⟩
  have hreps : Reps μ ro w o (sub c off n) ((List.range (sub c off n).length).map fun j => f (off + j)) := range_reps fun j hj => by
    rw [hl] at hj
    rw [(hg j hj).1]
    exact hr _ (hg j hj).2
  cases ha : isAggD d with
  | true =>
    simp only [ha, if_true] at hn' ⊢
    simp only [ha, asVal, Option.some.injEq] at hv
    subst hv
    have := hreps.agg
    rw [hl] at this
    rw [hn']
    exact this
  | false =>
    simp only [ha] at hn' hv ⊢
    have hn1 : n = 1 := by simpa using hn'.symm
    subst hn1
    unfold asVal at hv
    simp only at hv
    split at hv
    · rename_i v' hc'
      simp only [Option.some.injEq] at hv
      subst hv
      have := hreps.2 0 (by rw [hl]; omega)
      rw [hc'] at this
      simpa using this
    · cases hv

theorem aLoad_sat {hn : Hint} {t : TypeId} {p : AV} {x : Value} {h : Hp} (hp : Rep μ ro w true p x) (hh : HpRel μ ro h w) :
    (aLoad P hn t p h).sat fun v => ∃ v', (Instr.loadAt t x).run P w = .ok v' w ∧ Rep μ ro w true v v' := by
  unfold aLoad
  split
  · rename_i d z hu hz
    split
    · rename_i id off
      split
      · rename_i k hk
        refine W.sat_bind aCells_sat fun vs hs => W.sat_of fun v hv => ?_
        cases hp with
        | ptr hb =>
          rename_i b
          have hob := hh.obsM id _ _ hk hb
          obtain ⟨cs, fr, h1, h0, h2, h3, h4, h5⟩ := BlkRel.get hob
          have := load_core (P := P) (w := w) (μ := μ) (ro := ro) (o := !k.pl) (b := b.1) (p := 0) hu hz rfl hs hv (f := fun i => cs.getD i undef)
            (fun i hi => by rw [Nat.zero_add]; exact cell_of h1 (by omega)) h5
          obtain ⟨v', h6, h7⟩ := this
          rw [Nat.zero_add] at h6
          refine ⟨v', by simpa [Instr.loadAt, Instr.sureAddr, Result.andThen] using h6, ?_⟩
          cases hpl : k.pl with
          | true => rw [hpl] at h7; exact h7.up
          | false => rw [hpl] at h7; exact h7
      · exact W.sat_fail
    · rename_i c off
      refine W.sat_bind aCells_sat fun vs hs => W.sat_of fun v hv => ?_
      cases hp with
      | rop f hb hc hr =>
        rename_i b p
        obtain ⟨v', h6, h7⟩ := load_core (P := P) (w := w) (μ := μ) (ro := ro) (o := false) (b := b) (p := p) hu hz rfl hs hv hc hr
        exact ⟨v', by simpa [Instr.loadAt, Instr.sureAddr, Result.andThen] using h6, h7.up⟩
    · exact W.sat_fail
  · exact W.sat_fail

/-! ### stores -/
theorem extract_getD {α : Type} (cs : Array α) (n i : Nat) (d : α) (h : i < n) (h2 : i < cs.size) : (cs.extract 0 n).getD i d = cs.getD i d := by
  have h3 : i < (cs.extract 0 n).size := by simp; omega
  simp only [Array.getD, dif_pos h2, dif_pos h3, Array.getElem_extract]
  simp
/-- cells written into an owned block -/
def aWriteK (sy so : Bool) (h : Hp) (id off : Nat) (vs : List AV) (pl : Bool) (k : Blk) : W Hp :=
    (W.req sy (off + vs.length ≤ k.c.length)).bind fun _ =>
    (match k.fz with | 0 => W.pure () | n + 1 => W.req sy (n + 1 ≤ off)).bind fun _ =>
    (W.req so (vs.all AV.one = true)).bind fun _ =>
    W.pure (h.set id (.blk { k with c := setL k.c off vs, pl := k.pl && pl }))
def aWrite (sy so : Bool) (h : Hp) (id off : Nat) (vs : List AV) (pl : Bool) : W Hp :=
  match h.m.get id with
  | some (.blk k) => aWriteK sy so h id off vs pl k
  | _ => W.fail

theorem aWriteK_sat {sy so pl : Bool} {h : Hp} {id off : Nat} {b : Loc} {vs : List AV} {xs : List Value} {k : Blk} {ob : Ob} (hk : h.m.get id = some ob) (hob : ObRel μ ro w b (.blk k)) (hb : μ id = some b) (hvp : Reps μ ro w (!pl) vs xs) (hh : HpRel μ ro h w) :
    (aWriteK sy so h id off vs pl k).sat fun h' => ∃ w', (storeCells ⟨b.1, off, none⟩ xs).run P w = .ok () w' ∧ HpRel μ ro h' w' ∧ Fr μ ro w μ w' := by
  have hv : Reps μ ro w true vs xs := ⟨hvp.1, fun i hi => (hvp.2 i hi).any_or⟩
  unfold aWriteK
  · refine W.sat_bind W.sat_req fun _ hlen => W.sat_bind (Q := fun _ => k.fz ≤ off) ?_ fun _ hfz => W.sat_bind W.sat_req fun _ hone => ?_
    · split
      · rename_i h0; exact W.sat_pure (by omega)
      · rename_i n hn; exact W.sat_mono W.sat_req fun _ h => by omega
    · refine W.sat_pure ?_
      obtain ⟨cs, fr, h1, h0, h2, h3, h4, h5⟩ := BlkRel.get hob
      have hxl : xs.length = vs.length := hv.1
      obtain ⟨w', hr, hw⟩ := r_storeCells (P := P) xs 0 w b.1 off k.e fr cs h1 (by omega) (fun j hj1 hj2 hfr => by
        have := h4 j hfr.1 hfr.2
        omega) (fun v hvm => by
          obtain ⟨i, hi, rfl⟩ := List.getElem_of_mem hvm
          have hi' : i < vs.length := by omega
          have := hv.2 i hi'
          rw [List.all_eq_true] at hone
          have h1 := hone (vs.getD i .any) (by rw [List.getD_eq_getElem?_getD, List.getElem?_eq_getElem hi']; exact List.getElem_mem hi')
          have h2 := this.one h1
          rwa [List.getD_eq_getElem?_getD, List.getElem?_eq_getElem hi] at h2)
      have hro : ∀ j, ro j → w'.heap[j]? = w.heap[j]? := fun j hj => hw.other j (fun e => hh.own id _ b hk hb (e ▸ hj))
      refine ⟨w', hr, hh.set hk hb (Nat.le_of_eq hw.size.symm) (fun j hj _ => hw.other j hj) ?_, Fr.write hb hw.os hw.tape hw.output hw.size (hh.own id _ b hk hb) hw.other⟩
      have fin : BlkRel μ ro w' b { k with c := setL k.c off vs, pl := k.pl && pl } := ?_
      · exact fin
      refine ⟨⟨_, fr, hw.at_, by rw [writeAt_size]; exact h0, by simpa [writeAt_size, setL_length] using h2, fun he => by simpa [writeAt_size, setL_length] using h3 he, fun i h1 h2 => by rw [writeAt_size]; exact h4 i h1 h2, ?_⟩⟩
      have hw5 : ∀ (o : Bool), (∀ i, i < k.c.length → Rep μ ro w o (k.c.getD i .any) (cs.getD i undef)) → Reps μ ro w o vs xs →
          ∀ i, i < (setL k.c off vs).length → Rep μ ro w' o ((setL k.c off vs).getD i .any) ((writeAt cs (off + 0) xs).getD i undef) := fun o hc hvo i hi => by
        -- the known cells alone
        have hcs : Reps μ ro w o k.c (cs.extract 0 k.c.length).toList := by
          refine ⟨by simp; omega, fun i hi => ?_⟩
          have := hc i hi
          have hi2 : i < cs.size := by omega
          have e : (cs.extract 0 k.c.length).toList.getD i undef = cs.getD i undef := (arr_getD_toList (cs.extract 0 k.c.length) i undef).trans (extract_getD _ _ _ _ hi hi2)
          rw [e]; exact this
        have h6 := (setL_reps vs k.c _ xs off hcs hvo).2 i hi
        rw [arr_getD_toList (writeAt (cs.extract 0 k.c.length) off xs), writeAt_getD _ _ _ _ (by simp; omega)] at h6
        rw [setL_length] at hi
        rw [Nat.add_zero, writeAt_getD _ _ _ _ (by omega)]
        have e : (cs.extract 0 k.c.length).getD i undef = cs.getD i undef := extract_getD _ _ _ _ hi (by omega)
        rw [e] at h6
        exact h6.mono (fun _ _ h => h) (fun _ h => h) hro
      intro i hi
      cases hpk : k.pl with
      | false => rw [hpk] at h5; exact hw5 true h5 hv i hi
      | true =>
        rw [hpk] at h5
        cases hpv : pl with
        | true => rw [hpv] at hvp; exact hw5 false h5 hvp i hi
        | false => exact hw5 true (fun i hi => (h5 i hi).up) hv i hi
theorem aWrite_sat {sy so pl : Bool} {h : Hp} {id off : Nat} {b : Loc} {vs : List AV} {xs : List Value} (hb : μ id = some b) (hvp : Reps μ ro w (!pl) vs xs) (hh : HpRel μ ro h w) :
    (aWrite sy so h id off vs pl).sat fun h' => ∃ w', (storeCells ⟨b.1, off, none⟩ xs).run P w = .ok () w' ∧ HpRel μ ro h' w' ∧ Fr μ ro w μ w' := by
  unfold aWrite
  split
  · rename_i k hk
    exact aWriteK_sat hk (hh.obsM id _ _ hk hb) hb hvp hh
  · exact W.sat_fail

def aStore (P : Program) (hn : Hint) (t : TypeId) (p v : AV) (h : Hp) : W Hp :=
  match p, szOf P t with
  | .ptr id off, some z => match !v.isAny && Nat.beq v.cells.length z with | true => aWrite hn.sy false h id off v.cells (v.cells.all AV.pl) | false => W.fail
  | _, _ => W.fail
theorem aStore_sat {hn : Hint} {t : TypeId} {p v : AV} {x y : Value} {h : Hp} (hp : Rep μ ro w true p x) (hv : Rep μ ro w true v y) (hh : HpRel μ ro h w) :
    (aStore P hn t p v h).sat fun h' => ∃ w', (Instr.storeAt t x y).run P w = .ok () w' ∧ HpRel μ ro h' w' ∧ Fr μ ro w μ w' := by
  unfold aStore
  split
  · rename_i id off z hz
    split
    · rename_i hb
      simp only [Bool.and_eq_true] at hb
      cases hp with
      | ptr hid =>
        obtain ⟨i, hi, rfl⟩ := szOf_info hz
        have hcells := hv.cells (AV.not_any hb.1)
        have hl := Nat.eq_of_beq_eq_true hb.2
        refine W.sat_mono (aWrite_sat (P := P) hid hcells.plx hh) fun h' ⟨w', h1, h2, h3⟩ => ⟨w', ?_, h2, h3⟩
        have e : y.cells.size = i.size := by have := hcells.1; simp at this; omega
        simp only [Instr.storeAt, Instr.sureAddr, storeVar, Sem.run_bind, Sem.run_pure, Result.andThen_ok, r_sizeOf hi]
        simp [e, h1, Result.andThen]
    · exact W.sat_fail
  · exact W.sat_fail

end Go.Proofs.Ytabjlmlfmafllaa.Av
