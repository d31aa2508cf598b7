/- make, conversions, lengths, append, copy. -/
import Derived.Test.YtabjlmlfmafllaaAvH
set_option linter.unusedVariables false
set_option linter.unusedSimpArgs false
namespace Go.Proofs.Ytabjlmlfmafllaa.Av
open Go.RowKit

variable {P : Program} {μ μ' : Nat → Option Loc} {ro ro' : Nat → Prop} {w w' : World}

def AV.isInt : AV → Option Int
  | .int _ n => some n
  | _ => none

/-- two sizes: literals, or told -/
def aSizes (hn : Hint) (x y : AV) : W (Nat × Nat) :=
  match x, y with
  | .int _ a, .int _ b =>
    match hn with
    | .m l c => (W.owe (a = (l : Int))).bind fun _ => (W.owe (b = (c : Int))).bind fun _ => W.pure (l, c)
    | _ => match a, b with | .ofNat l, .ofNat c => W.pure (l, c) | _, _ => W.fail
  | _, _ => W.fail
theorem aSizes_sat {hn : Hint} {x y : AV} : (aSizes hn x y).sat fun p => (∃ k, x = .int k (p.1 : Int)) ∧ ∃ k, y = .int k (p.2 : Int) := by
  unfold aSizes
  split
  · split
    · exact W.sat_bind W.sat_owe fun _ h1 => W.sat_bind W.sat_owe fun _ h2 => W.sat_pure ⟨⟨_, by rw [h1]⟩, ⟨_, by rw [h2]⟩⟩
    · split
      · exact W.sat_pure ⟨⟨_, rfl⟩, ⟨_, rfl⟩⟩
      · exact W.sat_fail
  · exact W.sat_fail

def aMakeSlice (P : Program) (hn : Hint) (t : TypeId) (x y : AV) (h : Hp) : W (AV × Hp) :=
  match P.underlying t with
  | some (.slice e) =>
    match P.info? e with
    | some i =>
      match i.zero with
      | some z =>
        match !(cst z).isAny && (Nat.ble i.bytes 4096 && (!Nat.beq i.size 0 && Nat.beq (cst z).cells.length i.size)) with
        | true => (aSizes hn x y).bind fun p => (W.req hn.sy (p.1 ≤ p.2)).bind fun _ => (W.req hn.sy (p.2 ≤ 4294967296)).bind fun _ =>
          W.pure (.sl h.nx 0 p.1 p.2 true i.size, h.new (.blk ⟨zeros (cst z).cells p.2, e, false, 0, (cst z).cells.all AV.pl, false, none⟩))
        | false => W.fail
      | none => W.fail
    | none => W.fail
  | _ => W.fail
theorem aMakeSlice_sat {hn : Hint} {t : TypeId} {x y : AV} {a b : Value} {h : Hp} (hx : Rep μ ro w true x a) (hy : Rep μ ro w true y b) (hh : HpRel μ ro h w) :
    (aMakeSlice P hn t x y h).sat fun r => Good P (Instr.makeSlice t a b) μ ro w h.nx r.1 r.2 := by
  unfold aMakeSlice
  split
  · rename_i e hu
    split
    · rename_i i hi
      split
      · rename_i z hz
        split
        · rename_i hb
          simp only [Bool.and_eq_true, Bool.not_eq_true'] at hb
          refine W.sat_bind aSizes_sat fun p ⟨⟨k, hk⟩, ⟨k', hk'⟩⟩ => W.sat_bind W.sat_req fun _ h1 => W.sat_bind W.sat_req fun _ h2 => W.sat_pure ?_
          obtain ⟨l, c⟩ := p
          simp only at hk hk' h1 h2 ⊢
          subst hk; subst hk'
          cases hx; cases hy
          have hbytes := Nat.le_of_ble_eq_true hb.2.1
          have hs0 : i.size ≠ 0 := fun e => by rw [e] at hb; simp at hb
          have hzl' := Nat.eq_of_beq_eq_true hb.2.2.2
          have hzr := (cst_rep (μ := μ) (ro := ro) (w := w) (o := true) z).cells (AV.not_any (by simpa using hb.1))
          have hzr' : Reps μ ro w (!(cst z).cells.all AV.pl) (cst z).cells z.cells.toList := hzr.plx
          have hze : z.cells.size = i.size := by have := hzr.1; simp at this; omega
          have hreps := zeros_reps hzr' c (c * i.size) (by rw [hzl'])
          let cs := (Array.range (c * i.size)).map (z.cells[· % z.cells.size]!)
          have hcs : cs.size = c * i.size := by simp [cs]
          have hrep2 : ∀ j, j < (zeros (cst z).cells c).length → Rep μ ro w (!(cst z).cells.all AV.pl) ((zeros (cst z).cells c).getD j .any) (cs.getD j undef) := fun j hj => by
            have := hreps.2 j hj
            rwa [arr_getD_toList cs] at this
          refine Good.of_new (cs := cs) (e := e) (v' := .slice (some ⟨w.heap.size, 0, none⟩) l c) hh ?_ rfl (by simp [zeros_length, hcs, hzl']) (fun _ => by simp [zeros_length, hcs, hzl']) hrep2 (.sl (upd_self _ _) (Nat.le_refl _) (fun _ => rfl) (by simp [hcs]))
          have wl : IntKind.i64.wrap (l : Int) = (l : Int) := IntWalk.i64_in _ (by omega)
          have wc : IntKind.i64.wrap (c : Int) = (c : Int) := IntWalk.i64_in _ (by omega)
          have hm : (i.bytes : Int) * (c : Int) ≤ 2 ^ 48 := by
            have h3 : i.bytes * c ≤ 4096 * 4294967296 := Nat.mul_le_mul hbytes h2
            have : ((i.bytes * c : Nat) : Int) ≤ ((4096 * 4294967296 : Nat) : Int) := Int.ofNat_le.2 h3
            rw [Int.natCast_mul] at this
            omega
          have hbig : (decide ((c : Int) < 0) || decide ((i.bytes : Int) * (c : Int) > 2 ^ 48)) = false := by
            rw [Bool.or_eq_false_iff]
            exact ⟨decide_eq_false (by omega), decide_eq_false (by omega)⟩
          simp only [Instr.makeSlice, Sem.run_bind, r_underlying hu, Result.andThen_ok, asInt, asIntOf, Sem.run_pure, r_typeInfo hi, wl, wc, hbig, Bool.false_or]
          rw [if_neg (by simp; omega)]
          simp only [Sem.run_bind, Sem.run_pure, Result.andThen_ok, run_askRoom, r_sizeOf hi, Int.toNat_natCast]
          by_cases hz0 : c * i.size = 0
          · simp only [hz0, if_true, Sem.run_pure, Result.andThen_ok, newRow, Sem.run_bind, run_newObj]
            have : cs = (Array.range 0).map fun x => (#[] : Array Value)[x % (#[] : Array Value).size]! := by
              apply Array.ext
              · simp [hcs, hz0]
              · intro j h1 h2; simp at h2
            rw [← this]; rfl
          · simp only [hz0, if_false, Sem.run_bind, r_zero hi hz, Result.andThen_ok, Sem.run_pure, newRow, run_newObj]
            rfl
        · exact W.sat_fail
      · exact W.sat_fail
    · exact W.sat_fail
  · exact W.sat_fail

/-! ### elements of slices and strings -/
def u8s (s : List UInt8) : List AV := s.map fun b => .int .u8 b.toNat
structure Els where
  n : Nat
  c : List AV
  pl : Bool
def aElems (hn : Hint) (vs : Option (List AV)) (h : Hp) (x : AV) (z : Nat) : W Els :=
  match x with
  | .nils => W.pure ⟨0, [], true⟩
  | .nen => W.pure ⟨0, [], true⟩
  | .str s => match Nat.beq z 1 with | true => W.pure ⟨s.length, u8s s, true⟩ | false => W.fail
  | .sl id off len cap ex z' =>
    match Nat.beq z' z, h.m.get id with
    | true, some (.blk k) =>
      (W.req hn.sy (off + mu len z ≤ k.c.length)).bind fun _ =>
      match vs with
      | some vs => (W.owe (sub k.c off (mu len z) = vs)).bind fun _ => W.pure ⟨len, vs, k.pl || vs.all AV.pl⟩
      | none => W.pure ⟨len, sub k.c off (mu len z), k.pl || (sub k.c off (mu len z)).all AV.pl⟩
    | _, _ => W.fail
  | .lst c n => (W.req hn.sy (c.length = mu n z)).bind fun _ => W.pure ⟨n, c, true⟩
  | .vec id n z' =>
    match Nat.beq z' z, h.m.get id with
    | true, some (.blk k) => (W.req hn.sy (k.c.length = mu n z)).bind fun _ =>
      match vs with
      | some vs => (W.owe (k.c = vs)).bind fun _ => W.pure ⟨n, vs, k.pl⟩
      | none => W.pure ⟨n, k.c, k.pl⟩
    | _, _ => W.fail
  | _ => W.fail

theorem u8s_reps {s : List UInt8} {b : ByteArray} (hb : b.data.toList = s) (o : Bool) : Reps μ ro w o (u8s s) (b.data.map fun b => Value.int .u8 b.toNat).toList := by
  subst hb
  refine ⟨by simp [u8s], fun i hi => ?_⟩
  simp only [u8s, List.length_map] at hi
  have e1 : (u8s b.data.toList).getD i .any = .int .u8 ((b.data.toList.getD i 0).toNat : Int) := by
    simp only [u8s, List.getD, List.getElem?_map, List.getElem?_eq_getElem hi]; rfl
  have e2 : (b.data.map fun b => Value.int .u8 b.toNat).toList.getD i undef = .int .u8 ((b.data.toList.getD i 0).toNat : Int) := by
    rw [Array.toList_map]
    simp only [List.getD, List.getElem?_map, List.getElem?_eq_getElem hi]; rfl
  rw [e1, e2]; exact .int

theorem aElems_sat {hn : Hint} {vs : Option (List AV)} {h : Hp} {x : AV} {a : Value} {z : Nat} (hx : Rep μ ro w true x a) (hh : HpRel μ ro h w) :
    (aElems hn vs h x z).sat fun p => ∃ xs : Array Value, (∀ w, (Builtin.lenOf a).run P w = .ok p.n w) ∧ (Builtin.firstCells z p.n a).run P w = .ok xs w ∧ Reps μ ro w (!p.pl) p.c xs.toList ∧ p.c.length = p.n * z := by
  unfold aElems
  split
  · cases hx
    exact W.sat_pure ⟨#[], fun w => rfl, rfl, Reps.nil, by simp⟩
  · cases hx
    exact W.sat_pure ⟨#[], fun w => rfl, by simp [Builtin.firstCells, loadCells, loadCellsFrom], Reps.nil, by simp⟩
  · split
    · rename_i s hz
      have hz' := Nat.eq_of_beq_eq_true hz
      cases hx with
      | str hs =>
        rename_i b
        refine W.sat_pure ⟨b.data.map fun b => .int .u8 b.toNat, fun w => ?_, ?_, u8s_reps hs _, by simp [u8s, hz']⟩
        · subst hs; rw [bytes_len]; rfl
        · subst hs
          simp only [Builtin.firstCells, bytes_len, Sem.run_pure]
          have e : (b.extract 0 b.size).data = b.data := by
            rw [ByteArray.data_extract]
            exact Array.extract_size
          rw [e]
    · exact W.sat_fail
  · rename_i id off len cap ex z'
    split
    · rename_i k hz hk
      have hz' := Nat.eq_of_beq_eq_true hz
      subst hz'
      cases hx with
      | sl hb hc1 hc2 hc3 =>
        rename_i cap' b
        have hob := hh.obsM id _ _ hk hb
        obtain ⟨cs, fr, g1, g0, g2, g3, g4, g5⟩ := hob.get
        have key : ∀ d : List AV, sub k.c off (mu len z') = d → off + mu len z' ≤ k.c.length →
            ∃ xs : Array Value, (∀ w, (Builtin.lenOf (.slice (some ⟨b.1, off, none⟩) len cap')).run P w = .ok len w) ∧ (Builtin.firstCells z' len (.slice (some ⟨b.1, off, none⟩) len cap')).run P w = .ok xs w ∧ Reps μ ro w (!(k.pl || d.all AV.pl)) d xs.toList ∧ d.length = len * z' := by
          intro d hd hlen
          rw [mu_eq] at hd hlen
          have hdl : d.length = len * z' := by rw [← hd]; exact sub_length hlen
          refine ⟨_, fun w => rfl, r_loadCells (f := fun j => cs.getD (off + j) undef) (fun j hj => cell_of g1 (by omega)), ?_, hdl⟩
          have : Reps μ ro w (!k.pl) d ((List.range d.length).map fun j => cs.getD (off + j) undef) := range_reps fun j hj => by
            rw [← hd] at hj ⊢
            obtain ⟨e1, e2, e3⟩ := sub_getD hj
            rw [e1]
            exact g5 _ e2
          rw [hdl] at this
          cases hp : k.pl with
          | true => rw [hp] at this; exact this
          | false => rw [hp] at this; exact Reps.plx this
        refine W.sat_bind W.sat_req fun _ hlen => ?_
        split
        · exact W.sat_bind W.sat_owe fun _ hv => W.sat_pure (key _ hv hlen)
        · exact W.sat_pure (key _ rfl hlen)
    · exact W.sat_fail
  · rename_i c n
    refine W.sat_bind W.sat_req fun _ hlen => W.sat_pure ?_
    rw [mu_eq] at hlen
    cases hx with
    | lstn =>
      refine ⟨#[], fun w => rfl, ?_, Reps.nil, by simp⟩
      simp [Builtin.firstCells, loadCells, loadCellsFrom]
    | lst vs hb hc hr hn =>
      rename_i cap' a
      by_cases hne : c = []
      · subst hne
        have h0 : n * z = 0 := by simpa using hlen.symm
        refine ⟨#[], fun w => rfl, ?_, Reps.nil, by simpa using h0.symm⟩
        simp [Builtin.firstCells, h0, loadCells, loadCellsFrom]
      · obtain ⟨hro, hsp⟩ := hb hne
        obtain ⟨blk, off, spot⟩ := a
        simp only at hro hsp hc
        subst hsp
        refine ⟨_, fun w => rfl, r_loadCells (f := vs) (fun j hj => hc j (by rw [hlen]; exact hj)), ?_, hlen⟩
        have : Reps μ ro w false c ((List.range c.length).map vs) := range_reps fun j hj => hr j hj
        rwa [hlen] at this
  · rename_i id n z'
    split
    · rename_i k hz hk
      have hz' := Nat.eq_of_beq_eq_true hz
      subst hz'
      have key : k.c.length = mu n z' → ∃ xs : Array Value, (∀ w, (Builtin.lenOf a).run P w = .ok n w) ∧ (Builtin.firstCells z' n a).run P w = .ok xs w ∧ Reps μ ro w (!k.pl) k.c xs.toList ∧ k.c.length = n * z' := by
        intro hlen
        rw [mu_eq] at hlen
        cases hx with
        | vecn =>
          have : k.c = [] := List.length_eq_zero_iff.1 (by simpa using hlen)
          rw [this]
          exact ⟨#[], fun w => rfl, by simp [Builtin.firstCells, loadCells, loadCellsFrom], Reps.nil, by simp⟩
        | vec hb hc1 hc3 =>
          rename_i cap' b
          have hob := hh.obsM id _ _ hk hb
          obtain ⟨cs, fr, g1, g0, g2, g3, g4, g5⟩ := BlkRel.get hob
          refine ⟨_, fun w => rfl, r_loadCells (f := fun j => cs.getD j undef) (fun j hj => by rw [Nat.zero_add]; exact cell_of g1 (by omega)), ?_, hlen⟩
          have : Reps μ ro w (!k.pl) k.c ((List.range k.c.length).map fun j => cs.getD j undef) := range_reps g5
          rw [hlen] at this
          exact this
      refine W.sat_bind W.sat_req fun _ hlen => ?_
      split
      · exact W.sat_bind W.sat_owe fun _ hv => W.sat_pure (hv ▸ key hlen)
      · exact W.sat_pure (key hlen)
    · exact W.sat_fail
  · exact W.sat_fail

end Go.Proofs.Ytabjlmlfmafllaa.Av
