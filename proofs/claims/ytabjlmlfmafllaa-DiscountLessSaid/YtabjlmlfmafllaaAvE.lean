/- New blocks, addresses, loads and stores. -/
import Derived.Test.YtabjlmlfmafllaaAvD
set_option linter.unusedVariables false
set_option linter.unusedSimpArgs false
namespace Go.Proofs.Ytabjlmlfmafllaa.Av
open Go.RowKit

variable {P : Program} {μ μ' : Nat → Option Loc} {ro ro' : Nat → Prop} {w w' : World}

/-! ### constants -/
def cst1 : Value → AV
  | .bool b => .bool b
  | .int k n => .int k n
  | .string b => .str b.data.toList
  | .pointer a => match a with | none => .nilp | some _ => .any
  | .slice a l c => match a, l, c with | none, 0, 0 => .nils | _, _, _ => .any
  | .nilFunc => .nilf
  | .nilIface => .nili
  | .func f a c => match a.toList, c.toList with | [], [] => .fn f [] [] | _, _ => .any
  | _ => .any
def cst : Value → AV
  | .agg cs => .agg (cs.toList.map cst1)
  | .tuple cs => .tup (cs.toList.map cst1)
  | .iface t v => .ifc t (cst1 v)
  | v => cst1 v
theorem cst1_rep (v : Value) {o : Bool} : Rep μ ro w o (cst1 v) v := by
  cases v <;> simp only [cst1]
  case bool => exact .bool
  case int => exact .int
  case string => exact .str rfl
  case pointer a => cases a <;> first | exact .nilp | exact .any
  case slice a l c =>
    split
    · exact .nils
    · exact .any
  case func f a c =>
    split
    · rename_i h1 h2
      exact .fn (by rw [← Array.length_toList, h1]; rfl) (fun i hi => by simp at hi) (by rw [← Array.length_toList, h2]; rfl) (fun i hi => by simp at hi)
    · exact .any
  case nilFunc => exact .nilf
  case nilIface => exact .nili
  all_goals exact .any
theorem reps_map (cs : List Value) {o : Bool} : Reps μ ro w o (cs.map cst1) cs := by
  refine ⟨by simp, fun i hi => ?_⟩
  rw [List.length_map] at hi
  have : (cs.map cst1).getD i .any = cst1 (cs.getD i undef) := by simp [List.getD, List.getElem?_eq_getElem hi]
  rw [this]
  exact cst1_rep _
theorem cst_rep (v : Value) {o : Bool} : Rep μ ro w o (cst v) v := by
  unfold cst
  split
  · rename_i cs
    have := (reps_map (μ := μ) (ro := ro) (w := w) (o := o) cs.toList).agg
    rwa [Array.toArray_toList] at this
  · rename_i cs
    have := (reps_map (μ := μ) (ro := ro) (w := w) (o := o) cs.toList).tup
    rwa [Array.toArray_toList] at this
  · exact .ifc (cst1_rep _)
  · exact cst1_rep _

/-- no owned memory -/
def AV.pl1 : AV → Bool
  | .bool _ | .int _ _ | .str _ | .nilp | .rop _ _ | .lst _ _ | .nils | .nen | .nilf | .nili => true
  | .fn _ [] [] => true
  | _ => false
def AV.pl : AV → Bool
  | .ifc _ v => v.pl1
  | .agg c => c.all AV.pl1
  | v => v.pl1
theorem Rep.pl1 {v : AV} {x : Value} {o o' : Bool} (h : Rep μ ro w o v x) (hp : v.pl1 = true) : Rep μ ro w o' v x := by
  cases h with
  | any => simp [AV.pl1] at hp
  | bool => exact .bool
  | int => exact .int
  | str h => exact .str h
  | ptr h => simp [AV.pl1] at hp
  | nilp => exact .nilp
  | rop vs hb hc hr => exact .rop vs hb hc hr
  | sl h => simp [AV.pl1] at hp
  | vec h => simp [AV.pl1] at hp
  | vecn => simp [AV.pl1] at hp
  | lst vs hb hc hr hn => exact .lst vs hb hc hr hn
  | lstn => exact .lstn
  | nils => exact .nils
  | nen => exact .nen
  | agg hn hr => simp [AV.pl1] at hp
  | tup hn hr => simp [AV.pl1] at hp
  | @fn _ f a c as cs hn hr hm hs =>
    cases a with
    | cons x l => simp [AV.pl1] at hp
    | nil =>
      cases c with
      | cons x l => simp [AV.pl1] at hp
      | nil => exact .fn hn (fun i hi => by simp at hi) hm (fun i hi => by simp at hi)
  | nilf => exact .nilf
  | ifc h => simp [AV.pl1] at hp
  | nili => exact .nili
theorem all_getD {c : List AV} (hp : c.all AV.pl1 = true) {i : Nat} (hi : i < c.length) : (c.getD i .any).pl1 = true := by
  rw [List.all_eq_true] at hp
  rw [List.getD_eq_getElem?_getD, List.getElem?_eq_getElem hi]
  exact hp _ (List.getElem_mem hi)
theorem Rep.pl {v : AV} {x : Value} {o o' : Bool} (h : Rep μ ro w o v x) (hp : v.pl = true) : Rep μ ro w o' v x := by
  cases h with
  | ifc h => exact .ifc (h.pl1 hp)
  | agg hn hr => exact .agg hn fun i hi => (hr i hi).pl1 (all_getD hp hi)
  | tup hn hr => simp [AV.pl, AV.pl1] at hp
  | any => simp [AV.pl, AV.pl1] at hp
  | bool => exact .bool
  | int => exact .int
  | str h => exact .str h
  | ptr h => simp [AV.pl, AV.pl1] at hp
  | nilp => exact .nilp
  | rop vs hb hc hr => exact .rop vs hb hc hr
  | sl h => simp [AV.pl, AV.pl1] at hp
  | vec h => simp [AV.pl, AV.pl1] at hp
  | vecn => simp [AV.pl, AV.pl1] at hp
  | lst vs hb hc hr hn => exact .lst vs hb hc hr hn
  | lstn => exact .lstn
  | nils => exact .nils
  | nen => exact .nen
  | fn hn hr hm hs => exact Rep.pl1 (.fn hn hr hm hs) hp
  | nilf => exact .nilf
  | nili => exact .nili
theorem Rep.any_or {v : AV} {x : Value} {o : Bool} (h : Rep μ ro w o v x) : Rep μ ro w true v x := by
  cases o
  · exact h.up
  · exact h
theorem Reps.pl {c : List AV} {vs : List Value} {o o' : Bool} (h : Reps μ ro w o c vs) (hp : c.all AV.pl = true) : Reps μ ro w o' c vs := by
  refine ⟨h.1, fun i hi => (h.2 i hi).pl ?_⟩
  rw [List.all_eq_true] at hp
  rw [List.getD_eq_getElem?_getD, List.getElem?_eq_getElem hi]
  exact hp _ (List.getElem_mem hi)
theorem Reps.plx {c : List AV} {vs : List Value} (h : Reps μ ro w true c vs) : Reps μ ro w (!c.all AV.pl) c vs := by
  cases hp : c.all AV.pl with
  | true => exact h.pl hp
  | false => exact h

/-- a new block of cells that are known -/
def Hp.cells (h : Hp) (c : List AV) (e : TypeId) (ext : Bool) : Hp := h.new (.blk ⟨c, e, ext, 0, c.all AV.pl, false, none⟩)

theorem Good.cells {s : Sem Value} {h : Hp} {cs : Array Value} {e : TypeId} {c : List AV} {v : AV} {v' : Value} (hh : HpRel μ ro h w)
    (hr : s.run P w = .ok v' (w.alloc (.cells cs e))) (hc : Reps μ ro w true c cs.toList)
    (hv : Rep (upd μ h.nx (w.heap.size, cs.size)) ro (w.alloc (.cells cs e)) true v v') : Good P s μ ro w h.nx v (h.cells c e false) := by
  refine Good.of_new hh hr rfl (by have := hc.1; simp at this; simp [this]) (fun _ => by have := hc.1; simpa using this) (fun i hi => ?_) hv
  have := hc.plx.2 i hi
  rwa [arr_getD_toList cs] at this

theorem upd_self (n : Nat) (m : Loc) : upd μ n m n = some m := by simp [upd]

def aBox (e : TypeId) (v : AV) (h : Hp) : Option (AV × Hp) :=
  match v with
  | .any => none
  | v => some (.ptr h.nx 0, h.cells v.cells e false)
theorem aBox_good {e : TypeId} {v : AV} {x : Value} {h : Hp} {r : AV × Hp} (ha : aBox e v h = some r) (hv : Rep μ ro w true v x) (hh : HpRel μ ro h w) :
    Good P (Instr.box e x) μ ro w h.nx r.1 r.2 := by
  unfold aBox at ha
  split at ha
  · cases ha
  · rename_i hne
    simp only [Option.some.injEq] at ha
    subst ha
    refine Good.cells hh (cs := x.cells) (v' := .pointer (some ⟨w.heap.size, 0, none⟩)) ?_ (hv.cells hne) (.ptr (upd_self _ _))
    simp [Instr.box, newVar, newRow, Result.andThen]
def aAlloc (P : Program) (e : TypeId) (h : Hp) : Option (AV × Hp) :=
  match P.info? e with
  | some i => match i.zero with | some z => aBox e (cst z) h | none => none
  | none => none
theorem aAlloc_good {e : TypeId} {h : Hp} {r : AV × Hp} (ha : aAlloc P e h = some r) (hh : HpRel μ ro h w) : Good P (Instr.alloc e true (.tuple #[])) μ ro w h.nx r.1 r.2 := by
  unfold aAlloc at ha
  split at ha
  · rename_i i hi
    split at ha
    · rename_i z hz
      obtain ⟨v', w', μ', h1, h2⟩ := aBox_good (P := P) ha (cst_rep z) hh
      exact ⟨v', w', μ', by simp only [Instr.alloc, Sem.run_bind, r_zero hi hz, Result.andThen_ok]; exact h1, h2⟩
    · cases ha
  · cases ha

/-! ### struct and slice literals -/
def setL (c : List AV) (off : Nat) : List AV → List AV
  | [] => c
  | v :: vs => setL (c.set off v) (off + 1) vs
theorem setL_length : ∀ (vs c : List AV) (off : Nat), (setL c off vs).length = c.length
  | [], _, _ => rfl
  | v :: vs, c, off => by simp [setL, setL_length vs]
theorem setL_reps {o : Bool} : ∀ (ds : List AV) (c : List AV) (cs : Array Value) (xs : List Value) (off : Nat), Reps μ ro w o c cs.toList → Reps μ ro w o ds xs →
    Reps μ ro w o (setL c off ds) (writeAt cs off xs).toList
  | [], c, cs, xs, off, hc, hd => by
    have : xs = [] := List.length_eq_zero_iff.1 (by simpa using hd.1)
    subst this; exact hc
  | d :: ds, c, cs, xs, off, hc, hd => by
    obtain ⟨x, xs', rfl, h1, h2⟩ := hd.head
    refine setL_reps ds _ _ _ _ ⟨?_, fun i hi => ?_⟩ h2
    · simpa using hc.1
    · simp only [List.length_set] at hi
      have hs : i < cs.size := by have := hc.1; simp at this; omega
      rw [arr_getD_toList]
      by_cases e : off = i
      · subst e
        simpa [List.getD, List.getElem?_set, hi, Array.getD, hs] using h1
      · have := hc.2 i hi
        rw [arr_getD_toList] at this
        simpa [List.getD, List.getElem?_set, e, Array.getD, hs, Array.getElem_setIfInBounds_ne, e] using this

theorem fold_write : ∀ (l : List Value) (cs : Array Value) (off k : Nat),
    (l.zipIdx k).foldl (fun cs (x : Value × Nat) => cs.setIfInBounds (off + x.2) x.1) cs = writeAt cs (off + k) l
  | [], _, _, _ => rfl
  | v :: l, cs, off, k => by
    simp only [List.zipIdx_cons, List.foldl_cons, writeAt]
    rw [fold_write l _ off (k + 1)]
    rfl

def AV.isAny : AV → Bool
  | .any => true
  | _ => false
theorem AV.not_any {v : AV} (h : (!v.isAny) = true) : v ≠ .any := by
  rintro rfl; simp [AV.isAny] at h
def aFill (place : Nat → Option (Nat × Nat)) (c : List AV) : List (Nat × AV) → Option (List AV)
  | [] => some c
  | (i, v) :: rest =>
    match place i with
    | some (off, size) => match !v.isAny && (Nat.beq v.cells.length size && Nat.ble (off + size) c.length) with | true => aFill place (setL c off v.cells) rest | false => none
    | none => none
theorem aFill_run {place : Nat → Option (Nat × Nat)} {o : Bool} : ∀ (parts : List (Nat × AV)) (ps : List (Nat × Value)) (c d : List AV) (cs : Array Value), aFill place c parts = some d →
    Reps μ ro w o c cs.toList → ps.length = parts.length → (∀ i (h : i < parts.length) (h' : i < ps.length), (ps[i]).1 = (parts[i]).1 ∧ Rep μ ro w o (parts[i]).2 (ps[i]).2) →
    ∃ ds, Instr.fill place cs ps = some ds ∧ Reps μ ro w o d ds.toList ∧ d.length = c.length
  | [], ps, c, d, cs, h, hc, hl, hp => by
    have : ps = [] := List.length_eq_zero_iff.1 (by simpa using hl)
    subst this
    simp only [aFill, Option.some.injEq] at h
    exact ⟨cs, rfl, h ▸ hc, h ▸ rfl⟩
  | (i, v) :: rest, ps, c, d, cs, h, hc, hl, hp => by
    cases ps with
    | nil => simp at hl
    | cons p ps =>
      obtain ⟨j, x⟩ := p
      have h0 := hp 0 (by simp) (by simp)
      simp only [List.getElem_cons_zero] at h0
      obtain ⟨rfl, hv⟩ := h0
      simp only [aFill] at h
      split at h
      · rename_i off size hpl
        split at h
        · rename_i hb
          simp only [Bool.and_eq_true] at hb
          have hsz := Nat.eq_of_beq_eq_true hb.2.1
          have hle := Nat.le_of_ble_eq_true hb.2.2
          have hcells := hv.cells (AV.not_any hb.1)
          obtain ⟨ds, h1, h2, h3⟩ := aFill_run rest ps _ d _ h (setL_reps v.cells c cs x.cells.toList off hc hcells) (by simpa using hl)
            (fun i h1 h2 => by have := hp (i + 1) (by simpa using h1) (by simpa using h2); simpa using this)
          refine ⟨ds, ?_, h2, by rw [h3, setL_length]⟩
          have e1 : x.cells.size = v.cells.length := by simpa using hcells.1
          have e2 : cs.size = c.length := by simpa using hc.1
          simp only [Instr.fill, hpl]
          rw [if_neg (by simp; omega)]
          rw [← h1]
          congr 1
          have := fold_write x.cells.toList cs off 0
          rw [Nat.add_zero] at this
          rw [← this, ← Array.foldl_toList]
          simp [Array.toList_zipIdx]
        · cases h
      · cases h

def fieldPlaces (P : Program) (fs : Array Field) : List Field → Option (List (Nat × Nat))
  | [] => some []
  | f :: l => match szOf P f.type, fieldPlaces P fs l with | some n, some r => some ((f.offset, n) :: r) | _, _ => none
theorem fieldPlaces_run {fs : Array Field} : ∀ (l : List Field) (r : List (Nat × Nat)) (w : World), fieldPlaces P fs l = some r →
    (l.mapM fun f => do pure (f.offset, ← sizeOf f.type) : Sem (List (Nat × Nat))).run P w = .ok r w
  | [], r, w, h => by simp only [fieldPlaces, Option.some.injEq] at h; subst h; rfl
  | f :: l, r, w, h => by
    simp only [fieldPlaces] at h
    split at h
    · rename_i n r' hn hr
      simp only [Option.some.injEq] at h
      subst h
      cases hi : P.info? f.type with
      | none => simp [szOf, hi] at hn
      | some i =>
        simp only [szOf, hi, Option.map_some, Option.some.injEq] at hn
        subst hn
        simp only [List.mapM_cons, Sem.run_bind, r_sizeOf hi, fieldPlaces_run l r' w hr, Result.andThen_ok, Sem.run_pure]
    · cases h

def aBuild (P : Program) (t : TypeId) (parts : List (Nat × AV)) : Option AV :=
  match P.info? t, P.underlying t with
  | some i, some (.struct fs) =>
    match i.zero, fieldPlaces P fs fs.toList with
    | some z, some pl => match cst z with | .any => none | z => (aFill (fun (i : Nat) => pl[i]?) z.cells parts).map .agg
    | _, _ => none
  | some i, some (.array _ e) =>
    match i.zero, szOf P e with
    | some z, some n => match cst z with | .any => none | z => (aFill (fun i => some (i * n, n)) z.cells parts).map .agg
    | _, _ => none
  | _, _ => none
theorem aBuild_run {t : TypeId} {parts : List (Nat × AV)} {ps : List (Nat × Value)} {v : AV} {o : Bool} (h : aBuild P t parts = some v) (hl : ps.length = parts.length)
    (hp : ∀ i (h : i < parts.length) (h' : i < ps.length), (ps[i]).1 = (parts[i]).1 ∧ Rep μ ro w o (parts[i]).2 (ps[i]).2) :
    ∃ v', (∀ w, (Instr.build t ps.toArray).run P w = .ok v' w) ∧ Rep μ ro w o v v' := by
  unfold aBuild at h
  split at h
  · rename_i i fs hi hu
    split at h
    · rename_i z pl hz hpl
      split at h
      · cases h
      · rename_i hne
        simp only [Option.map_eq_some_iff] at h
        obtain ⟨d, hd, rfl⟩ := h
        have hzr := (cst_rep (μ := μ) (ro := ro) (w := w) (o := o) z).cells hne
        obtain ⟨ds, h1, h2, _⟩ := aFill_run parts ps _ d z.cells hd hzr hl hp
        have := h2.agg
        rw [Array.toArray_toList] at this
        refine ⟨.agg ds, fun w => ?_, this⟩
        have hpl' := fun w => fieldPlaces_run (P := P) (fs := fs) fs.toList pl w hpl
        have hpl'' : ∀ w, (fs.mapM fun f => do pure (f.offset, ← sizeOf f.type) : Sem (Array (Nat × Nat))).run P w = .ok pl.toArray w := fun w => by
          rw [Array.mapM_eq_mapM_toList, Sem.run_map, hpl' w]
          rfl
        simp only [Instr.build, Sem.run_bind, r_zero hi hz, r_underlying hu, Result.andThen_ok, hpl'']
        have : (fun (x : Nat) => pl.toArray[x]?) = (fun (i : Nat) => pl[i]?) := by funext x; simp
        simp [this, h1]
    · cases h
  · rename_i i n e hi hu
    split at h
    · rename_i z n hz hn
      split at h
      · cases h
      · rename_i hne
        simp only [Option.map_eq_some_iff] at h
        obtain ⟨d, hd, rfl⟩ := h
        have hzr := (cst_rep (μ := μ) (ro := ro) (w := w) (o := o) z).cells hne
        obtain ⟨ds, h1, h2, _⟩ := aFill_run parts ps _ d z.cells hd hzr hl hp
        have := h2.agg
        rw [Array.toArray_toList] at this
        refine ⟨.agg ds, fun w => ?_, this⟩
        cases hj : P.info? e with
        | none => simp [szOf, hj] at hn
        | some j =>
          simp only [szOf, hj, Option.map_some, Option.some.injEq] at hn
          subst hn
          simp [Instr.build, r_zero hi hz, r_underlying hu, r_sizeOf hj, Result.andThen, h1]
    · cases h
  · cases h

end Go.Proofs.Ytabjlmlfmafllaa.Av
