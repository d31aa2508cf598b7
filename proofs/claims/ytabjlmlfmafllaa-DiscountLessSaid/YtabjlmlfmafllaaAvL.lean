/- Conversions, lengths, interface values, ranges over strings. -/
import Derived.Test.YtabjlmlfmafllaaAvK
import Derived.Laws.BytesString
set_option linter.unusedVariables false
set_option linter.unusedSimpArgs false
namespace Go.Proofs.Ytabjlmlfmafllaa.Av
open Go.RowKit

variable {P : Program} {μ μ' : Nat → Option Loc} {ro ro' : Nat → Prop} {w w' : World}

def toBs : List AV → Option (List UInt8)
  | [] => some []
  | .int .u8 n :: l => (toBs l).map (UInt8.ofNat n.toNat :: ·)
  | _ => none
theorem toBs_u8s (bs : List UInt8) : toBs (u8s bs) = some bs := by
  induction bs with
  | nil => rfl
  | cons b bs ih =>
    show (toBs (u8s bs)).map (UInt8.ofNat ((b.toNat : Int)).toNat :: ·) = _
    rw [ih]
    simp

/-- the bytes of cells -/
def aBytes (hn : Hint) (c : List AV) : W (List UInt8) :=
  match hn with
  | .by bs => (W.owe (c = u8s bs)).bind fun _ => W.pure bs
  | _ => W.of (toBs c)
theorem aBytes_sat {hn : Hint} {c : List AV} : (aBytes hn c).sat fun bs => toBs c = some bs := by
  unfold aBytes
  split
  · exact W.sat_bind W.sat_owe fun _ h => W.sat_pure (by rw [h, toBs_u8s])
  · exact W.sat_of fun _ h => h

theorem toBs_ints {o : Bool} : ∀ (c : List AV) (bs : List UInt8) (xs : List Value), toBs c = some bs → Reps μ ro w o c xs →
    ∃ ns : List Int, xs = ns.map (Value.int .u8) ∧ bs = ns.map fun n => UInt8.ofNat n.toNat
  | [], bs, xs, h, hr => by
    have : xs = [] := List.length_eq_zero_iff.1 (by simpa using hr.1)
    subst this
    simp only [toBs, Option.some.injEq] at h
    subst h
    exact ⟨[], rfl, rfl⟩
  | v :: c, bs, xs, h, hr => by
    obtain ⟨x, xs', rfl, h1, h2⟩ := hr.head
    unfold toBs at h
    split at h
    · rename_i h'; cases h'
    · rename_i n l h'
      simp only [List.cons.injEq] at h'
      obtain ⟨rfl, rfl⟩ := h'
      simp only [Option.map_eq_some_iff] at h
      obtain ⟨bs', hb, rfl⟩ := h
      cases h1
      obtain ⟨ns, rfl, rfl⟩ := toBs_ints _ bs' xs' hb h2
      exact ⟨n :: ns, rfl, rfl⟩
    · cases h
theorem fold_push : ∀ (ns : List Int) (s : ByteArray), ns.foldl (fun r n => r.push (UInt8.ofNat n.toNat)) s = ⟨s.data ++ (ns.map fun n => UInt8.ofNat n.toNat).toArray⟩
  | [], s => by simp
  | n :: ns, s => by
    rw [List.foldl_cons, fold_push ns]
    simp [ByteArray.push]

def AV.isSl : AV → Bool
  | .sl .. | .lst .. | .nils | .vec .. => true
  | _ => false
def aConv (P : Program) (hn : Hint) (src dst : TypeId) (x : AV) (h : Hp) : W (AV × Hp) :=
  match P.underlying src, P.underlying dst, x with
  | some _, some (.int k), .int _ n => (aInt hn k n).bind fun v => W.pure (v, h)
  | some .string, some .string, .str s => W.pure (.str s, h)
  | some (.slice e), some .string, x =>
    match P.underlying e, x.isSl with
    | some (.int .u8), true => (aElems hn none h x 1).bind fun y => (aBytes hn y.c).bind fun bs => W.pure (.str bs, h)
    | _, _ => W.fail
  | some .string, some (.slice e), .str s =>
    match P.underlying e with
    | some (.int .u8) => W.pure (.sl h.nx 0 s.length s.length false 1, h.new (.blk ⟨u8s s, e, true, 0, true, false, none⟩))
    | _ => W.fail
  | _, _, _ => W.fail

theorem str2bytes {e : TypeId} {s : List UInt8} {b : ByteArray} {h : Hp} (hb : b.data.toList = s) (hh : HpRel μ ro h w) :
    Good P (Conv.stringToBytes e b) μ ro w h.nx (.sl h.nx 0 s.length s.length false 1) (h.new (.blk ⟨u8s s, e, true, 0, true, false, none⟩)) := by
  have hlen : s.length = b.size := by rw [← hb, bytes_len]
  let cap := (Question.appendCap b.size 0 e).cut (w.tape w.drawn (.appendCap b.size 0 e))
  have hcap : b.size ≤ cap := by simp [cap, Question.cut]
  let elems : Array Value := b.data.map fun b => .int .u8 b.toNat
  let cs := elems ++ Array.replicate (cap - b.size) (.int .u8 0)
  have hes : elems.size = b.size := Array.size_map ..
  have hcs : cs.size = cap := by simp [cs, hes]; omega
  have hd := hh.drew
  have hreps := u8s_reps (μ := μ) (ro := ro) (w := w.drew) hb false
  obtain ⟨h1, h2⟩ := new_core (cs := cs) (e := e) (k := ⟨u8s s, e, true, 0, true, false, none⟩) hd rfl (by simp [u8s, hlen, hcs]; exact hcap) (fun h => by cases h) (fun i hi => by
    have := hreps.2 i hi
    rw [arr_getD_toList elems] at this
    have hi2 : i < elems.size := by rw [hes, ← hlen]; simpa [u8s] using hi
    rwa [getD_app _ _ _ _ hi2])
  -- the mark behind the cells
  have hsize : (w.drew.alloc (.cells cs e)).heap[w.heap.size]? = some (.cells cs e) := heap_new w.drew _
  have hfz : ((w.drew.alloc (.cells cs e)).freeze ⟨w.heap.size, cap, none⟩ 1).heap[w.heap.size]? = some (.cells cs e (cap, cap + 1)) := by
    simp only [World.freeze, if_neg (show ¬ (1 : Nat) = 0 by omega), Array.getElem?_modify, if_true, hsize, Option.map_some]
    rfl
  have hoth : ∀ j, j ≠ w.heap.size → ((w.drew.alloc (.cells cs e)).freeze ⟨w.heap.size, cap, none⟩ 1).heap[j]? = (w.drew.alloc (.cells cs e)).heap[j]? := fun j hj => by
    simp only [World.freeze, if_neg (show ¬ (1 : Nat) = 0 by omega), Array.getElem?_modify, if_neg (Ne.symm hj)]
  have hsz : ((w.drew.alloc (.cells cs e)).freeze ⟨w.heap.size, cap, none⟩ 1).heap.size = (w.drew.alloc (.cells cs e)).heap.size := by
    simp [World.freeze]
  have hrun : (Conv.stringToBytes e b).run P w = .ok (.slice (some ⟨w.heap.size, 0, none⟩) b.size cap) ((w.drew.alloc (.cells cs e)).freeze ⟨w.heap.size, cap, none⟩ 1) := by
    have hch : (choose (.appendCap b.size 0 e)).run P w = .ok cap w.drew := by rw [run_choose]; rfl
    have hshape : (w.drew.alloc (.cells cs e)).shape? w.heap.size = some (e, cap) := by
      simp only [World.shape?, hsize, hcs]
    have e1 : (newRow e cs).run P w.drew = .ok ⟨w.heap.size, 0, none⟩ (w.drew.alloc (.cells cs e)) := by simp [newRow, Result.andThen]; rfl
    have e2 : (markStringish ⟨w.heap.size, 0, none⟩).run P (w.drew.alloc (.cells cs e)) = .ok () ((w.drew.alloc (.cells cs e)).freeze ⟨w.heap.size, cap, none⟩ 1) := by
      simp [markStringish, hshape, Result.andThen]
    simp only [Conv.stringToBytes, Sem.run_bind, hch, Result.andThen_ok]
    have e1' : (newRow e ((Array.map (fun b => Value.int IntKind.u8 (b.toNat : Int)) b.data) ++ Array.replicate (cap - b.size) (.int .u8 0))).run P w.drew = .ok ⟨w.heap.size, 0, none⟩ (w.drew.alloc (.cells cs e)) := e1
    rw [e1']
    simp only [Result.andThen_ok, e2, Sem.run_pure]
  have hro : ∀ j, ro j → ((w.drew.alloc (.cells cs e)).freeze ⟨w.heap.size, cap, none⟩ 1).heap[j]? = (w.drew.alloc (.cells cs e)).heap[j]? := fun j hj => hoth j (Nat.ne_of_lt (hh.old j hj))
  rw [← hlen] at hrun
  refine ⟨.slice (some ⟨w.heap.size, 0, none⟩) s.length cap, _, upd μ h.nx (w.heap.size, cs.size), hrun, upd_agree _ _, .sl (upd_self _ _) (Nat.le_trans (Nat.le_of_eq hlen) hcap) (fun h => by cases h) (by simp [hcs]), ?_, ?_⟩
  · refine ⟨fun i k hk => ?_, h1.inj, h1.own, fun i b hb => by rw [hsz]; exact h1.lt i b hb, fun b hb => by rw [hsz]; exact h1.old b hb, h1.nx⟩
    refine (h1.obs i k hk).imp_left fun ⟨l, hl, hob⟩ => ⟨l, hl, ?_⟩
    by_cases e3 : l.1 = w.heap.size
    · have ei : i = h.nx := h1.inj i h.nx k (.blk ⟨u8s s, e, true, 0, true, false, none⟩) l _ hk (by simp [Hp.new, Tr.get_put]) hl (upd_self _ _) e3
      subst ei
      simp only [Hp.new, Tr.get_put, if_true, Option.some.injEq] at hk
      subst hk
      rw [upd_self] at hl
      simp only [Option.some.injEq] at hl
      subst hl
      obtain ⟨cs', fr, g1, g0, g2, g3, g4, g5⟩ := hob.get
      have g1' := hsize.symm.trans g1
      simp only [Option.some.injEq, Obj.cells.injEq] at g1'
      replace g1 := g1'
      obtain ⟨rfl, _, _⟩ := g1
      exact ⟨⟨cs, _, hfz, g0, g2, g3, fun i h1 h2 => .inr (by omega), fun i hi => (g5 i hi).mono (fun _ _ h => h) (fun _ h => h) hro⟩⟩
    · exact hob.mono (fun _ _ h => h) (fun _ h => h) hro (hoth _ e3)
  · exact ((Fr.drew μ ro w).trans h2 (fun _ h => h)).trans (ro' := ro) (Fr.write (b := (w.heap.size, cs.size)) (upd_self _ _) rfl rfl rfl hsz (fun hr => Nat.lt_irrefl _ (hh.old _ hr)) hoth) (fun _ h => h)

theorem aConv_sat {hn : Hint} {src dst : TypeId} {x : AV} {a : Value} {h : Hp} (hx : Rep μ ro w true x a) (hh : HpRel μ ro h w) :
    (aConv P hn src dst x h).sat fun r => Good P (convert src dst a) μ ro w h.nx r.1 r.2 := by
  unfold aConv
  split
  · rename_i d k k' n hu hu2
    cases hx
    refine W.sat_bind aInt_sat fun v hv => W.sat_pure ?_
    subst hv
    refine Good.of_pure (v' := .int k (k.wrap n)) ?_ .int hh
    simp only [convert, Sem.run_bind, r_underlying hu, r_underlying hu2, Result.andThen_ok]
    cases d <;> rfl
  · rename_i s hu hu2
    have hx' := hx
    cases hx
    refine W.sat_pure (Good.of_pure ?_ hx' hh)
    simp only [convert, Sem.run_bind, r_underlying hu, r_underlying hu2, Result.andThen_ok]
    rfl
  · rename_i e hu hu2
    split
    · rename_i hue hsl
      refine W.sat_bind (aElems_sat (P := P) hx hh) fun y ⟨xs, h1, h2, h3, h4⟩ => W.sat_bind aBytes_sat fun bs hbs => W.sat_pure ?_
      refine Good.of_pure (v' := .string ⟨bs.toArray⟩) ?_ (.str (by simp)) hh
      obtain ⟨ns, hxs, rfl⟩ := toBs_ints _ _ _ hbs h3
      have fin : ∀ (ad : Option Addr) (len cap : Nat), a = .slice ad len cap → (convert src dst a).run P w = .ok (.string ⟨(ns.map fun n => UInt8.ofNat n.toNat).toArray⟩) w := by
        intro ad len cap ha
        subst ha
        rw [run_convert_bytes_string w src dst e ad len cap hu hue hu2]
        have hl := h1 w
        simp only [Builtin.lenOf, Sem.run_pure, Result.ok.injEq, and_true] at hl
        cases ad with
        | none =>
          simp only [Builtin.firstCells, Sem.run_pure, Result.ok.injEq, and_true] at h2
          subst h2
          have : ns = [] := by simpa using hxs
          subst this
          rfl
        | some ad =>
          have h5 : (loadCells ad len).run P w = .ok (ns.map (Value.int .u8)).toArray w := by
            have e1 : (Builtin.firstCells 1 y.n (.slice (some ad) len cap)) = loadCells ad len := by rw [← hl]; simp [Builtin.firstCells]
            rw [e1] at h2
            rw [h2, ← hxs]
          rw [run_bytesToString w ad len cap ns h5, fold_push]
          simp
      cases hx <;> simp only [AV.isSl, Bool.false_eq_true] at hsl
      all_goals exact fin _ _ _ rfl
    · exact W.sat_fail
  · rename_i e s hu hu2
    split
    · rename_i hue
      cases hx with
      | str hs =>
        rename_i b
        obtain ⟨v', w', μ', h1, h2⟩ := str2bytes (P := P) (e := e) hs hh
        refine W.sat_pure ⟨v', w', μ', ?_, h2⟩
        simp only [convert, Sem.run_bind, r_underlying hu, r_underlying hu2, Result.andThen_ok, r_underlying hue]
        exact h1
    · exact W.sat_fail
  · exact W.sat_fail

/-! ### lengths -/
def aLen (P : Program) (ts : Array TypeId) (x : AV) : Option AV :=
  match ts[0]? with
  | some t =>
    match P.underlying t, x with
    | some .string, .str s => some (.int .i64 (s.length : Int))
    | some (.array n _), _ => some (.int .i64 (n : Int))
    | some (.slice _), .sl _ _ len _ _ _ => some (.int .i64 (len : Int))
    | some (.slice _), .vec _ n _ => some (.int .i64 (n : Int))
    | some (.slice _), .lst _ n => some (.int .i64 (n : Int))
    | some (.slice _), .nils => some (.int .i64 0)
    | some (.slice _), .nen => some (.int .i64 0)
    | _, _ => none
  | none => none
theorem aLen_run {ts : Array TypeId} {ty : TypeId} {x v : AV} {a : Value} (h : aLen P ts x = some v) (hx : Rep μ ro w true x a) :
    ∃ v', (∀ w, (Builtin.len_ ts ty #[a]).run P w = .ok v' w) ∧ Rep μ ro w true v v' := by
  unfold aLen at h
  split at h
  · rename_i t h0
    split at h <;> simp only [Option.some.injEq, reduceCtorEq] at h <;> subst h <;> rename_i hu
    · cases hx with
      | str hs =>
        rename_i b
        refine ⟨_, fun w => ?_, .int⟩
        simp only [Builtin.len_, h0, List.getElem?_toArray, List.getElem?_cons_zero, Sem.run_bind, r_underlying hu, Result.andThen_ok, ← hs, bytes_len]
        rfl
    · refine ⟨_, fun w => ?_, .int⟩
      simp only [Builtin.len_, h0, List.getElem?_toArray, List.getElem?_cons_zero, Sem.run_bind, r_underlying hu, Result.andThen_ok]
      rfl
    all_goals
      cases hx <;>
      (refine ⟨_, fun w => ?_, .int⟩
       simp only [Builtin.len_, h0, List.getElem?_toArray, List.getElem?_cons_zero, Sem.run_bind, r_underlying hu, Result.andThen_ok]
       rfl)
  · cases h

def aCap (P : Program) (ts : Array TypeId) (x : AV) : Option AV :=
  match ts[0]? with
  | some t =>
    match P.underlying t, x with
    | some (.slice _), .sl _ _ _ cap true _ => some (.int .i64 (cap : Int))
    | some (.slice _), .nils => some (.int .i64 0)
    | _, _ => none
  | none => none
theorem aCap_run {ts : Array TypeId} {ty : TypeId} {x v : AV} {a : Value} (h : aCap P ts x = some v) (hx : Rep μ ro w true x a) :
    ∃ v', (∀ w, (Builtin.cap_ ts ty #[a]).run P w = .ok v' w) ∧ Rep μ ro w true v v' := by
  unfold aCap at h
  split at h
  · rename_i t h0
    split at h <;> simp only [Option.some.injEq, reduceCtorEq] at h <;> subst h <;> rename_i hu
    · cases hx with
      | sl hb h1 h2 h3 =>
        refine ⟨_, fun w => ?_, .int⟩
        simp only [Builtin.cap_, h0, List.getElem?_toArray, List.getElem?_cons_zero, Sem.run_bind, r_underlying hu, Result.andThen_ok, h2 rfl]
        rfl
    · cases hx
      refine ⟨_, fun w => ?_, .int⟩
      simp only [Builtin.cap_, h0, List.getElem?_toArray, List.getElem?_cons_zero, Sem.run_bind, r_underlying hu, Result.andThen_ok]
      rfl
  · cases h

/-- the least, the greatest of two integers -/
def aMin (hn : Hint) (x y : AV) : W AV :=
  match x, y with
  | .int k a, .int _ b => aRaw hn k (if b < a then b else a)
  | _, _ => W.fail
def aMax (hn : Hint) (x y : AV) : W AV :=
  match x, y with
  | .int k a, .int _ b => aRaw hn k (if b > a then b else a)
  | _, _ => W.fail
theorem aMin_sat {hn : Hint} {ts : Array TypeId} {ty : TypeId} {x y : AV} {a b : Value} {o o' : Bool} (hx : Rep μ ro w o x a) (hy : Rep μ ro w o' y b) : (aMin hn x y).sat fun v => Plain P (Builtin.min_ ts ty #[a, b]) v := by
  unfold aMin
  split
  · cases hx; cases hy
    exact W.sat_mono aRaw_sat fun v hv => ⟨_, fun w => by simp [Builtin.min_, Builtin.min2]; rfl, fun _ _ _ _ => by subst hv; exact .int⟩
  · exact W.sat_fail
theorem aMax_sat {hn : Hint} {ts : Array TypeId} {ty : TypeId} {x y : AV} {a b : Value} {o o' : Bool} (hx : Rep μ ro w o x a) (hy : Rep μ ro w o' y b) : (aMax hn x y).sat fun v => Plain P (Builtin.max_ ts ty #[a, b]) v := by
  unfold aMax
  split
  · cases hx; cases hy
    exact W.sat_mono aRaw_sat fun v hv => ⟨_, fun w => by simp [Builtin.max_, Builtin.max2]; rfl, fun _ _ _ _ => by subst hv; exact .int⟩
  · exact W.sat_fail

/-! ### interface values, functions, nil checks -/
def aIface (P : Program) (t : TypeId) (x : AV) : Option AV :=
  match P.underlying t with
  | some (.interface _) => none
  | some _ => some (.ifc t x)
  | none => none
theorem aIface_run {t : TypeId} {x v : AV} {a : Value} {o : Bool} (h : aIface P t x = some v) (hx : Rep μ ro w o x a) : ∃ v', (∀ w, (Instr.makeInterface t a).run P w = .ok v' w) ∧ Rep μ ro w o v v' := by
  unfold aIface at h
  split at h
  · cases h
  · rename_i d hne hu
    simp only [Option.some.injEq] at h
    subst h
    refine ⟨.iface t a, fun w => ?_, .ifc hx⟩
    simp only [Instr.makeInterface, Sem.run_bind, r_underlying hu, Result.andThen_ok]
    rfl
  · cases h

/-! ### ranges over strings -/
def aRange (P : Program) (t : TypeId) (x : AV) (h : Hp) : Option (AV × Hp) :=
  match P.underlying t, x with
  | some .string, .str s => some (.ptr h.nx 0, h.new (.iter s 0))
  | _, _ => none
theorem aRange_good {t : TypeId} {x : AV} {a : Value} {h : Hp} {r : AV × Hp} (ha : aRange P t x h = some r) (hx : Rep μ ro w true x a) (hh : HpRel μ ro h w) : Good P (Instr.range t a) μ ro w h.nx r.1 r.2 := by
  unfold aRange at ha
  split at ha
  · rename_i s hu
    simp only [Option.some.injEq] at ha
    subst ha
    cases hx with
    | str hs =>
      rename_i b
      refine ⟨.pointer (some ⟨w.heap.size, 0, none⟩), w.alloc (.stringIter b 0), upd μ h.nx (w.heap.size, 0), ?_, upd_agree _ _, .ptr (upd_self _ _), hh.new _ _ _ ⟨b, heap_new w _, hs⟩, Fr.alloc hh _ _⟩
      simp only [Instr.range, Sem.run_bind, r_underlying hu, Result.andThen_ok, Sem.run_pure, run_newObj]
      rfl
  · cases ha

/-- a rune: as told, or as it is -/
def aRune (hn : Hint) (s : List UInt8) (pos : Nat) : W (Nat × Nat) :=
  match hn with
  | .m c wd => (W.owe (Utf8.decode ⟨s.toArray⟩ pos = (c, wd))).bind fun _ => W.pure (c, wd)
  | _ => W.pure (Utf8.decode ⟨s.toArray⟩ pos)
theorem aRune_sat {hn : Hint} {s : List UInt8} {pos : Nat} : (aRune hn s pos).sat fun r => r = Utf8.decode ⟨s.toArray⟩ pos := by
  unfold aRune
  split
  · exact W.sat_bind W.sat_owe fun _ h => W.sat_pure h.symm
  · exact W.sat_pure rfl
def goesOn (hn : Hint) (s : List UInt8) (pos : Nat) : Bool :=
  match hn with
  | .b β => β
  | .m _ _ => true
  | _ => Nat.blt pos s.length
def aNext (hn : Hint) (isStr : Bool) (x : AV) (h : Hp) : W (AV × Hp) :=
  match x, isStr with
  | .ptr id 0, true =>
    match h.m.get id with
    | some (.iter s pos) =>
      match goesOn hn s pos with
      | true => (W.req hn.sy (pos < s.length)).bind fun _ => (aRune hn s pos).bind fun r => W.pure (.tup [.bool true, .int .i64 (pos : Int), .int .i32 (r.1 : Int)], h.set id (.iter s (pos + r.2)))
      | false => (W.req hn.sy (¬ pos < s.length)).bind fun _ => W.pure (.tup [.bool false], h)
    | _ => W.fail
  | _, _ => W.fail
theorem aNext_sat {hn : Hint} {isStr : Bool} {x : AV} {a : Value} {ty : TypeId} {h : Hp} (hx : Rep μ ro w true x a) (hh : HpRel μ ro h w) : (aNext hn isStr x h).sat fun r => Good P (Instr.next a isStr ty) μ ro w h.nx r.1 r.2 := by
  unfold aNext
  split
  · rename_i id
    split
    · rename_i s pos hk
      cases hx with
      | ptr hb =>
        rename_i b
        have hob := hh.obsM id _ _ hk hb
        obtain ⟨t, h1, h2⟩ := hob
        have hlen : s.length = t.size := by rw [← h2, bytes_len]
        have ht : (⟨s.toArray⟩ : ByteArray) = t := by rw [← h2]
        have hget : ∀ w : World, w.heap[b.1]? = some (.stringIter t pos) → (getObj b.1).run P w = .ok (.stringIter t pos) w := fun w h => by simp [getObj, Sem.run, h]
        split
        · refine W.sat_bind W.sat_req fun _ hlt => W.sat_bind aRune_sat fun r hr => W.sat_pure ?_
          subst hr
          rw [ht]
          rw [hlen] at hlt
          let w1 : World := { w with heap := w.heap.setIfInBounds b.1 (.stringIter t (pos + (Utf8.decode t pos).2)) }
          have hw1 : ∀ j, j ≠ b.1 → w1.heap[j]? = w.heap[j]? := fun j hj => by
            simp only [w1]
            rw [Array.getElem?_setIfInBounds_ne (Ne.symm hj)]
          have hw2 : w1.heap[b.1]? = some (.stringIter t (pos + (Utf8.decode t pos).2)) := by
            have hlt := hh.lt id b hb
            simp only [w1]
            rw [Array.getElem?_setIfInBounds_self_of_lt hlt]
          have hsz : w1.heap.size = w.heap.size := by simp [w1]
          have hset : (setObj b.1 (.stringIter t (pos + (Utf8.decode t pos).2))).run P w = .ok () w1 := by simp [setObj, Sem.run, h1, w1]
          have hro : ∀ j, ro j → w1.heap[j]? = w.heap[j]? := fun j hj => hw1 j (fun e => hh.own id _ b hk hb (e ▸ hj))
          refine ⟨.tuple #[.bool true, goInt pos, .int .i32 (Utf8.decode t pos).1], w1, μ, ?_, .refl _ _, ?_, ?_, Fr.write hb rfl rfl rfl hsz (hh.own id _ b hk hb) hw1⟩
          · simp only [Instr.next, Sem.run_bind, hget w h1, Result.andThen_ok, if_pos hlt, hset, Sem.run_pure]
          · exact (Reps.cons .bool (Reps.cons .int (Reps.cons .int Reps.nil))).tup
          · exact hh.set hk hb (Nat.le_of_eq hsz.symm) (fun j hj _ => hw1 j hj) ⟨t, hw2, h2⟩
        · refine W.sat_bind W.sat_req fun _ hlt => W.sat_pure ?_
          rw [hlen] at hlt
          refine Good.of_pure (v' := .tuple #[.bool false]) ?_ (Reps.cons .bool Reps.nil).tup hh
          simp only [Instr.next, Sem.run_bind, hget w h1, Result.andThen_ok, if_neg hlt, Sem.run_pure]
    · exact W.sat_fail
  · exact W.sat_fail
end Go.Proofs.Ytabjlmlfmafllaa.Av
