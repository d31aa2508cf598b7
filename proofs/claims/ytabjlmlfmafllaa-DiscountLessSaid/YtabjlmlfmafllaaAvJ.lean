/- append and copy. -/
import Derived.Test.YtabjlmlfmafllaaAvI
set_option linter.unusedVariables false
set_option linter.unusedSimpArgs false
namespace Go.Proofs.Ytabjlmlfmafllaa.Av
open Go.RowKit

variable {P : Program} {μ μ' : Nat → Option Loc} {ro ro' : Nat → Prop} {w w' : World}

theorem W.sat_and {α : Type} {m : W α} {Q R : α → Prop} (h : m.sat Q) (k : m.sat R) : m.sat fun a => Q a ∧ R a := fun a ps e ho => ⟨h a ps e ho, k a ps e ho⟩

theorem growBy_le (need : Nat) : ∀ (r c : Nat), c ≤ 2 * need + 192 → Builtin.growBy need r c ≤ 2 * need + 192
  | 0, c, h => h
  | r + 1, c, h => by
    unfold Builtin.growBy
    split
    · exact h
    · exact growBy_le need r _ (by omega)
theorem next_le {need cap : Nat} (h : cap < need) : Builtin.nextslicecap need cap ≤ 2 * need + 192 := by
  unfold Builtin.nextslicecap
  split
  · omega
  · split
    · omega
    · exact growBy_le need 4 cap (by omega)

def isSeq : TypeDesc → Bool
  | .string | .slice _ => true
  | _ => false
theorem isSeq_cases {d : TypeDesc} (h : isSeq d = true) : d = .string ∨ ∃ e, d = .slice e := by
  cases d <;> simp [isSeq] at h ⊢

theorem zeroCells_size (z : Array Value) (n : Nat) : (Builtin.zeroCells z n).size = n * z.size := by simp [Builtin.zeroCells]

theorem append_grows {ts : Array TypeId} {ty t t2 e : TypeId} {d2 : TypeDesc} {i : TypeInfo} {z : Value} {base : Option Addr} {sLen sCap n : Nat} {x : Value} {old new : Array Value}
    (h0 : ts[0]? = some t) (h1 : ts[1]? = some t2) (hu : P.underlying t = some (.slice e)) (hu2 : P.underlying t2 = some d2) (hd2 : isSeq d2 = true) (hi : P.info? e = some i) (hz : i.zero = some z)
    (hn : ∀ w, (Builtin.lenOf x).run P w = .ok n w) (hneed : ¬ sLen + n ≤ sCap) (hsm : sLen + n ≤ 4294967296) (hby : i.bytes ≤ 4096)
    (ho : (Builtin.firstCells i.size sLen (.slice base sLen sCap)).run P w.drew = .ok old w.drew) (hnw : (Builtin.firstCells i.size n x).run P w.drew = .ok new w.drew) :
    ∃ (cap : Nat) (rest : Array Value), sLen + n ≤ cap ∧ rest.size = (cap - (sLen + n)) * z.cells.size ∧
      (Builtin.append_ ts ty #[.slice base sLen sCap, x]).run P w = .ok (.slice (some ⟨w.heap.size, 0, none⟩) (sLen + n) cap) (w.drew.alloc (.cells (old ++ new ++ rest) e)) := by
  refine ⟨(Question.appendCap (sLen + n) sCap e).cut (w.tape w.drawn (.appendCap (sLen + n) sCap e)), Builtin.zeroCells z.cells _, ?_, zeroCells_size _ _, ?_⟩
  · simp [Question.cut]
  · have hb : ¬ Builtin.nextslicecap (sLen + n) sCap * i.bytes > 2 ^ 48 := by
      have h2 := next_le (need := sLen + n) (cap := sCap) (by omega)
      have h3 : Builtin.nextslicecap (sLen + n) sCap * i.bytes ≤ (2 * 4294967296 + 192) * 4096 := Nat.mul_le_mul (by omega) hby
      omega
    have hov : ¬ (((sLen + n : Nat) : Int) > IntKind.i64.max ∧ (False ∨ i.bytes = 0)) := by
      rintro ⟨h2, _⟩
      simp [IntKind.max, IntKind.signed, IntKind.bits] at h2
      omega
    have hch : (choose (.appendCap (sLen + n) sCap e)).run P w = .ok ((Question.appendCap (sLen + n) sCap e).cut (w.tape w.drawn (.appendCap (sLen + n) sCap e))) w.drew := by
      rw [run_choose]; rfl
    rcases isSeq_cases hd2 with rfl | ⟨e2, rfl⟩ <;>
    simp only [Builtin.append_, h0, h1, List.getElem?_toArray, List.getElem?_cons_zero, List.getElem?_cons_succ, Sem.run_bind, r_underlying hu, Result.andThen_ok, r_sizeOf hi, r_underlying hu2, Sem.run_pure, Bool.false_eq_true, if_false, hn,
      if_neg hneed, if_neg hov, r_typeInfo hi, if_neg hb, hch, run_askRoom, ho, Bool.not_false, if_true, hnw, r_zero hi hz, newRow, run_newObj]
    all_goals rfl

theorem append_fits {ts : Array TypeId} {ty t t2 e : TypeId} {d2 : TypeDesc} {i : TypeInfo} {a : Addr} {sLen sCap n : Nat} {x : Value} {new : Array Value}
    (h0 : ts[0]? = some t) (h1 : ts[1]? = some t2) (hu : P.underlying t = some (.slice e)) (hu2 : P.underlying t2 = some d2) (hd2 : isSeq d2 = true) (hi : P.info? e = some i)
    (hn : ∀ w, (Builtin.lenOf x).run P w = .ok n w) (hneed : sLen + n ≤ sCap)
    (hnw : (Builtin.firstCells i.size n x).run P w = .ok new w) (hst : (storeCells (a.add (sLen * i.size)) new.toList).run P w = .ok () w') :
    (Builtin.append_ ts ty #[.slice (some a) sLen sCap, x]).run P w = .ok (.slice (some a) (sLen + n) sCap) w' := by
  rcases isSeq_cases hd2 with rfl | ⟨e2, rfl⟩ <;>
  simp only [Builtin.append_, h0, h1, List.getElem?_toArray, List.getElem?_cons_zero, List.getElem?_cons_succ, Sem.run_bind, r_underlying hu, Result.andThen_ok, r_sizeOf hi, r_underlying hu2, Sem.run_pure, Bool.false_eq_true, if_false, hn,
    if_pos hneed, Bool.not_false, if_true, hnw, hst]
theorem append_nil {ts : Array TypeId} {ty t t2 e : TypeId} {d2 : TypeDesc} {i : TypeInfo} {x : Value} {new : Array Value}
    (h0 : ts[0]? = some t) (h1 : ts[1]? = some t2) (hu : P.underlying t = some (.slice e)) (hu2 : P.underlying t2 = some d2) (hd2 : isSeq d2 = true) (hi : P.info? e = some i)
    (hn : ∀ w, (Builtin.lenOf x).run P w = .ok 0 w) (hnw : (Builtin.firstCells i.size 0 x).run P w = .ok new w) :
    (Builtin.append_ ts ty #[.slice none 0 0, x]).run P w = .ok (.slice none 0 0) w := by
  rcases isSeq_cases hd2 with rfl | ⟨e2, rfl⟩ <;>
  simp only [Builtin.append_, h0, h1, List.getElem?_toArray, List.getElem?_cons_zero, List.getElem?_cons_succ, Sem.run_bind, r_underlying hu, Result.andThen_ok, r_sizeOf hi, r_underlying hu2, Sem.run_pure, Bool.false_eq_true, if_false, hn,
    Nat.add_zero, Nat.le_refl, if_true, Bool.not_false, hnw]


/-- the kind of an append: 0 nothing, 1 within the known room, 2 beyond an exact capacity, 3 beyond what is known -/
def kindOf (k : Option Nat) (n len cap : Nat) (ex : Bool) : Nat :=
  match k with
  | some k => k
  | none => bif Nat.beq n 0 then 0 else bif Nat.ble (len + n) cap then 1 else bif ex then 2 else 3

def aGrow (sy : Bool) (h : Hp) (e : TypeId) (c : List AV) (pl : Bool) (n z : Nat) : W (AV × Hp) :=
  (W.req sy (n ≤ 4294967296)).bind fun _ => W.pure (.sl h.nx 0 n n false z, h.new (.blk ⟨c, e, true, 0, pl, false, none⟩))

def aAppend1 (hn : Hint) (kd : Option Nat) (e : TypeId) (z : Nat) (s : AV) (x : Els) (h : Hp) : W (AV × Hp) :=
  match s with
  | .nils =>
    match kindOf kd x.n 0 0 true with
    | 0 => (W.req hn.sy (x.n = 0)).bind fun _ => W.pure (.nils, h)
    | _ => (W.req hn.sy (0 < x.n)).bind fun _ => aGrow hn.sy h e x.c x.pl x.n z
  | .sl id off len cap ex z' =>
    (W.req false (z' = z)).bind fun _ =>
    match kindOf kd x.n len cap ex with
    | 0 => (W.req hn.sy (x.n = 0)).bind fun _ => (W.req hn.sy (len ≤ cap)).bind fun _ => W.pure (s, h)
    | 1 => (W.req hn.sy (len + x.n ≤ cap)).bind fun _ => (aWrite hn.sy hn.sy h id (ad off (mu len z)) x.c x.pl).bind fun h' => W.pure (.sl id off (len + x.n) cap ex z, h')
    | 2 => (W.req false (ex = true)).bind fun _ => (W.req hn.sy (cap < len + x.n)).bind fun _ => (aElems hn none h s z).bind fun y => aGrow hn.sy h e (y.c ++ x.c) (y.pl && x.pl) (len + x.n) z
    | _ =>
      match h.m.get id with
      | some (.blk k) =>
        (W.req false (ex = false ∧ off = 0 ∧ k.e = e)).bind fun _ => (W.req hn.sy (0 < x.n)).bind fun _ => (W.req hn.sy (k.c.length = mu len z)).bind fun _ =>
        (match k.fz with | 0 => W.pure () | f + 1 => W.req hn.sy (f + 1 ≤ mu len z)).bind fun _ =>
        (W.req hn.sy (x.c.all AV.one = true)).bind fun _ => (W.req hn.sy (len + x.n ≤ 4294967296)).bind fun _ =>
        W.pure (.sl h.nx 0 (len + x.n) (len + x.n) false z, (h.del id).new (.blk { k with c := k.c ++ x.c, ext := true, pl := k.pl && x.pl }))
      | _ => W.fail
  | .vec id len z' =>
    (W.req false (z' = z)).bind fun _ =>
    match h.m.get id with
    | some (.blk k) =>
      (W.req false (k.e = e ∧ k.fz = 0)).bind fun _ => (W.req hn.sy (k.c.length = mu len z)).bind fun _ =>
      (W.req hn.sy (x.c.all AV.one = true)).bind fun _ => (W.req hn.sy (len + x.n ≤ 4294967296)).bind fun _ =>
      W.pure (.vec h.nx (len + x.n) z, (h.del id).new (.blk { k with c := k.c ++ x.c, ext := true, pl := k.pl && x.pl, o := true }))
    | _ => W.fail
  | _ => W.fail

def Hint.kd : Hint → Option Nat
  | .ap k => some k
  | _ => none
def aAppend (P : Program) (hn : Hint) (ts : Array TypeId) (s x : AV) (h : Hp) : W (AV × Hp) :=
  match ts[0]?, ts[1]? with
  | some t, some t2 =>
    match P.underlying t, P.underlying t2 with
    | some (.slice e), some d2 =>
      match P.info? e with
      | some i =>
        match i.zero with
        | some zv =>
          match isSeq d2 && (Nat.ble i.bytes 4096 && (!Nat.beq i.size 0 && Nat.beq zv.cells.size i.size)) with
          | true => (aElems hn none h x i.size).bind fun y => aAppend1 hn hn.kd e i.size s y h
          | false => W.fail
        | none => W.fail
      | none => W.fail
    | _, _ => W.fail
  | _, _ => W.fail

theorem Reps.app_pl {c d : List AV} {vs xs : List Value} {p q : Bool} (h : Reps μ ro w (!p) c vs) (k : Reps μ ro w (!q) d xs) : Reps μ ro w (!(p && q)) (c ++ d) (vs ++ xs) := by
  cases p <;> cases q
  · exact h.app k
  · exact h.app (Reps.up (o := true) k)
  · exact (Reps.up (o := true) h).app k
  · exact h.app k
theorem getD_app {α : Type} (a b : Array α) (i : Nat) (d : α) (h : i < a.size) : (a ++ b).getD i d = a.getD i d := by
  have h2 : i < (a ++ b).size := by simp; omega
  simp only [Array.getD, dif_pos h, dif_pos h2]
  exact Array.getElem_append_left h

/-- a new array, at a world that has been drawn -/
theorem Good.grown {s : Sem Value} {h : Hp} {cs rest : Array Value} {e : TypeId} {c : List AV} {pl : Bool} {n z cap : Nat} (hh : HpRel μ ro h w)
    (hr : s.run P w = .ok (.slice (some ⟨w.heap.size, 0, none⟩) n cap) (w.drew.alloc (.cells (cs ++ rest) e))) (hc : Reps μ ro w (!pl) c cs.toList) (hcap : n ≤ cap) (hsz : cap * z ≤ (cs ++ rest).size) :
    Good P s μ ro w h.nx (.sl h.nx 0 n n false z) (h.new (.blk ⟨c, e, true, 0, pl, false, none⟩)) := by
  have hd := hh.drew
  obtain ⟨h1, h2⟩ := new_core (cs := cs ++ rest) (e := e) (k := ⟨c, e, true, 0, pl, false, none⟩) hd rfl (by have := hc.1; simp at this ⊢; omega) (fun h => by cases h)
    (fun i hi => by
      have := hc.2 i hi
      have hi2 : i < cs.size := by have := hc.1; simp at this; simp at hi; omega
      rw [arr_getD_toList cs] at this
      rw [getD_app _ _ _ _ hi2]
      exact this.mono (fun _ _ h => h) (fun _ h => h) (fun _ _ => rfl))
  exact ⟨_, _, _, hr, upd_agree _ _, .sl (upd_self _ _) hcap (fun h => by cases h) (by simpa using hsz), h1, (Fr.drew μ ro w).trans h2 (fun _ h => h)⟩

end Go.Proofs.Ytabjlmlfmafllaa.Av
