import Derived.Test.YtpadimnchmghpaaGreatDoorAvP2
open Prod (fst)
open Int (tdiv tmod)
set_option linter.unusedVariables false
set_option linter.unusedSimpArgs false
namespace Go.Proofs.YtpadimnchmghpaaGreatDoor.Av
open Go.RowKit
variable {P : Program} {G : Nat → AV} {μ μ' : Nat → Option Loc} {ro ro' : Nat → Prop} {w w' : World}
def plGet (s : St) : Pl → Option AV
 | .t k => s.tm.get k
 | .c id off => match s.hp.m.get id with | some (.blk k) => (match k.pl with | true => none | false => k.c[off]?) | _ => none
def plSet (s : St) (v : AV) : Pl → St
 | .t k => { s with tm := s.tm.put k (some v) }
 | .c id off => match s.hp.m.get id with | some (.blk k) => { s with hp := s.hp.set id (.blk { k with c := k.c.set off v }) } | _ => s
theorem plSet_rel {s : St} {a : Act} {p : Pl} {v v' : AV} (h : StRel G μ ro w s a) (hg : plGet s p = some v) (hv : ∀ x, Rep μ ro w true v x → Rep μ ro w true v' x) : StRel G μ ro w (plSet s v' p) a := by
 cases p with
 | t k =>
  refine ⟨fun t u ht => ?_, h.nt, h.hp, h.gl, h.df⟩
  simp only [plSet, Tr.get_put] at ht
  split at ht
  ·rename_i e
   simp only [sJ] at ht
   subst ht; subst e
   exact hv _ (h.tm _ _ hg)
  ·exact h.tm t u ht
 | c id off =>
  simp only [plGet] at hg
  simp only [plSet]
  split at hg
  ·rename_i k hk
   split at hg
   ·cases hg
   ·rename_i hpl
    refine ⟨h.tm, h.nt, ?_, h.gl, h.df⟩
    have hoff := (List.getElem?_eq_some_iff.1 hg).1
    refine h.hp.weak rfl fun i k' hi => ?_
    simp only [Hp.set, Tr.get_put] at hi
    by_cases e : i = id
    ·subst e
     simp only [if_true, sJ] at hi
     subst hi
     refine ⟨_, hk, fun b hb hr => ?_, fun ha => ?_⟩
     ·obtain ⟨cs, fr, g1, g0, g2, g3, g4, g5⟩ := BlkRel.get hr
      refine ⟨⟨cs, fr, g1, g0, by simpa using g2, fun he => by simpa using g3 he, g4, fun j hj => ?_⟩⟩
      simp only [List.length_set] at hj
      have := g5 j hj
      simp only [hpl, Bool.not_false] at this ⊢
      by_cases e : off = j
      ·subst e
       have e2 : (k.c.set off v').getD off .any = v' := by simp [List.getD, hoff]
       rw [e2]
       refine hv _ ?_
       have e3 : k.c.getD off .any = v := by simp [List.getD, hg]
       rwa [e3] at this
      ·have e2 : (k.c.set off v').getD j .any = k.c.getD j .any := by simp [List.getD, List.getElem?_set_ne e]
       rw [e2]; exact this
     ·rw [ha.2] at hg; simp at hg
    ·rw [if_neg e] at hi
     exact ⟨_, hi, fun _ _ h => h, fun h => h⟩
  ·cases hg
theorem StRel.sub_del {s : St} {a : Act} (h : StRel G μ ro w s a) (id : Nat) (k : Ob) (hk : s.hp.m.get id = some k) :
  StRel G μ (fun b => ro b ∨ ∃ l, μ id = some l ∧ l.1 = b) w { s with hp := s.hp.del id } a := by
 have up : ∀ b, ro b → ro b ∨ ∃ l, μ id = some l ∧ l.1 = b := fun _ h => .inl h
 have hget : ∀ {i k'}, (s.hp.del id).m.get i = some k' → i ≠ id ∧ s.hp.m.get i = some k' := fun {i k'} hi => by
  simp only [Hp.del, Tr.get_put] at hi
  split at hi
  ·cases hi
  ·rename_i e; exact ⟨e, hi⟩
 refine ⟨fun t v ht => (h.tm t v ht).mono (fun _ _ h => h) up (fun _ _ => rfl), h.nt, ?_, h.gl.mono (fun _ _ h => h) up (fun _ _ => rfl), h.df.mono (fun _ _ h => h) up (fun _ _ => rfl)⟩
 refine ⟨fun i k' hi => ?_, fun i j k1 k2 b c hi hj => h.hp.inj i j k1 k2 b c (hget hi).2 (hget hj).2, fun i k' b hi hb hr => ?_, h.hp.lt, fun b hb => ?_, h.hp.nx⟩
 ·exact (h.hp.obs i k' (hget hi).2).imp_left fun ⟨b, h1, h2⟩ => ⟨b, h1, h2.mono (fun _ _ h => h) up (fun _ _ => rfl) rfl⟩
 ·rcases hr with hr | ⟨l, hl, e⟩
  ·exact h.hp.own i k' b (hget hi).2 hb hr
  ·exact (hget hi).1 (h.hp.inj i id k' k b l (hget hi).2 hk hb hl e.symm)
 ·rcases hb with hb | ⟨l, hl, e⟩
  ·exact h.hp.old b hb
  ·exact e ▸ h.hp.lt id l hl
def blkWid (s : St) (id : Nat) (k : Blk) : St := { s with hp := s.hp.set id (.blk { k with ext := true, o := true }) }
theorem blkWid_rel {s : St} {a : Act} {id : Nat} {k : Blk} (h : StRel G μ ro w s a) (hk : s.hp.m.get id = some (.blk k)) : StRel G μ ro w (blkWid s id k) a := by
 refine ⟨h.tm, h.nt, h.hp.weak rfl fun i k' hi => ?_, h.gl, h.df⟩
 simp only [blkWid, Hp.set, Tr.get_put] at hi
 by_cases e : i = id
 ·subst e
  simp only [if_true, sJ] at hi
  subst hi
  refine ⟨_, hk, fun b hb hr => ?_, fun ha => ⟨rfl, ha.2⟩⟩
  obtain ⟨cs, fr, g1, g0, g2, g3, g4, g5⟩ := BlkRel.get hr
  exact ⟨⟨cs, fr, g1, g0, g2, (fun he => by cases he), g4, g5⟩⟩
 ·rw [if_neg e] at hi
  exact ⟨_, hi, fun _ _ h => h, fun h => h⟩
def blkPln (s : St) (id : Nat) (k : Blk) : St := { s with hp := s.hp.set id (.blk { k with pl := true }) }
theorem blkPln_rel {s : St} {a : Act} {id : Nat} {k : Blk} (h : StRel G μ ro w s a) (hk : s.hp.m.get id = some (.blk k)) (hp : k.c.all AV.pl = true) : StRel G μ ro w (blkPln s id k) a := by
 refine ⟨h.tm, h.nt, h.hp.weak rfl fun i k' hi => ?_, h.gl, h.df⟩
 simp only [blkPln, Hp.set, Tr.get_put] at hi
 by_cases e : i = id
 ·subst e
  simp only [if_true, sJ] at hi
  subst hi
  refine ⟨_, hk, fun b hb hr => ?_, fun ha => ha⟩
  obtain ⟨cs, fr, g1, g0, g2, g3, g4, g5⟩ := BlkRel.get hr
  exact ⟨⟨cs, fr, g1, g0, g2, g3, g4, fun i hi => (g5 i hi).pl (all_get (q := AV.pl) hp hi)⟩⟩
 ·rw [if_neg e] at hi
  exact ⟨_, hi, fun _ _ h => h, fun h => h⟩
def blkShr (s : St) (id n : Nat) (k : Blk) : St := { s with hp := s.hp.set id (.blk { k with c := k.c.take n }) }
theorem blkShr_rel {s : St} {a : Act} {id n : Nat} {k : Blk} (h : StRel G μ ro w s a) (hk : s.hp.m.get id = some (.blk k)) (hx : k.ext = true) : StRel G μ ro w (blkShr s id n k) a := by
 refine ⟨h.tm, h.nt, h.hp.weak rfl fun i k' hi => ?_, h.gl, h.df⟩
 simp only [blkShr, Hp.set, Tr.get_put] at hi
 by_cases e : i = id
 ·subst e
  simp only [if_true, sJ] at hi
  subst hi
  refine ⟨_, hk, fun b hb hr => ?_, fun ha => ⟨ha.1, by simp [ha.2]⟩⟩
  obtain ⟨cs, fr, g1, g0, g2, g3, g4, g5⟩ := BlkRel.get hr
  refine ⟨⟨cs, fr, g1, g0, by simp only [List.length_take]; omega, (fun he => by simp only [hx] at he; cases he), g4, fun i hi => ?_⟩⟩
  simp only [List.length_take] at hi
  have e2 : (k.c.take n).getD i .any = k.c.getD i .any := by simp [List.getD, List.getElem?_take, show i < n by omega]
  simp only [e2]
  exact g5 i (by omega)
 ·rw [if_neg e] at hi
  exact ⟨_, hi, fun _ _ h => h, fun h => h⟩
def blkUnp (s : St) (id : Nat) (k : Blk) : St := { s with hp := s.hp.set id (.blk { k with pl := false }) }
theorem blkUnp_rel {s : St} {a : Act} {id : Nat} {k : Blk} (h : StRel G μ ro w s a) (hk : s.hp.m.get id = some (.blk k)) : StRel G μ ro w (blkUnp s id k) a := by
 refine ⟨h.tm, h.nt, h.hp.weak rfl fun i k' hi => ?_, h.gl, h.df⟩
 simp only [blkUnp, Hp.set, Tr.get_put] at hi
 by_cases e : i = id
 ·subst e
  simp only [if_true, sJ] at hi
  subst hi
  refine ⟨_, hk, fun b hb hr => ?_, fun ha => ha⟩
  obtain ⟨cs, fr, g1, g0, g2, g3, g4, g5⟩ := BlkRel.get hr
  exact ⟨⟨cs, fr, g1, g0, g2, g3, g4, fun i hi => (g5 i hi).any_or⟩⟩
 ·rw [if_neg e] at hi
  exact ⟨_, hi, fun _ _ h => h, fun h => h⟩
def frzL (id : Nat) (k : Blk) (c : List AV) (n' : Nat) : List Pl → St → W St
 | [], s => W.pure s
 | p :: ps, s =>
  match plGet s p with
  | some (.sl id' off len cap _ z) => (W.owe (id' = id ∧ sub k.c off (mu len z) = c ∧ n' = len ∧ off + mu len z ≤ k.c.length ∧ len ≤ cap)).bind fun _ => frzL id k c n' ps (plSet s (.lst c n') p)
  | some (.vec id' n z) => (W.owe (id' = id ∧ k.c = c ∧ n' = n ∧ k.c.length = mu n z)).bind fun _ => frzL id k c n' ps (plSet s (.lst c n') p)
  | _ => W.fail
def aTf (s : St) : Tf → W St
 | .vec p z e =>
  match plGet s p with
  | some .nils => W.pure { plSet s (.vec s.hp.nx 0 z) p with hp := (plSet s (.vec s.hp.nx 0 z) p).hp.new (.blk ⟨[], e, true, 0, true, true, none⟩) }
  | _ => W.fail
 | .wid p =>
  match plGet s p with
  | some (.sl id 0 len cap _ z) =>
   match s.hp.m.get id with
   | some (.blk k) =>
    match plGet (blkWid s id k) p with
    | some (.sl id' 0 len' cap' _ z') => (W.owe (len' ≤ cap')).bind fun _ => W.pure (plSet (blkWid s id k) (.vec id' len' z') p)
    | _ => W.fail
   | _ => W.fail
  | _ => W.fail
 | .nar p =>
  match plGet s p with
  | some (.vec id n z) => (W.owe (0 < n)).bind fun _ => W.pure (plSet s (.sl id 0 n n false z) p)
  | _ => W.fail
 | .frz ps c n' =>
  match (match ps with | p :: _ => plGet s p | [] => none) with
  | some (.sl id _ _ _ _ _) | some (.vec id _ _) =>
   match s.hp.m.get id with
   | some (.blk k) => match k.pl with | true => frzL id k c n' ps { s with hp := s.hp.del id } | false => W.fail
   | _ => W.fail
  | _ => W.fail
 | .pln id =>
  match s.hp.m.get id with
  | some (.blk k) => (W.owe (k.c.all AV.pl = true)).bind fun _ => W.pure (blkPln s id k)
  | _ => W.fail
 | .eqt p v =>
  match plGet s p with
  | some v' => (W.owe (v' = v)).bind fun _ => W.pure (plSet s v p)
  | _ => W.fail
 | .eqc id c =>
  match s.hp.m.get id with
  | some (.blk k) => (W.owe (k.c = c)).bind fun _ => W.pure { s with hp := s.hp.set id (.blk { k with c := c }) }
  | _ => W.fail
 | .nl p =>
  match plGet s p with
  | some .nils => W.pure (plSet s (.lst [] 0) p)
  | _ => W.fail
 | .fgt p =>
  match plGet s p with
  | some _ => W.pure (plSet s .any p)
  | _ => W.fail
 | .shr id n =>
  match s.hp.m.get id with
  | some (.blk k) => match k.ext with | true => W.pure (blkShr s id n k) | false => W.fail
  | _ => W.fail
 | .unp id =>
  match s.hp.m.get id with
  | some (.blk k) => W.pure (blkUnp s id k)
  | _ => W.fail
 | .mp id es' =>
  match s.hp.m.get id with
  | some (.map kd es) => (W.owe (es.Perm es')).bind fun _ => W.pure { s with hp := s.hp.set id (.map kd es') }
  | some (.rm _ kd es _ _) => (W.owe (es.Perm es')).bind fun _ => W.pure { s with hp := s.hp.set id (.map kd es') }
  | _ => W.fail
theorem Ents.perm {kd : KK} {es es' : List (AV × AV)} (hp : es.Perm es') : ∀ {p : List MapEntry}, Ents kd μ ro w es p → ∃ p', p.Perm p' ∧ Ents kd μ ro w es' p' := by
 induction hp with
 | nil => exact fun h => ⟨_, .refl _, h⟩
 | cons x _ ih =>
  intro p h
  cases h with
  | cons hk hv he =>
   obtain ⟨p', h1, h2⟩ := ih he
   exact ⟨_, h1.cons _, .cons hk hv h2⟩
 | swap x y l =>
  intro p h
  cases h with
  | cons hk hv he =>
   cases he with
   | cons hk2 hv2 he2 => exact ⟨_, .swap _ _ _, .cons hk2 hv2 (.cons hk hv he2)⟩
 | trans _ _ ih1 ih2 =>
  intro p h
  obtain ⟨p1, h1, h2⟩ := ih1 h
  obtain ⟨p2, h3, h4⟩ := ih2 h2
  exact ⟨p2, h1.trans h3, h4⟩
theorem Ents.permR {kd : KK} {p p' : List MapEntry} (hp : p.Perm p') : ∀ {es : List (AV × AV)}, Ents kd μ ro w es p → ∃ es', es.Perm es' ∧ Ents kd μ ro w es' p' := by
 induction hp with
 | nil => exact fun h => ⟨_, .refl _, h⟩
 | cons x _ ih =>
  intro es h
  cases h with
  | cons hk hv he =>
   obtain ⟨es', h1, h2⟩ := ih he
   exact ⟨_, h1.cons _, .cons hk hv h2⟩
 | swap x y l =>
  intro es h
  cases h with
  | cons hk hv he =>
   cases he with
   | cons hk2 hv2 he2 => exact ⟨_, .swap _ _ _, .cons hk2 hv2 (.cons hk hv he2)⟩
 | trans _ _ ih1 ih2 =>
  intro es h
  obtain ⟨p1, h1, h2⟩ := ih1 h
  obtain ⟨p2, h3, h4⟩ := ih2 h2
  exact ⟨p2, h1.trans h3, h4⟩
theorem MapRel.perm {b : Loc} {kd : KK} {es es' : List (AV × AV)} (h : MapRel μ ro w b kd es) (hp : es.Perm es') : MapRel μ ro w b kd es' := by
 obtain ⟨ms, cl, p, h1, h2, h3, h4, h5, h6⟩ := h
 obtain ⟨p', q1, q2⟩ := h3.perm hp
 exact ⟨ms, cl, p', h1, q1.symm.trans h2, q2, h4, h5, (hp.map _).nodup_iff.1 h6⟩
theorem RmRel.hide {b : Loc} {m cl : Nat} {kd : KK} {es : List (AV × AV)} {ms : List MapEntry} (h : RmRel μ ro w b m kd es ms cl) : MapRel μ ro w b kd es := by
 obtain ⟨h0, h1, h2, h3, h4, h5⟩ := h
 exact ⟨ms.toArray, cl, ms, h1, .refl _, h2, h3, h4, h5⟩
theorem MapRel.show {b : Loc} {kd : KK} {es : List (AV × AV)} (h : MapRel μ ro w b kd es) : ∃ m es' ms cl, es.Perm es' ∧ RmRel μ ro w b m kd es' ms cl := by
 obtain ⟨ms, cl, p, h1, h2, h3, h4, h5, h6⟩ := h
 obtain ⟨es', q1, q2⟩ := h3.permR h2
 exact ⟨b.1, es', ms.toList, cl, q1, rfl, h1, q2, h4, h5, (q1.map _).nodup_iff.1 h6⟩
theorem Sub.of_rel {n : Nat} {s s' : St} (h : ∀ (G : Nat → AV) μ ro w a, StRel G μ ro w s a → StRel G μ ro w s' a) : Sub n s s' := fun G μ ro w a hs =>
 ⟨μ, ro, .refl _ _, fun i l h => ⟨i, l, h, rfl⟩, fun _ h => h, fun _ h => .inl h, h G μ ro w a hs⟩
theorem frz_lst {s : St} {a : Act} {id : Nat} {k : Blk} {c : List AV} {v : AV} {x : Value} {n' : Nat} (h : StRel G μ ro w s a) (hk : s.hp.m.get id = some (.blk k)) (hpl : k.pl = true)
  (hv : (∃ off len cap ex z, v = .sl id off len cap ex z ∧ sub k.c off (mu len z) = c ∧ n' = len ∧ off + mu len z ≤ k.c.length ∧ len ≤ cap) ∨ (∃ n z, v = .vec id n z ∧ k.c = c ∧ n' = n ∧ k.c.length = mu n z))
  (hx : Rep μ (fun b => ro b ∨ ∃ l, μ id = some l ∧ l.1 = b) w true v x) : Rep μ (fun b => ro b ∨ ∃ l, μ id = some l ∧ l.1 = b) w true (.lst c n') x := by
 rcases hv with ⟨off, len, cap, ex, z, rfl, h1, h2, h3, h4⟩ | ⟨n, z, rfl, h1, h2, h3⟩
 ·cases hx with
  | sl hb hc1 hc2 hc3 =>
   rename_i cap' l
   have hob := h.hp.obsM id _ _ hk hb
   obtain ⟨cs, fr, g1, g0, g2, g3, g4, g5⟩ := BlkRel.get hob
   subst h2
   rw [hpl] at g5
   rw [mu_eq] at h1 h3
   subst h1
   refine .lst (fun i => cs.getD (off + i) undef) (fun _ => ⟨.inr ⟨l, hb, rfl⟩, rfl⟩) (fun i hi => ?_) (fun i hi => ?_) (Nat.le_trans h4 hc1)
   ·have := (sub_getD hi).2.1
    exact cell_of (off := off + i) g1 (by omega)
   ·obtain ⟨e1, e2, _⟩ := sub_getD hi
    rw [e1]
    exact (g5 _ e2).mono (fun _ _ h => h) (fun _ h => .inl h) (fun _ _ => rfl)
 ·subst h1; subst h2
  rw [mu_eq] at h3
  cases hx with
  | vecn =>
   have hc0 : k.c = [] := List.length_eq_zero_iff.1 (by simpa using h3)
   rw [hc0]
   exact .lstn
  | vec hb hc1 hc3 =>
   rename_i cap' l
   have hob := h.hp.obsM id _ _ hk hb
   obtain ⟨cs, fr, g1, g0, g2, g3, g4, g5⟩ := BlkRel.get hob
   rw [hpl] at g5
   refine .lst (fun i => cs.getD i undef) (fun _ => ⟨.inr ⟨l, hb, rfl⟩, rfl⟩) (fun i hi => ?_) (fun i hi => ?_) hc1
   ·rw [Nat.zero_add]; exact cell_of g1 (by omega)
   ·exact (g5 i hi).mono (fun _ _ h => h) (fun _ h => .inl h) (fun _ _ => rfl)
theorem frzL_sat {s : St} {id : Nat} {k : Blk} {c : List AV} {n' : Nat} (hk : s.hp.m.get id = some (.blk k)) (hpl : k.pl = true) : ∀ (ps : List Pl) (s1 : St), (frzL id k c n' ps s1).sat fun s' =>
  ∀ (G : Nat → AV) μ ro w a, StRel G μ ro w s a → StRel G μ (fun b => ro b ∨ ∃ l, μ id = some l ∧ l.1 = b) w s1 a → StRel G μ (fun b => ro b ∨ ∃ l, μ id = some l ∧ l.1 = b) w s' a
 | [], s1 => W.sat_pure fun G μ ro w a _ h => h
 | p :: ps, s1 => by
  unfold frzL
  split
  ·rename_i id' off len cap ex z hg
   refine W.sat_bind W.sat_owe fun _ ⟨h0, h1, h2, h3, h4⟩ => ?_
   subst h0
   exact W.sat_mono (frzL_sat hk hpl ps _) fun s' hs' G μ ro w a hs h => hs' G μ ro w a hs (plSet_rel h hg fun x hx => frz_lst hs hk hpl (.inl ⟨_, _, _, _, _, rfl, h1, h2, h3, h4⟩) hx)
  ·rename_i id' n z hg
   refine W.sat_bind W.sat_owe fun _ ⟨h0, h1, h2, h3⟩ => ?_
   subst h0
   exact W.sat_mono (frzL_sat hk hpl ps _) fun s' hs' G μ ro w a hs h => hs' G μ ro w a hs (plSet_rel h hg fun x hx => frz_lst hs hk hpl (.inr ⟨_, _, rfl, h1, h2, h3⟩) hx)
  ·exact W.sat_fail
theorem aTf_sat {n : Nat} {s : St} {f : Tf} : (aTf s f).sat fun s' => Sub n s s' := by
 cases f with
 | vec p z e =>
  simp only [aTf]
  split
  ·rename_i hg
   refine W.sat_pure (Sub.of_rel fun G μ ro w a hs => ?_)
   have h1 : StRel G μ ro w (plSet s (.vec s.hp.nx 0 z) p) a := plSet_rel hs hg fun x hx => by cases hx; exact .vecn
   exact ⟨h1.tm, h1.nt, h1.hp.newAbs _ ⟨rfl, rfl⟩, h1.gl, h1.df⟩
  ·exact W.sat_fail
 | wid p =>
  simp only [aTf]
  split
  ·split
   ·rename_i k hk
    split
    ·rename_i id' len' cap' ex' z' hg
     refine W.sat_bind W.sat_owe fun _ hle => W.sat_pure (Sub.of_rel fun G μ ro w a hs => ?_)
     refine plSet_rel (blkWid_rel hs hk) hg fun x hx => ?_
     cases hx with
     | sl hb h1 h2 h3 => exact .vec hb (Nat.le_trans hle h1) (by omega)
    ·exact W.sat_fail
   ·exact W.sat_fail
  ·exact W.sat_fail
 | nar p =>
  simp only [aTf]
  split
  ·rename_i id n z hg
   refine W.sat_bind W.sat_owe fun _ hlt => W.sat_pure (Sub.of_rel fun G μ ro w a hs => ?_)
   refine plSet_rel hs hg fun x hx => ?_
   cases hx with
   | vecn => omega
   | vec hb h1 h3 => exact .sl hb h1 (fun h => by cases h) (by omega)
  ·exact W.sat_fail
 | frz ps c n' =>
  have both : ∀ id, (match s.hp.m.get id with
    | some (.blk k) => match k.pl with | true => frzL id k c n' ps { s with hp := s.hp.del id } | false => W.fail
    | _ => W.fail : W St).sat fun s' => Sub n s s' := fun id => by
   split
   ·rename_i k hk
    split
    ·rename_i hpl
     refine W.sat_mono (frzL_sat hk hpl ps _) fun s' hs' G μ ro w a hs => ?_
     exact ⟨μ, fun b => ro b ∨ ∃ l, μ id = some l ∧ l.1 = b, .refl _ _, fun i l h => ⟨i, l, h, rfl⟩, fun _ h => .inl h, fun b hb => hb.imp_right fun ⟨l, h1, h2⟩ => ⟨id, l, h1, h2⟩, hs' G μ ro w a hs (hs.sub_del id _ hk)⟩
    ·exact W.sat_fail
   ·exact W.sat_fail
  simp only [aTf]
  split
  ·exact both _
  ·exact both _
  ·exact W.sat_fail
 | pln id =>
  simp only [aTf]
  split
  ·rename_i k hk
   exact W.sat_bind W.sat_owe fun _ hp => W.sat_pure (Sub.of_rel fun G μ ro w a hs => blkPln_rel hs hk hp)
  ·exact W.sat_fail
 | eqt p v =>
  simp only [aTf]
  split
  ·rename_i v' hg
   exact W.sat_bind W.sat_owe fun _ he => W.sat_pure (Sub.of_rel fun G μ ro w a hs => plSet_rel hs hg fun x hx => he ▸ hx)
  ·exact W.sat_fail
 | eqc id c =>
  simp only [aTf]
  split
  ·rename_i k hk
   refine W.sat_bind W.sat_owe fun _ he => W.sat_pure (Sub.of_rel fun G μ ro w a hs => ⟨hs.tm, hs.nt, hs.hp.weak rfl fun i k' hi => ?_, hs.gl, hs.df⟩)
   simp only [Hp.set, Tr.get_put] at hi
   subst he
   by_cases e : i = id
   ·subst e
    simp only [if_true, sJ] at hi
    subst hi
    exact ⟨_, hk, fun _ _ h => h, fun h => h⟩
   ·rw [if_neg e] at hi
    exact ⟨_, hi, fun _ _ h => h, fun h => h⟩
  ·exact W.sat_fail
 | nl p =>
  simp only [aTf]
  split
  ·rename_i hg
   exact W.sat_pure (Sub.of_rel fun G μ ro w a hs => plSet_rel hs hg fun x hx => by cases hx; exact .lstn)
  ·exact W.sat_fail
 | fgt p =>
  simp only [aTf]
  split
  ·rename_i hg
   exact W.sat_pure (Sub.of_rel fun G μ ro w a hs => plSet_rel hs hg fun x hx => .any)
  ·exact W.sat_fail
 | shr id k =>
  simp only [aTf]
  split
  ·rename_i b hb
   split
   ·rename_i hx
    exact W.sat_pure (Sub.of_rel fun G μ ro w a hs => blkShr_rel hs hb hx)
   ·exact W.sat_fail
  ·exact W.sat_fail
 | unp id =>
  simp only [aTf]
  split
  ·rename_i b hb
   exact W.sat_pure (Sub.of_rel fun G μ ro w a hs => blkUnp_rel hs hb)
  ·exact W.sat_fail
 | mp id es' =>
  simp only [aTf]
  split
  ·rename_i kd es hb
   refine W.sat_bind W.sat_owe fun _ hp => W.sat_pure (Sub.of_rel fun G μ ro w a hs => ?_)
   refine ⟨hs.tm, hs.nt, hs.hp.weak rfl fun i k' hi => ?_, hs.gl, hs.df⟩
   simp only [Hp.set, Tr.get_put] at hi
   by_cases e : i = id
   ·subst e
    simp only [if_true, sJ] at hi
    subst hi
    exact ⟨_, hb, fun b _ hr => MapRel.perm hr hp, fun ha => ha.elim⟩
   ·rw [if_neg e] at hi
    exact ⟨_, hi, fun _ _ h => h, fun h => h⟩
  ·rename_i m kd es ms cl hb
   refine W.sat_bind W.sat_owe fun _ hp => W.sat_pure (Sub.of_rel fun G μ ro w a hs => ?_)
   refine ⟨hs.tm, hs.nt, hs.hp.weak rfl fun i k' hi => ?_, hs.gl, hs.df⟩
   simp only [Hp.set, Tr.get_put] at hi
   by_cases e : i = id
   ·subst e
    simp only [if_true, sJ] at hi
    subst hi
    exact ⟨_, hb, fun b _ hr => (RmRel.hide hr).perm hp, fun ha => ha.elim⟩
   ·rw [if_neg e] at hi
    exact ⟨_, hi, fun _ _ h => h, fun h => h⟩
  ·exact W.sat_fail
/-! ### a cut that leaves the other blocks alone -/
def fN (r : List Nat) (m nx j : Nat) : Nat := match Nat.blt j m with | true => rho r j | false => nx + j
theorem fN_lt {r : List Nat} {m nx j : Nat} (h : j < m) : fN r m nx j = rho r j := by
 unfold fN
 have : Nat.blt j m = true := by rw [Nat.blt_eq]; exact h
 rw [this]
theorem fN_ge {r : List Nat} {m nx j : Nat} (h : m ≤ j) : fN r m nx j = nx + j := by
 unfold fN
 have : Nat.blt j m = false := by
  cases hb : Nat.blt j m with
  | false => rfl
  | true => rw [Nat.blt_eq] at hb; omega
 rw [this]
def mpN (f : Nat → Nat) : Nat → AV → AV
 | 0, v => match v with | .ptr i o => .ptr (f i) o | .sl i o l c e z => .sl (f i) o l c e z | .vec i n z => .vec (f i) n z | .mapr i => .mapr (f i) | v => v
 | d + 1, v => match v with | .ptr i o => .ptr (f i) o | .sl i o l c e z => .sl (f i) o l c e z | .vec i n z => .vec (f i) n z | .mapr i => .mapr (f i) | .agg c => .agg (c.map (mpN f d)) | .tup c => .tup (c.map (mpN f d)) | .fn g a c => .fn g (a.map (mpN f d)) (c.map (mpN f d)) | .ifc t v => .ifc t (mpN f d v) | v => v
def shaN : Nat → AV → Bool
 | 0, v => match v with | .ptr _ _ | .sl .. | .vec .. | .mapr _ => true | v => v.pl1
 | d + 1, v => match v with | .ptr _ _ | .sl .. | .vec .. | .mapr _ => true | .agg c => c.all (shaN d) | .tup c => c.all (shaN d) | .fn _ a c => a.all (shaN d) && c.all (shaN d) | .ifc _ v => shaN d v | v => v.pl1
theorem mpN_rep {f : Nat → Nat} (hμ : ∀ i b, μ i = some b → μ' (f i) = some b) : ∀ (d : Nat) {o : Bool} {v : AV} {x : Value}, shaN d v = true → Rep μ ro w o v x → Rep μ' ro w o (mpN f d v) x
 | 0, o, v, x, hs, h => by
  cases v <;> simp only [shaN] at hs <;> simp only [mpN]
  case ptr i f => cases h with | ptr h => exact .ptr (hμ _ _ h)
  case mapr i => cases h with | mapr h => exact .mapr (hμ _ _ h)
  case sl => cases h with | sl h h1 h2 h3 => exact .sl (hμ _ _ h) h1 h2 h3
  case vec => cases h with
   | vec h h1 h3 => exact .vec (hμ _ _ h) h1 h3
   | vecn => exact .vecn
  all_goals exact pl1_mu h hs
 | d + 1, o, v, x, hs, h => by
  cases v <;> simp only [shaN] at hs <;> simp only [mpN]
  case ptr i f => cases h with | ptr h => exact .ptr (hμ _ _ h)
  case mapr i => cases h with | mapr h => exact .mapr (hμ _ _ h)
  case sl => cases h with | sl h h1 h2 h3 => exact .sl (hμ _ _ h) h1 h2 h3
  case vec => cases h with
   | vec h h1 h3 => exact .vec (hμ _ _ h) h1 h3
   | vecn => exact .vecn
  case agg c =>
   cases h with
   | agg hn hr =>
    refine .agg (by simpa using hn) fun i hi => ?_
    simp only [List.length_map] at hi
    rw [map_get hi]
    exact mpN_rep hμ d (all_get hs hi) (hr i hi)
  case tup c =>
   cases h with
   | tup hn hr =>
    refine .tup (by simpa using hn) fun i hi => ?_
    simp only [List.length_map] at hi
    rw [map_get hi]
    exact mpN_rep hμ d (all_get hs hi) (hr i hi)
  case fn f a c =>
   simp only [Bool.and_eq_true] at hs
   cases h with
   | fn hn hr hm hs' =>
    refine .fn (by simpa using hn) (fun i hi => ?_) (by simpa using hm) fun i hi => ?_
    ·simp only [List.length_map] at hi
     rw [map_get hi]
     exact mpN_rep hμ d (all_get hs.1 hi) (hr i hi)
    ·simp only [List.length_map] at hi
     rw [map_get hi]
     exact mpN_rep hμ d (all_get hs.2 hi) (hs' i hi)
  case ifc t v => cases h with | ifc h => exact .ifc (mpN_rep hμ d hs h)
  all_goals exact pl1_mu h hs
def mpB (f : Nat → Nat) (b : Blk) : Blk := { b with c := match b.pl with | true => b.c | false => b.c.map (mpN f 6) }
def shaB (b : Blk) : Bool := b.pl || b.c.all (shaN 6)
def delL : List Nat → Tr Ob → Tr Ob
 | [], m => m
 | i :: l, m => (delL l m).put i none
theorem delL_get {m : Tr Ob} {j : Nat} {k : Ob} : ∀ {l : List Nat}, (delL l m).get j = some k → j ∉ l ∧ m.get j = some k
 | [], h => ⟨by simp, h⟩
 | i :: l, h => by
  simp only [delL, Tr.get_put] at h
  split at h
  ·cases h
  ·rename_i e
   obtain ⟨h1, h2⟩ := delL_get h
   exact ⟨by simp [e, h1], h2⟩
def putBl (f : Nat → Nat) : List Blk → Nat → Tr Ob → Tr Ob
 | [], _, t => t
 | b :: l, j, t => (putBl f l (j + 1) t).put (f j) (some (mpB f b).ob)
theorem putBl_get {f : Nat → Nat} {t : Tr Ob} {i : Nat} {k : Ob} : ∀ {l : List Blk} {j : Nat}, (putBl f l j t).get i = some k → (∃ q b, l[q]? = some b ∧ i = f (j + q) ∧ k = (mpB f b).ob) ∨ t.get i = some k
 | [], j, h => .inr h
 | b :: l, j, h => by
  simp only [putBl, Tr.get_put] at h
  split at h
  ·rename_i e
   simp only [sJ] at h
   exact .inl ⟨0, b, rfl, e, h.symm⟩
  ·rcases putBl_get h with ⟨q, b', h1, h2, h3⟩ | h1
   ·exact .inl ⟨q + 1, b', by simpa using h1, by rw [h2]; congr 1; omega, h3⟩
   ·exact .inr h1
theorem putTms_map {f : AV → AV} : ∀ {l : List (Nat × AV)} {t : Nat} {v : AV}, (putTms (l.map fun x => (x.1, f x.2)) .e).get t = some v → ∃ v0, (putTms l .e).get t = some v0 ∧ v = f v0 ∧ ∃ x ∈ l, x.2 = v0
 | [], t, v, h => by simp [putTms, Tr.get] at h
 | (q, u) :: l, t, v, h => by
  simp only [List.map_cons, putTms, Tr.get_put] at h ⊢
  split at h
  ·rename_i e
   simp only [sJ] at h
   exact ⟨u, by rw [if_pos e], h.symm, _, List.mem_cons_self .., rfl⟩
  ·rename_i e
   obtain ⟨v0, h1, h2, x, h3, h4⟩ := putTms_map h
   exact ⟨v0, by rw [if_neg e]; exact h1, h2, x, List.mem_cons_of_mem _ h3, h4⟩
def fcutS (s : St) (m : Nat) (tms' : List (Nat × AV)) (blks' : List Blk) (ρ : List Nat) : St :=
 ⟨putTms (tms'.map fun x => (x.1, mpN (fN ρ m s.hp.nx) 4 x.2)) .e, s.nt, ⟨putBl (fN ρ m s.hp.nx) blks' 0 (delL ρ s.hp.m), s.hp.nx + blks'.length⟩, []⟩
theorem Does.frame {n m : Nat} {c : Code} {s : St} {e : AEx} {tms tms' : List (Nat × AV)} {blks blks' : List Blk} (ρ : List Nat) (h : Does P G m c (S s.nt tms blks) e (S s.nt tms' blks')) (hq : ∀ v, e ≠ .panic v)
  (hn : n ≤ s.hp.nx) (hm : m ≤ ρ.length) (hdf : s.df = []) (ht : tmEqs s.tm ρ tms) (hb : blkEqs s.hp.m ρ ρ blks)
  (hc : (nodupB ρ && blks.all (shalB ρ.length) && tms.all fun x => shal ρ.length 4 x.2) = true) (hc' : (blks'.all shaB && tms'.all fun x => shaN 4 x.2) = true) : Does P G n c s e (fcutS s m tms' blks' ρ) := by
 intro μ ro a w hst
 have hst0 : StRel G (muOf ρ μ) ro w (S s.nt tms blks) a := by
  simp only [Bool.and_eq_true] at hc
  refine ⟨fun t v hv => ?_, hst.nt, hst.hp.ren hb hc.1.1 hc.1.2 (fun i hi => if_pos hi) (fun i hi => if_neg (by omega)), hst.gl.any, ?_⟩
  ·obtain ⟨h1, x, h2, rfl⟩ := tmEqs_get ht hv
   have h3 := hc.2
   rw [List.all_eq_true] at h3
   exact ren_rep (fun i hi => if_pos hi) 4 (h3 x h2) (hst.tm t _ h1)
  ·have := hst.df
   rw [hdf] at this
   cases hq : a.defers with
   | nil => trivial
   | cons x y => rw [hq] at this; exact this.elim
 simp only [Bool.and_eq_true] at hc'
 have hmu : ∀ i l, muOf ρ μ i = some l → i < ρ.length ∧ μ (rho ρ i) = some l := fun i l hi => by
  unfold muOf at hi
  split at hi
  ·exact ⟨by assumption, hi⟩
  ·cases hi
 have hin : ∀ i, i < ρ.length → rho ρ i ∈ ρ := fun i hi => by
  unfold rho; rw [List.getD_eq_getElem?_getD, List.getElem?_eq_getElem hi]; exact List.getElem_mem hi
 have hbl := (blkEqs_get hb).1
 have hbg := (blkEqs_get hb).2
 have hent : ∀ i, i < ρ.length → ∃ k, s.hp.m.get (rho ρ i) = some k := fun i hi => ⟨_, hbg i _ (List.getElem?_eq_getElem (hbl ▸ hi))⟩
 have hltnx : ∀ {i k}, s.hp.m.get i = some k → i < s.hp.nx := fun {i k} hi => by
  rcases Nat.lt_or_ge i s.hp.nx with h1 | h1
  ·exact h1
  ·rcases hst.hp.obs i k hi with ⟨b, hb, _⟩ | ⟨_, _, h3⟩
   ·rw [hst.hp.nx i h1] at hb; cases hb
   ·exact h3
 refine wp_mono (h (muOf ρ μ) ro a w hst0) fun e' a1 w1 ⟨μ1, ro1, hup, hex, hs1⟩ => ?_
 have hoth : ∀ {i k b}, (delL ρ s.hp.m).get i = some k → μ i = some b → ∀ j l, muOf ρ μ j = some l → l.1 ≠ b.1 := fun {i k b} hi hbi j l hj e => by
  obtain ⟨h1, h2⟩ := delL_get hi
  obtain ⟨h3, h4⟩ := hmu j l hj
  obtain ⟨k', hk'⟩ := hent j h3
  have := hst.hp.inj _ _ k' k l b hk' h2 h4 hbi e
  exact h1 (this ▸ hin j h3)
 have hsame : ∀ {i k b}, (delL ρ s.hp.m).get i = some k → μ i = some b → w1.heap[b.1]? = w.heap[b.1]? := fun {i k b} hi hbi => hup.fr.rest b.1 (hst.hp.lt i b hbi) (hoth hi hbi)
 let μ2 : Nat → Option Loc := fun i => if i < s.hp.nx then μ i else μ1 (i - s.hp.nx)
 have hμ2 : ∀ i b, μ i = some b → μ2 i = some b := fun i b hi => by
  have : i < s.hp.nx := by
   rcases Nat.lt_or_ge i s.hp.nx with h | h
   ·exact h
   ·rw [hst.hp.nx i h] at hi; cases hi
  simp only [μ2, if_pos this]; exact hi
 have hfN : ∀ q, μ2 (fN ρ m s.hp.nx q) = μ1 q := fun q => by
  rcases Nat.lt_or_ge q m with h1 | h1
  ·rw [fN_lt h1]
   have h2 : q < ρ.length := by omega
   obtain ⟨k, hk⟩ := hent q h2
   simp only [μ2, if_pos (hltnx hk)]
   rw [hup.ag q h1]
   unfold muOf
   rw [if_pos h2]
  ·rw [fN_ge h1]
   simp only [μ2]
   rw [if_neg (by omega), Nat.add_sub_cancel_left]
 have hμ1 : ∀ i b, μ1 i = some b → μ2 (fN ρ m s.hp.nx i) = some b := fun i b hi => (hfN i).trans hi
 have hget1 := fun i => (hpOf_get blks' ⟨.e, 0⟩ i)
 have hnx1 : (S s.nt tms' blks').hp.nx = blks'.length := by
  have := (hget1 0).1
  simp only [Nat.zero_add] at this
  exact this
 have hcase : ∀ i k, (putBl (fN ρ m s.hp.nx) blks' 0 (delL ρ s.hp.m)).get i = some k →
   (i < s.hp.nx ∧ (delL ρ s.hp.m).get i = some k) ∨ (∃ q b, i = fN ρ m s.hp.nx q ∧ q < blks'.length ∧ (S s.nt tms' blks').hp.m.get q = some b.ob ∧ k = (mpB (fN ρ m s.hp.nx) b).ob ∧ b ∈ blks') := fun i k hi => by
  rcases putBl_get hi with ⟨q, b, h1, h2, h3⟩ | h1
  ·rw [Nat.zero_add] at h2
   have hlt := (List.getElem?_eq_some_iff.1 h1).1
   refine .inr ⟨q, b, h2, hlt, ?_, h3, List.mem_of_getElem? h1⟩
   show (hpOf blks' ⟨.e, 0⟩).m.get q = _
   rw [(hget1 q).2, if_pos (by simp only; omega)]
   simp only [Nat.sub_zero, h1, Option.map_some]
  ·exact .inl ⟨hltnx (delL_get h1).2, h1⟩
 have hfr : Fr μ ro w μ2 w1 := ⟨hup.fr.os, hup.fr.tape, hup.fr.output, hup.fr.size, hup.fr.block, fun b hb hno => hup.fr.rest b hb fun i l hi => hno _ l (hmu i l hi).2, fun i l hi => by
  simp only [μ2] at hi
  split at hi
  ·exact .inl ⟨i, l, hi, rfl⟩
  ·rcases hup.fr.new _ l hi with ⟨j, m, hj, hm⟩ | h
   ·exact .inl ⟨_, m, (hmu j m hj).2, hm⟩
   ·exact .inr h⟩
 refine ⟨μ2, ro1, ⟨fun i hi => by simp only [μ2]; rw [if_pos (by omega)], hup.up, fun b hb => (hup.nw b hb).imp_right (Or.imp_right fun ⟨i, l, h1, h2⟩ => ⟨_, l, (hmu i l h1).2, h2⟩), hfr⟩, ?_, ⟨fun t v hv => ?_, hs1.nt, ?_, hs1.gl.any, ?_⟩⟩
 rotate_right
 ·have := hs1.df
  simp only [S] at this
  simp only [fcutS]
  cases hq : a1.defers with
  | nil => trivial
  | cons x y => rw [hq] at this; exact this.elim
 ·cases e with
  | panic v => exact absurd rfl (hq v)
  | _ => cases e' <;> first | exact hex | exact hex.elim
 ·simp only [fcutS] at hv
  obtain ⟨v0, h1, rfl, x, h2, rfl⟩ := putTms_map hv
  have h3 := hc'.2
  rw [List.all_eq_true] at h3
  exact mpN_rep hμ1 4 (h3 x h2) (hs1.tm t _ h1)
 ·simp only [fcutS]
  refine ⟨fun i k hi => ?_, fun i j k l b c hi hj hbi hbj hbc => ?_, fun i k b hi hbi hr => ?_, fun i b hbi => ?_, hs1.hp.old, fun i hi => ?_⟩
  ·rcases hcase i k hi with ⟨h1, h2⟩ | ⟨q, b, rfl, hql, h2, rfl, h3⟩
   ·rcases hst.hp.obs i k (delL_get h2).2 with ⟨b, hb, hob⟩ | ⟨q1, q2, q3⟩
    ·exact .inl ⟨b, hμ2 _ _ hb, hob.mono hμ2 hup.up hup.fr.block (hsame h2 hb)⟩
    ·exact .inr ⟨by simp only [μ2, if_pos h1]; exact q1, q2, by simp only; omega⟩
   ·cases hit : b.it with
    | some sp =>
     have e1 : (mpB (fN ρ m s.hp.nx) b).ob = sp.ob := by simp [Blk.ob, mpB, hit]
     have e2 : b.ob = sp.ob := by simp [Blk.ob, hit]
     rw [e2] at h2
     obtain ⟨l, hl, hob⟩ := hs1.hp.obsT _ _ h2
     rw [e1]
     exact .inl ⟨l, hμ1 _ _ hl, hob.it_mu⟩
    | none =>
    have e1 : (mpB (fN ρ m s.hp.nx) b).ob = .blk (mpB (fN ρ m s.hp.nx) b) := by simp [Blk.ob, mpB, hit]
    have e2 : b.ob = .blk b := by simp [Blk.ob, hit]
    rw [e2] at h2
    rw [e1]
    rcases hs1.hp.obs _ _ h2 with ⟨l, hl, hob⟩ | ⟨q1, q2, q3⟩
    ·refine .inl ⟨l, hμ1 _ _ hl, ?_⟩
     obtain ⟨cs, fr, g1, g0, g2, g3, g4, g5⟩ := BlkRel.get hob
     have h4 := hc'.1
     rw [List.all_eq_true] at h4
     have h5 := h4 b h3
     cases hp : b.pl with
     | true =>
      have hcc : (mpB (fN ρ m s.hp.nx) b).c = b.c := by simp [mpB, hp]
      refine ⟨⟨cs, fr, g1, g0, hcc ▸ g2, fun h => by rw [hcc]; exact g3 h, g4, fun j hj => ?_⟩⟩
      rw [hcc] at hj ⊢
      have := g5 j hj
      simp only [mpB, hp, Bool.not_true] at this ⊢
      exact this.any_mu
     | false =>
      have hcc : (mpB (fN ρ m s.hp.nx) b).c = b.c.map (mpN (fN ρ m s.hp.nx) 6) := by simp [mpB, hp]
      refine ⟨⟨cs, fr, g1, g0, by rw [hcc]; simpa using g2, fun h => by rw [hcc]; simpa using g3 h, g4, fun j hj => ?_⟩⟩
      rw [hcc] at hj ⊢
      simp only [List.length_map] at hj
      rw [map_get hj]
      have := g5 j hj
      simp only [mpB, hp, Bool.not_false] at this ⊢
      simp only [shaB, hp, Bool.false_or] at h5
      exact mpN_rep hμ1 6 (all_get h5 hj) this
    ·refine .inr ⟨(hfN q).trans q1, ⟨q2.1, ?_⟩, ?_⟩
     ·have h6 := q2.2
      simp only [mpB]
      cases b.pl <;> simp [h6]
     ·rcases Nat.lt_or_ge q m with h1 | h1
      ·rw [fN_lt h1]
       obtain ⟨k, hk⟩ := hent q (by omega)
       have := hltnx hk
       simp only; omega
      ·rw [fN_ge h1]; simp only; omega
  ·rcases hcase i k hi with ⟨h1, h2⟩ | ⟨q, kb, rfl, _, h2, rfl, _⟩ <;> rcases hcase j l hj with ⟨h3, h4⟩ | ⟨q', lb, rfl, _, h4, rfl, _⟩
   ·simp only [μ2, if_pos h1] at hbi; simp only [μ2, if_pos h3] at hbj
    exact hst.hp.inj i j k l b c (delL_get h2).2 (delL_get h4).2 hbi hbj hbc
   ·simp only [μ2, if_pos h1] at hbi; rw [hfN] at hbj
    rcases hup.fr.new _ c hbj with ⟨q, m, hq, hm⟩ | h
    ·exact absurd (hm.trans hbc.symm) (hoth h2 hbi q m hq)
    ·have := hst.hp.lt i b hbi; omega
   ·rw [hfN] at hbi; simp only [μ2, if_pos h3] at hbj
    rcases hup.fr.new _ b hbi with ⟨q, m, hq, hm⟩ | h
    ·exact absurd (hm.trans hbc) (hoth h4 hbj q m hq)
    ·have := hst.hp.lt j c hbj; omega
   ·rw [hfN] at hbi hbj
    have := hs1.hp.inj _ _ _ _ b c h2 h4 hbi hbj hbc
    rw [this]
  ·rcases hcase i k hi with ⟨h1, h2⟩ | ⟨q, kb, rfl, _, h2, rfl, _⟩
   ·simp only [μ2, if_pos h1] at hbi
    rcases hup.nw b.1 hr with h | h | ⟨q, m, hq, hm⟩
    ·exact hst.hp.own i k b (delL_get h2).2 hbi h
    ·have := hst.hp.lt i b hbi; omega
    ·exact hoth h2 hbi q m hq hm
   ·rw [hfN] at hbi
    exact hs1.hp.own _ _ b h2 hbi hr
  ·simp only [μ2] at hbi
   split at hbi
   ·exact Nat.lt_of_lt_of_le (hst.hp.lt i b hbi) hup.fr.size
   ·exact hs1.hp.lt _ b hbi
  ·simp only at hi
   simp only [μ2]
   rw [if_neg (by omega)]
   exact hs1.hp.nx _ (by rw [hnx1]; omega)
def AEx.quiet : AEx → Bool
 | .panic _ => false
 | _ => true
def posN (i : Nat) : List Nat → Nat
 | [] => 0
 | x :: l => match Nat.beq x i with | true => 0 | false => posN i l + 1
def un (r : List Nat) : Nat → AV → AV
 | 0, v => match v with | .ptr i o => .ptr (posN i r) o | .sl i o l c e z => .sl (posN i r) o l c e z | .vec i n z => .vec (posN i r) n z | .mapr i => .mapr (posN i r) | v => v
 | k + 1, v => match v with | .ptr i o => .ptr (posN i r) o | .sl i o l c e z => .sl (posN i r) o l c e z | .vec i n z => .vec (posN i r) n z | .mapr i => .mapr (posN i r) | .agg c => .agg (c.map (un r k)) | .tup c => .tup (c.map (un r k)) | .fn f a c => .fn f (a.map (un r k)) (c.map (un r k)) | .ifc t v => .ifc t (un r k v) | v => v
def allI (r : List Nat) : Nat → AV → Bool
 | 0, v => match v with | .ptr i _ => memN i r | .sl i _ _ _ _ _ => memN i r | .vec i _ _ => memN i r | .mapr i => memN i r | _ => true
 | k + 1, v => match v with | .ptr i _ => memN i r | .sl i _ _ _ _ _ => memN i r | .vec i _ _ => memN i r | .mapr i => memN i r | .agg c => c.all (allI r k) | .tup c => c.all (allI r k) | .fn _ a c => a.all (allI r k) && c.all (allI r k) | .ifc _ v => allI r k v | _ => true
theorem rho_posN {i : Nat} : ∀ {r : List Nat}, memN i r = true → rho r (posN i r) = i
 | [], h => by simp [memN] at h
 | x :: l, h => by
  rw [memN_cons] at h
  unfold posN
  cases hb : Nat.beq x i with
  | true => simp only; exact Nat.eq_of_beq_eq_true hb
  | false =>
   have hne : ¬ i = x := fun e => Nat.ne_of_beq_eq_false hb e.symm
   rw [if_neg hne] at h
   simp only
   have := rho_posN h
   exact this
theorem map_idI {f : AV → AV} {p : AV → Bool} (hf : ∀ v, p v = true → f v = v) : ∀ {c : List AV}, c.all p = true → c.map f = c
 | [], _ => rfl
 | v :: c, h => by
  simp only [List.all_cons, Bool.and_eq_true] at h
  rw [List.map_cons, hf v h.1, map_idI hf h.2]
theorem ren_un {r : List Nat} : ∀ (k : Nat) (v : AV), allI r k v = true → ren r k (un r k v) = v
 | 0, v, h => by
  cases v <;> simp only [allI] at h <;> simp only [un, ren] <;> first | rfl | rw [rho_posN h]
 | k + 1, v, h => by
  cases v <;> simp only [allI, Bool.and_eq_true] at h <;> simp only [un, ren, List.map_map] <;> first
   | rfl
   | rw [rho_posN h]
   | rw [map_idI (f := ren r k ∘ un r k) (fun v hv => ren_un k v hv) h]
   | rw [map_idI (f := ren r k ∘ un r k) (fun v hv => ren_un k v hv) h.1, map_idI (f := ren r k ∘ un r k) (fun v hv => ren_un k v hv) h.2]
   | rw [ren_un k _ h]
def fillT (t : Tr AV) (r : List Nat) : List (Nat × AV) → W (List (Nat × AV))
 | [] => W.pure []
 | (k, v) :: l =>
  match t.get k with
  | some v' =>
   match v with
   | .any => match allI r 4 v' with | true => (fillT t r l).bind fun l' => W.pure ((k, un r 4 v') :: l') | false => W.fail
   | v => (W.owe (v' = ren r 4 v)).bind fun _ => (fillT t r l).bind fun l' => W.pure ((k, v) :: l')
  | none => W.fail
theorem fillT_sat {t : Tr AV} {r : List Nat} : ∀ {l : List (Nat × AV)}, (fillT t r l).sat fun l' => tmEqs t r l'
 | [] => W.sat_pure trivial
 | (k, v) :: l => by
  unfold fillT
  split
  ·rename_i v' hv
   split
   ·split
    ·rename_i ha
     refine W.sat_bind fillT_sat fun l' h2 => W.sat_pure ⟨?_, h2⟩
     rw [hv, ren_un 4 v' ha]
    ·exact W.sat_fail
   ·refine W.sat_bind W.sat_owe fun _ h1 => W.sat_bind fillT_sat fun l' h2 => W.sat_pure ⟨?_, h2⟩
    rw [hv, h1]
  ·exact W.sat_fail
def bS : Blk := { c := [], e := 987654321, ext := false, fz := 0, pl := false }
def isS (b : Blk) : Bool := Nat.beq b.e 987654321
def unB (r : List Nat) (b : Blk) : Blk := { b with c := match b.pl with | true => b.c | false => b.c.map (un r 6) }
def fill1B (m : Tr Ob) (r : List Nat) (i : Nat) (b : Blk) : W Blk :=
 match isS b with
 | true =>
  match m.get i with
  | some (.blk k) => match k.it.isNone && (k.pl || k.c.all (allI r 6)) with | true => W.pure (unB r k) | false => W.fail
  | some (.map kd es) => W.pure { c := [], e := 0, ext := false, fz := 0, pl := false, o := false, it := some (.map kd es) }
  | _ => W.fail
 | false => (oweB m r [i] [b]).bind fun _ => W.pure b
theorem fill1B_sat {m : Tr Ob} {r : List Nat} {i : Nat} {b : Blk} : (fill1B m r i b).sat fun b' => m.get i = some (renB r b').ob := by
 unfold fill1B
 split
 ·split
  ·rename_i k hk
   split
   ·rename_i h
    refine W.sat_pure ?_
    simp only [Bool.and_eq_true, Bool.or_eq_true, Option.isNone_iff_eq_none] at h
    have e : renB r (unB r k) = k := by
     unfold renB unB
     cases hp : k.pl with
     | true => obtain ⟨c, e, x, f, p, o, it⟩ := k; simp only at hp; subst hp; rfl
     | false =>
      have h2 : k.c.all (allI r 6) = true := by
       rcases h.2 with h2 | h2
       ·rw [hp] at h2; cases h2
       ·exact h2
      simp only [List.map_map]
      rw [map_idI (f := ren r 6 ∘ un r 6) (fun v hv => ren_un 6 v hv) h2]
      obtain ⟨c, e, x, f, p, o, it⟩ := k
      simp only at hp; subst hp; rfl
    rw [e, hk]
    simp [Blk.ob, h.1]
   ·exact W.sat_fail
  ·rename_i kd es hk
   refine W.sat_pure ?_
   rw [hk]
   rfl
  ·exact W.sat_fail
 ·exact W.sat_bind oweB_sat fun _ h => W.sat_pure h.1
def fillB (m : Tr Ob) (r : List Nat) : List Nat → List Blk → W (List Blk)
 | [], [] => W.pure []
 | i :: l, b :: bs => (fill1B m r i b).bind fun b' => (fillB m r l bs).bind fun bs' => W.pure (b' :: bs')
 | _, _ => W.fail
theorem fillB_sat {m : Tr Ob} {r : List Nat} : ∀ {l : List Nat} {bs : List Blk}, (fillB m r l bs).sat fun bs' => blkEqs m r l bs'
 | [], [] => W.sat_pure trivial
 | i :: l, b :: bs => W.sat_bind fill1B_sat fun b' h1 => W.sat_bind fillB_sat fun bs' h2 => W.sat_pure ⟨h1, h2⟩
 | [], _ :: _ => W.sat_fail
 | _ :: _, [] => W.sat_fail
def aFcut (P : Program) (G : Nat → AV) (n m : Nat) (c : Code) (s : St) (e : AEx) (tms' : List (Nat × AV)) (blks' : List Blk) (ρ : List Nat) (tms : List (Nat × AV)) (blks : List Blk) : W St :=
 match s.df, (blks'.all shaB && tms'.all fun x => shaN 4 x.2) && e.quiet && Nat.ble n s.hp.nx && Nat.ble m ρ.length with
 | [], true => (fillT s.tm ρ tms).bind fun t1 => (fillB s.hp.m ρ ρ blks).bind fun b1 =>
  match okS ρ t1 b1 with
  | true => (W.owe (Does P G m c (S s.nt t1 b1) e (S s.nt tms' blks'))).bind fun _ => W.pure (fcutS s m tms' blks' ρ)
  | false => W.fail
 | _, _ => W.fail
theorem aFcut_sat {n m : Nat} {c : Code} {s : St} {e : AEx} {tms' : List (Nat × AV)} {blks' : List Blk} {ρ : List Nat} {tms : List (Nat × AV)} {blks : List Blk} :
  (aFcut P G n m c s e tms' blks' ρ tms blks).sat fun s' => Does P G n c s e s' := by
 unfold aFcut
 split
 ·rename_i hd hc
  simp only [Bool.and_eq_true] at hc
  refine W.sat_bind fillT_sat fun t1 h1 => W.sat_bind fillB_sat fun b1 h2 => ?_
  split
  ·rename_i hok
   exact W.sat_bind W.sat_owe fun _ h3 => W.sat_pure (h3.frame ρ (fun v hv => by rw [hv] at hc; exact absurd hc.1.1.2 (by simp [AEx.quiet])) (nB hc.1.2) (nB hc.2) hd h1 h2 hok (by simp only [Bool.and_eq_true]; exact hc.1.1.1))
  ·exact W.sat_fail
 ·exact W.sat_fail
def evTrs (s : St) : List CH → W (St × List CH)
 | .tr f :: hs => (aTf s f).bind fun s' => evTrs s' hs
 | hs => W.pure (s, hs)
theorem evTrs_sat {n : Nat} : ∀ (hs : List CH) (s : St), (evTrs s hs).sat fun r => Sub n s r.1
 | [], s => W.sat_pure Sub.refl
 | .tr f :: hs, s => W.sat_bind aTf_sat fun s' h1 => W.sat_mono (evTrs_sat hs s') fun r h2 => h1.trans h2
 | .op _ _ :: hs, s => W.sat_pure Sub.refl
 | .ret _ _ _ _ :: hs, s => W.sat_pure Sub.refl
 | .br _ :: hs, s => W.sat_pure Sub.refl
 | .cut _ _ _ _ _ :: hs, s => W.sat_pure Sub.refl
 | .fcut _ _ _ _ _ _ _ :: hs, s => W.sat_pure Sub.refl
 | .draw _ :: hs, s => W.sat_pure Sub.refl
 | .trp _ :: hs, s => W.sat_pure Sub.refl
 | .spec _ :: hs, s => W.sat_pure Sub.refl
 | .fcuta _ _ _ _ _ _ _ _ :: hs, s => W.sat_pure Sub.refl
def evTps (s : St) : List CH → W (St × List CH)
 | .trp f :: hs => (aTf s f).bind fun s' => evTps s' hs
 | hs => W.pure (s, hs)
theorem evTps_sat {n : Nat} : ∀ (hs : List CH) (s : St), (evTps s hs).sat fun r => Sub n s r.1
 | [], s => W.sat_pure Sub.refl
 | .trp f :: hs, s => W.sat_bind aTf_sat fun s' h1 => W.sat_mono (evTps_sat hs s') fun r h2 => h1.trans h2
 | .op _ _ :: hs, s => W.sat_pure Sub.refl
 | .ret _ _ _ _ :: hs, s => W.sat_pure Sub.refl
 | .br _ :: hs, s => W.sat_pure Sub.refl
 | .cut _ _ _ _ _ :: hs, s => W.sat_pure Sub.refl
 | .fcut _ _ _ _ _ _ _ :: hs, s => W.sat_pure Sub.refl
 | .draw _ :: hs, s => W.sat_pure Sub.refl
 | .tr _ :: hs, s => W.sat_pure Sub.refl
 | .spec _ :: hs, s => W.sat_pure Sub.refl
 | .fcuta _ _ _ _ _ _ _ _ :: hs, s => W.sat_pure Sub.refl
def isTr : List CH → Bool
 | .tr _ :: _ => true
 | .trp _ :: _ => true
 | _ => false
theorem evTrs_none {hs : List CH} {s : St} (h : isTr hs = false) : evTrs s hs = W.pure (s, hs) := by
 unfold evTrs
 split
 ·cases h
 ·rfl
theorem evTps_none {hs : List CH} {s : St} (h : isTr hs = false) : evTps s hs = W.pure (s, hs) := by
 unfold evTps
 split
 ·cases h
 ·rfl
def evStepT (P : Program) (G : Nat → AV) (callB : CallB) (ops : Array Oper) (i : Nat) (s : St) (hs : List CH) : W ((AEx × St × List CH) × Bool) :=
 (evTrs s hs).bind fun q =>
 match Nat.ble s.hp.nx q.1.hp.nx with
 | true => (evStep P G callB ops i q.1 q.2).bind fun r =>
  match r.1 with
  | .normal => (evTps r.2.1 r.2.2).bind fun z => W.pure ((.normal, z), isTr hs || isTr r.2.2)
  | e => W.pure ((e, r.2), true)
 | false => W.fail
theorem evStepT_sat {callB : CallB} (hcall : ∀ f args h hs, (callB f args h hs).sat fun r => CallDoes P G f args h r.1 r.2.1) {ops : Array Oper} {i : Nat} {s : St} {hs : List CH} :
  (evStepT P G callB ops i s hs).sat fun r => StepDoes P G ops i s r.1.1 r.1.2.1 := by
 refine W.sat_bind (evTrs_sat (n := s.hp.nx) hs s) fun q hq => ?_
 split
 ·rename_i hb
  have hle := nB hb
  refine W.sat_bind (evStep_sat hcall) fun r ⟨hr, hhere⟩ => ?_
  have comp : ∀ {e : AEx} {s1 s2 : St}, StepDoes P G ops i q.1 e s1 → Sub s.hp.nx s1 s2 → (∀ v, e = .panic v → s2 = s1) → StepDoes P G ops i s e s2 := fun {e s1 s2} h1 h2 h3 => by
   intro μ ro a w Q K hst hpost
   obtain ⟨μ0, ro0, q1, q2, q3, q4, hst0⟩ := hq G μ ro w a hst
   have hup0 := (Up.refl s.hp.nx μ ro w).subr q1 q2 q3 q4
   refine h1 μ0 ro0 a w Q K hst0 fun μ' ro' a' w' hup hst' => ?_
   refine ⟨fun he hp => ?_, fun v x he hx => ?_⟩
   ·obtain ⟨μ1, ro1, g1, g2, g3, g4, hst1⟩ := h2 G μ' ro' w' a' hst'
    exact (hpost μ1 ro1 a' w' ((hup0.trans (hup.mono hle)).subr g1 g2 g3 g4) hst1).1 he hp
   ·have := h3 v he
    subst this
    exact (hpost μ' ro' a' w' (hup0.trans (hup.mono hle)) hst').2 v x he hx
  obtain ⟨e, s1, hs1⟩ := r
  cases e with
  | normal => exact W.sat_bind (evTps_sat (n := s.hp.nx) hs1 s1) fun z hz => W.sat_pure (comp hr hz (fun v hv => by cases hv))
  | _ => exact W.sat_pure (comp hr Sub.refl (fun _ _ => rfl))
 ·exact W.sat_fail
end Go.Proofs.YtpadimnchmghpaaGreatDoor.Av
