import Derived.Test.YtpadimnchmghpaaGreatDoorAvZ
open Prod (fst)
open Int (tdiv tmod)
set_option linter.unusedVariables false
set_option linter.unusedSimpArgs false
namespace Go.Proofs.YtpadimnchmghpaaGreatDoor.Av
open Go.RowKit
open Go.ChangeMaps (setBlock)
variable {P : Program} {G : Nat → AV} {μ μ' : Nat → Option Loc} {ro ro' : Nat → Prop} {w w' : World}
def DoesE (P : Program) (G : Nat → AV) (n : Nat) (c : Code) (s : St) (R : AEx → St → Prop) : Prop :=
 ∀ μ ro a w, StRel G μ ro w s a → c.wp P (fun e' a' w' => ∃ e s', R e s' ∧ Post n G μ ro w e s' e' a' w') a w
theorem Does.toE {n : Nat} {c : Code} {s s' : St} {e : AEx} (h : Does P G n c s e s') : DoesE P G n c s (fun x y => x = e ∧ y = s') := fun μ ro a w hs =>
 wp_mono (h μ ro a w hs) fun _ _ _ hp => ⟨e, s', ⟨rfl, rfl⟩, hp⟩
theorem DoesE.mono {n : Nat} {c : Code} {s : St} {R R' : AEx → St → Prop} (h : DoesE P G n c s R) (hR : ∀ e s', R e s' → R' e s') : DoesE P G n c s R' := fun μ ro a w hs =>
 wp_mono (h μ ro a w hs) fun _ _ _ ⟨e, s', h1, h2⟩ => ⟨e, s', hR _ _ h1, h2⟩
theorem Post.sub {n : Nat} {e : AEx} {s1 s' : St} {e' : Exit} {a' : Act} (he : ∀ v, e ≠ .panic v) (h : Post n G μ ro w e s1 e' a' w') (hsub : Sub n s1 s') : Post n G μ ro w e s' e' a' w' := by
 obtain ⟨μ', ro', k1, k2, k3⟩ := h
 obtain ⟨μ0, ro0, h1, h2, h4, h5, h3⟩ := hsub G μ' ro' w' a' k3
 refine ⟨μ0, ro0, k1.subr h1 h2 h4 h5, ?_, h3⟩
 cases e with
 | panic v => exact absurd rfl (he v)
 | _ => cases e' <;> first | exact k2 | exact k2.elim
theorem DoesE.one {n : Nat} {c : Code} {s s' : St} {e : AEx} {R : AEx → St → Prop} (h : DoesE P G n c s R) (he : ∀ v, e ≠ .panic v) (hR : ∀ e1 s1, R e1 s1 → e1 = e ∧ Sub n s1 s') : Does P G n c s e s' := fun μ ro a w hs =>
 wp_mono (h μ ro a w hs) fun e' a' w' ⟨e1, s1, h1, h2⟩ => by
  obtain ⟨rfl, h3⟩ := hR _ _ h1
  exact h2.sub he h3
theorem DoesE.seq {n : Nat} {c d : Code} {s : St} {R T : AEx → St → Prop} (h : DoesE P G n c s R) (k : ∀ s1, R .normal s1 → DoesE P G n d s1 T) (o : ∀ e s1, e ≠ .normal → R e s1 → T e s1) : DoesE P G n (.seq c d) s T := fun μ ro a w hs =>
 wp_seq (wp_mono (h μ ro a w hs) fun e' a1 w1 ⟨e, s1, h1, h2⟩ => by
  by_cases he : e = .normal
  ·subst he
   obtain ⟨μ1, ro1, q1, q3, q4⟩ := h2
   cases e' <;> simp only [ExRel] at q3
   exact wp_mono (k s1 h1 μ1 ro1 a1 w1 q4) fun _ _ _ ⟨e2, s2, g1, g2⟩ => ⟨e2, s2, g1, Post.trans q1 g2⟩
  ·have h3 := o e s1 he h1
   obtain ⟨μ1, ro1, q1, q3, q4⟩ := h2
   cases e' <;> first
    | exact ⟨e, s1, h3, μ1, ro1, q1, q3, q4⟩
    | (cases e <;> simp only [ExRel] at q3; exact absurd rfl he))
theorem DoesE.pre {n : Nat} {c : Code} {s s0 : St} {R : AEx → St → Prop} (hsub : Sub n s s0) (h : DoesE P G n c s0 R) : DoesE P G n c s R := fun μ ro a w hst => by
 obtain ⟨μ0, ro0, h1, h2, h4, h5, h3⟩ := hsub G μ ro w a hst
 refine wp_mono (h μ0 ro0 a w h3) fun e' a' w' ⟨e, s', g, μ', ro', k1, k2, k3⟩ => ⟨e, s', g, μ', ro', ⟨h1.trans k1.ag, fun b hb => k1.up b (h4 b hb), fun b hb => ?_, (k1.fr.weaken h4).pre h2⟩, k2, k3⟩
 rcases k1.nw b hb with h | h | ⟨i, l, q1, q2⟩
 ·exact (h5 b h).imp_right .inr
 ·exact .inr (.inl h)
 ·obtain ⟨j, m, q3, q4⟩ := h2 i l q1
  exact .inr (.inr ⟨j, m, q3, q4.trans q2⟩)
theorem DoesE.loop {n : Nat} {c : Code} {I : Nat → St → Prop} {R : AEx → St → Prop}
  (h : ∀ m s, I m s → DoesE P G n c s fun e s' => (e = .normal ∧ ∃ m', m' < m ∧ I m' s') ∨ (e ≠ .normal ∧ R e s')) : ∀ {m : Nat} {s : St}, I m s → DoesE P G n (.loop c) s R := by
 intro m
 induction m using Nat.strongRecOn with
 | ind m ih =>
  intro s hI μ ro a w hs
  refine wp_loop_unroll (fun _ _ _ ⟨_, _, _, hp⟩ => Post.noGoto hp) (fun _ _ ⟨_, _, _, hp⟩ => Post.noOut hp) (wp_mono (h m s hI μ ro a w hs) fun e' a1 w1 ⟨e, s1, h1, h2⟩ => ?_)
  rcases h1 with ⟨rfl, m', hlt, hI'⟩ | ⟨hne, hR⟩
  ·obtain ⟨μ1, ro1, q1, q3, q4⟩ := h2
   cases e' <;> simp only [ExRel] at q3
   exact wp_mono (ih m' hlt hI' μ1 ro1 a1 w1 q4) fun _ _ _ ⟨e2, s2, g1, g2⟩ => ⟨e2, s2, g1, Post.trans q1 g2⟩
  ·obtain ⟨μ1, ro1, q1, q3, q4⟩ := h2
   cases e' <;> first
    | exact ⟨e, s1, hR, μ1, ro1, q1, q3, q4⟩
    | (cases e <;> simp only [ExRel] at q3; exact absurd rfl hne)
/-! ### the next entry -/
theorem leftOf_mem {ms : List MapEntry} {seen : List Nat} {e : MapEntry} (h : e ∈ (leftOf ms.toArray seen.toArray).toList) : e ∈ ms ∧ e.born ∉ seen := by
 unfold leftOf at h
 simpa using h
theorem leftOf_nil {ms : List MapEntry} {seen : List Nat} (h : (leftOf ms.toArray seen.toArray).size = 0) : ∀ e ∈ ms, e.born ∈ seen := by
 intro e he
 unfold leftOf at h
 have := Array.eq_empty_of_size_eq_zero h
 rw [Array.filter_eq_empty_iff] at this
 have h2 := this e (by simpa using he)
 simpa using h2
def nextS (s : St) (i td : Nat) (r : AV) (o : Ob) : St := { s with tm := s.tm.put td (some r), hp := s.hp.set i o }
theorem Ents.get {kd : KK} : ∀ {es : List (AV × AV)} {ms : List MapEntry} {x : Nat} {e : MapEntry}, Ents kd μ ro w es ms → ms[x]? = some e → ∃ k v, es[x]? = some (k, v)
 | _, _, x, _, .nil, h => by simp at h
 | _, _, 0, _, .cons (k := k) (v := v) _ _ _, _ => ⟨k, v, rfl⟩
 | _, _, x + 1, _, .cons _ _ he, h => by
  obtain ⟨k, v, q⟩ := he.get (x := x) (by simpa using h)
  exact ⟨k, v, by simpa using q⟩
theorem StRel.put1 {s : St} {a : Act} {d : Nat} {v : AV} {x : Value} (h : StRel G μ ro w s a) (hlt : Nat.blt d s.nt = true) (hv : Rep μ ro w true v x) : StRel G μ ro w { s with tm := s.tm.put d (some v) } (a.put (some d) x) := by
 have e : s.put (some d) v = some ({ s with tm := s.tm.put d (some v) }, []) := by unfold St.put; simp only [hlt]; rfl
 exact (StRel.put h hv (dst := some d) _ _ e trivial).1
def NextR (s : St) (i td : Nat) (m cl : Nat) (seen : List Nat) (es : List (AV × AV)) (ms : List MapEntry) (s' : St) : Prop :=
 (∃ (x : Nat) (e : MapEntry) (k v : AV), ms[x]? = some e ∧ es[x]? = some (k, v) ∧ e.born ∉ seen ∧ s' = nextS s i td (.tup [.bool true, k, v]) (.mit m cl (seen ++ [e.born]) cl)) ∨
 ((∀ e ∈ ms, e.born ∈ seen) ∧ s' = nextS s i td (.tup [.bool false]) (.mit m cl seen cl))
theorem next_step {ops : Array Oper} {s : St} {ti td i j m cl : Nat} {kd : KK} {es : List (AV × AV)} {ms : List MapEntry} {seen : List Nat} {o : Oper} {q : Nat} {a : Act}
  (ho : ops[q]? = some o) (hop : o.op = .next (.tmp ti) false) (hd : o.dst = some td) (hg : o.guard = none) (hlt : Nat.blt td s.nt = true)
  (ht : s.tm.get ti = some (.ptr i 0)) (hi : s.hp.m.get i = some (.mit m cl seen cl)) (hj : s.hp.m.get j = some (.rm m kd es ms cl)) {Q : Exit → Act → World → Prop} {K : Act → World → Prop} (hs : StRel G μ ro w s a)
  (hK : ∀ s' a' w', NextR s i td m cl seen es ms s' → Up s.hp.nx μ ro w μ ro w' → StRel G μ ro w' s' a' → K a' w') : wpOp P ops Q q K a w := by
 obtain ⟨b, hb, hob⟩ : ∃ b, μ i = some b ∧ w.heap[b.1]? = some (.mapIter (some m) cl seen.toArray cl) := by
  rcases hs.hp.obs i _ hi with h | ⟨_, h, _⟩
  ·exact h
  ·exact h.elim
 obtain ⟨bm, hbm, g0, g1, g2, g3, g4, g5⟩ : ∃ bm, μ j = some bm ∧ RmRel μ ro w bm m kd es ms cl := by
  rcases hs.hp.obs j _ hj with h | ⟨_, h, _⟩
  ·exact h
  ·exact h.elim
 rw [g0] at g1
 have hti := hs.tm ti _ ht
 have hval : a.tmps.getD ti undef = .pointer (some ⟨b.1, 0, none⟩) := by
  generalize a.tmps.getD ti undef = x at hti
  cases hti with
  | ptr h => rw [hb] at h; cases h; rfl
 unfold wpOp
 rw [ho]
 simp only
 have hw : Region.wanted o (yielded ops a.tmps) = true := by simp [Region.wanted, hg]
 rw [hw, if_pos rfl]
 refine .inl ?_
 have hex : ∀ r w1, (Instr.next (.pointer (some ⟨b.1, 0, none⟩)) false o.type).run P w = .ok r w1 → (execOp a.eval o).run P w = .ok (.value r) w1 := fun r w1 h => by
  have e : a.eval (.tmp ti) = .pointer (some ⟨b.1, 0, none⟩) := hval
  unfold execOp
  rw [hop]
  simp only [Sem.run_bind, e, h, Result.andThen_ok, Sem.run_pure]
 have hblt : b.1 < w.heap.size := hs.hp.lt i b hb
 unfold Oper.wp
 rcases Go.run_next_at (P := P) w o.type b.1 m cl cl seen.toArray ms.toArray cl hob g1 (by simpa using g3) (Nat.le_refl _) with ⟨h1, h2⟩ | ⟨e, he, w1, hw1, h2⟩
 ·rw [hex _ _ h2, Oper.upon_value, hd]
  have h3 := StRel.put1 hs hlt (v := .tup [.bool false]) (x := .tuple #[.bool false]) (Reps.cons .bool Reps.nil).tup
  refine hK _ _ w (.inr ⟨leftOf_nil h1, rfl⟩) (.refl _ _ _ _) ⟨h3.tm, h3.nt, ?_, h3.gl, h3.df⟩
  exact hs.hp.set (k' := .mit m cl seen cl) hi hb (Nat.le_refl _) (fun _ _ _ => rfl) hob
 ·obtain ⟨hm1, hm2⟩ := leftOf_mem he
  obtain ⟨x, hx, hxe⟩ := List.getElem_of_mem hm1
  have hx' : ms[x]? = some e := by rw [List.getElem?_eq_getElem hx, hxe]
  obtain ⟨k, v, hkv⟩ := g2.get hx'
  obtain ⟨q1, q2⟩ := g2.at hkv hx'
  have hheap : w1.heap = w.heap := by rcases hw1 with rfl | rfl <;> rfl
  let w2 : World := setBlock w1 b.1 (.mapIter (some m) cl (seen.toArray.push e.born) cl)
  have hne : ∀ p, p ≠ b.1 → w2.heap[p]? = w.heap[p]? := fun p hp => by
   simp only [w2, setBlock, hheap]
   rw [Array.getElem?_setIfInBounds_ne (Ne.symm hp)]
  have heq : w2.heap[b.1]? = some (.mapIter (some m) cl (seen ++ [e.born]).toArray cl) := by
   simp only [w2, setBlock, hheap]
   rw [Array.getElem?_setIfInBounds_self_of_lt hblt]
   simp
  have hsz : w2.heap.size = w.heap.size := by simp [w2, setBlock, hheap]
  have hfr : Fr μ ro w μ w2 := Fr.write hb (by rcases hw1 with rfl | rfl <;> rfl) (by rcases hw1 with rfl | rfl <;> rfl) (by rcases hw1 with rfl | rfl <;> rfl) hsz (hs.hp.own i _ b hi hb) hne
  have hup : Up s.hp.nx μ ro w μ ro w2 := Up.of_fr (.refl _ _) hfr
  have hh2 : HpRel μ ro (s.hp.set i (.mit m cl (seen ++ [e.born]) cl)) w2 := hs.hp.set hi hb (Nat.le_of_eq hsz.symm) (fun p hp _ => hne p hp) heq
  have hs2 := hs.up hup hh2
  have h3 := StRel.put1 hs2 hlt (v := .tup [.bool true, k, v]) (x := .tuple #[.bool true, e.key, e.val]) (Reps.cons .bool (Reps.cons (keyVal_rep q1) (Reps.cons ((q2.mono (fun _ _ h => h) (fun _ h => h) hup.fr.block).up) Reps.nil))).tup
  rw [hex _ _ h2, Oper.upon_value, hd]
  exact hK _ _ w2 (.inl ⟨x, e, k, v, hx', hkv, hm2, rfl⟩) hup h3
def next2 (s : St) (i td te : Nat) (r : AV) (β : Bool) (o : Ob) : St := { nextS s i td r o with tm := (nextS s i td r o).tm.put te (some (.bool β)) }
structure NextOps (ops : Array Oper) (ti td te nt : Nat) : Prop where
 sz : ops.size = 2
 h0 : ∃ o, ops[0]? = some o ∧ o.op = .next (.tmp ti) false ∧ o.dst = some td ∧ o.guard = none
 h1 : ∃ o, ops[1]? = some o ∧ o.op = .extract (.tmp td) 0 ∧ o.dst = some te ∧ o.guard = none
 l0 : Nat.blt td nt = true
 l1 : Nat.blt te nt = true
theorem next_region {ops : Array Oper} {n id : Nat} {s : St} {ti td te i j m cl : Nat} {kd : KK} {es : List (AV × AV)} {ms : List MapEntry} {seen : List Nat} (hops : NextOps ops ti td te s.nt) (hn : n ≤ s.hp.nx)
  (ht : s.tm.get ti = some (.ptr i 0)) (hi : s.hp.m.get i = some (.mit m cl seen cl)) (hj : s.hp.m.get j = some (.rm m kd es ms cl)) :
  DoesE P G n (.region id ops false) s fun e s' => e = .normal ∧
   ((∃ (x : Nat) (e : MapEntry) (k v : AV), ms[x]? = some e ∧ es[x]? = some (k, v) ∧ e.born ∉ seen ∧ s' = next2 s i td te (.tup [.bool true, k, v]) true (.mit m cl (seen ++ [e.born]) cl)) ∨
    ((∀ e ∈ ms, e.born ∈ seen) ∧ s' = next2 s i td te (.tup [.bool false]) false (.mit m cl seen cl))) := by
 intro μ ro a w hs
 obtain ⟨hsz, ⟨o0, h00, h01, h02, h03⟩, ⟨o1, h10, h11, h12, h13⟩, hl0, hl1⟩ := hops
 refine wp_region ?_
 rw [hsz]
 show wpOps P ops _ [0, 1] a w
 rw [wpOps_cons]
 refine next_step h00 h01 h02 h03 hl0 ht hi hj hs fun s1 a1 w1 hN hup hs1 => ?_
 rw [wpOps_cons]
 have key : ∀ (r : AV) (β : Bool) (c : List AV) (o : Ob), r = .tup (.bool β :: c) → s1 = nextS s i td r o → StepDoes P G ops 1 s1 .normal (next2 s i td te r β o) := fun r β c o hr hq => by
  subst hr; subst hq
  have he : evStep P G (fun _ _ _ _ => W.fail) ops 1 (nextS s i td (.tup (.bool β :: c)) o) [] = some ((.normal, next2 s i td te (.tup (.bool β :: c)) β o, []), []) := by
   unfold evStep
   simp only [h10, gdVal, h13, W.bind, W.pure, evOp, h11, opd, nextS, Tr.get_put, if_true, aExtract, List.getElem?_cons_zero, W.of, h12, St.put, hl1, List.append_nil, List.nil_append, List.tail_nil]
   rfl
  exact (evStep_sat (fun f args h hs => W.sat_fail) _ _ he trivial).1
 rcases hN with ⟨x, e, k, v, q1, q2, q3, q4⟩ | ⟨q1, q2⟩
 ·refine key _ true [k, v] _ rfl q4 μ ro a1 w1 _ _ hs1 fun μ' ro' a' w' hup2 hs2 => ⟨fun _ _ => ?_, fun _ _ h => (by cases h)⟩
  have hnx : s1.hp.nx = s.hp.nx := by rw [q4]; rfl
  exact ⟨.normal, _, ⟨rfl, .inl ⟨x, e, k, v, q1, q2, q3, rfl⟩⟩, μ', ro', (hup.mono hn).trans (hup2.mono (by rw [hnx]; exact hn)), trivial, hs2⟩
 ·refine key _ false [] _ rfl q2 μ ro a1 w1 _ _ hs1 fun μ' ro' a' w' hup2 hs2 => ⟨fun _ _ => ?_, fun _ _ h => (by cases h)⟩
  have hnx : s1.hp.nx = s.hp.nx := by rw [q2]; rfl
  exact ⟨.normal, _, ⟨rfl, .inr ⟨q1, rfl⟩⟩, μ', ro', (hup.mono hn).trans (hup2.mono (by rw [hnx]; exact hn)), trivial, hs2⟩
/-! ### the loop -/
def bornAt (ms : List MapEntry) (x : Nat) : Nat := match ms[x]? with | some e => e.born | none => 0
def entAt (es : List (AV × AV)) (x : Nat) : AV × AV := match es[x]? with | some e => e | none => (.any, .any)
theorem range_map {es : List (AV × AV)} : (List.range es.length).map (entAt es) = es := by
 apply List.ext_getElem
 ·simp
 ·intro i h1 h2
  simp only [List.getElem_map, List.getElem_range, entAt, List.getElem?_eq_getElem h2]
theorem nd_inj {ms : List MapEntry} (h : (ms.map (·.born)).Nodup) {x y : Nat} {e e' : MapEntry} (hx : ms[x]? = some e) (hy : ms[y]? = some e') (he : e.born = e'.born) : x = y := by
 have h1 : (ms.map (·.born))[x]? = some e.born := by rw [List.getElem?_map, hx]; rfl
 have h2 : (ms.map (·.born))[y]? = some e'.born := by rw [List.getElem?_map, hy]; rfl
 obtain ⟨hil, e1⟩ := List.getElem?_eq_some_iff.1 h1
 obtain ⟨hjl, e2⟩ := List.getElem?_eq_some_iff.1 h2
 rw [List.Nodup, List.pairwise_iff_getElem] at h
 rcases Nat.lt_trichotomy x y with q | q | q
 ·exact absurd (e1.trans (he.trans e2.symm)) (h x y hil hjl q)
 ·exact q
 ·exact absurd (e2.trans (he.symm.trans e1.symm)) (h y x hjl hil q)
theorem map_loop {σ : Type} {ops : Array Oper} {rest : Code} {n id : Nat} {ti td te i j m cl nt : Nat} {kd : KK} {es : List (AV × AV)} {ms : List MapEntry} (f : σ → AV → AV → Option σ) (H : σ → List Nat → St) (E : σ → St) (e0 : AEx)
  (hlen : es.length = ms.length) (hnd : (ms.map (·.born)).Nodup) (hops : NextOps ops ti td te nt)
  (hH : ∀ s seen, (H s seen).nt = nt ∧ n ≤ (H s seen).hp.nx ∧ (H s seen).tm.get ti = some (.ptr i 0) ∧ (H s seen).hp.m.get i = some (.mit m cl seen cl) ∧ (H s seen).hp.m.get j = some (.rm m kd es ms cl)) (he0 : e0 ≠ .normal)
  (round : ∀ (s s' : σ) (seen : List Nat) (x : Nat) (e : MapEntry) (k v : AV), ms[x]? = some e → es[x]? = some (k, v) → f s k v = some s' → Does P G n rest (next2 (H s seen) i td te (.tup [.bool true, k, v]) true (.mit m cl (seen ++ [e.born]) cl)) .normal (H s' (seen ++ [e.born])))
  (done : ∀ s seen, Does P G n rest (next2 (H s seen) i td te (.tup [.bool false]) false (.mit m cl seen cl)) e0 (E s)) {s0 : σ}
  (hf : ∀ es' : List (AV × AV), es'.Perm es → es'.foldlM (fun a p => f a p.1 p.2) s0 ≠ none) :
  DoesE P G n (.loop (.seq (.region id ops false) rest)) (H s0 []) fun e s' => e = e0 ∧ ∃ (es' : List (AV × AV)) (s : σ), es'.Perm es ∧ es'.foldlM (fun a p => f a p.1 p.2) s0 = some s ∧ s' = E s := by
 let I : Nat → St → Prop := fun q s => ∃ (L : List Nat) (t : σ), L.Nodup ∧ (∀ x ∈ L, x < ms.length) ∧ (L.map (entAt es)).foldlM (fun a p => f a p.1 p.2) s0 = some t ∧ s = H t (L.map (bornAt ms)) ∧ q = ms.length - L.length
 have hfull : ∀ {L : List Nat}, L.Nodup → (∀ x ∈ L, x < ms.length) → ∃ M, (L ++ M).Perm (List.range ms.length) := fun {L} h1 h2 => by
  refine ⟨(List.range ms.length).filter fun x => !decide (x ∈ L), ?_⟩
  rw [List.perm_ext_iff_of_nodup]
  ·intro x
   simp only [List.mem_append, List.mem_filter, List.mem_range, Bool.not_eq_true', decide_eq_false_iff_not]
   constructor
   ·rintro (h | h)
    ·exact h2 x h
    ·exact h.1
   ·intro h
    by_cases hx : x ∈ L
    ·exact .inl hx
    ·exact .inr ⟨h, hx⟩
  ·rw [List.nodup_append]
   refine ⟨h1, List.Pairwise.filter _ List.nodup_range, fun x hx y hy e => ?_⟩
   subst e
   simp [hx] at hy
  ·exact List.nodup_range
 have hgo : ∀ {L : List Nat} {x : Nat} {t : σ}, (L ++ [x]).Nodup → (∀ y ∈ L ++ [x], y < ms.length) → (L.map (entAt es)).foldlM (fun a p => f a p.1 p.2) s0 = some t → ∃ t', f t (entAt es x).1 (entAt es x).2 = some t' := fun {L x t} h1 h2 h3 => by
  obtain ⟨M, hM⟩ := hfull h1 h2
  have h4 := hf ((L ++ [x] ++ M).map (entAt es)) (by have := hM.map (entAt es); rwa [← hlen, range_map] at this)
  cases hq : f t (entAt es x).1 (entAt es x).2 with
  | some t' => exact ⟨t', rfl⟩
  | none =>
   refine absurd ?_ h4
   rw [List.map_append, List.map_append, List.foldlM_append, List.foldlM_append, h3]
   simp [List.foldlM, hq]
 refine DoesE.mono (DoesE.loop (I := I) (R := fun e s' => e = e0 ∧ ∃ (es' : List (AV × AV)) (s : σ), es'.Perm es ∧ es'.foldlM (fun a p => f a p.1 p.2) s0 = some s ∧ s' = E s) ?_ (m := ms.length) (s := H s0 []) ⟨[], s0, List.nodup_nil, (fun x h => absurd h (by simp)), rfl, rfl, rfl⟩) fun _ _ h => h
 rintro q s ⟨L, t, hL1, hL2, hL3, rfl, rfl⟩
 obtain ⟨g1, g2, g3, g4, g5⟩ := hH t (L.map (bornAt ms))
 refine DoesE.seq (next_region (i := i) (j := j) (g1 ▸ hops) g2 g3 g4 g5) (fun s1 hs1 => ?_) (fun e s1 hne h => absurd h.1 hne)
 rcases hs1.2 with ⟨x, e, k, v, q1, q2, q3, rfl⟩ | ⟨q1, rfl⟩
 ·have hxl : x < ms.length := (List.getElem?_eq_some_iff.1 q1).1
  have hxn : x ∉ L := fun hx => q3 (List.mem_map.2 ⟨x, hx, by simp [bornAt, q1]⟩)
  have hN : (L ++ [x]).Nodup := by
   rw [List.nodup_append]
   refine ⟨hL1, List.nodup_cons.2 ⟨by simp, List.nodup_nil⟩, fun y hy z hz e => ?_⟩
   simp only [List.mem_singleton] at hz
   subst hz; subst e; exact hxn hy
  have hlt : ∀ y ∈ L ++ [x], y < ms.length := fun y hy => by
   rcases List.mem_append.1 hy with h | h
   ·exact hL2 y h
   ·simp only [List.mem_singleton] at h; subst h; exact hxl
  obtain ⟨t', ht'⟩ := hgo hN hlt hL3
  have hkv : entAt es x = (k, v) := by simp [entAt, q2]
  rw [hkv] at ht'
  refine (round t t' _ x e k v q1 q2 ht').toE.mono fun e1 s2 h => ?_
  obtain ⟨rfl, rfl⟩ := h
  have hcard : L.length < ms.length := by
   obtain ⟨M, hM⟩ := hfull hN hlt
   have := hM.length_eq
   simp only [List.length_append, List.length_cons, List.length_nil, List.length_range] at this
   omega
  refine .inl ⟨rfl, _, ?_, L ++ [x], t', hN, hlt, ?_, ?_, rfl⟩
  ·simp only [List.length_append, List.length_cons, List.length_nil]; omega
  ·rw [List.map_append, List.foldlM_append, hL3]
   simp [List.foldlM, hkv, ht']
  ·simp [bornAt, q1]
 ·refine (done t _).toE.mono fun e1 s2 h => ?_
  obtain ⟨rfl, rfl⟩ := h
  refine .inr ⟨he0, rfl, L.map (entAt es), t, ?_, hL3, rfl⟩
  have hp : L.Perm (List.range ms.length) := by
   rw [List.perm_ext_iff_of_nodup hL1 List.nodup_range]
   intro x
   rw [List.mem_range]
   refine ⟨hL2 x, fun hx => ?_⟩
   have h1 : ms[x]? = some ms[x] := List.getElem?_eq_getElem hx
   obtain ⟨y, hy, hyb⟩ := List.mem_map.1 (q1 _ (List.mem_of_getElem? h1))
   have h2 : ms[y]? = some (ms[y]'(hL2 y hy)) := List.getElem?_eq_getElem (hL2 y hy)
   have := nd_inj hnd h2 h1 (by simpa [bornAt, h2] using hyb)
   exact this ▸ hy
  have := hp.map (entAt es)
  rwa [← hlen, range_map] at this
def nextOk (ops : Array Oper) (ti td te nt : Nat) : Bool :=
 match (ops[0]? : Option Oper), (ops[1]? : Option Oper) with
 | some (Oper.mk (some d) (.next (.tmp i) false) _ _ _ none), some (Oper.mk (some e) (.extract (.tmp d') 0) _ _ _ none) => Nat.beq ops.size 2 && Nat.beq d td && Nat.beq i ti && Nat.beq e te && Nat.beq d' td && Nat.blt td nt && Nat.blt te nt
 | _, _ => false
theorem nextOk_ops {ops : Array Oper} {ti td te nt : Nat} (h : nextOk ops ti td te nt = true) : NextOps ops ti td te nt := by
 unfold nextOk at h
 split at h
 ·rename_i h0 h1
  simp only [Bool.and_eq_true] at h
  obtain ⟨⟨⟨⟨⟨⟨h2, h3⟩, h4⟩, h5⟩, h6⟩, h7⟩, h8⟩ := h
  have e3 := Nat.eq_of_beq_eq_true h3
  have e4 := Nat.eq_of_beq_eq_true h4
  have e5 := Nat.eq_of_beq_eq_true h5
  have e6 := Nat.eq_of_beq_eq_true h6
  subst e3 e4 e5 e6
  exact ⟨Nat.eq_of_beq_eq_true h2, ⟨_, h0, rfl, rfl, rfl⟩, ⟨_, h1, rfl, rfl, rfl⟩, h7, h8⟩
 ·cases h
def loopOk (c : Code) (ti td te nt : Nat) : Bool := match c with | .loop (.seq (.region _ ops false) _) => nextOk ops ti td te nt | _ => false
def restOf (c : Code) : Code := match c with | .loop (.seq _ r) => r | _ => .skip
theorem loopOk_eq {c : Code} {ti td te nt : Nat} (h : loopOk c ti td te nt = true) : ∃ id ops, c = .loop (.seq (.region id ops false) (restOf c)) ∧ NextOps ops ti td te nt := by
 unfold loopOk at h
 split at h
 ·exact ⟨_, _, rfl, nextOk_ops h⟩
 ·cases h
end Go.Proofs.YtpadimnchmghpaaGreatDoor.Av
