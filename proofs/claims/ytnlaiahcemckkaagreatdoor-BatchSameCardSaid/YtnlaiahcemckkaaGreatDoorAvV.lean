/- The evaluator. -/
import Derived.Test.YtnlaiahcemckkaaGreatDoorAvR5
import Derived.ChangeSame
import Derived.Carry
import Derived.WideKeyArgs
import Derived.OpenShut
import Derived.RowKit
set_option linter.unusedVariables false
namespace Go.Proofs.YtnlaiahcemckkaaGreatDoor.Av
open Go.RowKit
def drawF (P : Program) (G : Nat → AV) (T : Tab P G) (self : Self) (n : Nat) (ops : Array Oper) (s : St) (hs : List CH) : W (AEx × St × List CH) := evDraw3 P G (evBodyS P G T self) n ops s hs
/-- the evaluator, with so much fuel -/
noncomputable def evT (P : Program) (G : Nat → AV) (T : Tab P G) (fuel : Nat) : Self :=
  Nat.rec (motive := fun _ => Self) (fun _ _ _ _ => W.fail) (fun _ self => evF P G T (drawF P G T) self) fuel
noncomputable def ev (P : Program) (G : Nat → AV) (fuel : Nat) : Self := evT P G (noTab P G) fuel
theorem evT_ok (P : Program) (G : Nat → AV) (T : Tab P G) : ∀ fuel, SelfOk P G (evT P G T fuel)
  | 0 => fun _ _ _ _ => W.sat_fail
  | k + 1 => evF_sat (drawB := drawF P G T) (self := evT P G T k) (evT_ok P G T k) fun n id ops s hs => evDraw3_sat (evBodyS_sat (evT_ok P G T k))
theorem ev_ok (P : Program) (G : Nat → AV) (fuel : Nat) : SelfOk P G (ev P G fuel) := evT_ok P G (noTab P G) fuel
/-- a function's call, evaluated -/
theorem callT_sat (P : Program) (G : Nat → AV) (T : Tab P G) (fuel : Nat) (f : FuncId) (args : List AV) (h : Hp) (hs : List CH) :
    (evBody P (evT P G T fuel) f args h hs).sat fun r => CallDoes P G f args h r.1 r.2.1 := evBody_sat (evT_ok P G T fuel) f args h hs
theorem call_sat (P : Program) (G : Nat → AV) (fuel : Nat) (f : FuncId) (args : List AV) (h : Hp) (hs : List CH) :
    (evBody P (ev P G fuel) f args h hs).sat fun r => CallDoes P G f args h r.1 r.2.1 := evBody_sat (ev_ok P G fuel) f args h hs
/-- with nothing owed -/
def yes (r : W (CO × Hp × List CH)) : Bool := match r with | some ((.ret (.bool true), _, []), []) => true | _ => false
end Go.Proofs.YtnlaiahcemckkaaGreatDoor.Av
/- Other numbers for the same; contracts out of evaluations. -/
set_option linter.unusedVariables false
set_option linter.unusedSimpArgs false
namespace Go.Proofs.YtnlaiahcemckkaaGreatDoor.Av
open Go.RowKit
variable {P : Program} {G : Nat → AV} {μ μ' : Nat → Option Loc} {ro ro' : Nat → Prop} {w w' : World}
/-- A CONTRACT OUT OF AN EVALUATION -/
theorem Ret.of_body {fuel : Nat} {f : FuncId} {args : List AV} {hs : List CH} {v r : AV} {h' : Hp} {rest : List CH} {ps : List Prop} {blks : List Blk} (ρ : List Nat)
    (he : evBody P (ev P G fuel) f args ⟨.e, 0⟩ hs = some ((.ret v, h', rest), ps)) (hok : allOk ps)
    (hv : v = ren ρ 4 r) (hb : blkEqs h'.m ρ ρ blks) (hc : (nodupB ρ && blks.all (shalB ρ.length) && shal ρ.length 4 r) = true) : Ret P G f args r blks := by
  intro ro w vs hro ha hg
  simp only [Bool.and_eq_true] at hc
  have hd := call_sat P G fuel f args ⟨.e, 0⟩ hs _ _ he hok (fun _ => none) ro w vs ha.up ⟨fun i k h => by simp [Tr.get] at h, fun i j k l b c h => by simp [Tr.get] at h, fun i k b h => by simp [Tr.get] at h, fun i b h => by simp at h, hro, fun i _ => rfl⟩ hg
  refine hd.mono ?_
  rintro e w1 ⟨μ', ro', hup, hco, hh⟩
  refine ⟨muOf ρ μ', ro', ⟨fun i hi => absurd hi (Nat.not_lt_zero i), hup.up, hup.nw, ⟨hup.fr.os, hup.fr.tape, hup.fr.output, hup.fr.size, hup.fr.block, hup.fr.rest, fun i l hi => ?_⟩⟩, ?_, hh.ren hb hc.1.1 hc.1.2 (fun i hi => if_pos hi) (fun i hi => if_neg (by omega))⟩
  · unfold muOf at hi
    split at hi
    · exact hup.fr.new _ l hi
    · cases hi
  · cases e <;> simp only [CoRel] at hco ⊢
    subst hv
    exact ren_rep (fun i hi => if_pos hi) 4 hc.2 hco
end Go.Proofs.YtnlaiahcemckkaaGreatDoor.Av
/- From a contract to a row: the law returns true, and what it was given reads as it did. -/
set_option linter.unusedVariables false
namespace Go.Proofs.YtnlaiahcemckkaaGreatDoor.Av
open Go.RowKit Go.ChangeShapes Go.WideShapes Go.WideElems
variable {P : Program} {G : Nat → AV} {μ μ' : Nat → Option Loc} {ro ro' : Nat → Prop} {w w' : World}
theorem trodAll_stays {H : Type} {enc : TypeId × Value → H} (hl : laidOutB P = true) {W W' : World} {sp' : Nat → Bool} : ∀ {ts : List TypeId} {vs : List Value} {ds : List (DataW H)} {ps : List MemPlace},
    (∀ t ∈ ts, P.readableRec t = true ∧ t < P.types.size) → DataW.TrodAll enc P W 0 (fun _ => true) true ts vs ds ps → (∀ p ∈ ps, W.sameAt W' p) → (∀ p ∈ ps, sp' p.block = true) → DataW.TrodAll enc P W' 0 sp' true ts vs ds ps
  | [], vs, ds, ps, _, h, _, _ => by
    obtain ⟨rfl, rfl, rfl⟩ := trodAll_nil h
    rfl
  | t :: ts, vs, ds, ps, ht, h, h1, h2 => by
    obtain ⟨v, vs1, d, ds1, a, b, rfl, rfl, rfl, h3, h4⟩ := trodAll_cons h
    obtain ⟨g1, g2⟩ := ht t (List.mem_cons_self ..)
    exact ⟨a, b, Trod_stays hl g1 g2 h3 (fun p hp => h1 p (List.mem_append_left _ hp)) (fun p hp => h2 p (List.mem_append_left _ hp)),
      trodAll_stays hl (fun t ht' => ht t (List.mem_cons_of_mem _ ht')) h4 (fun p hp => h1 p (List.mem_append_right _ hp)) (fun p hp => h2 p (List.mem_append_right _ hp)), rfl⟩
theorem frozen_below {W W' : World} (hB : Below W.heap.size W W') {b off : Nat} (hb : b < W.heap.size) : W'.frozen? ⟨b, off, none⟩ = W.frozen? ⟨b, off, none⟩ := by
  simp only [World.frozen?, hB.block b hb]
theorem post_true {H : Type} {enc : TypeId × Value → H} {f : Func} {s : ChangeSpec} {apart fresh handsOn again : Bool} {W W' : World} {args : Array Value} {ds gs : List (DataW H)} {before : List MemPlace} {tb : TypeId}
    (hl : laidOutB P = true) (hp : ∀ t ∈ f.params.toList, P.readableRec t = true ∧ t < P.types.size) (hvars : s.vars = [])
    (hr : f.resultTypes = #[tb]) (hb : P.underlying tb = some .bool)
    (hs : ∀ ds : List (DataW H), ds.length = f.params.size → s.fn H ds = { results := [.lit (.bool true)], args := ds })
    (hW : DataW.Whole enc P f.params.toList s.vars apart W args.toList ds gs before) (hB : Below W.heap.size W W') : s.post enc P f apart fresh handsOn again W args (.bool true) W' := by
  have hlt : ∀ p ∈ before, p.block < W.heap.size := fun p hp => hW.lt p hp
  have hW' := hW
  obtain ⟨p, q, hA, hV, hpq, hz, hn⟩ := hW
  rw [hvars] at hV
  have hg : gs = [] ∧ q = [] := by
    cases gs with
    | nil => exact ⟨rfl, hV⟩
    | cons x y => exact hV.elim
  obtain ⟨rfl, rfl⟩ := hg
  simp only [List.append_nil] at hpq
  subst hpq
  have hlen : ds.length = f.params.size := by
    have : ∀ {ts : List TypeId} {vs : List Value} {ds : List (DataW H)} {ps : List MemPlace}, DataW.TrodAll enc P W 0 (fun _ => true) true ts vs ds ps → ds.length = ts.length := fun {ts} => by
      induction ts with
      | nil => intro vs ds ps h; obtain ⟨rfl, rfl, rfl⟩ := trodAll_nil h; rfl
      | cons t ts ih => intro vs ds ps h; obtain ⟨v, vs1, d, ds1, a, b, rfl, rfl, rfl, h3, h4⟩ := trodAll_cons h; simp [ih h4]
    rw [this hA]; simp
  have hfn := hs ds hlen
  have hargs : ∀ sp : Nat → Bool, (∀ x ∈ before, sp x.block = true) → DataW.TrodAll enc P W' 0 sp true f.params.toList args.toList ds before := fun sp h =>
    trodAll_stays hl hp hA (fun x hx => hB.same (hlt x hx)) h
  have hrl : (Value.bool true).resultList f.resultTypes.size = [.bool true] := by rw [hr]; rfl
  have hres : ∀ (b : Nat) (sp : Nat → Bool) (hd : Bool), DataW.TrodAll enc P W' b sp hd f.resultTypes.toList ((Value.bool true).resultList f.resultTypes.size) [.lit (.bool true)] [] := fun b sp hd => by
    rw [hrl, hr]
    exact trodAll_cons_mk (shut_bool hb _) trodAll_mk0
  refine ⟨ds, [], before, [], before, [], hW', ?_, ?_, ?_, hB.frame _, fun _ => ⟨fun j t r h1 h2 => ?_, [.lit (.bool true)] ++ ds, [], before, ⟨before, [], ?_, by rw [hvars]; rfl, by simp, ?_, hn⟩, fun p hp _ => hp⟩⟩
  · rw [List.append_nil, hfn]; exact hres _ _ _
  · rw [List.append_nil, hfn]; exact hargs _ fun x hx => by simpa using hlt x hx
  · rw [List.append_nil, hfn, hvars]; rfl
  · rw [hrl] at h2
    rw [hr] at h1
    cases j with
    | zero =>
      simp at h1 h2
      subst h1; subst h2
      exact okWide_bool_mk hb _
    | succ j => simp at h1
  · have := trodAll_append (hargs (fun _ => true) fun _ _ => rfl) (hres 0 (fun _ => true) true)
    simpa using this
  · intro b off hx
    have := frozen_below hB (b := b) (off := off) (hlt _ hx)
    rw [this]
    exact hz b off hx
/-- A CONTRACT'S CALL IN THE ROW'S WORLD -/
theorem Ret.calls {f : FuncId} {args : List AV} {r : AV} {blks : List Blk} (h : Ret P G f args r blks) {W : World} {vs : Array Value} (ha : Reps (fun _ => none) (fun b => b < W.heap.size) W false args vs.toList)
    (hg : GlRel G (fun _ => none) (fun b => b < W.heap.size) W) : Calls P f vs W fun e W' => Below W.heap.size W W' ∧ ∃ μ ro v, e = .returned v ∧ Rep μ ro W' true r v := by
  refine (h _ W vs (fun b hb => hb) ha hg).mono ?_
  rintro e w1 ⟨μ, ro, hup, hco, _⟩
  refine ⟨⟨hup.fr.os, hup.fr.tape, hup.fr.output, hup.fr.size, fun k hk => hup.fr.block k hk⟩, ?_⟩
  cases e <;> simp only [CoRel] at hco
  exact ⟨μ, ro, _, rfl, hco⟩
theorem Ret.calls_true {f : FuncId} {args : List AV} {blks : List Blk} (h : Ret P G f args (.bool true) blks) {W : World} {vs : Array Value} (ha : Reps (fun _ => none) (fun b => b < W.heap.size) W false args vs.toList)
    (hg : GlRel G (fun _ => none) (fun b => b < W.heap.size) W) : Calls P f vs W fun e W' => Below W.heap.size W W' ∧ e = .returned (.bool true) := by
  refine (h.calls ha hg).mono ?_
  rintro e W' ⟨h1, μ, ro, v, rfl, h2⟩
  cases h2
  exact ⟨h1, rfl⟩
end Go.Proofs.YtnlaiahcemckkaaGreatDoor.Av
/- Evaluations, looked at from outside. -/
set_option linter.unusedVariables false
set_option linter.unusedSimpArgs false
namespace Go.Proofs.YtnlaiahcemckkaaGreatDoor.Av
open Go.RowKit
variable {P : Program} {G : Nat → AV}
/-- a part of a piece of code: 0 the first, 1 the second -/
def codeAt : List Nat → Code → Code
  | [], c => c
  | k :: l, c =>
    match c with
    | .seq a b => match k with | 0 => codeAt l a | _ => codeAt l b
    | .cond _ a b => match k with | 0 => codeAt l a | _ => codeAt l b
    | .block _ b => codeAt l b
    | .loop b => codeAt l b
    | .scope b => codeAt l b
    | c => c
def bodyAt (P : Program) (f : FuncId) (l : List Nat) : Code := match (P.funcs[f]?).bind (·.body) with | some c => codeAt l c | none => .skip
def viewS (ks ids : List Nat) (r : W (AEx × St × List CH)) : Option (AEx × List (Option AV) × List (Option Ob) × Nat × Bool × List Prop) :=
  match r with
  | some ((e, s, _), ps) => some (e, ks.map s.tm.get, ids.map s.hp.m.get, s.nt, s.df.isEmpty, ps)
  | none => none
def viewB (ids : List Nat) (r : W (CO × Hp × List CH)) : Option (CO × List (Option Ob) × List Prop) :=
  match r with
  | some ((c, h, _), ps) => some (c, ids.map h.m.get, ps)
  | none => none
theorem tmEqs_of {t : Tr AV} {r : List Nat} : ∀ {l : List (Nat × AV)}, (l.map (·.1)).map t.get = l.map (fun x => some (ren r 4 x.2)) → tmEqs t r l
  | [], _ => trivial
  | (k, v) :: l, h => by
    simp only [List.map_cons, List.cons.injEq] at h
    exact ⟨h.1, tmEqs_of h.2⟩
theorem blkEqs_of {m : Tr Ob} {r : List Nat} : ∀ {l : List Nat} {bs : List Blk}, l.map m.get = bs.map (fun b => some (renB r b).ob) → blkEqs m r l bs
  | [], [], _ => trivial
  | i :: l, b :: bs, h => by
    simp only [List.map_cons, List.cons.injEq] at h
    exact ⟨h.1, blkEqs_of h.2⟩
  | [], _ :: _, h => by simp at h
  | _ :: _, [], h => by simp at h
/-- FROM A VIEW: what a piece of code does to a plain state -/
theorem Does.of_viewM (m fuel : Nat) (hs : List CH) (ρ : List Nat) {c : Code} {s : St} {e : AEx} {nt : Nat} {tms : List (Nat × AV)} {blks : List Blk} {ps : List Prop}
    (he : viewS (tms.map (·.1)) ρ (selfT (ev P G fuel) m c s hs) = some (e, tms.map (fun x => some (ren ρ 4 x.2)), blks.map (fun b => some (renB ρ b).ob), nt, true, ps))
    (hc : (okS ρ tms blks && idM ρ m && e.quiet) = true) (hok : allOk ps) : Does P G m c s e (S nt tms blks) := by
  cases hr : selfT (ev P G fuel) m c s hs with
  | none => rw [hr] at he; cases he
  | some x =>
    obtain ⟨⟨e', s', rest⟩, ps'⟩ := x
    rw [hr] at he
    simp only [viewS, Option.some.injEq, Prod.mk.injEq] at he
    obtain ⟨rfl, h1, h2, h3, h4, rfl⟩ := he
    exact (selfT_ok (ev_ok P G fuel) m c s hs _ _ hr hok : Does P G m c s e' s').post (fun v hv => by subst hv; simp [AEx.quiet] at hc) (Sub.of_renM ρ h3 (List.isEmpty_iff.1 h4) (tmEqs_of h1) (blkEqs_of h2) (by simp only [Bool.and_eq_true] at hc ⊢; simp only [okS, Bool.and_eq_true] at hc; exact hc.1.1) m (idM_spec (by simp only [Bool.and_eq_true] at hc; exact hc.1.2)))
theorem Does.of_view (fuel : Nat) (hs : List CH) (ρ : List Nat) {c : Code} {s : St} {e : AEx} {nt : Nat} {tms : List (Nat × AV)} {blks : List Blk} {ps : List Prop}
    (he : viewS (tms.map (·.1)) ρ (selfT (ev P G fuel) 0 c s hs) = some (e, tms.map (fun x => some (ren ρ 4 x.2)), blks.map (fun b => some (renB ρ b).ob), nt, true, ps))
    (hc : okS ρ tms blks = true) (hq : e.quiet = true) (hok : allOk ps) : Does P G 0 c s e (S nt tms blks) :=
  Does.of_viewM 0 fuel hs ρ he (by simp [hc, hq, idM]) hok
/-- FROM A VIEW: a contract -/
theorem Ret.of_view (fuel : Nat) (hs : List CH) (ρ : List Nat) {f : FuncId} {args : List AV} {r : AV} {blks : List Blk} {ps : List Prop}
    (he : viewB ρ (evBody P (ev P G fuel) f args ⟨.e, 0⟩ hs) = some (.ret (ren ρ 4 r), blks.map (fun b => some (renB ρ b).ob), ps))
    (hc : okR ρ r blks = true) (hok : allOk ps) : Ret P G f args r blks := by
  cases hr : evBody P (ev P G fuel) f args ⟨.e, 0⟩ hs with
  | none => rw [hr] at he; cases he
  | some x =>
    obtain ⟨⟨co, h', rest⟩, ps'⟩ := x
    rw [hr] at he
    simp only [viewB, Option.some.injEq, Prod.mk.injEq] at he
    obtain ⟨rfl, h1, rfl⟩ := he
    exact Ret.of_body ρ hr hok rfl (blkEqs_of h1) hc
end Go.Proofs.YtnlaiahcemckkaaGreatDoor.Av
