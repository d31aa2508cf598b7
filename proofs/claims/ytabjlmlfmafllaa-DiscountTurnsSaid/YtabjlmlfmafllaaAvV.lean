/- Evaluations, looked at from outside. -/
import Derived.Test.YtabjlmlfmafllaaAvU
set_option linter.unusedVariables false
set_option linter.unusedSimpArgs false
namespace Go.Proofs.Ytabjlmlfmafllaa.Av
open Go.RowKit

variable {P : Program} {G : Nat → AV}

/-- a part of a piece of code: 0 the first, 1 the second -/
def codeAt : List Nat → Code → Code
  | [], c => c
  | k :: l, c =>
    match c with
    | .seq a b => match k with | 0 => codeAt l a | _ => codeAt l b
    | .cond _ a b => match k with | 0 => codeAt l a | _ => codeAt l b
    | .block _ b => codeAt l b
    | .loop b => codeAt l b
    | .scope b => codeAt l b
    | c => c
def bodyAt (P : Program) (f : FuncId) (l : List Nat) : Code := match (P.funcs[f]?).bind (·.body) with | some c => codeAt l c | none => .skip

def viewS (ks ids : List Nat) (r : W (AEx × St × List CH)) : Option (AEx × List (Option AV) × List (Option Ob) × Nat × Bool × List Prop) :=
  match r with
  | some ((e, s, _), ps) => some (e, ks.map s.tm.get, ids.map s.hp.m.get, s.nt, s.df.isEmpty, ps)
  | none => none
def viewB (ids : List Nat) (r : W (CO × Hp × List CH)) : Option (CO × List (Option Ob) × List Prop) :=
  match r with
  | some ((c, h, _), ps) => some (c, ids.map h.m.get, ps)
  | none => none

theorem tmEqs_of {t : Tr AV} {r : List Nat} : ∀ {l : List (Nat × AV)}, (l.map (·.1)).map t.get = l.map (fun x => some (ren r 4 x.2)) → tmEqs t r l
  | [], _ => trivial
  | (k, v) :: l, h => by
    simp only [List.map_cons, List.cons.injEq] at h
    exact ⟨h.1, tmEqs_of h.2⟩
theorem blkEqs_of {m : Tr Ob} {r : List Nat} : ∀ {l : List Nat} {bs : List Blk}, l.map m.get = bs.map (fun b => some (renB r b).ob) → blkEqs m r l bs
  | [], [], _ => trivial
  | i :: l, b :: bs, h => by
    simp only [List.map_cons, List.cons.injEq] at h
    exact ⟨h.1, blkEqs_of h.2⟩
  | [], _ :: _, h => by simp at h
  | _ :: _, [], h => by simp at h


/-- FROM A VIEW: what a piece of code does to a plain state -/
theorem Does.of_viewM (m fuel : Nat) (hs : List CH) (ρ : List Nat) {c : Code} {s : St} {e : AEx} {nt : Nat} {tms : List (Nat × AV)} {blks : List Blk} {ps : List Prop}
    (he : viewS (tms.map (·.1)) ρ (selfT (ev P G fuel) m c s hs) = some (e, tms.map (fun x => some (ren ρ 4 x.2)), blks.map (fun b => some (renB ρ b).ob), nt, true, ps))
    (hc : (okS ρ tms blks && idM ρ m && e.quiet) = true) (hok : allOk ps) : Does P G m c s e (S nt tms blks) := by
  cases hr : selfT (ev P G fuel) m c s hs with
  | none => rw [hr] at he; cases he
  | some x =>
    obtain ⟨⟨e', s', rest⟩, ps'⟩ := x
    rw [hr] at he
    simp only [viewS, Option.some.injEq, Prod.mk.injEq] at he
    obtain ⟨rfl, h1, h2, h3, h4, rfl⟩ := he
    exact (selfT_ok (ev_ok P G fuel) m c s hs _ _ hr hok : Does P G m c s e' s').post (fun v hv => by subst hv; simp [AEx.quiet] at hc) (Sub.of_renM ρ h3 (List.isEmpty_iff.1 h4) (tmEqs_of h1) (blkEqs_of h2) (by simp only [Bool.and_eq_true] at hc ⊢; simp only [okS, Bool.and_eq_true] at hc; exact hc.1.1) m (idM_spec (by simp only [Bool.and_eq_true] at hc; exact hc.1.2)))

theorem Does.of_view (fuel : Nat) (hs : List CH) (ρ : List Nat) {c : Code} {s : St} {e : AEx} {nt : Nat} {tms : List (Nat × AV)} {blks : List Blk} {ps : List Prop}
    (he : viewS (tms.map (·.1)) ρ (selfT (ev P G fuel) 0 c s hs) = some (e, tms.map (fun x => some (ren ρ 4 x.2)), blks.map (fun b => some (renB ρ b).ob), nt, true, ps))
    (hc : okS ρ tms blks = true) (hq : e.quiet = true) (hok : allOk ps) : Does P G 0 c s e (S nt tms blks) :=
  Does.of_viewM 0 fuel hs ρ he (by simp [hc, hq, idM]) hok

/-- FROM A VIEW: a contract -/
theorem Ret.of_view (fuel : Nat) (hs : List CH) (ρ : List Nat) {f : FuncId} {args : List AV} {r : AV} {blks : List Blk} {ps : List Prop}
    (he : viewB ρ (evBody P (ev P G fuel) f args ⟨.e, 0⟩ hs) = some (.ret (ren ρ 4 r), blks.map (fun b => some (renB ρ b).ob), ps))
    (hc : okR ρ r blks = true) (hok : allOk ps) : Ret P G f args r blks := by
  cases hr : evBody P (ev P G fuel) f args ⟨.e, 0⟩ hs with
  | none => rw [hr] at he; cases he
  | some x =>
    obtain ⟨⟨co, h', rest⟩, ps'⟩ := x
    rw [hr] at he
    simp only [viewB, Option.some.injEq, Prod.mk.injEq] at he
    obtain ⟨rfl, h1, rfl⟩ := he
    exact Ret.of_body ρ hr hok rfl (blkEqs_of h1) hc

/-- plain states of one meaning -/
theorem Does.pre_ren {nt : Nat} {tms tms' : List (Nat × AV)} {blks : List Blk} {c : Code} {e : AEx} {s' : St} (h : Does P G 0 c (S nt tms' blks) e s') (he : tms = tms') : Does P G 0 c (S nt tms blks) e s' := he ▸ h
end Go.Proofs.Ytabjlmlfmafllaa.Av
