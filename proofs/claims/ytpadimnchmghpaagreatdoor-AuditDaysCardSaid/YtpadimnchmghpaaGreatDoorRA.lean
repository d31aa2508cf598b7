import Derived.Test.YtpadimnchmghpaaGreatDoorM1
open Prod (fst)
open Int (tdiv tmod)
set_option maxHeartbeats 4000000
set_option maxRecDepth 100000
set_option linter.unusedVariables false
set_option linter.unusedSimpArgs false
namespace Go.Proofs.YtpadimnchmghpaaGreatDoor.Av
open Go Go.Proofs
def TL.wf (x : TL) : Prop := (swf x.Text) ∧ (InR .i64 x.Cents)
theorem TL.reads (n : Nat) : Reads Tryz.prog (n + 2) 48 TL.enc TL.wf := fun c h => by
 have h := hasT_struct Tryz.underlying48 h
 obtain ⟨a0, b0, h0, g0, h⟩ := h
 obtain ⟨a1, b1, h1, g1, h⟩ := h
 have e := h
 obtain ⟨x0, e0, w0⟩ := ((reads_str Tryz.underlying9) : Reads Tryz.prog (n + 1) 9 (fun s : List UInt8 => [.str s]) swf) _ g0
 obtain ⟨x1, e1, w1⟩ := ((reads_int Tryz.underlying3) : Reads Tryz.prog (n + 1) 3 (fun z : Int => [.int .i64 z]) (InR .i64)) _ g1
 simp only [HasFs] at e
 subst e e0 e1
 subst h1
 subst h0
 exact ⟨⟨x0, x1⟩, rfl, w0, w1⟩
def TC.wf (x : TC) : Prop := (swf x.Key) ∧ (swf x.Vehicle) ∧ (swf x.System) ∧ (InR .i64 x.Class) ∧ (InR .i64 x.Time) ∧ (lwf TL.wf x.Lines) ∧ (InR .i64 x.Cents)
theorem TC.reads (n : Nat) : Reads Tryz.prog (n + 4) 35 TC.enc TC.wf := fun c h => by
 have h := hasT_struct Tryz.underlying35 h
 obtain ⟨a0, b0, h0, g0, h⟩ := h
 obtain ⟨a1, b1, h1, g1, h⟩ := h
 obtain ⟨a2, b2, h2, g2, h⟩ := h
 obtain ⟨a3, b3, h3, g3, h⟩ := h
 obtain ⟨a4, b4, h4, g4, h⟩ := h
 obtain ⟨a5, b5, h5, g5, h⟩ := h
 obtain ⟨a6, b6, h6, g6, h⟩ := h
 have e := h
 obtain ⟨x0, e0, w0⟩ := ((reads_str Tryz.underlying9) : Reads Tryz.prog (n + 3) 9 (fun s : List UInt8 => [.str s]) swf) _ g0
 obtain ⟨x1, e1, w1⟩ := ((reads_str Tryz.underlying9) : Reads Tryz.prog (n + 3) 9 (fun s : List UInt8 => [.str s]) swf) _ g1
 obtain ⟨x2, e2, w2⟩ := ((reads_str Tryz.underlying9) : Reads Tryz.prog (n + 3) 9 (fun s : List UInt8 => [.str s]) swf) _ g2
 obtain ⟨x3, e3, w3⟩ := ((reads_int Tryz.underlying3) : Reads Tryz.prog (n + 3) 3 (fun z : Int => [.int .i64 z]) (InR .i64)) _ g3
 obtain ⟨x4, e4, w4⟩ := ((reads_int Tryz.underlying3) : Reads Tryz.prog (n + 3) 3 (fun z : Int => [.int .i64 z]) (InR .i64)) _ g4
 obtain ⟨x5, e5, w5⟩ := ((reads_list Tryz.underlying33 (TL.reads _)) : Reads Tryz.prog (n + 3) 33 (lstf TL.enc) (lwf TL.wf)) _ g5
 obtain ⟨x6, e6, w6⟩ := ((reads_int Tryz.underlying3) : Reads Tryz.prog (n + 3) 3 (fun z : Int => [.int .i64 z]) (InR .i64)) _ g6
 simp only [HasFs] at e
 subst e e0 e1 e2 e3 e4 e5 e6
 subst h6
 subst h5
 subst h4
 subst h3
 subst h2
 subst h1
 subst h0
 exact ⟨⟨x0, x1, x2, x3, x4, x5, x6⟩, rfl, w0, w1, w2, w3, w4, w5, w6⟩
end Go.Proofs.YtpadimnchmghpaaGreatDoor.Av
