import Derived.Test.YtabjlmlfmafllaaAvZ
import Derived.Test.YtabjlmlfmafllaaD0
set_option linter.unusedVariables false
set_option linter.unusedSimpArgs false
set_option maxHeartbeats 4000000
set_option maxRecDepth 100000
namespace Go.Proofs.Ytabjlmlfmafllaa.Av
open Go Go.Proofs
def Tapi_Window.wf (x : Tapi_Window) : Prop := (InR .i64 x.Days) ∧ (InR .i64 x.From) ∧ (InR .i64 x.To)
theorem Tapi_Window.reads (n : Nat) : Reads Try.prog (n + 2) 39 Tapi_Window.enc Tapi_Window.wf := fun c h => by
  have h := hasT_struct Try.underlying39 h
  obtain ⟨a0, b0, h0, g0, h⟩ := h
  obtain ⟨a1, b1, h1, g1, h⟩ := h
  obtain ⟨a2, b2, h2, g2, h⟩ := h
  have e := h
  obtain ⟨x0, e0, w0⟩ := ((reads_int Try.underlying3) : Reads Try.prog (n + 1) 3 (fun z : Int => [.int .i64 z]) (InR .i64)) _ g0
  obtain ⟨x1, e1, w1⟩ := ((reads_int Try.underlying3) : Reads Try.prog (n + 1) 3 (fun z : Int => [.int .i64 z]) (InR .i64)) _ g1
  obtain ⟨x2, e2, w2⟩ := ((reads_int Try.underlying3) : Reads Try.prog (n + 1) 3 (fun z : Int => [.int .i64 z]) (InR .i64)) _ g2
  simp only [HasFs] at e
  subst e e0 e1 e2
  subst h2
  subst h1
  subst h0
  exact ⟨⟨x0, x1, x2⟩, rfl, w0, w1, w2⟩
def Tapi_Discount.wf (x : Tapi_Discount) : Prop := (swf x.Name) ∧ (InR .i64 x.Kind) ∧ (InR .i64 x.Amount) ∧ (swf x.Group) ∧ (swf x.System) ∧ (InR .i64 x.Class) ∧ (Tapi_Window.wf x.Window) ∧ (InR .i64 x.Least)
theorem Tapi_Discount.reads (n : Nat) : Reads Try.prog (n + 3) 41 Tapi_Discount.enc Tapi_Discount.wf := fun c h => by
  have h := hasT_struct Try.underlying41 h
  obtain ⟨a0, b0, h0, g0, h⟩ := h
  obtain ⟨a1, b1, h1, g1, h⟩ := h
  obtain ⟨a2, b2, h2, g2, h⟩ := h
  obtain ⟨a3, b3, h3, g3, h⟩ := h
  obtain ⟨a4, b4, h4, g4, h⟩ := h
  obtain ⟨a5, b5, h5, g5, h⟩ := h
  obtain ⟨a6, b6, h6, g6, h⟩ := h
  obtain ⟨a7, b7, h7, g7, h⟩ := h
  have e := h
  obtain ⟨x0, e0, w0⟩ := ((reads_str Try.underlying9) : Reads Try.prog (n + 2) 9 (fun s : List UInt8 => [.str s]) swf) _ g0
  obtain ⟨x1, e1, w1⟩ := ((reads_int Try.underlying3) : Reads Try.prog (n + 2) 3 (fun z : Int => [.int .i64 z]) (InR .i64)) _ g1
  obtain ⟨x2, e2, w2⟩ := ((reads_int Try.underlying3) : Reads Try.prog (n + 2) 3 (fun z : Int => [.int .i64 z]) (InR .i64)) _ g2
  obtain ⟨x3, e3, w3⟩ := ((reads_str Try.underlying9) : Reads Try.prog (n + 2) 9 (fun s : List UInt8 => [.str s]) swf) _ g3
  obtain ⟨x4, e4, w4⟩ := ((reads_str Try.underlying9) : Reads Try.prog (n + 2) 9 (fun s : List UInt8 => [.str s]) swf) _ g4
  obtain ⟨x5, e5, w5⟩ := ((reads_int Try.underlying3) : Reads Try.prog (n + 2) 3 (fun z : Int => [.int .i64 z]) (InR .i64)) _ g5
  obtain ⟨x6, e6, w6⟩ := ((Tapi_Window.reads _) : Reads Try.prog (n + 2) 39 Tapi_Window.enc Tapi_Window.wf) _ g6
  obtain ⟨x7, e7, w7⟩ := ((reads_int Try.underlying3) : Reads Try.prog (n + 2) 3 (fun z : Int => [.int .i64 z]) (InR .i64)) _ g7
  simp only [HasFs] at e
  subst e e0 e1 e2 e3 e4 e5 e6 e7
  subst h7
  subst h6
  subst h5
  subst h4
  subst h3
  subst h2
  subst h1
  subst h0
  exact ⟨⟨x0, x1, x2, x3, x4, x5, x6, x7⟩, rfl, w0, w1, w2, w3, w4, w5, w6, w7⟩
end Go.Proofs.Ytabjlmlfmafllaa.Av
