/- What the parts of a state read as. -/
import Derived.Test.YtalobodhbbkgdabDoorQ10
import Derived.Test.YtalobodhbbkgdabDoorAvYW
import Derived.Test.YtalobodhbbkgdabDoorRows
set_option linter.unusedVariables false
set_option linter.unusedSimpArgs false
set_option maxHeartbeats 4000000
set_option maxRecDepth 100000
namespace Go.Proofs.YtalobodhbbkgdabDoor.Av
open Go Go.Proofs Go.ChangeShapes Go.WideShapes Go.ChangeAt Go.RowKit Go.Proofs.YtalobodhbbkgdabDoor
def Tapi_Point.wf (x : Tapi_Point) : Prop := (swfW x.Name) ∧ (InR .i64 x.Kind) ∧ (swfW x.System)
theorem Tapi_Point.reads (n : Nat) : ReadsW Tryd.prog (n + 2) 204 Tapi_Point.enc Tapi_Point.wf := fun c h => by
  have h := hasW_struct Tryd.underlying204 h
  obtain ⟨a0, b0, h0, g0, h⟩ := h
  obtain ⟨a1, b1, h1, g1, h⟩ := h
  obtain ⟨a2, b2, h2, g2, h⟩ := h
  have e := h
  obtain ⟨x0, e0, w0⟩ := ((readsW_str Tryd.underlying9) : ReadsW Tryd.prog (n + 1) 9 (fun s : List UInt8 => [.str s]) swfW) _ g0
  obtain ⟨x1, e1, w1⟩ := ((readsW_int Tryd.underlying3) : ReadsW Tryd.prog (n + 1) 3 (fun z : Int => [.int .i64 z]) (InR .i64)) _ g1
  obtain ⟨x2, e2, w2⟩ := ((readsW_str Tryd.underlying9) : ReadsW Tryd.prog (n + 1) 9 (fun s : List UInt8 => [.str s]) swfW) _ g2
  simp only [HasFs] at e
  subst e e0 e1 e2
  subst h2
  subst h1
  subst h0
  exact ⟨⟨x0, x1, x2⟩, rfl, w0, w1, w2⟩
def Tapi_Link.wf (x : Tapi_Link) : Prop := (swfW x.From) ∧ (swfW x.To) ∧ (InR .i64 x.Min) ∧ (InR .i64 x.Max)
theorem Tapi_Link.reads (n : Nat) : ReadsW Tryd.prog (n + 2) 206 Tapi_Link.enc Tapi_Link.wf := fun c h => by
  have h := hasW_struct Tryd.underlying206 h
  obtain ⟨a0, b0, h0, g0, h⟩ := h
  obtain ⟨a1, b1, h1, g1, h⟩ := h
  obtain ⟨a2, b2, h2, g2, h⟩ := h
  obtain ⟨a3, b3, h3, g3, h⟩ := h
  have e := h
  obtain ⟨x0, e0, w0⟩ := ((readsW_str Tryd.underlying9) : ReadsW Tryd.prog (n + 1) 9 (fun s : List UInt8 => [.str s]) swfW) _ g0
  obtain ⟨x1, e1, w1⟩ := ((readsW_str Tryd.underlying9) : ReadsW Tryd.prog (n + 1) 9 (fun s : List UInt8 => [.str s]) swfW) _ g1
  obtain ⟨x2, e2, w2⟩ := ((readsW_int Tryd.underlying3) : ReadsW Tryd.prog (n + 1) 3 (fun z : Int => [.int .i64 z]) (InR .i64)) _ g2
  obtain ⟨x3, e3, w3⟩ := ((readsW_int Tryd.underlying3) : ReadsW Tryd.prog (n + 1) 3 (fun z : Int => [.int .i64 z]) (InR .i64)) _ g3
  simp only [HasFs] at e
  subst e e0 e1 e2 e3
  subst h3
  subst h2
  subst h1
  subst h0
  exact ⟨⟨x0, x1, x2, x3⟩, rfl, w0, w1, w2, w3⟩
def Tapi_Network.wf (x : Tapi_Network) : Prop := (lwf Tapi_Point.wf x.Points) ∧ (lwf Tapi_Link.wf x.Links)
theorem Tapi_Network.reads (n : Nat) : ReadsW Tryd.prog (n + 4) 25 Tapi_Network.enc Tapi_Network.wf := fun c h => by
  have h := hasW_struct Tryd.underlying25 h
  obtain ⟨a0, b0, h0, g0, h⟩ := h
  obtain ⟨a1, b1, h1, g1, h⟩ := h
  have e := h
  obtain ⟨x0, e0, w0⟩ := ((readsW_list Tryd.underlying22 (Tapi_Point.reads _)) : ReadsW Tryd.prog (n + 3) 22 (lstf Tapi_Point.enc) (lwf Tapi_Point.wf)) _ g0
  obtain ⟨x1, e1, w1⟩ := ((readsW_list Tryd.underlying23 (Tapi_Link.reads _)) : ReadsW Tryd.prog (n + 3) 23 (lstf Tapi_Link.enc) (lwf Tapi_Link.wf)) _ g1
  simp only [HasFs] at e
  subst e e0 e1
  subst h1
  subst h0
  exact ⟨⟨x0, x1⟩, rfl, w0, w1⟩
def Tapi_System.wf (x : Tapi_System) : Prop := (swfW x.Name) ∧ True ∧ (InR .i64 x.Most)
theorem Tapi_System.reads (n : Nat) : ReadsW Tryd.prog (n + 2) 208 Tapi_System.enc Tapi_System.wf := fun c h => by
  have h := hasW_struct Tryd.underlying208 h
  obtain ⟨a0, b0, h0, g0, h⟩ := h
  obtain ⟨a1, b1, h1, g1, h⟩ := h
  obtain ⟨a2, b2, h2, g2, h⟩ := h
  have e := h
  obtain ⟨x0, e0, w0⟩ := ((readsW_str Tryd.underlying9) : ReadsW Tryd.prog (n + 1) 9 (fun s : List UInt8 => [.str s]) swfW) _ g0
  obtain ⟨x1, e1, w1⟩ := ((readsW_bool Tryd.underlying4) : ReadsW Tryd.prog (n + 1) 4 (fun b : Bool => [.bool b]) (fun _ => True)) _ g1
  obtain ⟨x2, e2, w2⟩ := ((readsW_int Tryd.underlying3) : ReadsW Tryd.prog (n + 1) 3 (fun z : Int => [.int .i64 z]) (InR .i64)) _ g2
  simp only [HasFs] at e
  subst e e0 e1 e2
  subst h2
  subst h1
  subst h0
  exact ⟨⟨x0, x1, x2⟩, rfl, w0, w1, w2⟩
def Tapi_Topology.wf (x : Tapi_Topology) : Prop := (Tapi_Network.wf x.Net) ∧ (lwf Tapi_System.wf x.Systems)
theorem Tapi_Topology.reads (n : Nat) : ReadsW Tryd.prog (n + 5) 28 Tapi_Topology.enc Tapi_Topology.wf := fun c h => by
  have h := hasW_struct Tryd.underlying28 h
  obtain ⟨a0, b0, h0, g0, h⟩ := h
  obtain ⟨a1, b1, h1, g1, h⟩ := h
  have e := h
  obtain ⟨x0, e0, w0⟩ := ((Tapi_Network.reads _) : ReadsW Tryd.prog (n + 4) 25 Tapi_Network.enc Tapi_Network.wf) _ g0
  obtain ⟨x1, e1, w1⟩ := ((readsW_list Tryd.underlying26 (Tapi_System.reads _)) : ReadsW Tryd.prog (n + 4) 26 (lstf Tapi_System.enc) (lwf Tapi_System.wf)) _ g1
  simp only [HasFs] at e
  subst e e0 e1
  subst h1
  subst h0
  exact ⟨⟨x0, x1⟩, rfl, w0, w1⟩
def Tapi_Offset.wf (x : Tapi_Offset) : Prop := (InR .i64 x.From) ∧ (InR .i64 x.Delta)
theorem Tapi_Offset.reads (n : Nat) : ReadsW Tryd.prog (n + 2) 246 Tapi_Offset.enc Tapi_Offset.wf := fun c h => by
  have h := hasW_struct Tryd.underlying246 h
  obtain ⟨a0, b0, h0, g0, h⟩ := h
  obtain ⟨a1, b1, h1, g1, h⟩ := h
  have e := h
  obtain ⟨x0, e0, w0⟩ := ((readsW_int Tryd.underlying3) : ReadsW Tryd.prog (n + 1) 3 (fun z : Int => [.int .i64 z]) (InR .i64)) _ g0
  obtain ⟨x1, e1, w1⟩ := ((readsW_int Tryd.underlying3) : ReadsW Tryd.prog (n + 1) 3 (fun z : Int => [.int .i64 z]) (InR .i64)) _ g1
  simp only [HasFs] at e
  subst e e0 e1
  subst h1
  subst h0
  exact ⟨⟨x0, x1⟩, rfl, w0, w1⟩
def Tapi_Interval.wf (x : Tapi_Interval) : Prop := (InR .i64 x.From) ∧ (InR .i64 x.To)
theorem Tapi_Interval.reads (n : Nat) : ReadsW Tryd.prog (n + 2) 124 Tapi_Interval.enc Tapi_Interval.wf := fun c h => by
  have h := hasW_struct Tryd.underlying124 h
  obtain ⟨a0, b0, h0, g0, h⟩ := h
  obtain ⟨a1, b1, h1, g1, h⟩ := h
  have e := h
  obtain ⟨x0, e0, w0⟩ := ((readsW_int Tryd.underlying3) : ReadsW Tryd.prog (n + 1) 3 (fun z : Int => [.int .i64 z]) (InR .i64)) _ g0
  obtain ⟨x1, e1, w1⟩ := ((readsW_int Tryd.underlying3) : ReadsW Tryd.prog (n + 1) 3 (fun z : Int => [.int .i64 z]) (InR .i64)) _ g1
  simp only [HasFs] at e
  subst e e0 e1
  subst h1
  subst h0
  exact ⟨⟨x0, x1⟩, rfl, w0, w1⟩
def Tapi_Device.wf (x : Tapi_Device) : Prop := (swfW x.Name) ∧ (swfW x.Point) ∧ (InR .i64 x.Kind) ∧ (InR .i64 x.Lane) ∧ (lwf Tapi_Offset.wf x.Offsets) ∧ (lwf Tapi_Interval.wf x.Down)
theorem Tapi_Device.reads (n : Nat) : ReadsW Tryd.prog (n + 4) 211 Tapi_Device.enc Tapi_Device.wf := fun c h => by
  have h := hasW_struct Tryd.underlying211 h
  obtain ⟨a0, b0, h0, g0, h⟩ := h
  obtain ⟨a1, b1, h1, g1, h⟩ := h
  obtain ⟨a2, b2, h2, g2, h⟩ := h
  obtain ⟨a3, b3, h3, g3, h⟩ := h
  obtain ⟨a4, b4, h4, g4, h⟩ := h
  obtain ⟨a5, b5, h5, g5, h⟩ := h
  have e := h
  obtain ⟨x0, e0, w0⟩ := ((readsW_str Tryd.underlying9) : ReadsW Tryd.prog (n + 3) 9 (fun s : List UInt8 => [.str s]) swfW) _ g0
  obtain ⟨x1, e1, w1⟩ := ((readsW_str Tryd.underlying9) : ReadsW Tryd.prog (n + 3) 9 (fun s : List UInt8 => [.str s]) swfW) _ g1
  obtain ⟨x2, e2, w2⟩ := ((readsW_int Tryd.underlying3) : ReadsW Tryd.prog (n + 3) 3 (fun z : Int => [.int .i64 z]) (InR .i64)) _ g2
  obtain ⟨x3, e3, w3⟩ := ((readsW_int Tryd.underlying3) : ReadsW Tryd.prog (n + 3) 3 (fun z : Int => [.int .i64 z]) (InR .i64)) _ g3
  obtain ⟨x4, e4, w4⟩ := ((readsW_list Tryd.underlying209 (Tapi_Offset.reads _)) : ReadsW Tryd.prog (n + 3) 209 (lstf Tapi_Offset.enc) (lwf Tapi_Offset.wf)) _ g4
  obtain ⟨x5, e5, w5⟩ := ((readsW_list Tryd.underlying166 (Tapi_Interval.reads _)) : ReadsW Tryd.prog (n + 3) 166 (lstf Tapi_Interval.enc) (lwf Tapi_Interval.wf)) _ g5
  simp only [HasFs] at e
  subst e e0 e1 e2 e3 e4 e5
  subst h5
  subst h4
  subst h3
  subst h2
  subst h1
  subst h0
  exact ⟨⟨x0, x1, x2, x3, x4, x5⟩, rfl, w0, w1, w2, w3, w4, w5⟩
def Tapi_ClassRule.wf (x : Tapi_ClassRule) : Prop := (InR .i64 x.From) ∧ (InR .i64 x.To) ∧ (InR .i64 x.Class)
theorem Tapi_ClassRule.reads (n : Nat) : ReadsW Tryd.prog (n + 2) 213 Tapi_ClassRule.enc Tapi_ClassRule.wf := fun c h => by
  have h := hasW_struct Tryd.underlying213 h
  obtain ⟨a0, b0, h0, g0, h⟩ := h
  obtain ⟨a1, b1, h1, g1, h⟩ := h
  obtain ⟨a2, b2, h2, g2, h⟩ := h
  have e := h
  obtain ⟨x0, e0, w0⟩ := ((readsW_int Tryd.underlying3) : ReadsW Tryd.prog (n + 1) 3 (fun z : Int => [.int .i64 z]) (InR .i64)) _ g0
  obtain ⟨x1, e1, w1⟩ := ((readsW_int Tryd.underlying3) : ReadsW Tryd.prog (n + 1) 3 (fun z : Int => [.int .i64 z]) (InR .i64)) _ g1
  obtain ⟨x2, e2, w2⟩ := ((readsW_int Tryd.underlying3) : ReadsW Tryd.prog (n + 1) 3 (fun z : Int => [.int .i64 z]) (InR .i64)) _ g2
  simp only [HasFs] at e
  subst e e0 e1 e2
  subst h2
  subst h1
  subst h0
  exact ⟨⟨x0, x1, x2⟩, rfl, w0, w1, w2⟩
def Tapi_TagState.wf (x : Tapi_TagState) : Prop := (swfW x.Tag) ∧ (InR .i64 x.From) ∧ (InR .i64 x.State)
theorem Tapi_TagState.reads (n : Nat) : ReadsW Tryd.prog (n + 2) 215 Tapi_TagState.enc Tapi_TagState.wf := fun c h => by
  have h := hasW_struct Tryd.underlying215 h
  obtain ⟨a0, b0, h0, g0, h⟩ := h
  obtain ⟨a1, b1, h1, g1, h⟩ := h
  obtain ⟨a2, b2, h2, g2, h⟩ := h
  have e := h
  obtain ⟨x0, e0, w0⟩ := ((readsW_str Tryd.underlying9) : ReadsW Tryd.prog (n + 1) 9 (fun s : List UInt8 => [.str s]) swfW) _ g0
  obtain ⟨x1, e1, w1⟩ := ((readsW_int Tryd.underlying3) : ReadsW Tryd.prog (n + 1) 3 (fun z : Int => [.int .i64 z]) (InR .i64)) _ g1
  obtain ⟨x2, e2, w2⟩ := ((readsW_int Tryd.underlying3) : ReadsW Tryd.prog (n + 1) 3 (fun z : Int => [.int .i64 z]) (InR .i64)) _ g2
  simp only [HasFs] at e
  subst e e0 e1 e2
  subst h2
  subst h1
  subst h0
  exact ⟨⟨x0, x1, x2⟩, rfl, w0, w1, w2⟩
def Tapi_Window.wf (x : Tapi_Window) : Prop := (InR .i64 x.Days) ∧ (InR .i64 x.From) ∧ (InR .i64 x.To)
theorem Tapi_Window.reads (n : Nat) : ReadsW Tryd.prog (n + 2) 221 Tapi_Window.enc Tapi_Window.wf := fun c h => by
  have h := hasW_struct Tryd.underlying221 h
  obtain ⟨a0, b0, h0, g0, h⟩ := h
  obtain ⟨a1, b1, h1, g1, h⟩ := h
  obtain ⟨a2, b2, h2, g2, h⟩ := h
  have e := h
  obtain ⟨x0, e0, w0⟩ := ((readsW_int Tryd.underlying3) : ReadsW Tryd.prog (n + 1) 3 (fun z : Int => [.int .i64 z]) (InR .i64)) _ g0
  obtain ⟨x1, e1, w1⟩ := ((readsW_int Tryd.underlying3) : ReadsW Tryd.prog (n + 1) 3 (fun z : Int => [.int .i64 z]) (InR .i64)) _ g1
  obtain ⟨x2, e2, w2⟩ := ((readsW_int Tryd.underlying3) : ReadsW Tryd.prog (n + 1) 3 (fun z : Int => [.int .i64 z]) (InR .i64)) _ g2
  simp only [HasFs] at e
  subst e e0 e1 e2
  subst h2
  subst h1
  subst h0
  exact ⟨⟨x0, x1, x2⟩, rfl, w0, w1, w2⟩
def Tapi_Band.wf (x : Tapi_Band) : Prop := (swfW x.Name) ∧ (Tapi_Window.wf x.Window)
theorem Tapi_Band.reads (n : Nat) : ReadsW Tryd.prog (n + 3) 248 Tapi_Band.enc Tapi_Band.wf := fun c h => by
  have h := hasW_struct Tryd.underlying248 h
  obtain ⟨a0, b0, h0, g0, h⟩ := h
  obtain ⟨a1, b1, h1, g1, h⟩ := h
  have e := h
  obtain ⟨x0, e0, w0⟩ := ((readsW_str Tryd.underlying9) : ReadsW Tryd.prog (n + 2) 9 (fun s : List UInt8 => [.str s]) swfW) _ g0
  obtain ⟨x1, e1, w1⟩ := ((Tapi_Window.reads _) : ReadsW Tryd.prog (n + 2) 221 Tapi_Window.enc Tapi_Window.wf) _ g1
  simp only [HasFs] at e
  subst e e0 e1
  subst h1
  subst h0
  exact ⟨⟨x0, x1⟩, rfl, w0, w1⟩
def Tapi_Rate.wf (x : Tapi_Rate) : Prop := (swfW x.From) ∧ (swfW x.To) ∧ (InR .i64 x.Class) ∧ (swfW x.Band) ∧ (InR .i64 x.Cents)
theorem Tapi_Rate.reads (n : Nat) : ReadsW Tryd.prog (n + 2) 250 Tapi_Rate.enc Tapi_Rate.wf := fun c h => by
  have h := hasW_struct Tryd.underlying250 h
  obtain ⟨a0, b0, h0, g0, h⟩ := h
  obtain ⟨a1, b1, h1, g1, h⟩ := h
  obtain ⟨a2, b2, h2, g2, h⟩ := h
  obtain ⟨a3, b3, h3, g3, h⟩ := h
  obtain ⟨a4, b4, h4, g4, h⟩ := h
  have e := h
  obtain ⟨x0, e0, w0⟩ := ((readsW_str Tryd.underlying9) : ReadsW Tryd.prog (n + 1) 9 (fun s : List UInt8 => [.str s]) swfW) _ g0
  obtain ⟨x1, e1, w1⟩ := ((readsW_str Tryd.underlying9) : ReadsW Tryd.prog (n + 1) 9 (fun s : List UInt8 => [.str s]) swfW) _ g1
  obtain ⟨x2, e2, w2⟩ := ((readsW_int Tryd.underlying3) : ReadsW Tryd.prog (n + 1) 3 (fun z : Int => [.int .i64 z]) (InR .i64)) _ g2
  obtain ⟨x3, e3, w3⟩ := ((readsW_str Tryd.underlying9) : ReadsW Tryd.prog (n + 1) 9 (fun s : List UInt8 => [.str s]) swfW) _ g3
  obtain ⟨x4, e4, w4⟩ := ((readsW_int Tryd.underlying3) : ReadsW Tryd.prog (n + 1) 3 (fun z : Int => [.int .i64 z]) (InR .i64)) _ g4
  simp only [HasFs] at e
  subst e e0 e1 e2 e3 e4
  subst h4
  subst h3
  subst h2
  subst h1
  subst h0
  exact ⟨⟨x0, x1, x2, x3, x4⟩, rfl, w0, w1, w2, w3, w4⟩
def Tapi_Tariff.wf (x : Tapi_Tariff) : Prop := (Tapi_Interval.wf x.Valid) ∧ (lwf Tapi_Band.wf x.Bands) ∧ (lwf Tapi_Rate.wf x.Rates)
theorem Tapi_Tariff.reads (n : Nat) : ReadsW Tryd.prog (n + 5) 219 Tapi_Tariff.enc Tapi_Tariff.wf := fun c h => by
  have h := hasW_struct Tryd.underlying219 h
  obtain ⟨a0, b0, h0, g0, h⟩ := h
  obtain ⟨a1, b1, h1, g1, h⟩ := h
  obtain ⟨a2, b2, h2, g2, h⟩ := h
  have e := h
  obtain ⟨x0, e0, w0⟩ := ((Tapi_Interval.reads _) : ReadsW Tryd.prog (n + 4) 124 Tapi_Interval.enc Tapi_Interval.wf) _ g0
  obtain ⟨x1, e1, w1⟩ := ((readsW_list Tryd.underlying216 (Tapi_Band.reads _)) : ReadsW Tryd.prog (n + 4) 216 (lstf Tapi_Band.enc) (lwf Tapi_Band.wf)) _ g1
  obtain ⟨x2, e2, w2⟩ := ((readsW_list Tryd.underlying217 (Tapi_Rate.reads _)) : ReadsW Tryd.prog (n + 4) 217 (lstf Tapi_Rate.enc) (lwf Tapi_Rate.wf)) _ g2
  simp only [HasFs] at e
  subst e e0 e1 e2
  subst h2
  subst h1
  subst h0
  exact ⟨⟨x0, x1, x2⟩, rfl, w0, w1, w2⟩
def Tapi_Scale.wf (x : Tapi_Scale) : Prop := (InR .i64 x.Period) ∧ (lwf (InR .i64) x.Up) ∧ (lwf (InR .i64) x.Down) ∧ (lwf (InR .i64) x.Parts)
theorem Tapi_Scale.reads (n : Nat) : ReadsW Tryd.prog (n + 3) 35 Tapi_Scale.enc Tapi_Scale.wf := fun c h => by
  have h := hasW_struct Tryd.underlying35 h
  obtain ⟨a0, b0, h0, g0, h⟩ := h
  obtain ⟨a1, b1, h1, g1, h⟩ := h
  obtain ⟨a2, b2, h2, g2, h⟩ := h
  obtain ⟨a3, b3, h3, g3, h⟩ := h
  have e := h
  obtain ⟨x0, e0, w0⟩ := ((readsW_int Tryd.underlying3) : ReadsW Tryd.prog (n + 2) 3 (fun z : Int => [.int .i64 z]) (InR .i64)) _ g0
  obtain ⟨x1, e1, w1⟩ := ((readsW_list Tryd.underlying33 (readsW_int Tryd.underlying3)) : ReadsW Tryd.prog (n + 2) 33 (lstf (fun z : Int => [.int .i64 z])) (lwf (InR .i64))) _ g1
  obtain ⟨x2, e2, w2⟩ := ((readsW_list Tryd.underlying33 (readsW_int Tryd.underlying3)) : ReadsW Tryd.prog (n + 2) 33 (lstf (fun z : Int => [.int .i64 z])) (lwf (InR .i64))) _ g2
  obtain ⟨x3, e3, w3⟩ := ((readsW_list Tryd.underlying33 (readsW_int Tryd.underlying3)) : ReadsW Tryd.prog (n + 2) 33 (lstf (fun z : Int => [.int .i64 z])) (lwf (InR .i64))) _ g3
  simp only [HasFs] at e
  subst e e0 e1 e2 e3
  subst h3
  subst h2
  subst h1
  subst h0
  exact ⟨⟨x0, x1, x2, x3⟩, rfl, w0, w1, w2, w3⟩
def Tapi_Discount.wf (x : Tapi_Discount) : Prop := (swfW x.Name) ∧ (InR .i64 x.Kind) ∧ (InR .i64 x.Amount) ∧ (swfW x.Group) ∧ (swfW x.System) ∧ (InR .i64 x.Class) ∧ (Tapi_Window.wf x.Window) ∧ (InR .i64 x.Least)
theorem Tapi_Discount.reads (n : Nat) : ReadsW Tryd.prog (n + 3) 223 Tapi_Discount.enc Tapi_Discount.wf := fun c h => by
  have h := hasW_struct Tryd.underlying223 h
  obtain ⟨a0, b0, h0, g0, h⟩ := h
  obtain ⟨a1, b1, h1, g1, h⟩ := h
  obtain ⟨a2, b2, h2, g2, h⟩ := h
  obtain ⟨a3, b3, h3, g3, h⟩ := h
  obtain ⟨a4, b4, h4, g4, h⟩ := h
  obtain ⟨a5, b5, h5, g5, h⟩ := h
  obtain ⟨a6, b6, h6, g6, h⟩ := h
  obtain ⟨a7, b7, h7, g7, h⟩ := h
  have e := h
  obtain ⟨x0, e0, w0⟩ := ((readsW_str Tryd.underlying9) : ReadsW Tryd.prog (n + 2) 9 (fun s : List UInt8 => [.str s]) swfW) _ g0
  obtain ⟨x1, e1, w1⟩ := ((readsW_int Tryd.underlying3) : ReadsW Tryd.prog (n + 2) 3 (fun z : Int => [.int .i64 z]) (InR .i64)) _ g1
  obtain ⟨x2, e2, w2⟩ := ((readsW_int Tryd.underlying3) : ReadsW Tryd.prog (n + 2) 3 (fun z : Int => [.int .i64 z]) (InR .i64)) _ g2
  obtain ⟨x3, e3, w3⟩ := ((readsW_str Tryd.underlying9) : ReadsW Tryd.prog (n + 2) 9 (fun s : List UInt8 => [.str s]) swfW) _ g3
  obtain ⟨x4, e4, w4⟩ := ((readsW_str Tryd.underlying9) : ReadsW Tryd.prog (n + 2) 9 (fun s : List UInt8 => [.str s]) swfW) _ g4
  obtain ⟨x5, e5, w5⟩ := ((readsW_int Tryd.underlying3) : ReadsW Tryd.prog (n + 2) 3 (fun z : Int => [.int .i64 z]) (InR .i64)) _ g5
  obtain ⟨x6, e6, w6⟩ := ((Tapi_Window.reads _) : ReadsW Tryd.prog (n + 2) 221 Tapi_Window.enc Tapi_Window.wf) _ g6
  obtain ⟨x7, e7, w7⟩ := ((readsW_int Tryd.underlying3) : ReadsW Tryd.prog (n + 2) 3 (fun z : Int => [.int .i64 z]) (InR .i64)) _ g7
  simp only [HasFs] at e
  subst e e0 e1 e2 e3 e4 e5 e6 e7
  subst h7
  subst h6
  subst h5
  subst h4
  subst h3
  subst h2
  subst h1
  subst h0
  exact ⟨⟨x0, x1, x2, x3, x4, x5, x6, x7⟩, rfl, w0, w1, w2, w3, w4, w5, w6, w7⟩
def Tapi_Cap.wf (x : Tapi_Cap) : Prop := (swfW x.Name) ∧ (swfW x.System) ∧ (InR .i64 x.Days) ∧ (InR .i64 x.Cents)
theorem Tapi_Cap.reads (n : Nat) : ReadsW Tryd.prog (n + 2) 225 Tapi_Cap.enc Tapi_Cap.wf := fun c h => by
  have h := hasW_struct Tryd.underlying225 h
  obtain ⟨a0, b0, h0, g0, h⟩ := h
  obtain ⟨a1, b1, h1, g1, h⟩ := h
  obtain ⟨a2, b2, h2, g2, h⟩ := h
  obtain ⟨a3, b3, h3, g3, h⟩ := h
  have e := h
  obtain ⟨x0, e0, w0⟩ := ((readsW_str Tryd.underlying9) : ReadsW Tryd.prog (n + 1) 9 (fun s : List UInt8 => [.str s]) swfW) _ g0
  obtain ⟨x1, e1, w1⟩ := ((readsW_str Tryd.underlying9) : ReadsW Tryd.prog (n + 1) 9 (fun s : List UInt8 => [.str s]) swfW) _ g1
  obtain ⟨x2, e2, w2⟩ := ((readsW_int Tryd.underlying3) : ReadsW Tryd.prog (n + 1) 3 (fun z : Int => [.int .i64 z]) (InR .i64)) _ g2
  obtain ⟨x3, e3, w3⟩ := ((readsW_int Tryd.underlying3) : ReadsW Tryd.prog (n + 1) 3 (fun z : Int => [.int .i64 z]) (InR .i64)) _ g3
  simp only [HasFs] at e
  subst e e0 e1 e2 e3
  subst h3
  subst h2
  subst h1
  subst h0
  exact ⟨⟨x0, x1, x2, x3⟩, rfl, w0, w1, w2, w3⟩
def Tapi_Step.wf (x : Tapi_Step) : Prop := (InR .i64 x.Upto) ∧ (InR .i64 x.Unit) ∧ (InR .i64 x.Cents)
theorem Tapi_Step.reads (n : Nat) : ReadsW Tryd.prog (n + 2) 252 Tapi_Step.enc Tapi_Step.wf := fun c h => by
  have h := hasW_struct Tryd.underlying252 h
  obtain ⟨a0, b0, h0, g0, h⟩ := h
  obtain ⟨a1, b1, h1, g1, h⟩ := h
  obtain ⟨a2, b2, h2, g2, h⟩ := h
  have e := h
  obtain ⟨x0, e0, w0⟩ := ((readsW_int Tryd.underlying3) : ReadsW Tryd.prog (n + 1) 3 (fun z : Int => [.int .i64 z]) (InR .i64)) _ g0
  obtain ⟨x1, e1, w1⟩ := ((readsW_int Tryd.underlying3) : ReadsW Tryd.prog (n + 1) 3 (fun z : Int => [.int .i64 z]) (InR .i64)) _ g1
  obtain ⟨x2, e2, w2⟩ := ((readsW_int Tryd.underlying3) : ReadsW Tryd.prog (n + 1) 3 (fun z : Int => [.int .i64 z]) (InR .i64)) _ g2
  simp only [HasFs] at e
  subst e e0 e1 e2
  subst h2
  subst h1
  subst h0
  exact ⟨⟨x0, x1, x2⟩, rfl, w0, w1, w2⟩
def Tapi_Zone.wf (x : Tapi_Zone) : Prop := (swfW x.Name) ∧ (lwf Tapi_Window.wf x.Hours) ∧ (lwf Tapi_Step.wf x.Steps) ∧ (InR .i64 x.Grace) ∧ (InR .i64 x.Free) ∧ (InR .i64 x.DayMax) ∧ (InR .i64 x.MaxStay)
theorem Tapi_Zone.reads (n : Nat) : ReadsW Tryd.prog (n + 4) 229 Tapi_Zone.enc Tapi_Zone.wf := fun c h => by
  have h := hasW_struct Tryd.underlying229 h
  obtain ⟨a0, b0, h0, g0, h⟩ := h
  obtain ⟨a1, b1, h1, g1, h⟩ := h
  obtain ⟨a2, b2, h2, g2, h⟩ := h
  obtain ⟨a3, b3, h3, g3, h⟩ := h
  obtain ⟨a4, b4, h4, g4, h⟩ := h
  obtain ⟨a5, b5, h5, g5, h⟩ := h
  obtain ⟨a6, b6, h6, g6, h⟩ := h
  have e := h
  obtain ⟨x0, e0, w0⟩ := ((readsW_str Tryd.underlying9) : ReadsW Tryd.prog (n + 3) 9 (fun s : List UInt8 => [.str s]) swfW) _ g0
  obtain ⟨x1, e1, w1⟩ := ((readsW_list Tryd.underlying226 (Tapi_Window.reads _)) : ReadsW Tryd.prog (n + 3) 226 (lstf Tapi_Window.enc) (lwf Tapi_Window.wf)) _ g1
  obtain ⟨x2, e2, w2⟩ := ((readsW_list Tryd.underlying227 (Tapi_Step.reads _)) : ReadsW Tryd.prog (n + 3) 227 (lstf Tapi_Step.enc) (lwf Tapi_Step.wf)) _ g2
  obtain ⟨x3, e3, w3⟩ := ((readsW_int Tryd.underlying3) : ReadsW Tryd.prog (n + 3) 3 (fun z : Int => [.int .i64 z]) (InR .i64)) _ g3
  obtain ⟨x4, e4, w4⟩ := ((readsW_int Tryd.underlying3) : ReadsW Tryd.prog (n + 3) 3 (fun z : Int => [.int .i64 z]) (InR .i64)) _ g4
  obtain ⟨x5, e5, w5⟩ := ((readsW_int Tryd.underlying3) : ReadsW Tryd.prog (n + 3) 3 (fun z : Int => [.int .i64 z]) (InR .i64)) _ g5
  obtain ⟨x6, e6, w6⟩ := ((readsW_int Tryd.underlying3) : ReadsW Tryd.prog (n + 3) 3 (fun z : Int => [.int .i64 z]) (InR .i64)) _ g6
  simp only [HasFs] at e
  subst e e0 e1 e2 e3 e4 e5 e6
  subst h6
  subst h5
  subst h4
  subst h3
  subst h2
  subst h1
  subst h0
  exact ⟨⟨x0, x1, x2, x3, x4, x5, x6⟩, rfl, w0, w1, w2, w3, w4, w5, w6⟩
def Tapi_Permit.wf (x : Tapi_Permit) : Prop := (swfW x.Name) ∧ (swfW x.Zone) ∧ (lwf swfW x.Plates) ∧ (Tapi_Interval.wf x.Valid) ∧ (lwf Tapi_Window.wf x.Hours) ∧ (InR .i64 x.Most)
theorem Tapi_Permit.reads (n : Nat) : ReadsW Tryd.prog (n + 4) 231 Tapi_Permit.enc Tapi_Permit.wf := fun c h => by
  have h := hasW_struct Tryd.underlying231 h
  obtain ⟨a0, b0, h0, g0, h⟩ := h
  obtain ⟨a1, b1, h1, g1, h⟩ := h
  obtain ⟨a2, b2, h2, g2, h⟩ := h
  obtain ⟨a3, b3, h3, g3, h⟩ := h
  obtain ⟨a4, b4, h4, g4, h⟩ := h
  obtain ⟨a5, b5, h5, g5, h⟩ := h
  have e := h
  obtain ⟨x0, e0, w0⟩ := ((readsW_str Tryd.underlying9) : ReadsW Tryd.prog (n + 3) 9 (fun s : List UInt8 => [.str s]) swfW) _ g0
  obtain ⟨x1, e1, w1⟩ := ((readsW_str Tryd.underlying9) : ReadsW Tryd.prog (n + 3) 9 (fun s : List UInt8 => [.str s]) swfW) _ g1
  obtain ⟨x2, e2, w2⟩ := ((readsW_list Tryd.underlying145 (readsW_str Tryd.underlying9)) : ReadsW Tryd.prog (n + 3) 145 (lstf (fun s : List UInt8 => [.str s])) (lwf swfW)) _ g2
  obtain ⟨x3, e3, w3⟩ := ((Tapi_Interval.reads _) : ReadsW Tryd.prog (n + 3) 124 Tapi_Interval.enc Tapi_Interval.wf) _ g3
  obtain ⟨x4, e4, w4⟩ := ((readsW_list Tryd.underlying226 (Tapi_Window.reads _)) : ReadsW Tryd.prog (n + 3) 226 (lstf Tapi_Window.enc) (lwf Tapi_Window.wf)) _ g4
  obtain ⟨x5, e5, w5⟩ := ((readsW_int Tryd.underlying3) : ReadsW Tryd.prog (n + 3) 3 (fun z : Int => [.int .i64 z]) (InR .i64)) _ g5
  simp only [HasFs] at e
  subst e e0 e1 e2 e3 e4 e5
  subst h5
  subst h4
  subst h3
  subst h2
  subst h1
  subst h0
  exact ⟨⟨x0, x1, x2, x3, x4, x5⟩, rfl, w0, w1, w2, w3, w4, w5⟩
def Tapi_Owned.wf (x : Tapi_Owned) : Prop := (swfW x.Tag) ∧ (swfW x.Plate) ∧ (Tapi_Interval.wf x.Time)
theorem Tapi_Owned.reads (n : Nat) : ReadsW Tryd.prog (n + 3) 164 Tapi_Owned.enc Tapi_Owned.wf := fun c h => by
  have h := hasW_struct Tryd.underlying164 h
  obtain ⟨a0, b0, h0, g0, h⟩ := h
  obtain ⟨a1, b1, h1, g1, h⟩ := h
  obtain ⟨a2, b2, h2, g2, h⟩ := h
  have e := h
  obtain ⟨x0, e0, w0⟩ := ((readsW_str Tryd.underlying9) : ReadsW Tryd.prog (n + 2) 9 (fun s : List UInt8 => [.str s]) swfW) _ g0
  obtain ⟨x1, e1, w1⟩ := ((readsW_str Tryd.underlying9) : ReadsW Tryd.prog (n + 2) 9 (fun s : List UInt8 => [.str s]) swfW) _ g1
  obtain ⟨x2, e2, w2⟩ := ((Tapi_Interval.reads _) : ReadsW Tryd.prog (n + 2) 124 Tapi_Interval.enc Tapi_Interval.wf) _ g2
  simp only [HasFs] at e
  subst e e0 e1 e2
  subst h2
  subst h1
  subst h0
  exact ⟨⟨x0, x1, x2⟩, rfl, w0, w1, w2⟩
def Tapi_Refill.wf (x : Tapi_Refill) : Prop := (InR .i64 x.Below) ∧ (InR .i64 x.Cents) ∧ (InR .i64 x.Tries) ∧ (InR .i64 x.Wait)
theorem Tapi_Refill.reads (n : Nat) : ReadsW Tryd.prog (n + 2) 96 Tapi_Refill.enc Tapi_Refill.wf := fun c h => by
  have h := hasW_struct Tryd.underlying96 h
  obtain ⟨a0, b0, h0, g0, h⟩ := h
  obtain ⟨a1, b1, h1, g1, h⟩ := h
  obtain ⟨a2, b2, h2, g2, h⟩ := h
  obtain ⟨a3, b3, h3, g3, h⟩ := h
  have e := h
  obtain ⟨x0, e0, w0⟩ := ((readsW_int Tryd.underlying3) : ReadsW Tryd.prog (n + 1) 3 (fun z : Int => [.int .i64 z]) (InR .i64)) _ g0
  obtain ⟨x1, e1, w1⟩ := ((readsW_int Tryd.underlying3) : ReadsW Tryd.prog (n + 1) 3 (fun z : Int => [.int .i64 z]) (InR .i64)) _ g1
  obtain ⟨x2, e2, w2⟩ := ((readsW_int Tryd.underlying3) : ReadsW Tryd.prog (n + 1) 3 (fun z : Int => [.int .i64 z]) (InR .i64)) _ g2
  obtain ⟨x3, e3, w3⟩ := ((readsW_int Tryd.underlying3) : ReadsW Tryd.prog (n + 1) 3 (fun z : Int => [.int .i64 z]) (InR .i64)) _ g3
  simp only [HasFs] at e
  subst e e0 e1 e2 e3
  subst h3
  subst h2
  subst h1
  subst h0
  exact ⟨⟨x0, x1, x2, x3⟩, rfl, w0, w1, w2, w3⟩
def Tapi_Account.wf (x : Tapi_Account) : Prop := (swfW x.Name) ∧ (swfW x.Agency) ∧ True ∧ (lwf Tapi_Owned.wf x.Owned) ∧ (Tapi_Refill.wf x.Refill) ∧ True
theorem Tapi_Account.reads (n : Nat) : ReadsW Tryd.prog (n + 5) 98 Tapi_Account.enc Tapi_Account.wf := fun c h => by
  have h := hasW_struct Tryd.underlying98 h
  obtain ⟨a0, b0, h0, g0, h⟩ := h
  obtain ⟨a1, b1, h1, g1, h⟩ := h
  obtain ⟨a2, b2, h2, g2, h⟩ := h
  obtain ⟨a3, b3, h3, g3, h⟩ := h
  obtain ⟨a4, b4, h4, g4, h⟩ := h
  obtain ⟨a5, b5, h5, g5, h⟩ := h
  have e := h
  obtain ⟨x0, e0, w0⟩ := ((readsW_str Tryd.underlying9) : ReadsW Tryd.prog (n + 4) 9 (fun s : List UInt8 => [.str s]) swfW) _ g0
  obtain ⟨x1, e1, w1⟩ := ((readsW_str Tryd.underlying9) : ReadsW Tryd.prog (n + 4) 9 (fun s : List UInt8 => [.str s]) swfW) _ g1
  obtain ⟨x2, e2, w2⟩ := ((readsW_bool Tryd.underlying4) : ReadsW Tryd.prog (n + 4) 4 (fun b : Bool => [.bool b]) (fun _ => True)) _ g2
  obtain ⟨x3, e3, w3⟩ := ((readsW_list Tryd.underlying94 (Tapi_Owned.reads _)) : ReadsW Tryd.prog (n + 4) 94 (lstf Tapi_Owned.enc) (lwf Tapi_Owned.wf)) _ g3
  obtain ⟨x4, e4, w4⟩ := ((Tapi_Refill.reads _) : ReadsW Tryd.prog (n + 4) 96 Tapi_Refill.enc Tapi_Refill.wf) _ g4
  obtain ⟨x5, e5, w5⟩ := ((readsW_bool Tryd.underlying4) : ReadsW Tryd.prog (n + 4) 4 (fun b : Bool => [.bool b]) (fun _ => True)) _ g5
  simp only [HasFs] at e
  subst e e0 e1 e2 e3 e4 e5
  subst h5
  subst h4
  subst h3
  subst h2
  subst h1
  subst h0
  exact ⟨⟨x0, x1, x2, x3, x4, x5⟩, rfl, w0, w1, w2, w3, w4, w5⟩
def Tapi_Relief.wf (x : Tapi_Relief) : Prop := (InR .i64 x.Kind) ∧ (InR .i64 x.Part)
theorem Tapi_Relief.reads (n : Nat) : ReadsW Tryd.prog (n + 2) 233 Tapi_Relief.enc Tapi_Relief.wf := fun c h => by
  have h := hasW_struct Tryd.underlying233 h
  obtain ⟨a0, b0, h0, g0, h⟩ := h
  obtain ⟨a1, b1, h1, g1, h⟩ := h
  have e := h
  obtain ⟨x0, e0, w0⟩ := ((readsW_int Tryd.underlying3) : ReadsW Tryd.prog (n + 1) 3 (fun z : Int => [.int .i64 z]) (InR .i64)) _ g0
  obtain ⟨x1, e1, w1⟩ := ((readsW_int Tryd.underlying3) : ReadsW Tryd.prog (n + 1) 3 (fun z : Int => [.int .i64 z]) (InR .i64)) _ g1
  simp only [HasFs] at e
  subst e e0 e1
  subst h1
  subst h0
  exact ⟨⟨x0, x1⟩, rfl, w0, w1⟩
def Tapi_Law.wf (x : Tapi_Law) : Prop := (lwf (InR .i64) x.Days) ∧ (lwf (InR .i64) x.Fees) ∧ (InR .i64 x.Limit)
theorem Tapi_Law.reads (n : Nat) : ReadsW Tryd.prog (n + 3) 43 Tapi_Law.enc Tapi_Law.wf := fun c h => by
  have h := hasW_struct Tryd.underlying43 h
  obtain ⟨a0, b0, h0, g0, h⟩ := h
  obtain ⟨a1, b1, h1, g1, h⟩ := h
  obtain ⟨a2, b2, h2, g2, h⟩ := h
  have e := h
  obtain ⟨x0, e0, w0⟩ := ((readsW_list Tryd.underlying33 (readsW_int Tryd.underlying3)) : ReadsW Tryd.prog (n + 2) 33 (lstf (fun z : Int => [.int .i64 z])) (lwf (InR .i64))) _ g0
  obtain ⟨x1, e1, w1⟩ := ((readsW_list Tryd.underlying33 (readsW_int Tryd.underlying3)) : ReadsW Tryd.prog (n + 2) 33 (lstf (fun z : Int => [.int .i64 z])) (lwf (InR .i64))) _ g1
  obtain ⟨x2, e2, w2⟩ := ((readsW_int Tryd.underlying3) : ReadsW Tryd.prog (n + 2) 3 (fun z : Int => [.int .i64 z]) (InR .i64)) _ g2
  simp only [HasFs] at e
  subst e e0 e1 e2
  subst h2
  subst h1
  subst h0
  exact ⟨⟨x0, x1, x2⟩, rfl, w0, w1, w2⟩
def Tapi_Keeping.wf (x : Tapi_Keeping) : Prop := (InR .i64 x.Purpose) ∧ (InR .i64 x.Seconds) ∧ (InR .i64 x.Least)
theorem Tapi_Keeping.reads (n : Nat) : ReadsW Tryd.prog (n + 2) 235 Tapi_Keeping.enc Tapi_Keeping.wf := fun c h => by
  have h := hasW_struct Tryd.underlying235 h
  obtain ⟨a0, b0, h0, g0, h⟩ := h
  obtain ⟨a1, b1, h1, g1, h⟩ := h
  obtain ⟨a2, b2, h2, g2, h⟩ := h
  have e := h
  obtain ⟨x0, e0, w0⟩ := ((readsW_int Tryd.underlying3) : ReadsW Tryd.prog (n + 1) 3 (fun z : Int => [.int .i64 z]) (InR .i64)) _ g0
  obtain ⟨x1, e1, w1⟩ := ((readsW_int Tryd.underlying3) : ReadsW Tryd.prog (n + 1) 3 (fun z : Int => [.int .i64 z]) (InR .i64)) _ g1
  obtain ⟨x2, e2, w2⟩ := ((readsW_int Tryd.underlying3) : ReadsW Tryd.prog (n + 1) 3 (fun z : Int => [.int .i64 z]) (InR .i64)) _ g2
  simp only [HasFs] at e
  subst e e0 e1 e2
  subst h2
  subst h1
  subst h0
  exact ⟨⟨x0, x1, x2⟩, rfl, w0, w1, w2⟩
def Tapi_Config.wf (x : Tapi_Config) : Prop := (Tapi_Topology.wf x.Top) ∧ (lwf Tapi_Device.wf x.Devices) ∧ (lwf Tapi_ClassRule.wf x.Classes) ∧ (lwf Tapi_TagState.wf x.Tags) ∧ (InR .i64 x.Gap) ∧ (InR .i64 x.Weak) ∧ (lwf Tapi_Tariff.wf x.Tariffs) ∧ (Tapi_Scale.wf x.Scale) ∧ (lwf Tapi_Discount.wf x.Discounts) ∧ (lwf Tapi_Cap.wf x.Caps) ∧ (lwf Tapi_Zone.wf x.Zones) ∧ (lwf Tapi_Permit.wf x.Permits) ∧ (lwf Tapi_Account.wf x.Accounts) ∧ (lwf Tapi_Relief.wf x.Reliefs) ∧ (lwf (InR .i64) x.Holidays) ∧ (Tapi_Law.wf x.Law) ∧ (lwf Tapi_Keeping.wf x.Keeping) ∧ (swfW x.Agency)
theorem Tapi_Config.reads (n : Nat) : ReadsW Tryd.prog (n + 7) 46 Tapi_Config.enc Tapi_Config.wf := fun c h => by
  have h := hasW_struct Tryd.underlying46 h
  obtain ⟨a0, b0, h0, g0, h⟩ := h
  obtain ⟨a1, b1, h1, g1, h⟩ := h
  obtain ⟨a2, b2, h2, g2, h⟩ := h
  obtain ⟨a3, b3, h3, g3, h⟩ := h
  obtain ⟨a4, b4, h4, g4, h⟩ := h
  obtain ⟨a5, b5, h5, g5, h⟩ := h
  obtain ⟨a6, b6, h6, g6, h⟩ := h
  obtain ⟨a7, b7, h7, g7, h⟩ := h
  obtain ⟨a8, b8, h8, g8, h⟩ := h
  obtain ⟨a9, b9, h9, g9, h⟩ := h
  obtain ⟨a10, b10, h10, g10, h⟩ := h
  obtain ⟨a11, b11, h11, g11, h⟩ := h
  obtain ⟨a12, b12, h12, g12, h⟩ := h
  obtain ⟨a13, b13, h13, g13, h⟩ := h
  obtain ⟨a14, b14, h14, g14, h⟩ := h
  obtain ⟨a15, b15, h15, g15, h⟩ := h
  obtain ⟨a16, b16, h16, g16, h⟩ := h
  obtain ⟨a17, b17, h17, g17, h⟩ := h
  have e := h
  obtain ⟨x0, e0, w0⟩ := ((Tapi_Topology.reads _) : ReadsW Tryd.prog (n + 6) 28 Tapi_Topology.enc Tapi_Topology.wf) _ g0
  obtain ⟨x1, e1, w1⟩ := ((readsW_list Tryd.underlying29 (Tapi_Device.reads _)) : ReadsW Tryd.prog (n + 6) 29 (lstf Tapi_Device.enc) (lwf Tapi_Device.wf)) _ g1
  obtain ⟨x2, e2, w2⟩ := ((readsW_list Tryd.underlying30 (Tapi_ClassRule.reads _)) : ReadsW Tryd.prog (n + 6) 30 (lstf Tapi_ClassRule.enc) (lwf Tapi_ClassRule.wf)) _ g2
  obtain ⟨x3, e3, w3⟩ := ((readsW_list Tryd.underlying31 (Tapi_TagState.reads _)) : ReadsW Tryd.prog (n + 6) 31 (lstf Tapi_TagState.enc) (lwf Tapi_TagState.wf)) _ g3
  obtain ⟨x4, e4, w4⟩ := ((readsW_int Tryd.underlying3) : ReadsW Tryd.prog (n + 6) 3 (fun z : Int => [.int .i64 z]) (InR .i64)) _ g4
  obtain ⟨x5, e5, w5⟩ := ((readsW_int Tryd.underlying3) : ReadsW Tryd.prog (n + 6) 3 (fun z : Int => [.int .i64 z]) (InR .i64)) _ g5
  obtain ⟨x6, e6, w6⟩ := ((readsW_list Tryd.underlying32 (Tapi_Tariff.reads _)) : ReadsW Tryd.prog (n + 6) 32 (lstf Tapi_Tariff.enc) (lwf Tapi_Tariff.wf)) _ g6
  obtain ⟨x7, e7, w7⟩ := ((Tapi_Scale.reads _) : ReadsW Tryd.prog (n + 6) 35 Tapi_Scale.enc Tapi_Scale.wf) _ g7
  obtain ⟨x8, e8, w8⟩ := ((readsW_list Tryd.underlying36 (Tapi_Discount.reads _)) : ReadsW Tryd.prog (n + 6) 36 (lstf Tapi_Discount.enc) (lwf Tapi_Discount.wf)) _ g8
  obtain ⟨x9, e9, w9⟩ := ((readsW_list Tryd.underlying37 (Tapi_Cap.reads _)) : ReadsW Tryd.prog (n + 6) 37 (lstf Tapi_Cap.enc) (lwf Tapi_Cap.wf)) _ g9
  obtain ⟨x10, e10, w10⟩ := ((readsW_list Tryd.underlying38 (Tapi_Zone.reads _)) : ReadsW Tryd.prog (n + 6) 38 (lstf Tapi_Zone.enc) (lwf Tapi_Zone.wf)) _ g10
  obtain ⟨x11, e11, w11⟩ := ((readsW_list Tryd.underlying39 (Tapi_Permit.reads _)) : ReadsW Tryd.prog (n + 6) 39 (lstf Tapi_Permit.enc) (lwf Tapi_Permit.wf)) _ g11
  obtain ⟨x12, e12, w12⟩ := ((readsW_list Tryd.underlying40 (Tapi_Account.reads _)) : ReadsW Tryd.prog (n + 6) 40 (lstf Tapi_Account.enc) (lwf Tapi_Account.wf)) _ g12
  obtain ⟨x13, e13, w13⟩ := ((readsW_list Tryd.underlying41 (Tapi_Relief.reads _)) : ReadsW Tryd.prog (n + 6) 41 (lstf Tapi_Relief.enc) (lwf Tapi_Relief.wf)) _ g13
  obtain ⟨x14, e14, w14⟩ := ((readsW_list Tryd.underlying33 (readsW_int Tryd.underlying3)) : ReadsW Tryd.prog (n + 6) 33 (lstf (fun z : Int => [.int .i64 z])) (lwf (InR .i64))) _ g14
  obtain ⟨x15, e15, w15⟩ := ((Tapi_Law.reads _) : ReadsW Tryd.prog (n + 6) 43 Tapi_Law.enc Tapi_Law.wf) _ g15
  obtain ⟨x16, e16, w16⟩ := ((readsW_list Tryd.underlying44 (Tapi_Keeping.reads _)) : ReadsW Tryd.prog (n + 6) 44 (lstf Tapi_Keeping.enc) (lwf Tapi_Keeping.wf)) _ g16
  obtain ⟨x17, e17, w17⟩ := ((readsW_str Tryd.underlying9) : ReadsW Tryd.prog (n + 6) 9 (fun s : List UInt8 => [.str s]) swfW) _ g17
  simp only [HasFs] at e
  subst e e0 e1 e2 e3 e4 e5 e6 e7 e8 e9 e10 e11 e12 e13 e14 e15 e16 e17
  subst h17
  subst h16
  subst h15
  subst h14
  subst h13
  subst h12
  subst h11
  subst h10
  subst h9
  subst h8
  subst h7
  subst h6
  subst h5
  subst h4
  subst h3
  subst h2
  subst h1
  subst h0
  exact ⟨⟨x0, x1, x2, x3, x4, x5, x6, x7, x8, x9, x10, x11, x12, x13, x14, x15, x16, x17⟩, rfl, w0, w1, w2, w3, w4, w5, w6, w7, w8, w9, w10, w11, w12, w13, w14, w15, w16, w17⟩
def Tapi_Detection.wf (x : Tapi_Detection) : Prop := (swfW x.Device) ∧ (InR .i64 x.Seq) ∧ (InR .i64 x.Time) ∧ (swfW x.Tag) ∧ (swfW x.Plate) ∧ (InR .i64 x.Axles) ∧ (InR .i64 x.Score)
theorem Tapi_Detection.reads (n : Nat) : ReadsW Tryd.prog (n + 2) 104 Tapi_Detection.enc Tapi_Detection.wf := fun c h => by
  have h := hasW_struct Tryd.underlying104 h
  obtain ⟨a0, b0, h0, g0, h⟩ := h
  obtain ⟨a1, b1, h1, g1, h⟩ := h
  obtain ⟨a2, b2, h2, g2, h⟩ := h
  obtain ⟨a3, b3, h3, g3, h⟩ := h
  obtain ⟨a4, b4, h4, g4, h⟩ := h
  obtain ⟨a5, b5, h5, g5, h⟩ := h
  obtain ⟨a6, b6, h6, g6, h⟩ := h
  have e := h
  obtain ⟨x0, e0, w0⟩ := ((readsW_str Tryd.underlying9) : ReadsW Tryd.prog (n + 1) 9 (fun s : List UInt8 => [.str s]) swfW) _ g0
  obtain ⟨x1, e1, w1⟩ := ((readsW_int Tryd.underlying3) : ReadsW Tryd.prog (n + 1) 3 (fun z : Int => [.int .i64 z]) (InR .i64)) _ g1
  obtain ⟨x2, e2, w2⟩ := ((readsW_int Tryd.underlying3) : ReadsW Tryd.prog (n + 1) 3 (fun z : Int => [.int .i64 z]) (InR .i64)) _ g2
  obtain ⟨x3, e3, w3⟩ := ((readsW_str Tryd.underlying9) : ReadsW Tryd.prog (n + 1) 9 (fun s : List UInt8 => [.str s]) swfW) _ g3
  obtain ⟨x4, e4, w4⟩ := ((readsW_str Tryd.underlying9) : ReadsW Tryd.prog (n + 1) 9 (fun s : List UInt8 => [.str s]) swfW) _ g4
  obtain ⟨x5, e5, w5⟩ := ((readsW_int Tryd.underlying3) : ReadsW Tryd.prog (n + 1) 3 (fun z : Int => [.int .i64 z]) (InR .i64)) _ g5
  obtain ⟨x6, e6, w6⟩ := ((readsW_int Tryd.underlying3) : ReadsW Tryd.prog (n + 1) 3 (fun z : Int => [.int .i64 z]) (InR .i64)) _ g6
  simp only [HasFs] at e
  subst e e0 e1 e2 e3 e4 e5 e6
  subst h6
  subst h5
  subst h4
  subst h3
  subst h2
  subst h1
  subst h0
  exact ⟨⟨x0, x1, x2, x3, x4, x5, x6⟩, rfl, w0, w1, w2, w3, w4, w5, w6⟩
def Tapi_Seen.wf (x : Tapi_Seen) : Prop := (Tapi_Detection.wf x.D) ∧ (InR .i64 x.Time) ∧ (swfW x.Point) ∧ (InR .i64 x.Lane) ∧ (InR .i64 x.Kind)
theorem Tapi_Seen.reads (n : Nat) : ReadsW Tryd.prog (n + 3) 106 Tapi_Seen.enc Tapi_Seen.wf := fun c h => by
  have h := hasW_struct Tryd.underlying106 h
  obtain ⟨a0, b0, h0, g0, h⟩ := h
  obtain ⟨a1, b1, h1, g1, h⟩ := h
  obtain ⟨a2, b2, h2, g2, h⟩ := h
  obtain ⟨a3, b3, h3, g3, h⟩ := h
  obtain ⟨a4, b4, h4, g4, h⟩ := h
  have e := h
  obtain ⟨x0, e0, w0⟩ := ((Tapi_Detection.reads _) : ReadsW Tryd.prog (n + 2) 104 Tapi_Detection.enc Tapi_Detection.wf) _ g0
  obtain ⟨x1, e1, w1⟩ := ((readsW_int Tryd.underlying3) : ReadsW Tryd.prog (n + 2) 3 (fun z : Int => [.int .i64 z]) (InR .i64)) _ g1
  obtain ⟨x2, e2, w2⟩ := ((readsW_str Tryd.underlying9) : ReadsW Tryd.prog (n + 2) 9 (fun s : List UInt8 => [.str s]) swfW) _ g2
  obtain ⟨x3, e3, w3⟩ := ((readsW_int Tryd.underlying3) : ReadsW Tryd.prog (n + 2) 3 (fun z : Int => [.int .i64 z]) (InR .i64)) _ g3
  obtain ⟨x4, e4, w4⟩ := ((readsW_int Tryd.underlying3) : ReadsW Tryd.prog (n + 2) 3 (fun z : Int => [.int .i64 z]) (InR .i64)) _ g4
  simp only [HasFs] at e
  subst e e0 e1 e2 e3 e4
  subst h4
  subst h3
  subst h2
  subst h1
  subst h0
  exact ⟨⟨x0, x1, x2, x3, x4⟩, rfl, w0, w1, w2, w3, w4⟩
def Tapi_Reject.wf (x : Tapi_Reject) : Prop := (Tapi_Detection.wf x.D) ∧ (InR .i64 x.Why)
theorem Tapi_Reject.reads (n : Nat) : ReadsW Tryd.prog (n + 3) 109 Tapi_Reject.enc Tapi_Reject.wf := fun c h => by
  have h := hasW_struct Tryd.underlying109 h
  obtain ⟨a0, b0, h0, g0, h⟩ := h
  obtain ⟨a1, b1, h1, g1, h⟩ := h
  have e := h
  obtain ⟨x0, e0, w0⟩ := ((Tapi_Detection.reads _) : ReadsW Tryd.prog (n + 2) 104 Tapi_Detection.enc Tapi_Detection.wf) _ g0
  obtain ⟨x1, e1, w1⟩ := ((readsW_int Tryd.underlying3) : ReadsW Tryd.prog (n + 2) 3 (fun z : Int => [.int .i64 z]) (InR .i64)) _ g1
  simp only [HasFs] at e
  subst e e0 e1
  subst h1
  subst h0
  exact ⟨⟨x0, x1⟩, rfl, w0, w1⟩
def Tapi_Parked.wf (x : Tapi_Parked) : Prop := (InR .i64 x.Kind) ∧ (swfW x.Zone) ∧ (swfW x.Plate) ∧ (InR .i64 x.Time) ∧ (InR .i64 x.Until)
theorem Tapi_Parked.reads (n : Nat) : ReadsW Tryd.prog (n + 2) 237 Tapi_Parked.enc Tapi_Parked.wf := fun c h => by
  have h := hasW_struct Tryd.underlying237 h
  obtain ⟨a0, b0, h0, g0, h⟩ := h
  obtain ⟨a1, b1, h1, g1, h⟩ := h
  obtain ⟨a2, b2, h2, g2, h⟩ := h
  obtain ⟨a3, b3, h3, g3, h⟩ := h
  obtain ⟨a4, b4, h4, g4, h⟩ := h
  have e := h
  obtain ⟨x0, e0, w0⟩ := ((readsW_int Tryd.underlying3) : ReadsW Tryd.prog (n + 1) 3 (fun z : Int => [.int .i64 z]) (InR .i64)) _ g0
  obtain ⟨x1, e1, w1⟩ := ((readsW_str Tryd.underlying9) : ReadsW Tryd.prog (n + 1) 9 (fun s : List UInt8 => [.str s]) swfW) _ g1
  obtain ⟨x2, e2, w2⟩ := ((readsW_str Tryd.underlying9) : ReadsW Tryd.prog (n + 1) 9 (fun s : List UInt8 => [.str s]) swfW) _ g2
  obtain ⟨x3, e3, w3⟩ := ((readsW_int Tryd.underlying3) : ReadsW Tryd.prog (n + 1) 3 (fun z : Int => [.int .i64 z]) (InR .i64)) _ g3
  obtain ⟨x4, e4, w4⟩ := ((readsW_int Tryd.underlying3) : ReadsW Tryd.prog (n + 1) 3 (fun z : Int => [.int .i64 z]) (InR .i64)) _ g4
  simp only [HasFs] at e
  subst e e0 e1 e2 e3 e4
  subst h4
  subst h3
  subst h2
  subst h1
  subst h0
  exact ⟨⟨x0, x1, x2, x3, x4⟩, rfl, w0, w1, w2, w3, w4⟩
def Tapi_Source.wf (x : Tapi_Source) : Prop := (swfW x.Device) ∧ (InR .i64 x.Seq)
theorem Tapi_Source.reads (n : Nat) : ReadsW Tryd.prog (n + 2) 66 Tapi_Source.enc Tapi_Source.wf := fun c h => by
  have h := hasW_struct Tryd.underlying66 h
  obtain ⟨a0, b0, h0, g0, h⟩ := h
  obtain ⟨a1, b1, h1, g1, h⟩ := h
  have e := h
  obtain ⟨x0, e0, w0⟩ := ((readsW_str Tryd.underlying9) : ReadsW Tryd.prog (n + 1) 9 (fun s : List UInt8 => [.str s]) swfW) _ g0
  obtain ⟨x1, e1, w1⟩ := ((readsW_int Tryd.underlying3) : ReadsW Tryd.prog (n + 1) 3 (fun z : Int => [.int .i64 z]) (InR .i64)) _ g1
  simp only [HasFs] at e
  subst e e0 e1
  subst h1
  subst h0
  exact ⟨⟨x0, x1⟩, rfl, w0, w1⟩
def Tapi_Passage.wf (x : Tapi_Passage) : Prop := (swfW x.ID) ∧ (swfW x.Point) ∧ (InR .i64 x.Time) ∧ (swfW x.Tag) ∧ (swfW x.Plate) ∧ (InR .i64 x.Class) ∧ (InR .i64 x.Score) ∧ (lwf Tapi_Source.wf x.Sources)
theorem Tapi_Passage.reads (n : Nat) : ReadsW Tryd.prog (n + 4) 87 Tapi_Passage.enc Tapi_Passage.wf := fun c h => by
  have h := hasW_struct Tryd.underlying87 h
  obtain ⟨a0, b0, h0, g0, h⟩ := h
  obtain ⟨a1, b1, h1, g1, h⟩ := h
  obtain ⟨a2, b2, h2, g2, h⟩ := h
  obtain ⟨a3, b3, h3, g3, h⟩ := h
  obtain ⟨a4, b4, h4, g4, h⟩ := h
  obtain ⟨a5, b5, h5, g5, h⟩ := h
  obtain ⟨a6, b6, h6, g6, h⟩ := h
  obtain ⟨a7, b7, h7, g7, h⟩ := h
  have e := h
  obtain ⟨x0, e0, w0⟩ := ((readsW_str Tryd.underlying9) : ReadsW Tryd.prog (n + 3) 9 (fun s : List UInt8 => [.str s]) swfW) _ g0
  obtain ⟨x1, e1, w1⟩ := ((readsW_str Tryd.underlying9) : ReadsW Tryd.prog (n + 3) 9 (fun s : List UInt8 => [.str s]) swfW) _ g1
  obtain ⟨x2, e2, w2⟩ := ((readsW_int Tryd.underlying3) : ReadsW Tryd.prog (n + 3) 3 (fun z : Int => [.int .i64 z]) (InR .i64)) _ g2
  obtain ⟨x3, e3, w3⟩ := ((readsW_str Tryd.underlying9) : ReadsW Tryd.prog (n + 3) 9 (fun s : List UInt8 => [.str s]) swfW) _ g3
  obtain ⟨x4, e4, w4⟩ := ((readsW_str Tryd.underlying9) : ReadsW Tryd.prog (n + 3) 9 (fun s : List UInt8 => [.str s]) swfW) _ g4
  obtain ⟨x5, e5, w5⟩ := ((readsW_int Tryd.underlying3) : ReadsW Tryd.prog (n + 3) 3 (fun z : Int => [.int .i64 z]) (InR .i64)) _ g5
  obtain ⟨x6, e6, w6⟩ := ((readsW_int Tryd.underlying3) : ReadsW Tryd.prog (n + 3) 3 (fun z : Int => [.int .i64 z]) (InR .i64)) _ g6
  obtain ⟨x7, e7, w7⟩ := ((readsW_list Tryd.underlying85 (Tapi_Source.reads _)) : ReadsW Tryd.prog (n + 3) 85 (lstf Tapi_Source.enc) (lwf Tapi_Source.wf)) _ g7
  simp only [HasFs] at e
  subst e e0 e1 e2 e3 e4 e5 e6 e7
  subst h7
  subst h6
  subst h5
  subst h4
  subst h3
  subst h2
  subst h1
  subst h0
  exact ⟨⟨x0, x1, x2, x3, x4, x5, x6, x7⟩, rfl, w0, w1, w2, w3, w4, w5, w6, w7⟩
def Tapi_Stop.wf (x : Tapi_Stop) : Prop := (swfW x.Point) ∧ (InR .i64 x.Time) ∧ (swfW x.Passage)
theorem Tapi_Stop.reads (n : Nat) : ReadsW Tryd.prog (n + 2) 100 Tapi_Stop.enc Tapi_Stop.wf := fun c h => by
  have h := hasW_struct Tryd.underlying100 h
  obtain ⟨a0, b0, h0, g0, h⟩ := h
  obtain ⟨a1, b1, h1, g1, h⟩ := h
  obtain ⟨a2, b2, h2, g2, h⟩ := h
  have e := h
  obtain ⟨x0, e0, w0⟩ := ((readsW_str Tryd.underlying9) : ReadsW Tryd.prog (n + 1) 9 (fun s : List UInt8 => [.str s]) swfW) _ g0
  obtain ⟨x1, e1, w1⟩ := ((readsW_int Tryd.underlying3) : ReadsW Tryd.prog (n + 1) 3 (fun z : Int => [.int .i64 z]) (InR .i64)) _ g1
  obtain ⟨x2, e2, w2⟩ := ((readsW_str Tryd.underlying9) : ReadsW Tryd.prog (n + 1) 9 (fun s : List UInt8 => [.str s]) swfW) _ g2
  simp only [HasFs] at e
  subst e e0 e1 e2
  subst h2
  subst h1
  subst h0
  exact ⟨⟨x0, x1, x2⟩, rfl, w0, w1, w2⟩
def Tapi_Trip.wf (x : Tapi_Trip) : Prop := (swfW x.ID) ∧ (swfW x.Vehicle) ∧ (swfW x.System) ∧ (InR .i64 x.Class) ∧ (lwf Tapi_Stop.wf x.Stops)
theorem Tapi_Trip.reads (n : Nat) : ReadsW Tryd.prog (n + 4) 90 Tapi_Trip.enc Tapi_Trip.wf := fun c h => by
  have h := hasW_struct Tryd.underlying90 h
  obtain ⟨a0, b0, h0, g0, h⟩ := h
  obtain ⟨a1, b1, h1, g1, h⟩ := h
  obtain ⟨a2, b2, h2, g2, h⟩ := h
  obtain ⟨a3, b3, h3, g3, h⟩ := h
  obtain ⟨a4, b4, h4, g4, h⟩ := h
  have e := h
  obtain ⟨x0, e0, w0⟩ := ((readsW_str Tryd.underlying9) : ReadsW Tryd.prog (n + 3) 9 (fun s : List UInt8 => [.str s]) swfW) _ g0
  obtain ⟨x1, e1, w1⟩ := ((readsW_str Tryd.underlying9) : ReadsW Tryd.prog (n + 3) 9 (fun s : List UInt8 => [.str s]) swfW) _ g1
  obtain ⟨x2, e2, w2⟩ := ((readsW_str Tryd.underlying9) : ReadsW Tryd.prog (n + 3) 9 (fun s : List UInt8 => [.str s]) swfW) _ g2
  obtain ⟨x3, e3, w3⟩ := ((readsW_int Tryd.underlying3) : ReadsW Tryd.prog (n + 3) 3 (fun z : Int => [.int .i64 z]) (InR .i64)) _ g3
  obtain ⟨x4, e4, w4⟩ := ((readsW_list Tryd.underlying88 (Tapi_Stop.reads _)) : ReadsW Tryd.prog (n + 3) 88 (lstf Tapi_Stop.enc) (lwf Tapi_Stop.wf)) _ g4
  simp only [HasFs] at e
  subst e e0 e1 e2 e3 e4
  subst h4
  subst h3
  subst h2
  subst h1
  subst h0
  exact ⟨⟨x0, x1, x2, x3, x4⟩, rfl, w0, w1, w2, w3, w4⟩
def Tapi_Stay.wf (x : Tapi_Stay) : Prop := (swfW x.ID) ∧ (swfW x.Zone) ∧ (swfW x.Plate) ∧ (Tapi_Interval.wf x.Time)
theorem Tapi_Stay.reads (n : Nat) : ReadsW Tryd.prog (n + 3) 126 Tapi_Stay.enc Tapi_Stay.wf := fun c h => by
  have h := hasW_struct Tryd.underlying126 h
  obtain ⟨a0, b0, h0, g0, h⟩ := h
  obtain ⟨a1, b1, h1, g1, h⟩ := h
  obtain ⟨a2, b2, h2, g2, h⟩ := h
  obtain ⟨a3, b3, h3, g3, h⟩ := h
  have e := h
  obtain ⟨x0, e0, w0⟩ := ((readsW_str Tryd.underlying9) : ReadsW Tryd.prog (n + 2) 9 (fun s : List UInt8 => [.str s]) swfW) _ g0
  obtain ⟨x1, e1, w1⟩ := ((readsW_str Tryd.underlying9) : ReadsW Tryd.prog (n + 2) 9 (fun s : List UInt8 => [.str s]) swfW) _ g1
  obtain ⟨x2, e2, w2⟩ := ((readsW_str Tryd.underlying9) : ReadsW Tryd.prog (n + 2) 9 (fun s : List UInt8 => [.str s]) swfW) _ g2
  obtain ⟨x3, e3, w3⟩ := ((Tapi_Interval.reads _) : ReadsW Tryd.prog (n + 2) 124 Tapi_Interval.enc Tapi_Interval.wf) _ g3
  simp only [HasFs] at e
  subst e e0 e1 e2 e3
  subst h3
  subst h2
  subst h1
  subst h0
  exact ⟨⟨x0, x1, x2, x3⟩, rfl, w0, w1, w2, w3⟩
def Tapi_Line.wf (x : Tapi_Line) : Prop := (swfW x.Text) ∧ (InR .i64 x.Cents)
theorem Tapi_Line.reads (n : Nat) : ReadsW Tryd.prog (n + 2) 102 Tapi_Line.enc Tapi_Line.wf := fun c h => by
  have h := hasW_struct Tryd.underlying102 h
  obtain ⟨a0, b0, h0, g0, h⟩ := h
  obtain ⟨a1, b1, h1, g1, h⟩ := h
  have e := h
  obtain ⟨x0, e0, w0⟩ := ((readsW_str Tryd.underlying9) : ReadsW Tryd.prog (n + 1) 9 (fun s : List UInt8 => [.str s]) swfW) _ g0
  obtain ⟨x1, e1, w1⟩ := ((readsW_int Tryd.underlying3) : ReadsW Tryd.prog (n + 1) 3 (fun z : Int => [.int .i64 z]) (InR .i64)) _ g1
  simp only [HasFs] at e
  subst e e0 e1
  subst h1
  subst h0
  exact ⟨⟨x0, x1⟩, rfl, w0, w1⟩
def Tapi_Charge.wf (x : Tapi_Charge) : Prop := (swfW x.Key) ∧ (swfW x.Vehicle) ∧ (swfW x.System) ∧ (InR .i64 x.Class) ∧ (InR .i64 x.Time) ∧ (lwf Tapi_Line.wf x.Lines) ∧ (InR .i64 x.Cents)
theorem Tapi_Charge.reads (n : Nat) : ReadsW Tryd.prog (n + 4) 93 Tapi_Charge.enc Tapi_Charge.wf := fun c h => by
  have h := hasW_struct Tryd.underlying93 h
  obtain ⟨a0, b0, h0, g0, h⟩ := h
  obtain ⟨a1, b1, h1, g1, h⟩ := h
  obtain ⟨a2, b2, h2, g2, h⟩ := h
  obtain ⟨a3, b3, h3, g3, h⟩ := h
  obtain ⟨a4, b4, h4, g4, h⟩ := h
  obtain ⟨a5, b5, h5, g5, h⟩ := h
  obtain ⟨a6, b6, h6, g6, h⟩ := h
  have e := h
  obtain ⟨x0, e0, w0⟩ := ((readsW_str Tryd.underlying9) : ReadsW Tryd.prog (n + 3) 9 (fun s : List UInt8 => [.str s]) swfW) _ g0
  obtain ⟨x1, e1, w1⟩ := ((readsW_str Tryd.underlying9) : ReadsW Tryd.prog (n + 3) 9 (fun s : List UInt8 => [.str s]) swfW) _ g1
  obtain ⟨x2, e2, w2⟩ := ((readsW_str Tryd.underlying9) : ReadsW Tryd.prog (n + 3) 9 (fun s : List UInt8 => [.str s]) swfW) _ g2
  obtain ⟨x3, e3, w3⟩ := ((readsW_int Tryd.underlying3) : ReadsW Tryd.prog (n + 3) 3 (fun z : Int => [.int .i64 z]) (InR .i64)) _ g3
  obtain ⟨x4, e4, w4⟩ := ((readsW_int Tryd.underlying3) : ReadsW Tryd.prog (n + 3) 3 (fun z : Int => [.int .i64 z]) (InR .i64)) _ g4
  obtain ⟨x5, e5, w5⟩ := ((readsW_list Tryd.underlying91 (Tapi_Line.reads _)) : ReadsW Tryd.prog (n + 3) 91 (lstf Tapi_Line.enc) (lwf Tapi_Line.wf)) _ g5
  obtain ⟨x6, e6, w6⟩ := ((readsW_int Tryd.underlying3) : ReadsW Tryd.prog (n + 3) 3 (fun z : Int => [.int .i64 z]) (InR .i64)) _ g6
  simp only [HasFs] at e
  subst e e0 e1 e2 e3 e4 e5 e6
  subst h6
  subst h5
  subst h4
  subst h3
  subst h2
  subst h1
  subst h0
  exact ⟨⟨x0, x1, x2, x3, x4, x5, x6⟩, rfl, w0, w1, w2, w3, w4, w5, w6⟩
def Tapi_Exclusion.wf (x : Tapi_Exclusion) : Prop := (swfW x.ID) ∧ (InR .i64 x.Why)
theorem Tapi_Exclusion.reads (n : Nat) : ReadsW Tryd.prog (n + 2) 153 Tapi_Exclusion.enc Tapi_Exclusion.wf := fun c h => by
  have h := hasW_struct Tryd.underlying153 h
  obtain ⟨a0, b0, h0, g0, h⟩ := h
  obtain ⟨a1, b1, h1, g1, h⟩ := h
  have e := h
  obtain ⟨x0, e0, w0⟩ := ((readsW_str Tryd.underlying9) : ReadsW Tryd.prog (n + 1) 9 (fun s : List UInt8 => [.str s]) swfW) _ g0
  obtain ⟨x1, e1, w1⟩ := ((readsW_int Tryd.underlying3) : ReadsW Tryd.prog (n + 1) 3 (fun z : Int => [.int .i64 z]) (InR .i64)) _ g1
  simp only [HasFs] at e
  subst e e0 e1
  subst h1
  subst h0
  exact ⟨⟨x0, x1⟩, rfl, w0, w1⟩
def Tapi_Result.wf (x : Tapi_Result) : Prop := (lwf Tapi_Passage.wf x.Passages) ∧ (lwf Tapi_Reject.wf x.Rejects) ∧ (lwf Tapi_Trip.wf x.Trips) ∧ (lwf Tapi_Stay.wf x.Stays) ∧ (lwf Tapi_Charge.wf x.Charges) ∧ (lwf Tapi_Exclusion.wf x.Exclusions)
theorem Tapi_Result.reads (n : Nat) : ReadsW Tryd.prog (n + 6) 56 Tapi_Result.enc Tapi_Result.wf := fun c h => by
  have h := hasW_struct Tryd.underlying56 h
  obtain ⟨a0, b0, h0, g0, h⟩ := h
  obtain ⟨a1, b1, h1, g1, h⟩ := h
  obtain ⟨a2, b2, h2, g2, h⟩ := h
  obtain ⟨a3, b3, h3, g3, h⟩ := h
  obtain ⟨a4, b4, h4, g4, h⟩ := h
  obtain ⟨a5, b5, h5, g5, h⟩ := h
  have e := h
  obtain ⟨x0, e0, w0⟩ := ((readsW_list Tryd.underlying50 (Tapi_Passage.reads _)) : ReadsW Tryd.prog (n + 5) 50 (lstf Tapi_Passage.enc) (lwf Tapi_Passage.wf)) _ g0
  obtain ⟨x1, e1, w1⟩ := ((readsW_list Tryd.underlying48 (Tapi_Reject.reads _)) : ReadsW Tryd.prog (n + 5) 48 (lstf Tapi_Reject.enc) (lwf Tapi_Reject.wf)) _ g1
  obtain ⟨x2, e2, w2⟩ := ((readsW_list Tryd.underlying51 (Tapi_Trip.reads _)) : ReadsW Tryd.prog (n + 5) 51 (lstf Tapi_Trip.enc) (lwf Tapi_Trip.wf)) _ g2
  obtain ⟨x3, e3, w3⟩ := ((readsW_list Tryd.underlying52 (Tapi_Stay.reads _)) : ReadsW Tryd.prog (n + 5) 52 (lstf Tapi_Stay.enc) (lwf Tapi_Stay.wf)) _ g3
  obtain ⟨x4, e4, w4⟩ := ((readsW_list Tryd.underlying53 (Tapi_Charge.reads _)) : ReadsW Tryd.prog (n + 5) 53 (lstf Tapi_Charge.enc) (lwf Tapi_Charge.wf)) _ g4
  obtain ⟨x5, e5, w5⟩ := ((readsW_list Tryd.underlying54 (Tapi_Exclusion.reads _)) : ReadsW Tryd.prog (n + 5) 54 (lstf Tapi_Exclusion.enc) (lwf Tapi_Exclusion.wf)) _ g5
  simp only [HasFs] at e
  subst e e0 e1 e2 e3 e4 e5
  subst h5
  subst h4
  subst h3
  subst h2
  subst h1
  subst h0
  exact ⟨⟨x0, x1, x2, x3, x4, x5⟩, rfl, w0, w1, w2, w3, w4, w5⟩
def Tapi_Post.wf (x : Tapi_Post) : Prop := (swfW x.Account) ∧ (InR .i64 x.Cents)
theorem Tapi_Post.reads (n : Nat) : ReadsW Tryd.prog (n + 2) 254 Tapi_Post.enc Tapi_Post.wf := fun c h => by
  have h := hasW_struct Tryd.underlying254 h
  obtain ⟨a0, b0, h0, g0, h⟩ := h
  obtain ⟨a1, b1, h1, g1, h⟩ := h
  have e := h
  obtain ⟨x0, e0, w0⟩ := ((readsW_str Tryd.underlying9) : ReadsW Tryd.prog (n + 1) 9 (fun s : List UInt8 => [.str s]) swfW) _ g0
  obtain ⟨x1, e1, w1⟩ := ((readsW_int Tryd.underlying3) : ReadsW Tryd.prog (n + 1) 3 (fun z : Int => [.int .i64 z]) (InR .i64)) _ g1
  simp only [HasFs] at e
  subst e e0 e1
  subst h1
  subst h0
  exact ⟨⟨x0, x1⟩, rfl, w0, w1⟩
def Tapi_Entry.wf (x : Tapi_Entry) : Prop := (swfW x.Key) ∧ (InR .i64 x.Time) ∧ (lwf Tapi_Post.wf x.Posts)
theorem Tapi_Entry.reads (n : Nat) : ReadsW Tryd.prog (n + 4) 240 Tapi_Entry.enc Tapi_Entry.wf := fun c h => by
  have h := hasW_struct Tryd.underlying240 h
  obtain ⟨a0, b0, h0, g0, h⟩ := h
  obtain ⟨a1, b1, h1, g1, h⟩ := h
  obtain ⟨a2, b2, h2, g2, h⟩ := h
  have e := h
  obtain ⟨x0, e0, w0⟩ := ((readsW_str Tryd.underlying9) : ReadsW Tryd.prog (n + 3) 9 (fun s : List UInt8 => [.str s]) swfW) _ g0
  obtain ⟨x1, e1, w1⟩ := ((readsW_int Tryd.underlying3) : ReadsW Tryd.prog (n + 3) 3 (fun z : Int => [.int .i64 z]) (InR .i64)) _ g1
  obtain ⟨x2, e2, w2⟩ := ((readsW_list Tryd.underlying238 (Tapi_Post.reads _)) : ReadsW Tryd.prog (n + 3) 238 (lstf Tapi_Post.enc) (lwf Tapi_Post.wf)) _ g2
  simp only [HasFs] at e
  subst e e0 e1 e2
  subst h2
  subst h1
  subst h0
  exact ⟨⟨x0, x1, x2⟩, rfl, w0, w1, w2⟩
def Tapi_Ledger.wf (x : Tapi_Ledger) : Prop := (lwf Tapi_Entry.wf x.Entries)
theorem Tapi_Ledger.reads (n : Nat) : ReadsW Tryd.prog (n + 6) 59 Tapi_Ledger.enc Tapi_Ledger.wf := fun c h => by
  have h := hasW_struct Tryd.underlying59 h
  obtain ⟨a0, b0, h0, g0, h⟩ := h
  have e := h
  obtain ⟨x0, e0, w0⟩ := ((readsW_list Tryd.underlying57 (Tapi_Entry.reads _)) : ReadsW Tryd.prog (n + 5) 57 (lstf Tapi_Entry.enc) (lwf Tapi_Entry.wf)) _ g0
  simp only [HasFs] at e
  subst e e0
  subst h0
  exact ⟨⟨x0⟩, rfl, w0⟩
def Tapi_Books.wf (x : Tapi_Books) : Prop := (Tapi_Ledger.wf x.Ledger) ∧ (lwf Tapi_Charge.wf x.Done)
theorem Tapi_Books.reads (n : Nat) : ReadsW Tryd.prog (n + 7) 61 Tapi_Books.enc Tapi_Books.wf := fun c h => by
  have h := hasW_struct Tryd.underlying61 h
  obtain ⟨a0, b0, h0, g0, h⟩ := h
  obtain ⟨a1, b1, h1, g1, h⟩ := h
  have e := h
  obtain ⟨x0, e0, w0⟩ := ((Tapi_Ledger.reads _) : ReadsW Tryd.prog (n + 6) 59 Tapi_Ledger.enc Tapi_Ledger.wf) _ g0
  obtain ⟨x1, e1, w1⟩ := ((readsW_list Tryd.underlying53 (Tapi_Charge.reads _)) : ReadsW Tryd.prog (n + 6) 53 (lstf Tapi_Charge.enc) (lwf Tapi_Charge.wf)) _ g1
  simp only [HasFs] at e
  subst e e0 e1
  subst h1
  subst h0
  exact ⟨⟨x0, x1⟩, rfl, w0, w1⟩
def Tapi_Appeal.wf (x : Tapi_Appeal) : Prop := (InR .i64 x.State) ∧ (InR .i64 x.Ground) ∧ (InR .i64 x.Day)
theorem Tapi_Appeal.reads (n : Nat) : ReadsW Tryd.prog (n + 2) 242 Tapi_Appeal.enc Tapi_Appeal.wf := fun c h => by
  have h := hasW_struct Tryd.underlying242 h
  obtain ⟨a0, b0, h0, g0, h⟩ := h
  obtain ⟨a1, b1, h1, g1, h⟩ := h
  obtain ⟨a2, b2, h2, g2, h⟩ := h
  have e := h
  obtain ⟨x0, e0, w0⟩ := ((readsW_int Tryd.underlying3) : ReadsW Tryd.prog (n + 1) 3 (fun z : Int => [.int .i64 z]) (InR .i64)) _ g0
  obtain ⟨x1, e1, w1⟩ := ((readsW_int Tryd.underlying3) : ReadsW Tryd.prog (n + 1) 3 (fun z : Int => [.int .i64 z]) (InR .i64)) _ g1
  obtain ⟨x2, e2, w2⟩ := ((readsW_int Tryd.underlying3) : ReadsW Tryd.prog (n + 1) 3 (fun z : Int => [.int .i64 z]) (InR .i64)) _ g2
  simp only [HasFs] at e
  subst e e0 e1 e2
  subst h2
  subst h1
  subst h0
  exact ⟨⟨x0, x1, x2⟩, rfl, w0, w1, w2⟩
def Tapi_Case.wf (x : Tapi_Case) : Prop := (swfW x.ID) ∧ (swfW x.Plate) ∧ (swfW x.Key) ∧ (InR .i64 x.Begun) ∧ (InR .i64 x.Since) ∧ (InR .i64 x.Stage) ∧ (InR .i64 x.Owed) ∧ (InR .i64 x.Paid) ∧ (InR .i64 x.Paused) ∧ (Tapi_Appeal.wf x.Appeal)
theorem Tapi_Case.reads (n : Nat) : ReadsW Tryd.prog (n + 3) 244 Tapi_Case.enc Tapi_Case.wf := fun c h => by
  have h := hasW_struct Tryd.underlying244 h
  obtain ⟨a0, b0, h0, g0, h⟩ := h
  obtain ⟨a1, b1, h1, g1, h⟩ := h
  obtain ⟨a2, b2, h2, g2, h⟩ := h
  obtain ⟨a3, b3, h3, g3, h⟩ := h
  obtain ⟨a4, b4, h4, g4, h⟩ := h
  obtain ⟨a5, b5, h5, g5, h⟩ := h
  obtain ⟨a6, b6, h6, g6, h⟩ := h
  obtain ⟨a7, b7, h7, g7, h⟩ := h
  obtain ⟨a8, b8, h8, g8, h⟩ := h
  obtain ⟨a9, b9, h9, g9, h⟩ := h
  have e := h
  obtain ⟨x0, e0, w0⟩ := ((readsW_str Tryd.underlying9) : ReadsW Tryd.prog (n + 2) 9 (fun s : List UInt8 => [.str s]) swfW) _ g0
  obtain ⟨x1, e1, w1⟩ := ((readsW_str Tryd.underlying9) : ReadsW Tryd.prog (n + 2) 9 (fun s : List UInt8 => [.str s]) swfW) _ g1
  obtain ⟨x2, e2, w2⟩ := ((readsW_str Tryd.underlying9) : ReadsW Tryd.prog (n + 2) 9 (fun s : List UInt8 => [.str s]) swfW) _ g2
  obtain ⟨x3, e3, w3⟩ := ((readsW_int Tryd.underlying3) : ReadsW Tryd.prog (n + 2) 3 (fun z : Int => [.int .i64 z]) (InR .i64)) _ g3
  obtain ⟨x4, e4, w4⟩ := ((readsW_int Tryd.underlying3) : ReadsW Tryd.prog (n + 2) 3 (fun z : Int => [.int .i64 z]) (InR .i64)) _ g4
  obtain ⟨x5, e5, w5⟩ := ((readsW_int Tryd.underlying3) : ReadsW Tryd.prog (n + 2) 3 (fun z : Int => [.int .i64 z]) (InR .i64)) _ g5
  obtain ⟨x6, e6, w6⟩ := ((readsW_int Tryd.underlying3) : ReadsW Tryd.prog (n + 2) 3 (fun z : Int => [.int .i64 z]) (InR .i64)) _ g6
  obtain ⟨x7, e7, w7⟩ := ((readsW_int Tryd.underlying3) : ReadsW Tryd.prog (n + 2) 3 (fun z : Int => [.int .i64 z]) (InR .i64)) _ g7
  obtain ⟨x8, e8, w8⟩ := ((readsW_int Tryd.underlying3) : ReadsW Tryd.prog (n + 2) 3 (fun z : Int => [.int .i64 z]) (InR .i64)) _ g8
  obtain ⟨x9, e9, w9⟩ := ((Tapi_Appeal.reads _) : ReadsW Tryd.prog (n + 2) 242 Tapi_Appeal.enc Tapi_Appeal.wf) _ g9
  simp only [HasFs] at e
  subst e e0 e1 e2 e3 e4 e5 e6 e7 e8 e9
  subst h9
  subst h8
  subst h7
  subst h6
  subst h5
  subst h4
  subst h3
  subst h2
  subst h1
  subst h0
  exact ⟨⟨x0, x1, x2, x3, x4, x5, x6, x7, x8, x9⟩, rfl, w0, w1, w2, w3, w4, w5, w6, w7, w8, w9⟩
def Tapi_State.wf (x : Tapi_State) : Prop := (Tapi_Config.wf x.Config) ∧ (lwf Tapi_Seen.wf x.Seen) ∧ (lwf Tapi_Reject.wf x.Rejects) ∧ (lwf Tapi_Parked.wf x.Parked) ∧ (InR .i64 x.Closed) ∧ (Tapi_Result.wf x.Result) ∧ (Tapi_Books.wf x.Books) ∧ (lwf Tapi_Case.wf x.Cases) ∧ (InR .i64 x.Count)
theorem Tapi_State.reads (n : Nat) : ReadsW Tryd.prog (n + 8) 64 Tapi_State.enc Tapi_State.wf := fun c h => by
  have h := hasW_struct Tryd.underlying64 h
  obtain ⟨a0, b0, h0, g0, h⟩ := h
  obtain ⟨a1, b1, h1, g1, h⟩ := h
  obtain ⟨a2, b2, h2, g2, h⟩ := h
  obtain ⟨a3, b3, h3, g3, h⟩ := h
  obtain ⟨a4, b4, h4, g4, h⟩ := h
  obtain ⟨a5, b5, h5, g5, h⟩ := h
  obtain ⟨a6, b6, h6, g6, h⟩ := h
  obtain ⟨a7, b7, h7, g7, h⟩ := h
  obtain ⟨a8, b8, h8, g8, h⟩ := h
  have e := h
  obtain ⟨x0, e0, w0⟩ := ((Tapi_Config.reads _) : ReadsW Tryd.prog (n + 7) 46 Tapi_Config.enc Tapi_Config.wf) _ g0
  obtain ⟨x1, e1, w1⟩ := ((readsW_list Tryd.underlying47 (Tapi_Seen.reads _)) : ReadsW Tryd.prog (n + 7) 47 (lstf Tapi_Seen.enc) (lwf Tapi_Seen.wf)) _ g1
  obtain ⟨x2, e2, w2⟩ := ((readsW_list Tryd.underlying48 (Tapi_Reject.reads _)) : ReadsW Tryd.prog (n + 7) 48 (lstf Tapi_Reject.enc) (lwf Tapi_Reject.wf)) _ g2
  obtain ⟨x3, e3, w3⟩ := ((readsW_list Tryd.underlying49 (Tapi_Parked.reads _)) : ReadsW Tryd.prog (n + 7) 49 (lstf Tapi_Parked.enc) (lwf Tapi_Parked.wf)) _ g3
  obtain ⟨x4, e4, w4⟩ := ((readsW_int Tryd.underlying3) : ReadsW Tryd.prog (n + 7) 3 (fun z : Int => [.int .i64 z]) (InR .i64)) _ g4
  obtain ⟨x5, e5, w5⟩ := ((Tapi_Result.reads _) : ReadsW Tryd.prog (n + 7) 56 Tapi_Result.enc Tapi_Result.wf) _ g5
  obtain ⟨x6, e6, w6⟩ := ((Tapi_Books.reads _) : ReadsW Tryd.prog (n + 7) 61 Tapi_Books.enc Tapi_Books.wf) _ g6
  obtain ⟨x7, e7, w7⟩ := ((readsW_list Tryd.underlying62 (Tapi_Case.reads _)) : ReadsW Tryd.prog (n + 7) 62 (lstf Tapi_Case.enc) (lwf Tapi_Case.wf)) _ g7
  obtain ⟨x8, e8, w8⟩ := ((readsW_int Tryd.underlying3) : ReadsW Tryd.prog (n + 7) 3 (fun z : Int => [.int .i64 z]) (InR .i64)) _ g8
  simp only [HasFs] at e
  subst e e0 e1 e2 e3 e4 e5 e6 e7 e8
  subst h8
  subst h7
  subst h6
  subst h5
  subst h4
  subst h3
  subst h2
  subst h1
  subst h0
  exact ⟨⟨x0, x1, x2, x3, x4, x5, x6, x7, x8⟩, rfl, w0, w1, w2, w3, w4, w5, w6, w7, w8⟩
end Go.Proofs.YtalobodhbbkgdabDoor.Av
