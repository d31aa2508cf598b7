/- What the parts of a result read as. -/
import Derived.Test.YtnlaiahcemckkaaGreatDoorAvMm
import Derived.Test.YtnlaiahcemckkaaGreatDoorPBT
set_option linter.unusedVariables false
set_option linter.unusedSimpArgs false
set_option maxHeartbeats 4000000
set_option maxRecDepth 100000
namespace Go.Proofs.YtnlaiahcemckkaaGreatDoor.Av
open Go Go.Proofs Go.ChangeShapes Go.WideShapes Go.ChangeAt Go.RowKit
def Tapi_Source.wf (x : Tapi_Source) : Prop := (swfW x.Device) ∧ (InR .i64 x.Seq)
theorem Tapi_Source.reads (n : Nat) : ReadsW Tryz.prog (n + 2) 101 Tapi_Source.enc Tapi_Source.wf := fun c h => by
  have h := hasW_struct Tryz.underlying101 h
  obtain ⟨a0, b0, h0, g0, h⟩ := h
  obtain ⟨a1, b1, h1, g1, h⟩ := h
  have e := h
  obtain ⟨x0, e0, w0⟩ := ((readsW_str Tryz.underlying9) : ReadsW Tryz.prog (n + 1) 9 (fun s : List UInt8 => [.str s]) swfW) _ g0
  obtain ⟨x1, e1, w1⟩ := ((readsW_int Tryz.underlying3) : ReadsW Tryz.prog (n + 1) 3 (fun z : Int => [.int .i64 z]) (InR .i64)) _ g1
  simp only [HasFs] at e
  subst e e0 e1
  subst h1
  subst h0
  exact ⟨⟨x0, x1⟩, rfl, w0, w1⟩
def Tapi_Passage.wf (x : Tapi_Passage) : Prop := (swfW x.ID) ∧ (swfW x.Point) ∧ (InR .i64 x.Time) ∧ (swfW x.Tag) ∧ (swfW x.Plate) ∧ (InR .i64 x.Class) ∧ (InR .i64 x.Score) ∧ (lwfW 24 Tapi_Source.wf x.Sources)
theorem Tapi_Passage.reads (n : Nat) : ReadsW Tryz.prog (n + 4) 83 Tapi_Passage.enc Tapi_Passage.wf := fun c h => by
  have h := hasW_struct Tryz.underlying83 h
  obtain ⟨a0, b0, h0, g0, h⟩ := h
  obtain ⟨a1, b1, h1, g1, h⟩ := h
  obtain ⟨a2, b2, h2, g2, h⟩ := h
  obtain ⟨a3, b3, h3, g3, h⟩ := h
  obtain ⟨a4, b4, h4, g4, h⟩ := h
  obtain ⟨a5, b5, h5, g5, h⟩ := h
  obtain ⟨a6, b6, h6, g6, h⟩ := h
  obtain ⟨a7, b7, h7, g7, h⟩ := h
  have e := h
  obtain ⟨x0, e0, w0⟩ := ((readsW_str Tryz.underlying9) : ReadsW Tryz.prog (n + 3) 9 (fun s : List UInt8 => [.str s]) swfW) _ g0
  obtain ⟨x1, e1, w1⟩ := ((readsW_str Tryz.underlying9) : ReadsW Tryz.prog (n + 3) 9 (fun s : List UInt8 => [.str s]) swfW) _ g1
  obtain ⟨x2, e2, w2⟩ := ((readsW_int Tryz.underlying3) : ReadsW Tryz.prog (n + 3) 3 (fun z : Int => [.int .i64 z]) (InR .i64)) _ g2
  obtain ⟨x3, e3, w3⟩ := ((readsW_str Tryz.underlying9) : ReadsW Tryz.prog (n + 3) 9 (fun s : List UInt8 => [.str s]) swfW) _ g3
  obtain ⟨x4, e4, w4⟩ := ((readsW_str Tryz.underlying9) : ReadsW Tryz.prog (n + 3) 9 (fun s : List UInt8 => [.str s]) swfW) _ g4
  obtain ⟨x5, e5, w5⟩ := ((readsW_int Tryz.underlying3) : ReadsW Tryz.prog (n + 3) 3 (fun z : Int => [.int .i64 z]) (InR .i64)) _ g5
  obtain ⟨x6, e6, w6⟩ := ((readsW_int Tryz.underlying3) : ReadsW Tryz.prog (n + 3) 3 (fun z : Int => [.int .i64 z]) (InR .i64)) _ g6
  obtain ⟨x7, e7, w7⟩ := ((readsW_list Tryz.underlying81 (by kernel_rfl) (Tapi_Source.reads _)) : ReadsW Tryz.prog (n + 3) 81 (lstf Tapi_Source.enc) (lwfW 24 Tapi_Source.wf)) _ g7
  simp only [HasFs] at e
  subst e e0 e1 e2 e3 e4 e5 e6 e7
  subst h7
  subst h6
  subst h5
  subst h4
  subst h3
  subst h2
  subst h1
  subst h0
  exact ⟨⟨x0, x1, x2, x3, x4, x5, x6, x7⟩, rfl, w0, w1, w2, w3, w4, w5, w6, w7⟩
def Tapi_Detection.wf (x : Tapi_Detection) : Prop := (swfW x.Device) ∧ (InR .i64 x.Seq) ∧ (InR .i64 x.Time) ∧ (swfW x.Tag) ∧ (swfW x.Plate) ∧ (InR .i64 x.Axles) ∧ (InR .i64 x.Score)
theorem Tapi_Detection.reads (n : Nat) : ReadsW Tryz.prog (n + 2) 74 Tapi_Detection.enc Tapi_Detection.wf := fun c h => by
  have h := hasW_struct Tryz.underlying74 h
  obtain ⟨a0, b0, h0, g0, h⟩ := h
  obtain ⟨a1, b1, h1, g1, h⟩ := h
  obtain ⟨a2, b2, h2, g2, h⟩ := h
  obtain ⟨a3, b3, h3, g3, h⟩ := h
  obtain ⟨a4, b4, h4, g4, h⟩ := h
  obtain ⟨a5, b5, h5, g5, h⟩ := h
  obtain ⟨a6, b6, h6, g6, h⟩ := h
  have e := h
  obtain ⟨x0, e0, w0⟩ := ((readsW_str Tryz.underlying9) : ReadsW Tryz.prog (n + 1) 9 (fun s : List UInt8 => [.str s]) swfW) _ g0
  obtain ⟨x1, e1, w1⟩ := ((readsW_int Tryz.underlying3) : ReadsW Tryz.prog (n + 1) 3 (fun z : Int => [.int .i64 z]) (InR .i64)) _ g1
  obtain ⟨x2, e2, w2⟩ := ((readsW_int Tryz.underlying3) : ReadsW Tryz.prog (n + 1) 3 (fun z : Int => [.int .i64 z]) (InR .i64)) _ g2
  obtain ⟨x3, e3, w3⟩ := ((readsW_str Tryz.underlying9) : ReadsW Tryz.prog (n + 1) 9 (fun s : List UInt8 => [.str s]) swfW) _ g3
  obtain ⟨x4, e4, w4⟩ := ((readsW_str Tryz.underlying9) : ReadsW Tryz.prog (n + 1) 9 (fun s : List UInt8 => [.str s]) swfW) _ g4
  obtain ⟨x5, e5, w5⟩ := ((readsW_int Tryz.underlying3) : ReadsW Tryz.prog (n + 1) 3 (fun z : Int => [.int .i64 z]) (InR .i64)) _ g5
  obtain ⟨x6, e6, w6⟩ := ((readsW_int Tryz.underlying3) : ReadsW Tryz.prog (n + 1) 3 (fun z : Int => [.int .i64 z]) (InR .i64)) _ g6
  simp only [HasFs] at e
  subst e e0 e1 e2 e3 e4 e5 e6
  subst h6
  subst h5
  subst h4
  subst h3
  subst h2
  subst h1
  subst h0
  exact ⟨⟨x0, x1, x2, x3, x4, x5, x6⟩, rfl, w0, w1, w2, w3, w4, w5, w6⟩
def Tapi_Reject.wf (x : Tapi_Reject) : Prop := (Tapi_Detection.wf x.D) ∧ (InR .i64 x.Why)
theorem Tapi_Reject.reads (n : Nat) : ReadsW Tryz.prog (n + 3) 114 Tapi_Reject.enc Tapi_Reject.wf := fun c h => by
  have h := hasW_struct Tryz.underlying114 h
  obtain ⟨a0, b0, h0, g0, h⟩ := h
  obtain ⟨a1, b1, h1, g1, h⟩ := h
  have e := h
  obtain ⟨x0, e0, w0⟩ := ((Tapi_Detection.reads _) : ReadsW Tryz.prog (n + 2) 74 Tapi_Detection.enc Tapi_Detection.wf) _ g0
  obtain ⟨x1, e1, w1⟩ := ((readsW_int Tryz.underlying3) : ReadsW Tryz.prog (n + 2) 3 (fun z : Int => [.int .i64 z]) (InR .i64)) _ g1
  simp only [HasFs] at e
  subst e e0 e1
  subst h1
  subst h0
  exact ⟨⟨x0, x1⟩, rfl, w0, w1⟩
def Tapi_Stop.wf (x : Tapi_Stop) : Prop := (swfW x.Point) ∧ (InR .i64 x.Time) ∧ (swfW x.Passage)
theorem Tapi_Stop.reads (n : Nat) : ReadsW Tryz.prog (n + 2) 105 Tapi_Stop.enc Tapi_Stop.wf := fun c h => by
  have h := hasW_struct Tryz.underlying105 h
  obtain ⟨a0, b0, h0, g0, h⟩ := h
  obtain ⟨a1, b1, h1, g1, h⟩ := h
  obtain ⟨a2, b2, h2, g2, h⟩ := h
  have e := h
  obtain ⟨x0, e0, w0⟩ := ((readsW_str Tryz.underlying9) : ReadsW Tryz.prog (n + 1) 9 (fun s : List UInt8 => [.str s]) swfW) _ g0
  obtain ⟨x1, e1, w1⟩ := ((readsW_int Tryz.underlying3) : ReadsW Tryz.prog (n + 1) 3 (fun z : Int => [.int .i64 z]) (InR .i64)) _ g1
  obtain ⟨x2, e2, w2⟩ := ((readsW_str Tryz.underlying9) : ReadsW Tryz.prog (n + 1) 9 (fun s : List UInt8 => [.str s]) swfW) _ g2
  simp only [HasFs] at e
  subst e e0 e1 e2
  subst h2
  subst h1
  subst h0
  exact ⟨⟨x0, x1, x2⟩, rfl, w0, w1, w2⟩
def Tapi_Trip.wf (x : Tapi_Trip) : Prop := (swfW x.ID) ∧ (swfW x.Vehicle) ∧ (swfW x.System) ∧ (InR .i64 x.Class) ∧ (lwfW 40 Tapi_Stop.wf x.Stops)
theorem Tapi_Trip.reads (n : Nat) : ReadsW Tryz.prog (n + 4) 90 Tapi_Trip.enc Tapi_Trip.wf := fun c h => by
  have h := hasW_struct Tryz.underlying90 h
  obtain ⟨a0, b0, h0, g0, h⟩ := h
  obtain ⟨a1, b1, h1, g1, h⟩ := h
  obtain ⟨a2, b2, h2, g2, h⟩ := h
  obtain ⟨a3, b3, h3, g3, h⟩ := h
  obtain ⟨a4, b4, h4, g4, h⟩ := h
  have e := h
  obtain ⟨x0, e0, w0⟩ := ((readsW_str Tryz.underlying9) : ReadsW Tryz.prog (n + 3) 9 (fun s : List UInt8 => [.str s]) swfW) _ g0
  obtain ⟨x1, e1, w1⟩ := ((readsW_str Tryz.underlying9) : ReadsW Tryz.prog (n + 3) 9 (fun s : List UInt8 => [.str s]) swfW) _ g1
  obtain ⟨x2, e2, w2⟩ := ((readsW_str Tryz.underlying9) : ReadsW Tryz.prog (n + 3) 9 (fun s : List UInt8 => [.str s]) swfW) _ g2
  obtain ⟨x3, e3, w3⟩ := ((readsW_int Tryz.underlying3) : ReadsW Tryz.prog (n + 3) 3 (fun z : Int => [.int .i64 z]) (InR .i64)) _ g3
  obtain ⟨x4, e4, w4⟩ := ((readsW_list Tryz.underlying88 (by kernel_rfl) (Tapi_Stop.reads _)) : ReadsW Tryz.prog (n + 3) 88 (lstf Tapi_Stop.enc) (lwfW 40 Tapi_Stop.wf)) _ g4
  simp only [HasFs] at e
  subst e e0 e1 e2 e3 e4
  subst h4
  subst h3
  subst h2
  subst h1
  subst h0
  exact ⟨⟨x0, x1, x2, x3, x4⟩, rfl, w0, w1, w2, w3, w4⟩
def Tapi_Interval.wf (x : Tapi_Interval) : Prop := (InR .i64 x.From) ∧ (InR .i64 x.To)
theorem Tapi_Interval.reads (n : Nat) : ReadsW Tryz.prog (n + 2) 61 Tapi_Interval.enc Tapi_Interval.wf := fun c h => by
  have h := hasW_struct Tryz.underlying61 h
  obtain ⟨a0, b0, h0, g0, h⟩ := h
  obtain ⟨a1, b1, h1, g1, h⟩ := h
  have e := h
  obtain ⟨x0, e0, w0⟩ := ((readsW_int Tryz.underlying3) : ReadsW Tryz.prog (n + 1) 3 (fun z : Int => [.int .i64 z]) (InR .i64)) _ g0
  obtain ⟨x1, e1, w1⟩ := ((readsW_int Tryz.underlying3) : ReadsW Tryz.prog (n + 1) 3 (fun z : Int => [.int .i64 z]) (InR .i64)) _ g1
  simp only [HasFs] at e
  subst e e0 e1
  subst h1
  subst h0
  exact ⟨⟨x0, x1⟩, rfl, w0, w1⟩
def Tapi_Stay.wf (x : Tapi_Stay) : Prop := (swfW x.ID) ∧ (swfW x.Zone) ∧ (swfW x.Plate) ∧ (Tapi_Interval.wf x.Time)
theorem Tapi_Stay.reads (n : Nat) : ReadsW Tryz.prog (n + 3) 118 Tapi_Stay.enc Tapi_Stay.wf := fun c h => by
  have h := hasW_struct Tryz.underlying118 h
  obtain ⟨a0, b0, h0, g0, h⟩ := h
  obtain ⟨a1, b1, h1, g1, h⟩ := h
  obtain ⟨a2, b2, h2, g2, h⟩ := h
  obtain ⟨a3, b3, h3, g3, h⟩ := h
  have e := h
  obtain ⟨x0, e0, w0⟩ := ((readsW_str Tryz.underlying9) : ReadsW Tryz.prog (n + 2) 9 (fun s : List UInt8 => [.str s]) swfW) _ g0
  obtain ⟨x1, e1, w1⟩ := ((readsW_str Tryz.underlying9) : ReadsW Tryz.prog (n + 2) 9 (fun s : List UInt8 => [.str s]) swfW) _ g1
  obtain ⟨x2, e2, w2⟩ := ((readsW_str Tryz.underlying9) : ReadsW Tryz.prog (n + 2) 9 (fun s : List UInt8 => [.str s]) swfW) _ g2
  obtain ⟨x3, e3, w3⟩ := ((Tapi_Interval.reads _) : ReadsW Tryz.prog (n + 2) 61 Tapi_Interval.enc Tapi_Interval.wf) _ g3
  simp only [HasFs] at e
  subst e e0 e1 e2 e3
  subst h3
  subst h2
  subst h1
  subst h0
  exact ⟨⟨x0, x1, x2, x3⟩, rfl, w0, w1, w2, w3⟩
def Tapi_Line.wf (x : Tapi_Line) : Prop := (swfW x.Text) ∧ (InR .i64 x.Cents)
theorem Tapi_Line.reads (n : Nat) : ReadsW Tryz.prog (n + 2) 109 Tapi_Line.enc Tapi_Line.wf := fun c h => by
  have h := hasW_struct Tryz.underlying109 h
  obtain ⟨a0, b0, h0, g0, h⟩ := h
  obtain ⟨a1, b1, h1, g1, h⟩ := h
  have e := h
  obtain ⟨x0, e0, w0⟩ := ((readsW_str Tryz.underlying9) : ReadsW Tryz.prog (n + 1) 9 (fun s : List UInt8 => [.str s]) swfW) _ g0
  obtain ⟨x1, e1, w1⟩ := ((readsW_int Tryz.underlying3) : ReadsW Tryz.prog (n + 1) 3 (fun z : Int => [.int .i64 z]) (InR .i64)) _ g1
  simp only [HasFs] at e
  subst e e0 e1
  subst h1
  subst h0
  exact ⟨⟨x0, x1⟩, rfl, w0, w1⟩
def Tapi_Charge.wf (x : Tapi_Charge) : Prop := (swfW x.Key) ∧ (swfW x.Vehicle) ∧ (swfW x.System) ∧ (InR .i64 x.Class) ∧ (InR .i64 x.Time) ∧ (lwfW 24 Tapi_Line.wf x.Lines) ∧ (InR .i64 x.Cents)
theorem Tapi_Charge.reads (n : Nat) : ReadsW Tryz.prog (n + 4) 86 Tapi_Charge.enc Tapi_Charge.wf := fun c h => by
  have h := hasW_struct Tryz.underlying86 h
  obtain ⟨a0, b0, h0, g0, h⟩ := h
  obtain ⟨a1, b1, h1, g1, h⟩ := h
  obtain ⟨a2, b2, h2, g2, h⟩ := h
  obtain ⟨a3, b3, h3, g3, h⟩ := h
  obtain ⟨a4, b4, h4, g4, h⟩ := h
  obtain ⟨a5, b5, h5, g5, h⟩ := h
  obtain ⟨a6, b6, h6, g6, h⟩ := h
  have e := h
  obtain ⟨x0, e0, w0⟩ := ((readsW_str Tryz.underlying9) : ReadsW Tryz.prog (n + 3) 9 (fun s : List UInt8 => [.str s]) swfW) _ g0
  obtain ⟨x1, e1, w1⟩ := ((readsW_str Tryz.underlying9) : ReadsW Tryz.prog (n + 3) 9 (fun s : List UInt8 => [.str s]) swfW) _ g1
  obtain ⟨x2, e2, w2⟩ := ((readsW_str Tryz.underlying9) : ReadsW Tryz.prog (n + 3) 9 (fun s : List UInt8 => [.str s]) swfW) _ g2
  obtain ⟨x3, e3, w3⟩ := ((readsW_int Tryz.underlying3) : ReadsW Tryz.prog (n + 3) 3 (fun z : Int => [.int .i64 z]) (InR .i64)) _ g3
  obtain ⟨x4, e4, w4⟩ := ((readsW_int Tryz.underlying3) : ReadsW Tryz.prog (n + 3) 3 (fun z : Int => [.int .i64 z]) (InR .i64)) _ g4
  obtain ⟨x5, e5, w5⟩ := ((readsW_list Tryz.underlying84 (by kernel_rfl) (Tapi_Line.reads _)) : ReadsW Tryz.prog (n + 3) 84 (lstf Tapi_Line.enc) (lwfW 24 Tapi_Line.wf)) _ g5
  obtain ⟨x6, e6, w6⟩ := ((readsW_int Tryz.underlying3) : ReadsW Tryz.prog (n + 3) 3 (fun z : Int => [.int .i64 z]) (InR .i64)) _ g6
  simp only [HasFs] at e
  subst e e0 e1 e2 e3 e4 e5 e6
  subst h6
  subst h5
  subst h4
  subst h3
  subst h2
  subst h1
  subst h0
  exact ⟨⟨x0, x1, x2, x3, x4, x5, x6⟩, rfl, w0, w1, w2, w3, w4, w5, w6⟩
def Tapi_Exclusion.wf (x : Tapi_Exclusion) : Prop := (swfW x.ID) ∧ (InR .i64 x.Why)
theorem Tapi_Exclusion.reads (n : Nat) : ReadsW Tryz.prog (n + 2) 95 Tapi_Exclusion.enc Tapi_Exclusion.wf := fun c h => by
  have h := hasW_struct Tryz.underlying95 h
  obtain ⟨a0, b0, h0, g0, h⟩ := h
  obtain ⟨a1, b1, h1, g1, h⟩ := h
  have e := h
  obtain ⟨x0, e0, w0⟩ := ((readsW_str Tryz.underlying9) : ReadsW Tryz.prog (n + 1) 9 (fun s : List UInt8 => [.str s]) swfW) _ g0
  obtain ⟨x1, e1, w1⟩ := ((readsW_int Tryz.underlying3) : ReadsW Tryz.prog (n + 1) 3 (fun z : Int => [.int .i64 z]) (InR .i64)) _ g1
  simp only [HasFs] at e
  subst e e0 e1
  subst h1
  subst h0
  exact ⟨⟨x0, x1⟩, rfl, w0, w1⟩
def Tapi_Result.wf (x : Tapi_Result) : Prop := (lwfW 112 Tapi_Passage.wf x.Passages) ∧ (lwfW 88 Tapi_Reject.wf x.Rejects) ∧ (lwfW 80 Tapi_Trip.wf x.Trips) ∧ (lwfW 64 Tapi_Stay.wf x.Stays) ∧ (lwfW 96 Tapi_Charge.wf x.Charges) ∧ (lwfW 24 Tapi_Exclusion.wf x.Exclusions)
theorem Tapi_Result.reads (n : Nat) : ReadsW Tryz.prog (n + 6) 29 Tapi_Result.enc Tapi_Result.wf := fun c h => by
  have h := hasW_struct Tryz.underlying29 h
  obtain ⟨a0, b0, h0, g0, h⟩ := h
  obtain ⟨a1, b1, h1, g1, h⟩ := h
  obtain ⟨a2, b2, h2, g2, h⟩ := h
  obtain ⟨a3, b3, h3, g3, h⟩ := h
  obtain ⟨a4, b4, h4, g4, h⟩ := h
  obtain ⟨a5, b5, h5, g5, h⟩ := h
  have e := h
  obtain ⟨x0, e0, w0⟩ := ((readsW_list Tryz.underlying22 (by kernel_rfl) (Tapi_Passage.reads _)) : ReadsW Tryz.prog (n + 5) 22 (lstf Tapi_Passage.enc) (lwfW 112 Tapi_Passage.wf)) _ g0
  obtain ⟨x1, e1, w1⟩ := ((readsW_list Tryz.underlying23 (by kernel_rfl) (Tapi_Reject.reads _)) : ReadsW Tryz.prog (n + 5) 23 (lstf Tapi_Reject.enc) (lwfW 88 Tapi_Reject.wf)) _ g1
  obtain ⟨x2, e2, w2⟩ := ((readsW_list Tryz.underlying24 (by kernel_rfl) (Tapi_Trip.reads _)) : ReadsW Tryz.prog (n + 5) 24 (lstf Tapi_Trip.enc) (lwfW 80 Tapi_Trip.wf)) _ g2
  obtain ⟨x3, e3, w3⟩ := ((readsW_list Tryz.underlying25 (by kernel_rfl) (Tapi_Stay.reads _)) : ReadsW Tryz.prog (n + 5) 25 (lstf Tapi_Stay.enc) (lwfW 64 Tapi_Stay.wf)) _ g3
  obtain ⟨x4, e4, w4⟩ := ((readsW_list Tryz.underlying26 (by kernel_rfl) (Tapi_Charge.reads _)) : ReadsW Tryz.prog (n + 5) 26 (lstf Tapi_Charge.enc) (lwfW 96 Tapi_Charge.wf)) _ g4
  obtain ⟨x5, e5, w5⟩ := ((readsW_list Tryz.underlying27 (by kernel_rfl) (Tapi_Exclusion.reads _)) : ReadsW Tryz.prog (n + 5) 27 (lstf Tapi_Exclusion.enc) (lwfW 24 Tapi_Exclusion.wf)) _ g5
  simp only [HasFs] at e
  subst e e0 e1 e2 e3 e4 e5
  subst h5
  subst h4
  subst h3
  subst h2
  subst h1
  subst h0
  exact ⟨⟨x0, x1, x2, x3, x4, x5⟩, rfl, w0, w1, w2, w3, w4, w5⟩
end Go.Proofs.YtnlaiahcemckkaaGreatDoor.Av
