import Derived.Test.YtalobodhbbkgdabDoorAvX
import Derived.Test.YtalobodhbbkgdabDoorProg
import Derived.Tactics
import Derived.Test.YtalobodhbbkgdabDoorQ1
set_option linter.unusedVariables false
set_option linter.unusedSimpArgs false
set_option maxHeartbeats 4000000
namespace Go.Proofs.YtalobodhbbkgdabDoor.Av
open Go Go.Proofs
structure Tapi_Point where
  Name : (List UInt8)
  Kind : Int
  System : (List UInt8)
def Tapi_Point.enc (x : Tapi_Point) : List AV := [.str x.Name, .int .i64 x.Kind, .str x.System]
structure Tapi_Link where
  From : (List UInt8)
  To : (List UInt8)
  Min : Int
  Max : Int
def Tapi_Link.enc (x : Tapi_Link) : List AV := [.str x.From, .str x.To, .int .i64 x.Min, .int .i64 x.Max]
structure Tapi_Network where
  Points : (List Tapi_Point)
  Links : (List Tapi_Link)
def Tapi_Network.enc (x : Tapi_Network) : List AV := [.lst (fl Tapi_Point.enc x.Points) x.Points.length, .lst (fl Tapi_Link.enc x.Links) x.Links.length]
structure Tapi_System where
  Name : (List UInt8)
  Closed : Bool
  Most : Int
def Tapi_System.enc (x : Tapi_System) : List AV := [.str x.Name, .bool x.Closed, .int .i64 x.Most]
structure Tapi_Topology where
  Net : Tapi_Network
  Systems : (List Tapi_System)
def Tapi_Topology.enc (x : Tapi_Topology) : List AV := [.lst (fl Tapi_Point.enc x.Net.Points) x.Net.Points.length, .lst (fl Tapi_Link.enc x.Net.Links) x.Net.Links.length, .lst (fl Tapi_System.enc x.Systems) x.Systems.length]
structure Tapi_Offset where
  From : Int
  Delta : Int
def Tapi_Offset.enc (x : Tapi_Offset) : List AV := [.int .i64 x.From, .int .i64 x.Delta]
structure Tapi_Device where
  Name : (List UInt8)
  Point : (List UInt8)
  Kind : Int
  Lane : Int
  Offsets : (List Tapi_Offset)
  Down : (List Tapi_Interval)
def Tapi_Device.enc (x : Tapi_Device) : List AV := [.str x.Name, .str x.Point, .int .i64 x.Kind, .int .i64 x.Lane, .lst (fl Tapi_Offset.enc x.Offsets) x.Offsets.length, .lst (fl Tapi_Interval.enc x.Down) x.Down.length]
structure Tapi_ClassRule where
  From : Int
  To : Int
  Class : Int
def Tapi_ClassRule.enc (x : Tapi_ClassRule) : List AV := [.int .i64 x.From, .int .i64 x.To, .int .i64 x.Class]
structure Tapi_TagState where
  Tag : (List UInt8)
  From : Int
  State : Int
def Tapi_TagState.enc (x : Tapi_TagState) : List AV := [.str x.Tag, .int .i64 x.From, .int .i64 x.State]
structure Tapi_Window where
  Days : Int
  From : Int
  To : Int
def Tapi_Window.enc (x : Tapi_Window) : List AV := [.int .i64 x.Days, .int .i64 x.From, .int .i64 x.To]
structure Tapi_Band where
  Name : (List UInt8)
  Window : Tapi_Window
def Tapi_Band.enc (x : Tapi_Band) : List AV := [.str x.Name, .int .i64 x.Window.Days, .int .i64 x.Window.From, .int .i64 x.Window.To]
structure Tapi_Rate where
  From : (List UInt8)
  To : (List UInt8)
  Class : Int
  Band : (List UInt8)
  Cents : Int
def Tapi_Rate.enc (x : Tapi_Rate) : List AV := [.str x.From, .str x.To, .int .i64 x.Class, .str x.Band, .int .i64 x.Cents]
structure Tapi_Tariff where
  Valid : Tapi_Interval
  Bands : (List Tapi_Band)
  Rates : (List Tapi_Rate)
def Tapi_Tariff.enc (x : Tapi_Tariff) : List AV := [.int .i64 x.Valid.From, .int .i64 x.Valid.To, .lst (fl Tapi_Band.enc x.Bands) x.Bands.length, .lst (fl Tapi_Rate.enc x.Rates) x.Rates.length]
structure Tapi_Scale where
  Period : Int
  Up : (List Int)
  Down : (List Int)
  Parts : (List Int)
def Tapi_Scale.enc (x : Tapi_Scale) : List AV := [.int .i64 x.Period, .lst (fl e_i64 x.Up) x.Up.length, .lst (fl e_i64 x.Down) x.Down.length, .lst (fl e_i64 x.Parts) x.Parts.length]
structure Tapi_Discount where
  Name : (List UInt8)
  Kind : Int
  Amount : Int
  Group : (List UInt8)
  System : (List UInt8)
  Class : Int
  Window : Tapi_Window
  Least : Int
def Tapi_Discount.enc (x : Tapi_Discount) : List AV := [.str x.Name, .int .i64 x.Kind, .int .i64 x.Amount, .str x.Group, .str x.System, .int .i64 x.Class, .int .i64 x.Window.Days, .int .i64 x.Window.From, .int .i64 x.Window.To, .int .i64 x.Least]
structure Tapi_Cap where
  Name : (List UInt8)
  System : (List UInt8)
  Days : Int
  Cents : Int
def Tapi_Cap.enc (x : Tapi_Cap) : List AV := [.str x.Name, .str x.System, .int .i64 x.Days, .int .i64 x.Cents]
structure Tapi_Step where
  Upto : Int
  Unit : Int
  Cents : Int
def Tapi_Step.enc (x : Tapi_Step) : List AV := [.int .i64 x.Upto, .int .i64 x.Unit, .int .i64 x.Cents]
structure Tapi_Zone where
  Name : (List UInt8)
  Hours : (List Tapi_Window)
  Steps : (List Tapi_Step)
  Grace : Int
  Free : Int
  DayMax : Int
  MaxStay : Int
def Tapi_Zone.enc (x : Tapi_Zone) : List AV := [.str x.Name, .lst (fl Tapi_Window.enc x.Hours) x.Hours.length, .lst (fl Tapi_Step.enc x.Steps) x.Steps.length, .int .i64 x.Grace, .int .i64 x.Free, .int .i64 x.DayMax, .int .i64 x.MaxStay]
structure Tapi_Permit where
  Name : (List UInt8)
  Zone : (List UInt8)
  Plates : (List (List UInt8))
  Valid : Tapi_Interval
  Hours : (List Tapi_Window)
  Most : Int
def Tapi_Permit.enc (x : Tapi_Permit) : List AV := [.str x.Name, .str x.Zone, .lst (fl e_str x.Plates) x.Plates.length, .int .i64 x.Valid.From, .int .i64 x.Valid.To, .lst (fl Tapi_Window.enc x.Hours) x.Hours.length, .int .i64 x.Most]
structure Tapi_Owned where
  Tag : (List UInt8)
  Plate : (List UInt8)
  Time : Tapi_Interval
def Tapi_Owned.enc (x : Tapi_Owned) : List AV := [.str x.Tag, .str x.Plate, .int .i64 x.Time.From, .int .i64 x.Time.To]
structure Tapi_Refill where
  Below : Int
  Cents : Int
  Tries : Int
  Wait : Int
def Tapi_Refill.enc (x : Tapi_Refill) : List AV := [.int .i64 x.Below, .int .i64 x.Cents, .int .i64 x.Tries, .int .i64 x.Wait]
structure Tapi_Account where
  Name : (List UInt8)
  Agency : (List UInt8)
  Prepay : Bool
  Owned : (List Tapi_Owned)
  Refill : Tapi_Refill
  Exempt : Bool
def Tapi_Account.enc (x : Tapi_Account) : List AV := [.str x.Name, .str x.Agency, .bool x.Prepay, .lst (fl Tapi_Owned.enc x.Owned) x.Owned.length, .int .i64 x.Refill.Below, .int .i64 x.Refill.Cents, .int .i64 x.Refill.Tries, .int .i64 x.Refill.Wait, .bool x.Exempt]
structure Tapi_Relief where
  Kind : Int
  Part : Int
def Tapi_Relief.enc (x : Tapi_Relief) : List AV := [.int .i64 x.Kind, .int .i64 x.Part]
structure Tapi_Law where
  Days : (List Int)
  Fees : (List Int)
  Limit : Int
def Tapi_Law.enc (x : Tapi_Law) : List AV := [.lst (fl e_i64 x.Days) x.Days.length, .lst (fl e_i64 x.Fees) x.Fees.length, .int .i64 x.Limit]
structure Tapi_Keeping where
  Purpose : Int
  Seconds : Int
  Least : Int
def Tapi_Keeping.enc (x : Tapi_Keeping) : List AV := [.int .i64 x.Purpose, .int .i64 x.Seconds, .int .i64 x.Least]
structure Tapi_Config where
  Top : Tapi_Topology
  Devices : (List Tapi_Device)
  Classes : (List Tapi_ClassRule)
  Tags : (List Tapi_TagState)
  Gap : Int
  Weak : Int
  Tariffs : (List Tapi_Tariff)
  Scale : Tapi_Scale
  Discounts : (List Tapi_Discount)
  Caps : (List Tapi_Cap)
  Zones : (List Tapi_Zone)
  Permits : (List Tapi_Permit)
  Accounts : (List Tapi_Account)
  Reliefs : (List Tapi_Relief)
  Holidays : (List Int)
  Law : Tapi_Law
  Keeping : (List Tapi_Keeping)
  Agency : (List UInt8)
def Tapi_Config.enc (x : Tapi_Config) : List AV := [.lst (fl Tapi_Point.enc x.Top.Net.Points) x.Top.Net.Points.length, .lst (fl Tapi_Link.enc x.Top.Net.Links) x.Top.Net.Links.length, .lst (fl Tapi_System.enc x.Top.Systems) x.Top.Systems.length, .lst (fl Tapi_Device.enc x.Devices) x.Devices.length, .lst (fl Tapi_ClassRule.enc x.Classes) x.Classes.length, .lst (fl Tapi_TagState.enc x.Tags) x.Tags.length, .int .i64 x.Gap, .int .i64 x.Weak, .lst (fl Tapi_Tariff.enc x.Tariffs) x.Tariffs.length, .int .i64 x.Scale.Period, .lst (fl e_i64 x.Scale.Up) x.Scale.Up.length, .lst (fl e_i64 x.Scale.Down) x.Scale.Down.length, .lst (fl e_i64 x.Scale.Parts) x.Scale.Parts.length, .lst (fl Tapi_Discount.enc x.Discounts) x.Discounts.length, .lst (fl Tapi_Cap.enc x.Caps) x.Caps.length, .lst (fl Tapi_Zone.enc x.Zones) x.Zones.length, .lst (fl Tapi_Permit.enc x.Permits) x.Permits.length, .lst (fl Tapi_Account.enc x.Accounts) x.Accounts.length, .lst (fl Tapi_Relief.enc x.Reliefs) x.Reliefs.length, .lst (fl e_i64 x.Holidays) x.Holidays.length, .lst (fl e_i64 x.Law.Days) x.Law.Days.length, .lst (fl e_i64 x.Law.Fees) x.Law.Fees.length, .int .i64 x.Law.Limit, .lst (fl Tapi_Keeping.enc x.Keeping) x.Keeping.length, .str x.Agency]
structure Tapi_Seen where
  D : Tapi_Detection
  Time : Int
  Point : (List UInt8)
  Lane : Int
  Kind : Int
def Tapi_Seen.enc (x : Tapi_Seen) : List AV := [.str x.D.Device, .int .i64 x.D.Seq, .int .i64 x.D.Time, .str x.D.Tag, .str x.D.Plate, .int .i64 x.D.Axles, .int .i64 x.D.Score, .int .i64 x.Time, .str x.Point, .int .i64 x.Lane, .int .i64 x.Kind]
structure Tapi_Parked where
  Kind : Int
  Zone : (List UInt8)
  Plate : (List UInt8)
  Time : Int
  Until : Int
def Tapi_Parked.enc (x : Tapi_Parked) : List AV := [.int .i64 x.Kind, .str x.Zone, .str x.Plate, .int .i64 x.Time, .int .i64 x.Until]
structure Tapi_Post where
  Account : (List UInt8)
  Cents : Int
def Tapi_Post.enc (x : Tapi_Post) : List AV := [.str x.Account, .int .i64 x.Cents]
structure Tapi_Entry where
  Key : (List UInt8)
  Time : Int
  Posts : (List Tapi_Post)
def Tapi_Entry.enc (x : Tapi_Entry) : List AV := [.str x.Key, .int .i64 x.Time, .lst (fl Tapi_Post.enc x.Posts) x.Posts.length]
structure Tapi_Ledger where
  Entries : (List Tapi_Entry)
def Tapi_Ledger.enc (x : Tapi_Ledger) : List AV := [.lst (fl Tapi_Entry.enc x.Entries) x.Entries.length]
structure Tapi_Books where
  Ledger : Tapi_Ledger
  Done : (List Tapi_Charge)
def Tapi_Books.enc (x : Tapi_Books) : List AV := [.lst (fl Tapi_Entry.enc x.Ledger.Entries) x.Ledger.Entries.length, .lst (fl Tapi_Charge.enc x.Done) x.Done.length]
structure Tapi_Appeal where
  State : Int
  Ground : Int
  Day : Int
def Tapi_Appeal.enc (x : Tapi_Appeal) : List AV := [.int .i64 x.State, .int .i64 x.Ground, .int .i64 x.Day]
structure Tapi_Case where
  ID : (List UInt8)
  Plate : (List UInt8)
  Key : (List UInt8)
  Begun : Int
  Since : Int
  Stage : Int
  Owed : Int
  Paid : Int
  Paused : Int
  Appeal : Tapi_Appeal
def Tapi_Case.enc (x : Tapi_Case) : List AV := [.str x.ID, .str x.Plate, .str x.Key, .int .i64 x.Begun, .int .i64 x.Since, .int .i64 x.Stage, .int .i64 x.Owed, .int .i64 x.Paid, .int .i64 x.Paused, .int .i64 x.Appeal.State, .int .i64 x.Appeal.Ground, .int .i64 x.Appeal.Day]
structure Tapi_State where
  Config : Tapi_Config
  Seen : (List Tapi_Seen)
  Rejects : (List Tapi_Reject)
  Parked : (List Tapi_Parked)
  Closed : Int
  Result : Tapi_Result
  Books : Tapi_Books
  Cases : (List Tapi_Case)
  Count : Int
def Tapi_State.enc (x : Tapi_State) : List AV := [.lst (fl Tapi_Point.enc x.Config.Top.Net.Points) x.Config.Top.Net.Points.length, .lst (fl Tapi_Link.enc x.Config.Top.Net.Links) x.Config.Top.Net.Links.length, .lst (fl Tapi_System.enc x.Config.Top.Systems) x.Config.Top.Systems.length, .lst (fl Tapi_Device.enc x.Config.Devices) x.Config.Devices.length, .lst (fl Tapi_ClassRule.enc x.Config.Classes) x.Config.Classes.length, .lst (fl Tapi_TagState.enc x.Config.Tags) x.Config.Tags.length, .int .i64 x.Config.Gap, .int .i64 x.Config.Weak, .lst (fl Tapi_Tariff.enc x.Config.Tariffs) x.Config.Tariffs.length, .int .i64 x.Config.Scale.Period, .lst (fl e_i64 x.Config.Scale.Up) x.Config.Scale.Up.length, .lst (fl e_i64 x.Config.Scale.Down) x.Config.Scale.Down.length, .lst (fl e_i64 x.Config.Scale.Parts) x.Config.Scale.Parts.length, .lst (fl Tapi_Discount.enc x.Config.Discounts) x.Config.Discounts.length, .lst (fl Tapi_Cap.enc x.Config.Caps) x.Config.Caps.length, .lst (fl Tapi_Zone.enc x.Config.Zones) x.Config.Zones.length, .lst (fl Tapi_Permit.enc x.Config.Permits) x.Config.Permits.length, .lst (fl Tapi_Account.enc x.Config.Accounts) x.Config.Accounts.length, .lst (fl Tapi_Relief.enc x.Config.Reliefs) x.Config.Reliefs.length, .lst (fl e_i64 x.Config.Holidays) x.Config.Holidays.length, .lst (fl e_i64 x.Config.Law.Days) x.Config.Law.Days.length, .lst (fl e_i64 x.Config.Law.Fees) x.Config.Law.Fees.length, .int .i64 x.Config.Law.Limit, .lst (fl Tapi_Keeping.enc x.Config.Keeping) x.Config.Keeping.length, .str x.Config.Agency, .lst (fl Tapi_Seen.enc x.Seen) x.Seen.length, .lst (fl Tapi_Reject.enc x.Rejects) x.Rejects.length, .lst (fl Tapi_Parked.enc x.Parked) x.Parked.length, .int .i64 x.Closed, .lst (fl Tapi_Passage.enc x.Result.Passages) x.Result.Passages.length, .lst (fl Tapi_Reject.enc x.Result.Rejects) x.Result.Rejects.length, .lst (fl Tapi_Trip.enc x.Result.Trips) x.Result.Trips.length, .lst (fl Tapi_Stay.enc x.Result.Stays) x.Result.Stays.length, .lst (fl Tapi_Charge.enc x.Result.Charges) x.Result.Charges.length, .lst (fl Tapi_Exclusion.enc x.Result.Exclusions) x.Result.Exclusions.length, .lst (fl Tapi_Entry.enc x.Books.Ledger.Entries) x.Books.Ledger.Entries.length, .lst (fl Tapi_Charge.enc x.Books.Done) x.Books.Done.length, .lst (fl Tapi_Case.enc x.Cases) x.Cases.length, .int .i64 x.Count]
noncomputable def tollwaylaw52_great_L11_step (s_0 : Tapi_State) : Nat → Option (Nat ⊕ (Unit ⊕ Unit)) := fun k77 =>
  if (↑k77 : Int) < (↑s_0.Result.Passages.length : Int) then
    (s_0.Result.Passages[k77]?).bind fun x18 =>
    if (↑x18.Sources.length : Int) > (40 : Int) then
      some (Sum.inr (Sum.inl ()))
    else
      if InR .i64 ((↑k77 : Int) + 1) then
        some (Sum.inl (k77 + 1))
      else none
  else
    some (Sum.inr (Sum.inr (())))
def tollwaylaw52_great_L11_H (s_0 : Tapi_State) : Nat → St := fun (s : Nat) => S 123 [(1, .ptr 0 0), (3, .ptr 1 0), (75, .lst (fl Tapi_Passage.enc s_0.Result.Passages) s_0.Result.Passages.length), (76, .int .i64 (↑s_0.Result.Passages.length : Int)), (77, .int .i64 (↑s : Int))] [{ c := (Tapi_State.enc s_0), e := 64, ext := false, fz := 0, pl := true, o := false }, { c := (Tapi_Result.enc s_0.Result), e := 56, ext := false, fz := 0, pl := true, o := false }]
theorem tollwaylaw52_great_L11_0 (s_0 : Tapi_State) (k77 : Nat) (c17 : (↑k77 : Int) < (↑s_0.Result.Passages.length : Int)) (x18 : Tapi_Passage) (h19 : s_0.Result.Passages[k77]? = some x18) (c20 : (↑x18.Sources.length : Int) > (40 : Int)) : Does Tryd.prog GT 2 (bodyAt Tryd.prog 7 [1, 1, 1, 0, 1, 0, 0]) (tollwaylaw52_great_L11_H s_0 k77) .ret (S 123 [(2, .bool true)] [{ c := (Tapi_State.enc s_0), e := 64, ext := false, fz := 0, pl := true, o := false }, { c := (Tapi_Result.enc s_0.Result), e := 56, ext := false, fz := 0, pl := true, o := false }]) :=
  Does.of_viewM 2 400 ((.op none .a) :: (.br true) :: (.op none (.i k77)) :: (.op none (.v [.str x18.ID, .str x18.Point, .int .i64 x18.Time, .str x18.Tag, .str x18.Plate, .int .i64 x18.Class, .int .i64 x18.Score, .lst (fl Tapi_Source.enc x18.Sources) x18.Sources.length])) :: (cs 5 [.op none .a, .br true, .op none .c])) [0, 1] (ps := [((decide ((↑k77 : Int) < (↑s_0.Result.Passages.length : Int))) = true), ((↑k77 : Int) = ((k77 : Nat) : Int) ∧ k77 < s_0.Result.Passages.length), ((fl Tapi_Passage.enc s_0.Result.Passages) ≠ []), (sub (fl Tapi_Passage.enc s_0.Result.Passages) (k77 * 8) 8 = [.str x18.ID, .str x18.Point, .int .i64 x18.Time, .str x18.Tag, .str x18.Plate, .int .i64 x18.Class, .int .i64 x18.Score, .lst (fl Tapi_Source.enc x18.Sources) x18.Sources.length]), ((decide ((↑x18.Sources.length : Int) > (40 : Int))) = true)]) (by kernel_rfl) (by kernel_rfl) ⟨(decide_eq_true c17), ⟨rfl, get_lt h19⟩, (fl_ne (f := Tapi_Passage.enc) (z := 7) (fun _ => rfl) h19), (fl_sub0 (f := Tapi_Passage.enc) (z := 8) (j := k77) (fun _ => rfl) h19 rfl), ok1 (decide_eq_true c20)⟩
theorem tollwaylaw52_great_L11_1 (s_0 : Tapi_State) (k77 : Nat) (c17 : (↑k77 : Int) < (↑s_0.Result.Passages.length : Int)) (x18 : Tapi_Passage) (h19 : s_0.Result.Passages[k77]? = some x18) (c20 : ¬ ((↑x18.Sources.length : Int) > (40 : Int))) (h21 : InR .i64 ((↑k77 : Int) + 1)) : Does Tryd.prog GT 2 (bodyAt Tryd.prog 7 [1, 1, 1, 0, 1, 0, 0]) (tollwaylaw52_great_L11_H s_0 k77) .normal (S 123 [(1, .ptr 0 0), (3, .ptr 1 0), (75, .lst (fl Tapi_Passage.enc s_0.Result.Passages) s_0.Result.Passages.length), (76, .int .i64 (↑s_0.Result.Passages.length : Int)), (77, .int .i64 ((↑k77 : Int) + 1))] [{ c := (Tapi_State.enc s_0), e := 64, ext := false, fz := 0, pl := true, o := false }, { c := (Tapi_Result.enc s_0.Result), e := 56, ext := false, fz := 0, pl := true, o := false }]) :=
  Does.of_viewM 2 400 ((.op none .a) :: (.br true) :: (.op none (.i k77)) :: (.op none (.v [.str x18.ID, .str x18.Point, .int .i64 x18.Time, .str x18.Tag, .str x18.Plate, .int .i64 x18.Class, .int .i64 x18.Score, .lst (fl Tapi_Source.enc x18.Sources) x18.Sources.length])) :: (cs 5 [.op none .a, .br false, .op none .w, .op none .c])) [0, 1] (ps := [((decide ((↑k77 : Int) < (↑s_0.Result.Passages.length : Int))) = true), ((↑k77 : Int) = ((k77 : Nat) : Int) ∧ k77 < s_0.Result.Passages.length), ((fl Tapi_Passage.enc s_0.Result.Passages) ≠ []), (sub (fl Tapi_Passage.enc s_0.Result.Passages) (k77 * 8) 8 = [.str x18.ID, .str x18.Point, .int .i64 x18.Time, .str x18.Tag, .str x18.Plate, .int .i64 x18.Class, .int .i64 x18.Score, .lst (fl Tapi_Source.enc x18.Sources) x18.Sources.length]), ((decide ((↑x18.Sources.length : Int) > (40 : Int))) = false), (IntKind.min .i64 ≤ ((↑k77 : Int) + 1) ∧ ((↑k77 : Int) + 1) ≤ IntKind.max .i64)]) (by kernel_rfl) (by kernel_rfl) ⟨(decide_eq_true c17), ⟨rfl, get_lt h19⟩, (fl_ne (f := Tapi_Passage.enc) (z := 7) (fun _ => rfl) h19), (fl_sub0 (f := Tapi_Passage.enc) (z := 8) (j := k77) (fun _ => rfl) h19 rfl), (decide_eq_false c20), ok1 h21⟩
theorem tollwaylaw52_great_L11_2 (s_0 : Tapi_State) (k77 : Nat) (c17 : ¬ ((↑k77 : Int) < (↑s_0.Result.Passages.length : Int))) : Does Tryd.prog GT 2 (bodyAt Tryd.prog 7 [1, 1, 1, 0, 1, 0, 0]) (tollwaylaw52_great_L11_H s_0 k77) (.exit 0) (S 123 [(1, .ptr 0 0), (3, .ptr 1 0)] [{ c := (Tapi_State.enc s_0), e := 64, ext := false, fz := 0, pl := true, o := false }, { c := (Tapi_Result.enc s_0.Result), e := 56, ext := false, fz := 0, pl := true, o := false }]) :=
  Does.of_viewM 2 400 [.op none .a, .br false] [0, 1] (ps := [((decide ((↑k77 : Int) < (↑s_0.Result.Passages.length : Int))) = false)]) (by kernel_rfl) (by kernel_rfl) (ok1 (decide_eq_false c17))
def tollwaylaw52_great_L11_X (s_0 : Tapi_State) : (Unit ⊕ Unit) → AEx := fun q => match q with | Sum.inl o => .ret | Sum.inr (o) => (.exit 0)
def tollwaylaw52_great_L11_E (s_0 : Tapi_State) : (Unit ⊕ Unit) → St := fun q => match q with | Sum.inl o => S 123 [(2, .bool true)] [{ c := (Tapi_State.enc s_0), e := 64, ext := false, fz := 0, pl := true, o := false }, { c := (Tapi_Result.enc s_0.Result), e := 56, ext := false, fz := 0, pl := true, o := false }] | Sum.inr (o) => S 123 [(1, .ptr 0 0), (3, .ptr 1 0)] [{ c := (Tapi_State.enc s_0), e := 64, ext := false, fz := 0, pl := true, o := false }, { c := (Tapi_Result.enc s_0.Result), e := 56, ext := false, fz := 0, pl := true, o := false }]
theorem tollwaylaw52_great_L11_does (s_0 : Tapi_State) {s : Nat} {r : Unit ⊕ Unit} (h : lp (tollwaylaw52_great_L11_step s_0) s = some r) : Does Tryd.prog GT 2 (.loop (bodyAt Tryd.prog 7 [1, 1, 1, 0, 1, 0, 0])) (tollwaylaw52_great_L11_H s_0 s) (tollwaylaw52_great_L11_X s_0 r) (tollwaylaw52_great_L11_E s_0 r) := by
  refine Does.lp (H := tollwaylaw52_great_L11_H s_0) (X := tollwaylaw52_great_L11_X s_0) (E := tollwaylaw52_great_L11_E s_0) (fun s s2 h => ?_) (fun s r h => ?_) h
  · revert h; revert s; intro k77 h
    unfold tollwaylaw52_great_L11_step at h
    try dsimp only at h
    rcases ite_some h with ⟨c17, h⟩ | ⟨c17, h⟩
    · obtain ⟨x18, h19, h⟩ := bind_some h
      rcases ite_some h with ⟨c20, h⟩ | ⟨c20, h⟩
      · simp at h
      · obtain ⟨h21, h⟩ := guard_some h
        simp only [Option.some.injEq, Sum.inl.injEq] at h
        subst h
        have hq := tollwaylaw52_great_L11_1 s_0 k77 c17 x18 h19 c20 h21
        first | exact hq | exact Eq.mp (by simp only [tollwaylaw52_great_L11_H, List.length_set] <;> rfl) hq
    · simp at h
  · revert h; revert s; intro k77 h
    unfold tollwaylaw52_great_L11_step at h
    try dsimp only at h
    rcases ite_some h with ⟨c17, h⟩ | ⟨c17, h⟩
    · obtain ⟨x18, h19, h⟩ := bind_some h
      rcases ite_some h with ⟨c20, h⟩ | ⟨c20, h⟩
      · simp only [Option.some.injEq, Sum.inr.injEq] at h
        subst h
        exact ⟨tollwaylaw52_great_L11_0 s_0 k77 c17 x18 h19 c20, by intro q; cases q⟩
      · obtain ⟨h21, h⟩ := guard_some h
        simp at h
    · simp only [Option.some.injEq, Sum.inr.injEq] at h
      subst h
      exact ⟨tollwaylaw52_great_L11_2 s_0 k77 c17, by intro q; cases q⟩
noncomputable def tollwaylaw52_great_L22_step (s_0 : Tapi_State) : Nat → Option (Nat ⊕ (Unit ⊕ Unit)) := fun k89 =>
  if (↑k89 : Int) < (↑s_0.Result.Trips.length : Int) then
    (s_0.Result.Trips[k89]?).bind fun x29 =>
    if (↑x29.Stops.length : Int) > (40 : Int) then
      some (Sum.inr (Sum.inl ()))
    else
      if InR .i64 ((↑k89 : Int) + 1) then
        some (Sum.inl (k89 + 1))
      else none
  else
    some (Sum.inr (Sum.inr (())))
def tollwaylaw52_great_L22_H (s_0 : Tapi_State) : Nat → St := fun (s : Nat) => S 123 [(1, .ptr 0 0), (3, .ptr 1 0), (87, .lst (fl Tapi_Trip.enc s_0.Result.Trips) s_0.Result.Trips.length), (88, .int .i64 (↑s_0.Result.Trips.length : Int)), (89, .int .i64 (↑s : Int))] [{ c := (Tapi_State.enc s_0), e := 64, ext := false, fz := 0, pl := true, o := false }, { c := (Tapi_Result.enc s_0.Result), e := 56, ext := false, fz := 0, pl := true, o := false }]
theorem tollwaylaw52_great_L22_0 (s_0 : Tapi_State) (k89 : Nat) (c28 : (↑k89 : Int) < (↑s_0.Result.Trips.length : Int)) (x29 : Tapi_Trip) (h30 : s_0.Result.Trips[k89]? = some x29) (c31 : (↑x29.Stops.length : Int) > (40 : Int)) : Does Tryd.prog GT 2 (bodyAt Tryd.prog 7 [1, 1, 1, 1, 0, 1, 0, 0]) (tollwaylaw52_great_L22_H s_0 k89) .ret (S 123 [(2, .bool true)] [{ c := (Tapi_State.enc s_0), e := 64, ext := false, fz := 0, pl := true, o := false }, { c := (Tapi_Result.enc s_0.Result), e := 56, ext := false, fz := 0, pl := true, o := false }]) :=
  Does.of_viewM 2 400 ((.op none .a) :: (.br true) :: (.op none (.i k89)) :: (.op none (.v [.str x29.ID, .str x29.Vehicle, .str x29.System, .int .i64 x29.Class, .lst (fl Tapi_Stop.enc x29.Stops) x29.Stops.length])) :: (cs 5 [.op none .a, .br true, .op none .c])) [0, 1] (ps := [((decide ((↑k89 : Int) < (↑s_0.Result.Trips.length : Int))) = true), ((↑k89 : Int) = ((k89 : Nat) : Int) ∧ k89 < s_0.Result.Trips.length), ((fl Tapi_Trip.enc s_0.Result.Trips) ≠ []), (sub (fl Tapi_Trip.enc s_0.Result.Trips) (k89 * 5) 5 = [.str x29.ID, .str x29.Vehicle, .str x29.System, .int .i64 x29.Class, .lst (fl Tapi_Stop.enc x29.Stops) x29.Stops.length]), ((decide ((↑x29.Stops.length : Int) > (40 : Int))) = true)]) (by kernel_rfl) (by kernel_rfl) ⟨(decide_eq_true c28), ⟨rfl, get_lt h30⟩, (fl_ne (f := Tapi_Trip.enc) (z := 4) (fun _ => rfl) h30), (fl_sub0 (f := Tapi_Trip.enc) (z := 5) (j := k89) (fun _ => rfl) h30 rfl), ok1 (decide_eq_true c31)⟩
theorem tollwaylaw52_great_L22_1 (s_0 : Tapi_State) (k89 : Nat) (c28 : (↑k89 : Int) < (↑s_0.Result.Trips.length : Int)) (x29 : Tapi_Trip) (h30 : s_0.Result.Trips[k89]? = some x29) (c31 : ¬ ((↑x29.Stops.length : Int) > (40 : Int))) (h32 : InR .i64 ((↑k89 : Int) + 1)) : Does Tryd.prog GT 2 (bodyAt Tryd.prog 7 [1, 1, 1, 1, 0, 1, 0, 0]) (tollwaylaw52_great_L22_H s_0 k89) .normal (S 123 [(1, .ptr 0 0), (3, .ptr 1 0), (87, .lst (fl Tapi_Trip.enc s_0.Result.Trips) s_0.Result.Trips.length), (88, .int .i64 (↑s_0.Result.Trips.length : Int)), (89, .int .i64 ((↑k89 : Int) + 1))] [{ c := (Tapi_State.enc s_0), e := 64, ext := false, fz := 0, pl := true, o := false }, { c := (Tapi_Result.enc s_0.Result), e := 56, ext := false, fz := 0, pl := true, o := false }]) :=
  Does.of_viewM 2 400 ((.op none .a) :: (.br true) :: (.op none (.i k89)) :: (.op none (.v [.str x29.ID, .str x29.Vehicle, .str x29.System, .int .i64 x29.Class, .lst (fl Tapi_Stop.enc x29.Stops) x29.Stops.length])) :: (cs 5 [.op none .a, .br false, .op none .w, .op none .c])) [0, 1] (ps := [((decide ((↑k89 : Int) < (↑s_0.Result.Trips.length : Int))) = true), ((↑k89 : Int) = ((k89 : Nat) : Int) ∧ k89 < s_0.Result.Trips.length), ((fl Tapi_Trip.enc s_0.Result.Trips) ≠ []), (sub (fl Tapi_Trip.enc s_0.Result.Trips) (k89 * 5) 5 = [.str x29.ID, .str x29.Vehicle, .str x29.System, .int .i64 x29.Class, .lst (fl Tapi_Stop.enc x29.Stops) x29.Stops.length]), ((decide ((↑x29.Stops.length : Int) > (40 : Int))) = false), (IntKind.min .i64 ≤ ((↑k89 : Int) + 1) ∧ ((↑k89 : Int) + 1) ≤ IntKind.max .i64)]) (by kernel_rfl) (by kernel_rfl) ⟨(decide_eq_true c28), ⟨rfl, get_lt h30⟩, (fl_ne (f := Tapi_Trip.enc) (z := 4) (fun _ => rfl) h30), (fl_sub0 (f := Tapi_Trip.enc) (z := 5) (j := k89) (fun _ => rfl) h30 rfl), (decide_eq_false c31), ok1 h32⟩
theorem tollwaylaw52_great_L22_2 (s_0 : Tapi_State) (k89 : Nat) (c28 : ¬ ((↑k89 : Int) < (↑s_0.Result.Trips.length : Int))) : Does Tryd.prog GT 2 (bodyAt Tryd.prog 7 [1, 1, 1, 1, 0, 1, 0, 0]) (tollwaylaw52_great_L22_H s_0 k89) (.exit 2) (S 123 [(1, .ptr 0 0), (3, .ptr 1 0)] [{ c := (Tapi_State.enc s_0), e := 64, ext := false, fz := 0, pl := true, o := false }, { c := (Tapi_Result.enc s_0.Result), e := 56, ext := false, fz := 0, pl := true, o := false }]) :=
  Does.of_viewM 2 400 [.op none .a, .br false] [0, 1] (ps := [((decide ((↑k89 : Int) < (↑s_0.Result.Trips.length : Int))) = false)]) (by kernel_rfl) (by kernel_rfl) (ok1 (decide_eq_false c28))
def tollwaylaw52_great_L22_X (s_0 : Tapi_State) : (Unit ⊕ Unit) → AEx := fun q => match q with | Sum.inl o => .ret | Sum.inr (o) => (.exit 2)
def tollwaylaw52_great_L22_E (s_0 : Tapi_State) : (Unit ⊕ Unit) → St := fun q => match q with | Sum.inl o => S 123 [(2, .bool true)] [{ c := (Tapi_State.enc s_0), e := 64, ext := false, fz := 0, pl := true, o := false }, { c := (Tapi_Result.enc s_0.Result), e := 56, ext := false, fz := 0, pl := true, o := false }] | Sum.inr (o) => S 123 [(1, .ptr 0 0), (3, .ptr 1 0)] [{ c := (Tapi_State.enc s_0), e := 64, ext := false, fz := 0, pl := true, o := false }, { c := (Tapi_Result.enc s_0.Result), e := 56, ext := false, fz := 0, pl := true, o := false }]
theorem tollwaylaw52_great_L22_does (s_0 : Tapi_State) {s : Nat} {r : Unit ⊕ Unit} (h : lp (tollwaylaw52_great_L22_step s_0) s = some r) : Does Tryd.prog GT 2 (.loop (bodyAt Tryd.prog 7 [1, 1, 1, 1, 0, 1, 0, 0])) (tollwaylaw52_great_L22_H s_0 s) (tollwaylaw52_great_L22_X s_0 r) (tollwaylaw52_great_L22_E s_0 r) := by
  refine Does.lp (H := tollwaylaw52_great_L22_H s_0) (X := tollwaylaw52_great_L22_X s_0) (E := tollwaylaw52_great_L22_E s_0) (fun s s2 h => ?_) (fun s r h => ?_) h
  · revert h; revert s; intro k89 h
    unfold tollwaylaw52_great_L22_step at h
    try dsimp only at h
    rcases ite_some h with ⟨c28, h⟩ | ⟨c28, h⟩
    · obtain ⟨x29, h30, h⟩ := bind_some h
      rcases ite_some h with ⟨c31, h⟩ | ⟨c31, h⟩
      · simp at h
      · obtain ⟨h32, h⟩ := guard_some h
        simp only [Option.some.injEq, Sum.inl.injEq] at h
        subst h
        have hq := tollwaylaw52_great_L22_1 s_0 k89 c28 x29 h30 c31 h32
        first | exact hq | exact Eq.mp (by simp only [tollwaylaw52_great_L22_H, List.length_set] <;> rfl) hq
    · simp at h
  · revert h; revert s; intro k89 h
    unfold tollwaylaw52_great_L22_step at h
    try dsimp only at h
    rcases ite_some h with ⟨c28, h⟩ | ⟨c28, h⟩
    · obtain ⟨x29, h30, h⟩ := bind_some h
      rcases ite_some h with ⟨c31, h⟩ | ⟨c31, h⟩
      · simp only [Option.some.injEq, Sum.inr.injEq] at h
        subst h
        exact ⟨tollwaylaw52_great_L22_0 s_0 k89 c28 x29 h30 c31, by intro q; cases q⟩
      · obtain ⟨h32, h⟩ := guard_some h
        simp at h
    · simp only [Option.some.injEq, Sum.inr.injEq] at h
      subst h
      exact ⟨tollwaylaw52_great_L22_2 s_0 k89 c28, by intro q; cases q⟩
noncomputable def tollwaylaw52_great_L33_step (s_0 : Tapi_State) : Nat → Option (Nat ⊕ (Unit ⊕ Unit)) := fun k101 =>
  if (↑k101 : Int) < (↑s_0.Result.Charges.length : Int) then
    (s_0.Result.Charges[k101]?).bind fun x40 =>
    if (↑x40.Lines.length : Int) > (40 : Int) then
      some (Sum.inr (Sum.inl ()))
    else
      if InR .i64 ((↑k101 : Int) + 1) then
        some (Sum.inl (k101 + 1))
      else none
  else
    some (Sum.inr (Sum.inr (())))
def tollwaylaw52_great_L33_H (s_0 : Tapi_State) : Nat → St := fun (s : Nat) => S 123 [(1, .ptr 0 0), (99, .lst (fl Tapi_Charge.enc s_0.Result.Charges) s_0.Result.Charges.length), (100, .int .i64 (↑s_0.Result.Charges.length : Int)), (101, .int .i64 (↑s : Int))] [{ c := (Tapi_State.enc s_0), e := 64, ext := false, fz := 0, pl := true, o := false }]
theorem tollwaylaw52_great_L33_0 (s_0 : Tapi_State) (k101 : Nat) (c39 : (↑k101 : Int) < (↑s_0.Result.Charges.length : Int)) (x40 : Tapi_Charge) (h41 : s_0.Result.Charges[k101]? = some x40) (c42 : (↑x40.Lines.length : Int) > (40 : Int)) : Does Tryd.prog GT 1 (bodyAt Tryd.prog 7 [1, 1, 1, 1, 1, 0, 1, 0, 0]) (tollwaylaw52_great_L33_H s_0 k101) .ret (S 123 [(2, .bool true)] [{ c := (Tapi_State.enc s_0), e := 64, ext := false, fz := 0, pl := true, o := false }]) :=
  Does.of_viewM 1 400 ((.op none .a) :: (.br true) :: (.op none (.i k101)) :: (.op none (.v [.str x40.Key, .str x40.Vehicle, .str x40.System, .int .i64 x40.Class, .int .i64 x40.Time, .lst (fl Tapi_Line.enc x40.Lines) x40.Lines.length, .int .i64 x40.Cents])) :: (cs 5 [.op none .a, .br true, .op none .c])) [0] (ps := [((decide ((↑k101 : Int) < (↑s_0.Result.Charges.length : Int))) = true), ((↑k101 : Int) = ((k101 : Nat) : Int) ∧ k101 < s_0.Result.Charges.length), ((fl Tapi_Charge.enc s_0.Result.Charges) ≠ []), (sub (fl Tapi_Charge.enc s_0.Result.Charges) (k101 * 7) 7 = [.str x40.Key, .str x40.Vehicle, .str x40.System, .int .i64 x40.Class, .int .i64 x40.Time, .lst (fl Tapi_Line.enc x40.Lines) x40.Lines.length, .int .i64 x40.Cents]), ((decide ((↑x40.Lines.length : Int) > (40 : Int))) = true)]) (by kernel_rfl) (by kernel_rfl) ⟨(decide_eq_true c39), ⟨rfl, get_lt h41⟩, (fl_ne (f := Tapi_Charge.enc) (z := 6) (fun _ => rfl) h41), (fl_sub0 (f := Tapi_Charge.enc) (z := 7) (j := k101) (fun _ => rfl) h41 rfl), ok1 (decide_eq_true c42)⟩
theorem tollwaylaw52_great_L33_1 (s_0 : Tapi_State) (k101 : Nat) (c39 : (↑k101 : Int) < (↑s_0.Result.Charges.length : Int)) (x40 : Tapi_Charge) (h41 : s_0.Result.Charges[k101]? = some x40) (c42 : ¬ ((↑x40.Lines.length : Int) > (40 : Int))) (h43 : InR .i64 ((↑k101 : Int) + 1)) : Does Tryd.prog GT 1 (bodyAt Tryd.prog 7 [1, 1, 1, 1, 1, 0, 1, 0, 0]) (tollwaylaw52_great_L33_H s_0 k101) .normal (S 123 [(1, .ptr 0 0), (99, .lst (fl Tapi_Charge.enc s_0.Result.Charges) s_0.Result.Charges.length), (100, .int .i64 (↑s_0.Result.Charges.length : Int)), (101, .int .i64 ((↑k101 : Int) + 1))] [{ c := (Tapi_State.enc s_0), e := 64, ext := false, fz := 0, pl := true, o := false }]) :=
  Does.of_viewM 1 400 ((.op none .a) :: (.br true) :: (.op none (.i k101)) :: (.op none (.v [.str x40.Key, .str x40.Vehicle, .str x40.System, .int .i64 x40.Class, .int .i64 x40.Time, .lst (fl Tapi_Line.enc x40.Lines) x40.Lines.length, .int .i64 x40.Cents])) :: (cs 5 [.op none .a, .br false, .op none .w, .op none .c])) [0] (ps := [((decide ((↑k101 : Int) < (↑s_0.Result.Charges.length : Int))) = true), ((↑k101 : Int) = ((k101 : Nat) : Int) ∧ k101 < s_0.Result.Charges.length), ((fl Tapi_Charge.enc s_0.Result.Charges) ≠ []), (sub (fl Tapi_Charge.enc s_0.Result.Charges) (k101 * 7) 7 = [.str x40.Key, .str x40.Vehicle, .str x40.System, .int .i64 x40.Class, .int .i64 x40.Time, .lst (fl Tapi_Line.enc x40.Lines) x40.Lines.length, .int .i64 x40.Cents]), ((decide ((↑x40.Lines.length : Int) > (40 : Int))) = false), (IntKind.min .i64 ≤ ((↑k101 : Int) + 1) ∧ ((↑k101 : Int) + 1) ≤ IntKind.max .i64)]) (by kernel_rfl) (by kernel_rfl) ⟨(decide_eq_true c39), ⟨rfl, get_lt h41⟩, (fl_ne (f := Tapi_Charge.enc) (z := 6) (fun _ => rfl) h41), (fl_sub0 (f := Tapi_Charge.enc) (z := 7) (j := k101) (fun _ => rfl) h41 rfl), (decide_eq_false c42), ok1 h43⟩
theorem tollwaylaw52_great_L33_2 (s_0 : Tapi_State) (k101 : Nat) (c39 : ¬ ((↑k101 : Int) < (↑s_0.Result.Charges.length : Int))) : Does Tryd.prog GT 1 (bodyAt Tryd.prog 7 [1, 1, 1, 1, 1, 0, 1, 0, 0]) (tollwaylaw52_great_L33_H s_0 k101) (.exit 4) (S 123 [(1, .ptr 0 0)] [{ c := (Tapi_State.enc s_0), e := 64, ext := false, fz := 0, pl := true, o := false }]) :=
  Does.of_viewM 1 400 [.op none .a, .br false] [0] (ps := [((decide ((↑k101 : Int) < (↑s_0.Result.Charges.length : Int))) = false)]) (by kernel_rfl) (by kernel_rfl) (ok1 (decide_eq_false c39))
def tollwaylaw52_great_L33_X (s_0 : Tapi_State) : (Unit ⊕ Unit) → AEx := fun q => match q with | Sum.inl o => .ret | Sum.inr (o) => (.exit 4)
def tollwaylaw52_great_L33_E (s_0 : Tapi_State) : (Unit ⊕ Unit) → St := fun q => match q with | Sum.inl o => S 123 [(2, .bool true)] [{ c := (Tapi_State.enc s_0), e := 64, ext := false, fz := 0, pl := true, o := false }] | Sum.inr (o) => S 123 [(1, .ptr 0 0)] [{ c := (Tapi_State.enc s_0), e := 64, ext := false, fz := 0, pl := true, o := false }]
theorem tollwaylaw52_great_L33_does (s_0 : Tapi_State) {s : Nat} {r : Unit ⊕ Unit} (h : lp (tollwaylaw52_great_L33_step s_0) s = some r) : Does Tryd.prog GT 1 (.loop (bodyAt Tryd.prog 7 [1, 1, 1, 1, 1, 0, 1, 0, 0])) (tollwaylaw52_great_L33_H s_0 s) (tollwaylaw52_great_L33_X s_0 r) (tollwaylaw52_great_L33_E s_0 r) := by
  refine Does.lp (H := tollwaylaw52_great_L33_H s_0) (X := tollwaylaw52_great_L33_X s_0) (E := tollwaylaw52_great_L33_E s_0) (fun s s2 h => ?_) (fun s r h => ?_) h
  · revert h; revert s; intro k101 h
    unfold tollwaylaw52_great_L33_step at h
    try dsimp only at h
    rcases ite_some h with ⟨c39, h⟩ | ⟨c39, h⟩
    · obtain ⟨x40, h41, h⟩ := bind_some h
      rcases ite_some h with ⟨c42, h⟩ | ⟨c42, h⟩
      · simp at h
      · obtain ⟨h43, h⟩ := guard_some h
        simp only [Option.some.injEq, Sum.inl.injEq] at h
        subst h
        have hq := tollwaylaw52_great_L33_1 s_0 k101 c39 x40 h41 c42 h43
        first | exact hq | exact Eq.mp (by simp only [tollwaylaw52_great_L33_H, List.length_set] <;> rfl) hq
    · simp at h
  · revert h; revert s; intro k101 h
    unfold tollwaylaw52_great_L33_step at h
    try dsimp only at h
    rcases ite_some h with ⟨c39, h⟩ | ⟨c39, h⟩
    · obtain ⟨x40, h41, h⟩ := bind_some h
      rcases ite_some h with ⟨c42, h⟩ | ⟨c42, h⟩
      · simp only [Option.some.injEq, Sum.inr.injEq] at h
        subst h
        exact ⟨tollwaylaw52_great_L33_0 s_0 k101 c39 x40 h41 c42, by intro q; cases q⟩
      · obtain ⟨h43, h⟩ := guard_some h
        simp at h
    · simp only [Option.some.injEq, Sum.inr.injEq] at h
      subst h
      exact ⟨tollwaylaw52_great_L33_2 s_0 k101 c39, by intro q; cases q⟩
noncomputable def tollwaylaw52_great_L44_step (s_0 : Tapi_State) : Nat → Option (Nat ⊕ (Unit ⊕ Unit)) := fun k114 =>
  if (↑k114 : Int) < (↑s_0.Config.Accounts.length : Int) then
    (s_0.Config.Accounts[k114]?).bind fun x51 =>
    if (↑x51.Owned.length : Int) > (80 : Int) then
      some (Sum.inr (Sum.inl ()))
    else
      if InR .i64 ((↑k114 : Int) + 1) then
        some (Sum.inl (k114 + 1))
      else none
  else
    some (Sum.inr (Sum.inr (())))
def tollwaylaw52_great_L44_H (s_0 : Tapi_State) : Nat → St := fun (s : Nat) => S 123 [(112, .lst (fl Tapi_Account.enc s_0.Config.Accounts) s_0.Config.Accounts.length), (113, .int .i64 (↑s_0.Config.Accounts.length : Int)), (114, .int .i64 (↑s : Int))] []
theorem tollwaylaw52_great_L44_0 (s_0 : Tapi_State) (k114 : Nat) (c50 : (↑k114 : Int) < (↑s_0.Config.Accounts.length : Int)) (x51 : Tapi_Account) (h52 : s_0.Config.Accounts[k114]? = some x51) (c53 : (↑x51.Owned.length : Int) > (80 : Int)) : Does Tryd.prog GT 0 (bodyAt Tryd.prog 7 [1, 1, 1, 1, 1, 1, 0, 1, 0, 0]) (tollwaylaw52_great_L44_H s_0 k114) .ret (S 123 [(2, .bool true)] []) :=
  Does.of_viewM 0 400 ((.op none .a) :: (.br true) :: (.op none (.i k114)) :: (.op none (.v [.str x51.Name, .str x51.Agency, .bool x51.Prepay, .lst (fl Tapi_Owned.enc x51.Owned) x51.Owned.length, .int .i64 x51.Refill.Below, .int .i64 x51.Refill.Cents, .int .i64 x51.Refill.Tries, .int .i64 x51.Refill.Wait, .bool x51.Exempt])) :: (cs 5 [.op none .a, .br true, .op none .c])) [] (ps := [((decide ((↑k114 : Int) < (↑s_0.Config.Accounts.length : Int))) = true), ((↑k114 : Int) = ((k114 : Nat) : Int) ∧ k114 < s_0.Config.Accounts.length), ((fl Tapi_Account.enc s_0.Config.Accounts) ≠ []), (sub (fl Tapi_Account.enc s_0.Config.Accounts) (k114 * 9) 9 = [.str x51.Name, .str x51.Agency, .bool x51.Prepay, .lst (fl Tapi_Owned.enc x51.Owned) x51.Owned.length, .int .i64 x51.Refill.Below, .int .i64 x51.Refill.Cents, .int .i64 x51.Refill.Tries, .int .i64 x51.Refill.Wait, .bool x51.Exempt]), ((decide ((↑x51.Owned.length : Int) > (80 : Int))) = true)]) (by kernel_rfl) (by kernel_rfl) ⟨(decide_eq_true c50), ⟨rfl, get_lt h52⟩, (fl_ne (f := Tapi_Account.enc) (z := 8) (fun _ => rfl) h52), (fl_sub0 (f := Tapi_Account.enc) (z := 9) (j := k114) (fun _ => rfl) h52 rfl), ok1 (decide_eq_true c53)⟩
theorem tollwaylaw52_great_L44_1 (s_0 : Tapi_State) (k114 : Nat) (c50 : (↑k114 : Int) < (↑s_0.Config.Accounts.length : Int)) (x51 : Tapi_Account) (h52 : s_0.Config.Accounts[k114]? = some x51) (c53 : ¬ ((↑x51.Owned.length : Int) > (80 : Int))) (h54 : InR .i64 ((↑k114 : Int) + 1)) : Does Tryd.prog GT 0 (bodyAt Tryd.prog 7 [1, 1, 1, 1, 1, 1, 0, 1, 0, 0]) (tollwaylaw52_great_L44_H s_0 k114) .normal (S 123 [(112, .lst (fl Tapi_Account.enc s_0.Config.Accounts) s_0.Config.Accounts.length), (113, .int .i64 (↑s_0.Config.Accounts.length : Int)), (114, .int .i64 ((↑k114 : Int) + 1))] []) :=
  Does.of_viewM 0 400 ((.op none .a) :: (.br true) :: (.op none (.i k114)) :: (.op none (.v [.str x51.Name, .str x51.Agency, .bool x51.Prepay, .lst (fl Tapi_Owned.enc x51.Owned) x51.Owned.length, .int .i64 x51.Refill.Below, .int .i64 x51.Refill.Cents, .int .i64 x51.Refill.Tries, .int .i64 x51.Refill.Wait, .bool x51.Exempt])) :: (cs 5 [.op none .a, .br false, .op none .w, .op none .c])) [] (ps := [((decide ((↑k114 : Int) < (↑s_0.Config.Accounts.length : Int))) = true), ((↑k114 : Int) = ((k114 : Nat) : Int) ∧ k114 < s_0.Config.Accounts.length), ((fl Tapi_Account.enc s_0.Config.Accounts) ≠ []), (sub (fl Tapi_Account.enc s_0.Config.Accounts) (k114 * 9) 9 = [.str x51.Name, .str x51.Agency, .bool x51.Prepay, .lst (fl Tapi_Owned.enc x51.Owned) x51.Owned.length, .int .i64 x51.Refill.Below, .int .i64 x51.Refill.Cents, .int .i64 x51.Refill.Tries, .int .i64 x51.Refill.Wait, .bool x51.Exempt]), ((decide ((↑x51.Owned.length : Int) > (80 : Int))) = false), (IntKind.min .i64 ≤ ((↑k114 : Int) + 1) ∧ ((↑k114 : Int) + 1) ≤ IntKind.max .i64)]) (by kernel_rfl) (by kernel_rfl) ⟨(decide_eq_true c50), ⟨rfl, get_lt h52⟩, (fl_ne (f := Tapi_Account.enc) (z := 8) (fun _ => rfl) h52), (fl_sub0 (f := Tapi_Account.enc) (z := 9) (j := k114) (fun _ => rfl) h52 rfl), (decide_eq_false c53), ok1 h54⟩
theorem tollwaylaw52_great_L44_2 (s_0 : Tapi_State) (k114 : Nat) (c50 : ¬ ((↑k114 : Int) < (↑s_0.Config.Accounts.length : Int))) : Does Tryd.prog GT 0 (bodyAt Tryd.prog 7 [1, 1, 1, 1, 1, 1, 0, 1, 0, 0]) (tollwaylaw52_great_L44_H s_0 k114) (.exit 6) (S 123 [] []) :=
  Does.of_viewM 0 400 [.op none .a, .br false] [] (ps := [((decide ((↑k114 : Int) < (↑s_0.Config.Accounts.length : Int))) = false)]) (by kernel_rfl) (by kernel_rfl) (ok1 (decide_eq_false c50))
def tollwaylaw52_great_L44_X (s_0 : Tapi_State) : (Unit ⊕ Unit) → AEx := fun q => match q with | Sum.inl o => .ret | Sum.inr (o) => (.exit 6)
def tollwaylaw52_great_L44_E (s_0 : Tapi_State) : (Unit ⊕ Unit) → St := fun q => match q with | Sum.inl o => S 123 [(2, .bool true)] [] | Sum.inr (o) => S 123 [] []
theorem tollwaylaw52_great_L44_does (s_0 : Tapi_State) {s : Nat} {r : Unit ⊕ Unit} (h : lp (tollwaylaw52_great_L44_step s_0) s = some r) : Does Tryd.prog GT 0 (.loop (bodyAt Tryd.prog 7 [1, 1, 1, 1, 1, 1, 0, 1, 0, 0])) (tollwaylaw52_great_L44_H s_0 s) (tollwaylaw52_great_L44_X s_0 r) (tollwaylaw52_great_L44_E s_0 r) := by
  refine Does.lp (H := tollwaylaw52_great_L44_H s_0) (X := tollwaylaw52_great_L44_X s_0) (E := tollwaylaw52_great_L44_E s_0) (fun s s2 h => ?_) (fun s r h => ?_) h
  · revert h; revert s; intro k114 h
    unfold tollwaylaw52_great_L44_step at h
    try dsimp only at h
    rcases ite_some h with ⟨c50, h⟩ | ⟨c50, h⟩
    · obtain ⟨x51, h52, h⟩ := bind_some h
      rcases ite_some h with ⟨c53, h⟩ | ⟨c53, h⟩
      · simp at h
      · obtain ⟨h54, h⟩ := guard_some h
        simp only [Option.some.injEq, Sum.inl.injEq] at h
        subst h
        have hq := tollwaylaw52_great_L44_1 s_0 k114 c50 x51 h52 c53 h54
        first | exact hq | exact Eq.mp (by simp only [tollwaylaw52_great_L44_H, List.length_set] <;> rfl) hq
    · simp at h
  · revert h; revert s; intro k114 h
    unfold tollwaylaw52_great_L44_step at h
    try dsimp only at h
    rcases ite_some h with ⟨c50, h⟩ | ⟨c50, h⟩
    · obtain ⟨x51, h52, h⟩ := bind_some h
      rcases ite_some h with ⟨c53, h⟩ | ⟨c53, h⟩
      · simp only [Option.some.injEq, Sum.inr.injEq] at h
        subst h
        exact ⟨tollwaylaw52_great_L44_0 s_0 k114 c50 x51 h52 c53, by intro q; cases q⟩
      · obtain ⟨h54, h⟩ := guard_some h
        simp at h
    · simp only [Option.some.injEq, Sum.inr.injEq] at h
      subst h
      exact ⟨tollwaylaw52_great_L44_2 s_0 k114 c50, by intro q; cases q⟩
noncomputable def tollwaylaw52_great (s_0 : Tapi_State) : Option Bool :=
  if (↑s_0.Seen.length : Int) > (120 : Int) then
    some true
  else
    if (↑s_0.Rejects.length : Int) > (120 : Int) then
      some true
    else
      if (↑s_0.Result.Passages.length : Int) > (120 : Int) then
        some true
      else
        if (↑s_0.Result.Rejects.length : Int) > (120 : Int) then
          some true
        else
          if (↑s_0.Result.Trips.length : Int) > (120 : Int) then
            some true
          else
            if (↑s_0.Result.Stays.length : Int) > (120 : Int) then
              some true
            else
              if (↑s_0.Result.Charges.length : Int) > (120 : Int) then
                some true
              else
                if (↑s_0.Result.Exclusions.length : Int) > (120 : Int) then
                  some true
                else
                  if (↑s_0.Books.Done.length : Int) > (120 : Int) then
                    some true
                  else
                    if (↑s_0.Config.Accounts.length : Int) > (30 : Int) then
                      some true
                    else
                      (lp (tollwaylaw52_great_L11_step s_0) (0 : Nat)).bind fun qq => match qq with
                      | Sum.inl o11 =>
                        some true
                      | Sum.inr (o11) =>
                        (lp (tollwaylaw52_great_L22_step s_0) (0 : Nat)).bind fun qq => match qq with
                        | Sum.inl o22 =>
                          some true
                        | Sum.inr (o22) =>
                          (lp (tollwaylaw52_great_L33_step s_0) (0 : Nat)).bind fun qq => match qq with
                          | Sum.inl o33 =>
                            some true
                          | Sum.inr (o33) =>
                            (lp (tollwaylaw52_great_L44_step s_0) (0 : Nat)).bind fun qq => match qq with
                            | Sum.inl o44 =>
                              some true
                            | Sum.inr (o44) =>
                              some false
def tollwaylaw52_great_h1  : List CH := (cs 9 [.op none .a, .op none .c])
def tollwaylaw52_great_h2  : List CH := ((.op (some false) .c) :: (cs 2 ((.op none .a) :: (cs 2 []))))
def tollwaylaw52_great_h3  : List CH := ((.op (some false) .c) :: (cs 2 ((.op none .a) :: (cs 2 []))))
def tollwaylaw52_great_h4  : List CH := ((.op (some false) .c) :: (cs 2 ((.op none .a) :: (cs 2 []))))
def tollwaylaw52_great_h5  : List CH := ((.op (some false) .c) :: (cs 2 ((.op none .a) :: (cs 2 []))))
def tollwaylaw52_great_h6  : List CH := ((.op (some false) .c) :: (cs 2 ((.op none .a) :: (cs 2 []))))
def tollwaylaw52_great_h7  : List CH := ((.op (some false) .c) :: (cs 2 ((.op none .a) :: (cs 2 []))))
def tollwaylaw52_great_h8  : List CH := ((.op (some false) .c) :: (cs 2 ((.op none .a) :: (cs 2 []))))
def tollwaylaw52_great_h9  : List CH := ((.op (some false) .c) :: (cs 3 ((.op none .a) :: (cs 2 []))))
def tollwaylaw52_great_h10  : List CH := ((.op (some false) .c) :: (cs 3 [.op none .a, .op none .c]))
def tollwaylaw52_great_h11  : List CH := ((.br false) :: (cs 4 []))
def tollwaylaw52_great_h12 (s_0 : Tapi_State) : List CH := ((.fcut 2 (.exit 0) [(1, .ptr 0 0), (3, .ptr 1 0)] [{ c := (Tapi_State.enc s_0), e := 64, ext := false, fz := 0, pl := true, o := false }, { c := (Tapi_Result.enc s_0.Result), e := 56, ext := false, fz := 0, pl := true, o := false }] [0, 1] [(1, .ptr 0 0), (3, .ptr 1 0), (75, .lst (fl Tapi_Passage.enc s_0.Result.Passages) s_0.Result.Passages.length), (76, .int .i64 (↑s_0.Result.Passages.length : Int)), (77, .int .i64 (↑(0 : Nat) : Int))] [{ c := (Tapi_State.enc s_0), e := 64, ext := false, fz := 0, pl := true, o := false }, { c := (Tapi_Result.enc s_0.Result), e := 56, ext := false, fz := 0, pl := true, o := false }]) :: (cs 4 []))
def tollwaylaw52_great_h13 (s_0 : Tapi_State) : List CH := ((.fcut 2 (.exit 2) [(1, .ptr 0 0), (3, .ptr 1 0)] [{ c := (Tapi_State.enc s_0), e := 64, ext := false, fz := 0, pl := true, o := false }, { c := (Tapi_Result.enc s_0.Result), e := 56, ext := false, fz := 0, pl := true, o := false }] [0, 1] [(1, .ptr 0 0), (3, .ptr 1 0), (87, .lst (fl Tapi_Trip.enc s_0.Result.Trips) s_0.Result.Trips.length), (88, .int .i64 (↑s_0.Result.Trips.length : Int)), (89, .int .i64 (↑(0 : Nat) : Int))] [{ c := (Tapi_State.enc s_0), e := 64, ext := false, fz := 0, pl := true, o := false }, { c := (Tapi_Result.enc s_0.Result), e := 56, ext := false, fz := 0, pl := true, o := false }]) :: (cs 4 []))
def tollwaylaw52_great_h14 (s_0 : Tapi_State) : List CH := ((.fcut 1 (.exit 4) [(1, .ptr 0 0)] [{ c := (Tapi_State.enc s_0), e := 64, ext := false, fz := 0, pl := true, o := false }] [0] [(1, .ptr 0 0), (99, .lst (fl Tapi_Charge.enc s_0.Result.Charges) s_0.Result.Charges.length), (100, .int .i64 (↑s_0.Result.Charges.length : Int)), (101, .int .i64 (↑(0 : Nat) : Int))] [{ c := (Tapi_State.enc s_0), e := 64, ext := false, fz := 0, pl := true, o := false }]) :: (cs 5 []))
def tollwaylaw52_great_p15 (s_0 : Tapi_State) : List Prop := [((decide ((↑s_0.Config.Accounts.length : Int) > (30 : Int))) = false), ((.ptr 0 0 : AV) = .ptr 0 0), ((.ptr 1 0 : AV) = .ptr 1 0), ((.lst (fl Tapi_Passage.enc s_0.Result.Passages) s_0.Result.Passages.length : AV) = .lst (fl Tapi_Passage.enc s_0.Result.Passages) s_0.Result.Passages.length), ((.int .i64 (↑s_0.Result.Passages.length : Int) : AV) = .int .i64 (↑s_0.Result.Passages.length : Int)), ((.int .i64 0 : AV) = .int .i64 (↑(0 : Nat) : Int)), (({ c := (Tapi_State.enc s_0), e := 64, ext := false, fz := 0, pl := true, o := false } : Blk) = renB [0, 1] { c := (Tapi_State.enc s_0), e := 64, ext := false, fz := 0, pl := true, o := false }), (({ c := (Tapi_Result.enc s_0.Result), e := 56, ext := false, fz := 0, pl := true, o := false } : Blk) = renB [0, 1] { c := (Tapi_Result.enc s_0.Result), e := 56, ext := false, fz := 0, pl := true, o := false })]
theorem tollwaylaw52_great_p15q (s_0 : Tapi_State) (c10 : ¬ ((↑s_0.Config.Accounts.length : Int) > (30 : Int))) : allOk (tollwaylaw52_great_p15 s_0) := ⟨(decide_eq_false c10), rfl, rfl, rfl, rfl, rfl, rfl, ok1 rfl⟩
def tollwaylaw52_great_p16 (s_0 : Tapi_State) : List Prop := [(Does Tryd.prog GT 2 (.loop (bodyAt Tryd.prog 7 [1, 1, 1, 0, 1, 0, 0])) (S 123 [(1, .ptr 0 0), (3, .ptr 1 0), (75, .lst (fl Tapi_Passage.enc s_0.Result.Passages) s_0.Result.Passages.length), (76, .int .i64 (↑s_0.Result.Passages.length : Int)), (77, .int .i64 (↑(0 : Nat) : Int))] [{ c := (Tapi_State.enc s_0), e := 64, ext := false, fz := 0, pl := true, o := false }, { c := (Tapi_Result.enc s_0.Result), e := 56, ext := false, fz := 0, pl := true, o := false }]) (.exit 0) (S 123 [(1, .ptr 0 0), (3, .ptr 1 0)] [{ c := (Tapi_State.enc s_0), e := 64, ext := false, fz := 0, pl := true, o := false }, { c := (Tapi_Result.enc s_0.Result), e := 56, ext := false, fz := 0, pl := true, o := false }])), ((.ptr 0 0 : AV) = .ptr 0 0), ((.ptr 1 0 : AV) = .ptr 1 0), ((.lst (fl Tapi_Trip.enc s_0.Result.Trips) s_0.Result.Trips.length : AV) = .lst (fl Tapi_Trip.enc s_0.Result.Trips) s_0.Result.Trips.length), ((.int .i64 (↑s_0.Result.Trips.length : Int) : AV) = .int .i64 (↑s_0.Result.Trips.length : Int)), ((.int .i64 0 : AV) = .int .i64 (↑(0 : Nat) : Int)), (({ c := (Tapi_State.enc s_0), e := 64, ext := false, fz := 0, pl := true, o := false } : Blk) = renB [0, 1] { c := (Tapi_State.enc s_0), e := 64, ext := false, fz := 0, pl := true, o := false }), (({ c := (Tapi_Result.enc s_0.Result), e := 56, ext := false, fz := 0, pl := true, o := false } : Blk) = renB [0, 1] { c := (Tapi_Result.enc s_0.Result), e := 56, ext := false, fz := 0, pl := true, o := false })]
theorem tollwaylaw52_great_p16q (s_0 : Tapi_State) (o11 : Unit) (hl11 : lp (tollwaylaw52_great_L11_step s_0) (0 : Nat) = some (Sum.inr (o11))) : allOk (tollwaylaw52_great_p16 s_0) := ⟨(tollwaylaw52_great_L11_does s_0 hl11), rfl, rfl, rfl, rfl, rfl, rfl, ok1 rfl⟩
def tollwaylaw52_great_p17 (s_0 : Tapi_State) : List Prop := [(Does Tryd.prog GT 2 (.loop (bodyAt Tryd.prog 7 [1, 1, 1, 1, 0, 1, 0, 0])) (S 123 [(1, .ptr 0 0), (3, .ptr 1 0), (87, .lst (fl Tapi_Trip.enc s_0.Result.Trips) s_0.Result.Trips.length), (88, .int .i64 (↑s_0.Result.Trips.length : Int)), (89, .int .i64 (↑(0 : Nat) : Int))] [{ c := (Tapi_State.enc s_0), e := 64, ext := false, fz := 0, pl := true, o := false }, { c := (Tapi_Result.enc s_0.Result), e := 56, ext := false, fz := 0, pl := true, o := false }]) (.exit 2) (S 123 [(1, .ptr 0 0), (3, .ptr 1 0)] [{ c := (Tapi_State.enc s_0), e := 64, ext := false, fz := 0, pl := true, o := false }, { c := (Tapi_Result.enc s_0.Result), e := 56, ext := false, fz := 0, pl := true, o := false }])), ((.ptr 0 0 : AV) = .ptr 0 0), ((.lst (fl Tapi_Charge.enc s_0.Result.Charges) s_0.Result.Charges.length : AV) = .lst (fl Tapi_Charge.enc s_0.Result.Charges) s_0.Result.Charges.length), ((.int .i64 (↑s_0.Result.Charges.length : Int) : AV) = .int .i64 (↑s_0.Result.Charges.length : Int)), ((.int .i64 0 : AV) = .int .i64 (↑(0 : Nat) : Int)), (({ c := (Tapi_State.enc s_0), e := 64, ext := false, fz := 0, pl := true, o := false } : Blk) = renB [0] { c := (Tapi_State.enc s_0), e := 64, ext := false, fz := 0, pl := true, o := false })]
theorem tollwaylaw52_great_p17q (s_0 : Tapi_State) (o22 : Unit) (hl22 : lp (tollwaylaw52_great_L22_step s_0) (0 : Nat) = some (Sum.inr (o22))) : allOk (tollwaylaw52_great_p17 s_0) := ⟨(tollwaylaw52_great_L22_does s_0 hl22), rfl, rfl, rfl, rfl, ok1 rfl⟩
def tollwaylaw52_great_p18 (s_0 : Tapi_State) : List Prop := [(Does Tryd.prog GT 1 (.loop (bodyAt Tryd.prog 7 [1, 1, 1, 1, 1, 0, 1, 0, 0])) (S 123 [(1, .ptr 0 0), (99, .lst (fl Tapi_Charge.enc s_0.Result.Charges) s_0.Result.Charges.length), (100, .int .i64 (↑s_0.Result.Charges.length : Int)), (101, .int .i64 (↑(0 : Nat) : Int))] [{ c := (Tapi_State.enc s_0), e := 64, ext := false, fz := 0, pl := true, o := false }]) (.exit 4) (S 123 [(1, .ptr 0 0)] [{ c := (Tapi_State.enc s_0), e := 64, ext := false, fz := 0, pl := true, o := false }])), ((.lst (fl Tapi_Account.enc s_0.Config.Accounts) s_0.Config.Accounts.length : AV) = .lst (fl Tapi_Account.enc s_0.Config.Accounts) s_0.Config.Accounts.length), ((.int .i64 (↑s_0.Config.Accounts.length : Int) : AV) = .int .i64 (↑s_0.Config.Accounts.length : Int)), ((.int .i64 0 : AV) = .int .i64 (↑(0 : Nat) : Int))]
theorem tollwaylaw52_great_p18q (s_0 : Tapi_State) (o33 : Unit) (hl33 : lp (tollwaylaw52_great_L33_step s_0) (0 : Nat) = some (Sum.inr (o33))) : allOk (tollwaylaw52_great_p18 s_0) := ⟨(tollwaylaw52_great_L33_does s_0 hl33), rfl, rfl, ok1 rfl⟩
theorem tollwaylaw52_great_0 (s_0 : Tapi_State) (c1 : (↑s_0.Seen.length : Int) > (120 : Int)) : Ret Tryd.prog GT 7 [.agg (Tapi_State.enc s_0)] (.bool true) [] :=
  Ret.of_view 400 ((tollwaylaw52_great_h1) ++ ((.op (some true) .c) :: (cs 54 [.br true, .op none .c]))) [] (ps := [((decide ((↑s_0.Seen.length : Int) > (120 : Int))) = true), (true = true)]) (by kernel_rfl) (by kernel_rfl) ⟨(decide_eq_true c1), ok1 rfl⟩
theorem tollwaylaw52_great_1 (s_0 : Tapi_State) (c1 : ¬ ((↑s_0.Seen.length : Int) > (120 : Int))) (c2 : (↑s_0.Rejects.length : Int) > (120 : Int)) : Ret Tryd.prog GT 7 [.agg (Tapi_State.enc s_0)] (.bool true) [] :=
  Ret.of_view 400 ((tollwaylaw52_great_h1) ++ ((tollwaylaw52_great_h2) ++ ((.op (some true) .c) :: (cs 48 [.br true, .op none .c])))) [] (ps := ([((decide ((↑s_0.Seen.length : Int) > (120 : Int))) = false)] ++ [((decide ((↑s_0.Rejects.length : Int) > (120 : Int))) = true), (true = true)])) (by kernel_rfl) (by kernel_rfl) (allOk_append.2 ⟨(ok1 (decide_eq_false c1)), ⟨(decide_eq_true c2), ok1 rfl⟩⟩)
theorem tollwaylaw52_great_2 (s_0 : Tapi_State) (c1 : ¬ ((↑s_0.Seen.length : Int) > (120 : Int))) (c2 : ¬ ((↑s_0.Rejects.length : Int) > (120 : Int))) (c3 : (↑s_0.Result.Passages.length : Int) > (120 : Int)) : Ret Tryd.prog GT 7 [.agg (Tapi_State.enc s_0)] (.bool true) [] :=
  Ret.of_view 400 ((tollwaylaw52_great_h1) ++ ((tollwaylaw52_great_h2) ++ ((tollwaylaw52_great_h3) ++ ((.op (some true) .c) :: (cs 42 [.br true, .op none .c]))))) [] (ps := ([((decide ((↑s_0.Seen.length : Int) > (120 : Int))) = false)] ++ ([((decide ((↑s_0.Rejects.length : Int) > (120 : Int))) = false)] ++ [((decide ((↑s_0.Result.Passages.length : Int) > (120 : Int))) = true), (true = true)]))) (by kernel_rfl) (by kernel_rfl) (allOk_append.2 ⟨(ok1 (decide_eq_false c1)), (allOk_append.2 ⟨(ok1 (decide_eq_false c2)), ⟨(decide_eq_true c3), ok1 rfl⟩⟩)⟩)
theorem tollwaylaw52_great_3 (s_0 : Tapi_State) (c1 : ¬ ((↑s_0.Seen.length : Int) > (120 : Int))) (c2 : ¬ ((↑s_0.Rejects.length : Int) > (120 : Int))) (c3 : ¬ ((↑s_0.Result.Passages.length : Int) > (120 : Int))) (c4 : (↑s_0.Result.Rejects.length : Int) > (120 : Int)) : Ret Tryd.prog GT 7 [.agg (Tapi_State.enc s_0)] (.bool true) [] :=
  Ret.of_view 400 ((tollwaylaw52_great_h1) ++ ((tollwaylaw52_great_h2) ++ ((tollwaylaw52_great_h3) ++ ((tollwaylaw52_great_h4) ++ ((.op (some true) .c) :: (cs 36 [.br true, .op none .c])))))) [] (ps := ([((decide ((↑s_0.Seen.length : Int) > (120 : Int))) = false)] ++ ([((decide ((↑s_0.Rejects.length : Int) > (120 : Int))) = false)] ++ ([((decide ((↑s_0.Result.Passages.length : Int) > (120 : Int))) = false)] ++ [((decide ((↑s_0.Result.Rejects.length : Int) > (120 : Int))) = true), (true = true)])))) (by kernel_rfl) (by kernel_rfl) (allOk_append.2 ⟨(ok1 (decide_eq_false c1)), (allOk_append.2 ⟨(ok1 (decide_eq_false c2)), (allOk_append.2 ⟨(ok1 (decide_eq_false c3)), ⟨(decide_eq_true c4), ok1 rfl⟩⟩)⟩)⟩)
theorem tollwaylaw52_great_4 (s_0 : Tapi_State) (c1 : ¬ ((↑s_0.Seen.length : Int) > (120 : Int))) (c2 : ¬ ((↑s_0.Rejects.length : Int) > (120 : Int))) (c3 : ¬ ((↑s_0.Result.Passages.length : Int) > (120 : Int))) (c4 : ¬ ((↑s_0.Result.Rejects.length : Int) > (120 : Int))) (c5 : (↑s_0.Result.Trips.length : Int) > (120 : Int)) : Ret Tryd.prog GT 7 [.agg (Tapi_State.enc s_0)] (.bool true) [] :=
  Ret.of_view 400 ((tollwaylaw52_great_h1) ++ ((tollwaylaw52_great_h2) ++ ((tollwaylaw52_great_h3) ++ ((tollwaylaw52_great_h4) ++ ((tollwaylaw52_great_h5) ++ ((.op (some true) .c) :: (cs 30 [.br true, .op none .c]))))))) [] (ps := ([((decide ((↑s_0.Seen.length : Int) > (120 : Int))) = false)] ++ ([((decide ((↑s_0.Rejects.length : Int) > (120 : Int))) = false)] ++ ([((decide ((↑s_0.Result.Passages.length : Int) > (120 : Int))) = false)] ++ ([((decide ((↑s_0.Result.Rejects.length : Int) > (120 : Int))) = false)] ++ [((decide ((↑s_0.Result.Trips.length : Int) > (120 : Int))) = true), (true = true)]))))) (by kernel_rfl) (by kernel_rfl) (allOk_append.2 ⟨(ok1 (decide_eq_false c1)), (allOk_append.2 ⟨(ok1 (decide_eq_false c2)), (allOk_append.2 ⟨(ok1 (decide_eq_false c3)), (allOk_append.2 ⟨(ok1 (decide_eq_false c4)), ⟨(decide_eq_true c5), ok1 rfl⟩⟩)⟩)⟩)⟩)
theorem tollwaylaw52_great_5 (s_0 : Tapi_State) (c1 : ¬ ((↑s_0.Seen.length : Int) > (120 : Int))) (c2 : ¬ ((↑s_0.Rejects.length : Int) > (120 : Int))) (c3 : ¬ ((↑s_0.Result.Passages.length : Int) > (120 : Int))) (c4 : ¬ ((↑s_0.Result.Rejects.length : Int) > (120 : Int))) (c5 : ¬ ((↑s_0.Result.Trips.length : Int) > (120 : Int))) (c6 : (↑s_0.Result.Stays.length : Int) > (120 : Int)) : Ret Tryd.prog GT 7 [.agg (Tapi_State.enc s_0)] (.bool true) [] :=
  Ret.of_view 400 ((tollwaylaw52_great_h1) ++ ((tollwaylaw52_great_h2) ++ ((tollwaylaw52_great_h3) ++ ((tollwaylaw52_great_h4) ++ ((tollwaylaw52_great_h5) ++ ((tollwaylaw52_great_h6) ++ ((.op (some true) .c) :: (cs 24 [.br true, .op none .c])))))))) [] (ps := ([((decide ((↑s_0.Seen.length : Int) > (120 : Int))) = false)] ++ ([((decide ((↑s_0.Rejects.length : Int) > (120 : Int))) = false)] ++ ([((decide ((↑s_0.Result.Passages.length : Int) > (120 : Int))) = false)] ++ ([((decide ((↑s_0.Result.Rejects.length : Int) > (120 : Int))) = false)] ++ ([((decide ((↑s_0.Result.Trips.length : Int) > (120 : Int))) = false)] ++ [((decide ((↑s_0.Result.Stays.length : Int) > (120 : Int))) = true), (true = true)])))))) (by kernel_rfl) (by kernel_rfl) (allOk_append.2 ⟨(ok1 (decide_eq_false c1)), (allOk_append.2 ⟨(ok1 (decide_eq_false c2)), (allOk_append.2 ⟨(ok1 (decide_eq_false c3)), (allOk_append.2 ⟨(ok1 (decide_eq_false c4)), (allOk_append.2 ⟨(ok1 (decide_eq_false c5)), ⟨(decide_eq_true c6), ok1 rfl⟩⟩)⟩)⟩)⟩)⟩)
theorem tollwaylaw52_great_6 (s_0 : Tapi_State) (c1 : ¬ ((↑s_0.Seen.length : Int) > (120 : Int))) (c2 : ¬ ((↑s_0.Rejects.length : Int) > (120 : Int))) (c3 : ¬ ((↑s_0.Result.Passages.length : Int) > (120 : Int))) (c4 : ¬ ((↑s_0.Result.Rejects.length : Int) > (120 : Int))) (c5 : ¬ ((↑s_0.Result.Trips.length : Int) > (120 : Int))) (c6 : ¬ ((↑s_0.Result.Stays.length : Int) > (120 : Int))) (c7 : (↑s_0.Result.Charges.length : Int) > (120 : Int)) : Ret Tryd.prog GT 7 [.agg (Tapi_State.enc s_0)] (.bool true) [] :=
  Ret.of_view 400 ((tollwaylaw52_great_h1) ++ ((tollwaylaw52_great_h2) ++ ((tollwaylaw52_great_h3) ++ ((tollwaylaw52_great_h4) ++ ((tollwaylaw52_great_h5) ++ ((tollwaylaw52_great_h6) ++ ((tollwaylaw52_great_h7) ++ ((.op (some true) .c) :: (cs 18 [.br true, .op none .c]))))))))) [] (ps := ([((decide ((↑s_0.Seen.length : Int) > (120 : Int))) = false)] ++ ([((decide ((↑s_0.Rejects.length : Int) > (120 : Int))) = false)] ++ ([((decide ((↑s_0.Result.Passages.length : Int) > (120 : Int))) = false)] ++ ([((decide ((↑s_0.Result.Rejects.length : Int) > (120 : Int))) = false)] ++ ([((decide ((↑s_0.Result.Trips.length : Int) > (120 : Int))) = false)] ++ ([((decide ((↑s_0.Result.Stays.length : Int) > (120 : Int))) = false)] ++ [((decide ((↑s_0.Result.Charges.length : Int) > (120 : Int))) = true), (true = true)]))))))) (by kernel_rfl) (by kernel_rfl) (allOk_append.2 ⟨(ok1 (decide_eq_false c1)), (allOk_append.2 ⟨(ok1 (decide_eq_false c2)), (allOk_append.2 ⟨(ok1 (decide_eq_false c3)), (allOk_append.2 ⟨(ok1 (decide_eq_false c4)), (allOk_append.2 ⟨(ok1 (decide_eq_false c5)), (allOk_append.2 ⟨(ok1 (decide_eq_false c6)), ⟨(decide_eq_true c7), ok1 rfl⟩⟩)⟩)⟩)⟩)⟩)⟩)
theorem tollwaylaw52_great_7 (s_0 : Tapi_State) (c1 : ¬ ((↑s_0.Seen.length : Int) > (120 : Int))) (c2 : ¬ ((↑s_0.Rejects.length : Int) > (120 : Int))) (c3 : ¬ ((↑s_0.Result.Passages.length : Int) > (120 : Int))) (c4 : ¬ ((↑s_0.Result.Rejects.length : Int) > (120 : Int))) (c5 : ¬ ((↑s_0.Result.Trips.length : Int) > (120 : Int))) (c6 : ¬ ((↑s_0.Result.Stays.length : Int) > (120 : Int))) (c7 : ¬ ((↑s_0.Result.Charges.length : Int) > (120 : Int))) (c8 : (↑s_0.Result.Exclusions.length : Int) > (120 : Int)) : Ret Tryd.prog GT 7 [.agg (Tapi_State.enc s_0)] (.bool true) [] :=
  Ret.of_view 400 ((tollwaylaw52_great_h1) ++ ((tollwaylaw52_great_h2) ++ ((tollwaylaw52_great_h3) ++ ((tollwaylaw52_great_h4) ++ ((tollwaylaw52_great_h5) ++ ((tollwaylaw52_great_h6) ++ ((tollwaylaw52_great_h7) ++ ((tollwaylaw52_great_h8) ++ ((.op (some true) .c) :: (cs 12 [.br true, .op none .c])))))))))) [] (ps := ([((decide ((↑s_0.Seen.length : Int) > (120 : Int))) = false)] ++ ([((decide ((↑s_0.Rejects.length : Int) > (120 : Int))) = false)] ++ ([((decide ((↑s_0.Result.Passages.length : Int) > (120 : Int))) = false)] ++ ([((decide ((↑s_0.Result.Rejects.length : Int) > (120 : Int))) = false)] ++ ([((decide ((↑s_0.Result.Trips.length : Int) > (120 : Int))) = false)] ++ ([((decide ((↑s_0.Result.Stays.length : Int) > (120 : Int))) = false)] ++ ([((decide ((↑s_0.Result.Charges.length : Int) > (120 : Int))) = false)] ++ [((decide ((↑s_0.Result.Exclusions.length : Int) > (120 : Int))) = true), (true = true)])))))))) (by kernel_rfl) (by kernel_rfl) (allOk_append.2 ⟨(ok1 (decide_eq_false c1)), (allOk_append.2 ⟨(ok1 (decide_eq_false c2)), (allOk_append.2 ⟨(ok1 (decide_eq_false c3)), (allOk_append.2 ⟨(ok1 (decide_eq_false c4)), (allOk_append.2 ⟨(ok1 (decide_eq_false c5)), (allOk_append.2 ⟨(ok1 (decide_eq_false c6)), (allOk_append.2 ⟨(ok1 (decide_eq_false c7)), ⟨(decide_eq_true c8), ok1 rfl⟩⟩)⟩)⟩)⟩)⟩)⟩)⟩)
theorem tollwaylaw52_great_8 (s_0 : Tapi_State) (c1 : ¬ ((↑s_0.Seen.length : Int) > (120 : Int))) (c2 : ¬ ((↑s_0.Rejects.length : Int) > (120 : Int))) (c3 : ¬ ((↑s_0.Result.Passages.length : Int) > (120 : Int))) (c4 : ¬ ((↑s_0.Result.Rejects.length : Int) > (120 : Int))) (c5 : ¬ ((↑s_0.Result.Trips.length : Int) > (120 : Int))) (c6 : ¬ ((↑s_0.Result.Stays.length : Int) > (120 : Int))) (c7 : ¬ ((↑s_0.Result.Charges.length : Int) > (120 : Int))) (c8 : ¬ ((↑s_0.Result.Exclusions.length : Int) > (120 : Int))) (c9 : (↑s_0.Books.Done.length : Int) > (120 : Int)) : Ret Tryd.prog GT 7 [.agg (Tapi_State.enc s_0)] (.bool true) [] :=
  Ret.of_view 400 ((tollwaylaw52_great_h1) ++ ((tollwaylaw52_great_h2) ++ ((tollwaylaw52_great_h3) ++ ((tollwaylaw52_great_h4) ++ ((tollwaylaw52_great_h5) ++ ((tollwaylaw52_great_h6) ++ ((tollwaylaw52_great_h7) ++ ((tollwaylaw52_great_h8) ++ ((tollwaylaw52_great_h9) ++ ((.op (some true) .c) :: (cs 5 [.br true, .op none .c]))))))))))) [] (ps := ([((decide ((↑s_0.Seen.length : Int) > (120 : Int))) = false)] ++ ([((decide ((↑s_0.Rejects.length : Int) > (120 : Int))) = false)] ++ ([((decide ((↑s_0.Result.Passages.length : Int) > (120 : Int))) = false)] ++ ([((decide ((↑s_0.Result.Rejects.length : Int) > (120 : Int))) = false)] ++ ([((decide ((↑s_0.Result.Trips.length : Int) > (120 : Int))) = false)] ++ ([((decide ((↑s_0.Result.Stays.length : Int) > (120 : Int))) = false)] ++ ([((decide ((↑s_0.Result.Charges.length : Int) > (120 : Int))) = false)] ++ ([((decide ((↑s_0.Result.Exclusions.length : Int) > (120 : Int))) = false)] ++ [((decide ((↑s_0.Books.Done.length : Int) > (120 : Int))) = true), (true = true)]))))))))) (by kernel_rfl) (by kernel_rfl) (allOk_append.2 ⟨(ok1 (decide_eq_false c1)), (allOk_append.2 ⟨(ok1 (decide_eq_false c2)), (allOk_append.2 ⟨(ok1 (decide_eq_false c3)), (allOk_append.2 ⟨(ok1 (decide_eq_false c4)), (allOk_append.2 ⟨(ok1 (decide_eq_false c5)), (allOk_append.2 ⟨(ok1 (decide_eq_false c6)), (allOk_append.2 ⟨(ok1 (decide_eq_false c7)), (allOk_append.2 ⟨(ok1 (decide_eq_false c8)), ⟨(decide_eq_true c9), ok1 rfl⟩⟩)⟩)⟩)⟩)⟩)⟩)⟩)⟩)
theorem tollwaylaw52_great_9 (s_0 : Tapi_State) (c1 : ¬ ((↑s_0.Seen.length : Int) > (120 : Int))) (c2 : ¬ ((↑s_0.Rejects.length : Int) > (120 : Int))) (c3 : ¬ ((↑s_0.Result.Passages.length : Int) > (120 : Int))) (c4 : ¬ ((↑s_0.Result.Rejects.length : Int) > (120 : Int))) (c5 : ¬ ((↑s_0.Result.Trips.length : Int) > (120 : Int))) (c6 : ¬ ((↑s_0.Result.Stays.length : Int) > (120 : Int))) (c7 : ¬ ((↑s_0.Result.Charges.length : Int) > (120 : Int))) (c8 : ¬ ((↑s_0.Result.Exclusions.length : Int) > (120 : Int))) (c9 : ¬ ((↑s_0.Books.Done.length : Int) > (120 : Int))) (c10 : (↑s_0.Config.Accounts.length : Int) > (30 : Int)) : Ret Tryd.prog GT 7 [.agg (Tapi_State.enc s_0)] (.bool true) [] :=
  Ret.of_view 400 ((tollwaylaw52_great_h1) ++ ((tollwaylaw52_great_h2) ++ ((tollwaylaw52_great_h3) ++ ((tollwaylaw52_great_h4) ++ ((tollwaylaw52_great_h5) ++ ((tollwaylaw52_great_h6) ++ ((tollwaylaw52_great_h7) ++ ((tollwaylaw52_great_h8) ++ ((tollwaylaw52_great_h9) ++ ((tollwaylaw52_great_h10) ++ [.br true, .op none .c])))))))))) [] (ps := ([((decide ((↑s_0.Seen.length : Int) > (120 : Int))) = false)] ++ ([((decide ((↑s_0.Rejects.length : Int) > (120 : Int))) = false)] ++ ([((decide ((↑s_0.Result.Passages.length : Int) > (120 : Int))) = false)] ++ ([((decide ((↑s_0.Result.Rejects.length : Int) > (120 : Int))) = false)] ++ ([((decide ((↑s_0.Result.Trips.length : Int) > (120 : Int))) = false)] ++ ([((decide ((↑s_0.Result.Stays.length : Int) > (120 : Int))) = false)] ++ ([((decide ((↑s_0.Result.Charges.length : Int) > (120 : Int))) = false)] ++ ([((decide ((↑s_0.Result.Exclusions.length : Int) > (120 : Int))) = false)] ++ ([((decide ((↑s_0.Books.Done.length : Int) > (120 : Int))) = false)] ++ [((decide ((↑s_0.Config.Accounts.length : Int) > (30 : Int))) = true)])))))))))) (by kernel_rfl) (by kernel_rfl) (allOk_append.2 ⟨(ok1 (decide_eq_false c1)), (allOk_append.2 ⟨(ok1 (decide_eq_false c2)), (allOk_append.2 ⟨(ok1 (decide_eq_false c3)), (allOk_append.2 ⟨(ok1 (decide_eq_false c4)), (allOk_append.2 ⟨(ok1 (decide_eq_false c5)), (allOk_append.2 ⟨(ok1 (decide_eq_false c6)), (allOk_append.2 ⟨(ok1 (decide_eq_false c7)), (allOk_append.2 ⟨(ok1 (decide_eq_false c8)), (allOk_append.2 ⟨(ok1 (decide_eq_false c9)), (ok1 (decide_eq_true c10))⟩)⟩)⟩)⟩)⟩)⟩)⟩)⟩)⟩)
theorem tollwaylaw52_great_10 (s_0 : Tapi_State) (c1 : ¬ ((↑s_0.Seen.length : Int) > (120 : Int))) (c2 : ¬ ((↑s_0.Rejects.length : Int) > (120 : Int))) (c3 : ¬ ((↑s_0.Result.Passages.length : Int) > (120 : Int))) (c4 : ¬ ((↑s_0.Result.Rejects.length : Int) > (120 : Int))) (c5 : ¬ ((↑s_0.Result.Trips.length : Int) > (120 : Int))) (c6 : ¬ ((↑s_0.Result.Stays.length : Int) > (120 : Int))) (c7 : ¬ ((↑s_0.Result.Charges.length : Int) > (120 : Int))) (c8 : ¬ ((↑s_0.Result.Exclusions.length : Int) > (120 : Int))) (c9 : ¬ ((↑s_0.Books.Done.length : Int) > (120 : Int))) (c10 : ¬ ((↑s_0.Config.Accounts.length : Int) > (30 : Int))) (o11 : Unit) (hl11 : lp (tollwaylaw52_great_L11_step s_0) (0 : Nat) = some (Sum.inl o11)) : Ret Tryd.prog GT 7 [.agg (Tapi_State.enc s_0)] (.bool true) [] :=
  Ret.of_view 400 ((tollwaylaw52_great_h1) ++ ((tollwaylaw52_great_h2) ++ ((tollwaylaw52_great_h3) ++ ((tollwaylaw52_great_h4) ++ ((tollwaylaw52_great_h5) ++ ((tollwaylaw52_great_h6) ++ ((tollwaylaw52_great_h7) ++ ((tollwaylaw52_great_h8) ++ ((tollwaylaw52_great_h9) ++ ((tollwaylaw52_great_h10) ++ ((tollwaylaw52_great_h11) ++ [.fcut 2 .ret [(2, .bool true)] [{ c := (Tapi_State.enc s_0), e := 64, ext := false, fz := 0, pl := true, o := false }, { c := (Tapi_Result.enc s_0.Result), e := 56, ext := false, fz := 0, pl := true, o := false }] [0, 1] [(1, .ptr 0 0), (3, .ptr 1 0), (75, .lst (fl Tapi_Passage.enc s_0.Result.Passages) s_0.Result.Passages.length), (76, .int .i64 (↑s_0.Result.Passages.length : Int)), (77, .int .i64 (↑(0 : Nat) : Int))] [{ c := (Tapi_State.enc s_0), e := 64, ext := false, fz := 0, pl := true, o := false }, { c := (Tapi_Result.enc s_0.Result), e := 56, ext := false, fz := 0, pl := true, o := false }]]))))))))))) [] (ps := ([((decide ((↑s_0.Seen.length : Int) > (120 : Int))) = false)] ++ ([((decide ((↑s_0.Rejects.length : Int) > (120 : Int))) = false)] ++ ([((decide ((↑s_0.Result.Passages.length : Int) > (120 : Int))) = false)] ++ ([((decide ((↑s_0.Result.Rejects.length : Int) > (120 : Int))) = false)] ++ ([((decide ((↑s_0.Result.Trips.length : Int) > (120 : Int))) = false)] ++ ([((decide ((↑s_0.Result.Stays.length : Int) > (120 : Int))) = false)] ++ ([((decide ((↑s_0.Result.Charges.length : Int) > (120 : Int))) = false)] ++ ([((decide ((↑s_0.Result.Exclusions.length : Int) > (120 : Int))) = false)] ++ ([((decide ((↑s_0.Books.Done.length : Int) > (120 : Int))) = false)] ++ ((tollwaylaw52_great_p15 s_0) ++ [(Does Tryd.prog GT 2 (.loop (bodyAt Tryd.prog 7 [1, 1, 1, 0, 1, 0, 0])) (S 123 [(1, .ptr 0 0), (3, .ptr 1 0), (75, .lst (fl Tapi_Passage.enc s_0.Result.Passages) s_0.Result.Passages.length), (76, .int .i64 (↑s_0.Result.Passages.length : Int)), (77, .int .i64 (↑(0 : Nat) : Int))] [{ c := (Tapi_State.enc s_0), e := 64, ext := false, fz := 0, pl := true, o := false }, { c := (Tapi_Result.enc s_0.Result), e := 56, ext := false, fz := 0, pl := true, o := false }]) .ret (S 123 [(2, .bool true)] [{ c := (Tapi_State.enc s_0), e := 64, ext := false, fz := 0, pl := true, o := false }, { c := (Tapi_Result.enc s_0.Result), e := 56, ext := false, fz := 0, pl := true, o := false }]))]))))))))))) (by kernel_rfl) (by kernel_rfl) (allOk_append.2 ⟨(ok1 (decide_eq_false c1)), (allOk_append.2 ⟨(ok1 (decide_eq_false c2)), (allOk_append.2 ⟨(ok1 (decide_eq_false c3)), (allOk_append.2 ⟨(ok1 (decide_eq_false c4)), (allOk_append.2 ⟨(ok1 (decide_eq_false c5)), (allOk_append.2 ⟨(ok1 (decide_eq_false c6)), (allOk_append.2 ⟨(ok1 (decide_eq_false c7)), (allOk_append.2 ⟨(ok1 (decide_eq_false c8)), (allOk_append.2 ⟨(ok1 (decide_eq_false c9)), (allOk_append.2 ⟨(tollwaylaw52_great_p15q s_0 c10), (ok1 (tollwaylaw52_great_L11_does s_0 hl11))⟩)⟩)⟩)⟩)⟩)⟩)⟩)⟩)⟩)⟩)
theorem tollwaylaw52_great_11 (s_0 : Tapi_State) (c1 : ¬ ((↑s_0.Seen.length : Int) > (120 : Int))) (c2 : ¬ ((↑s_0.Rejects.length : Int) > (120 : Int))) (c3 : ¬ ((↑s_0.Result.Passages.length : Int) > (120 : Int))) (c4 : ¬ ((↑s_0.Result.Rejects.length : Int) > (120 : Int))) (c5 : ¬ ((↑s_0.Result.Trips.length : Int) > (120 : Int))) (c6 : ¬ ((↑s_0.Result.Stays.length : Int) > (120 : Int))) (c7 : ¬ ((↑s_0.Result.Charges.length : Int) > (120 : Int))) (c8 : ¬ ((↑s_0.Result.Exclusions.length : Int) > (120 : Int))) (c9 : ¬ ((↑s_0.Books.Done.length : Int) > (120 : Int))) (c10 : ¬ ((↑s_0.Config.Accounts.length : Int) > (30 : Int))) (o11 : Unit) (hl11 : lp (tollwaylaw52_great_L11_step s_0) (0 : Nat) = some (Sum.inr (o11))) (o22 : Unit) (hl22 : lp (tollwaylaw52_great_L22_step s_0) (0 : Nat) = some (Sum.inl o22)) : Ret Tryd.prog GT 7 [.agg (Tapi_State.enc s_0)] (.bool true) [] :=
  Ret.of_view 400 ((tollwaylaw52_great_h1) ++ ((tollwaylaw52_great_h2) ++ ((tollwaylaw52_great_h3) ++ ((tollwaylaw52_great_h4) ++ ((tollwaylaw52_great_h5) ++ ((tollwaylaw52_great_h6) ++ ((tollwaylaw52_great_h7) ++ ((tollwaylaw52_great_h8) ++ ((tollwaylaw52_great_h9) ++ ((tollwaylaw52_great_h10) ++ ((tollwaylaw52_great_h11) ++ ((tollwaylaw52_great_h12 s_0) ++ [.fcut 2 .ret [(2, .bool true)] [{ c := (Tapi_State.enc s_0), e := 64, ext := false, fz := 0, pl := true, o := false }, { c := (Tapi_Result.enc s_0.Result), e := 56, ext := false, fz := 0, pl := true, o := false }] [0, 1] [(1, .ptr 0 0), (3, .ptr 1 0), (87, .lst (fl Tapi_Trip.enc s_0.Result.Trips) s_0.Result.Trips.length), (88, .int .i64 (↑s_0.Result.Trips.length : Int)), (89, .int .i64 (↑(0 : Nat) : Int))] [{ c := (Tapi_State.enc s_0), e := 64, ext := false, fz := 0, pl := true, o := false }, { c := (Tapi_Result.enc s_0.Result), e := 56, ext := false, fz := 0, pl := true, o := false }]])))))))))))) [] (ps := ([((decide ((↑s_0.Seen.length : Int) > (120 : Int))) = false)] ++ ([((decide ((↑s_0.Rejects.length : Int) > (120 : Int))) = false)] ++ ([((decide ((↑s_0.Result.Passages.length : Int) > (120 : Int))) = false)] ++ ([((decide ((↑s_0.Result.Rejects.length : Int) > (120 : Int))) = false)] ++ ([((decide ((↑s_0.Result.Trips.length : Int) > (120 : Int))) = false)] ++ ([((decide ((↑s_0.Result.Stays.length : Int) > (120 : Int))) = false)] ++ ([((decide ((↑s_0.Result.Charges.length : Int) > (120 : Int))) = false)] ++ ([((decide ((↑s_0.Result.Exclusions.length : Int) > (120 : Int))) = false)] ++ ([((decide ((↑s_0.Books.Done.length : Int) > (120 : Int))) = false)] ++ ((tollwaylaw52_great_p15 s_0) ++ ((tollwaylaw52_great_p16 s_0) ++ [(Does Tryd.prog GT 2 (.loop (bodyAt Tryd.prog 7 [1, 1, 1, 1, 0, 1, 0, 0])) (S 123 [(1, .ptr 0 0), (3, .ptr 1 0), (87, .lst (fl Tapi_Trip.enc s_0.Result.Trips) s_0.Result.Trips.length), (88, .int .i64 (↑s_0.Result.Trips.length : Int)), (89, .int .i64 (↑(0 : Nat) : Int))] [{ c := (Tapi_State.enc s_0), e := 64, ext := false, fz := 0, pl := true, o := false }, { c := (Tapi_Result.enc s_0.Result), e := 56, ext := false, fz := 0, pl := true, o := false }]) .ret (S 123 [(2, .bool true)] [{ c := (Tapi_State.enc s_0), e := 64, ext := false, fz := 0, pl := true, o := false }, { c := (Tapi_Result.enc s_0.Result), e := 56, ext := false, fz := 0, pl := true, o := false }]))])))))))))))) (by kernel_rfl) (by kernel_rfl) (allOk_append.2 ⟨(ok1 (decide_eq_false c1)), (allOk_append.2 ⟨(ok1 (decide_eq_false c2)), (allOk_append.2 ⟨(ok1 (decide_eq_false c3)), (allOk_append.2 ⟨(ok1 (decide_eq_false c4)), (allOk_append.2 ⟨(ok1 (decide_eq_false c5)), (allOk_append.2 ⟨(ok1 (decide_eq_false c6)), (allOk_append.2 ⟨(ok1 (decide_eq_false c7)), (allOk_append.2 ⟨(ok1 (decide_eq_false c8)), (allOk_append.2 ⟨(ok1 (decide_eq_false c9)), (allOk_append.2 ⟨(tollwaylaw52_great_p15q s_0 c10), (allOk_append.2 ⟨(tollwaylaw52_great_p16q s_0 o11 hl11), (ok1 (tollwaylaw52_great_L22_does s_0 hl22))⟩)⟩)⟩)⟩)⟩)⟩)⟩)⟩)⟩)⟩)⟩)
theorem tollwaylaw52_great_12 (s_0 : Tapi_State) (c1 : ¬ ((↑s_0.Seen.length : Int) > (120 : Int))) (c2 : ¬ ((↑s_0.Rejects.length : Int) > (120 : Int))) (c3 : ¬ ((↑s_0.Result.Passages.length : Int) > (120 : Int))) (c4 : ¬ ((↑s_0.Result.Rejects.length : Int) > (120 : Int))) (c5 : ¬ ((↑s_0.Result.Trips.length : Int) > (120 : Int))) (c6 : ¬ ((↑s_0.Result.Stays.length : Int) > (120 : Int))) (c7 : ¬ ((↑s_0.Result.Charges.length : Int) > (120 : Int))) (c8 : ¬ ((↑s_0.Result.Exclusions.length : Int) > (120 : Int))) (c9 : ¬ ((↑s_0.Books.Done.length : Int) > (120 : Int))) (c10 : ¬ ((↑s_0.Config.Accounts.length : Int) > (30 : Int))) (o11 : Unit) (hl11 : lp (tollwaylaw52_great_L11_step s_0) (0 : Nat) = some (Sum.inr (o11))) (o22 : Unit) (hl22 : lp (tollwaylaw52_great_L22_step s_0) (0 : Nat) = some (Sum.inr (o22))) (o33 : Unit) (hl33 : lp (tollwaylaw52_great_L33_step s_0) (0 : Nat) = some (Sum.inl o33)) : Ret Tryd.prog GT 7 [.agg (Tapi_State.enc s_0)] (.bool true) [] :=
  Ret.of_view 400 ((tollwaylaw52_great_h1) ++ ((tollwaylaw52_great_h2) ++ ((tollwaylaw52_great_h3) ++ ((tollwaylaw52_great_h4) ++ ((tollwaylaw52_great_h5) ++ ((tollwaylaw52_great_h6) ++ ((tollwaylaw52_great_h7) ++ ((tollwaylaw52_great_h8) ++ ((tollwaylaw52_great_h9) ++ ((tollwaylaw52_great_h10) ++ ((tollwaylaw52_great_h11) ++ ((tollwaylaw52_great_h12 s_0) ++ ((tollwaylaw52_great_h13 s_0) ++ [.fcut 1 .ret [(2, .bool true)] [{ c := (Tapi_State.enc s_0), e := 64, ext := false, fz := 0, pl := true, o := false }] [0] [(1, .ptr 0 0), (99, .lst (fl Tapi_Charge.enc s_0.Result.Charges) s_0.Result.Charges.length), (100, .int .i64 (↑s_0.Result.Charges.length : Int)), (101, .int .i64 (↑(0 : Nat) : Int))] [{ c := (Tapi_State.enc s_0), e := 64, ext := false, fz := 0, pl := true, o := false }]]))))))))))))) [] (ps := ([((decide ((↑s_0.Seen.length : Int) > (120 : Int))) = false)] ++ ([((decide ((↑s_0.Rejects.length : Int) > (120 : Int))) = false)] ++ ([((decide ((↑s_0.Result.Passages.length : Int) > (120 : Int))) = false)] ++ ([((decide ((↑s_0.Result.Rejects.length : Int) > (120 : Int))) = false)] ++ ([((decide ((↑s_0.Result.Trips.length : Int) > (120 : Int))) = false)] ++ ([((decide ((↑s_0.Result.Stays.length : Int) > (120 : Int))) = false)] ++ ([((decide ((↑s_0.Result.Charges.length : Int) > (120 : Int))) = false)] ++ ([((decide ((↑s_0.Result.Exclusions.length : Int) > (120 : Int))) = false)] ++ ([((decide ((↑s_0.Books.Done.length : Int) > (120 : Int))) = false)] ++ ((tollwaylaw52_great_p15 s_0) ++ ((tollwaylaw52_great_p16 s_0) ++ ((tollwaylaw52_great_p17 s_0) ++ [(Does Tryd.prog GT 1 (.loop (bodyAt Tryd.prog 7 [1, 1, 1, 1, 1, 0, 1, 0, 0])) (S 123 [(1, .ptr 0 0), (99, .lst (fl Tapi_Charge.enc s_0.Result.Charges) s_0.Result.Charges.length), (100, .int .i64 (↑s_0.Result.Charges.length : Int)), (101, .int .i64 (↑(0 : Nat) : Int))] [{ c := (Tapi_State.enc s_0), e := 64, ext := false, fz := 0, pl := true, o := false }]) .ret (S 123 [(2, .bool true)] [{ c := (Tapi_State.enc s_0), e := 64, ext := false, fz := 0, pl := true, o := false }]))]))))))))))))) (by kernel_rfl) (by kernel_rfl) (allOk_append.2 ⟨(ok1 (decide_eq_false c1)), (allOk_append.2 ⟨(ok1 (decide_eq_false c2)), (allOk_append.2 ⟨(ok1 (decide_eq_false c3)), (allOk_append.2 ⟨(ok1 (decide_eq_false c4)), (allOk_append.2 ⟨(ok1 (decide_eq_false c5)), (allOk_append.2 ⟨(ok1 (decide_eq_false c6)), (allOk_append.2 ⟨(ok1 (decide_eq_false c7)), (allOk_append.2 ⟨(ok1 (decide_eq_false c8)), (allOk_append.2 ⟨(ok1 (decide_eq_false c9)), (allOk_append.2 ⟨(tollwaylaw52_great_p15q s_0 c10), (allOk_append.2 ⟨(tollwaylaw52_great_p16q s_0 o11 hl11), (allOk_append.2 ⟨(tollwaylaw52_great_p17q s_0 o22 hl22), (ok1 (tollwaylaw52_great_L33_does s_0 hl33))⟩)⟩)⟩)⟩)⟩)⟩)⟩)⟩)⟩)⟩)⟩)⟩)
theorem tollwaylaw52_great_13 (s_0 : Tapi_State) (c1 : ¬ ((↑s_0.Seen.length : Int) > (120 : Int))) (c2 : ¬ ((↑s_0.Rejects.length : Int) > (120 : Int))) (c3 : ¬ ((↑s_0.Result.Passages.length : Int) > (120 : Int))) (c4 : ¬ ((↑s_0.Result.Rejects.length : Int) > (120 : Int))) (c5 : ¬ ((↑s_0.Result.Trips.length : Int) > (120 : Int))) (c6 : ¬ ((↑s_0.Result.Stays.length : Int) > (120 : Int))) (c7 : ¬ ((↑s_0.Result.Charges.length : Int) > (120 : Int))) (c8 : ¬ ((↑s_0.Result.Exclusions.length : Int) > (120 : Int))) (c9 : ¬ ((↑s_0.Books.Done.length : Int) > (120 : Int))) (c10 : ¬ ((↑s_0.Config.Accounts.length : Int) > (30 : Int))) (o11 : Unit) (hl11 : lp (tollwaylaw52_great_L11_step s_0) (0 : Nat) = some (Sum.inr (o11))) (o22 : Unit) (hl22 : lp (tollwaylaw52_great_L22_step s_0) (0 : Nat) = some (Sum.inr (o22))) (o33 : Unit) (hl33 : lp (tollwaylaw52_great_L33_step s_0) (0 : Nat) = some (Sum.inr (o33))) (o44 : Unit) (hl44 : lp (tollwaylaw52_great_L44_step s_0) (0 : Nat) = some (Sum.inl o44)) : Ret Tryd.prog GT 7 [.agg (Tapi_State.enc s_0)] (.bool true) [] :=
  Ret.of_view 400 ((tollwaylaw52_great_h1) ++ ((tollwaylaw52_great_h2) ++ ((tollwaylaw52_great_h3) ++ ((tollwaylaw52_great_h4) ++ ((tollwaylaw52_great_h5) ++ ((tollwaylaw52_great_h6) ++ ((tollwaylaw52_great_h7) ++ ((tollwaylaw52_great_h8) ++ ((tollwaylaw52_great_h9) ++ ((tollwaylaw52_great_h10) ++ ((tollwaylaw52_great_h11) ++ ((tollwaylaw52_great_h12 s_0) ++ ((tollwaylaw52_great_h13 s_0) ++ ((tollwaylaw52_great_h14 s_0) ++ [.fcut 0 .ret [(2, .bool true)] [] [] [(112, .lst (fl Tapi_Account.enc s_0.Config.Accounts) s_0.Config.Accounts.length), (113, .int .i64 (↑s_0.Config.Accounts.length : Int)), (114, .int .i64 (↑(0 : Nat) : Int))] []])))))))))))))) [] (ps := ([((decide ((↑s_0.Seen.length : Int) > (120 : Int))) = false)] ++ ([((decide ((↑s_0.Rejects.length : Int) > (120 : Int))) = false)] ++ ([((decide ((↑s_0.Result.Passages.length : Int) > (120 : Int))) = false)] ++ ([((decide ((↑s_0.Result.Rejects.length : Int) > (120 : Int))) = false)] ++ ([((decide ((↑s_0.Result.Trips.length : Int) > (120 : Int))) = false)] ++ ([((decide ((↑s_0.Result.Stays.length : Int) > (120 : Int))) = false)] ++ ([((decide ((↑s_0.Result.Charges.length : Int) > (120 : Int))) = false)] ++ ([((decide ((↑s_0.Result.Exclusions.length : Int) > (120 : Int))) = false)] ++ ([((decide ((↑s_0.Books.Done.length : Int) > (120 : Int))) = false)] ++ ((tollwaylaw52_great_p15 s_0) ++ ((tollwaylaw52_great_p16 s_0) ++ ((tollwaylaw52_great_p17 s_0) ++ ((tollwaylaw52_great_p18 s_0) ++ [(Does Tryd.prog GT 0 (.loop (bodyAt Tryd.prog 7 [1, 1, 1, 1, 1, 1, 0, 1, 0, 0])) (S 123 [(112, .lst (fl Tapi_Account.enc s_0.Config.Accounts) s_0.Config.Accounts.length), (113, .int .i64 (↑s_0.Config.Accounts.length : Int)), (114, .int .i64 (↑(0 : Nat) : Int))] []) .ret (S 123 [(2, .bool true)] []))])))))))))))))) (by kernel_rfl) (by kernel_rfl) (allOk_append.2 ⟨(ok1 (decide_eq_false c1)), (allOk_append.2 ⟨(ok1 (decide_eq_false c2)), (allOk_append.2 ⟨(ok1 (decide_eq_false c3)), (allOk_append.2 ⟨(ok1 (decide_eq_false c4)), (allOk_append.2 ⟨(ok1 (decide_eq_false c5)), (allOk_append.2 ⟨(ok1 (decide_eq_false c6)), (allOk_append.2 ⟨(ok1 (decide_eq_false c7)), (allOk_append.2 ⟨(ok1 (decide_eq_false c8)), (allOk_append.2 ⟨(ok1 (decide_eq_false c9)), (allOk_append.2 ⟨(tollwaylaw52_great_p15q s_0 c10), (allOk_append.2 ⟨(tollwaylaw52_great_p16q s_0 o11 hl11), (allOk_append.2 ⟨(tollwaylaw52_great_p17q s_0 o22 hl22), (allOk_append.2 ⟨(tollwaylaw52_great_p18q s_0 o33 hl33), (ok1 (tollwaylaw52_great_L44_does s_0 hl44))⟩)⟩)⟩)⟩)⟩)⟩)⟩)⟩)⟩)⟩)⟩)⟩)⟩)
theorem tollwaylaw52_great_14 (s_0 : Tapi_State) (c1 : ¬ ((↑s_0.Seen.length : Int) > (120 : Int))) (c2 : ¬ ((↑s_0.Rejects.length : Int) > (120 : Int))) (c3 : ¬ ((↑s_0.Result.Passages.length : Int) > (120 : Int))) (c4 : ¬ ((↑s_0.Result.Rejects.length : Int) > (120 : Int))) (c5 : ¬ ((↑s_0.Result.Trips.length : Int) > (120 : Int))) (c6 : ¬ ((↑s_0.Result.Stays.length : Int) > (120 : Int))) (c7 : ¬ ((↑s_0.Result.Charges.length : Int) > (120 : Int))) (c8 : ¬ ((↑s_0.Result.Exclusions.length : Int) > (120 : Int))) (c9 : ¬ ((↑s_0.Books.Done.length : Int) > (120 : Int))) (c10 : ¬ ((↑s_0.Config.Accounts.length : Int) > (30 : Int))) (o11 : Unit) (hl11 : lp (tollwaylaw52_great_L11_step s_0) (0 : Nat) = some (Sum.inr (o11))) (o22 : Unit) (hl22 : lp (tollwaylaw52_great_L22_step s_0) (0 : Nat) = some (Sum.inr (o22))) (o33 : Unit) (hl33 : lp (tollwaylaw52_great_L33_step s_0) (0 : Nat) = some (Sum.inr (o33))) (o44 : Unit) (hl44 : lp (tollwaylaw52_great_L44_step s_0) (0 : Nat) = some (Sum.inr (o44))) : Ret Tryd.prog GT 7 [.agg (Tapi_State.enc s_0)] (.bool false) [] :=
  Ret.of_view 400 ((tollwaylaw52_great_h1) ++ ((tollwaylaw52_great_h2) ++ ((tollwaylaw52_great_h3) ++ ((tollwaylaw52_great_h4) ++ ((tollwaylaw52_great_h5) ++ ((tollwaylaw52_great_h6) ++ ((tollwaylaw52_great_h7) ++ ((tollwaylaw52_great_h8) ++ ((tollwaylaw52_great_h9) ++ ((tollwaylaw52_great_h10) ++ ((tollwaylaw52_great_h11) ++ ((tollwaylaw52_great_h12 s_0) ++ ((tollwaylaw52_great_h13 s_0) ++ ((tollwaylaw52_great_h14 s_0) ++ [.fcut 0 (.exit 6) [] [] [] [(112, .lst (fl Tapi_Account.enc s_0.Config.Accounts) s_0.Config.Accounts.length), (113, .int .i64 (↑s_0.Config.Accounts.length : Int)), (114, .int .i64 (↑(0 : Nat) : Int))] [], .op none .c])))))))))))))) [] (ps := ([((decide ((↑s_0.Seen.length : Int) > (120 : Int))) = false)] ++ ([((decide ((↑s_0.Rejects.length : Int) > (120 : Int))) = false)] ++ ([((decide ((↑s_0.Result.Passages.length : Int) > (120 : Int))) = false)] ++ ([((decide ((↑s_0.Result.Rejects.length : Int) > (120 : Int))) = false)] ++ ([((decide ((↑s_0.Result.Trips.length : Int) > (120 : Int))) = false)] ++ ([((decide ((↑s_0.Result.Stays.length : Int) > (120 : Int))) = false)] ++ ([((decide ((↑s_0.Result.Charges.length : Int) > (120 : Int))) = false)] ++ ([((decide ((↑s_0.Result.Exclusions.length : Int) > (120 : Int))) = false)] ++ ([((decide ((↑s_0.Books.Done.length : Int) > (120 : Int))) = false)] ++ ((tollwaylaw52_great_p15 s_0) ++ ((tollwaylaw52_great_p16 s_0) ++ ((tollwaylaw52_great_p17 s_0) ++ ((tollwaylaw52_great_p18 s_0) ++ [(Does Tryd.prog GT 0 (.loop (bodyAt Tryd.prog 7 [1, 1, 1, 1, 1, 1, 0, 1, 0, 0])) (S 123 [(112, .lst (fl Tapi_Account.enc s_0.Config.Accounts) s_0.Config.Accounts.length), (113, .int .i64 (↑s_0.Config.Accounts.length : Int)), (114, .int .i64 (↑(0 : Nat) : Int))] []) (.exit 6) (S 123 [] []))])))))))))))))) (by kernel_rfl) (by kernel_rfl) (allOk_append.2 ⟨(ok1 (decide_eq_false c1)), (allOk_append.2 ⟨(ok1 (decide_eq_false c2)), (allOk_append.2 ⟨(ok1 (decide_eq_false c3)), (allOk_append.2 ⟨(ok1 (decide_eq_false c4)), (allOk_append.2 ⟨(ok1 (decide_eq_false c5)), (allOk_append.2 ⟨(ok1 (decide_eq_false c6)), (allOk_append.2 ⟨(ok1 (decide_eq_false c7)), (allOk_append.2 ⟨(ok1 (decide_eq_false c8)), (allOk_append.2 ⟨(ok1 (decide_eq_false c9)), (allOk_append.2 ⟨(tollwaylaw52_great_p15q s_0 c10), (allOk_append.2 ⟨(tollwaylaw52_great_p16q s_0 o11 hl11), (allOk_append.2 ⟨(tollwaylaw52_great_p17q s_0 o22 hl22), (allOk_append.2 ⟨(tollwaylaw52_great_p18q s_0 o33 hl33), (ok1 (tollwaylaw52_great_L44_does s_0 hl44))⟩)⟩)⟩)⟩)⟩)⟩)⟩)⟩)⟩)⟩)⟩)⟩)⟩)
theorem tollwaylaw52_great_ret (s_0 : Tapi_State) (r : Bool) (h : tollwaylaw52_great s_0 = some r) : Ret Tryd.prog GT 7 [.agg (Tapi_State.enc s_0)] (.bool r) [] := by
  unfold tollwaylaw52_great at h
  rcases ite_some h with ⟨c1, h⟩ | ⟨c1, h⟩
  · simp only [Option.some.injEq] at h
    subst h
    exact tollwaylaw52_great_0 s_0 c1
  · rcases ite_some h with ⟨c2, h⟩ | ⟨c2, h⟩
    · simp only [Option.some.injEq] at h
      subst h
      exact tollwaylaw52_great_1 s_0 c1 c2
    · rcases ite_some h with ⟨c3, h⟩ | ⟨c3, h⟩
      · simp only [Option.some.injEq] at h
        subst h
        exact tollwaylaw52_great_2 s_0 c1 c2 c3
      · rcases ite_some h with ⟨c4, h⟩ | ⟨c4, h⟩
        · simp only [Option.some.injEq] at h
          subst h
          exact tollwaylaw52_great_3 s_0 c1 c2 c3 c4
        · rcases ite_some h with ⟨c5, h⟩ | ⟨c5, h⟩
          · simp only [Option.some.injEq] at h
            subst h
            exact tollwaylaw52_great_4 s_0 c1 c2 c3 c4 c5
          · rcases ite_some h with ⟨c6, h⟩ | ⟨c6, h⟩
            · simp only [Option.some.injEq] at h
              subst h
              exact tollwaylaw52_great_5 s_0 c1 c2 c3 c4 c5 c6
            · rcases ite_some h with ⟨c7, h⟩ | ⟨c7, h⟩
              · simp only [Option.some.injEq] at h
                subst h
                exact tollwaylaw52_great_6 s_0 c1 c2 c3 c4 c5 c6 c7
              · rcases ite_some h with ⟨c8, h⟩ | ⟨c8, h⟩
                · simp only [Option.some.injEq] at h
                  subst h
                  exact tollwaylaw52_great_7 s_0 c1 c2 c3 c4 c5 c6 c7 c8
                · rcases ite_some h with ⟨c9, h⟩ | ⟨c9, h⟩
                  · simp only [Option.some.injEq] at h
                    subst h
                    exact tollwaylaw52_great_8 s_0 c1 c2 c3 c4 c5 c6 c7 c8 c9
                  · rcases ite_some h with ⟨c10, h⟩ | ⟨c10, h⟩
                    · simp only [Option.some.injEq] at h
                      subst h
                      exact tollwaylaw52_great_9 s_0 c1 c2 c3 c4 c5 c6 c7 c8 c9 c10
                    · obtain ⟨qq, hl11, h⟩ := bind_some h
                      rcases qq with o11 | o11
                      · dsimp only at h
                        simp only [Option.some.injEq] at h
                        subst h
                        exact tollwaylaw52_great_10 s_0 c1 c2 c3 c4 c5 c6 c7 c8 c9 c10 o11 hl11
                      · dsimp only at h
                        obtain ⟨qq, hl22, h⟩ := bind_some h
                        rcases qq with o22 | o22
                        · dsimp only at h
                          simp only [Option.some.injEq] at h
                          subst h
                          exact tollwaylaw52_great_11 s_0 c1 c2 c3 c4 c5 c6 c7 c8 c9 c10 o11 hl11 o22 hl22
                        · dsimp only at h
                          obtain ⟨qq, hl33, h⟩ := bind_some h
                          rcases qq with o33 | o33
                          · dsimp only at h
                            simp only [Option.some.injEq] at h
                            subst h
                            exact tollwaylaw52_great_12 s_0 c1 c2 c3 c4 c5 c6 c7 c8 c9 c10 o11 hl11 o22 hl22 o33 hl33
                          · dsimp only at h
                            obtain ⟨qq, hl44, h⟩ := bind_some h
                            rcases qq with o44 | o44
                            · dsimp only at h
                              simp only [Option.some.injEq] at h
                              subst h
                              exact tollwaylaw52_great_13 s_0 c1 c2 c3 c4 c5 c6 c7 c8 c9 c10 o11 hl11 o22 hl22 o33 hl33 o44 hl44
                            · dsimp only at h
                              simp only [Option.some.injEq] at h
                              subst h
                              exact tollwaylaw52_great_14 s_0 c1 c2 c3 c4 c5 c6 c7 c8 c9 c10 o11 hl11 o22 hl22 o33 hl33 o44 hl44
end Go.Proofs.YtalobodhbbkgdabDoor.Av
