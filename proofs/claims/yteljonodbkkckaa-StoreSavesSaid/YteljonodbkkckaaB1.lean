import Derived.Test.YteljonodbkkckaaAvX
import Derived.Test.YteljonodbkkckaaProg
import Derived.Tactics
import Derived.Test.YteljonodbkkckaaAwk
import Derived.Test.YteljonodbkkckaaB0
set_option linter.unusedVariables false
set_option linter.unusedSimpArgs false
set_option maxHeartbeats 4000000
namespace Go.Proofs.Yteljonodbkkckaa.Av
open Go Go.Proofs
structure Tapi_Detection where
  Device : (List UInt8)
  Seq : Int
  Time : Int
  Tag : (List UInt8)
  Plate : (List UInt8)
  Axles : Int
  Score : Int
def Tapi_Detection.enc (x : Tapi_Detection) : List AV := [.str x.Device, .int .i64 x.Seq, .int .i64 x.Time, .str x.Tag, .str x.Plate, .int .i64 x.Axles, .int .i64 x.Score]
structure Tapi_Post where
  Account : (List UInt8)
  Cents : Int
def Tapi_Post.enc (x : Tapi_Post) : List AV := [.str x.Account, .int .i64 x.Cents]
structure Tapi_Entry where
  Key : (List UInt8)
  Time : Int
  Posts : (List Tapi_Post)
def Tapi_Entry.enc (x : Tapi_Entry) : List AV := [.str x.Key, .int .i64 x.Time, .lst (fl Tapi_Post.enc x.Posts) x.Posts.length]
structure Tapi_Ledger where
  Entries : (List Tapi_Entry)
def Tapi_Ledger.enc (x : Tapi_Ledger) : List AV := [.lst (fl Tapi_Entry.enc x.Entries) x.Entries.length]
structure Tapi_Line where
  Text : (List UInt8)
  Cents : Int
def Tapi_Line.enc (x : Tapi_Line) : List AV := [.str x.Text, .int .i64 x.Cents]
structure Tapi_Charge where
  Key : (List UInt8)
  Vehicle : (List UInt8)
  System : (List UInt8)
  Class : Int
  Time : Int
  Lines : (List Tapi_Line)
  Cents : Int
def Tapi_Charge.enc (x : Tapi_Charge) : List AV := [.str x.Key, .str x.Vehicle, .str x.System, .int .i64 x.Class, .int .i64 x.Time, .lst (fl Tapi_Line.enc x.Lines) x.Lines.length, .int .i64 x.Cents]
structure Tapi_Books where
  Ledger : Tapi_Ledger
  Done : (List Tapi_Charge)
def Tapi_Books.enc (x : Tapi_Books) : List AV := [.lst (fl Tapi_Entry.enc x.Ledger.Entries) x.Ledger.Entries.length, .lst (fl Tapi_Charge.enc x.Done) x.Done.length]
structure Tapi_Point where
  Name : (List UInt8)
  Kind : Int
  System : (List UInt8)
def Tapi_Point.enc (x : Tapi_Point) : List AV := [.str x.Name, .int .i64 x.Kind, .str x.System]
structure Tapi_Link where
  From : (List UInt8)
  To : (List UInt8)
  Min : Int
  Max : Int
def Tapi_Link.enc (x : Tapi_Link) : List AV := [.str x.From, .str x.To, .int .i64 x.Min, .int .i64 x.Max]
structure Tapi_Network where
  Points : (List Tapi_Point)
  Links : (List Tapi_Link)
def Tapi_Network.enc (x : Tapi_Network) : List AV := [.lst (fl Tapi_Point.enc x.Points) x.Points.length, .lst (fl Tapi_Link.enc x.Links) x.Links.length]
structure Tapi_System where
  Name : (List UInt8)
  Closed : Bool
  Most : Int
def Tapi_System.enc (x : Tapi_System) : List AV := [.str x.Name, .bool x.Closed, .int .i64 x.Most]
structure Tapi_Topology where
  Net : Tapi_Network
  Systems : (List Tapi_System)
def Tapi_Topology.enc (x : Tapi_Topology) : List AV := [.lst (fl Tapi_Point.enc x.Net.Points) x.Net.Points.length, .lst (fl Tapi_Link.enc x.Net.Links) x.Net.Links.length, .lst (fl Tapi_System.enc x.Systems) x.Systems.length]
structure Tapi_Offset where
  From : Int
  Delta : Int
def Tapi_Offset.enc (x : Tapi_Offset) : List AV := [.int .i64 x.From, .int .i64 x.Delta]
structure Tapi_Interval where
  From : Int
  To : Int
def Tapi_Interval.enc (x : Tapi_Interval) : List AV := [.int .i64 x.From, .int .i64 x.To]
structure Tapi_Device where
  Name : (List UInt8)
  Point : (List UInt8)
  Kind : Int
  Lane : Int
  Offsets : (List Tapi_Offset)
  Down : (List Tapi_Interval)
def Tapi_Device.enc (x : Tapi_Device) : List AV := [.str x.Name, .str x.Point, .int .i64 x.Kind, .int .i64 x.Lane, .lst (fl Tapi_Offset.enc x.Offsets) x.Offsets.length, .lst (fl Tapi_Interval.enc x.Down) x.Down.length]
structure Tapi_ClassRule where
  From : Int
  To : Int
  Class : Int
def Tapi_ClassRule.enc (x : Tapi_ClassRule) : List AV := [.int .i64 x.From, .int .i64 x.To, .int .i64 x.Class]
structure Tapi_TagState where
  Tag : (List UInt8)
  From : Int
  State : Int
def Tapi_TagState.enc (x : Tapi_TagState) : List AV := [.str x.Tag, .int .i64 x.From, .int .i64 x.State]
structure Tapi_Window where
  Days : Int
  From : Int
  To : Int
def Tapi_Window.enc (x : Tapi_Window) : List AV := [.int .i64 x.Days, .int .i64 x.From, .int .i64 x.To]
structure Tapi_Band where
  Name : (List UInt8)
  Window : Tapi_Window
def Tapi_Band.enc (x : Tapi_Band) : List AV := [.str x.Name, .int .i64 x.Window.Days, .int .i64 x.Window.From, .int .i64 x.Window.To]
structure Tapi_Rate where
  From : (List UInt8)
  To : (List UInt8)
  Class : Int
  Band : (List UInt8)
  Cents : Int
def Tapi_Rate.enc (x : Tapi_Rate) : List AV := [.str x.From, .str x.To, .int .i64 x.Class, .str x.Band, .int .i64 x.Cents]
structure Tapi_Tariff where
  Valid : Tapi_Interval
  Bands : (List Tapi_Band)
  Rates : (List Tapi_Rate)
def Tapi_Tariff.enc (x : Tapi_Tariff) : List AV := [.int .i64 x.Valid.From, .int .i64 x.Valid.To, .lst (fl Tapi_Band.enc x.Bands) x.Bands.length, .lst (fl Tapi_Rate.enc x.Rates) x.Rates.length]
structure Tapi_Scale where
  Period : Int
  Up : (List Int)
  Down : (List Int)
  Parts : (List Int)
def Tapi_Scale.enc (x : Tapi_Scale) : List AV := [.int .i64 x.Period, .lst (fl e_i64 x.Up) x.Up.length, .lst (fl e_i64 x.Down) x.Down.length, .lst (fl e_i64 x.Parts) x.Parts.length]
structure Tapi_Discount where
  Name : (List UInt8)
  Kind : Int
  Amount : Int
  Group : (List UInt8)
  System : (List UInt8)
  Class : Int
  Window : Tapi_Window
  Least : Int
def Tapi_Discount.enc (x : Tapi_Discount) : List AV := [.str x.Name, .int .i64 x.Kind, .int .i64 x.Amount, .str x.Group, .str x.System, .int .i64 x.Class, .int .i64 x.Window.Days, .int .i64 x.Window.From, .int .i64 x.Window.To, .int .i64 x.Least]
structure Tapi_Cap where
  Name : (List UInt8)
  System : (List UInt8)
  Days : Int
  Cents : Int
def Tapi_Cap.enc (x : Tapi_Cap) : List AV := [.str x.Name, .str x.System, .int .i64 x.Days, .int .i64 x.Cents]
structure Tapi_Step where
  Upto : Int
  Unit : Int
  Cents : Int
def Tapi_Step.enc (x : Tapi_Step) : List AV := [.int .i64 x.Upto, .int .i64 x.Unit, .int .i64 x.Cents]
structure Tapi_Zone where
  Name : (List UInt8)
  Hours : (List Tapi_Window)
  Steps : (List Tapi_Step)
  Grace : Int
  Free : Int
  DayMax : Int
  MaxStay : Int
def Tapi_Zone.enc (x : Tapi_Zone) : List AV := [.str x.Name, .lst (fl Tapi_Window.enc x.Hours) x.Hours.length, .lst (fl Tapi_Step.enc x.Steps) x.Steps.length, .int .i64 x.Grace, .int .i64 x.Free, .int .i64 x.DayMax, .int .i64 x.MaxStay]
structure Tapi_Permit where
  Name : (List UInt8)
  Zone : (List UInt8)
  Plates : (List (List UInt8))
  Valid : Tapi_Interval
  Hours : (List Tapi_Window)
  Most : Int
def Tapi_Permit.enc (x : Tapi_Permit) : List AV := [.str x.Name, .str x.Zone, .lst (fl e_str x.Plates) x.Plates.length, .int .i64 x.Valid.From, .int .i64 x.Valid.To, .lst (fl Tapi_Window.enc x.Hours) x.Hours.length, .int .i64 x.Most]
structure Tapi_Owned where
  Tag : (List UInt8)
  Plate : (List UInt8)
  Time : Tapi_Interval
def Tapi_Owned.enc (x : Tapi_Owned) : List AV := [.str x.Tag, .str x.Plate, .int .i64 x.Time.From, .int .i64 x.Time.To]
structure Tapi_Refill where
  Below : Int
  Cents : Int
  Tries : Int
  Wait : Int
def Tapi_Refill.enc (x : Tapi_Refill) : List AV := [.int .i64 x.Below, .int .i64 x.Cents, .int .i64 x.Tries, .int .i64 x.Wait]
structure Tapi_Account where
  Name : (List UInt8)
  Agency : (List UInt8)
  Prepay : Bool
  Owned : (List Tapi_Owned)
  Refill : Tapi_Refill
  Exempt : Bool
def Tapi_Account.enc (x : Tapi_Account) : List AV := [.str x.Name, .str x.Agency, .bool x.Prepay, .lst (fl Tapi_Owned.enc x.Owned) x.Owned.length, .int .i64 x.Refill.Below, .int .i64 x.Refill.Cents, .int .i64 x.Refill.Tries, .int .i64 x.Refill.Wait, .bool x.Exempt]
structure Tapi_Relief where
  Kind : Int
  Part : Int
def Tapi_Relief.enc (x : Tapi_Relief) : List AV := [.int .i64 x.Kind, .int .i64 x.Part]
structure Tapi_Law where
  Days : (List Int)
  Fees : (List Int)
  Limit : Int
def Tapi_Law.enc (x : Tapi_Law) : List AV := [.lst (fl e_i64 x.Days) x.Days.length, .lst (fl e_i64 x.Fees) x.Fees.length, .int .i64 x.Limit]
structure Tapi_Keeping where
  Purpose : Int
  Seconds : Int
  Least : Int
def Tapi_Keeping.enc (x : Tapi_Keeping) : List AV := [.int .i64 x.Purpose, .int .i64 x.Seconds, .int .i64 x.Least]
structure Tapi_Config where
  Top : Tapi_Topology
  Devices : (List Tapi_Device)
  Classes : (List Tapi_ClassRule)
  Tags : (List Tapi_TagState)
  Gap : Int
  Weak : Int
  Tariffs : (List Tapi_Tariff)
  Scale : Tapi_Scale
  Discounts : (List Tapi_Discount)
  Caps : (List Tapi_Cap)
  Zones : (List Tapi_Zone)
  Permits : (List Tapi_Permit)
  Accounts : (List Tapi_Account)
  Reliefs : (List Tapi_Relief)
  Holidays : (List Int)
  Law : Tapi_Law
  Keeping : (List Tapi_Keeping)
  Agency : (List UInt8)
def Tapi_Config.enc (x : Tapi_Config) : List AV := [.lst (fl Tapi_Point.enc x.Top.Net.Points) x.Top.Net.Points.length, .lst (fl Tapi_Link.enc x.Top.Net.Links) x.Top.Net.Links.length, .lst (fl Tapi_System.enc x.Top.Systems) x.Top.Systems.length, .lst (fl Tapi_Device.enc x.Devices) x.Devices.length, .lst (fl Tapi_ClassRule.enc x.Classes) x.Classes.length, .lst (fl Tapi_TagState.enc x.Tags) x.Tags.length, .int .i64 x.Gap, .int .i64 x.Weak, .lst (fl Tapi_Tariff.enc x.Tariffs) x.Tariffs.length, .int .i64 x.Scale.Period, .lst (fl e_i64 x.Scale.Up) x.Scale.Up.length, .lst (fl e_i64 x.Scale.Down) x.Scale.Down.length, .lst (fl e_i64 x.Scale.Parts) x.Scale.Parts.length, .lst (fl Tapi_Discount.enc x.Discounts) x.Discounts.length, .lst (fl Tapi_Cap.enc x.Caps) x.Caps.length, .lst (fl Tapi_Zone.enc x.Zones) x.Zones.length, .lst (fl Tapi_Permit.enc x.Permits) x.Permits.length, .lst (fl Tapi_Account.enc x.Accounts) x.Accounts.length, .lst (fl Tapi_Relief.enc x.Reliefs) x.Reliefs.length, .lst (fl e_i64 x.Holidays) x.Holidays.length, .lst (fl e_i64 x.Law.Days) x.Law.Days.length, .lst (fl e_i64 x.Law.Fees) x.Law.Fees.length, .int .i64 x.Law.Limit, .lst (fl Tapi_Keeping.enc x.Keeping) x.Keeping.length, .str x.Agency]
structure Tapi_Seen where
  D : Tapi_Detection
  Time : Int
  Point : (List UInt8)
  Lane : Int
  Kind : Int
def Tapi_Seen.enc (x : Tapi_Seen) : List AV := [.str x.D.Device, .int .i64 x.D.Seq, .int .i64 x.D.Time, .str x.D.Tag, .str x.D.Plate, .int .i64 x.D.Axles, .int .i64 x.D.Score, .int .i64 x.Time, .str x.Point, .int .i64 x.Lane, .int .i64 x.Kind]
structure Tapi_Reject where
  D : Tapi_Detection
  Why : Int
def Tapi_Reject.enc (x : Tapi_Reject) : List AV := [.str x.D.Device, .int .i64 x.D.Seq, .int .i64 x.D.Time, .str x.D.Tag, .str x.D.Plate, .int .i64 x.D.Axles, .int .i64 x.D.Score, .int .i64 x.Why]
structure Tapi_Parked where
  Kind : Int
  Zone : (List UInt8)
  Plate : (List UInt8)
  Time : Int
  Until : Int
def Tapi_Parked.enc (x : Tapi_Parked) : List AV := [.int .i64 x.Kind, .str x.Zone, .str x.Plate, .int .i64 x.Time, .int .i64 x.Until]
structure Tapi_Source where
  Device : (List UInt8)
  Seq : Int
def Tapi_Source.enc (x : Tapi_Source) : List AV := [.str x.Device, .int .i64 x.Seq]
structure Tapi_Passage where
  ID : (List UInt8)
  Point : (List UInt8)
  Time : Int
  Tag : (List UInt8)
  Plate : (List UInt8)
  Class : Int
  Score : Int
  Sources : (List Tapi_Source)
def Tapi_Passage.enc (x : Tapi_Passage) : List AV := [.str x.ID, .str x.Point, .int .i64 x.Time, .str x.Tag, .str x.Plate, .int .i64 x.Class, .int .i64 x.Score, .lst (fl Tapi_Source.enc x.Sources) x.Sources.length]
structure Tapi_Stop where
  Point : (List UInt8)
  Time : Int
  Passage : (List UInt8)
def Tapi_Stop.enc (x : Tapi_Stop) : List AV := [.str x.Point, .int .i64 x.Time, .str x.Passage]
structure Tapi_Trip where
  ID : (List UInt8)
  Vehicle : (List UInt8)
  System : (List UInt8)
  Class : Int
  Stops : (List Tapi_Stop)
def Tapi_Trip.enc (x : Tapi_Trip) : List AV := [.str x.ID, .str x.Vehicle, .str x.System, .int .i64 x.Class, .lst (fl Tapi_Stop.enc x.Stops) x.Stops.length]
structure Tapi_Stay where
  ID : (List UInt8)
  Zone : (List UInt8)
  Plate : (List UInt8)
  Time : Tapi_Interval
def Tapi_Stay.enc (x : Tapi_Stay) : List AV := [.str x.ID, .str x.Zone, .str x.Plate, .int .i64 x.Time.From, .int .i64 x.Time.To]
structure Tapi_Exclusion where
  ID : (List UInt8)
  Why : Int
def Tapi_Exclusion.enc (x : Tapi_Exclusion) : List AV := [.str x.ID, .int .i64 x.Why]
structure Tapi_Result where
  Passages : (List Tapi_Passage)
  Rejects : (List Tapi_Reject)
  Trips : (List Tapi_Trip)
  Stays : (List Tapi_Stay)
  Charges : (List Tapi_Charge)
  Exclusions : (List Tapi_Exclusion)
def Tapi_Result.enc (x : Tapi_Result) : List AV := [.lst (fl Tapi_Passage.enc x.Passages) x.Passages.length, .lst (fl Tapi_Reject.enc x.Rejects) x.Rejects.length, .lst (fl Tapi_Trip.enc x.Trips) x.Trips.length, .lst (fl Tapi_Stay.enc x.Stays) x.Stays.length, .lst (fl Tapi_Charge.enc x.Charges) x.Charges.length, .lst (fl Tapi_Exclusion.enc x.Exclusions) x.Exclusions.length]
structure Tapi_Appeal where
  State : Int
  Ground : Int
  Day : Int
def Tapi_Appeal.enc (x : Tapi_Appeal) : List AV := [.int .i64 x.State, .int .i64 x.Ground, .int .i64 x.Day]
structure Tapi_Case where
  ID : (List UInt8)
  Plate : (List UInt8)
  Key : (List UInt8)
  Begun : Int
  Since : Int
  Stage : Int
  Owed : Int
  Paid : Int
  Paused : Int
  Appeal : Tapi_Appeal
def Tapi_Case.enc (x : Tapi_Case) : List AV := [.str x.ID, .str x.Plate, .str x.Key, .int .i64 x.Begun, .int .i64 x.Since, .int .i64 x.Stage, .int .i64 x.Owed, .int .i64 x.Paid, .int .i64 x.Paused, .int .i64 x.Appeal.State, .int .i64 x.Appeal.Ground, .int .i64 x.Appeal.Day]
structure Tapi_State where
  Config : Tapi_Config
  Seen : (List Tapi_Seen)
  Rejects : (List Tapi_Reject)
  Parked : (List Tapi_Parked)
  Closed : Int
  Result : Tapi_Result
  Books : Tapi_Books
  Cases : (List Tapi_Case)
  Count : Int
def Tapi_State.enc (x : Tapi_State) : List AV := [.lst (fl Tapi_Point.enc x.Config.Top.Net.Points) x.Config.Top.Net.Points.length, .lst (fl Tapi_Link.enc x.Config.Top.Net.Links) x.Config.Top.Net.Links.length, .lst (fl Tapi_System.enc x.Config.Top.Systems) x.Config.Top.Systems.length, .lst (fl Tapi_Device.enc x.Config.Devices) x.Config.Devices.length, .lst (fl Tapi_ClassRule.enc x.Config.Classes) x.Config.Classes.length, .lst (fl Tapi_TagState.enc x.Config.Tags) x.Config.Tags.length, .int .i64 x.Config.Gap, .int .i64 x.Config.Weak, .lst (fl Tapi_Tariff.enc x.Config.Tariffs) x.Config.Tariffs.length, .int .i64 x.Config.Scale.Period, .lst (fl e_i64 x.Config.Scale.Up) x.Config.Scale.Up.length, .lst (fl e_i64 x.Config.Scale.Down) x.Config.Scale.Down.length, .lst (fl e_i64 x.Config.Scale.Parts) x.Config.Scale.Parts.length, .lst (fl Tapi_Discount.enc x.Config.Discounts) x.Config.Discounts.length, .lst (fl Tapi_Cap.enc x.Config.Caps) x.Config.Caps.length, .lst (fl Tapi_Zone.enc x.Config.Zones) x.Config.Zones.length, .lst (fl Tapi_Permit.enc x.Config.Permits) x.Config.Permits.length, .lst (fl Tapi_Account.enc x.Config.Accounts) x.Config.Accounts.length, .lst (fl Tapi_Relief.enc x.Config.Reliefs) x.Config.Reliefs.length, .lst (fl e_i64 x.Config.Holidays) x.Config.Holidays.length, .lst (fl e_i64 x.Config.Law.Days) x.Config.Law.Days.length, .lst (fl e_i64 x.Config.Law.Fees) x.Config.Law.Fees.length, .int .i64 x.Config.Law.Limit, .lst (fl Tapi_Keeping.enc x.Config.Keeping) x.Config.Keeping.length, .str x.Config.Agency, .lst (fl Tapi_Seen.enc x.Seen) x.Seen.length, .lst (fl Tapi_Reject.enc x.Rejects) x.Rejects.length, .lst (fl Tapi_Parked.enc x.Parked) x.Parked.length, .int .i64 x.Closed, .lst (fl Tapi_Passage.enc x.Result.Passages) x.Result.Passages.length, .lst (fl Tapi_Reject.enc x.Result.Rejects) x.Result.Rejects.length, .lst (fl Tapi_Trip.enc x.Result.Trips) x.Result.Trips.length, .lst (fl Tapi_Stay.enc x.Result.Stays) x.Result.Stays.length, .lst (fl Tapi_Charge.enc x.Result.Charges) x.Result.Charges.length, .lst (fl Tapi_Exclusion.enc x.Result.Exclusions) x.Result.Exclusions.length, .lst (fl Tapi_Entry.enc x.Books.Ledger.Entries) x.Books.Ledger.Entries.length, .lst (fl Tapi_Charge.enc x.Books.Done) x.Books.Done.length, .lst (fl Tapi_Case.enc x.Cases) x.Cases.length, .int .i64 x.Count]
noncomputable def store_putInts_L1_step (l_1 : (List Int)) : ((List UInt8) × Nat) → Option (((List UInt8) × Nat) ⊕ (List UInt8))
  | (v0, k9) =>
    if (↑k9 : Int) < (↑l_1.length : Int) then
      (l_1[k9]?).bind fun x9 =>
      (codec_PutInt v0 x9).bind fun r11 =>
      if InR .i64 ((↑k9 : Int) + 1) then
        some (Sum.inl (r11, (k9 + 1)))
      else none
    else
      some (Sum.inr v0)
def store_putInts_L1_H (l_1 : (List Int)) : ((List UInt8) × Nat) → St := fun (s : ((List UInt8) × Nat)) => S 18 [(0, .lst (u8s s.1) s.1.length), (7, .lst (fl e_i64 l_1) l_1.length), (8, .int .i64 (↑l_1.length : Int)), (9, .int .i64 (↑s.2 : Int))] []
theorem store_putInts_L1_0 (l_1 : (List Int)) (v0 : (List UInt8)) (k9 : Nat) (c8 : (↑k9 : Int) < (↑l_1.length : Int)) (x9 : Int) (h10 : l_1[k9]? = some x9) (r11 : (List UInt8)) (h12 : codec_PutInt v0 x9 = some r11) (h13 : InR .i64 ((↑k9 : Int) + 1)) : Does Try.prog G0 0 (bodyAt Try.prog 38 [1, 0, 1, 0, 0]) (store_putInts_L1_H l_1 (v0, k9)) .normal (S 18 [(0, .lst (u8s r11) r11.length), (7, .lst (fl e_i64 l_1) l_1.length), (8, .int .i64 (↑l_1.length : Int)), (9, .int .i64 ((↑k9 : Int) + 1))] []) :=
  Does.of_viewM 0 400 ((.op none .a) :: (.br true) :: (.op none (.i k9)) :: (.op none (.v [.int .i64 x9])) :: (cs 3 [.ret none [.lst (u8s v0) v0.length, .int .i64 x9] (.vec 0 r11.length 1) [{ c := (u8s r11), e := 5, ext := true, fz := 0, pl := true, o := true }], .op none .c, .op none .w, .op none .c, .tr (.frz [.t 0, .t 15] (u8s r11) r11.length)])) [] (ps := [((decide ((↑k9 : Int) < (↑l_1.length : Int))) = true), ((↑k9 : Int) = ((k9 : Nat) : Int) ∧ k9 < l_1.length), ((fl e_i64 l_1) ≠ []), (sub (fl e_i64 l_1) k9 1 = [.int .i64 x9]), ((.lst (u8s v0) v0.length : AV) = .lst (u8s v0) v0.length), ((.int .i64 x9 : AV) = .int .i64 x9), (Ret Try.prog G0 74 [.lst (u8s v0) v0.length, .int .i64 x9] (.vec 0 r11.length 1) [{ c := (u8s r11), e := 5, ext := true, fz := 0, pl := true, o := true }]), (IntKind.min .i64 ≤ ((↑k9 : Int) + 1) ∧ ((↑k9 : Int) + 1) ≤ IntKind.max .i64), (0 = 0 ∧ (u8s r11) = (u8s r11) ∧ r11.length = r11.length ∧ List.length ((u8s r11) : List AV) = r11.length), (0 = 0 ∧ (u8s r11) = (u8s r11) ∧ r11.length = r11.length ∧ List.length ((u8s r11) : List AV) = r11.length)]) (by kernel_rfl) (by kernel_rfl) ⟨(decide_eq_true c8), ⟨rfl, get_lt h10⟩, (fl_ne (f := e_i64) (z := 0) (fun _ => rfl) h10), (fl_sub1 (f := e_i64) (fun _ => rfl) h10 rfl), rfl, rfl, (codec_PutInt_ret v0 x9 r11 h12), h13, ⟨rfl, rfl, rfl, u8s_length⟩, ok1 ⟨rfl, rfl, rfl, u8s_length⟩⟩
theorem store_putInts_L1_1 (l_1 : (List Int)) (v0 : (List UInt8)) (k9 : Nat) (c8 : ¬ ((↑k9 : Int) < (↑l_1.length : Int))) : Does Try.prog G0 0 (bodyAt Try.prog 38 [1, 0, 1, 0, 0]) (store_putInts_L1_H l_1 (v0, k9)) (.exit 0) (S 18 [(0, .lst (u8s v0) v0.length)] []) :=
  Does.of_viewM 0 400 [.op none .a, .br false] [] (ps := [((decide ((↑k9 : Int) < (↑l_1.length : Int))) = false)]) (by kernel_rfl) (by kernel_rfl) (ok1 (decide_eq_false c8))
def store_putInts_L1_X (l_1 : (List Int)) : (List UInt8) → AEx := fun o => (.exit 0)
def store_putInts_L1_E (l_1 : (List Int)) : (List UInt8) → St := fun o => S 18 [(0, .lst (u8s o) o.length)] []
theorem store_putInts_L1_does (l_1 : (List Int)) {s : ((List UInt8) × Nat)} {r : (List UInt8)} (h : lp (store_putInts_L1_step l_1) s = some r) : Does Try.prog G0 0 (.loop (bodyAt Try.prog 38 [1, 0, 1, 0, 0])) (store_putInts_L1_H l_1 s) (store_putInts_L1_X l_1 r) (store_putInts_L1_E l_1 r) := by
  refine Does.lp (H := store_putInts_L1_H l_1) (X := store_putInts_L1_X l_1) (E := store_putInts_L1_E l_1) (fun s s2 h => ?_) (fun s r h => ?_) h
  · obtain ⟨v0, k9⟩ := s
    unfold store_putInts_L1_step at h
    try dsimp only at h
    rcases ite_some h with ⟨c8, h⟩ | ⟨c8, h⟩
    · obtain ⟨x9, h10, h⟩ := bind_some h
      obtain ⟨r11, h12, h⟩ := bind_some h
      obtain ⟨h13, h⟩ := guard_some h
      simp only [Option.some.injEq, Sum.inl.injEq] at h
      subst h
      exact store_putInts_L1_0 l_1 v0 k9 c8 x9 h10 r11 h12 h13
    · simp at h
  · obtain ⟨v0, k9⟩ := s
    unfold store_putInts_L1_step at h
    try dsimp only at h
    rcases ite_some h with ⟨c8, h⟩ | ⟨c8, h⟩
    · obtain ⟨x9, h10, h⟩ := bind_some h
      obtain ⟨r11, h12, h⟩ := bind_some h
      obtain ⟨h13, h⟩ := guard_some h
      simp at h
    · simp only [Option.some.injEq, Sum.inr.injEq] at h
      subst h
      exact ⟨store_putInts_L1_1 l_1 v0 k9 c8, by intro q; cases q⟩
noncomputable def store_putInts (b_0 : (List UInt8)) (l_1 : (List Int)) : Option (List UInt8) :=
  (lp (store_putInts_L1_step l_1) (b_0, (0 : Nat))).bind fun o1 =>
  some o1
theorem store_putInts_0 (b_0 : (List UInt8)) (l_1 : (List Int)) (o1 : (List UInt8)) (hl1 : lp (store_putInts_L1_step l_1) (b_0, (0 : Nat)) = some o1) : Ret Try.prog G0 38 [.lst (u8s b_0) b_0.length, .lst (fl e_i64 l_1) l_1.length] (.lst (u8s o1) o1.length) [] :=
  Ret.of_view 400 (cs 4 ((.fcut 0 (.exit 0) [(0, .lst (u8s o1) o1.length)] [] [] [(0, .lst (u8s b_0) b_0.length), (7, .lst (fl e_i64 l_1) l_1.length), (8, .int .i64 (↑l_1.length : Int)), (9, .int .i64 (↑(0 : Nat) : Int))] []) :: (cs 2 []))) [] (ps := [((.lst (u8s b_0) b_0.length : AV) = .lst (u8s b_0) b_0.length), ((.lst (fl e_i64 l_1) l_1.length : AV) = .lst (fl e_i64 l_1) l_1.length), ((.int .i64 (↑l_1.length : Int) : AV) = .int .i64 (↑l_1.length : Int)), ((.int .i64 0 : AV) = .int .i64 (↑(0 : Nat) : Int)), (Does Try.prog G0 0 (.loop (bodyAt Try.prog 38 [1, 0, 1, 0, 0])) (S 18 [(0, .lst (u8s b_0) b_0.length), (7, .lst (fl e_i64 l_1) l_1.length), (8, .int .i64 (↑l_1.length : Int)), (9, .int .i64 (↑(0 : Nat) : Int))] []) (.exit 0) (S 18 [(0, .lst (u8s o1) o1.length)] []))]) (by kernel_rfl) (by kernel_rfl) ⟨rfl, rfl, rfl, rfl, ok1 (store_putInts_L1_does l_1 hl1)⟩
theorem store_putInts_ret (b_0 : (List UInt8)) (l_1 : (List Int)) (r : (List UInt8)) (h : store_putInts b_0 l_1 = some r) : Ret Try.prog G0 38 [.lst (u8s b_0) b_0.length, .lst (fl e_i64 l_1) l_1.length] (.lst (u8s r) r.length) [] := by
  unfold store_putInts at h
  obtain ⟨o1, hl1, h⟩ := bind_some h
  simp only [Option.some.injEq] at h
  subst h
  exact store_putInts_0 b_0 l_1 o1 hl1
noncomputable def store_putDetection_L1_step  : ((List UInt8) × Nat × (List (List UInt8))) → Option (((List UInt8) × Nat × (List (List UInt8))) ⊕ ((List UInt8) × (List (List UInt8))))
  | (v0, k9, b1) =>
    if (↑k9 : Int) < (1 : Int) then
      (b1[k9]?).bind fun x16 =>
      (codec_PutText v0 x16).bind fun r18 =>
      if InR .i64 ((↑k9 : Int) + 1) then
        some (Sum.inl (r18, (k9 + 1), b1))
      else none
    else
      some (Sum.inr (v0, b1))
def store_putDetection_L1_H  : ((List UInt8) × Nat × (List (List UInt8))) → St := fun (s : ((List UInt8) × Nat × (List (List UInt8)))) => S 18 [(0, .lst (u8s s.1) s.1.length), (7, .sl 0 0 s.2.2.length s.2.2.length true 1), (8, .int .i64 1), (9, .int .i64 (↑s.2.1 : Int))] [{ c := (fl e_str s.2.2), e := 9, ext := false, fz := 0, pl := true, o := false }]
theorem store_putDetection_L1_0  (v0 : (List UInt8)) (k9 : Nat) (b1 : (List (List UInt8))) (c15 : (↑k9 : Int) < (1 : Int)) (x16 : (List UInt8)) (h17 : b1[k9]? = some x16) (r18 : (List UInt8)) (h19 : codec_PutText v0 x16 = some r18) (h20 : InR .i64 ((↑k9 : Int) + 1)) : Does Try.prog G0 1 (bodyAt Try.prog 40 [1, 0, 1, 0, 0]) (store_putDetection_L1_H  (v0, k9, b1)) .normal (S 18 [(0, .lst (u8s r18) r18.length), (7, .sl 0 0 b1.length b1.length true 1), (8, .int .i64 1), (9, .int .i64 ((↑k9 : Int) + 1))] [{ c := (fl e_str b1), e := 9, ext := false, fz := 0, pl := true, o := false }]) :=
  Does.of_viewM 1 400 ((.op none .a) :: (.br true) :: (.op none (.i k9)) :: (.op none (.v [.str x16])) :: (cs 3 [.ret none [.lst (u8s v0) v0.length, .str x16] (.vec 0 r18.length 1) [{ c := (u8s r18), e := 5, ext := true, fz := 0, pl := true, o := true }], .op none .c, .op none .w, .op none .c, .tr (.frz [.t 0, .t 15] (u8s r18) r18.length)])) [0] (ps := [((decide ((↑k9 : Int) < (1 : Int))) = true), ((↑k9 : Int) = ((k9 : Nat) : Int) ∧ k9 < b1.length), (sub (fl e_str b1) k9 1 = [.str x16]), ((.lst (u8s v0) v0.length : AV) = .lst (u8s v0) v0.length), ((.str x16 : AV) = .str x16), (Ret Try.prog G0 72 [.lst (u8s v0) v0.length, .str x16] (.vec 0 r18.length 1) [{ c := (u8s r18), e := 5, ext := true, fz := 0, pl := true, o := true }]), (IntKind.min .i64 ≤ ((↑k9 : Int) + 1) ∧ ((↑k9 : Int) + 1) ≤ IntKind.max .i64), (1 = 1 ∧ (u8s r18) = (u8s r18) ∧ r18.length = r18.length ∧ List.length ((u8s r18) : List AV) = r18.length), (1 = 1 ∧ (u8s r18) = (u8s r18) ∧ r18.length = r18.length ∧ List.length ((u8s r18) : List AV) = r18.length)]) (by kernel_rfl) (by kernel_rfl) ⟨(decide_eq_true c15), ⟨rfl, get_lt h17⟩, (fl_sub1 (f := e_str) (fun _ => rfl) h17 rfl), rfl, rfl, (codec_PutText_ret v0 x16 r18 h19), h20, ⟨rfl, rfl, rfl, u8s_length⟩, ok1 ⟨rfl, rfl, rfl, u8s_length⟩⟩
theorem store_putDetection_L1_1  (v0 : (List UInt8)) (k9 : Nat) (b1 : (List (List UInt8))) (c15 : ¬ ((↑k9 : Int) < (1 : Int))) : Does Try.prog G0 1 (bodyAt Try.prog 40 [1, 0, 1, 0, 0]) (store_putDetection_L1_H  (v0, k9, b1)) (.exit 0) (S 18 [(0, .lst (u8s v0) v0.length)] [{ c := (fl e_str b1), e := 9, ext := false, fz := 0, pl := true, o := false }]) :=
  Does.of_viewM 1 400 [.op none .a, .br false] [0] (ps := [((decide ((↑k9 : Int) < (1 : Int))) = false)]) (by kernel_rfl) (by kernel_rfl) (ok1 (decide_eq_false c15))
def store_putDetection_L1_X  : ((List UInt8) × (List (List UInt8))) → AEx := fun o => (.exit 0)
def store_putDetection_L1_E  : ((List UInt8) × (List (List UInt8))) → St := fun o => S 18 [(0, .lst (u8s o.1) o.1.length)] [{ c := (fl e_str o.2), e := 9, ext := false, fz := 0, pl := true, o := false }]
theorem store_putDetection_L1_does  {s : ((List UInt8) × Nat × (List (List UInt8)))} {r : ((List UInt8) × (List (List UInt8)))} (h : lp (store_putDetection_L1_step ) s = some r) : Does Try.prog G0 1 (.loop (bodyAt Try.prog 40 [1, 0, 1, 0, 0])) (store_putDetection_L1_H  s) (store_putDetection_L1_X  r) (store_putDetection_L1_E  r) := by
  refine Does.lp (H := store_putDetection_L1_H ) (X := store_putDetection_L1_X ) (E := store_putDetection_L1_E ) (fun s s2 h => ?_) (fun s r h => ?_) h
  · obtain ⟨v0, k9, b1⟩ := s
    unfold store_putDetection_L1_step at h
    try dsimp only at h
    rcases ite_some h with ⟨c15, h⟩ | ⟨c15, h⟩
    · obtain ⟨x16, h17, h⟩ := bind_some h
      obtain ⟨r18, h19, h⟩ := bind_some h
      obtain ⟨h20, h⟩ := guard_some h
      simp only [Option.some.injEq, Sum.inl.injEq] at h
      subst h
      exact store_putDetection_L1_0 v0 k9 b1 c15 x16 h17 r18 h19 h20
    · simp at h
  · obtain ⟨v0, k9, b1⟩ := s
    unfold store_putDetection_L1_step at h
    try dsimp only at h
    rcases ite_some h with ⟨c15, h⟩ | ⟨c15, h⟩
    · obtain ⟨x16, h17, h⟩ := bind_some h
      obtain ⟨r18, h19, h⟩ := bind_some h
      obtain ⟨h20, h⟩ := guard_some h
      simp at h
    · simp only [Option.some.injEq, Sum.inr.injEq] at h
      subst h
      exact ⟨store_putDetection_L1_1 v0 k9 b1 c15, by intro q; cases q⟩
noncomputable def store_putDetection_L23_step  : ((List UInt8) × Nat × (List (List UInt8))) → Option (((List UInt8) × Nat × (List (List UInt8))) ⊕ ((List UInt8) × (List (List UInt8))))
  | (v0, k9, b4) =>
    if (↑k9 : Int) < (2 : Int) then
      (b4[k9]?).bind fun x38 =>
      (codec_PutText v0 x38).bind fun r40 =>
      if InR .i64 ((↑k9 : Int) + 1) then
        some (Sum.inl (r40, (k9 + 1), b4))
      else none
    else
      some (Sum.inr (v0, b4))
def store_putDetection_L23_H  : ((List UInt8) × Nat × (List (List UInt8))) → St := fun (s : ((List UInt8) × Nat × (List (List UInt8)))) => S 18 [(0, .lst (u8s s.1) s.1.length), (7, .sl 0 0 s.2.2.length s.2.2.length true 1), (8, .int .i64 2), (9, .int .i64 (↑s.2.1 : Int))] [{ c := (fl e_str s.2.2), e := 9, ext := false, fz := 0, pl := true, o := false }]
theorem store_putDetection_L23_0  (v0 : (List UInt8)) (k9 : Nat) (b4 : (List (List UInt8))) (c37 : (↑k9 : Int) < (2 : Int)) (x38 : (List UInt8)) (h39 : b4[k9]? = some x38) (r40 : (List UInt8)) (h41 : codec_PutText v0 x38 = some r40) (h42 : InR .i64 ((↑k9 : Int) + 1)) : Does Try.prog G0 1 (bodyAt Try.prog 40 [1, 0, 1, 0, 0]) (store_putDetection_L23_H  (v0, k9, b4)) .normal (S 18 [(0, .lst (u8s r40) r40.length), (7, .sl 0 0 b4.length b4.length true 1), (8, .int .i64 2), (9, .int .i64 ((↑k9 : Int) + 1))] [{ c := (fl e_str b4), e := 9, ext := false, fz := 0, pl := true, o := false }]) :=
  Does.of_viewM 1 400 ((.op none .a) :: (.br true) :: (.op none (.i k9)) :: (.op none (.v [.str x38])) :: (cs 3 [.ret none [.lst (u8s v0) v0.length, .str x38] (.vec 0 r40.length 1) [{ c := (u8s r40), e := 5, ext := true, fz := 0, pl := true, o := true }], .op none .c, .op none .w, .op none .c, .tr (.frz [.t 0, .t 15] (u8s r40) r40.length)])) [0] (ps := [((decide ((↑k9 : Int) < (2 : Int))) = true), ((↑k9 : Int) = ((k9 : Nat) : Int) ∧ k9 < b4.length), (sub (fl e_str b4) k9 1 = [.str x38]), ((.lst (u8s v0) v0.length : AV) = .lst (u8s v0) v0.length), ((.str x38 : AV) = .str x38), (Ret Try.prog G0 72 [.lst (u8s v0) v0.length, .str x38] (.vec 0 r40.length 1) [{ c := (u8s r40), e := 5, ext := true, fz := 0, pl := true, o := true }]), (IntKind.min .i64 ≤ ((↑k9 : Int) + 1) ∧ ((↑k9 : Int) + 1) ≤ IntKind.max .i64), (1 = 1 ∧ (u8s r40) = (u8s r40) ∧ r40.length = r40.length ∧ List.length ((u8s r40) : List AV) = r40.length), (1 = 1 ∧ (u8s r40) = (u8s r40) ∧ r40.length = r40.length ∧ List.length ((u8s r40) : List AV) = r40.length)]) (by kernel_rfl) (by kernel_rfl) ⟨(decide_eq_true c37), ⟨rfl, get_lt h39⟩, (fl_sub1 (f := e_str) (fun _ => rfl) h39 rfl), rfl, rfl, (codec_PutText_ret v0 x38 r40 h41), h42, ⟨rfl, rfl, rfl, u8s_length⟩, ok1 ⟨rfl, rfl, rfl, u8s_length⟩⟩
theorem store_putDetection_L23_1  (v0 : (List UInt8)) (k9 : Nat) (b4 : (List (List UInt8))) (c37 : ¬ ((↑k9 : Int) < (2 : Int))) : Does Try.prog G0 1 (bodyAt Try.prog 40 [1, 0, 1, 0, 0]) (store_putDetection_L23_H  (v0, k9, b4)) (.exit 0) (S 18 [(0, .lst (u8s v0) v0.length)] [{ c := (fl e_str b4), e := 9, ext := false, fz := 0, pl := true, o := false }]) :=
  Does.of_viewM 1 400 [.op none .a, .br false] [0] (ps := [((decide ((↑k9 : Int) < (2 : Int))) = false)]) (by kernel_rfl) (by kernel_rfl) (ok1 (decide_eq_false c37))
def store_putDetection_L23_X  : ((List UInt8) × (List (List UInt8))) → AEx := fun o => (.exit 0)
def store_putDetection_L23_E  : ((List UInt8) × (List (List UInt8))) → St := fun o => S 18 [(0, .lst (u8s o.1) o.1.length)] [{ c := (fl e_str o.2), e := 9, ext := false, fz := 0, pl := true, o := false }]
theorem store_putDetection_L23_does  {s : ((List UInt8) × Nat × (List (List UInt8)))} {r : ((List UInt8) × (List (List UInt8)))} (h : lp (store_putDetection_L23_step ) s = some r) : Does Try.prog G0 1 (.loop (bodyAt Try.prog 40 [1, 0, 1, 0, 0])) (store_putDetection_L23_H  s) (store_putDetection_L23_X  r) (store_putDetection_L23_E  r) := by
  refine Does.lp (H := store_putDetection_L23_H ) (X := store_putDetection_L23_X ) (E := store_putDetection_L23_E ) (fun s s2 h => ?_) (fun s r h => ?_) h
  · obtain ⟨v0, k9, b4⟩ := s
    unfold store_putDetection_L23_step at h
    try dsimp only at h
    rcases ite_some h with ⟨c37, h⟩ | ⟨c37, h⟩
    · obtain ⟨x38, h39, h⟩ := bind_some h
      obtain ⟨r40, h41, h⟩ := bind_some h
      obtain ⟨h42, h⟩ := guard_some h
      simp only [Option.some.injEq, Sum.inl.injEq] at h
      subst h
      exact store_putDetection_L23_0 v0 k9 b4 c37 x38 h39 r40 h41 h42
    · simp at h
  · obtain ⟨v0, k9, b4⟩ := s
    unfold store_putDetection_L23_step at h
    try dsimp only at h
    rcases ite_some h with ⟨c37, h⟩ | ⟨c37, h⟩
    · obtain ⟨x38, h39, h⟩ := bind_some h
      obtain ⟨r40, h41, h⟩ := bind_some h
      obtain ⟨h42, h⟩ := guard_some h
      simp at h
    · simp only [Option.some.injEq, Sum.inr.injEq] at h
      subst h
      exact ⟨store_putDetection_L23_1 v0 k9 b4 c37, by intro q; cases q⟩
noncomputable def store_putDetection (b_0 : (List UInt8)) (d_1 : Tapi_Detection) : Option (List UInt8) :=
  (lp (store_putDetection_L1_step) (b_0, (0 : Nat), ([d_1.Device] : (List (List UInt8))))).bind fun o1 =>
  (store_putInts o1.1 [d_1.Seq, d_1.Time]).bind fun r21 =>
  (lp (store_putDetection_L23_step) (r21, (0 : Nat), ([d_1.Tag, d_1.Plate] : (List (List UInt8))))).bind fun o23 =>
  (store_putInts o23.1 [d_1.Axles, d_1.Score]).bind fun r43 =>
  some r43
theorem store_putDetection_0 (b_0 : (List UInt8)) (d_1 : Tapi_Detection) (o1 : ((List UInt8) × (List (List UInt8)))) (hl1 : lp (store_putDetection_L1_step) (b_0, (0 : Nat), ([d_1.Device] : (List (List UInt8)))) = some o1) (r21 : (List UInt8)) (h22 : store_putInts o1.1 [d_1.Seq, d_1.Time] = some r21) (o23 : ((List UInt8) × (List (List UInt8)))) (hl23 : lp (store_putDetection_L23_step) (r21, (0 : Nat), ([d_1.Tag, d_1.Plate] : (List (List UInt8)))) = some o23) (r43 : (List UInt8)) (h44 : store_putInts o23.1 [d_1.Axles, d_1.Score] = some r43) : Ret Try.prog G0 39 [.lst (u8s b_0) b_0.length, .agg (Tapi_Detection.enc d_1)] (.lst (u8s r43) r43.length) [] :=
  Ret.of_view 400 (cs 6 ((.draw [[1]]) :: (cs 5 ((.fcut 1 (.exit 0) [(0, .lst (u8s o1.1) o1.1.length)] [{ c := (fl e_str o1.2), e := 9, ext := false, fz := 0, pl := true, o := false }] [1] [(0, .lst (u8s b_0) b_0.length), (7, .sl 0 0 (([d_1.Device] : (List (List UInt8))).length) (([d_1.Device] : (List (List UInt8))).length) true 1), (8, .int .i64 1), (9, .int .i64 (↑(0 : Nat) : Int))] [{ c := (fl e_str ([d_1.Device] : (List (List UInt8)))), e := 9, ext := false, fz := 0, pl := true, o := false }]) :: (cs 7 ((.tr (.frz [.t 14] [.int .i64 d_1.Seq, .int .i64 d_1.Time] 2)) :: (.ret none [.lst (u8s o1.1) o1.1.length, .lst [.int .i64 d_1.Seq, .int .i64 d_1.Time] 2] (.lst (u8s r21) r21.length) []) :: (cs 7 ((.draw [[4]]) :: (cs 5 ((.fcut 1 (.exit 0) [(0, .lst (u8s o23.1) o23.1.length)] [{ c := (fl e_str o23.2), e := 9, ext := false, fz := 0, pl := true, o := false }] [4] [(0, .lst (u8s r21) r21.length), (7, .sl 0 0 (([d_1.Tag, d_1.Plate] : (List (List UInt8))).length) (([d_1.Tag, d_1.Plate] : (List (List UInt8))).length) true 1), (8, .int .i64 2), (9, .int .i64 (↑(0 : Nat) : Int))] [{ c := (fl e_str ([d_1.Tag, d_1.Plate] : (List (List UInt8)))), e := 9, ext := false, fz := 0, pl := true, o := false }]) :: (cs 7 [.tr (.frz [.t 27] [.int .i64 d_1.Axles, .int .i64 d_1.Score] 2), .ret none [.lst (u8s o23.1) o23.1.length, .lst [.int .i64 d_1.Axles, .int .i64 d_1.Score] 2] (.lst (u8s r43) r43.length) [], .op none .c]))))))))))) [] (ps := [((.lst (u8s b_0) b_0.length : AV) = .lst (u8s b_0) b_0.length), ((.sl 1 0 1 1 true 1 : AV) = .sl 1 0 (([d_1.Device] : (List (List UInt8))).length) (([d_1.Device] : (List (List UInt8))).length) true 1), ((.int .i64 1 : AV) = .int .i64 1), ((.int .i64 0 : AV) = .int .i64 (↑(0 : Nat) : Int)), (({ c := [.str d_1.Device], e := 9, ext := false, fz := 0, pl := true, o := false } : Blk) = renB [1] { c := (fl e_str ([d_1.Device] : (List (List UInt8)))), e := 9, ext := false, fz := 0, pl := true, o := false }), (Does Try.prog G0 1 (.loop (bodyAt Try.prog 40 [1, 0, 1, 0, 0])) (S 18 [(0, .lst (u8s b_0) b_0.length), (7, .sl 0 0 (([d_1.Device] : (List (List UInt8))).length) (([d_1.Device] : (List (List UInt8))).length) true 1), (8, .int .i64 1), (9, .int .i64 (↑(0 : Nat) : Int))] [{ c := (fl e_str ([d_1.Device] : (List (List UInt8)))), e := 9, ext := false, fz := 0, pl := true, o := false }]) (.exit 0) (S 18 [(0, .lst (u8s o1.1) o1.1.length)] [{ c := (fl e_str o1.2), e := 9, ext := false, fz := 0, pl := true, o := false }])), (3 = 3 ∧ sub [.int .i64 d_1.Seq, .int .i64 d_1.Time] 0 2 = [.int .i64 d_1.Seq, .int .i64 d_1.Time] ∧ 2 = 2 ∧ 0 + 2 ≤ List.length ([.int .i64 d_1.Seq, .int .i64 d_1.Time] : List AV) ∧ 2 ≤ 2), ((.lst (u8s o1.1) o1.1.length : AV) = .lst (u8s o1.1) o1.1.length), ((.lst [.int .i64 d_1.Seq, .int .i64 d_1.Time] 2 : AV) = .lst [.int .i64 d_1.Seq, .int .i64 d_1.Time] 2), (Ret Try.prog G0 38 [.lst (u8s o1.1) o1.1.length, .lst [.int .i64 d_1.Seq, .int .i64 d_1.Time] 2] (.lst (u8s r21) r21.length) []), ((.lst (u8s r21) r21.length : AV) = .lst (u8s r21) r21.length), ((.sl 4 0 2 2 true 1 : AV) = .sl 4 0 (([d_1.Tag, d_1.Plate] : (List (List UInt8))).length) (([d_1.Tag, d_1.Plate] : (List (List UInt8))).length) true 1), ((.int .i64 2 : AV) = .int .i64 2), ((.int .i64 0 : AV) = .int .i64 (↑(0 : Nat) : Int)), (({ c := [.str d_1.Tag, .str d_1.Plate], e := 9, ext := false, fz := 0, pl := true, o := false } : Blk) = renB [4] { c := (fl e_str ([d_1.Tag, d_1.Plate] : (List (List UInt8)))), e := 9, ext := false, fz := 0, pl := true, o := false }), (Does Try.prog G0 1 (.loop (bodyAt Try.prog 40 [1, 0, 1, 0, 0])) (S 18 [(0, .lst (u8s r21) r21.length), (7, .sl 0 0 (([d_1.Tag, d_1.Plate] : (List (List UInt8))).length) (([d_1.Tag, d_1.Plate] : (List (List UInt8))).length) true 1), (8, .int .i64 2), (9, .int .i64 (↑(0 : Nat) : Int))] [{ c := (fl e_str ([d_1.Tag, d_1.Plate] : (List (List UInt8)))), e := 9, ext := false, fz := 0, pl := true, o := false }]) (.exit 0) (S 18 [(0, .lst (u8s o23.1) o23.1.length)] [{ c := (fl e_str o23.2), e := 9, ext := false, fz := 0, pl := true, o := false }])), (6 = 6 ∧ sub [.int .i64 d_1.Axles, .int .i64 d_1.Score] 0 2 = [.int .i64 d_1.Axles, .int .i64 d_1.Score] ∧ 2 = 2 ∧ 0 + 2 ≤ List.length ([.int .i64 d_1.Axles, .int .i64 d_1.Score] : List AV) ∧ 2 ≤ 2), ((.lst (u8s o23.1) o23.1.length : AV) = .lst (u8s o23.1) o23.1.length), ((.lst [.int .i64 d_1.Axles, .int .i64 d_1.Score] 2 : AV) = .lst [.int .i64 d_1.Axles, .int .i64 d_1.Score] 2), (Ret Try.prog G0 38 [.lst (u8s o23.1) o23.1.length, .lst [.int .i64 d_1.Axles, .int .i64 d_1.Score] 2] (.lst (u8s r43) r43.length) [])]) (by kernel_rfl) (by kernel_rfl) ⟨rfl, rfl, rfl, rfl, rfl, (store_putDetection_L1_does hl1), ⟨rfl, rfl, rfl, Nat.le_of_ble_eq_true rfl, Nat.le_of_ble_eq_true rfl⟩, rfl, rfl, (store_putInts_ret o1.1 [d_1.Seq, d_1.Time] r21 h22), rfl, rfl, rfl, rfl, rfl, (store_putDetection_L23_does hl23), ⟨rfl, rfl, rfl, Nat.le_of_ble_eq_true rfl, Nat.le_of_ble_eq_true rfl⟩, rfl, rfl, ok1 (store_putInts_ret o23.1 [d_1.Axles, d_1.Score] r43 h44)⟩
theorem store_putDetection_ret (b_0 : (List UInt8)) (d_1 : Tapi_Detection) (r : (List UInt8)) (h : store_putDetection b_0 d_1 = some r) : Ret Try.prog G0 39 [.lst (u8s b_0) b_0.length, .agg (Tapi_Detection.enc d_1)] (.lst (u8s r) r.length) [] := by
  unfold store_putDetection at h
  obtain ⟨o1, hl1, h⟩ := bind_some h
  obtain ⟨r21, h22, h⟩ := bind_some h
  obtain ⟨o23, hl23, h⟩ := bind_some h
  obtain ⟨r43, h44, h⟩ := bind_some h
  simp only [Option.some.injEq] at h
  subst h
  exact store_putDetection_0 b_0 d_1 o1 hl1 r21 h22 o23 hl23 r43 h44
noncomputable def store_putTexts_L1_step (l_1 : (List (List UInt8))) : ((List UInt8) × Nat) → Option (((List UInt8) × Nat) ⊕ (List UInt8))
  | (v0, k9) =>
    if (↑k9 : Int) < (↑l_1.length : Int) then
      (l_1[k9]?).bind fun x9 =>
      (codec_PutText v0 x9).bind fun r11 =>
      if InR .i64 ((↑k9 : Int) + 1) then
        some (Sum.inl (r11, (k9 + 1)))
      else none
    else
      some (Sum.inr v0)
def store_putTexts_L1_H (l_1 : (List (List UInt8))) : ((List UInt8) × Nat) → St := fun (s : ((List UInt8) × Nat)) => S 18 [(0, .lst (u8s s.1) s.1.length), (7, .lst (fl e_str l_1) l_1.length), (8, .int .i64 (↑l_1.length : Int)), (9, .int .i64 (↑s.2 : Int))] []
theorem store_putTexts_L1_0 (l_1 : (List (List UInt8))) (v0 : (List UInt8)) (k9 : Nat) (c8 : (↑k9 : Int) < (↑l_1.length : Int)) (x9 : (List UInt8)) (h10 : l_1[k9]? = some x9) (r11 : (List UInt8)) (h12 : codec_PutText v0 x9 = some r11) (h13 : InR .i64 ((↑k9 : Int) + 1)) : Does Try.prog G0 0 (bodyAt Try.prog 40 [1, 0, 1, 0, 0]) (store_putTexts_L1_H l_1 (v0, k9)) .normal (S 18 [(0, .lst (u8s r11) r11.length), (7, .lst (fl e_str l_1) l_1.length), (8, .int .i64 (↑l_1.length : Int)), (9, .int .i64 ((↑k9 : Int) + 1))] []) :=
  Does.of_viewM 0 400 ((.op none .a) :: (.br true) :: (.op none (.i k9)) :: (.op none (.v [.str x9])) :: (cs 3 [.ret none [.lst (u8s v0) v0.length, .str x9] (.vec 0 r11.length 1) [{ c := (u8s r11), e := 5, ext := true, fz := 0, pl := true, o := true }], .op none .c, .op none .w, .op none .c, .tr (.frz [.t 0, .t 15] (u8s r11) r11.length)])) [] (ps := [((decide ((↑k9 : Int) < (↑l_1.length : Int))) = true), ((↑k9 : Int) = ((k9 : Nat) : Int) ∧ k9 < l_1.length), ((fl e_str l_1) ≠ []), (sub (fl e_str l_1) k9 1 = [.str x9]), ((.lst (u8s v0) v0.length : AV) = .lst (u8s v0) v0.length), ((.str x9 : AV) = .str x9), (Ret Try.prog G0 72 [.lst (u8s v0) v0.length, .str x9] (.vec 0 r11.length 1) [{ c := (u8s r11), e := 5, ext := true, fz := 0, pl := true, o := true }]), (IntKind.min .i64 ≤ ((↑k9 : Int) + 1) ∧ ((↑k9 : Int) + 1) ≤ IntKind.max .i64), (0 = 0 ∧ (u8s r11) = (u8s r11) ∧ r11.length = r11.length ∧ List.length ((u8s r11) : List AV) = r11.length), (0 = 0 ∧ (u8s r11) = (u8s r11) ∧ r11.length = r11.length ∧ List.length ((u8s r11) : List AV) = r11.length)]) (by kernel_rfl) (by kernel_rfl) ⟨(decide_eq_true c8), ⟨rfl, get_lt h10⟩, (fl_ne (f := e_str) (z := 0) (fun _ => rfl) h10), (fl_sub1 (f := e_str) (fun _ => rfl) h10 rfl), rfl, rfl, (codec_PutText_ret v0 x9 r11 h12), h13, ⟨rfl, rfl, rfl, u8s_length⟩, ok1 ⟨rfl, rfl, rfl, u8s_length⟩⟩
theorem store_putTexts_L1_1 (l_1 : (List (List UInt8))) (v0 : (List UInt8)) (k9 : Nat) (c8 : ¬ ((↑k9 : Int) < (↑l_1.length : Int))) : Does Try.prog G0 0 (bodyAt Try.prog 40 [1, 0, 1, 0, 0]) (store_putTexts_L1_H l_1 (v0, k9)) (.exit 0) (S 18 [(0, .lst (u8s v0) v0.length)] []) :=
  Does.of_viewM 0 400 [.op none .a, .br false] [] (ps := [((decide ((↑k9 : Int) < (↑l_1.length : Int))) = false)]) (by kernel_rfl) (by kernel_rfl) (ok1 (decide_eq_false c8))
def store_putTexts_L1_X (l_1 : (List (List UInt8))) : (List UInt8) → AEx := fun o => (.exit 0)
def store_putTexts_L1_E (l_1 : (List (List UInt8))) : (List UInt8) → St := fun o => S 18 [(0, .lst (u8s o) o.length)] []
theorem store_putTexts_L1_does (l_1 : (List (List UInt8))) {s : ((List UInt8) × Nat)} {r : (List UInt8)} (h : lp (store_putTexts_L1_step l_1) s = some r) : Does Try.prog G0 0 (.loop (bodyAt Try.prog 40 [1, 0, 1, 0, 0])) (store_putTexts_L1_H l_1 s) (store_putTexts_L1_X l_1 r) (store_putTexts_L1_E l_1 r) := by
  refine Does.lp (H := store_putTexts_L1_H l_1) (X := store_putTexts_L1_X l_1) (E := store_putTexts_L1_E l_1) (fun s s2 h => ?_) (fun s r h => ?_) h
  · obtain ⟨v0, k9⟩ := s
    unfold store_putTexts_L1_step at h
    try dsimp only at h
    rcases ite_some h with ⟨c8, h⟩ | ⟨c8, h⟩
    · obtain ⟨x9, h10, h⟩ := bind_some h
      obtain ⟨r11, h12, h⟩ := bind_some h
      obtain ⟨h13, h⟩ := guard_some h
      simp only [Option.some.injEq, Sum.inl.injEq] at h
      subst h
      exact store_putTexts_L1_0 l_1 v0 k9 c8 x9 h10 r11 h12 h13
    · simp at h
  · obtain ⟨v0, k9⟩ := s
    unfold store_putTexts_L1_step at h
    try dsimp only at h
    rcases ite_some h with ⟨c8, h⟩ | ⟨c8, h⟩
    · obtain ⟨x9, h10, h⟩ := bind_some h
      obtain ⟨r11, h12, h⟩ := bind_some h
      obtain ⟨h13, h⟩ := guard_some h
      simp at h
    · simp only [Option.some.injEq, Sum.inr.injEq] at h
      subst h
      exact ⟨store_putTexts_L1_1 l_1 v0 k9 c8, by intro q; cases q⟩
noncomputable def store_putTexts (b_0 : (List UInt8)) (l_1 : (List (List UInt8))) : Option (List UInt8) :=
  (lp (store_putTexts_L1_step l_1) (b_0, (0 : Nat))).bind fun o1 =>
  some o1
theorem store_putTexts_0 (b_0 : (List UInt8)) (l_1 : (List (List UInt8))) (o1 : (List UInt8)) (hl1 : lp (store_putTexts_L1_step l_1) (b_0, (0 : Nat)) = some o1) : Ret Try.prog G0 40 [.lst (u8s b_0) b_0.length, .lst (fl e_str l_1) l_1.length] (.lst (u8s o1) o1.length) [] :=
  Ret.of_view 400 (cs 4 ((.fcut 0 (.exit 0) [(0, .lst (u8s o1) o1.length)] [] [] [(0, .lst (u8s b_0) b_0.length), (7, .lst (fl e_str l_1) l_1.length), (8, .int .i64 (↑l_1.length : Int)), (9, .int .i64 (↑(0 : Nat) : Int))] []) :: (cs 2 []))) [] (ps := [((.lst (u8s b_0) b_0.length : AV) = .lst (u8s b_0) b_0.length), ((.lst (fl e_str l_1) l_1.length : AV) = .lst (fl e_str l_1) l_1.length), ((.int .i64 (↑l_1.length : Int) : AV) = .int .i64 (↑l_1.length : Int)), ((.int .i64 0 : AV) = .int .i64 (↑(0 : Nat) : Int)), (Does Try.prog G0 0 (.loop (bodyAt Try.prog 40 [1, 0, 1, 0, 0])) (S 18 [(0, .lst (u8s b_0) b_0.length), (7, .lst (fl e_str l_1) l_1.length), (8, .int .i64 (↑l_1.length : Int)), (9, .int .i64 (↑(0 : Nat) : Int))] []) (.exit 0) (S 18 [(0, .lst (u8s o1) o1.length)] []))]) (by kernel_rfl) (by kernel_rfl) ⟨rfl, rfl, rfl, rfl, ok1 (store_putTexts_L1_does l_1 hl1)⟩
theorem store_putTexts_ret (b_0 : (List UInt8)) (l_1 : (List (List UInt8))) (r : (List UInt8)) (h : store_putTexts b_0 l_1 = some r) : Ret Try.prog G0 40 [.lst (u8s b_0) b_0.length, .lst (fl e_str l_1) l_1.length] (.lst (u8s r) r.length) [] := by
  unfold store_putTexts at h
  obtain ⟨o1, hl1, h⟩ := bind_some h
  simp only [Option.some.injEq] at h
  subst h
  exact store_putTexts_0 b_0 l_1 o1 hl1
noncomputable def store_putBooks_L36_step (books_1 : Tapi_Books) (v0 : (List UInt8)) (k19 : Nat) (x30 : Tapi_Entry) : ((List UInt8) × Nat) → Option (((List UInt8) × Nat) ⊕ (List UInt8))
  | (v7, k37) =>
    if (↑k37 : Int) < (↑x30.Posts.length : Int) then
      (x30.Posts[k37]?).bind fun x46 =>
      (store_putTexts v7 [x46.Account]).bind fun r48 =>
      (store_putInts r48 [x46.Cents]).bind fun r50 =>
      if InR .i64 ((↑k37 : Int) + 1) then
        some (Sum.inl (r50, (k37 + 1)))
      else none
    else
      some (Sum.inr v7)
def store_putBooks_L36_H (books_1 : Tapi_Books) (v0 : (List UInt8)) (k19 : Nat) (x30 : Tapi_Entry) : ((List UInt8) × Nat) → St := fun (s : ((List UInt8) × Nat)) => S 105 [(0, .lst (u8s v0) v0.length), (3, .ptr 0 0), (7, .lst (u8s s.1) s.1.length), (17, .lst (fl Tapi_Entry.enc books_1.Ledger.Entries) books_1.Ledger.Entries.length), (18, .int .i64 (↑books_1.Ledger.Entries.length : Int)), (19, .int .i64 (↑k19 : Int)), (35, .lst (fl Tapi_Post.enc x30.Posts) x30.Posts.length), (36, .int .i64 (↑x30.Posts.length : Int)), (37, .int .i64 (↑s.2 : Int))] [{ c := (Tapi_Books.enc books_1), e := 61, ext := false, fz := 0, pl := true, o := false }]
theorem store_putBooks_L36_0 (books_1 : Tapi_Books) (v0 : (List UInt8)) (k19 : Nat) (x30 : Tapi_Entry) (v7 : (List UInt8)) (k37 : Nat) (c45 : (↑k37 : Int) < (↑x30.Posts.length : Int)) (x46 : Tapi_Post) (h47 : x30.Posts[k37]? = some x46) (r48 : (List UInt8)) (h49 : store_putTexts v7 [x46.Account] = some r48) (r50 : (List UInt8)) (h51 : store_putInts r48 [x46.Cents] = some r50) (h52 : InR .i64 ((↑k37 : Int) + 1)) : Does Try.prog G0 1 (bodyAt Try.prog 41 [1, 0, 1, 0, 0, 1, 1, 0, 0, 1, 1, 0, 1, 0, 0]) (store_putBooks_L36_H books_1 v0 k19 x30 (v7, k37)) .normal (S 105 [(0, .lst (u8s v0) v0.length), (3, .ptr 0 0), (7, .lst (u8s r50) r50.length), (17, .lst (fl Tapi_Entry.enc books_1.Ledger.Entries) books_1.Ledger.Entries.length), (18, .int .i64 (↑books_1.Ledger.Entries.length : Int)), (19, .int .i64 (↑k19 : Int)), (35, .lst (fl Tapi_Post.enc x30.Posts) x30.Posts.length), (36, .int .i64 (↑x30.Posts.length : Int)), (37, .int .i64 ((↑k37 : Int) + 1))] [{ c := (Tapi_Books.enc books_1), e := 61, ext := false, fz := 0, pl := true, o := false }]) :=
  Does.of_viewM 1 400 ((.op none .a) :: (.br true) :: (.op none (.i k37)) :: (.op none (.v [.str x46.Account, .int .i64 x46.Cents])) :: (cs 6 ((.tr (.frz [.t 44] [.str x46.Account] 1)) :: (.ret none [.lst (u8s v7) v7.length, .lst [.str x46.Account] 1] (.lst (u8s r48) r48.length) []) :: (cs 3 [.tr (.frz [.t 48] [.int .i64 x46.Cents] 1), .ret none [.lst (u8s r48) r48.length, .lst [.int .i64 x46.Cents] 1] (.lst (u8s r50) r50.length) [], .op none .c, .op none .w, .op none .c])))) [0] (ps := [((decide ((↑k37 : Int) < (↑x30.Posts.length : Int))) = true), ((↑k37 : Int) = ((k37 : Nat) : Int) ∧ k37 < x30.Posts.length), ((fl Tapi_Post.enc x30.Posts) ≠ []), (sub (fl Tapi_Post.enc x30.Posts) (k37 * 2) 2 = [.str x46.Account, .int .i64 x46.Cents]), (2 = 2 ∧ sub [.str x46.Account] 0 1 = [.str x46.Account] ∧ 1 = 1 ∧ 0 + 1 ≤ List.length ([.str x46.Account] : List AV) ∧ 1 ≤ 1), ((.lst (u8s v7) v7.length : AV) = .lst (u8s v7) v7.length), ((.lst [.str x46.Account] 1 : AV) = .lst [.str x46.Account] 1), (Ret Try.prog G0 40 [.lst (u8s v7) v7.length, .lst [.str x46.Account] 1] (.lst (u8s r48) r48.length) []), (3 = 3 ∧ sub [.int .i64 x46.Cents] 0 1 = [.int .i64 x46.Cents] ∧ 1 = 1 ∧ 0 + 1 ≤ List.length ([.int .i64 x46.Cents] : List AV) ∧ 1 ≤ 1), ((.lst (u8s r48) r48.length : AV) = .lst (u8s r48) r48.length), ((.lst [.int .i64 x46.Cents] 1 : AV) = .lst [.int .i64 x46.Cents] 1), (Ret Try.prog G0 38 [.lst (u8s r48) r48.length, .lst [.int .i64 x46.Cents] 1] (.lst (u8s r50) r50.length) []), (IntKind.min .i64 ≤ ((↑k37 : Int) + 1) ∧ ((↑k37 : Int) + 1) ≤ IntKind.max .i64)]) (by kernel_rfl) (by kernel_rfl) ⟨(decide_eq_true c45), ⟨rfl, get_lt h47⟩, (fl_ne (f := Tapi_Post.enc) (z := 1) (fun _ => rfl) h47), (fl_sub0 (f := Tapi_Post.enc) (z := 2) (j := k37) (fun _ => rfl) h47 rfl), ⟨rfl, rfl, rfl, Nat.le_of_ble_eq_true rfl, Nat.le_of_ble_eq_true rfl⟩, rfl, rfl, (store_putTexts_ret v7 [x46.Account] r48 h49), ⟨rfl, rfl, rfl, Nat.le_of_ble_eq_true rfl, Nat.le_of_ble_eq_true rfl⟩, rfl, rfl, (store_putInts_ret r48 [x46.Cents] r50 h51), ok1 h52⟩
theorem store_putBooks_L36_1 (books_1 : Tapi_Books) (v0 : (List UInt8)) (k19 : Nat) (x30 : Tapi_Entry) (v7 : (List UInt8)) (k37 : Nat) (c45 : ¬ ((↑k37 : Int) < (↑x30.Posts.length : Int))) : Does Try.prog G0 1 (bodyAt Try.prog 41 [1, 0, 1, 0, 0, 1, 1, 0, 0, 1, 1, 0, 1, 0, 0]) (store_putBooks_L36_H books_1 v0 k19 x30 (v7, k37)) (.exit 2) (S 105 [(0, .lst (u8s v0) v0.length), (3, .ptr 0 0), (7, .lst (u8s v7) v7.length), (17, .lst (fl Tapi_Entry.enc books_1.Ledger.Entries) books_1.Ledger.Entries.length), (18, .int .i64 (↑books_1.Ledger.Entries.length : Int)), (19, .int .i64 (↑k19 : Int))] [{ c := (Tapi_Books.enc books_1), e := 61, ext := false, fz := 0, pl := true, o := false }]) :=
  Does.of_viewM 1 400 [.op none .a, .br false] [0] (ps := [((decide ((↑k37 : Int) < (↑x30.Posts.length : Int))) = false)]) (by kernel_rfl) (by kernel_rfl) (ok1 (decide_eq_false c45))
def store_putBooks_L36_X (books_1 : Tapi_Books) (v0 : (List UInt8)) (k19 : Nat) (x30 : Tapi_Entry) : (List UInt8) → AEx := fun o => (.exit 2)
def store_putBooks_L36_E (books_1 : Tapi_Books) (v0 : (List UInt8)) (k19 : Nat) (x30 : Tapi_Entry) : (List UInt8) → St := fun o => S 105 [(0, .lst (u8s v0) v0.length), (3, .ptr 0 0), (7, .lst (u8s o) o.length), (17, .lst (fl Tapi_Entry.enc books_1.Ledger.Entries) books_1.Ledger.Entries.length), (18, .int .i64 (↑books_1.Ledger.Entries.length : Int)), (19, .int .i64 (↑k19 : Int))] [{ c := (Tapi_Books.enc books_1), e := 61, ext := false, fz := 0, pl := true, o := false }]
theorem store_putBooks_L36_does (books_1 : Tapi_Books) (v0 : (List UInt8)) (k19 : Nat) (x30 : Tapi_Entry) {s : ((List UInt8) × Nat)} {r : (List UInt8)} (h : lp (store_putBooks_L36_step books_1 v0 k19 x30) s = some r) : Does Try.prog G0 1 (.loop (bodyAt Try.prog 41 [1, 0, 1, 0, 0, 1, 1, 0, 0, 1, 1, 0, 1, 0, 0])) (store_putBooks_L36_H books_1 v0 k19 x30 s) (store_putBooks_L36_X books_1 v0 k19 x30 r) (store_putBooks_L36_E books_1 v0 k19 x30 r) := by
  refine Does.lp (H := store_putBooks_L36_H books_1 v0 k19 x30) (X := store_putBooks_L36_X books_1 v0 k19 x30) (E := store_putBooks_L36_E books_1 v0 k19 x30) (fun s s2 h => ?_) (fun s r h => ?_) h
  · obtain ⟨v7, k37⟩ := s
    unfold store_putBooks_L36_step at h
    try dsimp only at h
    rcases ite_some h with ⟨c45, h⟩ | ⟨c45, h⟩
    · obtain ⟨x46, h47, h⟩ := bind_some h
      obtain ⟨r48, h49, h⟩ := bind_some h
      obtain ⟨r50, h51, h⟩ := bind_some h
      obtain ⟨h52, h⟩ := guard_some h
      simp only [Option.some.injEq, Sum.inl.injEq] at h
      subst h
      exact store_putBooks_L36_0 books_1 v0 k19 x30 v7 k37 c45 x46 h47 r48 h49 r50 h51 h52
    · simp at h
  · obtain ⟨v7, k37⟩ := s
    unfold store_putBooks_L36_step at h
    try dsimp only at h
    rcases ite_some h with ⟨c45, h⟩ | ⟨c45, h⟩
    · obtain ⟨x46, h47, h⟩ := bind_some h
      obtain ⟨r48, h49, h⟩ := bind_some h
      obtain ⟨r50, h51, h⟩ := bind_some h
      obtain ⟨h52, h⟩ := guard_some h
      simp at h
    · simp only [Option.some.injEq, Sum.inr.injEq] at h
      subst h
      exact ⟨store_putBooks_L36_1 books_1 v0 k19 x30 v7 k37 c45, by intro q; cases q⟩
noncomputable def store_putBooks_L1_step (books_1 : Tapi_Books) : ((List UInt8) × Nat) → Option (((List UInt8) × Nat) ⊕ (List UInt8))
  | (v0, k19) =>
    if (↑k19 : Int) < (↑books_1.Ledger.Entries.length : Int) then
      (books_1.Ledger.Entries[k19]?).bind fun x30 =>
      (store_putTexts [] [x30.Key]).bind fun r32 =>
      (store_putInts r32 [x30.Time, (↑x30.Posts.length : Int)]).bind fun r34 =>
      (lp (store_putBooks_L36_step books_1 v0 k19 x30) (r34, (0 : Nat))).bind fun o36 =>
      (codec_PutFrame v0 5 o36).bind fun r53 =>
      if InR .i64 ((↑k19 : Int) + 1) then
        some (Sum.inl (r53, (k19 + 1)))
      else none
    else
      some (Sum.inr v0)
def store_putBooks_L1_H (books_1 : Tapi_Books) : ((List UInt8) × Nat) → St := fun (s : ((List UInt8) × Nat)) => S 105 [(0, .lst (u8s s.1) s.1.length), (3, .ptr 0 0), (17, .lst (fl Tapi_Entry.enc books_1.Ledger.Entries) books_1.Ledger.Entries.length), (18, .int .i64 (↑books_1.Ledger.Entries.length : Int)), (19, .int .i64 (↑s.2 : Int))] [{ c := (Tapi_Books.enc books_1), e := 61, ext := false, fz := 0, pl := true, o := false }]
theorem store_putBooks_L1_0 (books_1 : Tapi_Books) (v0 : (List UInt8)) (k19 : Nat) (c29 : (↑k19 : Int) < (↑books_1.Ledger.Entries.length : Int)) (x30 : Tapi_Entry) (h31 : books_1.Ledger.Entries[k19]? = some x30) (r32 : (List UInt8)) (h33 : store_putTexts [] [x30.Key] = some r32) (r34 : (List UInt8)) (h35 : store_putInts r32 [x30.Time, (↑x30.Posts.length : Int)] = some r34) (o36 : (List UInt8)) (hl36 : lp (store_putBooks_L36_step books_1 v0 k19 x30) (r34, (0 : Nat)) = some o36) (r53 : (List UInt8)) (h54 : codec_PutFrame v0 5 o36 = some r53) (h55 : InR .i64 ((↑k19 : Int) + 1)) : Does Try.prog G0 1 (bodyAt Try.prog 41 [1, 0, 1, 0, 0]) (store_putBooks_L1_H books_1 (v0, k19)) .normal (S 105 [(0, .lst (u8s r53) r53.length), (3, .ptr 0 0), (17, .lst (fl Tapi_Entry.enc books_1.Ledger.Entries) books_1.Ledger.Entries.length), (18, .int .i64 (↑books_1.Ledger.Entries.length : Int)), (19, .int .i64 ((↑k19 : Int) + 1))] [{ c := (Tapi_Books.enc books_1), e := 61, ext := false, fz := 0, pl := true, o := false }]) :=
  Does.of_viewM 1 400 ((.op none .a) :: (.br true) :: (.op none (.i k19)) :: (.op none (.v [.str x30.Key, .int .i64 x30.Time, .lst (fl Tapi_Post.enc x30.Posts) x30.Posts.length])) :: (cs 5 ((.tr (.frz [.t 25] [.str x30.Key] 1)) :: (.ret none [.lst [] 0, .lst [.str x30.Key] 1] (.lst (u8s r32) r32.length) []) :: (cs 6 ((.tr (.frz [.t 32] [.int .i64 x30.Time, .int .i64 (↑x30.Posts.length : Int)] 2)) :: (.ret none [.lst (u8s r32) r32.length, .lst [.int .i64 x30.Time, .int .i64 (↑x30.Posts.length : Int)] 2] (.lst (u8s r34) r34.length) []) :: (cs 5 ((.fcut 1 (.exit 2) [(0, .lst (u8s v0) v0.length), (3, .ptr 0 0), (7, .lst (u8s o36) o36.length), (17, .lst (fl Tapi_Entry.enc books_1.Ledger.Entries) books_1.Ledger.Entries.length), (18, .int .i64 (↑books_1.Ledger.Entries.length : Int)), (19, .int .i64 (↑k19 : Int))] [{ c := (Tapi_Books.enc books_1), e := 61, ext := false, fz := 0, pl := true, o := false }] [0] [(0, .lst (u8s v0) v0.length), (3, .ptr 0 0), (7, .lst (u8s r34) r34.length), (17, .lst (fl Tapi_Entry.enc books_1.Ledger.Entries) books_1.Ledger.Entries.length), (18, .int .i64 (↑books_1.Ledger.Entries.length : Int)), (19, .int .i64 (↑k19 : Int)), (35, .lst (fl Tapi_Post.enc x30.Posts) x30.Posts.length), (36, .int .i64 (↑x30.Posts.length : Int)), (37, .int .i64 (↑(0 : Nat) : Int))] [{ c := (Tapi_Books.enc books_1), e := 61, ext := false, fz := 0, pl := true, o := false }]) :: (cs 2 [.ret none [.lst (u8s v0) v0.length, .int .i64 5, .lst (u8s o36) o36.length] (.vec 0 r53.length 1) [{ c := (u8s r53), e := 5, ext := true, fz := 0, pl := true, o := true }], .op none .c, .op none .w, .op none .c, .tr (.frz [.t 0, .t 53] (u8s r53) r53.length)])))))))) [0] (ps := [((decide ((↑k19 : Int) < (↑books_1.Ledger.Entries.length : Int))) = true), ((↑k19 : Int) = ((k19 : Nat) : Int) ∧ k19 < books_1.Ledger.Entries.length), ((fl Tapi_Entry.enc books_1.Ledger.Entries) ≠ []), (sub (fl Tapi_Entry.enc books_1.Ledger.Entries) (k19 * 3) 3 = [.str x30.Key, .int .i64 x30.Time, .lst (fl Tapi_Post.enc x30.Posts) x30.Posts.length]), (2 = 2 ∧ sub [.str x30.Key] 0 1 = [.str x30.Key] ∧ 1 = 1 ∧ 0 + 1 ≤ List.length ([.str x30.Key] : List AV) ∧ 1 ≤ 1), ((.lst [.str x30.Key] 1 : AV) = .lst [.str x30.Key] 1), (Ret Try.prog G0 40 [.lst [] 0, .lst [.str x30.Key] 1] (.lst (u8s r32) r32.length) []), (3 = 3 ∧ sub [.int .i64 x30.Time, .int .i64 (↑x30.Posts.length : Int)] 0 2 = [.int .i64 x30.Time, .int .i64 (↑x30.Posts.length : Int)] ∧ 2 = 2 ∧ 0 + 2 ≤ List.length ([.int .i64 x30.Time, .int .i64 (↑x30.Posts.length : Int)] : List AV) ∧ 2 ≤ 2), ((.lst (u8s r32) r32.length : AV) = .lst (u8s r32) r32.length), ((.lst [.int .i64 x30.Time, .int .i64 (↑x30.Posts.length : Int)] 2 : AV) = .lst [.int .i64 x30.Time, .int .i64 (↑x30.Posts.length : Int)] 2), (Ret Try.prog G0 38 [.lst (u8s r32) r32.length, .lst [.int .i64 x30.Time, .int .i64 (↑x30.Posts.length : Int)] 2] (.lst (u8s r34) r34.length) []), ((.lst (u8s v0) v0.length : AV) = .lst (u8s v0) v0.length), ((.ptr 0 0 : AV) = .ptr 0 0), ((.lst (u8s r34) r34.length : AV) = .lst (u8s r34) r34.length), ((.lst (fl Tapi_Entry.enc books_1.Ledger.Entries) books_1.Ledger.Entries.length : AV) = .lst (fl Tapi_Entry.enc books_1.Ledger.Entries) books_1.Ledger.Entries.length), ((.int .i64 (↑books_1.Ledger.Entries.length : Int) : AV) = .int .i64 (↑books_1.Ledger.Entries.length : Int)), ((.int .i64 (↑k19 : Int) : AV) = .int .i64 (↑k19 : Int)), ((.lst (fl Tapi_Post.enc x30.Posts) x30.Posts.length : AV) = .lst (fl Tapi_Post.enc x30.Posts) x30.Posts.length), ((.int .i64 (↑x30.Posts.length : Int) : AV) = .int .i64 (↑x30.Posts.length : Int)), ((.int .i64 0 : AV) = .int .i64 (↑(0 : Nat) : Int)), (({ c := (Tapi_Books.enc books_1), e := 61, ext := false, fz := 0, pl := true, o := false } : Blk) = renB [0] { c := (Tapi_Books.enc books_1), e := 61, ext := false, fz := 0, pl := true, o := false }), (Does Try.prog G0 1 (.loop (bodyAt Try.prog 41 [1, 0, 1, 0, 0, 1, 1, 0, 0, 1, 1, 0, 1, 0, 0])) (S 105 [(0, .lst (u8s v0) v0.length), (3, .ptr 0 0), (7, .lst (u8s r34) r34.length), (17, .lst (fl Tapi_Entry.enc books_1.Ledger.Entries) books_1.Ledger.Entries.length), (18, .int .i64 (↑books_1.Ledger.Entries.length : Int)), (19, .int .i64 (↑k19 : Int)), (35, .lst (fl Tapi_Post.enc x30.Posts) x30.Posts.length), (36, .int .i64 (↑x30.Posts.length : Int)), (37, .int .i64 (↑(0 : Nat) : Int))] [{ c := (Tapi_Books.enc books_1), e := 61, ext := false, fz := 0, pl := true, o := false }]) (.exit 2) (S 105 [(0, .lst (u8s v0) v0.length), (3, .ptr 0 0), (7, .lst (u8s o36) o36.length), (17, .lst (fl Tapi_Entry.enc books_1.Ledger.Entries) books_1.Ledger.Entries.length), (18, .int .i64 (↑books_1.Ledger.Entries.length : Int)), (19, .int .i64 (↑k19 : Int))] [{ c := (Tapi_Books.enc books_1), e := 61, ext := false, fz := 0, pl := true, o := false }])), ((.lst (u8s v0) v0.length : AV) = .lst (u8s v0) v0.length), ((.int .i64 5 : AV) = .int .i64 5), ((.lst (u8s o36) o36.length : AV) = .lst (u8s o36) o36.length), (Ret Try.prog G0 37 [.lst (u8s v0) v0.length, .int .i64 5, .lst (u8s o36) o36.length] (.vec 0 r53.length 1) [{ c := (u8s r53), e := 5, ext := true, fz := 0, pl := true, o := true }]), (IntKind.min .i64 ≤ ((↑k19 : Int) + 1) ∧ ((↑k19 : Int) + 1) ≤ IntKind.max .i64), (5 = 5 ∧ (u8s r53) = (u8s r53) ∧ r53.length = r53.length ∧ List.length ((u8s r53) : List AV) = r53.length), (5 = 5 ∧ (u8s r53) = (u8s r53) ∧ r53.length = r53.length ∧ List.length ((u8s r53) : List AV) = r53.length)]) (by kernel_rfl) (by kernel_rfl) ⟨(decide_eq_true c29), ⟨rfl, get_lt h31⟩, (fl_ne (f := Tapi_Entry.enc) (z := 2) (fun _ => rfl) h31), (fl_sub0 (f := Tapi_Entry.enc) (z := 3) (j := k19) (fun _ => rfl) h31 rfl), ⟨rfl, rfl, rfl, Nat.le_of_ble_eq_true rfl, Nat.le_of_ble_eq_true rfl⟩, rfl, (store_putTexts_ret [] [x30.Key] r32 h33), ⟨rfl, rfl, rfl, Nat.le_of_ble_eq_true rfl, Nat.le_of_ble_eq_true rfl⟩, rfl, rfl, (store_putInts_ret r32 [x30.Time, (↑x30.Posts.length : Int)] r34 h35), rfl, rfl, rfl, rfl, rfl, rfl, rfl, rfl, rfl, rfl, (store_putBooks_L36_does books_1 v0 k19 x30 hl36), rfl, rfl, rfl, (codec_PutFrame_ret v0 5 o36 r53 h54), h55, ⟨rfl, rfl, rfl, u8s_length⟩, ok1 ⟨rfl, rfl, rfl, u8s_length⟩⟩
theorem store_putBooks_L1_1 (books_1 : Tapi_Books) (v0 : (List UInt8)) (k19 : Nat) (c29 : ¬ ((↑k19 : Int) < (↑books_1.Ledger.Entries.length : Int))) : Does Try.prog G0 1 (bodyAt Try.prog 41 [1, 0, 1, 0, 0]) (store_putBooks_L1_H books_1 (v0, k19)) (.exit 0) (S 105 [(0, .lst (u8s v0) v0.length), (3, .ptr 0 0)] [{ c := (Tapi_Books.enc books_1), e := 61, ext := false, fz := 0, pl := true, o := false }]) :=
  Does.of_viewM 1 400 [.op none .a, .br false] [0] (ps := [((decide ((↑k19 : Int) < (↑books_1.Ledger.Entries.length : Int))) = false)]) (by kernel_rfl) (by kernel_rfl) (ok1 (decide_eq_false c29))
def store_putBooks_L1_X (books_1 : Tapi_Books) : (List UInt8) → AEx := fun o => (.exit 0)
def store_putBooks_L1_E (books_1 : Tapi_Books) : (List UInt8) → St := fun o => S 105 [(0, .lst (u8s o) o.length), (3, .ptr 0 0)] [{ c := (Tapi_Books.enc books_1), e := 61, ext := false, fz := 0, pl := true, o := false }]
theorem store_putBooks_L1_does (books_1 : Tapi_Books) {s : ((List UInt8) × Nat)} {r : (List UInt8)} (h : lp (store_putBooks_L1_step books_1) s = some r) : Does Try.prog G0 1 (.loop (bodyAt Try.prog 41 [1, 0, 1, 0, 0])) (store_putBooks_L1_H books_1 s) (store_putBooks_L1_X books_1 r) (store_putBooks_L1_E books_1 r) := by
  refine Does.lp (H := store_putBooks_L1_H books_1) (X := store_putBooks_L1_X books_1) (E := store_putBooks_L1_E books_1) (fun s s2 h => ?_) (fun s r h => ?_) h
  · obtain ⟨v0, k19⟩ := s
    unfold store_putBooks_L1_step at h
    try dsimp only at h
    rcases ite_some h with ⟨c29, h⟩ | ⟨c29, h⟩
    · obtain ⟨x30, h31, h⟩ := bind_some h
      obtain ⟨r32, h33, h⟩ := bind_some h
      obtain ⟨r34, h35, h⟩ := bind_some h
      obtain ⟨o36, hl36, h⟩ := bind_some h
      obtain ⟨r53, h54, h⟩ := bind_some h
      obtain ⟨h55, h⟩ := guard_some h
      simp only [Option.some.injEq, Sum.inl.injEq] at h
      subst h
      exact store_putBooks_L1_0 books_1 v0 k19 c29 x30 h31 r32 h33 r34 h35 o36 hl36 r53 h54 h55
    · simp at h
  · obtain ⟨v0, k19⟩ := s
    unfold store_putBooks_L1_step at h
    try dsimp only at h
    rcases ite_some h with ⟨c29, h⟩ | ⟨c29, h⟩
    · obtain ⟨x30, h31, h⟩ := bind_some h
      obtain ⟨r32, h33, h⟩ := bind_some h
      obtain ⟨r34, h35, h⟩ := bind_some h
      obtain ⟨o36, hl36, h⟩ := bind_some h
      obtain ⟨r53, h54, h⟩ := bind_some h
      obtain ⟨h55, h⟩ := guard_some h
      simp at h
    · simp only [Option.some.injEq, Sum.inr.injEq] at h
      subst h
      exact ⟨store_putBooks_L1_1 books_1 v0 k19 c29, by intro q; cases q⟩
noncomputable def store_putBooks_L93_step (books_1 : Tapi_Books) (v0 : (List UInt8)) (k58 : Nat) (x87 : Tapi_Charge) : ((List UInt8) × Nat) → Option (((List UInt8) × Nat) ⊕ (List UInt8))
  | (v12, k82) =>
    if (↑k82 : Int) < (↑x87.Lines.length : Int) then
      (x87.Lines[k82]?).bind fun x103 =>
      (store_putTexts v12 [x103.Text]).bind fun r105 =>
      (store_putInts r105 [x103.Cents]).bind fun r107 =>
      if InR .i64 ((↑k82 : Int) + 1) then
        some (Sum.inl (r107, (k82 + 1)))
      else none
    else
      some (Sum.inr v12)
def store_putBooks_L93_H (books_1 : Tapi_Books) (v0 : (List UInt8)) (k58 : Nat) (x87 : Tapi_Charge) : ((List UInt8) × Nat) → St := fun (s : ((List UInt8) × Nat)) => S 105 [(0, .lst (u8s v0) v0.length), (11, .ptr 0 0), (12, .lst (u8s s.1) s.1.length), (56, .lst (fl Tapi_Charge.enc books_1.Done) books_1.Done.length), (57, .int .i64 (↑books_1.Done.length : Int)), (58, .int .i64 (↑k58 : Int)), (80, .lst (fl Tapi_Line.enc x87.Lines) x87.Lines.length), (81, .int .i64 (↑x87.Lines.length : Int)), (82, .int .i64 (↑s.2 : Int))] [{ c := (Tapi_Charge.enc x87), e := 113, ext := false, fz := 0, pl := true, o := false }]
theorem store_putBooks_L93_0 (books_1 : Tapi_Books) (v0 : (List UInt8)) (k58 : Nat) (x87 : Tapi_Charge) (v12 : (List UInt8)) (k82 : Nat) (c102 : (↑k82 : Int) < (↑x87.Lines.length : Int)) (x103 : Tapi_Line) (h104 : x87.Lines[k82]? = some x103) (r105 : (List UInt8)) (h106 : store_putTexts v12 [x103.Text] = some r105) (r107 : (List UInt8)) (h108 : store_putInts r105 [x103.Cents] = some r107) (h109 : InR .i64 ((↑k82 : Int) + 1)) : Does Try.prog G0 1 (bodyAt Try.prog 41 [1, 1, 0, 1, 0, 0, 1, 1, 0, 0, 1, 1, 0, 1, 0, 0]) (store_putBooks_L93_H books_1 v0 k58 x87 (v12, k82)) .normal (S 105 [(0, .lst (u8s v0) v0.length), (11, .ptr 0 0), (12, .lst (u8s r107) r107.length), (56, .lst (fl Tapi_Charge.enc books_1.Done) books_1.Done.length), (57, .int .i64 (↑books_1.Done.length : Int)), (58, .int .i64 (↑k58 : Int)), (80, .lst (fl Tapi_Line.enc x87.Lines) x87.Lines.length), (81, .int .i64 (↑x87.Lines.length : Int)), (82, .int .i64 ((↑k82 : Int) + 1))] [{ c := (Tapi_Charge.enc x87), e := 113, ext := false, fz := 0, pl := true, o := false }]) :=
  Does.of_viewM 1 400 ((.op none .a) :: (.br true) :: (.op none (.i k82)) :: (.op none (.v [.str x103.Text, .int .i64 x103.Cents])) :: (cs 6 ((.tr (.frz [.t 89] [.str x103.Text] 1)) :: (.ret none [.lst (u8s v12) v12.length, .lst [.str x103.Text] 1] (.lst (u8s r105) r105.length) []) :: (cs 3 [.tr (.frz [.t 93] [.int .i64 x103.Cents] 1), .ret none [.lst (u8s r105) r105.length, .lst [.int .i64 x103.Cents] 1] (.lst (u8s r107) r107.length) [], .op none .c, .op none .w, .op none .c])))) [0] (ps := [((decide ((↑k82 : Int) < (↑x87.Lines.length : Int))) = true), ((↑k82 : Int) = ((k82 : Nat) : Int) ∧ k82 < x87.Lines.length), ((fl Tapi_Line.enc x87.Lines) ≠ []), (sub (fl Tapi_Line.enc x87.Lines) (k82 * 2) 2 = [.str x103.Text, .int .i64 x103.Cents]), (2 = 2 ∧ sub [.str x103.Text] 0 1 = [.str x103.Text] ∧ 1 = 1 ∧ 0 + 1 ≤ List.length ([.str x103.Text] : List AV) ∧ 1 ≤ 1), ((.lst (u8s v12) v12.length : AV) = .lst (u8s v12) v12.length), ((.lst [.str x103.Text] 1 : AV) = .lst [.str x103.Text] 1), (Ret Try.prog G0 40 [.lst (u8s v12) v12.length, .lst [.str x103.Text] 1] (.lst (u8s r105) r105.length) []), (3 = 3 ∧ sub [.int .i64 x103.Cents] 0 1 = [.int .i64 x103.Cents] ∧ 1 = 1 ∧ 0 + 1 ≤ List.length ([.int .i64 x103.Cents] : List AV) ∧ 1 ≤ 1), ((.lst (u8s r105) r105.length : AV) = .lst (u8s r105) r105.length), ((.lst [.int .i64 x103.Cents] 1 : AV) = .lst [.int .i64 x103.Cents] 1), (Ret Try.prog G0 38 [.lst (u8s r105) r105.length, .lst [.int .i64 x103.Cents] 1] (.lst (u8s r107) r107.length) []), (IntKind.min .i64 ≤ ((↑k82 : Int) + 1) ∧ ((↑k82 : Int) + 1) ≤ IntKind.max .i64)]) (by kernel_rfl) (by kernel_rfl) ⟨(decide_eq_true c102), ⟨rfl, get_lt h104⟩, (fl_ne (f := Tapi_Line.enc) (z := 1) (fun _ => rfl) h104), (fl_sub0 (f := Tapi_Line.enc) (z := 2) (j := k82) (fun _ => rfl) h104 rfl), ⟨rfl, rfl, rfl, Nat.le_of_ble_eq_true rfl, Nat.le_of_ble_eq_true rfl⟩, rfl, rfl, (store_putTexts_ret v12 [x103.Text] r105 h106), ⟨rfl, rfl, rfl, Nat.le_of_ble_eq_true rfl, Nat.le_of_ble_eq_true rfl⟩, rfl, rfl, (store_putInts_ret r105 [x103.Cents] r107 h108), ok1 h109⟩
theorem store_putBooks_L93_1 (books_1 : Tapi_Books) (v0 : (List UInt8)) (k58 : Nat) (x87 : Tapi_Charge) (v12 : (List UInt8)) (k82 : Nat) (c102 : ¬ ((↑k82 : Int) < (↑x87.Lines.length : Int))) : Does Try.prog G0 1 (bodyAt Try.prog 41 [1, 1, 0, 1, 0, 0, 1, 1, 0, 0, 1, 1, 0, 1, 0, 0]) (store_putBooks_L93_H books_1 v0 k58 x87 (v12, k82)) (.exit 6) (S 105 [(0, .lst (u8s v0) v0.length), (11, .ptr 0 0), (12, .lst (u8s v12) v12.length), (56, .lst (fl Tapi_Charge.enc books_1.Done) books_1.Done.length), (57, .int .i64 (↑books_1.Done.length : Int)), (58, .int .i64 (↑k58 : Int))] [{ c := (Tapi_Charge.enc x87), e := 113, ext := false, fz := 0, pl := true, o := false }]) :=
  Does.of_viewM 1 400 [.op none .a, .br false] [0] (ps := [((decide ((↑k82 : Int) < (↑x87.Lines.length : Int))) = false)]) (by kernel_rfl) (by kernel_rfl) (ok1 (decide_eq_false c102))
def store_putBooks_L93_X (books_1 : Tapi_Books) (v0 : (List UInt8)) (k58 : Nat) (x87 : Tapi_Charge) : (List UInt8) → AEx := fun o => (.exit 6)
def store_putBooks_L93_E (books_1 : Tapi_Books) (v0 : (List UInt8)) (k58 : Nat) (x87 : Tapi_Charge) : (List UInt8) → St := fun o => S 105 [(0, .lst (u8s v0) v0.length), (11, .ptr 0 0), (12, .lst (u8s o) o.length), (56, .lst (fl Tapi_Charge.enc books_1.Done) books_1.Done.length), (57, .int .i64 (↑books_1.Done.length : Int)), (58, .int .i64 (↑k58 : Int))] [{ c := (Tapi_Charge.enc x87), e := 113, ext := false, fz := 0, pl := true, o := false }]
theorem store_putBooks_L93_does (books_1 : Tapi_Books) (v0 : (List UInt8)) (k58 : Nat) (x87 : Tapi_Charge) {s : ((List UInt8) × Nat)} {r : (List UInt8)} (h : lp (store_putBooks_L93_step books_1 v0 k58 x87) s = some r) : Does Try.prog G0 1 (.loop (bodyAt Try.prog 41 [1, 1, 0, 1, 0, 0, 1, 1, 0, 0, 1, 1, 0, 1, 0, 0])) (store_putBooks_L93_H books_1 v0 k58 x87 s) (store_putBooks_L93_X books_1 v0 k58 x87 r) (store_putBooks_L93_E books_1 v0 k58 x87 r) := by
  refine Does.lp (H := store_putBooks_L93_H books_1 v0 k58 x87) (X := store_putBooks_L93_X books_1 v0 k58 x87) (E := store_putBooks_L93_E books_1 v0 k58 x87) (fun s s2 h => ?_) (fun s r h => ?_) h
  · obtain ⟨v12, k82⟩ := s
    unfold store_putBooks_L93_step at h
    try dsimp only at h
    rcases ite_some h with ⟨c102, h⟩ | ⟨c102, h⟩
    · obtain ⟨x103, h104, h⟩ := bind_some h
      obtain ⟨r105, h106, h⟩ := bind_some h
      obtain ⟨r107, h108, h⟩ := bind_some h
      obtain ⟨h109, h⟩ := guard_some h
      simp only [Option.some.injEq, Sum.inl.injEq] at h
      subst h
      exact store_putBooks_L93_0 books_1 v0 k58 x87 v12 k82 c102 x103 h104 r105 h106 r107 h108 h109
    · simp at h
  · obtain ⟨v12, k82⟩ := s
    unfold store_putBooks_L93_step at h
    try dsimp only at h
    rcases ite_some h with ⟨c102, h⟩ | ⟨c102, h⟩
    · obtain ⟨x103, h104, h⟩ := bind_some h
      obtain ⟨r105, h106, h⟩ := bind_some h
      obtain ⟨r107, h108, h⟩ := bind_some h
      obtain ⟨h109, h⟩ := guard_some h
      simp at h
    · simp only [Option.some.injEq, Sum.inr.injEq] at h
      subst h
      exact ⟨store_putBooks_L93_1 books_1 v0 k58 x87 v12 k82 c102, by intro q; cases q⟩
noncomputable def store_putBooks_L56_step (books_1 : Tapi_Books) : ((List UInt8) × Nat) → Option (((List UInt8) × Nat) ⊕ (List UInt8))
  | (v0, k58) =>
    if (↑k58 : Int) < (↑books_1.Done.length : Int) then
      (books_1.Done[k58]?).bind fun x87 =>
      (store_putTexts [] [x87.Key, x87.Vehicle, x87.System]).bind fun r89 =>
      (store_putInts r89 [x87.Class, x87.Time, (↑x87.Lines.length : Int)]).bind fun r91 =>
      (lp (store_putBooks_L93_step books_1 v0 k58 x87) (r91, (0 : Nat))).bind fun o93 =>
      (store_putInts o93 [x87.Cents]).bind fun r110 =>
      (codec_PutFrame v0 6 r110).bind fun r112 =>
      if InR .i64 ((↑k58 : Int) + 1) then
        some (Sum.inl (r112, (k58 + 1)))
      else none
    else
      some (Sum.inr v0)
def store_putBooks_L56_H (books_1 : Tapi_Books) : ((List UInt8) × Nat) → St := fun (s : ((List UInt8) × Nat)) => S 105 [(0, .lst (u8s s.1) s.1.length), (56, .lst (fl Tapi_Charge.enc books_1.Done) books_1.Done.length), (57, .int .i64 (↑books_1.Done.length : Int)), (58, .int .i64 (↑s.2 : Int))] []
theorem store_putBooks_L56_0 (books_1 : Tapi_Books) (v0 : (List UInt8)) (k58 : Nat) (c86 : (↑k58 : Int) < (↑books_1.Done.length : Int)) (x87 : Tapi_Charge) (h88 : books_1.Done[k58]? = some x87) (r89 : (List UInt8)) (h90 : store_putTexts [] [x87.Key, x87.Vehicle, x87.System] = some r89) (r91 : (List UInt8)) (h92 : store_putInts r89 [x87.Class, x87.Time, (↑x87.Lines.length : Int)] = some r91) (o93 : (List UInt8)) (hl93 : lp (store_putBooks_L93_step books_1 v0 k58 x87) (r91, (0 : Nat)) = some o93) (r110 : (List UInt8)) (h111 : store_putInts o93 [x87.Cents] = some r110) (r112 : (List UInt8)) (h113 : codec_PutFrame v0 6 r110 = some r112) (h114 : InR .i64 ((↑k58 : Int) + 1)) : Does Try.prog G0 0 (bodyAt Try.prog 41 [1, 1, 0, 1, 0, 0]) (store_putBooks_L56_H books_1 (v0, k58)) .normal (S 105 [(0, .lst (u8s r112) r112.length), (56, .lst (fl Tapi_Charge.enc books_1.Done) books_1.Done.length), (57, .int .i64 (↑books_1.Done.length : Int)), (58, .int .i64 ((↑k58 : Int) + 1))] []) :=
  Does.of_viewM 0 400 ((.op none .a) :: (.br true) :: (.op none (.i k58)) :: (.op none (.v [.str x87.Key, .str x87.Vehicle, .str x87.System, .int .i64 x87.Class, .int .i64 x87.Time, .lst (fl Tapi_Line.enc x87.Lines) x87.Lines.length, .int .i64 x87.Cents])) :: (cs 9 ((.tr (.frz [.t 68] [.str x87.Key, .str x87.Vehicle, .str x87.System] 3)) :: (.ret none [.lst [] 0, .lst [.str x87.Key, .str x87.Vehicle, .str x87.System] 3] (.lst (u8s r89) r89.length) []) :: (cs 8 ((.tr (.frz [.t 77] [.int .i64 x87.Class, .int .i64 x87.Time, .int .i64 (↑x87.Lines.length : Int)] 3)) :: (.ret none [.lst (u8s r89) r89.length, .lst [.int .i64 x87.Class, .int .i64 x87.Time, .int .i64 (↑x87.Lines.length : Int)] 3] (.lst (u8s r91) r91.length) []) :: (cs 5 ((.fcut 1 (.exit 6) [(0, .lst (u8s v0) v0.length), (11, .ptr 0 0), (12, .lst (u8s o93) o93.length), (56, .lst (fl Tapi_Charge.enc books_1.Done) books_1.Done.length), (57, .int .i64 (↑books_1.Done.length : Int)), (58, .int .i64 (↑k58 : Int))] [{ c := (Tapi_Charge.enc x87), e := 113, ext := false, fz := 0, pl := true, o := false }] [0] [(0, .lst (u8s v0) v0.length), (11, .ptr 0 0), (12, .lst (u8s r91) r91.length), (56, .lst (fl Tapi_Charge.enc books_1.Done) books_1.Done.length), (57, .int .i64 (↑books_1.Done.length : Int)), (58, .int .i64 (↑k58 : Int)), (80, .lst (fl Tapi_Line.enc x87.Lines) x87.Lines.length), (81, .int .i64 (↑x87.Lines.length : Int)), (82, .int .i64 (↑(0 : Nat) : Int))] [{ c := (Tapi_Charge.enc x87), e := 113, ext := false, fz := 0, pl := true, o := false }]) :: (cs 5 [.tr (.frz [.t 100] [.int .i64 x87.Cents] 1), .ret none [.lst (u8s o93) o93.length, .lst [.int .i64 x87.Cents] 1] (.lst (u8s r110) r110.length) [], .ret none [.lst (u8s v0) v0.length, .int .i64 6, .lst (u8s r110) r110.length] (.vec 0 r112.length 1) [{ c := (u8s r112), e := 5, ext := true, fz := 0, pl := true, o := true }], .op none .c, .op none .w, .op none .c, .tr (.frz [.t 0, .t 102] (u8s r112) r112.length)])))))))) [] (ps := [((decide ((↑k58 : Int) < (↑books_1.Done.length : Int))) = true), ((↑k58 : Int) = ((k58 : Nat) : Int) ∧ k58 < books_1.Done.length), ((fl Tapi_Charge.enc books_1.Done) ≠ []), (sub (fl Tapi_Charge.enc books_1.Done) (k58 * 7) 7 = [.str x87.Key, .str x87.Vehicle, .str x87.System, .int .i64 x87.Class, .int .i64 x87.Time, .lst (fl Tapi_Line.enc x87.Lines) x87.Lines.length, .int .i64 x87.Cents]), (1 = 1 ∧ sub [.str x87.Key, .str x87.Vehicle, .str x87.System] 0 3 = [.str x87.Key, .str x87.Vehicle, .str x87.System] ∧ 3 = 3 ∧ 0 + 3 ≤ List.length ([.str x87.Key, .str x87.Vehicle, .str x87.System] : List AV) ∧ 3 ≤ 3), ((.lst [.str x87.Key, .str x87.Vehicle, .str x87.System] 3 : AV) = .lst [.str x87.Key, .str x87.Vehicle, .str x87.System] 3), (Ret Try.prog G0 40 [.lst [] 0, .lst [.str x87.Key, .str x87.Vehicle, .str x87.System] 3] (.lst (u8s r89) r89.length) []), (2 = 2 ∧ sub [.int .i64 x87.Class, .int .i64 x87.Time, .int .i64 (↑x87.Lines.length : Int)] 0 3 = [.int .i64 x87.Class, .int .i64 x87.Time, .int .i64 (↑x87.Lines.length : Int)] ∧ 3 = 3 ∧ 0 + 3 ≤ List.length ([.int .i64 x87.Class, .int .i64 x87.Time, .int .i64 (↑x87.Lines.length : Int)] : List AV) ∧ 3 ≤ 3), ((.lst (u8s r89) r89.length : AV) = .lst (u8s r89) r89.length), ((.lst [.int .i64 x87.Class, .int .i64 x87.Time, .int .i64 (↑x87.Lines.length : Int)] 3 : AV) = .lst [.int .i64 x87.Class, .int .i64 x87.Time, .int .i64 (↑x87.Lines.length : Int)] 3), (Ret Try.prog G0 38 [.lst (u8s r89) r89.length, .lst [.int .i64 x87.Class, .int .i64 x87.Time, .int .i64 (↑x87.Lines.length : Int)] 3] (.lst (u8s r91) r91.length) []), ((.lst (u8s v0) v0.length : AV) = .lst (u8s v0) v0.length), ((.ptr 0 0 : AV) = .ptr 0 0), ((.lst (u8s r91) r91.length : AV) = .lst (u8s r91) r91.length), ((.lst (fl Tapi_Charge.enc books_1.Done) books_1.Done.length : AV) = .lst (fl Tapi_Charge.enc books_1.Done) books_1.Done.length), ((.int .i64 (↑books_1.Done.length : Int) : AV) = .int .i64 (↑books_1.Done.length : Int)), ((.int .i64 (↑k58 : Int) : AV) = .int .i64 (↑k58 : Int)), ((.lst (fl Tapi_Line.enc x87.Lines) x87.Lines.length : AV) = .lst (fl Tapi_Line.enc x87.Lines) x87.Lines.length), ((.int .i64 (↑x87.Lines.length : Int) : AV) = .int .i64 (↑x87.Lines.length : Int)), ((.int .i64 0 : AV) = .int .i64 (↑(0 : Nat) : Int)), (({ c := (Tapi_Charge.enc x87), e := 113, ext := false, fz := 0, pl := true, o := false } : Blk) = renB [0] { c := (Tapi_Charge.enc x87), e := 113, ext := false, fz := 0, pl := true, o := false }), (Does Try.prog G0 1 (.loop (bodyAt Try.prog 41 [1, 1, 0, 1, 0, 0, 1, 1, 0, 0, 1, 1, 0, 1, 0, 0])) (S 105 [(0, .lst (u8s v0) v0.length), (11, .ptr 0 0), (12, .lst (u8s r91) r91.length), (56, .lst (fl Tapi_Charge.enc books_1.Done) books_1.Done.length), (57, .int .i64 (↑books_1.Done.length : Int)), (58, .int .i64 (↑k58 : Int)), (80, .lst (fl Tapi_Line.enc x87.Lines) x87.Lines.length), (81, .int .i64 (↑x87.Lines.length : Int)), (82, .int .i64 (↑(0 : Nat) : Int))] [{ c := (Tapi_Charge.enc x87), e := 113, ext := false, fz := 0, pl := true, o := false }]) (.exit 6) (S 105 [(0, .lst (u8s v0) v0.length), (11, .ptr 0 0), (12, .lst (u8s o93) o93.length), (56, .lst (fl Tapi_Charge.enc books_1.Done) books_1.Done.length), (57, .int .i64 (↑books_1.Done.length : Int)), (58, .int .i64 (↑k58 : Int))] [{ c := (Tapi_Charge.enc x87), e := 113, ext := false, fz := 0, pl := true, o := false }])), (4 = 4 ∧ sub [.int .i64 x87.Cents] 0 1 = [.int .i64 x87.Cents] ∧ 1 = 1 ∧ 0 + 1 ≤ List.length ([.int .i64 x87.Cents] : List AV) ∧ 1 ≤ 1), ((.lst (u8s o93) o93.length : AV) = .lst (u8s o93) o93.length), ((.lst [.int .i64 x87.Cents] 1 : AV) = .lst [.int .i64 x87.Cents] 1), (Ret Try.prog G0 38 [.lst (u8s o93) o93.length, .lst [.int .i64 x87.Cents] 1] (.lst (u8s r110) r110.length) []), ((.lst (u8s v0) v0.length : AV) = .lst (u8s v0) v0.length), ((.int .i64 6 : AV) = .int .i64 6), ((.lst (u8s r110) r110.length : AV) = .lst (u8s r110) r110.length), (Ret Try.prog G0 37 [.lst (u8s v0) v0.length, .int .i64 6, .lst (u8s r110) r110.length] (.vec 0 r112.length 1) [{ c := (u8s r112), e := 5, ext := true, fz := 0, pl := true, o := true }]), (IntKind.min .i64 ≤ ((↑k58 : Int) + 1) ∧ ((↑k58 : Int) + 1) ≤ IntKind.max .i64), (5 = 5 ∧ (u8s r112) = (u8s r112) ∧ r112.length = r112.length ∧ List.length ((u8s r112) : List AV) = r112.length), (5 = 5 ∧ (u8s r112) = (u8s r112) ∧ r112.length = r112.length ∧ List.length ((u8s r112) : List AV) = r112.length)]) (by kernel_rfl) (by kernel_rfl) ⟨(decide_eq_true c86), ⟨rfl, get_lt h88⟩, (fl_ne (f := Tapi_Charge.enc) (z := 6) (fun _ => rfl) h88), (fl_sub0 (f := Tapi_Charge.enc) (z := 7) (j := k58) (fun _ => rfl) h88 rfl), ⟨rfl, rfl, rfl, Nat.le_of_ble_eq_true rfl, Nat.le_of_ble_eq_true rfl⟩, rfl, (store_putTexts_ret [] [x87.Key, x87.Vehicle, x87.System] r89 h90), ⟨rfl, rfl, rfl, Nat.le_of_ble_eq_true rfl, Nat.le_of_ble_eq_true rfl⟩, rfl, rfl, (store_putInts_ret r89 [x87.Class, x87.Time, (↑x87.Lines.length : Int)] r91 h92), rfl, rfl, rfl, rfl, rfl, rfl, rfl, rfl, rfl, rfl, (store_putBooks_L93_does books_1 v0 k58 x87 hl93), ⟨rfl, rfl, rfl, Nat.le_of_ble_eq_true rfl, Nat.le_of_ble_eq_true rfl⟩, rfl, rfl, (store_putInts_ret o93 [x87.Cents] r110 h111), rfl, rfl, rfl, (codec_PutFrame_ret v0 6 r110 r112 h113), h114, ⟨rfl, rfl, rfl, u8s_length⟩, ok1 ⟨rfl, rfl, rfl, u8s_length⟩⟩
theorem store_putBooks_L56_1 (books_1 : Tapi_Books) (v0 : (List UInt8)) (k58 : Nat) (c86 : ¬ ((↑k58 : Int) < (↑books_1.Done.length : Int))) : Does Try.prog G0 0 (bodyAt Try.prog 41 [1, 1, 0, 1, 0, 0]) (store_putBooks_L56_H books_1 (v0, k58)) (.exit 4) (S 105 [(0, .lst (u8s v0) v0.length)] []) :=
  Does.of_viewM 0 400 [.op none .a, .br false] [] (ps := [((decide ((↑k58 : Int) < (↑books_1.Done.length : Int))) = false)]) (by kernel_rfl) (by kernel_rfl) (ok1 (decide_eq_false c86))
def store_putBooks_L56_X (books_1 : Tapi_Books) : (List UInt8) → AEx := fun o => (.exit 4)
def store_putBooks_L56_E (books_1 : Tapi_Books) : (List UInt8) → St := fun o => S 105 [(0, .lst (u8s o) o.length)] []
theorem store_putBooks_L56_does (books_1 : Tapi_Books) {s : ((List UInt8) × Nat)} {r : (List UInt8)} (h : lp (store_putBooks_L56_step books_1) s = some r) : Does Try.prog G0 0 (.loop (bodyAt Try.prog 41 [1, 1, 0, 1, 0, 0])) (store_putBooks_L56_H books_1 s) (store_putBooks_L56_X books_1 r) (store_putBooks_L56_E books_1 r) := by
  refine Does.lp (H := store_putBooks_L56_H books_1) (X := store_putBooks_L56_X books_1) (E := store_putBooks_L56_E books_1) (fun s s2 h => ?_) (fun s r h => ?_) h
  · obtain ⟨v0, k58⟩ := s
    unfold store_putBooks_L56_step at h
    try dsimp only at h
    rcases ite_some h with ⟨c86, h⟩ | ⟨c86, h⟩
    · obtain ⟨x87, h88, h⟩ := bind_some h
      obtain ⟨r89, h90, h⟩ := bind_some h
      obtain ⟨r91, h92, h⟩ := bind_some h
      obtain ⟨o93, hl93, h⟩ := bind_some h
      obtain ⟨r110, h111, h⟩ := bind_some h
      obtain ⟨r112, h113, h⟩ := bind_some h
      obtain ⟨h114, h⟩ := guard_some h
      simp only [Option.some.injEq, Sum.inl.injEq] at h
      subst h
      exact store_putBooks_L56_0 books_1 v0 k58 c86 x87 h88 r89 h90 r91 h92 o93 hl93 r110 h111 r112 h113 h114
    · simp at h
  · obtain ⟨v0, k58⟩ := s
    unfold store_putBooks_L56_step at h
    try dsimp only at h
    rcases ite_some h with ⟨c86, h⟩ | ⟨c86, h⟩
    · obtain ⟨x87, h88, h⟩ := bind_some h
      obtain ⟨r89, h90, h⟩ := bind_some h
      obtain ⟨r91, h92, h⟩ := bind_some h
      obtain ⟨o93, hl93, h⟩ := bind_some h
      obtain ⟨r110, h111, h⟩ := bind_some h
      obtain ⟨r112, h113, h⟩ := bind_some h
      obtain ⟨h114, h⟩ := guard_some h
      simp at h
    · simp only [Option.some.injEq, Sum.inr.injEq] at h
      subst h
      exact ⟨store_putBooks_L56_1 books_1 v0 k58 c86, by intro q; cases q⟩
noncomputable def store_putBooks (b_0 : (List UInt8)) (books_1 : Tapi_Books) : Option (List UInt8) :=
  (lp (store_putBooks_L1_step books_1) (b_0, (0 : Nat))).bind fun o1 =>
  (lp (store_putBooks_L56_step books_1) (o1, (0 : Nat))).bind fun o56 =>
  some o56
theorem store_putBooks_0 (b_0 : (List UInt8)) (books_1 : Tapi_Books) (o1 : (List UInt8)) (hl1 : lp (store_putBooks_L1_step books_1) (b_0, (0 : Nat)) = some o1) (o56 : (List UInt8)) (hl56 : lp (store_putBooks_L56_step books_1) (o1, (0 : Nat)) = some o56) : Ret Try.prog G0 41 [.lst (u8s b_0) b_0.length, .agg (Tapi_Books.enc books_1)] (.lst (u8s o56) o56.length) [] :=
  Ret.of_view 400 (cs 7 ((.fcut 1 (.exit 0) [(0, .lst (u8s o1) o1.length), (3, .ptr 0 0)] [{ c := (Tapi_Books.enc books_1), e := 61, ext := false, fz := 0, pl := true, o := false }] [0] [(0, .lst (u8s b_0) b_0.length), (3, .ptr 0 0), (17, .lst (fl Tapi_Entry.enc books_1.Ledger.Entries) books_1.Ledger.Entries.length), (18, .int .i64 (↑books_1.Ledger.Entries.length : Int)), (19, .int .i64 (↑(0 : Nat) : Int))] [{ c := (Tapi_Books.enc books_1), e := 61, ext := false, fz := 0, pl := true, o := false }]) :: (cs 4 ((.fcut 0 (.exit 4) [(0, .lst (u8s o56) o56.length)] [] [] [(0, .lst (u8s o1) o1.length), (56, .lst (fl Tapi_Charge.enc books_1.Done) books_1.Done.length), (57, .int .i64 (↑books_1.Done.length : Int)), (58, .int .i64 (↑(0 : Nat) : Int))] []) :: (cs 2 []))))) [] (ps := [((.lst (u8s b_0) b_0.length : AV) = .lst (u8s b_0) b_0.length), ((.ptr 0 0 : AV) = .ptr 0 0), ((.lst (fl Tapi_Entry.enc books_1.Ledger.Entries) books_1.Ledger.Entries.length : AV) = .lst (fl Tapi_Entry.enc books_1.Ledger.Entries) books_1.Ledger.Entries.length), ((.int .i64 (↑books_1.Ledger.Entries.length : Int) : AV) = .int .i64 (↑books_1.Ledger.Entries.length : Int)), ((.int .i64 0 : AV) = .int .i64 (↑(0 : Nat) : Int)), (({ c := (Tapi_Books.enc books_1), e := 61, ext := false, fz := 0, pl := true, o := false } : Blk) = renB [0] { c := (Tapi_Books.enc books_1), e := 61, ext := false, fz := 0, pl := true, o := false }), (Does Try.prog G0 1 (.loop (bodyAt Try.prog 41 [1, 0, 1, 0, 0])) (S 105 [(0, .lst (u8s b_0) b_0.length), (3, .ptr 0 0), (17, .lst (fl Tapi_Entry.enc books_1.Ledger.Entries) books_1.Ledger.Entries.length), (18, .int .i64 (↑books_1.Ledger.Entries.length : Int)), (19, .int .i64 (↑(0 : Nat) : Int))] [{ c := (Tapi_Books.enc books_1), e := 61, ext := false, fz := 0, pl := true, o := false }]) (.exit 0) (S 105 [(0, .lst (u8s o1) o1.length), (3, .ptr 0 0)] [{ c := (Tapi_Books.enc books_1), e := 61, ext := false, fz := 0, pl := true, o := false }])), ((.lst (u8s o1) o1.length : AV) = .lst (u8s o1) o1.length), ((.lst (fl Tapi_Charge.enc books_1.Done) books_1.Done.length : AV) = .lst (fl Tapi_Charge.enc books_1.Done) books_1.Done.length), ((.int .i64 (↑books_1.Done.length : Int) : AV) = .int .i64 (↑books_1.Done.length : Int)), ((.int .i64 0 : AV) = .int .i64 (↑(0 : Nat) : Int)), (Does Try.prog G0 0 (.loop (bodyAt Try.prog 41 [1, 1, 0, 1, 0, 0])) (S 105 [(0, .lst (u8s o1) o1.length), (56, .lst (fl Tapi_Charge.enc books_1.Done) books_1.Done.length), (57, .int .i64 (↑books_1.Done.length : Int)), (58, .int .i64 (↑(0 : Nat) : Int))] []) (.exit 4) (S 105 [(0, .lst (u8s o56) o56.length)] []))]) (by kernel_rfl) (by kernel_rfl) ⟨rfl, rfl, rfl, rfl, rfl, rfl, (store_putBooks_L1_does books_1 hl1), rfl, rfl, rfl, rfl, ok1 (store_putBooks_L56_does books_1 hl56)⟩
theorem store_putBooks_ret (b_0 : (List UInt8)) (books_1 : Tapi_Books) (r : (List UInt8)) (h : store_putBooks b_0 books_1 = some r) : Ret Try.prog G0 41 [.lst (u8s b_0) b_0.length, .agg (Tapi_Books.enc books_1)] (.lst (u8s r) r.length) [] := by
  unfold store_putBooks at h
  obtain ⟨o1, hl1, h⟩ := bind_some h
  obtain ⟨o56, hl56, h⟩ := bind_some h
  simp only [Option.some.injEq] at h
  subst h
  exact store_putBooks_0 b_0 books_1 o1 hl1 o56 hl56
noncomputable def tollwayref49_ints_L1_step (l_1 : (List Int)) : ((List UInt8) × Nat) → Option (((List UInt8) × Nat) ⊕ (List UInt8))
  | (v5, k6) =>
    if (↑k6 : Int) < (↑l_1.length : Int) then
      (l_1[k6]?).bind fun x9 =>
      (tollwayref02_PutInt v5 x9).bind fun r11 =>
      if InR .i64 ((↑k6 : Int) + 1) then
        some (Sum.inl (r11, (k6 + 1)))
      else none
    else
      some (Sum.inr v5)
def tollwayref49_ints_L1_H (l_1 : (List Int)) : ((List UInt8) × Nat) → St := fun (s : ((List UInt8) × Nat)) => S 21 [(1, .lst (fl e_i64 l_1) l_1.length), (5, .lst (u8s s.1) s.1.length), (6, .int .i64 (↑s.2 : Int))] []
theorem tollwayref49_ints_L1_0 (l_1 : (List Int)) (v5 : (List UInt8)) (k6 : Nat) (c8 : (↑k6 : Int) < (↑l_1.length : Int)) (x9 : Int) (h10 : l_1[k6]? = some x9) (r11 : (List UInt8)) (h12 : tollwayref02_PutInt v5 x9 = some r11) (h13 : InR .i64 ((↑k6 : Int) + 1)) : Does Try.prog G0 0 (bodyAt Try.prog 42 [1, 1, 0, 1, 0, 0]) (tollwayref49_ints_L1_H l_1 (v5, k6)) .normal (S 21 [(1, .lst (fl e_i64 l_1) l_1.length), (5, .lst (u8s r11) r11.length), (6, .int .i64 ((↑k6 : Int) + 1))] []) :=
  Does.of_viewM 0 400 (cs 3 ((.op none .a) :: (.br true) :: (cs 3 ((.op none (.i k6)) :: (.op none (.v [.int .i64 x9])) :: (.ret none [.lst (u8s v5) v5.length, .int .i64 x9] (.vec 0 r11.length 1) [{ c := (u8s r11), e := 5, ext := true, fz := 0, pl := true, o := true }]) :: (cs 2 [.op none .w, .op none .c, .tr (.frz [.t 5, .t 19] (u8s r11) r11.length)]))))) [] (ps := [((decide ((↑k6 : Int) < (↑l_1.length : Int))) = true), ((↑k6 : Int) = ((k6 : Nat) : Int) ∧ k6 < l_1.length), ((fl e_i64 l_1) ≠ []), (sub (fl e_i64 l_1) k6 1 = [.int .i64 x9]), ((.lst (u8s v5) v5.length : AV) = .lst (u8s v5) v5.length), ((.int .i64 x9 : AV) = .int .i64 x9), (Ret Try.prog G0 75 [.lst (u8s v5) v5.length, .int .i64 x9] (.vec 0 r11.length 1) [{ c := (u8s r11), e := 5, ext := true, fz := 0, pl := true, o := true }]), (IntKind.min .i64 ≤ ((↑k6 : Int) + 1) ∧ ((↑k6 : Int) + 1) ≤ IntKind.max .i64), (0 = 0 ∧ (u8s r11) = (u8s r11) ∧ r11.length = r11.length ∧ List.length ((u8s r11) : List AV) = r11.length), (0 = 0 ∧ (u8s r11) = (u8s r11) ∧ r11.length = r11.length ∧ List.length ((u8s r11) : List AV) = r11.length)]) (by kernel_rfl) (by kernel_rfl) ⟨(decide_eq_true c8), ⟨rfl, get_lt h10⟩, (fl_ne (f := e_i64) (z := 0) (fun _ => rfl) h10), (fl_sub1 (f := e_i64) (fun _ => rfl) h10 rfl), rfl, rfl, (tollwayref02_PutInt_ret v5 x9 r11 h12), h13, ⟨rfl, rfl, rfl, u8s_length⟩, ok1 ⟨rfl, rfl, rfl, u8s_length⟩⟩
theorem tollwayref49_ints_L1_1 (l_1 : (List Int)) (v5 : (List UInt8)) (k6 : Nat) (c8 : ¬ ((↑k6 : Int) < (↑l_1.length : Int))) : Does Try.prog G0 0 (bodyAt Try.prog 42 [1, 1, 0, 1, 0, 0]) (tollwayref49_ints_L1_H l_1 (v5, k6)) (.exit 0) (S 21 [(5, .lst (u8s v5) v5.length)] []) :=
  Does.of_viewM 0 400 (cs 3 [.op none .a, .br false]) [] (ps := [((decide ((↑k6 : Int) < (↑l_1.length : Int))) = false)]) (by kernel_rfl) (by kernel_rfl) (ok1 (decide_eq_false c8))
def tollwayref49_ints_L1_X (l_1 : (List Int)) : (List UInt8) → AEx := fun o => (.exit 0)
def tollwayref49_ints_L1_E (l_1 : (List Int)) : (List UInt8) → St := fun o => S 21 [(5, .lst (u8s o) o.length)] []
theorem tollwayref49_ints_L1_does (l_1 : (List Int)) {s : ((List UInt8) × Nat)} {r : (List UInt8)} (h : lp (tollwayref49_ints_L1_step l_1) s = some r) : Does Try.prog G0 0 (.loop (bodyAt Try.prog 42 [1, 1, 0, 1, 0, 0])) (tollwayref49_ints_L1_H l_1 s) (tollwayref49_ints_L1_X l_1 r) (tollwayref49_ints_L1_E l_1 r) := by
  refine Does.lp (H := tollwayref49_ints_L1_H l_1) (X := tollwayref49_ints_L1_X l_1) (E := tollwayref49_ints_L1_E l_1) (fun s s2 h => ?_) (fun s r h => ?_) h
  · obtain ⟨v5, k6⟩ := s
    unfold tollwayref49_ints_L1_step at h
    try dsimp only at h
    rcases ite_some h with ⟨c8, h⟩ | ⟨c8, h⟩
    · obtain ⟨x9, h10, h⟩ := bind_some h
      obtain ⟨r11, h12, h⟩ := bind_some h
      obtain ⟨h13, h⟩ := guard_some h
      simp only [Option.some.injEq, Sum.inl.injEq] at h
      subst h
      exact tollwayref49_ints_L1_0 l_1 v5 k6 c8 x9 h10 r11 h12 h13
    · simp at h
  · obtain ⟨v5, k6⟩ := s
    unfold tollwayref49_ints_L1_step at h
    try dsimp only at h
    rcases ite_some h with ⟨c8, h⟩ | ⟨c8, h⟩
    · obtain ⟨x9, h10, h⟩ := bind_some h
      obtain ⟨r11, h12, h⟩ := bind_some h
      obtain ⟨h13, h⟩ := guard_some h
      simp at h
    · simp only [Option.some.injEq, Sum.inr.injEq] at h
      subst h
      exact ⟨tollwayref49_ints_L1_1 l_1 v5 k6 c8, by intro q; cases q⟩
noncomputable def tollwayref49_ints (b_0 : (List UInt8)) (l_1 : (List Int)) : Option (List UInt8) :=
  (lp (tollwayref49_ints_L1_step l_1) (b_0, (0 : Nat))).bind fun o1 =>
  some o1
theorem tollwayref49_ints_0 (b_0 : (List UInt8)) (l_1 : (List Int)) (o1 : (List UInt8)) (hl1 : lp (tollwayref49_ints_L1_step l_1) (b_0, (0 : Nat)) = some o1) : Ret Try.prog G0 42 [.lst (u8s b_0) b_0.length, .lst (fl e_i64 l_1) l_1.length] (.lst (u8s o1) o1.length) [] :=
  Ret.of_view 400 (cs 4 ((.fcut 0 (.exit 0) [(5, .lst (u8s o1) o1.length)] [] [] [(1, .lst (fl e_i64 l_1) l_1.length), (5, .lst (u8s b_0) b_0.length), (6, .int .i64 (↑(0 : Nat) : Int))] []) :: (cs 2 []))) [] (ps := [((.lst (fl e_i64 l_1) l_1.length : AV) = .lst (fl e_i64 l_1) l_1.length), ((.lst (u8s b_0) b_0.length : AV) = .lst (u8s b_0) b_0.length), ((.int .i64 0 : AV) = .int .i64 (↑(0 : Nat) : Int)), (Does Try.prog G0 0 (.loop (bodyAt Try.prog 42 [1, 1, 0, 1, 0, 0])) (S 21 [(1, .lst (fl e_i64 l_1) l_1.length), (5, .lst (u8s b_0) b_0.length), (6, .int .i64 (↑(0 : Nat) : Int))] []) (.exit 0) (S 21 [(5, .lst (u8s o1) o1.length)] []))]) (by kernel_rfl) (by kernel_rfl) ⟨rfl, rfl, rfl, ok1 (tollwayref49_ints_L1_does l_1 hl1)⟩
theorem tollwayref49_ints_ret (b_0 : (List UInt8)) (l_1 : (List Int)) (r : (List UInt8)) (h : tollwayref49_ints b_0 l_1 = some r) : Ret Try.prog G0 42 [.lst (u8s b_0) b_0.length, .lst (fl e_i64 l_1) l_1.length] (.lst (u8s r) r.length) [] := by
  unfold tollwayref49_ints at h
  obtain ⟨o1, hl1, h⟩ := bind_some h
  simp only [Option.some.injEq] at h
  subst h
  exact tollwayref49_ints_0 b_0 l_1 o1 hl1
noncomputable def tollwayref49_detection_L1_step  : ((List UInt8) × Nat × (List (List UInt8))) → Option (((List UInt8) × Nat × (List (List UInt8))) ⊕ ((List UInt8) × (List (List UInt8))))
  | (v5, k6, b1) =>
    if (↑k6 : Int) < (↑b1.length : Int) then
      (b1[k6]?).bind fun x16 =>
      (tollwayref02_PutText v5 x16).bind fun r18 =>
      if InR .i64 ((↑k6 : Int) + 1) then
        some (Sum.inl (r18, (k6 + 1), b1))
      else none
    else
      some (Sum.inr (v5, b1))
def tollwayref49_detection_L1_H  : ((List UInt8) × Nat × (List (List UInt8))) → St := fun (s : ((List UInt8) × Nat × (List (List UInt8)))) => S 21 [(1, .sl 0 0 s.2.2.length s.2.2.length true 1), (5, .lst (u8s s.1) s.1.length), (6, .int .i64 (↑s.2.1 : Int))] [{ c := (fl e_str s.2.2), e := 9, ext := false, fz := 0, pl := true, o := false }]
theorem tollwayref49_detection_L1_0  (v5 : (List UInt8)) (k6 : Nat) (b1 : (List (List UInt8))) (c15 : (↑k6 : Int) < (↑b1.length : Int)) (x16 : (List UInt8)) (h17 : b1[k6]? = some x16) (r18 : (List UInt8)) (h19 : tollwayref02_PutText v5 x16 = some r18) (h20 : InR .i64 ((↑k6 : Int) + 1)) : Does Try.prog G0 1 (bodyAt Try.prog 44 [1, 1, 0, 1, 0, 0]) (tollwayref49_detection_L1_H  (v5, k6, b1)) .normal (S 21 [(1, .sl 0 0 b1.length b1.length true 1), (5, .lst (u8s r18) r18.length), (6, .int .i64 ((↑k6 : Int) + 1))] [{ c := (fl e_str b1), e := 9, ext := false, fz := 0, pl := true, o := false }]) :=
  Does.of_viewM 1 400 (cs 3 ((.op none .a) :: (.br true) :: (cs 3 ((.op none (.i k6)) :: (.op none (.v [.str x16])) :: (.ret none [.lst (u8s v5) v5.length, .str x16] (.vec 0 r18.length 1) [{ c := (u8s r18), e := 5, ext := true, fz := 0, pl := true, o := true }]) :: (cs 2 [.op none .w, .op none .c, .tr (.frz [.t 5, .t 19] (u8s r18) r18.length)]))))) [0] (ps := [((decide ((↑k6 : Int) < (↑b1.length : Int))) = true), ((↑k6 : Int) = ((k6 : Nat) : Int) ∧ k6 < b1.length), (sub (fl e_str b1) k6 1 = [.str x16]), ((.lst (u8s v5) v5.length : AV) = .lst (u8s v5) v5.length), ((.str x16 : AV) = .str x16), (Ret Try.prog G0 70 [.lst (u8s v5) v5.length, .str x16] (.vec 0 r18.length 1) [{ c := (u8s r18), e := 5, ext := true, fz := 0, pl := true, o := true }]), (IntKind.min .i64 ≤ ((↑k6 : Int) + 1) ∧ ((↑k6 : Int) + 1) ≤ IntKind.max .i64), (1 = 1 ∧ (u8s r18) = (u8s r18) ∧ r18.length = r18.length ∧ List.length ((u8s r18) : List AV) = r18.length), (1 = 1 ∧ (u8s r18) = (u8s r18) ∧ r18.length = r18.length ∧ List.length ((u8s r18) : List AV) = r18.length)]) (by kernel_rfl) (by kernel_rfl) ⟨(decide_eq_true c15), ⟨rfl, get_lt h17⟩, (fl_sub1 (f := e_str) (fun _ => rfl) h17 rfl), rfl, rfl, (tollwayref02_PutText_ret v5 x16 r18 h19), h20, ⟨rfl, rfl, rfl, u8s_length⟩, ok1 ⟨rfl, rfl, rfl, u8s_length⟩⟩
theorem tollwayref49_detection_L1_1  (v5 : (List UInt8)) (k6 : Nat) (b1 : (List (List UInt8))) (c15 : ¬ ((↑k6 : Int) < (↑b1.length : Int))) : Does Try.prog G0 1 (bodyAt Try.prog 44 [1, 1, 0, 1, 0, 0]) (tollwayref49_detection_L1_H  (v5, k6, b1)) (.exit 0) (S 21 [(5, .lst (u8s v5) v5.length)] [{ c := (fl e_str b1), e := 9, ext := false, fz := 0, pl := true, o := false }]) :=
  Does.of_viewM 1 400 (cs 3 [.op none .a, .br false]) [0] (ps := [((decide ((↑k6 : Int) < (↑b1.length : Int))) = false)]) (by kernel_rfl) (by kernel_rfl) (ok1 (decide_eq_false c15))
def tollwayref49_detection_L1_X  : ((List UInt8) × (List (List UInt8))) → AEx := fun o => (.exit 0)
def tollwayref49_detection_L1_E  : ((List UInt8) × (List (List UInt8))) → St := fun o => S 21 [(5, .lst (u8s o.1) o.1.length)] [{ c := (fl e_str o.2), e := 9, ext := false, fz := 0, pl := true, o := false }]
theorem tollwayref49_detection_L1_does  {s : ((List UInt8) × Nat × (List (List UInt8)))} {r : ((List UInt8) × (List (List UInt8)))} (h : lp (tollwayref49_detection_L1_step ) s = some r) : Does Try.prog G0 1 (.loop (bodyAt Try.prog 44 [1, 1, 0, 1, 0, 0])) (tollwayref49_detection_L1_H  s) (tollwayref49_detection_L1_X  r) (tollwayref49_detection_L1_E  r) := by
  refine Does.lp (H := tollwayref49_detection_L1_H ) (X := tollwayref49_detection_L1_X ) (E := tollwayref49_detection_L1_E ) (fun s s2 h => ?_) (fun s r h => ?_) h
  · obtain ⟨v5, k6, b1⟩ := s
    unfold tollwayref49_detection_L1_step at h
    try dsimp only at h
    rcases ite_some h with ⟨c15, h⟩ | ⟨c15, h⟩
    · obtain ⟨x16, h17, h⟩ := bind_some h
      obtain ⟨r18, h19, h⟩ := bind_some h
      obtain ⟨h20, h⟩ := guard_some h
      simp only [Option.some.injEq, Sum.inl.injEq] at h
      subst h
      exact tollwayref49_detection_L1_0 v5 k6 b1 c15 x16 h17 r18 h19 h20
    · simp at h
  · obtain ⟨v5, k6, b1⟩ := s
    unfold tollwayref49_detection_L1_step at h
    try dsimp only at h
    rcases ite_some h with ⟨c15, h⟩ | ⟨c15, h⟩
    · obtain ⟨x16, h17, h⟩ := bind_some h
      obtain ⟨r18, h19, h⟩ := bind_some h
      obtain ⟨h20, h⟩ := guard_some h
      simp at h
    · simp only [Option.some.injEq, Sum.inr.injEq] at h
      subst h
      exact ⟨tollwayref49_detection_L1_1 v5 k6 b1 c15, by intro q; cases q⟩
noncomputable def tollwayref49_detection_L23_step  : ((List UInt8) × Nat × (List (List UInt8))) → Option (((List UInt8) × Nat × (List (List UInt8))) ⊕ ((List UInt8) × (List (List UInt8))))
  | (v5, k6, b4) =>
    if (↑k6 : Int) < (↑b4.length : Int) then
      (b4[k6]?).bind fun x38 =>
      (tollwayref02_PutText v5 x38).bind fun r40 =>
      if InR .i64 ((↑k6 : Int) + 1) then
        some (Sum.inl (r40, (k6 + 1), b4))
      else none
    else
      some (Sum.inr (v5, b4))
def tollwayref49_detection_L23_H  : ((List UInt8) × Nat × (List (List UInt8))) → St := fun (s : ((List UInt8) × Nat × (List (List UInt8)))) => S 21 [(1, .sl 0 0 s.2.2.length s.2.2.length true 1), (5, .lst (u8s s.1) s.1.length), (6, .int .i64 (↑s.2.1 : Int))] [{ c := (fl e_str s.2.2), e := 9, ext := false, fz := 0, pl := true, o := false }]
theorem tollwayref49_detection_L23_0  (v5 : (List UInt8)) (k6 : Nat) (b4 : (List (List UInt8))) (c37 : (↑k6 : Int) < (↑b4.length : Int)) (x38 : (List UInt8)) (h39 : b4[k6]? = some x38) (r40 : (List UInt8)) (h41 : tollwayref02_PutText v5 x38 = some r40) (h42 : InR .i64 ((↑k6 : Int) + 1)) : Does Try.prog G0 1 (bodyAt Try.prog 44 [1, 1, 0, 1, 0, 0]) (tollwayref49_detection_L23_H  (v5, k6, b4)) .normal (S 21 [(1, .sl 0 0 b4.length b4.length true 1), (5, .lst (u8s r40) r40.length), (6, .int .i64 ((↑k6 : Int) + 1))] [{ c := (fl e_str b4), e := 9, ext := false, fz := 0, pl := true, o := false }]) :=
  Does.of_viewM 1 400 (cs 3 ((.op none .a) :: (.br true) :: (cs 3 ((.op none (.i k6)) :: (.op none (.v [.str x38])) :: (.ret none [.lst (u8s v5) v5.length, .str x38] (.vec 0 r40.length 1) [{ c := (u8s r40), e := 5, ext := true, fz := 0, pl := true, o := true }]) :: (cs 2 [.op none .w, .op none .c, .tr (.frz [.t 5, .t 19] (u8s r40) r40.length)]))))) [0] (ps := [((decide ((↑k6 : Int) < (↑b4.length : Int))) = true), ((↑k6 : Int) = ((k6 : Nat) : Int) ∧ k6 < b4.length), (sub (fl e_str b4) k6 1 = [.str x38]), ((.lst (u8s v5) v5.length : AV) = .lst (u8s v5) v5.length), ((.str x38 : AV) = .str x38), (Ret Try.prog G0 70 [.lst (u8s v5) v5.length, .str x38] (.vec 0 r40.length 1) [{ c := (u8s r40), e := 5, ext := true, fz := 0, pl := true, o := true }]), (IntKind.min .i64 ≤ ((↑k6 : Int) + 1) ∧ ((↑k6 : Int) + 1) ≤ IntKind.max .i64), (1 = 1 ∧ (u8s r40) = (u8s r40) ∧ r40.length = r40.length ∧ List.length ((u8s r40) : List AV) = r40.length), (1 = 1 ∧ (u8s r40) = (u8s r40) ∧ r40.length = r40.length ∧ List.length ((u8s r40) : List AV) = r40.length)]) (by kernel_rfl) (by kernel_rfl) ⟨(decide_eq_true c37), ⟨rfl, get_lt h39⟩, (fl_sub1 (f := e_str) (fun _ => rfl) h39 rfl), rfl, rfl, (tollwayref02_PutText_ret v5 x38 r40 h41), h42, ⟨rfl, rfl, rfl, u8s_length⟩, ok1 ⟨rfl, rfl, rfl, u8s_length⟩⟩
theorem tollwayref49_detection_L23_1  (v5 : (List UInt8)) (k6 : Nat) (b4 : (List (List UInt8))) (c37 : ¬ ((↑k6 : Int) < (↑b4.length : Int))) : Does Try.prog G0 1 (bodyAt Try.prog 44 [1, 1, 0, 1, 0, 0]) (tollwayref49_detection_L23_H  (v5, k6, b4)) (.exit 0) (S 21 [(5, .lst (u8s v5) v5.length)] [{ c := (fl e_str b4), e := 9, ext := false, fz := 0, pl := true, o := false }]) :=
  Does.of_viewM 1 400 (cs 3 [.op none .a, .br false]) [0] (ps := [((decide ((↑k6 : Int) < (↑b4.length : Int))) = false)]) (by kernel_rfl) (by kernel_rfl) (ok1 (decide_eq_false c37))
def tollwayref49_detection_L23_X  : ((List UInt8) × (List (List UInt8))) → AEx := fun o => (.exit 0)
def tollwayref49_detection_L23_E  : ((List UInt8) × (List (List UInt8))) → St := fun o => S 21 [(5, .lst (u8s o.1) o.1.length)] [{ c := (fl e_str o.2), e := 9, ext := false, fz := 0, pl := true, o := false }]
theorem tollwayref49_detection_L23_does  {s : ((List UInt8) × Nat × (List (List UInt8)))} {r : ((List UInt8) × (List (List UInt8)))} (h : lp (tollwayref49_detection_L23_step ) s = some r) : Does Try.prog G0 1 (.loop (bodyAt Try.prog 44 [1, 1, 0, 1, 0, 0])) (tollwayref49_detection_L23_H  s) (tollwayref49_detection_L23_X  r) (tollwayref49_detection_L23_E  r) := by
  refine Does.lp (H := tollwayref49_detection_L23_H ) (X := tollwayref49_detection_L23_X ) (E := tollwayref49_detection_L23_E ) (fun s s2 h => ?_) (fun s r h => ?_) h
  · obtain ⟨v5, k6, b4⟩ := s
    unfold tollwayref49_detection_L23_step at h
    try dsimp only at h
    rcases ite_some h with ⟨c37, h⟩ | ⟨c37, h⟩
    · obtain ⟨x38, h39, h⟩ := bind_some h
      obtain ⟨r40, h41, h⟩ := bind_some h
      obtain ⟨h42, h⟩ := guard_some h
      simp only [Option.some.injEq, Sum.inl.injEq] at h
      subst h
      exact tollwayref49_detection_L23_0 v5 k6 b4 c37 x38 h39 r40 h41 h42
    · simp at h
  · obtain ⟨v5, k6, b4⟩ := s
    unfold tollwayref49_detection_L23_step at h
    try dsimp only at h
    rcases ite_some h with ⟨c37, h⟩ | ⟨c37, h⟩
    · obtain ⟨x38, h39, h⟩ := bind_some h
      obtain ⟨r40, h41, h⟩ := bind_some h
      obtain ⟨h42, h⟩ := guard_some h
      simp at h
    · simp only [Option.some.injEq, Sum.inr.injEq] at h
      subst h
      exact ⟨tollwayref49_detection_L23_1 v5 k6 b4 c37, by intro q; cases q⟩
noncomputable def tollwayref49_detection (b_0 : (List UInt8)) (d_1 : Tapi_Detection) : Option (List UInt8) :=
  (lp (tollwayref49_detection_L1_step) (b_0, (0 : Nat), ([d_1.Device] : (List (List UInt8))))).bind fun o1 =>
  (tollwayref49_ints o1.1 [d_1.Seq, d_1.Time]).bind fun r21 =>
  (lp (tollwayref49_detection_L23_step) (r21, (0 : Nat), ([d_1.Tag, d_1.Plate] : (List (List UInt8))))).bind fun o23 =>
  (tollwayref49_ints o23.1 [d_1.Axles, d_1.Score]).bind fun r43 =>
  some r43
theorem tollwayref49_detection_0 (b_0 : (List UInt8)) (d_1 : Tapi_Detection) (o1 : ((List UInt8) × (List (List UInt8)))) (hl1 : lp (tollwayref49_detection_L1_step) (b_0, (0 : Nat), ([d_1.Device] : (List (List UInt8)))) = some o1) (r21 : (List UInt8)) (h22 : tollwayref49_ints o1.1 [d_1.Seq, d_1.Time] = some r21) (o23 : ((List UInt8) × (List (List UInt8)))) (hl23 : lp (tollwayref49_detection_L23_step) (r21, (0 : Nat), ([d_1.Tag, d_1.Plate] : (List (List UInt8)))) = some o23) (r43 : (List UInt8)) (h44 : tollwayref49_ints o23.1 [d_1.Axles, d_1.Score] = some r43) : Ret Try.prog G0 43 [.lst (u8s b_0) b_0.length, .agg (Tapi_Detection.enc d_1)] (.lst (u8s r43) r43.length) [] :=
  Ret.of_view 400 (cs 11 ((.fcut 1 (.exit 0) [(5, .lst (u8s o1.1) o1.1.length)] [{ c := (fl e_str o1.2), e := 9, ext := false, fz := 0, pl := true, o := false }] [1] [(1, .sl 0 0 (([d_1.Device] : (List (List UInt8))).length) (([d_1.Device] : (List (List UInt8))).length) true 1), (5, .lst (u8s b_0) b_0.length), (6, .int .i64 (↑(0 : Nat) : Int))] [{ c := (fl e_str ([d_1.Device] : (List (List UInt8)))), e := 9, ext := false, fz := 0, pl := true, o := false }]) :: (cs 9 ((.tr (.frz [.t 16] [.int .i64 d_1.Seq, .int .i64 d_1.Time] 2)) :: (.ret none [.lst (u8s o1.1) o1.1.length, .lst [.int .i64 d_1.Seq, .int .i64 d_1.Time] 2] (.lst (u8s r21) r21.length) []) :: (cs 12 ((.fcut 1 (.exit 0) [(5, .lst (u8s o23.1) o23.1.length)] [{ c := (fl e_str o23.2), e := 9, ext := false, fz := 0, pl := true, o := false }] [4] [(1, .sl 0 0 (([d_1.Tag, d_1.Plate] : (List (List UInt8))).length) (([d_1.Tag, d_1.Plate] : (List (List UInt8))).length) true 1), (5, .lst (u8s r21) r21.length), (6, .int .i64 (↑(0 : Nat) : Int))] [{ c := (fl e_str ([d_1.Tag, d_1.Plate] : (List (List UInt8)))), e := 9, ext := false, fz := 0, pl := true, o := false }]) :: (cs 9 [.tr (.frz [.t 30] [.int .i64 d_1.Axles, .int .i64 d_1.Score] 2), .ret none [.lst (u8s o23.1) o23.1.length, .lst [.int .i64 d_1.Axles, .int .i64 d_1.Score] 2] (.lst (u8s r43) r43.length) [], .op none .c]))))))) [] (ps := [((.sl 1 0 1 1 true 1 : AV) = .sl 1 0 (([d_1.Device] : (List (List UInt8))).length) (([d_1.Device] : (List (List UInt8))).length) true 1), ((.lst (u8s b_0) b_0.length : AV) = .lst (u8s b_0) b_0.length), ((.int .i64 0 : AV) = .int .i64 (↑(0 : Nat) : Int)), (({ c := [.str d_1.Device], e := 9, ext := false, fz := 0, pl := true, o := false } : Blk) = renB [1] { c := (fl e_str ([d_1.Device] : (List (List UInt8)))), e := 9, ext := false, fz := 0, pl := true, o := false }), (Does Try.prog G0 1 (.loop (bodyAt Try.prog 44 [1, 1, 0, 1, 0, 0])) (S 21 [(1, .sl 0 0 (([d_1.Device] : (List (List UInt8))).length) (([d_1.Device] : (List (List UInt8))).length) true 1), (5, .lst (u8s b_0) b_0.length), (6, .int .i64 (↑(0 : Nat) : Int))] [{ c := (fl e_str ([d_1.Device] : (List (List UInt8)))), e := 9, ext := false, fz := 0, pl := true, o := false }]) (.exit 0) (S 21 [(5, .lst (u8s o1.1) o1.1.length)] [{ c := (fl e_str o1.2), e := 9, ext := false, fz := 0, pl := true, o := false }])), (3 = 3 ∧ sub [.int .i64 d_1.Seq, .int .i64 d_1.Time] 0 2 = [.int .i64 d_1.Seq, .int .i64 d_1.Time] ∧ 2 = 2 ∧ 0 + 2 ≤ List.length ([.int .i64 d_1.Seq, .int .i64 d_1.Time] : List AV) ∧ 2 ≤ 2), ((.lst (u8s o1.1) o1.1.length : AV) = .lst (u8s o1.1) o1.1.length), ((.lst [.int .i64 d_1.Seq, .int .i64 d_1.Time] 2 : AV) = .lst [.int .i64 d_1.Seq, .int .i64 d_1.Time] 2), (Ret Try.prog G0 42 [.lst (u8s o1.1) o1.1.length, .lst [.int .i64 d_1.Seq, .int .i64 d_1.Time] 2] (.lst (u8s r21) r21.length) []), ((.sl 4 0 2 2 true 1 : AV) = .sl 4 0 (([d_1.Tag, d_1.Plate] : (List (List UInt8))).length) (([d_1.Tag, d_1.Plate] : (List (List UInt8))).length) true 1), ((.lst (u8s r21) r21.length : AV) = .lst (u8s r21) r21.length), ((.int .i64 0 : AV) = .int .i64 (↑(0 : Nat) : Int)), (({ c := [.str d_1.Tag, .str d_1.Plate], e := 9, ext := false, fz := 0, pl := true, o := false } : Blk) = renB [4] { c := (fl e_str ([d_1.Tag, d_1.Plate] : (List (List UInt8)))), e := 9, ext := false, fz := 0, pl := true, o := false }), (Does Try.prog G0 1 (.loop (bodyAt Try.prog 44 [1, 1, 0, 1, 0, 0])) (S 21 [(1, .sl 0 0 (([d_1.Tag, d_1.Plate] : (List (List UInt8))).length) (([d_1.Tag, d_1.Plate] : (List (List UInt8))).length) true 1), (5, .lst (u8s r21) r21.length), (6, .int .i64 (↑(0 : Nat) : Int))] [{ c := (fl e_str ([d_1.Tag, d_1.Plate] : (List (List UInt8)))), e := 9, ext := false, fz := 0, pl := true, o := false }]) (.exit 0) (S 21 [(5, .lst (u8s o23.1) o23.1.length)] [{ c := (fl e_str o23.2), e := 9, ext := false, fz := 0, pl := true, o := false }])), (6 = 6 ∧ sub [.int .i64 d_1.Axles, .int .i64 d_1.Score] 0 2 = [.int .i64 d_1.Axles, .int .i64 d_1.Score] ∧ 2 = 2 ∧ 0 + 2 ≤ List.length ([.int .i64 d_1.Axles, .int .i64 d_1.Score] : List AV) ∧ 2 ≤ 2), ((.lst (u8s o23.1) o23.1.length : AV) = .lst (u8s o23.1) o23.1.length), ((.lst [.int .i64 d_1.Axles, .int .i64 d_1.Score] 2 : AV) = .lst [.int .i64 d_1.Axles, .int .i64 d_1.Score] 2), (Ret Try.prog G0 42 [.lst (u8s o23.1) o23.1.length, .lst [.int .i64 d_1.Axles, .int .i64 d_1.Score] 2] (.lst (u8s r43) r43.length) [])]) (by kernel_rfl) (by kernel_rfl) ⟨rfl, rfl, rfl, rfl, (tollwayref49_detection_L1_does hl1), ⟨rfl, rfl, rfl, Nat.le_of_ble_eq_true rfl, Nat.le_of_ble_eq_true rfl⟩, rfl, rfl, (tollwayref49_ints_ret o1.1 [d_1.Seq, d_1.Time] r21 h22), rfl, rfl, rfl, rfl, (tollwayref49_detection_L23_does hl23), ⟨rfl, rfl, rfl, Nat.le_of_ble_eq_true rfl, Nat.le_of_ble_eq_true rfl⟩, rfl, rfl, ok1 (tollwayref49_ints_ret o23.1 [d_1.Axles, d_1.Score] r43 h44)⟩
theorem tollwayref49_detection_ret (b_0 : (List UInt8)) (d_1 : Tapi_Detection) (r : (List UInt8)) (h : tollwayref49_detection b_0 d_1 = some r) : Ret Try.prog G0 43 [.lst (u8s b_0) b_0.length, .agg (Tapi_Detection.enc d_1)] (.lst (u8s r) r.length) [] := by
  unfold tollwayref49_detection at h
  obtain ⟨o1, hl1, h⟩ := bind_some h
  obtain ⟨r21, h22, h⟩ := bind_some h
  obtain ⟨o23, hl23, h⟩ := bind_some h
  obtain ⟨r43, h44, h⟩ := bind_some h
  simp only [Option.some.injEq] at h
  subst h
  exact tollwayref49_detection_0 b_0 d_1 o1 hl1 r21 h22 o23 hl23 r43 h44
noncomputable def tollwayref49_texts_L1_step (l_1 : (List (List UInt8))) : ((List UInt8) × Nat) → Option (((List UInt8) × Nat) ⊕ (List UInt8))
  | (v5, k6) =>
    if (↑k6 : Int) < (↑l_1.length : Int) then
      (l_1[k6]?).bind fun x9 =>
      (tollwayref02_PutText v5 x9).bind fun r11 =>
      if InR .i64 ((↑k6 : Int) + 1) then
        some (Sum.inl (r11, (k6 + 1)))
      else none
    else
      some (Sum.inr v5)
def tollwayref49_texts_L1_H (l_1 : (List (List UInt8))) : ((List UInt8) × Nat) → St := fun (s : ((List UInt8) × Nat)) => S 21 [(1, .lst (fl e_str l_1) l_1.length), (5, .lst (u8s s.1) s.1.length), (6, .int .i64 (↑s.2 : Int))] []
theorem tollwayref49_texts_L1_0 (l_1 : (List (List UInt8))) (v5 : (List UInt8)) (k6 : Nat) (c8 : (↑k6 : Int) < (↑l_1.length : Int)) (x9 : (List UInt8)) (h10 : l_1[k6]? = some x9) (r11 : (List UInt8)) (h12 : tollwayref02_PutText v5 x9 = some r11) (h13 : InR .i64 ((↑k6 : Int) + 1)) : Does Try.prog G0 0 (bodyAt Try.prog 44 [1, 1, 0, 1, 0, 0]) (tollwayref49_texts_L1_H l_1 (v5, k6)) .normal (S 21 [(1, .lst (fl e_str l_1) l_1.length), (5, .lst (u8s r11) r11.length), (6, .int .i64 ((↑k6 : Int) + 1))] []) :=
  Does.of_viewM 0 400 (cs 3 ((.op none .a) :: (.br true) :: (cs 3 ((.op none (.i k6)) :: (.op none (.v [.str x9])) :: (.ret none [.lst (u8s v5) v5.length, .str x9] (.vec 0 r11.length 1) [{ c := (u8s r11), e := 5, ext := true, fz := 0, pl := true, o := true }]) :: (cs 2 [.op none .w, .op none .c, .tr (.frz [.t 5, .t 19] (u8s r11) r11.length)]))))) [] (ps := [((decide ((↑k6 : Int) < (↑l_1.length : Int))) = true), ((↑k6 : Int) = ((k6 : Nat) : Int) ∧ k6 < l_1.length), ((fl e_str l_1) ≠ []), (sub (fl e_str l_1) k6 1 = [.str x9]), ((.lst (u8s v5) v5.length : AV) = .lst (u8s v5) v5.length), ((.str x9 : AV) = .str x9), (Ret Try.prog G0 70 [.lst (u8s v5) v5.length, .str x9] (.vec 0 r11.length 1) [{ c := (u8s r11), e := 5, ext := true, fz := 0, pl := true, o := true }]), (IntKind.min .i64 ≤ ((↑k6 : Int) + 1) ∧ ((↑k6 : Int) + 1) ≤ IntKind.max .i64), (0 = 0 ∧ (u8s r11) = (u8s r11) ∧ r11.length = r11.length ∧ List.length ((u8s r11) : List AV) = r11.length), (0 = 0 ∧ (u8s r11) = (u8s r11) ∧ r11.length = r11.length ∧ List.length ((u8s r11) : List AV) = r11.length)]) (by kernel_rfl) (by kernel_rfl) ⟨(decide_eq_true c8), ⟨rfl, get_lt h10⟩, (fl_ne (f := e_str) (z := 0) (fun _ => rfl) h10), (fl_sub1 (f := e_str) (fun _ => rfl) h10 rfl), rfl, rfl, (tollwayref02_PutText_ret v5 x9 r11 h12), h13, ⟨rfl, rfl, rfl, u8s_length⟩, ok1 ⟨rfl, rfl, rfl, u8s_length⟩⟩
theorem tollwayref49_texts_L1_1 (l_1 : (List (List UInt8))) (v5 : (List UInt8)) (k6 : Nat) (c8 : ¬ ((↑k6 : Int) < (↑l_1.length : Int))) : Does Try.prog G0 0 (bodyAt Try.prog 44 [1, 1, 0, 1, 0, 0]) (tollwayref49_texts_L1_H l_1 (v5, k6)) (.exit 0) (S 21 [(5, .lst (u8s v5) v5.length)] []) :=
  Does.of_viewM 0 400 (cs 3 [.op none .a, .br false]) [] (ps := [((decide ((↑k6 : Int) < (↑l_1.length : Int))) = false)]) (by kernel_rfl) (by kernel_rfl) (ok1 (decide_eq_false c8))
def tollwayref49_texts_L1_X (l_1 : (List (List UInt8))) : (List UInt8) → AEx := fun o => (.exit 0)
def tollwayref49_texts_L1_E (l_1 : (List (List UInt8))) : (List UInt8) → St := fun o => S 21 [(5, .lst (u8s o) o.length)] []
theorem tollwayref49_texts_L1_does (l_1 : (List (List UInt8))) {s : ((List UInt8) × Nat)} {r : (List UInt8)} (h : lp (tollwayref49_texts_L1_step l_1) s = some r) : Does Try.prog G0 0 (.loop (bodyAt Try.prog 44 [1, 1, 0, 1, 0, 0])) (tollwayref49_texts_L1_H l_1 s) (tollwayref49_texts_L1_X l_1 r) (tollwayref49_texts_L1_E l_1 r) := by
  refine Does.lp (H := tollwayref49_texts_L1_H l_1) (X := tollwayref49_texts_L1_X l_1) (E := tollwayref49_texts_L1_E l_1) (fun s s2 h => ?_) (fun s r h => ?_) h
  · obtain ⟨v5, k6⟩ := s
    unfold tollwayref49_texts_L1_step at h
    try dsimp only at h
    rcases ite_some h with ⟨c8, h⟩ | ⟨c8, h⟩
    · obtain ⟨x9, h10, h⟩ := bind_some h
      obtain ⟨r11, h12, h⟩ := bind_some h
      obtain ⟨h13, h⟩ := guard_some h
      simp only [Option.some.injEq, Sum.inl.injEq] at h
      subst h
      exact tollwayref49_texts_L1_0 l_1 v5 k6 c8 x9 h10 r11 h12 h13
    · simp at h
  · obtain ⟨v5, k6⟩ := s
    unfold tollwayref49_texts_L1_step at h
    try dsimp only at h
    rcases ite_some h with ⟨c8, h⟩ | ⟨c8, h⟩
    · obtain ⟨x9, h10, h⟩ := bind_some h
      obtain ⟨r11, h12, h⟩ := bind_some h
      obtain ⟨h13, h⟩ := guard_some h
      simp at h
    · simp only [Option.some.injEq, Sum.inr.injEq] at h
      subst h
      exact ⟨tollwayref49_texts_L1_1 l_1 v5 k6 c8, by intro q; cases q⟩
noncomputable def tollwayref49_texts (b_0 : (List UInt8)) (l_1 : (List (List UInt8))) : Option (List UInt8) :=
  (lp (tollwayref49_texts_L1_step l_1) (b_0, (0 : Nat))).bind fun o1 =>
  some o1
theorem tollwayref49_texts_0 (b_0 : (List UInt8)) (l_1 : (List (List UInt8))) (o1 : (List UInt8)) (hl1 : lp (tollwayref49_texts_L1_step l_1) (b_0, (0 : Nat)) = some o1) : Ret Try.prog G0 44 [.lst (u8s b_0) b_0.length, .lst (fl e_str l_1) l_1.length] (.lst (u8s o1) o1.length) [] :=
  Ret.of_view 400 (cs 4 ((.fcut 0 (.exit 0) [(5, .lst (u8s o1) o1.length)] [] [] [(1, .lst (fl e_str l_1) l_1.length), (5, .lst (u8s b_0) b_0.length), (6, .int .i64 (↑(0 : Nat) : Int))] []) :: (cs 2 []))) [] (ps := [((.lst (fl e_str l_1) l_1.length : AV) = .lst (fl e_str l_1) l_1.length), ((.lst (u8s b_0) b_0.length : AV) = .lst (u8s b_0) b_0.length), ((.int .i64 0 : AV) = .int .i64 (↑(0 : Nat) : Int)), (Does Try.prog G0 0 (.loop (bodyAt Try.prog 44 [1, 1, 0, 1, 0, 0])) (S 21 [(1, .lst (fl e_str l_1) l_1.length), (5, .lst (u8s b_0) b_0.length), (6, .int .i64 (↑(0 : Nat) : Int))] []) (.exit 0) (S 21 [(5, .lst (u8s o1) o1.length)] []))]) (by kernel_rfl) (by kernel_rfl) ⟨rfl, rfl, rfl, ok1 (tollwayref49_texts_L1_does l_1 hl1)⟩
theorem tollwayref49_texts_ret (b_0 : (List UInt8)) (l_1 : (List (List UInt8))) (r : (List UInt8)) (h : tollwayref49_texts b_0 l_1 = some r) : Ret Try.prog G0 44 [.lst (u8s b_0) b_0.length, .lst (fl e_str l_1) l_1.length] (.lst (u8s r) r.length) [] := by
  unfold tollwayref49_texts at h
  obtain ⟨o1, hl1, h⟩ := bind_some h
  simp only [Option.some.injEq] at h
  subst h
  exact tollwayref49_texts_0 b_0 l_1 o1 hl1
noncomputable def tollwayref49_entry_L5_step (e_0 : Tapi_Entry) : ((List UInt8) × Nat) → Option (((List UInt8) × Nat) ⊕ (List UInt8))
  | (v3, k4) =>
    if (↑k4 : Int) < (↑e_0.Posts.length : Int) then
      (e_0.Posts[k4]?).bind fun x15 =>
      (tollwayref49_texts v3 [x15.Account]).bind fun r17 =>
      (tollwayref49_ints r17 [x15.Cents]).bind fun r19 =>
      if InR .i64 ((↑k4 : Int) + 1) then
        some (Sum.inl (r19, (k4 + 1)))
      else none
    else
      some (Sum.inr v3)
def tollwayref49_entry_L5_H (e_0 : Tapi_Entry) : ((List UInt8) × Nat) → St := fun (s : ((List UInt8) × Nat)) => S 42 [(1, .ptr 0 0), (3, .lst (u8s s.1) s.1.length), (4, .int .i64 (↑s.2 : Int))] [{ c := (Tapi_Entry.enc e_0), e := 109, ext := false, fz := 0, pl := true, o := false }]
theorem tollwayref49_entry_L5_0 (e_0 : Tapi_Entry) (v3 : (List UInt8)) (k4 : Nat) (c14 : (↑k4 : Int) < (↑e_0.Posts.length : Int)) (x15 : Tapi_Post) (h16 : e_0.Posts[k4]? = some x15) (r17 : (List UInt8)) (h18 : tollwayref49_texts v3 [x15.Account] = some r17) (r19 : (List UInt8)) (h20 : tollwayref49_ints r17 [x15.Cents] = some r19) (h21 : InR .i64 ((↑k4 : Int) + 1)) : Does Try.prog G0 1 (bodyAt Try.prog 45 [1, 1, 1, 0, 1, 0, 0]) (tollwayref49_entry_L5_H e_0 (v3, k4)) .normal (S 42 [(1, .ptr 0 0), (3, .lst (u8s r19) r19.length), (4, .int .i64 ((↑k4 : Int) + 1))] [{ c := (Tapi_Entry.enc e_0), e := 109, ext := false, fz := 0, pl := true, o := false }]) :=
  Does.of_viewM 1 400 (cs 4 ((.op none .a) :: (.br true) :: (cs 4 ((.op none (.i k4)) :: (.op none .c) :: (.op none (.v [.str x15.Account])) :: (.op none .c) :: (.tr (.frz [.t 31] [.str x15.Account] 1)) :: (.ret none [.lst (u8s v3) v3.length, .lst [.str x15.Account] 1] (.lst (u8s r17) r17.length) []) :: (cs 3 ((.op none (.i k4)) :: (.op none .c) :: (.op none (.v [.int .i64 x15.Cents])) :: (.op none .c) :: (.tr (.frz [.t 39] [.int .i64 x15.Cents] 1)) :: (.ret none [.lst (u8s r17) r17.length, .lst [.int .i64 x15.Cents] 1] (.lst (u8s r19) r19.length) []) :: (cs 2 [.op none .w, .op none .c]))))))) [0] (ps := [((decide ((↑k4 : Int) < (↑e_0.Posts.length : Int))) = true), ((↑k4 : Int) = ((k4 : Nat) : Int) ∧ k4 < e_0.Posts.length), ((fl Tapi_Post.enc e_0.Posts) ≠ []), (sub (fl Tapi_Post.enc e_0.Posts) (k4 * 2) 1 = [.str x15.Account]), (1 = 1 ∧ sub [.str x15.Account] 0 1 = [.str x15.Account] ∧ 1 = 1 ∧ 0 + 1 ≤ List.length ([.str x15.Account] : List AV) ∧ 1 ≤ 1), ((.lst (u8s v3) v3.length : AV) = .lst (u8s v3) v3.length), ((.lst [.str x15.Account] 1 : AV) = .lst [.str x15.Account] 1), (Ret Try.prog G0 44 [.lst (u8s v3) v3.length, .lst [.str x15.Account] 1] (.lst (u8s r17) r17.length) []), ((↑k4 : Int) = ((k4 : Nat) : Int) ∧ k4 < e_0.Posts.length), ((fl Tapi_Post.enc e_0.Posts) ≠ []), (sub (fl Tapi_Post.enc e_0.Posts) ((k4 * 2) + 1) 1 = [.int .i64 x15.Cents]), (2 = 2 ∧ sub [.int .i64 x15.Cents] 0 1 = [.int .i64 x15.Cents] ∧ 1 = 1 ∧ 0 + 1 ≤ List.length ([.int .i64 x15.Cents] : List AV) ∧ 1 ≤ 1), ((.lst (u8s r17) r17.length : AV) = .lst (u8s r17) r17.length), ((.lst [.int .i64 x15.Cents] 1 : AV) = .lst [.int .i64 x15.Cents] 1), (Ret Try.prog G0 42 [.lst (u8s r17) r17.length, .lst [.int .i64 x15.Cents] 1] (.lst (u8s r19) r19.length) []), (IntKind.min .i64 ≤ ((↑k4 : Int) + 1) ∧ ((↑k4 : Int) + 1) ≤ IntKind.max .i64)]) (by kernel_rfl) (by kernel_rfl) ⟨(decide_eq_true c14), ⟨rfl, get_lt h16⟩, (fl_ne (f := Tapi_Post.enc) (z := 1) (fun _ => rfl) h16), (fl_sub (f := Tapi_Post.enc) (z := 2) (j := k4) (a := 0) (n := 1) (fun _ => rfl) h16 (by decide) rfl), ⟨rfl, rfl, rfl, Nat.le_of_ble_eq_true rfl, Nat.le_of_ble_eq_true rfl⟩, rfl, rfl, (tollwayref49_texts_ret v3 [x15.Account] r17 h18), ⟨rfl, get_lt h16⟩, (fl_ne (f := Tapi_Post.enc) (z := 1) (fun _ => rfl) h16), (fl_sub (f := Tapi_Post.enc) (z := 2) (j := k4) (a := 1) (n := 1) (fun _ => rfl) h16 (by decide) rfl), ⟨rfl, rfl, rfl, Nat.le_of_ble_eq_true rfl, Nat.le_of_ble_eq_true rfl⟩, rfl, rfl, (tollwayref49_ints_ret r17 [x15.Cents] r19 h20), ok1 h21⟩
theorem tollwayref49_entry_L5_1 (e_0 : Tapi_Entry) (v3 : (List UInt8)) (k4 : Nat) (c14 : ¬ ((↑k4 : Int) < (↑e_0.Posts.length : Int))) : Does Try.prog G0 1 (bodyAt Try.prog 45 [1, 1, 1, 0, 1, 0, 0]) (tollwayref49_entry_L5_H e_0 (v3, k4)) (.exit 0) (S 42 [(3, .lst (u8s v3) v3.length)] [{ c := (Tapi_Entry.enc e_0), e := 109, ext := false, fz := 0, pl := true, o := false }]) :=
  Does.of_viewM 1 400 (cs 4 [.op none .a, .br false]) [0] (ps := [((decide ((↑k4 : Int) < (↑e_0.Posts.length : Int))) = false)]) (by kernel_rfl) (by kernel_rfl) (ok1 (decide_eq_false c14))
def tollwayref49_entry_L5_X (e_0 : Tapi_Entry) : (List UInt8) → AEx := fun o => (.exit 0)
def tollwayref49_entry_L5_E (e_0 : Tapi_Entry) : (List UInt8) → St := fun o => S 42 [(3, .lst (u8s o) o.length)] [{ c := (Tapi_Entry.enc e_0), e := 109, ext := false, fz := 0, pl := true, o := false }]
theorem tollwayref49_entry_L5_does (e_0 : Tapi_Entry) {s : ((List UInt8) × Nat)} {r : (List UInt8)} (h : lp (tollwayref49_entry_L5_step e_0) s = some r) : Does Try.prog G0 1 (.loop (bodyAt Try.prog 45 [1, 1, 1, 0, 1, 0, 0])) (tollwayref49_entry_L5_H e_0 s) (tollwayref49_entry_L5_X e_0 r) (tollwayref49_entry_L5_E e_0 r) := by
  refine Does.lp (H := tollwayref49_entry_L5_H e_0) (X := tollwayref49_entry_L5_X e_0) (E := tollwayref49_entry_L5_E e_0) (fun s s2 h => ?_) (fun s r h => ?_) h
  · obtain ⟨v3, k4⟩ := s
    unfold tollwayref49_entry_L5_step at h
    try dsimp only at h
    rcases ite_some h with ⟨c14, h⟩ | ⟨c14, h⟩
    · obtain ⟨x15, h16, h⟩ := bind_some h
      obtain ⟨r17, h18, h⟩ := bind_some h
      obtain ⟨r19, h20, h⟩ := bind_some h
      obtain ⟨h21, h⟩ := guard_some h
      simp only [Option.some.injEq, Sum.inl.injEq] at h
      subst h
      exact tollwayref49_entry_L5_0 e_0 v3 k4 c14 x15 h16 r17 h18 r19 h20 h21
    · simp at h
  · obtain ⟨v3, k4⟩ := s
    unfold tollwayref49_entry_L5_step at h
    try dsimp only at h
    rcases ite_some h with ⟨c14, h⟩ | ⟨c14, h⟩
    · obtain ⟨x15, h16, h⟩ := bind_some h
      obtain ⟨r17, h18, h⟩ := bind_some h
      obtain ⟨r19, h20, h⟩ := bind_some h
      obtain ⟨h21, h⟩ := guard_some h
      simp at h
    · simp only [Option.some.injEq, Sum.inr.injEq] at h
      subst h
      exact ⟨tollwayref49_entry_L5_1 e_0 v3 k4 c14, by intro q; cases q⟩
noncomputable def tollwayref49_entry (e_0 : Tapi_Entry) : Option (List UInt8) :=
  (tollwayref49_texts [] [e_0.Key]).bind fun r1 =>
  (tollwayref49_ints r1 [e_0.Time, (↑e_0.Posts.length : Int)]).bind fun r3 =>
  (lp (tollwayref49_entry_L5_step e_0) (r3, (0 : Nat))).bind fun o5 =>
  some o5
theorem tollwayref49_entry_0 (e_0 : Tapi_Entry) (r1 : (List UInt8)) (h2 : tollwayref49_texts [] [e_0.Key] = some r1) (r3 : (List UInt8)) (h4 : tollwayref49_ints r1 [e_0.Time, (↑e_0.Posts.length : Int)] = some r3) (o5 : (List UInt8)) (hl5 : lp (tollwayref49_entry_L5_step e_0) (r3, (0 : Nat)) = some o5) : Ret Try.prog G0 45 [.agg (Tapi_Entry.enc e_0)] (.lst (u8s o5) o5.length) [] :=
  Ret.of_view 400 (cs 5 ((.tr (.frz [.t 7] [.str e_0.Key] 1)) :: (.ret none [.lst [] 0, .lst [.str e_0.Key] 1] (.lst (u8s r1) r1.length) []) :: (cs 8 ((.tr (.frz [.t 15] [.int .i64 e_0.Time, .int .i64 (↑e_0.Posts.length : Int)] 2)) :: (.ret none [.lst (u8s r1) r1.length, .lst [.int .i64 e_0.Time, .int .i64 (↑e_0.Posts.length : Int)] 2] (.lst (u8s r3) r3.length) []) :: (cs 2 ((.fcut 1 (.exit 0) [(3, .lst (u8s o5) o5.length)] [{ c := (Tapi_Entry.enc e_0), e := 109, ext := false, fz := 0, pl := true, o := false }] [0] [(1, .ptr 0 0), (3, .lst (u8s r3) r3.length), (4, .int .i64 (↑(0 : Nat) : Int))] [{ c := (Tapi_Entry.enc e_0), e := 109, ext := false, fz := 0, pl := true, o := false }]) :: (cs 2 []))))))) [] (ps := [(1 = 1 ∧ sub [.str e_0.Key] 0 1 = [.str e_0.Key] ∧ 1 = 1 ∧ 0 + 1 ≤ List.length ([.str e_0.Key] : List AV) ∧ 1 ≤ 1), ((.lst [.str e_0.Key] 1 : AV) = .lst [.str e_0.Key] 1), (Ret Try.prog G0 44 [.lst [] 0, .lst [.str e_0.Key] 1] (.lst (u8s r1) r1.length) []), (2 = 2 ∧ sub [.int .i64 e_0.Time, .int .i64 (↑e_0.Posts.length : Int)] 0 2 = [.int .i64 e_0.Time, .int .i64 (↑e_0.Posts.length : Int)] ∧ 2 = 2 ∧ 0 + 2 ≤ List.length ([.int .i64 e_0.Time, .int .i64 (↑e_0.Posts.length : Int)] : List AV) ∧ 2 ≤ 2), ((.lst (u8s r1) r1.length : AV) = .lst (u8s r1) r1.length), ((.lst [.int .i64 e_0.Time, .int .i64 (↑e_0.Posts.length : Int)] 2 : AV) = .lst [.int .i64 e_0.Time, .int .i64 (↑e_0.Posts.length : Int)] 2), (Ret Try.prog G0 42 [.lst (u8s r1) r1.length, .lst [.int .i64 e_0.Time, .int .i64 (↑e_0.Posts.length : Int)] 2] (.lst (u8s r3) r3.length) []), ((.ptr 0 0 : AV) = .ptr 0 0), ((.lst (u8s r3) r3.length : AV) = .lst (u8s r3) r3.length), ((.int .i64 0 : AV) = .int .i64 (↑(0 : Nat) : Int)), (({ c := (Tapi_Entry.enc e_0), e := 109, ext := false, fz := 0, pl := true, o := false } : Blk) = renB [0] { c := (Tapi_Entry.enc e_0), e := 109, ext := false, fz := 0, pl := true, o := false }), (Does Try.prog G0 1 (.loop (bodyAt Try.prog 45 [1, 1, 1, 0, 1, 0, 0])) (S 42 [(1, .ptr 0 0), (3, .lst (u8s r3) r3.length), (4, .int .i64 (↑(0 : Nat) : Int))] [{ c := (Tapi_Entry.enc e_0), e := 109, ext := false, fz := 0, pl := true, o := false }]) (.exit 0) (S 42 [(3, .lst (u8s o5) o5.length)] [{ c := (Tapi_Entry.enc e_0), e := 109, ext := false, fz := 0, pl := true, o := false }]))]) (by kernel_rfl) (by kernel_rfl) ⟨⟨rfl, rfl, rfl, Nat.le_of_ble_eq_true rfl, Nat.le_of_ble_eq_true rfl⟩, rfl, (tollwayref49_texts_ret [] [e_0.Key] r1 h2), ⟨rfl, rfl, rfl, Nat.le_of_ble_eq_true rfl, Nat.le_of_ble_eq_true rfl⟩, rfl, rfl, (tollwayref49_ints_ret r1 [e_0.Time, (↑e_0.Posts.length : Int)] r3 h4), rfl, rfl, rfl, rfl, ok1 (tollwayref49_entry_L5_does e_0 hl5)⟩
theorem tollwayref49_entry_ret (e_0 : Tapi_Entry) (r : (List UInt8)) (h : tollwayref49_entry e_0 = some r) : Ret Try.prog G0 45 [.agg (Tapi_Entry.enc e_0)] (.lst (u8s r) r.length) [] := by
  unfold tollwayref49_entry at h
  obtain ⟨r1, h2, h⟩ := bind_some h
  obtain ⟨r3, h4, h⟩ := bind_some h
  obtain ⟨o5, hl5, h⟩ := bind_some h
  simp only [Option.some.injEq] at h
  subst h
  exact tollwayref49_entry_0 e_0 r1 h2 r3 h4 o5 hl5
noncomputable def tollwayref49_charge_L5_step (x_0 : Tapi_Charge) : ((List UInt8) × Nat) → Option (((List UInt8) × Nat) ⊕ (List UInt8))
  | (v3, k4) =>
    if (↑k4 : Int) < (↑x_0.Lines.length : Int) then
      (x_0.Lines[k4]?).bind fun x15 =>
      (tollwayref49_texts v3 [x15.Text]).bind fun r17 =>
      (tollwayref49_ints r17 [x15.Cents]).bind fun r19 =>
      if InR .i64 ((↑k4 : Int) + 1) then
        some (Sum.inl (r19, (k4 + 1)))
      else none
    else
      some (Sum.inr v3)
def tollwayref49_charge_L5_H (x_0 : Tapi_Charge) : ((List UInt8) × Nat) → St := fun (s : ((List UInt8) × Nat)) => S 52 [(1, .ptr 0 0), (3, .lst (u8s s.1) s.1.length), (4, .int .i64 (↑s.2 : Int))] [{ c := (Tapi_Charge.enc x_0), e := 113, ext := false, fz := 0, pl := true, o := false }]
theorem tollwayref49_charge_L5_0 (x_0 : Tapi_Charge) (v3 : (List UInt8)) (k4 : Nat) (c14 : (↑k4 : Int) < (↑x_0.Lines.length : Int)) (x15 : Tapi_Line) (h16 : x_0.Lines[k4]? = some x15) (r17 : (List UInt8)) (h18 : tollwayref49_texts v3 [x15.Text] = some r17) (r19 : (List UInt8)) (h20 : tollwayref49_ints r17 [x15.Cents] = some r19) (h21 : InR .i64 ((↑k4 : Int) + 1)) : Does Try.prog G0 1 (bodyAt Try.prog 46 [1, 1, 1, 0, 1, 0, 0]) (tollwayref49_charge_L5_H x_0 (v3, k4)) .normal (S 52 [(1, .ptr 0 0), (3, .lst (u8s r19) r19.length), (4, .int .i64 ((↑k4 : Int) + 1))] [{ c := (Tapi_Charge.enc x_0), e := 113, ext := false, fz := 0, pl := true, o := false }]) :=
  Does.of_viewM 1 400 (cs 4 ((.op none .a) :: (.br true) :: (cs 4 ((.op none (.i k4)) :: (.op none .c) :: (.op none (.v [.str x15.Text])) :: (.op none .c) :: (.tr (.frz [.t 37] [.str x15.Text] 1)) :: (.ret none [.lst (u8s v3) v3.length, .lst [.str x15.Text] 1] (.lst (u8s r17) r17.length) []) :: (cs 3 ((.op none (.i k4)) :: (.op none .c) :: (.op none (.v [.int .i64 x15.Cents])) :: (.op none .c) :: (.tr (.frz [.t 45] [.int .i64 x15.Cents] 1)) :: (.ret none [.lst (u8s r17) r17.length, .lst [.int .i64 x15.Cents] 1] (.lst (u8s r19) r19.length) []) :: (cs 2 [.op none .w, .op none .c]))))))) [0] (ps := [((decide ((↑k4 : Int) < (↑x_0.Lines.length : Int))) = true), ((↑k4 : Int) = ((k4 : Nat) : Int) ∧ k4 < x_0.Lines.length), ((fl Tapi_Line.enc x_0.Lines) ≠ []), (sub (fl Tapi_Line.enc x_0.Lines) (k4 * 2) 1 = [.str x15.Text]), (1 = 1 ∧ sub [.str x15.Text] 0 1 = [.str x15.Text] ∧ 1 = 1 ∧ 0 + 1 ≤ List.length ([.str x15.Text] : List AV) ∧ 1 ≤ 1), ((.lst (u8s v3) v3.length : AV) = .lst (u8s v3) v3.length), ((.lst [.str x15.Text] 1 : AV) = .lst [.str x15.Text] 1), (Ret Try.prog G0 44 [.lst (u8s v3) v3.length, .lst [.str x15.Text] 1] (.lst (u8s r17) r17.length) []), ((↑k4 : Int) = ((k4 : Nat) : Int) ∧ k4 < x_0.Lines.length), ((fl Tapi_Line.enc x_0.Lines) ≠ []), (sub (fl Tapi_Line.enc x_0.Lines) ((k4 * 2) + 1) 1 = [.int .i64 x15.Cents]), (2 = 2 ∧ sub [.int .i64 x15.Cents] 0 1 = [.int .i64 x15.Cents] ∧ 1 = 1 ∧ 0 + 1 ≤ List.length ([.int .i64 x15.Cents] : List AV) ∧ 1 ≤ 1), ((.lst (u8s r17) r17.length : AV) = .lst (u8s r17) r17.length), ((.lst [.int .i64 x15.Cents] 1 : AV) = .lst [.int .i64 x15.Cents] 1), (Ret Try.prog G0 42 [.lst (u8s r17) r17.length, .lst [.int .i64 x15.Cents] 1] (.lst (u8s r19) r19.length) []), (IntKind.min .i64 ≤ ((↑k4 : Int) + 1) ∧ ((↑k4 : Int) + 1) ≤ IntKind.max .i64)]) (by kernel_rfl) (by kernel_rfl) ⟨(decide_eq_true c14), ⟨rfl, get_lt h16⟩, (fl_ne (f := Tapi_Line.enc) (z := 1) (fun _ => rfl) h16), (fl_sub (f := Tapi_Line.enc) (z := 2) (j := k4) (a := 0) (n := 1) (fun _ => rfl) h16 (by decide) rfl), ⟨rfl, rfl, rfl, Nat.le_of_ble_eq_true rfl, Nat.le_of_ble_eq_true rfl⟩, rfl, rfl, (tollwayref49_texts_ret v3 [x15.Text] r17 h18), ⟨rfl, get_lt h16⟩, (fl_ne (f := Tapi_Line.enc) (z := 1) (fun _ => rfl) h16), (fl_sub (f := Tapi_Line.enc) (z := 2) (j := k4) (a := 1) (n := 1) (fun _ => rfl) h16 (by decide) rfl), ⟨rfl, rfl, rfl, Nat.le_of_ble_eq_true rfl, Nat.le_of_ble_eq_true rfl⟩, rfl, rfl, (tollwayref49_ints_ret r17 [x15.Cents] r19 h20), ok1 h21⟩
theorem tollwayref49_charge_L5_1 (x_0 : Tapi_Charge) (v3 : (List UInt8)) (k4 : Nat) (c14 : ¬ ((↑k4 : Int) < (↑x_0.Lines.length : Int))) : Does Try.prog G0 1 (bodyAt Try.prog 46 [1, 1, 1, 0, 1, 0, 0]) (tollwayref49_charge_L5_H x_0 (v3, k4)) (.exit 0) (S 52 [(1, .ptr 0 0), (3, .lst (u8s v3) v3.length)] [{ c := (Tapi_Charge.enc x_0), e := 113, ext := false, fz := 0, pl := true, o := false }]) :=
  Does.of_viewM 1 400 (cs 4 [.op none .a, .br false]) [0] (ps := [((decide ((↑k4 : Int) < (↑x_0.Lines.length : Int))) = false)]) (by kernel_rfl) (by kernel_rfl) (ok1 (decide_eq_false c14))
def tollwayref49_charge_L5_X (x_0 : Tapi_Charge) : (List UInt8) → AEx := fun o => (.exit 0)
def tollwayref49_charge_L5_E (x_0 : Tapi_Charge) : (List UInt8) → St := fun o => S 52 [(1, .ptr 0 0), (3, .lst (u8s o) o.length)] [{ c := (Tapi_Charge.enc x_0), e := 113, ext := false, fz := 0, pl := true, o := false }]
theorem tollwayref49_charge_L5_does (x_0 : Tapi_Charge) {s : ((List UInt8) × Nat)} {r : (List UInt8)} (h : lp (tollwayref49_charge_L5_step x_0) s = some r) : Does Try.prog G0 1 (.loop (bodyAt Try.prog 46 [1, 1, 1, 0, 1, 0, 0])) (tollwayref49_charge_L5_H x_0 s) (tollwayref49_charge_L5_X x_0 r) (tollwayref49_charge_L5_E x_0 r) := by
  refine Does.lp (H := tollwayref49_charge_L5_H x_0) (X := tollwayref49_charge_L5_X x_0) (E := tollwayref49_charge_L5_E x_0) (fun s s2 h => ?_) (fun s r h => ?_) h
  · obtain ⟨v3, k4⟩ := s
    unfold tollwayref49_charge_L5_step at h
    try dsimp only at h
    rcases ite_some h with ⟨c14, h⟩ | ⟨c14, h⟩
    · obtain ⟨x15, h16, h⟩ := bind_some h
      obtain ⟨r17, h18, h⟩ := bind_some h
      obtain ⟨r19, h20, h⟩ := bind_some h
      obtain ⟨h21, h⟩ := guard_some h
      simp only [Option.some.injEq, Sum.inl.injEq] at h
      subst h
      exact tollwayref49_charge_L5_0 x_0 v3 k4 c14 x15 h16 r17 h18 r19 h20 h21
    · simp at h
  · obtain ⟨v3, k4⟩ := s
    unfold tollwayref49_charge_L5_step at h
    try dsimp only at h
    rcases ite_some h with ⟨c14, h⟩ | ⟨c14, h⟩
    · obtain ⟨x15, h16, h⟩ := bind_some h
      obtain ⟨r17, h18, h⟩ := bind_some h
      obtain ⟨r19, h20, h⟩ := bind_some h
      obtain ⟨h21, h⟩ := guard_some h
      simp at h
    · simp only [Option.some.injEq, Sum.inr.injEq] at h
      subst h
      exact ⟨tollwayref49_charge_L5_1 x_0 v3 k4 c14, by intro q; cases q⟩
noncomputable def tollwayref49_charge (x_0 : Tapi_Charge) : Option (List UInt8) :=
  (tollwayref49_texts [] [x_0.Key, x_0.Vehicle, x_0.System]).bind fun r1 =>
  (tollwayref49_ints r1 [x_0.Class, x_0.Time, (↑x_0.Lines.length : Int)]).bind fun r3 =>
  (lp (tollwayref49_charge_L5_step x_0) (r3, (0 : Nat))).bind fun o5 =>
  (tollwayref49_ints o5 [x_0.Cents]).bind fun r22 =>
  some r22
theorem tollwayref49_charge_0 (x_0 : Tapi_Charge) (r1 : (List UInt8)) (h2 : tollwayref49_texts [] [x_0.Key, x_0.Vehicle, x_0.System] = some r1) (r3 : (List UInt8)) (h4 : tollwayref49_ints r1 [x_0.Class, x_0.Time, (↑x_0.Lines.length : Int)] = some r3) (o5 : (List UInt8)) (hl5 : lp (tollwayref49_charge_L5_step x_0) (r3, (0 : Nat)) = some o5) (r22 : (List UInt8)) (h23 : tollwayref49_ints o5 [x_0.Cents] = some r22) : Ret Try.prog G0 46 [.agg (Tapi_Charge.enc x_0)] (.lst (u8s r22) r22.length) [] :=
  Ret.of_view 400 (cs 9 ((.tr (.frz [.t 11] [.str x_0.Key, .str x_0.Vehicle, .str x_0.System] 3)) :: (.ret none [.lst [] 0, .lst [.str x_0.Key, .str x_0.Vehicle, .str x_0.System] 3] (.lst (u8s r1) r1.length) []) :: (cs 10 ((.tr (.frz [.t 21] [.int .i64 x_0.Class, .int .i64 x_0.Time, .int .i64 (↑x_0.Lines.length : Int)] 3)) :: (.ret none [.lst (u8s r1) r1.length, .lst [.int .i64 x_0.Class, .int .i64 x_0.Time, .int .i64 (↑x_0.Lines.length : Int)] 3] (.lst (u8s r3) r3.length) []) :: (cs 2 ((.fcut 1 (.exit 0) [(1, .ptr 0 0), (3, .lst (u8s o5) o5.length)] [{ c := (Tapi_Charge.enc x_0), e := 113, ext := false, fz := 0, pl := true, o := false }] [0] [(1, .ptr 0 0), (3, .lst (u8s r3) r3.length), (4, .int .i64 (↑(0 : Nat) : Int))] [{ c := (Tapi_Charge.enc x_0), e := 113, ext := false, fz := 0, pl := true, o := false }]) :: (cs 4 [.tr (.frz [.t 50] [.int .i64 x_0.Cents] 1), .ret none [.lst (u8s o5) o5.length, .lst [.int .i64 x_0.Cents] 1] (.lst (u8s r22) r22.length) [], .op none .c]))))))) [] (ps := [(1 = 1 ∧ sub [.str x_0.Key, .str x_0.Vehicle, .str x_0.System] 0 3 = [.str x_0.Key, .str x_0.Vehicle, .str x_0.System] ∧ 3 = 3 ∧ 0 + 3 ≤ List.length ([.str x_0.Key, .str x_0.Vehicle, .str x_0.System] : List AV) ∧ 3 ≤ 3), ((.lst [.str x_0.Key, .str x_0.Vehicle, .str x_0.System] 3 : AV) = .lst [.str x_0.Key, .str x_0.Vehicle, .str x_0.System] 3), (Ret Try.prog G0 44 [.lst [] 0, .lst [.str x_0.Key, .str x_0.Vehicle, .str x_0.System] 3] (.lst (u8s r1) r1.length) []), (2 = 2 ∧ sub [.int .i64 x_0.Class, .int .i64 x_0.Time, .int .i64 (↑x_0.Lines.length : Int)] 0 3 = [.int .i64 x_0.Class, .int .i64 x_0.Time, .int .i64 (↑x_0.Lines.length : Int)] ∧ 3 = 3 ∧ 0 + 3 ≤ List.length ([.int .i64 x_0.Class, .int .i64 x_0.Time, .int .i64 (↑x_0.Lines.length : Int)] : List AV) ∧ 3 ≤ 3), ((.lst (u8s r1) r1.length : AV) = .lst (u8s r1) r1.length), ((.lst [.int .i64 x_0.Class, .int .i64 x_0.Time, .int .i64 (↑x_0.Lines.length : Int)] 3 : AV) = .lst [.int .i64 x_0.Class, .int .i64 x_0.Time, .int .i64 (↑x_0.Lines.length : Int)] 3), (Ret Try.prog G0 42 [.lst (u8s r1) r1.length, .lst [.int .i64 x_0.Class, .int .i64 x_0.Time, .int .i64 (↑x_0.Lines.length : Int)] 3] (.lst (u8s r3) r3.length) []), ((.ptr 0 0 : AV) = .ptr 0 0), ((.lst (u8s r3) r3.length : AV) = .lst (u8s r3) r3.length), ((.int .i64 0 : AV) = .int .i64 (↑(0 : Nat) : Int)), (({ c := (Tapi_Charge.enc x_0), e := 113, ext := false, fz := 0, pl := true, o := false } : Blk) = renB [0] { c := (Tapi_Charge.enc x_0), e := 113, ext := false, fz := 0, pl := true, o := false }), (Does Try.prog G0 1 (.loop (bodyAt Try.prog 46 [1, 1, 1, 0, 1, 0, 0])) (S 52 [(1, .ptr 0 0), (3, .lst (u8s r3) r3.length), (4, .int .i64 (↑(0 : Nat) : Int))] [{ c := (Tapi_Charge.enc x_0), e := 113, ext := false, fz := 0, pl := true, o := false }]) (.exit 0) (S 52 [(1, .ptr 0 0), (3, .lst (u8s o5) o5.length)] [{ c := (Tapi_Charge.enc x_0), e := 113, ext := false, fz := 0, pl := true, o := false }])), (4 = 4 ∧ sub [.int .i64 x_0.Cents] 0 1 = [.int .i64 x_0.Cents] ∧ 1 = 1 ∧ 0 + 1 ≤ List.length ([.int .i64 x_0.Cents] : List AV) ∧ 1 ≤ 1), ((.lst (u8s o5) o5.length : AV) = .lst (u8s o5) o5.length), ((.lst [.int .i64 x_0.Cents] 1 : AV) = .lst [.int .i64 x_0.Cents] 1), (Ret Try.prog G0 42 [.lst (u8s o5) o5.length, .lst [.int .i64 x_0.Cents] 1] (.lst (u8s r22) r22.length) [])]) (by kernel_rfl) (by kernel_rfl) ⟨⟨rfl, rfl, rfl, Nat.le_of_ble_eq_true rfl, Nat.le_of_ble_eq_true rfl⟩, rfl, (tollwayref49_texts_ret [] [x_0.Key, x_0.Vehicle, x_0.System] r1 h2), ⟨rfl, rfl, rfl, Nat.le_of_ble_eq_true rfl, Nat.le_of_ble_eq_true rfl⟩, rfl, rfl, (tollwayref49_ints_ret r1 [x_0.Class, x_0.Time, (↑x_0.Lines.length : Int)] r3 h4), rfl, rfl, rfl, rfl, (tollwayref49_charge_L5_does x_0 hl5), ⟨rfl, rfl, rfl, Nat.le_of_ble_eq_true rfl, Nat.le_of_ble_eq_true rfl⟩, rfl, rfl, ok1 (tollwayref49_ints_ret o5 [x_0.Cents] r22 h23)⟩
theorem tollwayref49_charge_ret (x_0 : Tapi_Charge) (r : (List UInt8)) (h : tollwayref49_charge x_0 = some r) : Ret Try.prog G0 46 [.agg (Tapi_Charge.enc x_0)] (.lst (u8s r) r.length) [] := by
  unfold tollwayref49_charge at h
  obtain ⟨r1, h2, h⟩ := bind_some h
  obtain ⟨r3, h4, h⟩ := bind_some h
  obtain ⟨o5, hl5, h⟩ := bind_some h
  obtain ⟨r22, h23, h⟩ := bind_some h
  simp only [Option.some.injEq] at h
  subst h
  exact tollwayref49_charge_0 x_0 r1 h2 r3 h4 o5 hl5 r22 h23
noncomputable def store_Save_L5_step (s_0 : Tapi_State) : (Nat × (List UInt8)) → Option ((Nat × (List UInt8)) ⊕ (List UInt8))
  | (k45, b2) =>
    if (↑k45 : Int) < (↑s_0.Seen.length : Int) then
      (s_0.Seen[k45]?).bind fun x15 =>
      (store_putDetection [] x15.D).bind fun r17 =>
      (codec_PutFrame b2 2 r17).bind fun r19 =>
      if InR .i64 ((↑k45 : Int) + 1) then
        some (Sum.inl ((k45 + 1), r19))
      else none
    else
      some (Sum.inr b2)
def store_Save_L5_H (s_0 : Tapi_State) : (Nat × (List UInt8)) → St := fun (s : (Nat × (List UInt8))) => S 147 [(1, .ptr 0 0), (3, .vec 1 s.2.length 1), (43, .lst (fl Tapi_Seen.enc s_0.Seen) s_0.Seen.length), (44, .int .i64 (↑s_0.Seen.length : Int)), (45, .int .i64 (↑s.1 : Int))] [{ c := (Tapi_State.enc s_0), e := 64, ext := false, fz := 0, pl := true, o := false }, { c := (u8s s.2), e := 5, ext := true, fz := 0, pl := true, o := true }]
theorem store_Save_L5_0 (s_0 : Tapi_State) (k45 : Nat) (b2 : (List UInt8)) (c14 : (↑k45 : Int) < (↑s_0.Seen.length : Int)) (x15 : Tapi_Seen) (h16 : s_0.Seen[k45]? = some x15) (r17 : (List UInt8)) (h18 : store_putDetection [] x15.D = some r17) (r19 : (List UInt8)) (h20 : codec_PutFrame b2 2 r17 = some r19) (h21 : InR .i64 ((↑k45 : Int) + 1)) : Does Try.prog G0 1 (bodyAt Try.prog 15 [1, 1, 0, 1, 0, 0]) (store_Save_L5_H s_0 (k45, b2)) .normal (S 147 [(1, .ptr 0 0), (3, .vec 1 r19.length 1), (43, .lst (fl Tapi_Seen.enc s_0.Seen) s_0.Seen.length), (44, .int .i64 (↑s_0.Seen.length : Int)), (45, .int .i64 ((↑k45 : Int) + 1))] [{ c := (Tapi_State.enc s_0), e := 64, ext := false, fz := 0, pl := true, o := false }, { c := (u8s r19), e := 5, ext := true, fz := 0, pl := true, o := true }]) :=
  Does.of_viewM 1 400 ((.op none .a) :: (.br true) :: (.op none (.i k45)) :: (.op none (.v [.str x15.D.Device, .int .i64 x15.D.Seq, .int .i64 x15.D.Time, .str x15.D.Tag, .str x15.D.Plate, .int .i64 x15.D.Axles, .int .i64 x15.D.Score, .int .i64 x15.Time, .str x15.Point, .int .i64 x15.Lane, .int .i64 x15.Kind])) :: (cs 5 [.ret none [.lst [] 0, .agg (Tapi_Detection.enc x15.D)] (.lst (u8s r17) r17.length) [], .ret none [.lst (u8s b2) b2.length, .int .i64 2, .lst (u8s r17) r17.length] (.vec 0 r19.length 1) [{ c := (u8s r19), e := 5, ext := true, fz := 0, pl := true, o := true }], .op none .c, .op none .w, .op none .c])) [0, 3] (ps := [((decide ((↑k45 : Int) < (↑s_0.Seen.length : Int))) = true), ((↑k45 : Int) = ((k45 : Nat) : Int) ∧ k45 < s_0.Seen.length), ((fl Tapi_Seen.enc s_0.Seen) ≠ []), (sub (fl Tapi_Seen.enc s_0.Seen) (k45 * 11) 11 = [.str x15.D.Device, .int .i64 x15.D.Seq, .int .i64 x15.D.Time, .str x15.D.Tag, .str x15.D.Plate, .int .i64 x15.D.Axles, .int .i64 x15.D.Score, .int .i64 x15.Time, .str x15.Point, .int .i64 x15.Lane, .int .i64 x15.Kind]), ((.agg (Tapi_Detection.enc x15.D) : AV) = .agg (Tapi_Detection.enc x15.D)), (Ret Try.prog G0 39 [.lst [] 0, .agg (Tapi_Detection.enc x15.D)] (.lst (u8s r17) r17.length) []), ((u8s b2) = (u8s b2) ∧ b2.length = b2.length ∧ List.length ((u8s b2) : List AV) = b2.length), ((.int .i64 2 : AV) = .int .i64 2), ((.lst (u8s r17) r17.length : AV) = .lst (u8s r17) r17.length), (datBlks [{ c := (u8s r19), e := 5, ext := true, fz := 0, pl := true, o := true }]), (Ret Try.prog G0 37 [.lst (u8s b2) b2.length, .int .i64 2, .lst (u8s r17) r17.length] (.vec 0 r19.length 1) [{ c := (u8s r19), e := 5, ext := true, fz := 0, pl := true, o := true }]), (IntKind.min .i64 ≤ ((↑k45 : Int) + 1) ∧ ((↑k45 : Int) + 1) ≤ IntKind.max .i64)]) (by kernel_rfl) (by kernel_rfl) ⟨(decide_eq_true c14), ⟨rfl, get_lt h16⟩, (fl_ne (f := Tapi_Seen.enc) (z := 10) (fun _ => rfl) h16), (fl_sub0 (f := Tapi_Seen.enc) (z := 11) (j := k45) (fun _ => rfl) h16 rfl), rfl, (store_putDetection_ret [] x15.D r17 h18), ⟨rfl, rfl, u8s_length⟩, rfl, rfl, ⟨u8s_dat, trivial⟩, (codec_PutFrame_ret b2 2 r17 r19 h20), ok1 h21⟩
theorem store_Save_L5_1 (s_0 : Tapi_State) (k45 : Nat) (b2 : (List UInt8)) (c14 : ¬ ((↑k45 : Int) < (↑s_0.Seen.length : Int))) : Does Try.prog G0 1 (bodyAt Try.prog 15 [1, 1, 0, 1, 0, 0]) (store_Save_L5_H s_0 (k45, b2)) (.exit 0) (S 147 [(1, .ptr 0 0), (3, .vec 1 b2.length 1)] [{ c := (Tapi_State.enc s_0), e := 64, ext := false, fz := 0, pl := true, o := false }, { c := (u8s b2), e := 5, ext := true, fz := 0, pl := true, o := true }]) :=
  Does.of_viewM 1 400 [.op none .a, .br false] [0, 1] (ps := [((decide ((↑k45 : Int) < (↑s_0.Seen.length : Int))) = false)]) (by kernel_rfl) (by kernel_rfl) (ok1 (decide_eq_false c14))
def store_Save_L5_X (s_0 : Tapi_State) : (List UInt8) → AEx := fun o => (.exit 0)
def store_Save_L5_E (s_0 : Tapi_State) : (List UInt8) → St := fun o => S 147 [(1, .ptr 0 0), (3, .vec 1 o.length 1)] [{ c := (Tapi_State.enc s_0), e := 64, ext := false, fz := 0, pl := true, o := false }, { c := (u8s o), e := 5, ext := true, fz := 0, pl := true, o := true }]
theorem store_Save_L5_does (s_0 : Tapi_State) {s : (Nat × (List UInt8))} {r : (List UInt8)} (h : lp (store_Save_L5_step s_0) s = some r) : Does Try.prog G0 1 (.loop (bodyAt Try.prog 15 [1, 1, 0, 1, 0, 0])) (store_Save_L5_H s_0 s) (store_Save_L5_X s_0 r) (store_Save_L5_E s_0 r) := by
  refine Does.lp (H := store_Save_L5_H s_0) (X := store_Save_L5_X s_0) (E := store_Save_L5_E s_0) (fun s s2 h => ?_) (fun s r h => ?_) h
  · obtain ⟨k45, b2⟩ := s
    unfold store_Save_L5_step at h
    try dsimp only at h
    rcases ite_some h with ⟨c14, h⟩ | ⟨c14, h⟩
    · obtain ⟨x15, h16, h⟩ := bind_some h
      obtain ⟨r17, h18, h⟩ := bind_some h
      obtain ⟨r19, h20, h⟩ := bind_some h
      obtain ⟨h21, h⟩ := guard_some h
      simp only [Option.some.injEq, Sum.inl.injEq] at h
      subst h
      exact store_Save_L5_0 s_0 k45 b2 c14 x15 h16 r17 h18 r19 h20 h21
    · simp at h
  · obtain ⟨k45, b2⟩ := s
    unfold store_Save_L5_step at h
    try dsimp only at h
    rcases ite_some h with ⟨c14, h⟩ | ⟨c14, h⟩
    · obtain ⟨x15, h16, h⟩ := bind_some h
      obtain ⟨r17, h18, h⟩ := bind_some h
      obtain ⟨r19, h20, h⟩ := bind_some h
      obtain ⟨h21, h⟩ := guard_some h
      simp at h
    · simp only [Option.some.injEq, Sum.inr.injEq] at h
      subst h
      exact ⟨store_Save_L5_1 s_0 k45 b2 c14, by intro q; cases q⟩
noncomputable def store_Save_L22_step (s_0 : Tapi_State) : (Nat × (List UInt8)) → Option ((Nat × (List UInt8)) ⊕ (List UInt8))
  | (k58, b4) =>
    if (↑k58 : Int) < (↑s_0.Rejects.length : Int) then
      (s_0.Rejects[k58]?).bind fun x34 =>
      (store_putDetection [] x34.D).bind fun r36 =>
      (store_putInts r36 [x34.Why]).bind fun r38 =>
      (codec_PutFrame b4 3 r38).bind fun r40 =>
      if InR .i64 ((↑k58 : Int) + 1) then
        some (Sum.inl ((k58 + 1), r40))
      else none
    else
      some (Sum.inr b4)
def store_Save_L22_H (s_0 : Tapi_State) : (Nat × (List UInt8)) → St := fun (s : (Nat × (List UInt8))) => S 147 [(1, .ptr 0 0), (3, .vec 1 s.2.length 1), (56, .lst (fl Tapi_Reject.enc s_0.Rejects) s_0.Rejects.length), (57, .int .i64 (↑s_0.Rejects.length : Int)), (58, .int .i64 (↑s.1 : Int))] [{ c := (Tapi_State.enc s_0), e := 64, ext := false, fz := 0, pl := true, o := false }, { c := (u8s s.2), e := 5, ext := true, fz := 0, pl := true, o := true }]
theorem store_Save_L22_0 (s_0 : Tapi_State) (k58 : Nat) (b4 : (List UInt8)) (c33 : (↑k58 : Int) < (↑s_0.Rejects.length : Int)) (x34 : Tapi_Reject) (h35 : s_0.Rejects[k58]? = some x34) (r36 : (List UInt8)) (h37 : store_putDetection [] x34.D = some r36) (r38 : (List UInt8)) (h39 : store_putInts r36 [x34.Why] = some r38) (r40 : (List UInt8)) (h41 : codec_PutFrame b4 3 r38 = some r40) (h42 : InR .i64 ((↑k58 : Int) + 1)) : Does Try.prog G0 1 (bodyAt Try.prog 15 [1, 1, 1, 0, 1, 0, 0]) (store_Save_L22_H s_0 (k58, b4)) .normal (S 147 [(1, .ptr 0 0), (3, .vec 1 r40.length 1), (56, .lst (fl Tapi_Reject.enc s_0.Rejects) s_0.Rejects.length), (57, .int .i64 (↑s_0.Rejects.length : Int)), (58, .int .i64 ((↑k58 : Int) + 1))] [{ c := (Tapi_State.enc s_0), e := 64, ext := false, fz := 0, pl := true, o := false }, { c := (u8s r40), e := 5, ext := true, fz := 0, pl := true, o := true }]) :=
  Does.of_viewM 1 400 ((.op none .a) :: (.br true) :: (.op none (.i k58)) :: (.op none (.v [.str x34.D.Device, .int .i64 x34.D.Seq, .int .i64 x34.D.Time, .str x34.D.Tag, .str x34.D.Plate, .int .i64 x34.D.Axles, .int .i64 x34.D.Score, .int .i64 x34.Why])) :: (cs 5 ((.ret none [.lst [] 0, .agg (Tapi_Detection.enc x34.D)] (.lst (u8s r36) r36.length) []) :: (cs 3 [.tr (.frz [.t 68] [.int .i64 x34.Why] 1), .ret none [.lst (u8s r36) r36.length, .lst [.int .i64 x34.Why] 1] (.lst (u8s r38) r38.length) [], .ret none [.lst (u8s b4) b4.length, .int .i64 3, .lst (u8s r38) r38.length] (.vec 0 r40.length 1) [{ c := (u8s r40), e := 5, ext := true, fz := 0, pl := true, o := true }], .op none .c, .op none .w, .op none .c])))) [0, 4] (ps := [((decide ((↑k58 : Int) < (↑s_0.Rejects.length : Int))) = true), ((↑k58 : Int) = ((k58 : Nat) : Int) ∧ k58 < s_0.Rejects.length), ((fl Tapi_Reject.enc s_0.Rejects) ≠ []), (sub (fl Tapi_Reject.enc s_0.Rejects) (k58 * 8) 8 = [.str x34.D.Device, .int .i64 x34.D.Seq, .int .i64 x34.D.Time, .str x34.D.Tag, .str x34.D.Plate, .int .i64 x34.D.Axles, .int .i64 x34.D.Score, .int .i64 x34.Why]), ((.agg (Tapi_Detection.enc x34.D) : AV) = .agg (Tapi_Detection.enc x34.D)), (Ret Try.prog G0 39 [.lst [] 0, .agg (Tapi_Detection.enc x34.D)] (.lst (u8s r36) r36.length) []), (3 = 3 ∧ sub [.int .i64 x34.Why] 0 1 = [.int .i64 x34.Why] ∧ 1 = 1 ∧ 0 + 1 ≤ List.length ([.int .i64 x34.Why] : List AV) ∧ 1 ≤ 1), ((.lst (u8s r36) r36.length : AV) = .lst (u8s r36) r36.length), ((.lst [.int .i64 x34.Why] 1 : AV) = .lst [.int .i64 x34.Why] 1), (Ret Try.prog G0 38 [.lst (u8s r36) r36.length, .lst [.int .i64 x34.Why] 1] (.lst (u8s r38) r38.length) []), ((u8s b4) = (u8s b4) ∧ b4.length = b4.length ∧ List.length ((u8s b4) : List AV) = b4.length), ((.int .i64 3 : AV) = .int .i64 3), ((.lst (u8s r38) r38.length : AV) = .lst (u8s r38) r38.length), (datBlks [{ c := (u8s r40), e := 5, ext := true, fz := 0, pl := true, o := true }]), (Ret Try.prog G0 37 [.lst (u8s b4) b4.length, .int .i64 3, .lst (u8s r38) r38.length] (.vec 0 r40.length 1) [{ c := (u8s r40), e := 5, ext := true, fz := 0, pl := true, o := true }]), ((some (Ob.blk { c := (u8s b4), e := 5, ext := true, fz := 0, pl := true, o := true }) = some (Ob.blk { c := (u8s b4), e := 5, ext := true, fz := 0, pl := true, o := true })) ∧ True), (IntKind.min .i64 ≤ ((↑k58 : Int) + 1) ∧ ((↑k58 : Int) + 1) ≤ IntKind.max .i64)]) (by kernel_rfl) (by kernel_rfl) ⟨(decide_eq_true c33), ⟨rfl, get_lt h35⟩, (fl_ne (f := Tapi_Reject.enc) (z := 7) (fun _ => rfl) h35), (fl_sub0 (f := Tapi_Reject.enc) (z := 8) (j := k58) (fun _ => rfl) h35 rfl), rfl, (store_putDetection_ret [] x34.D r36 h37), ⟨rfl, rfl, rfl, Nat.le_of_ble_eq_true rfl, Nat.le_of_ble_eq_true rfl⟩, rfl, rfl, (store_putInts_ret r36 [x34.Why] r38 h39), ⟨rfl, rfl, u8s_length⟩, rfl, rfl, ⟨u8s_dat, trivial⟩, (codec_PutFrame_ret b4 3 r38 r40 h41), ⟨rfl, trivial⟩, ok1 h42⟩
theorem store_Save_L22_1 (s_0 : Tapi_State) (k58 : Nat) (b4 : (List UInt8)) (c33 : ¬ ((↑k58 : Int) < (↑s_0.Rejects.length : Int))) : Does Try.prog G0 1 (bodyAt Try.prog 15 [1, 1, 1, 0, 1, 0, 0]) (store_Save_L22_H s_0 (k58, b4)) (.exit 2) (S 147 [(1, .ptr 0 0), (3, .vec 1 b4.length 1)] [{ c := (Tapi_State.enc s_0), e := 64, ext := false, fz := 0, pl := true, o := false }, { c := (u8s b4), e := 5, ext := true, fz := 0, pl := true, o := true }]) :=
  Does.of_viewM 1 400 [.op none .a, .br false] [0, 1] (ps := [((decide ((↑k58 : Int) < (↑s_0.Rejects.length : Int))) = false)]) (by kernel_rfl) (by kernel_rfl) (ok1 (decide_eq_false c33))
def store_Save_L22_X (s_0 : Tapi_State) : (List UInt8) → AEx := fun o => (.exit 2)
def store_Save_L22_E (s_0 : Tapi_State) : (List UInt8) → St := fun o => S 147 [(1, .ptr 0 0), (3, .vec 1 o.length 1)] [{ c := (Tapi_State.enc s_0), e := 64, ext := false, fz := 0, pl := true, o := false }, { c := (u8s o), e := 5, ext := true, fz := 0, pl := true, o := true }]
theorem store_Save_L22_does (s_0 : Tapi_State) {s : (Nat × (List UInt8))} {r : (List UInt8)} (h : lp (store_Save_L22_step s_0) s = some r) : Does Try.prog G0 1 (.loop (bodyAt Try.prog 15 [1, 1, 1, 0, 1, 0, 0])) (store_Save_L22_H s_0 s) (store_Save_L22_X s_0 r) (store_Save_L22_E s_0 r) := by
  refine Does.lp (H := store_Save_L22_H s_0) (X := store_Save_L22_X s_0) (E := store_Save_L22_E s_0) (fun s s2 h => ?_) (fun s r h => ?_) h
  · obtain ⟨k58, b4⟩ := s
    unfold store_Save_L22_step at h
    try dsimp only at h
    rcases ite_some h with ⟨c33, h⟩ | ⟨c33, h⟩
    · obtain ⟨x34, h35, h⟩ := bind_some h
      obtain ⟨r36, h37, h⟩ := bind_some h
      obtain ⟨r38, h39, h⟩ := bind_some h
      obtain ⟨r40, h41, h⟩ := bind_some h
      obtain ⟨h42, h⟩ := guard_some h
      simp only [Option.some.injEq, Sum.inl.injEq] at h
      subst h
      exact store_Save_L22_0 s_0 k58 b4 c33 x34 h35 r36 h37 r38 h39 r40 h41 h42
    · simp at h
  · obtain ⟨k58, b4⟩ := s
    unfold store_Save_L22_step at h
    try dsimp only at h
    rcases ite_some h with ⟨c33, h⟩ | ⟨c33, h⟩
    · obtain ⟨x34, h35, h⟩ := bind_some h
      obtain ⟨r36, h37, h⟩ := bind_some h
      obtain ⟨r38, h39, h⟩ := bind_some h
      obtain ⟨r40, h41, h⟩ := bind_some h
      obtain ⟨h42, h⟩ := guard_some h
      simp at h
    · simp only [Option.some.injEq, Sum.inr.injEq] at h
      subst h
      exact ⟨store_Save_L22_1 s_0 k58 b4 c33, by intro q; cases q⟩
noncomputable def store_Save_L43_step (s_0 : Tapi_State) : (Nat × (List UInt8)) → Option ((Nat × (List UInt8)) ⊕ (List UInt8))
  | (k75, b6) =>
    if (↑k75 : Int) < (↑s_0.Parked.length : Int) then
      (s_0.Parked[k75]?).bind fun x57 =>
      (store_putInts [] [x57.Kind]).bind fun r59 =>
      (store_putTexts r59 [x57.Zone, x57.Plate]).bind fun r61 =>
      (store_putInts r61 [x57.Time, x57.Until]).bind fun r63 =>
      (codec_PutFrame b6 4 r63).bind fun r65 =>
      if InR .i64 ((↑k75 : Int) + 1) then
        some (Sum.inl ((k75 + 1), r65))
      else none
    else
      some (Sum.inr b6)
def store_Save_L43_H (s_0 : Tapi_State) : (Nat × (List UInt8)) → St := fun (s : (Nat × (List UInt8))) => S 147 [(1, .ptr 0 0), (3, .vec 1 s.2.length 1), (73, .lst (fl Tapi_Parked.enc s_0.Parked) s_0.Parked.length), (74, .int .i64 (↑s_0.Parked.length : Int)), (75, .int .i64 (↑s.1 : Int))] [{ c := (Tapi_State.enc s_0), e := 64, ext := false, fz := 0, pl := true, o := false }, { c := (u8s s.2), e := 5, ext := true, fz := 0, pl := true, o := true }]
theorem store_Save_L43_0 (s_0 : Tapi_State) (k75 : Nat) (b6 : (List UInt8)) (c56 : (↑k75 : Int) < (↑s_0.Parked.length : Int)) (x57 : Tapi_Parked) (h58 : s_0.Parked[k75]? = some x57) (r59 : (List UInt8)) (h60 : store_putInts [] [x57.Kind] = some r59) (r61 : (List UInt8)) (h62 : store_putTexts r59 [x57.Zone, x57.Plate] = some r61) (r63 : (List UInt8)) (h64 : store_putInts r61 [x57.Time, x57.Until] = some r63) (r65 : (List UInt8)) (h66 : codec_PutFrame b6 4 r63 = some r65) (h67 : InR .i64 ((↑k75 : Int) + 1)) : Does Try.prog G0 1 (bodyAt Try.prog 15 [1, 1, 1, 1, 0, 1, 0, 0]) (store_Save_L43_H s_0 (k75, b6)) .normal (S 147 [(1, .ptr 0 0), (3, .vec 1 r65.length 1), (73, .lst (fl Tapi_Parked.enc s_0.Parked) s_0.Parked.length), (74, .int .i64 (↑s_0.Parked.length : Int)), (75, .int .i64 ((↑k75 : Int) + 1))] [{ c := (Tapi_State.enc s_0), e := 64, ext := false, fz := 0, pl := true, o := false }, { c := (u8s r65), e := 5, ext := true, fz := 0, pl := true, o := true }]) :=
  Does.of_viewM 1 400 ((.op none .a) :: (.br true) :: (.op none (.i k75)) :: (.op none (.v [.int .i64 x57.Kind, .str x57.Zone, .str x57.Plate, .int .i64 x57.Time, .int .i64 x57.Until])) :: (cs 5 ((.tr (.frz [.t 81] [.int .i64 x57.Kind] 1)) :: (.ret none [.lst [] 0, .lst [.int .i64 x57.Kind] 1] (.lst (u8s r59) r59.length) []) :: (cs 5 ((.tr (.frz [.t 87] [.str x57.Zone, .str x57.Plate] 2)) :: (.ret none [.lst (u8s r59) r59.length, .lst [.str x57.Zone, .str x57.Plate] 2] (.lst (u8s r61) r61.length) []) :: (cs 8 [.tr (.frz [.t 95] [.int .i64 x57.Time, .int .i64 x57.Until] 2), .ret none [.lst (u8s r61) r61.length, .lst [.int .i64 x57.Time, .int .i64 x57.Until] 2] (.lst (u8s r63) r63.length) [], .ret none [.lst (u8s b6) b6.length, .int .i64 4, .lst (u8s r63) r63.length] (.vec 0 r65.length 1) [{ c := (u8s r65), e := 5, ext := true, fz := 0, pl := true, o := true }], .op none .c, .op none .w, .op none .c])))))) [0, 6] (ps := [((decide ((↑k75 : Int) < (↑s_0.Parked.length : Int))) = true), ((↑k75 : Int) = ((k75 : Nat) : Int) ∧ k75 < s_0.Parked.length), ((fl Tapi_Parked.enc s_0.Parked) ≠ []), (sub (fl Tapi_Parked.enc s_0.Parked) (k75 * 5) 5 = [.int .i64 x57.Kind, .str x57.Zone, .str x57.Plate, .int .i64 x57.Time, .int .i64 x57.Until]), (3 = 3 ∧ sub [.int .i64 x57.Kind] 0 1 = [.int .i64 x57.Kind] ∧ 1 = 1 ∧ 0 + 1 ≤ List.length ([.int .i64 x57.Kind] : List AV) ∧ 1 ≤ 1), ((.lst [.int .i64 x57.Kind] 1 : AV) = .lst [.int .i64 x57.Kind] 1), (Ret Try.prog G0 38 [.lst [] 0, .lst [.int .i64 x57.Kind] 1] (.lst (u8s r59) r59.length) []), (4 = 4 ∧ sub [.str x57.Zone, .str x57.Plate] 0 2 = [.str x57.Zone, .str x57.Plate] ∧ 2 = 2 ∧ 0 + 2 ≤ List.length ([.str x57.Zone, .str x57.Plate] : List AV) ∧ 2 ≤ 2), ((.lst (u8s r59) r59.length : AV) = .lst (u8s r59) r59.length), ((.lst [.str x57.Zone, .str x57.Plate] 2 : AV) = .lst [.str x57.Zone, .str x57.Plate] 2), (Ret Try.prog G0 40 [.lst (u8s r59) r59.length, .lst [.str x57.Zone, .str x57.Plate] 2] (.lst (u8s r61) r61.length) []), (5 = 5 ∧ sub [.int .i64 x57.Time, .int .i64 x57.Until] 0 2 = [.int .i64 x57.Time, .int .i64 x57.Until] ∧ 2 = 2 ∧ 0 + 2 ≤ List.length ([.int .i64 x57.Time, .int .i64 x57.Until] : List AV) ∧ 2 ≤ 2), ((.lst (u8s r61) r61.length : AV) = .lst (u8s r61) r61.length), ((.lst [.int .i64 x57.Time, .int .i64 x57.Until] 2 : AV) = .lst [.int .i64 x57.Time, .int .i64 x57.Until] 2), (Ret Try.prog G0 38 [.lst (u8s r61) r61.length, .lst [.int .i64 x57.Time, .int .i64 x57.Until] 2] (.lst (u8s r63) r63.length) []), ((u8s b6) = (u8s b6) ∧ b6.length = b6.length ∧ List.length ((u8s b6) : List AV) = b6.length), ((.int .i64 4 : AV) = .int .i64 4), ((.lst (u8s r63) r63.length : AV) = .lst (u8s r63) r63.length), (datBlks [{ c := (u8s r65), e := 5, ext := true, fz := 0, pl := true, o := true }]), (Ret Try.prog G0 37 [.lst (u8s b6) b6.length, .int .i64 4, .lst (u8s r63) r63.length] (.vec 0 r65.length 1) [{ c := (u8s r65), e := 5, ext := true, fz := 0, pl := true, o := true }]), (IntKind.min .i64 ≤ ((↑k75 : Int) + 1) ∧ ((↑k75 : Int) + 1) ≤ IntKind.max .i64)]) (by kernel_rfl) (by kernel_rfl) ⟨(decide_eq_true c56), ⟨rfl, get_lt h58⟩, (fl_ne (f := Tapi_Parked.enc) (z := 4) (fun _ => rfl) h58), (fl_sub0 (f := Tapi_Parked.enc) (z := 5) (j := k75) (fun _ => rfl) h58 rfl), ⟨rfl, rfl, rfl, Nat.le_of_ble_eq_true rfl, Nat.le_of_ble_eq_true rfl⟩, rfl, (store_putInts_ret [] [x57.Kind] r59 h60), ⟨rfl, rfl, rfl, Nat.le_of_ble_eq_true rfl, Nat.le_of_ble_eq_true rfl⟩, rfl, rfl, (store_putTexts_ret r59 [x57.Zone, x57.Plate] r61 h62), ⟨rfl, rfl, rfl, Nat.le_of_ble_eq_true rfl, Nat.le_of_ble_eq_true rfl⟩, rfl, rfl, (store_putInts_ret r61 [x57.Time, x57.Until] r63 h64), ⟨rfl, rfl, u8s_length⟩, rfl, rfl, ⟨u8s_dat, trivial⟩, (codec_PutFrame_ret b6 4 r63 r65 h66), ok1 h67⟩
theorem store_Save_L43_1 (s_0 : Tapi_State) (k75 : Nat) (b6 : (List UInt8)) (c56 : ¬ ((↑k75 : Int) < (↑s_0.Parked.length : Int))) : Does Try.prog G0 1 (bodyAt Try.prog 15 [1, 1, 1, 1, 0, 1, 0, 0]) (store_Save_L43_H s_0 (k75, b6)) (.exit 4) (S 147 [(1, .ptr 0 0), (3, .vec 1 b6.length 1)] [{ c := (Tapi_State.enc s_0), e := 64, ext := false, fz := 0, pl := true, o := false }, { c := (u8s b6), e := 5, ext := true, fz := 0, pl := true, o := true }]) :=
  Does.of_viewM 1 400 [.op none .a, .br false] [0, 1] (ps := [((decide ((↑k75 : Int) < (↑s_0.Parked.length : Int))) = false)]) (by kernel_rfl) (by kernel_rfl) (ok1 (decide_eq_false c56))
def store_Save_L43_X (s_0 : Tapi_State) : (List UInt8) → AEx := fun o => (.exit 4)
def store_Save_L43_E (s_0 : Tapi_State) : (List UInt8) → St := fun o => S 147 [(1, .ptr 0 0), (3, .vec 1 o.length 1)] [{ c := (Tapi_State.enc s_0), e := 64, ext := false, fz := 0, pl := true, o := false }, { c := (u8s o), e := 5, ext := true, fz := 0, pl := true, o := true }]
theorem store_Save_L43_does (s_0 : Tapi_State) {s : (Nat × (List UInt8))} {r : (List UInt8)} (h : lp (store_Save_L43_step s_0) s = some r) : Does Try.prog G0 1 (.loop (bodyAt Try.prog 15 [1, 1, 1, 1, 0, 1, 0, 0])) (store_Save_L43_H s_0 s) (store_Save_L43_X s_0 r) (store_Save_L43_E s_0 r) := by
  refine Does.lp (H := store_Save_L43_H s_0) (X := store_Save_L43_X s_0) (E := store_Save_L43_E s_0) (fun s s2 h => ?_) (fun s r h => ?_) h
  · obtain ⟨k75, b6⟩ := s
    unfold store_Save_L43_step at h
    try dsimp only at h
    rcases ite_some h with ⟨c56, h⟩ | ⟨c56, h⟩
    · obtain ⟨x57, h58, h⟩ := bind_some h
      obtain ⟨r59, h60, h⟩ := bind_some h
      obtain ⟨r61, h62, h⟩ := bind_some h
      obtain ⟨r63, h64, h⟩ := bind_some h
      obtain ⟨r65, h66, h⟩ := bind_some h
      obtain ⟨h67, h⟩ := guard_some h
      simp only [Option.some.injEq, Sum.inl.injEq] at h
      subst h
      exact store_Save_L43_0 s_0 k75 b6 c56 x57 h58 r59 h60 r61 h62 r63 h64 r65 h66 h67
    · simp at h
  · obtain ⟨k75, b6⟩ := s
    unfold store_Save_L43_step at h
    try dsimp only at h
    rcases ite_some h with ⟨c56, h⟩ | ⟨c56, h⟩
    · obtain ⟨x57, h58, h⟩ := bind_some h
      obtain ⟨r59, h60, h⟩ := bind_some h
      obtain ⟨r61, h62, h⟩ := bind_some h
      obtain ⟨r63, h64, h⟩ := bind_some h
      obtain ⟨r65, h66, h⟩ := bind_some h
      obtain ⟨h67, h⟩ := guard_some h
      simp at h
    · simp only [Option.some.injEq, Sum.inr.injEq] at h
      subst h
      exact ⟨store_Save_L43_1 s_0 k75 b6 c56, by intro q; cases q⟩
noncomputable def store_Save_L70_step (s_0 : Tapi_State) : ((List UInt8) × Nat) → Option (((List UInt8) × Nat) ⊕ (List UInt8))
  | (v3, k106) =>
    if (↑k106 : Int) < (↑s_0.Cases.length : Int) then
      (s_0.Cases[k106]?).bind fun x82 =>
      (store_putTexts [] [x82.ID, x82.Plate, x82.Key]).bind fun r84 =>
      (store_putInts r84 [x82.Begun, x82.Since, x82.Stage, x82.Owed, x82.Paid, x82.Paused, x82.Appeal.State, x82.Appeal.Ground, x82.Appeal.Day]).bind fun r86 =>
      (codec_PutFrame v3 7 r86).bind fun r88 =>
      if InR .i64 ((↑k106 : Int) + 1) then
        some (Sum.inl (r88, (k106 + 1)))
      else none
    else
      some (Sum.inr v3)
def store_Save_L70_H (s_0 : Tapi_State) : ((List UInt8) × Nat) → St := fun (s : ((List UInt8) × Nat)) => S 147 [(3, .lst (u8s s.1) s.1.length), (104, .lst (fl Tapi_Case.enc s_0.Cases) s_0.Cases.length), (105, .int .i64 (↑s_0.Cases.length : Int)), (106, .int .i64 (↑s.2 : Int))] []
theorem store_Save_L70_0 (s_0 : Tapi_State) (v3 : (List UInt8)) (k106 : Nat) (c81 : (↑k106 : Int) < (↑s_0.Cases.length : Int)) (x82 : Tapi_Case) (h83 : s_0.Cases[k106]? = some x82) (r84 : (List UInt8)) (h85 : store_putTexts [] [x82.ID, x82.Plate, x82.Key] = some r84) (r86 : (List UInt8)) (h87 : store_putInts r84 [x82.Begun, x82.Since, x82.Stage, x82.Owed, x82.Paid, x82.Paused, x82.Appeal.State, x82.Appeal.Ground, x82.Appeal.Day] = some r86) (r88 : (List UInt8)) (h89 : codec_PutFrame v3 7 r86 = some r88) (h90 : InR .i64 ((↑k106 : Int) + 1)) : Does Try.prog G0 0 (bodyAt Try.prog 15 [1, 1, 1, 1, 1, 1, 0, 1, 0, 0]) (store_Save_L70_H s_0 (v3, k106)) .normal (S 147 [(3, .lst (u8s r88) r88.length), (104, .lst (fl Tapi_Case.enc s_0.Cases) s_0.Cases.length), (105, .int .i64 (↑s_0.Cases.length : Int)), (106, .int .i64 ((↑k106 : Int) + 1))] []) :=
  Does.of_viewM 0 400 ((.op none .a) :: (.br true) :: (.op none (.i k106)) :: (.op none (.v [.str x82.ID, .str x82.Plate, .str x82.Key, .int .i64 x82.Begun, .int .i64 x82.Since, .int .i64 x82.Stage, .int .i64 x82.Owed, .int .i64 x82.Paid, .int .i64 x82.Paused, .int .i64 x82.Appeal.State, .int .i64 x82.Appeal.Ground, .int .i64 x82.Appeal.Day])) :: (cs 9 ((.tr (.frz [.t 116] [.str x82.ID, .str x82.Plate, .str x82.Key] 3)) :: (.ret none [.lst [] 0, .lst [.str x82.ID, .str x82.Plate, .str x82.Key] 3] (.lst (u8s r84) r84.length) []) :: (cs 24 ((.tr (.frz [.t 140] [.int .i64 x82.Begun, .int .i64 x82.Since, .int .i64 x82.Stage, .int .i64 x82.Owed, .int .i64 x82.Paid, .int .i64 x82.Paused, .int .i64 x82.Appeal.State, .int .i64 x82.Appeal.Ground, .int .i64 x82.Appeal.Day] 9)) :: (.ret none [.lst (u8s r84) r84.length, .lst [.int .i64 x82.Begun, .int .i64 x82.Since, .int .i64 x82.Stage, .int .i64 x82.Owed, .int .i64 x82.Paid, .int .i64 x82.Paused, .int .i64 x82.Appeal.State, .int .i64 x82.Appeal.Ground, .int .i64 x82.Appeal.Day] 9] (.lst (u8s r86) r86.length) []) :: (cs 3 [.ret none [.lst (u8s v3) v3.length, .int .i64 7, .lst (u8s r86) r86.length] (.vec 0 r88.length 1) [{ c := (u8s r88), e := 5, ext := true, fz := 0, pl := true, o := true }], .op none .c, .op none .w, .op none .c, .tr (.frz [.t 3, .t 144] (u8s r88) r88.length)])))))) [] (ps := [((decide ((↑k106 : Int) < (↑s_0.Cases.length : Int))) = true), ((↑k106 : Int) = ((k106 : Nat) : Int) ∧ k106 < s_0.Cases.length), ((fl Tapi_Case.enc s_0.Cases) ≠ []), (sub (fl Tapi_Case.enc s_0.Cases) (k106 * 12) 12 = [.str x82.ID, .str x82.Plate, .str x82.Key, .int .i64 x82.Begun, .int .i64 x82.Since, .int .i64 x82.Stage, .int .i64 x82.Owed, .int .i64 x82.Paid, .int .i64 x82.Paused, .int .i64 x82.Appeal.State, .int .i64 x82.Appeal.Ground, .int .i64 x82.Appeal.Day]), (1 = 1 ∧ sub [.str x82.ID, .str x82.Plate, .str x82.Key] 0 3 = [.str x82.ID, .str x82.Plate, .str x82.Key] ∧ 3 = 3 ∧ 0 + 3 ≤ List.length ([.str x82.ID, .str x82.Plate, .str x82.Key] : List AV) ∧ 3 ≤ 3), ((.lst [.str x82.ID, .str x82.Plate, .str x82.Key] 3 : AV) = .lst [.str x82.ID, .str x82.Plate, .str x82.Key] 3), (Ret Try.prog G0 40 [.lst [] 0, .lst [.str x82.ID, .str x82.Plate, .str x82.Key] 3] (.lst (u8s r84) r84.length) []), (2 = 2 ∧ sub [.int .i64 x82.Begun, .int .i64 x82.Since, .int .i64 x82.Stage, .int .i64 x82.Owed, .int .i64 x82.Paid, .int .i64 x82.Paused, .int .i64 x82.Appeal.State, .int .i64 x82.Appeal.Ground, .int .i64 x82.Appeal.Day] 0 9 = [.int .i64 x82.Begun, .int .i64 x82.Since, .int .i64 x82.Stage, .int .i64 x82.Owed, .int .i64 x82.Paid, .int .i64 x82.Paused, .int .i64 x82.Appeal.State, .int .i64 x82.Appeal.Ground, .int .i64 x82.Appeal.Day] ∧ 9 = 9 ∧ 0 + 9 ≤ List.length ([.int .i64 x82.Begun, .int .i64 x82.Since, .int .i64 x82.Stage, .int .i64 x82.Owed, .int .i64 x82.Paid, .int .i64 x82.Paused, .int .i64 x82.Appeal.State, .int .i64 x82.Appeal.Ground, .int .i64 x82.Appeal.Day] : List AV) ∧ 9 ≤ 9), ((.lst (u8s r84) r84.length : AV) = .lst (u8s r84) r84.length), ((.lst [.int .i64 x82.Begun, .int .i64 x82.Since, .int .i64 x82.Stage, .int .i64 x82.Owed, .int .i64 x82.Paid, .int .i64 x82.Paused, .int .i64 x82.Appeal.State, .int .i64 x82.Appeal.Ground, .int .i64 x82.Appeal.Day] 9 : AV) = .lst [.int .i64 x82.Begun, .int .i64 x82.Since, .int .i64 x82.Stage, .int .i64 x82.Owed, .int .i64 x82.Paid, .int .i64 x82.Paused, .int .i64 x82.Appeal.State, .int .i64 x82.Appeal.Ground, .int .i64 x82.Appeal.Day] 9), (Ret Try.prog G0 38 [.lst (u8s r84) r84.length, .lst [.int .i64 x82.Begun, .int .i64 x82.Since, .int .i64 x82.Stage, .int .i64 x82.Owed, .int .i64 x82.Paid, .int .i64 x82.Paused, .int .i64 x82.Appeal.State, .int .i64 x82.Appeal.Ground, .int .i64 x82.Appeal.Day] 9] (.lst (u8s r86) r86.length) []), ((.lst (u8s v3) v3.length : AV) = .lst (u8s v3) v3.length), ((.int .i64 7 : AV) = .int .i64 7), ((.lst (u8s r86) r86.length : AV) = .lst (u8s r86) r86.length), (Ret Try.prog G0 37 [.lst (u8s v3) v3.length, .int .i64 7, .lst (u8s r86) r86.length] (.vec 0 r88.length 1) [{ c := (u8s r88), e := 5, ext := true, fz := 0, pl := true, o := true }]), (IntKind.min .i64 ≤ ((↑k106 : Int) + 1) ∧ ((↑k106 : Int) + 1) ≤ IntKind.max .i64), (3 = 3 ∧ (u8s r88) = (u8s r88) ∧ r88.length = r88.length ∧ List.length ((u8s r88) : List AV) = r88.length), (3 = 3 ∧ (u8s r88) = (u8s r88) ∧ r88.length = r88.length ∧ List.length ((u8s r88) : List AV) = r88.length)]) (by kernel_rfl) (by kernel_rfl) ⟨(decide_eq_true c81), ⟨rfl, get_lt h83⟩, (fl_ne (f := Tapi_Case.enc) (z := 11) (fun _ => rfl) h83), (fl_sub0 (f := Tapi_Case.enc) (z := 12) (j := k106) (fun _ => rfl) h83 rfl), ⟨rfl, rfl, rfl, Nat.le_of_ble_eq_true rfl, Nat.le_of_ble_eq_true rfl⟩, rfl, (store_putTexts_ret [] [x82.ID, x82.Plate, x82.Key] r84 h85), ⟨rfl, rfl, rfl, Nat.le_of_ble_eq_true rfl, Nat.le_of_ble_eq_true rfl⟩, rfl, rfl, (store_putInts_ret r84 [x82.Begun, x82.Since, x82.Stage, x82.Owed, x82.Paid, x82.Paused, x82.Appeal.State, x82.Appeal.Ground, x82.Appeal.Day] r86 h87), rfl, rfl, rfl, (codec_PutFrame_ret v3 7 r86 r88 h89), h90, ⟨rfl, rfl, rfl, u8s_length⟩, ok1 ⟨rfl, rfl, rfl, u8s_length⟩⟩
theorem store_Save_L70_1 (s_0 : Tapi_State) (v3 : (List UInt8)) (k106 : Nat) (c81 : ¬ ((↑k106 : Int) < (↑s_0.Cases.length : Int))) : Does Try.prog G0 0 (bodyAt Try.prog 15 [1, 1, 1, 1, 1, 1, 0, 1, 0, 0]) (store_Save_L70_H s_0 (v3, k106)) (.exit 6) (S 147 [(3, .lst (u8s v3) v3.length)] []) :=
  Does.of_viewM 0 400 [.op none .a, .br false] [] (ps := [((decide ((↑k106 : Int) < (↑s_0.Cases.length : Int))) = false)]) (by kernel_rfl) (by kernel_rfl) (ok1 (decide_eq_false c81))
def store_Save_L70_X (s_0 : Tapi_State) : (List UInt8) → AEx := fun o => (.exit 6)
def store_Save_L70_E (s_0 : Tapi_State) : (List UInt8) → St := fun o => S 147 [(3, .lst (u8s o) o.length)] []
theorem store_Save_L70_does (s_0 : Tapi_State) {s : ((List UInt8) × Nat)} {r : (List UInt8)} (h : lp (store_Save_L70_step s_0) s = some r) : Does Try.prog G0 0 (.loop (bodyAt Try.prog 15 [1, 1, 1, 1, 1, 1, 0, 1, 0, 0])) (store_Save_L70_H s_0 s) (store_Save_L70_X s_0 r) (store_Save_L70_E s_0 r) := by
  refine Does.lp (H := store_Save_L70_H s_0) (X := store_Save_L70_X s_0) (E := store_Save_L70_E s_0) (fun s s2 h => ?_) (fun s r h => ?_) h
  · obtain ⟨v3, k106⟩ := s
    unfold store_Save_L70_step at h
    try dsimp only at h
    rcases ite_some h with ⟨c81, h⟩ | ⟨c81, h⟩
    · obtain ⟨x82, h83, h⟩ := bind_some h
      obtain ⟨r84, h85, h⟩ := bind_some h
      obtain ⟨r86, h87, h⟩ := bind_some h
      obtain ⟨r88, h89, h⟩ := bind_some h
      obtain ⟨h90, h⟩ := guard_some h
      simp only [Option.some.injEq, Sum.inl.injEq] at h
      subst h
      exact store_Save_L70_0 s_0 v3 k106 c81 x82 h83 r84 h85 r86 h87 r88 h89 h90
    · simp at h
  · obtain ⟨v3, k106⟩ := s
    unfold store_Save_L70_step at h
    try dsimp only at h
    rcases ite_some h with ⟨c81, h⟩ | ⟨c81, h⟩
    · obtain ⟨x82, h83, h⟩ := bind_some h
      obtain ⟨r84, h85, h⟩ := bind_some h
      obtain ⟨r86, h87, h⟩ := bind_some h
      obtain ⟨r88, h89, h⟩ := bind_some h
      obtain ⟨h90, h⟩ := guard_some h
      simp at h
    · simp only [Option.some.injEq, Sum.inr.injEq] at h
      subst h
      exact ⟨store_Save_L70_1 s_0 v3 k106 c81, by intro q; cases q⟩
noncomputable def store_Save (s_0 : Tapi_State) : Option (List UInt8) :=
  (store_putInts [] [1, s_0.Closed, s_0.Count, (↑s_0.Seen.length : Int), (↑s_0.Rejects.length : Int), (↑s_0.Parked.length : Int), (↑s_0.Books.Ledger.Entries.length : Int), (↑s_0.Books.Done.length : Int), (↑s_0.Cases.length : Int)]).bind fun r1 =>
  (codec_PutFrame [] 1 r1).bind fun r3 =>
  (lp (store_Save_L5_step s_0) ((0 : Nat), r3)).bind fun o5 =>
  (lp (store_Save_L22_step s_0) ((0 : Nat), o5)).bind fun o22 =>
  (lp (store_Save_L43_step s_0) ((0 : Nat), o22)).bind fun o43 =>
  (store_putBooks o43 s_0.Books).bind fun r68 =>
  (lp (store_Save_L70_step s_0) (r68, (0 : Nat))).bind fun o70 =>
  some o70
theorem store_Save_0 (s_0 : Tapi_State) (r1 : (List UInt8)) (h2 : store_putInts [] [1, s_0.Closed, s_0.Count, (↑s_0.Seen.length : Int), (↑s_0.Rejects.length : Int), (↑s_0.Parked.length : Int), (↑s_0.Books.Ledger.Entries.length : Int), (↑s_0.Books.Done.length : Int), (↑s_0.Cases.length : Int)] = some r1) (r3 : (List UInt8)) (h4 : codec_PutFrame [] 1 r1 = some r3) (o5 : (List UInt8)) (hl5 : lp (store_Save_L5_step s_0) ((0 : Nat), r3) = some o5) (o22 : (List UInt8)) (hl22 : lp (store_Save_L22_step s_0) ((0 : Nat), o5) = some o22) (o43 : (List UInt8)) (hl43 : lp (store_Save_L43_step s_0) ((0 : Nat), o22) = some o43) (r68 : (List UInt8)) (h69 : store_putBooks o43 s_0.Books = some r68) (o70 : (List UInt8)) (hl70 : lp (store_Save_L70_step s_0) (r68, (0 : Nat)) = some o70) : Ret Try.prog G0 15 [.agg (Tapi_State.enc s_0)] (.lst (u8s o70) o70.length) [] :=
  Ret.of_view 400 (cs 28 ((.tr (.frz [.t 39] [.int .i64 1, .int .i64 s_0.Closed, .int .i64 s_0.Count, .int .i64 (↑s_0.Seen.length : Int), .int .i64 (↑s_0.Rejects.length : Int), .int .i64 (↑s_0.Parked.length : Int), .int .i64 (↑s_0.Books.Ledger.Entries.length : Int), .int .i64 (↑s_0.Books.Done.length : Int), .int .i64 (↑s_0.Cases.length : Int)] 9)) :: (.ret none [.lst [] 0, .lst [.int .i64 1, .int .i64 s_0.Closed, .int .i64 s_0.Count, .int .i64 (↑s_0.Seen.length : Int), .int .i64 (↑s_0.Rejects.length : Int), .int .i64 (↑s_0.Parked.length : Int), .int .i64 (↑s_0.Books.Ledger.Entries.length : Int), .int .i64 (↑s_0.Books.Done.length : Int), .int .i64 (↑s_0.Cases.length : Int)] 9] (.lst (u8s r1) r1.length) []) :: (.ret none [.lst [] 0, .int .i64 1, .lst (u8s r1) r1.length] (.vec 0 r3.length 1) [{ c := (u8s r3), e := 5, ext := true, fz := 0, pl := true, o := true }]) :: (cs 5 ((.fcut 1 (.exit 0) [(1, .ptr 0 0), (3, .vec 1 o5.length 1)] [{ c := (Tapi_State.enc s_0), e := 64, ext := false, fz := 0, pl := true, o := false }, { c := (u8s o5), e := 5, ext := true, fz := 0, pl := true, o := true }] [0, 2] [(1, .ptr 0 0), (3, .vec 1 r3.length 1), (43, .lst (fl Tapi_Seen.enc s_0.Seen) s_0.Seen.length), (44, .int .i64 (↑s_0.Seen.length : Int)), (45, .int .i64 (↑(0 : Nat) : Int))] [{ c := (Tapi_State.enc s_0), e := 64, ext := false, fz := 0, pl := true, o := false }, { c := (u8s r3), e := 5, ext := true, fz := 0, pl := true, o := true }]) :: (cs 4 ((.fcut 1 (.exit 2) [(1, .ptr 0 0), (3, .vec 1 o22.length 1)] [{ c := (Tapi_State.enc s_0), e := 64, ext := false, fz := 0, pl := true, o := false }, { c := (u8s o22), e := 5, ext := true, fz := 0, pl := true, o := true }] [0, 4] [(1, .ptr 0 0), (3, .vec 1 o5.length 1), (56, .lst (fl Tapi_Reject.enc s_0.Rejects) s_0.Rejects.length), (57, .int .i64 (↑s_0.Rejects.length : Int)), (58, .int .i64 (↑(0 : Nat) : Int))] [{ c := (Tapi_State.enc s_0), e := 64, ext := false, fz := 0, pl := true, o := false }, { c := (u8s o5), e := 5, ext := true, fz := 0, pl := true, o := true }]) :: (cs 4 ((.fcut 1 (.exit 4) [(1, .ptr 0 0), (3, .vec 1 o43.length 1)] [{ c := (Tapi_State.enc s_0), e := 64, ext := false, fz := 0, pl := true, o := false }, { c := (u8s o43), e := 5, ext := true, fz := 0, pl := true, o := true }] [0, 6] [(1, .ptr 0 0), (3, .vec 1 o22.length 1), (73, .lst (fl Tapi_Parked.enc s_0.Parked) s_0.Parked.length), (74, .int .i64 (↑s_0.Parked.length : Int)), (75, .int .i64 (↑(0 : Nat) : Int))] [{ c := (Tapi_State.enc s_0), e := 64, ext := false, fz := 0, pl := true, o := false }, { c := (u8s o22), e := 5, ext := true, fz := 0, pl := true, o := true }]) :: (cs 3 ((.tr (.frz [.t 3, .t 99] (u8s o43) o43.length)) :: (.ret none [.lst (u8s o43) o43.length, .agg (Tapi_Books.enc s_0.Books)] (.lst (u8s r68) r68.length) []) :: (cs 5 ((.fcut 0 (.exit 6) [(3, .lst (u8s o70) o70.length)] [] [] [(3, .lst (u8s r68) r68.length), (104, .lst (fl Tapi_Case.enc s_0.Cases) s_0.Cases.length), (105, .int .i64 (↑s_0.Cases.length : Int)), (106, .int .i64 (↑(0 : Nat) : Int))] []) :: (cs 2 []))))))))))))) [] (ps := [(1 = 1 ∧ sub [.int .i64 1, .int .i64 s_0.Closed, .int .i64 s_0.Count, .int .i64 (↑s_0.Seen.length : Int), .int .i64 (↑s_0.Rejects.length : Int), .int .i64 (↑s_0.Parked.length : Int), .int .i64 (↑s_0.Books.Ledger.Entries.length : Int), .int .i64 (↑s_0.Books.Done.length : Int), .int .i64 (↑s_0.Cases.length : Int)] 0 9 = [.int .i64 1, .int .i64 s_0.Closed, .int .i64 s_0.Count, .int .i64 (↑s_0.Seen.length : Int), .int .i64 (↑s_0.Rejects.length : Int), .int .i64 (↑s_0.Parked.length : Int), .int .i64 (↑s_0.Books.Ledger.Entries.length : Int), .int .i64 (↑s_0.Books.Done.length : Int), .int .i64 (↑s_0.Cases.length : Int)] ∧ 9 = 9 ∧ 0 + 9 ≤ List.length ([.int .i64 1, .int .i64 s_0.Closed, .int .i64 s_0.Count, .int .i64 (↑s_0.Seen.length : Int), .int .i64 (↑s_0.Rejects.length : Int), .int .i64 (↑s_0.Parked.length : Int), .int .i64 (↑s_0.Books.Ledger.Entries.length : Int), .int .i64 (↑s_0.Books.Done.length : Int), .int .i64 (↑s_0.Cases.length : Int)] : List AV) ∧ 9 ≤ 9), ((.lst [.int .i64 1, .int .i64 s_0.Closed, .int .i64 s_0.Count, .int .i64 (↑s_0.Seen.length : Int), .int .i64 (↑s_0.Rejects.length : Int), .int .i64 (↑s_0.Parked.length : Int), .int .i64 (↑s_0.Books.Ledger.Entries.length : Int), .int .i64 (↑s_0.Books.Done.length : Int), .int .i64 (↑s_0.Cases.length : Int)] 9 : AV) = .lst [.int .i64 1, .int .i64 s_0.Closed, .int .i64 s_0.Count, .int .i64 (↑s_0.Seen.length : Int), .int .i64 (↑s_0.Rejects.length : Int), .int .i64 (↑s_0.Parked.length : Int), .int .i64 (↑s_0.Books.Ledger.Entries.length : Int), .int .i64 (↑s_0.Books.Done.length : Int), .int .i64 (↑s_0.Cases.length : Int)] 9), (Ret Try.prog G0 38 [.lst [] 0, .lst [.int .i64 1, .int .i64 s_0.Closed, .int .i64 s_0.Count, .int .i64 (↑s_0.Seen.length : Int), .int .i64 (↑s_0.Rejects.length : Int), .int .i64 (↑s_0.Parked.length : Int), .int .i64 (↑s_0.Books.Ledger.Entries.length : Int), .int .i64 (↑s_0.Books.Done.length : Int), .int .i64 (↑s_0.Cases.length : Int)] 9] (.lst (u8s r1) r1.length) []), ((.int .i64 1 : AV) = .int .i64 1), ((.lst (u8s r1) r1.length : AV) = .lst (u8s r1) r1.length), (Ret Try.prog G0 37 [.lst [] 0, .int .i64 1, .lst (u8s r1) r1.length] (.vec 0 r3.length 1) [{ c := (u8s r3), e := 5, ext := true, fz := 0, pl := true, o := true }]), ((.ptr 0 0 : AV) = .ptr 0 0), ((.vec 2 r3.length 1 : AV) = .vec 2 r3.length 1), ((.lst (fl Tapi_Seen.enc s_0.Seen) s_0.Seen.length : AV) = .lst (fl Tapi_Seen.enc s_0.Seen) s_0.Seen.length), ((.int .i64 (↑s_0.Seen.length : Int) : AV) = .int .i64 (↑s_0.Seen.length : Int)), ((.int .i64 0 : AV) = .int .i64 (↑(0 : Nat) : Int)), (({ c := (Tapi_State.enc s_0), e := 64, ext := false, fz := 0, pl := true, o := false } : Blk) = renB [0, 2] { c := (Tapi_State.enc s_0), e := 64, ext := false, fz := 0, pl := true, o := false }), (({ c := (u8s r3), e := 5, ext := true, fz := 0, pl := true, o := true } : Blk) = renB [0, 2] { c := (u8s r3), e := 5, ext := true, fz := 0, pl := true, o := true }), (Does Try.prog G0 1 (.loop (bodyAt Try.prog 15 [1, 1, 0, 1, 0, 0])) (S 147 [(1, .ptr 0 0), (3, .vec 1 r3.length 1), (43, .lst (fl Tapi_Seen.enc s_0.Seen) s_0.Seen.length), (44, .int .i64 (↑s_0.Seen.length : Int)), (45, .int .i64 (↑(0 : Nat) : Int))] [{ c := (Tapi_State.enc s_0), e := 64, ext := false, fz := 0, pl := true, o := false }, { c := (u8s r3), e := 5, ext := true, fz := 0, pl := true, o := true }]) (.exit 0) (S 147 [(1, .ptr 0 0), (3, .vec 1 o5.length 1)] [{ c := (Tapi_State.enc s_0), e := 64, ext := false, fz := 0, pl := true, o := false }, { c := (u8s o5), e := 5, ext := true, fz := 0, pl := true, o := true }])), ((.ptr 0 0 : AV) = .ptr 0 0), ((.vec 4 o5.length 1 : AV) = .vec 4 o5.length 1), ((.lst (fl Tapi_Reject.enc s_0.Rejects) s_0.Rejects.length : AV) = .lst (fl Tapi_Reject.enc s_0.Rejects) s_0.Rejects.length), ((.int .i64 (↑s_0.Rejects.length : Int) : AV) = .int .i64 (↑s_0.Rejects.length : Int)), ((.int .i64 0 : AV) = .int .i64 (↑(0 : Nat) : Int)), (({ c := (Tapi_State.enc s_0), e := 64, ext := false, fz := 0, pl := true, o := false } : Blk) = renB [0, 4] { c := (Tapi_State.enc s_0), e := 64, ext := false, fz := 0, pl := true, o := false }), (({ c := (u8s o5), e := 5, ext := true, fz := 0, pl := true, o := true } : Blk) = renB [0, 4] { c := (u8s o5), e := 5, ext := true, fz := 0, pl := true, o := true }), (Does Try.prog G0 1 (.loop (bodyAt Try.prog 15 [1, 1, 1, 0, 1, 0, 0])) (S 147 [(1, .ptr 0 0), (3, .vec 1 o5.length 1), (56, .lst (fl Tapi_Reject.enc s_0.Rejects) s_0.Rejects.length), (57, .int .i64 (↑s_0.Rejects.length : Int)), (58, .int .i64 (↑(0 : Nat) : Int))] [{ c := (Tapi_State.enc s_0), e := 64, ext := false, fz := 0, pl := true, o := false }, { c := (u8s o5), e := 5, ext := true, fz := 0, pl := true, o := true }]) (.exit 2) (S 147 [(1, .ptr 0 0), (3, .vec 1 o22.length 1)] [{ c := (Tapi_State.enc s_0), e := 64, ext := false, fz := 0, pl := true, o := false }, { c := (u8s o22), e := 5, ext := true, fz := 0, pl := true, o := true }])), ((.ptr 0 0 : AV) = .ptr 0 0), ((.vec 6 o22.length 1 : AV) = .vec 6 o22.length 1), ((.lst (fl Tapi_Parked.enc s_0.Parked) s_0.Parked.length : AV) = .lst (fl Tapi_Parked.enc s_0.Parked) s_0.Parked.length), ((.int .i64 (↑s_0.Parked.length : Int) : AV) = .int .i64 (↑s_0.Parked.length : Int)), ((.int .i64 0 : AV) = .int .i64 (↑(0 : Nat) : Int)), (({ c := (Tapi_State.enc s_0), e := 64, ext := false, fz := 0, pl := true, o := false } : Blk) = renB [0, 6] { c := (Tapi_State.enc s_0), e := 64, ext := false, fz := 0, pl := true, o := false }), (({ c := (u8s o22), e := 5, ext := true, fz := 0, pl := true, o := true } : Blk) = renB [0, 6] { c := (u8s o22), e := 5, ext := true, fz := 0, pl := true, o := true }), (Does Try.prog G0 1 (.loop (bodyAt Try.prog 15 [1, 1, 1, 1, 0, 1, 0, 0])) (S 147 [(1, .ptr 0 0), (3, .vec 1 o22.length 1), (73, .lst (fl Tapi_Parked.enc s_0.Parked) s_0.Parked.length), (74, .int .i64 (↑s_0.Parked.length : Int)), (75, .int .i64 (↑(0 : Nat) : Int))] [{ c := (Tapi_State.enc s_0), e := 64, ext := false, fz := 0, pl := true, o := false }, { c := (u8s o22), e := 5, ext := true, fz := 0, pl := true, o := true }]) (.exit 4) (S 147 [(1, .ptr 0 0), (3, .vec 1 o43.length 1)] [{ c := (Tapi_State.enc s_0), e := 64, ext := false, fz := 0, pl := true, o := false }, { c := (u8s o43), e := 5, ext := true, fz := 0, pl := true, o := true }])), (8 = 8 ∧ (u8s o43) = (u8s o43) ∧ o43.length = o43.length ∧ List.length ((u8s o43) : List AV) = o43.length), (8 = 8 ∧ (u8s o43) = (u8s o43) ∧ o43.length = o43.length ∧ List.length ((u8s o43) : List AV) = o43.length), ((.lst (u8s o43) o43.length : AV) = .lst (u8s o43) o43.length), ((.agg (Tapi_Books.enc s_0.Books) : AV) = .agg (Tapi_Books.enc s_0.Books)), (Ret Try.prog G0 41 [.lst (u8s o43) o43.length, .agg (Tapi_Books.enc s_0.Books)] (.lst (u8s r68) r68.length) []), ((.lst (u8s r68) r68.length : AV) = .lst (u8s r68) r68.length), ((.lst (fl Tapi_Case.enc s_0.Cases) s_0.Cases.length : AV) = .lst (fl Tapi_Case.enc s_0.Cases) s_0.Cases.length), ((.int .i64 (↑s_0.Cases.length : Int) : AV) = .int .i64 (↑s_0.Cases.length : Int)), ((.int .i64 0 : AV) = .int .i64 (↑(0 : Nat) : Int)), (Does Try.prog G0 0 (.loop (bodyAt Try.prog 15 [1, 1, 1, 1, 1, 1, 0, 1, 0, 0])) (S 147 [(3, .lst (u8s r68) r68.length), (104, .lst (fl Tapi_Case.enc s_0.Cases) s_0.Cases.length), (105, .int .i64 (↑s_0.Cases.length : Int)), (106, .int .i64 (↑(0 : Nat) : Int))] []) (.exit 6) (S 147 [(3, .lst (u8s o70) o70.length)] []))]) (by kernel_rfl) (by kernel_rfl) ⟨⟨rfl, rfl, rfl, Nat.le_of_ble_eq_true rfl, Nat.le_of_ble_eq_true rfl⟩, rfl, (store_putInts_ret [] [1, s_0.Closed, s_0.Count, (↑s_0.Seen.length : Int), (↑s_0.Rejects.length : Int), (↑s_0.Parked.length : Int), (↑s_0.Books.Ledger.Entries.length : Int), (↑s_0.Books.Done.length : Int), (↑s_0.Cases.length : Int)] r1 h2), rfl, rfl, (codec_PutFrame_ret [] 1 r1 r3 h4), rfl, rfl, rfl, rfl, rfl, rfl, rfl, (store_Save_L5_does s_0 hl5), rfl, rfl, rfl, rfl, rfl, rfl, rfl, (store_Save_L22_does s_0 hl22), rfl, rfl, rfl, rfl, rfl, rfl, rfl, (store_Save_L43_does s_0 hl43), ⟨rfl, rfl, rfl, u8s_length⟩, ⟨rfl, rfl, rfl, u8s_length⟩, rfl, rfl, (store_putBooks_ret o43 s_0.Books r68 h69), rfl, rfl, rfl, rfl, ok1 (store_Save_L70_does s_0 hl70)⟩
theorem store_Save_ret (s_0 : Tapi_State) (r : (List UInt8)) (h : store_Save s_0 = some r) : Ret Try.prog G0 15 [.agg (Tapi_State.enc s_0)] (.lst (u8s r) r.length) [] := by
  unfold store_Save at h
  obtain ⟨r1, h2, h⟩ := bind_some h
  obtain ⟨r3, h4, h⟩ := bind_some h
  obtain ⟨o5, hl5, h⟩ := bind_some h
  obtain ⟨o22, hl22, h⟩ := bind_some h
  obtain ⟨o43, hl43, h⟩ := bind_some h
  obtain ⟨r68, h69, h⟩ := bind_some h
  obtain ⟨o70, hl70, h⟩ := bind_some h
  simp only [Option.some.injEq] at h
  subst h
  exact store_Save_0 s_0 r1 h2 r3 h4 o5 hl5 o22 hl22 o43 hl43 r68 h69 o70 hl70
noncomputable def tollwayref49_Save_L5_step (s_0 : Tapi_State) : (Nat × (List UInt8)) → Option ((Nat × (List UInt8)) ⊕ (List UInt8))
  | (k5, b2) =>
    if (↑k5 : Int) < (↑s_0.Seen.length : Int) then
      (s_0.Seen[k5]?).bind fun x15 =>
      (tollwayref49_detection [] x15.D).bind fun r17 =>
      (tollwayref02_PutFrame b2 2 r17).bind fun r19 =>
      if InR .i64 ((↑k5 : Int) + 1) then
        some (Sum.inl ((k5 + 1), r19))
      else none
    else
      some (Sum.inr b2)
def tollwayref49_Save_L5_H (s_0 : Tapi_State) : (Nat × (List UInt8)) → St := fun (s : (Nat × (List UInt8))) => S 188 [(1, .ptr 0 0), (3, .lst (fl Tapi_Entry.enc s_0.Books.Ledger.Entries) s_0.Books.Ledger.Entries.length), (4, .vec 1 s.2.length 1), (5, .int .i64 (↑s.1 : Int))] [{ c := (Tapi_State.enc s_0), e := 64, ext := false, fz := 0, pl := true, o := false }, { c := (u8s s.2), e := 5, ext := true, fz := 0, pl := true, o := true }]
theorem tollwayref49_Save_L5_0 (s_0 : Tapi_State) (k5 : Nat) (b2 : (List UInt8)) (c14 : (↑k5 : Int) < (↑s_0.Seen.length : Int)) (x15 : Tapi_Seen) (h16 : s_0.Seen[k5]? = some x15) (r17 : (List UInt8)) (h18 : tollwayref49_detection [] x15.D = some r17) (r19 : (List UInt8)) (h20 : tollwayref02_PutFrame b2 2 r17 = some r19) (h21 : InR .i64 ((↑k5 : Int) + 1)) : Does Try.prog G0 1 (bodyAt Try.prog 16 [1, 1, 1, 0, 1, 0, 0]) (tollwayref49_Save_L5_H s_0 (k5, b2)) .normal (S 188 [(1, .ptr 0 0), (3, .lst (fl Tapi_Entry.enc s_0.Books.Ledger.Entries) s_0.Books.Ledger.Entries.length), (4, .vec 1 r19.length 1), (5, .int .i64 ((↑k5 : Int) + 1))] [{ c := (Tapi_State.enc s_0), e := 64, ext := false, fz := 0, pl := true, o := false }, { c := (u8s r19), e := 5, ext := true, fz := 0, pl := true, o := true }]) :=
  Does.of_viewM 1 400 (cs 4 ((.op none .a) :: (.br true) :: (cs 4 ((.op none (.i k5)) :: (.op none .c) :: (.op none (.v [.str x15.D.Device, .int .i64 x15.D.Seq, .int .i64 x15.D.Time, .str x15.D.Tag, .str x15.D.Plate, .int .i64 x15.D.Axles, .int .i64 x15.D.Score])) :: (.ret none [.lst [] 0, .agg (Tapi_Detection.enc x15.D)] (.lst (u8s r17) r17.length) []) :: (.ret none [.lst (u8s b2) b2.length, .int .i64 2, .lst (u8s r17) r17.length] (.vec 0 r19.length 1) [{ c := (u8s r19), e := 5, ext := true, fz := 0, pl := true, o := true }]) :: (cs 2 [.op none .w, .op none .c]))))) [0, 2] (ps := [((decide ((↑k5 : Int) < (↑s_0.Seen.length : Int))) = true), ((↑k5 : Int) = ((k5 : Nat) : Int) ∧ k5 < s_0.Seen.length), ((fl Tapi_Seen.enc s_0.Seen) ≠ []), (sub (fl Tapi_Seen.enc s_0.Seen) (k5 * 11) 7 = [.str x15.D.Device, .int .i64 x15.D.Seq, .int .i64 x15.D.Time, .str x15.D.Tag, .str x15.D.Plate, .int .i64 x15.D.Axles, .int .i64 x15.D.Score]), ((.agg (Tapi_Detection.enc x15.D) : AV) = .agg (Tapi_Detection.enc x15.D)), (Ret Try.prog G0 43 [.lst [] 0, .agg (Tapi_Detection.enc x15.D)] (.lst (u8s r17) r17.length) []), ((u8s b2) = (u8s b2) ∧ b2.length = b2.length ∧ List.length ((u8s b2) : List AV) = b2.length), ((.int .i64 2 : AV) = .int .i64 2), ((.lst (u8s r17) r17.length : AV) = .lst (u8s r17) r17.length), (datBlks [{ c := (u8s r19), e := 5, ext := true, fz := 0, pl := true, o := true }]), (Ret Try.prog G0 36 [.lst (u8s b2) b2.length, .int .i64 2, .lst (u8s r17) r17.length] (.vec 0 r19.length 1) [{ c := (u8s r19), e := 5, ext := true, fz := 0, pl := true, o := true }]), (IntKind.min .i64 ≤ ((↑k5 : Int) + 1) ∧ ((↑k5 : Int) + 1) ≤ IntKind.max .i64)]) (by kernel_rfl) (by kernel_rfl) ⟨(decide_eq_true c14), ⟨rfl, get_lt h16⟩, (fl_ne (f := Tapi_Seen.enc) (z := 10) (fun _ => rfl) h16), (fl_sub (f := Tapi_Seen.enc) (z := 11) (j := k5) (a := 0) (n := 7) (fun _ => rfl) h16 (by decide) rfl), rfl, (tollwayref49_detection_ret [] x15.D r17 h18), ⟨rfl, rfl, u8s_length⟩, rfl, rfl, ⟨u8s_dat, trivial⟩, (tollwayref02_PutFrame_ret b2 2 r17 r19 h20), ok1 h21⟩
theorem tollwayref49_Save_L5_1 (s_0 : Tapi_State) (k5 : Nat) (b2 : (List UInt8)) (c14 : ¬ ((↑k5 : Int) < (↑s_0.Seen.length : Int))) : Does Try.prog G0 1 (bodyAt Try.prog 16 [1, 1, 1, 0, 1, 0, 0]) (tollwayref49_Save_L5_H s_0 (k5, b2)) (.exit 0) (S 188 [(1, .ptr 0 0), (3, .lst (fl Tapi_Entry.enc s_0.Books.Ledger.Entries) s_0.Books.Ledger.Entries.length), (4, .vec 1 b2.length 1)] [{ c := (Tapi_State.enc s_0), e := 64, ext := false, fz := 0, pl := true, o := false }, { c := (u8s b2), e := 5, ext := true, fz := 0, pl := true, o := true }]) :=
  Does.of_viewM 1 400 (cs 4 [.op none .a, .br false]) [0, 1] (ps := [((decide ((↑k5 : Int) < (↑s_0.Seen.length : Int))) = false)]) (by kernel_rfl) (by kernel_rfl) (ok1 (decide_eq_false c14))
def tollwayref49_Save_L5_X (s_0 : Tapi_State) : (List UInt8) → AEx := fun o => (.exit 0)
def tollwayref49_Save_L5_E (s_0 : Tapi_State) : (List UInt8) → St := fun o => S 188 [(1, .ptr 0 0), (3, .lst (fl Tapi_Entry.enc s_0.Books.Ledger.Entries) s_0.Books.Ledger.Entries.length), (4, .vec 1 o.length 1)] [{ c := (Tapi_State.enc s_0), e := 64, ext := false, fz := 0, pl := true, o := false }, { c := (u8s o), e := 5, ext := true, fz := 0, pl := true, o := true }]
theorem tollwayref49_Save_L5_does (s_0 : Tapi_State) {s : (Nat × (List UInt8))} {r : (List UInt8)} (h : lp (tollwayref49_Save_L5_step s_0) s = some r) : Does Try.prog G0 1 (.loop (bodyAt Try.prog 16 [1, 1, 1, 0, 1, 0, 0])) (tollwayref49_Save_L5_H s_0 s) (tollwayref49_Save_L5_X s_0 r) (tollwayref49_Save_L5_E s_0 r) := by
  refine Does.lp (H := tollwayref49_Save_L5_H s_0) (X := tollwayref49_Save_L5_X s_0) (E := tollwayref49_Save_L5_E s_0) (fun s s2 h => ?_) (fun s r h => ?_) h
  · obtain ⟨k5, b2⟩ := s
    unfold tollwayref49_Save_L5_step at h
    try dsimp only at h
    rcases ite_some h with ⟨c14, h⟩ | ⟨c14, h⟩
    · obtain ⟨x15, h16, h⟩ := bind_some h
      obtain ⟨r17, h18, h⟩ := bind_some h
      obtain ⟨r19, h20, h⟩ := bind_some h
      obtain ⟨h21, h⟩ := guard_some h
      simp only [Option.some.injEq, Sum.inl.injEq] at h
      subst h
      exact tollwayref49_Save_L5_0 s_0 k5 b2 c14 x15 h16 r17 h18 r19 h20 h21
    · simp at h
  · obtain ⟨k5, b2⟩ := s
    unfold tollwayref49_Save_L5_step at h
    try dsimp only at h
    rcases ite_some h with ⟨c14, h⟩ | ⟨c14, h⟩
    · obtain ⟨x15, h16, h⟩ := bind_some h
      obtain ⟨r17, h18, h⟩ := bind_some h
      obtain ⟨r19, h20, h⟩ := bind_some h
      obtain ⟨h21, h⟩ := guard_some h
      simp at h
    · simp only [Option.some.injEq, Sum.inr.injEq] at h
      subst h
      exact ⟨tollwayref49_Save_L5_1 s_0 k5 b2 c14, by intro q; cases q⟩
noncomputable def tollwayref49_Save_L22_step (s_0 : Tapi_State) : (Nat × (List UInt8)) → Option ((Nat × (List UInt8)) ⊕ (List UInt8))
  | (k6, b4) =>
    if (↑k6 : Int) < (↑s_0.Rejects.length : Int) then
      (s_0.Rejects[k6]?).bind fun x34 =>
      (tollwayref49_detection [] x34.D).bind fun r36 =>
      (tollwayref49_ints r36 [x34.Why]).bind fun r38 =>
      (tollwayref02_PutFrame b4 3 r38).bind fun r40 =>
      if InR .i64 ((↑k6 : Int) + 1) then
        some (Sum.inl ((k6 + 1), r40))
      else none
    else
      some (Sum.inr b4)
def tollwayref49_Save_L22_H (s_0 : Tapi_State) : (Nat × (List UInt8)) → St := fun (s : (Nat × (List UInt8))) => S 188 [(1, .ptr 0 0), (3, .lst (fl Tapi_Entry.enc s_0.Books.Ledger.Entries) s_0.Books.Ledger.Entries.length), (4, .vec 1 s.2.length 1), (6, .int .i64 (↑s.1 : Int))] [{ c := (Tapi_State.enc s_0), e := 64, ext := false, fz := 0, pl := true, o := false }, { c := (u8s s.2), e := 5, ext := true, fz := 0, pl := true, o := true }]
theorem tollwayref49_Save_L22_0 (s_0 : Tapi_State) (k6 : Nat) (b4 : (List UInt8)) (c33 : (↑k6 : Int) < (↑s_0.Rejects.length : Int)) (x34 : Tapi_Reject) (h35 : s_0.Rejects[k6]? = some x34) (r36 : (List UInt8)) (h37 : tollwayref49_detection [] x34.D = some r36) (r38 : (List UInt8)) (h39 : tollwayref49_ints r36 [x34.Why] = some r38) (r40 : (List UInt8)) (h41 : tollwayref02_PutFrame b4 3 r38 = some r40) (h42 : InR .i64 ((↑k6 : Int) + 1)) : Does Try.prog G0 1 (bodyAt Try.prog 16 [1, 1, 1, 1, 0, 1, 0, 0]) (tollwayref49_Save_L22_H s_0 (k6, b4)) .normal (S 188 [(1, .ptr 0 0), (3, .lst (fl Tapi_Entry.enc s_0.Books.Ledger.Entries) s_0.Books.Ledger.Entries.length), (4, .vec 1 r40.length 1), (6, .int .i64 ((↑k6 : Int) + 1))] [{ c := (Tapi_State.enc s_0), e := 64, ext := false, fz := 0, pl := true, o := false }, { c := (u8s r40), e := 5, ext := true, fz := 0, pl := true, o := true }]) :=
  Does.of_viewM 1 400 (cs 4 ((.op none .a) :: (.br true) :: (cs 4 ((.op none (.i k6)) :: (.op none .c) :: (.op none (.v [.str x34.D.Device, .int .i64 x34.D.Seq, .int .i64 x34.D.Time, .str x34.D.Tag, .str x34.D.Plate, .int .i64 x34.D.Axles, .int .i64 x34.D.Score])) :: (.ret none [.lst [] 0, .agg (Tapi_Detection.enc x34.D)] (.lst (u8s r36) r36.length) []) :: (cs 3 ((.op none (.i k6)) :: (.op none .c) :: (.op none (.v [.int .i64 x34.Why])) :: (.op none .c) :: (.tr (.frz [.t 79] [.int .i64 x34.Why] 1)) :: (.ret none [.lst (u8s r36) r36.length, .lst [.int .i64 x34.Why] 1] (.lst (u8s r38) r38.length) []) :: (.ret none [.lst (u8s b4) b4.length, .int .i64 3, .lst (u8s r38) r38.length] (.vec 0 r40.length 1) [{ c := (u8s r40), e := 5, ext := true, fz := 0, pl := true, o := true }]) :: (cs 2 [.op none .w, .op none .c]))))))) [0, 3] (ps := [((decide ((↑k6 : Int) < (↑s_0.Rejects.length : Int))) = true), ((↑k6 : Int) = ((k6 : Nat) : Int) ∧ k6 < s_0.Rejects.length), ((fl Tapi_Reject.enc s_0.Rejects) ≠ []), (sub (fl Tapi_Reject.enc s_0.Rejects) (k6 * 8) 7 = [.str x34.D.Device, .int .i64 x34.D.Seq, .int .i64 x34.D.Time, .str x34.D.Tag, .str x34.D.Plate, .int .i64 x34.D.Axles, .int .i64 x34.D.Score]), ((.agg (Tapi_Detection.enc x34.D) : AV) = .agg (Tapi_Detection.enc x34.D)), (Ret Try.prog G0 43 [.lst [] 0, .agg (Tapi_Detection.enc x34.D)] (.lst (u8s r36) r36.length) []), ((↑k6 : Int) = ((k6 : Nat) : Int) ∧ k6 < s_0.Rejects.length), ((fl Tapi_Reject.enc s_0.Rejects) ≠ []), (sub (fl Tapi_Reject.enc s_0.Rejects) ((k6 * 8) + 7) 1 = [.int .i64 x34.Why]), (2 = 2 ∧ sub [.int .i64 x34.Why] 0 1 = [.int .i64 x34.Why] ∧ 1 = 1 ∧ 0 + 1 ≤ List.length ([.int .i64 x34.Why] : List AV) ∧ 1 ≤ 1), ((.lst (u8s r36) r36.length : AV) = .lst (u8s r36) r36.length), ((.lst [.int .i64 x34.Why] 1 : AV) = .lst [.int .i64 x34.Why] 1), (Ret Try.prog G0 42 [.lst (u8s r36) r36.length, .lst [.int .i64 x34.Why] 1] (.lst (u8s r38) r38.length) []), ((u8s b4) = (u8s b4) ∧ b4.length = b4.length ∧ List.length ((u8s b4) : List AV) = b4.length), ((.int .i64 3 : AV) = .int .i64 3), ((.lst (u8s r38) r38.length : AV) = .lst (u8s r38) r38.length), (datBlks [{ c := (u8s r40), e := 5, ext := true, fz := 0, pl := true, o := true }]), (Ret Try.prog G0 36 [.lst (u8s b4) b4.length, .int .i64 3, .lst (u8s r38) r38.length] (.vec 0 r40.length 1) [{ c := (u8s r40), e := 5, ext := true, fz := 0, pl := true, o := true }]), ((some (Ob.blk { c := (u8s b4), e := 5, ext := true, fz := 0, pl := true, o := true }) = some (Ob.blk { c := (u8s b4), e := 5, ext := true, fz := 0, pl := true, o := true })) ∧ True), (IntKind.min .i64 ≤ ((↑k6 : Int) + 1) ∧ ((↑k6 : Int) + 1) ≤ IntKind.max .i64)]) (by kernel_rfl) (by kernel_rfl) ⟨(decide_eq_true c33), ⟨rfl, get_lt h35⟩, (fl_ne (f := Tapi_Reject.enc) (z := 7) (fun _ => rfl) h35), (fl_sub (f := Tapi_Reject.enc) (z := 8) (j := k6) (a := 0) (n := 7) (fun _ => rfl) h35 (by decide) rfl), rfl, (tollwayref49_detection_ret [] x34.D r36 h37), ⟨rfl, get_lt h35⟩, (fl_ne (f := Tapi_Reject.enc) (z := 7) (fun _ => rfl) h35), (fl_sub (f := Tapi_Reject.enc) (z := 8) (j := k6) (a := 7) (n := 1) (fun _ => rfl) h35 (by decide) rfl), ⟨rfl, rfl, rfl, Nat.le_of_ble_eq_true rfl, Nat.le_of_ble_eq_true rfl⟩, rfl, rfl, (tollwayref49_ints_ret r36 [x34.Why] r38 h39), ⟨rfl, rfl, u8s_length⟩, rfl, rfl, ⟨u8s_dat, trivial⟩, (tollwayref02_PutFrame_ret b4 3 r38 r40 h41), ⟨rfl, trivial⟩, ok1 h42⟩
theorem tollwayref49_Save_L22_1 (s_0 : Tapi_State) (k6 : Nat) (b4 : (List UInt8)) (c33 : ¬ ((↑k6 : Int) < (↑s_0.Rejects.length : Int))) : Does Try.prog G0 1 (bodyAt Try.prog 16 [1, 1, 1, 1, 0, 1, 0, 0]) (tollwayref49_Save_L22_H s_0 (k6, b4)) (.exit 2) (S 188 [(1, .ptr 0 0), (3, .lst (fl Tapi_Entry.enc s_0.Books.Ledger.Entries) s_0.Books.Ledger.Entries.length), (4, .vec 1 b4.length 1)] [{ c := (Tapi_State.enc s_0), e := 64, ext := false, fz := 0, pl := true, o := false }, { c := (u8s b4), e := 5, ext := true, fz := 0, pl := true, o := true }]) :=
  Does.of_viewM 1 400 (cs 4 [.op none .a, .br false]) [0, 1] (ps := [((decide ((↑k6 : Int) < (↑s_0.Rejects.length : Int))) = false)]) (by kernel_rfl) (by kernel_rfl) (ok1 (decide_eq_false c33))
def tollwayref49_Save_L22_X (s_0 : Tapi_State) : (List UInt8) → AEx := fun o => (.exit 2)
def tollwayref49_Save_L22_E (s_0 : Tapi_State) : (List UInt8) → St := fun o => S 188 [(1, .ptr 0 0), (3, .lst (fl Tapi_Entry.enc s_0.Books.Ledger.Entries) s_0.Books.Ledger.Entries.length), (4, .vec 1 o.length 1)] [{ c := (Tapi_State.enc s_0), e := 64, ext := false, fz := 0, pl := true, o := false }, { c := (u8s o), e := 5, ext := true, fz := 0, pl := true, o := true }]
theorem tollwayref49_Save_L22_does (s_0 : Tapi_State) {s : (Nat × (List UInt8))} {r : (List UInt8)} (h : lp (tollwayref49_Save_L22_step s_0) s = some r) : Does Try.prog G0 1 (.loop (bodyAt Try.prog 16 [1, 1, 1, 1, 0, 1, 0, 0])) (tollwayref49_Save_L22_H s_0 s) (tollwayref49_Save_L22_X s_0 r) (tollwayref49_Save_L22_E s_0 r) := by
  refine Does.lp (H := tollwayref49_Save_L22_H s_0) (X := tollwayref49_Save_L22_X s_0) (E := tollwayref49_Save_L22_E s_0) (fun s s2 h => ?_) (fun s r h => ?_) h
  · obtain ⟨k6, b4⟩ := s
    unfold tollwayref49_Save_L22_step at h
    try dsimp only at h
    rcases ite_some h with ⟨c33, h⟩ | ⟨c33, h⟩
    · obtain ⟨x34, h35, h⟩ := bind_some h
      obtain ⟨r36, h37, h⟩ := bind_some h
      obtain ⟨r38, h39, h⟩ := bind_some h
      obtain ⟨r40, h41, h⟩ := bind_some h
      obtain ⟨h42, h⟩ := guard_some h
      simp only [Option.some.injEq, Sum.inl.injEq] at h
      subst h
      exact tollwayref49_Save_L22_0 s_0 k6 b4 c33 x34 h35 r36 h37 r38 h39 r40 h41 h42
    · simp at h
  · obtain ⟨k6, b4⟩ := s
    unfold tollwayref49_Save_L22_step at h
    try dsimp only at h
    rcases ite_some h with ⟨c33, h⟩ | ⟨c33, h⟩
    · obtain ⟨x34, h35, h⟩ := bind_some h
      obtain ⟨r36, h37, h⟩ := bind_some h
      obtain ⟨r38, h39, h⟩ := bind_some h
      obtain ⟨r40, h41, h⟩ := bind_some h
      obtain ⟨h42, h⟩ := guard_some h
      simp at h
    · simp only [Option.some.injEq, Sum.inr.injEq] at h
      subst h
      exact ⟨tollwayref49_Save_L22_1 s_0 k6 b4 c33, by intro q; cases q⟩
noncomputable def tollwayref49_Save_L43_step (s_0 : Tapi_State) : (Nat × (List UInt8)) → Option ((Nat × (List UInt8)) ⊕ (List UInt8))
  | (k7, b6) =>
    if (↑k7 : Int) < (↑s_0.Parked.length : Int) then
      (s_0.Parked[k7]?).bind fun x57 =>
      (tollwayref49_ints [] [x57.Kind]).bind fun r59 =>
      (tollwayref49_texts r59 [x57.Zone, x57.Plate]).bind fun r61 =>
      (tollwayref49_ints r61 [x57.Time, x57.Until]).bind fun r63 =>
      (tollwayref02_PutFrame b6 4 r63).bind fun r65 =>
      if InR .i64 ((↑k7 : Int) + 1) then
        some (Sum.inl ((k7 + 1), r65))
      else none
    else
      some (Sum.inr b6)
def tollwayref49_Save_L43_H (s_0 : Tapi_State) : (Nat × (List UInt8)) → St := fun (s : (Nat × (List UInt8))) => S 188 [(1, .ptr 0 0), (3, .lst (fl Tapi_Entry.enc s_0.Books.Ledger.Entries) s_0.Books.Ledger.Entries.length), (4, .vec 1 s.2.length 1), (7, .int .i64 (↑s.1 : Int))] [{ c := (Tapi_State.enc s_0), e := 64, ext := false, fz := 0, pl := true, o := false }, { c := (u8s s.2), e := 5, ext := true, fz := 0, pl := true, o := true }]
theorem tollwayref49_Save_L43_0 (s_0 : Tapi_State) (k7 : Nat) (b6 : (List UInt8)) (c56 : (↑k7 : Int) < (↑s_0.Parked.length : Int)) (x57 : Tapi_Parked) (h58 : s_0.Parked[k7]? = some x57) (r59 : (List UInt8)) (h60 : tollwayref49_ints [] [x57.Kind] = some r59) (r61 : (List UInt8)) (h62 : tollwayref49_texts r59 [x57.Zone, x57.Plate] = some r61) (r63 : (List UInt8)) (h64 : tollwayref49_ints r61 [x57.Time, x57.Until] = some r63) (r65 : (List UInt8)) (h66 : tollwayref02_PutFrame b6 4 r63 = some r65) (h67 : InR .i64 ((↑k7 : Int) + 1)) : Does Try.prog G0 1 (bodyAt Try.prog 16 [1, 1, 1, 1, 1, 0, 1, 0, 0]) (tollwayref49_Save_L43_H s_0 (k7, b6)) .normal (S 188 [(1, .ptr 0 0), (3, .lst (fl Tapi_Entry.enc s_0.Books.Ledger.Entries) s_0.Books.Ledger.Entries.length), (4, .vec 1 r65.length 1), (7, .int .i64 ((↑k7 : Int) + 1))] [{ c := (Tapi_State.enc s_0), e := 64, ext := false, fz := 0, pl := true, o := false }, { c := (u8s r65), e := 5, ext := true, fz := 0, pl := true, o := true }]) :=
  Does.of_viewM 1 400 (cs 4 ((.op none .a) :: (.br true) :: (cs 3 ((.op none (.i k7)) :: (.op none (.v [.int .i64 x57.Kind, .str x57.Zone, .str x57.Plate, .int .i64 x57.Time, .int .i64 x57.Until])) :: (cs 6 ((.tr (.frz [.t 97] [.int .i64 x57.Kind] 1)) :: (.ret none [.lst [] 0, .lst [.int .i64 x57.Kind] 1] (.lst (u8s r59) r59.length) []) :: (cs 5 ((.tr (.frz [.t 103] [.str x57.Zone, .str x57.Plate] 2)) :: (.ret none [.lst (u8s r59) r59.length, .lst [.str x57.Zone, .str x57.Plate] 2] (.lst (u8s r61) r61.length) []) :: (cs 5 ((.tr (.frz [.t 109] [.int .i64 x57.Time, .int .i64 x57.Until] 2)) :: (.ret none [.lst (u8s r61) r61.length, .lst [.int .i64 x57.Time, .int .i64 x57.Until] 2] (.lst (u8s r63) r63.length) []) :: (.ret none [.lst (u8s b6) b6.length, .int .i64 4, .lst (u8s r63) r63.length] (.vec 0 r65.length 1) [{ c := (u8s r65), e := 5, ext := true, fz := 0, pl := true, o := true }]) :: (cs 2 [.op none .w, .op none .c]))))))))))) [0, 6] (ps := [((decide ((↑k7 : Int) < (↑s_0.Parked.length : Int))) = true), ((↑k7 : Int) = ((k7 : Nat) : Int) ∧ k7 < s_0.Parked.length), ((fl Tapi_Parked.enc s_0.Parked) ≠ []), (sub (fl Tapi_Parked.enc s_0.Parked) (k7 * 5) 5 = [.int .i64 x57.Kind, .str x57.Zone, .str x57.Plate, .int .i64 x57.Time, .int .i64 x57.Until]), (3 = 3 ∧ sub [.int .i64 x57.Kind] 0 1 = [.int .i64 x57.Kind] ∧ 1 = 1 ∧ 0 + 1 ≤ List.length ([.int .i64 x57.Kind] : List AV) ∧ 1 ≤ 1), ((.lst [.int .i64 x57.Kind] 1 : AV) = .lst [.int .i64 x57.Kind] 1), (Ret Try.prog G0 42 [.lst [] 0, .lst [.int .i64 x57.Kind] 1] (.lst (u8s r59) r59.length) []), (4 = 4 ∧ sub [.str x57.Zone, .str x57.Plate] 0 2 = [.str x57.Zone, .str x57.Plate] ∧ 2 = 2 ∧ 0 + 2 ≤ List.length ([.str x57.Zone, .str x57.Plate] : List AV) ∧ 2 ≤ 2), ((.lst (u8s r59) r59.length : AV) = .lst (u8s r59) r59.length), ((.lst [.str x57.Zone, .str x57.Plate] 2 : AV) = .lst [.str x57.Zone, .str x57.Plate] 2), (Ret Try.prog G0 44 [.lst (u8s r59) r59.length, .lst [.str x57.Zone, .str x57.Plate] 2] (.lst (u8s r61) r61.length) []), (5 = 5 ∧ sub [.int .i64 x57.Time, .int .i64 x57.Until] 0 2 = [.int .i64 x57.Time, .int .i64 x57.Until] ∧ 2 = 2 ∧ 0 + 2 ≤ List.length ([.int .i64 x57.Time, .int .i64 x57.Until] : List AV) ∧ 2 ≤ 2), ((.lst (u8s r61) r61.length : AV) = .lst (u8s r61) r61.length), ((.lst [.int .i64 x57.Time, .int .i64 x57.Until] 2 : AV) = .lst [.int .i64 x57.Time, .int .i64 x57.Until] 2), (Ret Try.prog G0 42 [.lst (u8s r61) r61.length, .lst [.int .i64 x57.Time, .int .i64 x57.Until] 2] (.lst (u8s r63) r63.length) []), ((u8s b6) = (u8s b6) ∧ b6.length = b6.length ∧ List.length ((u8s b6) : List AV) = b6.length), ((.int .i64 4 : AV) = .int .i64 4), ((.lst (u8s r63) r63.length : AV) = .lst (u8s r63) r63.length), (datBlks [{ c := (u8s r65), e := 5, ext := true, fz := 0, pl := true, o := true }]), (Ret Try.prog G0 36 [.lst (u8s b6) b6.length, .int .i64 4, .lst (u8s r63) r63.length] (.vec 0 r65.length 1) [{ c := (u8s r65), e := 5, ext := true, fz := 0, pl := true, o := true }]), ((some (Ob.blk { c := (u8s b6), e := 5, ext := true, fz := 0, pl := true, o := true }) = some (Ob.blk { c := (u8s b6), e := 5, ext := true, fz := 0, pl := true, o := true })) ∧ True), (IntKind.min .i64 ≤ ((↑k7 : Int) + 1) ∧ ((↑k7 : Int) + 1) ≤ IntKind.max .i64)]) (by kernel_rfl) (by kernel_rfl) ⟨(decide_eq_true c56), ⟨rfl, get_lt h58⟩, (fl_ne (f := Tapi_Parked.enc) (z := 4) (fun _ => rfl) h58), (fl_sub0 (f := Tapi_Parked.enc) (z := 5) (j := k7) (fun _ => rfl) h58 rfl), ⟨rfl, rfl, rfl, Nat.le_of_ble_eq_true rfl, Nat.le_of_ble_eq_true rfl⟩, rfl, (tollwayref49_ints_ret [] [x57.Kind] r59 h60), ⟨rfl, rfl, rfl, Nat.le_of_ble_eq_true rfl, Nat.le_of_ble_eq_true rfl⟩, rfl, rfl, (tollwayref49_texts_ret r59 [x57.Zone, x57.Plate] r61 h62), ⟨rfl, rfl, rfl, Nat.le_of_ble_eq_true rfl, Nat.le_of_ble_eq_true rfl⟩, rfl, rfl, (tollwayref49_ints_ret r61 [x57.Time, x57.Until] r63 h64), ⟨rfl, rfl, u8s_length⟩, rfl, rfl, ⟨u8s_dat, trivial⟩, (tollwayref02_PutFrame_ret b6 4 r63 r65 h66), ⟨rfl, trivial⟩, ok1 h67⟩
theorem tollwayref49_Save_L43_1 (s_0 : Tapi_State) (k7 : Nat) (b6 : (List UInt8)) (c56 : ¬ ((↑k7 : Int) < (↑s_0.Parked.length : Int))) : Does Try.prog G0 1 (bodyAt Try.prog 16 [1, 1, 1, 1, 1, 0, 1, 0, 0]) (tollwayref49_Save_L43_H s_0 (k7, b6)) (.exit 4) (S 188 [(1, .ptr 0 0), (3, .lst (fl Tapi_Entry.enc s_0.Books.Ledger.Entries) s_0.Books.Ledger.Entries.length), (4, .vec 1 b6.length 1)] [{ c := (Tapi_State.enc s_0), e := 64, ext := false, fz := 0, pl := true, o := false }, { c := (u8s b6), e := 5, ext := true, fz := 0, pl := true, o := true }]) :=
  Does.of_viewM 1 400 (cs 4 [.op none .a, .br false]) [0, 1] (ps := [((decide ((↑k7 : Int) < (↑s_0.Parked.length : Int))) = false)]) (by kernel_rfl) (by kernel_rfl) (ok1 (decide_eq_false c56))
def tollwayref49_Save_L43_X (s_0 : Tapi_State) : (List UInt8) → AEx := fun o => (.exit 4)
def tollwayref49_Save_L43_E (s_0 : Tapi_State) : (List UInt8) → St := fun o => S 188 [(1, .ptr 0 0), (3, .lst (fl Tapi_Entry.enc s_0.Books.Ledger.Entries) s_0.Books.Ledger.Entries.length), (4, .vec 1 o.length 1)] [{ c := (Tapi_State.enc s_0), e := 64, ext := false, fz := 0, pl := true, o := false }, { c := (u8s o), e := 5, ext := true, fz := 0, pl := true, o := true }]
theorem tollwayref49_Save_L43_does (s_0 : Tapi_State) {s : (Nat × (List UInt8))} {r : (List UInt8)} (h : lp (tollwayref49_Save_L43_step s_0) s = some r) : Does Try.prog G0 1 (.loop (bodyAt Try.prog 16 [1, 1, 1, 1, 1, 0, 1, 0, 0])) (tollwayref49_Save_L43_H s_0 s) (tollwayref49_Save_L43_X s_0 r) (tollwayref49_Save_L43_E s_0 r) := by
  refine Does.lp (H := tollwayref49_Save_L43_H s_0) (X := tollwayref49_Save_L43_X s_0) (E := tollwayref49_Save_L43_E s_0) (fun s s2 h => ?_) (fun s r h => ?_) h
  · obtain ⟨k7, b6⟩ := s
    unfold tollwayref49_Save_L43_step at h
    try dsimp only at h
    rcases ite_some h with ⟨c56, h⟩ | ⟨c56, h⟩
    · obtain ⟨x57, h58, h⟩ := bind_some h
      obtain ⟨r59, h60, h⟩ := bind_some h
      obtain ⟨r61, h62, h⟩ := bind_some h
      obtain ⟨r63, h64, h⟩ := bind_some h
      obtain ⟨r65, h66, h⟩ := bind_some h
      obtain ⟨h67, h⟩ := guard_some h
      simp only [Option.some.injEq, Sum.inl.injEq] at h
      subst h
      exact tollwayref49_Save_L43_0 s_0 k7 b6 c56 x57 h58 r59 h60 r61 h62 r63 h64 r65 h66 h67
    · simp at h
  · obtain ⟨k7, b6⟩ := s
    unfold tollwayref49_Save_L43_step at h
    try dsimp only at h
    rcases ite_some h with ⟨c56, h⟩ | ⟨c56, h⟩
    · obtain ⟨x57, h58, h⟩ := bind_some h
      obtain ⟨r59, h60, h⟩ := bind_some h
      obtain ⟨r61, h62, h⟩ := bind_some h
      obtain ⟨r63, h64, h⟩ := bind_some h
      obtain ⟨r65, h66, h⟩ := bind_some h
      obtain ⟨h67, h⟩ := guard_some h
      simp at h
    · simp only [Option.some.injEq, Sum.inr.injEq] at h
      subst h
      exact ⟨tollwayref49_Save_L43_1 s_0 k7 b6 c56, by intro q; cases q⟩
noncomputable def tollwayref49_Save_L68_step (s_0 : Tapi_State) : (Nat × (List UInt8)) → Option ((Nat × (List UInt8)) ⊕ (List UInt8))
  | (k9, b8) =>
    if (↑k9 : Int) < (↑s_0.Books.Ledger.Entries.length : Int) then
      (s_0.Books.Ledger.Entries[k9]?).bind fun x78 =>
      (tollwayref49_entry x78).bind fun r80 =>
      (tollwayref02_PutFrame b8 5 r80).bind fun r82 =>
      if InR .i64 ((↑k9 : Int) + 1) then
        some (Sum.inl ((k9 + 1), r82))
      else none
    else
      some (Sum.inr b8)
def tollwayref49_Save_L68_H (s_0 : Tapi_State) : (Nat × (List UInt8)) → St := fun (s : (Nat × (List UInt8))) => S 188 [(1, .ptr 0 0), (3, .lst (fl Tapi_Entry.enc s_0.Books.Ledger.Entries) s_0.Books.Ledger.Entries.length), (4, .vec 1 s.2.length 1), (9, .int .i64 (↑s.1 : Int))] [{ c := (Tapi_State.enc s_0), e := 64, ext := false, fz := 0, pl := true, o := false }, { c := (u8s s.2), e := 5, ext := true, fz := 0, pl := true, o := true }]
theorem tollwayref49_Save_L68_0 (s_0 : Tapi_State) (k9 : Nat) (b8 : (List UInt8)) (c77 : (↑k9 : Int) < (↑s_0.Books.Ledger.Entries.length : Int)) (x78 : Tapi_Entry) (h79 : s_0.Books.Ledger.Entries[k9]? = some x78) (r80 : (List UInt8)) (h81 : tollwayref49_entry x78 = some r80) (r82 : (List UInt8)) (h83 : tollwayref02_PutFrame b8 5 r80 = some r82) (h84 : InR .i64 ((↑k9 : Int) + 1)) : Does Try.prog G0 1 (bodyAt Try.prog 16 [1, 1, 1, 1, 1, 1, 0, 1, 0, 0]) (tollwayref49_Save_L68_H s_0 (k9, b8)) .normal (S 188 [(1, .ptr 0 0), (3, .lst (fl Tapi_Entry.enc s_0.Books.Ledger.Entries) s_0.Books.Ledger.Entries.length), (4, .vec 1 r82.length 1), (9, .int .i64 ((↑k9 : Int) + 1))] [{ c := (Tapi_State.enc s_0), e := 64, ext := false, fz := 0, pl := true, o := false }, { c := (u8s r82), e := 5, ext := true, fz := 0, pl := true, o := true }]) :=
  Does.of_viewM 1 400 (cs 3 ((.op none .a) :: (.br true) :: (cs 3 ((.op none (.i k9)) :: (.op none (.v [.str x78.Key, .int .i64 x78.Time, .lst (fl Tapi_Post.enc x78.Posts) x78.Posts.length])) :: (.ret none [.agg (Tapi_Entry.enc x78)] (.lst (u8s r80) r80.length) []) :: (.ret none [.lst (u8s b8) b8.length, .int .i64 5, .lst (u8s r80) r80.length] (.vec 0 r82.length 1) [{ c := (u8s r82), e := 5, ext := true, fz := 0, pl := true, o := true }]) :: (cs 2 [.op none .w, .op none .c]))))) [0, 2] (ps := [((decide ((↑k9 : Int) < (↑s_0.Books.Ledger.Entries.length : Int))) = true), ((↑k9 : Int) = ((k9 : Nat) : Int) ∧ k9 < s_0.Books.Ledger.Entries.length), ((fl Tapi_Entry.enc s_0.Books.Ledger.Entries) ≠ []), (sub (fl Tapi_Entry.enc s_0.Books.Ledger.Entries) (k9 * 3) 3 = [.str x78.Key, .int .i64 x78.Time, .lst (fl Tapi_Post.enc x78.Posts) x78.Posts.length]), ((.agg (Tapi_Entry.enc x78) : AV) = .agg (Tapi_Entry.enc x78)), (Ret Try.prog G0 45 [.agg (Tapi_Entry.enc x78)] (.lst (u8s r80) r80.length) []), ((u8s b8) = (u8s b8) ∧ b8.length = b8.length ∧ List.length ((u8s b8) : List AV) = b8.length), ((.int .i64 5 : AV) = .int .i64 5), ((.lst (u8s r80) r80.length : AV) = .lst (u8s r80) r80.length), (datBlks [{ c := (u8s r82), e := 5, ext := true, fz := 0, pl := true, o := true }]), (Ret Try.prog G0 36 [.lst (u8s b8) b8.length, .int .i64 5, .lst (u8s r80) r80.length] (.vec 0 r82.length 1) [{ c := (u8s r82), e := 5, ext := true, fz := 0, pl := true, o := true }]), (IntKind.min .i64 ≤ ((↑k9 : Int) + 1) ∧ ((↑k9 : Int) + 1) ≤ IntKind.max .i64)]) (by kernel_rfl) (by kernel_rfl) ⟨(decide_eq_true c77), ⟨rfl, get_lt h79⟩, (fl_ne (f := Tapi_Entry.enc) (z := 2) (fun _ => rfl) h79), (fl_sub0 (f := Tapi_Entry.enc) (z := 3) (j := k9) (fun _ => rfl) h79 rfl), rfl, (tollwayref49_entry_ret x78 r80 h81), ⟨rfl, rfl, u8s_length⟩, rfl, rfl, ⟨u8s_dat, trivial⟩, (tollwayref02_PutFrame_ret b8 5 r80 r82 h83), ok1 h84⟩
theorem tollwayref49_Save_L68_1 (s_0 : Tapi_State) (k9 : Nat) (b8 : (List UInt8)) (c77 : ¬ ((↑k9 : Int) < (↑s_0.Books.Ledger.Entries.length : Int))) : Does Try.prog G0 1 (bodyAt Try.prog 16 [1, 1, 1, 1, 1, 1, 0, 1, 0, 0]) (tollwayref49_Save_L68_H s_0 (k9, b8)) (.exit 6) (S 188 [(1, .ptr 0 0), (4, .vec 1 b8.length 1)] [{ c := (Tapi_State.enc s_0), e := 64, ext := false, fz := 0, pl := true, o := false }, { c := (u8s b8), e := 5, ext := true, fz := 0, pl := true, o := true }]) :=
  Does.of_viewM 1 400 (cs 3 [.op none .a, .br false]) [0, 1] (ps := [((decide ((↑k9 : Int) < (↑s_0.Books.Ledger.Entries.length : Int))) = false)]) (by kernel_rfl) (by kernel_rfl) (ok1 (decide_eq_false c77))
def tollwayref49_Save_L68_X (s_0 : Tapi_State) : (List UInt8) → AEx := fun o => (.exit 6)
def tollwayref49_Save_L68_E (s_0 : Tapi_State) : (List UInt8) → St := fun o => S 188 [(1, .ptr 0 0), (4, .vec 1 o.length 1)] [{ c := (Tapi_State.enc s_0), e := 64, ext := false, fz := 0, pl := true, o := false }, { c := (u8s o), e := 5, ext := true, fz := 0, pl := true, o := true }]
theorem tollwayref49_Save_L68_does (s_0 : Tapi_State) {s : (Nat × (List UInt8))} {r : (List UInt8)} (h : lp (tollwayref49_Save_L68_step s_0) s = some r) : Does Try.prog G0 1 (.loop (bodyAt Try.prog 16 [1, 1, 1, 1, 1, 1, 0, 1, 0, 0])) (tollwayref49_Save_L68_H s_0 s) (tollwayref49_Save_L68_X s_0 r) (tollwayref49_Save_L68_E s_0 r) := by
  refine Does.lp (H := tollwayref49_Save_L68_H s_0) (X := tollwayref49_Save_L68_X s_0) (E := tollwayref49_Save_L68_E s_0) (fun s s2 h => ?_) (fun s r h => ?_) h
  · obtain ⟨k9, b8⟩ := s
    unfold tollwayref49_Save_L68_step at h
    try dsimp only at h
    rcases ite_some h with ⟨c77, h⟩ | ⟨c77, h⟩
    · obtain ⟨x78, h79, h⟩ := bind_some h
      obtain ⟨r80, h81, h⟩ := bind_some h
      obtain ⟨r82, h83, h⟩ := bind_some h
      obtain ⟨h84, h⟩ := guard_some h
      simp only [Option.some.injEq, Sum.inl.injEq] at h
      subst h
      exact tollwayref49_Save_L68_0 s_0 k9 b8 c77 x78 h79 r80 h81 r82 h83 h84
    · simp at h
  · obtain ⟨k9, b8⟩ := s
    unfold tollwayref49_Save_L68_step at h
    try dsimp only at h
    rcases ite_some h with ⟨c77, h⟩ | ⟨c77, h⟩
    · obtain ⟨x78, h79, h⟩ := bind_some h
      obtain ⟨r80, h81, h⟩ := bind_some h
      obtain ⟨r82, h83, h⟩ := bind_some h
      obtain ⟨h84, h⟩ := guard_some h
      simp at h
    · simp only [Option.some.injEq, Sum.inr.injEq] at h
      subst h
      exact ⟨tollwayref49_Save_L68_1 s_0 k9 b8 c77, by intro q; cases q⟩
noncomputable def tollwayref49_Save_L85_step (s_0 : Tapi_State) : (Nat × (List UInt8)) → Option ((Nat × (List UInt8)) ⊕ (List UInt8))
  | (k10, b10) =>
    if (↑k10 : Int) < (↑s_0.Books.Done.length : Int) then
      (s_0.Books.Done[k10]?).bind fun x95 =>
      (tollwayref49_charge x95).bind fun r97 =>
      (tollwayref02_PutFrame b10 6 r97).bind fun r99 =>
      if InR .i64 ((↑k10 : Int) + 1) then
        some (Sum.inl ((k10 + 1), r99))
      else none
    else
      some (Sum.inr b10)
def tollwayref49_Save_L85_H (s_0 : Tapi_State) : (Nat × (List UInt8)) → St := fun (s : (Nat × (List UInt8))) => S 188 [(1, .ptr 0 0), (4, .vec 1 s.2.length 1), (10, .int .i64 (↑s.1 : Int))] [{ c := (Tapi_State.enc s_0), e := 64, ext := false, fz := 0, pl := true, o := false }, { c := (u8s s.2), e := 5, ext := true, fz := 0, pl := true, o := true }]
theorem tollwayref49_Save_L85_0 (s_0 : Tapi_State) (k10 : Nat) (b10 : (List UInt8)) (c94 : (↑k10 : Int) < (↑s_0.Books.Done.length : Int)) (x95 : Tapi_Charge) (h96 : s_0.Books.Done[k10]? = some x95) (r97 : (List UInt8)) (h98 : tollwayref49_charge x95 = some r97) (r99 : (List UInt8)) (h100 : tollwayref02_PutFrame b10 6 r97 = some r99) (h101 : InR .i64 ((↑k10 : Int) + 1)) : Does Try.prog G0 1 (bodyAt Try.prog 16 [1, 1, 1, 1, 1, 1, 1, 0, 1, 0, 0]) (tollwayref49_Save_L85_H s_0 (k10, b10)) .normal (S 188 [(1, .ptr 0 0), (4, .vec 1 r99.length 1), (10, .int .i64 ((↑k10 : Int) + 1))] [{ c := (Tapi_State.enc s_0), e := 64, ext := false, fz := 0, pl := true, o := false }, { c := (u8s r99), e := 5, ext := true, fz := 0, pl := true, o := true }]) :=
  Does.of_viewM 1 400 (cs 5 ((.op none .a) :: (.br true) :: (cs 5 ((.op none (.i k10)) :: (.op none (.v [.str x95.Key, .str x95.Vehicle, .str x95.System, .int .i64 x95.Class, .int .i64 x95.Time, .lst (fl Tapi_Line.enc x95.Lines) x95.Lines.length, .int .i64 x95.Cents])) :: (.ret none [.agg (Tapi_Charge.enc x95)] (.lst (u8s r97) r97.length) []) :: (.ret none [.lst (u8s b10) b10.length, .int .i64 6, .lst (u8s r97) r97.length] (.vec 0 r99.length 1) [{ c := (u8s r99), e := 5, ext := true, fz := 0, pl := true, o := true }]) :: (cs 2 [.op none .w, .op none .c]))))) [0, 2] (ps := [((decide ((↑k10 : Int) < (↑s_0.Books.Done.length : Int))) = true), ((↑k10 : Int) = ((k10 : Nat) : Int) ∧ k10 < s_0.Books.Done.length), ((fl Tapi_Charge.enc s_0.Books.Done) ≠ []), (sub (fl Tapi_Charge.enc s_0.Books.Done) (k10 * 7) 7 = [.str x95.Key, .str x95.Vehicle, .str x95.System, .int .i64 x95.Class, .int .i64 x95.Time, .lst (fl Tapi_Line.enc x95.Lines) x95.Lines.length, .int .i64 x95.Cents]), ((.agg (Tapi_Charge.enc x95) : AV) = .agg (Tapi_Charge.enc x95)), (Ret Try.prog G0 46 [.agg (Tapi_Charge.enc x95)] (.lst (u8s r97) r97.length) []), ((u8s b10) = (u8s b10) ∧ b10.length = b10.length ∧ List.length ((u8s b10) : List AV) = b10.length), ((.int .i64 6 : AV) = .int .i64 6), ((.lst (u8s r97) r97.length : AV) = .lst (u8s r97) r97.length), (datBlks [{ c := (u8s r99), e := 5, ext := true, fz := 0, pl := true, o := true }]), (Ret Try.prog G0 36 [.lst (u8s b10) b10.length, .int .i64 6, .lst (u8s r97) r97.length] (.vec 0 r99.length 1) [{ c := (u8s r99), e := 5, ext := true, fz := 0, pl := true, o := true }]), (IntKind.min .i64 ≤ ((↑k10 : Int) + 1) ∧ ((↑k10 : Int) + 1) ≤ IntKind.max .i64)]) (by kernel_rfl) (by kernel_rfl) ⟨(decide_eq_true c94), ⟨rfl, get_lt h96⟩, (fl_ne (f := Tapi_Charge.enc) (z := 6) (fun _ => rfl) h96), (fl_sub0 (f := Tapi_Charge.enc) (z := 7) (j := k10) (fun _ => rfl) h96 rfl), rfl, (tollwayref49_charge_ret x95 r97 h98), ⟨rfl, rfl, u8s_length⟩, rfl, rfl, ⟨u8s_dat, trivial⟩, (tollwayref02_PutFrame_ret b10 6 r97 r99 h100), ok1 h101⟩
theorem tollwayref49_Save_L85_1 (s_0 : Tapi_State) (k10 : Nat) (b10 : (List UInt8)) (c94 : ¬ ((↑k10 : Int) < (↑s_0.Books.Done.length : Int))) : Does Try.prog G0 1 (bodyAt Try.prog 16 [1, 1, 1, 1, 1, 1, 1, 0, 1, 0, 0]) (tollwayref49_Save_L85_H s_0 (k10, b10)) (.exit 8) (S 188 [(1, .ptr 0 0), (4, .vec 1 b10.length 1)] [{ c := (Tapi_State.enc s_0), e := 64, ext := false, fz := 0, pl := true, o := false }, { c := (u8s b10), e := 5, ext := true, fz := 0, pl := true, o := true }]) :=
  Does.of_viewM 1 400 (cs 5 [.op none .a, .br false]) [0, 1] (ps := [((decide ((↑k10 : Int) < (↑s_0.Books.Done.length : Int))) = false)]) (by kernel_rfl) (by kernel_rfl) (ok1 (decide_eq_false c94))
def tollwayref49_Save_L85_X (s_0 : Tapi_State) : (List UInt8) → AEx := fun o => (.exit 8)
def tollwayref49_Save_L85_E (s_0 : Tapi_State) : (List UInt8) → St := fun o => S 188 [(1, .ptr 0 0), (4, .vec 1 o.length 1)] [{ c := (Tapi_State.enc s_0), e := 64, ext := false, fz := 0, pl := true, o := false }, { c := (u8s o), e := 5, ext := true, fz := 0, pl := true, o := true }]
theorem tollwayref49_Save_L85_does (s_0 : Tapi_State) {s : (Nat × (List UInt8))} {r : (List UInt8)} (h : lp (tollwayref49_Save_L85_step s_0) s = some r) : Does Try.prog G0 1 (.loop (bodyAt Try.prog 16 [1, 1, 1, 1, 1, 1, 1, 0, 1, 0, 0])) (tollwayref49_Save_L85_H s_0 s) (tollwayref49_Save_L85_X s_0 r) (tollwayref49_Save_L85_E s_0 r) := by
  refine Does.lp (H := tollwayref49_Save_L85_H s_0) (X := tollwayref49_Save_L85_X s_0) (E := tollwayref49_Save_L85_E s_0) (fun s s2 h => ?_) (fun s r h => ?_) h
  · obtain ⟨k10, b10⟩ := s
    unfold tollwayref49_Save_L85_step at h
    try dsimp only at h
    rcases ite_some h with ⟨c94, h⟩ | ⟨c94, h⟩
    · obtain ⟨x95, h96, h⟩ := bind_some h
      obtain ⟨r97, h98, h⟩ := bind_some h
      obtain ⟨r99, h100, h⟩ := bind_some h
      obtain ⟨h101, h⟩ := guard_some h
      simp only [Option.some.injEq, Sum.inl.injEq] at h
      subst h
      exact tollwayref49_Save_L85_0 s_0 k10 b10 c94 x95 h96 r97 h98 r99 h100 h101
    · simp at h
  · obtain ⟨k10, b10⟩ := s
    unfold tollwayref49_Save_L85_step at h
    try dsimp only at h
    rcases ite_some h with ⟨c94, h⟩ | ⟨c94, h⟩
    · obtain ⟨x95, h96, h⟩ := bind_some h
      obtain ⟨r97, h98, h⟩ := bind_some h
      obtain ⟨r99, h100, h⟩ := bind_some h
      obtain ⟨h101, h⟩ := guard_some h
      simp at h
    · simp only [Option.some.injEq, Sum.inr.injEq] at h
      subst h
      exact ⟨tollwayref49_Save_L85_1 s_0 k10 b10 c94, by intro q; cases q⟩
noncomputable def tollwayref49_Save_L102_step (s_0 : Tapi_State) : (Nat × (List UInt8)) → Option ((Nat × (List UInt8)) ⊕ (List UInt8))
  | (k11, b12) =>
    if (↑k11 : Int) < (↑s_0.Cases.length : Int) then
      (s_0.Cases[k11]?).bind fun x114 =>
      (tollwayref49_texts [] [x114.ID, x114.Plate, x114.Key]).bind fun r116 =>
      (tollwayref49_ints r116 [x114.Begun, x114.Since, x114.Stage, x114.Owed, x114.Paid, x114.Paused, x114.Appeal.State, x114.Appeal.Ground, x114.Appeal.Day]).bind fun r118 =>
      (tollwayref02_PutFrame b12 7 r118).bind fun r120 =>
      if InR .i64 ((↑k11 : Int) + 1) then
        some (Sum.inl ((k11 + 1), r120))
      else none
    else
      some (Sum.inr b12)
def tollwayref49_Save_L102_H (s_0 : Tapi_State) : (Nat × (List UInt8)) → St := fun (s : (Nat × (List UInt8))) => S 188 [(1, .ptr 0 0), (4, .vec 1 s.2.length 1), (11, .int .i64 (↑s.1 : Int))] [{ c := (Tapi_State.enc s_0), e := 64, ext := false, fz := 0, pl := true, o := false }, { c := (u8s s.2), e := 5, ext := true, fz := 0, pl := true, o := true }]
theorem tollwayref49_Save_L102_0 (s_0 : Tapi_State) (k11 : Nat) (b12 : (List UInt8)) (c113 : (↑k11 : Int) < (↑s_0.Cases.length : Int)) (x114 : Tapi_Case) (h115 : s_0.Cases[k11]? = some x114) (r116 : (List UInt8)) (h117 : tollwayref49_texts [] [x114.ID, x114.Plate, x114.Key] = some r116) (r118 : (List UInt8)) (h119 : tollwayref49_ints r116 [x114.Begun, x114.Since, x114.Stage, x114.Owed, x114.Paid, x114.Paused, x114.Appeal.State, x114.Appeal.Ground, x114.Appeal.Day] = some r118) (r120 : (List UInt8)) (h121 : tollwayref02_PutFrame b12 7 r118 = some r120) (h122 : InR .i64 ((↑k11 : Int) + 1)) : Does Try.prog G0 1 (bodyAt Try.prog 16 [1, 1, 1, 1, 1, 1, 1, 1, 0, 1, 0, 0]) (tollwayref49_Save_L102_H s_0 (k11, b12)) .normal (S 188 [(1, .ptr 0 0), (4, .vec 1 r120.length 1), (11, .int .i64 ((↑k11 : Int) + 1))] [{ c := (Tapi_State.enc s_0), e := 64, ext := false, fz := 0, pl := true, o := false }, { c := (u8s r120), e := 5, ext := true, fz := 0, pl := true, o := true }]) :=
  Does.of_viewM 1 400 (cs 4 ((.op none .a) :: (.br true) :: (cs 3 ((.op none (.i k11)) :: (.op none (.v [.str x114.ID, .str x114.Plate, .str x114.Key, .int .i64 x114.Begun, .int .i64 x114.Since, .int .i64 x114.Stage, .int .i64 x114.Owed, .int .i64 x114.Paid, .int .i64 x114.Paused, .int .i64 x114.Appeal.State, .int .i64 x114.Appeal.Ground, .int .i64 x114.Appeal.Day])) :: (cs 10 ((.tr (.frz [.t 161] [.str x114.ID, .str x114.Plate, .str x114.Key] 3)) :: (.ret none [.lst [] 0, .lst [.str x114.ID, .str x114.Plate, .str x114.Key] 3] (.lst (u8s r116) r116.length) []) :: (cs 22 ((.tr (.frz [.t 184] [.int .i64 x114.Begun, .int .i64 x114.Since, .int .i64 x114.Stage, .int .i64 x114.Owed, .int .i64 x114.Paid, .int .i64 x114.Paused, .int .i64 x114.Appeal.State, .int .i64 x114.Appeal.Ground, .int .i64 x114.Appeal.Day] 9)) :: (.ret none [.lst (u8s r116) r116.length, .lst [.int .i64 x114.Begun, .int .i64 x114.Since, .int .i64 x114.Stage, .int .i64 x114.Owed, .int .i64 x114.Paid, .int .i64 x114.Paused, .int .i64 x114.Appeal.State, .int .i64 x114.Appeal.Ground, .int .i64 x114.Appeal.Day] 9] (.lst (u8s r118) r118.length) []) :: (.ret none [.lst (u8s b12) b12.length, .int .i64 7, .lst (u8s r118) r118.length] (.vec 0 r120.length 1) [{ c := (u8s r120), e := 5, ext := true, fz := 0, pl := true, o := true }]) :: (cs 2 [.op none .w, .op none .c]))))))))) [0, 5] (ps := [((decide ((↑k11 : Int) < (↑s_0.Cases.length : Int))) = true), ((↑k11 : Int) = ((k11 : Nat) : Int) ∧ k11 < s_0.Cases.length), ((fl Tapi_Case.enc s_0.Cases) ≠ []), (sub (fl Tapi_Case.enc s_0.Cases) (k11 * 12) 12 = [.str x114.ID, .str x114.Plate, .str x114.Key, .int .i64 x114.Begun, .int .i64 x114.Since, .int .i64 x114.Stage, .int .i64 x114.Owed, .int .i64 x114.Paid, .int .i64 x114.Paused, .int .i64 x114.Appeal.State, .int .i64 x114.Appeal.Ground, .int .i64 x114.Appeal.Day]), (3 = 3 ∧ sub [.str x114.ID, .str x114.Plate, .str x114.Key] 0 3 = [.str x114.ID, .str x114.Plate, .str x114.Key] ∧ 3 = 3 ∧ 0 + 3 ≤ List.length ([.str x114.ID, .str x114.Plate, .str x114.Key] : List AV) ∧ 3 ≤ 3), ((.lst [.str x114.ID, .str x114.Plate, .str x114.Key] 3 : AV) = .lst [.str x114.ID, .str x114.Plate, .str x114.Key] 3), (Ret Try.prog G0 44 [.lst [] 0, .lst [.str x114.ID, .str x114.Plate, .str x114.Key] 3] (.lst (u8s r116) r116.length) []), (4 = 4 ∧ sub [.int .i64 x114.Begun, .int .i64 x114.Since, .int .i64 x114.Stage, .int .i64 x114.Owed, .int .i64 x114.Paid, .int .i64 x114.Paused, .int .i64 x114.Appeal.State, .int .i64 x114.Appeal.Ground, .int .i64 x114.Appeal.Day] 0 9 = [.int .i64 x114.Begun, .int .i64 x114.Since, .int .i64 x114.Stage, .int .i64 x114.Owed, .int .i64 x114.Paid, .int .i64 x114.Paused, .int .i64 x114.Appeal.State, .int .i64 x114.Appeal.Ground, .int .i64 x114.Appeal.Day] ∧ 9 = 9 ∧ 0 + 9 ≤ List.length ([.int .i64 x114.Begun, .int .i64 x114.Since, .int .i64 x114.Stage, .int .i64 x114.Owed, .int .i64 x114.Paid, .int .i64 x114.Paused, .int .i64 x114.Appeal.State, .int .i64 x114.Appeal.Ground, .int .i64 x114.Appeal.Day] : List AV) ∧ 9 ≤ 9), ((.lst (u8s r116) r116.length : AV) = .lst (u8s r116) r116.length), ((.lst [.int .i64 x114.Begun, .int .i64 x114.Since, .int .i64 x114.Stage, .int .i64 x114.Owed, .int .i64 x114.Paid, .int .i64 x114.Paused, .int .i64 x114.Appeal.State, .int .i64 x114.Appeal.Ground, .int .i64 x114.Appeal.Day] 9 : AV) = .lst [.int .i64 x114.Begun, .int .i64 x114.Since, .int .i64 x114.Stage, .int .i64 x114.Owed, .int .i64 x114.Paid, .int .i64 x114.Paused, .int .i64 x114.Appeal.State, .int .i64 x114.Appeal.Ground, .int .i64 x114.Appeal.Day] 9), (Ret Try.prog G0 42 [.lst (u8s r116) r116.length, .lst [.int .i64 x114.Begun, .int .i64 x114.Since, .int .i64 x114.Stage, .int .i64 x114.Owed, .int .i64 x114.Paid, .int .i64 x114.Paused, .int .i64 x114.Appeal.State, .int .i64 x114.Appeal.Ground, .int .i64 x114.Appeal.Day] 9] (.lst (u8s r118) r118.length) []), ((u8s b12) = (u8s b12) ∧ b12.length = b12.length ∧ List.length ((u8s b12) : List AV) = b12.length), ((.int .i64 7 : AV) = .int .i64 7), ((.lst (u8s r118) r118.length : AV) = .lst (u8s r118) r118.length), (datBlks [{ c := (u8s r120), e := 5, ext := true, fz := 0, pl := true, o := true }]), (Ret Try.prog G0 36 [.lst (u8s b12) b12.length, .int .i64 7, .lst (u8s r118) r118.length] (.vec 0 r120.length 1) [{ c := (u8s r120), e := 5, ext := true, fz := 0, pl := true, o := true }]), ((some (Ob.blk { c := (u8s b12), e := 5, ext := true, fz := 0, pl := true, o := true }) = some (Ob.blk { c := (u8s b12), e := 5, ext := true, fz := 0, pl := true, o := true })) ∧ True), (IntKind.min .i64 ≤ ((↑k11 : Int) + 1) ∧ ((↑k11 : Int) + 1) ≤ IntKind.max .i64)]) (by kernel_rfl) (by kernel_rfl) ⟨(decide_eq_true c113), ⟨rfl, get_lt h115⟩, (fl_ne (f := Tapi_Case.enc) (z := 11) (fun _ => rfl) h115), (fl_sub0 (f := Tapi_Case.enc) (z := 12) (j := k11) (fun _ => rfl) h115 rfl), ⟨rfl, rfl, rfl, Nat.le_of_ble_eq_true rfl, Nat.le_of_ble_eq_true rfl⟩, rfl, (tollwayref49_texts_ret [] [x114.ID, x114.Plate, x114.Key] r116 h117), ⟨rfl, rfl, rfl, Nat.le_of_ble_eq_true rfl, Nat.le_of_ble_eq_true rfl⟩, rfl, rfl, (tollwayref49_ints_ret r116 [x114.Begun, x114.Since, x114.Stage, x114.Owed, x114.Paid, x114.Paused, x114.Appeal.State, x114.Appeal.Ground, x114.Appeal.Day] r118 h119), ⟨rfl, rfl, u8s_length⟩, rfl, rfl, ⟨u8s_dat, trivial⟩, (tollwayref02_PutFrame_ret b12 7 r118 r120 h121), ⟨rfl, trivial⟩, ok1 h122⟩
theorem tollwayref49_Save_L102_1 (s_0 : Tapi_State) (k11 : Nat) (b12 : (List UInt8)) (c113 : ¬ ((↑k11 : Int) < (↑s_0.Cases.length : Int))) : Does Try.prog G0 1 (bodyAt Try.prog 16 [1, 1, 1, 1, 1, 1, 1, 1, 0, 1, 0, 0]) (tollwayref49_Save_L102_H s_0 (k11, b12)) (.exit 10) (S 188 [(4, .vec 1 b12.length 1)] [{ c := (Tapi_State.enc s_0), e := 64, ext := false, fz := 0, pl := true, o := false }, { c := (u8s b12), e := 5, ext := true, fz := 0, pl := true, o := true }]) :=
  Does.of_viewM 1 400 (cs 4 [.op none .a, .br false]) [0, 1] (ps := [((decide ((↑k11 : Int) < (↑s_0.Cases.length : Int))) = false)]) (by kernel_rfl) (by kernel_rfl) (ok1 (decide_eq_false c113))
def tollwayref49_Save_L102_X (s_0 : Tapi_State) : (List UInt8) → AEx := fun o => (.exit 10)
def tollwayref49_Save_L102_E (s_0 : Tapi_State) : (List UInt8) → St := fun o => S 188 [(4, .vec 1 o.length 1)] [{ c := (Tapi_State.enc s_0), e := 64, ext := false, fz := 0, pl := true, o := false }, { c := (u8s o), e := 5, ext := true, fz := 0, pl := true, o := true }]
theorem tollwayref49_Save_L102_does (s_0 : Tapi_State) {s : (Nat × (List UInt8))} {r : (List UInt8)} (h : lp (tollwayref49_Save_L102_step s_0) s = some r) : Does Try.prog G0 1 (.loop (bodyAt Try.prog 16 [1, 1, 1, 1, 1, 1, 1, 1, 0, 1, 0, 0])) (tollwayref49_Save_L102_H s_0 s) (tollwayref49_Save_L102_X s_0 r) (tollwayref49_Save_L102_E s_0 r) := by
  refine Does.lp (H := tollwayref49_Save_L102_H s_0) (X := tollwayref49_Save_L102_X s_0) (E := tollwayref49_Save_L102_E s_0) (fun s s2 h => ?_) (fun s r h => ?_) h
  · obtain ⟨k11, b12⟩ := s
    unfold tollwayref49_Save_L102_step at h
    try dsimp only at h
    rcases ite_some h with ⟨c113, h⟩ | ⟨c113, h⟩
    · obtain ⟨x114, h115, h⟩ := bind_some h
      obtain ⟨r116, h117, h⟩ := bind_some h
      obtain ⟨r118, h119, h⟩ := bind_some h
      obtain ⟨r120, h121, h⟩ := bind_some h
      obtain ⟨h122, h⟩ := guard_some h
      simp only [Option.some.injEq, Sum.inl.injEq] at h
      subst h
      exact tollwayref49_Save_L102_0 s_0 k11 b12 c113 x114 h115 r116 h117 r118 h119 r120 h121 h122
    · simp at h
  · obtain ⟨k11, b12⟩ := s
    unfold tollwayref49_Save_L102_step at h
    try dsimp only at h
    rcases ite_some h with ⟨c113, h⟩ | ⟨c113, h⟩
    · obtain ⟨x114, h115, h⟩ := bind_some h
      obtain ⟨r116, h117, h⟩ := bind_some h
      obtain ⟨r118, h119, h⟩ := bind_some h
      obtain ⟨r120, h121, h⟩ := bind_some h
      obtain ⟨h122, h⟩ := guard_some h
      simp at h
    · simp only [Option.some.injEq, Sum.inr.injEq] at h
      subst h
      exact ⟨tollwayref49_Save_L102_1 s_0 k11 b12 c113, by intro q; cases q⟩
noncomputable def tollwayref49_Save (s_0 : Tapi_State) : Option (List UInt8) :=
  (tollwayref49_ints [] [1, s_0.Closed, s_0.Count, (↑s_0.Seen.length : Int), (↑s_0.Rejects.length : Int), (↑s_0.Parked.length : Int), (↑s_0.Books.Ledger.Entries.length : Int), (↑s_0.Books.Done.length : Int), (↑s_0.Cases.length : Int)]).bind fun r1 =>
  (tollwayref02_PutFrame [] 1 r1).bind fun r3 =>
  (lp (tollwayref49_Save_L5_step s_0) ((0 : Nat), r3)).bind fun o5 =>
  (lp (tollwayref49_Save_L22_step s_0) ((0 : Nat), o5)).bind fun o22 =>
  (lp (tollwayref49_Save_L43_step s_0) ((0 : Nat), o22)).bind fun o43 =>
  (lp (tollwayref49_Save_L68_step s_0) ((0 : Nat), o43)).bind fun o68 =>
  (lp (tollwayref49_Save_L85_step s_0) ((0 : Nat), o68)).bind fun o85 =>
  (lp (tollwayref49_Save_L102_step s_0) ((0 : Nat), o85)).bind fun o102 =>
  some o102
theorem tollwayref49_Save_0 (s_0 : Tapi_State) (r1 : (List UInt8)) (h2 : tollwayref49_ints [] [1, s_0.Closed, s_0.Count, (↑s_0.Seen.length : Int), (↑s_0.Rejects.length : Int), (↑s_0.Parked.length : Int), (↑s_0.Books.Ledger.Entries.length : Int), (↑s_0.Books.Done.length : Int), (↑s_0.Cases.length : Int)] = some r1) (r3 : (List UInt8)) (h4 : tollwayref02_PutFrame [] 1 r1 = some r3) (o5 : (List UInt8)) (hl5 : lp (tollwayref49_Save_L5_step s_0) ((0 : Nat), r3) = some o5) (o22 : (List UInt8)) (hl22 : lp (tollwayref49_Save_L22_step s_0) ((0 : Nat), o5) = some o22) (o43 : (List UInt8)) (hl43 : lp (tollwayref49_Save_L43_step s_0) ((0 : Nat), o22) = some o43) (o68 : (List UInt8)) (hl68 : lp (tollwayref49_Save_L68_step s_0) ((0 : Nat), o43) = some o68) (o85 : (List UInt8)) (hl85 : lp (tollwayref49_Save_L85_step s_0) ((0 : Nat), o68) = some o85) (o102 : (List UInt8)) (hl102 : lp (tollwayref49_Save_L102_step s_0) ((0 : Nat), o85) = some o102) : Ret Try.prog G0 16 [.agg (Tapi_State.enc s_0)] (.vec 0 o102.length 1) [{ c := (u8s o102), e := 5, ext := true, fz := 0, pl := true, o := true }] :=
  Ret.of_view 400 (cs 30 ((.tr (.frz [.t 39] [.int .i64 1, .int .i64 s_0.Closed, .int .i64 s_0.Count, .int .i64 (↑s_0.Seen.length : Int), .int .i64 (↑s_0.Rejects.length : Int), .int .i64 (↑s_0.Parked.length : Int), .int .i64 (↑s_0.Books.Ledger.Entries.length : Int), .int .i64 (↑s_0.Books.Done.length : Int), .int .i64 (↑s_0.Cases.length : Int)] 9)) :: (.ret none [.lst [] 0, .lst [.int .i64 1, .int .i64 s_0.Closed, .int .i64 s_0.Count, .int .i64 (↑s_0.Seen.length : Int), .int .i64 (↑s_0.Rejects.length : Int), .int .i64 (↑s_0.Parked.length : Int), .int .i64 (↑s_0.Books.Ledger.Entries.length : Int), .int .i64 (↑s_0.Books.Done.length : Int), .int .i64 (↑s_0.Cases.length : Int)] 9] (.lst (u8s r1) r1.length) []) :: (.ret none [.lst [] 0, .int .i64 1, .lst (u8s r1) r1.length] (.vec 0 r3.length 1) [{ c := (u8s r3), e := 5, ext := true, fz := 0, pl := true, o := true }]) :: (cs 2 ((.fcut 1 (.exit 0) [(1, .ptr 0 0), (3, .lst (fl Tapi_Entry.enc s_0.Books.Ledger.Entries) s_0.Books.Ledger.Entries.length), (4, .vec 1 o5.length 1)] [{ c := (Tapi_State.enc s_0), e := 64, ext := false, fz := 0, pl := true, o := false }, { c := (u8s o5), e := 5, ext := true, fz := 0, pl := true, o := true }] [0, 2] [(1, .ptr 0 0), (3, .lst (fl Tapi_Entry.enc s_0.Books.Ledger.Entries) s_0.Books.Ledger.Entries.length), (4, .vec 1 r3.length 1), (5, .int .i64 (↑(0 : Nat) : Int))] [{ c := (Tapi_State.enc s_0), e := 64, ext := false, fz := 0, pl := true, o := false }, { c := (u8s r3), e := 5, ext := true, fz := 0, pl := true, o := true }]) :: (.op none .c) :: (.fcut 1 (.exit 2) [(1, .ptr 0 0), (3, .lst (fl Tapi_Entry.enc s_0.Books.Ledger.Entries) s_0.Books.Ledger.Entries.length), (4, .vec 1 o22.length 1)] [{ c := (Tapi_State.enc s_0), e := 64, ext := false, fz := 0, pl := true, o := false }, { c := (u8s o22), e := 5, ext := true, fz := 0, pl := true, o := true }] [0, 4] [(1, .ptr 0 0), (3, .lst (fl Tapi_Entry.enc s_0.Books.Ledger.Entries) s_0.Books.Ledger.Entries.length), (4, .vec 1 o5.length 1), (6, .int .i64 (↑(0 : Nat) : Int))] [{ c := (Tapi_State.enc s_0), e := 64, ext := false, fz := 0, pl := true, o := false }, { c := (u8s o5), e := 5, ext := true, fz := 0, pl := true, o := true }]) :: (.op none .c) :: (.fcut 1 (.exit 4) [(1, .ptr 0 0), (3, .lst (fl Tapi_Entry.enc s_0.Books.Ledger.Entries) s_0.Books.Ledger.Entries.length), (4, .vec 1 o43.length 1)] [{ c := (Tapi_State.enc s_0), e := 64, ext := false, fz := 0, pl := true, o := false }, { c := (u8s o43), e := 5, ext := true, fz := 0, pl := true, o := true }] [0, 6] [(1, .ptr 0 0), (3, .lst (fl Tapi_Entry.enc s_0.Books.Ledger.Entries) s_0.Books.Ledger.Entries.length), (4, .vec 1 o22.length 1), (7, .int .i64 (↑(0 : Nat) : Int))] [{ c := (Tapi_State.enc s_0), e := 64, ext := false, fz := 0, pl := true, o := false }, { c := (u8s o22), e := 5, ext := true, fz := 0, pl := true, o := true }]) :: (.op none .c) :: (.fcut 1 (.exit 6) [(1, .ptr 0 0), (4, .vec 1 o68.length 1)] [{ c := (Tapi_State.enc s_0), e := 64, ext := false, fz := 0, pl := true, o := false }, { c := (u8s o68), e := 5, ext := true, fz := 0, pl := true, o := true }] [0, 8] [(1, .ptr 0 0), (3, .lst (fl Tapi_Entry.enc s_0.Books.Ledger.Entries) s_0.Books.Ledger.Entries.length), (4, .vec 1 o43.length 1), (9, .int .i64 (↑(0 : Nat) : Int))] [{ c := (Tapi_State.enc s_0), e := 64, ext := false, fz := 0, pl := true, o := false }, { c := (u8s o43), e := 5, ext := true, fz := 0, pl := true, o := true }]) :: (.op none .c) :: (.fcut 1 (.exit 8) [(1, .ptr 0 0), (4, .vec 1 o85.length 1)] [{ c := (Tapi_State.enc s_0), e := 64, ext := false, fz := 0, pl := true, o := false }, { c := (u8s o85), e := 5, ext := true, fz := 0, pl := true, o := true }] [0, 10] [(1, .ptr 0 0), (4, .vec 1 o68.length 1), (10, .int .i64 (↑(0 : Nat) : Int))] [{ c := (Tapi_State.enc s_0), e := 64, ext := false, fz := 0, pl := true, o := false }, { c := (u8s o68), e := 5, ext := true, fz := 0, pl := true, o := true }]) :: (.op none .c) :: (.fcut 1 (.exit 10) [(4, .vec 1 o102.length 1)] [{ c := (Tapi_State.enc s_0), e := 64, ext := false, fz := 0, pl := true, o := false }, { c := (u8s o102), e := 5, ext := true, fz := 0, pl := true, o := true }] [0, 12] [(1, .ptr 0 0), (4, .vec 1 o85.length 1), (11, .int .i64 (↑(0 : Nat) : Int))] [{ c := (Tapi_State.enc s_0), e := 64, ext := false, fz := 0, pl := true, o := false }, { c := (u8s o85), e := 5, ext := true, fz := 0, pl := true, o := true }]) :: (cs 2 []))))) [14] (ps := [(1 = 1 ∧ sub [.int .i64 1, .int .i64 s_0.Closed, .int .i64 s_0.Count, .int .i64 (↑s_0.Seen.length : Int), .int .i64 (↑s_0.Rejects.length : Int), .int .i64 (↑s_0.Parked.length : Int), .int .i64 (↑s_0.Books.Ledger.Entries.length : Int), .int .i64 (↑s_0.Books.Done.length : Int), .int .i64 (↑s_0.Cases.length : Int)] 0 9 = [.int .i64 1, .int .i64 s_0.Closed, .int .i64 s_0.Count, .int .i64 (↑s_0.Seen.length : Int), .int .i64 (↑s_0.Rejects.length : Int), .int .i64 (↑s_0.Parked.length : Int), .int .i64 (↑s_0.Books.Ledger.Entries.length : Int), .int .i64 (↑s_0.Books.Done.length : Int), .int .i64 (↑s_0.Cases.length : Int)] ∧ 9 = 9 ∧ 0 + 9 ≤ List.length ([.int .i64 1, .int .i64 s_0.Closed, .int .i64 s_0.Count, .int .i64 (↑s_0.Seen.length : Int), .int .i64 (↑s_0.Rejects.length : Int), .int .i64 (↑s_0.Parked.length : Int), .int .i64 (↑s_0.Books.Ledger.Entries.length : Int), .int .i64 (↑s_0.Books.Done.length : Int), .int .i64 (↑s_0.Cases.length : Int)] : List AV) ∧ 9 ≤ 9), ((.lst [.int .i64 1, .int .i64 s_0.Closed, .int .i64 s_0.Count, .int .i64 (↑s_0.Seen.length : Int), .int .i64 (↑s_0.Rejects.length : Int), .int .i64 (↑s_0.Parked.length : Int), .int .i64 (↑s_0.Books.Ledger.Entries.length : Int), .int .i64 (↑s_0.Books.Done.length : Int), .int .i64 (↑s_0.Cases.length : Int)] 9 : AV) = .lst [.int .i64 1, .int .i64 s_0.Closed, .int .i64 s_0.Count, .int .i64 (↑s_0.Seen.length : Int), .int .i64 (↑s_0.Rejects.length : Int), .int .i64 (↑s_0.Parked.length : Int), .int .i64 (↑s_0.Books.Ledger.Entries.length : Int), .int .i64 (↑s_0.Books.Done.length : Int), .int .i64 (↑s_0.Cases.length : Int)] 9), (Ret Try.prog G0 42 [.lst [] 0, .lst [.int .i64 1, .int .i64 s_0.Closed, .int .i64 s_0.Count, .int .i64 (↑s_0.Seen.length : Int), .int .i64 (↑s_0.Rejects.length : Int), .int .i64 (↑s_0.Parked.length : Int), .int .i64 (↑s_0.Books.Ledger.Entries.length : Int), .int .i64 (↑s_0.Books.Done.length : Int), .int .i64 (↑s_0.Cases.length : Int)] 9] (.lst (u8s r1) r1.length) []), ((.int .i64 1 : AV) = .int .i64 1), ((.lst (u8s r1) r1.length : AV) = .lst (u8s r1) r1.length), (Ret Try.prog G0 36 [.lst [] 0, .int .i64 1, .lst (u8s r1) r1.length] (.vec 0 r3.length 1) [{ c := (u8s r3), e := 5, ext := true, fz := 0, pl := true, o := true }]), ((.ptr 0 0 : AV) = .ptr 0 0), ((.lst (fl Tapi_Entry.enc s_0.Books.Ledger.Entries) s_0.Books.Ledger.Entries.length : AV) = .lst (fl Tapi_Entry.enc s_0.Books.Ledger.Entries) s_0.Books.Ledger.Entries.length), ((.vec 2 r3.length 1 : AV) = .vec 2 r3.length 1), ((.int .i64 0 : AV) = .int .i64 (↑(0 : Nat) : Int)), (({ c := (Tapi_State.enc s_0), e := 64, ext := false, fz := 0, pl := true, o := false } : Blk) = renB [0, 2] { c := (Tapi_State.enc s_0), e := 64, ext := false, fz := 0, pl := true, o := false }), (({ c := (u8s r3), e := 5, ext := true, fz := 0, pl := true, o := true } : Blk) = renB [0, 2] { c := (u8s r3), e := 5, ext := true, fz := 0, pl := true, o := true }), (Does Try.prog G0 1 (.loop (bodyAt Try.prog 16 [1, 1, 1, 0, 1, 0, 0])) (S 188 [(1, .ptr 0 0), (3, .lst (fl Tapi_Entry.enc s_0.Books.Ledger.Entries) s_0.Books.Ledger.Entries.length), (4, .vec 1 r3.length 1), (5, .int .i64 (↑(0 : Nat) : Int))] [{ c := (Tapi_State.enc s_0), e := 64, ext := false, fz := 0, pl := true, o := false }, { c := (u8s r3), e := 5, ext := true, fz := 0, pl := true, o := true }]) (.exit 0) (S 188 [(1, .ptr 0 0), (3, .lst (fl Tapi_Entry.enc s_0.Books.Ledger.Entries) s_0.Books.Ledger.Entries.length), (4, .vec 1 o5.length 1)] [{ c := (Tapi_State.enc s_0), e := 64, ext := false, fz := 0, pl := true, o := false }, { c := (u8s o5), e := 5, ext := true, fz := 0, pl := true, o := true }])), ((.ptr 0 0 : AV) = .ptr 0 0), ((.lst (fl Tapi_Entry.enc s_0.Books.Ledger.Entries) s_0.Books.Ledger.Entries.length : AV) = .lst (fl Tapi_Entry.enc s_0.Books.Ledger.Entries) s_0.Books.Ledger.Entries.length), ((.vec 4 o5.length 1 : AV) = .vec 4 o5.length 1), ((.int .i64 0 : AV) = .int .i64 (↑(0 : Nat) : Int)), (({ c := (Tapi_State.enc s_0), e := 64, ext := false, fz := 0, pl := true, o := false } : Blk) = renB [0, 4] { c := (Tapi_State.enc s_0), e := 64, ext := false, fz := 0, pl := true, o := false }), (({ c := (u8s o5), e := 5, ext := true, fz := 0, pl := true, o := true } : Blk) = renB [0, 4] { c := (u8s o5), e := 5, ext := true, fz := 0, pl := true, o := true }), (Does Try.prog G0 1 (.loop (bodyAt Try.prog 16 [1, 1, 1, 1, 0, 1, 0, 0])) (S 188 [(1, .ptr 0 0), (3, .lst (fl Tapi_Entry.enc s_0.Books.Ledger.Entries) s_0.Books.Ledger.Entries.length), (4, .vec 1 o5.length 1), (6, .int .i64 (↑(0 : Nat) : Int))] [{ c := (Tapi_State.enc s_0), e := 64, ext := false, fz := 0, pl := true, o := false }, { c := (u8s o5), e := 5, ext := true, fz := 0, pl := true, o := true }]) (.exit 2) (S 188 [(1, .ptr 0 0), (3, .lst (fl Tapi_Entry.enc s_0.Books.Ledger.Entries) s_0.Books.Ledger.Entries.length), (4, .vec 1 o22.length 1)] [{ c := (Tapi_State.enc s_0), e := 64, ext := false, fz := 0, pl := true, o := false }, { c := (u8s o22), e := 5, ext := true, fz := 0, pl := true, o := true }])), ((.ptr 0 0 : AV) = .ptr 0 0), ((.lst (fl Tapi_Entry.enc s_0.Books.Ledger.Entries) s_0.Books.Ledger.Entries.length : AV) = .lst (fl Tapi_Entry.enc s_0.Books.Ledger.Entries) s_0.Books.Ledger.Entries.length), ((.vec 6 o22.length 1 : AV) = .vec 6 o22.length 1), ((.int .i64 0 : AV) = .int .i64 (↑(0 : Nat) : Int)), (({ c := (Tapi_State.enc s_0), e := 64, ext := false, fz := 0, pl := true, o := false } : Blk) = renB [0, 6] { c := (Tapi_State.enc s_0), e := 64, ext := false, fz := 0, pl := true, o := false }), (({ c := (u8s o22), e := 5, ext := true, fz := 0, pl := true, o := true } : Blk) = renB [0, 6] { c := (u8s o22), e := 5, ext := true, fz := 0, pl := true, o := true }), (Does Try.prog G0 1 (.loop (bodyAt Try.prog 16 [1, 1, 1, 1, 1, 0, 1, 0, 0])) (S 188 [(1, .ptr 0 0), (3, .lst (fl Tapi_Entry.enc s_0.Books.Ledger.Entries) s_0.Books.Ledger.Entries.length), (4, .vec 1 o22.length 1), (7, .int .i64 (↑(0 : Nat) : Int))] [{ c := (Tapi_State.enc s_0), e := 64, ext := false, fz := 0, pl := true, o := false }, { c := (u8s o22), e := 5, ext := true, fz := 0, pl := true, o := true }]) (.exit 4) (S 188 [(1, .ptr 0 0), (3, .lst (fl Tapi_Entry.enc s_0.Books.Ledger.Entries) s_0.Books.Ledger.Entries.length), (4, .vec 1 o43.length 1)] [{ c := (Tapi_State.enc s_0), e := 64, ext := false, fz := 0, pl := true, o := false }, { c := (u8s o43), e := 5, ext := true, fz := 0, pl := true, o := true }])), ((.ptr 0 0 : AV) = .ptr 0 0), ((.lst (fl Tapi_Entry.enc s_0.Books.Ledger.Entries) s_0.Books.Ledger.Entries.length : AV) = .lst (fl Tapi_Entry.enc s_0.Books.Ledger.Entries) s_0.Books.Ledger.Entries.length), ((.vec 8 o43.length 1 : AV) = .vec 8 o43.length 1), ((.int .i64 0 : AV) = .int .i64 (↑(0 : Nat) : Int)), (({ c := (Tapi_State.enc s_0), e := 64, ext := false, fz := 0, pl := true, o := false } : Blk) = renB [0, 8] { c := (Tapi_State.enc s_0), e := 64, ext := false, fz := 0, pl := true, o := false }), (({ c := (u8s o43), e := 5, ext := true, fz := 0, pl := true, o := true } : Blk) = renB [0, 8] { c := (u8s o43), e := 5, ext := true, fz := 0, pl := true, o := true }), (Does Try.prog G0 1 (.loop (bodyAt Try.prog 16 [1, 1, 1, 1, 1, 1, 0, 1, 0, 0])) (S 188 [(1, .ptr 0 0), (3, .lst (fl Tapi_Entry.enc s_0.Books.Ledger.Entries) s_0.Books.Ledger.Entries.length), (4, .vec 1 o43.length 1), (9, .int .i64 (↑(0 : Nat) : Int))] [{ c := (Tapi_State.enc s_0), e := 64, ext := false, fz := 0, pl := true, o := false }, { c := (u8s o43), e := 5, ext := true, fz := 0, pl := true, o := true }]) (.exit 6) (S 188 [(1, .ptr 0 0), (4, .vec 1 o68.length 1)] [{ c := (Tapi_State.enc s_0), e := 64, ext := false, fz := 0, pl := true, o := false }, { c := (u8s o68), e := 5, ext := true, fz := 0, pl := true, o := true }])), ((.ptr 0 0 : AV) = .ptr 0 0), ((.vec 10 o68.length 1 : AV) = .vec 10 o68.length 1), ((.int .i64 0 : AV) = .int .i64 (↑(0 : Nat) : Int)), (({ c := (Tapi_State.enc s_0), e := 64, ext := false, fz := 0, pl := true, o := false } : Blk) = renB [0, 10] { c := (Tapi_State.enc s_0), e := 64, ext := false, fz := 0, pl := true, o := false }), (({ c := (u8s o68), e := 5, ext := true, fz := 0, pl := true, o := true } : Blk) = renB [0, 10] { c := (u8s o68), e := 5, ext := true, fz := 0, pl := true, o := true }), (Does Try.prog G0 1 (.loop (bodyAt Try.prog 16 [1, 1, 1, 1, 1, 1, 1, 0, 1, 0, 0])) (S 188 [(1, .ptr 0 0), (4, .vec 1 o68.length 1), (10, .int .i64 (↑(0 : Nat) : Int))] [{ c := (Tapi_State.enc s_0), e := 64, ext := false, fz := 0, pl := true, o := false }, { c := (u8s o68), e := 5, ext := true, fz := 0, pl := true, o := true }]) (.exit 8) (S 188 [(1, .ptr 0 0), (4, .vec 1 o85.length 1)] [{ c := (Tapi_State.enc s_0), e := 64, ext := false, fz := 0, pl := true, o := false }, { c := (u8s o85), e := 5, ext := true, fz := 0, pl := true, o := true }])), ((.ptr 0 0 : AV) = .ptr 0 0), ((.vec 12 o85.length 1 : AV) = .vec 12 o85.length 1), ((.int .i64 0 : AV) = .int .i64 (↑(0 : Nat) : Int)), (({ c := (Tapi_State.enc s_0), e := 64, ext := false, fz := 0, pl := true, o := false } : Blk) = renB [0, 12] { c := (Tapi_State.enc s_0), e := 64, ext := false, fz := 0, pl := true, o := false }), (({ c := (u8s o85), e := 5, ext := true, fz := 0, pl := true, o := true } : Blk) = renB [0, 12] { c := (u8s o85), e := 5, ext := true, fz := 0, pl := true, o := true }), (Does Try.prog G0 1 (.loop (bodyAt Try.prog 16 [1, 1, 1, 1, 1, 1, 1, 1, 0, 1, 0, 0])) (S 188 [(1, .ptr 0 0), (4, .vec 1 o85.length 1), (11, .int .i64 (↑(0 : Nat) : Int))] [{ c := (Tapi_State.enc s_0), e := 64, ext := false, fz := 0, pl := true, o := false }, { c := (u8s o85), e := 5, ext := true, fz := 0, pl := true, o := true }]) (.exit 10) (S 188 [(4, .vec 1 o102.length 1)] [{ c := (Tapi_State.enc s_0), e := 64, ext := false, fz := 0, pl := true, o := false }, { c := (u8s o102), e := 5, ext := true, fz := 0, pl := true, o := true }]))]) (by kernel_rfl) (by kernel_rfl) ⟨⟨rfl, rfl, rfl, Nat.le_of_ble_eq_true rfl, Nat.le_of_ble_eq_true rfl⟩, rfl, (tollwayref49_ints_ret [] [1, s_0.Closed, s_0.Count, (↑s_0.Seen.length : Int), (↑s_0.Rejects.length : Int), (↑s_0.Parked.length : Int), (↑s_0.Books.Ledger.Entries.length : Int), (↑s_0.Books.Done.length : Int), (↑s_0.Cases.length : Int)] r1 h2), rfl, rfl, (tollwayref02_PutFrame_ret [] 1 r1 r3 h4), rfl, rfl, rfl, rfl, rfl, rfl, (tollwayref49_Save_L5_does s_0 hl5), rfl, rfl, rfl, rfl, rfl, rfl, (tollwayref49_Save_L22_does s_0 hl22), rfl, rfl, rfl, rfl, rfl, rfl, (tollwayref49_Save_L43_does s_0 hl43), rfl, rfl, rfl, rfl, rfl, rfl, (tollwayref49_Save_L68_does s_0 hl68), rfl, rfl, rfl, rfl, rfl, (tollwayref49_Save_L85_does s_0 hl85), rfl, rfl, rfl, rfl, rfl, ok1 (tollwayref49_Save_L102_does s_0 hl102)⟩
theorem tollwayref49_Save_ret (s_0 : Tapi_State) (r : (List UInt8)) (h : tollwayref49_Save s_0 = some r) : Ret Try.prog G0 16 [.agg (Tapi_State.enc s_0)] (.vec 0 r.length 1) [{ c := (u8s r), e := 5, ext := true, fz := 0, pl := true, o := true }] := by
  unfold tollwayref49_Save at h
  obtain ⟨r1, h2, h⟩ := bind_some h
  obtain ⟨r3, h4, h⟩ := bind_some h
  obtain ⟨o5, hl5, h⟩ := bind_some h
  obtain ⟨o22, hl22, h⟩ := bind_some h
  obtain ⟨o43, hl43, h⟩ := bind_some h
  obtain ⟨o68, hl68, h⟩ := bind_some h
  obtain ⟨o85, hl85, h⟩ := bind_some h
  obtain ⟨o102, hl102, h⟩ := bind_some h
  simp only [Option.some.injEq] at h
  subst h
  exact tollwayref49_Save_0 s_0 r1 h2 r3 h4 o5 hl5 o22 hl22 o43 hl43 o68 hl68 o85 hl85 o102 hl102
end Go.Proofs.Yteljonodbkkckaa.Av
