import Derived.Test.YtalobodhbbkgdabDoorAvX
import Derived.Test.YtalobodhbbkgdabDoorProg
import Derived.Tactics
import Derived.Test.YtalobodhbbkgdabDoorR0
set_option linter.unusedVariables false
set_option linter.unusedSimpArgs false
set_option maxHeartbeats 4000000
namespace Go.Proofs.YtalobodhbbkgdabDoor.Av
open Go Go.Proofs
structure Tapi_Source where
  Device : (List UInt8)
  Seq : Int
def Tapi_Source.enc (x : Tapi_Source) : List AV := [.str x.Device, .int .i64 x.Seq]
structure Tapi_Detection where
  Device : (List UInt8)
  Seq : Int
  Time : Int
  Tag : (List UInt8)
  Plate : (List UInt8)
  Axles : Int
  Score : Int
def Tapi_Detection.enc (x : Tapi_Detection) : List AV := [.str x.Device, .int .i64 x.Seq, .int .i64 x.Time, .str x.Tag, .str x.Plate, .int .i64 x.Axles, .int .i64 x.Score]
structure Tapi_Point where
  Name : (List UInt8)
  Kind : Int
  System : (List UInt8)
def Tapi_Point.enc (x : Tapi_Point) : List AV := [.str x.Name, .int .i64 x.Kind, .str x.System]
structure Tapi_Link where
  From : (List UInt8)
  To : (List UInt8)
  Min : Int
  Max : Int
def Tapi_Link.enc (x : Tapi_Link) : List AV := [.str x.From, .str x.To, .int .i64 x.Min, .int .i64 x.Max]
structure Tapi_Network where
  Points : (List Tapi_Point)
  Links : (List Tapi_Link)
def Tapi_Network.enc (x : Tapi_Network) : List AV := [.lst (fl Tapi_Point.enc x.Points) x.Points.length, .lst (fl Tapi_Link.enc x.Links) x.Links.length]
structure Tapi_System where
  Name : (List UInt8)
  Closed : Bool
  Most : Int
def Tapi_System.enc (x : Tapi_System) : List AV := [.str x.Name, .bool x.Closed, .int .i64 x.Most]
structure Tapi_Topology where
  Net : Tapi_Network
  Systems : (List Tapi_System)
def Tapi_Topology.enc (x : Tapi_Topology) : List AV := [.lst (fl Tapi_Point.enc x.Net.Points) x.Net.Points.length, .lst (fl Tapi_Link.enc x.Net.Links) x.Net.Links.length, .lst (fl Tapi_System.enc x.Systems) x.Systems.length]
structure Tapi_Offset where
  From : Int
  Delta : Int
def Tapi_Offset.enc (x : Tapi_Offset) : List AV := [.int .i64 x.From, .int .i64 x.Delta]
structure Tapi_Interval where
  From : Int
  To : Int
def Tapi_Interval.enc (x : Tapi_Interval) : List AV := [.int .i64 x.From, .int .i64 x.To]
structure Tapi_Device where
  Name : (List UInt8)
  Point : (List UInt8)
  Kind : Int
  Lane : Int
  Offsets : (List Tapi_Offset)
  Down : (List Tapi_Interval)
def Tapi_Device.enc (x : Tapi_Device) : List AV := [.str x.Name, .str x.Point, .int .i64 x.Kind, .int .i64 x.Lane, .lst (fl Tapi_Offset.enc x.Offsets) x.Offsets.length, .lst (fl Tapi_Interval.enc x.Down) x.Down.length]
structure Tapi_ClassRule where
  From : Int
  To : Int
  Class : Int
def Tapi_ClassRule.enc (x : Tapi_ClassRule) : List AV := [.int .i64 x.From, .int .i64 x.To, .int .i64 x.Class]
structure Tapi_TagState where
  Tag : (List UInt8)
  From : Int
  State : Int
def Tapi_TagState.enc (x : Tapi_TagState) : List AV := [.str x.Tag, .int .i64 x.From, .int .i64 x.State]
structure Tapi_Window where
  Days : Int
  From : Int
  To : Int
def Tapi_Window.enc (x : Tapi_Window) : List AV := [.int .i64 x.Days, .int .i64 x.From, .int .i64 x.To]
structure Tapi_Band where
  Name : (List UInt8)
  Window : Tapi_Window
def Tapi_Band.enc (x : Tapi_Band) : List AV := [.str x.Name, .int .i64 x.Window.Days, .int .i64 x.Window.From, .int .i64 x.Window.To]
structure Tapi_Rate where
  From : (List UInt8)
  To : (List UInt8)
  Class : Int
  Band : (List UInt8)
  Cents : Int
def Tapi_Rate.enc (x : Tapi_Rate) : List AV := [.str x.From, .str x.To, .int .i64 x.Class, .str x.Band, .int .i64 x.Cents]
structure Tapi_Tariff where
  Valid : Tapi_Interval
  Bands : (List Tapi_Band)
  Rates : (List Tapi_Rate)
def Tapi_Tariff.enc (x : Tapi_Tariff) : List AV := [.int .i64 x.Valid.From, .int .i64 x.Valid.To, .lst (fl Tapi_Band.enc x.Bands) x.Bands.length, .lst (fl Tapi_Rate.enc x.Rates) x.Rates.length]
structure Tapi_Scale where
  Period : Int
  Up : (List Int)
  Down : (List Int)
  Parts : (List Int)
def Tapi_Scale.enc (x : Tapi_Scale) : List AV := [.int .i64 x.Period, .lst (fl e_i64 x.Up) x.Up.length, .lst (fl e_i64 x.Down) x.Down.length, .lst (fl e_i64 x.Parts) x.Parts.length]
structure Tapi_Discount where
  Name : (List UInt8)
  Kind : Int
  Amount : Int
  Group : (List UInt8)
  System : (List UInt8)
  Class : Int
  Window : Tapi_Window
  Least : Int
def Tapi_Discount.enc (x : Tapi_Discount) : List AV := [.str x.Name, .int .i64 x.Kind, .int .i64 x.Amount, .str x.Group, .str x.System, .int .i64 x.Class, .int .i64 x.Window.Days, .int .i64 x.Window.From, .int .i64 x.Window.To, .int .i64 x.Least]
structure Tapi_Cap where
  Name : (List UInt8)
  System : (List UInt8)
  Days : Int
  Cents : Int
def Tapi_Cap.enc (x : Tapi_Cap) : List AV := [.str x.Name, .str x.System, .int .i64 x.Days, .int .i64 x.Cents]
structure Tapi_Step where
  Upto : Int
  Unit : Int
  Cents : Int
def Tapi_Step.enc (x : Tapi_Step) : List AV := [.int .i64 x.Upto, .int .i64 x.Unit, .int .i64 x.Cents]
structure Tapi_Zone where
  Name : (List UInt8)
  Hours : (List Tapi_Window)
  Steps : (List Tapi_Step)
  Grace : Int
  Free : Int
  DayMax : Int
  MaxStay : Int
def Tapi_Zone.enc (x : Tapi_Zone) : List AV := [.str x.Name, .lst (fl Tapi_Window.enc x.Hours) x.Hours.length, .lst (fl Tapi_Step.enc x.Steps) x.Steps.length, .int .i64 x.Grace, .int .i64 x.Free, .int .i64 x.DayMax, .int .i64 x.MaxStay]
structure Tapi_Permit where
  Name : (List UInt8)
  Zone : (List UInt8)
  Plates : (List (List UInt8))
  Valid : Tapi_Interval
  Hours : (List Tapi_Window)
  Most : Int
def Tapi_Permit.enc (x : Tapi_Permit) : List AV := [.str x.Name, .str x.Zone, .lst (fl e_str x.Plates) x.Plates.length, .int .i64 x.Valid.From, .int .i64 x.Valid.To, .lst (fl Tapi_Window.enc x.Hours) x.Hours.length, .int .i64 x.Most]
structure Tapi_Owned where
  Tag : (List UInt8)
  Plate : (List UInt8)
  Time : Tapi_Interval
def Tapi_Owned.enc (x : Tapi_Owned) : List AV := [.str x.Tag, .str x.Plate, .int .i64 x.Time.From, .int .i64 x.Time.To]
structure Tapi_Refill where
  Below : Int
  Cents : Int
  Tries : Int
  Wait : Int
def Tapi_Refill.enc (x : Tapi_Refill) : List AV := [.int .i64 x.Below, .int .i64 x.Cents, .int .i64 x.Tries, .int .i64 x.Wait]
structure Tapi_Account where
  Name : (List UInt8)
  Agency : (List UInt8)
  Prepay : Bool
  Owned : (List Tapi_Owned)
  Refill : Tapi_Refill
  Exempt : Bool
def Tapi_Account.enc (x : Tapi_Account) : List AV := [.str x.Name, .str x.Agency, .bool x.Prepay, .lst (fl Tapi_Owned.enc x.Owned) x.Owned.length, .int .i64 x.Refill.Below, .int .i64 x.Refill.Cents, .int .i64 x.Refill.Tries, .int .i64 x.Refill.Wait, .bool x.Exempt]
structure Tapi_Relief where
  Kind : Int
  Part : Int
def Tapi_Relief.enc (x : Tapi_Relief) : List AV := [.int .i64 x.Kind, .int .i64 x.Part]
structure Tapi_Law where
  Days : (List Int)
  Fees : (List Int)
  Limit : Int
def Tapi_Law.enc (x : Tapi_Law) : List AV := [.lst (fl e_i64 x.Days) x.Days.length, .lst (fl e_i64 x.Fees) x.Fees.length, .int .i64 x.Limit]
structure Tapi_Keeping where
  Purpose : Int
  Seconds : Int
  Least : Int
def Tapi_Keeping.enc (x : Tapi_Keeping) : List AV := [.int .i64 x.Purpose, .int .i64 x.Seconds, .int .i64 x.Least]
structure Tapi_Config where
  Top : Tapi_Topology
  Devices : (List Tapi_Device)
  Classes : (List Tapi_ClassRule)
  Tags : (List Tapi_TagState)
  Gap : Int
  Weak : Int
  Tariffs : (List Tapi_Tariff)
  Scale : Tapi_Scale
  Discounts : (List Tapi_Discount)
  Caps : (List Tapi_Cap)
  Zones : (List Tapi_Zone)
  Permits : (List Tapi_Permit)
  Accounts : (List Tapi_Account)
  Reliefs : (List Tapi_Relief)
  Holidays : (List Int)
  Law : Tapi_Law
  Keeping : (List Tapi_Keeping)
  Agency : (List UInt8)
def Tapi_Config.enc (x : Tapi_Config) : List AV := [.lst (fl Tapi_Point.enc x.Top.Net.Points) x.Top.Net.Points.length, .lst (fl Tapi_Link.enc x.Top.Net.Links) x.Top.Net.Links.length, .lst (fl Tapi_System.enc x.Top.Systems) x.Top.Systems.length, .lst (fl Tapi_Device.enc x.Devices) x.Devices.length, .lst (fl Tapi_ClassRule.enc x.Classes) x.Classes.length, .lst (fl Tapi_TagState.enc x.Tags) x.Tags.length, .int .i64 x.Gap, .int .i64 x.Weak, .lst (fl Tapi_Tariff.enc x.Tariffs) x.Tariffs.length, .int .i64 x.Scale.Period, .lst (fl e_i64 x.Scale.Up) x.Scale.Up.length, .lst (fl e_i64 x.Scale.Down) x.Scale.Down.length, .lst (fl e_i64 x.Scale.Parts) x.Scale.Parts.length, .lst (fl Tapi_Discount.enc x.Discounts) x.Discounts.length, .lst (fl Tapi_Cap.enc x.Caps) x.Caps.length, .lst (fl Tapi_Zone.enc x.Zones) x.Zones.length, .lst (fl Tapi_Permit.enc x.Permits) x.Permits.length, .lst (fl Tapi_Account.enc x.Accounts) x.Accounts.length, .lst (fl Tapi_Relief.enc x.Reliefs) x.Reliefs.length, .lst (fl e_i64 x.Holidays) x.Holidays.length, .lst (fl e_i64 x.Law.Days) x.Law.Days.length, .lst (fl e_i64 x.Law.Fees) x.Law.Fees.length, .int .i64 x.Law.Limit, .lst (fl Tapi_Keeping.enc x.Keeping) x.Keeping.length, .str x.Agency]
structure Tapi_Seen where
  D : Tapi_Detection
  Time : Int
  Point : (List UInt8)
  Lane : Int
  Kind : Int
def Tapi_Seen.enc (x : Tapi_Seen) : List AV := [.str x.D.Device, .int .i64 x.D.Seq, .int .i64 x.D.Time, .str x.D.Tag, .str x.D.Plate, .int .i64 x.D.Axles, .int .i64 x.D.Score, .int .i64 x.Time, .str x.Point, .int .i64 x.Lane, .int .i64 x.Kind]
structure Tapi_Reject where
  D : Tapi_Detection
  Why : Int
def Tapi_Reject.enc (x : Tapi_Reject) : List AV := [.str x.D.Device, .int .i64 x.D.Seq, .int .i64 x.D.Time, .str x.D.Tag, .str x.D.Plate, .int .i64 x.D.Axles, .int .i64 x.D.Score, .int .i64 x.Why]
structure Tapi_Parked where
  Kind : Int
  Zone : (List UInt8)
  Plate : (List UInt8)
  Time : Int
  Until : Int
def Tapi_Parked.enc (x : Tapi_Parked) : List AV := [.int .i64 x.Kind, .str x.Zone, .str x.Plate, .int .i64 x.Time, .int .i64 x.Until]
structure Tapi_Passage where
  ID : (List UInt8)
  Point : (List UInt8)
  Time : Int
  Tag : (List UInt8)
  Plate : (List UInt8)
  Class : Int
  Score : Int
  Sources : (List Tapi_Source)
def Tapi_Passage.enc (x : Tapi_Passage) : List AV := [.str x.ID, .str x.Point, .int .i64 x.Time, .str x.Tag, .str x.Plate, .int .i64 x.Class, .int .i64 x.Score, .lst (fl Tapi_Source.enc x.Sources) x.Sources.length]
structure Tapi_Stop where
  Point : (List UInt8)
  Time : Int
  Passage : (List UInt8)
def Tapi_Stop.enc (x : Tapi_Stop) : List AV := [.str x.Point, .int .i64 x.Time, .str x.Passage]
structure Tapi_Trip where
  ID : (List UInt8)
  Vehicle : (List UInt8)
  System : (List UInt8)
  Class : Int
  Stops : (List Tapi_Stop)
def Tapi_Trip.enc (x : Tapi_Trip) : List AV := [.str x.ID, .str x.Vehicle, .str x.System, .int .i64 x.Class, .lst (fl Tapi_Stop.enc x.Stops) x.Stops.length]
structure Tapi_Stay where
  ID : (List UInt8)
  Zone : (List UInt8)
  Plate : (List UInt8)
  Time : Tapi_Interval
def Tapi_Stay.enc (x : Tapi_Stay) : List AV := [.str x.ID, .str x.Zone, .str x.Plate, .int .i64 x.Time.From, .int .i64 x.Time.To]
structure Tapi_Line where
  Text : (List UInt8)
  Cents : Int
def Tapi_Line.enc (x : Tapi_Line) : List AV := [.str x.Text, .int .i64 x.Cents]
structure Tapi_Charge where
  Key : (List UInt8)
  Vehicle : (List UInt8)
  System : (List UInt8)
  Class : Int
  Time : Int
  Lines : (List Tapi_Line)
  Cents : Int
def Tapi_Charge.enc (x : Tapi_Charge) : List AV := [.str x.Key, .str x.Vehicle, .str x.System, .int .i64 x.Class, .int .i64 x.Time, .lst (fl Tapi_Line.enc x.Lines) x.Lines.length, .int .i64 x.Cents]
structure Tapi_Exclusion where
  ID : (List UInt8)
  Why : Int
def Tapi_Exclusion.enc (x : Tapi_Exclusion) : List AV := [.str x.ID, .int .i64 x.Why]
structure Tapi_Result where
  Passages : (List Tapi_Passage)
  Rejects : (List Tapi_Reject)
  Trips : (List Tapi_Trip)
  Stays : (List Tapi_Stay)
  Charges : (List Tapi_Charge)
  Exclusions : (List Tapi_Exclusion)
def Tapi_Result.enc (x : Tapi_Result) : List AV := [.lst (fl Tapi_Passage.enc x.Passages) x.Passages.length, .lst (fl Tapi_Reject.enc x.Rejects) x.Rejects.length, .lst (fl Tapi_Trip.enc x.Trips) x.Trips.length, .lst (fl Tapi_Stay.enc x.Stays) x.Stays.length, .lst (fl Tapi_Charge.enc x.Charges) x.Charges.length, .lst (fl Tapi_Exclusion.enc x.Exclusions) x.Exclusions.length]
structure Tapi_Post where
  Account : (List UInt8)
  Cents : Int
def Tapi_Post.enc (x : Tapi_Post) : List AV := [.str x.Account, .int .i64 x.Cents]
structure Tapi_Entry where
  Key : (List UInt8)
  Time : Int
  Posts : (List Tapi_Post)
def Tapi_Entry.enc (x : Tapi_Entry) : List AV := [.str x.Key, .int .i64 x.Time, .lst (fl Tapi_Post.enc x.Posts) x.Posts.length]
structure Tapi_Ledger where
  Entries : (List Tapi_Entry)
def Tapi_Ledger.enc (x : Tapi_Ledger) : List AV := [.lst (fl Tapi_Entry.enc x.Entries) x.Entries.length]
structure Tapi_Books where
  Ledger : Tapi_Ledger
  Done : (List Tapi_Charge)
def Tapi_Books.enc (x : Tapi_Books) : List AV := [.lst (fl Tapi_Entry.enc x.Ledger.Entries) x.Ledger.Entries.length, .lst (fl Tapi_Charge.enc x.Done) x.Done.length]
structure Tapi_Appeal where
  State : Int
  Ground : Int
  Day : Int
def Tapi_Appeal.enc (x : Tapi_Appeal) : List AV := [.int .i64 x.State, .int .i64 x.Ground, .int .i64 x.Day]
structure Tapi_Case where
  ID : (List UInt8)
  Plate : (List UInt8)
  Key : (List UInt8)
  Begun : Int
  Since : Int
  Stage : Int
  Owed : Int
  Paid : Int
  Paused : Int
  Appeal : Tapi_Appeal
def Tapi_Case.enc (x : Tapi_Case) : List AV := [.str x.ID, .str x.Plate, .str x.Key, .int .i64 x.Begun, .int .i64 x.Since, .int .i64 x.Stage, .int .i64 x.Owed, .int .i64 x.Paid, .int .i64 x.Paused, .int .i64 x.Appeal.State, .int .i64 x.Appeal.Ground, .int .i64 x.Appeal.Day]
structure Tapi_State where
  Config : Tapi_Config
  Seen : (List Tapi_Seen)
  Rejects : (List Tapi_Reject)
  Parked : (List Tapi_Parked)
  Closed : Int
  Result : Tapi_Result
  Books : Tapi_Books
  Cases : (List Tapi_Case)
  Count : Int
def Tapi_State.enc (x : Tapi_State) : List AV := [.lst (fl Tapi_Point.enc x.Config.Top.Net.Points) x.Config.Top.Net.Points.length, .lst (fl Tapi_Link.enc x.Config.Top.Net.Links) x.Config.Top.Net.Links.length, .lst (fl Tapi_System.enc x.Config.Top.Systems) x.Config.Top.Systems.length, .lst (fl Tapi_Device.enc x.Config.Devices) x.Config.Devices.length, .lst (fl Tapi_ClassRule.enc x.Config.Classes) x.Config.Classes.length, .lst (fl Tapi_TagState.enc x.Config.Tags) x.Config.Tags.length, .int .i64 x.Config.Gap, .int .i64 x.Config.Weak, .lst (fl Tapi_Tariff.enc x.Config.Tariffs) x.Config.Tariffs.length, .int .i64 x.Config.Scale.Period, .lst (fl e_i64 x.Config.Scale.Up) x.Config.Scale.Up.length, .lst (fl e_i64 x.Config.Scale.Down) x.Config.Scale.Down.length, .lst (fl e_i64 x.Config.Scale.Parts) x.Config.Scale.Parts.length, .lst (fl Tapi_Discount.enc x.Config.Discounts) x.Config.Discounts.length, .lst (fl Tapi_Cap.enc x.Config.Caps) x.Config.Caps.length, .lst (fl Tapi_Zone.enc x.Config.Zones) x.Config.Zones.length, .lst (fl Tapi_Permit.enc x.Config.Permits) x.Config.Permits.length, .lst (fl Tapi_Account.enc x.Config.Accounts) x.Config.Accounts.length, .lst (fl Tapi_Relief.enc x.Config.Reliefs) x.Config.Reliefs.length, .lst (fl e_i64 x.Config.Holidays) x.Config.Holidays.length, .lst (fl e_i64 x.Config.Law.Days) x.Config.Law.Days.length, .lst (fl e_i64 x.Config.Law.Fees) x.Config.Law.Fees.length, .int .i64 x.Config.Law.Limit, .lst (fl Tapi_Keeping.enc x.Config.Keeping) x.Config.Keeping.length, .str x.Config.Agency, .lst (fl Tapi_Seen.enc x.Seen) x.Seen.length, .lst (fl Tapi_Reject.enc x.Rejects) x.Rejects.length, .lst (fl Tapi_Parked.enc x.Parked) x.Parked.length, .int .i64 x.Closed, .lst (fl Tapi_Passage.enc x.Result.Passages) x.Result.Passages.length, .lst (fl Tapi_Reject.enc x.Result.Rejects) x.Result.Rejects.length, .lst (fl Tapi_Trip.enc x.Result.Trips) x.Result.Trips.length, .lst (fl Tapi_Stay.enc x.Result.Stays) x.Result.Stays.length, .lst (fl Tapi_Charge.enc x.Result.Charges) x.Result.Charges.length, .lst (fl Tapi_Exclusion.enc x.Result.Exclusions) x.Result.Exclusions.length, .lst (fl Tapi_Entry.enc x.Books.Ledger.Entries) x.Books.Ledger.Entries.length, .lst (fl Tapi_Charge.enc x.Books.Done) x.Books.Done.length, .lst (fl Tapi_Case.enc x.Cases) x.Cases.length, .int .i64 x.Count]
noncomputable def text_Format (n_0 : Int) : Option (List UInt8) :=
  (itoaF n_0).bind fun r1 =>
  some r1
theorem text_Format_0 (n_0 : Int) (r1 : (List UInt8)) (h2 : itoaF n_0 = some r1) : Ret Tryd.prog GT 51 [.int .i64 n_0] (.str r1) [] :=
  Ret.of_view 400 (cs 2 [.ret none [.int .i64 n_0] (.str r1) [], .op none .c]) [] (ps := [((.int .i64 n_0 : AV) = .int .i64 n_0), (Ret Tryd.prog GT 68 [.int .i64 n_0] (.str r1) [])]) (by kernel_rfl) (by kernel_rfl) ⟨rfl, ok1 (itoa_ret n_0 r1 h2)⟩
theorem text_Format_ret (n_0 : Int) (r : (List UInt8)) (h : text_Format n_0 = some r) : Ret Tryd.prog GT 51 [.int .i64 n_0] (.str r) [] := by
  unfold text_Format at h
  obtain ⟨r1, h2, h⟩ := bind_some h
  simp only [Option.some.injEq] at h
  subst h
  exact text_Format_0 n_0 r1 h2
noncomputable def trace_key (x_0 : Tapi_Source) : Option (List UInt8) :=
  if x_0.Device.length + ([46] : List UInt8).length ≤ 9223372036854775807 then
    (text_Format x_0.Seq).bind fun r2 =>
    if (x_0.Device ++ ([46] : List UInt8)).length + r2.length ≤ 9223372036854775807 then
      some ((x_0.Device ++ ([46] : List UInt8)) ++ r2)
    else none
  else none
theorem trace_key_0 (x_0 : Tapi_Source) (h1 : x_0.Device.length + ([46] : List UInt8).length ≤ 9223372036854775807) (r2 : (List UInt8)) (h3 : text_Format x_0.Seq = some r2) (h4 : (x_0.Device ++ ([46] : List UInt8)).length + r2.length ≤ 9223372036854775807) : Ret Tryd.prog GT 21 [.agg (Tapi_Source.enc x_0)] (.str ((x_0.Device ++ ([46] : List UInt8)) ++ r2)) [] :=
  Ret.of_view 400 (cs 4 ((.op none .a) :: (cs 2 [.ret none [.int .i64 x_0.Seq] (.str r2) [], .op none .a, .op none .c]))) [] (ps := [(x_0.Device.length + ([46] : List UInt8).length ≤ 9223372036854775807), ((.int .i64 x_0.Seq : AV) = .int .i64 x_0.Seq), (Ret Tryd.prog GT 51 [.int .i64 x_0.Seq] (.str r2) []), ((x_0.Device ++ ([46] : List UInt8)).length + r2.length ≤ 9223372036854775807)]) (by kernel_rfl) (by kernel_rfl) ⟨h1, rfl, (text_Format_ret x_0.Seq r2 h3), ok1 h4⟩
theorem trace_key_ret (x_0 : Tapi_Source) (r : (List UInt8)) (h : trace_key x_0 = some r) : Ret Tryd.prog GT 21 [.agg (Tapi_Source.enc x_0)] (.str r) [] := by
  unfold trace_key at h
  obtain ⟨h1, h⟩ := guard_some h
  obtain ⟨r2, h3, h⟩ := bind_some h
  obtain ⟨h4, h⟩ := guard_some h
  simp only [Option.some.injEq] at h
  subst h
  exact trace_key_0 x_0 h1 r2 h3 h4
noncomputable def trace_from (d_0 : Tapi_Detection) (x_1 : Tapi_Source) : Option Bool :=
  if d_0.Device = x_1.Device then
    some (d_0.Seq == x_1.Seq)
  else
    some false
theorem trace_from_0 (d_0 : Tapi_Detection) (x_1 : Tapi_Source) (c1 : d_0.Device = x_1.Device) : Ret Tryd.prog GT 22 [.agg (Tapi_Detection.enc d_0), .agg (Tapi_Source.enc x_1)] (.bool (d_0.Seq == x_1.Seq)) [] :=
  Ret.of_view 400 (cs 7 ((.op none .a) :: (.op none .c) :: (.op (some true) .c) :: (cs 3 ((.op none .a) :: (cs 2 []))))) [] (ps := [((d_0.Device == x_1.Device) = true)]) (by kernel_rfl) (by kernel_rfl) (ok1 (beq_t c1))
theorem trace_from_1 (d_0 : Tapi_Detection) (x_1 : Tapi_Source) (c1 : ¬ (d_0.Device = x_1.Device)) : Ret Tryd.prog GT 22 [.agg (Tapi_Detection.enc d_0), .agg (Tapi_Source.enc x_1)] (.bool false) [] :=
  Ret.of_view 400 (cs 7 ((.op none .a) :: (.op none .c) :: (.op (some false) .c) :: (cs 6 []))) [] (ps := [((d_0.Device == x_1.Device) = false)]) (by kernel_rfl) (by kernel_rfl) (ok1 (beq_f c1))
theorem trace_from_ret (d_0 : Tapi_Detection) (x_1 : Tapi_Source) (r : Bool) (h : trace_from d_0 x_1 = some r) : Ret Tryd.prog GT 22 [.agg (Tapi_Detection.enc d_0), .agg (Tapi_Source.enc x_1)] (.bool r) [] := by
  unfold trace_from at h
  rcases ite_some h with ⟨c1, h⟩ | ⟨c1, h⟩
  · simp only [Option.some.injEq] at h
    subst h
    exact trace_from_0 d_0 x_1 c1
  · simp only [Option.some.injEq] at h
    subst h
    exact trace_from_1 d_0 x_1 c1
noncomputable def trace_known_L1_step (s_0 : Tapi_State) (x_1 : Tapi_Source) : Nat → Option (Nat ⊕ (Unit ⊕ Unit)) := fun k11 =>
  if (↑k11 : Int) < (↑s_0.Seen.length : Int) then
    (s_0.Seen[k11]?).bind fun x10 =>
    (trace_from x10.D x_1).bind fun r12 =>
    if r12 = true then
      some (Sum.inr (Sum.inl ()))
    else
      if InR .i64 ((↑k11 : Int) + 1) then
        some (Sum.inl (k11 + 1))
      else none
  else
    some (Sum.inr (Sum.inr (())))
def trace_known_L1_H (s_0 : Tapi_State) (x_1 : Tapi_Source) : Nat → St := fun (s : Nat) => S 32 [(2, .ptr 0 0), (3, .ptr 1 0), (9, .lst (fl Tapi_Seen.enc s_0.Seen) s_0.Seen.length), (10, .int .i64 (↑s_0.Seen.length : Int)), (11, .int .i64 (↑s : Int))] [{ c := (Tapi_State.enc s_0), e := 64, ext := false, fz := 0, pl := true, o := false }, { c := (Tapi_Source.enc x_1), e := 66, ext := false, fz := 0, pl := true, o := false }]
theorem trace_known_L1_0 (s_0 : Tapi_State) (x_1 : Tapi_Source) (k11 : Nat) (c9 : (↑k11 : Int) < (↑s_0.Seen.length : Int)) (x10 : Tapi_Seen) (h11 : s_0.Seen[k11]? = some x10) (r12 : Bool) (h13 : trace_from x10.D x_1 = some r12) (c14 : r12 = true) : Does Tryd.prog GT 2 (bodyAt Tryd.prog 20 [1, 0, 1, 0, 0]) (trace_known_L1_H s_0 x_1 k11) .ret (S 32 [(4, .bool true)] [{ c := (Tapi_State.enc s_0), e := 64, ext := false, fz := 0, pl := true, o := false }, { c := (Tapi_Source.enc x_1), e := 66, ext := false, fz := 0, pl := true, o := false }]) :=
  Does.of_viewM 2 400 ((.op none .a) :: (.br true) :: (.op none (.i k11)) :: (.op none (.v [.str x10.D.Device, .int .i64 x10.D.Seq, .int .i64 x10.D.Time, .str x10.D.Tag, .str x10.D.Plate, .int .i64 x10.D.Axles, .int .i64 x10.D.Score, .int .i64 x10.Time, .str x10.Point, .int .i64 x10.Lane, .int .i64 x10.Kind])) :: (cs 5 [.ret none [.agg (Tapi_Detection.enc x10.D), .agg (Tapi_Source.enc x_1)] (.bool r12) [], .br true, .op none .c])) [0, 1] (ps := [((decide ((↑k11 : Int) < (↑s_0.Seen.length : Int))) = true), ((↑k11 : Int) = ((k11 : Nat) : Int) ∧ k11 < s_0.Seen.length), ((fl Tapi_Seen.enc s_0.Seen) ≠ []), (sub (fl Tapi_Seen.enc s_0.Seen) (k11 * 11) 11 = [.str x10.D.Device, .int .i64 x10.D.Seq, .int .i64 x10.D.Time, .str x10.D.Tag, .str x10.D.Plate, .int .i64 x10.D.Axles, .int .i64 x10.D.Score, .int .i64 x10.Time, .str x10.Point, .int .i64 x10.Lane, .int .i64 x10.Kind]), ((.agg (Tapi_Detection.enc x10.D) : AV) = .agg (Tapi_Detection.enc x10.D)), ((.agg (Tapi_Source.enc x_1) : AV) = .agg (Tapi_Source.enc x_1)), (Ret Tryd.prog GT 22 [.agg (Tapi_Detection.enc x10.D), .agg (Tapi_Source.enc x_1)] (.bool r12) []), (r12 = true)]) (by kernel_rfl) (by kernel_rfl) ⟨(decide_eq_true c9), ⟨rfl, get_lt h11⟩, (fl_ne (f := Tapi_Seen.enc) (z := 10) (fun _ => rfl) h11), (fl_sub0 (f := Tapi_Seen.enc) (z := 11) (j := k11) (fun _ => rfl) h11 rfl), rfl, rfl, (trace_from_ret x10.D x_1 r12 h13), ok1 c14⟩
theorem trace_known_L1_1 (s_0 : Tapi_State) (x_1 : Tapi_Source) (k11 : Nat) (c9 : (↑k11 : Int) < (↑s_0.Seen.length : Int)) (x10 : Tapi_Seen) (h11 : s_0.Seen[k11]? = some x10) (r12 : Bool) (h13 : trace_from x10.D x_1 = some r12) (c14 : ¬ (r12 = true)) (h15 : InR .i64 ((↑k11 : Int) + 1)) : Does Tryd.prog GT 2 (bodyAt Tryd.prog 20 [1, 0, 1, 0, 0]) (trace_known_L1_H s_0 x_1 k11) .normal (S 32 [(2, .ptr 0 0), (3, .ptr 1 0), (9, .lst (fl Tapi_Seen.enc s_0.Seen) s_0.Seen.length), (10, .int .i64 (↑s_0.Seen.length : Int)), (11, .int .i64 ((↑k11 : Int) + 1))] [{ c := (Tapi_State.enc s_0), e := 64, ext := false, fz := 0, pl := true, o := false }, { c := (Tapi_Source.enc x_1), e := 66, ext := false, fz := 0, pl := true, o := false }]) :=
  Does.of_viewM 2 400 ((.op none .a) :: (.br true) :: (.op none (.i k11)) :: (.op none (.v [.str x10.D.Device, .int .i64 x10.D.Seq, .int .i64 x10.D.Time, .str x10.D.Tag, .str x10.D.Plate, .int .i64 x10.D.Axles, .int .i64 x10.D.Score, .int .i64 x10.Time, .str x10.Point, .int .i64 x10.Lane, .int .i64 x10.Kind])) :: (cs 5 [.ret none [.agg (Tapi_Detection.enc x10.D), .agg (Tapi_Source.enc x_1)] (.bool r12) [], .br false, .op none .w, .op none .c])) [0, 1] (ps := [((decide ((↑k11 : Int) < (↑s_0.Seen.length : Int))) = true), ((↑k11 : Int) = ((k11 : Nat) : Int) ∧ k11 < s_0.Seen.length), ((fl Tapi_Seen.enc s_0.Seen) ≠ []), (sub (fl Tapi_Seen.enc s_0.Seen) (k11 * 11) 11 = [.str x10.D.Device, .int .i64 x10.D.Seq, .int .i64 x10.D.Time, .str x10.D.Tag, .str x10.D.Plate, .int .i64 x10.D.Axles, .int .i64 x10.D.Score, .int .i64 x10.Time, .str x10.Point, .int .i64 x10.Lane, .int .i64 x10.Kind]), ((.agg (Tapi_Detection.enc x10.D) : AV) = .agg (Tapi_Detection.enc x10.D)), ((.agg (Tapi_Source.enc x_1) : AV) = .agg (Tapi_Source.enc x_1)), (Ret Tryd.prog GT 22 [.agg (Tapi_Detection.enc x10.D), .agg (Tapi_Source.enc x_1)] (.bool r12) []), (r12 = false), (IntKind.min .i64 ≤ ((↑k11 : Int) + 1) ∧ ((↑k11 : Int) + 1) ≤ IntKind.max .i64)]) (by kernel_rfl) (by kernel_rfl) ⟨(decide_eq_true c9), ⟨rfl, get_lt h11⟩, (fl_ne (f := Tapi_Seen.enc) (z := 10) (fun _ => rfl) h11), (fl_sub0 (f := Tapi_Seen.enc) (z := 11) (j := k11) (fun _ => rfl) h11 rfl), rfl, rfl, (trace_from_ret x10.D x_1 r12 h13), (eq_false_of_ne_true c14), ok1 h15⟩
theorem trace_known_L1_2 (s_0 : Tapi_State) (x_1 : Tapi_Source) (k11 : Nat) (c9 : ¬ ((↑k11 : Int) < (↑s_0.Seen.length : Int))) : Does Tryd.prog GT 2 (bodyAt Tryd.prog 20 [1, 0, 1, 0, 0]) (trace_known_L1_H s_0 x_1 k11) (.exit 0) (S 32 [(2, .ptr 0 0), (3, .ptr 1 0)] [{ c := (Tapi_State.enc s_0), e := 64, ext := false, fz := 0, pl := true, o := false }, { c := (Tapi_Source.enc x_1), e := 66, ext := false, fz := 0, pl := true, o := false }]) :=
  Does.of_viewM 2 400 [.op none .a, .br false] [0, 1] (ps := [((decide ((↑k11 : Int) < (↑s_0.Seen.length : Int))) = false)]) (by kernel_rfl) (by kernel_rfl) (ok1 (decide_eq_false c9))
def trace_known_L1_X (s_0 : Tapi_State) (x_1 : Tapi_Source) : (Unit ⊕ Unit) → AEx := fun q => match q with | Sum.inl o => .ret | Sum.inr (o) => (.exit 0)
def trace_known_L1_E (s_0 : Tapi_State) (x_1 : Tapi_Source) : (Unit ⊕ Unit) → St := fun q => match q with | Sum.inl o => S 32 [(4, .bool true)] [{ c := (Tapi_State.enc s_0), e := 64, ext := false, fz := 0, pl := true, o := false }, { c := (Tapi_Source.enc x_1), e := 66, ext := false, fz := 0, pl := true, o := false }] | Sum.inr (o) => S 32 [(2, .ptr 0 0), (3, .ptr 1 0)] [{ c := (Tapi_State.enc s_0), e := 64, ext := false, fz := 0, pl := true, o := false }, { c := (Tapi_Source.enc x_1), e := 66, ext := false, fz := 0, pl := true, o := false }]
theorem trace_known_L1_does (s_0 : Tapi_State) (x_1 : Tapi_Source) {s : Nat} {r : Unit ⊕ Unit} (h : lp (trace_known_L1_step s_0 x_1) s = some r) : Does Tryd.prog GT 2 (.loop (bodyAt Tryd.prog 20 [1, 0, 1, 0, 0])) (trace_known_L1_H s_0 x_1 s) (trace_known_L1_X s_0 x_1 r) (trace_known_L1_E s_0 x_1 r) := by
  refine Does.lp (H := trace_known_L1_H s_0 x_1) (X := trace_known_L1_X s_0 x_1) (E := trace_known_L1_E s_0 x_1) (fun s s2 h => ?_) (fun s r h => ?_) h
  · revert h; revert s; intro k11 h
    unfold trace_known_L1_step at h
    try dsimp only at h
    rcases ite_some h with ⟨c9, h⟩ | ⟨c9, h⟩
    · obtain ⟨x10, h11, h⟩ := bind_some h
      obtain ⟨r12, h13, h⟩ := bind_some h
      rcases ite_some h with ⟨c14, h⟩ | ⟨c14, h⟩
      · simp at h
      · obtain ⟨h15, h⟩ := guard_some h
        simp only [Option.some.injEq, Sum.inl.injEq] at h
        subst h
        have hq := trace_known_L1_1 s_0 x_1 k11 c9 x10 h11 r12 h13 c14 h15
        first | exact hq | exact Eq.mp (by simp only [trace_known_L1_H, List.length_set] <;> rfl) hq
    · simp at h
  · revert h; revert s; intro k11 h
    unfold trace_known_L1_step at h
    try dsimp only at h
    rcases ite_some h with ⟨c9, h⟩ | ⟨c9, h⟩
    · obtain ⟨x10, h11, h⟩ := bind_some h
      obtain ⟨r12, h13, h⟩ := bind_some h
      rcases ite_some h with ⟨c14, h⟩ | ⟨c14, h⟩
      · simp only [Option.some.injEq, Sum.inr.injEq] at h
        subst h
        exact ⟨trace_known_L1_0 s_0 x_1 k11 c9 x10 h11 r12 h13 c14, by intro q; cases q⟩
      · obtain ⟨h15, h⟩ := guard_some h
        simp at h
    · simp only [Option.some.injEq, Sum.inr.injEq] at h
      subst h
      exact ⟨trace_known_L1_2 s_0 x_1 k11 c9, by intro q; cases q⟩
noncomputable def trace_known_L16_step (s_0 : Tapi_State) (x_1 : Tapi_Source) : Nat → Option (Nat ⊕ (Int ⊕ Unit)) := fun k8 =>
  if (↑k8 : Int) < (↑s_0.Rejects.length : Int) then
    (s_0.Rejects[k8]?).bind fun x25 =>
    (trace_from x25.D x_1).bind fun r27 =>
    if r27 = true then
      some (Sum.inr (Sum.inl (↑k8 : Int)))
    else
      if InR .i64 ((↑k8 : Int) + 1) then
        some (Sum.inl (k8 + 1))
      else none
  else
    some (Sum.inr (Sum.inr (())))
def trace_known_L16_H (s_0 : Tapi_State) (x_1 : Tapi_Source) : Nat → St := fun (s : Nat) => S 19 [(0, .lst (fl Tapi_Reject.enc s_0.Rejects) s_0.Rejects.length), (1, .fn (.func 49) [] [.ptr 0 0]), (7, .int .i64 (↑s_0.Rejects.length : Int)), (8, .int .i64 (↑s : Int))] [{ c := (Tapi_Source.enc x_1), e := 66, ext := false, fz := 0, pl := true, o := false }]
theorem trace_known_L16_0 (s_0 : Tapi_State) (x_1 : Tapi_Source) (k8 : Nat) (c24 : (↑k8 : Int) < (↑s_0.Rejects.length : Int)) (x25 : Tapi_Reject) (h26 : s_0.Rejects[k8]? = some x25) (r27 : Bool) (h28 : trace_from x25.D x_1 = some r27) (c29 : r27 = true) : Does Tryd.prog GT 1 (bodyAt Tryd.prog 67 [1, 0, 1, 0, 0]) (trace_known_L16_H s_0 x_1 k8) .ret (S 19 [(4, .int .i64 (↑k8 : Int))] [{ c := (Tapi_Source.enc x_1), e := 66, ext := false, fz := 0, pl := true, o := false }]) :=
  Does.of_viewM 1 400 ((.op none .a) :: (.br true) :: (cs 5 ((.op none (.i k8)) :: (.op none (.v [.str x25.D.Device, .int .i64 x25.D.Seq, .int .i64 x25.D.Time, .str x25.D.Tag, .str x25.D.Plate, .int .i64 x25.D.Axles, .int .i64 x25.D.Score, .int .i64 x25.Why])) :: (cs 6 ((.ret none [.agg (Tapi_Detection.enc x25.D), .agg (Tapi_Source.enc x_1)] (.bool r27) []) :: (.op none .c) :: (.br true) :: (cs 2 [])))))) [0] (ps := [((decide ((↑k8 : Int) < (↑s_0.Rejects.length : Int))) = true), ((↑k8 : Int) = ((k8 : Nat) : Int) ∧ k8 < s_0.Rejects.length), ((fl Tapi_Reject.enc s_0.Rejects) ≠ []), (sub (fl Tapi_Reject.enc s_0.Rejects) (k8 * 8) 8 = [.str x25.D.Device, .int .i64 x25.D.Seq, .int .i64 x25.D.Time, .str x25.D.Tag, .str x25.D.Plate, .int .i64 x25.D.Axles, .int .i64 x25.D.Score, .int .i64 x25.Why]), ((.agg (Tapi_Detection.enc x25.D) : AV) = .agg (Tapi_Detection.enc x25.D)), ((.agg (Tapi_Source.enc x_1) : AV) = .agg (Tapi_Source.enc x_1)), (Ret Tryd.prog GT 22 [.agg (Tapi_Detection.enc x25.D), .agg (Tapi_Source.enc x_1)] (.bool r27) []), (r27 = true)]) (by kernel_rfl) (by kernel_rfl) ⟨(decide_eq_true c24), ⟨rfl, get_lt h26⟩, (fl_ne (f := Tapi_Reject.enc) (z := 7) (fun _ => rfl) h26), (fl_sub0 (f := Tapi_Reject.enc) (z := 8) (j := k8) (fun _ => rfl) h26 rfl), rfl, rfl, (trace_from_ret x25.D x_1 r27 h28), ok1 c29⟩
theorem trace_known_L16_1 (s_0 : Tapi_State) (x_1 : Tapi_Source) (k8 : Nat) (c24 : (↑k8 : Int) < (↑s_0.Rejects.length : Int)) (x25 : Tapi_Reject) (h26 : s_0.Rejects[k8]? = some x25) (r27 : Bool) (h28 : trace_from x25.D x_1 = some r27) (c29 : ¬ (r27 = true)) (h30 : InR .i64 ((↑k8 : Int) + 1)) : Does Tryd.prog GT 1 (bodyAt Tryd.prog 67 [1, 0, 1, 0, 0]) (trace_known_L16_H s_0 x_1 k8) .normal (S 19 [(0, .lst (fl Tapi_Reject.enc s_0.Rejects) s_0.Rejects.length), (1, .fn (.func 49) [] [.ptr 0 0]), (7, .int .i64 (↑s_0.Rejects.length : Int)), (8, .int .i64 ((↑k8 : Int) + 1))] [{ c := (Tapi_Source.enc x_1), e := 66, ext := false, fz := 0, pl := true, o := false }]) :=
  Does.of_viewM 1 400 ((.op none .a) :: (.br true) :: (cs 5 ((.op none (.i k8)) :: (.op none (.v [.str x25.D.Device, .int .i64 x25.D.Seq, .int .i64 x25.D.Time, .str x25.D.Tag, .str x25.D.Plate, .int .i64 x25.D.Axles, .int .i64 x25.D.Score, .int .i64 x25.Why])) :: (cs 6 [.ret none [.agg (Tapi_Detection.enc x25.D), .agg (Tapi_Source.enc x_1)] (.bool r27) [], .op none .c, .br false, .op none .w, .op none .c])))) [0] (ps := [((decide ((↑k8 : Int) < (↑s_0.Rejects.length : Int))) = true), ((↑k8 : Int) = ((k8 : Nat) : Int) ∧ k8 < s_0.Rejects.length), ((fl Tapi_Reject.enc s_0.Rejects) ≠ []), (sub (fl Tapi_Reject.enc s_0.Rejects) (k8 * 8) 8 = [.str x25.D.Device, .int .i64 x25.D.Seq, .int .i64 x25.D.Time, .str x25.D.Tag, .str x25.D.Plate, .int .i64 x25.D.Axles, .int .i64 x25.D.Score, .int .i64 x25.Why]), ((.agg (Tapi_Detection.enc x25.D) : AV) = .agg (Tapi_Detection.enc x25.D)), ((.agg (Tapi_Source.enc x_1) : AV) = .agg (Tapi_Source.enc x_1)), (Ret Tryd.prog GT 22 [.agg (Tapi_Detection.enc x25.D), .agg (Tapi_Source.enc x_1)] (.bool r27) []), (r27 = false), (IntKind.min .i64 ≤ ((↑k8 : Int) + 1) ∧ ((↑k8 : Int) + 1) ≤ IntKind.max .i64)]) (by kernel_rfl) (by kernel_rfl) ⟨(decide_eq_true c24), ⟨rfl, get_lt h26⟩, (fl_ne (f := Tapi_Reject.enc) (z := 7) (fun _ => rfl) h26), (fl_sub0 (f := Tapi_Reject.enc) (z := 8) (j := k8) (fun _ => rfl) h26 rfl), rfl, rfl, (trace_from_ret x25.D x_1 r27 h28), (eq_false_of_ne_true c29), ok1 h30⟩
theorem trace_known_L16_2 (s_0 : Tapi_State) (x_1 : Tapi_Source) (k8 : Nat) (c24 : ¬ ((↑k8 : Int) < (↑s_0.Rejects.length : Int))) : Does Tryd.prog GT 1 (bodyAt Tryd.prog 67 [1, 0, 1, 0, 0]) (trace_known_L16_H s_0 x_1 k8) (.exit 0) (S 19 [] [{ c := (Tapi_Source.enc x_1), e := 66, ext := false, fz := 0, pl := true, o := false }]) :=
  Does.of_viewM 1 400 [.op none .a, .br false] [0] (ps := [((decide ((↑k8 : Int) < (↑s_0.Rejects.length : Int))) = false)]) (by kernel_rfl) (by kernel_rfl) (ok1 (decide_eq_false c24))
def trace_known_L16_X (s_0 : Tapi_State) (x_1 : Tapi_Source) : (Int ⊕ Unit) → AEx := fun q => match q with | Sum.inl o => .ret | Sum.inr (o) => (.exit 0)
def trace_known_L16_E (s_0 : Tapi_State) (x_1 : Tapi_Source) : (Int ⊕ Unit) → St := fun q => match q with | Sum.inl o => S 19 [(4, .int .i64 o)] [{ c := (Tapi_Source.enc x_1), e := 66, ext := false, fz := 0, pl := true, o := false }] | Sum.inr (o) => S 19 [] [{ c := (Tapi_Source.enc x_1), e := 66, ext := false, fz := 0, pl := true, o := false }]
theorem trace_known_L16_does (s_0 : Tapi_State) (x_1 : Tapi_Source) {s : Nat} {r : Int ⊕ Unit} (h : lp (trace_known_L16_step s_0 x_1) s = some r) : Does Tryd.prog GT 1 (.loop (bodyAt Tryd.prog 67 [1, 0, 1, 0, 0])) (trace_known_L16_H s_0 x_1 s) (trace_known_L16_X s_0 x_1 r) (trace_known_L16_E s_0 x_1 r) := by
  refine Does.lp (H := trace_known_L16_H s_0 x_1) (X := trace_known_L16_X s_0 x_1) (E := trace_known_L16_E s_0 x_1) (fun s s2 h => ?_) (fun s r h => ?_) h
  · revert h; revert s; intro k8 h
    unfold trace_known_L16_step at h
    try dsimp only at h
    rcases ite_some h with ⟨c24, h⟩ | ⟨c24, h⟩
    · obtain ⟨x25, h26, h⟩ := bind_some h
      obtain ⟨r27, h28, h⟩ := bind_some h
      rcases ite_some h with ⟨c29, h⟩ | ⟨c29, h⟩
      · simp at h
      · obtain ⟨h30, h⟩ := guard_some h
        simp only [Option.some.injEq, Sum.inl.injEq] at h
        subst h
        have hq := trace_known_L16_1 s_0 x_1 k8 c24 x25 h26 r27 h28 c29 h30
        first | exact hq | exact Eq.mp (by simp only [trace_known_L16_H, List.length_set] <;> rfl) hq
    · simp at h
  · revert h; revert s; intro k8 h
    unfold trace_known_L16_step at h
    try dsimp only at h
    rcases ite_some h with ⟨c24, h⟩ | ⟨c24, h⟩
    · obtain ⟨x25, h26, h⟩ := bind_some h
      obtain ⟨r27, h28, h⟩ := bind_some h
      rcases ite_some h with ⟨c29, h⟩ | ⟨c29, h⟩
      · simp only [Option.some.injEq, Sum.inr.injEq] at h
        subst h
        exact ⟨trace_known_L16_0 s_0 x_1 k8 c24 x25 h26 r27 h28 c29, by intro q; cases q⟩
      · obtain ⟨h30, h⟩ := guard_some h
        simp at h
    · simp only [Option.some.injEq, Sum.inr.injEq] at h
      subst h
      exact ⟨trace_known_L16_2 s_0 x_1 k8 c24, by intro q; cases q⟩
noncomputable def trace_known_L32_step (s_0 : Tapi_State) (x_1 : Tapi_Source) : Nat → Option (Nat ⊕ (Int ⊕ Unit)) := fun k8 =>
  if (↑k8 : Int) < (↑s_0.Result.Rejects.length : Int) then
    (s_0.Result.Rejects[k8]?).bind fun x41 =>
    (trace_from x41.D x_1).bind fun r43 =>
    if r43 = true then
      some (Sum.inr (Sum.inl (↑k8 : Int)))
    else
      if InR .i64 ((↑k8 : Int) + 1) then
        some (Sum.inl (k8 + 1))
      else none
  else
    some (Sum.inr (Sum.inr (())))
def trace_known_L32_H (s_0 : Tapi_State) (x_1 : Tapi_Source) : Nat → St := fun (s : Nat) => S 19 [(0, .lst (fl Tapi_Reject.enc s_0.Result.Rejects) s_0.Result.Rejects.length), (1, .fn (.func 49) [] [.ptr 0 0]), (7, .int .i64 (↑s_0.Result.Rejects.length : Int)), (8, .int .i64 (↑s : Int))] [{ c := (Tapi_Source.enc x_1), e := 66, ext := false, fz := 0, pl := true, o := false }]
theorem trace_known_L32_0 (s_0 : Tapi_State) (x_1 : Tapi_Source) (k8 : Nat) (c40 : (↑k8 : Int) < (↑s_0.Result.Rejects.length : Int)) (x41 : Tapi_Reject) (h42 : s_0.Result.Rejects[k8]? = some x41) (r43 : Bool) (h44 : trace_from x41.D x_1 = some r43) (c45 : r43 = true) : Does Tryd.prog GT 1 (bodyAt Tryd.prog 67 [1, 0, 1, 0, 0]) (trace_known_L32_H s_0 x_1 k8) .ret (S 19 [(4, .int .i64 (↑k8 : Int))] [{ c := (Tapi_Source.enc x_1), e := 66, ext := false, fz := 0, pl := true, o := false }]) :=
  Does.of_viewM 1 400 ((.op none .a) :: (.br true) :: (cs 5 ((.op none (.i k8)) :: (.op none (.v [.str x41.D.Device, .int .i64 x41.D.Seq, .int .i64 x41.D.Time, .str x41.D.Tag, .str x41.D.Plate, .int .i64 x41.D.Axles, .int .i64 x41.D.Score, .int .i64 x41.Why])) :: (cs 6 ((.ret none [.agg (Tapi_Detection.enc x41.D), .agg (Tapi_Source.enc x_1)] (.bool r43) []) :: (.op none .c) :: (.br true) :: (cs 2 [])))))) [0] (ps := [((decide ((↑k8 : Int) < (↑s_0.Result.Rejects.length : Int))) = true), ((↑k8 : Int) = ((k8 : Nat) : Int) ∧ k8 < s_0.Result.Rejects.length), ((fl Tapi_Reject.enc s_0.Result.Rejects) ≠ []), (sub (fl Tapi_Reject.enc s_0.Result.Rejects) (k8 * 8) 8 = [.str x41.D.Device, .int .i64 x41.D.Seq, .int .i64 x41.D.Time, .str x41.D.Tag, .str x41.D.Plate, .int .i64 x41.D.Axles, .int .i64 x41.D.Score, .int .i64 x41.Why]), ((.agg (Tapi_Detection.enc x41.D) : AV) = .agg (Tapi_Detection.enc x41.D)), ((.agg (Tapi_Source.enc x_1) : AV) = .agg (Tapi_Source.enc x_1)), (Ret Tryd.prog GT 22 [.agg (Tapi_Detection.enc x41.D), .agg (Tapi_Source.enc x_1)] (.bool r43) []), (r43 = true)]) (by kernel_rfl) (by kernel_rfl) ⟨(decide_eq_true c40), ⟨rfl, get_lt h42⟩, (fl_ne (f := Tapi_Reject.enc) (z := 7) (fun _ => rfl) h42), (fl_sub0 (f := Tapi_Reject.enc) (z := 8) (j := k8) (fun _ => rfl) h42 rfl), rfl, rfl, (trace_from_ret x41.D x_1 r43 h44), ok1 c45⟩
theorem trace_known_L32_1 (s_0 : Tapi_State) (x_1 : Tapi_Source) (k8 : Nat) (c40 : (↑k8 : Int) < (↑s_0.Result.Rejects.length : Int)) (x41 : Tapi_Reject) (h42 : s_0.Result.Rejects[k8]? = some x41) (r43 : Bool) (h44 : trace_from x41.D x_1 = some r43) (c45 : ¬ (r43 = true)) (h46 : InR .i64 ((↑k8 : Int) + 1)) : Does Tryd.prog GT 1 (bodyAt Tryd.prog 67 [1, 0, 1, 0, 0]) (trace_known_L32_H s_0 x_1 k8) .normal (S 19 [(0, .lst (fl Tapi_Reject.enc s_0.Result.Rejects) s_0.Result.Rejects.length), (1, .fn (.func 49) [] [.ptr 0 0]), (7, .int .i64 (↑s_0.Result.Rejects.length : Int)), (8, .int .i64 ((↑k8 : Int) + 1))] [{ c := (Tapi_Source.enc x_1), e := 66, ext := false, fz := 0, pl := true, o := false }]) :=
  Does.of_viewM 1 400 ((.op none .a) :: (.br true) :: (cs 5 ((.op none (.i k8)) :: (.op none (.v [.str x41.D.Device, .int .i64 x41.D.Seq, .int .i64 x41.D.Time, .str x41.D.Tag, .str x41.D.Plate, .int .i64 x41.D.Axles, .int .i64 x41.D.Score, .int .i64 x41.Why])) :: (cs 6 [.ret none [.agg (Tapi_Detection.enc x41.D), .agg (Tapi_Source.enc x_1)] (.bool r43) [], .op none .c, .br false, .op none .w, .op none .c])))) [0] (ps := [((decide ((↑k8 : Int) < (↑s_0.Result.Rejects.length : Int))) = true), ((↑k8 : Int) = ((k8 : Nat) : Int) ∧ k8 < s_0.Result.Rejects.length), ((fl Tapi_Reject.enc s_0.Result.Rejects) ≠ []), (sub (fl Tapi_Reject.enc s_0.Result.Rejects) (k8 * 8) 8 = [.str x41.D.Device, .int .i64 x41.D.Seq, .int .i64 x41.D.Time, .str x41.D.Tag, .str x41.D.Plate, .int .i64 x41.D.Axles, .int .i64 x41.D.Score, .int .i64 x41.Why]), ((.agg (Tapi_Detection.enc x41.D) : AV) = .agg (Tapi_Detection.enc x41.D)), ((.agg (Tapi_Source.enc x_1) : AV) = .agg (Tapi_Source.enc x_1)), (Ret Tryd.prog GT 22 [.agg (Tapi_Detection.enc x41.D), .agg (Tapi_Source.enc x_1)] (.bool r43) []), (r43 = false), (IntKind.min .i64 ≤ ((↑k8 : Int) + 1) ∧ ((↑k8 : Int) + 1) ≤ IntKind.max .i64)]) (by kernel_rfl) (by kernel_rfl) ⟨(decide_eq_true c40), ⟨rfl, get_lt h42⟩, (fl_ne (f := Tapi_Reject.enc) (z := 7) (fun _ => rfl) h42), (fl_sub0 (f := Tapi_Reject.enc) (z := 8) (j := k8) (fun _ => rfl) h42 rfl), rfl, rfl, (trace_from_ret x41.D x_1 r43 h44), (eq_false_of_ne_true c45), ok1 h46⟩
theorem trace_known_L32_2 (s_0 : Tapi_State) (x_1 : Tapi_Source) (k8 : Nat) (c40 : ¬ ((↑k8 : Int) < (↑s_0.Result.Rejects.length : Int))) : Does Tryd.prog GT 1 (bodyAt Tryd.prog 67 [1, 0, 1, 0, 0]) (trace_known_L32_H s_0 x_1 k8) (.exit 0) (S 19 [] [{ c := (Tapi_Source.enc x_1), e := 66, ext := false, fz := 0, pl := true, o := false }]) :=
  Does.of_viewM 1 400 [.op none .a, .br false] [0] (ps := [((decide ((↑k8 : Int) < (↑s_0.Result.Rejects.length : Int))) = false)]) (by kernel_rfl) (by kernel_rfl) (ok1 (decide_eq_false c40))
def trace_known_L32_X (s_0 : Tapi_State) (x_1 : Tapi_Source) : (Int ⊕ Unit) → AEx := fun q => match q with | Sum.inl o => .ret | Sum.inr (o) => (.exit 0)
def trace_known_L32_E (s_0 : Tapi_State) (x_1 : Tapi_Source) : (Int ⊕ Unit) → St := fun q => match q with | Sum.inl o => S 19 [(4, .int .i64 o)] [{ c := (Tapi_Source.enc x_1), e := 66, ext := false, fz := 0, pl := true, o := false }] | Sum.inr (o) => S 19 [] [{ c := (Tapi_Source.enc x_1), e := 66, ext := false, fz := 0, pl := true, o := false }]
theorem trace_known_L32_does (s_0 : Tapi_State) (x_1 : Tapi_Source) {s : Nat} {r : Int ⊕ Unit} (h : lp (trace_known_L32_step s_0 x_1) s = some r) : Does Tryd.prog GT 1 (.loop (bodyAt Tryd.prog 67 [1, 0, 1, 0, 0])) (trace_known_L32_H s_0 x_1 s) (trace_known_L32_X s_0 x_1 r) (trace_known_L32_E s_0 x_1 r) := by
  refine Does.lp (H := trace_known_L32_H s_0 x_1) (X := trace_known_L32_X s_0 x_1) (E := trace_known_L32_E s_0 x_1) (fun s s2 h => ?_) (fun s r h => ?_) h
  · revert h; revert s; intro k8 h
    unfold trace_known_L32_step at h
    try dsimp only at h
    rcases ite_some h with ⟨c40, h⟩ | ⟨c40, h⟩
    · obtain ⟨x41, h42, h⟩ := bind_some h
      obtain ⟨r43, h44, h⟩ := bind_some h
      rcases ite_some h with ⟨c45, h⟩ | ⟨c45, h⟩
      · simp at h
      · obtain ⟨h46, h⟩ := guard_some h
        simp only [Option.some.injEq, Sum.inl.injEq] at h
        subst h
        have hq := trace_known_L32_1 s_0 x_1 k8 c40 x41 h42 r43 h44 c45 h46
        first | exact hq | exact Eq.mp (by simp only [trace_known_L32_H, List.length_set] <;> rfl) hq
    · simp at h
  · revert h; revert s; intro k8 h
    unfold trace_known_L32_step at h
    try dsimp only at h
    rcases ite_some h with ⟨c40, h⟩ | ⟨c40, h⟩
    · obtain ⟨x41, h42, h⟩ := bind_some h
      obtain ⟨r43, h44, h⟩ := bind_some h
      rcases ite_some h with ⟨c45, h⟩ | ⟨c45, h⟩
      · simp only [Option.some.injEq, Sum.inr.injEq] at h
        subst h
        exact ⟨trace_known_L32_0 s_0 x_1 k8 c40 x41 h42 r43 h44 c45, by intro q; cases q⟩
      · obtain ⟨h46, h⟩ := guard_some h
        simp at h
    · simp only [Option.some.injEq, Sum.inr.injEq] at h
      subst h
      exact ⟨trace_known_L32_2 s_0 x_1 k8 c40, by intro q; cases q⟩
noncomputable def trace_known (s_0 : Tapi_State) (x_1 : Tapi_Source) : Option Bool :=
  (lp (trace_known_L1_step s_0 x_1) (0 : Nat)).bind fun qq => match qq with
  | Sum.inl o1 =>
    some true
  | Sum.inr (o1) =>
    (lp (trace_known_L16_step s_0 x_1) (0 : Nat)).bind fun qq => match qq with
    | Sum.inl o16 =>
      if o16 ≥ (0 : Int) then
        some true
      else
        (lp (trace_known_L32_step s_0 x_1) (0 : Nat)).bind fun qq => match qq with
        | Sum.inl o32 =>
          some (decide (o32 ≥ (0 : Int)))
        | Sum.inr (o32) =>
          some false
    | Sum.inr (o16) =>
      (lp (trace_known_L32_step s_0 x_1) (0 : Nat)).bind fun qq => match qq with
      | Sum.inl o47 =>
        some (decide (o47 ≥ (0 : Int)))
      | Sum.inr (o47) =>
        some false
theorem trace_known_0 (s_0 : Tapi_State) (x_1 : Tapi_Source) (o1 : Unit) (hl1 : lp (trace_known_L1_step s_0 x_1) (0 : Nat) = some (Sum.inl o1)) : Ret Tryd.prog GT 20 [.agg (Tapi_State.enc s_0), .agg (Tapi_Source.enc x_1)] (.bool true) [] :=
  Ret.of_view 400 (cs 7 [.fcut 2 .ret [(4, .bool true)] [{ c := (Tapi_State.enc s_0), e := 64, ext := false, fz := 0, pl := true, o := false }, { c := (Tapi_Source.enc x_1), e := 66, ext := false, fz := 0, pl := true, o := false }] [0, 1] [(2, .ptr 0 0), (3, .ptr 1 0), (9, .lst (fl Tapi_Seen.enc s_0.Seen) s_0.Seen.length), (10, .int .i64 (↑s_0.Seen.length : Int)), (11, .int .i64 (↑(0 : Nat) : Int))] [{ c := (Tapi_State.enc s_0), e := 64, ext := false, fz := 0, pl := true, o := false }, { c := (Tapi_Source.enc x_1), e := 66, ext := false, fz := 0, pl := true, o := false }]]) [] (ps := [((.ptr 0 0 : AV) = .ptr 0 0), ((.ptr 1 0 : AV) = .ptr 1 0), ((.lst (fl Tapi_Seen.enc s_0.Seen) s_0.Seen.length : AV) = .lst (fl Tapi_Seen.enc s_0.Seen) s_0.Seen.length), ((.int .i64 (↑s_0.Seen.length : Int) : AV) = .int .i64 (↑s_0.Seen.length : Int)), ((.int .i64 0 : AV) = .int .i64 (↑(0 : Nat) : Int)), (({ c := (Tapi_State.enc s_0), e := 64, ext := false, fz := 0, pl := true, o := false } : Blk) = renB [0, 1] { c := (Tapi_State.enc s_0), e := 64, ext := false, fz := 0, pl := true, o := false }), (({ c := (Tapi_Source.enc x_1), e := 66, ext := false, fz := 0, pl := true, o := false } : Blk) = renB [0, 1] { c := (Tapi_Source.enc x_1), e := 66, ext := false, fz := 0, pl := true, o := false }), (Does Tryd.prog GT 2 (.loop (bodyAt Tryd.prog 20 [1, 0, 1, 0, 0])) (S 32 [(2, .ptr 0 0), (3, .ptr 1 0), (9, .lst (fl Tapi_Seen.enc s_0.Seen) s_0.Seen.length), (10, .int .i64 (↑s_0.Seen.length : Int)), (11, .int .i64 (↑(0 : Nat) : Int))] [{ c := (Tapi_State.enc s_0), e := 64, ext := false, fz := 0, pl := true, o := false }, { c := (Tapi_Source.enc x_1), e := 66, ext := false, fz := 0, pl := true, o := false }]) .ret (S 32 [(4, .bool true)] [{ c := (Tapi_State.enc s_0), e := 64, ext := false, fz := 0, pl := true, o := false }, { c := (Tapi_Source.enc x_1), e := 66, ext := false, fz := 0, pl := true, o := false }]))]) (by kernel_rfl) (by kernel_rfl) ⟨rfl, rfl, rfl, rfl, rfl, rfl, rfl, ok1 (trace_known_L1_does s_0 x_1 hl1)⟩
theorem trace_known_1 (s_0 : Tapi_State) (x_1 : Tapi_Source) (o1 : Unit) (hl1 : lp (trace_known_L1_step s_0 x_1) (0 : Nat) = some (Sum.inr (o1))) (o16 : Int) (hl16 : lp (trace_known_L16_step s_0 x_1) (0 : Nat) = some (Sum.inl o16)) (c31 : o16 ≥ (0 : Int)) : Ret Tryd.prog GT 20 [.agg (Tapi_State.enc s_0), .agg (Tapi_Source.enc x_1)] (.bool true) [] :=
  Ret.of_view 400 (cs 7 ((.fcut 2 (.exit 0) [(2, .ptr 0 0), (3, .ptr 1 0)] [{ c := (Tapi_State.enc s_0), e := 64, ext := false, fz := 0, pl := true, o := false }, { c := (Tapi_Source.enc x_1), e := 66, ext := false, fz := 0, pl := true, o := false }] [0, 1] [(2, .ptr 0 0), (3, .ptr 1 0), (9, .lst (fl Tapi_Seen.enc s_0.Seen) s_0.Seen.length), (10, .int .i64 (↑s_0.Seen.length : Int)), (11, .int .i64 (↑(0 : Nat) : Int))] [{ c := (Tapi_State.enc s_0), e := 64, ext := false, fz := 0, pl := true, o := false }, { c := (Tapi_Source.enc x_1), e := 66, ext := false, fz := 0, pl := true, o := false }]) :: (cs 14 ((.fcut 1 .ret [(4, .int .i64 o16)] [{ c := (Tapi_Source.enc x_1), e := 66, ext := false, fz := 0, pl := true, o := false }] [1] [(0, .lst (fl Tapi_Reject.enc s_0.Rejects) s_0.Rejects.length), (1, .fn (.func 49) [] [.ptr 0 0]), (7, .int .i64 (↑s_0.Rejects.length : Int)), (8, .int .i64 (↑(0 : Nat) : Int))] [{ c := (Tapi_Source.enc x_1), e := 66, ext := false, fz := 0, pl := true, o := false }]) :: (.op none .a) :: (cs 2 ((.op (some true) .c) :: (cs 6 []))))))) [] (ps := [((.ptr 0 0 : AV) = .ptr 0 0), ((.ptr 1 0 : AV) = .ptr 1 0), ((.lst (fl Tapi_Seen.enc s_0.Seen) s_0.Seen.length : AV) = .lst (fl Tapi_Seen.enc s_0.Seen) s_0.Seen.length), ((.int .i64 (↑s_0.Seen.length : Int) : AV) = .int .i64 (↑s_0.Seen.length : Int)), ((.int .i64 0 : AV) = .int .i64 (↑(0 : Nat) : Int)), (({ c := (Tapi_State.enc s_0), e := 64, ext := false, fz := 0, pl := true, o := false } : Blk) = renB [0, 1] { c := (Tapi_State.enc s_0), e := 64, ext := false, fz := 0, pl := true, o := false }), (({ c := (Tapi_Source.enc x_1), e := 66, ext := false, fz := 0, pl := true, o := false } : Blk) = renB [0, 1] { c := (Tapi_Source.enc x_1), e := 66, ext := false, fz := 0, pl := true, o := false }), (Does Tryd.prog GT 2 (.loop (bodyAt Tryd.prog 20 [1, 0, 1, 0, 0])) (S 32 [(2, .ptr 0 0), (3, .ptr 1 0), (9, .lst (fl Tapi_Seen.enc s_0.Seen) s_0.Seen.length), (10, .int .i64 (↑s_0.Seen.length : Int)), (11, .int .i64 (↑(0 : Nat) : Int))] [{ c := (Tapi_State.enc s_0), e := 64, ext := false, fz := 0, pl := true, o := false }, { c := (Tapi_Source.enc x_1), e := 66, ext := false, fz := 0, pl := true, o := false }]) (.exit 0) (S 32 [(2, .ptr 0 0), (3, .ptr 1 0)] [{ c := (Tapi_State.enc s_0), e := 64, ext := false, fz := 0, pl := true, o := false }, { c := (Tapi_Source.enc x_1), e := 66, ext := false, fz := 0, pl := true, o := false }])), ((.lst (fl Tapi_Reject.enc s_0.Rejects) s_0.Rejects.length : AV) = .lst (fl Tapi_Reject.enc s_0.Rejects) s_0.Rejects.length), ((.fn (.func 49) [] [.ptr 1 0] : AV) = .fn (.func 49) [] [.ptr 1 0]), ((.int .i64 (↑s_0.Rejects.length : Int) : AV) = .int .i64 (↑s_0.Rejects.length : Int)), ((.int .i64 0 : AV) = .int .i64 (↑(0 : Nat) : Int)), (({ c := (Tapi_Source.enc x_1), e := 66, ext := false, fz := 0, pl := true, o := false } : Blk) = renB [1] { c := (Tapi_Source.enc x_1), e := 66, ext := false, fz := 0, pl := true, o := false }), (Does Tryd.prog GT 1 (.loop (bodyAt Tryd.prog 67 [1, 0, 1, 0, 0])) (S 19 [(0, .lst (fl Tapi_Reject.enc s_0.Rejects) s_0.Rejects.length), (1, .fn (.func 49) [] [.ptr 0 0]), (7, .int .i64 (↑s_0.Rejects.length : Int)), (8, .int .i64 (↑(0 : Nat) : Int))] [{ c := (Tapi_Source.enc x_1), e := 66, ext := false, fz := 0, pl := true, o := false }]) .ret (S 19 [(4, .int .i64 o16)] [{ c := (Tapi_Source.enc x_1), e := 66, ext := false, fz := 0, pl := true, o := false }])), ((decide (o16 ≥ (0 : Int))) = true)]) (by kernel_rfl) (by kernel_rfl) ⟨rfl, rfl, rfl, rfl, rfl, rfl, rfl, (trace_known_L1_does s_0 x_1 hl1), rfl, rfl, rfl, rfl, rfl, (trace_known_L16_does s_0 x_1 hl16), ok1 (decide_eq_true c31)⟩
theorem trace_known_2 (s_0 : Tapi_State) (x_1 : Tapi_Source) (o1 : Unit) (hl1 : lp (trace_known_L1_step s_0 x_1) (0 : Nat) = some (Sum.inr (o1))) (o16 : Int) (hl16 : lp (trace_known_L16_step s_0 x_1) (0 : Nat) = some (Sum.inl o16)) (c31 : ¬ (o16 ≥ (0 : Int))) (o32 : Int) (hl32 : lp (trace_known_L32_step s_0 x_1) (0 : Nat) = some (Sum.inl o32)) : Ret Tryd.prog GT 20 [.agg (Tapi_State.enc s_0), .agg (Tapi_Source.enc x_1)] (.bool (decide (o32 ≥ (0 : Int)))) [] :=
  Ret.of_view 400 (cs 7 ((.fcut 2 (.exit 0) [(2, .ptr 0 0), (3, .ptr 1 0)] [{ c := (Tapi_State.enc s_0), e := 64, ext := false, fz := 0, pl := true, o := false }, { c := (Tapi_Source.enc x_1), e := 66, ext := false, fz := 0, pl := true, o := false }] [0, 1] [(2, .ptr 0 0), (3, .ptr 1 0), (9, .lst (fl Tapi_Seen.enc s_0.Seen) s_0.Seen.length), (10, .int .i64 (↑s_0.Seen.length : Int)), (11, .int .i64 (↑(0 : Nat) : Int))] [{ c := (Tapi_State.enc s_0), e := 64, ext := false, fz := 0, pl := true, o := false }, { c := (Tapi_Source.enc x_1), e := 66, ext := false, fz := 0, pl := true, o := false }]) :: (cs 14 ((.fcut 1 .ret [(4, .int .i64 o16)] [{ c := (Tapi_Source.enc x_1), e := 66, ext := false, fz := 0, pl := true, o := false }] [1] [(0, .lst (fl Tapi_Reject.enc s_0.Rejects) s_0.Rejects.length), (1, .fn (.func 49) [] [.ptr 0 0]), (7, .int .i64 (↑s_0.Rejects.length : Int)), (8, .int .i64 (↑(0 : Nat) : Int))] [{ c := (Tapi_Source.enc x_1), e := 66, ext := false, fz := 0, pl := true, o := false }]) :: (.op none .a) :: (cs 2 ((.op (some false) .c) :: (cs 12 ((.fcut 1 .ret [(4, .int .i64 o32)] [{ c := (Tapi_Source.enc x_1), e := 66, ext := false, fz := 0, pl := true, o := false }] [1] [(0, .lst (fl Tapi_Reject.enc s_0.Result.Rejects) s_0.Result.Rejects.length), (1, .fn (.func 49) [] [.ptr 0 0]), (7, .int .i64 (↑s_0.Result.Rejects.length : Int)), (8, .int .i64 (↑(0 : Nat) : Int))] [{ c := (Tapi_Source.enc x_1), e := 66, ext := false, fz := 0, pl := true, o := false }]) :: (.op none .a) :: (cs 3 []))))))))) [] (ps := [((.ptr 0 0 : AV) = .ptr 0 0), ((.ptr 1 0 : AV) = .ptr 1 0), ((.lst (fl Tapi_Seen.enc s_0.Seen) s_0.Seen.length : AV) = .lst (fl Tapi_Seen.enc s_0.Seen) s_0.Seen.length), ((.int .i64 (↑s_0.Seen.length : Int) : AV) = .int .i64 (↑s_0.Seen.length : Int)), ((.int .i64 0 : AV) = .int .i64 (↑(0 : Nat) : Int)), (({ c := (Tapi_State.enc s_0), e := 64, ext := false, fz := 0, pl := true, o := false } : Blk) = renB [0, 1] { c := (Tapi_State.enc s_0), e := 64, ext := false, fz := 0, pl := true, o := false }), (({ c := (Tapi_Source.enc x_1), e := 66, ext := false, fz := 0, pl := true, o := false } : Blk) = renB [0, 1] { c := (Tapi_Source.enc x_1), e := 66, ext := false, fz := 0, pl := true, o := false }), (Does Tryd.prog GT 2 (.loop (bodyAt Tryd.prog 20 [1, 0, 1, 0, 0])) (S 32 [(2, .ptr 0 0), (3, .ptr 1 0), (9, .lst (fl Tapi_Seen.enc s_0.Seen) s_0.Seen.length), (10, .int .i64 (↑s_0.Seen.length : Int)), (11, .int .i64 (↑(0 : Nat) : Int))] [{ c := (Tapi_State.enc s_0), e := 64, ext := false, fz := 0, pl := true, o := false }, { c := (Tapi_Source.enc x_1), e := 66, ext := false, fz := 0, pl := true, o := false }]) (.exit 0) (S 32 [(2, .ptr 0 0), (3, .ptr 1 0)] [{ c := (Tapi_State.enc s_0), e := 64, ext := false, fz := 0, pl := true, o := false }, { c := (Tapi_Source.enc x_1), e := 66, ext := false, fz := 0, pl := true, o := false }])), ((.lst (fl Tapi_Reject.enc s_0.Rejects) s_0.Rejects.length : AV) = .lst (fl Tapi_Reject.enc s_0.Rejects) s_0.Rejects.length), ((.fn (.func 49) [] [.ptr 1 0] : AV) = .fn (.func 49) [] [.ptr 1 0]), ((.int .i64 (↑s_0.Rejects.length : Int) : AV) = .int .i64 (↑s_0.Rejects.length : Int)), ((.int .i64 0 : AV) = .int .i64 (↑(0 : Nat) : Int)), (({ c := (Tapi_Source.enc x_1), e := 66, ext := false, fz := 0, pl := true, o := false } : Blk) = renB [1] { c := (Tapi_Source.enc x_1), e := 66, ext := false, fz := 0, pl := true, o := false }), (Does Tryd.prog GT 1 (.loop (bodyAt Tryd.prog 67 [1, 0, 1, 0, 0])) (S 19 [(0, .lst (fl Tapi_Reject.enc s_0.Rejects) s_0.Rejects.length), (1, .fn (.func 49) [] [.ptr 0 0]), (7, .int .i64 (↑s_0.Rejects.length : Int)), (8, .int .i64 (↑(0 : Nat) : Int))] [{ c := (Tapi_Source.enc x_1), e := 66, ext := false, fz := 0, pl := true, o := false }]) .ret (S 19 [(4, .int .i64 o16)] [{ c := (Tapi_Source.enc x_1), e := 66, ext := false, fz := 0, pl := true, o := false }])), ((decide (o16 ≥ (0 : Int))) = false), ((.lst (fl Tapi_Reject.enc s_0.Result.Rejects) s_0.Result.Rejects.length : AV) = .lst (fl Tapi_Reject.enc s_0.Result.Rejects) s_0.Result.Rejects.length), ((.fn (.func 49) [] [.ptr 1 0] : AV) = .fn (.func 49) [] [.ptr 1 0]), ((.int .i64 (↑s_0.Result.Rejects.length : Int) : AV) = .int .i64 (↑s_0.Result.Rejects.length : Int)), ((.int .i64 0 : AV) = .int .i64 (↑(0 : Nat) : Int)), (({ c := (Tapi_Source.enc x_1), e := 66, ext := false, fz := 0, pl := true, o := false } : Blk) = renB [1] { c := (Tapi_Source.enc x_1), e := 66, ext := false, fz := 0, pl := true, o := false }), (Does Tryd.prog GT 1 (.loop (bodyAt Tryd.prog 67 [1, 0, 1, 0, 0])) (S 19 [(0, .lst (fl Tapi_Reject.enc s_0.Result.Rejects) s_0.Result.Rejects.length), (1, .fn (.func 49) [] [.ptr 0 0]), (7, .int .i64 (↑s_0.Result.Rejects.length : Int)), (8, .int .i64 (↑(0 : Nat) : Int))] [{ c := (Tapi_Source.enc x_1), e := 66, ext := false, fz := 0, pl := true, o := false }]) .ret (S 19 [(4, .int .i64 o32)] [{ c := (Tapi_Source.enc x_1), e := 66, ext := false, fz := 0, pl := true, o := false }]))]) (by kernel_rfl) (by kernel_rfl) ⟨rfl, rfl, rfl, rfl, rfl, rfl, rfl, (trace_known_L1_does s_0 x_1 hl1), rfl, rfl, rfl, rfl, rfl, (trace_known_L16_does s_0 x_1 hl16), (decide_eq_false c31), rfl, rfl, rfl, rfl, rfl, ok1 (trace_known_L32_does s_0 x_1 hl32)⟩
theorem trace_known_3 (s_0 : Tapi_State) (x_1 : Tapi_Source) (o1 : Unit) (hl1 : lp (trace_known_L1_step s_0 x_1) (0 : Nat) = some (Sum.inr (o1))) (o16 : Int) (hl16 : lp (trace_known_L16_step s_0 x_1) (0 : Nat) = some (Sum.inl o16)) (c31 : ¬ (o16 ≥ (0 : Int))) (o32 : Unit) (hl32 : lp (trace_known_L32_step s_0 x_1) (0 : Nat) = some (Sum.inr (o32))) : Ret Tryd.prog GT 20 [.agg (Tapi_State.enc s_0), .agg (Tapi_Source.enc x_1)] (.bool false) [] :=
  Ret.of_view 400 (cs 7 ((.fcut 2 (.exit 0) [(2, .ptr 0 0), (3, .ptr 1 0)] [{ c := (Tapi_State.enc s_0), e := 64, ext := false, fz := 0, pl := true, o := false }, { c := (Tapi_Source.enc x_1), e := 66, ext := false, fz := 0, pl := true, o := false }] [0, 1] [(2, .ptr 0 0), (3, .ptr 1 0), (9, .lst (fl Tapi_Seen.enc s_0.Seen) s_0.Seen.length), (10, .int .i64 (↑s_0.Seen.length : Int)), (11, .int .i64 (↑(0 : Nat) : Int))] [{ c := (Tapi_State.enc s_0), e := 64, ext := false, fz := 0, pl := true, o := false }, { c := (Tapi_Source.enc x_1), e := 66, ext := false, fz := 0, pl := true, o := false }]) :: (cs 14 ((.fcut 1 .ret [(4, .int .i64 o16)] [{ c := (Tapi_Source.enc x_1), e := 66, ext := false, fz := 0, pl := true, o := false }] [1] [(0, .lst (fl Tapi_Reject.enc s_0.Rejects) s_0.Rejects.length), (1, .fn (.func 49) [] [.ptr 0 0]), (7, .int .i64 (↑s_0.Rejects.length : Int)), (8, .int .i64 (↑(0 : Nat) : Int))] [{ c := (Tapi_Source.enc x_1), e := 66, ext := false, fz := 0, pl := true, o := false }]) :: (.op none .a) :: (cs 2 ((.op (some false) .c) :: (cs 12 ((.fcut 1 (.exit 0) [] [{ c := (Tapi_Source.enc x_1), e := 66, ext := false, fz := 0, pl := true, o := false }] [1] [(0, .lst (fl Tapi_Reject.enc s_0.Result.Rejects) s_0.Result.Rejects.length), (1, .fn (.func 49) [] [.ptr 0 0]), (7, .int .i64 (↑s_0.Result.Rejects.length : Int)), (8, .int .i64 (↑(0 : Nat) : Int))] [{ c := (Tapi_Source.enc x_1), e := 66, ext := false, fz := 0, pl := true, o := false }]) :: (cs 5 []))))))))) [] (ps := [((.ptr 0 0 : AV) = .ptr 0 0), ((.ptr 1 0 : AV) = .ptr 1 0), ((.lst (fl Tapi_Seen.enc s_0.Seen) s_0.Seen.length : AV) = .lst (fl Tapi_Seen.enc s_0.Seen) s_0.Seen.length), ((.int .i64 (↑s_0.Seen.length : Int) : AV) = .int .i64 (↑s_0.Seen.length : Int)), ((.int .i64 0 : AV) = .int .i64 (↑(0 : Nat) : Int)), (({ c := (Tapi_State.enc s_0), e := 64, ext := false, fz := 0, pl := true, o := false } : Blk) = renB [0, 1] { c := (Tapi_State.enc s_0), e := 64, ext := false, fz := 0, pl := true, o := false }), (({ c := (Tapi_Source.enc x_1), e := 66, ext := false, fz := 0, pl := true, o := false } : Blk) = renB [0, 1] { c := (Tapi_Source.enc x_1), e := 66, ext := false, fz := 0, pl := true, o := false }), (Does Tryd.prog GT 2 (.loop (bodyAt Tryd.prog 20 [1, 0, 1, 0, 0])) (S 32 [(2, .ptr 0 0), (3, .ptr 1 0), (9, .lst (fl Tapi_Seen.enc s_0.Seen) s_0.Seen.length), (10, .int .i64 (↑s_0.Seen.length : Int)), (11, .int .i64 (↑(0 : Nat) : Int))] [{ c := (Tapi_State.enc s_0), e := 64, ext := false, fz := 0, pl := true, o := false }, { c := (Tapi_Source.enc x_1), e := 66, ext := false, fz := 0, pl := true, o := false }]) (.exit 0) (S 32 [(2, .ptr 0 0), (3, .ptr 1 0)] [{ c := (Tapi_State.enc s_0), e := 64, ext := false, fz := 0, pl := true, o := false }, { c := (Tapi_Source.enc x_1), e := 66, ext := false, fz := 0, pl := true, o := false }])), ((.lst (fl Tapi_Reject.enc s_0.Rejects) s_0.Rejects.length : AV) = .lst (fl Tapi_Reject.enc s_0.Rejects) s_0.Rejects.length), ((.fn (.func 49) [] [.ptr 1 0] : AV) = .fn (.func 49) [] [.ptr 1 0]), ((.int .i64 (↑s_0.Rejects.length : Int) : AV) = .int .i64 (↑s_0.Rejects.length : Int)), ((.int .i64 0 : AV) = .int .i64 (↑(0 : Nat) : Int)), (({ c := (Tapi_Source.enc x_1), e := 66, ext := false, fz := 0, pl := true, o := false } : Blk) = renB [1] { c := (Tapi_Source.enc x_1), e := 66, ext := false, fz := 0, pl := true, o := false }), (Does Tryd.prog GT 1 (.loop (bodyAt Tryd.prog 67 [1, 0, 1, 0, 0])) (S 19 [(0, .lst (fl Tapi_Reject.enc s_0.Rejects) s_0.Rejects.length), (1, .fn (.func 49) [] [.ptr 0 0]), (7, .int .i64 (↑s_0.Rejects.length : Int)), (8, .int .i64 (↑(0 : Nat) : Int))] [{ c := (Tapi_Source.enc x_1), e := 66, ext := false, fz := 0, pl := true, o := false }]) .ret (S 19 [(4, .int .i64 o16)] [{ c := (Tapi_Source.enc x_1), e := 66, ext := false, fz := 0, pl := true, o := false }])), ((decide (o16 ≥ (0 : Int))) = false), ((.lst (fl Tapi_Reject.enc s_0.Result.Rejects) s_0.Result.Rejects.length : AV) = .lst (fl Tapi_Reject.enc s_0.Result.Rejects) s_0.Result.Rejects.length), ((.fn (.func 49) [] [.ptr 1 0] : AV) = .fn (.func 49) [] [.ptr 1 0]), ((.int .i64 (↑s_0.Result.Rejects.length : Int) : AV) = .int .i64 (↑s_0.Result.Rejects.length : Int)), ((.int .i64 0 : AV) = .int .i64 (↑(0 : Nat) : Int)), (({ c := (Tapi_Source.enc x_1), e := 66, ext := false, fz := 0, pl := true, o := false } : Blk) = renB [1] { c := (Tapi_Source.enc x_1), e := 66, ext := false, fz := 0, pl := true, o := false }), (Does Tryd.prog GT 1 (.loop (bodyAt Tryd.prog 67 [1, 0, 1, 0, 0])) (S 19 [(0, .lst (fl Tapi_Reject.enc s_0.Result.Rejects) s_0.Result.Rejects.length), (1, .fn (.func 49) [] [.ptr 0 0]), (7, .int .i64 (↑s_0.Result.Rejects.length : Int)), (8, .int .i64 (↑(0 : Nat) : Int))] [{ c := (Tapi_Source.enc x_1), e := 66, ext := false, fz := 0, pl := true, o := false }]) (.exit 0) (S 19 [] [{ c := (Tapi_Source.enc x_1), e := 66, ext := false, fz := 0, pl := true, o := false }]))]) (by kernel_rfl) (by kernel_rfl) ⟨rfl, rfl, rfl, rfl, rfl, rfl, rfl, (trace_known_L1_does s_0 x_1 hl1), rfl, rfl, rfl, rfl, rfl, (trace_known_L16_does s_0 x_1 hl16), (decide_eq_false c31), rfl, rfl, rfl, rfl, rfl, ok1 (trace_known_L32_does s_0 x_1 hl32)⟩
theorem trace_known_4 (s_0 : Tapi_State) (x_1 : Tapi_Source) (o1 : Unit) (hl1 : lp (trace_known_L1_step s_0 x_1) (0 : Nat) = some (Sum.inr (o1))) (o16 : Unit) (hl16 : lp (trace_known_L16_step s_0 x_1) (0 : Nat) = some (Sum.inr (o16))) (o47 : Int) (hl47 : lp (trace_known_L32_step s_0 x_1) (0 : Nat) = some (Sum.inl o47)) : Ret Tryd.prog GT 20 [.agg (Tapi_State.enc s_0), .agg (Tapi_Source.enc x_1)] (.bool (decide (o47 ≥ (0 : Int)))) [] :=
  Ret.of_view 400 (cs 7 ((.fcut 2 (.exit 0) [(2, .ptr 0 0), (3, .ptr 1 0)] [{ c := (Tapi_State.enc s_0), e := 64, ext := false, fz := 0, pl := true, o := false }, { c := (Tapi_Source.enc x_1), e := 66, ext := false, fz := 0, pl := true, o := false }] [0, 1] [(2, .ptr 0 0), (3, .ptr 1 0), (9, .lst (fl Tapi_Seen.enc s_0.Seen) s_0.Seen.length), (10, .int .i64 (↑s_0.Seen.length : Int)), (11, .int .i64 (↑(0 : Nat) : Int))] [{ c := (Tapi_State.enc s_0), e := 64, ext := false, fz := 0, pl := true, o := false }, { c := (Tapi_Source.enc x_1), e := 66, ext := false, fz := 0, pl := true, o := false }]) :: (cs 14 ((.fcut 1 (.exit 0) [] [{ c := (Tapi_Source.enc x_1), e := 66, ext := false, fz := 0, pl := true, o := false }] [1] [(0, .lst (fl Tapi_Reject.enc s_0.Rejects) s_0.Rejects.length), (1, .fn (.func 49) [] [.ptr 0 0]), (7, .int .i64 (↑s_0.Rejects.length : Int)), (8, .int .i64 (↑(0 : Nat) : Int))] [{ c := (Tapi_Source.enc x_1), e := 66, ext := false, fz := 0, pl := true, o := false }]) :: (cs 17 ((.fcut 1 .ret [(4, .int .i64 o47)] [{ c := (Tapi_Source.enc x_1), e := 66, ext := false, fz := 0, pl := true, o := false }] [1] [(0, .lst (fl Tapi_Reject.enc s_0.Result.Rejects) s_0.Result.Rejects.length), (1, .fn (.func 49) [] [.ptr 0 0]), (7, .int .i64 (↑s_0.Result.Rejects.length : Int)), (8, .int .i64 (↑(0 : Nat) : Int))] [{ c := (Tapi_Source.enc x_1), e := 66, ext := false, fz := 0, pl := true, o := false }]) :: (.op none .a) :: (cs 3 []))))))) [] (ps := [((.ptr 0 0 : AV) = .ptr 0 0), ((.ptr 1 0 : AV) = .ptr 1 0), ((.lst (fl Tapi_Seen.enc s_0.Seen) s_0.Seen.length : AV) = .lst (fl Tapi_Seen.enc s_0.Seen) s_0.Seen.length), ((.int .i64 (↑s_0.Seen.length : Int) : AV) = .int .i64 (↑s_0.Seen.length : Int)), ((.int .i64 0 : AV) = .int .i64 (↑(0 : Nat) : Int)), (({ c := (Tapi_State.enc s_0), e := 64, ext := false, fz := 0, pl := true, o := false } : Blk) = renB [0, 1] { c := (Tapi_State.enc s_0), e := 64, ext := false, fz := 0, pl := true, o := false }), (({ c := (Tapi_Source.enc x_1), e := 66, ext := false, fz := 0, pl := true, o := false } : Blk) = renB [0, 1] { c := (Tapi_Source.enc x_1), e := 66, ext := false, fz := 0, pl := true, o := false }), (Does Tryd.prog GT 2 (.loop (bodyAt Tryd.prog 20 [1, 0, 1, 0, 0])) (S 32 [(2, .ptr 0 0), (3, .ptr 1 0), (9, .lst (fl Tapi_Seen.enc s_0.Seen) s_0.Seen.length), (10, .int .i64 (↑s_0.Seen.length : Int)), (11, .int .i64 (↑(0 : Nat) : Int))] [{ c := (Tapi_State.enc s_0), e := 64, ext := false, fz := 0, pl := true, o := false }, { c := (Tapi_Source.enc x_1), e := 66, ext := false, fz := 0, pl := true, o := false }]) (.exit 0) (S 32 [(2, .ptr 0 0), (3, .ptr 1 0)] [{ c := (Tapi_State.enc s_0), e := 64, ext := false, fz := 0, pl := true, o := false }, { c := (Tapi_Source.enc x_1), e := 66, ext := false, fz := 0, pl := true, o := false }])), ((.lst (fl Tapi_Reject.enc s_0.Rejects) s_0.Rejects.length : AV) = .lst (fl Tapi_Reject.enc s_0.Rejects) s_0.Rejects.length), ((.fn (.func 49) [] [.ptr 1 0] : AV) = .fn (.func 49) [] [.ptr 1 0]), ((.int .i64 (↑s_0.Rejects.length : Int) : AV) = .int .i64 (↑s_0.Rejects.length : Int)), ((.int .i64 0 : AV) = .int .i64 (↑(0 : Nat) : Int)), (({ c := (Tapi_Source.enc x_1), e := 66, ext := false, fz := 0, pl := true, o := false } : Blk) = renB [1] { c := (Tapi_Source.enc x_1), e := 66, ext := false, fz := 0, pl := true, o := false }), (Does Tryd.prog GT 1 (.loop (bodyAt Tryd.prog 67 [1, 0, 1, 0, 0])) (S 19 [(0, .lst (fl Tapi_Reject.enc s_0.Rejects) s_0.Rejects.length), (1, .fn (.func 49) [] [.ptr 0 0]), (7, .int .i64 (↑s_0.Rejects.length : Int)), (8, .int .i64 (↑(0 : Nat) : Int))] [{ c := (Tapi_Source.enc x_1), e := 66, ext := false, fz := 0, pl := true, o := false }]) (.exit 0) (S 19 [] [{ c := (Tapi_Source.enc x_1), e := 66, ext := false, fz := 0, pl := true, o := false }])), ((.lst (fl Tapi_Reject.enc s_0.Result.Rejects) s_0.Result.Rejects.length : AV) = .lst (fl Tapi_Reject.enc s_0.Result.Rejects) s_0.Result.Rejects.length), ((.fn (.func 49) [] [.ptr 1 0] : AV) = .fn (.func 49) [] [.ptr 1 0]), ((.int .i64 (↑s_0.Result.Rejects.length : Int) : AV) = .int .i64 (↑s_0.Result.Rejects.length : Int)), ((.int .i64 0 : AV) = .int .i64 (↑(0 : Nat) : Int)), (({ c := (Tapi_Source.enc x_1), e := 66, ext := false, fz := 0, pl := true, o := false } : Blk) = renB [1] { c := (Tapi_Source.enc x_1), e := 66, ext := false, fz := 0, pl := true, o := false }), (Does Tryd.prog GT 1 (.loop (bodyAt Tryd.prog 67 [1, 0, 1, 0, 0])) (S 19 [(0, .lst (fl Tapi_Reject.enc s_0.Result.Rejects) s_0.Result.Rejects.length), (1, .fn (.func 49) [] [.ptr 0 0]), (7, .int .i64 (↑s_0.Result.Rejects.length : Int)), (8, .int .i64 (↑(0 : Nat) : Int))] [{ c := (Tapi_Source.enc x_1), e := 66, ext := false, fz := 0, pl := true, o := false }]) .ret (S 19 [(4, .int .i64 o47)] [{ c := (Tapi_Source.enc x_1), e := 66, ext := false, fz := 0, pl := true, o := false }]))]) (by kernel_rfl) (by kernel_rfl) ⟨rfl, rfl, rfl, rfl, rfl, rfl, rfl, (trace_known_L1_does s_0 x_1 hl1), rfl, rfl, rfl, rfl, rfl, (trace_known_L16_does s_0 x_1 hl16), rfl, rfl, rfl, rfl, rfl, ok1 (trace_known_L32_does s_0 x_1 hl47)⟩
theorem trace_known_5 (s_0 : Tapi_State) (x_1 : Tapi_Source) (o1 : Unit) (hl1 : lp (trace_known_L1_step s_0 x_1) (0 : Nat) = some (Sum.inr (o1))) (o16 : Unit) (hl16 : lp (trace_known_L16_step s_0 x_1) (0 : Nat) = some (Sum.inr (o16))) (o47 : Unit) (hl47 : lp (trace_known_L32_step s_0 x_1) (0 : Nat) = some (Sum.inr (o47))) : Ret Tryd.prog GT 20 [.agg (Tapi_State.enc s_0), .agg (Tapi_Source.enc x_1)] (.bool false) [] :=
  Ret.of_view 400 (cs 7 ((.fcut 2 (.exit 0) [(2, .ptr 0 0), (3, .ptr 1 0)] [{ c := (Tapi_State.enc s_0), e := 64, ext := false, fz := 0, pl := true, o := false }, { c := (Tapi_Source.enc x_1), e := 66, ext := false, fz := 0, pl := true, o := false }] [0, 1] [(2, .ptr 0 0), (3, .ptr 1 0), (9, .lst (fl Tapi_Seen.enc s_0.Seen) s_0.Seen.length), (10, .int .i64 (↑s_0.Seen.length : Int)), (11, .int .i64 (↑(0 : Nat) : Int))] [{ c := (Tapi_State.enc s_0), e := 64, ext := false, fz := 0, pl := true, o := false }, { c := (Tapi_Source.enc x_1), e := 66, ext := false, fz := 0, pl := true, o := false }]) :: (cs 14 ((.fcut 1 (.exit 0) [] [{ c := (Tapi_Source.enc x_1), e := 66, ext := false, fz := 0, pl := true, o := false }] [1] [(0, .lst (fl Tapi_Reject.enc s_0.Rejects) s_0.Rejects.length), (1, .fn (.func 49) [] [.ptr 0 0]), (7, .int .i64 (↑s_0.Rejects.length : Int)), (8, .int .i64 (↑(0 : Nat) : Int))] [{ c := (Tapi_Source.enc x_1), e := 66, ext := false, fz := 0, pl := true, o := false }]) :: (cs 17 ((.fcut 1 (.exit 0) [] [{ c := (Tapi_Source.enc x_1), e := 66, ext := false, fz := 0, pl := true, o := false }] [1] [(0, .lst (fl Tapi_Reject.enc s_0.Result.Rejects) s_0.Result.Rejects.length), (1, .fn (.func 49) [] [.ptr 0 0]), (7, .int .i64 (↑s_0.Result.Rejects.length : Int)), (8, .int .i64 (↑(0 : Nat) : Int))] [{ c := (Tapi_Source.enc x_1), e := 66, ext := false, fz := 0, pl := true, o := false }]) :: (cs 5 []))))))) [] (ps := [((.ptr 0 0 : AV) = .ptr 0 0), ((.ptr 1 0 : AV) = .ptr 1 0), ((.lst (fl Tapi_Seen.enc s_0.Seen) s_0.Seen.length : AV) = .lst (fl Tapi_Seen.enc s_0.Seen) s_0.Seen.length), ((.int .i64 (↑s_0.Seen.length : Int) : AV) = .int .i64 (↑s_0.Seen.length : Int)), ((.int .i64 0 : AV) = .int .i64 (↑(0 : Nat) : Int)), (({ c := (Tapi_State.enc s_0), e := 64, ext := false, fz := 0, pl := true, o := false } : Blk) = renB [0, 1] { c := (Tapi_State.enc s_0), e := 64, ext := false, fz := 0, pl := true, o := false }), (({ c := (Tapi_Source.enc x_1), e := 66, ext := false, fz := 0, pl := true, o := false } : Blk) = renB [0, 1] { c := (Tapi_Source.enc x_1), e := 66, ext := false, fz := 0, pl := true, o := false }), (Does Tryd.prog GT 2 (.loop (bodyAt Tryd.prog 20 [1, 0, 1, 0, 0])) (S 32 [(2, .ptr 0 0), (3, .ptr 1 0), (9, .lst (fl Tapi_Seen.enc s_0.Seen) s_0.Seen.length), (10, .int .i64 (↑s_0.Seen.length : Int)), (11, .int .i64 (↑(0 : Nat) : Int))] [{ c := (Tapi_State.enc s_0), e := 64, ext := false, fz := 0, pl := true, o := false }, { c := (Tapi_Source.enc x_1), e := 66, ext := false, fz := 0, pl := true, o := false }]) (.exit 0) (S 32 [(2, .ptr 0 0), (3, .ptr 1 0)] [{ c := (Tapi_State.enc s_0), e := 64, ext := false, fz := 0, pl := true, o := false }, { c := (Tapi_Source.enc x_1), e := 66, ext := false, fz := 0, pl := true, o := false }])), ((.lst (fl Tapi_Reject.enc s_0.Rejects) s_0.Rejects.length : AV) = .lst (fl Tapi_Reject.enc s_0.Rejects) s_0.Rejects.length), ((.fn (.func 49) [] [.ptr 1 0] : AV) = .fn (.func 49) [] [.ptr 1 0]), ((.int .i64 (↑s_0.Rejects.length : Int) : AV) = .int .i64 (↑s_0.Rejects.length : Int)), ((.int .i64 0 : AV) = .int .i64 (↑(0 : Nat) : Int)), (({ c := (Tapi_Source.enc x_1), e := 66, ext := false, fz := 0, pl := true, o := false } : Blk) = renB [1] { c := (Tapi_Source.enc x_1), e := 66, ext := false, fz := 0, pl := true, o := false }), (Does Tryd.prog GT 1 (.loop (bodyAt Tryd.prog 67 [1, 0, 1, 0, 0])) (S 19 [(0, .lst (fl Tapi_Reject.enc s_0.Rejects) s_0.Rejects.length), (1, .fn (.func 49) [] [.ptr 0 0]), (7, .int .i64 (↑s_0.Rejects.length : Int)), (8, .int .i64 (↑(0 : Nat) : Int))] [{ c := (Tapi_Source.enc x_1), e := 66, ext := false, fz := 0, pl := true, o := false }]) (.exit 0) (S 19 [] [{ c := (Tapi_Source.enc x_1), e := 66, ext := false, fz := 0, pl := true, o := false }])), ((.lst (fl Tapi_Reject.enc s_0.Result.Rejects) s_0.Result.Rejects.length : AV) = .lst (fl Tapi_Reject.enc s_0.Result.Rejects) s_0.Result.Rejects.length), ((.fn (.func 49) [] [.ptr 1 0] : AV) = .fn (.func 49) [] [.ptr 1 0]), ((.int .i64 (↑s_0.Result.Rejects.length : Int) : AV) = .int .i64 (↑s_0.Result.Rejects.length : Int)), ((.int .i64 0 : AV) = .int .i64 (↑(0 : Nat) : Int)), (({ c := (Tapi_Source.enc x_1), e := 66, ext := false, fz := 0, pl := true, o := false } : Blk) = renB [1] { c := (Tapi_Source.enc x_1), e := 66, ext := false, fz := 0, pl := true, o := false }), (Does Tryd.prog GT 1 (.loop (bodyAt Tryd.prog 67 [1, 0, 1, 0, 0])) (S 19 [(0, .lst (fl Tapi_Reject.enc s_0.Result.Rejects) s_0.Result.Rejects.length), (1, .fn (.func 49) [] [.ptr 0 0]), (7, .int .i64 (↑s_0.Result.Rejects.length : Int)), (8, .int .i64 (↑(0 : Nat) : Int))] [{ c := (Tapi_Source.enc x_1), e := 66, ext := false, fz := 0, pl := true, o := false }]) (.exit 0) (S 19 [] [{ c := (Tapi_Source.enc x_1), e := 66, ext := false, fz := 0, pl := true, o := false }]))]) (by kernel_rfl) (by kernel_rfl) ⟨rfl, rfl, rfl, rfl, rfl, rfl, rfl, (trace_known_L1_does s_0 x_1 hl1), rfl, rfl, rfl, rfl, rfl, (trace_known_L16_does s_0 x_1 hl16), rfl, rfl, rfl, rfl, rfl, ok1 (trace_known_L32_does s_0 x_1 hl47)⟩
theorem trace_known_ret (s_0 : Tapi_State) (x_1 : Tapi_Source) (r : Bool) (h : trace_known s_0 x_1 = some r) : Ret Tryd.prog GT 20 [.agg (Tapi_State.enc s_0), .agg (Tapi_Source.enc x_1)] (.bool r) [] := by
  unfold trace_known at h
  obtain ⟨qq, hl1, h⟩ := bind_some h
  rcases qq with o1 | o1
  · dsimp only at h
    simp only [Option.some.injEq] at h
    subst h
    exact trace_known_0 s_0 x_1 o1 hl1
  · dsimp only at h
    obtain ⟨qq, hl16, h⟩ := bind_some h
    rcases qq with o16 | o16
    · dsimp only at h
      rcases ite_some h with ⟨c31, h⟩ | ⟨c31, h⟩
      · simp only [Option.some.injEq] at h
        subst h
        exact trace_known_1 s_0 x_1 o1 hl1 o16 hl16 c31
      · obtain ⟨qq, hl32, h⟩ := bind_some h
        rcases qq with o32 | o32
        · dsimp only at h
          simp only [Option.some.injEq] at h
          subst h
          exact trace_known_2 s_0 x_1 o1 hl1 o16 hl16 c31 o32 hl32
        · dsimp only at h
          simp only [Option.some.injEq] at h
          subst h
          exact trace_known_3 s_0 x_1 o1 hl1 o16 hl16 c31 o32 hl32
    · dsimp only at h
      obtain ⟨qq, hl47, h⟩ := bind_some h
      rcases qq with o47 | o47
      · dsimp only at h
        simp only [Option.some.injEq] at h
        subst h
        exact trace_known_4 s_0 x_1 o1 hl1 o16 hl16 o47 hl47
      · dsimp only at h
        simp only [Option.some.injEq] at h
        subst h
        exact trace_known_5 s_0 x_1 o1 hl1 o16 hl16 o47 hl47
noncomputable def trace_charged_L1_step (r_0 : Tapi_Result) (key_1 : (List UInt8)) : Nat → Option (Nat ⊕ (Int ⊕ Unit)) := fun k8 =>
  if (↑k8 : Int) < (↑r_0.Charges.length : Int) then
    (r_0.Charges[k8]?).bind fun x8 =>
    if x8.Key = key_1 then
      some (Sum.inr (Sum.inl (↑k8 : Int)))
    else
      if InR .i64 ((↑k8 : Int) + 1) then
        some (Sum.inl (k8 + 1))
      else none
  else
    some (Sum.inr (Sum.inr (())))
def trace_charged_L1_H (r_0 : Tapi_Result) (key_1 : (List UInt8)) : Nat → St := fun (s : Nat) => S 19 [(0, .lst (fl Tapi_Charge.enc r_0.Charges) r_0.Charges.length), (1, .fn (.func 59) [] [.ptr 0 0]), (7, .int .i64 (↑r_0.Charges.length : Int)), (8, .int .i64 (↑s : Int))] [{ c := [.str key_1], e := 9, ext := false, fz := 0, pl := true, o := false }]
theorem trace_charged_L1_0 (r_0 : Tapi_Result) (key_1 : (List UInt8)) (k8 : Nat) (c7 : (↑k8 : Int) < (↑r_0.Charges.length : Int)) (x8 : Tapi_Charge) (h9 : r_0.Charges[k8]? = some x8) (c10 : x8.Key = key_1) : Does Tryd.prog GT 1 (bodyAt Tryd.prog 58 [1, 0, 1, 0, 0]) (trace_charged_L1_H r_0 key_1 k8) .ret (S 19 [(4, .int .i64 (↑k8 : Int))] [{ c := [.str key_1], e := 9, ext := false, fz := 0, pl := true, o := false }]) :=
  Does.of_viewM 1 400 ((.op none .a) :: (.br true) :: (cs 5 ((.op none (.i k8)) :: (.op none (.v [.str x8.Key, .str x8.Vehicle, .str x8.System, .int .i64 x8.Class, .int .i64 x8.Time, .lst (fl Tapi_Line.enc x8.Lines) x8.Lines.length, .int .i64 x8.Cents])) :: (cs 6 ((.op none .a) :: (.op none .c) :: (.br true) :: (cs 2 [])))))) [0] (ps := [((decide ((↑k8 : Int) < (↑r_0.Charges.length : Int))) = true), ((↑k8 : Int) = ((k8 : Nat) : Int) ∧ k8 < r_0.Charges.length), ((fl Tapi_Charge.enc r_0.Charges) ≠ []), (sub (fl Tapi_Charge.enc r_0.Charges) (k8 * 7) 7 = [.str x8.Key, .str x8.Vehicle, .str x8.System, .int .i64 x8.Class, .int .i64 x8.Time, .lst (fl Tapi_Line.enc x8.Lines) x8.Lines.length, .int .i64 x8.Cents]), ((x8.Key == key_1) = true)]) (by kernel_rfl) (by kernel_rfl) ⟨(decide_eq_true c7), ⟨rfl, get_lt h9⟩, (fl_ne (f := Tapi_Charge.enc) (z := 6) (fun _ => rfl) h9), (fl_sub0 (f := Tapi_Charge.enc) (z := 7) (j := k8) (fun _ => rfl) h9 rfl), ok1 (beq_t c10)⟩
theorem trace_charged_L1_1 (r_0 : Tapi_Result) (key_1 : (List UInt8)) (k8 : Nat) (c7 : (↑k8 : Int) < (↑r_0.Charges.length : Int)) (x8 : Tapi_Charge) (h9 : r_0.Charges[k8]? = some x8) (c10 : ¬ (x8.Key = key_1)) (h11 : InR .i64 ((↑k8 : Int) + 1)) : Does Tryd.prog GT 1 (bodyAt Tryd.prog 58 [1, 0, 1, 0, 0]) (trace_charged_L1_H r_0 key_1 k8) .normal (S 19 [(0, .lst (fl Tapi_Charge.enc r_0.Charges) r_0.Charges.length), (1, .fn (.func 59) [] [.ptr 0 0]), (7, .int .i64 (↑r_0.Charges.length : Int)), (8, .int .i64 ((↑k8 : Int) + 1))] [{ c := [.str key_1], e := 9, ext := false, fz := 0, pl := true, o := false }]) :=
  Does.of_viewM 1 400 ((.op none .a) :: (.br true) :: (cs 5 ((.op none (.i k8)) :: (.op none (.v [.str x8.Key, .str x8.Vehicle, .str x8.System, .int .i64 x8.Class, .int .i64 x8.Time, .lst (fl Tapi_Line.enc x8.Lines) x8.Lines.length, .int .i64 x8.Cents])) :: (cs 6 [.op none .a, .op none .c, .br false, .op none .w, .op none .c])))) [0] (ps := [((decide ((↑k8 : Int) < (↑r_0.Charges.length : Int))) = true), ((↑k8 : Int) = ((k8 : Nat) : Int) ∧ k8 < r_0.Charges.length), ((fl Tapi_Charge.enc r_0.Charges) ≠ []), (sub (fl Tapi_Charge.enc r_0.Charges) (k8 * 7) 7 = [.str x8.Key, .str x8.Vehicle, .str x8.System, .int .i64 x8.Class, .int .i64 x8.Time, .lst (fl Tapi_Line.enc x8.Lines) x8.Lines.length, .int .i64 x8.Cents]), ((x8.Key == key_1) = false), (IntKind.min .i64 ≤ ((↑k8 : Int) + 1) ∧ ((↑k8 : Int) + 1) ≤ IntKind.max .i64)]) (by kernel_rfl) (by kernel_rfl) ⟨(decide_eq_true c7), ⟨rfl, get_lt h9⟩, (fl_ne (f := Tapi_Charge.enc) (z := 6) (fun _ => rfl) h9), (fl_sub0 (f := Tapi_Charge.enc) (z := 7) (j := k8) (fun _ => rfl) h9 rfl), (beq_f c10), ok1 h11⟩
theorem trace_charged_L1_2 (r_0 : Tapi_Result) (key_1 : (List UInt8)) (k8 : Nat) (c7 : ¬ ((↑k8 : Int) < (↑r_0.Charges.length : Int))) : Does Tryd.prog GT 1 (bodyAt Tryd.prog 58 [1, 0, 1, 0, 0]) (trace_charged_L1_H r_0 key_1 k8) (.exit 0) (S 19 [] [{ c := [.str key_1], e := 9, ext := false, fz := 0, pl := true, o := false }]) :=
  Does.of_viewM 1 400 [.op none .a, .br false] [0] (ps := [((decide ((↑k8 : Int) < (↑r_0.Charges.length : Int))) = false)]) (by kernel_rfl) (by kernel_rfl) (ok1 (decide_eq_false c7))
def trace_charged_L1_X (r_0 : Tapi_Result) (key_1 : (List UInt8)) : (Int ⊕ Unit) → AEx := fun q => match q with | Sum.inl o => .ret | Sum.inr (o) => (.exit 0)
def trace_charged_L1_E (r_0 : Tapi_Result) (key_1 : (List UInt8)) : (Int ⊕ Unit) → St := fun q => match q with | Sum.inl o => S 19 [(4, .int .i64 o)] [{ c := [.str key_1], e := 9, ext := false, fz := 0, pl := true, o := false }] | Sum.inr (o) => S 19 [] [{ c := [.str key_1], e := 9, ext := false, fz := 0, pl := true, o := false }]
theorem trace_charged_L1_does (r_0 : Tapi_Result) (key_1 : (List UInt8)) {s : Nat} {r : Int ⊕ Unit} (h : lp (trace_charged_L1_step r_0 key_1) s = some r) : Does Tryd.prog GT 1 (.loop (bodyAt Tryd.prog 58 [1, 0, 1, 0, 0])) (trace_charged_L1_H r_0 key_1 s) (trace_charged_L1_X r_0 key_1 r) (trace_charged_L1_E r_0 key_1 r) := by
  refine Does.lp (H := trace_charged_L1_H r_0 key_1) (X := trace_charged_L1_X r_0 key_1) (E := trace_charged_L1_E r_0 key_1) (fun s s2 h => ?_) (fun s r h => ?_) h
  · revert h; revert s; intro k8 h
    unfold trace_charged_L1_step at h
    try dsimp only at h
    rcases ite_some h with ⟨c7, h⟩ | ⟨c7, h⟩
    · obtain ⟨x8, h9, h⟩ := bind_some h
      rcases ite_some h with ⟨c10, h⟩ | ⟨c10, h⟩
      · simp at h
      · obtain ⟨h11, h⟩ := guard_some h
        simp only [Option.some.injEq, Sum.inl.injEq] at h
        subst h
        have hq := trace_charged_L1_1 r_0 key_1 k8 c7 x8 h9 c10 h11
        first | exact hq | exact Eq.mp (by simp only [trace_charged_L1_H, List.length_set] <;> rfl) hq
    · simp at h
  · revert h; revert s; intro k8 h
    unfold trace_charged_L1_step at h
    try dsimp only at h
    rcases ite_some h with ⟨c7, h⟩ | ⟨c7, h⟩
    · obtain ⟨x8, h9, h⟩ := bind_some h
      rcases ite_some h with ⟨c10, h⟩ | ⟨c10, h⟩
      · simp only [Option.some.injEq, Sum.inr.injEq] at h
        subst h
        exact ⟨trace_charged_L1_0 r_0 key_1 k8 c7 x8 h9 c10, by intro q; cases q⟩
      · obtain ⟨h11, h⟩ := guard_some h
        simp at h
    · simp only [Option.some.injEq, Sum.inr.injEq] at h
      subst h
      exact ⟨trace_charged_L1_2 r_0 key_1 k8 c7, by intro q; cases q⟩
noncomputable def trace_charged (r_0 : Tapi_Result) (key_1 : (List UInt8)) : Option (Tapi_Charge × Bool) :=
  (lp (trace_charged_L1_step r_0 key_1) (0 : Nat)).bind fun qq => match qq with
  | Sum.inl o1 =>
    if o1 < (0 : Int) then
      some ((⟨([] : List UInt8), ([] : List UInt8), ([] : List UInt8), 0, 0, [], 0⟩ : Tapi_Charge), false)
    else
      if (0 : Int) ≤ o1 then
        (r_0.Charges[(Int.toNat o1)]?).bind fun x14 =>
        some (x14, true)
      else none
  | Sum.inr (o1) =>
    some ((⟨([] : List UInt8), ([] : List UInt8), ([] : List UInt8), 0, 0, [], 0⟩ : Tapi_Charge), false)
theorem trace_charged_0 (r_0 : Tapi_Result) (key_1 : (List UInt8)) (o1 : Int) (hl1 : lp (trace_charged_L1_step r_0 key_1) (0 : Nat) = some (Sum.inl o1)) (c12 : o1 < (0 : Int)) : Ret Tryd.prog GT 29 [.agg (Tapi_Result.enc r_0), .str key_1] (.tup [.agg [.str [], .str [], .str [], .int .i64 0, .int .i64 0, .nils, .int .i64 0], .bool false]) [] :=
  Ret.of_view 400 (cs 12 ((.fcut 1 .ret [(4, .int .i64 o1)] [{ c := [.str key_1], e := 9, ext := false, fz := 0, pl := true, o := false }] [1] [(0, .lst (fl Tapi_Charge.enc r_0.Charges) r_0.Charges.length), (1, .fn (.func 59) [] [.ptr 0 0]), (7, .int .i64 (↑r_0.Charges.length : Int)), (8, .int .i64 (↑(0 : Nat) : Int))] [{ c := [.str key_1], e := 9, ext := false, fz := 0, pl := true, o := false }]) :: (cs 2 ((.op none .a) :: (.br true) :: (cs 3 []))))) [] (ps := [((.lst (fl Tapi_Charge.enc r_0.Charges) r_0.Charges.length : AV) = .lst (fl Tapi_Charge.enc r_0.Charges) r_0.Charges.length), ((.fn (.func 59) [] [.ptr 1 0] : AV) = .fn (.func 59) [] [.ptr 1 0]), ((.int .i64 (↑r_0.Charges.length : Int) : AV) = .int .i64 (↑r_0.Charges.length : Int)), ((.int .i64 0 : AV) = .int .i64 (↑(0 : Nat) : Int)), (({ c := [.str key_1], e := 9, ext := false, fz := 0, pl := true, o := false } : Blk) = renB [1] { c := [.str key_1], e := 9, ext := false, fz := 0, pl := true, o := false }), (Does Tryd.prog GT 1 (.loop (bodyAt Tryd.prog 58 [1, 0, 1, 0, 0])) (S 19 [(0, .lst (fl Tapi_Charge.enc r_0.Charges) r_0.Charges.length), (1, .fn (.func 59) [] [.ptr 0 0]), (7, .int .i64 (↑r_0.Charges.length : Int)), (8, .int .i64 (↑(0 : Nat) : Int))] [{ c := [.str key_1], e := 9, ext := false, fz := 0, pl := true, o := false }]) .ret (S 19 [(4, .int .i64 o1)] [{ c := [.str key_1], e := 9, ext := false, fz := 0, pl := true, o := false }])), ((decide (o1 < (0 : Int))) = true)]) (by kernel_rfl) (by kernel_rfl) ⟨rfl, rfl, rfl, rfl, rfl, (trace_charged_L1_does r_0 key_1 hl1), ok1 (decide_eq_true c12)⟩
theorem trace_charged_1 (r_0 : Tapi_Result) (key_1 : (List UInt8)) (o1 : Int) (hl1 : lp (trace_charged_L1_step r_0 key_1) (0 : Nat) = some (Sum.inl o1)) (c12 : ¬ (o1 < (0 : Int))) (h13 : (0 : Int) ≤ o1) (x14 : Tapi_Charge) (h15 : r_0.Charges[(Int.toNat o1)]? = some x14) : Ret Tryd.prog GT 29 [.agg (Tapi_Result.enc r_0), .str key_1] (.tup [.agg (Tapi_Charge.enc x14), .bool true]) [] :=
  Ret.of_view 400 (cs 12 ((.fcut 1 .ret [(4, .int .i64 o1)] [{ c := [.str key_1], e := 9, ext := false, fz := 0, pl := true, o := false }] [1] [(0, .lst (fl Tapi_Charge.enc r_0.Charges) r_0.Charges.length), (1, .fn (.func 59) [] [.ptr 0 0]), (7, .int .i64 (↑r_0.Charges.length : Int)), (8, .int .i64 (↑(0 : Nat) : Int))] [{ c := [.str key_1], e := 9, ext := false, fz := 0, pl := true, o := false }]) :: (cs 2 ((.op none .a) :: (.br false) :: (cs 3 ((.op none (.i (Int.toNat o1))) :: (.op none (.v [.str x14.Key, .str x14.Vehicle, .str x14.System, .int .i64 x14.Class, .int .i64 x14.Time, .lst (fl Tapi_Line.enc x14.Lines) x14.Lines.length, .int .i64 x14.Cents])) :: (cs 2 []))))))) [] (ps := [((.lst (fl Tapi_Charge.enc r_0.Charges) r_0.Charges.length : AV) = .lst (fl Tapi_Charge.enc r_0.Charges) r_0.Charges.length), ((.fn (.func 59) [] [.ptr 1 0] : AV) = .fn (.func 59) [] [.ptr 1 0]), ((.int .i64 (↑r_0.Charges.length : Int) : AV) = .int .i64 (↑r_0.Charges.length : Int)), ((.int .i64 0 : AV) = .int .i64 (↑(0 : Nat) : Int)), (({ c := [.str key_1], e := 9, ext := false, fz := 0, pl := true, o := false } : Blk) = renB [1] { c := [.str key_1], e := 9, ext := false, fz := 0, pl := true, o := false }), (Does Tryd.prog GT 1 (.loop (bodyAt Tryd.prog 58 [1, 0, 1, 0, 0])) (S 19 [(0, .lst (fl Tapi_Charge.enc r_0.Charges) r_0.Charges.length), (1, .fn (.func 59) [] [.ptr 0 0]), (7, .int .i64 (↑r_0.Charges.length : Int)), (8, .int .i64 (↑(0 : Nat) : Int))] [{ c := [.str key_1], e := 9, ext := false, fz := 0, pl := true, o := false }]) .ret (S 19 [(4, .int .i64 o1)] [{ c := [.str key_1], e := 9, ext := false, fz := 0, pl := true, o := false }])), ((decide (o1 < (0 : Int))) = false), (o1 = (((Int.toNat o1) : Nat) : Int) ∧ (Int.toNat o1) < r_0.Charges.length), ((fl Tapi_Charge.enc r_0.Charges) ≠ []), (sub (fl Tapi_Charge.enc r_0.Charges) ((Int.toNat o1) * 7) 7 = [.str x14.Key, .str x14.Vehicle, .str x14.System, .int .i64 x14.Class, .int .i64 x14.Time, .lst (fl Tapi_Line.enc x14.Lines) x14.Lines.length, .int .i64 x14.Cents])]) (by kernel_rfl) (by kernel_rfl) ⟨rfl, rfl, rfl, rfl, rfl, (trace_charged_L1_does r_0 key_1 hl1), (decide_eq_false c12), ⟨(Int.toNat_of_nonneg h13).symm, get_lt h15⟩, (fl_ne (f := Tapi_Charge.enc) (z := 6) (fun _ => rfl) h15), ok1 (fl_sub0 (f := Tapi_Charge.enc) (z := 7) (j := (Int.toNat o1)) (fun _ => rfl) h15 rfl)⟩
theorem trace_charged_2 (r_0 : Tapi_Result) (key_1 : (List UInt8)) (o1 : Unit) (hl1 : lp (trace_charged_L1_step r_0 key_1) (0 : Nat) = some (Sum.inr (o1))) : Ret Tryd.prog GT 29 [.agg (Tapi_Result.enc r_0), .str key_1] (.tup [.agg [.str [], .str [], .str [], .int .i64 0, .int .i64 0, .nils, .int .i64 0], .bool false]) [] :=
  Ret.of_view 400 (cs 12 ((.fcut 1 (.exit 0) [] [{ c := [.str key_1], e := 9, ext := false, fz := 0, pl := true, o := false }] [1] [(0, .lst (fl Tapi_Charge.enc r_0.Charges) r_0.Charges.length), (1, .fn (.func 59) [] [.ptr 0 0]), (7, .int .i64 (↑r_0.Charges.length : Int)), (8, .int .i64 (↑(0 : Nat) : Int))] [{ c := [.str key_1], e := 9, ext := false, fz := 0, pl := true, o := false }]) :: (cs 4 ((.br true) :: (cs 3 []))))) [] (ps := [((.lst (fl Tapi_Charge.enc r_0.Charges) r_0.Charges.length : AV) = .lst (fl Tapi_Charge.enc r_0.Charges) r_0.Charges.length), ((.fn (.func 59) [] [.ptr 1 0] : AV) = .fn (.func 59) [] [.ptr 1 0]), ((.int .i64 (↑r_0.Charges.length : Int) : AV) = .int .i64 (↑r_0.Charges.length : Int)), ((.int .i64 0 : AV) = .int .i64 (↑(0 : Nat) : Int)), (({ c := [.str key_1], e := 9, ext := false, fz := 0, pl := true, o := false } : Blk) = renB [1] { c := [.str key_1], e := 9, ext := false, fz := 0, pl := true, o := false }), (Does Tryd.prog GT 1 (.loop (bodyAt Tryd.prog 58 [1, 0, 1, 0, 0])) (S 19 [(0, .lst (fl Tapi_Charge.enc r_0.Charges) r_0.Charges.length), (1, .fn (.func 59) [] [.ptr 0 0]), (7, .int .i64 (↑r_0.Charges.length : Int)), (8, .int .i64 (↑(0 : Nat) : Int))] [{ c := [.str key_1], e := 9, ext := false, fz := 0, pl := true, o := false }]) (.exit 0) (S 19 [] [{ c := [.str key_1], e := 9, ext := false, fz := 0, pl := true, o := false }])), (true = true)]) (by kernel_rfl) (by kernel_rfl) ⟨rfl, rfl, rfl, rfl, rfl, (trace_charged_L1_does r_0 key_1 hl1), ok1 rfl⟩
theorem trace_charged_ret (r_0 : Tapi_Result) (key_1 : (List UInt8)) (r : (Tapi_Charge × Bool)) (h : trace_charged r_0 key_1 = some r) : Ret Tryd.prog GT 29 [.agg (Tapi_Result.enc r_0), .str key_1] (.tup [.agg (Tapi_Charge.enc r.1), .bool r.2]) [] := by
  unfold trace_charged at h
  obtain ⟨qq, hl1, h⟩ := bind_some h
  rcases qq with o1 | o1
  · dsimp only at h
    rcases ite_some h with ⟨c12, h⟩ | ⟨c12, h⟩
    · simp only [Option.some.injEq] at h
      subst h
      exact Ret.nl 4 (trace_charged_0 r_0 key_1 o1 hl1 c12) rfl
    · obtain ⟨h13, h⟩ := guard_some h
      obtain ⟨x14, h15, h⟩ := bind_some h
      simp only [Option.some.injEq] at h
      subst h
      exact trace_charged_1 r_0 key_1 o1 hl1 c12 h13 x14 h15
  · dsimp only at h
    simp only [Option.some.injEq] at h
    subst h
    exact Ret.nl 4 (trace_charged_2 r_0 key_1 o1 hl1) rfl
noncomputable def trace_passed_L1_step (r_0 : Tapi_Result) (id_1 : (List UInt8)) : Nat → Option (Nat ⊕ (Int ⊕ Unit)) := fun k8 =>
  if (↑k8 : Int) < (↑r_0.Passages.length : Int) then
    (r_0.Passages[k8]?).bind fun x8 =>
    if x8.ID = id_1 then
      some (Sum.inr (Sum.inl (↑k8 : Int)))
    else
      if InR .i64 ((↑k8 : Int) + 1) then
        some (Sum.inl (k8 + 1))
      else none
  else
    some (Sum.inr (Sum.inr (())))
def trace_passed_L1_H (r_0 : Tapi_Result) (id_1 : (List UInt8)) : Nat → St := fun (s : Nat) => S 19 [(0, .lst (fl Tapi_Passage.enc r_0.Passages) r_0.Passages.length), (1, .fn (.func 61) [] [.ptr 0 0]), (7, .int .i64 (↑r_0.Passages.length : Int)), (8, .int .i64 (↑s : Int))] [{ c := [.str id_1], e := 9, ext := false, fz := 0, pl := true, o := false }]
theorem trace_passed_L1_0 (r_0 : Tapi_Result) (id_1 : (List UInt8)) (k8 : Nat) (c7 : (↑k8 : Int) < (↑r_0.Passages.length : Int)) (x8 : Tapi_Passage) (h9 : r_0.Passages[k8]? = some x8) (c10 : x8.ID = id_1) : Does Tryd.prog GT 1 (bodyAt Tryd.prog 60 [1, 0, 1, 0, 0]) (trace_passed_L1_H r_0 id_1 k8) .ret (S 19 [(4, .int .i64 (↑k8 : Int))] [{ c := [.str id_1], e := 9, ext := false, fz := 0, pl := true, o := false }]) :=
  Does.of_viewM 1 400 ((.op none .a) :: (.br true) :: (cs 5 ((.op none (.i k8)) :: (.op none (.v [.str x8.ID, .str x8.Point, .int .i64 x8.Time, .str x8.Tag, .str x8.Plate, .int .i64 x8.Class, .int .i64 x8.Score, .lst (fl Tapi_Source.enc x8.Sources) x8.Sources.length])) :: (cs 6 ((.op none .a) :: (.op none .c) :: (.br true) :: (cs 2 [])))))) [0] (ps := [((decide ((↑k8 : Int) < (↑r_0.Passages.length : Int))) = true), ((↑k8 : Int) = ((k8 : Nat) : Int) ∧ k8 < r_0.Passages.length), ((fl Tapi_Passage.enc r_0.Passages) ≠ []), (sub (fl Tapi_Passage.enc r_0.Passages) (k8 * 8) 8 = [.str x8.ID, .str x8.Point, .int .i64 x8.Time, .str x8.Tag, .str x8.Plate, .int .i64 x8.Class, .int .i64 x8.Score, .lst (fl Tapi_Source.enc x8.Sources) x8.Sources.length]), ((x8.ID == id_1) = true)]) (by kernel_rfl) (by kernel_rfl) ⟨(decide_eq_true c7), ⟨rfl, get_lt h9⟩, (fl_ne (f := Tapi_Passage.enc) (z := 7) (fun _ => rfl) h9), (fl_sub0 (f := Tapi_Passage.enc) (z := 8) (j := k8) (fun _ => rfl) h9 rfl), ok1 (beq_t c10)⟩
theorem trace_passed_L1_1 (r_0 : Tapi_Result) (id_1 : (List UInt8)) (k8 : Nat) (c7 : (↑k8 : Int) < (↑r_0.Passages.length : Int)) (x8 : Tapi_Passage) (h9 : r_0.Passages[k8]? = some x8) (c10 : ¬ (x8.ID = id_1)) (h11 : InR .i64 ((↑k8 : Int) + 1)) : Does Tryd.prog GT 1 (bodyAt Tryd.prog 60 [1, 0, 1, 0, 0]) (trace_passed_L1_H r_0 id_1 k8) .normal (S 19 [(0, .lst (fl Tapi_Passage.enc r_0.Passages) r_0.Passages.length), (1, .fn (.func 61) [] [.ptr 0 0]), (7, .int .i64 (↑r_0.Passages.length : Int)), (8, .int .i64 ((↑k8 : Int) + 1))] [{ c := [.str id_1], e := 9, ext := false, fz := 0, pl := true, o := false }]) :=
  Does.of_viewM 1 400 ((.op none .a) :: (.br true) :: (cs 5 ((.op none (.i k8)) :: (.op none (.v [.str x8.ID, .str x8.Point, .int .i64 x8.Time, .str x8.Tag, .str x8.Plate, .int .i64 x8.Class, .int .i64 x8.Score, .lst (fl Tapi_Source.enc x8.Sources) x8.Sources.length])) :: (cs 6 [.op none .a, .op none .c, .br false, .op none .w, .op none .c])))) [0] (ps := [((decide ((↑k8 : Int) < (↑r_0.Passages.length : Int))) = true), ((↑k8 : Int) = ((k8 : Nat) : Int) ∧ k8 < r_0.Passages.length), ((fl Tapi_Passage.enc r_0.Passages) ≠ []), (sub (fl Tapi_Passage.enc r_0.Passages) (k8 * 8) 8 = [.str x8.ID, .str x8.Point, .int .i64 x8.Time, .str x8.Tag, .str x8.Plate, .int .i64 x8.Class, .int .i64 x8.Score, .lst (fl Tapi_Source.enc x8.Sources) x8.Sources.length]), ((x8.ID == id_1) = false), (IntKind.min .i64 ≤ ((↑k8 : Int) + 1) ∧ ((↑k8 : Int) + 1) ≤ IntKind.max .i64)]) (by kernel_rfl) (by kernel_rfl) ⟨(decide_eq_true c7), ⟨rfl, get_lt h9⟩, (fl_ne (f := Tapi_Passage.enc) (z := 7) (fun _ => rfl) h9), (fl_sub0 (f := Tapi_Passage.enc) (z := 8) (j := k8) (fun _ => rfl) h9 rfl), (beq_f c10), ok1 h11⟩
theorem trace_passed_L1_2 (r_0 : Tapi_Result) (id_1 : (List UInt8)) (k8 : Nat) (c7 : ¬ ((↑k8 : Int) < (↑r_0.Passages.length : Int))) : Does Tryd.prog GT 1 (bodyAt Tryd.prog 60 [1, 0, 1, 0, 0]) (trace_passed_L1_H r_0 id_1 k8) (.exit 0) (S 19 [] [{ c := [.str id_1], e := 9, ext := false, fz := 0, pl := true, o := false }]) :=
  Does.of_viewM 1 400 [.op none .a, .br false] [0] (ps := [((decide ((↑k8 : Int) < (↑r_0.Passages.length : Int))) = false)]) (by kernel_rfl) (by kernel_rfl) (ok1 (decide_eq_false c7))
def trace_passed_L1_X (r_0 : Tapi_Result) (id_1 : (List UInt8)) : (Int ⊕ Unit) → AEx := fun q => match q with | Sum.inl o => .ret | Sum.inr (o) => (.exit 0)
def trace_passed_L1_E (r_0 : Tapi_Result) (id_1 : (List UInt8)) : (Int ⊕ Unit) → St := fun q => match q with | Sum.inl o => S 19 [(4, .int .i64 o)] [{ c := [.str id_1], e := 9, ext := false, fz := 0, pl := true, o := false }] | Sum.inr (o) => S 19 [] [{ c := [.str id_1], e := 9, ext := false, fz := 0, pl := true, o := false }]
theorem trace_passed_L1_does (r_0 : Tapi_Result) (id_1 : (List UInt8)) {s : Nat} {r : Int ⊕ Unit} (h : lp (trace_passed_L1_step r_0 id_1) s = some r) : Does Tryd.prog GT 1 (.loop (bodyAt Tryd.prog 60 [1, 0, 1, 0, 0])) (trace_passed_L1_H r_0 id_1 s) (trace_passed_L1_X r_0 id_1 r) (trace_passed_L1_E r_0 id_1 r) := by
  refine Does.lp (H := trace_passed_L1_H r_0 id_1) (X := trace_passed_L1_X r_0 id_1) (E := trace_passed_L1_E r_0 id_1) (fun s s2 h => ?_) (fun s r h => ?_) h
  · revert h; revert s; intro k8 h
    unfold trace_passed_L1_step at h
    try dsimp only at h
    rcases ite_some h with ⟨c7, h⟩ | ⟨c7, h⟩
    · obtain ⟨x8, h9, h⟩ := bind_some h
      rcases ite_some h with ⟨c10, h⟩ | ⟨c10, h⟩
      · simp at h
      · obtain ⟨h11, h⟩ := guard_some h
        simp only [Option.some.injEq, Sum.inl.injEq] at h
        subst h
        have hq := trace_passed_L1_1 r_0 id_1 k8 c7 x8 h9 c10 h11
        first | exact hq | exact Eq.mp (by simp only [trace_passed_L1_H, List.length_set] <;> rfl) hq
    · simp at h
  · revert h; revert s; intro k8 h
    unfold trace_passed_L1_step at h
    try dsimp only at h
    rcases ite_some h with ⟨c7, h⟩ | ⟨c7, h⟩
    · obtain ⟨x8, h9, h⟩ := bind_some h
      rcases ite_some h with ⟨c10, h⟩ | ⟨c10, h⟩
      · simp only [Option.some.injEq, Sum.inr.injEq] at h
        subst h
        exact ⟨trace_passed_L1_0 r_0 id_1 k8 c7 x8 h9 c10, by intro q; cases q⟩
      · obtain ⟨h11, h⟩ := guard_some h
        simp at h
    · simp only [Option.some.injEq, Sum.inr.injEq] at h
      subst h
      exact ⟨trace_passed_L1_2 r_0 id_1 k8 c7, by intro q; cases q⟩
noncomputable def trace_passed (r_0 : Tapi_Result) (id_1 : (List UInt8)) : Option (Tapi_Passage × Bool) :=
  (lp (trace_passed_L1_step r_0 id_1) (0 : Nat)).bind fun qq => match qq with
  | Sum.inl o1 =>
    if o1 < (0 : Int) then
      some ((⟨([] : List UInt8), ([] : List UInt8), 0, ([] : List UInt8), ([] : List UInt8), 0, 0, []⟩ : Tapi_Passage), false)
    else
      if (0 : Int) ≤ o1 then
        (r_0.Passages[(Int.toNat o1)]?).bind fun x14 =>
        some (x14, true)
      else none
  | Sum.inr (o1) =>
    some ((⟨([] : List UInt8), ([] : List UInt8), 0, ([] : List UInt8), ([] : List UInt8), 0, 0, []⟩ : Tapi_Passage), false)
theorem trace_passed_0 (r_0 : Tapi_Result) (id_1 : (List UInt8)) (o1 : Int) (hl1 : lp (trace_passed_L1_step r_0 id_1) (0 : Nat) = some (Sum.inl o1)) (c12 : o1 < (0 : Int)) : Ret Tryd.prog GT 32 [.agg (Tapi_Result.enc r_0), .str id_1] (.tup [.agg [.str [], .str [], .int .i64 0, .str [], .str [], .int .i64 0, .int .i64 0, .nils], .bool false]) [] :=
  Ret.of_view 400 (cs 12 ((.fcut 1 .ret [(4, .int .i64 o1)] [{ c := [.str id_1], e := 9, ext := false, fz := 0, pl := true, o := false }] [1] [(0, .lst (fl Tapi_Passage.enc r_0.Passages) r_0.Passages.length), (1, .fn (.func 61) [] [.ptr 0 0]), (7, .int .i64 (↑r_0.Passages.length : Int)), (8, .int .i64 (↑(0 : Nat) : Int))] [{ c := [.str id_1], e := 9, ext := false, fz := 0, pl := true, o := false }]) :: (cs 2 ((.op none .a) :: (.br true) :: (cs 3 []))))) [] (ps := [((.lst (fl Tapi_Passage.enc r_0.Passages) r_0.Passages.length : AV) = .lst (fl Tapi_Passage.enc r_0.Passages) r_0.Passages.length), ((.fn (.func 61) [] [.ptr 1 0] : AV) = .fn (.func 61) [] [.ptr 1 0]), ((.int .i64 (↑r_0.Passages.length : Int) : AV) = .int .i64 (↑r_0.Passages.length : Int)), ((.int .i64 0 : AV) = .int .i64 (↑(0 : Nat) : Int)), (({ c := [.str id_1], e := 9, ext := false, fz := 0, pl := true, o := false } : Blk) = renB [1] { c := [.str id_1], e := 9, ext := false, fz := 0, pl := true, o := false }), (Does Tryd.prog GT 1 (.loop (bodyAt Tryd.prog 60 [1, 0, 1, 0, 0])) (S 19 [(0, .lst (fl Tapi_Passage.enc r_0.Passages) r_0.Passages.length), (1, .fn (.func 61) [] [.ptr 0 0]), (7, .int .i64 (↑r_0.Passages.length : Int)), (8, .int .i64 (↑(0 : Nat) : Int))] [{ c := [.str id_1], e := 9, ext := false, fz := 0, pl := true, o := false }]) .ret (S 19 [(4, .int .i64 o1)] [{ c := [.str id_1], e := 9, ext := false, fz := 0, pl := true, o := false }])), ((decide (o1 < (0 : Int))) = true)]) (by kernel_rfl) (by kernel_rfl) ⟨rfl, rfl, rfl, rfl, rfl, (trace_passed_L1_does r_0 id_1 hl1), ok1 (decide_eq_true c12)⟩
theorem trace_passed_1 (r_0 : Tapi_Result) (id_1 : (List UInt8)) (o1 : Int) (hl1 : lp (trace_passed_L1_step r_0 id_1) (0 : Nat) = some (Sum.inl o1)) (c12 : ¬ (o1 < (0 : Int))) (h13 : (0 : Int) ≤ o1) (x14 : Tapi_Passage) (h15 : r_0.Passages[(Int.toNat o1)]? = some x14) : Ret Tryd.prog GT 32 [.agg (Tapi_Result.enc r_0), .str id_1] (.tup [.agg (Tapi_Passage.enc x14), .bool true]) [] :=
  Ret.of_view 400 (cs 12 ((.fcut 1 .ret [(4, .int .i64 o1)] [{ c := [.str id_1], e := 9, ext := false, fz := 0, pl := true, o := false }] [1] [(0, .lst (fl Tapi_Passage.enc r_0.Passages) r_0.Passages.length), (1, .fn (.func 61) [] [.ptr 0 0]), (7, .int .i64 (↑r_0.Passages.length : Int)), (8, .int .i64 (↑(0 : Nat) : Int))] [{ c := [.str id_1], e := 9, ext := false, fz := 0, pl := true, o := false }]) :: (cs 2 ((.op none .a) :: (.br false) :: (cs 3 ((.op none (.i (Int.toNat o1))) :: (.op none (.v [.str x14.ID, .str x14.Point, .int .i64 x14.Time, .str x14.Tag, .str x14.Plate, .int .i64 x14.Class, .int .i64 x14.Score, .lst (fl Tapi_Source.enc x14.Sources) x14.Sources.length])) :: (cs 2 []))))))) [] (ps := [((.lst (fl Tapi_Passage.enc r_0.Passages) r_0.Passages.length : AV) = .lst (fl Tapi_Passage.enc r_0.Passages) r_0.Passages.length), ((.fn (.func 61) [] [.ptr 1 0] : AV) = .fn (.func 61) [] [.ptr 1 0]), ((.int .i64 (↑r_0.Passages.length : Int) : AV) = .int .i64 (↑r_0.Passages.length : Int)), ((.int .i64 0 : AV) = .int .i64 (↑(0 : Nat) : Int)), (({ c := [.str id_1], e := 9, ext := false, fz := 0, pl := true, o := false } : Blk) = renB [1] { c := [.str id_1], e := 9, ext := false, fz := 0, pl := true, o := false }), (Does Tryd.prog GT 1 (.loop (bodyAt Tryd.prog 60 [1, 0, 1, 0, 0])) (S 19 [(0, .lst (fl Tapi_Passage.enc r_0.Passages) r_0.Passages.length), (1, .fn (.func 61) [] [.ptr 0 0]), (7, .int .i64 (↑r_0.Passages.length : Int)), (8, .int .i64 (↑(0 : Nat) : Int))] [{ c := [.str id_1], e := 9, ext := false, fz := 0, pl := true, o := false }]) .ret (S 19 [(4, .int .i64 o1)] [{ c := [.str id_1], e := 9, ext := false, fz := 0, pl := true, o := false }])), ((decide (o1 < (0 : Int))) = false), (o1 = (((Int.toNat o1) : Nat) : Int) ∧ (Int.toNat o1) < r_0.Passages.length), ((fl Tapi_Passage.enc r_0.Passages) ≠ []), (sub (fl Tapi_Passage.enc r_0.Passages) ((Int.toNat o1) * 8) 8 = [.str x14.ID, .str x14.Point, .int .i64 x14.Time, .str x14.Tag, .str x14.Plate, .int .i64 x14.Class, .int .i64 x14.Score, .lst (fl Tapi_Source.enc x14.Sources) x14.Sources.length])]) (by kernel_rfl) (by kernel_rfl) ⟨rfl, rfl, rfl, rfl, rfl, (trace_passed_L1_does r_0 id_1 hl1), (decide_eq_false c12), ⟨(Int.toNat_of_nonneg h13).symm, get_lt h15⟩, (fl_ne (f := Tapi_Passage.enc) (z := 7) (fun _ => rfl) h15), ok1 (fl_sub0 (f := Tapi_Passage.enc) (z := 8) (j := (Int.toNat o1)) (fun _ => rfl) h15 rfl)⟩
theorem trace_passed_2 (r_0 : Tapi_Result) (id_1 : (List UInt8)) (o1 : Unit) (hl1 : lp (trace_passed_L1_step r_0 id_1) (0 : Nat) = some (Sum.inr (o1))) : Ret Tryd.prog GT 32 [.agg (Tapi_Result.enc r_0), .str id_1] (.tup [.agg [.str [], .str [], .int .i64 0, .str [], .str [], .int .i64 0, .int .i64 0, .nils], .bool false]) [] :=
  Ret.of_view 400 (cs 12 ((.fcut 1 (.exit 0) [] [{ c := [.str id_1], e := 9, ext := false, fz := 0, pl := true, o := false }] [1] [(0, .lst (fl Tapi_Passage.enc r_0.Passages) r_0.Passages.length), (1, .fn (.func 61) [] [.ptr 0 0]), (7, .int .i64 (↑r_0.Passages.length : Int)), (8, .int .i64 (↑(0 : Nat) : Int))] [{ c := [.str id_1], e := 9, ext := false, fz := 0, pl := true, o := false }]) :: (cs 4 ((.br true) :: (cs 3 []))))) [] (ps := [((.lst (fl Tapi_Passage.enc r_0.Passages) r_0.Passages.length : AV) = .lst (fl Tapi_Passage.enc r_0.Passages) r_0.Passages.length), ((.fn (.func 61) [] [.ptr 1 0] : AV) = .fn (.func 61) [] [.ptr 1 0]), ((.int .i64 (↑r_0.Passages.length : Int) : AV) = .int .i64 (↑r_0.Passages.length : Int)), ((.int .i64 0 : AV) = .int .i64 (↑(0 : Nat) : Int)), (({ c := [.str id_1], e := 9, ext := false, fz := 0, pl := true, o := false } : Blk) = renB [1] { c := [.str id_1], e := 9, ext := false, fz := 0, pl := true, o := false }), (Does Tryd.prog GT 1 (.loop (bodyAt Tryd.prog 60 [1, 0, 1, 0, 0])) (S 19 [(0, .lst (fl Tapi_Passage.enc r_0.Passages) r_0.Passages.length), (1, .fn (.func 61) [] [.ptr 0 0]), (7, .int .i64 (↑r_0.Passages.length : Int)), (8, .int .i64 (↑(0 : Nat) : Int))] [{ c := [.str id_1], e := 9, ext := false, fz := 0, pl := true, o := false }]) (.exit 0) (S 19 [] [{ c := [.str id_1], e := 9, ext := false, fz := 0, pl := true, o := false }])), (true = true)]) (by kernel_rfl) (by kernel_rfl) ⟨rfl, rfl, rfl, rfl, rfl, (trace_passed_L1_does r_0 id_1 hl1), ok1 rfl⟩
theorem trace_passed_ret (r_0 : Tapi_Result) (id_1 : (List UInt8)) (r : (Tapi_Passage × Bool)) (h : trace_passed r_0 id_1 = some r) : Ret Tryd.prog GT 32 [.agg (Tapi_Result.enc r_0), .str id_1] (.tup [.agg (Tapi_Passage.enc r.1), .bool r.2]) [] := by
  unfold trace_passed at h
  obtain ⟨qq, hl1, h⟩ := bind_some h
  rcases qq with o1 | o1
  · dsimp only at h
    rcases ite_some h with ⟨c12, h⟩ | ⟨c12, h⟩
    · simp only [Option.some.injEq] at h
      subst h
      exact Ret.nl 4 (trace_passed_0 r_0 id_1 o1 hl1 c12) rfl
    · obtain ⟨h13, h⟩ := guard_some h
      obtain ⟨x14, h15, h⟩ := bind_some h
      simp only [Option.some.injEq] at h
      subst h
      exact trace_passed_1 r_0 id_1 o1 hl1 c12 h13 x14 h15
  · dsimp only at h
    simp only [Option.some.injEq] at h
    subst h
    exact Ret.nl 4 (trace_passed_2 r_0 id_1 o1 hl1) rfl
noncomputable def trip_Passages_L1_step (x_0 : Tapi_Trip) : (Nat × (List (List UInt8))) → Option ((Nat × (List (List UInt8))) ⊕ (List (List UInt8)))
  | (k9, b1) =>
    if (↑k9 : Int) < (↑x_0.Stops.length : Int) then
      (x_0.Stops[k9]?).bind fun x10 =>
      if x10.Passage = [] then
        if InR .i64 ((↑k9 : Int) + 1) then
          some (Sum.inl ((k9 + 1), b1))
        else none
      else
        if b1.length + 1 ≤ 4294967296 then
          if InR .i64 ((↑k9 : Int) + 1) then
            some (Sum.inl ((k9 + 1), (b1 ++ [x10.Passage])))
          else none
        else none
    else
      some (Sum.inr b1)
def trip_Passages_L1_H (x_0 : Tapi_Trip) : (Nat × (List (List UInt8))) → St := fun (s : (Nat × (List (List UInt8)))) => S 23 [(3, .vec 0 s.2.length 1), (7, .lst (fl Tapi_Stop.enc x_0.Stops) x_0.Stops.length), (8, .int .i64 (↑x_0.Stops.length : Int)), (9, .int .i64 (↑s.1 : Int))] [{ c := (fl e_str s.2), e := 9, ext := true, fz := 0, pl := true, o := true }]
theorem trip_Passages_L1_0 (x_0 : Tapi_Trip) (k9 : Nat) (b1 : (List (List UInt8))) (c9 : (↑k9 : Int) < (↑x_0.Stops.length : Int)) (x10 : Tapi_Stop) (h11 : x_0.Stops[k9]? = some x10) (c12 : x10.Passage = []) (h13 : InR .i64 ((↑k9 : Int) + 1)) : Does Tryd.prog GT 0 (bodyAt Tryd.prog 55 [1, 1, 0, 1, 0, 0]) (trip_Passages_L1_H x_0 (k9, b1)) .normal (S 23 [(3, .vec 0 b1.length 1), (7, .lst (fl Tapi_Stop.enc x_0.Stops) x_0.Stops.length), (8, .int .i64 (↑x_0.Stops.length : Int)), (9, .int .i64 ((↑k9 : Int) + 1))] [{ c := (fl e_str b1), e := 9, ext := true, fz := 0, pl := true, o := true }]) :=
  Does.of_viewM 0 400 ((.op none .a) :: (.br true) :: (.op none (.i k9)) :: (.op none (.v [.str x10.Point, .int .i64 x10.Time, .str x10.Passage])) :: (cs 4 [.op none .a, .br false, .op none .w, .op none .c])) [0] (ps := [((decide ((↑k9 : Int) < (↑x_0.Stops.length : Int))) = true), ((↑k9 : Int) = ((k9 : Nat) : Int) ∧ k9 < x_0.Stops.length), ((fl Tapi_Stop.enc x_0.Stops) ≠ []), (sub (fl Tapi_Stop.enc x_0.Stops) (k9 * 3) 3 = [.str x10.Point, .int .i64 x10.Time, .str x10.Passage]), ((!(x10.Passage == [])) = false), (IntKind.min .i64 ≤ ((↑k9 : Int) + 1) ∧ ((↑k9 : Int) + 1) ≤ IntKind.max .i64)]) (by kernel_rfl) (by kernel_rfl) ⟨(decide_eq_true c9), ⟨rfl, get_lt h11⟩, (fl_ne (f := Tapi_Stop.enc) (z := 2) (fun _ => rfl) h11), (fl_sub0 (f := Tapi_Stop.enc) (z := 3) (j := k9) (fun _ => rfl) h11 rfl), (not_f (beq_t c12)), ok1 h13⟩
theorem trip_Passages_L1_1 (x_0 : Tapi_Trip) (k9 : Nat) (b1 : (List (List UInt8))) (c9 : (↑k9 : Int) < (↑x_0.Stops.length : Int)) (x10 : Tapi_Stop) (h11 : x_0.Stops[k9]? = some x10) (c12 : ¬ (x10.Passage = [])) (h14 : b1.length + 1 ≤ 4294967296) (h15 : InR .i64 ((↑k9 : Int) + 1)) : Does Tryd.prog GT 0 (bodyAt Tryd.prog 55 [1, 1, 0, 1, 0, 0]) (trip_Passages_L1_H x_0 (k9, b1)) .normal (S 23 [(3, .vec 0 ((b1 ++ [x10.Passage]).length) 1), (7, .lst (fl Tapi_Stop.enc x_0.Stops) x_0.Stops.length), (8, .int .i64 (↑x_0.Stops.length : Int)), (9, .int .i64 ((↑k9 : Int) + 1))] [{ c := (fl e_str (b1 ++ [x10.Passage])), e := 9, ext := true, fz := 0, pl := true, o := true }]) :=
  Does.of_viewM 0 400 ((.op none .a) :: (.br true) :: (.op none (.i k9)) :: (.op none (.v [.str x10.Point, .int .i64 x10.Time, .str x10.Passage])) :: (cs 4 ((.op none .a) :: (.br true) :: (cs 4 [.op none (.ap 4), .tr (.eqc 3 (fl e_str (b1 ++ [x10.Passage]))), .tr (.eqt (.t 20) (.vec 3 ((b1 ++ [x10.Passage]).length) 1)), .op none .c, .op none .w, .op none .c])))) [3] (ps := [((decide ((↑k9 : Int) < (↑x_0.Stops.length : Int))) = true), ((↑k9 : Int) = ((k9 : Nat) : Int) ∧ k9 < x_0.Stops.length), ((fl Tapi_Stop.enc x_0.Stops) ≠ []), (sub (fl Tapi_Stop.enc x_0.Stops) (k9 * 3) 3 = [.str x10.Point, .int .i64 x10.Time, .str x10.Passage]), ((!(x10.Passage == [])) = true), (0 + 1 ≤ List.length ([.str x10.Passage] : List AV)), (List.length ((fl e_str b1) : List AV) = b1.length), (List.all ([.str x10.Passage] : List AV) AV.one = true), (b1.length + 1 ≤ 4294967296), ((fl e_str b1) ++ [.str x10.Passage] = (fl e_str (b1 ++ [x10.Passage]))), ((.vec 3 (b1.length + 1) 1 : AV) = .vec 3 ((b1 ++ [x10.Passage]).length) 1), (IntKind.min .i64 ≤ ((↑k9 : Int) + 1) ∧ ((↑k9 : Int) + 1) ≤ IntKind.max .i64)]) (by kernel_rfl) (by kernel_rfl) ⟨(decide_eq_true c9), ⟨rfl, get_lt h11⟩, (fl_ne (f := Tapi_Stop.enc) (z := 2) (fun _ => rfl) h11), (fl_sub0 (f := Tapi_Stop.enc) (z := 3) (j := k9) (fun _ => rfl) h11 rfl), (not_t (beq_f c12)), (Nat.le_of_ble_eq_true rfl), (fl_length1 (f := e_str) (fun _ => rfl) _), rfl, h14, (fl_snoc rfl), (by simp <;> omega), ok1 h15⟩
theorem trip_Passages_L1_2 (x_0 : Tapi_Trip) (k9 : Nat) (b1 : (List (List UInt8))) (c9 : ¬ ((↑k9 : Int) < (↑x_0.Stops.length : Int))) : Does Tryd.prog GT 0 (bodyAt Tryd.prog 55 [1, 1, 0, 1, 0, 0]) (trip_Passages_L1_H x_0 (k9, b1)) (.exit 0) (S 23 [(3, .vec 0 b1.length 1)] [{ c := (fl e_str b1), e := 9, ext := true, fz := 0, pl := true, o := true }]) :=
  Does.of_viewM 0 400 [.op none .a, .br false] [0] (ps := [((decide ((↑k9 : Int) < (↑x_0.Stops.length : Int))) = false)]) (by kernel_rfl) (by kernel_rfl) (ok1 (decide_eq_false c9))
def trip_Passages_L1_X (x_0 : Tapi_Trip) : (List (List UInt8)) → AEx := fun o => (.exit 0)
def trip_Passages_L1_E (x_0 : Tapi_Trip) : (List (List UInt8)) → St := fun o => S 23 [(3, .vec 0 o.length 1)] [{ c := (fl e_str o), e := 9, ext := true, fz := 0, pl := true, o := true }]
theorem trip_Passages_L1_does (x_0 : Tapi_Trip) {s : (Nat × (List (List UInt8)))} {r : (List (List UInt8))} (h : lp (trip_Passages_L1_step x_0) s = some r) : Does Tryd.prog GT 0 (.loop (bodyAt Tryd.prog 55 [1, 1, 0, 1, 0, 0])) (trip_Passages_L1_H x_0 s) (trip_Passages_L1_X x_0 r) (trip_Passages_L1_E x_0 r) := by
  refine Does.lp (H := trip_Passages_L1_H x_0) (X := trip_Passages_L1_X x_0) (E := trip_Passages_L1_E x_0) (fun s s2 h => ?_) (fun s r h => ?_) h
  · obtain ⟨k9, b1⟩ := s
    unfold trip_Passages_L1_step at h
    try dsimp only at h
    rcases ite_some h with ⟨c9, h⟩ | ⟨c9, h⟩
    · obtain ⟨x10, h11, h⟩ := bind_some h
      rcases ite_some h with ⟨c12, h⟩ | ⟨c12, h⟩
      · obtain ⟨h13, h⟩ := guard_some h
        simp only [Option.some.injEq, Sum.inl.injEq] at h
        subst h
        have hq := trip_Passages_L1_0 x_0 k9 b1 c9 x10 h11 c12 h13
        first | exact hq | exact Eq.mp (by simp only [trip_Passages_L1_H, List.length_set] <;> rfl) hq
      · obtain ⟨h14, h⟩ := guard_some h
        obtain ⟨h15, h⟩ := guard_some h
        simp only [Option.some.injEq, Sum.inl.injEq] at h
        subst h
        have hq := trip_Passages_L1_1 x_0 k9 b1 c9 x10 h11 c12 h14 h15
        first | exact hq | exact Eq.mp (by simp only [trip_Passages_L1_H, List.length_set] <;> rfl) hq
    · simp at h
  · obtain ⟨k9, b1⟩ := s
    unfold trip_Passages_L1_step at h
    try dsimp only at h
    rcases ite_some h with ⟨c9, h⟩ | ⟨c9, h⟩
    · obtain ⟨x10, h11, h⟩ := bind_some h
      rcases ite_some h with ⟨c12, h⟩ | ⟨c12, h⟩
      · obtain ⟨h13, h⟩ := guard_some h
        simp at h
      · obtain ⟨h14, h⟩ := guard_some h
        obtain ⟨h15, h⟩ := guard_some h
        simp at h
    · simp only [Option.some.injEq, Sum.inr.injEq] at h
      subst h
      exact ⟨trip_Passages_L1_2 x_0 k9 b1 c9, by intro q; cases q⟩
noncomputable def trip_Passages (x_0 : Tapi_Trip) : Option (List (List UInt8)) :=
  (lp (trip_Passages_L1_step x_0) ((0 : Nat), ([] : (List (List UInt8))))).bind fun o1 =>
  some o1
theorem trip_Passages_0 (x_0 : Tapi_Trip) (o1 : (List (List UInt8))) (hl1 : lp (trip_Passages_L1_step x_0) ((0 : Nat), ([] : (List (List UInt8)))) = some o1) : Ret Tryd.prog GT 55 [.agg (Tapi_Trip.enc x_0)] (.vec 0 o1.length 1) [{ c := (fl e_str o1), e := 9, ext := true, fz := 0, pl := true, o := true }] :=
  Ret.of_view 400 (cs 7 ((.tr (.vec (.t 3) 1 9)) :: (.fcut 0 (.exit 0) [(3, .vec 0 o1.length 1)] [{ c := (fl e_str o1), e := 9, ext := true, fz := 0, pl := true, o := true }] [1] [(3, .vec 0 (([] : (List (List UInt8))).length) 1), (7, .lst (fl Tapi_Stop.enc x_0.Stops) x_0.Stops.length), (8, .int .i64 (↑x_0.Stops.length : Int)), (9, .int .i64 (↑(0 : Nat) : Int))] [{ c := (fl e_str ([] : (List (List UInt8)))), e := 9, ext := true, fz := 0, pl := true, o := true }]) :: (cs 2 []))) [2] (ps := [((.vec 1 0 1 : AV) = .vec 1 (([] : (List (List UInt8))).length) 1), ((.lst (fl Tapi_Stop.enc x_0.Stops) x_0.Stops.length : AV) = .lst (fl Tapi_Stop.enc x_0.Stops) x_0.Stops.length), ((.int .i64 (↑x_0.Stops.length : Int) : AV) = .int .i64 (↑x_0.Stops.length : Int)), ((.int .i64 0 : AV) = .int .i64 (↑(0 : Nat) : Int)), (({ c := [], e := 9, ext := true, fz := 0, pl := true, o := true } : Blk) = renB [1] { c := (fl e_str ([] : (List (List UInt8)))), e := 9, ext := true, fz := 0, pl := true, o := true }), (Does Tryd.prog GT 0 (.loop (bodyAt Tryd.prog 55 [1, 1, 0, 1, 0, 0])) (S 23 [(3, .vec 0 (([] : (List (List UInt8))).length) 1), (7, .lst (fl Tapi_Stop.enc x_0.Stops) x_0.Stops.length), (8, .int .i64 (↑x_0.Stops.length : Int)), (9, .int .i64 (↑(0 : Nat) : Int))] [{ c := (fl e_str ([] : (List (List UInt8)))), e := 9, ext := true, fz := 0, pl := true, o := true }]) (.exit 0) (S 23 [(3, .vec 0 o1.length 1)] [{ c := (fl e_str o1), e := 9, ext := true, fz := 0, pl := true, o := true }]))]) (by kernel_rfl) (by kernel_rfl) ⟨(by first | rfl | simp only [List.length_replicate, List.length_set]), rfl, rfl, rfl, rfl, ok1 (trip_Passages_L1_does x_0 hl1)⟩
theorem trip_Passages_ret (x_0 : Tapi_Trip) (r : (List (List UInt8))) (h : trip_Passages x_0 = some r) : Ret Tryd.prog GT 55 [.agg (Tapi_Trip.enc x_0)] (.vec 0 r.length 1) [{ c := (fl e_str r), e := 9, ext := true, fz := 0, pl := true, o := true }] := by
  unfold trip_Passages at h
  obtain ⟨o1, hl1, h⟩ := bind_some h
  simp only [Option.some.injEq] at h
  subst h
  exact trip_Passages_0 x_0 o1 hl1
noncomputable def trace_facts_L59_step (p_1 : Tapi_Passage) (r57 : (List (List UInt8))) : Nat → Option (Nat ⊕ (Int ⊕ Unit)) := fun k8 =>
  if (↑k8 : Int) < (↑r57.length : Int) then
    (r57[k8]?).bind fun x66 =>
    if p_1.ID = x66 then
      some (Sum.inr (Sum.inl (↑k8 : Int)))
    else
      if InR .i64 ((↑k8 : Int) + 1) then
        some (Sum.inl (k8 + 1))
      else none
  else
    some (Sum.inr (Sum.inr (())))
def trace_facts_L59_H (p_1 : Tapi_Passage) (r57 : (List (List UInt8))) : Nat → St := fun (s : Nat) => S 19 [(0, .vec 0 r57.length 1), (1, .str p_1.ID), (7, .int .i64 (↑r57.length : Int)), (8, .int .i64 (↑s : Int))] [{ c := (fl e_str r57), e := 9, ext := true, fz := 0, pl := true, o := true }]
theorem trace_facts_L59_0 (p_1 : Tapi_Passage) (r57 : (List (List UInt8))) (k8 : Nat) (c65 : (↑k8 : Int) < (↑r57.length : Int)) (x66 : (List UInt8)) (h67 : r57[k8]? = some x66) (c68 : p_1.ID = x66) : Does Tryd.prog GT 1 (bodyAt Tryd.prog 69 [1, 0, 1, 0, 0]) (trace_facts_L59_H p_1 r57 k8) .ret (S 19 [(4, .int .i64 (↑k8 : Int))] [{ c := (fl e_str r57), e := 9, ext := true, fz := 0, pl := true, o := true }]) :=
  Does.of_viewM 1 400 ((.op none .a) :: (.br true) :: (cs 5 ((.op none (.i k8)) :: (.op none (.v [.str x66])) :: (.op none .a) :: (.br true) :: (cs 2 [])))) [0] (ps := [((decide ((↑k8 : Int) < (↑r57.length : Int))) = true), ((↑k8 : Int) = ((k8 : Nat) : Int) ∧ k8 < r57.length), (sub (fl e_str r57) k8 1 = [.str x66]), ((p_1.ID == x66) = true)]) (by kernel_rfl) (by kernel_rfl) ⟨(decide_eq_true c65), ⟨rfl, get_lt h67⟩, (fl_sub1 (f := e_str) (fun _ => rfl) h67 rfl), ok1 (beq_t c68)⟩
theorem trace_facts_L59_1 (p_1 : Tapi_Passage) (r57 : (List (List UInt8))) (k8 : Nat) (c65 : (↑k8 : Int) < (↑r57.length : Int)) (x66 : (List UInt8)) (h67 : r57[k8]? = some x66) (c68 : ¬ (p_1.ID = x66)) (h69 : InR .i64 ((↑k8 : Int) + 1)) : Does Tryd.prog GT 1 (bodyAt Tryd.prog 69 [1, 0, 1, 0, 0]) (trace_facts_L59_H p_1 r57 k8) .normal (S 19 [(0, .vec 0 r57.length 1), (1, .str p_1.ID), (7, .int .i64 (↑r57.length : Int)), (8, .int .i64 ((↑k8 : Int) + 1))] [{ c := (fl e_str r57), e := 9, ext := true, fz := 0, pl := true, o := true }]) :=
  Does.of_viewM 1 400 ((.op none .a) :: (.br true) :: (cs 5 [.op none (.i k8), .op none (.v [.str x66]), .op none .a, .br false, .op none .w, .op none .c])) [0] (ps := [((decide ((↑k8 : Int) < (↑r57.length : Int))) = true), ((↑k8 : Int) = ((k8 : Nat) : Int) ∧ k8 < r57.length), (sub (fl e_str r57) k8 1 = [.str x66]), ((p_1.ID == x66) = false), (IntKind.min .i64 ≤ ((↑k8 : Int) + 1) ∧ ((↑k8 : Int) + 1) ≤ IntKind.max .i64)]) (by kernel_rfl) (by kernel_rfl) ⟨(decide_eq_true c65), ⟨rfl, get_lt h67⟩, (fl_sub1 (f := e_str) (fun _ => rfl) h67 rfl), (beq_f c68), ok1 h69⟩
theorem trace_facts_L59_2 (p_1 : Tapi_Passage) (r57 : (List (List UInt8))) (k8 : Nat) (c65 : ¬ ((↑k8 : Int) < (↑r57.length : Int))) : Does Tryd.prog GT 1 (bodyAt Tryd.prog 69 [1, 0, 1, 0, 0]) (trace_facts_L59_H p_1 r57 k8) (.exit 0) (S 19 [] [{ c := (fl e_str r57), e := 9, ext := true, fz := 0, pl := true, o := true }]) :=
  Does.of_viewM 1 400 [.op none .a, .br false] [0] (ps := [((decide ((↑k8 : Int) < (↑r57.length : Int))) = false)]) (by kernel_rfl) (by kernel_rfl) (ok1 (decide_eq_false c65))
def trace_facts_L59_X (p_1 : Tapi_Passage) (r57 : (List (List UInt8))) : (Int ⊕ Unit) → AEx := fun q => match q with | Sum.inl o => .ret | Sum.inr (o) => (.exit 0)
def trace_facts_L59_E (p_1 : Tapi_Passage) (r57 : (List (List UInt8))) : (Int ⊕ Unit) → St := fun q => match q with | Sum.inl o => S 19 [(4, .int .i64 o)] [{ c := (fl e_str r57), e := 9, ext := true, fz := 0, pl := true, o := true }] | Sum.inr (o) => S 19 [] [{ c := (fl e_str r57), e := 9, ext := true, fz := 0, pl := true, o := true }]
theorem trace_facts_L59_does (p_1 : Tapi_Passage) (r57 : (List (List UInt8))) {s : Nat} {r : Int ⊕ Unit} (h : lp (trace_facts_L59_step p_1 r57) s = some r) : Does Tryd.prog GT 1 (.loop (bodyAt Tryd.prog 69 [1, 0, 1, 0, 0])) (trace_facts_L59_H p_1 r57 s) (trace_facts_L59_X p_1 r57 r) (trace_facts_L59_E p_1 r57 r) := by
  refine Does.lp (H := trace_facts_L59_H p_1 r57) (X := trace_facts_L59_X p_1 r57) (E := trace_facts_L59_E p_1 r57) (fun s s2 h => ?_) (fun s r h => ?_) h
  · revert h; revert s; intro k8 h
    unfold trace_facts_L59_step at h
    try dsimp only at h
    rcases ite_some h with ⟨c65, h⟩ | ⟨c65, h⟩
    · obtain ⟨x66, h67, h⟩ := bind_some h
      rcases ite_some h with ⟨c68, h⟩ | ⟨c68, h⟩
      · simp at h
      · obtain ⟨h69, h⟩ := guard_some h
        simp only [Option.some.injEq, Sum.inl.injEq] at h
        subst h
        have hq := trace_facts_L59_1 p_1 r57 k8 c65 x66 h67 c68 h69
        first | exact hq | exact Eq.mp (by simp only [trace_facts_L59_H, List.length_set] <;> rfl) hq
    · simp at h
  · revert h; revert s; intro k8 h
    unfold trace_facts_L59_step at h
    try dsimp only at h
    rcases ite_some h with ⟨c65, h⟩ | ⟨c65, h⟩
    · obtain ⟨x66, h67, h⟩ := bind_some h
      rcases ite_some h with ⟨c68, h⟩ | ⟨c68, h⟩
      · simp only [Option.some.injEq, Sum.inr.injEq] at h
        subst h
        exact ⟨trace_facts_L59_0 p_1 r57 k8 c65 x66 h67 c68, by intro q; cases q⟩
      · obtain ⟨h69, h⟩ := guard_some h
        simp at h
    · simp only [Option.some.injEq, Sum.inr.injEq] at h
      subst h
      exact ⟨trace_facts_L59_2 p_1 r57 k8 c65, by intro q; cases q⟩
noncomputable def trace_facts_L1_step (r_0 : Tapi_Result) (p_1 : Tapi_Passage) : (Nat × (List Tapi_Fact)) → Option ((Nat × (List Tapi_Fact)) ⊕ (List Tapi_Fact))
  | (k21, b2) =>
    if (↑k21 : Int) < (↑r_0.Trips.length : Int) then
      (r_0.Trips[k21]?).bind fun x55 =>
      (trip_Passages x55).bind fun r57 =>
      (lp (trace_facts_L59_step p_1 r57) (0 : Nat)).bind fun qq => match qq with
      | Sum.inl o59 =>
        if o59 ≥ (0 : Int) then
          if b2.length + 1 ≤ 4294967296 then
            if ([116, 58] : List UInt8).length + x55.ID.length ≤ 9223372036854775807 then
              (trace_charged r_0 (([116, 58] : List UInt8) ++ x55.ID)).bind fun r73 =>
              if r73.2 = true then
                if ((b2 ++ [(⟨([116, 114, 105, 112] : List UInt8), x55.ID, 0⟩ : Tapi_Fact)]).length) + 1 ≤ 4294967296 then
                  if InR .i64 ((↑k21 : Int) + 1) then
                    some (Sum.inl ((k21 + 1), ((b2 ++ [(⟨([116, 114, 105, 112] : List UInt8), x55.ID, 0⟩ : Tapi_Fact)]) ++ [(⟨([99, 104, 97, 114, 103, 101] : List UInt8), ([116, 58] : List UInt8) ++ x55.ID, 0⟩ : Tapi_Fact)])))
                  else none
                else none
              else
                if InR .i64 ((↑k21 : Int) + 1) then
                  some (Sum.inl ((k21 + 1), (b2 ++ [(⟨([116, 114, 105, 112] : List UInt8), x55.ID, 0⟩ : Tapi_Fact)])))
                else none
            else none
          else none
        else
          if InR .i64 ((↑k21 : Int) + 1) then
            some (Sum.inl ((k21 + 1), b2))
          else none
      | Sum.inr (o59) =>
        if InR .i64 ((↑k21 : Int) + 1) then
          some (Sum.inl ((k21 + 1), b2))
        else none
    else
      some (Sum.inr b2)
def trace_facts_L1_H (r_0 : Tapi_Result) (p_1 : Tapi_Passage) : (Nat × (List Tapi_Fact)) → St := fun (s : (Nat × (List Tapi_Fact))) => S 70 [(2, .ptr 0 0), (3, .ptr 1 0), (5, .ptr 2 0), (6, .fn (.func 53) [] [.ptr 2 0]), (19, .lst (fl Tapi_Trip.enc r_0.Trips) r_0.Trips.length), (20, .int .i64 (↑r_0.Trips.length : Int)), (21, .int .i64 (↑s.1 : Int))] [{ c := (Tapi_Result.enc r_0), e := 56, ext := false, fz := 0, pl := true, o := false }, { c := (Tapi_Passage.enc p_1), e := 87, ext := false, fz := 0, pl := true, o := false }, { c := [.vec 3 s.2.length 3], e := 69, ext := false, fz := 0, pl := false, o := false }, { c := (fl Tapi_Fact.enc s.2), e := 81, ext := true, fz := 0, pl := true, o := true }]
theorem trace_facts_L1_0 (r_0 : Tapi_Result) (p_1 : Tapi_Passage) (k21 : Nat) (b2 : (List Tapi_Fact)) (c54 : (↑k21 : Int) < (↑r_0.Trips.length : Int)) (x55 : Tapi_Trip) (h56 : r_0.Trips[k21]? = some x55) (r57 : (List (List UInt8))) (h58 : trip_Passages x55 = some r57) (o59 : Int) (hl59 : lp (trace_facts_L59_step p_1 r57) (0 : Nat) = some (Sum.inl o59)) (c70 : o59 ≥ (0 : Int)) (h71 : b2.length + 1 ≤ 4294967296) (h72 : ([116, 58] : List UInt8).length + x55.ID.length ≤ 9223372036854775807) (r73 : (Tapi_Charge × Bool)) (h74 : trace_charged r_0 (([116, 58] : List UInt8) ++ x55.ID) = some r73) (c75 : r73.2 = true) (h76 : ((b2 ++ [(⟨([116, 114, 105, 112] : List UInt8), x55.ID, 0⟩ : Tapi_Fact)]).length) + 1 ≤ 4294967296) (h77 : InR .i64 ((↑k21 : Int) + 1)) : Does Tryd.prog GT 3 (bodyAt Tryd.prog 24 [1, 1, 1, 0, 1, 0, 0]) (trace_facts_L1_H r_0 p_1 (k21, b2)) .normal (S 70 [(2, .ptr 0 0), (3, .ptr 1 0), (5, .ptr 2 0), (6, .fn (.func 53) [] [.ptr 2 0]), (19, .lst (fl Tapi_Trip.enc r_0.Trips) r_0.Trips.length), (20, .int .i64 (↑r_0.Trips.length : Int)), (21, .int .i64 ((↑k21 : Int) + 1))] [{ c := (Tapi_Result.enc r_0), e := 56, ext := false, fz := 0, pl := true, o := false }, { c := (Tapi_Passage.enc p_1), e := 87, ext := false, fz := 0, pl := true, o := false }, { c := [.vec 3 (((b2 ++ [(⟨([116, 114, 105, 112] : List UInt8), x55.ID, 0⟩ : Tapi_Fact)]) ++ [(⟨([99, 104, 97, 114, 103, 101] : List UInt8), ([116, 58] : List UInt8) ++ x55.ID, 0⟩ : Tapi_Fact)]).length) 3], e := 69, ext := false, fz := 0, pl := false, o := false }, { c := (fl Tapi_Fact.enc ((b2 ++ [(⟨([116, 114, 105, 112] : List UInt8), x55.ID, 0⟩ : Tapi_Fact)]) ++ [(⟨([99, 104, 97, 114, 103, 101] : List UInt8), ([116, 58] : List UInt8) ++ x55.ID, 0⟩ : Tapi_Fact)])), e := 81, ext := true, fz := 0, pl := true, o := true }]) :=
  Does.of_viewM 3 400 ((.op none .a) :: (.br true) :: (.op none (.i k21)) :: (.op none (.v [.str x55.ID, .str x55.Vehicle, .str x55.System, .int .i64 x55.Class, .lst (fl Tapi_Stop.enc x55.Stops) x55.Stops.length])) :: (cs 3 ((.ret none [.agg (Tapi_Trip.enc x55)] (.vec 0 r57.length 1) [{ c := (fl e_str r57), e := 9, ext := true, fz := 0, pl := true, o := true }]) :: (cs 11 ((.fcut 1 .ret [(4, .int .i64 o59)] [{ c := (fl e_str r57), e := 9, ext := true, fz := 0, pl := true, o := true }] [5] [(0, .vec 0 r57.length 1), (1, .str p_1.ID), (7, .int .i64 (↑r57.length : Int)), (8, .int .i64 (↑(0 : Nat) : Int))] [{ c := (fl e_str r57), e := 9, ext := true, fz := 0, pl := true, o := true }]) :: (.op none .a) :: (cs 2 ((.br false) :: (cs 10 ((.op none (.ap 4)) :: (.tr (.eqc 8 (fl Tapi_Fact.enc (b2 ++ [(⟨([116, 114, 105, 112] : List UInt8), x55.ID, 0⟩ : Tapi_Fact)])))) :: (.tr (.eqt (.t 13) (.vec 8 ((b2 ++ [(⟨([116, 114, 105, 112] : List UInt8), x55.ID, 0⟩ : Tapi_Fact)]).length) 3))) :: (cs 4 ((.op none .a) :: (.ret none [.agg (Tapi_Result.enc r_0), .str (([116, 58] : List UInt8) ++ x55.ID)] (.tup [.agg (Tapi_Charge.enc r73.1), .bool r73.2]) []) :: (cs 7 ((.br true) :: (cs 3 ((.op none .a) :: (cs 7 [.op none (.ap 4), .tr (.eqc 11 (fl Tapi_Fact.enc ((b2 ++ [(⟨([116, 114, 105, 112] : List UInt8), x55.ID, 0⟩ : Tapi_Fact)]) ++ [(⟨([99, 104, 97, 114, 103, 101] : List UInt8), ([116, 58] : List UInt8) ++ x55.ID, 0⟩ : Tapi_Fact)]))), .tr (.eqt (.t 13) (.vec 11 (((b2 ++ [(⟨([116, 114, 105, 112] : List UInt8), x55.ID, 0⟩ : Tapi_Fact)]) ++ [(⟨([99, 104, 97, 114, 103, 101] : List UInt8), ([116, 58] : List UInt8) ++ x55.ID, 0⟩ : Tapi_Fact)]).length) 3)), .op none .c, .op none .w, .op none .c])))))))))))))))) [0, 1, 2, 11] (ps := [((decide ((↑k21 : Int) < (↑r_0.Trips.length : Int))) = true), ((↑k21 : Int) = ((k21 : Nat) : Int) ∧ k21 < r_0.Trips.length), ((fl Tapi_Trip.enc r_0.Trips) ≠ []), (sub (fl Tapi_Trip.enc r_0.Trips) (k21 * 5) 5 = [.str x55.ID, .str x55.Vehicle, .str x55.System, .int .i64 x55.Class, .lst (fl Tapi_Stop.enc x55.Stops) x55.Stops.length]), ((.agg (Tapi_Trip.enc x55) : AV) = .agg (Tapi_Trip.enc x55)), (Ret Tryd.prog GT 55 [.agg (Tapi_Trip.enc x55)] (.vec 0 r57.length 1) [{ c := (fl e_str r57), e := 9, ext := true, fz := 0, pl := true, o := true }]), ((.vec 5 r57.length 1 : AV) = .vec 5 r57.length 1), ((.str p_1.ID : AV) = .str p_1.ID), ((.int .i64 (↑r57.length : Int) : AV) = .int .i64 (↑r57.length : Int)), ((.int .i64 0 : AV) = .int .i64 (↑(0 : Nat) : Int)), (({ c := (fl e_str r57), e := 9, ext := true, fz := 0, pl := true, o := true } : Blk) = renB [5] { c := (fl e_str r57), e := 9, ext := true, fz := 0, pl := true, o := true }), (Does Tryd.prog GT 1 (.loop (bodyAt Tryd.prog 69 [1, 0, 1, 0, 0])) (S 19 [(0, .vec 0 r57.length 1), (1, .str p_1.ID), (7, .int .i64 (↑r57.length : Int)), (8, .int .i64 (↑(0 : Nat) : Int))] [{ c := (fl e_str r57), e := 9, ext := true, fz := 0, pl := true, o := true }]) .ret (S 19 [(4, .int .i64 o59)] [{ c := (fl e_str r57), e := 9, ext := true, fz := 0, pl := true, o := true }])), ((some (Ob.blk { c := (fl e_str r57), e := 9, ext := true, fz := 0, pl := true, o := true }) = some (Ob.blk { c := (fl e_str r57), e := 9, ext := true, fz := 0, pl := true, o := true })) ∧ True), ((!(decide (o59 ≥ (0 : Int)))) = false), (0 + 3 ≤ List.length ([.str [116, 114, 105, 112], .str x55.ID, .int .i64 0] : List AV)), (List.length ((fl Tapi_Fact.enc b2) : List AV) = (b2.length * 3)), (List.all ([.str [116, 114, 105, 112], .str x55.ID, .int .i64 0] : List AV) AV.one = true), (b2.length + 1 ≤ 4294967296), ((fl Tapi_Fact.enc b2) ++ [.str [116, 114, 105, 112], .str x55.ID, .int .i64 0] = (fl Tapi_Fact.enc (b2 ++ [(⟨([116, 114, 105, 112] : List UInt8), x55.ID, 0⟩ : Tapi_Fact)]))), ((.vec 8 (b2.length + 1) 3 : AV) = .vec 8 ((b2 ++ [(⟨([116, 114, 105, 112] : List UInt8), x55.ID, 0⟩ : Tapi_Fact)]).length) 3), (([116, 58] : List UInt8).length + x55.ID.length ≤ 9223372036854775807), ((.agg (Tapi_Result.enc r_0) : AV) = .agg (Tapi_Result.enc r_0)), ((.str (([116, 58] : List UInt8) ++ x55.ID) : AV) = .str (([116, 58] : List UInt8) ++ x55.ID)), (Ret Tryd.prog GT 29 [.agg (Tapi_Result.enc r_0), .str (([116, 58] : List UInt8) ++ x55.ID)] (.tup [.agg (Tapi_Charge.enc r73.1), .bool r73.2]) []), (r73.2 = true), (([116, 58] : List UInt8).length + x55.ID.length ≤ 9223372036854775807), (0 + 3 ≤ List.length ([.str [99, 104, 97, 114, 103, 101], .str (([116, 58] : List UInt8) ++ x55.ID), .int .i64 0] : List AV)), (List.length ((fl Tapi_Fact.enc (b2 ++ [(⟨([116, 114, 105, 112] : List UInt8), x55.ID, 0⟩ : Tapi_Fact)])) : List AV) = (((b2 ++ [(⟨([116, 114, 105, 112] : List UInt8), x55.ID, 0⟩ : Tapi_Fact)]).length) * 3)), (List.all ([.str [99, 104, 97, 114, 103, 101], .str (([116, 58] : List UInt8) ++ x55.ID), .int .i64 0] : List AV) AV.one = true), (((b2 ++ [(⟨([116, 114, 105, 112] : List UInt8), x55.ID, 0⟩ : Tapi_Fact)]).length) + 1 ≤ 4294967296), ((fl Tapi_Fact.enc (b2 ++ [(⟨([116, 114, 105, 112] : List UInt8), x55.ID, 0⟩ : Tapi_Fact)])) ++ [.str [99, 104, 97, 114, 103, 101], .str (([116, 58] : List UInt8) ++ x55.ID), .int .i64 0] = (fl Tapi_Fact.enc ((b2 ++ [(⟨([116, 114, 105, 112] : List UInt8), x55.ID, 0⟩ : Tapi_Fact)]) ++ [(⟨([99, 104, 97, 114, 103, 101] : List UInt8), ([116, 58] : List UInt8) ++ x55.ID, 0⟩ : Tapi_Fact)]))), ((.vec 11 (((b2 ++ [(⟨([116, 114, 105, 112] : List UInt8), x55.ID, 0⟩ : Tapi_Fact)]).length) + 1) 3 : AV) = .vec 11 (((b2 ++ [(⟨([116, 114, 105, 112] : List UInt8), x55.ID, 0⟩ : Tapi_Fact)]) ++ [(⟨([99, 104, 97, 114, 103, 101] : List UInt8), ([116, 58] : List UInt8) ++ x55.ID, 0⟩ : Tapi_Fact)]).length) 3), (IntKind.min .i64 ≤ ((↑k21 : Int) + 1) ∧ ((↑k21 : Int) + 1) ≤ IntKind.max .i64)]) (by kernel_rfl) (by kernel_rfl) ⟨(decide_eq_true c54), ⟨rfl, get_lt h56⟩, (fl_ne (f := Tapi_Trip.enc) (z := 4) (fun _ => rfl) h56), (fl_sub0 (f := Tapi_Trip.enc) (z := 5) (j := k21) (fun _ => rfl) h56 rfl), rfl, (trip_Passages_ret x55 r57 h58), (by first | rfl | simp only [List.length_replicate, List.length_set]), rfl, rfl, rfl, rfl, (trace_facts_L59_does p_1 r57 hl59), ⟨rfl, trivial⟩, (not_f (decide_eq_true c70)), (Nat.le_of_ble_eq_true rfl), (fl_length (f := Tapi_Fact.enc) (z := 3) (fun _ => rfl) _), rfl, h71, (fl_snoc rfl), (by simp <;> omega), h72, rfl, rfl, (trace_charged_ret r_0 (([116, 58] : List UInt8) ++ x55.ID) r73 h74), c75, h72, (Nat.le_of_ble_eq_true rfl), (fl_length (f := Tapi_Fact.enc) (z := 3) (fun _ => rfl) _), rfl, h76, (fl_snoc rfl), (by simp <;> omega), ok1 h77⟩
theorem trace_facts_L1_1 (r_0 : Tapi_Result) (p_1 : Tapi_Passage) (k21 : Nat) (b2 : (List Tapi_Fact)) (c54 : (↑k21 : Int) < (↑r_0.Trips.length : Int)) (x55 : Tapi_Trip) (h56 : r_0.Trips[k21]? = some x55) (r57 : (List (List UInt8))) (h58 : trip_Passages x55 = some r57) (o59 : Int) (hl59 : lp (trace_facts_L59_step p_1 r57) (0 : Nat) = some (Sum.inl o59)) (c70 : o59 ≥ (0 : Int)) (h71 : b2.length + 1 ≤ 4294967296) (h72 : ([116, 58] : List UInt8).length + x55.ID.length ≤ 9223372036854775807) (r73 : (Tapi_Charge × Bool)) (h74 : trace_charged r_0 (([116, 58] : List UInt8) ++ x55.ID) = some r73) (c75 : ¬ (r73.2 = true)) (h78 : InR .i64 ((↑k21 : Int) + 1)) : Does Tryd.prog GT 3 (bodyAt Tryd.prog 24 [1, 1, 1, 0, 1, 0, 0]) (trace_facts_L1_H r_0 p_1 (k21, b2)) .normal (S 70 [(2, .ptr 0 0), (3, .ptr 1 0), (5, .ptr 2 0), (6, .fn (.func 53) [] [.ptr 2 0]), (19, .lst (fl Tapi_Trip.enc r_0.Trips) r_0.Trips.length), (20, .int .i64 (↑r_0.Trips.length : Int)), (21, .int .i64 ((↑k21 : Int) + 1))] [{ c := (Tapi_Result.enc r_0), e := 56, ext := false, fz := 0, pl := true, o := false }, { c := (Tapi_Passage.enc p_1), e := 87, ext := false, fz := 0, pl := true, o := false }, { c := [.vec 3 ((b2 ++ [(⟨([116, 114, 105, 112] : List UInt8), x55.ID, 0⟩ : Tapi_Fact)]).length) 3], e := 69, ext := false, fz := 0, pl := false, o := false }, { c := (fl Tapi_Fact.enc (b2 ++ [(⟨([116, 114, 105, 112] : List UInt8), x55.ID, 0⟩ : Tapi_Fact)])), e := 81, ext := true, fz := 0, pl := true, o := true }]) :=
  Does.of_viewM 3 400 ((.op none .a) :: (.br true) :: (.op none (.i k21)) :: (.op none (.v [.str x55.ID, .str x55.Vehicle, .str x55.System, .int .i64 x55.Class, .lst (fl Tapi_Stop.enc x55.Stops) x55.Stops.length])) :: (cs 3 ((.ret none [.agg (Tapi_Trip.enc x55)] (.vec 0 r57.length 1) [{ c := (fl e_str r57), e := 9, ext := true, fz := 0, pl := true, o := true }]) :: (cs 11 ((.fcut 1 .ret [(4, .int .i64 o59)] [{ c := (fl e_str r57), e := 9, ext := true, fz := 0, pl := true, o := true }] [5] [(0, .vec 0 r57.length 1), (1, .str p_1.ID), (7, .int .i64 (↑r57.length : Int)), (8, .int .i64 (↑(0 : Nat) : Int))] [{ c := (fl e_str r57), e := 9, ext := true, fz := 0, pl := true, o := true }]) :: (.op none .a) :: (cs 2 ((.br false) :: (cs 10 ((.op none (.ap 4)) :: (.tr (.eqc 8 (fl Tapi_Fact.enc (b2 ++ [(⟨([116, 114, 105, 112] : List UInt8), x55.ID, 0⟩ : Tapi_Fact)])))) :: (.tr (.eqt (.t 13) (.vec 8 ((b2 ++ [(⟨([116, 114, 105, 112] : List UInt8), x55.ID, 0⟩ : Tapi_Fact)]).length) 3))) :: (cs 4 ((.op none .a) :: (.ret none [.agg (Tapi_Result.enc r_0), .str (([116, 58] : List UInt8) ++ x55.ID)] (.tup [.agg (Tapi_Charge.enc r73.1), .bool r73.2]) []) :: (cs 7 [.br false, .op none .w, .op none .c])))))))))))) [0, 1, 2, 8] (ps := [((decide ((↑k21 : Int) < (↑r_0.Trips.length : Int))) = true), ((↑k21 : Int) = ((k21 : Nat) : Int) ∧ k21 < r_0.Trips.length), ((fl Tapi_Trip.enc r_0.Trips) ≠ []), (sub (fl Tapi_Trip.enc r_0.Trips) (k21 * 5) 5 = [.str x55.ID, .str x55.Vehicle, .str x55.System, .int .i64 x55.Class, .lst (fl Tapi_Stop.enc x55.Stops) x55.Stops.length]), ((.agg (Tapi_Trip.enc x55) : AV) = .agg (Tapi_Trip.enc x55)), (Ret Tryd.prog GT 55 [.agg (Tapi_Trip.enc x55)] (.vec 0 r57.length 1) [{ c := (fl e_str r57), e := 9, ext := true, fz := 0, pl := true, o := true }]), ((.vec 5 r57.length 1 : AV) = .vec 5 r57.length 1), ((.str p_1.ID : AV) = .str p_1.ID), ((.int .i64 (↑r57.length : Int) : AV) = .int .i64 (↑r57.length : Int)), ((.int .i64 0 : AV) = .int .i64 (↑(0 : Nat) : Int)), (({ c := (fl e_str r57), e := 9, ext := true, fz := 0, pl := true, o := true } : Blk) = renB [5] { c := (fl e_str r57), e := 9, ext := true, fz := 0, pl := true, o := true }), (Does Tryd.prog GT 1 (.loop (bodyAt Tryd.prog 69 [1, 0, 1, 0, 0])) (S 19 [(0, .vec 0 r57.length 1), (1, .str p_1.ID), (7, .int .i64 (↑r57.length : Int)), (8, .int .i64 (↑(0 : Nat) : Int))] [{ c := (fl e_str r57), e := 9, ext := true, fz := 0, pl := true, o := true }]) .ret (S 19 [(4, .int .i64 o59)] [{ c := (fl e_str r57), e := 9, ext := true, fz := 0, pl := true, o := true }])), ((some (Ob.blk { c := (fl e_str r57), e := 9, ext := true, fz := 0, pl := true, o := true }) = some (Ob.blk { c := (fl e_str r57), e := 9, ext := true, fz := 0, pl := true, o := true })) ∧ True), ((!(decide (o59 ≥ (0 : Int)))) = false), (0 + 3 ≤ List.length ([.str [116, 114, 105, 112], .str x55.ID, .int .i64 0] : List AV)), (List.length ((fl Tapi_Fact.enc b2) : List AV) = (b2.length * 3)), (List.all ([.str [116, 114, 105, 112], .str x55.ID, .int .i64 0] : List AV) AV.one = true), (b2.length + 1 ≤ 4294967296), ((fl Tapi_Fact.enc b2) ++ [.str [116, 114, 105, 112], .str x55.ID, .int .i64 0] = (fl Tapi_Fact.enc (b2 ++ [(⟨([116, 114, 105, 112] : List UInt8), x55.ID, 0⟩ : Tapi_Fact)]))), ((.vec 8 (b2.length + 1) 3 : AV) = .vec 8 ((b2 ++ [(⟨([116, 114, 105, 112] : List UInt8), x55.ID, 0⟩ : Tapi_Fact)]).length) 3), (([116, 58] : List UInt8).length + x55.ID.length ≤ 9223372036854775807), ((.agg (Tapi_Result.enc r_0) : AV) = .agg (Tapi_Result.enc r_0)), ((.str (([116, 58] : List UInt8) ++ x55.ID) : AV) = .str (([116, 58] : List UInt8) ++ x55.ID)), (Ret Tryd.prog GT 29 [.agg (Tapi_Result.enc r_0), .str (([116, 58] : List UInt8) ++ x55.ID)] (.tup [.agg (Tapi_Charge.enc r73.1), .bool r73.2]) []), (r73.2 = false), (IntKind.min .i64 ≤ ((↑k21 : Int) + 1) ∧ ((↑k21 : Int) + 1) ≤ IntKind.max .i64)]) (by kernel_rfl) (by kernel_rfl) ⟨(decide_eq_true c54), ⟨rfl, get_lt h56⟩, (fl_ne (f := Tapi_Trip.enc) (z := 4) (fun _ => rfl) h56), (fl_sub0 (f := Tapi_Trip.enc) (z := 5) (j := k21) (fun _ => rfl) h56 rfl), rfl, (trip_Passages_ret x55 r57 h58), (by first | rfl | simp only [List.length_replicate, List.length_set]), rfl, rfl, rfl, rfl, (trace_facts_L59_does p_1 r57 hl59), ⟨rfl, trivial⟩, (not_f (decide_eq_true c70)), (Nat.le_of_ble_eq_true rfl), (fl_length (f := Tapi_Fact.enc) (z := 3) (fun _ => rfl) _), rfl, h71, (fl_snoc rfl), (by simp <;> omega), h72, rfl, rfl, (trace_charged_ret r_0 (([116, 58] : List UInt8) ++ x55.ID) r73 h74), (eq_false_of_ne_true c75), ok1 h78⟩
theorem trace_facts_L1_2 (r_0 : Tapi_Result) (p_1 : Tapi_Passage) (k21 : Nat) (b2 : (List Tapi_Fact)) (c54 : (↑k21 : Int) < (↑r_0.Trips.length : Int)) (x55 : Tapi_Trip) (h56 : r_0.Trips[k21]? = some x55) (r57 : (List (List UInt8))) (h58 : trip_Passages x55 = some r57) (o59 : Int) (hl59 : lp (trace_facts_L59_step p_1 r57) (0 : Nat) = some (Sum.inl o59)) (c70 : ¬ (o59 ≥ (0 : Int))) (h79 : InR .i64 ((↑k21 : Int) + 1)) : Does Tryd.prog GT 3 (bodyAt Tryd.prog 24 [1, 1, 1, 0, 1, 0, 0]) (trace_facts_L1_H r_0 p_1 (k21, b2)) .normal (S 70 [(2, .ptr 0 0), (3, .ptr 1 0), (5, .ptr 2 0), (6, .fn (.func 53) [] [.ptr 2 0]), (19, .lst (fl Tapi_Trip.enc r_0.Trips) r_0.Trips.length), (20, .int .i64 (↑r_0.Trips.length : Int)), (21, .int .i64 ((↑k21 : Int) + 1))] [{ c := (Tapi_Result.enc r_0), e := 56, ext := false, fz := 0, pl := true, o := false }, { c := (Tapi_Passage.enc p_1), e := 87, ext := false, fz := 0, pl := true, o := false }, { c := [.vec 3 b2.length 3], e := 69, ext := false, fz := 0, pl := false, o := false }, { c := (fl Tapi_Fact.enc b2), e := 81, ext := true, fz := 0, pl := true, o := true }]) :=
  Does.of_viewM 3 400 ((.op none .a) :: (.br true) :: (.op none (.i k21)) :: (.op none (.v [.str x55.ID, .str x55.Vehicle, .str x55.System, .int .i64 x55.Class, .lst (fl Tapi_Stop.enc x55.Stops) x55.Stops.length])) :: (cs 3 ((.ret none [.agg (Tapi_Trip.enc x55)] (.vec 0 r57.length 1) [{ c := (fl e_str r57), e := 9, ext := true, fz := 0, pl := true, o := true }]) :: (cs 11 ((.fcut 1 .ret [(4, .int .i64 o59)] [{ c := (fl e_str r57), e := 9, ext := true, fz := 0, pl := true, o := true }] [5] [(0, .vec 0 r57.length 1), (1, .str p_1.ID), (7, .int .i64 (↑r57.length : Int)), (8, .int .i64 (↑(0 : Nat) : Int))] [{ c := (fl e_str r57), e := 9, ext := true, fz := 0, pl := true, o := true }]) :: (.op none .a) :: (cs 2 [.br true, .op none .w, .op none .c])))))) [0, 1, 2, 3] (ps := [((decide ((↑k21 : Int) < (↑r_0.Trips.length : Int))) = true), ((↑k21 : Int) = ((k21 : Nat) : Int) ∧ k21 < r_0.Trips.length), ((fl Tapi_Trip.enc r_0.Trips) ≠ []), (sub (fl Tapi_Trip.enc r_0.Trips) (k21 * 5) 5 = [.str x55.ID, .str x55.Vehicle, .str x55.System, .int .i64 x55.Class, .lst (fl Tapi_Stop.enc x55.Stops) x55.Stops.length]), ((.agg (Tapi_Trip.enc x55) : AV) = .agg (Tapi_Trip.enc x55)), (Ret Tryd.prog GT 55 [.agg (Tapi_Trip.enc x55)] (.vec 0 r57.length 1) [{ c := (fl e_str r57), e := 9, ext := true, fz := 0, pl := true, o := true }]), ((.vec 5 r57.length 1 : AV) = .vec 5 r57.length 1), ((.str p_1.ID : AV) = .str p_1.ID), ((.int .i64 (↑r57.length : Int) : AV) = .int .i64 (↑r57.length : Int)), ((.int .i64 0 : AV) = .int .i64 (↑(0 : Nat) : Int)), (({ c := (fl e_str r57), e := 9, ext := true, fz := 0, pl := true, o := true } : Blk) = renB [5] { c := (fl e_str r57), e := 9, ext := true, fz := 0, pl := true, o := true }), (Does Tryd.prog GT 1 (.loop (bodyAt Tryd.prog 69 [1, 0, 1, 0, 0])) (S 19 [(0, .vec 0 r57.length 1), (1, .str p_1.ID), (7, .int .i64 (↑r57.length : Int)), (8, .int .i64 (↑(0 : Nat) : Int))] [{ c := (fl e_str r57), e := 9, ext := true, fz := 0, pl := true, o := true }]) .ret (S 19 [(4, .int .i64 o59)] [{ c := (fl e_str r57), e := 9, ext := true, fz := 0, pl := true, o := true }])), ((some (Ob.blk { c := (fl e_str r57), e := 9, ext := true, fz := 0, pl := true, o := true }) = some (Ob.blk { c := (fl e_str r57), e := 9, ext := true, fz := 0, pl := true, o := true })) ∧ True), ((!(decide (o59 ≥ (0 : Int)))) = true), (IntKind.min .i64 ≤ ((↑k21 : Int) + 1) ∧ ((↑k21 : Int) + 1) ≤ IntKind.max .i64)]) (by kernel_rfl) (by kernel_rfl) ⟨(decide_eq_true c54), ⟨rfl, get_lt h56⟩, (fl_ne (f := Tapi_Trip.enc) (z := 4) (fun _ => rfl) h56), (fl_sub0 (f := Tapi_Trip.enc) (z := 5) (j := k21) (fun _ => rfl) h56 rfl), rfl, (trip_Passages_ret x55 r57 h58), (by first | rfl | simp only [List.length_replicate, List.length_set]), rfl, rfl, rfl, rfl, (trace_facts_L59_does p_1 r57 hl59), ⟨rfl, trivial⟩, (not_t (decide_eq_false c70)), ok1 h79⟩
theorem trace_facts_L1_3 (r_0 : Tapi_Result) (p_1 : Tapi_Passage) (k21 : Nat) (b2 : (List Tapi_Fact)) (c54 : (↑k21 : Int) < (↑r_0.Trips.length : Int)) (x55 : Tapi_Trip) (h56 : r_0.Trips[k21]? = some x55) (r57 : (List (List UInt8))) (h58 : trip_Passages x55 = some r57) (o59 : Unit) (hl59 : lp (trace_facts_L59_step p_1 r57) (0 : Nat) = some (Sum.inr (o59))) (h80 : InR .i64 ((↑k21 : Int) + 1)) : Does Tryd.prog GT 3 (bodyAt Tryd.prog 24 [1, 1, 1, 0, 1, 0, 0]) (trace_facts_L1_H r_0 p_1 (k21, b2)) .normal (S 70 [(2, .ptr 0 0), (3, .ptr 1 0), (5, .ptr 2 0), (6, .fn (.func 53) [] [.ptr 2 0]), (19, .lst (fl Tapi_Trip.enc r_0.Trips) r_0.Trips.length), (20, .int .i64 (↑r_0.Trips.length : Int)), (21, .int .i64 ((↑k21 : Int) + 1))] [{ c := (Tapi_Result.enc r_0), e := 56, ext := false, fz := 0, pl := true, o := false }, { c := (Tapi_Passage.enc p_1), e := 87, ext := false, fz := 0, pl := true, o := false }, { c := [.vec 3 b2.length 3], e := 69, ext := false, fz := 0, pl := false, o := false }, { c := (fl Tapi_Fact.enc b2), e := 81, ext := true, fz := 0, pl := true, o := true }]) :=
  Does.of_viewM 3 400 ((.op none .a) :: (.br true) :: (.op none (.i k21)) :: (.op none (.v [.str x55.ID, .str x55.Vehicle, .str x55.System, .int .i64 x55.Class, .lst (fl Tapi_Stop.enc x55.Stops) x55.Stops.length])) :: (cs 3 ((.ret none [.agg (Tapi_Trip.enc x55)] (.vec 0 r57.length 1) [{ c := (fl e_str r57), e := 9, ext := true, fz := 0, pl := true, o := true }]) :: (cs 11 ((.fcut 1 (.exit 0) [] [{ c := (fl e_str r57), e := 9, ext := true, fz := 0, pl := true, o := true }] [5] [(0, .vec 0 r57.length 1), (1, .str p_1.ID), (7, .int .i64 (↑r57.length : Int)), (8, .int .i64 (↑(0 : Nat) : Int))] [{ c := (fl e_str r57), e := 9, ext := true, fz := 0, pl := true, o := true }]) :: (cs 4 [.br true, .op none .w, .op none .c])))))) [0, 1, 2, 3] (ps := [((decide ((↑k21 : Int) < (↑r_0.Trips.length : Int))) = true), ((↑k21 : Int) = ((k21 : Nat) : Int) ∧ k21 < r_0.Trips.length), ((fl Tapi_Trip.enc r_0.Trips) ≠ []), (sub (fl Tapi_Trip.enc r_0.Trips) (k21 * 5) 5 = [.str x55.ID, .str x55.Vehicle, .str x55.System, .int .i64 x55.Class, .lst (fl Tapi_Stop.enc x55.Stops) x55.Stops.length]), ((.agg (Tapi_Trip.enc x55) : AV) = .agg (Tapi_Trip.enc x55)), (Ret Tryd.prog GT 55 [.agg (Tapi_Trip.enc x55)] (.vec 0 r57.length 1) [{ c := (fl e_str r57), e := 9, ext := true, fz := 0, pl := true, o := true }]), ((.vec 5 r57.length 1 : AV) = .vec 5 r57.length 1), ((.str p_1.ID : AV) = .str p_1.ID), ((.int .i64 (↑r57.length : Int) : AV) = .int .i64 (↑r57.length : Int)), ((.int .i64 0 : AV) = .int .i64 (↑(0 : Nat) : Int)), (({ c := (fl e_str r57), e := 9, ext := true, fz := 0, pl := true, o := true } : Blk) = renB [5] { c := (fl e_str r57), e := 9, ext := true, fz := 0, pl := true, o := true }), (Does Tryd.prog GT 1 (.loop (bodyAt Tryd.prog 69 [1, 0, 1, 0, 0])) (S 19 [(0, .vec 0 r57.length 1), (1, .str p_1.ID), (7, .int .i64 (↑r57.length : Int)), (8, .int .i64 (↑(0 : Nat) : Int))] [{ c := (fl e_str r57), e := 9, ext := true, fz := 0, pl := true, o := true }]) (.exit 0) (S 19 [] [{ c := (fl e_str r57), e := 9, ext := true, fz := 0, pl := true, o := true }])), ((some (Ob.blk { c := (fl e_str r57), e := 9, ext := true, fz := 0, pl := true, o := true }) = some (Ob.blk { c := (fl e_str r57), e := 9, ext := true, fz := 0, pl := true, o := true })) ∧ True), (true = true), (IntKind.min .i64 ≤ ((↑k21 : Int) + 1) ∧ ((↑k21 : Int) + 1) ≤ IntKind.max .i64)]) (by kernel_rfl) (by kernel_rfl) ⟨(decide_eq_true c54), ⟨rfl, get_lt h56⟩, (fl_ne (f := Tapi_Trip.enc) (z := 4) (fun _ => rfl) h56), (fl_sub0 (f := Tapi_Trip.enc) (z := 5) (j := k21) (fun _ => rfl) h56 rfl), rfl, (trip_Passages_ret x55 r57 h58), (by first | rfl | simp only [List.length_replicate, List.length_set]), rfl, rfl, rfl, rfl, (trace_facts_L59_does p_1 r57 hl59), ⟨rfl, trivial⟩, rfl, ok1 h80⟩
theorem trace_facts_L1_4 (r_0 : Tapi_Result) (p_1 : Tapi_Passage) (k21 : Nat) (b2 : (List Tapi_Fact)) (c54 : ¬ ((↑k21 : Int) < (↑r_0.Trips.length : Int))) : Does Tryd.prog GT 3 (bodyAt Tryd.prog 24 [1, 1, 1, 0, 1, 0, 0]) (trace_facts_L1_H r_0 p_1 (k21, b2)) (.exit 0) (S 70 [(2, .ptr 0 0), (3, .ptr 1 0), (5, .ptr 2 0), (6, .fn (.func 53) [] [.ptr 2 0])] [{ c := (Tapi_Result.enc r_0), e := 56, ext := false, fz := 0, pl := true, o := false }, { c := (Tapi_Passage.enc p_1), e := 87, ext := false, fz := 0, pl := true, o := false }, { c := [.vec 3 b2.length 3], e := 69, ext := false, fz := 0, pl := false, o := false }, { c := (fl Tapi_Fact.enc b2), e := 81, ext := true, fz := 0, pl := true, o := true }]) :=
  Does.of_viewM 3 400 [.op none .a, .br false] [0, 1, 2, 3] (ps := [((decide ((↑k21 : Int) < (↑r_0.Trips.length : Int))) = false)]) (by kernel_rfl) (by kernel_rfl) (ok1 (decide_eq_false c54))
def trace_facts_L1_X (r_0 : Tapi_Result) (p_1 : Tapi_Passage) : (List Tapi_Fact) → AEx := fun o => (.exit 0)
def trace_facts_L1_E (r_0 : Tapi_Result) (p_1 : Tapi_Passage) : (List Tapi_Fact) → St := fun o => S 70 [(2, .ptr 0 0), (3, .ptr 1 0), (5, .ptr 2 0), (6, .fn (.func 53) [] [.ptr 2 0])] [{ c := (Tapi_Result.enc r_0), e := 56, ext := false, fz := 0, pl := true, o := false }, { c := (Tapi_Passage.enc p_1), e := 87, ext := false, fz := 0, pl := true, o := false }, { c := [.vec 3 o.length 3], e := 69, ext := false, fz := 0, pl := false, o := false }, { c := (fl Tapi_Fact.enc o), e := 81, ext := true, fz := 0, pl := true, o := true }]
theorem trace_facts_L1_does (r_0 : Tapi_Result) (p_1 : Tapi_Passage) {s : (Nat × (List Tapi_Fact))} {r : (List Tapi_Fact)} (h : lp (trace_facts_L1_step r_0 p_1) s = some r) : Does Tryd.prog GT 3 (.loop (bodyAt Tryd.prog 24 [1, 1, 1, 0, 1, 0, 0])) (trace_facts_L1_H r_0 p_1 s) (trace_facts_L1_X r_0 p_1 r) (trace_facts_L1_E r_0 p_1 r) := by
  refine Does.lp (H := trace_facts_L1_H r_0 p_1) (X := trace_facts_L1_X r_0 p_1) (E := trace_facts_L1_E r_0 p_1) (fun s s2 h => ?_) (fun s r h => ?_) h
  · obtain ⟨k21, b2⟩ := s
    unfold trace_facts_L1_step at h
    try dsimp only at h
    rcases ite_some h with ⟨c54, h⟩ | ⟨c54, h⟩
    · obtain ⟨x55, h56, h⟩ := bind_some h
      obtain ⟨r57, h58, h⟩ := bind_some h
      obtain ⟨qq, hl59, h⟩ := bind_some h
      rcases qq with o59 | o59
      · dsimp only at h
        rcases ite_some h with ⟨c70, h⟩ | ⟨c70, h⟩
        · obtain ⟨h71, h⟩ := guard_some h
          obtain ⟨h72, h⟩ := guard_some h
          obtain ⟨r73, h74, h⟩ := bind_some h
          rcases ite_some h with ⟨c75, h⟩ | ⟨c75, h⟩
          · obtain ⟨h76, h⟩ := guard_some h
            obtain ⟨h77, h⟩ := guard_some h
            simp only [Option.some.injEq, Sum.inl.injEq] at h
            subst h
            have hq := trace_facts_L1_0 r_0 p_1 k21 b2 c54 x55 h56 r57 h58 o59 hl59 c70 h71 h72 r73 h74 c75 h76 h77
            first | exact hq | exact Eq.mp (by simp only [trace_facts_L1_H, List.length_set] <;> rfl) hq
          · obtain ⟨h78, h⟩ := guard_some h
            simp only [Option.some.injEq, Sum.inl.injEq] at h
            subst h
            have hq := trace_facts_L1_1 r_0 p_1 k21 b2 c54 x55 h56 r57 h58 o59 hl59 c70 h71 h72 r73 h74 c75 h78
            first | exact hq | exact Eq.mp (by simp only [trace_facts_L1_H, List.length_set] <;> rfl) hq
        · obtain ⟨h79, h⟩ := guard_some h
          simp only [Option.some.injEq, Sum.inl.injEq] at h
          subst h
          have hq := trace_facts_L1_2 r_0 p_1 k21 b2 c54 x55 h56 r57 h58 o59 hl59 c70 h79
          first | exact hq | exact Eq.mp (by simp only [trace_facts_L1_H, List.length_set] <;> rfl) hq
      · dsimp only at h
        obtain ⟨h80, h⟩ := guard_some h
        simp only [Option.some.injEq, Sum.inl.injEq] at h
        subst h
        have hq := trace_facts_L1_3 r_0 p_1 k21 b2 c54 x55 h56 r57 h58 o59 hl59 h80
        first | exact hq | exact Eq.mp (by simp only [trace_facts_L1_H, List.length_set] <;> rfl) hq
    · simp at h
  · obtain ⟨k21, b2⟩ := s
    unfold trace_facts_L1_step at h
    try dsimp only at h
    rcases ite_some h with ⟨c54, h⟩ | ⟨c54, h⟩
    · obtain ⟨x55, h56, h⟩ := bind_some h
      obtain ⟨r57, h58, h⟩ := bind_some h
      obtain ⟨qq, hl59, h⟩ := bind_some h
      rcases qq with o59 | o59
      · dsimp only at h
        rcases ite_some h with ⟨c70, h⟩ | ⟨c70, h⟩
        · obtain ⟨h71, h⟩ := guard_some h
          obtain ⟨h72, h⟩ := guard_some h
          obtain ⟨r73, h74, h⟩ := bind_some h
          rcases ite_some h with ⟨c75, h⟩ | ⟨c75, h⟩
          · obtain ⟨h76, h⟩ := guard_some h
            obtain ⟨h77, h⟩ := guard_some h
            simp at h
          · obtain ⟨h78, h⟩ := guard_some h
            simp at h
        · obtain ⟨h79, h⟩ := guard_some h
          simp at h
      · dsimp only at h
        obtain ⟨h80, h⟩ := guard_some h
        simp at h
    · simp only [Option.some.injEq, Sum.inr.injEq] at h
      subst h
      exact ⟨trace_facts_L1_4 r_0 p_1 k21 b2 c54, by intro q; cases q⟩
noncomputable def trace_facts_L81_step (r_0 : Tapi_Result) (p_1 : Tapi_Passage) : (Nat × (List Tapi_Fact)) → Option ((Nat × (List Tapi_Fact)) ⊕ (List Tapi_Fact))
  | (k53, b7) =>
    if (↑k53 : Int) < (↑r_0.Exclusions.length : Int) then
      (r_0.Exclusions[k53]?).bind fun x90 =>
      if x90.ID = p_1.ID then
        if b7.length + 1 ≤ 4294967296 then
          if InR .i64 ((↑k53 : Int) + 1) then
            some (Sum.inl ((k53 + 1), (b7 ++ [(⟨([101, 120, 99, 108, 117, 115, 105, 111, 110] : List UInt8), x90.ID, x90.Why⟩ : Tapi_Fact)])))
          else none
        else none
      else
        if InR .i64 ((↑k53 : Int) + 1) then
          some (Sum.inl ((k53 + 1), b7))
        else none
    else
      some (Sum.inr b7)
def trace_facts_L81_H (r_0 : Tapi_Result) (p_1 : Tapi_Passage) : (Nat × (List Tapi_Fact)) → St := fun (s : (Nat × (List Tapi_Fact))) => S 70 [(3, .ptr 0 0), (5, .ptr 1 0), (6, .fn (.func 53) [] [.ptr 1 0]), (51, .lst (fl Tapi_Exclusion.enc r_0.Exclusions) r_0.Exclusions.length), (52, .int .i64 (↑r_0.Exclusions.length : Int)), (53, .int .i64 (↑s.1 : Int))] [{ c := (Tapi_Passage.enc p_1), e := 87, ext := false, fz := 0, pl := true, o := false }, { c := [.vec 2 s.2.length 3], e := 69, ext := false, fz := 0, pl := false, o := false }, { c := (fl Tapi_Fact.enc s.2), e := 81, ext := true, fz := 0, pl := true, o := true }]
theorem trace_facts_L81_0 (r_0 : Tapi_Result) (p_1 : Tapi_Passage) (k53 : Nat) (b7 : (List Tapi_Fact)) (c89 : (↑k53 : Int) < (↑r_0.Exclusions.length : Int)) (x90 : Tapi_Exclusion) (h91 : r_0.Exclusions[k53]? = some x90) (c92 : x90.ID = p_1.ID) (h93 : b7.length + 1 ≤ 4294967296) (h94 : InR .i64 ((↑k53 : Int) + 1)) : Does Tryd.prog GT 2 (bodyAt Tryd.prog 24 [1, 1, 1, 1, 0, 1, 0, 0]) (trace_facts_L81_H r_0 p_1 (k53, b7)) .normal (S 70 [(3, .ptr 0 0), (5, .ptr 1 0), (6, .fn (.func 53) [] [.ptr 1 0]), (51, .lst (fl Tapi_Exclusion.enc r_0.Exclusions) r_0.Exclusions.length), (52, .int .i64 (↑r_0.Exclusions.length : Int)), (53, .int .i64 ((↑k53 : Int) + 1))] [{ c := (Tapi_Passage.enc p_1), e := 87, ext := false, fz := 0, pl := true, o := false }, { c := [.vec 2 ((b7 ++ [(⟨([101, 120, 99, 108, 117, 115, 105, 111, 110] : List UInt8), x90.ID, x90.Why⟩ : Tapi_Fact)]).length) 3], e := 69, ext := false, fz := 0, pl := false, o := false }, { c := (fl Tapi_Fact.enc (b7 ++ [(⟨([101, 120, 99, 108, 117, 115, 105, 111, 110] : List UInt8), x90.ID, x90.Why⟩ : Tapi_Fact)])), e := 81, ext := true, fz := 0, pl := true, o := true }]) :=
  Does.of_viewM 2 400 ((.op none .a) :: (.br true) :: (.op none (.i k53)) :: (.op none (.v [.str x90.ID, .int .i64 x90.Why])) :: (cs 6 ((.op none .a) :: (.br true) :: (cs 12 [.op none (.ap 4), .tr (.eqc 5 (fl Tapi_Fact.enc (b7 ++ [(⟨([101, 120, 99, 108, 117, 115, 105, 111, 110] : List UInt8), x90.ID, x90.Why⟩ : Tapi_Fact)]))), .tr (.eqt (.t 13) (.vec 5 ((b7 ++ [(⟨([101, 120, 99, 108, 117, 115, 105, 111, 110] : List UInt8), x90.ID, x90.Why⟩ : Tapi_Fact)]).length) 3)), .op none .c, .op none .w, .op none .c])))) [0, 1, 5] (ps := [((decide ((↑k53 : Int) < (↑r_0.Exclusions.length : Int))) = true), ((↑k53 : Int) = ((k53 : Nat) : Int) ∧ k53 < r_0.Exclusions.length), ((fl Tapi_Exclusion.enc r_0.Exclusions) ≠ []), (sub (fl Tapi_Exclusion.enc r_0.Exclusions) (k53 * 2) 2 = [.str x90.ID, .int .i64 x90.Why]), ((x90.ID == p_1.ID) = true), (0 + 3 ≤ List.length ([.str [101, 120, 99, 108, 117, 115, 105, 111, 110], .str x90.ID, .int .i64 x90.Why] : List AV)), (List.length ((fl Tapi_Fact.enc b7) : List AV) = (b7.length * 3)), (List.all ([.str [101, 120, 99, 108, 117, 115, 105, 111, 110], .str x90.ID, .int .i64 x90.Why] : List AV) AV.one = true), (b7.length + 1 ≤ 4294967296), ((fl Tapi_Fact.enc b7) ++ [.str [101, 120, 99, 108, 117, 115, 105, 111, 110], .str x90.ID, .int .i64 x90.Why] = (fl Tapi_Fact.enc (b7 ++ [(⟨([101, 120, 99, 108, 117, 115, 105, 111, 110] : List UInt8), x90.ID, x90.Why⟩ : Tapi_Fact)]))), ((.vec 5 (b7.length + 1) 3 : AV) = .vec 5 ((b7 ++ [(⟨([101, 120, 99, 108, 117, 115, 105, 111, 110] : List UInt8), x90.ID, x90.Why⟩ : Tapi_Fact)]).length) 3), (IntKind.min .i64 ≤ ((↑k53 : Int) + 1) ∧ ((↑k53 : Int) + 1) ≤ IntKind.max .i64)]) (by kernel_rfl) (by kernel_rfl) ⟨(decide_eq_true c89), ⟨rfl, get_lt h91⟩, (fl_ne (f := Tapi_Exclusion.enc) (z := 1) (fun _ => rfl) h91), (fl_sub0 (f := Tapi_Exclusion.enc) (z := 2) (j := k53) (fun _ => rfl) h91 rfl), (beq_t c92), (Nat.le_of_ble_eq_true rfl), (fl_length (f := Tapi_Fact.enc) (z := 3) (fun _ => rfl) _), rfl, h93, (fl_snoc rfl), (by simp <;> omega), ok1 h94⟩
theorem trace_facts_L81_1 (r_0 : Tapi_Result) (p_1 : Tapi_Passage) (k53 : Nat) (b7 : (List Tapi_Fact)) (c89 : (↑k53 : Int) < (↑r_0.Exclusions.length : Int)) (x90 : Tapi_Exclusion) (h91 : r_0.Exclusions[k53]? = some x90) (c92 : ¬ (x90.ID = p_1.ID)) (h95 : InR .i64 ((↑k53 : Int) + 1)) : Does Tryd.prog GT 2 (bodyAt Tryd.prog 24 [1, 1, 1, 1, 0, 1, 0, 0]) (trace_facts_L81_H r_0 p_1 (k53, b7)) .normal (S 70 [(3, .ptr 0 0), (5, .ptr 1 0), (6, .fn (.func 53) [] [.ptr 1 0]), (51, .lst (fl Tapi_Exclusion.enc r_0.Exclusions) r_0.Exclusions.length), (52, .int .i64 (↑r_0.Exclusions.length : Int)), (53, .int .i64 ((↑k53 : Int) + 1))] [{ c := (Tapi_Passage.enc p_1), e := 87, ext := false, fz := 0, pl := true, o := false }, { c := [.vec 2 b7.length 3], e := 69, ext := false, fz := 0, pl := false, o := false }, { c := (fl Tapi_Fact.enc b7), e := 81, ext := true, fz := 0, pl := true, o := true }]) :=
  Does.of_viewM 2 400 ((.op none .a) :: (.br true) :: (.op none (.i k53)) :: (.op none (.v [.str x90.ID, .int .i64 x90.Why])) :: (cs 6 [.op none .a, .br false, .op none .w, .op none .c])) [0, 1, 2] (ps := [((decide ((↑k53 : Int) < (↑r_0.Exclusions.length : Int))) = true), ((↑k53 : Int) = ((k53 : Nat) : Int) ∧ k53 < r_0.Exclusions.length), ((fl Tapi_Exclusion.enc r_0.Exclusions) ≠ []), (sub (fl Tapi_Exclusion.enc r_0.Exclusions) (k53 * 2) 2 = [.str x90.ID, .int .i64 x90.Why]), ((x90.ID == p_1.ID) = false), (IntKind.min .i64 ≤ ((↑k53 : Int) + 1) ∧ ((↑k53 : Int) + 1) ≤ IntKind.max .i64)]) (by kernel_rfl) (by kernel_rfl) ⟨(decide_eq_true c89), ⟨rfl, get_lt h91⟩, (fl_ne (f := Tapi_Exclusion.enc) (z := 1) (fun _ => rfl) h91), (fl_sub0 (f := Tapi_Exclusion.enc) (z := 2) (j := k53) (fun _ => rfl) h91 rfl), (beq_f c92), ok1 h95⟩
theorem trace_facts_L81_2 (r_0 : Tapi_Result) (p_1 : Tapi_Passage) (k53 : Nat) (b7 : (List Tapi_Fact)) (c89 : ¬ ((↑k53 : Int) < (↑r_0.Exclusions.length : Int))) : Does Tryd.prog GT 2 (bodyAt Tryd.prog 24 [1, 1, 1, 1, 0, 1, 0, 0]) (trace_facts_L81_H r_0 p_1 (k53, b7)) (.exit 2) (S 70 [(5, .ptr 1 0)] [{ c := (Tapi_Passage.enc p_1), e := 87, ext := false, fz := 0, pl := true, o := false }, { c := [.vec 2 b7.length 3], e := 69, ext := false, fz := 0, pl := false, o := false }, { c := (fl Tapi_Fact.enc b7), e := 81, ext := true, fz := 0, pl := true, o := true }]) :=
  Does.of_viewM 2 400 [.op none .a, .br false] [0, 1, 2] (ps := [((decide ((↑k53 : Int) < (↑r_0.Exclusions.length : Int))) = false)]) (by kernel_rfl) (by kernel_rfl) (ok1 (decide_eq_false c89))
def trace_facts_L81_X (r_0 : Tapi_Result) (p_1 : Tapi_Passage) : (List Tapi_Fact) → AEx := fun o => (.exit 2)
def trace_facts_L81_E (r_0 : Tapi_Result) (p_1 : Tapi_Passage) : (List Tapi_Fact) → St := fun o => S 70 [(5, .ptr 1 0)] [{ c := (Tapi_Passage.enc p_1), e := 87, ext := false, fz := 0, pl := true, o := false }, { c := [.vec 2 o.length 3], e := 69, ext := false, fz := 0, pl := false, o := false }, { c := (fl Tapi_Fact.enc o), e := 81, ext := true, fz := 0, pl := true, o := true }]
theorem trace_facts_L81_does (r_0 : Tapi_Result) (p_1 : Tapi_Passage) {s : (Nat × (List Tapi_Fact))} {r : (List Tapi_Fact)} (h : lp (trace_facts_L81_step r_0 p_1) s = some r) : Does Tryd.prog GT 2 (.loop (bodyAt Tryd.prog 24 [1, 1, 1, 1, 0, 1, 0, 0])) (trace_facts_L81_H r_0 p_1 s) (trace_facts_L81_X r_0 p_1 r) (trace_facts_L81_E r_0 p_1 r) := by
  refine Does.lp (H := trace_facts_L81_H r_0 p_1) (X := trace_facts_L81_X r_0 p_1) (E := trace_facts_L81_E r_0 p_1) (fun s s2 h => ?_) (fun s r h => ?_) h
  · obtain ⟨k53, b7⟩ := s
    unfold trace_facts_L81_step at h
    try dsimp only at h
    rcases ite_some h with ⟨c89, h⟩ | ⟨c89, h⟩
    · obtain ⟨x90, h91, h⟩ := bind_some h
      rcases ite_some h with ⟨c92, h⟩ | ⟨c92, h⟩
      · obtain ⟨h93, h⟩ := guard_some h
        obtain ⟨h94, h⟩ := guard_some h
        simp only [Option.some.injEq, Sum.inl.injEq] at h
        subst h
        have hq := trace_facts_L81_0 r_0 p_1 k53 b7 c89 x90 h91 c92 h93 h94
        first | exact hq | exact Eq.mp (by simp only [trace_facts_L81_H, List.length_set] <;> rfl) hq
      · obtain ⟨h95, h⟩ := guard_some h
        simp only [Option.some.injEq, Sum.inl.injEq] at h
        subst h
        have hq := trace_facts_L81_1 r_0 p_1 k53 b7 c89 x90 h91 c92 h95
        first | exact hq | exact Eq.mp (by simp only [trace_facts_L81_H, List.length_set] <;> rfl) hq
    · simp at h
  · obtain ⟨k53, b7⟩ := s
    unfold trace_facts_L81_step at h
    try dsimp only at h
    rcases ite_some h with ⟨c89, h⟩ | ⟨c89, h⟩
    · obtain ⟨x90, h91, h⟩ := bind_some h
      rcases ite_some h with ⟨c92, h⟩ | ⟨c92, h⟩
      · obtain ⟨h93, h⟩ := guard_some h
        obtain ⟨h94, h⟩ := guard_some h
        simp at h
      · obtain ⟨h95, h⟩ := guard_some h
        simp at h
    · simp only [Option.some.injEq, Sum.inr.injEq] at h
      subst h
      exact ⟨trace_facts_L81_2 r_0 p_1 k53 b7 c89, by intro q; cases q⟩
noncomputable def trace_facts (r_0 : Tapi_Result) (p_1 : Tapi_Passage) : Option (List Tapi_Fact) :=
  (lp (trace_facts_L1_step r_0 p_1) ((0 : Nat), ([(⟨([112, 97, 115, 115, 97, 103, 101] : List UInt8), p_1.ID, 0⟩ : Tapi_Fact)] : (List Tapi_Fact)))).bind fun o1 =>
  (lp (trace_facts_L81_step r_0 p_1) ((0 : Nat), o1)).bind fun o81 =>
  some o81
theorem trace_facts_0 (r_0 : Tapi_Result) (p_1 : Tapi_Passage) (o1 : (List Tapi_Fact)) (hl1 : lp (trace_facts_L1_step r_0 p_1) ((0 : Nat), ([(⟨([112, 97, 115, 115, 97, 103, 101] : List UInt8), p_1.ID, 0⟩ : Tapi_Fact)] : (List Tapi_Fact))) = some o1) (o81 : (List Tapi_Fact)) (hl81 : lp (trace_facts_L81_step r_0 p_1) ((0 : Nat), o1) = some o81) : Ret Tryd.prog GT 24 [.agg (Tapi_Result.enc r_0), .agg (Tapi_Passage.enc p_1)] (.vec 0 o81.length 3) [{ c := (fl Tapi_Fact.enc o81), e := 81, ext := true, fz := 0, pl := true, o := true }] :=
  Ret.of_view 400 (cs 15 ((.tr (.wid (.c 3 0))) :: (.fcut 3 (.exit 0) [(2, .ptr 0 0), (3, .ptr 1 0), (5, .ptr 2 0), (6, .fn (.func 53) [] [.ptr 2 0])] [{ c := (Tapi_Result.enc r_0), e := 56, ext := false, fz := 0, pl := true, o := false }, { c := (Tapi_Passage.enc p_1), e := 87, ext := false, fz := 0, pl := true, o := false }, { c := [.vec 3 o1.length 3], e := 69, ext := false, fz := 0, pl := false, o := false }, { c := (fl Tapi_Fact.enc o1), e := 81, ext := true, fz := 0, pl := true, o := true }] [0, 1, 3, 2] [(2, .ptr 0 0), (3, .ptr 1 0), (5, .ptr 2 0), (6, .fn (.func 53) [] [.ptr 2 0]), (19, .lst (fl Tapi_Trip.enc r_0.Trips) r_0.Trips.length), (20, .int .i64 (↑r_0.Trips.length : Int)), (21, .int .i64 (↑(0 : Nat) : Int))] [{ c := (Tapi_Result.enc r_0), e := 56, ext := false, fz := 0, pl := true, o := false }, { c := (Tapi_Passage.enc p_1), e := 87, ext := false, fz := 0, pl := true, o := false }, { c := [.vec 3 (([(⟨([112, 97, 115, 115, 97, 103, 101] : List UInt8), p_1.ID, 0⟩ : Tapi_Fact)] : (List Tapi_Fact)).length) 3], e := 69, ext := false, fz := 0, pl := false, o := false }, { c := (fl Tapi_Fact.enc ([(⟨([112, 97, 115, 115, 97, 103, 101] : List UInt8), p_1.ID, 0⟩ : Tapi_Fact)] : (List Tapi_Fact))), e := 81, ext := true, fz := 0, pl := true, o := true }]) :: (cs 4 ((.fcut 2 (.exit 2) [(5, .ptr 1 0)] [{ c := (Tapi_Passage.enc p_1), e := 87, ext := false, fz := 0, pl := true, o := false }, { c := [.vec 2 o81.length 3], e := 69, ext := false, fz := 0, pl := false, o := false }, { c := (fl Tapi_Fact.enc o81), e := 81, ext := true, fz := 0, pl := true, o := true }] [1, 3, 7] [(3, .ptr 0 0), (5, .ptr 1 0), (6, .fn (.func 53) [] [.ptr 1 0]), (51, .lst (fl Tapi_Exclusion.enc r_0.Exclusions) r_0.Exclusions.length), (52, .int .i64 (↑r_0.Exclusions.length : Int)), (53, .int .i64 (↑(0 : Nat) : Int))] [{ c := (Tapi_Passage.enc p_1), e := 87, ext := false, fz := 0, pl := true, o := false }, { c := [.vec 2 o1.length 3], e := 69, ext := false, fz := 0, pl := false, o := false }, { c := (fl Tapi_Fact.enc o1), e := 81, ext := true, fz := 0, pl := true, o := true }]) :: (cs 2 []))))) [10] (ps := [(1 ≤ 1), ((.ptr 0 0 : AV) = .ptr 0 0), ((.ptr 1 0 : AV) = .ptr 1 0), ((.ptr 3 0 : AV) = .ptr 3 0), ((.fn (.func 53) [] [.ptr 3 0] : AV) = .fn (.func 53) [] [.ptr 3 0]), ((.lst (fl Tapi_Trip.enc r_0.Trips) r_0.Trips.length : AV) = .lst (fl Tapi_Trip.enc r_0.Trips) r_0.Trips.length), ((.int .i64 (↑r_0.Trips.length : Int) : AV) = .int .i64 (↑r_0.Trips.length : Int)), ((.int .i64 0 : AV) = .int .i64 (↑(0 : Nat) : Int)), (({ c := (Tapi_Result.enc r_0), e := 56, ext := false, fz := 0, pl := true, o := false } : Blk) = renB [0, 1, 3, 2] { c := (Tapi_Result.enc r_0), e := 56, ext := false, fz := 0, pl := true, o := false }), (({ c := (Tapi_Passage.enc p_1), e := 87, ext := false, fz := 0, pl := true, o := false } : Blk) = renB [0, 1, 3, 2] { c := (Tapi_Passage.enc p_1), e := 87, ext := false, fz := 0, pl := true, o := false }), (({ c := [.vec 2 1 3], e := 69, ext := false, fz := 0, pl := false, o := false } : Blk) = renB [0, 1, 3, 2] { c := [.vec 3 (([(⟨([112, 97, 115, 115, 97, 103, 101] : List UInt8), p_1.ID, 0⟩ : Tapi_Fact)] : (List Tapi_Fact)).length) 3], e := 69, ext := false, fz := 0, pl := false, o := false }), (({ c := [.str [112, 97, 115, 115, 97, 103, 101], .str p_1.ID, .int .i64 0], e := 81, ext := true, fz := 0, pl := true, o := true } : Blk) = renB [0, 1, 3, 2] { c := (fl Tapi_Fact.enc ([(⟨([112, 97, 115, 115, 97, 103, 101] : List UInt8), p_1.ID, 0⟩ : Tapi_Fact)] : (List Tapi_Fact))), e := 81, ext := true, fz := 0, pl := true, o := true }), (Does Tryd.prog GT 3 (.loop (bodyAt Tryd.prog 24 [1, 1, 1, 0, 1, 0, 0])) (S 70 [(2, .ptr 0 0), (3, .ptr 1 0), (5, .ptr 2 0), (6, .fn (.func 53) [] [.ptr 2 0]), (19, .lst (fl Tapi_Trip.enc r_0.Trips) r_0.Trips.length), (20, .int .i64 (↑r_0.Trips.length : Int)), (21, .int .i64 (↑(0 : Nat) : Int))] [{ c := (Tapi_Result.enc r_0), e := 56, ext := false, fz := 0, pl := true, o := false }, { c := (Tapi_Passage.enc p_1), e := 87, ext := false, fz := 0, pl := true, o := false }, { c := [.vec 3 (([(⟨([112, 97, 115, 115, 97, 103, 101] : List UInt8), p_1.ID, 0⟩ : Tapi_Fact)] : (List Tapi_Fact)).length) 3], e := 69, ext := false, fz := 0, pl := false, o := false }, { c := (fl Tapi_Fact.enc ([(⟨([112, 97, 115, 115, 97, 103, 101] : List UInt8), p_1.ID, 0⟩ : Tapi_Fact)] : (List Tapi_Fact))), e := 81, ext := true, fz := 0, pl := true, o := true }]) (.exit 0) (S 70 [(2, .ptr 0 0), (3, .ptr 1 0), (5, .ptr 2 0), (6, .fn (.func 53) [] [.ptr 2 0])] [{ c := (Tapi_Result.enc r_0), e := 56, ext := false, fz := 0, pl := true, o := false }, { c := (Tapi_Passage.enc p_1), e := 87, ext := false, fz := 0, pl := true, o := false }, { c := [.vec 3 o1.length 3], e := 69, ext := false, fz := 0, pl := false, o := false }, { c := (fl Tapi_Fact.enc o1), e := 81, ext := true, fz := 0, pl := true, o := true }])), ((.ptr 1 0 : AV) = .ptr 1 0), ((.ptr 3 0 : AV) = .ptr 3 0), ((.fn (.func 53) [] [.ptr 3 0] : AV) = .fn (.func 53) [] [.ptr 3 0]), ((.lst (fl Tapi_Exclusion.enc r_0.Exclusions) r_0.Exclusions.length : AV) = .lst (fl Tapi_Exclusion.enc r_0.Exclusions) r_0.Exclusions.length), ((.int .i64 (↑r_0.Exclusions.length : Int) : AV) = .int .i64 (↑r_0.Exclusions.length : Int)), ((.int .i64 0 : AV) = .int .i64 (↑(0 : Nat) : Int)), (({ c := (Tapi_Passage.enc p_1), e := 87, ext := false, fz := 0, pl := true, o := false } : Blk) = renB [1, 3, 7] { c := (Tapi_Passage.enc p_1), e := 87, ext := false, fz := 0, pl := true, o := false }), (({ c := [.vec 7 o1.length 3], e := 69, ext := false, fz := 0, pl := false, o := false } : Blk) = renB [1, 3, 7] { c := [.vec 2 o1.length 3], e := 69, ext := false, fz := 0, pl := false, o := false }), (({ c := (fl Tapi_Fact.enc o1), e := 81, ext := true, fz := 0, pl := true, o := true } : Blk) = renB [1, 3, 7] { c := (fl Tapi_Fact.enc o1), e := 81, ext := true, fz := 0, pl := true, o := true }), (Does Tryd.prog GT 2 (.loop (bodyAt Tryd.prog 24 [1, 1, 1, 1, 0, 1, 0, 0])) (S 70 [(3, .ptr 0 0), (5, .ptr 1 0), (6, .fn (.func 53) [] [.ptr 1 0]), (51, .lst (fl Tapi_Exclusion.enc r_0.Exclusions) r_0.Exclusions.length), (52, .int .i64 (↑r_0.Exclusions.length : Int)), (53, .int .i64 (↑(0 : Nat) : Int))] [{ c := (Tapi_Passage.enc p_1), e := 87, ext := false, fz := 0, pl := true, o := false }, { c := [.vec 2 o1.length 3], e := 69, ext := false, fz := 0, pl := false, o := false }, { c := (fl Tapi_Fact.enc o1), e := 81, ext := true, fz := 0, pl := true, o := true }]) (.exit 2) (S 70 [(5, .ptr 1 0)] [{ c := (Tapi_Passage.enc p_1), e := 87, ext := false, fz := 0, pl := true, o := false }, { c := [.vec 2 o81.length 3], e := 69, ext := false, fz := 0, pl := false, o := false }, { c := (fl Tapi_Fact.enc o81), e := 81, ext := true, fz := 0, pl := true, o := true }]))]) (by kernel_rfl) (by kernel_rfl) ⟨(Nat.le_refl _), rfl, rfl, rfl, rfl, rfl, rfl, rfl, rfl, rfl, rfl, rfl, (trace_facts_L1_does r_0 p_1 hl1), rfl, rfl, rfl, rfl, rfl, rfl, rfl, rfl, rfl, ok1 (trace_facts_L81_does r_0 p_1 hl81)⟩
theorem trace_facts_ret (r_0 : Tapi_Result) (p_1 : Tapi_Passage) (r : (List Tapi_Fact)) (h : trace_facts r_0 p_1 = some r) : Ret Tryd.prog GT 24 [.agg (Tapi_Result.enc r_0), .agg (Tapi_Passage.enc p_1)] (.vec 0 r.length 3) [{ c := (fl Tapi_Fact.enc r), e := 81, ext := true, fz := 0, pl := true, o := true }] := by
  unfold trace_facts at h
  obtain ⟨o1, hl1, h⟩ := bind_some h
  obtain ⟨o81, hl81, h⟩ := bind_some h
  simp only [Option.some.injEq] at h
  subst h
  exact trace_facts_0 r_0 p_1 o1 hl1 o81 hl81
noncomputable def trace_Detection_L6_step (s_0 : Tapi_State) (x_1 : Tapi_Source) : (Nat × (List Tapi_Fact)) → Option ((Nat × (List Tapi_Fact)) ⊕ (List Tapi_Fact))
  | (k23, b2) =>
    if (↑k23 : Int) < (↑s_0.Result.Rejects.length : Int) then
      (s_0.Result.Rejects[k23]?).bind fun x19 =>
      (trace_from x19.D x_1).bind fun r21 =>
      if r21 = true then
        (trace_key x_1).bind fun r24 =>
        if b2.length + 1 ≤ 4294967296 then
          if InR .i64 ((↑k23 : Int) + 1) then
            some (Sum.inl ((k23 + 1), (b2 ++ [(⟨([114, 101, 106, 101, 99, 116] : List UInt8), r24, x19.Why⟩ : Tapi_Fact)])))
          else none
        else none
      else
        if InR .i64 ((↑k23 : Int) + 1) then
          some (Sum.inl ((k23 + 1), b2))
        else none
    else
      some (Sum.inr b2)
def trace_Detection_L6_H (s_0 : Tapi_State) (x_1 : Tapi_Source) : (Nat × (List Tapi_Fact)) → St := fun (s : (Nat × (List Tapi_Fact))) => S 60 [(2, .ptr 0 0), (3, .ptr 1 0), (6, .vec 2 s.2.length 3), (21, .lst (fl Tapi_Reject.enc s_0.Result.Rejects) s_0.Result.Rejects.length), (22, .int .i64 (↑s_0.Result.Rejects.length : Int)), (23, .int .i64 (↑s.1 : Int))] [{ c := (Tapi_State.enc s_0), e := 64, ext := false, fz := 0, pl := true, o := false }, { c := (Tapi_Source.enc x_1), e := 66, ext := false, fz := 0, pl := true, o := false }, { c := (fl Tapi_Fact.enc s.2), e := 81, ext := true, fz := 0, pl := true, o := true }]
theorem trace_Detection_L6_0 (s_0 : Tapi_State) (x_1 : Tapi_Source) (k23 : Nat) (b2 : (List Tapi_Fact)) (c18 : (↑k23 : Int) < (↑s_0.Result.Rejects.length : Int)) (x19 : Tapi_Reject) (h20 : s_0.Result.Rejects[k23]? = some x19) (r21 : Bool) (h22 : trace_from x19.D x_1 = some r21) (c23 : r21 = true) (r24 : (List UInt8)) (h25 : trace_key x_1 = some r24) (h26 : b2.length + 1 ≤ 4294967296) (h27 : InR .i64 ((↑k23 : Int) + 1)) : Does Tryd.prog GT 2 (bodyAt Tryd.prog 9 [1, 1, 1, 0, 1, 0, 0]) (trace_Detection_L6_H s_0 x_1 (k23, b2)) .normal (S 60 [(2, .ptr 0 0), (3, .ptr 1 0), (6, .vec 2 ((b2 ++ [(⟨([114, 101, 106, 101, 99, 116] : List UInt8), r24, x19.Why⟩ : Tapi_Fact)]).length) 3), (21, .lst (fl Tapi_Reject.enc s_0.Result.Rejects) s_0.Result.Rejects.length), (22, .int .i64 (↑s_0.Result.Rejects.length : Int)), (23, .int .i64 ((↑k23 : Int) + 1))] [{ c := (Tapi_State.enc s_0), e := 64, ext := false, fz := 0, pl := true, o := false }, { c := (Tapi_Source.enc x_1), e := 66, ext := false, fz := 0, pl := true, o := false }, { c := (fl Tapi_Fact.enc (b2 ++ [(⟨([114, 101, 106, 101, 99, 116] : List UInt8), r24, x19.Why⟩ : Tapi_Fact)])), e := 81, ext := true, fz := 0, pl := true, o := true }]) :=
  Does.of_viewM 2 400 ((.op none .a) :: (.br true) :: (.op none (.i k23)) :: (.op none (.v [.str x19.D.Device, .int .i64 x19.D.Seq, .int .i64 x19.D.Time, .str x19.D.Tag, .str x19.D.Plate, .int .i64 x19.D.Axles, .int .i64 x19.D.Score, .int .i64 x19.Why])) :: (cs 5 ((.ret none [.agg (Tapi_Detection.enc x19.D), .agg (Tapi_Source.enc x_1)] (.bool r21) []) :: (.br true) :: (cs 2 ((.ret none [.agg (Tapi_Source.enc x_1)] (.str r24) []) :: (cs 4 [.op none (.ap 4), .trp (.eqc 5 (fl Tapi_Fact.enc (b2 ++ [(⟨([114, 101, 106, 101, 99, 116] : List UInt8), r24, x19.Why⟩ : Tapi_Fact)]))), .trp (.eqt (.t 38) (.vec 5 ((b2 ++ [(⟨([114, 101, 106, 101, 99, 116] : List UInt8), r24, x19.Why⟩ : Tapi_Fact)]).length) 3)), .op none .c, .op none .w, .op none .c])))))) [0, 1, 5] (ps := [((decide ((↑k23 : Int) < (↑s_0.Result.Rejects.length : Int))) = true), ((↑k23 : Int) = ((k23 : Nat) : Int) ∧ k23 < s_0.Result.Rejects.length), ((fl Tapi_Reject.enc s_0.Result.Rejects) ≠ []), (sub (fl Tapi_Reject.enc s_0.Result.Rejects) (k23 * 8) 8 = [.str x19.D.Device, .int .i64 x19.D.Seq, .int .i64 x19.D.Time, .str x19.D.Tag, .str x19.D.Plate, .int .i64 x19.D.Axles, .int .i64 x19.D.Score, .int .i64 x19.Why]), ((.agg (Tapi_Detection.enc x19.D) : AV) = .agg (Tapi_Detection.enc x19.D)), ((.agg (Tapi_Source.enc x_1) : AV) = .agg (Tapi_Source.enc x_1)), (Ret Tryd.prog GT 22 [.agg (Tapi_Detection.enc x19.D), .agg (Tapi_Source.enc x_1)] (.bool r21) []), (r21 = true), ((.agg (Tapi_Source.enc x_1) : AV) = .agg (Tapi_Source.enc x_1)), (Ret Tryd.prog GT 21 [.agg (Tapi_Source.enc x_1)] (.str r24) []), (0 + 3 ≤ List.length ([.str [114, 101, 106, 101, 99, 116], .str r24, .int .i64 x19.Why] : List AV)), (List.length ((fl Tapi_Fact.enc b2) : List AV) = (b2.length * 3)), (List.all ([.str [114, 101, 106, 101, 99, 116], .str r24, .int .i64 x19.Why] : List AV) AV.one = true), (b2.length + 1 ≤ 4294967296), ((fl Tapi_Fact.enc b2) ++ [.str [114, 101, 106, 101, 99, 116], .str r24, .int .i64 x19.Why] = (fl Tapi_Fact.enc (b2 ++ [(⟨([114, 101, 106, 101, 99, 116] : List UInt8), r24, x19.Why⟩ : Tapi_Fact)]))), ((.vec 5 (b2.length + 1) 3 : AV) = .vec 5 ((b2 ++ [(⟨([114, 101, 106, 101, 99, 116] : List UInt8), r24, x19.Why⟩ : Tapi_Fact)]).length) 3), ((some (Ob.blk { c := [.str [114, 101, 106, 101, 99, 116], .str r24, .int .i64 x19.Why], e := 81, ext := false, fz := 0, pl := true, o := false }) = some (Ob.blk { c := [.str [114, 101, 106, 101, 99, 116], .str r24, .int .i64 x19.Why], e := 81, ext := false, fz := 0, pl := true, o := false })) ∧ True), (IntKind.min .i64 ≤ ((↑k23 : Int) + 1) ∧ ((↑k23 : Int) + 1) ≤ IntKind.max .i64)]) (by kernel_rfl) (by kernel_rfl) ⟨(decide_eq_true c18), ⟨rfl, get_lt h20⟩, (fl_ne (f := Tapi_Reject.enc) (z := 7) (fun _ => rfl) h20), (fl_sub0 (f := Tapi_Reject.enc) (z := 8) (j := k23) (fun _ => rfl) h20 rfl), rfl, rfl, (trace_from_ret x19.D x_1 r21 h22), c23, rfl, (trace_key_ret x_1 r24 h25), (Nat.le_of_ble_eq_true rfl), (fl_length (f := Tapi_Fact.enc) (z := 3) (fun _ => rfl) _), rfl, h26, (fl_snoc rfl), (by simp <;> omega), ⟨rfl, trivial⟩, ok1 h27⟩
theorem trace_Detection_L6_1 (s_0 : Tapi_State) (x_1 : Tapi_Source) (k23 : Nat) (b2 : (List Tapi_Fact)) (c18 : (↑k23 : Int) < (↑s_0.Result.Rejects.length : Int)) (x19 : Tapi_Reject) (h20 : s_0.Result.Rejects[k23]? = some x19) (r21 : Bool) (h22 : trace_from x19.D x_1 = some r21) (c23 : ¬ (r21 = true)) (h28 : InR .i64 ((↑k23 : Int) + 1)) : Does Tryd.prog GT 2 (bodyAt Tryd.prog 9 [1, 1, 1, 0, 1, 0, 0]) (trace_Detection_L6_H s_0 x_1 (k23, b2)) .normal (S 60 [(2, .ptr 0 0), (3, .ptr 1 0), (6, .vec 2 b2.length 3), (21, .lst (fl Tapi_Reject.enc s_0.Result.Rejects) s_0.Result.Rejects.length), (22, .int .i64 (↑s_0.Result.Rejects.length : Int)), (23, .int .i64 ((↑k23 : Int) + 1))] [{ c := (Tapi_State.enc s_0), e := 64, ext := false, fz := 0, pl := true, o := false }, { c := (Tapi_Source.enc x_1), e := 66, ext := false, fz := 0, pl := true, o := false }, { c := (fl Tapi_Fact.enc b2), e := 81, ext := true, fz := 0, pl := true, o := true }]) :=
  Does.of_viewM 2 400 ((.op none .a) :: (.br true) :: (.op none (.i k23)) :: (.op none (.v [.str x19.D.Device, .int .i64 x19.D.Seq, .int .i64 x19.D.Time, .str x19.D.Tag, .str x19.D.Plate, .int .i64 x19.D.Axles, .int .i64 x19.D.Score, .int .i64 x19.Why])) :: (cs 5 [.ret none [.agg (Tapi_Detection.enc x19.D), .agg (Tapi_Source.enc x_1)] (.bool r21) [], .br false, .op none .w, .op none .c])) [0, 1, 2] (ps := [((decide ((↑k23 : Int) < (↑s_0.Result.Rejects.length : Int))) = true), ((↑k23 : Int) = ((k23 : Nat) : Int) ∧ k23 < s_0.Result.Rejects.length), ((fl Tapi_Reject.enc s_0.Result.Rejects) ≠ []), (sub (fl Tapi_Reject.enc s_0.Result.Rejects) (k23 * 8) 8 = [.str x19.D.Device, .int .i64 x19.D.Seq, .int .i64 x19.D.Time, .str x19.D.Tag, .str x19.D.Plate, .int .i64 x19.D.Axles, .int .i64 x19.D.Score, .int .i64 x19.Why]), ((.agg (Tapi_Detection.enc x19.D) : AV) = .agg (Tapi_Detection.enc x19.D)), ((.agg (Tapi_Source.enc x_1) : AV) = .agg (Tapi_Source.enc x_1)), (Ret Tryd.prog GT 22 [.agg (Tapi_Detection.enc x19.D), .agg (Tapi_Source.enc x_1)] (.bool r21) []), (r21 = false), (IntKind.min .i64 ≤ ((↑k23 : Int) + 1) ∧ ((↑k23 : Int) + 1) ≤ IntKind.max .i64)]) (by kernel_rfl) (by kernel_rfl) ⟨(decide_eq_true c18), ⟨rfl, get_lt h20⟩, (fl_ne (f := Tapi_Reject.enc) (z := 7) (fun _ => rfl) h20), (fl_sub0 (f := Tapi_Reject.enc) (z := 8) (j := k23) (fun _ => rfl) h20 rfl), rfl, rfl, (trace_from_ret x19.D x_1 r21 h22), (eq_false_of_ne_true c23), ok1 h28⟩
theorem trace_Detection_L6_2 (s_0 : Tapi_State) (x_1 : Tapi_Source) (k23 : Nat) (b2 : (List Tapi_Fact)) (c18 : ¬ ((↑k23 : Int) < (↑s_0.Result.Rejects.length : Int))) : Does Tryd.prog GT 2 (bodyAt Tryd.prog 9 [1, 1, 1, 0, 1, 0, 0]) (trace_Detection_L6_H s_0 x_1 (k23, b2)) (.exit 0) (S 60 [(2, .ptr 0 0), (3, .ptr 1 0), (6, .vec 2 b2.length 3)] [{ c := (Tapi_State.enc s_0), e := 64, ext := false, fz := 0, pl := true, o := false }, { c := (Tapi_Source.enc x_1), e := 66, ext := false, fz := 0, pl := true, o := false }, { c := (fl Tapi_Fact.enc b2), e := 81, ext := true, fz := 0, pl := true, o := true }]) :=
  Does.of_viewM 2 400 [.op none .a, .br false] [0, 1, 2] (ps := [((decide ((↑k23 : Int) < (↑s_0.Result.Rejects.length : Int))) = false)]) (by kernel_rfl) (by kernel_rfl) (ok1 (decide_eq_false c18))
def trace_Detection_L6_X (s_0 : Tapi_State) (x_1 : Tapi_Source) : (List Tapi_Fact) → AEx := fun o => (.exit 0)
def trace_Detection_L6_E (s_0 : Tapi_State) (x_1 : Tapi_Source) : (List Tapi_Fact) → St := fun o => S 60 [(2, .ptr 0 0), (3, .ptr 1 0), (6, .vec 2 o.length 3)] [{ c := (Tapi_State.enc s_0), e := 64, ext := false, fz := 0, pl := true, o := false }, { c := (Tapi_Source.enc x_1), e := 66, ext := false, fz := 0, pl := true, o := false }, { c := (fl Tapi_Fact.enc o), e := 81, ext := true, fz := 0, pl := true, o := true }]
theorem trace_Detection_L6_does (s_0 : Tapi_State) (x_1 : Tapi_Source) {s : (Nat × (List Tapi_Fact))} {r : (List Tapi_Fact)} (h : lp (trace_Detection_L6_step s_0 x_1) s = some r) : Does Tryd.prog GT 2 (.loop (bodyAt Tryd.prog 9 [1, 1, 1, 0, 1, 0, 0])) (trace_Detection_L6_H s_0 x_1 s) (trace_Detection_L6_X s_0 x_1 r) (trace_Detection_L6_E s_0 x_1 r) := by
  refine Does.lp (H := trace_Detection_L6_H s_0 x_1) (X := trace_Detection_L6_X s_0 x_1) (E := trace_Detection_L6_E s_0 x_1) (fun s s2 h => ?_) (fun s r h => ?_) h
  · obtain ⟨k23, b2⟩ := s
    unfold trace_Detection_L6_step at h
    try dsimp only at h
    rcases ite_some h with ⟨c18, h⟩ | ⟨c18, h⟩
    · obtain ⟨x19, h20, h⟩ := bind_some h
      obtain ⟨r21, h22, h⟩ := bind_some h
      rcases ite_some h with ⟨c23, h⟩ | ⟨c23, h⟩
      · obtain ⟨r24, h25, h⟩ := bind_some h
        obtain ⟨h26, h⟩ := guard_some h
        obtain ⟨h27, h⟩ := guard_some h
        simp only [Option.some.injEq, Sum.inl.injEq] at h
        subst h
        have hq := trace_Detection_L6_0 s_0 x_1 k23 b2 c18 x19 h20 r21 h22 c23 r24 h25 h26 h27
        first | exact hq | exact Eq.mp (by simp only [trace_Detection_L6_H, List.length_set] <;> rfl) hq
      · obtain ⟨h28, h⟩ := guard_some h
        simp only [Option.some.injEq, Sum.inl.injEq] at h
        subst h
        have hq := trace_Detection_L6_1 s_0 x_1 k23 b2 c18 x19 h20 r21 h22 c23 h28
        first | exact hq | exact Eq.mp (by simp only [trace_Detection_L6_H, List.length_set] <;> rfl) hq
    · simp at h
  · obtain ⟨k23, b2⟩ := s
    unfold trace_Detection_L6_step at h
    try dsimp only at h
    rcases ite_some h with ⟨c18, h⟩ | ⟨c18, h⟩
    · obtain ⟨x19, h20, h⟩ := bind_some h
      obtain ⟨r21, h22, h⟩ := bind_some h
      rcases ite_some h with ⟨c23, h⟩ | ⟨c23, h⟩
      · obtain ⟨r24, h25, h⟩ := bind_some h
        obtain ⟨h26, h⟩ := guard_some h
        obtain ⟨h27, h⟩ := guard_some h
        simp at h
      · obtain ⟨h28, h⟩ := guard_some h
        simp at h
    · simp only [Option.some.injEq, Sum.inr.injEq] at h
      subst h
      exact ⟨trace_Detection_L6_2 s_0 x_1 k23 b2 c18, by intro q; cases q⟩
noncomputable def trace_Detection_L54_step (x_1 : Tapi_Source) (x52 : Tapi_Passage) : Nat → Option (Nat ⊕ (Int ⊕ Unit)) := fun k8 =>
  if (↑k8 : Int) < (↑x52.Sources.length : Int) then
    (x52.Sources[k8]?).bind fun x61 =>
    if ((x_1.Device == x61.Device) && ((x_1.Seq == x61.Seq) && true)) = true then
      some (Sum.inr (Sum.inl (↑k8 : Int)))
    else
      if InR .i64 ((↑k8 : Int) + 1) then
        some (Sum.inl (k8 + 1))
      else none
  else
    some (Sum.inr (Sum.inr (())))
def trace_Detection_L54_H (x_1 : Tapi_Source) (x52 : Tapi_Passage) : Nat → St := fun (s : Nat) => S 19 [(0, .lst (fl Tapi_Source.enc x52.Sources) x52.Sources.length), (3, .ptr 0 0), (7, .int .i64 (↑x52.Sources.length : Int)), (8, .int .i64 (↑s : Int))] [{ c := (Tapi_Source.enc x_1), e := 66, ext := false, fz := 0, pl := true, o := false }]
theorem trace_Detection_L54_0 (x_1 : Tapi_Source) (x52 : Tapi_Passage) (k8 : Nat) (c60 : (↑k8 : Int) < (↑x52.Sources.length : Int)) (x61 : Tapi_Source) (h62 : x52.Sources[k8]? = some x61) (c63 : ((x_1.Device == x61.Device) && ((x_1.Seq == x61.Seq) && true)) = true) : Does Tryd.prog GT 1 (bodyAt Tryd.prog 52 [1, 0, 1, 0, 0]) (trace_Detection_L54_H x_1 x52 k8) .ret (S 19 [(4, .int .i64 (↑k8 : Int))] [{ c := (Tapi_Source.enc x_1), e := 66, ext := false, fz := 0, pl := true, o := false }]) :=
  Does.of_viewM 1 400 ((.op none .a) :: (.br true) :: (cs 5 ((.op none (.i k8)) :: (.op none (.v [.str x61.Device, .int .i64 x61.Seq])) :: (.op none .c) :: (.br true) :: (cs 2 [])))) [0] (ps := [((decide ((↑k8 : Int) < (↑x52.Sources.length : Int))) = true), ((↑k8 : Int) = ((k8 : Nat) : Int) ∧ k8 < x52.Sources.length), ((fl Tapi_Source.enc x52.Sources) ≠ []), (sub (fl Tapi_Source.enc x52.Sources) (k8 * 2) 2 = [.str x61.Device, .int .i64 x61.Seq]), (((x_1.Device == x61.Device) && ((x_1.Seq == x61.Seq) && true)) = true)]) (by kernel_rfl) (by kernel_rfl) ⟨(decide_eq_true c60), ⟨rfl, get_lt h62⟩, (fl_ne (f := Tapi_Source.enc) (z := 1) (fun _ => rfl) h62), (fl_sub0 (f := Tapi_Source.enc) (z := 2) (j := k8) (fun _ => rfl) h62 rfl), ok1 c63⟩
theorem trace_Detection_L54_1 (x_1 : Tapi_Source) (x52 : Tapi_Passage) (k8 : Nat) (c60 : (↑k8 : Int) < (↑x52.Sources.length : Int)) (x61 : Tapi_Source) (h62 : x52.Sources[k8]? = some x61) (c63 : ¬ (((x_1.Device == x61.Device) && ((x_1.Seq == x61.Seq) && true)) = true)) (h64 : InR .i64 ((↑k8 : Int) + 1)) : Does Tryd.prog GT 1 (bodyAt Tryd.prog 52 [1, 0, 1, 0, 0]) (trace_Detection_L54_H x_1 x52 k8) .normal (S 19 [(0, .lst (fl Tapi_Source.enc x52.Sources) x52.Sources.length), (3, .ptr 0 0), (7, .int .i64 (↑x52.Sources.length : Int)), (8, .int .i64 ((↑k8 : Int) + 1))] [{ c := (Tapi_Source.enc x_1), e := 66, ext := false, fz := 0, pl := true, o := false }]) :=
  Does.of_viewM 1 400 ((.op none .a) :: (.br true) :: (cs 5 [.op none (.i k8), .op none (.v [.str x61.Device, .int .i64 x61.Seq]), .op none .c, .br false, .op none .w, .op none .c])) [0] (ps := [((decide ((↑k8 : Int) < (↑x52.Sources.length : Int))) = true), ((↑k8 : Int) = ((k8 : Nat) : Int) ∧ k8 < x52.Sources.length), ((fl Tapi_Source.enc x52.Sources) ≠ []), (sub (fl Tapi_Source.enc x52.Sources) (k8 * 2) 2 = [.str x61.Device, .int .i64 x61.Seq]), (((x_1.Device == x61.Device) && ((x_1.Seq == x61.Seq) && true)) = false), (IntKind.min .i64 ≤ ((↑k8 : Int) + 1) ∧ ((↑k8 : Int) + 1) ≤ IntKind.max .i64)]) (by kernel_rfl) (by kernel_rfl) ⟨(decide_eq_true c60), ⟨rfl, get_lt h62⟩, (fl_ne (f := Tapi_Source.enc) (z := 1) (fun _ => rfl) h62), (fl_sub0 (f := Tapi_Source.enc) (z := 2) (j := k8) (fun _ => rfl) h62 rfl), (eq_false_of_ne_true c63), ok1 h64⟩
theorem trace_Detection_L54_2 (x_1 : Tapi_Source) (x52 : Tapi_Passage) (k8 : Nat) (c60 : ¬ ((↑k8 : Int) < (↑x52.Sources.length : Int))) : Does Tryd.prog GT 1 (bodyAt Tryd.prog 52 [1, 0, 1, 0, 0]) (trace_Detection_L54_H x_1 x52 k8) (.exit 0) (S 19 [] [{ c := (Tapi_Source.enc x_1), e := 66, ext := false, fz := 0, pl := true, o := false }]) :=
  Does.of_viewM 1 400 [.op none .a, .br false] [0] (ps := [((decide ((↑k8 : Int) < (↑x52.Sources.length : Int))) = false)]) (by kernel_rfl) (by kernel_rfl) (ok1 (decide_eq_false c60))
def trace_Detection_L54_X (x_1 : Tapi_Source) (x52 : Tapi_Passage) : (Int ⊕ Unit) → AEx := fun q => match q with | Sum.inl o => .ret | Sum.inr (o) => (.exit 0)
def trace_Detection_L54_E (x_1 : Tapi_Source) (x52 : Tapi_Passage) : (Int ⊕ Unit) → St := fun q => match q with | Sum.inl o => S 19 [(4, .int .i64 o)] [{ c := (Tapi_Source.enc x_1), e := 66, ext := false, fz := 0, pl := true, o := false }] | Sum.inr (o) => S 19 [] [{ c := (Tapi_Source.enc x_1), e := 66, ext := false, fz := 0, pl := true, o := false }]
theorem trace_Detection_L54_does (x_1 : Tapi_Source) (x52 : Tapi_Passage) {s : Nat} {r : Int ⊕ Unit} (h : lp (trace_Detection_L54_step x_1 x52) s = some r) : Does Tryd.prog GT 1 (.loop (bodyAt Tryd.prog 52 [1, 0, 1, 0, 0])) (trace_Detection_L54_H x_1 x52 s) (trace_Detection_L54_X x_1 x52 r) (trace_Detection_L54_E x_1 x52 r) := by
  refine Does.lp (H := trace_Detection_L54_H x_1 x52) (X := trace_Detection_L54_X x_1 x52) (E := trace_Detection_L54_E x_1 x52) (fun s s2 h => ?_) (fun s r h => ?_) h
  · revert h; revert s; intro k8 h
    unfold trace_Detection_L54_step at h
    try dsimp only at h
    rcases ite_some h with ⟨c60, h⟩ | ⟨c60, h⟩
    · obtain ⟨x61, h62, h⟩ := bind_some h
      rcases ite_some h with ⟨c63, h⟩ | ⟨c63, h⟩
      · simp at h
      · obtain ⟨h64, h⟩ := guard_some h
        simp only [Option.some.injEq, Sum.inl.injEq] at h
        subst h
        have hq := trace_Detection_L54_1 x_1 x52 k8 c60 x61 h62 c63 h64
        first | exact hq | exact Eq.mp (by simp only [trace_Detection_L54_H, List.length_set] <;> rfl) hq
    · simp at h
  · revert h; revert s; intro k8 h
    unfold trace_Detection_L54_step at h
    try dsimp only at h
    rcases ite_some h with ⟨c60, h⟩ | ⟨c60, h⟩
    · obtain ⟨x61, h62, h⟩ := bind_some h
      rcases ite_some h with ⟨c63, h⟩ | ⟨c63, h⟩
      · simp only [Option.some.injEq, Sum.inr.injEq] at h
        subst h
        exact ⟨trace_Detection_L54_0 x_1 x52 k8 c60 x61 h62 c63, by intro q; cases q⟩
      · obtain ⟨h64, h⟩ := guard_some h
        simp at h
    · simp only [Option.some.injEq, Sum.inr.injEq] at h
      subst h
      exact ⟨trace_Detection_L54_2 x_1 x52 k8 c60, by intro q; cases q⟩
noncomputable def trace_Detection_L29_step (s_0 : Tapi_State) (x_1 : Tapi_Source) : (Nat × (List Tapi_Fact)) → Option ((Nat × (List Tapi_Fact)) ⊕ (List Tapi_Fact))
  | (k44, b5) =>
    if (↑k44 : Int) < (↑s_0.Result.Passages.length : Int) then
      (s_0.Result.Passages[k44]?).bind fun x52 =>
      (lp (trace_Detection_L54_step x_1 x52) (0 : Nat)).bind fun qq => match qq with
      | Sum.inl o54 =>
        if o54 ≥ (0 : Int) then
          (trace_facts s_0.Result x52).bind fun r66 =>
          if b5.length + r66.length ≤ 4294967296 then
            if InR .i64 ((↑k44 : Int) + 1) then
              some (Sum.inl ((k44 + 1), (b5 ++ r66)))
            else none
          else none
        else
          if InR .i64 ((↑k44 : Int) + 1) then
            some (Sum.inl ((k44 + 1), b5))
          else none
      | Sum.inr (o54) =>
        if InR .i64 ((↑k44 : Int) + 1) then
          some (Sum.inl ((k44 + 1), b5))
        else none
    else
      some (Sum.inr b5)
def trace_Detection_L29_H (s_0 : Tapi_State) (x_1 : Tapi_Source) : (Nat × (List Tapi_Fact)) → St := fun (s : (Nat × (List Tapi_Fact))) => S 60 [(2, .ptr 0 0), (3, .ptr 1 0), (6, .vec 2 s.2.length 3), (42, .lst (fl Tapi_Passage.enc s_0.Result.Passages) s_0.Result.Passages.length), (43, .int .i64 (↑s_0.Result.Passages.length : Int)), (44, .int .i64 (↑s.1 : Int))] [{ c := (Tapi_State.enc s_0), e := 64, ext := false, fz := 0, pl := true, o := false }, { c := (Tapi_Source.enc x_1), e := 66, ext := false, fz := 0, pl := true, o := false }, { c := (fl Tapi_Fact.enc s.2), e := 81, ext := true, fz := 0, pl := true, o := true }]
theorem trace_Detection_L29_0 (s_0 : Tapi_State) (x_1 : Tapi_Source) (k44 : Nat) (b5 : (List Tapi_Fact)) (c51 : (↑k44 : Int) < (↑s_0.Result.Passages.length : Int)) (x52 : Tapi_Passage) (h53 : s_0.Result.Passages[k44]? = some x52) (o54 : Int) (hl54 : lp (trace_Detection_L54_step x_1 x52) (0 : Nat) = some (Sum.inl o54)) (c65 : o54 ≥ (0 : Int)) (r66 : (List Tapi_Fact)) (h67 : trace_facts s_0.Result x52 = some r66) (h68 : b5.length + r66.length ≤ 4294967296) (h69 : InR .i64 ((↑k44 : Int) + 1)) : Does Tryd.prog GT 2 (bodyAt Tryd.prog 9 [1, 1, 1, 1, 0, 1, 0, 0]) (trace_Detection_L29_H s_0 x_1 (k44, b5)) .normal (S 60 [(2, .ptr 0 0), (3, .ptr 1 0), (6, .vec 2 ((b5 ++ r66).length) 3), (42, .lst (fl Tapi_Passage.enc s_0.Result.Passages) s_0.Result.Passages.length), (43, .int .i64 (↑s_0.Result.Passages.length : Int)), (44, .int .i64 ((↑k44 : Int) + 1))] [{ c := (Tapi_State.enc s_0), e := 64, ext := false, fz := 0, pl := true, o := false }, { c := (Tapi_Source.enc x_1), e := 66, ext := false, fz := 0, pl := true, o := false }, { c := (fl Tapi_Fact.enc (b5 ++ r66)), e := 81, ext := true, fz := 0, pl := true, o := true }]) :=
  Does.of_viewM 2 400 ((.op none .a) :: (.br true) :: (.op none (.i k44)) :: (.op none (.v [.str x52.ID, .str x52.Point, .int .i64 x52.Time, .str x52.Tag, .str x52.Plate, .int .i64 x52.Class, .int .i64 x52.Score, .lst (fl Tapi_Source.enc x52.Sources) x52.Sources.length])) :: (cs 16 ((.fcut 1 .ret [(4, .int .i64 o54)] [{ c := (Tapi_Source.enc x_1), e := 66, ext := false, fz := 0, pl := true, o := false }] [5] [(0, .lst (fl Tapi_Source.enc x52.Sources) x52.Sources.length), (3, .ptr 0 0), (7, .int .i64 (↑x52.Sources.length : Int)), (8, .int .i64 (↑(0 : Nat) : Int))] [{ c := (Tapi_Source.enc x_1), e := 66, ext := false, fz := 0, pl := true, o := false }]) :: (.op none .a) :: (.op none .c) :: (.br true) :: (cs 4 [.ret none [.agg (Tapi_Result.enc s_0.Result), .agg (Tapi_Passage.enc x52)] (.vec 0 r66.length 3) [{ c := (fl Tapi_Fact.enc r66), e := 81, ext := true, fz := 0, pl := true, o := true }], .op none (.ap 4), .tr (.eqc 8 (fl Tapi_Fact.enc (b5 ++ r66))), .tr (.eqt (.t 57) (.vec 8 ((b5 ++ r66).length) 3)), .op none .c, .op none .w, .op none .c])))) [0, 1, 8] (ps := [((decide ((↑k44 : Int) < (↑s_0.Result.Passages.length : Int))) = true), ((↑k44 : Int) = ((k44 : Nat) : Int) ∧ k44 < s_0.Result.Passages.length), ((fl Tapi_Passage.enc s_0.Result.Passages) ≠ []), (sub (fl Tapi_Passage.enc s_0.Result.Passages) (k44 * 8) 8 = [.str x52.ID, .str x52.Point, .int .i64 x52.Time, .str x52.Tag, .str x52.Plate, .int .i64 x52.Class, .int .i64 x52.Score, .lst (fl Tapi_Source.enc x52.Sources) x52.Sources.length]), ((.lst (fl Tapi_Source.enc x52.Sources) x52.Sources.length : AV) = .lst (fl Tapi_Source.enc x52.Sources) x52.Sources.length), ((.ptr 5 0 : AV) = .ptr 5 0), ((.int .i64 (↑x52.Sources.length : Int) : AV) = .int .i64 (↑x52.Sources.length : Int)), ((.int .i64 0 : AV) = .int .i64 (↑(0 : Nat) : Int)), (({ c := (Tapi_Source.enc x_1), e := 66, ext := false, fz := 0, pl := true, o := false } : Blk) = renB [5] { c := (Tapi_Source.enc x_1), e := 66, ext := false, fz := 0, pl := true, o := false }), (Does Tryd.prog GT 1 (.loop (bodyAt Tryd.prog 52 [1, 0, 1, 0, 0])) (S 19 [(0, .lst (fl Tapi_Source.enc x52.Sources) x52.Sources.length), (3, .ptr 0 0), (7, .int .i64 (↑x52.Sources.length : Int)), (8, .int .i64 (↑(0 : Nat) : Int))] [{ c := (Tapi_Source.enc x_1), e := 66, ext := false, fz := 0, pl := true, o := false }]) .ret (S 19 [(4, .int .i64 o54)] [{ c := (Tapi_Source.enc x_1), e := 66, ext := false, fz := 0, pl := true, o := false }])), ((decide (o54 ≥ (0 : Int))) = true), ((.agg (Tapi_Result.enc s_0.Result) : AV) = .agg (Tapi_Result.enc s_0.Result)), ((.agg (Tapi_Passage.enc x52) : AV) = .agg (Tapi_Passage.enc x52)), (Ret Tryd.prog GT 24 [.agg (Tapi_Result.enc s_0.Result), .agg (Tapi_Passage.enc x52)] (.vec 0 r66.length 3) [{ c := (fl Tapi_Fact.enc r66), e := 81, ext := true, fz := 0, pl := true, o := true }]), (List.length ((fl Tapi_Fact.enc r66) : List AV) = (r66.length * 3)), (List.length ((fl Tapi_Fact.enc b5) : List AV) = (b5.length * 3)), (List.all ((fl Tapi_Fact.enc r66) : List AV) AV.one = true), (b5.length + r66.length ≤ 4294967296), ((fl Tapi_Fact.enc b5) ++ (fl Tapi_Fact.enc r66) = (fl Tapi_Fact.enc (b5 ++ r66))), ((.vec 8 (b5.length + r66.length) 3 : AV) = .vec 8 ((b5 ++ r66).length) 3), (IntKind.min .i64 ≤ ((↑k44 : Int) + 1) ∧ ((↑k44 : Int) + 1) ≤ IntKind.max .i64)]) (by kernel_rfl) (by kernel_rfl) ⟨(decide_eq_true c51), ⟨rfl, get_lt h53⟩, (fl_ne (f := Tapi_Passage.enc) (z := 7) (fun _ => rfl) h53), (fl_sub0 (f := Tapi_Passage.enc) (z := 8) (j := k44) (fun _ => rfl) h53 rfl), rfl, rfl, rfl, rfl, rfl, (trace_Detection_L54_does x_1 x52 hl54), (decide_eq_true c65), rfl, rfl, (trace_facts_ret s_0.Result x52 r66 h67), (fl_length (f := Tapi_Fact.enc) (z := 3) (fun _ => rfl) _), (fl_length (f := Tapi_Fact.enc) (z := 3) (fun _ => rfl) _), (all_one (f := Tapi_Fact.enc) (fun _ => rfl) _), h68, fl_app.symm, (by simp <;> omega), ok1 h69⟩
theorem trace_Detection_L29_1 (s_0 : Tapi_State) (x_1 : Tapi_Source) (k44 : Nat) (b5 : (List Tapi_Fact)) (c51 : (↑k44 : Int) < (↑s_0.Result.Passages.length : Int)) (x52 : Tapi_Passage) (h53 : s_0.Result.Passages[k44]? = some x52) (o54 : Int) (hl54 : lp (trace_Detection_L54_step x_1 x52) (0 : Nat) = some (Sum.inl o54)) (c65 : ¬ (o54 ≥ (0 : Int))) (h70 : InR .i64 ((↑k44 : Int) + 1)) : Does Tryd.prog GT 2 (bodyAt Tryd.prog 9 [1, 1, 1, 1, 0, 1, 0, 0]) (trace_Detection_L29_H s_0 x_1 (k44, b5)) .normal (S 60 [(2, .ptr 0 0), (3, .ptr 1 0), (6, .vec 2 b5.length 3), (42, .lst (fl Tapi_Passage.enc s_0.Result.Passages) s_0.Result.Passages.length), (43, .int .i64 (↑s_0.Result.Passages.length : Int)), (44, .int .i64 ((↑k44 : Int) + 1))] [{ c := (Tapi_State.enc s_0), e := 64, ext := false, fz := 0, pl := true, o := false }, { c := (Tapi_Source.enc x_1), e := 66, ext := false, fz := 0, pl := true, o := false }, { c := (fl Tapi_Fact.enc b5), e := 81, ext := true, fz := 0, pl := true, o := true }]) :=
  Does.of_viewM 2 400 ((.op none .a) :: (.br true) :: (.op none (.i k44)) :: (.op none (.v [.str x52.ID, .str x52.Point, .int .i64 x52.Time, .str x52.Tag, .str x52.Plate, .int .i64 x52.Class, .int .i64 x52.Score, .lst (fl Tapi_Source.enc x52.Sources) x52.Sources.length])) :: (cs 16 [.fcut 1 .ret [(4, .int .i64 o54)] [{ c := (Tapi_Source.enc x_1), e := 66, ext := false, fz := 0, pl := true, o := false }] [5] [(0, .lst (fl Tapi_Source.enc x52.Sources) x52.Sources.length), (3, .ptr 0 0), (7, .int .i64 (↑x52.Sources.length : Int)), (8, .int .i64 (↑(0 : Nat) : Int))] [{ c := (Tapi_Source.enc x_1), e := 66, ext := false, fz := 0, pl := true, o := false }], .op none .a, .op none .c, .br false, .op none .w, .op none .c])) [0, 1, 2] (ps := [((decide ((↑k44 : Int) < (↑s_0.Result.Passages.length : Int))) = true), ((↑k44 : Int) = ((k44 : Nat) : Int) ∧ k44 < s_0.Result.Passages.length), ((fl Tapi_Passage.enc s_0.Result.Passages) ≠ []), (sub (fl Tapi_Passage.enc s_0.Result.Passages) (k44 * 8) 8 = [.str x52.ID, .str x52.Point, .int .i64 x52.Time, .str x52.Tag, .str x52.Plate, .int .i64 x52.Class, .int .i64 x52.Score, .lst (fl Tapi_Source.enc x52.Sources) x52.Sources.length]), ((.lst (fl Tapi_Source.enc x52.Sources) x52.Sources.length : AV) = .lst (fl Tapi_Source.enc x52.Sources) x52.Sources.length), ((.ptr 5 0 : AV) = .ptr 5 0), ((.int .i64 (↑x52.Sources.length : Int) : AV) = .int .i64 (↑x52.Sources.length : Int)), ((.int .i64 0 : AV) = .int .i64 (↑(0 : Nat) : Int)), (({ c := (Tapi_Source.enc x_1), e := 66, ext := false, fz := 0, pl := true, o := false } : Blk) = renB [5] { c := (Tapi_Source.enc x_1), e := 66, ext := false, fz := 0, pl := true, o := false }), (Does Tryd.prog GT 1 (.loop (bodyAt Tryd.prog 52 [1, 0, 1, 0, 0])) (S 19 [(0, .lst (fl Tapi_Source.enc x52.Sources) x52.Sources.length), (3, .ptr 0 0), (7, .int .i64 (↑x52.Sources.length : Int)), (8, .int .i64 (↑(0 : Nat) : Int))] [{ c := (Tapi_Source.enc x_1), e := 66, ext := false, fz := 0, pl := true, o := false }]) .ret (S 19 [(4, .int .i64 o54)] [{ c := (Tapi_Source.enc x_1), e := 66, ext := false, fz := 0, pl := true, o := false }])), ((decide (o54 ≥ (0 : Int))) = false), (IntKind.min .i64 ≤ ((↑k44 : Int) + 1) ∧ ((↑k44 : Int) + 1) ≤ IntKind.max .i64)]) (by kernel_rfl) (by kernel_rfl) ⟨(decide_eq_true c51), ⟨rfl, get_lt h53⟩, (fl_ne (f := Tapi_Passage.enc) (z := 7) (fun _ => rfl) h53), (fl_sub0 (f := Tapi_Passage.enc) (z := 8) (j := k44) (fun _ => rfl) h53 rfl), rfl, rfl, rfl, rfl, rfl, (trace_Detection_L54_does x_1 x52 hl54), (decide_eq_false c65), ok1 h70⟩
theorem trace_Detection_L29_2 (s_0 : Tapi_State) (x_1 : Tapi_Source) (k44 : Nat) (b5 : (List Tapi_Fact)) (c51 : (↑k44 : Int) < (↑s_0.Result.Passages.length : Int)) (x52 : Tapi_Passage) (h53 : s_0.Result.Passages[k44]? = some x52) (o54 : Unit) (hl54 : lp (trace_Detection_L54_step x_1 x52) (0 : Nat) = some (Sum.inr (o54))) (h71 : InR .i64 ((↑k44 : Int) + 1)) : Does Tryd.prog GT 2 (bodyAt Tryd.prog 9 [1, 1, 1, 1, 0, 1, 0, 0]) (trace_Detection_L29_H s_0 x_1 (k44, b5)) .normal (S 60 [(2, .ptr 0 0), (3, .ptr 1 0), (6, .vec 2 b5.length 3), (42, .lst (fl Tapi_Passage.enc s_0.Result.Passages) s_0.Result.Passages.length), (43, .int .i64 (↑s_0.Result.Passages.length : Int)), (44, .int .i64 ((↑k44 : Int) + 1))] [{ c := (Tapi_State.enc s_0), e := 64, ext := false, fz := 0, pl := true, o := false }, { c := (Tapi_Source.enc x_1), e := 66, ext := false, fz := 0, pl := true, o := false }, { c := (fl Tapi_Fact.enc b5), e := 81, ext := true, fz := 0, pl := true, o := true }]) :=
  Does.of_viewM 2 400 ((.op none .a) :: (.br true) :: (.op none (.i k44)) :: (.op none (.v [.str x52.ID, .str x52.Point, .int .i64 x52.Time, .str x52.Tag, .str x52.Plate, .int .i64 x52.Class, .int .i64 x52.Score, .lst (fl Tapi_Source.enc x52.Sources) x52.Sources.length])) :: (cs 16 ((.fcut 1 (.exit 0) [] [{ c := (Tapi_Source.enc x_1), e := 66, ext := false, fz := 0, pl := true, o := false }] [5] [(0, .lst (fl Tapi_Source.enc x52.Sources) x52.Sources.length), (3, .ptr 0 0), (7, .int .i64 (↑x52.Sources.length : Int)), (8, .int .i64 (↑(0 : Nat) : Int))] [{ c := (Tapi_Source.enc x_1), e := 66, ext := false, fz := 0, pl := true, o := false }]) :: (cs 3 [.br false, .op none .w, .op none .c])))) [0, 1, 2] (ps := [((decide ((↑k44 : Int) < (↑s_0.Result.Passages.length : Int))) = true), ((↑k44 : Int) = ((k44 : Nat) : Int) ∧ k44 < s_0.Result.Passages.length), ((fl Tapi_Passage.enc s_0.Result.Passages) ≠ []), (sub (fl Tapi_Passage.enc s_0.Result.Passages) (k44 * 8) 8 = [.str x52.ID, .str x52.Point, .int .i64 x52.Time, .str x52.Tag, .str x52.Plate, .int .i64 x52.Class, .int .i64 x52.Score, .lst (fl Tapi_Source.enc x52.Sources) x52.Sources.length]), ((.lst (fl Tapi_Source.enc x52.Sources) x52.Sources.length : AV) = .lst (fl Tapi_Source.enc x52.Sources) x52.Sources.length), ((.ptr 5 0 : AV) = .ptr 5 0), ((.int .i64 (↑x52.Sources.length : Int) : AV) = .int .i64 (↑x52.Sources.length : Int)), ((.int .i64 0 : AV) = .int .i64 (↑(0 : Nat) : Int)), (({ c := (Tapi_Source.enc x_1), e := 66, ext := false, fz := 0, pl := true, o := false } : Blk) = renB [5] { c := (Tapi_Source.enc x_1), e := 66, ext := false, fz := 0, pl := true, o := false }), (Does Tryd.prog GT 1 (.loop (bodyAt Tryd.prog 52 [1, 0, 1, 0, 0])) (S 19 [(0, .lst (fl Tapi_Source.enc x52.Sources) x52.Sources.length), (3, .ptr 0 0), (7, .int .i64 (↑x52.Sources.length : Int)), (8, .int .i64 (↑(0 : Nat) : Int))] [{ c := (Tapi_Source.enc x_1), e := 66, ext := false, fz := 0, pl := true, o := false }]) (.exit 0) (S 19 [] [{ c := (Tapi_Source.enc x_1), e := 66, ext := false, fz := 0, pl := true, o := false }])), (false = false), (IntKind.min .i64 ≤ ((↑k44 : Int) + 1) ∧ ((↑k44 : Int) + 1) ≤ IntKind.max .i64)]) (by kernel_rfl) (by kernel_rfl) ⟨(decide_eq_true c51), ⟨rfl, get_lt h53⟩, (fl_ne (f := Tapi_Passage.enc) (z := 7) (fun _ => rfl) h53), (fl_sub0 (f := Tapi_Passage.enc) (z := 8) (j := k44) (fun _ => rfl) h53 rfl), rfl, rfl, rfl, rfl, rfl, (trace_Detection_L54_does x_1 x52 hl54), rfl, ok1 h71⟩
theorem trace_Detection_L29_3 (s_0 : Tapi_State) (x_1 : Tapi_Source) (k44 : Nat) (b5 : (List Tapi_Fact)) (c51 : ¬ ((↑k44 : Int) < (↑s_0.Result.Passages.length : Int))) : Does Tryd.prog GT 2 (bodyAt Tryd.prog 9 [1, 1, 1, 1, 0, 1, 0, 0]) (trace_Detection_L29_H s_0 x_1 (k44, b5)) (.exit 2) (S 60 [(6, .vec 2 b5.length 3)] [{ c := (Tapi_State.enc s_0), e := 64, ext := false, fz := 0, pl := true, o := false }, { c := (Tapi_Source.enc x_1), e := 66, ext := false, fz := 0, pl := true, o := false }, { c := (fl Tapi_Fact.enc b5), e := 81, ext := true, fz := 0, pl := true, o := true }]) :=
  Does.of_viewM 2 400 [.op none .a, .br false] [0, 1, 2] (ps := [((decide ((↑k44 : Int) < (↑s_0.Result.Passages.length : Int))) = false)]) (by kernel_rfl) (by kernel_rfl) (ok1 (decide_eq_false c51))
def trace_Detection_L29_X (s_0 : Tapi_State) (x_1 : Tapi_Source) : (List Tapi_Fact) → AEx := fun o => (.exit 2)
def trace_Detection_L29_E (s_0 : Tapi_State) (x_1 : Tapi_Source) : (List Tapi_Fact) → St := fun o => S 60 [(6, .vec 2 o.length 3)] [{ c := (Tapi_State.enc s_0), e := 64, ext := false, fz := 0, pl := true, o := false }, { c := (Tapi_Source.enc x_1), e := 66, ext := false, fz := 0, pl := true, o := false }, { c := (fl Tapi_Fact.enc o), e := 81, ext := true, fz := 0, pl := true, o := true }]
theorem trace_Detection_L29_does (s_0 : Tapi_State) (x_1 : Tapi_Source) {s : (Nat × (List Tapi_Fact))} {r : (List Tapi_Fact)} (h : lp (trace_Detection_L29_step s_0 x_1) s = some r) : Does Tryd.prog GT 2 (.loop (bodyAt Tryd.prog 9 [1, 1, 1, 1, 0, 1, 0, 0])) (trace_Detection_L29_H s_0 x_1 s) (trace_Detection_L29_X s_0 x_1 r) (trace_Detection_L29_E s_0 x_1 r) := by
  refine Does.lp (H := trace_Detection_L29_H s_0 x_1) (X := trace_Detection_L29_X s_0 x_1) (E := trace_Detection_L29_E s_0 x_1) (fun s s2 h => ?_) (fun s r h => ?_) h
  · obtain ⟨k44, b5⟩ := s
    unfold trace_Detection_L29_step at h
    try dsimp only at h
    rcases ite_some h with ⟨c51, h⟩ | ⟨c51, h⟩
    · obtain ⟨x52, h53, h⟩ := bind_some h
      obtain ⟨qq, hl54, h⟩ := bind_some h
      rcases qq with o54 | o54
      · dsimp only at h
        rcases ite_some h with ⟨c65, h⟩ | ⟨c65, h⟩
        · obtain ⟨r66, h67, h⟩ := bind_some h
          obtain ⟨h68, h⟩ := guard_some h
          obtain ⟨h69, h⟩ := guard_some h
          simp only [Option.some.injEq, Sum.inl.injEq] at h
          subst h
          have hq := trace_Detection_L29_0 s_0 x_1 k44 b5 c51 x52 h53 o54 hl54 c65 r66 h67 h68 h69
          first | exact hq | exact Eq.mp (by simp only [trace_Detection_L29_H, List.length_set] <;> rfl) hq
        · obtain ⟨h70, h⟩ := guard_some h
          simp only [Option.some.injEq, Sum.inl.injEq] at h
          subst h
          have hq := trace_Detection_L29_1 s_0 x_1 k44 b5 c51 x52 h53 o54 hl54 c65 h70
          first | exact hq | exact Eq.mp (by simp only [trace_Detection_L29_H, List.length_set] <;> rfl) hq
      · dsimp only at h
        obtain ⟨h71, h⟩ := guard_some h
        simp only [Option.some.injEq, Sum.inl.injEq] at h
        subst h
        have hq := trace_Detection_L29_2 s_0 x_1 k44 b5 c51 x52 h53 o54 hl54 h71
        first | exact hq | exact Eq.mp (by simp only [trace_Detection_L29_H, List.length_set] <;> rfl) hq
    · simp at h
  · obtain ⟨k44, b5⟩ := s
    unfold trace_Detection_L29_step at h
    try dsimp only at h
    rcases ite_some h with ⟨c51, h⟩ | ⟨c51, h⟩
    · obtain ⟨x52, h53, h⟩ := bind_some h
      obtain ⟨qq, hl54, h⟩ := bind_some h
      rcases qq with o54 | o54
      · dsimp only at h
        rcases ite_some h with ⟨c65, h⟩ | ⟨c65, h⟩
        · obtain ⟨r66, h67, h⟩ := bind_some h
          obtain ⟨h68, h⟩ := guard_some h
          obtain ⟨h69, h⟩ := guard_some h
          simp at h
        · obtain ⟨h70, h⟩ := guard_some h
          simp at h
      · dsimp only at h
        obtain ⟨h71, h⟩ := guard_some h
        simp at h
    · simp only [Option.some.injEq, Sum.inr.injEq] at h
      subst h
      exact ⟨trace_Detection_L29_3 s_0 x_1 k44 b5 c51, by intro q; cases q⟩
noncomputable def trace_Detection (s_0 : Tapi_State) (x_1 : Tapi_Source) : Option ((List Tapi_Fact) × Int) :=
  (trace_known s_0 x_1).bind fun r1 =>
  if r1 = true then
    (trace_key x_1).bind fun r4 =>
    (lp (trace_Detection_L6_step s_0 x_1) ((0 : Nat), ([(⟨([100, 101, 116, 101, 99, 116, 105, 111, 110] : List UInt8), r4, 0⟩ : Tapi_Fact)] : (List Tapi_Fact)))).bind fun o6 =>
    (lp (trace_Detection_L29_step s_0 x_1) ((0 : Nat), o6)).bind fun o29 =>
    some (o29, 0)
  else
    some (([] : List Tapi_Fact), 10)
theorem trace_Detection_0 (s_0 : Tapi_State) (x_1 : Tapi_Source) (r1 : Bool) (h2 : trace_known s_0 x_1 = some r1) (c3 : r1 = true) (r4 : (List UInt8)) (h5 : trace_key x_1 = some r4) (o6 : (List Tapi_Fact)) (hl6 : lp (trace_Detection_L6_step s_0 x_1) ((0 : Nat), ([(⟨([100, 101, 116, 101, 99, 116, 105, 111, 110] : List UInt8), r4, 0⟩ : Tapi_Fact)] : (List Tapi_Fact))) = some o6) (o29 : (List Tapi_Fact)) (hl29 : lp (trace_Detection_L29_step s_0 x_1) ((0 : Nat), o6) = some o29) : Ret Tryd.prog GT 9 [.agg (Tapi_State.enc s_0), .agg (Tapi_Source.enc x_1)] (.tup [.vec 0 o29.length 3, .int .i64 0]) [{ c := (fl Tapi_Fact.enc o29), e := 81, ext := true, fz := 0, pl := true, o := true }] :=
  Ret.of_view 400 (cs 6 ((.ret none [.agg (Tapi_State.enc s_0), .agg (Tapi_Source.enc x_1)] (.bool r1) []) :: (.op none .c) :: (.br false) :: (.op none .c) :: (.ret none [.agg (Tapi_Source.enc x_1)] (.str r4) []) :: (cs 8 ((.tr (.wid (.t 6))) :: (.fcut 2 (.exit 0) [(2, .ptr 0 0), (3, .ptr 1 0), (6, .vec 2 o6.length 3)] [{ c := (Tapi_State.enc s_0), e := 64, ext := false, fz := 0, pl := true, o := false }, { c := (Tapi_Source.enc x_1), e := 66, ext := false, fz := 0, pl := true, o := false }, { c := (fl Tapi_Fact.enc o6), e := 81, ext := true, fz := 0, pl := true, o := true }] [0, 1, 2] [(2, .ptr 0 0), (3, .ptr 1 0), (6, .vec 2 (([(⟨([100, 101, 116, 101, 99, 116, 105, 111, 110] : List UInt8), r4, 0⟩ : Tapi_Fact)] : (List Tapi_Fact)).length) 3), (21, .lst (fl Tapi_Reject.enc s_0.Result.Rejects) s_0.Result.Rejects.length), (22, .int .i64 (↑s_0.Result.Rejects.length : Int)), (23, .int .i64 (↑(0 : Nat) : Int))] [{ c := (Tapi_State.enc s_0), e := 64, ext := false, fz := 0, pl := true, o := false }, { c := (Tapi_Source.enc x_1), e := 66, ext := false, fz := 0, pl := true, o := false }, { c := (fl Tapi_Fact.enc ([(⟨([100, 101, 116, 101, 99, 116, 105, 111, 110] : List UInt8), r4, 0⟩ : Tapi_Fact)] : (List Tapi_Fact))), e := 81, ext := true, fz := 0, pl := true, o := true }]) :: (cs 5 ((.fcut 2 (.exit 2) [(6, .vec 2 o29.length 3)] [{ c := (Tapi_State.enc s_0), e := 64, ext := false, fz := 0, pl := true, o := false }, { c := (Tapi_Source.enc x_1), e := 66, ext := false, fz := 0, pl := true, o := false }, { c := (fl Tapi_Fact.enc o29), e := 81, ext := true, fz := 0, pl := true, o := true }] [0, 1, 5] [(2, .ptr 0 0), (3, .ptr 1 0), (6, .vec 2 o6.length 3), (42, .lst (fl Tapi_Passage.enc s_0.Result.Passages) s_0.Result.Passages.length), (43, .int .i64 (↑s_0.Result.Passages.length : Int)), (44, .int .i64 (↑(0 : Nat) : Int))] [{ c := (Tapi_State.enc s_0), e := 64, ext := false, fz := 0, pl := true, o := false }, { c := (Tapi_Source.enc x_1), e := 66, ext := false, fz := 0, pl := true, o := false }, { c := (fl Tapi_Fact.enc o6), e := 81, ext := true, fz := 0, pl := true, o := true }]) :: (cs 3 []))))))) [8] (ps := [((.agg (Tapi_State.enc s_0) : AV) = .agg (Tapi_State.enc s_0)), ((.agg (Tapi_Source.enc x_1) : AV) = .agg (Tapi_Source.enc x_1)), (Ret Tryd.prog GT 20 [.agg (Tapi_State.enc s_0), .agg (Tapi_Source.enc x_1)] (.bool r1) []), ((!r1) = false), ((.agg (Tapi_Source.enc x_1) : AV) = .agg (Tapi_Source.enc x_1)), (Ret Tryd.prog GT 21 [.agg (Tapi_Source.enc x_1)] (.str r4) []), (1 ≤ 1), ((.ptr 0 0 : AV) = .ptr 0 0), ((.ptr 1 0 : AV) = .ptr 1 0), ((.vec 2 1 3 : AV) = .vec 2 (([(⟨([100, 101, 116, 101, 99, 116, 105, 111, 110] : List UInt8), r4, 0⟩ : Tapi_Fact)] : (List Tapi_Fact)).length) 3), ((.lst (fl Tapi_Reject.enc s_0.Result.Rejects) s_0.Result.Rejects.length : AV) = .lst (fl Tapi_Reject.enc s_0.Result.Rejects) s_0.Result.Rejects.length), ((.int .i64 (↑s_0.Result.Rejects.length : Int) : AV) = .int .i64 (↑s_0.Result.Rejects.length : Int)), ((.int .i64 0 : AV) = .int .i64 (↑(0 : Nat) : Int)), (({ c := (Tapi_State.enc s_0), e := 64, ext := false, fz := 0, pl := true, o := false } : Blk) = renB [0, 1, 2] { c := (Tapi_State.enc s_0), e := 64, ext := false, fz := 0, pl := true, o := false }), (({ c := (Tapi_Source.enc x_1), e := 66, ext := false, fz := 0, pl := true, o := false } : Blk) = renB [0, 1, 2] { c := (Tapi_Source.enc x_1), e := 66, ext := false, fz := 0, pl := true, o := false }), (({ c := [.str [100, 101, 116, 101, 99, 116, 105, 111, 110], .str r4, .int .i64 0], e := 81, ext := true, fz := 0, pl := true, o := true } : Blk) = renB [0, 1, 2] { c := (fl Tapi_Fact.enc ([(⟨([100, 101, 116, 101, 99, 116, 105, 111, 110] : List UInt8), r4, 0⟩ : Tapi_Fact)] : (List Tapi_Fact))), e := 81, ext := true, fz := 0, pl := true, o := true }), (Does Tryd.prog GT 2 (.loop (bodyAt Tryd.prog 9 [1, 1, 1, 0, 1, 0, 0])) (S 60 [(2, .ptr 0 0), (3, .ptr 1 0), (6, .vec 2 (([(⟨([100, 101, 116, 101, 99, 116, 105, 111, 110] : List UInt8), r4, 0⟩ : Tapi_Fact)] : (List Tapi_Fact)).length) 3), (21, .lst (fl Tapi_Reject.enc s_0.Result.Rejects) s_0.Result.Rejects.length), (22, .int .i64 (↑s_0.Result.Rejects.length : Int)), (23, .int .i64 (↑(0 : Nat) : Int))] [{ c := (Tapi_State.enc s_0), e := 64, ext := false, fz := 0, pl := true, o := false }, { c := (Tapi_Source.enc x_1), e := 66, ext := false, fz := 0, pl := true, o := false }, { c := (fl Tapi_Fact.enc ([(⟨([100, 101, 116, 101, 99, 116, 105, 111, 110] : List UInt8), r4, 0⟩ : Tapi_Fact)] : (List Tapi_Fact))), e := 81, ext := true, fz := 0, pl := true, o := true }]) (.exit 0) (S 60 [(2, .ptr 0 0), (3, .ptr 1 0), (6, .vec 2 o6.length 3)] [{ c := (Tapi_State.enc s_0), e := 64, ext := false, fz := 0, pl := true, o := false }, { c := (Tapi_Source.enc x_1), e := 66, ext := false, fz := 0, pl := true, o := false }, { c := (fl Tapi_Fact.enc o6), e := 81, ext := true, fz := 0, pl := true, o := true }])), ((.ptr 0 0 : AV) = .ptr 0 0), ((.ptr 1 0 : AV) = .ptr 1 0), ((.vec 5 o6.length 3 : AV) = .vec 5 o6.length 3), ((.lst (fl Tapi_Passage.enc s_0.Result.Passages) s_0.Result.Passages.length : AV) = .lst (fl Tapi_Passage.enc s_0.Result.Passages) s_0.Result.Passages.length), ((.int .i64 (↑s_0.Result.Passages.length : Int) : AV) = .int .i64 (↑s_0.Result.Passages.length : Int)), ((.int .i64 0 : AV) = .int .i64 (↑(0 : Nat) : Int)), (({ c := (Tapi_State.enc s_0), e := 64, ext := false, fz := 0, pl := true, o := false } : Blk) = renB [0, 1, 5] { c := (Tapi_State.enc s_0), e := 64, ext := false, fz := 0, pl := true, o := false }), (({ c := (Tapi_Source.enc x_1), e := 66, ext := false, fz := 0, pl := true, o := false } : Blk) = renB [0, 1, 5] { c := (Tapi_Source.enc x_1), e := 66, ext := false, fz := 0, pl := true, o := false }), (({ c := (fl Tapi_Fact.enc o6), e := 81, ext := true, fz := 0, pl := true, o := true } : Blk) = renB [0, 1, 5] { c := (fl Tapi_Fact.enc o6), e := 81, ext := true, fz := 0, pl := true, o := true }), (Does Tryd.prog GT 2 (.loop (bodyAt Tryd.prog 9 [1, 1, 1, 1, 0, 1, 0, 0])) (S 60 [(2, .ptr 0 0), (3, .ptr 1 0), (6, .vec 2 o6.length 3), (42, .lst (fl Tapi_Passage.enc s_0.Result.Passages) s_0.Result.Passages.length), (43, .int .i64 (↑s_0.Result.Passages.length : Int)), (44, .int .i64 (↑(0 : Nat) : Int))] [{ c := (Tapi_State.enc s_0), e := 64, ext := false, fz := 0, pl := true, o := false }, { c := (Tapi_Source.enc x_1), e := 66, ext := false, fz := 0, pl := true, o := false }, { c := (fl Tapi_Fact.enc o6), e := 81, ext := true, fz := 0, pl := true, o := true }]) (.exit 2) (S 60 [(6, .vec 2 o29.length 3)] [{ c := (Tapi_State.enc s_0), e := 64, ext := false, fz := 0, pl := true, o := false }, { c := (Tapi_Source.enc x_1), e := 66, ext := false, fz := 0, pl := true, o := false }, { c := (fl Tapi_Fact.enc o29), e := 81, ext := true, fz := 0, pl := true, o := true }]))]) (by kernel_rfl) (by kernel_rfl) ⟨rfl, rfl, (trace_known_ret s_0 x_1 r1 h2), (not_f c3), rfl, (trace_key_ret x_1 r4 h5), (Nat.le_refl _), rfl, rfl, (by first | rfl | simp only [List.length_replicate, List.length_set]), rfl, rfl, rfl, rfl, rfl, rfl, (trace_Detection_L6_does s_0 x_1 hl6), rfl, rfl, (by first | rfl | simp only [List.length_replicate, List.length_set]), rfl, rfl, rfl, rfl, rfl, rfl, ok1 (trace_Detection_L29_does s_0 x_1 hl29)⟩
theorem trace_Detection_1 (s_0 : Tapi_State) (x_1 : Tapi_Source) (r1 : Bool) (h2 : trace_known s_0 x_1 = some r1) (c3 : ¬ (r1 = true)) : Ret Tryd.prog GT 9 [.agg (Tapi_State.enc s_0), .agg (Tapi_Source.enc x_1)] (.tup [.vec 0 (([] : List Tapi_Fact).length) 3, .int .i64 10]) [{ c := (fl Tapi_Fact.enc ([] : List Tapi_Fact)), e := 81, ext := true, fz := 0, pl := true, o := true }] :=
  Ret.of_view 400 (cs 6 ((.ret none [.agg (Tapi_State.enc s_0), .agg (Tapi_Source.enc x_1)] (.bool r1) []) :: (.op none .c) :: (.br true) :: (cs 2 [.tr (.vec (.t 4) 3 81), .tr (.eqc 2 (fl Tapi_Fact.enc ([] : List Tapi_Fact))), .tr (.eqt (.t 4) (.vec 2 (([] : List Tapi_Fact).length) 3))]))) [2] (ps := [((.agg (Tapi_State.enc s_0) : AV) = .agg (Tapi_State.enc s_0)), ((.agg (Tapi_Source.enc x_1) : AV) = .agg (Tapi_Source.enc x_1)), (Ret Tryd.prog GT 20 [.agg (Tapi_State.enc s_0), .agg (Tapi_Source.enc x_1)] (.bool r1) []), ((!r1) = true), ([] = (fl Tapi_Fact.enc ([] : List Tapi_Fact))), ((.vec 2 0 3 : AV) = .vec 2 (([] : List Tapi_Fact).length) 3)]) (by kernel_rfl) (by kernel_rfl) ⟨rfl, rfl, (trace_known_ret s_0 x_1 r1 h2), (not_t (eq_false_of_ne_true c3)), rfl, ok1 rfl⟩
theorem trace_Detection_ret (s_0 : Tapi_State) (x_1 : Tapi_Source) (r : ((List Tapi_Fact) × Int)) (h : trace_Detection s_0 x_1 = some r) : Ret Tryd.prog GT 9 [.agg (Tapi_State.enc s_0), .agg (Tapi_Source.enc x_1)] (.tup [.vec 0 r.1.length 3, .int .i64 r.2]) [{ c := (fl Tapi_Fact.enc r.1), e := 81, ext := true, fz := 0, pl := true, o := true }] := by
  unfold trace_Detection at h
  obtain ⟨r1, h2, h⟩ := bind_some h
  rcases ite_some h with ⟨c3, h⟩ | ⟨c3, h⟩
  · obtain ⟨r4, h5, h⟩ := bind_some h
    obtain ⟨o6, hl6, h⟩ := bind_some h
    obtain ⟨o29, hl29, h⟩ := bind_some h
    simp only [Option.some.injEq] at h
    subst h
    exact trace_Detection_0 s_0 x_1 r1 h2 c3 r4 h5 o6 hl6 o29 hl29
  · simp only [Option.some.injEq] at h
    subst h
    exact trace_Detection_1 s_0 x_1 r1 h2 c3
noncomputable def trace_Passage (s_0 : Tapi_State) (id_1 : (List UInt8)) : Option ((List Tapi_Fact) × Int) :=
  (trace_passed s_0.Result id_1).bind fun r1 =>
  if r1.2 = true then
    (trace_facts s_0.Result r1.1).bind fun r4 =>
    some (r4, 0)
  else
    some (([] : List Tapi_Fact), 10)
theorem trace_Passage_0 (s_0 : Tapi_State) (id_1 : (List UInt8)) (r1 : (Tapi_Passage × Bool)) (h2 : trace_passed s_0.Result id_1 = some r1) (c3 : r1.2 = true) (r4 : (List Tapi_Fact)) (h5 : trace_facts s_0.Result r1.1 = some r4) : Ret Tryd.prog GT 18 [.agg (Tapi_State.enc s_0), .str id_1] (.tup [.vec 0 r4.length 3, .int .i64 0]) [{ c := (fl Tapi_Fact.enc r4), e := 81, ext := true, fz := 0, pl := true, o := true }] :=
  Ret.of_view 400 (cs 6 ((.ret none [.agg (Tapi_Result.enc s_0.Result), .str id_1] (.tup [.agg (Tapi_Passage.enc r1.1), .bool r1.2]) []) :: (cs 8 ((.br false) :: (cs 3 ((.ret none [.agg (Tapi_Result.enc s_0.Result), .agg (Tapi_Passage.enc r1.1)] (.vec 0 r4.length 3) [{ c := (fl Tapi_Fact.enc r4), e := 81, ext := true, fz := 0, pl := true, o := true }]) :: (cs 2 []))))))) [2] (ps := [((.agg (Tapi_Result.enc s_0.Result) : AV) = .agg (Tapi_Result.enc s_0.Result)), ((.str id_1 : AV) = .str id_1), (Ret Tryd.prog GT 32 [.agg (Tapi_Result.enc s_0.Result), .str id_1] (.tup [.agg (Tapi_Passage.enc r1.1), .bool r1.2]) []), ((!r1.2) = false), ((.agg (Tapi_Result.enc s_0.Result) : AV) = .agg (Tapi_Result.enc s_0.Result)), ((.agg (Tapi_Passage.enc r1.1) : AV) = .agg (Tapi_Passage.enc r1.1)), (Ret Tryd.prog GT 24 [.agg (Tapi_Result.enc s_0.Result), .agg (Tapi_Passage.enc r1.1)] (.vec 0 r4.length 3) [{ c := (fl Tapi_Fact.enc r4), e := 81, ext := true, fz := 0, pl := true, o := true }])]) (by kernel_rfl) (by kernel_rfl) ⟨rfl, rfl, (trace_passed_ret s_0.Result id_1 r1 h2), (not_f c3), rfl, rfl, ok1 (trace_facts_ret s_0.Result r1.1 r4 h5)⟩
theorem trace_Passage_1 (s_0 : Tapi_State) (id_1 : (List UInt8)) (r1 : (Tapi_Passage × Bool)) (h2 : trace_passed s_0.Result id_1 = some r1) (c3 : ¬ (r1.2 = true)) : Ret Tryd.prog GT 18 [.agg (Tapi_State.enc s_0), .str id_1] (.tup [.vec 0 (([] : List Tapi_Fact).length) 3, .int .i64 10]) [{ c := (fl Tapi_Fact.enc ([] : List Tapi_Fact)), e := 81, ext := true, fz := 0, pl := true, o := true }] :=
  Ret.of_view 400 (cs 6 ((.ret none [.agg (Tapi_Result.enc s_0.Result), .str id_1] (.tup [.agg (Tapi_Passage.enc r1.1), .bool r1.2]) []) :: (cs 8 ((.br true) :: (cs 2 [.tr (.vec (.t 4) 3 81), .tr (.eqc 2 (fl Tapi_Fact.enc ([] : List Tapi_Fact))), .tr (.eqt (.t 4) (.vec 2 (([] : List Tapi_Fact).length) 3))]))))) [2] (ps := [((.agg (Tapi_Result.enc s_0.Result) : AV) = .agg (Tapi_Result.enc s_0.Result)), ((.str id_1 : AV) = .str id_1), (Ret Tryd.prog GT 32 [.agg (Tapi_Result.enc s_0.Result), .str id_1] (.tup [.agg (Tapi_Passage.enc r1.1), .bool r1.2]) []), ((!r1.2) = true), ([] = (fl Tapi_Fact.enc ([] : List Tapi_Fact))), ((.vec 2 0 3 : AV) = .vec 2 (([] : List Tapi_Fact).length) 3)]) (by kernel_rfl) (by kernel_rfl) ⟨rfl, rfl, (trace_passed_ret s_0.Result id_1 r1 h2), (not_t (eq_false_of_ne_true c3)), rfl, ok1 rfl⟩
theorem trace_Passage_ret (s_0 : Tapi_State) (id_1 : (List UInt8)) (r : ((List Tapi_Fact) × Int)) (h : trace_Passage s_0 id_1 = some r) : Ret Tryd.prog GT 18 [.agg (Tapi_State.enc s_0), .str id_1] (.tup [.vec 0 r.1.length 3, .int .i64 r.2]) [{ c := (fl Tapi_Fact.enc r.1), e := 81, ext := true, fz := 0, pl := true, o := true }] := by
  unfold trace_Passage at h
  obtain ⟨r1, h2, h⟩ := bind_some h
  rcases ite_some h with ⟨c3, h⟩ | ⟨c3, h⟩
  · obtain ⟨r4, h5, h⟩ := bind_some h
    simp only [Option.some.injEq] at h
    subst h
    exact trace_Passage_0 s_0 id_1 r1 h2 c3 r4 h5
  · simp only [Option.some.injEq] at h
    subst h
    exact trace_Passage_1 s_0 id_1 r1 h2 c3
end Go.Proofs.YtalobodhbbkgdabDoor.Av
