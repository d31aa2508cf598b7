/- The evaluator. -/
import Derived.Test.YtabjlmlfmafllaaAvR3
set_option linter.unusedVariables false
namespace Go.Proofs.Ytabjlmlfmafllaa.Av
open Go.RowKit

def drawF (P : Program) (G : Nat → AV) (self : Self) (n : Nat) (ops : Array Oper) (s : St) (hs : List CH) : W (AEx × St × List CH) := evDraw P G (evBodyS P G self) n ops s hs
/-- the evaluator, with so much fuel -/
noncomputable def ev (P : Program) (G : Nat → AV) (fuel : Nat) : Self :=
  Nat.rec (motive := fun _ => Self) (fun _ _ _ _ => W.fail) (fun _ self => evF P G (drawF P G) self) fuel

theorem ev_ok (P : Program) (G : Nat → AV) : ∀ fuel, SelfOk P G (ev P G fuel)
  | 0 => fun _ _ _ _ => W.sat_fail
  | k + 1 => evF_sat (drawB := drawF P G) (self := ev P G k) (ev_ok P G k) fun n id ops s hs => evDraw_sat (evBodyS_sat (ev_ok P G k))

/-- a function's call, evaluated -/
theorem call_sat (P : Program) (G : Nat → AV) (fuel : Nat) (f : FuncId) (args : List AV) (h : Hp) (hs : List CH) :
    (evBody P (ev P G fuel) f args h hs).sat fun r => CallDoes P G f args h r.1 r.2.1 := evBody_sat (ev_ok P G fuel) f args h hs

/-- with nothing owed -/
def yes (r : W (CO × Hp × List CH)) : Bool := match r with | some ((.ret (.bool true), _, []), []) => true | _ => false
end Go.Proofs.Ytabjlmlfmafllaa.Av
