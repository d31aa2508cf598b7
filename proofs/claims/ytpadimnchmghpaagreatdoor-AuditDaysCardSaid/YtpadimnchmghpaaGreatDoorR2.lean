import Derived.Test.YtpadimnchmghpaaGreatDoorR1
open Prod (fst)
open Int (tdiv tmod)
set_option maxHeartbeats 4000000
set_option maxRecDepth 100000
set_option linter.unusedVariables false
set_option linter.unusedSimpArgs false
namespace Go.Proofs.YtpadimnchmghpaaGreatDoor.Av
open Go Go.Proofs
structure Ttollwayref08_Found where
 L : (List Int)
 N : Int
def Ttollwayref08_Found.enc (x : Ttollwayref08_Found) : List AV := [.lst (fl e_i64 x.L) x.L.length, .int .i64 x.N]
end Go.Proofs.YtpadimnchmghpaaGreatDoor.Av
