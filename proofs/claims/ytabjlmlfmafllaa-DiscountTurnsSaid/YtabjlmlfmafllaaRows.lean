/-
  No cell of these rows narrows 'for every input' (looked for: loops, veiled, ifaces, maps, wideKeys, modest, calm, conditions, laid).
  DERIVED. THE GIVEN ROWS OF THIS SEAT. 5 by the template 'for every input the law returns true; each argument reads behind the call as it read before'; 0 by the template 'total and deterministic' (their statements: YtabjlmlfmafllaaTotals.lean).
  GIVEN WITH THE SEED: the statements are not yours to turn. If you find one false, say at which input.
  Laid BY PROGRAM, IN A SANDBOX (cutbox-rows.mjs): the forced cells as the released guide's own fill.sh prints them over the translation 65616212ddbdb0e6… (all of the seat's roots in one cut). By AI agents, Wed Nov 11 2026. No macro, syntax, notation, axiom, sorry.
-/
import Derived.Test.YtabjlmlfmafllaaChecked
import GoSem.Claim
import GoSem.ClaimJoined
import GoSem.ClaimMapViews
import Derived.JoinedTies
import Derived.KernelRfl
namespace Go.Proofs.Ytabjlmlfmafllaa
/- THE CELL 'sum', in the pinned program and in every row, IS THE sha256 OF THE DUMP (.gsa) THAT YtabjlmlfmafllaaProg.lean LOADS. Nothing in Lean hashes anything: it is a label: what it is worth is what the hold of that sum in a sandbox is worth. -/
noncomputable def Try.pinned : Pinned := { name := "ytabjlmlfmafllaa", sum := "65616212ddbdb0e6eca52d2179b1ce991c5fd7899b96c8aba3a611743b937fc0", checked := Try.checked }
namespace Rows
def none {H : Type} : Left H := { results := [], args := [] }

/-- 'tollwaylaw24.DiscountBest': WHATEVER THE INPUT: true; the input reads as it did. -/
def discountBestSpec : ChangeSpec := { name := "discountBest", fn := fun _ => fun
  | [d1, d2] => { results := [.lit (.bool true)], args := [d1, d2] }
  | _ => none }
def discountBestRow : OpenClaim := { program := "ytabjlmlfmafllaa", sum := "65616212ddbdb0e6eca52d2179b1ce991c5fd7899b96c8aba3a611743b937fc0", func := "tollway/tollwaylaw24.DiscountBest", spec := "discountBest", unfollowed := true, recurses := true, named := ["math/bits.divideError", "math/bits.overflowError"], apart := false }
def DiscountBestSaid : Prop := discountBestRow.holds Try.pinned (OpenSpec.ofChange discountBestSpec)

/-- ITS FALSE NEIGHBOUR: 'it returns false'. Refute it at one input. -/
def discountBestWrong : ChangeSpec := { name := "discountBest", fn := fun _ => fun
  | [d1, d2] => { results := [.lit (.bool false)], args := [d1, d2] }
  | _ => none }
def DiscountBestWrongFalsely : Prop := discountBestRow.holds Try.pinned (OpenSpec.ofChange discountBestWrong)

/-- 'tollwaylaw24.DiscountSums': WHATEVER THE INPUT: true; the input reads as it did. -/
def discountSumsSpec : ChangeSpec := { name := "discountSums", fn := fun _ => fun
  | [d1, d2] => { results := [.lit (.bool true)], args := [d1, d2] }
  | _ => none }
def discountSumsRow : OpenClaim := { program := "ytabjlmlfmafllaa", sum := "65616212ddbdb0e6eca52d2179b1ce991c5fd7899b96c8aba3a611743b937fc0", func := "tollway/tollwaylaw24.DiscountSums", spec := "discountSums", unfollowed := true, recurses := true, named := ["math/bits.divideError", "math/bits.overflowError"], apart := false }
def DiscountSumsSaid : Prop := discountSumsRow.holds Try.pinned (OpenSpec.ofChange discountSumsSpec)

/-- ITS FALSE NEIGHBOUR: 'it returns false'. Refute it at one input. -/
def discountSumsWrong : ChangeSpec := { name := "discountSums", fn := fun _ => fun
  | [d1, d2] => { results := [.lit (.bool false)], args := [d1, d2] }
  | _ => none }
def DiscountSumsWrongFalsely : Prop := discountSumsRow.holds Try.pinned (OpenSpec.ofChange discountSumsWrong)

/-- 'tollwaylaw24.DiscountNoBetter': WHATEVER THE INPUT: true; the input reads as it did. -/
def discountNoBetterSpec : ChangeSpec := { name := "discountNoBetter", fn := fun _ => fun
  | [d1, d2] => { results := [.lit (.bool true)], args := [d1, d2] }
  | _ => none }
def discountNoBetterRow : OpenClaim := { program := "ytabjlmlfmafllaa", sum := "65616212ddbdb0e6eca52d2179b1ce991c5fd7899b96c8aba3a611743b937fc0", func := "tollway/tollwaylaw24.DiscountNoBetter", spec := "discountNoBetter", unfollowed := true, recurses := true, named := ["math/bits.divideError", "math/bits.overflowError"], apart := false }
def DiscountNoBetterSaid : Prop := discountNoBetterRow.holds Try.pinned (OpenSpec.ofChange discountNoBetterSpec)

/-- ITS FALSE NEIGHBOUR: 'it returns false'. Refute it at one input. -/
def discountNoBetterWrong : ChangeSpec := { name := "discountNoBetter", fn := fun _ => fun
  | [d1, d2] => { results := [.lit (.bool false)], args := [d1, d2] }
  | _ => none }
def DiscountNoBetterWrongFalsely : Prop := discountNoBetterRow.holds Try.pinned (OpenSpec.ofChange discountNoBetterWrong)

/-- 'tollwaylaw24.DiscountLess': WHATEVER THE INPUT: true; the input reads as it did. -/
def discountLessSpec : ChangeSpec := { name := "discountLess", fn := fun _ => fun
  | [d1, d2, d3] => { results := [.lit (.bool true)], args := [d1, d2, d3] }
  | _ => none }
def discountLessRow : OpenClaim := { program := "ytabjlmlfmafllaa", sum := "65616212ddbdb0e6eca52d2179b1ce991c5fd7899b96c8aba3a611743b937fc0", func := "tollway/tollwaylaw24.DiscountLess", spec := "discountLess", unfollowed := true, recurses := true, named := ["math/bits.divideError", "math/bits.overflowError"], apart := false }
def DiscountLessSaid : Prop := discountLessRow.holds Try.pinned (OpenSpec.ofChange discountLessSpec)

/-- ITS FALSE NEIGHBOUR: 'it returns false'. Refute it at one input. -/
def discountLessWrong : ChangeSpec := { name := "discountLess", fn := fun _ => fun
  | [d1, d2, d3] => { results := [.lit (.bool false)], args := [d1, d2, d3] }
  | _ => none }
def DiscountLessWrongFalsely : Prop := discountLessRow.holds Try.pinned (OpenSpec.ofChange discountLessWrong)

/-- 'tollwaylaw24.DiscountTurns': WHATEVER THE INPUT: true; the input reads as it did. -/
def discountTurnsSpec : ChangeSpec := { name := "discountTurns", fn := fun _ => fun
  | [d1, d2, d3] => { results := [.lit (.bool true)], args := [d1, d2, d3] }
  | _ => none }
def discountTurnsRow : OpenClaim := { program := "ytabjlmlfmafllaa", sum := "65616212ddbdb0e6eca52d2179b1ce991c5fd7899b96c8aba3a611743b937fc0", func := "tollway/tollwaylaw24.DiscountTurns", spec := "discountTurns", unfollowed := true, recurses := true, named := ["math/bits.divideError", "math/bits.overflowError"], apart := false }
def DiscountTurnsSaid : Prop := discountTurnsRow.holds Try.pinned (OpenSpec.ofChange discountTurnsSpec)

/-- ITS FALSE NEIGHBOUR: 'it returns false'. Refute it at one input. -/
def discountTurnsWrong : ChangeSpec := { name := "discountTurns", fn := fun _ => fun
  | [d1, d2, d3] => { results := [.lit (.bool false)], args := [d1, d2, d3] }
  | _ => none }
def DiscountTurnsWrongFalsely : Prop := discountTurnsRow.holds Try.pinned (OpenSpec.ofChange discountTurnsWrong)

/- THE SECOND FORM. 'bulk': how many values and letters a reading holds, each counted each time it is reached (what is shared counts as often as it is met; a slice's spare places count too). A statement '..UptoSaid' is the law's where the arguments, and the package variables that the reading takes, are together of bulk at most 1048576: NARROWER than '..Said'. Prove '..Said' where nothing that the law and all that it calls make is longer than what came in: it says more and counts as full. Else prove '..UptoSaid'. A law counts once. -/
mutual
def uptoBulk {H : Type} : DataW H → Nat
  | .lit (.string bytes) => bytes.length + 1
  | .lit _ => 1
  | .nil => 1
  | .ptr d => uptoBulk d + 1
  | .slice elems spare => uptoBulkAll elems + uptoBulkAll spare + 1
  | .agg parts => uptoBulkAll parts + 1
  | .iface _ d => uptoBulk d + 1
  | .map entries => uptoBulkEntries entries + 1
  | .held _ => 1
def uptoBulkAll {H : Type} : List (DataW H) → Nat
  | [] => 0
  | d :: r => uptoBulk d + uptoBulkAll r
def uptoBulkEntries {H : Type} : List (Lit × DataW H) → Nat
  | [] => 0
  | x :: r => uptoBulkEntry x + uptoBulkEntries r
def uptoBulkEntry {H : Type} : Lit × DataW H → Nat
  | (.string bytes, d) => bytes.length + uptoBulk d + 1
  | (_, d) => uptoBulk d + 1
 end
def uptoSmall : (H : Type) → List (DataW H) → Bool := fun _ ds => decide (uptoBulkAll ds ≤ 1048576)
def OpenSpec.upto (s : _root_.Go.ChangeSpec) : _root_.Go.OpenSpec := { _root_.Go.OpenSpec.ofChange s with cond := some uptoSmall }

/-- 'tollwaylaw24.DiscountBest', WHERE WHAT IT READS IS OF BULK AT MOST 1048576: true; the input reads as it did. -/
def discountBestUptoRow : OpenClaim := { program := "ytabjlmlfmafllaa", sum := "65616212ddbdb0e6eca52d2179b1ce991c5fd7899b96c8aba3a611743b937fc0", func := "tollway/tollwaylaw24.DiscountBest", spec := "discountBest", unfollowed := true, recurses := true, named := ["math/bits.divideError", "math/bits.overflowError"], apart := false, narrowed := true }
def DiscountBestUptoSaid : Prop := discountBestUptoRow.holds Try.pinned (OpenSpec.upto discountBestSpec)

/-- 'tollwaylaw24.DiscountSums', WHERE WHAT IT READS IS OF BULK AT MOST 1048576: true; the input reads as it did. -/
def discountSumsUptoRow : OpenClaim := { program := "ytabjlmlfmafllaa", sum := "65616212ddbdb0e6eca52d2179b1ce991c5fd7899b96c8aba3a611743b937fc0", func := "tollway/tollwaylaw24.DiscountSums", spec := "discountSums", unfollowed := true, recurses := true, named := ["math/bits.divideError", "math/bits.overflowError"], apart := false, narrowed := true }
def DiscountSumsUptoSaid : Prop := discountSumsUptoRow.holds Try.pinned (OpenSpec.upto discountSumsSpec)

/-- 'tollwaylaw24.DiscountNoBetter', WHERE WHAT IT READS IS OF BULK AT MOST 1048576: true; the input reads as it did. -/
def discountNoBetterUptoRow : OpenClaim := { program := "ytabjlmlfmafllaa", sum := "65616212ddbdb0e6eca52d2179b1ce991c5fd7899b96c8aba3a611743b937fc0", func := "tollway/tollwaylaw24.DiscountNoBetter", spec := "discountNoBetter", unfollowed := true, recurses := true, named := ["math/bits.divideError", "math/bits.overflowError"], apart := false, narrowed := true }
def DiscountNoBetterUptoSaid : Prop := discountNoBetterUptoRow.holds Try.pinned (OpenSpec.upto discountNoBetterSpec)

/-- 'tollwaylaw24.DiscountLess', WHERE WHAT IT READS IS OF BULK AT MOST 1048576: true; the input reads as it did. -/
def discountLessUptoRow : OpenClaim := { program := "ytabjlmlfmafllaa", sum := "65616212ddbdb0e6eca52d2179b1ce991c5fd7899b96c8aba3a611743b937fc0", func := "tollway/tollwaylaw24.DiscountLess", spec := "discountLess", unfollowed := true, recurses := true, named := ["math/bits.divideError", "math/bits.overflowError"], apart := false, narrowed := true }
def DiscountLessUptoSaid : Prop := discountLessUptoRow.holds Try.pinned (OpenSpec.upto discountLessSpec)

/-- 'tollwaylaw24.DiscountTurns', WHERE WHAT IT READS IS OF BULK AT MOST 1048576: true; the input reads as it did. -/
def discountTurnsUptoRow : OpenClaim := { program := "ytabjlmlfmafllaa", sum := "65616212ddbdb0e6eca52d2179b1ce991c5fd7899b96c8aba3a611743b937fc0", func := "tollway/tollwaylaw24.DiscountTurns", spec := "discountTurns", unfollowed := true, recurses := true, named := ["math/bits.divideError", "math/bits.overflowError"], apart := false, narrowed := true }
def DiscountTurnsUptoSaid : Prop := discountTurnsUptoRow.holds Try.pinned (OpenSpec.upto discountTurnsSpec)

end Rows
end Go.Proofs.Ytabjlmlfmafllaa
