/- From cells that read as plain data to typed values; a law's row. -/
import Derived.Test.YtabjlmlfmafllaaAvY
import Derived.OpenShut
import Derived.ChangeSlices
import Derived.WalkKit
import Derived.ProofKit
import Derived.Deep.DeepHandedRow
set_option linter.unusedVariables false
set_option linter.unusedSimpArgs false
namespace Go.Proofs.Ytabjlmlfmafllaa.Av
open Go.RowKit Go.ChangeShapes Go.WideShapes Go.ChangeAt

variable {P : Program} {W : World} {H : Type} {enc : TypeId × Value → H} {sp : Nat → Bool} {held : Bool}

/-- whatever reads as a type is made of typed values -/
def Reads (P : Program) (n : Nat) (t : TypeId) {X : Type} (f : X → List AV) (wf : X → Prop) : Prop := ∀ c, HasT P n t c → ∃ x : X, c = f x ∧ wf x
def lstf {X : Type} (f : X → List AV) (l : List X) : List AV := [.lst (fl f l) l.length]
def lwf {X : Type} (wf : X → Prop) (l : List X) : Prop := l.length ≤ maxLen ∧ ∀ x ∈ l, wf x
def swf (s : List UInt8) : Prop := s.length ≤ maxLen
def u8f (l : List UInt8) : List AV := [.lst (u8s l) l.length]

theorem reads_int {n : Nat} {t : TypeId} {k : IntKind} (hu : P.underlying t = some (.int k)) : Reads P (n + 1) t (fun z : Int => [.int k z]) (InR k) := fun c h => by
  simp only [HasT, hu] at h
  obtain ⟨z, h1, h2⟩ := h
  exact ⟨z, h1, h2⟩
theorem reads_bool {n : Nat} {t : TypeId} (hu : P.underlying t = some .bool) : Reads P (n + 1) t (fun b : Bool => [.bool b]) (fun _ => True) := fun c h => by
  simp only [HasT, hu] at h
  obtain ⟨z, h1⟩ := h
  exact ⟨z, h1, trivial⟩
theorem hasT_struct {n : Nat} {t : TypeId} {fs : Array Field} {c : List AV} (hu : P.underlying t = some (.struct fs)) (h : HasT P (n + 1) t c) : HasFs (HasT P n) fs.toList c := by
  simp only [HasT, hu] at h
  exact h
theorem reads_str {n : Nat} {t : TypeId} (hu : P.underlying t = some .string) : Reads P (n + 1) t (fun s : List UInt8 => [.str s]) swf := fun c h => by
  simp only [HasT, hu] at h
  obtain ⟨z, h1, h2⟩ := h
  exact ⟨z, h1, h2⟩
theorem reads_list {n : Nat} {t e : TypeId} {X : Type} {f : X → List AV} {wf : X → Prop} (hu : P.underlying t = some (.slice e)) (he : Reads P n e f wf) : Reads P (n + 1) t (lstf f) (lwf wf) := fun c h => by
  simp only [HasT, hu] at h
  obtain ⟨es, rfl, h1, h2⟩ := h
  have : ∃ l : List X, es = l.map f ∧ ∀ x ∈ l, wf x := by
    clear h1
    induction es with
    | nil => exact ⟨[], rfl, fun x hx => by cases hx⟩
    | cons c es ih =>
      obtain ⟨l, rfl, h3⟩ := ih fun x hx => h2 x (List.mem_cons_of_mem _ hx)
      obtain ⟨x, rfl, h4⟩ := he c (h2 c (List.mem_cons_self ..))
      exact ⟨x :: l, rfl, fun y hy => by rcases List.mem_cons.1 hy with rfl | hy; exact h4; exact h3 y hy⟩
  obtain ⟨l, rfl, h3⟩ := this
  refine ⟨l, ?_, by simpa using h1, h3⟩
  simp [lstf, fl, List.flatMap]
theorem reads_u8s {n : Nat} {t e : TypeId} (hu : P.underlying t = some (.slice e)) (he : P.underlying e = some (.int .u8)) : Reads P (n + 1 + 1) t u8f swf := fun c h => by
  obtain ⟨l, rfl, h1, h2⟩ := reads_list hu (reads_int (n := n) he) c h
  refine ⟨l.map fun z => UInt8.ofNat z.toNat, ?_, by simpa [swf] using h1⟩
  simp only [lstf, u8f, List.length_map]
  congr 2
  clear h h1
  induction l with
  | nil => rfl
  | cons z l ih =>
    have hz := u8_of (h2 z (List.mem_cons_self ..))
    rw [fl_cons, ih fun x hx => h2 x (List.mem_cons_of_mem _ hx)]
    simp only [u8s, List.map_cons, ← hz]
    rfl

/-- an argument that is one cell -/
theorem arg_one {n : Nat} {t : TypeId} {v : Value} {d : DataW H} {ps : List MemPlace} {X : Type} {f : X → AV} {g : X → List AV} {wf : X → Prop} (hr : Reads P n t g wf) (hf : ∀ x, g x = [f x]) (hp : plainT P n t = true) (hv : ∀ cs, v ≠ .agg cs)
    (h : DataW.Trod enc P W 0 sp held t v d ps) : ∃ x, Rep (fun _ => none) (fun b => b < W.heap.size) W false (f x) v ∧ wf x := by
  obtain ⟨fuel, h⟩ := h
  have hc : v.cells.toList = [v] := by
    cases v <;> first | rfl | exact absurd rfl (hv _)
  rw [hc] at h
  obtain ⟨c, h1, h2, _⟩ := trod_rep n fuel t _ _ hp h
  obtain ⟨x, rfl, hw⟩ := hr c h1
  rw [hf] at h2
  obtain ⟨y, ys, h3, h4, _⟩ := h2.head
  simp only [List.cons.injEq] at h3
  exact ⟨x, h3.1 ▸ h4, hw⟩
/-- an argument of many cells -/
theorem arg_agg {n : Nat} {t : TypeId} {v : Value} {d : DataW H} {ps : List MemPlace} {X : Type} {f : X → List AV} {wf : X → Prop} (hr : Reads P n t f wf) (hp : plainT P n t = true) (hv : ∃ cs, v = .agg cs)
    (h : DataW.Trod enc P W 0 sp held t v d ps) : ∃ x, Rep (fun _ => none) (fun b => b < W.heap.size) W false (.agg (f x)) v ∧ wf x := by
  obtain ⟨fuel, h⟩ := h
  obtain ⟨cs, rfl⟩ := hv
  obtain ⟨c, h1, h2, _⟩ := trod_rep n fuel t _ _ hp h
  obtain ⟨x, rfl, hw⟩ := hr c h1
  refine ⟨x, ?_, hw⟩
  have := h2.agg
  simpa [Value.cells] using this
theorem glAny {ro : Nat → Prop} : GlRel G0 (fun _ => none) ro W := fun _ => ⟨.any, fun _ h => by cases h⟩
end Go.Proofs.Ytabjlmlfmafllaa.Av
namespace Go.Proofs.Ytabjlmlfmafllaa.Av
theorem laidMet_nil (P : Program) (w : World) : laidMetH P [] w := ⟨[], rfl, List.nodup_nil, fun b off h => by cases h⟩
end Go.Proofs.Ytabjlmlfmafllaa.Av
namespace Go.Proofs.Ytabjlmlfmafllaa.Av
/-- the cells of a table that is laid -/
def litV {H : Type} : DataW H → Value
  | .lit (.int k n) => .int k n
  | _ => undef
def tabV {H : Type} : DataW H → Array Value
  | .agg l => (l.map litV).toArray
  | _ => #[]
def setTab (g : Nat) (c : Array Value) (h : Array Obj) : Array Obj := h.modify g fun | .cells _ t frozen => .cells c t frozen | o => o
end Go.Proofs.Ytabjlmlfmafllaa.Av
