/- Other numbers for the same; contracts out of evaluations. -/
import Derived.Test.YtabjlmlfmafllaaAvS
set_option linter.unusedVariables false
set_option linter.unusedSimpArgs false
namespace Go.Proofs.Ytabjlmlfmafllaa.Av
open Go.RowKit

variable {P : Program} {G : Nat → AV} {μ μ' : Nat → Option Loc} {ro ro' : Nat → Prop} {w w' : World}

/-- A CONTRACT OUT OF AN EVALUATION -/
theorem Ret.of_body {fuel : Nat} {f : FuncId} {args : List AV} {hs : List CH} {v r : AV} {h' : Hp} {rest : List CH} {ps : List Prop} {blks : List Blk} (ρ : List Nat)
    (he : evBody P (ev P G fuel) f args ⟨.e, 0⟩ hs = some ((.ret v, h', rest), ps)) (hok : allOk ps)
    (hv : v = ren ρ 4 r) (hb : blkEqs h'.m ρ ρ blks) (hc : (nodupB ρ && blks.all (shalB ρ.length) && shal ρ.length 4 r) = true) : Ret P G f args r blks := by
  intro ro w vs hro ha hg
  simp only [Bool.and_eq_true] at hc
  have hd := call_sat P G fuel f args ⟨.e, 0⟩ hs _ _ he hok (fun _ => none) ro w vs ha.up ⟨fun i k h => by simp [Tr.get] at h, fun i j k l b c h => by simp [Tr.get] at h, fun i k b h => by simp [Tr.get] at h, fun i b h => by simp at h, hro, fun i _ => rfl⟩ hg
  refine hd.mono ?_
  rintro e w1 ⟨μ', ro', hup, hco, hh⟩
  refine ⟨muOf ρ μ', ro', ⟨fun i hi => absurd hi (Nat.not_lt_zero i), hup.up, hup.nw, ⟨hup.fr.os, hup.fr.tape, hup.fr.output, hup.fr.size, hup.fr.block, hup.fr.rest, fun i l hi => ?_⟩⟩, ?_, hh.ren hb hc.1.1 hc.1.2 (fun i hi => if_pos hi) (fun i hi => if_neg (by omega))⟩
  · unfold muOf at hi
    split at hi
    · exact hup.fr.new _ l hi
    · cases hi
  · cases e <;> simp only [CoRel] at hco ⊢
    subst hv
    exact ren_rep (fun i hi => if_pos hi) 4 hc.2 hco

/-- WHAT A PIECE OF CODE DOES, OUT OF AN EVALUATION -/
theorem Does.of_ev {fuel : Nat} {c : Code} {s s1 : St} {e : AEx} {hs rest : List CH} {ps : List Prop} (he : ev P G fuel 0 c s hs = some ((e, s1, rest), ps)) (hok : allOk ps) : Does P G 0 c s e s1 :=
  ev_ok P G fuel 0 c s hs _ _ he hok
end Go.Proofs.Ytabjlmlfmafllaa.Av
