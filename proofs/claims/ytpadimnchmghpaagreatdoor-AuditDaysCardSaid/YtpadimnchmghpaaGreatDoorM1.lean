import Derived.Test.YtpadimnchmghpaaGreatDoorProg
import Derived.Tactics
import Derived.Test.YtpadimnchmghpaaGreatDoorAvTm
open Prod (fst)
open Int (tdiv tmod)
set_option maxHeartbeats 4000000
set_option maxRecDepth 100000
set_option linter.unusedVariables false
set_option linter.unusedSimpArgs false
namespace Go.Proofs.YtpadimnchmghpaaGreatDoor.Av
open Go Go.Proofs
def mI (p : Int × Int) : AV × AV := (.int .i64 p.1, .int .i64 p.2)
theorem mI_key : ∀ (x y : Int × Int), keyEq (mI x).1 (mI y).1 = decide (fst x = fst y) := by intro x y; simp [mI, keyEq]
theorem mI_at (k : Int) : ∀ x : Int × Int, keyEq (mI x).1 (.int .i64 k) = decide (fst x = k) := fun x => mI_key x (k, (0 : Int))
structure TL where
 Text : (List UInt8)
 Cents : Int
def TL.enc (x : TL) : List AV := [.str x.Text, .int .i64 x.Cents]
structure TC where
 Key : (List UInt8)
 Vehicle : (List UInt8)
 System : (List UInt8)
 Class : Int
 Time : Int
 Lines : (List TL)
 Cents : Int
def TC.enc (x : TC) : List AV := [.str x.Key, .str x.Vehicle, .str x.System, .int .i64 x.Class, .int .i64 x.Time, .lst (fl TL.enc x.Lines) x.Lines.length, .int .i64 x.Cents]
def mTC (p : (List UInt8) × TC) : AV × AV := (.str p.1, .agg (TC.enc p.2))
theorem mTC_key : ∀ (x y : (List UInt8) × TC), keyEq (mTC x).1 (mTC y).1 = decide (fst x = fst y) := by intro x y; simp [mTC, keyEq]
theorem mTC_at (k : (List UInt8)) : ∀ x : (List UInt8) × TC, keyEq (mTC x).1 (.str k) = decide (fst x = k) := fun x => mTC_key x (k, ((⟨([] : List UInt8), ([] : List UInt8), ([] : List UInt8), 0, 0, [], 0⟩ : TC) : TC))
abbrev mcpI_H (l : List (Int × Int)) (m : Nat) (ms : List MapEntry) (cl : Nat) (s : List (AV × AV)) (seen : List Nat) : St :=
 S 16 [(0, .mapr 0), (7, .ptr 2 0)] [bM (.i .i64) s, bR m (.i .i64) (l.map mI) ms cl, bI m cl seen cl]
abbrev mcpI_E (l : List (Int × Int)) (m : Nat) (ms : List MapEntry) (cl : Nat) (s : List (AV × AV)) : St :=
 S 16 [] [bM (.i .i64) s, bR m (.i .i64) (l.map mI) ms cl]
theorem mcpI_round (l : List (Int × Int)) (m : Nat) (ms : List MapEntry) (cl : Nat) (s : List (AV × AV)) (seen : List Nat) (y : (Int × Int)) (b : Nat) (he : EntAt (l.map mI) ms (seen ++ [b]) (.int .i64 y.1) (.int .i64 y.2)) :
  Does Tryz.prog G0 2 (bodyAt Tryz.prog 44 [1, 0, 0, 1]) (next2 (mcpI_H l m ms cl s seen) 2 8 9 (.tup [.bool true, .int .i64 y.1, .int .i64 y.2]) true (.mit m cl (seen ++ [b]) cl)) .normal
   (S 16 [(0, .mapr 0), (7, .ptr 2 0)] [bM (.i .i64) (setE s (.int .i64 y.1) (.int .i64 y.2)), bR m (.i .i64) (l.map mI) ms cl, bI m cl (seen ++ [b]) cl]) :=
 Does.of_viewM 2 10000 [.op none (.v [.mapr 1, jI y.1, jI y.2])] [0, 1, 2] (ps := [m = m ∧ cl = cl ∧ EntAt (l.map mI) ms (seen ++ [b]) (jI y.1) (jI y.2)]) (by kernel_rfl) (by kernel_rfl) ⟨rfl, rfl, he⟩
theorem mcpI_done (l : List (Int × Int)) (m : Nat) (ms : List MapEntry) (cl : Nat) (s : List (AV × AV)) (seen : List Nat) :
  Does Tryz.prog G0 2 (bodyAt Tryz.prog 44 [1, 0, 0, 1]) (next2 (mcpI_H l m ms cl s seen) 2 8 9 (.tup [.bool false]) false (.mit m cl seen cl)) (.exit 0) (mcpI_E l m ms cl s) :=
 Does.of_viewM 2 10000 [] [0, 1] (ps := []) (by kernel_rfl) (by kernel_rfl) trivial
theorem mcpI_fold (l : List (Int × Int)) : ∀ (d : List (Int × Int)), (l.map mI).foldlM (fun s p => some (setE s p.1 p.2)) (d.map mI) = some ((mrgK fst d l).map mI) := by
 induction l with
 | nil => intro d; rfl
 | cons x l ih =>
  intro d
  rw [List.map_cons, List.foldlM_cons]
  show (some (setE (d.map mI) (mI x).1 (mI x).2)).bind _ = _
  rw [Option.bind_some, set_map (κ := fst) mI_key d x, ih]
  rfl
theorem mcpI_loop (l d : List (Int × Int)) (m : Nat) (ms : List MapEntry) (cl : Nat) (hl : (l.map mI).length = ms.length) (hn : (ms.map (·.born)).Nodup) (hk : (l.map fst).Nodup) (hd : (d.map fst).Nodup) :
  Does Tryz.prog G0 2 (bodyAt Tryz.prog 44 [1, 0]) (mcpI_H l m ms cl (d.map mI) []) (.exit 0) (mcpI_E l m ms cl ((mrgK fst d l).map mI)) := by
 obtain ⟨id, ops, hc, hops⟩ := loopOk_eq (c := bodyAt Tryz.prog 44 [1, 0]) (ti := 7) (td := 8) (te := 9) (nt := 16) (by kernel_rfl)
 have hrest : restOf (bodyAt Tryz.prog 44 [1, 0]) = bodyAt Tryz.prog 44 [1, 0, 0, 1] := by kernel_rfl
 rw [hrest] at hc
 rw [hc]
 have H := map_loop (P := Tryz.prog) (G := G0) (n := 2) (id := id) (i := 2) (j := 1) (m := m) (cl := cl) (kd := (.i .i64)) (es := l.map mI) (ms := ms) (σ := List (AV × AV)) (rest := bodyAt Tryz.prog 44 [1, 0, 0, 1])
  (fun s k v => some (setE s k v)) (mcpI_H l m ms cl) (mcpI_E l m ms cl) (.exit 0) hl hn hops
  (fun s seen => ⟨rfl, (show 2 ≤ 3 by decide), by kernel_rfl, by kernel_rfl, by kernel_rfl⟩) (by simp)
  (fun s s' seen x e k v h1 h2 h3 => by
   have h2' := h2
   rw [List.getElem?_map] at h2
   obtain ⟨y, hy1, hy2⟩ := Option.map_eq_some_iff.1 h2
   cases hy2
   simp only [sJ] at h3
   subst h3
   exact mcpI_round l m ms cl s seen y e.born ⟨x, e, h1, by rw [List.getElem?_map, hy1]; rfl, by simp⟩)
  (fun s seen => mcpI_done l m ms cl s seen) (s0 := d.map mI) ?_
 ·refine H.one (by simp) fun e1 s1 ⟨he, es', t, hp, hf, hs⟩ => ⟨he, ?_⟩
  subst hs
  obtain ⟨l', hl', rfl⟩ := perm_map hp
  rw [mcpI_fold] at hf
  cases hf
  exact Sub.trans (Sub.mapPerm (id := 0) (s := mcpI_E l m ms cl ((mrgK fst d l').map mI)) (by kernel_rfl) ((mrgK_perm hd hk hl').map mI)) (by exact Sub.refl)
 ·intro es' hp
  obtain ⟨l', hl', rfl⟩ := perm_map hp
  rw [mcpI_fold]
  simp
theorem mcpI_code : bodyAt Tryz.prog 44 [1, 0] = .loop (bodyAt Tryz.prog 44 [1, 0, 0]) := by kernel_rfl
theorem mcpI_body (l d r k : List (Int × Int)) (m : Nat) (ms : List MapEntry) (cl : Nat) (hl : Does Tryz.prog G0 2 (.loop (bodyAt Tryz.prog 44 [1, 0, 0])) (mcpI_H l m ms cl (d.map mI) []) (.exit 0) (mcpI_E l m ms cl ((mrgK fst d l).map mI))) (x1 : ((mrgK fst d l).map mI).Perm (r.map mI)) (x2 : (l.map mI).Perm (k.map mI)) : CallsM Tryz.prog G0 2 44 [.mapr 0, .mapr 1] [bM (.i .i64) (d.map mI), bR m (.i .i64) (l.map mI) ms cl] (.tup []) [bM (.i .i64) (r.map mI), bM (.i .i64) (k.map mI)] :=
 CallsM.of_view 2 10000 [oc, oc, .fcut 2 (.exit 0) [] [bM (.i .i64) ((mrgK fst d l).map mI), bR m (.i .i64) (l.map mI) ms cl] [0, 1, 2] [(0, .mapr 0), (7, .ptr 2 0)] [bM (.i .i64) (d.map mI), bR m (.i .i64) (l.map mI) ms cl, bI m cl [] cl], .tr (.mp 0 (r.map mI)), .tr (.mp 1 (k.map mI))] [0, 1]
  (ps := [(.mapr 0 : AV) = .mapr 0, (.ptr 2 0 : AV) = .ptr 2 0, ((.i .i64) : KK) = (.i .i64) ∧ d.map mI = d.map mI, Ob.rm m (.i .i64) (l.map mI) ms cl = .rm m (.i .i64) (l.map mI) ms cl, Ob.mit m cl [] cl = .mit m cl [] cl,
   Does Tryz.prog G0 2 (.loop (bodyAt Tryz.prog 44 [1, 0, 0])) (mcpI_H l m ms cl (d.map mI) []) (.exit 0) (mcpI_E l m ms cl ((mrgK fst d l).map mI)), ((mrgK fst d l).map mI).Perm (r.map mI), (l.map mI).Perm (k.map mI)])
  (by kernel_rfl) (by kernel_rfl) ⟨rfl, rfl, ⟨rfl, rfl⟩, rfl, rfl, hl, x1, x2⟩
theorem mcpI_calls (d l : List (Int × Int)) : CallsM Tryz.prog G0 2 44 [.mapr 0, .mapr 1] [bM (.i .i64) (d.map mI), bM (.i .i64) (l.map mI)] (.tup []) [bM (.i .i64) ((mrgK fst d l).map mI), bM (.i .i64) (l.map mI)] :=
 have hr : ∀ x, keyEq (mI x).1 (mI x).1 = true := fun x => by rw [mI_key]; simp
 CallsM.nodupA (kd := (.i .i64)) (es := d.map mI) 0 (by kernel_rfl) fun hd =>
 CallsM.nodupA (kd := (.i .i64)) (es := l.map mI) 1 (by kernel_rfl) fun hk =>
 CallsM.showA (kd := (.i .i64)) (es := l.map mI) 1 (by kernel_rfl) fun m es' ms cl hp hlen hn => by
  have hd := nodup_key (κ := fst) mI_key hr hd
  have hk := nodup_key (κ := fst) mI_key hr hk
  obtain ⟨l', hl', rfl⟩ := perm_map hp.symm
  refine ⟨[bM (.i .i64) (d.map mI), bR m (.i .i64) (l'.map mI) ms cl], by kernel_rfl, ?_⟩
  exact mcpI_body l' d (mrgK fst d l) l m ms cl (mcpI_code ▸ mcpI_loop l' d m ms cl hlen hn ((hl'.map fst).nodup_iff.2 hk) hd) ((mrgK_perm hd hk hl').map mI) (hl'.map mI)
abbrev mcpS_H (l : List ((List UInt8) × TC)) (m : Nat) (ms : List MapEntry) (cl : Nat) (s : List (AV × AV)) (seen : List Nat) : St :=
 S 16 [(0, .mapr 0), (7, .ptr 2 0)] [bM .s s, bR m .s (l.map mTC) ms cl, bI m cl seen cl]
abbrev mcpS_E (l : List ((List UInt8) × TC)) (m : Nat) (ms : List MapEntry) (cl : Nat) (s : List (AV × AV)) : St :=
 S 16 [] [bM .s s, bR m .s (l.map mTC) ms cl]
theorem mcpS_round (l : List ((List UInt8) × TC)) (m : Nat) (ms : List MapEntry) (cl : Nat) (s : List (AV × AV)) (seen : List Nat) (y : ((List UInt8) × TC)) (b : Nat) (he : EntAt (l.map mTC) ms (seen ++ [b]) (.str y.1) (.agg (TC.enc y.2))) :
  Does Tryz.prog G0 2 (bodyAt Tryz.prog 32 [1, 0, 0, 1]) (next2 (mcpS_H l m ms cl s seen) 2 8 9 (.tup [.bool true, .str y.1, .agg (TC.enc y.2)]) true (.mit m cl (seen ++ [b]) cl)) .normal
   (S 16 [(0, .mapr 0), (7, .ptr 2 0)] [bM .s (setE s (.str y.1) (.agg (TC.enc y.2))), bR m .s (l.map mTC) ms cl, bI m cl (seen ++ [b]) cl]) :=
 Does.of_viewM 2 10000 [.op none (.v [.mapr 1, .str y.1, .agg (TC.enc y.2)])] [0, 1, 2] (ps := [m = m ∧ cl = cl ∧ EntAt (l.map mTC) ms (seen ++ [b]) (.str y.1) (.agg (TC.enc y.2))]) (by kernel_rfl) (by kernel_rfl) ⟨rfl, rfl, he⟩
theorem mcpS_done (l : List ((List UInt8) × TC)) (m : Nat) (ms : List MapEntry) (cl : Nat) (s : List (AV × AV)) (seen : List Nat) :
  Does Tryz.prog G0 2 (bodyAt Tryz.prog 32 [1, 0, 0, 1]) (next2 (mcpS_H l m ms cl s seen) 2 8 9 (.tup [.bool false]) false (.mit m cl seen cl)) (.exit 0) (mcpS_E l m ms cl s) :=
 Does.of_viewM 2 10000 [] [0, 1] (ps := []) (by kernel_rfl) (by kernel_rfl) trivial
theorem mcpS_fold (l : List ((List UInt8) × TC)) : ∀ (d : List ((List UInt8) × TC)), (l.map mTC).foldlM (fun s p => some (setE s p.1 p.2)) (d.map mTC) = some ((mrgK fst d l).map mTC) := by
 induction l with
 | nil => intro d; rfl
 | cons x l ih =>
  intro d
  rw [List.map_cons, List.foldlM_cons]
  show (some (setE (d.map mTC) (mTC x).1 (mTC x).2)).bind _ = _
  rw [Option.bind_some, set_map (κ := fst) mTC_key d x, ih]
  rfl
theorem mcpS_loop (l d : List ((List UInt8) × TC)) (m : Nat) (ms : List MapEntry) (cl : Nat) (hl : (l.map mTC).length = ms.length) (hn : (ms.map (·.born)).Nodup) (hk : (l.map fst).Nodup) (hd : (d.map fst).Nodup) :
  Does Tryz.prog G0 2 (bodyAt Tryz.prog 32 [1, 0]) (mcpS_H l m ms cl (d.map mTC) []) (.exit 0) (mcpS_E l m ms cl ((mrgK fst d l).map mTC)) := by
 obtain ⟨id, ops, hc, hops⟩ := loopOk_eq (c := bodyAt Tryz.prog 32 [1, 0]) (ti := 7) (td := 8) (te := 9) (nt := 16) (by kernel_rfl)
 have hrest : restOf (bodyAt Tryz.prog 32 [1, 0]) = bodyAt Tryz.prog 32 [1, 0, 0, 1] := by kernel_rfl
 rw [hrest] at hc
 rw [hc]
 have H := map_loop (P := Tryz.prog) (G := G0) (n := 2) (id := id) (i := 2) (j := 1) (m := m) (cl := cl) (kd := .s) (es := l.map mTC) (ms := ms) (σ := List (AV × AV)) (rest := bodyAt Tryz.prog 32 [1, 0, 0, 1])
  (fun s k v => some (setE s k v)) (mcpS_H l m ms cl) (mcpS_E l m ms cl) (.exit 0) hl hn hops
  (fun s seen => ⟨rfl, (show 2 ≤ 3 by decide), by kernel_rfl, by kernel_rfl, by kernel_rfl⟩) (by simp)
  (fun s s' seen x e k v h1 h2 h3 => by
   have h2' := h2
   rw [List.getElem?_map] at h2
   obtain ⟨y, hy1, hy2⟩ := Option.map_eq_some_iff.1 h2
   cases hy2
   simp only [sJ] at h3
   subst h3
   exact mcpS_round l m ms cl s seen y e.born ⟨x, e, h1, by rw [List.getElem?_map, hy1]; rfl, by simp⟩)
  (fun s seen => mcpS_done l m ms cl s seen) (s0 := d.map mTC) ?_
 ·refine H.one (by simp) fun e1 s1 ⟨he, es', t, hp, hf, hs⟩ => ⟨he, ?_⟩
  subst hs
  obtain ⟨l', hl', rfl⟩ := perm_map hp
  rw [mcpS_fold] at hf
  cases hf
  exact Sub.trans (Sub.mapPerm (id := 0) (s := mcpS_E l m ms cl ((mrgK fst d l').map mTC)) (by kernel_rfl) ((mrgK_perm hd hk hl').map mTC)) (by exact Sub.refl)
 ·intro es' hp
  obtain ⟨l', hl', rfl⟩ := perm_map hp
  rw [mcpS_fold]
  simp
theorem mcpS_code : bodyAt Tryz.prog 32 [1, 0] = .loop (bodyAt Tryz.prog 32 [1, 0, 0]) := by kernel_rfl
theorem mcpS_body (l d r k : List ((List UInt8) × TC)) (m : Nat) (ms : List MapEntry) (cl : Nat) (hl : Does Tryz.prog G0 2 (.loop (bodyAt Tryz.prog 32 [1, 0, 0])) (mcpS_H l m ms cl (d.map mTC) []) (.exit 0) (mcpS_E l m ms cl ((mrgK fst d l).map mTC))) (x1 : ((mrgK fst d l).map mTC).Perm (r.map mTC)) (x2 : (l.map mTC).Perm (k.map mTC)) : CallsM Tryz.prog G0 2 32 [.mapr 0, .mapr 1] [bM .s (d.map mTC), bR m .s (l.map mTC) ms cl] (.tup []) [bM .s (r.map mTC), bM .s (k.map mTC)] :=
 CallsM.of_view 2 10000 [oc, oc, .fcut 2 (.exit 0) [] [bM .s ((mrgK fst d l).map mTC), bR m .s (l.map mTC) ms cl] [0, 1, 2] [(0, .mapr 0), (7, .ptr 2 0)] [bM .s (d.map mTC), bR m .s (l.map mTC) ms cl, bI m cl [] cl], .tr (.mp 0 (r.map mTC)), .tr (.mp 1 (k.map mTC))] [0, 1]
  (ps := [(.mapr 0 : AV) = .mapr 0, (.ptr 2 0 : AV) = .ptr 2 0, (.s : KK) = .s ∧ d.map mTC = d.map mTC, Ob.rm m .s (l.map mTC) ms cl = .rm m .s (l.map mTC) ms cl, Ob.mit m cl [] cl = .mit m cl [] cl,
   Does Tryz.prog G0 2 (.loop (bodyAt Tryz.prog 32 [1, 0, 0])) (mcpS_H l m ms cl (d.map mTC) []) (.exit 0) (mcpS_E l m ms cl ((mrgK fst d l).map mTC)), ((mrgK fst d l).map mTC).Perm (r.map mTC), (l.map mTC).Perm (k.map mTC)])
  (by kernel_rfl) (by kernel_rfl) ⟨rfl, rfl, ⟨rfl, rfl⟩, rfl, rfl, hl, x1, x2⟩
theorem mcpS_calls (d l : List ((List UInt8) × TC)) : CallsM Tryz.prog G0 2 32 [.mapr 0, .mapr 1] [bM .s (d.map mTC), bM .s (l.map mTC)] (.tup []) [bM .s ((mrgK fst d l).map mTC), bM .s (l.map mTC)] :=
 have hr : ∀ x, keyEq (mTC x).1 (mTC x).1 = true := fun x => by rw [mTC_key]; simp
 CallsM.nodupA (kd := .s) (es := d.map mTC) 0 (by kernel_rfl) fun hd =>
 CallsM.nodupA (kd := .s) (es := l.map mTC) 1 (by kernel_rfl) fun hk =>
 CallsM.showA (kd := .s) (es := l.map mTC) 1 (by kernel_rfl) fun m es' ms cl hp hlen hn => by
  have hd := nodup_key (κ := fst) mTC_key hr hd
  have hk := nodup_key (κ := fst) mTC_key hr hk
  obtain ⟨l', hl', rfl⟩ := perm_map hp.symm
  refine ⟨[bM .s (d.map mTC), bR m .s (l'.map mTC) ms cl], by kernel_rfl, ?_⟩
  exact mcpS_body l' d (mrgK fst d l) l m ms cl (mcpS_code ▸ mcpS_loop l' d m ms cl hlen hn ((hl'.map fst).nodup_iff.2 hk) hd) ((mrgK_perm hd hk hl').map mTC) (hl'.map mTC)
end Go.Proofs.YtpadimnchmghpaaGreatDoor.Av
