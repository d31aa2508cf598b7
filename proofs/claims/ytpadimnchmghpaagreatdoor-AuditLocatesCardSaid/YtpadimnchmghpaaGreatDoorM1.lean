import Derived.Test.YtpadimnchmghpaaGreatDoorAvZ
import Derived.Test.YtpadimnchmghpaaGreatDoorProg
import Derived.Tactics
import Derived.Test.YtpadimnchmghpaaGreatDoorAvTm
set_option linter.unusedVariables false
set_option linter.unusedSimpArgs false
set_option maxHeartbeats 4000000
set_option maxRecDepth 100000
namespace Go.Proofs.YtpadimnchmghpaaGreatDoor.Av
open Go Go.Proofs
def me_i64_i64 (p : Int × Int) : AV × AV := (.int .i64 p.1, .int .i64 p.2)
theorem me_i64_i64_key : ∀ (x y : Int × Int), keyEq (me_i64_i64 x).1 (me_i64_i64 y).1 = decide (Prod.fst x = Prod.fst y) := by intro x y; simp [me_i64_i64, keyEq]
theorem me_i64_i64_at (k : Int) : ∀ x : Int × Int, keyEq (me_i64_i64 x).1 (.int .i64 k) = decide (Prod.fst x = k) := fun x => me_i64_i64_key x (k, (0 : Int))
structure Tapi_Line where
  Text : (List UInt8)
  Cents : Int
def Tapi_Line.enc (x : Tapi_Line) : List AV := [.str x.Text, .int .i64 x.Cents]
structure Tapi_Charge where
  Key : (List UInt8)
  Vehicle : (List UInt8)
  System : (List UInt8)
  Class : Int
  Time : Int
  Lines : (List Tapi_Line)
  Cents : Int
def Tapi_Charge.enc (x : Tapi_Charge) : List AV := [.str x.Key, .str x.Vehicle, .str x.System, .int .i64 x.Class, .int .i64 x.Time, .lst (fl Tapi_Line.enc x.Lines) x.Lines.length, .int .i64 x.Cents]
def me_s_Tapi_Charge (p : (List UInt8) × Tapi_Charge) : AV × AV := (.str p.1, .agg (Tapi_Charge.enc p.2))
theorem me_s_Tapi_Charge_key : ∀ (x y : (List UInt8) × Tapi_Charge), keyEq (me_s_Tapi_Charge x).1 (me_s_Tapi_Charge y).1 = decide (Prod.fst x = Prod.fst y) := by intro x y; simp [me_s_Tapi_Charge, keyEq]
theorem me_s_Tapi_Charge_at (k : (List UInt8)) : ∀ x : (List UInt8) × Tapi_Charge, keyEq (me_s_Tapi_Charge x).1 (.str k) = decide (Prod.fst x = k) := fun x => me_s_Tapi_Charge_key x (k, ((⟨([] : List UInt8), ([] : List UInt8), ([] : List UInt8), 0, 0, [], 0⟩ : Tapi_Charge) : Tapi_Charge))
abbrev mcpI_H (l : List (Int × Int)) (m : Nat) (ms : List MapEntry) (cl : Nat) (s : List (AV × AV)) (seen : List Nat) : St :=
  S 16 [(0, .mapr 0), (7, .ptr 2 0)] [bM (.i .i64) s, bR m (.i .i64) (l.map me_i64_i64) ms cl, bI m cl seen cl]
abbrev mcpI_E (l : List (Int × Int)) (m : Nat) (ms : List MapEntry) (cl : Nat) (s : List (AV × AV)) : St :=
  S 16 [] [bM (.i .i64) s, bR m (.i .i64) (l.map me_i64_i64) ms cl]
theorem mcpI_round (l : List (Int × Int)) (m : Nat) (ms : List MapEntry) (cl : Nat) (s : List (AV × AV)) (seen : List Nat) (y : (Int × Int)) (b : Nat) (he : EntAt (l.map me_i64_i64) ms (seen ++ [b]) (.int .i64 y.1) (.int .i64 y.2)) :
    Does Tryz.prog G0 2 (bodyAt Tryz.prog 44 [1, 0, 0, 1]) (next2 (mcpI_H l m ms cl s seen) 2 8 9 (.tup [.bool true, .int .i64 y.1, .int .i64 y.2]) true (.mit m cl (seen ++ [b]) cl)) .normal
      (S 16 [(0, .mapr 0), (7, .ptr 2 0)] [bM (.i .i64) (setE s (.int .i64 y.1) (.int .i64 y.2)), bR m (.i .i64) (l.map me_i64_i64) ms cl, bI m cl (seen ++ [b]) cl]) :=
  Does.of_viewM 2 10000 [.op none (.v [.mapr 1, .int .i64 y.1, .int .i64 y.2])] [0, 1, 2] (ps := [m = m ∧ cl = cl ∧ EntAt (l.map me_i64_i64) ms (seen ++ [b]) (.int .i64 y.1) (.int .i64 y.2)]) (by kernel_rfl) (by kernel_rfl) ⟨rfl, rfl, he⟩
theorem mcpI_done (l : List (Int × Int)) (m : Nat) (ms : List MapEntry) (cl : Nat) (s : List (AV × AV)) (seen : List Nat) :
    Does Tryz.prog G0 2 (bodyAt Tryz.prog 44 [1, 0, 0, 1]) (next2 (mcpI_H l m ms cl s seen) 2 8 9 (.tup [.bool false]) false (.mit m cl seen cl)) (.exit 0) (mcpI_E l m ms cl s) :=
  Does.of_viewM 2 10000 [] [0, 1] (ps := []) (by kernel_rfl) (by kernel_rfl) trivial
theorem mcpI_fold (l : List (Int × Int)) : ∀ (d : List (Int × Int)), (l.map me_i64_i64).foldlM (fun s p => some (setE s p.1 p.2)) (d.map me_i64_i64) = some ((mrgK Prod.fst d l).map me_i64_i64) := by
  induction l with
  | nil => intro d; rfl
  | cons x l ih =>
    intro d
    rw [List.map_cons, List.foldlM_cons]
    show (some (setE (d.map me_i64_i64) (me_i64_i64 x).1 (me_i64_i64 x).2)).bind _ = _
    rw [Option.bind_some, set_map (κ := Prod.fst) me_i64_i64_key d x, ih]
    rfl
theorem mcpI_loop (l d : List (Int × Int)) (m : Nat) (ms : List MapEntry) (cl : Nat) (hl : (l.map me_i64_i64).length = ms.length) (hn : (ms.map (·.born)).Nodup) (hk : (l.map Prod.fst).Nodup) (hd : (d.map Prod.fst).Nodup) :
    Does Tryz.prog G0 2 (bodyAt Tryz.prog 44 [1, 0]) (mcpI_H l m ms cl (d.map me_i64_i64) []) (.exit 0) (mcpI_E l m ms cl ((mrgK Prod.fst d l).map me_i64_i64)) := by
  obtain ⟨id, ops, hc, hops⟩ := loopOk_eq (c := bodyAt Tryz.prog 44 [1, 0]) (ti := 7) (td := 8) (te := 9) (nt := 16) (by kernel_rfl)
  have hrest : restOf (bodyAt Tryz.prog 44 [1, 0]) = bodyAt Tryz.prog 44 [1, 0, 0, 1] := by kernel_rfl
  rw [hrest] at hc
  rw [hc]
  have H := map_loop (P := Tryz.prog) (G := G0) (n := 2) (id := id) (i := 2) (j := 1) (m := m) (cl := cl) (kd := (.i .i64)) (es := l.map me_i64_i64) (ms := ms) (σ := List (AV × AV)) (rest := bodyAt Tryz.prog 44 [1, 0, 0, 1])
    (fun s k v => some (setE s k v)) (mcpI_H l m ms cl) (mcpI_E l m ms cl) (.exit 0) hl hn hops
    (fun s seen => ⟨rfl, (show 2 ≤ 3 by decide), by kernel_rfl, by kernel_rfl, by kernel_rfl⟩) (by simp)
    (fun s s' seen x e k v h1 h2 h3 => by
      have h2' := h2
      rw [List.getElem?_map] at h2
      obtain ⟨y, hy1, hy2⟩ := Option.map_eq_some_iff.1 h2
      cases hy2
      simp only [Option.some.injEq] at h3
      subst h3
      exact mcpI_round l m ms cl s seen y e.born ⟨x, e, h1, by rw [List.getElem?_map, hy1]; rfl, by simp⟩)
    (fun s seen => mcpI_done l m ms cl s seen) (s0 := d.map me_i64_i64) ?_
  · refine H.one (by simp) fun e1 s1 ⟨he, es', t, hp, hf, hs⟩ => ⟨he, ?_⟩
    subst hs
    obtain ⟨l', hl', rfl⟩ := perm_map hp
    rw [mcpI_fold] at hf
    cases hf
    exact Sub.trans (Sub.mapPerm (id := 0) (s := mcpI_E l m ms cl ((mrgK Prod.fst d l').map me_i64_i64)) (by kernel_rfl) ((mrgK_perm hd hk hl').map me_i64_i64)) (by exact Sub.refl)
  · intro es' hp
    obtain ⟨l', hl', rfl⟩ := perm_map hp
    rw [mcpI_fold]
    simp
theorem mcpI_code : bodyAt Tryz.prog 44 [1, 0] = .loop (bodyAt Tryz.prog 44 [1, 0, 0]) := by kernel_rfl
theorem mcpI_body (l d r k : List (Int × Int)) (m : Nat) (ms : List MapEntry) (cl : Nat) (hl : Does Tryz.prog G0 2 (.loop (bodyAt Tryz.prog 44 [1, 0, 0])) (mcpI_H l m ms cl (d.map me_i64_i64) []) (.exit 0) (mcpI_E l m ms cl ((mrgK Prod.fst d l).map me_i64_i64))) (x1 : ((mrgK Prod.fst d l).map me_i64_i64).Perm (r.map me_i64_i64)) (x2 : (l.map me_i64_i64).Perm (k.map me_i64_i64)) : CallsM Tryz.prog G0 2 44 [.mapr 0, .mapr 1] [bM (.i .i64) (d.map me_i64_i64), bR m (.i .i64) (l.map me_i64_i64) ms cl] (.tup []) [bM (.i .i64) (r.map me_i64_i64), bM (.i .i64) (k.map me_i64_i64)] :=
  CallsM.of_view 2 10000 [oc, oc, .fcut 2 (.exit 0) [] [bM (.i .i64) ((mrgK Prod.fst d l).map me_i64_i64), bR m (.i .i64) (l.map me_i64_i64) ms cl] [0, 1, 2] [(0, .mapr 0), (7, .ptr 2 0)] [bM (.i .i64) (d.map me_i64_i64), bR m (.i .i64) (l.map me_i64_i64) ms cl, bI m cl [] cl], .tr (.mp 0 (r.map me_i64_i64)), .tr (.mp 1 (k.map me_i64_i64))] [0, 1]
    (ps := [(.mapr 0 : AV) = .mapr 0, (.ptr 2 0 : AV) = .ptr 2 0, ((.i .i64) : KK) = (.i .i64) ∧ d.map me_i64_i64 = d.map me_i64_i64, Ob.rm m (.i .i64) (l.map me_i64_i64) ms cl = .rm m (.i .i64) (l.map me_i64_i64) ms cl, Ob.mit m cl [] cl = .mit m cl [] cl,
      Does Tryz.prog G0 2 (.loop (bodyAt Tryz.prog 44 [1, 0, 0])) (mcpI_H l m ms cl (d.map me_i64_i64) []) (.exit 0) (mcpI_E l m ms cl ((mrgK Prod.fst d l).map me_i64_i64)), ((mrgK Prod.fst d l).map me_i64_i64).Perm (r.map me_i64_i64), (l.map me_i64_i64).Perm (k.map me_i64_i64)])
    (by kernel_rfl) (by kernel_rfl) ⟨rfl, rfl, ⟨rfl, rfl⟩, rfl, rfl, hl, x1, x2⟩
/-- maps.Copy -/
theorem mcpI_calls (d l : List (Int × Int)) : CallsM Tryz.prog G0 2 44 [.mapr 0, .mapr 1] [bM (.i .i64) (d.map me_i64_i64), bM (.i .i64) (l.map me_i64_i64)] (.tup []) [bM (.i .i64) ((mrgK Prod.fst d l).map me_i64_i64), bM (.i .i64) (l.map me_i64_i64)] :=
  have hr : ∀ x, keyEq (me_i64_i64 x).1 (me_i64_i64 x).1 = true := fun x => by rw [me_i64_i64_key]; simp
  CallsM.nodupA (kd := (.i .i64)) (es := d.map me_i64_i64) 0 (by kernel_rfl) fun hd =>
  CallsM.nodupA (kd := (.i .i64)) (es := l.map me_i64_i64) 1 (by kernel_rfl) fun hk =>
  CallsM.showA (kd := (.i .i64)) (es := l.map me_i64_i64) 1 (by kernel_rfl) fun m es' ms cl hp hlen hn => by
    have hd := nodup_key (κ := Prod.fst) me_i64_i64_key hr hd
    have hk := nodup_key (κ := Prod.fst) me_i64_i64_key hr hk
    obtain ⟨l', hl', rfl⟩ := perm_map hp.symm
    refine ⟨[bM (.i .i64) (d.map me_i64_i64), bR m (.i .i64) (l'.map me_i64_i64) ms cl], by kernel_rfl, ?_⟩
    exact mcpI_body l' d (mrgK Prod.fst d l) l m ms cl (mcpI_code ▸ mcpI_loop l' d m ms cl hlen hn ((hl'.map Prod.fst).nodup_iff.2 hk) hd) ((mrgK_perm hd hk hl').map me_i64_i64) (hl'.map me_i64_i64)
abbrev mcpS_H (l : List ((List UInt8) × Tapi_Charge)) (m : Nat) (ms : List MapEntry) (cl : Nat) (s : List (AV × AV)) (seen : List Nat) : St :=
  S 16 [(0, .mapr 0), (7, .ptr 2 0)] [bM .s s, bR m .s (l.map me_s_Tapi_Charge) ms cl, bI m cl seen cl]
abbrev mcpS_E (l : List ((List UInt8) × Tapi_Charge)) (m : Nat) (ms : List MapEntry) (cl : Nat) (s : List (AV × AV)) : St :=
  S 16 [] [bM .s s, bR m .s (l.map me_s_Tapi_Charge) ms cl]
theorem mcpS_round (l : List ((List UInt8) × Tapi_Charge)) (m : Nat) (ms : List MapEntry) (cl : Nat) (s : List (AV × AV)) (seen : List Nat) (y : ((List UInt8) × Tapi_Charge)) (b : Nat) (he : EntAt (l.map me_s_Tapi_Charge) ms (seen ++ [b]) (.str y.1) (.agg (Tapi_Charge.enc y.2))) :
    Does Tryz.prog G0 2 (bodyAt Tryz.prog 32 [1, 0, 0, 1]) (next2 (mcpS_H l m ms cl s seen) 2 8 9 (.tup [.bool true, .str y.1, .agg (Tapi_Charge.enc y.2)]) true (.mit m cl (seen ++ [b]) cl)) .normal
      (S 16 [(0, .mapr 0), (7, .ptr 2 0)] [bM .s (setE s (.str y.1) (.agg (Tapi_Charge.enc y.2))), bR m .s (l.map me_s_Tapi_Charge) ms cl, bI m cl (seen ++ [b]) cl]) :=
  Does.of_viewM 2 10000 [.op none (.v [.mapr 1, .str y.1, .agg (Tapi_Charge.enc y.2)])] [0, 1, 2] (ps := [m = m ∧ cl = cl ∧ EntAt (l.map me_s_Tapi_Charge) ms (seen ++ [b]) (.str y.1) (.agg (Tapi_Charge.enc y.2))]) (by kernel_rfl) (by kernel_rfl) ⟨rfl, rfl, he⟩
theorem mcpS_done (l : List ((List UInt8) × Tapi_Charge)) (m : Nat) (ms : List MapEntry) (cl : Nat) (s : List (AV × AV)) (seen : List Nat) :
    Does Tryz.prog G0 2 (bodyAt Tryz.prog 32 [1, 0, 0, 1]) (next2 (mcpS_H l m ms cl s seen) 2 8 9 (.tup [.bool false]) false (.mit m cl seen cl)) (.exit 0) (mcpS_E l m ms cl s) :=
  Does.of_viewM 2 10000 [] [0, 1] (ps := []) (by kernel_rfl) (by kernel_rfl) trivial
theorem mcpS_fold (l : List ((List UInt8) × Tapi_Charge)) : ∀ (d : List ((List UInt8) × Tapi_Charge)), (l.map me_s_Tapi_Charge).foldlM (fun s p => some (setE s p.1 p.2)) (d.map me_s_Tapi_Charge) = some ((mrgK Prod.fst d l).map me_s_Tapi_Charge) := by
  induction l with
  | nil => intro d; rfl
  | cons x l ih =>
    intro d
    rw [List.map_cons, List.foldlM_cons]
    show (some (setE (d.map me_s_Tapi_Charge) (me_s_Tapi_Charge x).1 (me_s_Tapi_Charge x).2)).bind _ = _
    rw [Option.bind_some, set_map (κ := Prod.fst) me_s_Tapi_Charge_key d x, ih]
    rfl
theorem mcpS_loop (l d : List ((List UInt8) × Tapi_Charge)) (m : Nat) (ms : List MapEntry) (cl : Nat) (hl : (l.map me_s_Tapi_Charge).length = ms.length) (hn : (ms.map (·.born)).Nodup) (hk : (l.map Prod.fst).Nodup) (hd : (d.map Prod.fst).Nodup) :
    Does Tryz.prog G0 2 (bodyAt Tryz.prog 32 [1, 0]) (mcpS_H l m ms cl (d.map me_s_Tapi_Charge) []) (.exit 0) (mcpS_E l m ms cl ((mrgK Prod.fst d l).map me_s_Tapi_Charge)) := by
  obtain ⟨id, ops, hc, hops⟩ := loopOk_eq (c := bodyAt Tryz.prog 32 [1, 0]) (ti := 7) (td := 8) (te := 9) (nt := 16) (by kernel_rfl)
  have hrest : restOf (bodyAt Tryz.prog 32 [1, 0]) = bodyAt Tryz.prog 32 [1, 0, 0, 1] := by kernel_rfl
  rw [hrest] at hc
  rw [hc]
  have H := map_loop (P := Tryz.prog) (G := G0) (n := 2) (id := id) (i := 2) (j := 1) (m := m) (cl := cl) (kd := .s) (es := l.map me_s_Tapi_Charge) (ms := ms) (σ := List (AV × AV)) (rest := bodyAt Tryz.prog 32 [1, 0, 0, 1])
    (fun s k v => some (setE s k v)) (mcpS_H l m ms cl) (mcpS_E l m ms cl) (.exit 0) hl hn hops
    (fun s seen => ⟨rfl, (show 2 ≤ 3 by decide), by kernel_rfl, by kernel_rfl, by kernel_rfl⟩) (by simp)
    (fun s s' seen x e k v h1 h2 h3 => by
      have h2' := h2
      rw [List.getElem?_map] at h2
      obtain ⟨y, hy1, hy2⟩ := Option.map_eq_some_iff.1 h2
      cases hy2
      simp only [Option.some.injEq] at h3
      subst h3
      exact mcpS_round l m ms cl s seen y e.born ⟨x, e, h1, by rw [List.getElem?_map, hy1]; rfl, by simp⟩)
    (fun s seen => mcpS_done l m ms cl s seen) (s0 := d.map me_s_Tapi_Charge) ?_
  · refine H.one (by simp) fun e1 s1 ⟨he, es', t, hp, hf, hs⟩ => ⟨he, ?_⟩
    subst hs
    obtain ⟨l', hl', rfl⟩ := perm_map hp
    rw [mcpS_fold] at hf
    cases hf
    exact Sub.trans (Sub.mapPerm (id := 0) (s := mcpS_E l m ms cl ((mrgK Prod.fst d l').map me_s_Tapi_Charge)) (by kernel_rfl) ((mrgK_perm hd hk hl').map me_s_Tapi_Charge)) (by exact Sub.refl)
  · intro es' hp
    obtain ⟨l', hl', rfl⟩ := perm_map hp
    rw [mcpS_fold]
    simp
theorem mcpS_code : bodyAt Tryz.prog 32 [1, 0] = .loop (bodyAt Tryz.prog 32 [1, 0, 0]) := by kernel_rfl
theorem mcpS_body (l d r k : List ((List UInt8) × Tapi_Charge)) (m : Nat) (ms : List MapEntry) (cl : Nat) (hl : Does Tryz.prog G0 2 (.loop (bodyAt Tryz.prog 32 [1, 0, 0])) (mcpS_H l m ms cl (d.map me_s_Tapi_Charge) []) (.exit 0) (mcpS_E l m ms cl ((mrgK Prod.fst d l).map me_s_Tapi_Charge))) (x1 : ((mrgK Prod.fst d l).map me_s_Tapi_Charge).Perm (r.map me_s_Tapi_Charge)) (x2 : (l.map me_s_Tapi_Charge).Perm (k.map me_s_Tapi_Charge)) : CallsM Tryz.prog G0 2 32 [.mapr 0, .mapr 1] [bM .s (d.map me_s_Tapi_Charge), bR m .s (l.map me_s_Tapi_Charge) ms cl] (.tup []) [bM .s (r.map me_s_Tapi_Charge), bM .s (k.map me_s_Tapi_Charge)] :=
  CallsM.of_view 2 10000 [oc, oc, .fcut 2 (.exit 0) [] [bM .s ((mrgK Prod.fst d l).map me_s_Tapi_Charge), bR m .s (l.map me_s_Tapi_Charge) ms cl] [0, 1, 2] [(0, .mapr 0), (7, .ptr 2 0)] [bM .s (d.map me_s_Tapi_Charge), bR m .s (l.map me_s_Tapi_Charge) ms cl, bI m cl [] cl], .tr (.mp 0 (r.map me_s_Tapi_Charge)), .tr (.mp 1 (k.map me_s_Tapi_Charge))] [0, 1]
    (ps := [(.mapr 0 : AV) = .mapr 0, (.ptr 2 0 : AV) = .ptr 2 0, (.s : KK) = .s ∧ d.map me_s_Tapi_Charge = d.map me_s_Tapi_Charge, Ob.rm m .s (l.map me_s_Tapi_Charge) ms cl = .rm m .s (l.map me_s_Tapi_Charge) ms cl, Ob.mit m cl [] cl = .mit m cl [] cl,
      Does Tryz.prog G0 2 (.loop (bodyAt Tryz.prog 32 [1, 0, 0])) (mcpS_H l m ms cl (d.map me_s_Tapi_Charge) []) (.exit 0) (mcpS_E l m ms cl ((mrgK Prod.fst d l).map me_s_Tapi_Charge)), ((mrgK Prod.fst d l).map me_s_Tapi_Charge).Perm (r.map me_s_Tapi_Charge), (l.map me_s_Tapi_Charge).Perm (k.map me_s_Tapi_Charge)])
    (by kernel_rfl) (by kernel_rfl) ⟨rfl, rfl, ⟨rfl, rfl⟩, rfl, rfl, hl, x1, x2⟩
/-- maps.Copy -/
theorem mcpS_calls (d l : List ((List UInt8) × Tapi_Charge)) : CallsM Tryz.prog G0 2 32 [.mapr 0, .mapr 1] [bM .s (d.map me_s_Tapi_Charge), bM .s (l.map me_s_Tapi_Charge)] (.tup []) [bM .s ((mrgK Prod.fst d l).map me_s_Tapi_Charge), bM .s (l.map me_s_Tapi_Charge)] :=
  have hr : ∀ x, keyEq (me_s_Tapi_Charge x).1 (me_s_Tapi_Charge x).1 = true := fun x => by rw [me_s_Tapi_Charge_key]; simp
  CallsM.nodupA (kd := .s) (es := d.map me_s_Tapi_Charge) 0 (by kernel_rfl) fun hd =>
  CallsM.nodupA (kd := .s) (es := l.map me_s_Tapi_Charge) 1 (by kernel_rfl) fun hk =>
  CallsM.showA (kd := .s) (es := l.map me_s_Tapi_Charge) 1 (by kernel_rfl) fun m es' ms cl hp hlen hn => by
    have hd := nodup_key (κ := Prod.fst) me_s_Tapi_Charge_key hr hd
    have hk := nodup_key (κ := Prod.fst) me_s_Tapi_Charge_key hr hk
    obtain ⟨l', hl', rfl⟩ := perm_map hp.symm
    refine ⟨[bM .s (d.map me_s_Tapi_Charge), bR m .s (l'.map me_s_Tapi_Charge) ms cl], by kernel_rfl, ?_⟩
    exact mcpS_body l' d (mrgK Prod.fst d l) l m ms cl (mcpS_code ▸ mcpS_loop l' d m ms cl hlen hn ((hl'.map Prod.fst).nodup_iff.2 hk) hd) ((mrgK_perm hd hk hl').map me_s_Tapi_Charge) (hl'.map me_s_Tapi_Charge)
end Go.Proofs.YtpadimnchmghpaaGreatDoor.Av
