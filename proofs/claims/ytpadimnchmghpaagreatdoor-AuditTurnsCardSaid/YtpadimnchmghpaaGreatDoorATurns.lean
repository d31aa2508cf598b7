import Derived.Test.YtpadimnchmghpaaGreatDoorAvZ
import Derived.Test.YtpadimnchmghpaaGreatDoorProg
import Derived.Tactics
import Derived.Test.YtpadimnchmghpaaGreatDoorR3
open Prod (fst)
open Int (tdiv tmod)
set_option linter.unusedVariables false
set_option linter.unusedSimpArgs false
set_option maxHeartbeats 4000000
set_option maxRecDepth 100000
namespace Go.Proofs.YtpadimnchmghpaaGreatDoor.Av
open Go Go.Proofs
noncomputable def w5AuditTurns_L17_step (r7 : (List TF)) (r9 : (List TF)) (r11 : (List TF)) (r13 : (List TF)) : Nat → Option (Nat ⊕ (Unit ⊕ Unit)) := fun k9 =>
  if (↑k9 : Int) < (↑r7.length : Int) then
    (r7[k9]?).bind fun x28 =>
    (r9[k9]?).bind fun x30 =>
    if x28.Key = x30.Key then
      if x28.Have = x30.Want then
        if x28.Want = x30.Have then
          if InR .i64 ((↑k9 : Int) + 1) then
            some (Sum.inl (k9 + 1))
          else none
        else
          some (Sum.inr (Sum.inl ()))
      else
        some (Sum.inr (Sum.inl ()))
    else
      some (Sum.inr (Sum.inl ()))
  else
    some (Sum.inr (Sum.inr (())))
def w5AuditTurns_L17_H (r7 : (List TF)) (r9 : (List TF)) (r11 : (List TF)) (r13 : (List TF)) : Nat → St := fun (s : Nat) => S 170 [(5, .vec 0 r7.length 4), (6, .vec 1 r9.length 4), (7, .vec 2 r11.length 4), (8, .vec 3 r13.length 4), (9, .int .i64 (↑s : Int))] [(bV (fl TF.enc r7) 39), (bV (fl TF.enc r9) 39), (bV (fl TF.enc r11) 39), (bV (fl TF.enc r13) 39)]
def w5AuditTurns_L17_X (r7 : (List TF)) (r9 : (List TF)) (r11 : (List TF)) (r13 : (List TF)) : (Unit ⊕ Unit) → AEx := fun q => match q with | Sum.inl o => .ret | Sum.inr (o) => (.exit 0)
def w5AuditTurns_L17_T (r7 : (List TF)) (r9 : (List TF)) (r11 : (List TF)) (r13 : (List TF)) : (Unit ⊕ Unit) → List (Nat × AV) := fun q => match q with | Sum.inl o => [(4, .bool false)] | Sum.inr (o) => [(7, .vec 2 r11.length 4), (8, .vec 3 r13.length 4)]
def w5AuditTurns_L17_B (r7 : (List TF)) (r9 : (List TF)) (r11 : (List TF)) (r13 : (List TF)) : (Unit ⊕ Unit) → List Blk := fun q => match q with | Sum.inl o => [(bV (fl TF.enc r7) 39), (bV (fl TF.enc r9) 39), (bV (fl TF.enc r11) 39), (bV (fl TF.enc r13) 39)] | Sum.inr (o) => [(bV (fl TF.enc r7) 39), (bV (fl TF.enc r9) 39), (bV (fl TF.enc r11) 39), (bV (fl TF.enc r13) 39)]
def w5AuditTurns_L17_E (r7 : (List TF)) (r9 : (List TF)) (r11 : (List TF)) (r13 : (List TF)) (q : Unit ⊕ Unit) : St := S 170 (w5AuditTurns_L17_T r7 r9 r11 r13 q) (w5AuditTurns_L17_B r7 r9 r11 r13 q)
theorem w5AuditTurns_L17_does (r7 : (List TF)) (r9 : (List TF)) (r11 : (List TF)) (r13 : (List TF)) {s : Nat} {r : Unit ⊕ Unit} (h : lp (w5AuditTurns_L17_step r7 r9 r11 r13) s = some r) : Does Tryz.prog G0 4 (.loop (bodyAt Tryz.prog 8 [1, 1, 1, 1, 1, 0, 1, 0, 0])) (w5AuditTurns_L17_H r7 r9 r11 r13 s) (w5AuditTurns_L17_X r7 r9 r11 r13 r) (w5AuditTurns_L17_E r7 r9 r11 r13 r) := by
  refine Does.lp (H := w5AuditTurns_L17_H r7 r9 r11 r13) (X := w5AuditTurns_L17_X r7 r9 r11 r13) (E := w5AuditTurns_L17_E r7 r9 r11 r13) (fun s s2 h => ?_) (fun s r h => ?_) h
  · revert h; revert s; intro k9 h
    unfold w5AuditTurns_L17_step at h
    try dsimp only at h
    rcases itS h with ⟨c27, h⟩ | ⟨c27, h⟩
    · obtain ⟨x28, h29, h⟩ := bnS h
      obtain ⟨x30, h31, h⟩ := bnS h
      rcases itS h with ⟨c32, h⟩ | ⟨c32, h⟩
      · rcases itS h with ⟨c33, h⟩ | ⟨c33, h⟩
        · rcases itS h with ⟨c34, h⟩ | ⟨c34, h⟩
          · obtain ⟨h35, h⟩ := gdS h
            obtain rfl := oL h
            exact Does.of_viewM 4 400 (cs 3 (oa :: (.br true) :: (cs 2 ((.op none (.i k9)) :: oc :: (.op none (.v [.str x28.Key])) :: (cs 2 [.op none (.i k9), oc, .op none (.v [.str x30.Key]), oa, oc, .op (some false) .c, .op (some false) .c, .op (some false) (.i k9), .op (some false) .c, .op (some false) (.v [.int .i64 x28.Have]), .op (some false) .c, .op (some false) .c, .op (some false) (.i k9), .op (some false) .c, .op (some false) (.v [.int .i64 x30.Want]), .op (some false) .a, .op none (.b false), oc, .op (some false) .c, .op (some false) .c, .op (some false) (.i k9), .op (some false) .c, .op (some false) (.v [.int .i64 x28.Want]), .op (some false) .c, .op (some false) .c, .op (some false) (.i k9), .op (some false) .c, .op (some false) (.v [.int .i64 x30.Have]), .op (some false) .a, .op none (.b false), .br false, oc, ow, oc]))))) [0, 1, 2, 3] (by kernel_rfl) (by kernel_rfl) (k2 (decide_eq_true c27) (k2 (ir h29) (k2 (fl_sub (f := TF.enc) (z := 4) (j := k9) (a := 0) (n := 1) (fun _ => rfl) h29 (by decide) rfl) (k2 (ir h31) (k2 (fl_sub (f := TF.enc) (z := 4) (j := k9) (a := 0) (n := 1) (fun _ => rfl) h31 (by decide) rfl) (k2 (not_f (beq_t c32)) (k2 (not_f (beq_t c32)) (k2 (not_f (beq_t c32)) (k2 (ir h29) (k2 (not_f (beq_t c32)) (k2 (not_f (beq_t c32)) (k2 (fl_sub (f := TF.enc) (z := 4) (j := k9) (a := 2) (n := 1) (fun _ => rfl) h29 (by decide) rfl) (k2 (not_f (beq_t c32)) (k2 (not_f (beq_t c32)) (k2 (not_f (beq_t c32)) (k2 (ir h31) (k2 (not_f (beq_t c32)) (k2 (not_f (beq_t c32)) (k2 (fl_sub (f := TF.enc) (z := 4) (j := k9) (a := 3) (n := 1) (fun _ => rfl) h31 (by decide) rfl) (k2 (not_f (beq_t c32)) (k2 (not_f (beq_t c32)) (k2 (not_f (beq_t c33)) (k2 (not_f (beq_t c33)) (k2 (not_f (beq_t c33)) (k2 (ir h29) (k2 (not_f (beq_t c33)) (k2 (not_f (beq_t c33)) (k2 (fl_sub (f := TF.enc) (z := 4) (j := k9) (a := 3) (n := 1) (fun _ => rfl) h29 (by decide) rfl) (k2 (not_f (beq_t c33)) (k2 (not_f (beq_t c33)) (k2 (not_f (beq_t c33)) (k2 (ir h31) (k2 (not_f (beq_t c33)) (k2 (not_f (beq_t c33)) (k2 (fl_sub (f := TF.enc) (z := 4) (j := k9) (a := 2) (n := 1) (fun _ => rfl) h31 (by decide) rfl) (k2 (not_f (beq_t c33)) (k2 (not_f (beq_t c33)) (k2 (not_f (beq_t c34)) (ok1 h35)))))))))))))))))))))))))))))))))))))))
          · simp at h
        · simp at h
      · simp at h
    · simp at h
  · revert h; revert s; intro k9 h
    unfold w5AuditTurns_L17_step at h
    try dsimp only at h
    let f454 : List CH := (cs 3 [oa])
    rcases itS h with ⟨c27, h⟩ | ⟨c27, h⟩
    · obtain ⟨x28, h29, h⟩ := bnS h
      obtain ⟨x30, h31, h⟩ := bnS h
      let f455 : List CH := ((.br true) :: (cs 2 ((.op none (.i k9)) :: oc :: (.op none (.v [.str x28.Key])) :: (cs 2 [.op none (.i k9), oc, .op none (.v [.str x30.Key]), oa, oc]))))
      have g456 := k2 (decide_eq_true c27) (k2 (ir h29) (k2 (fl_sub (f := TF.enc) (z := 4) (j := k9) (a := 0) (n := 1) (fun _ => rfl) h29 (by decide) rfl) (k2 (ir h31) (ok1 (fl_sub (f := TF.enc) (z := 4) (j := k9) (a := 0) (n := 1) (fun _ => rfl) h31 (by decide) rfl)))))
      rcases itS h with ⟨c32, h⟩ | ⟨c32, h⟩
      · let f457 : List CH := [.op (some false) .c, .op (some false) .c, .op (some false) (.i k9), .op (some false) .c, .op (some false) (.v [.int .i64 x28.Have]), .op (some false) .c, .op (some false) .c, .op (some false) (.i k9), .op (some false) .c, .op (some false) (.v [.int .i64 x30.Want]), .op (some false) .a, .op none (.b false), oc]
        have g458 := k2 (not_f (beq_t c32)) (k2 (not_f (beq_t c32)) (k2 (not_f (beq_t c32)) (k2 (ir h29) (k2 (not_f (beq_t c32)) (k2 (not_f (beq_t c32)) (k2 (fl_sub (f := TF.enc) (z := 4) (j := k9) (a := 2) (n := 1) (fun _ => rfl) h29 (by decide) rfl) (k2 (not_f (beq_t c32)) (k2 (not_f (beq_t c32)) (k2 (not_f (beq_t c32)) (k2 (ir h31) (k2 (not_f (beq_t c32)) (k2 (not_f (beq_t c32)) (k2 (fl_sub (f := TF.enc) (z := 4) (j := k9) (a := 3) (n := 1) (fun _ => rfl) h31 (by decide) rfl) (k2 (not_f (beq_t c32)) (ok1 (not_f (beq_t c32)))))))))))))))))
        rcases itS h with ⟨c33, h⟩ | ⟨c33, h⟩
        · rcases itS h with ⟨c34, h⟩ | ⟨c34, h⟩
          · obtain ⟨h35, h⟩ := gdS h
            simp at h
          · obtain rfl := oR h
            exact ⟨Does.of_viewM 4 400 (f454 ++ (f455 ++ (f457 ++ [.op (some false) .c, .op (some false) .c, .op (some false) (.i k9), .op (some false) .c, .op (some false) (.v [.int .i64 x28.Want]), .op (some false) .c, .op (some false) .c, .op (some false) (.i k9), .op (some false) .c, .op (some false) (.v [.int .i64 x30.Have]), .op (some false) .a, .op none (.b false), .br true, oc]))) [0, 1, 2, 3] (by kernel_rfl) (by kernel_rfl) (aO g456 (aO g458 (k2 (not_f (beq_t c33)) (k2 (not_f (beq_t c33)) (k2 (not_f (beq_t c33)) (k2 (ir h29) (k2 (not_f (beq_t c33)) (k2 (not_f (beq_t c33)) (k2 (fl_sub (f := TF.enc) (z := 4) (j := k9) (a := 3) (n := 1) (fun _ => rfl) h29 (by decide) rfl) (k2 (not_f (beq_t c33)) (k2 (not_f (beq_t c33)) (k2 (not_f (beq_t c33)) (k2 (ir h31) (k2 (not_f (beq_t c33)) (k2 (not_f (beq_t c33)) (k2 (fl_sub (f := TF.enc) (z := 4) (j := k9) (a := 2) (n := 1) (fun _ => rfl) h31 (by decide) rfl) (k2 (not_f (beq_t c33)) (k2 (not_f (beq_t c33)) (ok1 (not_t (beq_f c34))))))))))))))))))))), by intro q; cases q⟩
        · obtain rfl := oR h
          exact ⟨Does.of_viewM 4 400 (f454 ++ (f455 ++ (f457 ++ [tc, tc, tc, tc, tc, tc, tc, tc, tc, tc, tc, .op none (.b true), .br true, oc]))) [0, 1, 2, 3] (by kernel_rfl) (by kernel_rfl) (aO g456 (aO g458 (k2 (not_t (beq_f c33)) (k2 (not_t (beq_f c33)) (k2 (not_t (beq_f c33)) (k2 (not_t (beq_f c33)) (k2 (not_t (beq_f c33)) (k2 (not_t (beq_f c33)) (k2 (not_t (beq_f c33)) (k2 (not_t (beq_f c33)) (k2 (not_t (beq_f c33)) (k2 (not_t (beq_f c33)) (k2 (not_t (beq_f c33)) (k2 (not_t (beq_f c33)) (ok1 (rfl : true = true)))))))))))))))), by intro q; cases q⟩
      · obtain rfl := oR h
        exact ⟨Does.of_viewM 4 400 (f454 ++ (f455 ++ (tc :: tc :: tc :: tc :: tc :: tc :: tc :: tc :: tc :: tc :: tc :: (.op none (.b true)) :: (cs 13 [.br true, oc])))) [0, 1, 2, 3] (by kernel_rfl) (by kernel_rfl) (aO g456 (k2 (not_t (beq_f c32)) (k2 (not_t (beq_f c32)) (k2 (not_t (beq_f c32)) (k2 (not_t (beq_f c32)) (k2 (not_t (beq_f c32)) (k2 (not_t (beq_f c32)) (k2 (not_t (beq_f c32)) (k2 (not_t (beq_f c32)) (k2 (not_t (beq_f c32)) (k2 (not_t (beq_f c32)) (k2 (not_t (beq_f c32)) (k2 (not_t (beq_f c32)) (ok1 (rfl : true = true))))))))))))))), by intro q; cases q⟩
    · obtain rfl := oR h
      exact ⟨Does.of_viewM 4 400 (f454 ++ [.br false]) [0, 1, 2, 3] (by kernel_rfl) (by kernel_rfl) (ok1 (decide_eq_false c27)), by intro q; cases q⟩
noncomputable def w5AuditTurns_L36_step (r11 : (List TF)) (r13 : (List TF)) : Nat → Option (Nat ⊕ (Unit ⊕ Unit)) := fun k10 =>
  if (↑k10 : Int) < (↑r11.length : Int) then
    (r11[k10]?).bind fun x56 =>
    if x56.Key = [] then
      (r13[k10]?).bind fun x59 =>
      if x56.Day = x59.Day then
        if x56.Have = x59.Want then
          if x56.Want = x59.Have then
            if x56.Have = x56.Want then
              some (Sum.inr (Sum.inl ()))
            else
              if (↑k10 : Int) > (0 : Int) then
                if InR .i64 ((↑k10 : Int) - 1) then
                  if (0 : Int) ≤ ((↑k10 : Int) - 1) then
                    (r11[(Int.toNat ((↑k10 : Int) - 1))]?).bind fun x68 =>
                    if x56.Day ≤ x68.Day then
                      some (Sum.inr (Sum.inl ()))
                    else
                      if InR .i64 ((↑k10 : Int) + 1) then
                        some (Sum.inl (k10 + 1))
                      else none
                  else none
                else none
              else
                if InR .i64 ((↑k10 : Int) + 1) then
                  some (Sum.inl (k10 + 1))
                else none
          else
            some (Sum.inr (Sum.inl ()))
        else
          some (Sum.inr (Sum.inl ()))
      else
        some (Sum.inr (Sum.inl ()))
    else
      some (Sum.inr (Sum.inl ()))
  else
    some (Sum.inr (Sum.inr (())))
def w5AuditTurns_L36_H (r11 : (List TF)) (r13 : (List TF)) : Nat → St := fun (s : Nat) => S 170 [(7, .vec 0 r11.length 4), (8, .vec 1 r13.length 4), (10, .int .i64 (↑s : Int))] [(bV (fl TF.enc r11) 39), (bV (fl TF.enc r13) 39)]
def w5AuditTurns_L36_X (r11 : (List TF)) (r13 : (List TF)) : (Unit ⊕ Unit) → AEx := fun q => match q with | Sum.inl o => .ret | Sum.inr (o) => (.exit 2)
def w5AuditTurns_L36_T (r11 : (List TF)) (r13 : (List TF)) : (Unit ⊕ Unit) → List (Nat × AV) := fun q => match q with | Sum.inl o => [(4, .bool false)] | Sum.inr (o) => []
def w5AuditTurns_L36_B (r11 : (List TF)) (r13 : (List TF)) : (Unit ⊕ Unit) → List Blk := fun q => match q with | Sum.inl o => [(bV (fl TF.enc r11) 39), (bV (fl TF.enc r13) 39)] | Sum.inr (o) => [(bV (fl TF.enc r11) 39), (bV (fl TF.enc r13) 39)]
def w5AuditTurns_L36_E (r11 : (List TF)) (r13 : (List TF)) (q : Unit ⊕ Unit) : St := S 170 (w5AuditTurns_L36_T r11 r13 q) (w5AuditTurns_L36_B r11 r13 q)
theorem w5AuditTurns_L36_does (r11 : (List TF)) (r13 : (List TF)) {s : Nat} {r : Unit ⊕ Unit} (h : lp (w5AuditTurns_L36_step r11 r13) s = some r) : Does Tryz.prog G0 2 (.loop (bodyAt Tryz.prog 8 [1, 1, 1, 1, 1, 1, 0, 1, 0, 0])) (w5AuditTurns_L36_H r11 r13 s) (w5AuditTurns_L36_X r11 r13 r) (w5AuditTurns_L36_E r11 r13 r) := by
  refine Does.lp (H := w5AuditTurns_L36_H r11 r13) (X := w5AuditTurns_L36_X r11 r13) (E := w5AuditTurns_L36_E r11 r13) (fun s s2 h => ?_) (fun s r h => ?_) h
  · revert h; revert s; intro k10 h
    unfold w5AuditTurns_L36_step at h
    try dsimp only at h
    rcases itS h with ⟨c55, h⟩ | ⟨c55, h⟩
    · obtain ⟨x56, h57, h⟩ := bnS h
      rcases itS h with ⟨c58, h⟩ | ⟨c58, h⟩
      · obtain ⟨x59, h60, h⟩ := bnS h
        rcases itS h with ⟨c61, h⟩ | ⟨c61, h⟩
        · rcases itS h with ⟨c62, h⟩ | ⟨c62, h⟩
          · rcases itS h with ⟨c63, h⟩ | ⟨c63, h⟩
            · rcases itS h with ⟨c64, h⟩ | ⟨c64, h⟩
              · simp at h
              · let f459 : List CH := (cs 3 (oa :: (.br true) :: (cs 2 [.op none (.i k10), oc, .op none (.v [.str x56.Key]), oa, oc, .op (some false) .c, .op (some false) .c, .op (some false) (.i k10), .op (some false) .c, .op (some false) (.v [.int .i64 x56.Day]), .op (some false) .c, .op (some false) .c, .op (some false) (.i k10), .op (some false) .c, .op (some false) (.v [.int .i64 x59.Day]), .op (some false) .a, .op none (.b false), oc, .op (some false) .c, .op (some false) .c, .op (some false) (.i k10), .op (some false) .c, .op (some false) (.v [.int .i64 x56.Have]), .op (some false) .c, .op (some false) .c, .op (some false) (.i k10), .op (some false) .c, .op (some false) (.v [.int .i64 x59.Want]), .op (some false) .a, .op none (.b false), oc, .op (some false) .c, .op (some false) .c, .op (some false) (.i k10), .op (some false) .c, .op (some false) (.v [.int .i64 x56.Want]), .op (some false) .c, .op (some false) .c, .op (some false) (.i k10), .op (some false) .c, .op (some false) (.v [.int .i64 x59.Have]), .op (some false) .a, .op none (.b false), oc, .op (some false) .c, .op (some false) .c, .op (some false) (.i k10), .op (some false) .c, .op (some false) (.v [.int .i64 x56.Have]), .op (some false) .c, .op (some false) .c, .op (some false) (.i k10), .op (some false) .c, .op (some false) (.v [.int .i64 x56.Want]), .op (some false) .a, .op none (.b false), oc, .op (some false) .c, .op (some false) .a, .op (some false) .c])))
                have g460 := k2 (decide_eq_true c55) (k2 (ir h57) (k2 (fl_sub (f := TF.enc) (z := 4) (j := k10) (a := 0) (n := 1) (fun _ => rfl) h57 (by decide) rfl) (k2 (not_f (beq_t c58)) (k2 (not_f (beq_t c58)) (k2 (not_f (beq_t c58)) (k2 (ir h57) (k2 (not_f (beq_t c58)) (k2 (not_f (beq_t c58)) (k2 (fl_sub (f := TF.enc) (z := 4) (j := k10) (a := 1) (n := 1) (fun _ => rfl) h57 (by decide) rfl) (k2 (not_f (beq_t c58)) (k2 (not_f (beq_t c58)) (k2 (not_f (beq_t c58)) (k2 (ir h60) (k2 (not_f (beq_t c58)) (k2 (not_f (beq_t c58)) (k2 (fl_sub (f := TF.enc) (z := 4) (j := k10) (a := 1) (n := 1) (fun _ => rfl) h60 (by decide) rfl) (k2 (not_f (beq_t c58)) (k2 (not_f (beq_t c58)) (k2 (not_f (beq_t c61)) (k2 (not_f (beq_t c61)) (k2 (not_f (beq_t c61)) (k2 (ir h57) (k2 (not_f (beq_t c61)) (k2 (not_f (beq_t c61)) (k2 (fl_sub (f := TF.enc) (z := 4) (j := k10) (a := 2) (n := 1) (fun _ => rfl) h57 (by decide) rfl) (k2 (not_f (beq_t c61)) (k2 (not_f (beq_t c61)) (k2 (not_f (beq_t c61)) (k2 (ir h60) (k2 (not_f (beq_t c61)) (k2 (not_f (beq_t c61)) (k2 (fl_sub (f := TF.enc) (z := 4) (j := k10) (a := 3) (n := 1) (fun _ => rfl) h60 (by decide) rfl) (k2 (not_f (beq_t c61)) (k2 (not_f (beq_t c61)) (k2 (not_f (beq_t c62)) (k2 (not_f (beq_t c62)) (k2 (not_f (beq_t c62)) (k2 (ir h57) (k2 (not_f (beq_t c62)) (k2 (not_f (beq_t c62)) (k2 (fl_sub (f := TF.enc) (z := 4) (j := k10) (a := 3) (n := 1) (fun _ => rfl) h57 (by decide) rfl) (k2 (not_f (beq_t c62)) (k2 (not_f (beq_t c62)) (k2 (not_f (beq_t c62)) (k2 (ir h60) (k2 (not_f (beq_t c62)) (k2 (not_f (beq_t c62)) (k2 (fl_sub (f := TF.enc) (z := 4) (j := k10) (a := 2) (n := 1) (fun _ => rfl) h60 (by decide) rfl) (k2 (not_f (beq_t c62)) (k2 (not_f (beq_t c62)) (k2 (not_f (beq_t c63)) (k2 (not_f (beq_t c63)) (k2 (not_f (beq_t c63)) (k2 (ir h57) (k2 (not_f (beq_t c63)) (k2 (not_f (beq_t c63)) (k2 (fl_sub (f := TF.enc) (z := 4) (j := k10) (a := 2) (n := 1) (fun _ => rfl) h57 (by decide) rfl) (k2 (not_f (beq_t c63)) (k2 (not_f (beq_t c63)) (k2 (not_f (beq_t c63)) (k2 (ir h57) (k2 (not_f (beq_t c63)) (k2 (not_f (beq_t c63)) (k2 (fl_sub (f := TF.enc) (z := 4) (j := k10) (a := 3) (n := 1) (fun _ => rfl) h57 (by decide) rfl) (k2 (not_f (beq_t c63)) (k2 (not_f (beq_t c63)) (k2 (beq_f c64) (k2 (beq_f c64) (ok1 (beq_f c64))))))))))))))))))))))))))))))))))))))))))))))))))))))))))))))))))))))
                rcases itS h with ⟨c65, h⟩ | ⟨c65, h⟩
                · obtain ⟨h66, h⟩ := gdS h
                  obtain ⟨h67, h⟩ := gdS h
                  obtain ⟨x68, h69, h⟩ := bnS h
                  rcases itS h with ⟨c70, h⟩ | ⟨c70, h⟩
                  · simp at h
                  · obtain ⟨h71, h⟩ := gdS h
                    obtain rfl := oL h
                    exact Does.of_viewM 2 400 (f459 ++ [tc, tc, .op (some true) (.i k10), tc, .op (some true) (.v [.int .i64 x56.Day]), tc, tc, tw, .op (some true) (.i (Int.toNat ((↑k10 : Int) - 1))), tc, .op (some true) (.v [.int .i64 x68.Day]), ta, .op (some false) (.b true), .op none (.b false), .br false, oc, ow, oc]) [0, 1] (by kernel_rfl) (by kernel_rfl) (aO g460 (k2 (decide_eq_true c65) (k2 (decide_eq_true c65) (k2 (decide_eq_true c65) (k2 (ir h57) (k2 (decide_eq_true c65) (k2 (decide_eq_true c65) (k2 (fl_sub (f := TF.enc) (z := 4) (j := k10) (a := 1) (n := 1) (fun _ => rfl) h57 (by decide) rfl) (k2 (decide_eq_true c65) (k2 (decide_eq_true c65) (k2 (decide_eq_true c65) (k2 h66 (k2 (decide_eq_true c65) (k2 (ix h67 h69) (k2 (decide_eq_true c65) (k2 (decide_eq_true c65) (k2 (fl_sub (f := TF.enc) (z := 4) (j := (Int.toNat ((↑k10 : Int) - 1))) (a := 1) (n := 1) (fun _ => rfl) h69 (by decide) rfl) (k2 (decide_eq_true c65) (k2 (beq_f c64) (k2 (decide_eq_true c65) (k2 (beq_f c64) (k2 (decide_eq_false c70) (ok1 h71)))))))))))))))))))))))
                · obtain ⟨h72, h⟩ := gdS h
                  obtain rfl := oL h
                  exact Does.of_viewM 2 400 (f459 ++ [.op (some false) .c, .op (some false) .c, .op (some false) .c, .op (some false) .c, .op (some false) .c, .op (some false) .c, .op (some false) .c, .op (some false) .c, .op (some false) .c, .op (some false) .c, .op (some false) .c, .op (some false) .c, .op (some false) (.b false), .op none (.b false), .br false, oc, ow, oc]) [0, 1] (by kernel_rfl) (by kernel_rfl) (aO g460 (k2 (decide_eq_false c65) (k2 (decide_eq_false c65) (k2 (decide_eq_false c65) (k2 (decide_eq_false c65) (k2 (decide_eq_false c65) (k2 (decide_eq_false c65) (k2 (decide_eq_false c65) (k2 (decide_eq_false c65) (k2 (decide_eq_false c65) (k2 (decide_eq_false c65) (k2 (decide_eq_false c65) (k2 (decide_eq_false c65) (k2 (beq_f c64) (k2 (decide_eq_false c65) (k2 (beq_f c64) (k2 (rfl : false = false) (ok1 h72))))))))))))))))))
            · simp at h
          · simp at h
        · simp at h
      · simp at h
    · simp at h
  · revert h; revert s; intro k10 h
    unfold w5AuditTurns_L36_step at h
    try dsimp only at h
    let f461 : List CH := (cs 3 [oa])
    rcases itS h with ⟨c55, h⟩ | ⟨c55, h⟩
    · obtain ⟨x56, h57, h⟩ := bnS h
      let f462 : List CH := ((.br true) :: (cs 2 [.op none (.i k10), oc, .op none (.v [.str x56.Key]), oa, oc]))
      have g463 := k2 (decide_eq_true c55) (k2 (ir h57) (ok1 (fl_sub (f := TF.enc) (z := 4) (j := k10) (a := 0) (n := 1) (fun _ => rfl) h57 (by decide) rfl)))
      rcases itS h with ⟨c58, h⟩ | ⟨c58, h⟩
      · obtain ⟨x59, h60, h⟩ := bnS h
        let f464 : List CH := [.op (some false) .c, .op (some false) .c, .op (some false) (.i k10), .op (some false) .c, .op (some false) (.v [.int .i64 x56.Day]), .op (some false) .c, .op (some false) .c, .op (some false) (.i k10), .op (some false) .c, .op (some false) (.v [.int .i64 x59.Day]), .op (some false) .a, .op none (.b false), oc]
        have g465 := k2 (not_f (beq_t c58)) (k2 (not_f (beq_t c58)) (k2 (not_f (beq_t c58)) (k2 (ir h57) (k2 (not_f (beq_t c58)) (k2 (not_f (beq_t c58)) (k2 (fl_sub (f := TF.enc) (z := 4) (j := k10) (a := 1) (n := 1) (fun _ => rfl) h57 (by decide) rfl) (k2 (not_f (beq_t c58)) (k2 (not_f (beq_t c58)) (k2 (not_f (beq_t c58)) (k2 (ir h60) (k2 (not_f (beq_t c58)) (k2 (not_f (beq_t c58)) (k2 (fl_sub (f := TF.enc) (z := 4) (j := k10) (a := 1) (n := 1) (fun _ => rfl) h60 (by decide) rfl) (k2 (not_f (beq_t c58)) (ok1 (not_f (beq_t c58)))))))))))))))))
        rcases itS h with ⟨c61, h⟩ | ⟨c61, h⟩
        · let f466 : List CH := [.op (some false) .c, .op (some false) .c, .op (some false) (.i k10), .op (some false) .c, .op (some false) (.v [.int .i64 x56.Have]), .op (some false) .c, .op (some false) .c, .op (some false) (.i k10), .op (some false) .c, .op (some false) (.v [.int .i64 x59.Want]), .op (some false) .a, .op none (.b false), oc]
          have g467 := k2 (not_f (beq_t c61)) (k2 (not_f (beq_t c61)) (k2 (not_f (beq_t c61)) (k2 (ir h57) (k2 (not_f (beq_t c61)) (k2 (not_f (beq_t c61)) (k2 (fl_sub (f := TF.enc) (z := 4) (j := k10) (a := 2) (n := 1) (fun _ => rfl) h57 (by decide) rfl) (k2 (not_f (beq_t c61)) (k2 (not_f (beq_t c61)) (k2 (not_f (beq_t c61)) (k2 (ir h60) (k2 (not_f (beq_t c61)) (k2 (not_f (beq_t c61)) (k2 (fl_sub (f := TF.enc) (z := 4) (j := k10) (a := 3) (n := 1) (fun _ => rfl) h60 (by decide) rfl) (k2 (not_f (beq_t c61)) (ok1 (not_f (beq_t c61)))))))))))))))))
          rcases itS h with ⟨c62, h⟩ | ⟨c62, h⟩
          · let f468 : List CH := [.op (some false) .c, .op (some false) .c, .op (some false) (.i k10), .op (some false) .c, .op (some false) (.v [.int .i64 x56.Want]), .op (some false) .c, .op (some false) .c, .op (some false) (.i k10), .op (some false) .c, .op (some false) (.v [.int .i64 x59.Have]), .op (some false) .a, .op none (.b false), oc]
            have g469 := k2 (not_f (beq_t c62)) (k2 (not_f (beq_t c62)) (k2 (not_f (beq_t c62)) (k2 (ir h57) (k2 (not_f (beq_t c62)) (k2 (not_f (beq_t c62)) (k2 (fl_sub (f := TF.enc) (z := 4) (j := k10) (a := 3) (n := 1) (fun _ => rfl) h57 (by decide) rfl) (k2 (not_f (beq_t c62)) (k2 (not_f (beq_t c62)) (k2 (not_f (beq_t c62)) (k2 (ir h60) (k2 (not_f (beq_t c62)) (k2 (not_f (beq_t c62)) (k2 (fl_sub (f := TF.enc) (z := 4) (j := k10) (a := 2) (n := 1) (fun _ => rfl) h60 (by decide) rfl) (k2 (not_f (beq_t c62)) (ok1 (not_f (beq_t c62)))))))))))))))))
            rcases itS h with ⟨c63, h⟩ | ⟨c63, h⟩
            · let f470 : List CH := [.op (some false) .c, .op (some false) .c, .op (some false) (.i k10), .op (some false) .c, .op (some false) (.v [.int .i64 x56.Have]), .op (some false) .c, .op (some false) .c, .op (some false) (.i k10), .op (some false) .c, .op (some false) (.v [.int .i64 x56.Want]), .op (some false) .a, .op none (.b false), oc]
              have g471 := k2 (not_f (beq_t c63)) (k2 (not_f (beq_t c63)) (k2 (not_f (beq_t c63)) (k2 (ir h57) (k2 (not_f (beq_t c63)) (k2 (not_f (beq_t c63)) (k2 (fl_sub (f := TF.enc) (z := 4) (j := k10) (a := 2) (n := 1) (fun _ => rfl) h57 (by decide) rfl) (k2 (not_f (beq_t c63)) (k2 (not_f (beq_t c63)) (k2 (not_f (beq_t c63)) (k2 (ir h57) (k2 (not_f (beq_t c63)) (k2 (not_f (beq_t c63)) (k2 (fl_sub (f := TF.enc) (z := 4) (j := k10) (a := 3) (n := 1) (fun _ => rfl) h57 (by decide) rfl) (k2 (not_f (beq_t c63)) (ok1 (not_f (beq_t c63)))))))))))))))))
              rcases itS h with ⟨c64, h⟩ | ⟨c64, h⟩
              · obtain rfl := oR h
                exact ⟨Does.of_viewM 2 400 (f461 ++ (f462 ++ (f464 ++ (f466 ++ (f468 ++ (f470 ++ (tc :: tc :: tc :: (cs 12 [tc, .op none (.b true), .br true, oc])))))))) [0, 1] (by kernel_rfl) (by kernel_rfl) (aO g463 (aO g465 (aO g467 (aO g469 (aO g471 (k2 (beq_t c64) (k2 (beq_t c64) (k2 (beq_t c64) (k2 (beq_t c64) (k2 (beq_t c64) (ok1 (rfl : true = true)))))))))))), by intro q; cases q⟩
              · rcases itS h with ⟨c65, h⟩ | ⟨c65, h⟩
                · obtain ⟨h66, h⟩ := gdS h
                  obtain ⟨h67, h⟩ := gdS h
                  obtain ⟨x68, h69, h⟩ := bnS h
                  rcases itS h with ⟨c70, h⟩ | ⟨c70, h⟩
                  · obtain rfl := oR h
                    exact ⟨Does.of_viewM 2 400 (f461 ++ (f462 ++ (f464 ++ (f466 ++ (f468 ++ (f470 ++ [.op (some false) .c, .op (some false) .a, .op (some false) .c, tc, tc, .op (some true) (.i k10), tc, .op (some true) (.v [.int .i64 x56.Day]), tc, tc, tw, .op (some true) (.i (Int.toNat ((↑k10 : Int) - 1))), tc, .op (some true) (.v [.int .i64 x68.Day]), ta, .op (some false) (.b true), .op none (.b false), .br true, oc])))))) [0, 1] (by kernel_rfl) (by kernel_rfl) (aO g463 (aO g465 (aO g467 (aO g469 (aO g471 (k2 (beq_f c64) (k2 (beq_f c64) (k2 (beq_f c64) (k2 (decide_eq_true c65) (k2 (decide_eq_true c65) (k2 (decide_eq_true c65) (k2 (ir h57) (k2 (decide_eq_true c65) (k2 (decide_eq_true c65) (k2 (fl_sub (f := TF.enc) (z := 4) (j := k10) (a := 1) (n := 1) (fun _ => rfl) h57 (by decide) rfl) (k2 (decide_eq_true c65) (k2 (decide_eq_true c65) (k2 (decide_eq_true c65) (k2 h66 (k2 (decide_eq_true c65) (k2 (ix h67 h69) (k2 (decide_eq_true c65) (k2 (decide_eq_true c65) (k2 (fl_sub (f := TF.enc) (z := 4) (j := (Int.toNat ((↑k10 : Int) - 1))) (a := 1) (n := 1) (fun _ => rfl) h69 (by decide) rfl) (k2 (decide_eq_true c65) (k2 (beq_f c64) (k2 (decide_eq_true c65) (k2 (beq_f c64) (ok1 (decide_eq_true c70)))))))))))))))))))))))))))))), by intro q; cases q⟩
                  · obtain ⟨h71, h⟩ := gdS h
                    simp at h
                · obtain ⟨h72, h⟩ := gdS h
                  simp at h
            · obtain rfl := oR h
              exact ⟨Does.of_viewM 2 400 (f461 ++ (f462 ++ (f464 ++ (f466 ++ (f468 ++ (tc :: tc :: tc :: tc :: tc :: tc :: tc :: tc :: tc :: tc :: tc :: (.op none (.b true)) :: (cs 18 [.br true, oc]))))))) [0, 1] (by kernel_rfl) (by kernel_rfl) (aO g463 (aO g465 (aO g467 (aO g469 (k2 (not_t (beq_f c63)) (k2 (not_t (beq_f c63)) (k2 (not_t (beq_f c63)) (k2 (not_t (beq_f c63)) (k2 (not_t (beq_f c63)) (k2 (not_t (beq_f c63)) (k2 (not_t (beq_f c63)) (k2 (not_t (beq_f c63)) (k2 (not_t (beq_f c63)) (k2 (not_t (beq_f c63)) (k2 (not_t (beq_f c63)) (k2 (not_t (beq_f c63)) (ok1 (rfl : true = true)))))))))))))))))), by intro q; cases q⟩
          · obtain rfl := oR h
            exact ⟨Does.of_viewM 2 400 (f461 ++ (f462 ++ (f464 ++ (f466 ++ (tc :: tc :: tc :: tc :: tc :: tc :: tc :: tc :: tc :: tc :: tc :: (.op none (.b true)) :: (cs 31 [.br true, oc])))))) [0, 1] (by kernel_rfl) (by kernel_rfl) (aO g463 (aO g465 (aO g467 (k2 (not_t (beq_f c62)) (k2 (not_t (beq_f c62)) (k2 (not_t (beq_f c62)) (k2 (not_t (beq_f c62)) (k2 (not_t (beq_f c62)) (k2 (not_t (beq_f c62)) (k2 (not_t (beq_f c62)) (k2 (not_t (beq_f c62)) (k2 (not_t (beq_f c62)) (k2 (not_t (beq_f c62)) (k2 (not_t (beq_f c62)) (k2 (not_t (beq_f c62)) (ok1 (rfl : true = true))))))))))))))))), by intro q; cases q⟩
        · obtain rfl := oR h
          exact ⟨Does.of_viewM 2 400 (f461 ++ (f462 ++ (f464 ++ (tc :: tc :: tc :: tc :: tc :: tc :: tc :: tc :: tc :: tc :: tc :: (.op none (.b true)) :: (cs 44 [.br true, oc]))))) [0, 1] (by kernel_rfl) (by kernel_rfl) (aO g463 (aO g465 (k2 (not_t (beq_f c61)) (k2 (not_t (beq_f c61)) (k2 (not_t (beq_f c61)) (k2 (not_t (beq_f c61)) (k2 (not_t (beq_f c61)) (k2 (not_t (beq_f c61)) (k2 (not_t (beq_f c61)) (k2 (not_t (beq_f c61)) (k2 (not_t (beq_f c61)) (k2 (not_t (beq_f c61)) (k2 (not_t (beq_f c61)) (k2 (not_t (beq_f c61)) (ok1 (rfl : true = true)))))))))))))))), by intro q; cases q⟩
      · obtain rfl := oR h
        exact ⟨Does.of_viewM 2 400 (f461 ++ (f462 ++ (tc :: tc :: tc :: tc :: tc :: tc :: tc :: tc :: tc :: tc :: tc :: (.op none (.b true)) :: (cs 57 [.br true, oc])))) [0, 1] (by kernel_rfl) (by kernel_rfl) (aO g463 (k2 (not_t (beq_f c58)) (k2 (not_t (beq_f c58)) (k2 (not_t (beq_f c58)) (k2 (not_t (beq_f c58)) (k2 (not_t (beq_f c58)) (k2 (not_t (beq_f c58)) (k2 (not_t (beq_f c58)) (k2 (not_t (beq_f c58)) (k2 (not_t (beq_f c58)) (k2 (not_t (beq_f c58)) (k2 (not_t (beq_f c58)) (k2 (not_t (beq_f c58)) (ok1 (rfl : true = true))))))))))))))), by intro q; cases q⟩
    · obtain rfl := oR h
      exact ⟨Does.of_viewM 2 400 (f461 ++ [.br false]) [0, 1] (by kernel_rfl) (by kernel_rfl) (ok1 (decide_eq_false c55)), by intro q; cases q⟩
noncomputable def w5AuditTurns (have_0 : (List TC)) (want_1 : (List TC)) : Option Bool :=
  (w5few have_0).bind fun r1 =>
  if r1 = true then
    (w5few want_1).bind fun r4 =>
    if r4 = true then
      (aULocate have_0 want_1).bind fun r7 =>
      (aULocate want_1 have_0).bind fun r9 =>
      (aUDays have_0 want_1).bind fun r11 =>
      (aUDays want_1 have_0).bind fun r13 =>
      if (↑r7.length : Int) = (↑r9.length : Int) then
        if (↑r11.length : Int) = (↑r13.length : Int) then
          (lp (w5AuditTurns_L17_step r7 r9 r11 r13) (0 : Nat)).bind fun qq => match qq with
          | Sum.inl o17 =>
            none
          | Sum.inr (o17) =>
            (lp (w5AuditTurns_L36_step r11 r13) (0 : Nat)).bind fun qq => match qq with
            | Sum.inl o36 =>
              none
            | Sum.inr (o36) =>
              (w5awake).bind fun r73 =>
              some r73
        else
          none
      else
        none
    else
      (w5awake).bind fun r75 =>
      some r75
  else
    (w5awake).bind fun r77 =>
    some r77
theorem w5AuditTurns_ret (have_0 : (List TC)) (want_1 : (List TC)) (r : Bool) (h : w5AuditTurns have_0 want_1 = some r) : Ret Tryz.prog G0 8 [.lst (fl TC.enc have_0) have_0.length, .lst (fl TC.enc want_1) want_1.length] (.bool r) [] := by
  unfold w5AuditTurns at h
  obtain ⟨r1, h2, h⟩ := bnS h
  let f472 : List CH := (cs 2 ((.ret none [.any] (.bool r1) []) :: (cs 2 [])))
  rcases itS h with ⟨c3, h⟩ | ⟨c3, h⟩
  · obtain ⟨r4, h5, h⟩ := bnS h
    let f473 : List CH := ((.op (some false) .c) :: (.ret none [.any] (.bool r4) []) :: (cs 2 []))
    have g474 := k2 (w5few_ret have_0 r1 h2) (k2 ((not_f c3) : (!r1) = false) (ok1 (w5few_ret want_1 r4 h5)))
    rcases itS h with ⟨c6, h⟩ | ⟨c6, h⟩
    · obtain ⟨r7, h8, h⟩ := bnS h
      obtain ⟨r9, h10, h⟩ := bnS h
      obtain ⟨r11, h12, h⟩ := bnS h
      obtain ⟨r13, h14, h⟩ := bnS h
      rcases itS h with ⟨c15, h⟩ | ⟨c15, h⟩
      · rcases itS h with ⟨c16, h⟩ | ⟨c16, h⟩
        · obtain ⟨qq, hl17, h⟩ := bnS h
          rcases qq with o17 | o17
          · dsimp only at h
            cases h
          · dsimp only at h
            obtain ⟨qq, hl36, h⟩ := bnS h
            rcases qq with o36 | o36
            · dsimp only at h
              cases h
            · dsimp only at h
              obtain ⟨r73, h74, h⟩ := bnS h
              obtain rfl := oI h
              exact Ret.of_view 400 (f472 ++ (f473 ++ ((.br false) :: (cs 2 ((.ret none [.any, .any] (.vec 0 r7.length 4) [(bV (fl TF.enc r7) 39)]) :: (cs 2 ((.ret none [.any, .any] (.vec 0 r9.length 4) [(bV (fl TF.enc r9) 39)]) :: (cs 4 ((.ret none [.any, .any] (.vec 0 r11.length 4) [(bV (fl TF.enc r11) 39)]) :: (cs 2 ((.ret none [.any, .any] (.vec 0 r13.length 4) [(bV (fl TF.enc r13) 39)]) :: (cs 6 (oa :: oc :: (.op (some false) .c) :: (cs 3 [oa, oc, .br false, oc, .fcut 4 (.exit 0) [(7, .vec 2 r11.length 4), (8, .vec 3 r13.length 4)] (w5AuditTurns_L17_B r7 r9 r11 r13 (Sum.inr (o17))) [0, 1, 2, 3] [(5, .any), (6, .any), (7, .any), (8, .any), (9, .int .i64 (↑(0 : Nat) : Int))] [bS, bS, bS, bS], oc, .fcut 2 (.exit 2) [] (w5AuditTurns_L36_B r11 r13 (Sum.inr (o36))) [2, 3] [(7, .vec 0 r11.length 4), (8, .vec 1 r13.length 4), (10, .int .i64 (↑(0 : Nat) : Int))] [bS, bS], .ret none [] (.bool r73) [], oc])))))))))))))) [] (by kernel_rfl) (by kernel_rfl) (aO g474 (k2 ((not_f c6) : (!r4) = false) (k2 (aULocate_ret have_0 want_1 r7 h8) (k2 (aULocate_ret want_1 have_0 r9 h10) (k2 (aUDays_ret have_0 want_1 r11 h12) (k2 (aUDays_ret want_1 have_0 r13 h14) (k2 (not_f (beq_t c15)) (k2 (not_f (beq_t c16)) (k2 (rfl : (.int .i64 0 : AV) = .int .i64 (↑(0 : Nat) : Int)) (k2 (w5AuditTurns_L17_does r7 r9 r11 r13 (s := (0 : Nat)) (r := Sum.inr (o17)) hl17) (k2 ((by first | rfl | simp only [List.length_replicate, List.length_set]) : (.vec 2 r11.length 4 : AV) = .vec 2 r11.length 4) (k2 ((by first | rfl | simp only [List.length_replicate, List.length_set]) : (.vec 3 r13.length 4 : AV) = .vec 3 r13.length 4) (k2 (rfl : (.int .i64 0 : AV) = .int .i64 (↑(0 : Nat) : Int)) (k2 (w5AuditTurns_L36_does r11 r13 (s := (0 : Nat)) (r := Sum.inr (o36)) hl36) (ok1 (w5awake_ret r73 h74))))))))))))))))
        · cases h
      · cases h
    · obtain ⟨r75, h76, h⟩ := bnS h
      obtain rfl := oI h
      exact Ret.of_view 400 (f472 ++ (f473 ++ [.br true, .ret none [] (.bool r75) [], oc])) [] (by kernel_rfl) (by kernel_rfl) (aO g474 (k2 ((not_t (eq_false_of_ne_true c6)) : (!r4) = true) (ok1 (w5awake_ret r75 h76))))
  · obtain ⟨r77, h78, h⟩ := bnS h
    obtain rfl := oI h
    exact Ret.of_view 400 (f472 ++ (tc :: (cs 3 [.br true, .ret none [] (.bool r77) [], oc]))) [] (by kernel_rfl) (by kernel_rfl) (k2 (w5few_ret have_0 r1 h2) (k2 ((not_t (eq_false_of_ne_true c3)) : (!r1) = true) (k2 (rfl : true = true) (ok1 (w5awake_ret r77 h78)))))
end Go.Proofs.YtpadimnchmghpaaGreatDoor.Av
