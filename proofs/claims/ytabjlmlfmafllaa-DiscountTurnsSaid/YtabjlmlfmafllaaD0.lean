import Derived.Test.YtabjlmlfmafllaaAvX
import Derived.Test.YtabjlmlfmafllaaProg
import Derived.Tactics
import Derived.Test.YtabjlmlfmafllaaAwk
set_option linter.unusedVariables false
set_option linter.unusedSimpArgs false
set_option maxHeartbeats 4000000
namespace Go.Proofs.Ytabjlmlfmafllaa.Av
open Go Go.Proofs
structure Tapi_Window where
  Days : Int
  From : Int
  To : Int
def Tapi_Window.enc (x : Tapi_Window) : List AV := [.int .i64 x.Days, .int .i64 x.From, .int .i64 x.To]
structure Tapi_Discount where
  Name : (List UInt8)
  Kind : Int
  Amount : Int
  Group : (List UInt8)
  System : (List UInt8)
  Class : Int
  Window : Tapi_Window
  Least : Int
def Tapi_Discount.enc (x : Tapi_Discount) : List AV := [.str x.Name, .int .i64 x.Kind, .int .i64 x.Amount, .str x.Group, .str x.System, .int .i64 x.Class, .int .i64 x.Window.Days, .int .i64 x.Window.From, .int .i64 x.Window.To, .int .i64 x.Least]
noncomputable def text_Name_L3_step (s_0 : (List UInt8)) : Nat → Option (Nat ⊕ (Unit ⊕ Unit)) := fun p0 =>
  if p0 < s_0.length then
    (some (dec s_0 p0)).bind fun r23 =>
    if (↑r23.1 : Int) ≥ (97 : Int) then
      if (↑r23.1 : Int) ≤ (122 : Int) then
        some (Sum.inl (p0 + r23.2))
      else
        if (↑p0 : Int) = (0 : Int) then
          some (Sum.inr (Sum.inl ()))
        else
          if (↑r23.1 : Int) = (45 : Int) then
            some (Sum.inl (p0 + r23.2))
          else
            if (↑r23.1 : Int) < (48 : Int) then
              some (Sum.inr (Sum.inl ()))
            else
              if (↑r23.1 : Int) > (57 : Int) then
                some (Sum.inr (Sum.inl ()))
              else
                some (Sum.inl (p0 + r23.2))
    else
      if (↑p0 : Int) = (0 : Int) then
        some (Sum.inr (Sum.inl ()))
      else
        if (↑r23.1 : Int) = (45 : Int) then
          some (Sum.inl (p0 + r23.2))
        else
          if (↑r23.1 : Int) < (48 : Int) then
            some (Sum.inr (Sum.inl ()))
          else
            if (↑r23.1 : Int) > (57 : Int) then
              some (Sum.inr (Sum.inl ()))
            else
              some (Sum.inl (p0 + r23.2))
  else
    some (Sum.inr (Sum.inr (())))
def text_Name_L3_H (s_0 : (List UInt8)) : Nat → St := fun (s : Nat) => S 43 [(14, .ptr 0 0)] [{ c := [], e := 0, ext := false, fz := 0, pl := true, o := false, it := some (s_0, s) }]
theorem text_Name_L3_0 (s_0 : (List UInt8)) (p0 : Nat) (c22 : p0 < s_0.length) (r23 : (Nat × Nat)) (h24 : some (dec s_0 p0) = some r23) (c25 : (↑r23.1 : Int) ≥ (97 : Int)) (c26 : (↑r23.1 : Int) ≤ (122 : Int)) : Does Try.prog G0 0 (bodyAt Try.prog 32 [1, 1, 0, 1, 0, 0]) (text_Name_L3_H s_0 p0) .normal (S 43 [(14, .ptr 0 0)] [{ c := [], e := 0, ext := false, fz := 0, pl := true, o := false, it := some (s_0, (p0 + r23.2)) }]) :=
  Does.of_viewM 0 400 ((.op none (.m r23.1 r23.2)) :: (.op none .c) :: (.br true) :: (cs 5 ((.op none .a) :: (.op none .c) :: (.op (some true) .c) :: (.op none .a) :: (cs 5 ((.op (some false) .c) :: (cs 14 [.br false])))))) [0] (ps := [(p0 < s_0.length), (Utf8.decode ⟨s_0.toArray⟩ p0 = (r23.1, r23.2)), (true = true), ((decide ((↑r23.1 : Int) ≥ (97 : Int))) = true), ((!(decide ((↑r23.1 : Int) ≤ (122 : Int)))) = false), (false = false)]) (by kernel_rfl) (by kernel_rfl) ⟨c22, (Option.some.inj h24), rfl, (decide_eq_true c25), (not_f (decide_eq_true c26)), ok1 rfl⟩
theorem text_Name_L3_1 (s_0 : (List UInt8)) (p0 : Nat) (c22 : p0 < s_0.length) (r23 : (Nat × Nat)) (h24 : some (dec s_0 p0) = some r23) (c25 : (↑r23.1 : Int) ≥ (97 : Int)) (c26 : ¬ ((↑r23.1 : Int) ≤ (122 : Int))) (c27 : (↑p0 : Int) = (0 : Int)) : Does Try.prog G0 0 (bodyAt Try.prog 32 [1, 1, 0, 1, 0, 0]) (text_Name_L3_H s_0 p0) .ret (S 43 [(2, .bool false)] []) :=
  Does.of_viewM 0 400 ((.op none (.m r23.1 r23.2)) :: (.op none .c) :: (.br true) :: (cs 5 ((.op none .a) :: (.op none .c) :: (.op (some true) .c) :: (.op none .a) :: (cs 5 ((.op (some true) .c) :: (.op none .a) :: (.op none .c) :: (.op (some true) .c) :: (cs 11 [.br true, .op none .c])))))) [] (ps := [(p0 < s_0.length), (Utf8.decode ⟨s_0.toArray⟩ p0 = (r23.1, r23.2)), (true = true), ((decide ((↑r23.1 : Int) ≥ (97 : Int))) = true), ((!(decide ((↑r23.1 : Int) ≤ (122 : Int)))) = true), (((↑p0 : Int) == (0 : Int)) = true), (true = true)]) (by kernel_rfl) (by kernel_rfl) ⟨c22, (Option.some.inj h24), rfl, (decide_eq_true c25), (not_t (decide_eq_false c26)), (beq_t c27), ok1 rfl⟩
theorem text_Name_L3_2 (s_0 : (List UInt8)) (p0 : Nat) (c22 : p0 < s_0.length) (r23 : (Nat × Nat)) (h24 : some (dec s_0 p0) = some r23) (c25 : (↑r23.1 : Int) ≥ (97 : Int)) (c26 : ¬ ((↑r23.1 : Int) ≤ (122 : Int))) (c27 : ¬ ((↑p0 : Int) = (0 : Int))) (c28 : (↑r23.1 : Int) = (45 : Int)) : Does Try.prog G0 0 (bodyAt Try.prog 32 [1, 1, 0, 1, 0, 0]) (text_Name_L3_H s_0 p0) .normal (S 43 [(14, .ptr 0 0)] [{ c := [], e := 0, ext := false, fz := 0, pl := true, o := false, it := some (s_0, (p0 + r23.2)) }]) :=
  Does.of_viewM 0 400 ((.op none (.m r23.1 r23.2)) :: (.op none .c) :: (.br true) :: (cs 5 ((.op none .a) :: (.op none .c) :: (.op (some true) .c) :: (.op none .a) :: (cs 5 ((.op (some true) .c) :: (.op none .a) :: (.op none .c) :: (.op (some false) .c) :: (.op none .a) :: (.op none .c) :: (.op (some false) .c) :: (cs 8 [.br false])))))) [0] (ps := [(p0 < s_0.length), (Utf8.decode ⟨s_0.toArray⟩ p0 = (r23.1, r23.2)), (true = true), ((decide ((↑r23.1 : Int) ≥ (97 : Int))) = true), ((!(decide ((↑r23.1 : Int) ≤ (122 : Int)))) = true), (((↑p0 : Int) == (0 : Int)) = false), ((!((↑r23.1 : Int) == (45 : Int))) = false), (false = false)]) (by kernel_rfl) (by kernel_rfl) ⟨c22, (Option.some.inj h24), rfl, (decide_eq_true c25), (not_t (decide_eq_false c26)), (beq_f c27), (not_f (beq_t c28)), ok1 rfl⟩
theorem text_Name_L3_3 (s_0 : (List UInt8)) (p0 : Nat) (c22 : p0 < s_0.length) (r23 : (Nat × Nat)) (h24 : some (dec s_0 p0) = some r23) (c25 : (↑r23.1 : Int) ≥ (97 : Int)) (c26 : ¬ ((↑r23.1 : Int) ≤ (122 : Int))) (c27 : ¬ ((↑p0 : Int) = (0 : Int))) (c28 : ¬ ((↑r23.1 : Int) = (45 : Int))) (c29 : (↑r23.1 : Int) < (48 : Int)) : Does Try.prog G0 0 (bodyAt Try.prog 32 [1, 1, 0, 1, 0, 0]) (text_Name_L3_H s_0 p0) .ret (S 43 [(2, .bool false)] []) :=
  Does.of_viewM 0 400 ((.op none (.m r23.1 r23.2)) :: (.op none .c) :: (.br true) :: (cs 5 ((.op none .a) :: (.op none .c) :: (.op (some true) .c) :: (.op none .a) :: (cs 5 ((.op (some true) .c) :: (.op none .a) :: (.op none .c) :: (.op (some false) .c) :: (.op none .a) :: (.op none .c) :: (.op (some true) .c) :: (.op none .a) :: (.op none .c) :: (.op (some true) .c) :: (cs 5 [.br true, .op none .c])))))) [] (ps := [(p0 < s_0.length), (Utf8.decode ⟨s_0.toArray⟩ p0 = (r23.1, r23.2)), (true = true), ((decide ((↑r23.1 : Int) ≥ (97 : Int))) = true), ((!(decide ((↑r23.1 : Int) ≤ (122 : Int)))) = true), (((↑p0 : Int) == (0 : Int)) = false), ((!((↑r23.1 : Int) == (45 : Int))) = true), ((decide ((↑r23.1 : Int) < (48 : Int))) = true), (true = true)]) (by kernel_rfl) (by kernel_rfl) ⟨c22, (Option.some.inj h24), rfl, (decide_eq_true c25), (not_t (decide_eq_false c26)), (beq_f c27), (not_t (beq_f c28)), (decide_eq_true c29), ok1 rfl⟩
theorem text_Name_L3_4 (s_0 : (List UInt8)) (p0 : Nat) (c22 : p0 < s_0.length) (r23 : (Nat × Nat)) (h24 : some (dec s_0 p0) = some r23) (c25 : (↑r23.1 : Int) ≥ (97 : Int)) (c26 : ¬ ((↑r23.1 : Int) ≤ (122 : Int))) (c27 : ¬ ((↑p0 : Int) = (0 : Int))) (c28 : ¬ ((↑r23.1 : Int) = (45 : Int))) (c29 : ¬ ((↑r23.1 : Int) < (48 : Int))) (c30 : (↑r23.1 : Int) > (57 : Int)) : Does Try.prog G0 0 (bodyAt Try.prog 32 [1, 1, 0, 1, 0, 0]) (text_Name_L3_H s_0 p0) .ret (S 43 [(2, .bool false)] []) :=
  Does.of_viewM 0 400 ((.op none (.m r23.1 r23.2)) :: (.op none .c) :: (.br true) :: (cs 5 ((.op none .a) :: (.op none .c) :: (.op (some true) .c) :: (.op none .a) :: (cs 5 ((.op (some true) .c) :: (.op none .a) :: (.op none .c) :: (.op (some false) .c) :: (.op none .a) :: (.op none .c) :: (.op (some true) .c) :: (.op none .a) :: (.op none .c) :: (.op (some false) .c) :: (.op none .a) :: (cs 4 [.br true, .op none .c])))))) [] (ps := [(p0 < s_0.length), (Utf8.decode ⟨s_0.toArray⟩ p0 = (r23.1, r23.2)), (true = true), ((decide ((↑r23.1 : Int) ≥ (97 : Int))) = true), ((!(decide ((↑r23.1 : Int) ≤ (122 : Int)))) = true), (((↑p0 : Int) == (0 : Int)) = false), ((!((↑r23.1 : Int) == (45 : Int))) = true), ((decide ((↑r23.1 : Int) < (48 : Int))) = false), ((decide ((↑r23.1 : Int) > (57 : Int))) = true)]) (by kernel_rfl) (by kernel_rfl) ⟨c22, (Option.some.inj h24), rfl, (decide_eq_true c25), (not_t (decide_eq_false c26)), (beq_f c27), (not_t (beq_f c28)), (decide_eq_false c29), ok1 (decide_eq_true c30)⟩
theorem text_Name_L3_5 (s_0 : (List UInt8)) (p0 : Nat) (c22 : p0 < s_0.length) (r23 : (Nat × Nat)) (h24 : some (dec s_0 p0) = some r23) (c25 : (↑r23.1 : Int) ≥ (97 : Int)) (c26 : ¬ ((↑r23.1 : Int) ≤ (122 : Int))) (c27 : ¬ ((↑p0 : Int) = (0 : Int))) (c28 : ¬ ((↑r23.1 : Int) = (45 : Int))) (c29 : ¬ ((↑r23.1 : Int) < (48 : Int))) (c30 : ¬ ((↑r23.1 : Int) > (57 : Int))) : Does Try.prog G0 0 (bodyAt Try.prog 32 [1, 1, 0, 1, 0, 0]) (text_Name_L3_H s_0 p0) .normal (S 43 [(14, .ptr 0 0)] [{ c := [], e := 0, ext := false, fz := 0, pl := true, o := false, it := some (s_0, (p0 + r23.2)) }]) :=
  Does.of_viewM 0 400 ((.op none (.m r23.1 r23.2)) :: (.op none .c) :: (.br true) :: (cs 5 ((.op none .a) :: (.op none .c) :: (.op (some true) .c) :: (.op none .a) :: (cs 5 ((.op (some true) .c) :: (.op none .a) :: (.op none .c) :: (.op (some false) .c) :: (.op none .a) :: (.op none .c) :: (.op (some true) .c) :: (.op none .a) :: (.op none .c) :: (.op (some false) .c) :: (.op none .a) :: (cs 4 [.br false])))))) [0] (ps := [(p0 < s_0.length), (Utf8.decode ⟨s_0.toArray⟩ p0 = (r23.1, r23.2)), (true = true), ((decide ((↑r23.1 : Int) ≥ (97 : Int))) = true), ((!(decide ((↑r23.1 : Int) ≤ (122 : Int)))) = true), (((↑p0 : Int) == (0 : Int)) = false), ((!((↑r23.1 : Int) == (45 : Int))) = true), ((decide ((↑r23.1 : Int) < (48 : Int))) = false), ((decide ((↑r23.1 : Int) > (57 : Int))) = false)]) (by kernel_rfl) (by kernel_rfl) ⟨c22, (Option.some.inj h24), rfl, (decide_eq_true c25), (not_t (decide_eq_false c26)), (beq_f c27), (not_t (beq_f c28)), (decide_eq_false c29), ok1 (decide_eq_false c30)⟩
theorem text_Name_L3_6 (s_0 : (List UInt8)) (p0 : Nat) (c22 : p0 < s_0.length) (r23 : (Nat × Nat)) (h24 : some (dec s_0 p0) = some r23) (c25 : ¬ ((↑r23.1 : Int) ≥ (97 : Int))) (c31 : (↑p0 : Int) = (0 : Int)) : Does Try.prog G0 0 (bodyAt Try.prog 32 [1, 1, 0, 1, 0, 0]) (text_Name_L3_H s_0 p0) .ret (S 43 [(2, .bool false)] []) :=
  Does.of_viewM 0 400 ((.op none (.m r23.1 r23.2)) :: (.op none .c) :: (.br true) :: (cs 5 ((.op none .a) :: (.op none .c) :: (.op (some false) .c) :: (cs 7 ((.op none .a) :: (.op none .c) :: (.op (some true) .c) :: (cs 11 [.br true, .op none .c])))))) [] (ps := [(p0 < s_0.length), (Utf8.decode ⟨s_0.toArray⟩ p0 = (r23.1, r23.2)), (true = true), ((decide ((↑r23.1 : Int) ≥ (97 : Int))) = false), (((↑p0 : Int) == (0 : Int)) = true), (true = true)]) (by kernel_rfl) (by kernel_rfl) ⟨c22, (Option.some.inj h24), rfl, (decide_eq_false c25), (beq_t c31), ok1 rfl⟩
theorem text_Name_L3_7 (s_0 : (List UInt8)) (p0 : Nat) (c22 : p0 < s_0.length) (r23 : (Nat × Nat)) (h24 : some (dec s_0 p0) = some r23) (c25 : ¬ ((↑r23.1 : Int) ≥ (97 : Int))) (c31 : ¬ ((↑p0 : Int) = (0 : Int))) (c32 : (↑r23.1 : Int) = (45 : Int)) : Does Try.prog G0 0 (bodyAt Try.prog 32 [1, 1, 0, 1, 0, 0]) (text_Name_L3_H s_0 p0) .normal (S 43 [(14, .ptr 0 0)] [{ c := [], e := 0, ext := false, fz := 0, pl := true, o := false, it := some (s_0, (p0 + r23.2)) }]) :=
  Does.of_viewM 0 400 ((.op none (.m r23.1 r23.2)) :: (.op none .c) :: (.br true) :: (cs 5 ((.op none .a) :: (.op none .c) :: (.op (some false) .c) :: (cs 7 ((.op none .a) :: (.op none .c) :: (.op (some false) .c) :: (.op none .a) :: (.op none .c) :: (.op (some false) .c) :: (cs 8 [.br false])))))) [0] (ps := [(p0 < s_0.length), (Utf8.decode ⟨s_0.toArray⟩ p0 = (r23.1, r23.2)), (true = true), ((decide ((↑r23.1 : Int) ≥ (97 : Int))) = false), (((↑p0 : Int) == (0 : Int)) = false), ((!((↑r23.1 : Int) == (45 : Int))) = false), (false = false)]) (by kernel_rfl) (by kernel_rfl) ⟨c22, (Option.some.inj h24), rfl, (decide_eq_false c25), (beq_f c31), (not_f (beq_t c32)), ok1 rfl⟩
theorem text_Name_L3_8 (s_0 : (List UInt8)) (p0 : Nat) (c22 : p0 < s_0.length) (r23 : (Nat × Nat)) (h24 : some (dec s_0 p0) = some r23) (c25 : ¬ ((↑r23.1 : Int) ≥ (97 : Int))) (c31 : ¬ ((↑p0 : Int) = (0 : Int))) (c32 : ¬ ((↑r23.1 : Int) = (45 : Int))) (c33 : (↑r23.1 : Int) < (48 : Int)) : Does Try.prog G0 0 (bodyAt Try.prog 32 [1, 1, 0, 1, 0, 0]) (text_Name_L3_H s_0 p0) .ret (S 43 [(2, .bool false)] []) :=
  Does.of_viewM 0 400 ((.op none (.m r23.1 r23.2)) :: (.op none .c) :: (.br true) :: (cs 5 ((.op none .a) :: (.op none .c) :: (.op (some false) .c) :: (cs 7 ((.op none .a) :: (.op none .c) :: (.op (some false) .c) :: (.op none .a) :: (.op none .c) :: (.op (some true) .c) :: (.op none .a) :: (.op none .c) :: (.op (some true) .c) :: (cs 5 [.br true, .op none .c])))))) [] (ps := [(p0 < s_0.length), (Utf8.decode ⟨s_0.toArray⟩ p0 = (r23.1, r23.2)), (true = true), ((decide ((↑r23.1 : Int) ≥ (97 : Int))) = false), (((↑p0 : Int) == (0 : Int)) = false), ((!((↑r23.1 : Int) == (45 : Int))) = true), ((decide ((↑r23.1 : Int) < (48 : Int))) = true), (true = true)]) (by kernel_rfl) (by kernel_rfl) ⟨c22, (Option.some.inj h24), rfl, (decide_eq_false c25), (beq_f c31), (not_t (beq_f c32)), (decide_eq_true c33), ok1 rfl⟩
theorem text_Name_L3_9 (s_0 : (List UInt8)) (p0 : Nat) (c22 : p0 < s_0.length) (r23 : (Nat × Nat)) (h24 : some (dec s_0 p0) = some r23) (c25 : ¬ ((↑r23.1 : Int) ≥ (97 : Int))) (c31 : ¬ ((↑p0 : Int) = (0 : Int))) (c32 : ¬ ((↑r23.1 : Int) = (45 : Int))) (c33 : ¬ ((↑r23.1 : Int) < (48 : Int))) (c34 : (↑r23.1 : Int) > (57 : Int)) : Does Try.prog G0 0 (bodyAt Try.prog 32 [1, 1, 0, 1, 0, 0]) (text_Name_L3_H s_0 p0) .ret (S 43 [(2, .bool false)] []) :=
  Does.of_viewM 0 400 ((.op none (.m r23.1 r23.2)) :: (.op none .c) :: (.br true) :: (cs 5 ((.op none .a) :: (.op none .c) :: (.op (some false) .c) :: (cs 7 ((.op none .a) :: (.op none .c) :: (.op (some false) .c) :: (.op none .a) :: (.op none .c) :: (.op (some true) .c) :: (.op none .a) :: (.op none .c) :: (.op (some false) .c) :: (.op none .a) :: (cs 4 [.br true, .op none .c])))))) [] (ps := [(p0 < s_0.length), (Utf8.decode ⟨s_0.toArray⟩ p0 = (r23.1, r23.2)), (true = true), ((decide ((↑r23.1 : Int) ≥ (97 : Int))) = false), (((↑p0 : Int) == (0 : Int)) = false), ((!((↑r23.1 : Int) == (45 : Int))) = true), ((decide ((↑r23.1 : Int) < (48 : Int))) = false), ((decide ((↑r23.1 : Int) > (57 : Int))) = true)]) (by kernel_rfl) (by kernel_rfl) ⟨c22, (Option.some.inj h24), rfl, (decide_eq_false c25), (beq_f c31), (not_t (beq_f c32)), (decide_eq_false c33), ok1 (decide_eq_true c34)⟩
theorem text_Name_L3_10 (s_0 : (List UInt8)) (p0 : Nat) (c22 : p0 < s_0.length) (r23 : (Nat × Nat)) (h24 : some (dec s_0 p0) = some r23) (c25 : ¬ ((↑r23.1 : Int) ≥ (97 : Int))) (c31 : ¬ ((↑p0 : Int) = (0 : Int))) (c32 : ¬ ((↑r23.1 : Int) = (45 : Int))) (c33 : ¬ ((↑r23.1 : Int) < (48 : Int))) (c34 : ¬ ((↑r23.1 : Int) > (57 : Int))) : Does Try.prog G0 0 (bodyAt Try.prog 32 [1, 1, 0, 1, 0, 0]) (text_Name_L3_H s_0 p0) .normal (S 43 [(14, .ptr 0 0)] [{ c := [], e := 0, ext := false, fz := 0, pl := true, o := false, it := some (s_0, (p0 + r23.2)) }]) :=
  Does.of_viewM 0 400 ((.op none (.m r23.1 r23.2)) :: (.op none .c) :: (.br true) :: (cs 5 ((.op none .a) :: (.op none .c) :: (.op (some false) .c) :: (cs 7 ((.op none .a) :: (.op none .c) :: (.op (some false) .c) :: (.op none .a) :: (.op none .c) :: (.op (some true) .c) :: (.op none .a) :: (.op none .c) :: (.op (some false) .c) :: (.op none .a) :: (cs 4 [.br false])))))) [0] (ps := [(p0 < s_0.length), (Utf8.decode ⟨s_0.toArray⟩ p0 = (r23.1, r23.2)), (true = true), ((decide ((↑r23.1 : Int) ≥ (97 : Int))) = false), (((↑p0 : Int) == (0 : Int)) = false), ((!((↑r23.1 : Int) == (45 : Int))) = true), ((decide ((↑r23.1 : Int) < (48 : Int))) = false), ((decide ((↑r23.1 : Int) > (57 : Int))) = false)]) (by kernel_rfl) (by kernel_rfl) ⟨c22, (Option.some.inj h24), rfl, (decide_eq_false c25), (beq_f c31), (not_t (beq_f c32)), (decide_eq_false c33), ok1 (decide_eq_false c34)⟩
theorem text_Name_L3_11 (s_0 : (List UInt8)) (p0 : Nat) (c22 : ¬ (p0 < s_0.length)) : Does Try.prog G0 0 (bodyAt Try.prog 32 [1, 1, 0, 1, 0, 0]) (text_Name_L3_H s_0 p0) (.exit 0) (S 43 [] []) :=
  Does.of_viewM 0 400 [.op none (.b false), .op none .c, .br false] [] (ps := [(¬ p0 < s_0.length), (false = false)]) (by kernel_rfl) (by kernel_rfl) ⟨c22, ok1 rfl⟩
def text_Name_L3_X (s_0 : (List UInt8)) : (Unit ⊕ Unit) → AEx := fun q => match q with | Sum.inl o => .ret | Sum.inr (o) => (.exit 0)
def text_Name_L3_E (s_0 : (List UInt8)) : (Unit ⊕ Unit) → St := fun q => match q with | Sum.inl o => S 43 [(2, .bool false)] [] | Sum.inr (o) => S 43 [] []
theorem text_Name_L3_does (s_0 : (List UInt8)) {s : Nat} {r : Unit ⊕ Unit} (h : lp (text_Name_L3_step s_0) s = some r) : Does Try.prog G0 0 (.loop (bodyAt Try.prog 32 [1, 1, 0, 1, 0, 0])) (text_Name_L3_H s_0 s) (text_Name_L3_X s_0 r) (text_Name_L3_E s_0 r) := by
  refine Does.lp (H := text_Name_L3_H s_0) (X := text_Name_L3_X s_0) (E := text_Name_L3_E s_0) (fun s s2 h => ?_) (fun s r h => ?_) h
  · revert h; revert s; intro p0 h
    unfold text_Name_L3_step at h
    try dsimp only at h
    rcases ite_some h with ⟨c22, h⟩ | ⟨c22, h⟩
    · obtain ⟨r23, h24, h⟩ := bind_some h
      rcases ite_some h with ⟨c25, h⟩ | ⟨c25, h⟩
      · rcases ite_some h with ⟨c26, h⟩ | ⟨c26, h⟩
        · simp only [Option.some.injEq, Sum.inl.injEq] at h
          subst h
          have hq := text_Name_L3_0 s_0 p0 c22 r23 h24 c25 c26
          first | exact hq | exact Eq.mp (by simp only [text_Name_L3_H, List.length_set] <;> rfl) hq
        · rcases ite_some h with ⟨c27, h⟩ | ⟨c27, h⟩
          · simp at h
          · rcases ite_some h with ⟨c28, h⟩ | ⟨c28, h⟩
            · simp only [Option.some.injEq, Sum.inl.injEq] at h
              subst h
              have hq := text_Name_L3_2 s_0 p0 c22 r23 h24 c25 c26 c27 c28
              first | exact hq | exact Eq.mp (by simp only [text_Name_L3_H, List.length_set] <;> rfl) hq
            · rcases ite_some h with ⟨c29, h⟩ | ⟨c29, h⟩
              · simp at h
              · rcases ite_some h with ⟨c30, h⟩ | ⟨c30, h⟩
                · simp at h
                · simp only [Option.some.injEq, Sum.inl.injEq] at h
                  subst h
                  have hq := text_Name_L3_5 s_0 p0 c22 r23 h24 c25 c26 c27 c28 c29 c30
                  first | exact hq | exact Eq.mp (by simp only [text_Name_L3_H, List.length_set] <;> rfl) hq
      · rcases ite_some h with ⟨c31, h⟩ | ⟨c31, h⟩
        · simp at h
        · rcases ite_some h with ⟨c32, h⟩ | ⟨c32, h⟩
          · simp only [Option.some.injEq, Sum.inl.injEq] at h
            subst h
            have hq := text_Name_L3_7 s_0 p0 c22 r23 h24 c25 c31 c32
            first | exact hq | exact Eq.mp (by simp only [text_Name_L3_H, List.length_set] <;> rfl) hq
          · rcases ite_some h with ⟨c33, h⟩ | ⟨c33, h⟩
            · simp at h
            · rcases ite_some h with ⟨c34, h⟩ | ⟨c34, h⟩
              · simp at h
              · simp only [Option.some.injEq, Sum.inl.injEq] at h
                subst h
                have hq := text_Name_L3_10 s_0 p0 c22 r23 h24 c25 c31 c32 c33 c34
                first | exact hq | exact Eq.mp (by simp only [text_Name_L3_H, List.length_set] <;> rfl) hq
    · simp at h
  · revert h; revert s; intro p0 h
    unfold text_Name_L3_step at h
    try dsimp only at h
    rcases ite_some h with ⟨c22, h⟩ | ⟨c22, h⟩
    · obtain ⟨r23, h24, h⟩ := bind_some h
      rcases ite_some h with ⟨c25, h⟩ | ⟨c25, h⟩
      · rcases ite_some h with ⟨c26, h⟩ | ⟨c26, h⟩
        · simp at h
        · rcases ite_some h with ⟨c27, h⟩ | ⟨c27, h⟩
          · simp only [Option.some.injEq, Sum.inr.injEq] at h
            subst h
            exact ⟨text_Name_L3_1 s_0 p0 c22 r23 h24 c25 c26 c27, by intro q; cases q⟩
          · rcases ite_some h with ⟨c28, h⟩ | ⟨c28, h⟩
            · simp at h
            · rcases ite_some h with ⟨c29, h⟩ | ⟨c29, h⟩
              · simp only [Option.some.injEq, Sum.inr.injEq] at h
                subst h
                exact ⟨text_Name_L3_3 s_0 p0 c22 r23 h24 c25 c26 c27 c28 c29, by intro q; cases q⟩
              · rcases ite_some h with ⟨c30, h⟩ | ⟨c30, h⟩
                · simp only [Option.some.injEq, Sum.inr.injEq] at h
                  subst h
                  exact ⟨text_Name_L3_4 s_0 p0 c22 r23 h24 c25 c26 c27 c28 c29 c30, by intro q; cases q⟩
                · simp at h
      · rcases ite_some h with ⟨c31, h⟩ | ⟨c31, h⟩
        · simp only [Option.some.injEq, Sum.inr.injEq] at h
          subst h
          exact ⟨text_Name_L3_6 s_0 p0 c22 r23 h24 c25 c31, by intro q; cases q⟩
        · rcases ite_some h with ⟨c32, h⟩ | ⟨c32, h⟩
          · simp at h
          · rcases ite_some h with ⟨c33, h⟩ | ⟨c33, h⟩
            · simp only [Option.some.injEq, Sum.inr.injEq] at h
              subst h
              exact ⟨text_Name_L3_8 s_0 p0 c22 r23 h24 c25 c31 c32 c33, by intro q; cases q⟩
            · rcases ite_some h with ⟨c34, h⟩ | ⟨c34, h⟩
              · simp only [Option.some.injEq, Sum.inr.injEq] at h
                subst h
                exact ⟨text_Name_L3_9 s_0 p0 c22 r23 h24 c25 c31 c32 c33 c34, by intro q; cases q⟩
              · simp at h
    · simp only [Option.some.injEq, Sum.inr.injEq] at h
      subst h
      exact ⟨text_Name_L3_11 s_0 p0 c22, by intro q; cases q⟩
noncomputable def text_Name (s_0 : (List UInt8)) : Option Bool :=
  if s_0 = [] then
    some false
  else
    if (↑s_0.length : Int) > (12 : Int) then
      some false
    else
      (lp (text_Name_L3_step s_0) (0 : Nat)).bind fun qq => match qq with
      | Sum.inl o3 =>
        some false
      | Sum.inr (o3) =>
        some true
def text_Name_h1  : List CH := (cs 2 [.op none .a, .op none .c])
def text_Name_h2  : List CH := [.op (some false) .c, .op none .c, .op none .a, .op none .c]
def text_Name_h3  : List CH := ((.br false) :: (cs 2 []))
def text_Name_p4 (s_0 : (List UInt8)) : List Prop := [((decide ((↑s_0.length : Int) > (12 : Int))) = false), ((.ptr 0 0 : AV) = .ptr 0 0), (s_0 = s_0 ∧ 0 = (0 : Nat))]
theorem text_Name_p4q (s_0 : (List UInt8)) (c2 : ¬ ((↑s_0.length : Int) > (12 : Int))) : allOk (text_Name_p4 s_0) := ⟨(decide_eq_false c2), rfl, ok1 ⟨rfl, rfl⟩⟩
theorem text_Name_0 (s_0 : (List UInt8)) (c1 : s_0 = []) : Ret Try.prog G0 32 [.str s_0] (.bool false) [] :=
  Ret.of_view 400 ((text_Name_h1) ++ ((.op (some true) .c) :: (cs 3 [.br true, .op none .c]))) [] (ps := [((s_0 == []) = true), (true = true)]) (by kernel_rfl) (by kernel_rfl) ⟨(beq_t c1), ok1 rfl⟩
theorem text_Name_1 (s_0 : (List UInt8)) (c1 : ¬ (s_0 = [])) (c2 : (↑s_0.length : Int) > (12 : Int)) : Ret Try.prog G0 32 [.str s_0] (.bool false) [] :=
  Ret.of_view 400 ((text_Name_h1) ++ ((text_Name_h2) ++ [.br true, .op none .c])) [] (ps := ([((s_0 == []) = false)] ++ [((decide ((↑s_0.length : Int) > (12 : Int))) = true)])) (by kernel_rfl) (by kernel_rfl) (allOk_append.2 ⟨(ok1 (beq_f c1)), (ok1 (decide_eq_true c2))⟩)
theorem text_Name_2 (s_0 : (List UInt8)) (c1 : ¬ (s_0 = [])) (c2 : ¬ ((↑s_0.length : Int) > (12 : Int))) (o3 : Unit) (hl3 : lp (text_Name_L3_step s_0) (0 : Nat) = some (Sum.inl o3)) : Ret Try.prog G0 32 [.str s_0] (.bool false) [] :=
  Ret.of_view 400 ((text_Name_h1) ++ ((text_Name_h2) ++ ((text_Name_h3) ++ [.fcut 0 .ret [(2, .bool false)] [] [0] [(14, .ptr 0 0)] [{ c := [], e := 0, ext := false, fz := 0, pl := true, o := false, it := some (s_0, (0 : Nat)) }]]))) [] (ps := ([((s_0 == []) = false)] ++ ((text_Name_p4 s_0) ++ [(Does Try.prog G0 0 (.loop (bodyAt Try.prog 32 [1, 1, 0, 1, 0, 0])) (S 43 [(14, .ptr 0 0)] [{ c := [], e := 0, ext := false, fz := 0, pl := true, o := false, it := some (s_0, (0 : Nat)) }]) .ret (S 43 [(2, .bool false)] []))]))) (by kernel_rfl) (by kernel_rfl) (allOk_append.2 ⟨(ok1 (beq_f c1)), (allOk_append.2 ⟨(text_Name_p4q s_0 c2), (ok1 (text_Name_L3_does s_0 (s := (0 : Nat)) (r := Sum.inl o3) hl3))⟩)⟩)
theorem text_Name_3 (s_0 : (List UInt8)) (c1 : ¬ (s_0 = [])) (c2 : ¬ ((↑s_0.length : Int) > (12 : Int))) (o3 : Unit) (hl3 : lp (text_Name_L3_step s_0) (0 : Nat) = some (Sum.inr (o3))) : Ret Try.prog G0 32 [.str s_0] (.bool true) [] :=
  Ret.of_view 400 ((text_Name_h1) ++ ((text_Name_h2) ++ ((text_Name_h3) ++ [.fcut 0 (.exit 0) [] [] [0] [(14, .ptr 0 0)] [{ c := [], e := 0, ext := false, fz := 0, pl := true, o := false, it := some (s_0, (0 : Nat)) }], .op none .c]))) [] (ps := ([((s_0 == []) = false)] ++ ((text_Name_p4 s_0) ++ [(Does Try.prog G0 0 (.loop (bodyAt Try.prog 32 [1, 1, 0, 1, 0, 0])) (S 43 [(14, .ptr 0 0)] [{ c := [], e := 0, ext := false, fz := 0, pl := true, o := false, it := some (s_0, (0 : Nat)) }]) (.exit 0) (S 43 [] []))]))) (by kernel_rfl) (by kernel_rfl) (allOk_append.2 ⟨(ok1 (beq_f c1)), (allOk_append.2 ⟨(text_Name_p4q s_0 c2), (ok1 (text_Name_L3_does s_0 (s := (0 : Nat)) (r := Sum.inr (o3)) hl3))⟩)⟩)
theorem text_Name_ret (s_0 : (List UInt8)) (r : Bool) (h : text_Name s_0 = some r) : Ret Try.prog G0 32 [.str s_0] (.bool r) [] := by
  unfold text_Name at h
  rcases ite_some h with ⟨c1, h⟩ | ⟨c1, h⟩
  · simp only [Option.some.injEq] at h
    subst h
    exact text_Name_0 s_0 c1
  · rcases ite_some h with ⟨c2, h⟩ | ⟨c2, h⟩
    · simp only [Option.some.injEq] at h
      subst h
      exact text_Name_1 s_0 c1 c2
    · obtain ⟨qq, hl3, h⟩ := bind_some h
      rcases qq with o3 | o3
      · dsimp only at h
        simp only [Option.some.injEq] at h
        subst h
        exact text_Name_2 s_0 c1 c2 o3 hl3
      · dsimp only at h
        simp only [Option.some.injEq] at h
        subst h
        exact text_Name_3 s_0 c1 c2 o3 hl3
noncomputable def tollwayref01_Name_L3_step (s_0 : (List UInt8)) : Nat → Option (Nat ⊕ (Unit ⊕ Unit)) := fun k3 =>
  if (↑k3 : Int) < (↑s_0.length : Int) then
    (s_0[k3]?).bind fun x35 =>
    if (x35.toNat : Int) ≥ (97 : Int) then
      if (x35.toNat : Int) ≥ (48 : Int) then
        if (x35.toNat : Int) ≤ (57 : Int) then
          if (x35.toNat : Int) ≤ (122 : Int) then
            if InR .i64 ((↑k3 : Int) + 1) then
              some (Sum.inl (k3 + 1))
            else none
          else
            if (↑k3 : Int) = (0 : Int) then
              some (Sum.inr (Sum.inl ()))
            else
              if InR .i64 ((↑k3 : Int) + 1) then
                some (Sum.inl (k3 + 1))
              else none
        else
          if (x35.toNat : Int) ≤ (122 : Int) then
            if InR .i64 ((↑k3 : Int) + 1) then
              some (Sum.inl (k3 + 1))
            else none
          else
            if (↑k3 : Int) = (0 : Int) then
              some (Sum.inr (Sum.inl ()))
            else
              if (x35.toNat : Int) = (45 : Int) then
                if InR .i64 ((↑k3 : Int) + 1) then
                  some (Sum.inl (k3 + 1))
                else none
              else
                some (Sum.inr (Sum.inl ()))
      else
        if (x35.toNat : Int) ≤ (122 : Int) then
          if InR .i64 ((↑k3 : Int) + 1) then
            some (Sum.inl (k3 + 1))
          else none
        else
          if (↑k3 : Int) = (0 : Int) then
            some (Sum.inr (Sum.inl ()))
          else
            if (x35.toNat : Int) = (45 : Int) then
              if InR .i64 ((↑k3 : Int) + 1) then
                some (Sum.inl (k3 + 1))
              else none
            else
              some (Sum.inr (Sum.inl ()))
    else
      if (x35.toNat : Int) ≥ (48 : Int) then
        if (x35.toNat : Int) ≤ (57 : Int) then
          if (↑k3 : Int) = (0 : Int) then
            some (Sum.inr (Sum.inl ()))
          else
            if InR .i64 ((↑k3 : Int) + 1) then
              some (Sum.inl (k3 + 1))
            else none
        else
          if (↑k3 : Int) = (0 : Int) then
            some (Sum.inr (Sum.inl ()))
          else
            if (x35.toNat : Int) = (45 : Int) then
              if InR .i64 ((↑k3 : Int) + 1) then
                some (Sum.inl (k3 + 1))
              else none
            else
              some (Sum.inr (Sum.inl ()))
      else
        if (↑k3 : Int) = (0 : Int) then
          some (Sum.inr (Sum.inl ()))
        else
          if (x35.toNat : Int) = (45 : Int) then
            if InR .i64 ((↑k3 : Int) + 1) then
              some (Sum.inl (k3 + 1))
            else none
          else
            some (Sum.inr (Sum.inl ()))
  else
    some (Sum.inr (Sum.inr (())))
def tollwayref01_Name_L3_H (s_0 : (List UInt8)) : Nat → St := fun (s : Nat) => S 56 [(0, .str s_0), (3, .int .i64 (↑s : Int))] []
theorem tollwayref01_Name_L3_0 (s_0 : (List UInt8)) (k3 : Nat) (c34 : (↑k3 : Int) < (↑s_0.length : Int)) (x35 : UInt8) (h36 : s_0[k3]? = some x35) (c37 : (x35.toNat : Int) ≥ (97 : Int)) (c38 : (x35.toNat : Int) ≥ (48 : Int)) (c39 : (x35.toNat : Int) ≤ (57 : Int)) (c40 : (x35.toNat : Int) ≤ (122 : Int)) (h41 : InR .i64 ((↑k3 : Int) + 1)) : Does Try.prog G0 0 (bodyAt Try.prog 51 [1, 1, 0, 1, 0, 0]) (tollwayref01_Name_L3_H s_0 k3) .normal (S 56 [(0, .str s_0), (3, .int .i64 ((↑k3 : Int) + 1))] []) :=
  Does.of_viewM 0 400 (cs 3 ((.op none .a) :: (.br true) :: (cs 2 ((.op none (.i k3)) :: (.tr (.eqt (.t 22) (.int .u8 (x35.toNat : Int)))) :: (.op none .a) :: (.op none .c) :: (.op (some true) .c) :: (.op none .c) :: (.op none (.i k3)) :: (.tr (.eqt (.t 27) (.int .u8 (x35.toNat : Int)))) :: (.op none .a) :: (cs 4 ((.op none (.i k3)) :: (.tr (.eqt (.t 32) (.int .u8 (x35.toNat : Int)))) :: (.op none .a) :: (.op none .c) :: (.op (some true) .c) :: (.op none .c) :: (.op none (.i k3)) :: (.tr (.eqt (.t 37) (.int .u8 (x35.toNat : Int)))) :: (.op none .a) :: (cs 2 ((.op (some true) .c) :: (cs 8 ((.op (some false) .c) :: (cs 6 [.br false, .op none .c, .op none .w, .op none .c]))))))))))) [] (ps := [((decide ((↑k3 : Int) < (↑s_0.length : Int))) = true), ((↑k3 : Int) = ((k3 : Nat) : Int) ∧ k3 < s_0.length), ((.int .u8 ((List.getD s_0 k3 0).toNat : Int) : AV) = .int .u8 (x35.toNat : Int)), ((decide ((x35.toNat : Int) ≥ (97 : Int))) = true), ((↑k3 : Int) = ((k3 : Nat) : Int) ∧ k3 < s_0.length), ((.int .u8 ((List.getD s_0 k3 0).toNat : Int) : AV) = .int .u8 (x35.toNat : Int)), ((↑k3 : Int) = ((k3 : Nat) : Int) ∧ k3 < s_0.length), ((.int .u8 ((List.getD s_0 k3 0).toNat : Int) : AV) = .int .u8 (x35.toNat : Int)), ((decide ((x35.toNat : Int) ≥ (48 : Int))) = true), ((↑k3 : Int) = ((k3 : Nat) : Int) ∧ k3 < s_0.length), ((.int .u8 ((List.getD s_0 k3 0).toNat : Int) : AV) = .int .u8 (x35.toNat : Int)), ((decide ((x35.toNat : Int) ≤ (57 : Int))) = true), ((!(decide ((x35.toNat : Int) ≤ (122 : Int)))) = false), (false = false), (IntKind.min .i64 ≤ ((↑k3 : Int) + 1) ∧ ((↑k3 : Int) + 1) ≤ IntKind.max .i64)]) (by kernel_rfl) (by kernel_rfl) ⟨(decide_eq_true c34), ⟨rfl, get_lt h36⟩, (getD_u8 h36), (decide_eq_true c37), ⟨rfl, get_lt h36⟩, (getD_u8 h36), ⟨rfl, get_lt h36⟩, (getD_u8 h36), (decide_eq_true c38), ⟨rfl, get_lt h36⟩, (getD_u8 h36), (decide_eq_true c39), (not_f (decide_eq_true c40)), rfl, ok1 h41⟩
theorem tollwayref01_Name_L3_1 (s_0 : (List UInt8)) (k3 : Nat) (c34 : (↑k3 : Int) < (↑s_0.length : Int)) (x35 : UInt8) (h36 : s_0[k3]? = some x35) (c37 : (x35.toNat : Int) ≥ (97 : Int)) (c38 : (x35.toNat : Int) ≥ (48 : Int)) (c39 : (x35.toNat : Int) ≤ (57 : Int)) (c40 : ¬ ((x35.toNat : Int) ≤ (122 : Int))) (c42 : (↑k3 : Int) = (0 : Int)) : Does Try.prog G0 0 (bodyAt Try.prog 51 [1, 1, 0, 1, 0, 0]) (tollwayref01_Name_L3_H s_0 k3) .ret (S 56 [(2, .bool false)] []) :=
  Does.of_viewM 0 400 (cs 3 ((.op none .a) :: (.br true) :: (cs 2 ((.op none (.i k3)) :: (.tr (.eqt (.t 22) (.int .u8 (x35.toNat : Int)))) :: (.op none .a) :: (.op none .c) :: (.op (some true) .c) :: (.op none .c) :: (.op none (.i k3)) :: (.tr (.eqt (.t 27) (.int .u8 (x35.toNat : Int)))) :: (.op none .a) :: (cs 4 ((.op none (.i k3)) :: (.tr (.eqt (.t 32) (.int .u8 (x35.toNat : Int)))) :: (.op none .a) :: (.op none .c) :: (.op (some true) .c) :: (.op none .c) :: (.op none (.i k3)) :: (.tr (.eqt (.t 37) (.int .u8 (x35.toNat : Int)))) :: (.op none .a) :: (cs 2 ((.op (some true) .c) :: (cs 8 ((.op (some true) .c) :: (.op none .a) :: (.op none .c) :: (.op (some true) .c) :: (cs 3 [.br true, .op none .c]))))))))))) [] (ps := [((decide ((↑k3 : Int) < (↑s_0.length : Int))) = true), ((↑k3 : Int) = ((k3 : Nat) : Int) ∧ k3 < s_0.length), ((.int .u8 ((List.getD s_0 k3 0).toNat : Int) : AV) = .int .u8 (x35.toNat : Int)), ((decide ((x35.toNat : Int) ≥ (97 : Int))) = true), ((↑k3 : Int) = ((k3 : Nat) : Int) ∧ k3 < s_0.length), ((.int .u8 ((List.getD s_0 k3 0).toNat : Int) : AV) = .int .u8 (x35.toNat : Int)), ((↑k3 : Int) = ((k3 : Nat) : Int) ∧ k3 < s_0.length), ((.int .u8 ((List.getD s_0 k3 0).toNat : Int) : AV) = .int .u8 (x35.toNat : Int)), ((decide ((x35.toNat : Int) ≥ (48 : Int))) = true), ((↑k3 : Int) = ((k3 : Nat) : Int) ∧ k3 < s_0.length), ((.int .u8 ((List.getD s_0 k3 0).toNat : Int) : AV) = .int .u8 (x35.toNat : Int)), ((decide ((x35.toNat : Int) ≤ (57 : Int))) = true), ((!(decide ((x35.toNat : Int) ≤ (122 : Int)))) = true), (((↑k3 : Int) == (0 : Int)) = true), (true = true)]) (by kernel_rfl) (by kernel_rfl) ⟨(decide_eq_true c34), ⟨rfl, get_lt h36⟩, (getD_u8 h36), (decide_eq_true c37), ⟨rfl, get_lt h36⟩, (getD_u8 h36), ⟨rfl, get_lt h36⟩, (getD_u8 h36), (decide_eq_true c38), ⟨rfl, get_lt h36⟩, (getD_u8 h36), (decide_eq_true c39), (not_t (decide_eq_false c40)), (beq_t c42), ok1 rfl⟩
theorem tollwayref01_Name_L3_2 (s_0 : (List UInt8)) (k3 : Nat) (c34 : (↑k3 : Int) < (↑s_0.length : Int)) (x35 : UInt8) (h36 : s_0[k3]? = some x35) (c37 : (x35.toNat : Int) ≥ (97 : Int)) (c38 : (x35.toNat : Int) ≥ (48 : Int)) (c39 : (x35.toNat : Int) ≤ (57 : Int)) (c40 : ¬ ((x35.toNat : Int) ≤ (122 : Int))) (c42 : ¬ ((↑k3 : Int) = (0 : Int))) (h43 : InR .i64 ((↑k3 : Int) + 1)) : Does Try.prog G0 0 (bodyAt Try.prog 51 [1, 1, 0, 1, 0, 0]) (tollwayref01_Name_L3_H s_0 k3) .normal (S 56 [(0, .str s_0), (3, .int .i64 ((↑k3 : Int) + 1))] []) :=
  Does.of_viewM 0 400 (cs 3 ((.op none .a) :: (.br true) :: (cs 2 ((.op none (.i k3)) :: (.tr (.eqt (.t 22) (.int .u8 (x35.toNat : Int)))) :: (.op none .a) :: (.op none .c) :: (.op (some true) .c) :: (.op none .c) :: (.op none (.i k3)) :: (.tr (.eqt (.t 27) (.int .u8 (x35.toNat : Int)))) :: (.op none .a) :: (cs 4 ((.op none (.i k3)) :: (.tr (.eqt (.t 32) (.int .u8 (x35.toNat : Int)))) :: (.op none .a) :: (.op none .c) :: (.op (some true) .c) :: (.op none .c) :: (.op none (.i k3)) :: (.tr (.eqt (.t 37) (.int .u8 (x35.toNat : Int)))) :: (.op none .a) :: (cs 2 ((.op (some true) .c) :: (cs 8 ((.op (some true) .c) :: (.op none .a) :: (.op none .c) :: (.op (some false) .c) :: (cs 3 [.br false, .op none .c, .op none .w, .op none .c]))))))))))) [] (ps := [((decide ((↑k3 : Int) < (↑s_0.length : Int))) = true), ((↑k3 : Int) = ((k3 : Nat) : Int) ∧ k3 < s_0.length), ((.int .u8 ((List.getD s_0 k3 0).toNat : Int) : AV) = .int .u8 (x35.toNat : Int)), ((decide ((x35.toNat : Int) ≥ (97 : Int))) = true), ((↑k3 : Int) = ((k3 : Nat) : Int) ∧ k3 < s_0.length), ((.int .u8 ((List.getD s_0 k3 0).toNat : Int) : AV) = .int .u8 (x35.toNat : Int)), ((↑k3 : Int) = ((k3 : Nat) : Int) ∧ k3 < s_0.length), ((.int .u8 ((List.getD s_0 k3 0).toNat : Int) : AV) = .int .u8 (x35.toNat : Int)), ((decide ((x35.toNat : Int) ≥ (48 : Int))) = true), ((↑k3 : Int) = ((k3 : Nat) : Int) ∧ k3 < s_0.length), ((.int .u8 ((List.getD s_0 k3 0).toNat : Int) : AV) = .int .u8 (x35.toNat : Int)), ((decide ((x35.toNat : Int) ≤ (57 : Int))) = true), ((!(decide ((x35.toNat : Int) ≤ (122 : Int)))) = true), (((↑k3 : Int) == (0 : Int)) = false), (false = false), (IntKind.min .i64 ≤ ((↑k3 : Int) + 1) ∧ ((↑k3 : Int) + 1) ≤ IntKind.max .i64)]) (by kernel_rfl) (by kernel_rfl) ⟨(decide_eq_true c34), ⟨rfl, get_lt h36⟩, (getD_u8 h36), (decide_eq_true c37), ⟨rfl, get_lt h36⟩, (getD_u8 h36), ⟨rfl, get_lt h36⟩, (getD_u8 h36), (decide_eq_true c38), ⟨rfl, get_lt h36⟩, (getD_u8 h36), (decide_eq_true c39), (not_t (decide_eq_false c40)), (beq_f c42), rfl, ok1 h43⟩
theorem tollwayref01_Name_L3_3 (s_0 : (List UInt8)) (k3 : Nat) (c34 : (↑k3 : Int) < (↑s_0.length : Int)) (x35 : UInt8) (h36 : s_0[k3]? = some x35) (c37 : (x35.toNat : Int) ≥ (97 : Int)) (c38 : (x35.toNat : Int) ≥ (48 : Int)) (c39 : ¬ ((x35.toNat : Int) ≤ (57 : Int))) (c44 : (x35.toNat : Int) ≤ (122 : Int)) (h45 : InR .i64 ((↑k3 : Int) + 1)) : Does Try.prog G0 0 (bodyAt Try.prog 51 [1, 1, 0, 1, 0, 0]) (tollwayref01_Name_L3_H s_0 k3) .normal (S 56 [(0, .str s_0), (3, .int .i64 ((↑k3 : Int) + 1))] []) :=
  Does.of_viewM 0 400 (cs 3 ((.op none .a) :: (.br true) :: (cs 2 ((.op none (.i k3)) :: (.tr (.eqt (.t 22) (.int .u8 (x35.toNat : Int)))) :: (.op none .a) :: (.op none .c) :: (.op (some true) .c) :: (.op none .c) :: (.op none (.i k3)) :: (.tr (.eqt (.t 27) (.int .u8 (x35.toNat : Int)))) :: (.op none .a) :: (cs 4 ((.op none (.i k3)) :: (.tr (.eqt (.t 32) (.int .u8 (x35.toNat : Int)))) :: (.op none .a) :: (.op none .c) :: (.op (some true) .c) :: (.op none .c) :: (.op none (.i k3)) :: (.tr (.eqt (.t 37) (.int .u8 (x35.toNat : Int)))) :: (.op none .a) :: (cs 2 ((.op (some false) .c) :: (.op none .c) :: (.op none (.i k3)) :: (.tr (.eqt (.t 43) (.int .u8 (x35.toNat : Int)))) :: (.op none .a) :: (cs 5 ((.op (some false) .c) :: (cs 6 [.br false, .op none .c, .op none .w, .op none .c]))))))))))) [] (ps := [((decide ((↑k3 : Int) < (↑s_0.length : Int))) = true), ((↑k3 : Int) = ((k3 : Nat) : Int) ∧ k3 < s_0.length), ((.int .u8 ((List.getD s_0 k3 0).toNat : Int) : AV) = .int .u8 (x35.toNat : Int)), ((decide ((x35.toNat : Int) ≥ (97 : Int))) = true), ((↑k3 : Int) = ((k3 : Nat) : Int) ∧ k3 < s_0.length), ((.int .u8 ((List.getD s_0 k3 0).toNat : Int) : AV) = .int .u8 (x35.toNat : Int)), ((↑k3 : Int) = ((k3 : Nat) : Int) ∧ k3 < s_0.length), ((.int .u8 ((List.getD s_0 k3 0).toNat : Int) : AV) = .int .u8 (x35.toNat : Int)), ((decide ((x35.toNat : Int) ≥ (48 : Int))) = true), ((↑k3 : Int) = ((k3 : Nat) : Int) ∧ k3 < s_0.length), ((.int .u8 ((List.getD s_0 k3 0).toNat : Int) : AV) = .int .u8 (x35.toNat : Int)), ((decide ((x35.toNat : Int) ≤ (57 : Int))) = false), ((↑k3 : Int) = ((k3 : Nat) : Int) ∧ k3 < s_0.length), ((.int .u8 ((List.getD s_0 k3 0).toNat : Int) : AV) = .int .u8 (x35.toNat : Int)), ((!(decide ((x35.toNat : Int) ≤ (122 : Int)))) = false), (false = false), (IntKind.min .i64 ≤ ((↑k3 : Int) + 1) ∧ ((↑k3 : Int) + 1) ≤ IntKind.max .i64)]) (by kernel_rfl) (by kernel_rfl) ⟨(decide_eq_true c34), ⟨rfl, get_lt h36⟩, (getD_u8 h36), (decide_eq_true c37), ⟨rfl, get_lt h36⟩, (getD_u8 h36), ⟨rfl, get_lt h36⟩, (getD_u8 h36), (decide_eq_true c38), ⟨rfl, get_lt h36⟩, (getD_u8 h36), (decide_eq_false c39), ⟨rfl, get_lt h36⟩, (getD_u8 h36), (not_f (decide_eq_true c44)), rfl, ok1 h45⟩
theorem tollwayref01_Name_L3_4 (s_0 : (List UInt8)) (k3 : Nat) (c34 : (↑k3 : Int) < (↑s_0.length : Int)) (x35 : UInt8) (h36 : s_0[k3]? = some x35) (c37 : (x35.toNat : Int) ≥ (97 : Int)) (c38 : (x35.toNat : Int) ≥ (48 : Int)) (c39 : ¬ ((x35.toNat : Int) ≤ (57 : Int))) (c44 : ¬ ((x35.toNat : Int) ≤ (122 : Int))) (c46 : (↑k3 : Int) = (0 : Int)) : Does Try.prog G0 0 (bodyAt Try.prog 51 [1, 1, 0, 1, 0, 0]) (tollwayref01_Name_L3_H s_0 k3) .ret (S 56 [(2, .bool false)] []) :=
  Does.of_viewM 0 400 (cs 3 ((.op none .a) :: (.br true) :: (cs 2 ((.op none (.i k3)) :: (.tr (.eqt (.t 22) (.int .u8 (x35.toNat : Int)))) :: (.op none .a) :: (.op none .c) :: (.op (some true) .c) :: (.op none .c) :: (.op none (.i k3)) :: (.tr (.eqt (.t 27) (.int .u8 (x35.toNat : Int)))) :: (.op none .a) :: (cs 4 ((.op none (.i k3)) :: (.tr (.eqt (.t 32) (.int .u8 (x35.toNat : Int)))) :: (.op none .a) :: (.op none .c) :: (.op (some true) .c) :: (.op none .c) :: (.op none (.i k3)) :: (.tr (.eqt (.t 37) (.int .u8 (x35.toNat : Int)))) :: (.op none .a) :: (cs 2 ((.op (some false) .c) :: (.op none .c) :: (.op none (.i k3)) :: (.tr (.eqt (.t 43) (.int .u8 (x35.toNat : Int)))) :: (.op none .a) :: (cs 5 ((.op (some true) .c) :: (.op none .a) :: (.op none .c) :: (.op (some true) .c) :: (cs 3 [.br true, .op none .c]))))))))))) [] (ps := [((decide ((↑k3 : Int) < (↑s_0.length : Int))) = true), ((↑k3 : Int) = ((k3 : Nat) : Int) ∧ k3 < s_0.length), ((.int .u8 ((List.getD s_0 k3 0).toNat : Int) : AV) = .int .u8 (x35.toNat : Int)), ((decide ((x35.toNat : Int) ≥ (97 : Int))) = true), ((↑k3 : Int) = ((k3 : Nat) : Int) ∧ k3 < s_0.length), ((.int .u8 ((List.getD s_0 k3 0).toNat : Int) : AV) = .int .u8 (x35.toNat : Int)), ((↑k3 : Int) = ((k3 : Nat) : Int) ∧ k3 < s_0.length), ((.int .u8 ((List.getD s_0 k3 0).toNat : Int) : AV) = .int .u8 (x35.toNat : Int)), ((decide ((x35.toNat : Int) ≥ (48 : Int))) = true), ((↑k3 : Int) = ((k3 : Nat) : Int) ∧ k3 < s_0.length), ((.int .u8 ((List.getD s_0 k3 0).toNat : Int) : AV) = .int .u8 (x35.toNat : Int)), ((decide ((x35.toNat : Int) ≤ (57 : Int))) = false), ((↑k3 : Int) = ((k3 : Nat) : Int) ∧ k3 < s_0.length), ((.int .u8 ((List.getD s_0 k3 0).toNat : Int) : AV) = .int .u8 (x35.toNat : Int)), ((!(decide ((x35.toNat : Int) ≤ (122 : Int)))) = true), (((↑k3 : Int) == (0 : Int)) = true), (true = true)]) (by kernel_rfl) (by kernel_rfl) ⟨(decide_eq_true c34), ⟨rfl, get_lt h36⟩, (getD_u8 h36), (decide_eq_true c37), ⟨rfl, get_lt h36⟩, (getD_u8 h36), ⟨rfl, get_lt h36⟩, (getD_u8 h36), (decide_eq_true c38), ⟨rfl, get_lt h36⟩, (getD_u8 h36), (decide_eq_false c39), ⟨rfl, get_lt h36⟩, (getD_u8 h36), (not_t (decide_eq_false c44)), (beq_t c46), ok1 rfl⟩
theorem tollwayref01_Name_L3_5 (s_0 : (List UInt8)) (k3 : Nat) (c34 : (↑k3 : Int) < (↑s_0.length : Int)) (x35 : UInt8) (h36 : s_0[k3]? = some x35) (c37 : (x35.toNat : Int) ≥ (97 : Int)) (c38 : (x35.toNat : Int) ≥ (48 : Int)) (c39 : ¬ ((x35.toNat : Int) ≤ (57 : Int))) (c44 : ¬ ((x35.toNat : Int) ≤ (122 : Int))) (c46 : ¬ ((↑k3 : Int) = (0 : Int))) (c47 : (x35.toNat : Int) = (45 : Int)) (h48 : InR .i64 ((↑k3 : Int) + 1)) : Does Try.prog G0 0 (bodyAt Try.prog 51 [1, 1, 0, 1, 0, 0]) (tollwayref01_Name_L3_H s_0 k3) .normal (S 56 [(0, .str s_0), (3, .int .i64 ((↑k3 : Int) + 1))] []) :=
  Does.of_viewM 0 400 (cs 3 ((.op none .a) :: (.br true) :: (cs 2 ((.op none (.i k3)) :: (.tr (.eqt (.t 22) (.int .u8 (x35.toNat : Int)))) :: (.op none .a) :: (.op none .c) :: (.op (some true) .c) :: (.op none .c) :: (.op none (.i k3)) :: (.tr (.eqt (.t 27) (.int .u8 (x35.toNat : Int)))) :: (.op none .a) :: (cs 4 ((.op none (.i k3)) :: (.tr (.eqt (.t 32) (.int .u8 (x35.toNat : Int)))) :: (.op none .a) :: (.op none .c) :: (.op (some true) .c) :: (.op none .c) :: (.op none (.i k3)) :: (.tr (.eqt (.t 37) (.int .u8 (x35.toNat : Int)))) :: (.op none .a) :: (cs 2 ((.op (some false) .c) :: (.op none .c) :: (.op none (.i k3)) :: (.tr (.eqt (.t 43) (.int .u8 (x35.toNat : Int)))) :: (.op none .a) :: (cs 5 ((.op (some true) .c) :: (.op none .a) :: (.op none .c) :: (.op (some false) .c) :: (cs 3 [.br false, .op none .c, .op none .w, .op none .c]))))))))))) [] (ps := [((decide ((↑k3 : Int) < (↑s_0.length : Int))) = true), ((↑k3 : Int) = ((k3 : Nat) : Int) ∧ k3 < s_0.length), ((.int .u8 ((List.getD s_0 k3 0).toNat : Int) : AV) = .int .u8 (x35.toNat : Int)), ((decide ((x35.toNat : Int) ≥ (97 : Int))) = true), ((↑k3 : Int) = ((k3 : Nat) : Int) ∧ k3 < s_0.length), ((.int .u8 ((List.getD s_0 k3 0).toNat : Int) : AV) = .int .u8 (x35.toNat : Int)), ((↑k3 : Int) = ((k3 : Nat) : Int) ∧ k3 < s_0.length), ((.int .u8 ((List.getD s_0 k3 0).toNat : Int) : AV) = .int .u8 (x35.toNat : Int)), ((decide ((x35.toNat : Int) ≥ (48 : Int))) = true), ((↑k3 : Int) = ((k3 : Nat) : Int) ∧ k3 < s_0.length), ((.int .u8 ((List.getD s_0 k3 0).toNat : Int) : AV) = .int .u8 (x35.toNat : Int)), ((decide ((x35.toNat : Int) ≤ (57 : Int))) = false), ((↑k3 : Int) = ((k3 : Nat) : Int) ∧ k3 < s_0.length), ((.int .u8 ((List.getD s_0 k3 0).toNat : Int) : AV) = .int .u8 (x35.toNat : Int)), ((!(decide ((x35.toNat : Int) ≤ (122 : Int)))) = true), (((↑k3 : Int) == (0 : Int)) = false), ((!((x35.toNat : Int) == (45 : Int))) = false), (IntKind.min .i64 ≤ ((↑k3 : Int) + 1) ∧ ((↑k3 : Int) + 1) ≤ IntKind.max .i64)]) (by kernel_rfl) (by kernel_rfl) ⟨(decide_eq_true c34), ⟨rfl, get_lt h36⟩, (getD_u8 h36), (decide_eq_true c37), ⟨rfl, get_lt h36⟩, (getD_u8 h36), ⟨rfl, get_lt h36⟩, (getD_u8 h36), (decide_eq_true c38), ⟨rfl, get_lt h36⟩, (getD_u8 h36), (decide_eq_false c39), ⟨rfl, get_lt h36⟩, (getD_u8 h36), (not_t (decide_eq_false c44)), (beq_f c46), (not_f (beq_t c47)), ok1 h48⟩
theorem tollwayref01_Name_L3_6 (s_0 : (List UInt8)) (k3 : Nat) (c34 : (↑k3 : Int) < (↑s_0.length : Int)) (x35 : UInt8) (h36 : s_0[k3]? = some x35) (c37 : (x35.toNat : Int) ≥ (97 : Int)) (c38 : (x35.toNat : Int) ≥ (48 : Int)) (c39 : ¬ ((x35.toNat : Int) ≤ (57 : Int))) (c44 : ¬ ((x35.toNat : Int) ≤ (122 : Int))) (c46 : ¬ ((↑k3 : Int) = (0 : Int))) (c47 : ¬ ((x35.toNat : Int) = (45 : Int))) : Does Try.prog G0 0 (bodyAt Try.prog 51 [1, 1, 0, 1, 0, 0]) (tollwayref01_Name_L3_H s_0 k3) .ret (S 56 [(2, .bool false)] []) :=
  Does.of_viewM 0 400 (cs 3 ((.op none .a) :: (.br true) :: (cs 2 ((.op none (.i k3)) :: (.tr (.eqt (.t 22) (.int .u8 (x35.toNat : Int)))) :: (.op none .a) :: (.op none .c) :: (.op (some true) .c) :: (.op none .c) :: (.op none (.i k3)) :: (.tr (.eqt (.t 27) (.int .u8 (x35.toNat : Int)))) :: (.op none .a) :: (cs 4 ((.op none (.i k3)) :: (.tr (.eqt (.t 32) (.int .u8 (x35.toNat : Int)))) :: (.op none .a) :: (.op none .c) :: (.op (some true) .c) :: (.op none .c) :: (.op none (.i k3)) :: (.tr (.eqt (.t 37) (.int .u8 (x35.toNat : Int)))) :: (.op none .a) :: (cs 2 ((.op (some false) .c) :: (.op none .c) :: (.op none (.i k3)) :: (.tr (.eqt (.t 43) (.int .u8 (x35.toNat : Int)))) :: (.op none .a) :: (cs 5 ((.op (some true) .c) :: (.op none .a) :: (.op none .c) :: (.op (some false) .c) :: (cs 3 [.br true, .op none .c]))))))))))) [] (ps := [((decide ((↑k3 : Int) < (↑s_0.length : Int))) = true), ((↑k3 : Int) = ((k3 : Nat) : Int) ∧ k3 < s_0.length), ((.int .u8 ((List.getD s_0 k3 0).toNat : Int) : AV) = .int .u8 (x35.toNat : Int)), ((decide ((x35.toNat : Int) ≥ (97 : Int))) = true), ((↑k3 : Int) = ((k3 : Nat) : Int) ∧ k3 < s_0.length), ((.int .u8 ((List.getD s_0 k3 0).toNat : Int) : AV) = .int .u8 (x35.toNat : Int)), ((↑k3 : Int) = ((k3 : Nat) : Int) ∧ k3 < s_0.length), ((.int .u8 ((List.getD s_0 k3 0).toNat : Int) : AV) = .int .u8 (x35.toNat : Int)), ((decide ((x35.toNat : Int) ≥ (48 : Int))) = true), ((↑k3 : Int) = ((k3 : Nat) : Int) ∧ k3 < s_0.length), ((.int .u8 ((List.getD s_0 k3 0).toNat : Int) : AV) = .int .u8 (x35.toNat : Int)), ((decide ((x35.toNat : Int) ≤ (57 : Int))) = false), ((↑k3 : Int) = ((k3 : Nat) : Int) ∧ k3 < s_0.length), ((.int .u8 ((List.getD s_0 k3 0).toNat : Int) : AV) = .int .u8 (x35.toNat : Int)), ((!(decide ((x35.toNat : Int) ≤ (122 : Int)))) = true), (((↑k3 : Int) == (0 : Int)) = false), ((!((x35.toNat : Int) == (45 : Int))) = true)]) (by kernel_rfl) (by kernel_rfl) ⟨(decide_eq_true c34), ⟨rfl, get_lt h36⟩, (getD_u8 h36), (decide_eq_true c37), ⟨rfl, get_lt h36⟩, (getD_u8 h36), ⟨rfl, get_lt h36⟩, (getD_u8 h36), (decide_eq_true c38), ⟨rfl, get_lt h36⟩, (getD_u8 h36), (decide_eq_false c39), ⟨rfl, get_lt h36⟩, (getD_u8 h36), (not_t (decide_eq_false c44)), (beq_f c46), ok1 (not_t (beq_f c47))⟩
theorem tollwayref01_Name_L3_7 (s_0 : (List UInt8)) (k3 : Nat) (c34 : (↑k3 : Int) < (↑s_0.length : Int)) (x35 : UInt8) (h36 : s_0[k3]? = some x35) (c37 : (x35.toNat : Int) ≥ (97 : Int)) (c38 : ¬ ((x35.toNat : Int) ≥ (48 : Int))) (c49 : (x35.toNat : Int) ≤ (122 : Int)) (h50 : InR .i64 ((↑k3 : Int) + 1)) : Does Try.prog G0 0 (bodyAt Try.prog 51 [1, 1, 0, 1, 0, 0]) (tollwayref01_Name_L3_H s_0 k3) .normal (S 56 [(0, .str s_0), (3, .int .i64 ((↑k3 : Int) + 1))] []) :=
  Does.of_viewM 0 400 (cs 3 ((.op none .a) :: (.br true) :: (cs 2 ((.op none (.i k3)) :: (.tr (.eqt (.t 22) (.int .u8 (x35.toNat : Int)))) :: (.op none .a) :: (.op none .c) :: (.op (some true) .c) :: (.op none .c) :: (.op none (.i k3)) :: (.tr (.eqt (.t 27) (.int .u8 (x35.toNat : Int)))) :: (.op none .a) :: (cs 4 ((.op none (.i k3)) :: (.tr (.eqt (.t 32) (.int .u8 (x35.toNat : Int)))) :: (.op none .a) :: (.op none .c) :: (.op (some false) .c) :: (cs 7 ((.op none (.i k3)) :: (.tr (.eqt (.t 43) (.int .u8 (x35.toNat : Int)))) :: (.op none .a) :: (cs 5 ((.op (some false) .c) :: (cs 6 [.br false, .op none .c, .op none .w, .op none .c]))))))))))) [] (ps := [((decide ((↑k3 : Int) < (↑s_0.length : Int))) = true), ((↑k3 : Int) = ((k3 : Nat) : Int) ∧ k3 < s_0.length), ((.int .u8 ((List.getD s_0 k3 0).toNat : Int) : AV) = .int .u8 (x35.toNat : Int)), ((decide ((x35.toNat : Int) ≥ (97 : Int))) = true), ((↑k3 : Int) = ((k3 : Nat) : Int) ∧ k3 < s_0.length), ((.int .u8 ((List.getD s_0 k3 0).toNat : Int) : AV) = .int .u8 (x35.toNat : Int)), ((↑k3 : Int) = ((k3 : Nat) : Int) ∧ k3 < s_0.length), ((.int .u8 ((List.getD s_0 k3 0).toNat : Int) : AV) = .int .u8 (x35.toNat : Int)), ((decide ((x35.toNat : Int) ≥ (48 : Int))) = false), ((↑k3 : Int) = ((k3 : Nat) : Int) ∧ k3 < s_0.length), ((.int .u8 ((List.getD s_0 k3 0).toNat : Int) : AV) = .int .u8 (x35.toNat : Int)), ((!(decide ((x35.toNat : Int) ≤ (122 : Int)))) = false), (false = false), (IntKind.min .i64 ≤ ((↑k3 : Int) + 1) ∧ ((↑k3 : Int) + 1) ≤ IntKind.max .i64)]) (by kernel_rfl) (by kernel_rfl) ⟨(decide_eq_true c34), ⟨rfl, get_lt h36⟩, (getD_u8 h36), (decide_eq_true c37), ⟨rfl, get_lt h36⟩, (getD_u8 h36), ⟨rfl, get_lt h36⟩, (getD_u8 h36), (decide_eq_false c38), ⟨rfl, get_lt h36⟩, (getD_u8 h36), (not_f (decide_eq_true c49)), rfl, ok1 h50⟩
theorem tollwayref01_Name_L3_8 (s_0 : (List UInt8)) (k3 : Nat) (c34 : (↑k3 : Int) < (↑s_0.length : Int)) (x35 : UInt8) (h36 : s_0[k3]? = some x35) (c37 : (x35.toNat : Int) ≥ (97 : Int)) (c38 : ¬ ((x35.toNat : Int) ≥ (48 : Int))) (c49 : ¬ ((x35.toNat : Int) ≤ (122 : Int))) (c51 : (↑k3 : Int) = (0 : Int)) : Does Try.prog G0 0 (bodyAt Try.prog 51 [1, 1, 0, 1, 0, 0]) (tollwayref01_Name_L3_H s_0 k3) .ret (S 56 [(2, .bool false)] []) :=
  Does.of_viewM 0 400 (cs 3 ((.op none .a) :: (.br true) :: (cs 2 ((.op none (.i k3)) :: (.tr (.eqt (.t 22) (.int .u8 (x35.toNat : Int)))) :: (.op none .a) :: (.op none .c) :: (.op (some true) .c) :: (.op none .c) :: (.op none (.i k3)) :: (.tr (.eqt (.t 27) (.int .u8 (x35.toNat : Int)))) :: (.op none .a) :: (cs 4 ((.op none (.i k3)) :: (.tr (.eqt (.t 32) (.int .u8 (x35.toNat : Int)))) :: (.op none .a) :: (.op none .c) :: (.op (some false) .c) :: (cs 7 ((.op none (.i k3)) :: (.tr (.eqt (.t 43) (.int .u8 (x35.toNat : Int)))) :: (.op none .a) :: (cs 5 ((.op (some true) .c) :: (.op none .a) :: (.op none .c) :: (.op (some true) .c) :: (cs 3 [.br true, .op none .c]))))))))))) [] (ps := [((decide ((↑k3 : Int) < (↑s_0.length : Int))) = true), ((↑k3 : Int) = ((k3 : Nat) : Int) ∧ k3 < s_0.length), ((.int .u8 ((List.getD s_0 k3 0).toNat : Int) : AV) = .int .u8 (x35.toNat : Int)), ((decide ((x35.toNat : Int) ≥ (97 : Int))) = true), ((↑k3 : Int) = ((k3 : Nat) : Int) ∧ k3 < s_0.length), ((.int .u8 ((List.getD s_0 k3 0).toNat : Int) : AV) = .int .u8 (x35.toNat : Int)), ((↑k3 : Int) = ((k3 : Nat) : Int) ∧ k3 < s_0.length), ((.int .u8 ((List.getD s_0 k3 0).toNat : Int) : AV) = .int .u8 (x35.toNat : Int)), ((decide ((x35.toNat : Int) ≥ (48 : Int))) = false), ((↑k3 : Int) = ((k3 : Nat) : Int) ∧ k3 < s_0.length), ((.int .u8 ((List.getD s_0 k3 0).toNat : Int) : AV) = .int .u8 (x35.toNat : Int)), ((!(decide ((x35.toNat : Int) ≤ (122 : Int)))) = true), (((↑k3 : Int) == (0 : Int)) = true), (true = true)]) (by kernel_rfl) (by kernel_rfl) ⟨(decide_eq_true c34), ⟨rfl, get_lt h36⟩, (getD_u8 h36), (decide_eq_true c37), ⟨rfl, get_lt h36⟩, (getD_u8 h36), ⟨rfl, get_lt h36⟩, (getD_u8 h36), (decide_eq_false c38), ⟨rfl, get_lt h36⟩, (getD_u8 h36), (not_t (decide_eq_false c49)), (beq_t c51), ok1 rfl⟩
theorem tollwayref01_Name_L3_9 (s_0 : (List UInt8)) (k3 : Nat) (c34 : (↑k3 : Int) < (↑s_0.length : Int)) (x35 : UInt8) (h36 : s_0[k3]? = some x35) (c37 : (x35.toNat : Int) ≥ (97 : Int)) (c38 : ¬ ((x35.toNat : Int) ≥ (48 : Int))) (c49 : ¬ ((x35.toNat : Int) ≤ (122 : Int))) (c51 : ¬ ((↑k3 : Int) = (0 : Int))) (c52 : (x35.toNat : Int) = (45 : Int)) (h53 : InR .i64 ((↑k3 : Int) + 1)) : Does Try.prog G0 0 (bodyAt Try.prog 51 [1, 1, 0, 1, 0, 0]) (tollwayref01_Name_L3_H s_0 k3) .normal (S 56 [(0, .str s_0), (3, .int .i64 ((↑k3 : Int) + 1))] []) :=
  Does.of_viewM 0 400 (cs 3 ((.op none .a) :: (.br true) :: (cs 2 ((.op none (.i k3)) :: (.tr (.eqt (.t 22) (.int .u8 (x35.toNat : Int)))) :: (.op none .a) :: (.op none .c) :: (.op (some true) .c) :: (.op none .c) :: (.op none (.i k3)) :: (.tr (.eqt (.t 27) (.int .u8 (x35.toNat : Int)))) :: (.op none .a) :: (cs 4 ((.op none (.i k3)) :: (.tr (.eqt (.t 32) (.int .u8 (x35.toNat : Int)))) :: (.op none .a) :: (.op none .c) :: (.op (some false) .c) :: (cs 7 ((.op none (.i k3)) :: (.tr (.eqt (.t 43) (.int .u8 (x35.toNat : Int)))) :: (.op none .a) :: (cs 5 ((.op (some true) .c) :: (.op none .a) :: (.op none .c) :: (.op (some false) .c) :: (cs 3 [.br false, .op none .c, .op none .w, .op none .c]))))))))))) [] (ps := [((decide ((↑k3 : Int) < (↑s_0.length : Int))) = true), ((↑k3 : Int) = ((k3 : Nat) : Int) ∧ k3 < s_0.length), ((.int .u8 ((List.getD s_0 k3 0).toNat : Int) : AV) = .int .u8 (x35.toNat : Int)), ((decide ((x35.toNat : Int) ≥ (97 : Int))) = true), ((↑k3 : Int) = ((k3 : Nat) : Int) ∧ k3 < s_0.length), ((.int .u8 ((List.getD s_0 k3 0).toNat : Int) : AV) = .int .u8 (x35.toNat : Int)), ((↑k3 : Int) = ((k3 : Nat) : Int) ∧ k3 < s_0.length), ((.int .u8 ((List.getD s_0 k3 0).toNat : Int) : AV) = .int .u8 (x35.toNat : Int)), ((decide ((x35.toNat : Int) ≥ (48 : Int))) = false), ((↑k3 : Int) = ((k3 : Nat) : Int) ∧ k3 < s_0.length), ((.int .u8 ((List.getD s_0 k3 0).toNat : Int) : AV) = .int .u8 (x35.toNat : Int)), ((!(decide ((x35.toNat : Int) ≤ (122 : Int)))) = true), (((↑k3 : Int) == (0 : Int)) = false), ((!((x35.toNat : Int) == (45 : Int))) = false), (IntKind.min .i64 ≤ ((↑k3 : Int) + 1) ∧ ((↑k3 : Int) + 1) ≤ IntKind.max .i64)]) (by kernel_rfl) (by kernel_rfl) ⟨(decide_eq_true c34), ⟨rfl, get_lt h36⟩, (getD_u8 h36), (decide_eq_true c37), ⟨rfl, get_lt h36⟩, (getD_u8 h36), ⟨rfl, get_lt h36⟩, (getD_u8 h36), (decide_eq_false c38), ⟨rfl, get_lt h36⟩, (getD_u8 h36), (not_t (decide_eq_false c49)), (beq_f c51), (not_f (beq_t c52)), ok1 h53⟩
theorem tollwayref01_Name_L3_10 (s_0 : (List UInt8)) (k3 : Nat) (c34 : (↑k3 : Int) < (↑s_0.length : Int)) (x35 : UInt8) (h36 : s_0[k3]? = some x35) (c37 : (x35.toNat : Int) ≥ (97 : Int)) (c38 : ¬ ((x35.toNat : Int) ≥ (48 : Int))) (c49 : ¬ ((x35.toNat : Int) ≤ (122 : Int))) (c51 : ¬ ((↑k3 : Int) = (0 : Int))) (c52 : ¬ ((x35.toNat : Int) = (45 : Int))) : Does Try.prog G0 0 (bodyAt Try.prog 51 [1, 1, 0, 1, 0, 0]) (tollwayref01_Name_L3_H s_0 k3) .ret (S 56 [(2, .bool false)] []) :=
  Does.of_viewM 0 400 (cs 3 ((.op none .a) :: (.br true) :: (cs 2 ((.op none (.i k3)) :: (.tr (.eqt (.t 22) (.int .u8 (x35.toNat : Int)))) :: (.op none .a) :: (.op none .c) :: (.op (some true) .c) :: (.op none .c) :: (.op none (.i k3)) :: (.tr (.eqt (.t 27) (.int .u8 (x35.toNat : Int)))) :: (.op none .a) :: (cs 4 ((.op none (.i k3)) :: (.tr (.eqt (.t 32) (.int .u8 (x35.toNat : Int)))) :: (.op none .a) :: (.op none .c) :: (.op (some false) .c) :: (cs 7 ((.op none (.i k3)) :: (.tr (.eqt (.t 43) (.int .u8 (x35.toNat : Int)))) :: (.op none .a) :: (cs 5 ((.op (some true) .c) :: (.op none .a) :: (.op none .c) :: (.op (some false) .c) :: (cs 3 [.br true, .op none .c]))))))))))) [] (ps := [((decide ((↑k3 : Int) < (↑s_0.length : Int))) = true), ((↑k3 : Int) = ((k3 : Nat) : Int) ∧ k3 < s_0.length), ((.int .u8 ((List.getD s_0 k3 0).toNat : Int) : AV) = .int .u8 (x35.toNat : Int)), ((decide ((x35.toNat : Int) ≥ (97 : Int))) = true), ((↑k3 : Int) = ((k3 : Nat) : Int) ∧ k3 < s_0.length), ((.int .u8 ((List.getD s_0 k3 0).toNat : Int) : AV) = .int .u8 (x35.toNat : Int)), ((↑k3 : Int) = ((k3 : Nat) : Int) ∧ k3 < s_0.length), ((.int .u8 ((List.getD s_0 k3 0).toNat : Int) : AV) = .int .u8 (x35.toNat : Int)), ((decide ((x35.toNat : Int) ≥ (48 : Int))) = false), ((↑k3 : Int) = ((k3 : Nat) : Int) ∧ k3 < s_0.length), ((.int .u8 ((List.getD s_0 k3 0).toNat : Int) : AV) = .int .u8 (x35.toNat : Int)), ((!(decide ((x35.toNat : Int) ≤ (122 : Int)))) = true), (((↑k3 : Int) == (0 : Int)) = false), ((!((x35.toNat : Int) == (45 : Int))) = true)]) (by kernel_rfl) (by kernel_rfl) ⟨(decide_eq_true c34), ⟨rfl, get_lt h36⟩, (getD_u8 h36), (decide_eq_true c37), ⟨rfl, get_lt h36⟩, (getD_u8 h36), ⟨rfl, get_lt h36⟩, (getD_u8 h36), (decide_eq_false c38), ⟨rfl, get_lt h36⟩, (getD_u8 h36), (not_t (decide_eq_false c49)), (beq_f c51), ok1 (not_t (beq_f c52))⟩
theorem tollwayref01_Name_L3_11 (s_0 : (List UInt8)) (k3 : Nat) (c34 : (↑k3 : Int) < (↑s_0.length : Int)) (x35 : UInt8) (h36 : s_0[k3]? = some x35) (c37 : ¬ ((x35.toNat : Int) ≥ (97 : Int))) (c54 : (x35.toNat : Int) ≥ (48 : Int)) (c55 : (x35.toNat : Int) ≤ (57 : Int)) (c56 : (↑k3 : Int) = (0 : Int)) : Does Try.prog G0 0 (bodyAt Try.prog 51 [1, 1, 0, 1, 0, 0]) (tollwayref01_Name_L3_H s_0 k3) .ret (S 56 [(2, .bool false)] []) :=
  Does.of_viewM 0 400 (cs 3 ((.op none .a) :: (.br true) :: (cs 2 ((.op none (.i k3)) :: (.tr (.eqt (.t 22) (.int .u8 (x35.toNat : Int)))) :: (.op none .a) :: (.op none .c) :: (.op (some false) .c) :: (cs 7 ((.op none (.i k3)) :: (.tr (.eqt (.t 32) (.int .u8 (x35.toNat : Int)))) :: (.op none .a) :: (.op none .c) :: (.op (some true) .c) :: (.op none .c) :: (.op none (.i k3)) :: (.tr (.eqt (.t 37) (.int .u8 (x35.toNat : Int)))) :: (.op none .a) :: (cs 2 ((.op (some true) .c) :: (cs 9 ((.op none .a) :: (.op none .c) :: (.op (some true) .c) :: (cs 3 [.br true, .op none .c]))))))))))) [] (ps := [((decide ((↑k3 : Int) < (↑s_0.length : Int))) = true), ((↑k3 : Int) = ((k3 : Nat) : Int) ∧ k3 < s_0.length), ((.int .u8 ((List.getD s_0 k3 0).toNat : Int) : AV) = .int .u8 (x35.toNat : Int)), ((decide ((x35.toNat : Int) ≥ (97 : Int))) = false), ((↑k3 : Int) = ((k3 : Nat) : Int) ∧ k3 < s_0.length), ((.int .u8 ((List.getD s_0 k3 0).toNat : Int) : AV) = .int .u8 (x35.toNat : Int)), ((decide ((x35.toNat : Int) ≥ (48 : Int))) = true), ((↑k3 : Int) = ((k3 : Nat) : Int) ∧ k3 < s_0.length), ((.int .u8 ((List.getD s_0 k3 0).toNat : Int) : AV) = .int .u8 (x35.toNat : Int)), ((decide ((x35.toNat : Int) ≤ (57 : Int))) = true), (((↑k3 : Int) == (0 : Int)) = true), (true = true)]) (by kernel_rfl) (by kernel_rfl) ⟨(decide_eq_true c34), ⟨rfl, get_lt h36⟩, (getD_u8 h36), (decide_eq_false c37), ⟨rfl, get_lt h36⟩, (getD_u8 h36), (decide_eq_true c54), ⟨rfl, get_lt h36⟩, (getD_u8 h36), (decide_eq_true c55), (beq_t c56), ok1 rfl⟩
theorem tollwayref01_Name_L3_12 (s_0 : (List UInt8)) (k3 : Nat) (c34 : (↑k3 : Int) < (↑s_0.length : Int)) (x35 : UInt8) (h36 : s_0[k3]? = some x35) (c37 : ¬ ((x35.toNat : Int) ≥ (97 : Int))) (c54 : (x35.toNat : Int) ≥ (48 : Int)) (c55 : (x35.toNat : Int) ≤ (57 : Int)) (c56 : ¬ ((↑k3 : Int) = (0 : Int))) (h57 : InR .i64 ((↑k3 : Int) + 1)) : Does Try.prog G0 0 (bodyAt Try.prog 51 [1, 1, 0, 1, 0, 0]) (tollwayref01_Name_L3_H s_0 k3) .normal (S 56 [(0, .str s_0), (3, .int .i64 ((↑k3 : Int) + 1))] []) :=
  Does.of_viewM 0 400 (cs 3 ((.op none .a) :: (.br true) :: (cs 2 ((.op none (.i k3)) :: (.tr (.eqt (.t 22) (.int .u8 (x35.toNat : Int)))) :: (.op none .a) :: (.op none .c) :: (.op (some false) .c) :: (cs 7 ((.op none (.i k3)) :: (.tr (.eqt (.t 32) (.int .u8 (x35.toNat : Int)))) :: (.op none .a) :: (.op none .c) :: (.op (some true) .c) :: (.op none .c) :: (.op none (.i k3)) :: (.tr (.eqt (.t 37) (.int .u8 (x35.toNat : Int)))) :: (.op none .a) :: (cs 2 ((.op (some true) .c) :: (cs 9 ((.op none .a) :: (.op none .c) :: (.op (some false) .c) :: (cs 3 [.br false, .op none .c, .op none .w, .op none .c]))))))))))) [] (ps := [((decide ((↑k3 : Int) < (↑s_0.length : Int))) = true), ((↑k3 : Int) = ((k3 : Nat) : Int) ∧ k3 < s_0.length), ((.int .u8 ((List.getD s_0 k3 0).toNat : Int) : AV) = .int .u8 (x35.toNat : Int)), ((decide ((x35.toNat : Int) ≥ (97 : Int))) = false), ((↑k3 : Int) = ((k3 : Nat) : Int) ∧ k3 < s_0.length), ((.int .u8 ((List.getD s_0 k3 0).toNat : Int) : AV) = .int .u8 (x35.toNat : Int)), ((decide ((x35.toNat : Int) ≥ (48 : Int))) = true), ((↑k3 : Int) = ((k3 : Nat) : Int) ∧ k3 < s_0.length), ((.int .u8 ((List.getD s_0 k3 0).toNat : Int) : AV) = .int .u8 (x35.toNat : Int)), ((decide ((x35.toNat : Int) ≤ (57 : Int))) = true), (((↑k3 : Int) == (0 : Int)) = false), (false = false), (IntKind.min .i64 ≤ ((↑k3 : Int) + 1) ∧ ((↑k3 : Int) + 1) ≤ IntKind.max .i64)]) (by kernel_rfl) (by kernel_rfl) ⟨(decide_eq_true c34), ⟨rfl, get_lt h36⟩, (getD_u8 h36), (decide_eq_false c37), ⟨rfl, get_lt h36⟩, (getD_u8 h36), (decide_eq_true c54), ⟨rfl, get_lt h36⟩, (getD_u8 h36), (decide_eq_true c55), (beq_f c56), rfl, ok1 h57⟩
theorem tollwayref01_Name_L3_13 (s_0 : (List UInt8)) (k3 : Nat) (c34 : (↑k3 : Int) < (↑s_0.length : Int)) (x35 : UInt8) (h36 : s_0[k3]? = some x35) (c37 : ¬ ((x35.toNat : Int) ≥ (97 : Int))) (c54 : (x35.toNat : Int) ≥ (48 : Int)) (c55 : ¬ ((x35.toNat : Int) ≤ (57 : Int))) (c58 : (↑k3 : Int) = (0 : Int)) : Does Try.prog G0 0 (bodyAt Try.prog 51 [1, 1, 0, 1, 0, 0]) (tollwayref01_Name_L3_H s_0 k3) .ret (S 56 [(2, .bool false)] []) :=
  Does.of_viewM 0 400 (cs 3 ((.op none .a) :: (.br true) :: (cs 2 ((.op none (.i k3)) :: (.tr (.eqt (.t 22) (.int .u8 (x35.toNat : Int)))) :: (.op none .a) :: (.op none .c) :: (.op (some false) .c) :: (cs 7 ((.op none (.i k3)) :: (.tr (.eqt (.t 32) (.int .u8 (x35.toNat : Int)))) :: (.op none .a) :: (.op none .c) :: (.op (some true) .c) :: (.op none .c) :: (.op none (.i k3)) :: (.tr (.eqt (.t 37) (.int .u8 (x35.toNat : Int)))) :: (.op none .a) :: (cs 2 ((.op (some false) .c) :: (.op none .c) :: (.op none (.i k3)) :: (.tr (.eqt (.t 43) (.int .u8 (x35.toNat : Int)))) :: (.op none .a) :: (cs 6 ((.op none .a) :: (.op none .c) :: (.op (some true) .c) :: (cs 3 [.br true, .op none .c]))))))))))) [] (ps := [((decide ((↑k3 : Int) < (↑s_0.length : Int))) = true), ((↑k3 : Int) = ((k3 : Nat) : Int) ∧ k3 < s_0.length), ((.int .u8 ((List.getD s_0 k3 0).toNat : Int) : AV) = .int .u8 (x35.toNat : Int)), ((decide ((x35.toNat : Int) ≥ (97 : Int))) = false), ((↑k3 : Int) = ((k3 : Nat) : Int) ∧ k3 < s_0.length), ((.int .u8 ((List.getD s_0 k3 0).toNat : Int) : AV) = .int .u8 (x35.toNat : Int)), ((decide ((x35.toNat : Int) ≥ (48 : Int))) = true), ((↑k3 : Int) = ((k3 : Nat) : Int) ∧ k3 < s_0.length), ((.int .u8 ((List.getD s_0 k3 0).toNat : Int) : AV) = .int .u8 (x35.toNat : Int)), ((decide ((x35.toNat : Int) ≤ (57 : Int))) = false), ((↑k3 : Int) = ((k3 : Nat) : Int) ∧ k3 < s_0.length), ((.int .u8 ((List.getD s_0 k3 0).toNat : Int) : AV) = .int .u8 (x35.toNat : Int)), (((↑k3 : Int) == (0 : Int)) = true), (true = true)]) (by kernel_rfl) (by kernel_rfl) ⟨(decide_eq_true c34), ⟨rfl, get_lt h36⟩, (getD_u8 h36), (decide_eq_false c37), ⟨rfl, get_lt h36⟩, (getD_u8 h36), (decide_eq_true c54), ⟨rfl, get_lt h36⟩, (getD_u8 h36), (decide_eq_false c55), ⟨rfl, get_lt h36⟩, (getD_u8 h36), (beq_t c58), ok1 rfl⟩
theorem tollwayref01_Name_L3_14 (s_0 : (List UInt8)) (k3 : Nat) (c34 : (↑k3 : Int) < (↑s_0.length : Int)) (x35 : UInt8) (h36 : s_0[k3]? = some x35) (c37 : ¬ ((x35.toNat : Int) ≥ (97 : Int))) (c54 : (x35.toNat : Int) ≥ (48 : Int)) (c55 : ¬ ((x35.toNat : Int) ≤ (57 : Int))) (c58 : ¬ ((↑k3 : Int) = (0 : Int))) (c59 : (x35.toNat : Int) = (45 : Int)) (h60 : InR .i64 ((↑k3 : Int) + 1)) : Does Try.prog G0 0 (bodyAt Try.prog 51 [1, 1, 0, 1, 0, 0]) (tollwayref01_Name_L3_H s_0 k3) .normal (S 56 [(0, .str s_0), (3, .int .i64 ((↑k3 : Int) + 1))] []) :=
  Does.of_viewM 0 400 (cs 3 ((.op none .a) :: (.br true) :: (cs 2 ((.op none (.i k3)) :: (.tr (.eqt (.t 22) (.int .u8 (x35.toNat : Int)))) :: (.op none .a) :: (.op none .c) :: (.op (some false) .c) :: (cs 7 ((.op none (.i k3)) :: (.tr (.eqt (.t 32) (.int .u8 (x35.toNat : Int)))) :: (.op none .a) :: (.op none .c) :: (.op (some true) .c) :: (.op none .c) :: (.op none (.i k3)) :: (.tr (.eqt (.t 37) (.int .u8 (x35.toNat : Int)))) :: (.op none .a) :: (cs 2 ((.op (some false) .c) :: (.op none .c) :: (.op none (.i k3)) :: (.tr (.eqt (.t 43) (.int .u8 (x35.toNat : Int)))) :: (.op none .a) :: (cs 6 ((.op none .a) :: (.op none .c) :: (.op (some false) .c) :: (cs 3 [.br false, .op none .c, .op none .w, .op none .c]))))))))))) [] (ps := [((decide ((↑k3 : Int) < (↑s_0.length : Int))) = true), ((↑k3 : Int) = ((k3 : Nat) : Int) ∧ k3 < s_0.length), ((.int .u8 ((List.getD s_0 k3 0).toNat : Int) : AV) = .int .u8 (x35.toNat : Int)), ((decide ((x35.toNat : Int) ≥ (97 : Int))) = false), ((↑k3 : Int) = ((k3 : Nat) : Int) ∧ k3 < s_0.length), ((.int .u8 ((List.getD s_0 k3 0).toNat : Int) : AV) = .int .u8 (x35.toNat : Int)), ((decide ((x35.toNat : Int) ≥ (48 : Int))) = true), ((↑k3 : Int) = ((k3 : Nat) : Int) ∧ k3 < s_0.length), ((.int .u8 ((List.getD s_0 k3 0).toNat : Int) : AV) = .int .u8 (x35.toNat : Int)), ((decide ((x35.toNat : Int) ≤ (57 : Int))) = false), ((↑k3 : Int) = ((k3 : Nat) : Int) ∧ k3 < s_0.length), ((.int .u8 ((List.getD s_0 k3 0).toNat : Int) : AV) = .int .u8 (x35.toNat : Int)), (((↑k3 : Int) == (0 : Int)) = false), ((!((x35.toNat : Int) == (45 : Int))) = false), (IntKind.min .i64 ≤ ((↑k3 : Int) + 1) ∧ ((↑k3 : Int) + 1) ≤ IntKind.max .i64)]) (by kernel_rfl) (by kernel_rfl) ⟨(decide_eq_true c34), ⟨rfl, get_lt h36⟩, (getD_u8 h36), (decide_eq_false c37), ⟨rfl, get_lt h36⟩, (getD_u8 h36), (decide_eq_true c54), ⟨rfl, get_lt h36⟩, (getD_u8 h36), (decide_eq_false c55), ⟨rfl, get_lt h36⟩, (getD_u8 h36), (beq_f c58), (not_f (beq_t c59)), ok1 h60⟩
theorem tollwayref01_Name_L3_15 (s_0 : (List UInt8)) (k3 : Nat) (c34 : (↑k3 : Int) < (↑s_0.length : Int)) (x35 : UInt8) (h36 : s_0[k3]? = some x35) (c37 : ¬ ((x35.toNat : Int) ≥ (97 : Int))) (c54 : (x35.toNat : Int) ≥ (48 : Int)) (c55 : ¬ ((x35.toNat : Int) ≤ (57 : Int))) (c58 : ¬ ((↑k3 : Int) = (0 : Int))) (c59 : ¬ ((x35.toNat : Int) = (45 : Int))) : Does Try.prog G0 0 (bodyAt Try.prog 51 [1, 1, 0, 1, 0, 0]) (tollwayref01_Name_L3_H s_0 k3) .ret (S 56 [(2, .bool false)] []) :=
  Does.of_viewM 0 400 (cs 3 ((.op none .a) :: (.br true) :: (cs 2 ((.op none (.i k3)) :: (.tr (.eqt (.t 22) (.int .u8 (x35.toNat : Int)))) :: (.op none .a) :: (.op none .c) :: (.op (some false) .c) :: (cs 7 ((.op none (.i k3)) :: (.tr (.eqt (.t 32) (.int .u8 (x35.toNat : Int)))) :: (.op none .a) :: (.op none .c) :: (.op (some true) .c) :: (.op none .c) :: (.op none (.i k3)) :: (.tr (.eqt (.t 37) (.int .u8 (x35.toNat : Int)))) :: (.op none .a) :: (cs 2 ((.op (some false) .c) :: (.op none .c) :: (.op none (.i k3)) :: (.tr (.eqt (.t 43) (.int .u8 (x35.toNat : Int)))) :: (.op none .a) :: (cs 6 ((.op none .a) :: (.op none .c) :: (.op (some false) .c) :: (cs 3 [.br true, .op none .c]))))))))))) [] (ps := [((decide ((↑k3 : Int) < (↑s_0.length : Int))) = true), ((↑k3 : Int) = ((k3 : Nat) : Int) ∧ k3 < s_0.length), ((.int .u8 ((List.getD s_0 k3 0).toNat : Int) : AV) = .int .u8 (x35.toNat : Int)), ((decide ((x35.toNat : Int) ≥ (97 : Int))) = false), ((↑k3 : Int) = ((k3 : Nat) : Int) ∧ k3 < s_0.length), ((.int .u8 ((List.getD s_0 k3 0).toNat : Int) : AV) = .int .u8 (x35.toNat : Int)), ((decide ((x35.toNat : Int) ≥ (48 : Int))) = true), ((↑k3 : Int) = ((k3 : Nat) : Int) ∧ k3 < s_0.length), ((.int .u8 ((List.getD s_0 k3 0).toNat : Int) : AV) = .int .u8 (x35.toNat : Int)), ((decide ((x35.toNat : Int) ≤ (57 : Int))) = false), ((↑k3 : Int) = ((k3 : Nat) : Int) ∧ k3 < s_0.length), ((.int .u8 ((List.getD s_0 k3 0).toNat : Int) : AV) = .int .u8 (x35.toNat : Int)), (((↑k3 : Int) == (0 : Int)) = false), ((!((x35.toNat : Int) == (45 : Int))) = true)]) (by kernel_rfl) (by kernel_rfl) ⟨(decide_eq_true c34), ⟨rfl, get_lt h36⟩, (getD_u8 h36), (decide_eq_false c37), ⟨rfl, get_lt h36⟩, (getD_u8 h36), (decide_eq_true c54), ⟨rfl, get_lt h36⟩, (getD_u8 h36), (decide_eq_false c55), ⟨rfl, get_lt h36⟩, (getD_u8 h36), (beq_f c58), ok1 (not_t (beq_f c59))⟩
theorem tollwayref01_Name_L3_16 (s_0 : (List UInt8)) (k3 : Nat) (c34 : (↑k3 : Int) < (↑s_0.length : Int)) (x35 : UInt8) (h36 : s_0[k3]? = some x35) (c37 : ¬ ((x35.toNat : Int) ≥ (97 : Int))) (c54 : ¬ ((x35.toNat : Int) ≥ (48 : Int))) (c61 : (↑k3 : Int) = (0 : Int)) : Does Try.prog G0 0 (bodyAt Try.prog 51 [1, 1, 0, 1, 0, 0]) (tollwayref01_Name_L3_H s_0 k3) .ret (S 56 [(2, .bool false)] []) :=
  Does.of_viewM 0 400 (cs 3 ((.op none .a) :: (.br true) :: (cs 2 ((.op none (.i k3)) :: (.tr (.eqt (.t 22) (.int .u8 (x35.toNat : Int)))) :: (.op none .a) :: (.op none .c) :: (.op (some false) .c) :: (cs 7 ((.op none (.i k3)) :: (.tr (.eqt (.t 32) (.int .u8 (x35.toNat : Int)))) :: (.op none .a) :: (.op none .c) :: (.op (some false) .c) :: (cs 7 ((.op none (.i k3)) :: (.tr (.eqt (.t 43) (.int .u8 (x35.toNat : Int)))) :: (.op none .a) :: (cs 6 ((.op none .a) :: (.op none .c) :: (.op (some true) .c) :: (cs 3 [.br true, .op none .c]))))))))))) [] (ps := [((decide ((↑k3 : Int) < (↑s_0.length : Int))) = true), ((↑k3 : Int) = ((k3 : Nat) : Int) ∧ k3 < s_0.length), ((.int .u8 ((List.getD s_0 k3 0).toNat : Int) : AV) = .int .u8 (x35.toNat : Int)), ((decide ((x35.toNat : Int) ≥ (97 : Int))) = false), ((↑k3 : Int) = ((k3 : Nat) : Int) ∧ k3 < s_0.length), ((.int .u8 ((List.getD s_0 k3 0).toNat : Int) : AV) = .int .u8 (x35.toNat : Int)), ((decide ((x35.toNat : Int) ≥ (48 : Int))) = false), ((↑k3 : Int) = ((k3 : Nat) : Int) ∧ k3 < s_0.length), ((.int .u8 ((List.getD s_0 k3 0).toNat : Int) : AV) = .int .u8 (x35.toNat : Int)), (((↑k3 : Int) == (0 : Int)) = true), (true = true)]) (by kernel_rfl) (by kernel_rfl) ⟨(decide_eq_true c34), ⟨rfl, get_lt h36⟩, (getD_u8 h36), (decide_eq_false c37), ⟨rfl, get_lt h36⟩, (getD_u8 h36), (decide_eq_false c54), ⟨rfl, get_lt h36⟩, (getD_u8 h36), (beq_t c61), ok1 rfl⟩
theorem tollwayref01_Name_L3_17 (s_0 : (List UInt8)) (k3 : Nat) (c34 : (↑k3 : Int) < (↑s_0.length : Int)) (x35 : UInt8) (h36 : s_0[k3]? = some x35) (c37 : ¬ ((x35.toNat : Int) ≥ (97 : Int))) (c54 : ¬ ((x35.toNat : Int) ≥ (48 : Int))) (c61 : ¬ ((↑k3 : Int) = (0 : Int))) (c62 : (x35.toNat : Int) = (45 : Int)) (h63 : InR .i64 ((↑k3 : Int) + 1)) : Does Try.prog G0 0 (bodyAt Try.prog 51 [1, 1, 0, 1, 0, 0]) (tollwayref01_Name_L3_H s_0 k3) .normal (S 56 [(0, .str s_0), (3, .int .i64 ((↑k3 : Int) + 1))] []) :=
  Does.of_viewM 0 400 (cs 3 ((.op none .a) :: (.br true) :: (cs 2 ((.op none (.i k3)) :: (.tr (.eqt (.t 22) (.int .u8 (x35.toNat : Int)))) :: (.op none .a) :: (.op none .c) :: (.op (some false) .c) :: (cs 7 ((.op none (.i k3)) :: (.tr (.eqt (.t 32) (.int .u8 (x35.toNat : Int)))) :: (.op none .a) :: (.op none .c) :: (.op (some false) .c) :: (cs 7 ((.op none (.i k3)) :: (.tr (.eqt (.t 43) (.int .u8 (x35.toNat : Int)))) :: (.op none .a) :: (cs 6 ((.op none .a) :: (.op none .c) :: (.op (some false) .c) :: (cs 3 [.br false, .op none .c, .op none .w, .op none .c]))))))))))) [] (ps := [((decide ((↑k3 : Int) < (↑s_0.length : Int))) = true), ((↑k3 : Int) = ((k3 : Nat) : Int) ∧ k3 < s_0.length), ((.int .u8 ((List.getD s_0 k3 0).toNat : Int) : AV) = .int .u8 (x35.toNat : Int)), ((decide ((x35.toNat : Int) ≥ (97 : Int))) = false), ((↑k3 : Int) = ((k3 : Nat) : Int) ∧ k3 < s_0.length), ((.int .u8 ((List.getD s_0 k3 0).toNat : Int) : AV) = .int .u8 (x35.toNat : Int)), ((decide ((x35.toNat : Int) ≥ (48 : Int))) = false), ((↑k3 : Int) = ((k3 : Nat) : Int) ∧ k3 < s_0.length), ((.int .u8 ((List.getD s_0 k3 0).toNat : Int) : AV) = .int .u8 (x35.toNat : Int)), (((↑k3 : Int) == (0 : Int)) = false), ((!((x35.toNat : Int) == (45 : Int))) = false), (IntKind.min .i64 ≤ ((↑k3 : Int) + 1) ∧ ((↑k3 : Int) + 1) ≤ IntKind.max .i64)]) (by kernel_rfl) (by kernel_rfl) ⟨(decide_eq_true c34), ⟨rfl, get_lt h36⟩, (getD_u8 h36), (decide_eq_false c37), ⟨rfl, get_lt h36⟩, (getD_u8 h36), (decide_eq_false c54), ⟨rfl, get_lt h36⟩, (getD_u8 h36), (beq_f c61), (not_f (beq_t c62)), ok1 h63⟩
theorem tollwayref01_Name_L3_18 (s_0 : (List UInt8)) (k3 : Nat) (c34 : (↑k3 : Int) < (↑s_0.length : Int)) (x35 : UInt8) (h36 : s_0[k3]? = some x35) (c37 : ¬ ((x35.toNat : Int) ≥ (97 : Int))) (c54 : ¬ ((x35.toNat : Int) ≥ (48 : Int))) (c61 : ¬ ((↑k3 : Int) = (0 : Int))) (c62 : ¬ ((x35.toNat : Int) = (45 : Int))) : Does Try.prog G0 0 (bodyAt Try.prog 51 [1, 1, 0, 1, 0, 0]) (tollwayref01_Name_L3_H s_0 k3) .ret (S 56 [(2, .bool false)] []) :=
  Does.of_viewM 0 400 (cs 3 ((.op none .a) :: (.br true) :: (cs 2 ((.op none (.i k3)) :: (.tr (.eqt (.t 22) (.int .u8 (x35.toNat : Int)))) :: (.op none .a) :: (.op none .c) :: (.op (some false) .c) :: (cs 7 ((.op none (.i k3)) :: (.tr (.eqt (.t 32) (.int .u8 (x35.toNat : Int)))) :: (.op none .a) :: (.op none .c) :: (.op (some false) .c) :: (cs 7 ((.op none (.i k3)) :: (.tr (.eqt (.t 43) (.int .u8 (x35.toNat : Int)))) :: (.op none .a) :: (cs 6 ((.op none .a) :: (.op none .c) :: (.op (some false) .c) :: (cs 3 [.br true, .op none .c]))))))))))) [] (ps := [((decide ((↑k3 : Int) < (↑s_0.length : Int))) = true), ((↑k3 : Int) = ((k3 : Nat) : Int) ∧ k3 < s_0.length), ((.int .u8 ((List.getD s_0 k3 0).toNat : Int) : AV) = .int .u8 (x35.toNat : Int)), ((decide ((x35.toNat : Int) ≥ (97 : Int))) = false), ((↑k3 : Int) = ((k3 : Nat) : Int) ∧ k3 < s_0.length), ((.int .u8 ((List.getD s_0 k3 0).toNat : Int) : AV) = .int .u8 (x35.toNat : Int)), ((decide ((x35.toNat : Int) ≥ (48 : Int))) = false), ((↑k3 : Int) = ((k3 : Nat) : Int) ∧ k3 < s_0.length), ((.int .u8 ((List.getD s_0 k3 0).toNat : Int) : AV) = .int .u8 (x35.toNat : Int)), (((↑k3 : Int) == (0 : Int)) = false), ((!((x35.toNat : Int) == (45 : Int))) = true)]) (by kernel_rfl) (by kernel_rfl) ⟨(decide_eq_true c34), ⟨rfl, get_lt h36⟩, (getD_u8 h36), (decide_eq_false c37), ⟨rfl, get_lt h36⟩, (getD_u8 h36), (decide_eq_false c54), ⟨rfl, get_lt h36⟩, (getD_u8 h36), (beq_f c61), ok1 (not_t (beq_f c62))⟩
theorem tollwayref01_Name_L3_19 (s_0 : (List UInt8)) (k3 : Nat) (c34 : ¬ ((↑k3 : Int) < (↑s_0.length : Int))) : Does Try.prog G0 0 (bodyAt Try.prog 51 [1, 1, 0, 1, 0, 0]) (tollwayref01_Name_L3_H s_0 k3) (.exit 0) (S 56 [] []) :=
  Does.of_viewM 0 400 (cs 3 [.op none .a, .br false]) [] (ps := [((decide ((↑k3 : Int) < (↑s_0.length : Int))) = false)]) (by kernel_rfl) (by kernel_rfl) (ok1 (decide_eq_false c34))
def tollwayref01_Name_L3_X (s_0 : (List UInt8)) : (Unit ⊕ Unit) → AEx := fun q => match q with | Sum.inl o => .ret | Sum.inr (o) => (.exit 0)
def tollwayref01_Name_L3_E (s_0 : (List UInt8)) : (Unit ⊕ Unit) → St := fun q => match q with | Sum.inl o => S 56 [(2, .bool false)] [] | Sum.inr (o) => S 56 [] []
theorem tollwayref01_Name_L3_does (s_0 : (List UInt8)) {s : Nat} {r : Unit ⊕ Unit} (h : lp (tollwayref01_Name_L3_step s_0) s = some r) : Does Try.prog G0 0 (.loop (bodyAt Try.prog 51 [1, 1, 0, 1, 0, 0])) (tollwayref01_Name_L3_H s_0 s) (tollwayref01_Name_L3_X s_0 r) (tollwayref01_Name_L3_E s_0 r) := by
  refine Does.lp (H := tollwayref01_Name_L3_H s_0) (X := tollwayref01_Name_L3_X s_0) (E := tollwayref01_Name_L3_E s_0) (fun s s2 h => ?_) (fun s r h => ?_) h
  · revert h; revert s; intro k3 h
    unfold tollwayref01_Name_L3_step at h
    try dsimp only at h
    rcases ite_some h with ⟨c34, h⟩ | ⟨c34, h⟩
    · obtain ⟨x35, h36, h⟩ := bind_some h
      rcases ite_some h with ⟨c37, h⟩ | ⟨c37, h⟩
      · rcases ite_some h with ⟨c38, h⟩ | ⟨c38, h⟩
        · rcases ite_some h with ⟨c39, h⟩ | ⟨c39, h⟩
          · rcases ite_some h with ⟨c40, h⟩ | ⟨c40, h⟩
            · obtain ⟨h41, h⟩ := guard_some h
              simp only [Option.some.injEq, Sum.inl.injEq] at h
              subst h
              have hq := tollwayref01_Name_L3_0 s_0 k3 c34 x35 h36 c37 c38 c39 c40 h41
              first | exact hq | exact Eq.mp (by simp only [tollwayref01_Name_L3_H, List.length_set] <;> rfl) hq
            · rcases ite_some h with ⟨c42, h⟩ | ⟨c42, h⟩
              · simp at h
              · obtain ⟨h43, h⟩ := guard_some h
                simp only [Option.some.injEq, Sum.inl.injEq] at h
                subst h
                have hq := tollwayref01_Name_L3_2 s_0 k3 c34 x35 h36 c37 c38 c39 c40 c42 h43
                first | exact hq | exact Eq.mp (by simp only [tollwayref01_Name_L3_H, List.length_set] <;> rfl) hq
          · rcases ite_some h with ⟨c44, h⟩ | ⟨c44, h⟩
            · obtain ⟨h45, h⟩ := guard_some h
              simp only [Option.some.injEq, Sum.inl.injEq] at h
              subst h
              have hq := tollwayref01_Name_L3_3 s_0 k3 c34 x35 h36 c37 c38 c39 c44 h45
              first | exact hq | exact Eq.mp (by simp only [tollwayref01_Name_L3_H, List.length_set] <;> rfl) hq
            · rcases ite_some h with ⟨c46, h⟩ | ⟨c46, h⟩
              · simp at h
              · rcases ite_some h with ⟨c47, h⟩ | ⟨c47, h⟩
                · obtain ⟨h48, h⟩ := guard_some h
                  simp only [Option.some.injEq, Sum.inl.injEq] at h
                  subst h
                  have hq := tollwayref01_Name_L3_5 s_0 k3 c34 x35 h36 c37 c38 c39 c44 c46 c47 h48
                  first | exact hq | exact Eq.mp (by simp only [tollwayref01_Name_L3_H, List.length_set] <;> rfl) hq
                · simp at h
        · rcases ite_some h with ⟨c49, h⟩ | ⟨c49, h⟩
          · obtain ⟨h50, h⟩ := guard_some h
            simp only [Option.some.injEq, Sum.inl.injEq] at h
            subst h
            have hq := tollwayref01_Name_L3_7 s_0 k3 c34 x35 h36 c37 c38 c49 h50
            first | exact hq | exact Eq.mp (by simp only [tollwayref01_Name_L3_H, List.length_set] <;> rfl) hq
          · rcases ite_some h with ⟨c51, h⟩ | ⟨c51, h⟩
            · simp at h
            · rcases ite_some h with ⟨c52, h⟩ | ⟨c52, h⟩
              · obtain ⟨h53, h⟩ := guard_some h
                simp only [Option.some.injEq, Sum.inl.injEq] at h
                subst h
                have hq := tollwayref01_Name_L3_9 s_0 k3 c34 x35 h36 c37 c38 c49 c51 c52 h53
                first | exact hq | exact Eq.mp (by simp only [tollwayref01_Name_L3_H, List.length_set] <;> rfl) hq
              · simp at h
      · rcases ite_some h with ⟨c54, h⟩ | ⟨c54, h⟩
        · rcases ite_some h with ⟨c55, h⟩ | ⟨c55, h⟩
          · rcases ite_some h with ⟨c56, h⟩ | ⟨c56, h⟩
            · simp at h
            · obtain ⟨h57, h⟩ := guard_some h
              simp only [Option.some.injEq, Sum.inl.injEq] at h
              subst h
              have hq := tollwayref01_Name_L3_12 s_0 k3 c34 x35 h36 c37 c54 c55 c56 h57
              first | exact hq | exact Eq.mp (by simp only [tollwayref01_Name_L3_H, List.length_set] <;> rfl) hq
          · rcases ite_some h with ⟨c58, h⟩ | ⟨c58, h⟩
            · simp at h
            · rcases ite_some h with ⟨c59, h⟩ | ⟨c59, h⟩
              · obtain ⟨h60, h⟩ := guard_some h
                simp only [Option.some.injEq, Sum.inl.injEq] at h
                subst h
                have hq := tollwayref01_Name_L3_14 s_0 k3 c34 x35 h36 c37 c54 c55 c58 c59 h60
                first | exact hq | exact Eq.mp (by simp only [tollwayref01_Name_L3_H, List.length_set] <;> rfl) hq
              · simp at h
        · rcases ite_some h with ⟨c61, h⟩ | ⟨c61, h⟩
          · simp at h
          · rcases ite_some h with ⟨c62, h⟩ | ⟨c62, h⟩
            · obtain ⟨h63, h⟩ := guard_some h
              simp only [Option.some.injEq, Sum.inl.injEq] at h
              subst h
              have hq := tollwayref01_Name_L3_17 s_0 k3 c34 x35 h36 c37 c54 c61 c62 h63
              first | exact hq | exact Eq.mp (by simp only [tollwayref01_Name_L3_H, List.length_set] <;> rfl) hq
            · simp at h
    · simp at h
  · revert h; revert s; intro k3 h
    unfold tollwayref01_Name_L3_step at h
    try dsimp only at h
    rcases ite_some h with ⟨c34, h⟩ | ⟨c34, h⟩
    · obtain ⟨x35, h36, h⟩ := bind_some h
      rcases ite_some h with ⟨c37, h⟩ | ⟨c37, h⟩
      · rcases ite_some h with ⟨c38, h⟩ | ⟨c38, h⟩
        · rcases ite_some h with ⟨c39, h⟩ | ⟨c39, h⟩
          · rcases ite_some h with ⟨c40, h⟩ | ⟨c40, h⟩
            · obtain ⟨h41, h⟩ := guard_some h
              simp at h
            · rcases ite_some h with ⟨c42, h⟩ | ⟨c42, h⟩
              · simp only [Option.some.injEq, Sum.inr.injEq] at h
                subst h
                exact ⟨tollwayref01_Name_L3_1 s_0 k3 c34 x35 h36 c37 c38 c39 c40 c42, by intro q; cases q⟩
              · obtain ⟨h43, h⟩ := guard_some h
                simp at h
          · rcases ite_some h with ⟨c44, h⟩ | ⟨c44, h⟩
            · obtain ⟨h45, h⟩ := guard_some h
              simp at h
            · rcases ite_some h with ⟨c46, h⟩ | ⟨c46, h⟩
              · simp only [Option.some.injEq, Sum.inr.injEq] at h
                subst h
                exact ⟨tollwayref01_Name_L3_4 s_0 k3 c34 x35 h36 c37 c38 c39 c44 c46, by intro q; cases q⟩
              · rcases ite_some h with ⟨c47, h⟩ | ⟨c47, h⟩
                · obtain ⟨h48, h⟩ := guard_some h
                  simp at h
                · simp only [Option.some.injEq, Sum.inr.injEq] at h
                  subst h
                  exact ⟨tollwayref01_Name_L3_6 s_0 k3 c34 x35 h36 c37 c38 c39 c44 c46 c47, by intro q; cases q⟩
        · rcases ite_some h with ⟨c49, h⟩ | ⟨c49, h⟩
          · obtain ⟨h50, h⟩ := guard_some h
            simp at h
          · rcases ite_some h with ⟨c51, h⟩ | ⟨c51, h⟩
            · simp only [Option.some.injEq, Sum.inr.injEq] at h
              subst h
              exact ⟨tollwayref01_Name_L3_8 s_0 k3 c34 x35 h36 c37 c38 c49 c51, by intro q; cases q⟩
            · rcases ite_some h with ⟨c52, h⟩ | ⟨c52, h⟩
              · obtain ⟨h53, h⟩ := guard_some h
                simp at h
              · simp only [Option.some.injEq, Sum.inr.injEq] at h
                subst h
                exact ⟨tollwayref01_Name_L3_10 s_0 k3 c34 x35 h36 c37 c38 c49 c51 c52, by intro q; cases q⟩
      · rcases ite_some h with ⟨c54, h⟩ | ⟨c54, h⟩
        · rcases ite_some h with ⟨c55, h⟩ | ⟨c55, h⟩
          · rcases ite_some h with ⟨c56, h⟩ | ⟨c56, h⟩
            · simp only [Option.some.injEq, Sum.inr.injEq] at h
              subst h
              exact ⟨tollwayref01_Name_L3_11 s_0 k3 c34 x35 h36 c37 c54 c55 c56, by intro q; cases q⟩
            · obtain ⟨h57, h⟩ := guard_some h
              simp at h
          · rcases ite_some h with ⟨c58, h⟩ | ⟨c58, h⟩
            · simp only [Option.some.injEq, Sum.inr.injEq] at h
              subst h
              exact ⟨tollwayref01_Name_L3_13 s_0 k3 c34 x35 h36 c37 c54 c55 c58, by intro q; cases q⟩
            · rcases ite_some h with ⟨c59, h⟩ | ⟨c59, h⟩
              · obtain ⟨h60, h⟩ := guard_some h
                simp at h
              · simp only [Option.some.injEq, Sum.inr.injEq] at h
                subst h
                exact ⟨tollwayref01_Name_L3_15 s_0 k3 c34 x35 h36 c37 c54 c55 c58 c59, by intro q; cases q⟩
        · rcases ite_some h with ⟨c61, h⟩ | ⟨c61, h⟩
          · simp only [Option.some.injEq, Sum.inr.injEq] at h
            subst h
            exact ⟨tollwayref01_Name_L3_16 s_0 k3 c34 x35 h36 c37 c54 c61, by intro q; cases q⟩
          · rcases ite_some h with ⟨c62, h⟩ | ⟨c62, h⟩
            · obtain ⟨h63, h⟩ := guard_some h
              simp at h
            · simp only [Option.some.injEq, Sum.inr.injEq] at h
              subst h
              exact ⟨tollwayref01_Name_L3_18 s_0 k3 c34 x35 h36 c37 c54 c61 c62, by intro q; cases q⟩
    · simp only [Option.some.injEq, Sum.inr.injEq] at h
      subst h
      exact ⟨tollwayref01_Name_L3_19 s_0 k3 c34, by intro q; cases q⟩
noncomputable def tollwayref01_Name (s_0 : (List UInt8)) : Option Bool :=
  if (↑s_0.length : Int) < (1 : Int) then
    some false
  else
    if (↑s_0.length : Int) > (12 : Int) then
      some false
    else
      (lp (tollwayref01_Name_L3_step s_0) (0 : Nat)).bind fun qq => match qq with
      | Sum.inl o3 =>
        some false
      | Sum.inr (o3) =>
        some true
def tollwayref01_Name_h1  : List CH := (cs 3 [.op none .a, .op none .c])
def tollwayref01_Name_h2  : List CH := [.op (some false) .c, .op none .c, .op none .a, .op none .c]
def tollwayref01_Name_p3 (s_0 : (List UInt8)) : List Prop := [((decide ((↑s_0.length : Int) > (12 : Int))) = false), ((.str s_0 : AV) = .str s_0), ((.int .i64 0 : AV) = .int .i64 (↑(0 : Nat) : Int))]
theorem tollwayref01_Name_p3q (s_0 : (List UInt8)) (c2 : ¬ ((↑s_0.length : Int) > (12 : Int))) : allOk (tollwayref01_Name_p3 s_0) := ⟨(decide_eq_false c2), rfl, ok1 rfl⟩
theorem tollwayref01_Name_0 (s_0 : (List UInt8)) (c1 : (↑s_0.length : Int) < (1 : Int)) : Ret Try.prog G0 51 [.str s_0] (.bool false) [] :=
  Ret.of_view 400 ((tollwayref01_Name_h1) ++ ((.op (some true) .c) :: (cs 3 [.br true, .op none .c]))) [] (ps := [((decide ((↑s_0.length : Int) < (1 : Int))) = true), (true = true)]) (by kernel_rfl) (by kernel_rfl) ⟨(decide_eq_true c1), ok1 rfl⟩
theorem tollwayref01_Name_1 (s_0 : (List UInt8)) (c1 : ¬ ((↑s_0.length : Int) < (1 : Int))) (c2 : (↑s_0.length : Int) > (12 : Int)) : Ret Try.prog G0 51 [.str s_0] (.bool false) [] :=
  Ret.of_view 400 ((tollwayref01_Name_h1) ++ ((tollwayref01_Name_h2) ++ [.br true, .op none .c])) [] (ps := ([((decide ((↑s_0.length : Int) < (1 : Int))) = false)] ++ [((decide ((↑s_0.length : Int) > (12 : Int))) = true)])) (by kernel_rfl) (by kernel_rfl) (allOk_append.2 ⟨(ok1 (decide_eq_false c1)), (ok1 (decide_eq_true c2))⟩)
theorem tollwayref01_Name_2 (s_0 : (List UInt8)) (c1 : ¬ ((↑s_0.length : Int) < (1 : Int))) (c2 : ¬ ((↑s_0.length : Int) > (12 : Int))) (o3 : Unit) (hl3 : lp (tollwayref01_Name_L3_step s_0) (0 : Nat) = some (Sum.inl o3)) : Ret Try.prog G0 51 [.str s_0] (.bool false) [] :=
  Ret.of_view 400 ((tollwayref01_Name_h1) ++ ((tollwayref01_Name_h2) ++ ([.br false, .op none .c] ++ [.fcut 0 .ret [(2, .bool false)] [] [] [(0, .str s_0), (3, .int .i64 (↑(0 : Nat) : Int))] []]))) [] (ps := ([((decide ((↑s_0.length : Int) < (1 : Int))) = false)] ++ ((tollwayref01_Name_p3 s_0) ++ [(Does Try.prog G0 0 (.loop (bodyAt Try.prog 51 [1, 1, 0, 1, 0, 0])) (S 56 [(0, .str s_0), (3, .int .i64 (↑(0 : Nat) : Int))] []) .ret (S 56 [(2, .bool false)] []))]))) (by kernel_rfl) (by kernel_rfl) (allOk_append.2 ⟨(ok1 (decide_eq_false c1)), (allOk_append.2 ⟨(tollwayref01_Name_p3q s_0 c2), (ok1 (tollwayref01_Name_L3_does s_0 (s := (0 : Nat)) (r := Sum.inl o3) hl3))⟩)⟩)
theorem tollwayref01_Name_3 (s_0 : (List UInt8)) (c1 : ¬ ((↑s_0.length : Int) < (1 : Int))) (c2 : ¬ ((↑s_0.length : Int) > (12 : Int))) (o3 : Unit) (hl3 : lp (tollwayref01_Name_L3_step s_0) (0 : Nat) = some (Sum.inr (o3))) : Ret Try.prog G0 51 [.str s_0] (.bool true) [] :=
  Ret.of_view 400 ((tollwayref01_Name_h1) ++ ((tollwayref01_Name_h2) ++ ([.br false, .op none .c] ++ [.fcut 0 (.exit 0) [] [] [] [(0, .str s_0), (3, .int .i64 (↑(0 : Nat) : Int))] [], .op none .c]))) [] (ps := ([((decide ((↑s_0.length : Int) < (1 : Int))) = false)] ++ ((tollwayref01_Name_p3 s_0) ++ [(Does Try.prog G0 0 (.loop (bodyAt Try.prog 51 [1, 1, 0, 1, 0, 0])) (S 56 [(0, .str s_0), (3, .int .i64 (↑(0 : Nat) : Int))] []) (.exit 0) (S 56 [] []))]))) (by kernel_rfl) (by kernel_rfl) (allOk_append.2 ⟨(ok1 (decide_eq_false c1)), (allOk_append.2 ⟨(tollwayref01_Name_p3q s_0 c2), (ok1 (tollwayref01_Name_L3_does s_0 (s := (0 : Nat)) (r := Sum.inr (o3)) hl3))⟩)⟩)
theorem tollwayref01_Name_ret (s_0 : (List UInt8)) (r : Bool) (h : tollwayref01_Name s_0 = some r) : Ret Try.prog G0 51 [.str s_0] (.bool r) [] := by
  unfold tollwayref01_Name at h
  rcases ite_some h with ⟨c1, h⟩ | ⟨c1, h⟩
  · simp only [Option.some.injEq] at h
    subst h
    exact tollwayref01_Name_0 s_0 c1
  · rcases ite_some h with ⟨c2, h⟩ | ⟨c2, h⟩
    · simp only [Option.some.injEq] at h
      subst h
      exact tollwayref01_Name_1 s_0 c1 c2
    · obtain ⟨qq, hl3, h⟩ := bind_some h
      rcases qq with o3 | o3
      · dsimp only at h
        simp only [Option.some.injEq] at h
        subst h
        exact tollwayref01_Name_2 s_0 c1 c2 o3 hl3
      · dsimp only at h
        simp only [Option.some.injEq] at h
        subst h
        exact tollwayref01_Name_3 s_0 c1 c2 o3 hl3
noncomputable def discount_most (kind_0 : Int) : Option Int :=
  if kind_0 = (1 : Int) then
    some 1000
  else
    if kind_0 = (2 : Int) then
      some 1125899906842624
    else
      some 0
def discount_most_h1  : List CH := (cs 2 [.op none .a, .op none .c])
def discount_most_h2  : List CH := [.br false, .op none .a, .op none .c]
theorem discount_most_0 (kind_0 : Int) (c1 : kind_0 = (1 : Int)) : Ret Try.prog G0 33 [.int .i64 kind_0] (.int .i64 1000) [] :=
  Ret.of_view 400 ((discount_most_h1) ++ [.br true, .op none .c]) [] (ps := [((kind_0 == (1 : Int)) = true)]) (by kernel_rfl) (by kernel_rfl) (ok1 (beq_t c1))
theorem discount_most_1 (kind_0 : Int) (c1 : ¬ (kind_0 = (1 : Int))) (c2 : kind_0 = (2 : Int)) : Ret Try.prog G0 33 [.int .i64 kind_0] (.int .i64 1125899906842624) [] :=
  Ret.of_view 400 ((discount_most_h1) ++ ((discount_most_h2) ++ [.br true, .op none .c])) [] (ps := ([((kind_0 == (1 : Int)) = false)] ++ [((kind_0 == (2 : Int)) = true)])) (by kernel_rfl) (by kernel_rfl) (allOk_append.2 ⟨(ok1 (beq_f c1)), (ok1 (beq_t c2))⟩)
theorem discount_most_2 (kind_0 : Int) (c1 : ¬ (kind_0 = (1 : Int))) (c2 : ¬ (kind_0 = (2 : Int))) : Ret Try.prog G0 33 [.int .i64 kind_0] (.int .i64 0) [] :=
  Ret.of_view 400 ((discount_most_h1) ++ ((discount_most_h2) ++ [.br false, .op none .c])) [] (ps := ([((kind_0 == (1 : Int)) = false)] ++ [((kind_0 == (2 : Int)) = false)])) (by kernel_rfl) (by kernel_rfl) (allOk_append.2 ⟨(ok1 (beq_f c1)), (ok1 (beq_f c2))⟩)
theorem discount_most_ret (kind_0 : Int) (r : Int) (h : discount_most kind_0 = some r) : Ret Try.prog G0 33 [.int .i64 kind_0] (.int .i64 r) [] := by
  unfold discount_most at h
  rcases ite_some h with ⟨c1, h⟩ | ⟨c1, h⟩
  · simp only [Option.some.injEq] at h
    subst h
    exact discount_most_0 kind_0 c1
  · rcases ite_some h with ⟨c2, h⟩ | ⟨c2, h⟩
    · simp only [Option.some.injEq] at h
      subst h
      exact discount_most_1 kind_0 c1 c2
    · simp only [Option.some.injEq] at h
      subst h
      exact discount_most_2 kind_0 c1 c2
noncomputable def discount_window (w_0 : Tapi_Window) : Option Bool :=
  if w_0.Days = (0 : Int) then
    if w_0.From = (0 : Int) then
      some (w_0.To == (0 : Int))
    else
      some false
  else
    if w_0.Days > (0 : Int) then
      if w_0.Days ≤ (127 : Int) then
        if w_0.From ≥ (0 : Int) then
          if w_0.From < w_0.To then
            some (decide (w_0.To ≤ (1440 : Int)))
          else
            some false
        else
          some false
      else
        some false
    else
      some false
def discount_window_h1  : List CH := (cs 4 [.op none .a])
def discount_window_h2  : List CH := ((.br true) :: (cs 2 [.op none .a, .op none .c]))
def discount_window_h3  : List CH := ((.br false) :: (cs 2 [.op none .a, .op none .c]))
def discount_window_h4  : List CH := ((.op (some true) .c) :: (.op none .c) :: (.op none .a) :: (cs 2 []))
def discount_window_h5  : List CH := ((.op (some true) .c) :: (.op none .c) :: (.op none .a) :: (cs 2 []))
def discount_window_h6  : List CH := ((.op (some true) .c) :: (cs 3 ((.op none .a) :: (cs 2 []))))
theorem discount_window_0 (w_0 : Tapi_Window) (c1 : w_0.Days = (0 : Int)) (c2 : w_0.From = (0 : Int)) : Ret Try.prog G0 34 [.agg (Tapi_Window.enc w_0)] (.bool (w_0.To == (0 : Int))) [] :=
  Ret.of_view 400 ((discount_window_h1) ++ ((discount_window_h2) ++ ((.op (some true) .c) :: (.op none .c) :: (.op none .a) :: (cs 2 [])))) [] (ps := ([((w_0.Days == (0 : Int)) = true)] ++ [((w_0.From == (0 : Int)) = true)])) (by kernel_rfl) (by kernel_rfl) (allOk_append.2 ⟨(ok1 (beq_t c1)), (ok1 (beq_t c2))⟩)
theorem discount_window_1 (w_0 : Tapi_Window) (c1 : w_0.Days = (0 : Int)) (c2 : ¬ (w_0.From = (0 : Int))) : Ret Try.prog G0 34 [.agg (Tapi_Window.enc w_0)] (.bool false) [] :=
  Ret.of_view 400 ((discount_window_h1) ++ ((discount_window_h2) ++ ((.op (some false) .c) :: (cs 4 [])))) [] (ps := ([((w_0.Days == (0 : Int)) = true)] ++ [((w_0.From == (0 : Int)) = false)])) (by kernel_rfl) (by kernel_rfl) (allOk_append.2 ⟨(ok1 (beq_t c1)), (ok1 (beq_f c2))⟩)
theorem discount_window_2 (w_0 : Tapi_Window) (c1 : ¬ (w_0.Days = (0 : Int))) (c3 : w_0.Days > (0 : Int)) (c4 : w_0.Days ≤ (127 : Int)) (c5 : w_0.From ≥ (0 : Int)) (c6 : w_0.From < w_0.To) : Ret Try.prog G0 34 [.agg (Tapi_Window.enc w_0)] (.bool (decide (w_0.To ≤ (1440 : Int)))) [] :=
  Ret.of_view 400 ((discount_window_h1) ++ ((discount_window_h3) ++ ((discount_window_h4) ++ ((discount_window_h5) ++ ((discount_window_h6) ++ ((.op (some true) .c) :: (.op none .c) :: (.op none .a) :: (cs 2 []))))))) [] (ps := ([((w_0.Days == (0 : Int)) = false)] ++ ([((decide (w_0.Days > (0 : Int))) = true)] ++ ([((decide (w_0.Days ≤ (127 : Int))) = true)] ++ ([((decide (w_0.From ≥ (0 : Int))) = true)] ++ [((decide (w_0.From < w_0.To)) = true)]))))) (by kernel_rfl) (by kernel_rfl) (allOk_append.2 ⟨(ok1 (beq_f c1)), (allOk_append.2 ⟨(ok1 (decide_eq_true c3)), (allOk_append.2 ⟨(ok1 (decide_eq_true c4)), (allOk_append.2 ⟨(ok1 (decide_eq_true c5)), (ok1 (decide_eq_true c6))⟩)⟩)⟩)⟩)
theorem discount_window_3 (w_0 : Tapi_Window) (c1 : ¬ (w_0.Days = (0 : Int))) (c3 : w_0.Days > (0 : Int)) (c4 : w_0.Days ≤ (127 : Int)) (c5 : w_0.From ≥ (0 : Int)) (c6 : ¬ (w_0.From < w_0.To)) : Ret Try.prog G0 34 [.agg (Tapi_Window.enc w_0)] (.bool false) [] :=
  Ret.of_view 400 ((discount_window_h1) ++ ((discount_window_h3) ++ ((discount_window_h4) ++ ((discount_window_h5) ++ ((discount_window_h6) ++ ((.op (some false) .c) :: (cs 4 []))))))) [] (ps := ([((w_0.Days == (0 : Int)) = false)] ++ ([((decide (w_0.Days > (0 : Int))) = true)] ++ ([((decide (w_0.Days ≤ (127 : Int))) = true)] ++ ([((decide (w_0.From ≥ (0 : Int))) = true)] ++ [((decide (w_0.From < w_0.To)) = false)]))))) (by kernel_rfl) (by kernel_rfl) (allOk_append.2 ⟨(ok1 (beq_f c1)), (allOk_append.2 ⟨(ok1 (decide_eq_true c3)), (allOk_append.2 ⟨(ok1 (decide_eq_true c4)), (allOk_append.2 ⟨(ok1 (decide_eq_true c5)), (ok1 (decide_eq_false c6))⟩)⟩)⟩)⟩)
theorem discount_window_4 (w_0 : Tapi_Window) (c1 : ¬ (w_0.Days = (0 : Int))) (c3 : w_0.Days > (0 : Int)) (c4 : w_0.Days ≤ (127 : Int)) (c5 : ¬ (w_0.From ≥ (0 : Int))) : Ret Try.prog G0 34 [.agg (Tapi_Window.enc w_0)] (.bool false) [] :=
  Ret.of_view 400 ((discount_window_h1) ++ ((discount_window_h3) ++ ((discount_window_h4) ++ ((discount_window_h5) ++ ((.op (some false) .c) :: (cs 11 [])))))) [] (ps := ([((w_0.Days == (0 : Int)) = false)] ++ ([((decide (w_0.Days > (0 : Int))) = true)] ++ ([((decide (w_0.Days ≤ (127 : Int))) = true)] ++ [((decide (w_0.From ≥ (0 : Int))) = false)])))) (by kernel_rfl) (by kernel_rfl) (allOk_append.2 ⟨(ok1 (beq_f c1)), (allOk_append.2 ⟨(ok1 (decide_eq_true c3)), (allOk_append.2 ⟨(ok1 (decide_eq_true c4)), (ok1 (decide_eq_false c5))⟩)⟩)⟩)
theorem discount_window_5 (w_0 : Tapi_Window) (c1 : ¬ (w_0.Days = (0 : Int))) (c3 : w_0.Days > (0 : Int)) (c4 : ¬ (w_0.Days ≤ (127 : Int))) : Ret Try.prog G0 34 [.agg (Tapi_Window.enc w_0)] (.bool false) [] :=
  Ret.of_view 400 ((discount_window_h1) ++ ((discount_window_h3) ++ ((discount_window_h4) ++ ((.op (some false) .c) :: (cs 16 []))))) [] (ps := ([((w_0.Days == (0 : Int)) = false)] ++ ([((decide (w_0.Days > (0 : Int))) = true)] ++ [((decide (w_0.Days ≤ (127 : Int))) = false)]))) (by kernel_rfl) (by kernel_rfl) (allOk_append.2 ⟨(ok1 (beq_f c1)), (allOk_append.2 ⟨(ok1 (decide_eq_true c3)), (ok1 (decide_eq_false c4))⟩)⟩)
theorem discount_window_6 (w_0 : Tapi_Window) (c1 : ¬ (w_0.Days = (0 : Int))) (c3 : ¬ (w_0.Days > (0 : Int))) : Ret Try.prog G0 34 [.agg (Tapi_Window.enc w_0)] (.bool false) [] :=
  Ret.of_view 400 ((discount_window_h1) ++ ((discount_window_h3) ++ ((.op (some false) .c) :: (cs 21 [])))) [] (ps := ([((w_0.Days == (0 : Int)) = false)] ++ [((decide (w_0.Days > (0 : Int))) = false)])) (by kernel_rfl) (by kernel_rfl) (allOk_append.2 ⟨(ok1 (beq_f c1)), (ok1 (decide_eq_false c3))⟩)
theorem discount_window_ret (w_0 : Tapi_Window) (r : Bool) (h : discount_window w_0 = some r) : Ret Try.prog G0 34 [.agg (Tapi_Window.enc w_0)] (.bool r) [] := by
  unfold discount_window at h
  rcases ite_some h with ⟨c1, h⟩ | ⟨c1, h⟩
  · rcases ite_some h with ⟨c2, h⟩ | ⟨c2, h⟩
    · simp only [Option.some.injEq] at h
      subst h
      exact discount_window_0 w_0 c1 c2
    · simp only [Option.some.injEq] at h
      subst h
      exact discount_window_1 w_0 c1 c2
  · rcases ite_some h with ⟨c3, h⟩ | ⟨c3, h⟩
    · rcases ite_some h with ⟨c4, h⟩ | ⟨c4, h⟩
      · rcases ite_some h with ⟨c5, h⟩ | ⟨c5, h⟩
        · rcases ite_some h with ⟨c6, h⟩ | ⟨c6, h⟩
          · simp only [Option.some.injEq] at h
            subst h
            exact discount_window_2 w_0 c1 c3 c4 c5 c6
          · simp only [Option.some.injEq] at h
            subst h
            exact discount_window_3 w_0 c1 c3 c4 c5 c6
        · simp only [Option.some.injEq] at h
          subst h
          exact discount_window_4 w_0 c1 c3 c4 c5
      · simp only [Option.some.injEq] at h
        subst h
        exact discount_window_5 w_0 c1 c3 c4
    · simp only [Option.some.injEq] at h
      subst h
      exact discount_window_6 w_0 c1 c3
noncomputable def tollwayref24_amounts (d_0 : Tapi_Discount) : Option Bool :=
  if d_0.Kind = (1 : Int) then
    if d_0.Amount ≥ (0 : Int) then
      some (decide (d_0.Amount ≤ (1000 : Int)))
    else
      some false
  else
    if d_0.Kind = (2 : Int) then
      if d_0.Amount ≥ (0 : Int) then
        some (decide (d_0.Amount ≤ (1125899906842624 : Int)))
      else
        some false
    else
      some (d_0.Amount == (0 : Int))
def tollwayref24_amounts_h1  : List CH := (cs 4 [.op none .a])
def tollwayref24_amounts_h2  : List CH := ((.br true) :: (cs 2 [.op none .a, .op none .c]))
def tollwayref24_amounts_h3  : List CH := ((.br false) :: (cs 2 [.op none .a]))
def tollwayref24_amounts_h4  : List CH := ((.br true) :: (cs 2 [.op none .a, .op none .c]))
theorem tollwayref24_amounts_0 (d_0 : Tapi_Discount) (c1 : d_0.Kind = (1 : Int)) (c2 : d_0.Amount ≥ (0 : Int)) : Ret Try.prog G0 52 [.agg (Tapi_Discount.enc d_0)] (.bool (decide (d_0.Amount ≤ (1000 : Int)))) [] :=
  Ret.of_view 400 ((tollwayref24_amounts_h1) ++ ((tollwayref24_amounts_h2) ++ ((.op (some true) .c) :: (.op none .c) :: (.op none .a) :: (cs 2 [])))) [] (ps := ([((d_0.Kind == (1 : Int)) = true)] ++ [((decide (d_0.Amount ≥ (0 : Int))) = true)])) (by kernel_rfl) (by kernel_rfl) (allOk_append.2 ⟨(ok1 (beq_t c1)), (ok1 (decide_eq_true c2))⟩)
theorem tollwayref24_amounts_1 (d_0 : Tapi_Discount) (c1 : d_0.Kind = (1 : Int)) (c2 : ¬ (d_0.Amount ≥ (0 : Int))) : Ret Try.prog G0 52 [.agg (Tapi_Discount.enc d_0)] (.bool false) [] :=
  Ret.of_view 400 ((tollwayref24_amounts_h1) ++ ((tollwayref24_amounts_h2) ++ ((.op (some false) .c) :: (cs 4 [])))) [] (ps := ([((d_0.Kind == (1 : Int)) = true)] ++ [((decide (d_0.Amount ≥ (0 : Int))) = false)])) (by kernel_rfl) (by kernel_rfl) (allOk_append.2 ⟨(ok1 (beq_t c1)), (ok1 (decide_eq_false c2))⟩)
theorem tollwayref24_amounts_2 (d_0 : Tapi_Discount) (c1 : ¬ (d_0.Kind = (1 : Int))) (c3 : d_0.Kind = (2 : Int)) (c4 : d_0.Amount ≥ (0 : Int)) : Ret Try.prog G0 52 [.agg (Tapi_Discount.enc d_0)] (.bool (decide (d_0.Amount ≤ (1125899906842624 : Int)))) [] :=
  Ret.of_view 400 ((tollwayref24_amounts_h1) ++ ((tollwayref24_amounts_h3) ++ ((tollwayref24_amounts_h4) ++ ((.op (some true) .c) :: (.op none .c) :: (.op none .a) :: (cs 2 []))))) [] (ps := ([((d_0.Kind == (1 : Int)) = false)] ++ ([((d_0.Kind == (2 : Int)) = true)] ++ [((decide (d_0.Amount ≥ (0 : Int))) = true)]))) (by kernel_rfl) (by kernel_rfl) (allOk_append.2 ⟨(ok1 (beq_f c1)), (allOk_append.2 ⟨(ok1 (beq_t c3)), (ok1 (decide_eq_true c4))⟩)⟩)
theorem tollwayref24_amounts_3 (d_0 : Tapi_Discount) (c1 : ¬ (d_0.Kind = (1 : Int))) (c3 : d_0.Kind = (2 : Int)) (c4 : ¬ (d_0.Amount ≥ (0 : Int))) : Ret Try.prog G0 52 [.agg (Tapi_Discount.enc d_0)] (.bool false) [] :=
  Ret.of_view 400 ((tollwayref24_amounts_h1) ++ ((tollwayref24_amounts_h3) ++ ((tollwayref24_amounts_h4) ++ ((.op (some false) .c) :: (cs 4 []))))) [] (ps := ([((d_0.Kind == (1 : Int)) = false)] ++ ([((d_0.Kind == (2 : Int)) = true)] ++ [((decide (d_0.Amount ≥ (0 : Int))) = false)]))) (by kernel_rfl) (by kernel_rfl) (allOk_append.2 ⟨(ok1 (beq_f c1)), (allOk_append.2 ⟨(ok1 (beq_t c3)), (ok1 (decide_eq_false c4))⟩)⟩)
theorem tollwayref24_amounts_4 (d_0 : Tapi_Discount) (c1 : ¬ (d_0.Kind = (1 : Int))) (c3 : ¬ (d_0.Kind = (2 : Int))) : Ret Try.prog G0 52 [.agg (Tapi_Discount.enc d_0)] (.bool (d_0.Amount == (0 : Int))) [] :=
  Ret.of_view 400 ((tollwayref24_amounts_h1) ++ ((tollwayref24_amounts_h3) ++ ((.br false) :: (cs 2 [.op none .a, .op none .c])))) [] (ps := ([((d_0.Kind == (1 : Int)) = false)] ++ [((d_0.Kind == (2 : Int)) = false)])) (by kernel_rfl) (by kernel_rfl) (allOk_append.2 ⟨(ok1 (beq_f c1)), (ok1 (beq_f c3))⟩)
theorem tollwayref24_amounts_ret (d_0 : Tapi_Discount) (r : Bool) (h : tollwayref24_amounts d_0 = some r) : Ret Try.prog G0 52 [.agg (Tapi_Discount.enc d_0)] (.bool r) [] := by
  unfold tollwayref24_amounts at h
  rcases ite_some h with ⟨c1, h⟩ | ⟨c1, h⟩
  · rcases ite_some h with ⟨c2, h⟩ | ⟨c2, h⟩
    · simp only [Option.some.injEq] at h
      subst h
      exact tollwayref24_amounts_0 d_0 c1 c2
    · simp only [Option.some.injEq] at h
      subst h
      exact tollwayref24_amounts_1 d_0 c1 c2
  · rcases ite_some h with ⟨c3, h⟩ | ⟨c3, h⟩
    · rcases ite_some h with ⟨c4, h⟩ | ⟨c4, h⟩
      · simp only [Option.some.injEq] at h
        subst h
        exact tollwayref24_amounts_2 d_0 c1 c3 c4
      · simp only [Option.some.injEq] at h
        subst h
        exact tollwayref24_amounts_3 d_0 c1 c3 c4
    · simp only [Option.some.injEq] at h
      subst h
      exact tollwayref24_amounts_4 d_0 c1 c3
noncomputable def tollwayref24_named (s_0 : (List UInt8)) : Option Bool :=
  if s_0 = [] then
    some true
  else
    (tollwayref01_Name s_0).bind fun r2 =>
    some r2
def tollwayref24_named_h1  : List CH := (cs 2 [.op none .a, .op none .c])
theorem tollwayref24_named_0 (s_0 : (List UInt8)) (c1 : s_0 = []) : Ret Try.prog G0 53 [.str s_0] (.bool true) [] :=
  Ret.of_view 400 ((tollwayref24_named_h1) ++ ((.op (some true) .c) :: (cs 3 []))) [] (ps := [((s_0 == []) = true)]) (by kernel_rfl) (by kernel_rfl) (ok1 (beq_t c1))
theorem tollwayref24_named_1 (s_0 : (List UInt8)) (c1 : ¬ (s_0 = [])) (r2 : Bool) (h3 : tollwayref01_Name s_0 = some r2) : Ret Try.prog G0 53 [.str s_0] (.bool r2) [] :=
  Ret.of_view 400 ((tollwayref24_named_h1) ++ ((.op (some false) .c) :: (.ret none [.str s_0] (.bool r2) []) :: (cs 2 []))) [] (ps := [((s_0 == []) = false), ((.str s_0 : AV) = .str s_0), (Ret Try.prog G0 51 [.str s_0] (.bool r2) [])]) (by kernel_rfl) (by kernel_rfl) ⟨(beq_f c1), rfl, ok1 (tollwayref01_Name_ret s_0 r2 h3)⟩
theorem tollwayref24_named_ret (s_0 : (List UInt8)) (r : Bool) (h : tollwayref24_named s_0 = some r) : Ret Try.prog G0 53 [.str s_0] (.bool r) [] := by
  unfold tollwayref24_named at h
  rcases ite_some h with ⟨c1, h⟩ | ⟨c1, h⟩
  · simp only [Option.some.injEq] at h
    subst h
    exact tollwayref24_named_0 s_0 c1
  · obtain ⟨r2, h3, h⟩ := bind_some h
    simp only [Option.some.injEq] at h
    subst h
    exact tollwayref24_named_1 s_0 c1 r2 h3
noncomputable def tollwayref04_ValidWindow (w_0 : Tapi_Window) : Option Bool :=
  if w_0.Days ≥ (1 : Int) then
    if w_0.Days ≤ (127 : Int) then
      if w_0.From ≥ (0 : Int) then
        if w_0.From < w_0.To then
          some (decide (w_0.To ≤ (1440 : Int)))
        else
          some false
      else
        some false
    else
      some false
  else
    some false
def tollwayref04_ValidWindow_h1  : List CH := (cs 4 [.op none .a, .op none .c])
def tollwayref04_ValidWindow_h2  : List CH := ((.op (some true) .c) :: (.op none .c) :: (.op none .a) :: (cs 2 []))
def tollwayref04_ValidWindow_h3  : List CH := ((.op (some true) .c) :: (.op none .c) :: (.op none .a) :: (cs 2 []))
def tollwayref04_ValidWindow_h4  : List CH := ((.op (some true) .c) :: (cs 3 ((.op none .a) :: (cs 2 []))))
theorem tollwayref04_ValidWindow_0 (w_0 : Tapi_Window) (c1 : w_0.Days ≥ (1 : Int)) (c2 : w_0.Days ≤ (127 : Int)) (c3 : w_0.From ≥ (0 : Int)) (c4 : w_0.From < w_0.To) : Ret Try.prog G0 54 [.agg (Tapi_Window.enc w_0)] (.bool (decide (w_0.To ≤ (1440 : Int)))) [] :=
  Ret.of_view 400 ((tollwayref04_ValidWindow_h1) ++ ((tollwayref04_ValidWindow_h2) ++ ((tollwayref04_ValidWindow_h3) ++ ((tollwayref04_ValidWindow_h4) ++ ((.op (some true) .c) :: (.op none .c) :: (.op none .a) :: (cs 2 [])))))) [] (ps := ([((decide (w_0.Days ≥ (1 : Int))) = true)] ++ ([((decide (w_0.Days ≤ (127 : Int))) = true)] ++ ([((decide (w_0.From ≥ (0 : Int))) = true)] ++ [((decide (w_0.From < w_0.To)) = true)])))) (by kernel_rfl) (by kernel_rfl) (allOk_append.2 ⟨(ok1 (decide_eq_true c1)), (allOk_append.2 ⟨(ok1 (decide_eq_true c2)), (allOk_append.2 ⟨(ok1 (decide_eq_true c3)), (ok1 (decide_eq_true c4))⟩)⟩)⟩)
theorem tollwayref04_ValidWindow_1 (w_0 : Tapi_Window) (c1 : w_0.Days ≥ (1 : Int)) (c2 : w_0.Days ≤ (127 : Int)) (c3 : w_0.From ≥ (0 : Int)) (c4 : ¬ (w_0.From < w_0.To)) : Ret Try.prog G0 54 [.agg (Tapi_Window.enc w_0)] (.bool false) [] :=
  Ret.of_view 400 ((tollwayref04_ValidWindow_h1) ++ ((tollwayref04_ValidWindow_h2) ++ ((tollwayref04_ValidWindow_h3) ++ ((tollwayref04_ValidWindow_h4) ++ ((.op (some false) .c) :: (cs 4 [])))))) [] (ps := ([((decide (w_0.Days ≥ (1 : Int))) = true)] ++ ([((decide (w_0.Days ≤ (127 : Int))) = true)] ++ ([((decide (w_0.From ≥ (0 : Int))) = true)] ++ [((decide (w_0.From < w_0.To)) = false)])))) (by kernel_rfl) (by kernel_rfl) (allOk_append.2 ⟨(ok1 (decide_eq_true c1)), (allOk_append.2 ⟨(ok1 (decide_eq_true c2)), (allOk_append.2 ⟨(ok1 (decide_eq_true c3)), (ok1 (decide_eq_false c4))⟩)⟩)⟩)
theorem tollwayref04_ValidWindow_2 (w_0 : Tapi_Window) (c1 : w_0.Days ≥ (1 : Int)) (c2 : w_0.Days ≤ (127 : Int)) (c3 : ¬ (w_0.From ≥ (0 : Int))) : Ret Try.prog G0 54 [.agg (Tapi_Window.enc w_0)] (.bool false) [] :=
  Ret.of_view 400 ((tollwayref04_ValidWindow_h1) ++ ((tollwayref04_ValidWindow_h2) ++ ((tollwayref04_ValidWindow_h3) ++ ((.op (some false) .c) :: (cs 11 []))))) [] (ps := ([((decide (w_0.Days ≥ (1 : Int))) = true)] ++ ([((decide (w_0.Days ≤ (127 : Int))) = true)] ++ [((decide (w_0.From ≥ (0 : Int))) = false)]))) (by kernel_rfl) (by kernel_rfl) (allOk_append.2 ⟨(ok1 (decide_eq_true c1)), (allOk_append.2 ⟨(ok1 (decide_eq_true c2)), (ok1 (decide_eq_false c3))⟩)⟩)
theorem tollwayref04_ValidWindow_3 (w_0 : Tapi_Window) (c1 : w_0.Days ≥ (1 : Int)) (c2 : ¬ (w_0.Days ≤ (127 : Int))) : Ret Try.prog G0 54 [.agg (Tapi_Window.enc w_0)] (.bool false) [] :=
  Ret.of_view 400 ((tollwayref04_ValidWindow_h1) ++ ((tollwayref04_ValidWindow_h2) ++ ((.op (some false) .c) :: (cs 16 [])))) [] (ps := ([((decide (w_0.Days ≥ (1 : Int))) = true)] ++ [((decide (w_0.Days ≤ (127 : Int))) = false)])) (by kernel_rfl) (by kernel_rfl) (allOk_append.2 ⟨(ok1 (decide_eq_true c1)), (ok1 (decide_eq_false c2))⟩)
theorem tollwayref04_ValidWindow_4 (w_0 : Tapi_Window) (c1 : ¬ (w_0.Days ≥ (1 : Int))) : Ret Try.prog G0 54 [.agg (Tapi_Window.enc w_0)] (.bool false) [] :=
  Ret.of_view 400 ((tollwayref04_ValidWindow_h1) ++ ((.op (some false) .c) :: (cs 21 []))) [] (ps := [((decide (w_0.Days ≥ (1 : Int))) = false)]) (by kernel_rfl) (by kernel_rfl) (ok1 (decide_eq_false c1))
theorem tollwayref04_ValidWindow_ret (w_0 : Tapi_Window) (r : Bool) (h : tollwayref04_ValidWindow w_0 = some r) : Ret Try.prog G0 54 [.agg (Tapi_Window.enc w_0)] (.bool r) [] := by
  unfold tollwayref04_ValidWindow at h
  rcases ite_some h with ⟨c1, h⟩ | ⟨c1, h⟩
  · rcases ite_some h with ⟨c2, h⟩ | ⟨c2, h⟩
    · rcases ite_some h with ⟨c3, h⟩ | ⟨c3, h⟩
      · rcases ite_some h with ⟨c4, h⟩ | ⟨c4, h⟩
        · simp only [Option.some.injEq] at h
          subst h
          exact tollwayref04_ValidWindow_0 w_0 c1 c2 c3 c4
        · simp only [Option.some.injEq] at h
          subst h
          exact tollwayref04_ValidWindow_1 w_0 c1 c2 c3 c4
      · simp only [Option.some.injEq] at h
        subst h
        exact tollwayref04_ValidWindow_2 w_0 c1 c2 c3
    · simp only [Option.some.injEq] at h
      subst h
      exact tollwayref04_ValidWindow_3 w_0 c1 c2
  · simp only [Option.some.injEq] at h
    subst h
    exact tollwayref04_ValidWindow_4 w_0 c1
noncomputable def discount_Check (d_0 : Tapi_Discount) : Option Int :=
  (text_Name d_0.Name).bind fun r1 =>
  if r1 = true then
    if d_0.Kind < (1 : Int) then
      some 1
    else
      if d_0.Kind > (3 : Int) then
        some 1
      else
        if d_0.Amount < (0 : Int) then
          some 1
        else
          (discount_most d_0.Kind).bind fun r7 =>
          if d_0.Amount > r7 then
            some 1
          else
            if d_0.Group = [] then
              if d_0.System = [] then
                if d_0.Class < (0 : Int) then
                  some 20
                else
                  if d_0.Class > (9 : Int) then
                    some 20
                  else
                    (discount_window d_0.Window).bind fun r14 =>
                    if r14 = true then
                      if d_0.Least < (0 : Int) then
                        some 2
                      else
                        if d_0.Least > (2147483648 : Int) then
                          some 2
                        else
                          some 0
                    else
                      some 12
              else
                (text_Name d_0.System).bind fun r19 =>
                if r19 = true then
                  if d_0.Class < (0 : Int) then
                    some 20
                  else
                    if d_0.Class > (9 : Int) then
                      some 20
                    else
                      (discount_window d_0.Window).bind fun r24 =>
                      if r24 = true then
                        if d_0.Least < (0 : Int) then
                          some 2
                        else
                          if d_0.Least > (2147483648 : Int) then
                            some 2
                          else
                            some 0
                      else
                        some 12
                else
                  some 6
            else
              (text_Name d_0.Group).bind fun r29 =>
              if r29 = true then
                if d_0.System = [] then
                  if d_0.Class < (0 : Int) then
                    some 20
                  else
                    if d_0.Class > (9 : Int) then
                      some 20
                    else
                      (discount_window d_0.Window).bind fun r35 =>
                      if r35 = true then
                        if d_0.Least < (0 : Int) then
                          some 2
                        else
                          if d_0.Least > (2147483648 : Int) then
                            some 2
                          else
                            some 0
                      else
                        some 12
                else
                  (text_Name d_0.System).bind fun r40 =>
                  if r40 = true then
                    if d_0.Class < (0 : Int) then
                      some 20
                    else
                      if d_0.Class > (9 : Int) then
                        some 20
                      else
                        (discount_window d_0.Window).bind fun r45 =>
                        if r45 = true then
                          if d_0.Least < (0 : Int) then
                            some 2
                          else
                            if d_0.Least > (2147483648 : Int) then
                              some 2
                            else
                              some 0
                        else
                          some 12
                  else
                    some 6
              else
                some 6
  else
    some 6
def discount_Check_h1 (d_0 : Tapi_Discount) (r1 : Bool) : List CH := (cs 4 ((.ret none [.str d_0.Name] (.bool r1) []) :: (cs 2 [])))
def discount_Check_h2  : List CH := ((.br false) :: (cs 2 [.op none .a, .op none .c]))
def discount_Check_h3  : List CH := ((.op (some false) .c) :: (.op none .c) :: (.op none .a) :: (cs 2 []))
def discount_Check_h4  : List CH := ((.br false) :: (cs 2 [.op none .a, .op none .c]))
def discount_Check_h5 (d_0 : Tapi_Discount) (r7 : Int) : List CH := [.op (some false) .c, .op (some false) .c, .op (some false) .c, .op (some false) .c, .ret (some false) [.int .i64 d_0.Kind] (.int .i64 r7) [], .op (some false) .a, .op none (.b false), .op none .c]
def discount_Check_h6  : List CH := ((.br false) :: (cs 2 [.op none .a, .op none .c]))
def discount_Check_h7  : List CH := ((.op (some false) .c) :: (cs 5 ((.br false) :: (cs 2 [.op none .a, .op none .c]))))
def discount_Check_h8  : List CH := ((.op (some false) .c) :: (cs 5 ((.br false) :: (cs 2 [.op none .a, .op none .c]))))
def discount_Check_h9  : List CH := ((.op (some false) .c) :: (.op none .c) :: (.op none .a) :: (cs 2 []))
def discount_Check_h10 (d_0 : Tapi_Discount) (r14 : Bool) : List CH := ((.br false) :: (cs 2 ((.ret none [.agg (Tapi_Window.enc d_0.Window)] (.bool r14) []) :: (cs 2 []))))
def discount_Check_h11  : List CH := ((.br false) :: (cs 2 [.op none .a, .op none .c]))
def discount_Check_h12  : List CH := ((.op (some false) .c) :: (.op none .c) :: (.op none .a) :: (cs 2 []))
def discount_Check_h13 (d_0 : Tapi_Discount) (r19 : Bool) : List CH := ((.op (some true) .c) :: (.op none .c) :: (.ret none [.str d_0.System] (.bool r19) []) :: (cs 3 []))
def discount_Check_h14  : List CH := ((.br false) :: (cs 2 [.op none .a, .op none .c]))
def discount_Check_h15  : List CH := ((.op (some false) .c) :: (.op none .c) :: (.op none .a) :: (cs 2 []))
def discount_Check_h16 (d_0 : Tapi_Discount) (r24 : Bool) : List CH := ((.br false) :: (cs 2 ((.ret none [.agg (Tapi_Window.enc d_0.Window)] (.bool r24) []) :: (cs 2 []))))
def discount_Check_h17  : List CH := ((.br false) :: (cs 2 [.op none .a, .op none .c]))
def discount_Check_h18  : List CH := ((.op (some false) .c) :: (.op none .c) :: (.op none .a) :: (cs 2 []))
def discount_Check_h19 (d_0 : Tapi_Discount) (r29 : Bool) : List CH := ((.op (some true) .c) :: (.op none .c) :: (.ret none [.str d_0.Group] (.bool r29) []) :: (cs 3 []))
def discount_Check_h20  : List CH := ((.br false) :: (cs 2 [.op none .a, .op none .c]))
def discount_Check_h21  : List CH := ((.op (some false) .c) :: (cs 5 ((.br false) :: (cs 2 [.op none .a, .op none .c]))))
def discount_Check_h22  : List CH := ((.op (some false) .c) :: (.op none .c) :: (.op none .a) :: (cs 2 []))
def discount_Check_h23 (d_0 : Tapi_Discount) (r35 : Bool) : List CH := ((.br false) :: (cs 2 ((.ret none [.agg (Tapi_Window.enc d_0.Window)] (.bool r35) []) :: (cs 2 []))))
def discount_Check_h24  : List CH := ((.br false) :: (cs 2 [.op none .a, .op none .c]))
def discount_Check_h25  : List CH := ((.op (some false) .c) :: (.op none .c) :: (.op none .a) :: (cs 2 []))
def discount_Check_h26 (d_0 : Tapi_Discount) (r40 : Bool) : List CH := ((.op (some true) .c) :: (.op none .c) :: (.ret none [.str d_0.System] (.bool r40) []) :: (cs 3 []))
def discount_Check_h27  : List CH := ((.br false) :: (cs 2 [.op none .a, .op none .c]))
def discount_Check_h28  : List CH := ((.op (some false) .c) :: (.op none .c) :: (.op none .a) :: (cs 2 []))
def discount_Check_h29 (d_0 : Tapi_Discount) (r45 : Bool) : List CH := ((.br false) :: (cs 2 ((.ret none [.agg (Tapi_Window.enc d_0.Window)] (.bool r45) []) :: (cs 2 []))))
def discount_Check_h30  : List CH := ((.br false) :: (cs 2 [.op none .a, .op none .c]))
def discount_Check_h31  : List CH := ((.op (some false) .c) :: (.op none .c) :: (.op none .a) :: (cs 2 []))
def discount_Check_p32 (d_0 : Tapi_Discount) (r7 : Int) : List Prop := [((decide (d_0.Amount < (0 : Int))) = false), ((decide (d_0.Amount < (0 : Int))) = false), ((decide (d_0.Amount < (0 : Int))) = false), ((decide (d_0.Amount < (0 : Int))) = false), ((decide (d_0.Amount < (0 : Int))) = false), ((.int .i64 d_0.Kind : AV) = .int .i64 d_0.Kind), (Ret Try.prog G0 33 [.int .i64 d_0.Kind] (.int .i64 r7) []), ((decide (d_0.Amount < (0 : Int))) = false), ((decide (d_0.Amount < (0 : Int))) = false)]
theorem discount_Check_p32q (d_0 : Tapi_Discount) (c6 : ¬ (d_0.Amount < (0 : Int))) (r7 : Int) (h8 : discount_most d_0.Kind = some r7) : allOk (discount_Check_p32 d_0 r7) := ⟨(decide_eq_false c6), (decide_eq_false c6), (decide_eq_false c6), (decide_eq_false c6), (decide_eq_false c6), rfl, (discount_most_ret d_0.Kind r7 h8), (decide_eq_false c6), ok1 (decide_eq_false c6)⟩
def discount_Check_p33 (d_0 : Tapi_Discount) (r14 : Bool) : List Prop := [((decide (d_0.Class > (9 : Int))) = false), ((.agg (Tapi_Window.enc d_0.Window) : AV) = .agg (Tapi_Window.enc d_0.Window)), (Ret Try.prog G0 34 [.agg (Tapi_Window.enc d_0.Window)] (.bool r14) [])]
theorem discount_Check_p33q (d_0 : Tapi_Discount) (c13 : ¬ (d_0.Class > (9 : Int))) (r14 : Bool) (h15 : discount_window d_0.Window = some r14) : allOk (discount_Check_p33 d_0 r14) := ⟨(decide_eq_false c13), rfl, ok1 (discount_window_ret d_0.Window r14 h15)⟩
def discount_Check_p34 (d_0 : Tapi_Discount) (r19 : Bool) : List Prop := [((!(d_0.System == [])) = true), ((.str d_0.System : AV) = .str d_0.System), (Ret Try.prog G0 32 [.str d_0.System] (.bool r19) [])]
theorem discount_Check_p34q (d_0 : Tapi_Discount) (c11 : ¬ (d_0.System = [])) (r19 : Bool) (h20 : text_Name d_0.System = some r19) : allOk (discount_Check_p34 d_0 r19) := ⟨(not_t (beq_f c11)), rfl, ok1 (text_Name_ret d_0.System r19 h20)⟩
def discount_Check_p35 (d_0 : Tapi_Discount) (r24 : Bool) : List Prop := [((decide (d_0.Class > (9 : Int))) = false), ((.agg (Tapi_Window.enc d_0.Window) : AV) = .agg (Tapi_Window.enc d_0.Window)), (Ret Try.prog G0 34 [.agg (Tapi_Window.enc d_0.Window)] (.bool r24) [])]
theorem discount_Check_p35q (d_0 : Tapi_Discount) (c23 : ¬ (d_0.Class > (9 : Int))) (r24 : Bool) (h25 : discount_window d_0.Window = some r24) : allOk (discount_Check_p35 d_0 r24) := ⟨(decide_eq_false c23), rfl, ok1 (discount_window_ret d_0.Window r24 h25)⟩
def discount_Check_p36 (d_0 : Tapi_Discount) (r29 : Bool) : List Prop := [((!(d_0.Group == [])) = true), ((.str d_0.Group : AV) = .str d_0.Group), (Ret Try.prog G0 32 [.str d_0.Group] (.bool r29) [])]
theorem discount_Check_p36q (d_0 : Tapi_Discount) (c10 : ¬ (d_0.Group = [])) (r29 : Bool) (h30 : text_Name d_0.Group = some r29) : allOk (discount_Check_p36 d_0 r29) := ⟨(not_t (beq_f c10)), rfl, ok1 (text_Name_ret d_0.Group r29 h30)⟩
def discount_Check_p37 (d_0 : Tapi_Discount) (r35 : Bool) : List Prop := [((decide (d_0.Class > (9 : Int))) = false), ((.agg (Tapi_Window.enc d_0.Window) : AV) = .agg (Tapi_Window.enc d_0.Window)), (Ret Try.prog G0 34 [.agg (Tapi_Window.enc d_0.Window)] (.bool r35) [])]
theorem discount_Check_p37q (d_0 : Tapi_Discount) (c34 : ¬ (d_0.Class > (9 : Int))) (r35 : Bool) (h36 : discount_window d_0.Window = some r35) : allOk (discount_Check_p37 d_0 r35) := ⟨(decide_eq_false c34), rfl, ok1 (discount_window_ret d_0.Window r35 h36)⟩
def discount_Check_p38 (d_0 : Tapi_Discount) (r40 : Bool) : List Prop := [((!(d_0.System == [])) = true), ((.str d_0.System : AV) = .str d_0.System), (Ret Try.prog G0 32 [.str d_0.System] (.bool r40) [])]
theorem discount_Check_p38q (d_0 : Tapi_Discount) (c32 : ¬ (d_0.System = [])) (r40 : Bool) (h41 : text_Name d_0.System = some r40) : allOk (discount_Check_p38 d_0 r40) := ⟨(not_t (beq_f c32)), rfl, ok1 (text_Name_ret d_0.System r40 h41)⟩
def discount_Check_p39 (d_0 : Tapi_Discount) (r45 : Bool) : List Prop := [((decide (d_0.Class > (9 : Int))) = false), ((.agg (Tapi_Window.enc d_0.Window) : AV) = .agg (Tapi_Window.enc d_0.Window)), (Ret Try.prog G0 34 [.agg (Tapi_Window.enc d_0.Window)] (.bool r45) [])]
theorem discount_Check_p39q (d_0 : Tapi_Discount) (c44 : ¬ (d_0.Class > (9 : Int))) (r45 : Bool) (h46 : discount_window d_0.Window = some r45) : allOk (discount_Check_p39 d_0 r45) := ⟨(decide_eq_false c44), rfl, ok1 (discount_window_ret d_0.Window r45 h46)⟩
theorem discount_Check_0 (d_0 : Tapi_Discount) (r1 : Bool) (h2 : text_Name d_0.Name = some r1) (c3 : r1 = true) (c4 : d_0.Kind < (1 : Int)) : Ret Try.prog G0 18 [.agg (Tapi_Discount.enc d_0)] (.int .i64 1) [] :=
  Ret.of_view 400 ((discount_Check_h1 d_0 r1) ++ ((discount_Check_h2) ++ ((.op (some true) .c) :: (cs 4 [.br true, .op none .c])))) [] (ps := ([((.str d_0.Name : AV) = .str d_0.Name), (Ret Try.prog G0 32 [.str d_0.Name] (.bool r1) [])] ++ ([((!r1) = false)] ++ [((decide (d_0.Kind < (1 : Int))) = true), (true = true)]))) (by kernel_rfl) (by kernel_rfl) (allOk_append.2 ⟨⟨rfl, ok1 (text_Name_ret d_0.Name r1 h2)⟩, (allOk_append.2 ⟨(ok1 (not_f c3)), ⟨(decide_eq_true c4), ok1 rfl⟩⟩)⟩)
theorem discount_Check_1 (d_0 : Tapi_Discount) (r1 : Bool) (h2 : text_Name d_0.Name = some r1) (c3 : r1 = true) (c4 : ¬ (d_0.Kind < (1 : Int))) (c5 : d_0.Kind > (3 : Int)) : Ret Try.prog G0 18 [.agg (Tapi_Discount.enc d_0)] (.int .i64 1) [] :=
  Ret.of_view 400 ((discount_Check_h1 d_0 r1) ++ ((discount_Check_h2) ++ ((discount_Check_h3) ++ [.br true, .op none .c]))) [] (ps := ([((.str d_0.Name : AV) = .str d_0.Name), (Ret Try.prog G0 32 [.str d_0.Name] (.bool r1) [])] ++ ([((!r1) = false)] ++ ([((decide (d_0.Kind < (1 : Int))) = false)] ++ [((decide (d_0.Kind > (3 : Int))) = true)])))) (by kernel_rfl) (by kernel_rfl) (allOk_append.2 ⟨⟨rfl, ok1 (text_Name_ret d_0.Name r1 h2)⟩, (allOk_append.2 ⟨(ok1 (not_f c3)), (allOk_append.2 ⟨(ok1 (decide_eq_false c4)), (ok1 (decide_eq_true c5))⟩)⟩)⟩)
theorem discount_Check_2 (d_0 : Tapi_Discount) (r1 : Bool) (h2 : text_Name d_0.Name = some r1) (c3 : r1 = true) (c4 : ¬ (d_0.Kind < (1 : Int))) (c5 : ¬ (d_0.Kind > (3 : Int))) (c6 : d_0.Amount < (0 : Int)) : Ret Try.prog G0 18 [.agg (Tapi_Discount.enc d_0)] (.int .i64 1) [] :=
  Ret.of_view 400 ((discount_Check_h1 d_0 r1) ++ ((discount_Check_h2) ++ ((discount_Check_h3) ++ ((discount_Check_h4) ++ [.op (some true) .c, .op (some true) .c, .op (some true) .c, .op (some true) .c, .op (some true) .c, .op (some true) .c, .op none (.b true), .op none .c, .br true, .op none .c])))) [] (ps := ([((.str d_0.Name : AV) = .str d_0.Name), (Ret Try.prog G0 32 [.str d_0.Name] (.bool r1) [])] ++ ([((!r1) = false)] ++ ([((decide (d_0.Kind < (1 : Int))) = false)] ++ ([((decide (d_0.Kind > (3 : Int))) = false)] ++ [((decide (d_0.Amount < (0 : Int))) = true), ((decide (d_0.Amount < (0 : Int))) = true), ((decide (d_0.Amount < (0 : Int))) = true), ((decide (d_0.Amount < (0 : Int))) = true), ((decide (d_0.Amount < (0 : Int))) = true), ((decide (d_0.Amount < (0 : Int))) = true), ((decide (d_0.Amount < (0 : Int))) = true), (true = true)]))))) (by kernel_rfl) (by kernel_rfl) (allOk_append.2 ⟨⟨rfl, ok1 (text_Name_ret d_0.Name r1 h2)⟩, (allOk_append.2 ⟨(ok1 (not_f c3)), (allOk_append.2 ⟨(ok1 (decide_eq_false c4)), (allOk_append.2 ⟨(ok1 (decide_eq_false c5)), ⟨(decide_eq_true c6), (decide_eq_true c6), (decide_eq_true c6), (decide_eq_true c6), (decide_eq_true c6), (decide_eq_true c6), (decide_eq_true c6), ok1 rfl⟩⟩)⟩)⟩)⟩)
theorem discount_Check_3 (d_0 : Tapi_Discount) (r1 : Bool) (h2 : text_Name d_0.Name = some r1) (c3 : r1 = true) (c4 : ¬ (d_0.Kind < (1 : Int))) (c5 : ¬ (d_0.Kind > (3 : Int))) (c6 : ¬ (d_0.Amount < (0 : Int))) (r7 : Int) (h8 : discount_most d_0.Kind = some r7) (c9 : d_0.Amount > r7) : Ret Try.prog G0 18 [.agg (Tapi_Discount.enc d_0)] (.int .i64 1) [] :=
  Ret.of_view 400 ((discount_Check_h1 d_0 r1) ++ ((discount_Check_h2) ++ ((discount_Check_h3) ++ ((discount_Check_h4) ++ ((discount_Check_h5 d_0 r7) ++ [.br true, .op none .c]))))) [] (ps := ([((.str d_0.Name : AV) = .str d_0.Name), (Ret Try.prog G0 32 [.str d_0.Name] (.bool r1) [])] ++ ([((!r1) = false)] ++ ([((decide (d_0.Kind < (1 : Int))) = false)] ++ ([((decide (d_0.Kind > (3 : Int))) = false)] ++ ((discount_Check_p32 d_0 r7) ++ [((decide (d_0.Amount > r7)) = true)])))))) (by kernel_rfl) (by kernel_rfl) (allOk_append.2 ⟨⟨rfl, ok1 (text_Name_ret d_0.Name r1 h2)⟩, (allOk_append.2 ⟨(ok1 (not_f c3)), (allOk_append.2 ⟨(ok1 (decide_eq_false c4)), (allOk_append.2 ⟨(ok1 (decide_eq_false c5)), (allOk_append.2 ⟨(discount_Check_p32q d_0 c6 r7 h8), (ok1 (decide_eq_true c9))⟩)⟩)⟩)⟩)⟩)
theorem discount_Check_4 (d_0 : Tapi_Discount) (r1 : Bool) (h2 : text_Name d_0.Name = some r1) (c3 : r1 = true) (c4 : ¬ (d_0.Kind < (1 : Int))) (c5 : ¬ (d_0.Kind > (3 : Int))) (c6 : ¬ (d_0.Amount < (0 : Int))) (r7 : Int) (h8 : discount_most d_0.Kind = some r7) (c9 : ¬ (d_0.Amount > r7)) (c10 : d_0.Group = []) (c11 : d_0.System = []) (c12 : d_0.Class < (0 : Int)) : Ret Try.prog G0 18 [.agg (Tapi_Discount.enc d_0)] (.int .i64 20) [] :=
  Ret.of_view 400 ((discount_Check_h1 d_0 r1) ++ ((discount_Check_h2) ++ ((discount_Check_h3) ++ ((discount_Check_h4) ++ ((discount_Check_h5 d_0 r7) ++ ((discount_Check_h6) ++ ((discount_Check_h7) ++ ((discount_Check_h8) ++ ((.op (some true) .c) :: (cs 4 [.br true, .op none .c])))))))))) [] (ps := ([((.str d_0.Name : AV) = .str d_0.Name), (Ret Try.prog G0 32 [.str d_0.Name] (.bool r1) [])] ++ ([((!r1) = false)] ++ ([((decide (d_0.Kind < (1 : Int))) = false)] ++ ([((decide (d_0.Kind > (3 : Int))) = false)] ++ ((discount_Check_p32 d_0 r7) ++ ([((decide (d_0.Amount > r7)) = false)] ++ ([((!(d_0.Group == [])) = false), (false = false)] ++ ([((!(d_0.System == [])) = false), (false = false)] ++ [((decide (d_0.Class < (0 : Int))) = true), (true = true)]))))))))) (by kernel_rfl) (by kernel_rfl) (allOk_append.2 ⟨⟨rfl, ok1 (text_Name_ret d_0.Name r1 h2)⟩, (allOk_append.2 ⟨(ok1 (not_f c3)), (allOk_append.2 ⟨(ok1 (decide_eq_false c4)), (allOk_append.2 ⟨(ok1 (decide_eq_false c5)), (allOk_append.2 ⟨(discount_Check_p32q d_0 c6 r7 h8), (allOk_append.2 ⟨(ok1 (decide_eq_false c9)), (allOk_append.2 ⟨⟨(not_f (beq_t c10)), ok1 rfl⟩, (allOk_append.2 ⟨⟨(not_f (beq_t c11)), ok1 rfl⟩, ⟨(decide_eq_true c12), ok1 rfl⟩⟩)⟩)⟩)⟩)⟩)⟩)⟩)⟩)
theorem discount_Check_5 (d_0 : Tapi_Discount) (r1 : Bool) (h2 : text_Name d_0.Name = some r1) (c3 : r1 = true) (c4 : ¬ (d_0.Kind < (1 : Int))) (c5 : ¬ (d_0.Kind > (3 : Int))) (c6 : ¬ (d_0.Amount < (0 : Int))) (r7 : Int) (h8 : discount_most d_0.Kind = some r7) (c9 : ¬ (d_0.Amount > r7)) (c10 : d_0.Group = []) (c11 : d_0.System = []) (c12 : ¬ (d_0.Class < (0 : Int))) (c13 : d_0.Class > (9 : Int)) : Ret Try.prog G0 18 [.agg (Tapi_Discount.enc d_0)] (.int .i64 20) [] :=
  Ret.of_view 400 ((discount_Check_h1 d_0 r1) ++ ((discount_Check_h2) ++ ((discount_Check_h3) ++ ((discount_Check_h4) ++ ((discount_Check_h5 d_0 r7) ++ ((discount_Check_h6) ++ ((discount_Check_h7) ++ ((discount_Check_h8) ++ ((discount_Check_h9) ++ [.br true, .op none .c]))))))))) [] (ps := ([((.str d_0.Name : AV) = .str d_0.Name), (Ret Try.prog G0 32 [.str d_0.Name] (.bool r1) [])] ++ ([((!r1) = false)] ++ ([((decide (d_0.Kind < (1 : Int))) = false)] ++ ([((decide (d_0.Kind > (3 : Int))) = false)] ++ ((discount_Check_p32 d_0 r7) ++ ([((decide (d_0.Amount > r7)) = false)] ++ ([((!(d_0.Group == [])) = false), (false = false)] ++ ([((!(d_0.System == [])) = false), (false = false)] ++ ([((decide (d_0.Class < (0 : Int))) = false)] ++ [((decide (d_0.Class > (9 : Int))) = true)])))))))))) (by kernel_rfl) (by kernel_rfl) (allOk_append.2 ⟨⟨rfl, ok1 (text_Name_ret d_0.Name r1 h2)⟩, (allOk_append.2 ⟨(ok1 (not_f c3)), (allOk_append.2 ⟨(ok1 (decide_eq_false c4)), (allOk_append.2 ⟨(ok1 (decide_eq_false c5)), (allOk_append.2 ⟨(discount_Check_p32q d_0 c6 r7 h8), (allOk_append.2 ⟨(ok1 (decide_eq_false c9)), (allOk_append.2 ⟨⟨(not_f (beq_t c10)), ok1 rfl⟩, (allOk_append.2 ⟨⟨(not_f (beq_t c11)), ok1 rfl⟩, (allOk_append.2 ⟨(ok1 (decide_eq_false c12)), (ok1 (decide_eq_true c13))⟩)⟩)⟩)⟩)⟩)⟩)⟩)⟩)⟩)
theorem discount_Check_6 (d_0 : Tapi_Discount) (r1 : Bool) (h2 : text_Name d_0.Name = some r1) (c3 : r1 = true) (c4 : ¬ (d_0.Kind < (1 : Int))) (c5 : ¬ (d_0.Kind > (3 : Int))) (c6 : ¬ (d_0.Amount < (0 : Int))) (r7 : Int) (h8 : discount_most d_0.Kind = some r7) (c9 : ¬ (d_0.Amount > r7)) (c10 : d_0.Group = []) (c11 : d_0.System = []) (c12 : ¬ (d_0.Class < (0 : Int))) (c13 : ¬ (d_0.Class > (9 : Int))) (r14 : Bool) (h15 : discount_window d_0.Window = some r14) (c16 : r14 = true) (c17 : d_0.Least < (0 : Int)) : Ret Try.prog G0 18 [.agg (Tapi_Discount.enc d_0)] (.int .i64 2) [] :=
  Ret.of_view 400 ((discount_Check_h1 d_0 r1) ++ ((discount_Check_h2) ++ ((discount_Check_h3) ++ ((discount_Check_h4) ++ ((discount_Check_h5 d_0 r7) ++ ((discount_Check_h6) ++ ((discount_Check_h7) ++ ((discount_Check_h8) ++ ((discount_Check_h9) ++ ((discount_Check_h10 d_0 r14) ++ ((discount_Check_h11) ++ ((.op (some true) .c) :: (cs 4 [.br true, .op none .c]))))))))))))) [] (ps := ([((.str d_0.Name : AV) = .str d_0.Name), (Ret Try.prog G0 32 [.str d_0.Name] (.bool r1) [])] ++ ([((!r1) = false)] ++ ([((decide (d_0.Kind < (1 : Int))) = false)] ++ ([((decide (d_0.Kind > (3 : Int))) = false)] ++ ((discount_Check_p32 d_0 r7) ++ ([((decide (d_0.Amount > r7)) = false)] ++ ([((!(d_0.Group == [])) = false), (false = false)] ++ ([((!(d_0.System == [])) = false), (false = false)] ++ ([((decide (d_0.Class < (0 : Int))) = false)] ++ ((discount_Check_p33 d_0 r14) ++ ([((!r14) = false)] ++ [((decide (d_0.Least < (0 : Int))) = true), (true = true)])))))))))))) (by kernel_rfl) (by kernel_rfl) (allOk_append.2 ⟨⟨rfl, ok1 (text_Name_ret d_0.Name r1 h2)⟩, (allOk_append.2 ⟨(ok1 (not_f c3)), (allOk_append.2 ⟨(ok1 (decide_eq_false c4)), (allOk_append.2 ⟨(ok1 (decide_eq_false c5)), (allOk_append.2 ⟨(discount_Check_p32q d_0 c6 r7 h8), (allOk_append.2 ⟨(ok1 (decide_eq_false c9)), (allOk_append.2 ⟨⟨(not_f (beq_t c10)), ok1 rfl⟩, (allOk_append.2 ⟨⟨(not_f (beq_t c11)), ok1 rfl⟩, (allOk_append.2 ⟨(ok1 (decide_eq_false c12)), (allOk_append.2 ⟨(discount_Check_p33q d_0 c13 r14 h15), (allOk_append.2 ⟨(ok1 (not_f c16)), ⟨(decide_eq_true c17), ok1 rfl⟩⟩)⟩)⟩)⟩)⟩)⟩)⟩)⟩)⟩)⟩)⟩)
theorem discount_Check_7 (d_0 : Tapi_Discount) (r1 : Bool) (h2 : text_Name d_0.Name = some r1) (c3 : r1 = true) (c4 : ¬ (d_0.Kind < (1 : Int))) (c5 : ¬ (d_0.Kind > (3 : Int))) (c6 : ¬ (d_0.Amount < (0 : Int))) (r7 : Int) (h8 : discount_most d_0.Kind = some r7) (c9 : ¬ (d_0.Amount > r7)) (c10 : d_0.Group = []) (c11 : d_0.System = []) (c12 : ¬ (d_0.Class < (0 : Int))) (c13 : ¬ (d_0.Class > (9 : Int))) (r14 : Bool) (h15 : discount_window d_0.Window = some r14) (c16 : r14 = true) (c17 : ¬ (d_0.Least < (0 : Int))) (c18 : d_0.Least > (2147483648 : Int)) : Ret Try.prog G0 18 [.agg (Tapi_Discount.enc d_0)] (.int .i64 2) [] :=
  Ret.of_view 400 ((discount_Check_h1 d_0 r1) ++ ((discount_Check_h2) ++ ((discount_Check_h3) ++ ((discount_Check_h4) ++ ((discount_Check_h5 d_0 r7) ++ ((discount_Check_h6) ++ ((discount_Check_h7) ++ ((discount_Check_h8) ++ ((discount_Check_h9) ++ ((discount_Check_h10 d_0 r14) ++ ((discount_Check_h11) ++ ((discount_Check_h12) ++ [.br true, .op none .c])))))))))))) [] (ps := ([((.str d_0.Name : AV) = .str d_0.Name), (Ret Try.prog G0 32 [.str d_0.Name] (.bool r1) [])] ++ ([((!r1) = false)] ++ ([((decide (d_0.Kind < (1 : Int))) = false)] ++ ([((decide (d_0.Kind > (3 : Int))) = false)] ++ ((discount_Check_p32 d_0 r7) ++ ([((decide (d_0.Amount > r7)) = false)] ++ ([((!(d_0.Group == [])) = false), (false = false)] ++ ([((!(d_0.System == [])) = false), (false = false)] ++ ([((decide (d_0.Class < (0 : Int))) = false)] ++ ((discount_Check_p33 d_0 r14) ++ ([((!r14) = false)] ++ ([((decide (d_0.Least < (0 : Int))) = false)] ++ [((decide (d_0.Least > (2147483648 : Int))) = true)]))))))))))))) (by kernel_rfl) (by kernel_rfl) (allOk_append.2 ⟨⟨rfl, ok1 (text_Name_ret d_0.Name r1 h2)⟩, (allOk_append.2 ⟨(ok1 (not_f c3)), (allOk_append.2 ⟨(ok1 (decide_eq_false c4)), (allOk_append.2 ⟨(ok1 (decide_eq_false c5)), (allOk_append.2 ⟨(discount_Check_p32q d_0 c6 r7 h8), (allOk_append.2 ⟨(ok1 (decide_eq_false c9)), (allOk_append.2 ⟨⟨(not_f (beq_t c10)), ok1 rfl⟩, (allOk_append.2 ⟨⟨(not_f (beq_t c11)), ok1 rfl⟩, (allOk_append.2 ⟨(ok1 (decide_eq_false c12)), (allOk_append.2 ⟨(discount_Check_p33q d_0 c13 r14 h15), (allOk_append.2 ⟨(ok1 (not_f c16)), (allOk_append.2 ⟨(ok1 (decide_eq_false c17)), (ok1 (decide_eq_true c18))⟩)⟩)⟩)⟩)⟩)⟩)⟩)⟩)⟩)⟩)⟩)⟩)
theorem discount_Check_8 (d_0 : Tapi_Discount) (r1 : Bool) (h2 : text_Name d_0.Name = some r1) (c3 : r1 = true) (c4 : ¬ (d_0.Kind < (1 : Int))) (c5 : ¬ (d_0.Kind > (3 : Int))) (c6 : ¬ (d_0.Amount < (0 : Int))) (r7 : Int) (h8 : discount_most d_0.Kind = some r7) (c9 : ¬ (d_0.Amount > r7)) (c10 : d_0.Group = []) (c11 : d_0.System = []) (c12 : ¬ (d_0.Class < (0 : Int))) (c13 : ¬ (d_0.Class > (9 : Int))) (r14 : Bool) (h15 : discount_window d_0.Window = some r14) (c16 : r14 = true) (c17 : ¬ (d_0.Least < (0 : Int))) (c18 : ¬ (d_0.Least > (2147483648 : Int))) : Ret Try.prog G0 18 [.agg (Tapi_Discount.enc d_0)] (.int .i64 0) [] :=
  Ret.of_view 400 ((discount_Check_h1 d_0 r1) ++ ((discount_Check_h2) ++ ((discount_Check_h3) ++ ((discount_Check_h4) ++ ((discount_Check_h5 d_0 r7) ++ ((discount_Check_h6) ++ ((discount_Check_h7) ++ ((discount_Check_h8) ++ ((discount_Check_h9) ++ ((discount_Check_h10 d_0 r14) ++ ((discount_Check_h11) ++ ((discount_Check_h12) ++ [.br false, .op none .c])))))))))))) [] (ps := ([((.str d_0.Name : AV) = .str d_0.Name), (Ret Try.prog G0 32 [.str d_0.Name] (.bool r1) [])] ++ ([((!r1) = false)] ++ ([((decide (d_0.Kind < (1 : Int))) = false)] ++ ([((decide (d_0.Kind > (3 : Int))) = false)] ++ ((discount_Check_p32 d_0 r7) ++ ([((decide (d_0.Amount > r7)) = false)] ++ ([((!(d_0.Group == [])) = false), (false = false)] ++ ([((!(d_0.System == [])) = false), (false = false)] ++ ([((decide (d_0.Class < (0 : Int))) = false)] ++ ((discount_Check_p33 d_0 r14) ++ ([((!r14) = false)] ++ ([((decide (d_0.Least < (0 : Int))) = false)] ++ [((decide (d_0.Least > (2147483648 : Int))) = false)]))))))))))))) (by kernel_rfl) (by kernel_rfl) (allOk_append.2 ⟨⟨rfl, ok1 (text_Name_ret d_0.Name r1 h2)⟩, (allOk_append.2 ⟨(ok1 (not_f c3)), (allOk_append.2 ⟨(ok1 (decide_eq_false c4)), (allOk_append.2 ⟨(ok1 (decide_eq_false c5)), (allOk_append.2 ⟨(discount_Check_p32q d_0 c6 r7 h8), (allOk_append.2 ⟨(ok1 (decide_eq_false c9)), (allOk_append.2 ⟨⟨(not_f (beq_t c10)), ok1 rfl⟩, (allOk_append.2 ⟨⟨(not_f (beq_t c11)), ok1 rfl⟩, (allOk_append.2 ⟨(ok1 (decide_eq_false c12)), (allOk_append.2 ⟨(discount_Check_p33q d_0 c13 r14 h15), (allOk_append.2 ⟨(ok1 (not_f c16)), (allOk_append.2 ⟨(ok1 (decide_eq_false c17)), (ok1 (decide_eq_false c18))⟩)⟩)⟩)⟩)⟩)⟩)⟩)⟩)⟩)⟩)⟩)⟩)
theorem discount_Check_9 (d_0 : Tapi_Discount) (r1 : Bool) (h2 : text_Name d_0.Name = some r1) (c3 : r1 = true) (c4 : ¬ (d_0.Kind < (1 : Int))) (c5 : ¬ (d_0.Kind > (3 : Int))) (c6 : ¬ (d_0.Amount < (0 : Int))) (r7 : Int) (h8 : discount_most d_0.Kind = some r7) (c9 : ¬ (d_0.Amount > r7)) (c10 : d_0.Group = []) (c11 : d_0.System = []) (c12 : ¬ (d_0.Class < (0 : Int))) (c13 : ¬ (d_0.Class > (9 : Int))) (r14 : Bool) (h15 : discount_window d_0.Window = some r14) (c16 : ¬ (r14 = true)) : Ret Try.prog G0 18 [.agg (Tapi_Discount.enc d_0)] (.int .i64 12) [] :=
  Ret.of_view 400 ((discount_Check_h1 d_0 r1) ++ ((discount_Check_h2) ++ ((discount_Check_h3) ++ ((discount_Check_h4) ++ ((discount_Check_h5 d_0 r7) ++ ((discount_Check_h6) ++ ((discount_Check_h7) ++ ((discount_Check_h8) ++ ((discount_Check_h9) ++ ((discount_Check_h10 d_0 r14) ++ [.br true, .op none .c])))))))))) [] (ps := ([((.str d_0.Name : AV) = .str d_0.Name), (Ret Try.prog G0 32 [.str d_0.Name] (.bool r1) [])] ++ ([((!r1) = false)] ++ ([((decide (d_0.Kind < (1 : Int))) = false)] ++ ([((decide (d_0.Kind > (3 : Int))) = false)] ++ ((discount_Check_p32 d_0 r7) ++ ([((decide (d_0.Amount > r7)) = false)] ++ ([((!(d_0.Group == [])) = false), (false = false)] ++ ([((!(d_0.System == [])) = false), (false = false)] ++ ([((decide (d_0.Class < (0 : Int))) = false)] ++ ((discount_Check_p33 d_0 r14) ++ [((!r14) = true)]))))))))))) (by kernel_rfl) (by kernel_rfl) (allOk_append.2 ⟨⟨rfl, ok1 (text_Name_ret d_0.Name r1 h2)⟩, (allOk_append.2 ⟨(ok1 (not_f c3)), (allOk_append.2 ⟨(ok1 (decide_eq_false c4)), (allOk_append.2 ⟨(ok1 (decide_eq_false c5)), (allOk_append.2 ⟨(discount_Check_p32q d_0 c6 r7 h8), (allOk_append.2 ⟨(ok1 (decide_eq_false c9)), (allOk_append.2 ⟨⟨(not_f (beq_t c10)), ok1 rfl⟩, (allOk_append.2 ⟨⟨(not_f (beq_t c11)), ok1 rfl⟩, (allOk_append.2 ⟨(ok1 (decide_eq_false c12)), (allOk_append.2 ⟨(discount_Check_p33q d_0 c13 r14 h15), (ok1 (not_t (eq_false_of_ne_true c16)))⟩)⟩)⟩)⟩)⟩)⟩)⟩)⟩)⟩)⟩)
theorem discount_Check_10 (d_0 : Tapi_Discount) (r1 : Bool) (h2 : text_Name d_0.Name = some r1) (c3 : r1 = true) (c4 : ¬ (d_0.Kind < (1 : Int))) (c5 : ¬ (d_0.Kind > (3 : Int))) (c6 : ¬ (d_0.Amount < (0 : Int))) (r7 : Int) (h8 : discount_most d_0.Kind = some r7) (c9 : ¬ (d_0.Amount > r7)) (c10 : d_0.Group = []) (c11 : ¬ (d_0.System = [])) (r19 : Bool) (h20 : text_Name d_0.System = some r19) (c21 : r19 = true) (c22 : d_0.Class < (0 : Int)) : Ret Try.prog G0 18 [.agg (Tapi_Discount.enc d_0)] (.int .i64 20) [] :=
  Ret.of_view 400 ((discount_Check_h1 d_0 r1) ++ ((discount_Check_h2) ++ ((discount_Check_h3) ++ ((discount_Check_h4) ++ ((discount_Check_h5 d_0 r7) ++ ((discount_Check_h6) ++ ((discount_Check_h7) ++ ((discount_Check_h13 d_0 r19) ++ ((discount_Check_h14) ++ ((.op (some true) .c) :: (cs 4 [.br true, .op none .c]))))))))))) [] (ps := ([((.str d_0.Name : AV) = .str d_0.Name), (Ret Try.prog G0 32 [.str d_0.Name] (.bool r1) [])] ++ ([((!r1) = false)] ++ ([((decide (d_0.Kind < (1 : Int))) = false)] ++ ([((decide (d_0.Kind > (3 : Int))) = false)] ++ ((discount_Check_p32 d_0 r7) ++ ([((decide (d_0.Amount > r7)) = false)] ++ ([((!(d_0.Group == [])) = false), (false = false)] ++ ((discount_Check_p34 d_0 r19) ++ ([((!r19) = false)] ++ [((decide (d_0.Class < (0 : Int))) = true), (true = true)])))))))))) (by kernel_rfl) (by kernel_rfl) (allOk_append.2 ⟨⟨rfl, ok1 (text_Name_ret d_0.Name r1 h2)⟩, (allOk_append.2 ⟨(ok1 (not_f c3)), (allOk_append.2 ⟨(ok1 (decide_eq_false c4)), (allOk_append.2 ⟨(ok1 (decide_eq_false c5)), (allOk_append.2 ⟨(discount_Check_p32q d_0 c6 r7 h8), (allOk_append.2 ⟨(ok1 (decide_eq_false c9)), (allOk_append.2 ⟨⟨(not_f (beq_t c10)), ok1 rfl⟩, (allOk_append.2 ⟨(discount_Check_p34q d_0 c11 r19 h20), (allOk_append.2 ⟨(ok1 (not_f c21)), ⟨(decide_eq_true c22), ok1 rfl⟩⟩)⟩)⟩)⟩)⟩)⟩)⟩)⟩)⟩)
theorem discount_Check_11 (d_0 : Tapi_Discount) (r1 : Bool) (h2 : text_Name d_0.Name = some r1) (c3 : r1 = true) (c4 : ¬ (d_0.Kind < (1 : Int))) (c5 : ¬ (d_0.Kind > (3 : Int))) (c6 : ¬ (d_0.Amount < (0 : Int))) (r7 : Int) (h8 : discount_most d_0.Kind = some r7) (c9 : ¬ (d_0.Amount > r7)) (c10 : d_0.Group = []) (c11 : ¬ (d_0.System = [])) (r19 : Bool) (h20 : text_Name d_0.System = some r19) (c21 : r19 = true) (c22 : ¬ (d_0.Class < (0 : Int))) (c23 : d_0.Class > (9 : Int)) : Ret Try.prog G0 18 [.agg (Tapi_Discount.enc d_0)] (.int .i64 20) [] :=
  Ret.of_view 400 ((discount_Check_h1 d_0 r1) ++ ((discount_Check_h2) ++ ((discount_Check_h3) ++ ((discount_Check_h4) ++ ((discount_Check_h5 d_0 r7) ++ ((discount_Check_h6) ++ ((discount_Check_h7) ++ ((discount_Check_h13 d_0 r19) ++ ((discount_Check_h14) ++ ((discount_Check_h15) ++ [.br true, .op none .c])))))))))) [] (ps := ([((.str d_0.Name : AV) = .str d_0.Name), (Ret Try.prog G0 32 [.str d_0.Name] (.bool r1) [])] ++ ([((!r1) = false)] ++ ([((decide (d_0.Kind < (1 : Int))) = false)] ++ ([((decide (d_0.Kind > (3 : Int))) = false)] ++ ((discount_Check_p32 d_0 r7) ++ ([((decide (d_0.Amount > r7)) = false)] ++ ([((!(d_0.Group == [])) = false), (false = false)] ++ ((discount_Check_p34 d_0 r19) ++ ([((!r19) = false)] ++ ([((decide (d_0.Class < (0 : Int))) = false)] ++ [((decide (d_0.Class > (9 : Int))) = true)]))))))))))) (by kernel_rfl) (by kernel_rfl) (allOk_append.2 ⟨⟨rfl, ok1 (text_Name_ret d_0.Name r1 h2)⟩, (allOk_append.2 ⟨(ok1 (not_f c3)), (allOk_append.2 ⟨(ok1 (decide_eq_false c4)), (allOk_append.2 ⟨(ok1 (decide_eq_false c5)), (allOk_append.2 ⟨(discount_Check_p32q d_0 c6 r7 h8), (allOk_append.2 ⟨(ok1 (decide_eq_false c9)), (allOk_append.2 ⟨⟨(not_f (beq_t c10)), ok1 rfl⟩, (allOk_append.2 ⟨(discount_Check_p34q d_0 c11 r19 h20), (allOk_append.2 ⟨(ok1 (not_f c21)), (allOk_append.2 ⟨(ok1 (decide_eq_false c22)), (ok1 (decide_eq_true c23))⟩)⟩)⟩)⟩)⟩)⟩)⟩)⟩)⟩)⟩)
theorem discount_Check_12 (d_0 : Tapi_Discount) (r1 : Bool) (h2 : text_Name d_0.Name = some r1) (c3 : r1 = true) (c4 : ¬ (d_0.Kind < (1 : Int))) (c5 : ¬ (d_0.Kind > (3 : Int))) (c6 : ¬ (d_0.Amount < (0 : Int))) (r7 : Int) (h8 : discount_most d_0.Kind = some r7) (c9 : ¬ (d_0.Amount > r7)) (c10 : d_0.Group = []) (c11 : ¬ (d_0.System = [])) (r19 : Bool) (h20 : text_Name d_0.System = some r19) (c21 : r19 = true) (c22 : ¬ (d_0.Class < (0 : Int))) (c23 : ¬ (d_0.Class > (9 : Int))) (r24 : Bool) (h25 : discount_window d_0.Window = some r24) (c26 : r24 = true) (c27 : d_0.Least < (0 : Int)) : Ret Try.prog G0 18 [.agg (Tapi_Discount.enc d_0)] (.int .i64 2) [] :=
  Ret.of_view 400 ((discount_Check_h1 d_0 r1) ++ ((discount_Check_h2) ++ ((discount_Check_h3) ++ ((discount_Check_h4) ++ ((discount_Check_h5 d_0 r7) ++ ((discount_Check_h6) ++ ((discount_Check_h7) ++ ((discount_Check_h13 d_0 r19) ++ ((discount_Check_h14) ++ ((discount_Check_h15) ++ ((discount_Check_h16 d_0 r24) ++ ((discount_Check_h17) ++ ((.op (some true) .c) :: (cs 4 [.br true, .op none .c])))))))))))))) [] (ps := ([((.str d_0.Name : AV) = .str d_0.Name), (Ret Try.prog G0 32 [.str d_0.Name] (.bool r1) [])] ++ ([((!r1) = false)] ++ ([((decide (d_0.Kind < (1 : Int))) = false)] ++ ([((decide (d_0.Kind > (3 : Int))) = false)] ++ ((discount_Check_p32 d_0 r7) ++ ([((decide (d_0.Amount > r7)) = false)] ++ ([((!(d_0.Group == [])) = false), (false = false)] ++ ((discount_Check_p34 d_0 r19) ++ ([((!r19) = false)] ++ ([((decide (d_0.Class < (0 : Int))) = false)] ++ ((discount_Check_p35 d_0 r24) ++ ([((!r24) = false)] ++ [((decide (d_0.Least < (0 : Int))) = true), (true = true)]))))))))))))) (by kernel_rfl) (by kernel_rfl) (allOk_append.2 ⟨⟨rfl, ok1 (text_Name_ret d_0.Name r1 h2)⟩, (allOk_append.2 ⟨(ok1 (not_f c3)), (allOk_append.2 ⟨(ok1 (decide_eq_false c4)), (allOk_append.2 ⟨(ok1 (decide_eq_false c5)), (allOk_append.2 ⟨(discount_Check_p32q d_0 c6 r7 h8), (allOk_append.2 ⟨(ok1 (decide_eq_false c9)), (allOk_append.2 ⟨⟨(not_f (beq_t c10)), ok1 rfl⟩, (allOk_append.2 ⟨(discount_Check_p34q d_0 c11 r19 h20), (allOk_append.2 ⟨(ok1 (not_f c21)), (allOk_append.2 ⟨(ok1 (decide_eq_false c22)), (allOk_append.2 ⟨(discount_Check_p35q d_0 c23 r24 h25), (allOk_append.2 ⟨(ok1 (not_f c26)), ⟨(decide_eq_true c27), ok1 rfl⟩⟩)⟩)⟩)⟩)⟩)⟩)⟩)⟩)⟩)⟩)⟩)⟩)
theorem discount_Check_13 (d_0 : Tapi_Discount) (r1 : Bool) (h2 : text_Name d_0.Name = some r1) (c3 : r1 = true) (c4 : ¬ (d_0.Kind < (1 : Int))) (c5 : ¬ (d_0.Kind > (3 : Int))) (c6 : ¬ (d_0.Amount < (0 : Int))) (r7 : Int) (h8 : discount_most d_0.Kind = some r7) (c9 : ¬ (d_0.Amount > r7)) (c10 : d_0.Group = []) (c11 : ¬ (d_0.System = [])) (r19 : Bool) (h20 : text_Name d_0.System = some r19) (c21 : r19 = true) (c22 : ¬ (d_0.Class < (0 : Int))) (c23 : ¬ (d_0.Class > (9 : Int))) (r24 : Bool) (h25 : discount_window d_0.Window = some r24) (c26 : r24 = true) (c27 : ¬ (d_0.Least < (0 : Int))) (c28 : d_0.Least > (2147483648 : Int)) : Ret Try.prog G0 18 [.agg (Tapi_Discount.enc d_0)] (.int .i64 2) [] :=
  Ret.of_view 400 ((discount_Check_h1 d_0 r1) ++ ((discount_Check_h2) ++ ((discount_Check_h3) ++ ((discount_Check_h4) ++ ((discount_Check_h5 d_0 r7) ++ ((discount_Check_h6) ++ ((discount_Check_h7) ++ ((discount_Check_h13 d_0 r19) ++ ((discount_Check_h14) ++ ((discount_Check_h15) ++ ((discount_Check_h16 d_0 r24) ++ ((discount_Check_h17) ++ ((discount_Check_h18) ++ [.br true, .op none .c]))))))))))))) [] (ps := ([((.str d_0.Name : AV) = .str d_0.Name), (Ret Try.prog G0 32 [.str d_0.Name] (.bool r1) [])] ++ ([((!r1) = false)] ++ ([((decide (d_0.Kind < (1 : Int))) = false)] ++ ([((decide (d_0.Kind > (3 : Int))) = false)] ++ ((discount_Check_p32 d_0 r7) ++ ([((decide (d_0.Amount > r7)) = false)] ++ ([((!(d_0.Group == [])) = false), (false = false)] ++ ((discount_Check_p34 d_0 r19) ++ ([((!r19) = false)] ++ ([((decide (d_0.Class < (0 : Int))) = false)] ++ ((discount_Check_p35 d_0 r24) ++ ([((!r24) = false)] ++ ([((decide (d_0.Least < (0 : Int))) = false)] ++ [((decide (d_0.Least > (2147483648 : Int))) = true)])))))))))))))) (by kernel_rfl) (by kernel_rfl) (allOk_append.2 ⟨⟨rfl, ok1 (text_Name_ret d_0.Name r1 h2)⟩, (allOk_append.2 ⟨(ok1 (not_f c3)), (allOk_append.2 ⟨(ok1 (decide_eq_false c4)), (allOk_append.2 ⟨(ok1 (decide_eq_false c5)), (allOk_append.2 ⟨(discount_Check_p32q d_0 c6 r7 h8), (allOk_append.2 ⟨(ok1 (decide_eq_false c9)), (allOk_append.2 ⟨⟨(not_f (beq_t c10)), ok1 rfl⟩, (allOk_append.2 ⟨(discount_Check_p34q d_0 c11 r19 h20), (allOk_append.2 ⟨(ok1 (not_f c21)), (allOk_append.2 ⟨(ok1 (decide_eq_false c22)), (allOk_append.2 ⟨(discount_Check_p35q d_0 c23 r24 h25), (allOk_append.2 ⟨(ok1 (not_f c26)), (allOk_append.2 ⟨(ok1 (decide_eq_false c27)), (ok1 (decide_eq_true c28))⟩)⟩)⟩)⟩)⟩)⟩)⟩)⟩)⟩)⟩)⟩)⟩)⟩)
theorem discount_Check_14 (d_0 : Tapi_Discount) (r1 : Bool) (h2 : text_Name d_0.Name = some r1) (c3 : r1 = true) (c4 : ¬ (d_0.Kind < (1 : Int))) (c5 : ¬ (d_0.Kind > (3 : Int))) (c6 : ¬ (d_0.Amount < (0 : Int))) (r7 : Int) (h8 : discount_most d_0.Kind = some r7) (c9 : ¬ (d_0.Amount > r7)) (c10 : d_0.Group = []) (c11 : ¬ (d_0.System = [])) (r19 : Bool) (h20 : text_Name d_0.System = some r19) (c21 : r19 = true) (c22 : ¬ (d_0.Class < (0 : Int))) (c23 : ¬ (d_0.Class > (9 : Int))) (r24 : Bool) (h25 : discount_window d_0.Window = some r24) (c26 : r24 = true) (c27 : ¬ (d_0.Least < (0 : Int))) (c28 : ¬ (d_0.Least > (2147483648 : Int))) : Ret Try.prog G0 18 [.agg (Tapi_Discount.enc d_0)] (.int .i64 0) [] :=
  Ret.of_view 400 ((discount_Check_h1 d_0 r1) ++ ((discount_Check_h2) ++ ((discount_Check_h3) ++ ((discount_Check_h4) ++ ((discount_Check_h5 d_0 r7) ++ ((discount_Check_h6) ++ ((discount_Check_h7) ++ ((discount_Check_h13 d_0 r19) ++ ((discount_Check_h14) ++ ((discount_Check_h15) ++ ((discount_Check_h16 d_0 r24) ++ ((discount_Check_h17) ++ ((discount_Check_h18) ++ [.br false, .op none .c]))))))))))))) [] (ps := ([((.str d_0.Name : AV) = .str d_0.Name), (Ret Try.prog G0 32 [.str d_0.Name] (.bool r1) [])] ++ ([((!r1) = false)] ++ ([((decide (d_0.Kind < (1 : Int))) = false)] ++ ([((decide (d_0.Kind > (3 : Int))) = false)] ++ ((discount_Check_p32 d_0 r7) ++ ([((decide (d_0.Amount > r7)) = false)] ++ ([((!(d_0.Group == [])) = false), (false = false)] ++ ((discount_Check_p34 d_0 r19) ++ ([((!r19) = false)] ++ ([((decide (d_0.Class < (0 : Int))) = false)] ++ ((discount_Check_p35 d_0 r24) ++ ([((!r24) = false)] ++ ([((decide (d_0.Least < (0 : Int))) = false)] ++ [((decide (d_0.Least > (2147483648 : Int))) = false)])))))))))))))) (by kernel_rfl) (by kernel_rfl) (allOk_append.2 ⟨⟨rfl, ok1 (text_Name_ret d_0.Name r1 h2)⟩, (allOk_append.2 ⟨(ok1 (not_f c3)), (allOk_append.2 ⟨(ok1 (decide_eq_false c4)), (allOk_append.2 ⟨(ok1 (decide_eq_false c5)), (allOk_append.2 ⟨(discount_Check_p32q d_0 c6 r7 h8), (allOk_append.2 ⟨(ok1 (decide_eq_false c9)), (allOk_append.2 ⟨⟨(not_f (beq_t c10)), ok1 rfl⟩, (allOk_append.2 ⟨(discount_Check_p34q d_0 c11 r19 h20), (allOk_append.2 ⟨(ok1 (not_f c21)), (allOk_append.2 ⟨(ok1 (decide_eq_false c22)), (allOk_append.2 ⟨(discount_Check_p35q d_0 c23 r24 h25), (allOk_append.2 ⟨(ok1 (not_f c26)), (allOk_append.2 ⟨(ok1 (decide_eq_false c27)), (ok1 (decide_eq_false c28))⟩)⟩)⟩)⟩)⟩)⟩)⟩)⟩)⟩)⟩)⟩)⟩)⟩)
theorem discount_Check_15 (d_0 : Tapi_Discount) (r1 : Bool) (h2 : text_Name d_0.Name = some r1) (c3 : r1 = true) (c4 : ¬ (d_0.Kind < (1 : Int))) (c5 : ¬ (d_0.Kind > (3 : Int))) (c6 : ¬ (d_0.Amount < (0 : Int))) (r7 : Int) (h8 : discount_most d_0.Kind = some r7) (c9 : ¬ (d_0.Amount > r7)) (c10 : d_0.Group = []) (c11 : ¬ (d_0.System = [])) (r19 : Bool) (h20 : text_Name d_0.System = some r19) (c21 : r19 = true) (c22 : ¬ (d_0.Class < (0 : Int))) (c23 : ¬ (d_0.Class > (9 : Int))) (r24 : Bool) (h25 : discount_window d_0.Window = some r24) (c26 : ¬ (r24 = true)) : Ret Try.prog G0 18 [.agg (Tapi_Discount.enc d_0)] (.int .i64 12) [] :=
  Ret.of_view 400 ((discount_Check_h1 d_0 r1) ++ ((discount_Check_h2) ++ ((discount_Check_h3) ++ ((discount_Check_h4) ++ ((discount_Check_h5 d_0 r7) ++ ((discount_Check_h6) ++ ((discount_Check_h7) ++ ((discount_Check_h13 d_0 r19) ++ ((discount_Check_h14) ++ ((discount_Check_h15) ++ ((discount_Check_h16 d_0 r24) ++ [.br true, .op none .c]))))))))))) [] (ps := ([((.str d_0.Name : AV) = .str d_0.Name), (Ret Try.prog G0 32 [.str d_0.Name] (.bool r1) [])] ++ ([((!r1) = false)] ++ ([((decide (d_0.Kind < (1 : Int))) = false)] ++ ([((decide (d_0.Kind > (3 : Int))) = false)] ++ ((discount_Check_p32 d_0 r7) ++ ([((decide (d_0.Amount > r7)) = false)] ++ ([((!(d_0.Group == [])) = false), (false = false)] ++ ((discount_Check_p34 d_0 r19) ++ ([((!r19) = false)] ++ ([((decide (d_0.Class < (0 : Int))) = false)] ++ ((discount_Check_p35 d_0 r24) ++ [((!r24) = true)])))))))))))) (by kernel_rfl) (by kernel_rfl) (allOk_append.2 ⟨⟨rfl, ok1 (text_Name_ret d_0.Name r1 h2)⟩, (allOk_append.2 ⟨(ok1 (not_f c3)), (allOk_append.2 ⟨(ok1 (decide_eq_false c4)), (allOk_append.2 ⟨(ok1 (decide_eq_false c5)), (allOk_append.2 ⟨(discount_Check_p32q d_0 c6 r7 h8), (allOk_append.2 ⟨(ok1 (decide_eq_false c9)), (allOk_append.2 ⟨⟨(not_f (beq_t c10)), ok1 rfl⟩, (allOk_append.2 ⟨(discount_Check_p34q d_0 c11 r19 h20), (allOk_append.2 ⟨(ok1 (not_f c21)), (allOk_append.2 ⟨(ok1 (decide_eq_false c22)), (allOk_append.2 ⟨(discount_Check_p35q d_0 c23 r24 h25), (ok1 (not_t (eq_false_of_ne_true c26)))⟩)⟩)⟩)⟩)⟩)⟩)⟩)⟩)⟩)⟩)⟩)
theorem discount_Check_16 (d_0 : Tapi_Discount) (r1 : Bool) (h2 : text_Name d_0.Name = some r1) (c3 : r1 = true) (c4 : ¬ (d_0.Kind < (1 : Int))) (c5 : ¬ (d_0.Kind > (3 : Int))) (c6 : ¬ (d_0.Amount < (0 : Int))) (r7 : Int) (h8 : discount_most d_0.Kind = some r7) (c9 : ¬ (d_0.Amount > r7)) (c10 : d_0.Group = []) (c11 : ¬ (d_0.System = [])) (r19 : Bool) (h20 : text_Name d_0.System = some r19) (c21 : ¬ (r19 = true)) : Ret Try.prog G0 18 [.agg (Tapi_Discount.enc d_0)] (.int .i64 6) [] :=
  Ret.of_view 400 ((discount_Check_h1 d_0 r1) ++ ((discount_Check_h2) ++ ((discount_Check_h3) ++ ((discount_Check_h4) ++ ((discount_Check_h5 d_0 r7) ++ ((discount_Check_h6) ++ ((discount_Check_h7) ++ ((discount_Check_h13 d_0 r19) ++ [.br true, .op none .c])))))))) [] (ps := ([((.str d_0.Name : AV) = .str d_0.Name), (Ret Try.prog G0 32 [.str d_0.Name] (.bool r1) [])] ++ ([((!r1) = false)] ++ ([((decide (d_0.Kind < (1 : Int))) = false)] ++ ([((decide (d_0.Kind > (3 : Int))) = false)] ++ ((discount_Check_p32 d_0 r7) ++ ([((decide (d_0.Amount > r7)) = false)] ++ ([((!(d_0.Group == [])) = false), (false = false)] ++ ((discount_Check_p34 d_0 r19) ++ [((!r19) = true)]))))))))) (by kernel_rfl) (by kernel_rfl) (allOk_append.2 ⟨⟨rfl, ok1 (text_Name_ret d_0.Name r1 h2)⟩, (allOk_append.2 ⟨(ok1 (not_f c3)), (allOk_append.2 ⟨(ok1 (decide_eq_false c4)), (allOk_append.2 ⟨(ok1 (decide_eq_false c5)), (allOk_append.2 ⟨(discount_Check_p32q d_0 c6 r7 h8), (allOk_append.2 ⟨(ok1 (decide_eq_false c9)), (allOk_append.2 ⟨⟨(not_f (beq_t c10)), ok1 rfl⟩, (allOk_append.2 ⟨(discount_Check_p34q d_0 c11 r19 h20), (ok1 (not_t (eq_false_of_ne_true c21)))⟩)⟩)⟩)⟩)⟩)⟩)⟩)⟩)
theorem discount_Check_17 (d_0 : Tapi_Discount) (r1 : Bool) (h2 : text_Name d_0.Name = some r1) (c3 : r1 = true) (c4 : ¬ (d_0.Kind < (1 : Int))) (c5 : ¬ (d_0.Kind > (3 : Int))) (c6 : ¬ (d_0.Amount < (0 : Int))) (r7 : Int) (h8 : discount_most d_0.Kind = some r7) (c9 : ¬ (d_0.Amount > r7)) (c10 : ¬ (d_0.Group = [])) (r29 : Bool) (h30 : text_Name d_0.Group = some r29) (c31 : r29 = true) (c32 : d_0.System = []) (c33 : d_0.Class < (0 : Int)) : Ret Try.prog G0 18 [.agg (Tapi_Discount.enc d_0)] (.int .i64 20) [] :=
  Ret.of_view 400 ((discount_Check_h1 d_0 r1) ++ ((discount_Check_h2) ++ ((discount_Check_h3) ++ ((discount_Check_h4) ++ ((discount_Check_h5 d_0 r7) ++ ((discount_Check_h6) ++ ((discount_Check_h19 d_0 r29) ++ ((discount_Check_h20) ++ ((discount_Check_h21) ++ ((.op (some true) .c) :: (cs 4 [.br true, .op none .c]))))))))))) [] (ps := ([((.str d_0.Name : AV) = .str d_0.Name), (Ret Try.prog G0 32 [.str d_0.Name] (.bool r1) [])] ++ ([((!r1) = false)] ++ ([((decide (d_0.Kind < (1 : Int))) = false)] ++ ([((decide (d_0.Kind > (3 : Int))) = false)] ++ ((discount_Check_p32 d_0 r7) ++ ([((decide (d_0.Amount > r7)) = false)] ++ ((discount_Check_p36 d_0 r29) ++ ([((!r29) = false)] ++ ([((!(d_0.System == [])) = false), (false = false)] ++ [((decide (d_0.Class < (0 : Int))) = true), (true = true)])))))))))) (by kernel_rfl) (by kernel_rfl) (allOk_append.2 ⟨⟨rfl, ok1 (text_Name_ret d_0.Name r1 h2)⟩, (allOk_append.2 ⟨(ok1 (not_f c3)), (allOk_append.2 ⟨(ok1 (decide_eq_false c4)), (allOk_append.2 ⟨(ok1 (decide_eq_false c5)), (allOk_append.2 ⟨(discount_Check_p32q d_0 c6 r7 h8), (allOk_append.2 ⟨(ok1 (decide_eq_false c9)), (allOk_append.2 ⟨(discount_Check_p36q d_0 c10 r29 h30), (allOk_append.2 ⟨(ok1 (not_f c31)), (allOk_append.2 ⟨⟨(not_f (beq_t c32)), ok1 rfl⟩, ⟨(decide_eq_true c33), ok1 rfl⟩⟩)⟩)⟩)⟩)⟩)⟩)⟩)⟩)⟩)
theorem discount_Check_18 (d_0 : Tapi_Discount) (r1 : Bool) (h2 : text_Name d_0.Name = some r1) (c3 : r1 = true) (c4 : ¬ (d_0.Kind < (1 : Int))) (c5 : ¬ (d_0.Kind > (3 : Int))) (c6 : ¬ (d_0.Amount < (0 : Int))) (r7 : Int) (h8 : discount_most d_0.Kind = some r7) (c9 : ¬ (d_0.Amount > r7)) (c10 : ¬ (d_0.Group = [])) (r29 : Bool) (h30 : text_Name d_0.Group = some r29) (c31 : r29 = true) (c32 : d_0.System = []) (c33 : ¬ (d_0.Class < (0 : Int))) (c34 : d_0.Class > (9 : Int)) : Ret Try.prog G0 18 [.agg (Tapi_Discount.enc d_0)] (.int .i64 20) [] :=
  Ret.of_view 400 ((discount_Check_h1 d_0 r1) ++ ((discount_Check_h2) ++ ((discount_Check_h3) ++ ((discount_Check_h4) ++ ((discount_Check_h5 d_0 r7) ++ ((discount_Check_h6) ++ ((discount_Check_h19 d_0 r29) ++ ((discount_Check_h20) ++ ((discount_Check_h21) ++ ((discount_Check_h22) ++ [.br true, .op none .c])))))))))) [] (ps := ([((.str d_0.Name : AV) = .str d_0.Name), (Ret Try.prog G0 32 [.str d_0.Name] (.bool r1) [])] ++ ([((!r1) = false)] ++ ([((decide (d_0.Kind < (1 : Int))) = false)] ++ ([((decide (d_0.Kind > (3 : Int))) = false)] ++ ((discount_Check_p32 d_0 r7) ++ ([((decide (d_0.Amount > r7)) = false)] ++ ((discount_Check_p36 d_0 r29) ++ ([((!r29) = false)] ++ ([((!(d_0.System == [])) = false), (false = false)] ++ ([((decide (d_0.Class < (0 : Int))) = false)] ++ [((decide (d_0.Class > (9 : Int))) = true)]))))))))))) (by kernel_rfl) (by kernel_rfl) (allOk_append.2 ⟨⟨rfl, ok1 (text_Name_ret d_0.Name r1 h2)⟩, (allOk_append.2 ⟨(ok1 (not_f c3)), (allOk_append.2 ⟨(ok1 (decide_eq_false c4)), (allOk_append.2 ⟨(ok1 (decide_eq_false c5)), (allOk_append.2 ⟨(discount_Check_p32q d_0 c6 r7 h8), (allOk_append.2 ⟨(ok1 (decide_eq_false c9)), (allOk_append.2 ⟨(discount_Check_p36q d_0 c10 r29 h30), (allOk_append.2 ⟨(ok1 (not_f c31)), (allOk_append.2 ⟨⟨(not_f (beq_t c32)), ok1 rfl⟩, (allOk_append.2 ⟨(ok1 (decide_eq_false c33)), (ok1 (decide_eq_true c34))⟩)⟩)⟩)⟩)⟩)⟩)⟩)⟩)⟩)⟩)
theorem discount_Check_19 (d_0 : Tapi_Discount) (r1 : Bool) (h2 : text_Name d_0.Name = some r1) (c3 : r1 = true) (c4 : ¬ (d_0.Kind < (1 : Int))) (c5 : ¬ (d_0.Kind > (3 : Int))) (c6 : ¬ (d_0.Amount < (0 : Int))) (r7 : Int) (h8 : discount_most d_0.Kind = some r7) (c9 : ¬ (d_0.Amount > r7)) (c10 : ¬ (d_0.Group = [])) (r29 : Bool) (h30 : text_Name d_0.Group = some r29) (c31 : r29 = true) (c32 : d_0.System = []) (c33 : ¬ (d_0.Class < (0 : Int))) (c34 : ¬ (d_0.Class > (9 : Int))) (r35 : Bool) (h36 : discount_window d_0.Window = some r35) (c37 : r35 = true) (c38 : d_0.Least < (0 : Int)) : Ret Try.prog G0 18 [.agg (Tapi_Discount.enc d_0)] (.int .i64 2) [] :=
  Ret.of_view 400 ((discount_Check_h1 d_0 r1) ++ ((discount_Check_h2) ++ ((discount_Check_h3) ++ ((discount_Check_h4) ++ ((discount_Check_h5 d_0 r7) ++ ((discount_Check_h6) ++ ((discount_Check_h19 d_0 r29) ++ ((discount_Check_h20) ++ ((discount_Check_h21) ++ ((discount_Check_h22) ++ ((discount_Check_h23 d_0 r35) ++ ((discount_Check_h24) ++ ((.op (some true) .c) :: (cs 4 [.br true, .op none .c])))))))))))))) [] (ps := ([((.str d_0.Name : AV) = .str d_0.Name), (Ret Try.prog G0 32 [.str d_0.Name] (.bool r1) [])] ++ ([((!r1) = false)] ++ ([((decide (d_0.Kind < (1 : Int))) = false)] ++ ([((decide (d_0.Kind > (3 : Int))) = false)] ++ ((discount_Check_p32 d_0 r7) ++ ([((decide (d_0.Amount > r7)) = false)] ++ ((discount_Check_p36 d_0 r29) ++ ([((!r29) = false)] ++ ([((!(d_0.System == [])) = false), (false = false)] ++ ([((decide (d_0.Class < (0 : Int))) = false)] ++ ((discount_Check_p37 d_0 r35) ++ ([((!r35) = false)] ++ [((decide (d_0.Least < (0 : Int))) = true), (true = true)]))))))))))))) (by kernel_rfl) (by kernel_rfl) (allOk_append.2 ⟨⟨rfl, ok1 (text_Name_ret d_0.Name r1 h2)⟩, (allOk_append.2 ⟨(ok1 (not_f c3)), (allOk_append.2 ⟨(ok1 (decide_eq_false c4)), (allOk_append.2 ⟨(ok1 (decide_eq_false c5)), (allOk_append.2 ⟨(discount_Check_p32q d_0 c6 r7 h8), (allOk_append.2 ⟨(ok1 (decide_eq_false c9)), (allOk_append.2 ⟨(discount_Check_p36q d_0 c10 r29 h30), (allOk_append.2 ⟨(ok1 (not_f c31)), (allOk_append.2 ⟨⟨(not_f (beq_t c32)), ok1 rfl⟩, (allOk_append.2 ⟨(ok1 (decide_eq_false c33)), (allOk_append.2 ⟨(discount_Check_p37q d_0 c34 r35 h36), (allOk_append.2 ⟨(ok1 (not_f c37)), ⟨(decide_eq_true c38), ok1 rfl⟩⟩)⟩)⟩)⟩)⟩)⟩)⟩)⟩)⟩)⟩)⟩)⟩)
theorem discount_Check_20 (d_0 : Tapi_Discount) (r1 : Bool) (h2 : text_Name d_0.Name = some r1) (c3 : r1 = true) (c4 : ¬ (d_0.Kind < (1 : Int))) (c5 : ¬ (d_0.Kind > (3 : Int))) (c6 : ¬ (d_0.Amount < (0 : Int))) (r7 : Int) (h8 : discount_most d_0.Kind = some r7) (c9 : ¬ (d_0.Amount > r7)) (c10 : ¬ (d_0.Group = [])) (r29 : Bool) (h30 : text_Name d_0.Group = some r29) (c31 : r29 = true) (c32 : d_0.System = []) (c33 : ¬ (d_0.Class < (0 : Int))) (c34 : ¬ (d_0.Class > (9 : Int))) (r35 : Bool) (h36 : discount_window d_0.Window = some r35) (c37 : r35 = true) (c38 : ¬ (d_0.Least < (0 : Int))) (c39 : d_0.Least > (2147483648 : Int)) : Ret Try.prog G0 18 [.agg (Tapi_Discount.enc d_0)] (.int .i64 2) [] :=
  Ret.of_view 400 ((discount_Check_h1 d_0 r1) ++ ((discount_Check_h2) ++ ((discount_Check_h3) ++ ((discount_Check_h4) ++ ((discount_Check_h5 d_0 r7) ++ ((discount_Check_h6) ++ ((discount_Check_h19 d_0 r29) ++ ((discount_Check_h20) ++ ((discount_Check_h21) ++ ((discount_Check_h22) ++ ((discount_Check_h23 d_0 r35) ++ ((discount_Check_h24) ++ ((discount_Check_h25) ++ [.br true, .op none .c]))))))))))))) [] (ps := ([((.str d_0.Name : AV) = .str d_0.Name), (Ret Try.prog G0 32 [.str d_0.Name] (.bool r1) [])] ++ ([((!r1) = false)] ++ ([((decide (d_0.Kind < (1 : Int))) = false)] ++ ([((decide (d_0.Kind > (3 : Int))) = false)] ++ ((discount_Check_p32 d_0 r7) ++ ([((decide (d_0.Amount > r7)) = false)] ++ ((discount_Check_p36 d_0 r29) ++ ([((!r29) = false)] ++ ([((!(d_0.System == [])) = false), (false = false)] ++ ([((decide (d_0.Class < (0 : Int))) = false)] ++ ((discount_Check_p37 d_0 r35) ++ ([((!r35) = false)] ++ ([((decide (d_0.Least < (0 : Int))) = false)] ++ [((decide (d_0.Least > (2147483648 : Int))) = true)])))))))))))))) (by kernel_rfl) (by kernel_rfl) (allOk_append.2 ⟨⟨rfl, ok1 (text_Name_ret d_0.Name r1 h2)⟩, (allOk_append.2 ⟨(ok1 (not_f c3)), (allOk_append.2 ⟨(ok1 (decide_eq_false c4)), (allOk_append.2 ⟨(ok1 (decide_eq_false c5)), (allOk_append.2 ⟨(discount_Check_p32q d_0 c6 r7 h8), (allOk_append.2 ⟨(ok1 (decide_eq_false c9)), (allOk_append.2 ⟨(discount_Check_p36q d_0 c10 r29 h30), (allOk_append.2 ⟨(ok1 (not_f c31)), (allOk_append.2 ⟨⟨(not_f (beq_t c32)), ok1 rfl⟩, (allOk_append.2 ⟨(ok1 (decide_eq_false c33)), (allOk_append.2 ⟨(discount_Check_p37q d_0 c34 r35 h36), (allOk_append.2 ⟨(ok1 (not_f c37)), (allOk_append.2 ⟨(ok1 (decide_eq_false c38)), (ok1 (decide_eq_true c39))⟩)⟩)⟩)⟩)⟩)⟩)⟩)⟩)⟩)⟩)⟩)⟩)⟩)
theorem discount_Check_21 (d_0 : Tapi_Discount) (r1 : Bool) (h2 : text_Name d_0.Name = some r1) (c3 : r1 = true) (c4 : ¬ (d_0.Kind < (1 : Int))) (c5 : ¬ (d_0.Kind > (3 : Int))) (c6 : ¬ (d_0.Amount < (0 : Int))) (r7 : Int) (h8 : discount_most d_0.Kind = some r7) (c9 : ¬ (d_0.Amount > r7)) (c10 : ¬ (d_0.Group = [])) (r29 : Bool) (h30 : text_Name d_0.Group = some r29) (c31 : r29 = true) (c32 : d_0.System = []) (c33 : ¬ (d_0.Class < (0 : Int))) (c34 : ¬ (d_0.Class > (9 : Int))) (r35 : Bool) (h36 : discount_window d_0.Window = some r35) (c37 : r35 = true) (c38 : ¬ (d_0.Least < (0 : Int))) (c39 : ¬ (d_0.Least > (2147483648 : Int))) : Ret Try.prog G0 18 [.agg (Tapi_Discount.enc d_0)] (.int .i64 0) [] :=
  Ret.of_view 400 ((discount_Check_h1 d_0 r1) ++ ((discount_Check_h2) ++ ((discount_Check_h3) ++ ((discount_Check_h4) ++ ((discount_Check_h5 d_0 r7) ++ ((discount_Check_h6) ++ ((discount_Check_h19 d_0 r29) ++ ((discount_Check_h20) ++ ((discount_Check_h21) ++ ((discount_Check_h22) ++ ((discount_Check_h23 d_0 r35) ++ ((discount_Check_h24) ++ ((discount_Check_h25) ++ [.br false, .op none .c]))))))))))))) [] (ps := ([((.str d_0.Name : AV) = .str d_0.Name), (Ret Try.prog G0 32 [.str d_0.Name] (.bool r1) [])] ++ ([((!r1) = false)] ++ ([((decide (d_0.Kind < (1 : Int))) = false)] ++ ([((decide (d_0.Kind > (3 : Int))) = false)] ++ ((discount_Check_p32 d_0 r7) ++ ([((decide (d_0.Amount > r7)) = false)] ++ ((discount_Check_p36 d_0 r29) ++ ([((!r29) = false)] ++ ([((!(d_0.System == [])) = false), (false = false)] ++ ([((decide (d_0.Class < (0 : Int))) = false)] ++ ((discount_Check_p37 d_0 r35) ++ ([((!r35) = false)] ++ ([((decide (d_0.Least < (0 : Int))) = false)] ++ [((decide (d_0.Least > (2147483648 : Int))) = false)])))))))))))))) (by kernel_rfl) (by kernel_rfl) (allOk_append.2 ⟨⟨rfl, ok1 (text_Name_ret d_0.Name r1 h2)⟩, (allOk_append.2 ⟨(ok1 (not_f c3)), (allOk_append.2 ⟨(ok1 (decide_eq_false c4)), (allOk_append.2 ⟨(ok1 (decide_eq_false c5)), (allOk_append.2 ⟨(discount_Check_p32q d_0 c6 r7 h8), (allOk_append.2 ⟨(ok1 (decide_eq_false c9)), (allOk_append.2 ⟨(discount_Check_p36q d_0 c10 r29 h30), (allOk_append.2 ⟨(ok1 (not_f c31)), (allOk_append.2 ⟨⟨(not_f (beq_t c32)), ok1 rfl⟩, (allOk_append.2 ⟨(ok1 (decide_eq_false c33)), (allOk_append.2 ⟨(discount_Check_p37q d_0 c34 r35 h36), (allOk_append.2 ⟨(ok1 (not_f c37)), (allOk_append.2 ⟨(ok1 (decide_eq_false c38)), (ok1 (decide_eq_false c39))⟩)⟩)⟩)⟩)⟩)⟩)⟩)⟩)⟩)⟩)⟩)⟩)⟩)
theorem discount_Check_22 (d_0 : Tapi_Discount) (r1 : Bool) (h2 : text_Name d_0.Name = some r1) (c3 : r1 = true) (c4 : ¬ (d_0.Kind < (1 : Int))) (c5 : ¬ (d_0.Kind > (3 : Int))) (c6 : ¬ (d_0.Amount < (0 : Int))) (r7 : Int) (h8 : discount_most d_0.Kind = some r7) (c9 : ¬ (d_0.Amount > r7)) (c10 : ¬ (d_0.Group = [])) (r29 : Bool) (h30 : text_Name d_0.Group = some r29) (c31 : r29 = true) (c32 : d_0.System = []) (c33 : ¬ (d_0.Class < (0 : Int))) (c34 : ¬ (d_0.Class > (9 : Int))) (r35 : Bool) (h36 : discount_window d_0.Window = some r35) (c37 : ¬ (r35 = true)) : Ret Try.prog G0 18 [.agg (Tapi_Discount.enc d_0)] (.int .i64 12) [] :=
  Ret.of_view 400 ((discount_Check_h1 d_0 r1) ++ ((discount_Check_h2) ++ ((discount_Check_h3) ++ ((discount_Check_h4) ++ ((discount_Check_h5 d_0 r7) ++ ((discount_Check_h6) ++ ((discount_Check_h19 d_0 r29) ++ ((discount_Check_h20) ++ ((discount_Check_h21) ++ ((discount_Check_h22) ++ ((discount_Check_h23 d_0 r35) ++ [.br true, .op none .c]))))))))))) [] (ps := ([((.str d_0.Name : AV) = .str d_0.Name), (Ret Try.prog G0 32 [.str d_0.Name] (.bool r1) [])] ++ ([((!r1) = false)] ++ ([((decide (d_0.Kind < (1 : Int))) = false)] ++ ([((decide (d_0.Kind > (3 : Int))) = false)] ++ ((discount_Check_p32 d_0 r7) ++ ([((decide (d_0.Amount > r7)) = false)] ++ ((discount_Check_p36 d_0 r29) ++ ([((!r29) = false)] ++ ([((!(d_0.System == [])) = false), (false = false)] ++ ([((decide (d_0.Class < (0 : Int))) = false)] ++ ((discount_Check_p37 d_0 r35) ++ [((!r35) = true)])))))))))))) (by kernel_rfl) (by kernel_rfl) (allOk_append.2 ⟨⟨rfl, ok1 (text_Name_ret d_0.Name r1 h2)⟩, (allOk_append.2 ⟨(ok1 (not_f c3)), (allOk_append.2 ⟨(ok1 (decide_eq_false c4)), (allOk_append.2 ⟨(ok1 (decide_eq_false c5)), (allOk_append.2 ⟨(discount_Check_p32q d_0 c6 r7 h8), (allOk_append.2 ⟨(ok1 (decide_eq_false c9)), (allOk_append.2 ⟨(discount_Check_p36q d_0 c10 r29 h30), (allOk_append.2 ⟨(ok1 (not_f c31)), (allOk_append.2 ⟨⟨(not_f (beq_t c32)), ok1 rfl⟩, (allOk_append.2 ⟨(ok1 (decide_eq_false c33)), (allOk_append.2 ⟨(discount_Check_p37q d_0 c34 r35 h36), (ok1 (not_t (eq_false_of_ne_true c37)))⟩)⟩)⟩)⟩)⟩)⟩)⟩)⟩)⟩)⟩)⟩)
theorem discount_Check_23 (d_0 : Tapi_Discount) (r1 : Bool) (h2 : text_Name d_0.Name = some r1) (c3 : r1 = true) (c4 : ¬ (d_0.Kind < (1 : Int))) (c5 : ¬ (d_0.Kind > (3 : Int))) (c6 : ¬ (d_0.Amount < (0 : Int))) (r7 : Int) (h8 : discount_most d_0.Kind = some r7) (c9 : ¬ (d_0.Amount > r7)) (c10 : ¬ (d_0.Group = [])) (r29 : Bool) (h30 : text_Name d_0.Group = some r29) (c31 : r29 = true) (c32 : ¬ (d_0.System = [])) (r40 : Bool) (h41 : text_Name d_0.System = some r40) (c42 : r40 = true) (c43 : d_0.Class < (0 : Int)) : Ret Try.prog G0 18 [.agg (Tapi_Discount.enc d_0)] (.int .i64 20) [] :=
  Ret.of_view 400 ((discount_Check_h1 d_0 r1) ++ ((discount_Check_h2) ++ ((discount_Check_h3) ++ ((discount_Check_h4) ++ ((discount_Check_h5 d_0 r7) ++ ((discount_Check_h6) ++ ((discount_Check_h19 d_0 r29) ++ ((discount_Check_h20) ++ ((discount_Check_h26 d_0 r40) ++ ((discount_Check_h27) ++ ((.op (some true) .c) :: (cs 4 [.br true, .op none .c])))))))))))) [] (ps := ([((.str d_0.Name : AV) = .str d_0.Name), (Ret Try.prog G0 32 [.str d_0.Name] (.bool r1) [])] ++ ([((!r1) = false)] ++ ([((decide (d_0.Kind < (1 : Int))) = false)] ++ ([((decide (d_0.Kind > (3 : Int))) = false)] ++ ((discount_Check_p32 d_0 r7) ++ ([((decide (d_0.Amount > r7)) = false)] ++ ((discount_Check_p36 d_0 r29) ++ ([((!r29) = false)] ++ ((discount_Check_p38 d_0 r40) ++ ([((!r40) = false)] ++ [((decide (d_0.Class < (0 : Int))) = true), (true = true)]))))))))))) (by kernel_rfl) (by kernel_rfl) (allOk_append.2 ⟨⟨rfl, ok1 (text_Name_ret d_0.Name r1 h2)⟩, (allOk_append.2 ⟨(ok1 (not_f c3)), (allOk_append.2 ⟨(ok1 (decide_eq_false c4)), (allOk_append.2 ⟨(ok1 (decide_eq_false c5)), (allOk_append.2 ⟨(discount_Check_p32q d_0 c6 r7 h8), (allOk_append.2 ⟨(ok1 (decide_eq_false c9)), (allOk_append.2 ⟨(discount_Check_p36q d_0 c10 r29 h30), (allOk_append.2 ⟨(ok1 (not_f c31)), (allOk_append.2 ⟨(discount_Check_p38q d_0 c32 r40 h41), (allOk_append.2 ⟨(ok1 (not_f c42)), ⟨(decide_eq_true c43), ok1 rfl⟩⟩)⟩)⟩)⟩)⟩)⟩)⟩)⟩)⟩)⟩)
theorem discount_Check_24 (d_0 : Tapi_Discount) (r1 : Bool) (h2 : text_Name d_0.Name = some r1) (c3 : r1 = true) (c4 : ¬ (d_0.Kind < (1 : Int))) (c5 : ¬ (d_0.Kind > (3 : Int))) (c6 : ¬ (d_0.Amount < (0 : Int))) (r7 : Int) (h8 : discount_most d_0.Kind = some r7) (c9 : ¬ (d_0.Amount > r7)) (c10 : ¬ (d_0.Group = [])) (r29 : Bool) (h30 : text_Name d_0.Group = some r29) (c31 : r29 = true) (c32 : ¬ (d_0.System = [])) (r40 : Bool) (h41 : text_Name d_0.System = some r40) (c42 : r40 = true) (c43 : ¬ (d_0.Class < (0 : Int))) (c44 : d_0.Class > (9 : Int)) : Ret Try.prog G0 18 [.agg (Tapi_Discount.enc d_0)] (.int .i64 20) [] :=
  Ret.of_view 400 ((discount_Check_h1 d_0 r1) ++ ((discount_Check_h2) ++ ((discount_Check_h3) ++ ((discount_Check_h4) ++ ((discount_Check_h5 d_0 r7) ++ ((discount_Check_h6) ++ ((discount_Check_h19 d_0 r29) ++ ((discount_Check_h20) ++ ((discount_Check_h26 d_0 r40) ++ ((discount_Check_h27) ++ ((discount_Check_h28) ++ [.br true, .op none .c]))))))))))) [] (ps := ([((.str d_0.Name : AV) = .str d_0.Name), (Ret Try.prog G0 32 [.str d_0.Name] (.bool r1) [])] ++ ([((!r1) = false)] ++ ([((decide (d_0.Kind < (1 : Int))) = false)] ++ ([((decide (d_0.Kind > (3 : Int))) = false)] ++ ((discount_Check_p32 d_0 r7) ++ ([((decide (d_0.Amount > r7)) = false)] ++ ((discount_Check_p36 d_0 r29) ++ ([((!r29) = false)] ++ ((discount_Check_p38 d_0 r40) ++ ([((!r40) = false)] ++ ([((decide (d_0.Class < (0 : Int))) = false)] ++ [((decide (d_0.Class > (9 : Int))) = true)])))))))))))) (by kernel_rfl) (by kernel_rfl) (allOk_append.2 ⟨⟨rfl, ok1 (text_Name_ret d_0.Name r1 h2)⟩, (allOk_append.2 ⟨(ok1 (not_f c3)), (allOk_append.2 ⟨(ok1 (decide_eq_false c4)), (allOk_append.2 ⟨(ok1 (decide_eq_false c5)), (allOk_append.2 ⟨(discount_Check_p32q d_0 c6 r7 h8), (allOk_append.2 ⟨(ok1 (decide_eq_false c9)), (allOk_append.2 ⟨(discount_Check_p36q d_0 c10 r29 h30), (allOk_append.2 ⟨(ok1 (not_f c31)), (allOk_append.2 ⟨(discount_Check_p38q d_0 c32 r40 h41), (allOk_append.2 ⟨(ok1 (not_f c42)), (allOk_append.2 ⟨(ok1 (decide_eq_false c43)), (ok1 (decide_eq_true c44))⟩)⟩)⟩)⟩)⟩)⟩)⟩)⟩)⟩)⟩)⟩)
theorem discount_Check_25 (d_0 : Tapi_Discount) (r1 : Bool) (h2 : text_Name d_0.Name = some r1) (c3 : r1 = true) (c4 : ¬ (d_0.Kind < (1 : Int))) (c5 : ¬ (d_0.Kind > (3 : Int))) (c6 : ¬ (d_0.Amount < (0 : Int))) (r7 : Int) (h8 : discount_most d_0.Kind = some r7) (c9 : ¬ (d_0.Amount > r7)) (c10 : ¬ (d_0.Group = [])) (r29 : Bool) (h30 : text_Name d_0.Group = some r29) (c31 : r29 = true) (c32 : ¬ (d_0.System = [])) (r40 : Bool) (h41 : text_Name d_0.System = some r40) (c42 : r40 = true) (c43 : ¬ (d_0.Class < (0 : Int))) (c44 : ¬ (d_0.Class > (9 : Int))) (r45 : Bool) (h46 : discount_window d_0.Window = some r45) (c47 : r45 = true) (c48 : d_0.Least < (0 : Int)) : Ret Try.prog G0 18 [.agg (Tapi_Discount.enc d_0)] (.int .i64 2) [] :=
  Ret.of_view 400 ((discount_Check_h1 d_0 r1) ++ ((discount_Check_h2) ++ ((discount_Check_h3) ++ ((discount_Check_h4) ++ ((discount_Check_h5 d_0 r7) ++ ((discount_Check_h6) ++ ((discount_Check_h19 d_0 r29) ++ ((discount_Check_h20) ++ ((discount_Check_h26 d_0 r40) ++ ((discount_Check_h27) ++ ((discount_Check_h28) ++ ((discount_Check_h29 d_0 r45) ++ ((discount_Check_h30) ++ ((.op (some true) .c) :: (cs 4 [.br true, .op none .c]))))))))))))))) [] (ps := ([((.str d_0.Name : AV) = .str d_0.Name), (Ret Try.prog G0 32 [.str d_0.Name] (.bool r1) [])] ++ ([((!r1) = false)] ++ ([((decide (d_0.Kind < (1 : Int))) = false)] ++ ([((decide (d_0.Kind > (3 : Int))) = false)] ++ ((discount_Check_p32 d_0 r7) ++ ([((decide (d_0.Amount > r7)) = false)] ++ ((discount_Check_p36 d_0 r29) ++ ([((!r29) = false)] ++ ((discount_Check_p38 d_0 r40) ++ ([((!r40) = false)] ++ ([((decide (d_0.Class < (0 : Int))) = false)] ++ ((discount_Check_p39 d_0 r45) ++ ([((!r45) = false)] ++ [((decide (d_0.Least < (0 : Int))) = true), (true = true)])))))))))))))) (by kernel_rfl) (by kernel_rfl) (allOk_append.2 ⟨⟨rfl, ok1 (text_Name_ret d_0.Name r1 h2)⟩, (allOk_append.2 ⟨(ok1 (not_f c3)), (allOk_append.2 ⟨(ok1 (decide_eq_false c4)), (allOk_append.2 ⟨(ok1 (decide_eq_false c5)), (allOk_append.2 ⟨(discount_Check_p32q d_0 c6 r7 h8), (allOk_append.2 ⟨(ok1 (decide_eq_false c9)), (allOk_append.2 ⟨(discount_Check_p36q d_0 c10 r29 h30), (allOk_append.2 ⟨(ok1 (not_f c31)), (allOk_append.2 ⟨(discount_Check_p38q d_0 c32 r40 h41), (allOk_append.2 ⟨(ok1 (not_f c42)), (allOk_append.2 ⟨(ok1 (decide_eq_false c43)), (allOk_append.2 ⟨(discount_Check_p39q d_0 c44 r45 h46), (allOk_append.2 ⟨(ok1 (not_f c47)), ⟨(decide_eq_true c48), ok1 rfl⟩⟩)⟩)⟩)⟩)⟩)⟩)⟩)⟩)⟩)⟩)⟩)⟩)⟩)
theorem discount_Check_26 (d_0 : Tapi_Discount) (r1 : Bool) (h2 : text_Name d_0.Name = some r1) (c3 : r1 = true) (c4 : ¬ (d_0.Kind < (1 : Int))) (c5 : ¬ (d_0.Kind > (3 : Int))) (c6 : ¬ (d_0.Amount < (0 : Int))) (r7 : Int) (h8 : discount_most d_0.Kind = some r7) (c9 : ¬ (d_0.Amount > r7)) (c10 : ¬ (d_0.Group = [])) (r29 : Bool) (h30 : text_Name d_0.Group = some r29) (c31 : r29 = true) (c32 : ¬ (d_0.System = [])) (r40 : Bool) (h41 : text_Name d_0.System = some r40) (c42 : r40 = true) (c43 : ¬ (d_0.Class < (0 : Int))) (c44 : ¬ (d_0.Class > (9 : Int))) (r45 : Bool) (h46 : discount_window d_0.Window = some r45) (c47 : r45 = true) (c48 : ¬ (d_0.Least < (0 : Int))) (c49 : d_0.Least > (2147483648 : Int)) : Ret Try.prog G0 18 [.agg (Tapi_Discount.enc d_0)] (.int .i64 2) [] :=
  Ret.of_view 400 ((discount_Check_h1 d_0 r1) ++ ((discount_Check_h2) ++ ((discount_Check_h3) ++ ((discount_Check_h4) ++ ((discount_Check_h5 d_0 r7) ++ ((discount_Check_h6) ++ ((discount_Check_h19 d_0 r29) ++ ((discount_Check_h20) ++ ((discount_Check_h26 d_0 r40) ++ ((discount_Check_h27) ++ ((discount_Check_h28) ++ ((discount_Check_h29 d_0 r45) ++ ((discount_Check_h30) ++ ((discount_Check_h31) ++ [.br true, .op none .c])))))))))))))) [] (ps := ([((.str d_0.Name : AV) = .str d_0.Name), (Ret Try.prog G0 32 [.str d_0.Name] (.bool r1) [])] ++ ([((!r1) = false)] ++ ([((decide (d_0.Kind < (1 : Int))) = false)] ++ ([((decide (d_0.Kind > (3 : Int))) = false)] ++ ((discount_Check_p32 d_0 r7) ++ ([((decide (d_0.Amount > r7)) = false)] ++ ((discount_Check_p36 d_0 r29) ++ ([((!r29) = false)] ++ ((discount_Check_p38 d_0 r40) ++ ([((!r40) = false)] ++ ([((decide (d_0.Class < (0 : Int))) = false)] ++ ((discount_Check_p39 d_0 r45) ++ ([((!r45) = false)] ++ ([((decide (d_0.Least < (0 : Int))) = false)] ++ [((decide (d_0.Least > (2147483648 : Int))) = true)]))))))))))))))) (by kernel_rfl) (by kernel_rfl) (allOk_append.2 ⟨⟨rfl, ok1 (text_Name_ret d_0.Name r1 h2)⟩, (allOk_append.2 ⟨(ok1 (not_f c3)), (allOk_append.2 ⟨(ok1 (decide_eq_false c4)), (allOk_append.2 ⟨(ok1 (decide_eq_false c5)), (allOk_append.2 ⟨(discount_Check_p32q d_0 c6 r7 h8), (allOk_append.2 ⟨(ok1 (decide_eq_false c9)), (allOk_append.2 ⟨(discount_Check_p36q d_0 c10 r29 h30), (allOk_append.2 ⟨(ok1 (not_f c31)), (allOk_append.2 ⟨(discount_Check_p38q d_0 c32 r40 h41), (allOk_append.2 ⟨(ok1 (not_f c42)), (allOk_append.2 ⟨(ok1 (decide_eq_false c43)), (allOk_append.2 ⟨(discount_Check_p39q d_0 c44 r45 h46), (allOk_append.2 ⟨(ok1 (not_f c47)), (allOk_append.2 ⟨(ok1 (decide_eq_false c48)), (ok1 (decide_eq_true c49))⟩)⟩)⟩)⟩)⟩)⟩)⟩)⟩)⟩)⟩)⟩)⟩)⟩)⟩)
theorem discount_Check_27 (d_0 : Tapi_Discount) (r1 : Bool) (h2 : text_Name d_0.Name = some r1) (c3 : r1 = true) (c4 : ¬ (d_0.Kind < (1 : Int))) (c5 : ¬ (d_0.Kind > (3 : Int))) (c6 : ¬ (d_0.Amount < (0 : Int))) (r7 : Int) (h8 : discount_most d_0.Kind = some r7) (c9 : ¬ (d_0.Amount > r7)) (c10 : ¬ (d_0.Group = [])) (r29 : Bool) (h30 : text_Name d_0.Group = some r29) (c31 : r29 = true) (c32 : ¬ (d_0.System = [])) (r40 : Bool) (h41 : text_Name d_0.System = some r40) (c42 : r40 = true) (c43 : ¬ (d_0.Class < (0 : Int))) (c44 : ¬ (d_0.Class > (9 : Int))) (r45 : Bool) (h46 : discount_window d_0.Window = some r45) (c47 : r45 = true) (c48 : ¬ (d_0.Least < (0 : Int))) (c49 : ¬ (d_0.Least > (2147483648 : Int))) : Ret Try.prog G0 18 [.agg (Tapi_Discount.enc d_0)] (.int .i64 0) [] :=
  Ret.of_view 400 ((discount_Check_h1 d_0 r1) ++ ((discount_Check_h2) ++ ((discount_Check_h3) ++ ((discount_Check_h4) ++ ((discount_Check_h5 d_0 r7) ++ ((discount_Check_h6) ++ ((discount_Check_h19 d_0 r29) ++ ((discount_Check_h20) ++ ((discount_Check_h26 d_0 r40) ++ ((discount_Check_h27) ++ ((discount_Check_h28) ++ ((discount_Check_h29 d_0 r45) ++ ((discount_Check_h30) ++ ((discount_Check_h31) ++ [.br false, .op none .c])))))))))))))) [] (ps := ([((.str d_0.Name : AV) = .str d_0.Name), (Ret Try.prog G0 32 [.str d_0.Name] (.bool r1) [])] ++ ([((!r1) = false)] ++ ([((decide (d_0.Kind < (1 : Int))) = false)] ++ ([((decide (d_0.Kind > (3 : Int))) = false)] ++ ((discount_Check_p32 d_0 r7) ++ ([((decide (d_0.Amount > r7)) = false)] ++ ((discount_Check_p36 d_0 r29) ++ ([((!r29) = false)] ++ ((discount_Check_p38 d_0 r40) ++ ([((!r40) = false)] ++ ([((decide (d_0.Class < (0 : Int))) = false)] ++ ((discount_Check_p39 d_0 r45) ++ ([((!r45) = false)] ++ ([((decide (d_0.Least < (0 : Int))) = false)] ++ [((decide (d_0.Least > (2147483648 : Int))) = false)]))))))))))))))) (by kernel_rfl) (by kernel_rfl) (allOk_append.2 ⟨⟨rfl, ok1 (text_Name_ret d_0.Name r1 h2)⟩, (allOk_append.2 ⟨(ok1 (not_f c3)), (allOk_append.2 ⟨(ok1 (decide_eq_false c4)), (allOk_append.2 ⟨(ok1 (decide_eq_false c5)), (allOk_append.2 ⟨(discount_Check_p32q d_0 c6 r7 h8), (allOk_append.2 ⟨(ok1 (decide_eq_false c9)), (allOk_append.2 ⟨(discount_Check_p36q d_0 c10 r29 h30), (allOk_append.2 ⟨(ok1 (not_f c31)), (allOk_append.2 ⟨(discount_Check_p38q d_0 c32 r40 h41), (allOk_append.2 ⟨(ok1 (not_f c42)), (allOk_append.2 ⟨(ok1 (decide_eq_false c43)), (allOk_append.2 ⟨(discount_Check_p39q d_0 c44 r45 h46), (allOk_append.2 ⟨(ok1 (not_f c47)), (allOk_append.2 ⟨(ok1 (decide_eq_false c48)), (ok1 (decide_eq_false c49))⟩)⟩)⟩)⟩)⟩)⟩)⟩)⟩)⟩)⟩)⟩)⟩)⟩)⟩)
theorem discount_Check_28 (d_0 : Tapi_Discount) (r1 : Bool) (h2 : text_Name d_0.Name = some r1) (c3 : r1 = true) (c4 : ¬ (d_0.Kind < (1 : Int))) (c5 : ¬ (d_0.Kind > (3 : Int))) (c6 : ¬ (d_0.Amount < (0 : Int))) (r7 : Int) (h8 : discount_most d_0.Kind = some r7) (c9 : ¬ (d_0.Amount > r7)) (c10 : ¬ (d_0.Group = [])) (r29 : Bool) (h30 : text_Name d_0.Group = some r29) (c31 : r29 = true) (c32 : ¬ (d_0.System = [])) (r40 : Bool) (h41 : text_Name d_0.System = some r40) (c42 : r40 = true) (c43 : ¬ (d_0.Class < (0 : Int))) (c44 : ¬ (d_0.Class > (9 : Int))) (r45 : Bool) (h46 : discount_window d_0.Window = some r45) (c47 : ¬ (r45 = true)) : Ret Try.prog G0 18 [.agg (Tapi_Discount.enc d_0)] (.int .i64 12) [] :=
  Ret.of_view 400 ((discount_Check_h1 d_0 r1) ++ ((discount_Check_h2) ++ ((discount_Check_h3) ++ ((discount_Check_h4) ++ ((discount_Check_h5 d_0 r7) ++ ((discount_Check_h6) ++ ((discount_Check_h19 d_0 r29) ++ ((discount_Check_h20) ++ ((discount_Check_h26 d_0 r40) ++ ((discount_Check_h27) ++ ((discount_Check_h28) ++ ((discount_Check_h29 d_0 r45) ++ [.br true, .op none .c])))))))))))) [] (ps := ([((.str d_0.Name : AV) = .str d_0.Name), (Ret Try.prog G0 32 [.str d_0.Name] (.bool r1) [])] ++ ([((!r1) = false)] ++ ([((decide (d_0.Kind < (1 : Int))) = false)] ++ ([((decide (d_0.Kind > (3 : Int))) = false)] ++ ((discount_Check_p32 d_0 r7) ++ ([((decide (d_0.Amount > r7)) = false)] ++ ((discount_Check_p36 d_0 r29) ++ ([((!r29) = false)] ++ ((discount_Check_p38 d_0 r40) ++ ([((!r40) = false)] ++ ([((decide (d_0.Class < (0 : Int))) = false)] ++ ((discount_Check_p39 d_0 r45) ++ [((!r45) = true)]))))))))))))) (by kernel_rfl) (by kernel_rfl) (allOk_append.2 ⟨⟨rfl, ok1 (text_Name_ret d_0.Name r1 h2)⟩, (allOk_append.2 ⟨(ok1 (not_f c3)), (allOk_append.2 ⟨(ok1 (decide_eq_false c4)), (allOk_append.2 ⟨(ok1 (decide_eq_false c5)), (allOk_append.2 ⟨(discount_Check_p32q d_0 c6 r7 h8), (allOk_append.2 ⟨(ok1 (decide_eq_false c9)), (allOk_append.2 ⟨(discount_Check_p36q d_0 c10 r29 h30), (allOk_append.2 ⟨(ok1 (not_f c31)), (allOk_append.2 ⟨(discount_Check_p38q d_0 c32 r40 h41), (allOk_append.2 ⟨(ok1 (not_f c42)), (allOk_append.2 ⟨(ok1 (decide_eq_false c43)), (allOk_append.2 ⟨(discount_Check_p39q d_0 c44 r45 h46), (ok1 (not_t (eq_false_of_ne_true c47)))⟩)⟩)⟩)⟩)⟩)⟩)⟩)⟩)⟩)⟩)⟩)⟩)
theorem discount_Check_29 (d_0 : Tapi_Discount) (r1 : Bool) (h2 : text_Name d_0.Name = some r1) (c3 : r1 = true) (c4 : ¬ (d_0.Kind < (1 : Int))) (c5 : ¬ (d_0.Kind > (3 : Int))) (c6 : ¬ (d_0.Amount < (0 : Int))) (r7 : Int) (h8 : discount_most d_0.Kind = some r7) (c9 : ¬ (d_0.Amount > r7)) (c10 : ¬ (d_0.Group = [])) (r29 : Bool) (h30 : text_Name d_0.Group = some r29) (c31 : r29 = true) (c32 : ¬ (d_0.System = [])) (r40 : Bool) (h41 : text_Name d_0.System = some r40) (c42 : ¬ (r40 = true)) : Ret Try.prog G0 18 [.agg (Tapi_Discount.enc d_0)] (.int .i64 6) [] :=
  Ret.of_view 400 ((discount_Check_h1 d_0 r1) ++ ((discount_Check_h2) ++ ((discount_Check_h3) ++ ((discount_Check_h4) ++ ((discount_Check_h5 d_0 r7) ++ ((discount_Check_h6) ++ ((discount_Check_h19 d_0 r29) ++ ((discount_Check_h20) ++ ((discount_Check_h26 d_0 r40) ++ [.br true, .op none .c]))))))))) [] (ps := ([((.str d_0.Name : AV) = .str d_0.Name), (Ret Try.prog G0 32 [.str d_0.Name] (.bool r1) [])] ++ ([((!r1) = false)] ++ ([((decide (d_0.Kind < (1 : Int))) = false)] ++ ([((decide (d_0.Kind > (3 : Int))) = false)] ++ ((discount_Check_p32 d_0 r7) ++ ([((decide (d_0.Amount > r7)) = false)] ++ ((discount_Check_p36 d_0 r29) ++ ([((!r29) = false)] ++ ((discount_Check_p38 d_0 r40) ++ [((!r40) = true)])))))))))) (by kernel_rfl) (by kernel_rfl) (allOk_append.2 ⟨⟨rfl, ok1 (text_Name_ret d_0.Name r1 h2)⟩, (allOk_append.2 ⟨(ok1 (not_f c3)), (allOk_append.2 ⟨(ok1 (decide_eq_false c4)), (allOk_append.2 ⟨(ok1 (decide_eq_false c5)), (allOk_append.2 ⟨(discount_Check_p32q d_0 c6 r7 h8), (allOk_append.2 ⟨(ok1 (decide_eq_false c9)), (allOk_append.2 ⟨(discount_Check_p36q d_0 c10 r29 h30), (allOk_append.2 ⟨(ok1 (not_f c31)), (allOk_append.2 ⟨(discount_Check_p38q d_0 c32 r40 h41), (ok1 (not_t (eq_false_of_ne_true c42)))⟩)⟩)⟩)⟩)⟩)⟩)⟩)⟩)⟩)
theorem discount_Check_30 (d_0 : Tapi_Discount) (r1 : Bool) (h2 : text_Name d_0.Name = some r1) (c3 : r1 = true) (c4 : ¬ (d_0.Kind < (1 : Int))) (c5 : ¬ (d_0.Kind > (3 : Int))) (c6 : ¬ (d_0.Amount < (0 : Int))) (r7 : Int) (h8 : discount_most d_0.Kind = some r7) (c9 : ¬ (d_0.Amount > r7)) (c10 : ¬ (d_0.Group = [])) (r29 : Bool) (h30 : text_Name d_0.Group = some r29) (c31 : ¬ (r29 = true)) : Ret Try.prog G0 18 [.agg (Tapi_Discount.enc d_0)] (.int .i64 6) [] :=
  Ret.of_view 400 ((discount_Check_h1 d_0 r1) ++ ((discount_Check_h2) ++ ((discount_Check_h3) ++ ((discount_Check_h4) ++ ((discount_Check_h5 d_0 r7) ++ ((discount_Check_h6) ++ ((discount_Check_h19 d_0 r29) ++ [.br true, .br true, .op none .c]))))))) [] (ps := ([((.str d_0.Name : AV) = .str d_0.Name), (Ret Try.prog G0 32 [.str d_0.Name] (.bool r1) [])] ++ ([((!r1) = false)] ++ ([((decide (d_0.Kind < (1 : Int))) = false)] ++ ([((decide (d_0.Kind > (3 : Int))) = false)] ++ ((discount_Check_p32 d_0 r7) ++ ([((decide (d_0.Amount > r7)) = false)] ++ ((discount_Check_p36 d_0 r29) ++ [((!r29) = true), ((!r29) = true)])))))))) (by kernel_rfl) (by kernel_rfl) (allOk_append.2 ⟨⟨rfl, ok1 (text_Name_ret d_0.Name r1 h2)⟩, (allOk_append.2 ⟨(ok1 (not_f c3)), (allOk_append.2 ⟨(ok1 (decide_eq_false c4)), (allOk_append.2 ⟨(ok1 (decide_eq_false c5)), (allOk_append.2 ⟨(discount_Check_p32q d_0 c6 r7 h8), (allOk_append.2 ⟨(ok1 (decide_eq_false c9)), (allOk_append.2 ⟨(discount_Check_p36q d_0 c10 r29 h30), ⟨(not_t (eq_false_of_ne_true c31)), ok1 (not_t (eq_false_of_ne_true c31))⟩⟩)⟩)⟩)⟩)⟩)⟩)⟩)
theorem discount_Check_31 (d_0 : Tapi_Discount) (r1 : Bool) (h2 : text_Name d_0.Name = some r1) (c3 : ¬ (r1 = true)) : Ret Try.prog G0 18 [.agg (Tapi_Discount.enc d_0)] (.int .i64 6) [] :=
  Ret.of_view 400 ((discount_Check_h1 d_0 r1) ++ [.br true, .op none .c]) [] (ps := ([((.str d_0.Name : AV) = .str d_0.Name), (Ret Try.prog G0 32 [.str d_0.Name] (.bool r1) [])] ++ [((!r1) = true)])) (by kernel_rfl) (by kernel_rfl) (allOk_append.2 ⟨⟨rfl, ok1 (text_Name_ret d_0.Name r1 h2)⟩, (ok1 (not_t (eq_false_of_ne_true c3)))⟩)
theorem discount_Check_ret (d_0 : Tapi_Discount) (r : Int) (h : discount_Check d_0 = some r) : Ret Try.prog G0 18 [.agg (Tapi_Discount.enc d_0)] (.int .i64 r) [] := by
  unfold discount_Check at h
  obtain ⟨r1, h2, h⟩ := bind_some h
  rcases ite_some h with ⟨c3, h⟩ | ⟨c3, h⟩
  · rcases ite_some h with ⟨c4, h⟩ | ⟨c4, h⟩
    · simp only [Option.some.injEq] at h
      subst h
      exact discount_Check_0 d_0 r1 h2 c3 c4
    · rcases ite_some h with ⟨c5, h⟩ | ⟨c5, h⟩
      · simp only [Option.some.injEq] at h
        subst h
        exact discount_Check_1 d_0 r1 h2 c3 c4 c5
      · rcases ite_some h with ⟨c6, h⟩ | ⟨c6, h⟩
        · simp only [Option.some.injEq] at h
          subst h
          exact discount_Check_2 d_0 r1 h2 c3 c4 c5 c6
        · obtain ⟨r7, h8, h⟩ := bind_some h
          rcases ite_some h with ⟨c9, h⟩ | ⟨c9, h⟩
          · simp only [Option.some.injEq] at h
            subst h
            exact discount_Check_3 d_0 r1 h2 c3 c4 c5 c6 r7 h8 c9
          · rcases ite_some h with ⟨c10, h⟩ | ⟨c10, h⟩
            · rcases ite_some h with ⟨c11, h⟩ | ⟨c11, h⟩
              · rcases ite_some h with ⟨c12, h⟩ | ⟨c12, h⟩
                · simp only [Option.some.injEq] at h
                  subst h
                  exact discount_Check_4 d_0 r1 h2 c3 c4 c5 c6 r7 h8 c9 c10 c11 c12
                · rcases ite_some h with ⟨c13, h⟩ | ⟨c13, h⟩
                  · simp only [Option.some.injEq] at h
                    subst h
                    exact discount_Check_5 d_0 r1 h2 c3 c4 c5 c6 r7 h8 c9 c10 c11 c12 c13
                  · obtain ⟨r14, h15, h⟩ := bind_some h
                    rcases ite_some h with ⟨c16, h⟩ | ⟨c16, h⟩
                    · rcases ite_some h with ⟨c17, h⟩ | ⟨c17, h⟩
                      · simp only [Option.some.injEq] at h
                        subst h
                        exact discount_Check_6 d_0 r1 h2 c3 c4 c5 c6 r7 h8 c9 c10 c11 c12 c13 r14 h15 c16 c17
                      · rcases ite_some h with ⟨c18, h⟩ | ⟨c18, h⟩
                        · simp only [Option.some.injEq] at h
                          subst h
                          exact discount_Check_7 d_0 r1 h2 c3 c4 c5 c6 r7 h8 c9 c10 c11 c12 c13 r14 h15 c16 c17 c18
                        · simp only [Option.some.injEq] at h
                          subst h
                          exact discount_Check_8 d_0 r1 h2 c3 c4 c5 c6 r7 h8 c9 c10 c11 c12 c13 r14 h15 c16 c17 c18
                    · simp only [Option.some.injEq] at h
                      subst h
                      exact discount_Check_9 d_0 r1 h2 c3 c4 c5 c6 r7 h8 c9 c10 c11 c12 c13 r14 h15 c16
              · obtain ⟨r19, h20, h⟩ := bind_some h
                rcases ite_some h with ⟨c21, h⟩ | ⟨c21, h⟩
                · rcases ite_some h with ⟨c22, h⟩ | ⟨c22, h⟩
                  · simp only [Option.some.injEq] at h
                    subst h
                    exact discount_Check_10 d_0 r1 h2 c3 c4 c5 c6 r7 h8 c9 c10 c11 r19 h20 c21 c22
                  · rcases ite_some h with ⟨c23, h⟩ | ⟨c23, h⟩
                    · simp only [Option.some.injEq] at h
                      subst h
                      exact discount_Check_11 d_0 r1 h2 c3 c4 c5 c6 r7 h8 c9 c10 c11 r19 h20 c21 c22 c23
                    · obtain ⟨r24, h25, h⟩ := bind_some h
                      rcases ite_some h with ⟨c26, h⟩ | ⟨c26, h⟩
                      · rcases ite_some h with ⟨c27, h⟩ | ⟨c27, h⟩
                        · simp only [Option.some.injEq] at h
                          subst h
                          exact discount_Check_12 d_0 r1 h2 c3 c4 c5 c6 r7 h8 c9 c10 c11 r19 h20 c21 c22 c23 r24 h25 c26 c27
                        · rcases ite_some h with ⟨c28, h⟩ | ⟨c28, h⟩
                          · simp only [Option.some.injEq] at h
                            subst h
                            exact discount_Check_13 d_0 r1 h2 c3 c4 c5 c6 r7 h8 c9 c10 c11 r19 h20 c21 c22 c23 r24 h25 c26 c27 c28
                          · simp only [Option.some.injEq] at h
                            subst h
                            exact discount_Check_14 d_0 r1 h2 c3 c4 c5 c6 r7 h8 c9 c10 c11 r19 h20 c21 c22 c23 r24 h25 c26 c27 c28
                      · simp only [Option.some.injEq] at h
                        subst h
                        exact discount_Check_15 d_0 r1 h2 c3 c4 c5 c6 r7 h8 c9 c10 c11 r19 h20 c21 c22 c23 r24 h25 c26
                · simp only [Option.some.injEq] at h
                  subst h
                  exact discount_Check_16 d_0 r1 h2 c3 c4 c5 c6 r7 h8 c9 c10 c11 r19 h20 c21
            · obtain ⟨r29, h30, h⟩ := bind_some h
              rcases ite_some h with ⟨c31, h⟩ | ⟨c31, h⟩
              · rcases ite_some h with ⟨c32, h⟩ | ⟨c32, h⟩
                · rcases ite_some h with ⟨c33, h⟩ | ⟨c33, h⟩
                  · simp only [Option.some.injEq] at h
                    subst h
                    exact discount_Check_17 d_0 r1 h2 c3 c4 c5 c6 r7 h8 c9 c10 r29 h30 c31 c32 c33
                  · rcases ite_some h with ⟨c34, h⟩ | ⟨c34, h⟩
                    · simp only [Option.some.injEq] at h
                      subst h
                      exact discount_Check_18 d_0 r1 h2 c3 c4 c5 c6 r7 h8 c9 c10 r29 h30 c31 c32 c33 c34
                    · obtain ⟨r35, h36, h⟩ := bind_some h
                      rcases ite_some h with ⟨c37, h⟩ | ⟨c37, h⟩
                      · rcases ite_some h with ⟨c38, h⟩ | ⟨c38, h⟩
                        · simp only [Option.some.injEq] at h
                          subst h
                          exact discount_Check_19 d_0 r1 h2 c3 c4 c5 c6 r7 h8 c9 c10 r29 h30 c31 c32 c33 c34 r35 h36 c37 c38
                        · rcases ite_some h with ⟨c39, h⟩ | ⟨c39, h⟩
                          · simp only [Option.some.injEq] at h
                            subst h
                            exact discount_Check_20 d_0 r1 h2 c3 c4 c5 c6 r7 h8 c9 c10 r29 h30 c31 c32 c33 c34 r35 h36 c37 c38 c39
                          · simp only [Option.some.injEq] at h
                            subst h
                            exact discount_Check_21 d_0 r1 h2 c3 c4 c5 c6 r7 h8 c9 c10 r29 h30 c31 c32 c33 c34 r35 h36 c37 c38 c39
                      · simp only [Option.some.injEq] at h
                        subst h
                        exact discount_Check_22 d_0 r1 h2 c3 c4 c5 c6 r7 h8 c9 c10 r29 h30 c31 c32 c33 c34 r35 h36 c37
                · obtain ⟨r40, h41, h⟩ := bind_some h
                  rcases ite_some h with ⟨c42, h⟩ | ⟨c42, h⟩
                  · rcases ite_some h with ⟨c43, h⟩ | ⟨c43, h⟩
                    · simp only [Option.some.injEq] at h
                      subst h
                      exact discount_Check_23 d_0 r1 h2 c3 c4 c5 c6 r7 h8 c9 c10 r29 h30 c31 c32 r40 h41 c42 c43
                    · rcases ite_some h with ⟨c44, h⟩ | ⟨c44, h⟩
                      · simp only [Option.some.injEq] at h
                        subst h
                        exact discount_Check_24 d_0 r1 h2 c3 c4 c5 c6 r7 h8 c9 c10 r29 h30 c31 c32 r40 h41 c42 c43 c44
                      · obtain ⟨r45, h46, h⟩ := bind_some h
                        rcases ite_some h with ⟨c47, h⟩ | ⟨c47, h⟩
                        · rcases ite_some h with ⟨c48, h⟩ | ⟨c48, h⟩
                          · simp only [Option.some.injEq] at h
                            subst h
                            exact discount_Check_25 d_0 r1 h2 c3 c4 c5 c6 r7 h8 c9 c10 r29 h30 c31 c32 r40 h41 c42 c43 c44 r45 h46 c47 c48
                          · rcases ite_some h with ⟨c49, h⟩ | ⟨c49, h⟩
                            · simp only [Option.some.injEq] at h
                              subst h
                              exact discount_Check_26 d_0 r1 h2 c3 c4 c5 c6 r7 h8 c9 c10 r29 h30 c31 c32 r40 h41 c42 c43 c44 r45 h46 c47 c48 c49
                            · simp only [Option.some.injEq] at h
                              subst h
                              exact discount_Check_27 d_0 r1 h2 c3 c4 c5 c6 r7 h8 c9 c10 r29 h30 c31 c32 r40 h41 c42 c43 c44 r45 h46 c47 c48 c49
                        · simp only [Option.some.injEq] at h
                          subst h
                          exact discount_Check_28 d_0 r1 h2 c3 c4 c5 c6 r7 h8 c9 c10 r29 h30 c31 c32 r40 h41 c42 c43 c44 r45 h46 c47
                  · simp only [Option.some.injEq] at h
                    subst h
                    exact discount_Check_29 d_0 r1 h2 c3 c4 c5 c6 r7 h8 c9 c10 r29 h30 c31 c32 r40 h41 c42
              · simp only [Option.some.injEq] at h
                subst h
                exact discount_Check_30 d_0 r1 h2 c3 c4 c5 c6 r7 h8 c9 c10 r29 h30 c31
  · simp only [Option.some.injEq] at h
    subst h
    exact discount_Check_31 d_0 r1 h2 c3
noncomputable def tollwayref24_Check (d_0 : Tapi_Discount) : Option Int :=
  (tollwayref01_Name d_0.Name).bind fun r1 =>
  if r1 = true then
    if d_0.Kind < (1 : Int) then
      some 1
    else
      if d_0.Kind > (3 : Int) then
        some 1
      else
        (tollwayref24_amounts d_0).bind fun r6 =>
        if r6 = true then
          (tollwayref24_named d_0.Group).bind fun r9 =>
          if r9 = true then
            (tollwayref24_named d_0.System).bind fun r12 =>
            if r12 = true then
              if d_0.Class < (0 : Int) then
                some 20
              else
                if d_0.Class > (9 : Int) then
                  some 20
                else
                  if d_0.Window.Days = (0 : Int) then
                    if d_0.Window.From = (0 : Int) then
                      if d_0.Window.To = (0 : Int) then
                        if d_0.Least < (0 : Int) then
                          some 2
                        else
                          if d_0.Least > (2147483648 : Int) then
                            some 2
                          else
                            some 0
                      else
                        some 12
                    else
                      some 12
                  else
                    (tollwayref04_ValidWindow d_0.Window).bind fun r22 =>
                    if r22 = true then
                      if d_0.Least < (0 : Int) then
                        some 2
                      else
                        if d_0.Least > (2147483648 : Int) then
                          some 2
                        else
                          some 0
                    else
                      some 12
            else
              some 6
          else
            some 6
        else
          some 1
  else
    some 6
def tollwayref24_Check_h1 (d_0 : Tapi_Discount) (r1 : Bool) : List CH := (cs 4 [.ret none [.str d_0.Name] (.bool r1) [], .op none .c])
def tollwayref24_Check_h2  : List CH := ((.br false) :: (cs 2 [.op none .a, .op none .c]))
def tollwayref24_Check_h3  : List CH := ((.op (some false) .c) :: (.op none .c) :: (.op none .a) :: (cs 2 []))
def tollwayref24_Check_h4 (d_0 : Tapi_Discount) (r6 : Bool) : List CH := ((.op (some false) .c) :: (.ret none [.agg (Tapi_Discount.enc d_0)] (.bool r6) []) :: (cs 2 []))
def tollwayref24_Check_h5 (d_0 : Tapi_Discount) (r9 : Bool) : List CH := ((.br false) :: (cs 2 ((.ret none [.str d_0.Group] (.bool r9) []) :: (cs 2 []))))
def tollwayref24_Check_h6 (d_0 : Tapi_Discount) (r12 : Bool) : List CH := ((.op (some false) .c) :: (.op none .c) :: (.ret none [.str d_0.System] (.bool r12) []) :: (cs 2 []))
def tollwayref24_Check_h7  : List CH := ((.br false) :: (cs 2 [.op none .a, .op none .c]))
def tollwayref24_Check_h8  : List CH := [.op (some false) .c, .op none .c, .op none .a, .op none .c]
def tollwayref24_Check_h9  : List CH := ((.br false) :: (cs 3 [.op none .a, .op none .c]))
def tollwayref24_Check_h10  : List CH := ((.op (some false) .c) :: (cs 8 ((.op none .a) :: (.op none .c) :: (.op (some true) .c) :: (cs 2 [.op none .a, .op none .c]))))
def tollwayref24_Check_h11  : List CH := ((.op (some false) .c) :: (cs 2 ((.op none .a) :: (cs 3 []))))
def tollwayref24_Check_h12  : List CH := ((.br false) :: (cs 2 [.op none .a, .op none .c]))
def tollwayref24_Check_h13  : List CH := [.op (some false) .c, .op none .c, .op none .a, .op none .c]
def tollwayref24_Check_h14 (d_0 : Tapi_Discount) (r22 : Bool) : List CH := ((.op (some true) .c) :: (.op none .c) :: (.ret none [.agg (Tapi_Window.enc d_0.Window)] (.bool r22) []) :: (cs 3 []))
def tollwayref24_Check_h15  : List CH := ((.op (some false) .c) :: (cs 2 ((.op none .a) :: (.op none .c) :: (.op (some false) .c) :: (cs 11 ((.br false) :: (cs 2 [.op none .a, .op none .c]))))))
def tollwayref24_Check_h16  : List CH := [.op (some false) .c, .op none .c, .op none .a, .op none .c]
def tollwayref24_Check_p17 (d_0 : Tapi_Discount) (r6 : Bool) : List Prop := [((decide (d_0.Kind > (3 : Int))) = false), ((.agg (Tapi_Discount.enc d_0) : AV) = .agg (Tapi_Discount.enc d_0)), (Ret Try.prog G0 52 [.agg (Tapi_Discount.enc d_0)] (.bool r6) [])]
theorem tollwayref24_Check_p17q (d_0 : Tapi_Discount) (c5 : ¬ (d_0.Kind > (3 : Int))) (r6 : Bool) (h7 : tollwayref24_amounts d_0 = some r6) : allOk (tollwayref24_Check_p17 d_0 r6) := ⟨(decide_eq_false c5), rfl, ok1 (tollwayref24_amounts_ret d_0 r6 h7)⟩
def tollwayref24_Check_p18 (d_0 : Tapi_Discount) (r6 : Bool) (r9 : Bool) : List Prop := [((!r6) = false), ((.str d_0.Group : AV) = .str d_0.Group), (Ret Try.prog G0 53 [.str d_0.Group] (.bool r9) [])]
theorem tollwayref24_Check_p18q (d_0 : Tapi_Discount) (r6 : Bool) (c8 : r6 = true) (r9 : Bool) (h10 : tollwayref24_named d_0.Group = some r9) : allOk (tollwayref24_Check_p18 d_0 r6 r9) := ⟨(not_f c8), rfl, ok1 (tollwayref24_named_ret d_0.Group r9 h10)⟩
def tollwayref24_Check_p19 (d_0 : Tapi_Discount) (r9 : Bool) (r12 : Bool) : List Prop := [((!r9) = false), ((.str d_0.System : AV) = .str d_0.System), (Ret Try.prog G0 53 [.str d_0.System] (.bool r12) [])]
theorem tollwayref24_Check_p19q (d_0 : Tapi_Discount) (r9 : Bool) (c11 : r9 = true) (r12 : Bool) (h13 : tollwayref24_named d_0.System = some r12) : allOk (tollwayref24_Check_p19 d_0 r9 r12) := ⟨(not_f c11), rfl, ok1 (tollwayref24_named_ret d_0.System r12 h13)⟩
def tollwayref24_Check_p20 (d_0 : Tapi_Discount) (r22 : Bool) : List Prop := [((!(d_0.Window.Days == (0 : Int))) = true), ((.agg (Tapi_Window.enc d_0.Window) : AV) = .agg (Tapi_Window.enc d_0.Window)), (Ret Try.prog G0 54 [.agg (Tapi_Window.enc d_0.Window)] (.bool r22) [])]
theorem tollwayref24_Check_p20q (d_0 : Tapi_Discount) (c17 : ¬ (d_0.Window.Days = (0 : Int))) (r22 : Bool) (h23 : tollwayref04_ValidWindow d_0.Window = some r22) : allOk (tollwayref24_Check_p20 d_0 r22) := ⟨(not_t (beq_f c17)), rfl, ok1 (tollwayref04_ValidWindow_ret d_0.Window r22 h23)⟩
def tollwayref24_Check_p21 (d_0 : Tapi_Discount) (r22 : Bool) : List Prop := [((!r22) = false), ((d_0.Window.Days == (0 : Int)) = false), (false = false)]
theorem tollwayref24_Check_p21q (d_0 : Tapi_Discount) (c17 : ¬ (d_0.Window.Days = (0 : Int))) (r22 : Bool) (c24 : r22 = true) : allOk (tollwayref24_Check_p21 d_0 r22) := ⟨(not_f c24), (beq_f c17), ok1 rfl⟩
theorem tollwayref24_Check_0 (d_0 : Tapi_Discount) (r1 : Bool) (h2 : tollwayref01_Name d_0.Name = some r1) (c3 : r1 = true) (c4 : d_0.Kind < (1 : Int)) : Ret Try.prog G0 40 [.agg (Tapi_Discount.enc d_0)] (.int .i64 1) [] :=
  Ret.of_view 400 ((tollwayref24_Check_h1 d_0 r1) ++ ((tollwayref24_Check_h2) ++ ((.op (some true) .c) :: (cs 8 [.br true, .op none .c])))) [] (ps := ([((.str d_0.Name : AV) = .str d_0.Name), (Ret Try.prog G0 51 [.str d_0.Name] (.bool r1) [])] ++ ([((!r1) = false)] ++ [((decide (d_0.Kind < (1 : Int))) = true), (true = true)]))) (by kernel_rfl) (by kernel_rfl) (allOk_append.2 ⟨⟨rfl, ok1 (tollwayref01_Name_ret d_0.Name r1 h2)⟩, (allOk_append.2 ⟨(ok1 (not_f c3)), ⟨(decide_eq_true c4), ok1 rfl⟩⟩)⟩)
theorem tollwayref24_Check_1 (d_0 : Tapi_Discount) (r1 : Bool) (h2 : tollwayref01_Name d_0.Name = some r1) (c3 : r1 = true) (c4 : ¬ (d_0.Kind < (1 : Int))) (c5 : d_0.Kind > (3 : Int)) : Ret Try.prog G0 40 [.agg (Tapi_Discount.enc d_0)] (.int .i64 1) [] :=
  Ret.of_view 400 ((tollwayref24_Check_h1 d_0 r1) ++ ((tollwayref24_Check_h2) ++ ((tollwayref24_Check_h3) ++ ((.op (some true) .c) :: (cs 3 [.br true, .op none .c]))))) [] (ps := ([((.str d_0.Name : AV) = .str d_0.Name), (Ret Try.prog G0 51 [.str d_0.Name] (.bool r1) [])] ++ ([((!r1) = false)] ++ ([((decide (d_0.Kind < (1 : Int))) = false)] ++ [((decide (d_0.Kind > (3 : Int))) = true), (true = true)])))) (by kernel_rfl) (by kernel_rfl) (allOk_append.2 ⟨⟨rfl, ok1 (tollwayref01_Name_ret d_0.Name r1 h2)⟩, (allOk_append.2 ⟨(ok1 (not_f c3)), (allOk_append.2 ⟨(ok1 (decide_eq_false c4)), ⟨(decide_eq_true c5), ok1 rfl⟩⟩)⟩)⟩)
theorem tollwayref24_Check_2 (d_0 : Tapi_Discount) (r1 : Bool) (h2 : tollwayref01_Name d_0.Name = some r1) (c3 : r1 = true) (c4 : ¬ (d_0.Kind < (1 : Int))) (c5 : ¬ (d_0.Kind > (3 : Int))) (r6 : Bool) (h7 : tollwayref24_amounts d_0 = some r6) (c8 : r6 = true) (r9 : Bool) (h10 : tollwayref24_named d_0.Group = some r9) (c11 : r9 = true) (r12 : Bool) (h13 : tollwayref24_named d_0.System = some r12) (c14 : r12 = true) (c15 : d_0.Class < (0 : Int)) : Ret Try.prog G0 40 [.agg (Tapi_Discount.enc d_0)] (.int .i64 20) [] :=
  Ret.of_view 400 ((tollwayref24_Check_h1 d_0 r1) ++ ((tollwayref24_Check_h2) ++ ((tollwayref24_Check_h3) ++ ((tollwayref24_Check_h4 d_0 r6) ++ ((tollwayref24_Check_h5 d_0 r9) ++ ((tollwayref24_Check_h6 d_0 r12) ++ ((tollwayref24_Check_h7) ++ ((.op (some true) .c) :: (cs 3 [.br true, .op none .c]))))))))) [] (ps := ([((.str d_0.Name : AV) = .str d_0.Name), (Ret Try.prog G0 51 [.str d_0.Name] (.bool r1) [])] ++ ([((!r1) = false)] ++ ([((decide (d_0.Kind < (1 : Int))) = false)] ++ ((tollwayref24_Check_p17 d_0 r6) ++ ((tollwayref24_Check_p18 d_0 r6 r9) ++ ((tollwayref24_Check_p19 d_0 r9 r12) ++ ([((!r12) = false)] ++ [((decide (d_0.Class < (0 : Int))) = true), (true = true)])))))))) (by kernel_rfl) (by kernel_rfl) (allOk_append.2 ⟨⟨rfl, ok1 (tollwayref01_Name_ret d_0.Name r1 h2)⟩, (allOk_append.2 ⟨(ok1 (not_f c3)), (allOk_append.2 ⟨(ok1 (decide_eq_false c4)), (allOk_append.2 ⟨(tollwayref24_Check_p17q d_0 c5 r6 h7), (allOk_append.2 ⟨(tollwayref24_Check_p18q d_0 r6 c8 r9 h10), (allOk_append.2 ⟨(tollwayref24_Check_p19q d_0 r9 c11 r12 h13), (allOk_append.2 ⟨(ok1 (not_f c14)), ⟨(decide_eq_true c15), ok1 rfl⟩⟩)⟩)⟩)⟩)⟩)⟩)⟩)
theorem tollwayref24_Check_3 (d_0 : Tapi_Discount) (r1 : Bool) (h2 : tollwayref01_Name d_0.Name = some r1) (c3 : r1 = true) (c4 : ¬ (d_0.Kind < (1 : Int))) (c5 : ¬ (d_0.Kind > (3 : Int))) (r6 : Bool) (h7 : tollwayref24_amounts d_0 = some r6) (c8 : r6 = true) (r9 : Bool) (h10 : tollwayref24_named d_0.Group = some r9) (c11 : r9 = true) (r12 : Bool) (h13 : tollwayref24_named d_0.System = some r12) (c14 : r12 = true) (c15 : ¬ (d_0.Class < (0 : Int))) (c16 : d_0.Class > (9 : Int)) : Ret Try.prog G0 40 [.agg (Tapi_Discount.enc d_0)] (.int .i64 20) [] :=
  Ret.of_view 400 ((tollwayref24_Check_h1 d_0 r1) ++ ((tollwayref24_Check_h2) ++ ((tollwayref24_Check_h3) ++ ((tollwayref24_Check_h4 d_0 r6) ++ ((tollwayref24_Check_h5 d_0 r9) ++ ((tollwayref24_Check_h6 d_0 r12) ++ ((tollwayref24_Check_h7) ++ ((tollwayref24_Check_h8) ++ [.br true, .op none .c])))))))) [] (ps := ([((.str d_0.Name : AV) = .str d_0.Name), (Ret Try.prog G0 51 [.str d_0.Name] (.bool r1) [])] ++ ([((!r1) = false)] ++ ([((decide (d_0.Kind < (1 : Int))) = false)] ++ ((tollwayref24_Check_p17 d_0 r6) ++ ((tollwayref24_Check_p18 d_0 r6 r9) ++ ((tollwayref24_Check_p19 d_0 r9 r12) ++ ([((!r12) = false)] ++ ([((decide (d_0.Class < (0 : Int))) = false)] ++ [((decide (d_0.Class > (9 : Int))) = true)]))))))))) (by kernel_rfl) (by kernel_rfl) (allOk_append.2 ⟨⟨rfl, ok1 (tollwayref01_Name_ret d_0.Name r1 h2)⟩, (allOk_append.2 ⟨(ok1 (not_f c3)), (allOk_append.2 ⟨(ok1 (decide_eq_false c4)), (allOk_append.2 ⟨(tollwayref24_Check_p17q d_0 c5 r6 h7), (allOk_append.2 ⟨(tollwayref24_Check_p18q d_0 r6 c8 r9 h10), (allOk_append.2 ⟨(tollwayref24_Check_p19q d_0 r9 c11 r12 h13), (allOk_append.2 ⟨(ok1 (not_f c14)), (allOk_append.2 ⟨(ok1 (decide_eq_false c15)), (ok1 (decide_eq_true c16))⟩)⟩)⟩)⟩)⟩)⟩)⟩)⟩)
theorem tollwayref24_Check_4 (d_0 : Tapi_Discount) (r1 : Bool) (h2 : tollwayref01_Name d_0.Name = some r1) (c3 : r1 = true) (c4 : ¬ (d_0.Kind < (1 : Int))) (c5 : ¬ (d_0.Kind > (3 : Int))) (r6 : Bool) (h7 : tollwayref24_amounts d_0 = some r6) (c8 : r6 = true) (r9 : Bool) (h10 : tollwayref24_named d_0.Group = some r9) (c11 : r9 = true) (r12 : Bool) (h13 : tollwayref24_named d_0.System = some r12) (c14 : r12 = true) (c15 : ¬ (d_0.Class < (0 : Int))) (c16 : ¬ (d_0.Class > (9 : Int))) (c17 : d_0.Window.Days = (0 : Int)) (c18 : d_0.Window.From = (0 : Int)) (c19 : d_0.Window.To = (0 : Int)) (c20 : d_0.Least < (0 : Int)) : Ret Try.prog G0 40 [.agg (Tapi_Discount.enc d_0)] (.int .i64 2) [] :=
  Ret.of_view 400 ((tollwayref24_Check_h1 d_0 r1) ++ ((tollwayref24_Check_h2) ++ ((tollwayref24_Check_h3) ++ ((tollwayref24_Check_h4 d_0 r6) ++ ((tollwayref24_Check_h5 d_0 r9) ++ ((tollwayref24_Check_h6 d_0 r12) ++ ((tollwayref24_Check_h7) ++ ((tollwayref24_Check_h8) ++ ((tollwayref24_Check_h9) ++ ((tollwayref24_Check_h10) ++ ((tollwayref24_Check_h11) ++ ((tollwayref24_Check_h12) ++ ((.op (some true) .c) :: (cs 3 [.br true, .op none .c])))))))))))))) [] (ps := ([((.str d_0.Name : AV) = .str d_0.Name), (Ret Try.prog G0 51 [.str d_0.Name] (.bool r1) [])] ++ ([((!r1) = false)] ++ ([((decide (d_0.Kind < (1 : Int))) = false)] ++ ((tollwayref24_Check_p17 d_0 r6) ++ ((tollwayref24_Check_p18 d_0 r6 r9) ++ ((tollwayref24_Check_p19 d_0 r9 r12) ++ ([((!r12) = false)] ++ ([((decide (d_0.Class < (0 : Int))) = false)] ++ ([((decide (d_0.Class > (9 : Int))) = false)] ++ ([((!(d_0.Window.Days == (0 : Int))) = false), ((d_0.Window.Days == (0 : Int)) = true)] ++ ([((!(d_0.Window.From == (0 : Int))) = false)] ++ ([((!(d_0.Window.To == (0 : Int))) = false)] ++ [((decide (d_0.Least < (0 : Int))) = true), (true = true)]))))))))))))) (by kernel_rfl) (by kernel_rfl) (allOk_append.2 ⟨⟨rfl, ok1 (tollwayref01_Name_ret d_0.Name r1 h2)⟩, (allOk_append.2 ⟨(ok1 (not_f c3)), (allOk_append.2 ⟨(ok1 (decide_eq_false c4)), (allOk_append.2 ⟨(tollwayref24_Check_p17q d_0 c5 r6 h7), (allOk_append.2 ⟨(tollwayref24_Check_p18q d_0 r6 c8 r9 h10), (allOk_append.2 ⟨(tollwayref24_Check_p19q d_0 r9 c11 r12 h13), (allOk_append.2 ⟨(ok1 (not_f c14)), (allOk_append.2 ⟨(ok1 (decide_eq_false c15)), (allOk_append.2 ⟨(ok1 (decide_eq_false c16)), (allOk_append.2 ⟨⟨(not_f (beq_t c17)), ok1 (beq_t c17)⟩, (allOk_append.2 ⟨(ok1 (not_f (beq_t c18))), (allOk_append.2 ⟨(ok1 (not_f (beq_t c19))), ⟨(decide_eq_true c20), ok1 rfl⟩⟩)⟩)⟩)⟩)⟩)⟩)⟩)⟩)⟩)⟩)⟩)⟩)
theorem tollwayref24_Check_5 (d_0 : Tapi_Discount) (r1 : Bool) (h2 : tollwayref01_Name d_0.Name = some r1) (c3 : r1 = true) (c4 : ¬ (d_0.Kind < (1 : Int))) (c5 : ¬ (d_0.Kind > (3 : Int))) (r6 : Bool) (h7 : tollwayref24_amounts d_0 = some r6) (c8 : r6 = true) (r9 : Bool) (h10 : tollwayref24_named d_0.Group = some r9) (c11 : r9 = true) (r12 : Bool) (h13 : tollwayref24_named d_0.System = some r12) (c14 : r12 = true) (c15 : ¬ (d_0.Class < (0 : Int))) (c16 : ¬ (d_0.Class > (9 : Int))) (c17 : d_0.Window.Days = (0 : Int)) (c18 : d_0.Window.From = (0 : Int)) (c19 : d_0.Window.To = (0 : Int)) (c20 : ¬ (d_0.Least < (0 : Int))) (c21 : d_0.Least > (2147483648 : Int)) : Ret Try.prog G0 40 [.agg (Tapi_Discount.enc d_0)] (.int .i64 2) [] :=
  Ret.of_view 400 ((tollwayref24_Check_h1 d_0 r1) ++ ((tollwayref24_Check_h2) ++ ((tollwayref24_Check_h3) ++ ((tollwayref24_Check_h4 d_0 r6) ++ ((tollwayref24_Check_h5 d_0 r9) ++ ((tollwayref24_Check_h6 d_0 r12) ++ ((tollwayref24_Check_h7) ++ ((tollwayref24_Check_h8) ++ ((tollwayref24_Check_h9) ++ ((tollwayref24_Check_h10) ++ ((tollwayref24_Check_h11) ++ ((tollwayref24_Check_h12) ++ ((tollwayref24_Check_h13) ++ [.br true, .op none .c]))))))))))))) [] (ps := ([((.str d_0.Name : AV) = .str d_0.Name), (Ret Try.prog G0 51 [.str d_0.Name] (.bool r1) [])] ++ ([((!r1) = false)] ++ ([((decide (d_0.Kind < (1 : Int))) = false)] ++ ((tollwayref24_Check_p17 d_0 r6) ++ ((tollwayref24_Check_p18 d_0 r6 r9) ++ ((tollwayref24_Check_p19 d_0 r9 r12) ++ ([((!r12) = false)] ++ ([((decide (d_0.Class < (0 : Int))) = false)] ++ ([((decide (d_0.Class > (9 : Int))) = false)] ++ ([((!(d_0.Window.Days == (0 : Int))) = false), ((d_0.Window.Days == (0 : Int)) = true)] ++ ([((!(d_0.Window.From == (0 : Int))) = false)] ++ ([((!(d_0.Window.To == (0 : Int))) = false)] ++ ([((decide (d_0.Least < (0 : Int))) = false)] ++ [((decide (d_0.Least > (2147483648 : Int))) = true)])))))))))))))) (by kernel_rfl) (by kernel_rfl) (allOk_append.2 ⟨⟨rfl, ok1 (tollwayref01_Name_ret d_0.Name r1 h2)⟩, (allOk_append.2 ⟨(ok1 (not_f c3)), (allOk_append.2 ⟨(ok1 (decide_eq_false c4)), (allOk_append.2 ⟨(tollwayref24_Check_p17q d_0 c5 r6 h7), (allOk_append.2 ⟨(tollwayref24_Check_p18q d_0 r6 c8 r9 h10), (allOk_append.2 ⟨(tollwayref24_Check_p19q d_0 r9 c11 r12 h13), (allOk_append.2 ⟨(ok1 (not_f c14)), (allOk_append.2 ⟨(ok1 (decide_eq_false c15)), (allOk_append.2 ⟨(ok1 (decide_eq_false c16)), (allOk_append.2 ⟨⟨(not_f (beq_t c17)), ok1 (beq_t c17)⟩, (allOk_append.2 ⟨(ok1 (not_f (beq_t c18))), (allOk_append.2 ⟨(ok1 (not_f (beq_t c19))), (allOk_append.2 ⟨(ok1 (decide_eq_false c20)), (ok1 (decide_eq_true c21))⟩)⟩)⟩)⟩)⟩)⟩)⟩)⟩)⟩)⟩)⟩)⟩)⟩)
theorem tollwayref24_Check_6 (d_0 : Tapi_Discount) (r1 : Bool) (h2 : tollwayref01_Name d_0.Name = some r1) (c3 : r1 = true) (c4 : ¬ (d_0.Kind < (1 : Int))) (c5 : ¬ (d_0.Kind > (3 : Int))) (r6 : Bool) (h7 : tollwayref24_amounts d_0 = some r6) (c8 : r6 = true) (r9 : Bool) (h10 : tollwayref24_named d_0.Group = some r9) (c11 : r9 = true) (r12 : Bool) (h13 : tollwayref24_named d_0.System = some r12) (c14 : r12 = true) (c15 : ¬ (d_0.Class < (0 : Int))) (c16 : ¬ (d_0.Class > (9 : Int))) (c17 : d_0.Window.Days = (0 : Int)) (c18 : d_0.Window.From = (0 : Int)) (c19 : d_0.Window.To = (0 : Int)) (c20 : ¬ (d_0.Least < (0 : Int))) (c21 : ¬ (d_0.Least > (2147483648 : Int))) : Ret Try.prog G0 40 [.agg (Tapi_Discount.enc d_0)] (.int .i64 0) [] :=
  Ret.of_view 400 ((tollwayref24_Check_h1 d_0 r1) ++ ((tollwayref24_Check_h2) ++ ((tollwayref24_Check_h3) ++ ((tollwayref24_Check_h4 d_0 r6) ++ ((tollwayref24_Check_h5 d_0 r9) ++ ((tollwayref24_Check_h6 d_0 r12) ++ ((tollwayref24_Check_h7) ++ ((tollwayref24_Check_h8) ++ ((tollwayref24_Check_h9) ++ ((tollwayref24_Check_h10) ++ ((tollwayref24_Check_h11) ++ ((tollwayref24_Check_h12) ++ ((tollwayref24_Check_h13) ++ [.br false, .op none .c]))))))))))))) [] (ps := ([((.str d_0.Name : AV) = .str d_0.Name), (Ret Try.prog G0 51 [.str d_0.Name] (.bool r1) [])] ++ ([((!r1) = false)] ++ ([((decide (d_0.Kind < (1 : Int))) = false)] ++ ((tollwayref24_Check_p17 d_0 r6) ++ ((tollwayref24_Check_p18 d_0 r6 r9) ++ ((tollwayref24_Check_p19 d_0 r9 r12) ++ ([((!r12) = false)] ++ ([((decide (d_0.Class < (0 : Int))) = false)] ++ ([((decide (d_0.Class > (9 : Int))) = false)] ++ ([((!(d_0.Window.Days == (0 : Int))) = false), ((d_0.Window.Days == (0 : Int)) = true)] ++ ([((!(d_0.Window.From == (0 : Int))) = false)] ++ ([((!(d_0.Window.To == (0 : Int))) = false)] ++ ([((decide (d_0.Least < (0 : Int))) = false)] ++ [((decide (d_0.Least > (2147483648 : Int))) = false)])))))))))))))) (by kernel_rfl) (by kernel_rfl) (allOk_append.2 ⟨⟨rfl, ok1 (tollwayref01_Name_ret d_0.Name r1 h2)⟩, (allOk_append.2 ⟨(ok1 (not_f c3)), (allOk_append.2 ⟨(ok1 (decide_eq_false c4)), (allOk_append.2 ⟨(tollwayref24_Check_p17q d_0 c5 r6 h7), (allOk_append.2 ⟨(tollwayref24_Check_p18q d_0 r6 c8 r9 h10), (allOk_append.2 ⟨(tollwayref24_Check_p19q d_0 r9 c11 r12 h13), (allOk_append.2 ⟨(ok1 (not_f c14)), (allOk_append.2 ⟨(ok1 (decide_eq_false c15)), (allOk_append.2 ⟨(ok1 (decide_eq_false c16)), (allOk_append.2 ⟨⟨(not_f (beq_t c17)), ok1 (beq_t c17)⟩, (allOk_append.2 ⟨(ok1 (not_f (beq_t c18))), (allOk_append.2 ⟨(ok1 (not_f (beq_t c19))), (allOk_append.2 ⟨(ok1 (decide_eq_false c20)), (ok1 (decide_eq_false c21))⟩)⟩)⟩)⟩)⟩)⟩)⟩)⟩)⟩)⟩)⟩)⟩)⟩)
theorem tollwayref24_Check_7 (d_0 : Tapi_Discount) (r1 : Bool) (h2 : tollwayref01_Name d_0.Name = some r1) (c3 : r1 = true) (c4 : ¬ (d_0.Kind < (1 : Int))) (c5 : ¬ (d_0.Kind > (3 : Int))) (r6 : Bool) (h7 : tollwayref24_amounts d_0 = some r6) (c8 : r6 = true) (r9 : Bool) (h10 : tollwayref24_named d_0.Group = some r9) (c11 : r9 = true) (r12 : Bool) (h13 : tollwayref24_named d_0.System = some r12) (c14 : r12 = true) (c15 : ¬ (d_0.Class < (0 : Int))) (c16 : ¬ (d_0.Class > (9 : Int))) (c17 : d_0.Window.Days = (0 : Int)) (c18 : d_0.Window.From = (0 : Int)) (c19 : ¬ (d_0.Window.To = (0 : Int))) : Ret Try.prog G0 40 [.agg (Tapi_Discount.enc d_0)] (.int .i64 12) [] :=
  Ret.of_view 400 ((tollwayref24_Check_h1 d_0 r1) ++ ((tollwayref24_Check_h2) ++ ((tollwayref24_Check_h3) ++ ((tollwayref24_Check_h4 d_0 r6) ++ ((tollwayref24_Check_h5 d_0 r9) ++ ((tollwayref24_Check_h6 d_0 r12) ++ ((tollwayref24_Check_h7) ++ ((tollwayref24_Check_h8) ++ ((tollwayref24_Check_h9) ++ ((tollwayref24_Check_h10) ++ ((tollwayref24_Check_h11) ++ [.br true, .op none .c]))))))))))) [] (ps := ([((.str d_0.Name : AV) = .str d_0.Name), (Ret Try.prog G0 51 [.str d_0.Name] (.bool r1) [])] ++ ([((!r1) = false)] ++ ([((decide (d_0.Kind < (1 : Int))) = false)] ++ ((tollwayref24_Check_p17 d_0 r6) ++ ((tollwayref24_Check_p18 d_0 r6 r9) ++ ((tollwayref24_Check_p19 d_0 r9 r12) ++ ([((!r12) = false)] ++ ([((decide (d_0.Class < (0 : Int))) = false)] ++ ([((decide (d_0.Class > (9 : Int))) = false)] ++ ([((!(d_0.Window.Days == (0 : Int))) = false), ((d_0.Window.Days == (0 : Int)) = true)] ++ ([((!(d_0.Window.From == (0 : Int))) = false)] ++ [((!(d_0.Window.To == (0 : Int))) = true)])))))))))))) (by kernel_rfl) (by kernel_rfl) (allOk_append.2 ⟨⟨rfl, ok1 (tollwayref01_Name_ret d_0.Name r1 h2)⟩, (allOk_append.2 ⟨(ok1 (not_f c3)), (allOk_append.2 ⟨(ok1 (decide_eq_false c4)), (allOk_append.2 ⟨(tollwayref24_Check_p17q d_0 c5 r6 h7), (allOk_append.2 ⟨(tollwayref24_Check_p18q d_0 r6 c8 r9 h10), (allOk_append.2 ⟨(tollwayref24_Check_p19q d_0 r9 c11 r12 h13), (allOk_append.2 ⟨(ok1 (not_f c14)), (allOk_append.2 ⟨(ok1 (decide_eq_false c15)), (allOk_append.2 ⟨(ok1 (decide_eq_false c16)), (allOk_append.2 ⟨⟨(not_f (beq_t c17)), ok1 (beq_t c17)⟩, (allOk_append.2 ⟨(ok1 (not_f (beq_t c18))), (ok1 (not_t (beq_f c19)))⟩)⟩)⟩)⟩)⟩)⟩)⟩)⟩)⟩)⟩)⟩)
theorem tollwayref24_Check_8 (d_0 : Tapi_Discount) (r1 : Bool) (h2 : tollwayref01_Name d_0.Name = some r1) (c3 : r1 = true) (c4 : ¬ (d_0.Kind < (1 : Int))) (c5 : ¬ (d_0.Kind > (3 : Int))) (r6 : Bool) (h7 : tollwayref24_amounts d_0 = some r6) (c8 : r6 = true) (r9 : Bool) (h10 : tollwayref24_named d_0.Group = some r9) (c11 : r9 = true) (r12 : Bool) (h13 : tollwayref24_named d_0.System = some r12) (c14 : r12 = true) (c15 : ¬ (d_0.Class < (0 : Int))) (c16 : ¬ (d_0.Class > (9 : Int))) (c17 : d_0.Window.Days = (0 : Int)) (c18 : ¬ (d_0.Window.From = (0 : Int))) : Ret Try.prog G0 40 [.agg (Tapi_Discount.enc d_0)] (.int .i64 12) [] :=
  Ret.of_view 400 ((tollwayref24_Check_h1 d_0 r1) ++ ((tollwayref24_Check_h2) ++ ((tollwayref24_Check_h3) ++ ((tollwayref24_Check_h4 d_0 r6) ++ ((tollwayref24_Check_h5 d_0 r9) ++ ((tollwayref24_Check_h6 d_0 r12) ++ ((tollwayref24_Check_h7) ++ ((tollwayref24_Check_h8) ++ ((tollwayref24_Check_h9) ++ ((tollwayref24_Check_h10) ++ ((.op (some true) .c) :: (cs 6 [.br true, .op none .c])))))))))))) [] (ps := ([((.str d_0.Name : AV) = .str d_0.Name), (Ret Try.prog G0 51 [.str d_0.Name] (.bool r1) [])] ++ ([((!r1) = false)] ++ ([((decide (d_0.Kind < (1 : Int))) = false)] ++ ((tollwayref24_Check_p17 d_0 r6) ++ ((tollwayref24_Check_p18 d_0 r6 r9) ++ ((tollwayref24_Check_p19 d_0 r9 r12) ++ ([((!r12) = false)] ++ ([((decide (d_0.Class < (0 : Int))) = false)] ++ ([((decide (d_0.Class > (9 : Int))) = false)] ++ ([((!(d_0.Window.Days == (0 : Int))) = false), ((d_0.Window.Days == (0 : Int)) = true)] ++ [((!(d_0.Window.From == (0 : Int))) = true), (true = true)]))))))))))) (by kernel_rfl) (by kernel_rfl) (allOk_append.2 ⟨⟨rfl, ok1 (tollwayref01_Name_ret d_0.Name r1 h2)⟩, (allOk_append.2 ⟨(ok1 (not_f c3)), (allOk_append.2 ⟨(ok1 (decide_eq_false c4)), (allOk_append.2 ⟨(tollwayref24_Check_p17q d_0 c5 r6 h7), (allOk_append.2 ⟨(tollwayref24_Check_p18q d_0 r6 c8 r9 h10), (allOk_append.2 ⟨(tollwayref24_Check_p19q d_0 r9 c11 r12 h13), (allOk_append.2 ⟨(ok1 (not_f c14)), (allOk_append.2 ⟨(ok1 (decide_eq_false c15)), (allOk_append.2 ⟨(ok1 (decide_eq_false c16)), (allOk_append.2 ⟨⟨(not_f (beq_t c17)), ok1 (beq_t c17)⟩, ⟨(not_t (beq_f c18)), ok1 rfl⟩⟩)⟩)⟩)⟩)⟩)⟩)⟩)⟩)⟩)⟩)
theorem tollwayref24_Check_9 (d_0 : Tapi_Discount) (r1 : Bool) (h2 : tollwayref01_Name d_0.Name = some r1) (c3 : r1 = true) (c4 : ¬ (d_0.Kind < (1 : Int))) (c5 : ¬ (d_0.Kind > (3 : Int))) (r6 : Bool) (h7 : tollwayref24_amounts d_0 = some r6) (c8 : r6 = true) (r9 : Bool) (h10 : tollwayref24_named d_0.Group = some r9) (c11 : r9 = true) (r12 : Bool) (h13 : tollwayref24_named d_0.System = some r12) (c14 : r12 = true) (c15 : ¬ (d_0.Class < (0 : Int))) (c16 : ¬ (d_0.Class > (9 : Int))) (c17 : ¬ (d_0.Window.Days = (0 : Int))) (r22 : Bool) (h23 : tollwayref04_ValidWindow d_0.Window = some r22) (c24 : r22 = true) (c25 : d_0.Least < (0 : Int)) : Ret Try.prog G0 40 [.agg (Tapi_Discount.enc d_0)] (.int .i64 2) [] :=
  Ret.of_view 400 ((tollwayref24_Check_h1 d_0 r1) ++ ((tollwayref24_Check_h2) ++ ((tollwayref24_Check_h3) ++ ((tollwayref24_Check_h4 d_0 r6) ++ ((tollwayref24_Check_h5 d_0 r9) ++ ((tollwayref24_Check_h6 d_0 r12) ++ ((tollwayref24_Check_h7) ++ ((tollwayref24_Check_h8) ++ ((tollwayref24_Check_h9) ++ ((tollwayref24_Check_h14 d_0 r22) ++ ((tollwayref24_Check_h15) ++ ((.op (some true) .c) :: (cs 3 [.br true, .op none .c]))))))))))))) [] (ps := ([((.str d_0.Name : AV) = .str d_0.Name), (Ret Try.prog G0 51 [.str d_0.Name] (.bool r1) [])] ++ ([((!r1) = false)] ++ ([((decide (d_0.Kind < (1 : Int))) = false)] ++ ((tollwayref24_Check_p17 d_0 r6) ++ ((tollwayref24_Check_p18 d_0 r6 r9) ++ ((tollwayref24_Check_p19 d_0 r9 r12) ++ ([((!r12) = false)] ++ ([((decide (d_0.Class < (0 : Int))) = false)] ++ ([((decide (d_0.Class > (9 : Int))) = false)] ++ ((tollwayref24_Check_p20 d_0 r22) ++ ((tollwayref24_Check_p21 d_0 r22) ++ [((decide (d_0.Least < (0 : Int))) = true), (true = true)])))))))))))) (by kernel_rfl) (by kernel_rfl) (allOk_append.2 ⟨⟨rfl, ok1 (tollwayref01_Name_ret d_0.Name r1 h2)⟩, (allOk_append.2 ⟨(ok1 (not_f c3)), (allOk_append.2 ⟨(ok1 (decide_eq_false c4)), (allOk_append.2 ⟨(tollwayref24_Check_p17q d_0 c5 r6 h7), (allOk_append.2 ⟨(tollwayref24_Check_p18q d_0 r6 c8 r9 h10), (allOk_append.2 ⟨(tollwayref24_Check_p19q d_0 r9 c11 r12 h13), (allOk_append.2 ⟨(ok1 (not_f c14)), (allOk_append.2 ⟨(ok1 (decide_eq_false c15)), (allOk_append.2 ⟨(ok1 (decide_eq_false c16)), (allOk_append.2 ⟨(tollwayref24_Check_p20q d_0 c17 r22 h23), (allOk_append.2 ⟨(tollwayref24_Check_p21q d_0 c17 r22 c24), ⟨(decide_eq_true c25), ok1 rfl⟩⟩)⟩)⟩)⟩)⟩)⟩)⟩)⟩)⟩)⟩)⟩)
theorem tollwayref24_Check_10 (d_0 : Tapi_Discount) (r1 : Bool) (h2 : tollwayref01_Name d_0.Name = some r1) (c3 : r1 = true) (c4 : ¬ (d_0.Kind < (1 : Int))) (c5 : ¬ (d_0.Kind > (3 : Int))) (r6 : Bool) (h7 : tollwayref24_amounts d_0 = some r6) (c8 : r6 = true) (r9 : Bool) (h10 : tollwayref24_named d_0.Group = some r9) (c11 : r9 = true) (r12 : Bool) (h13 : tollwayref24_named d_0.System = some r12) (c14 : r12 = true) (c15 : ¬ (d_0.Class < (0 : Int))) (c16 : ¬ (d_0.Class > (9 : Int))) (c17 : ¬ (d_0.Window.Days = (0 : Int))) (r22 : Bool) (h23 : tollwayref04_ValidWindow d_0.Window = some r22) (c24 : r22 = true) (c25 : ¬ (d_0.Least < (0 : Int))) (c26 : d_0.Least > (2147483648 : Int)) : Ret Try.prog G0 40 [.agg (Tapi_Discount.enc d_0)] (.int .i64 2) [] :=
  Ret.of_view 400 ((tollwayref24_Check_h1 d_0 r1) ++ ((tollwayref24_Check_h2) ++ ((tollwayref24_Check_h3) ++ ((tollwayref24_Check_h4 d_0 r6) ++ ((tollwayref24_Check_h5 d_0 r9) ++ ((tollwayref24_Check_h6 d_0 r12) ++ ((tollwayref24_Check_h7) ++ ((tollwayref24_Check_h8) ++ ((tollwayref24_Check_h9) ++ ((tollwayref24_Check_h14 d_0 r22) ++ ((tollwayref24_Check_h15) ++ ((tollwayref24_Check_h16) ++ [.br true, .op none .c])))))))))))) [] (ps := ([((.str d_0.Name : AV) = .str d_0.Name), (Ret Try.prog G0 51 [.str d_0.Name] (.bool r1) [])] ++ ([((!r1) = false)] ++ ([((decide (d_0.Kind < (1 : Int))) = false)] ++ ((tollwayref24_Check_p17 d_0 r6) ++ ((tollwayref24_Check_p18 d_0 r6 r9) ++ ((tollwayref24_Check_p19 d_0 r9 r12) ++ ([((!r12) = false)] ++ ([((decide (d_0.Class < (0 : Int))) = false)] ++ ([((decide (d_0.Class > (9 : Int))) = false)] ++ ((tollwayref24_Check_p20 d_0 r22) ++ ((tollwayref24_Check_p21 d_0 r22) ++ ([((decide (d_0.Least < (0 : Int))) = false)] ++ [((decide (d_0.Least > (2147483648 : Int))) = true)]))))))))))))) (by kernel_rfl) (by kernel_rfl) (allOk_append.2 ⟨⟨rfl, ok1 (tollwayref01_Name_ret d_0.Name r1 h2)⟩, (allOk_append.2 ⟨(ok1 (not_f c3)), (allOk_append.2 ⟨(ok1 (decide_eq_false c4)), (allOk_append.2 ⟨(tollwayref24_Check_p17q d_0 c5 r6 h7), (allOk_append.2 ⟨(tollwayref24_Check_p18q d_0 r6 c8 r9 h10), (allOk_append.2 ⟨(tollwayref24_Check_p19q d_0 r9 c11 r12 h13), (allOk_append.2 ⟨(ok1 (not_f c14)), (allOk_append.2 ⟨(ok1 (decide_eq_false c15)), (allOk_append.2 ⟨(ok1 (decide_eq_false c16)), (allOk_append.2 ⟨(tollwayref24_Check_p20q d_0 c17 r22 h23), (allOk_append.2 ⟨(tollwayref24_Check_p21q d_0 c17 r22 c24), (allOk_append.2 ⟨(ok1 (decide_eq_false c25)), (ok1 (decide_eq_true c26))⟩)⟩)⟩)⟩)⟩)⟩)⟩)⟩)⟩)⟩)⟩)⟩)
theorem tollwayref24_Check_11 (d_0 : Tapi_Discount) (r1 : Bool) (h2 : tollwayref01_Name d_0.Name = some r1) (c3 : r1 = true) (c4 : ¬ (d_0.Kind < (1 : Int))) (c5 : ¬ (d_0.Kind > (3 : Int))) (r6 : Bool) (h7 : tollwayref24_amounts d_0 = some r6) (c8 : r6 = true) (r9 : Bool) (h10 : tollwayref24_named d_0.Group = some r9) (c11 : r9 = true) (r12 : Bool) (h13 : tollwayref24_named d_0.System = some r12) (c14 : r12 = true) (c15 : ¬ (d_0.Class < (0 : Int))) (c16 : ¬ (d_0.Class > (9 : Int))) (c17 : ¬ (d_0.Window.Days = (0 : Int))) (r22 : Bool) (h23 : tollwayref04_ValidWindow d_0.Window = some r22) (c24 : r22 = true) (c25 : ¬ (d_0.Least < (0 : Int))) (c26 : ¬ (d_0.Least > (2147483648 : Int))) : Ret Try.prog G0 40 [.agg (Tapi_Discount.enc d_0)] (.int .i64 0) [] :=
  Ret.of_view 400 ((tollwayref24_Check_h1 d_0 r1) ++ ((tollwayref24_Check_h2) ++ ((tollwayref24_Check_h3) ++ ((tollwayref24_Check_h4 d_0 r6) ++ ((tollwayref24_Check_h5 d_0 r9) ++ ((tollwayref24_Check_h6 d_0 r12) ++ ((tollwayref24_Check_h7) ++ ((tollwayref24_Check_h8) ++ ((tollwayref24_Check_h9) ++ ((tollwayref24_Check_h14 d_0 r22) ++ ((tollwayref24_Check_h15) ++ ((tollwayref24_Check_h16) ++ [.br false, .op none .c])))))))))))) [] (ps := ([((.str d_0.Name : AV) = .str d_0.Name), (Ret Try.prog G0 51 [.str d_0.Name] (.bool r1) [])] ++ ([((!r1) = false)] ++ ([((decide (d_0.Kind < (1 : Int))) = false)] ++ ((tollwayref24_Check_p17 d_0 r6) ++ ((tollwayref24_Check_p18 d_0 r6 r9) ++ ((tollwayref24_Check_p19 d_0 r9 r12) ++ ([((!r12) = false)] ++ ([((decide (d_0.Class < (0 : Int))) = false)] ++ ([((decide (d_0.Class > (9 : Int))) = false)] ++ ((tollwayref24_Check_p20 d_0 r22) ++ ((tollwayref24_Check_p21 d_0 r22) ++ ([((decide (d_0.Least < (0 : Int))) = false)] ++ [((decide (d_0.Least > (2147483648 : Int))) = false)]))))))))))))) (by kernel_rfl) (by kernel_rfl) (allOk_append.2 ⟨⟨rfl, ok1 (tollwayref01_Name_ret d_0.Name r1 h2)⟩, (allOk_append.2 ⟨(ok1 (not_f c3)), (allOk_append.2 ⟨(ok1 (decide_eq_false c4)), (allOk_append.2 ⟨(tollwayref24_Check_p17q d_0 c5 r6 h7), (allOk_append.2 ⟨(tollwayref24_Check_p18q d_0 r6 c8 r9 h10), (allOk_append.2 ⟨(tollwayref24_Check_p19q d_0 r9 c11 r12 h13), (allOk_append.2 ⟨(ok1 (not_f c14)), (allOk_append.2 ⟨(ok1 (decide_eq_false c15)), (allOk_append.2 ⟨(ok1 (decide_eq_false c16)), (allOk_append.2 ⟨(tollwayref24_Check_p20q d_0 c17 r22 h23), (allOk_append.2 ⟨(tollwayref24_Check_p21q d_0 c17 r22 c24), (allOk_append.2 ⟨(ok1 (decide_eq_false c25)), (ok1 (decide_eq_false c26))⟩)⟩)⟩)⟩)⟩)⟩)⟩)⟩)⟩)⟩)⟩)⟩)
theorem tollwayref24_Check_12 (d_0 : Tapi_Discount) (r1 : Bool) (h2 : tollwayref01_Name d_0.Name = some r1) (c3 : r1 = true) (c4 : ¬ (d_0.Kind < (1 : Int))) (c5 : ¬ (d_0.Kind > (3 : Int))) (r6 : Bool) (h7 : tollwayref24_amounts d_0 = some r6) (c8 : r6 = true) (r9 : Bool) (h10 : tollwayref24_named d_0.Group = some r9) (c11 : r9 = true) (r12 : Bool) (h13 : tollwayref24_named d_0.System = some r12) (c14 : r12 = true) (c15 : ¬ (d_0.Class < (0 : Int))) (c16 : ¬ (d_0.Class > (9 : Int))) (c17 : ¬ (d_0.Window.Days = (0 : Int))) (r22 : Bool) (h23 : tollwayref04_ValidWindow d_0.Window = some r22) (c24 : ¬ (r22 = true)) : Ret Try.prog G0 40 [.agg (Tapi_Discount.enc d_0)] (.int .i64 12) [] :=
  Ret.of_view 400 ((tollwayref24_Check_h1 d_0 r1) ++ ((tollwayref24_Check_h2) ++ ((tollwayref24_Check_h3) ++ ((tollwayref24_Check_h4 d_0 r6) ++ ((tollwayref24_Check_h5 d_0 r9) ++ ((tollwayref24_Check_h6 d_0 r12) ++ ((tollwayref24_Check_h7) ++ ((tollwayref24_Check_h8) ++ ((tollwayref24_Check_h9) ++ ((tollwayref24_Check_h14 d_0 r22) ++ ((.op (some true) .c) :: (cs 16 [.br true, .op none .c])))))))))))) [] (ps := ([((.str d_0.Name : AV) = .str d_0.Name), (Ret Try.prog G0 51 [.str d_0.Name] (.bool r1) [])] ++ ([((!r1) = false)] ++ ([((decide (d_0.Kind < (1 : Int))) = false)] ++ ((tollwayref24_Check_p17 d_0 r6) ++ ((tollwayref24_Check_p18 d_0 r6 r9) ++ ((tollwayref24_Check_p19 d_0 r9 r12) ++ ([((!r12) = false)] ++ ([((decide (d_0.Class < (0 : Int))) = false)] ++ ([((decide (d_0.Class > (9 : Int))) = false)] ++ ((tollwayref24_Check_p20 d_0 r22) ++ [((!r22) = true), (true = true)]))))))))))) (by kernel_rfl) (by kernel_rfl) (allOk_append.2 ⟨⟨rfl, ok1 (tollwayref01_Name_ret d_0.Name r1 h2)⟩, (allOk_append.2 ⟨(ok1 (not_f c3)), (allOk_append.2 ⟨(ok1 (decide_eq_false c4)), (allOk_append.2 ⟨(tollwayref24_Check_p17q d_0 c5 r6 h7), (allOk_append.2 ⟨(tollwayref24_Check_p18q d_0 r6 c8 r9 h10), (allOk_append.2 ⟨(tollwayref24_Check_p19q d_0 r9 c11 r12 h13), (allOk_append.2 ⟨(ok1 (not_f c14)), (allOk_append.2 ⟨(ok1 (decide_eq_false c15)), (allOk_append.2 ⟨(ok1 (decide_eq_false c16)), (allOk_append.2 ⟨(tollwayref24_Check_p20q d_0 c17 r22 h23), ⟨(not_t (eq_false_of_ne_true c24)), ok1 rfl⟩⟩)⟩)⟩)⟩)⟩)⟩)⟩)⟩)⟩)⟩)
theorem tollwayref24_Check_13 (d_0 : Tapi_Discount) (r1 : Bool) (h2 : tollwayref01_Name d_0.Name = some r1) (c3 : r1 = true) (c4 : ¬ (d_0.Kind < (1 : Int))) (c5 : ¬ (d_0.Kind > (3 : Int))) (r6 : Bool) (h7 : tollwayref24_amounts d_0 = some r6) (c8 : r6 = true) (r9 : Bool) (h10 : tollwayref24_named d_0.Group = some r9) (c11 : r9 = true) (r12 : Bool) (h13 : tollwayref24_named d_0.System = some r12) (c14 : ¬ (r12 = true)) : Ret Try.prog G0 40 [.agg (Tapi_Discount.enc d_0)] (.int .i64 6) [] :=
  Ret.of_view 400 ((tollwayref24_Check_h1 d_0 r1) ++ ((tollwayref24_Check_h2) ++ ((tollwayref24_Check_h3) ++ ((tollwayref24_Check_h4 d_0 r6) ++ ((tollwayref24_Check_h5 d_0 r9) ++ ((tollwayref24_Check_h6 d_0 r12) ++ [.br true, .op none .c])))))) [] (ps := ([((.str d_0.Name : AV) = .str d_0.Name), (Ret Try.prog G0 51 [.str d_0.Name] (.bool r1) [])] ++ ([((!r1) = false)] ++ ([((decide (d_0.Kind < (1 : Int))) = false)] ++ ((tollwayref24_Check_p17 d_0 r6) ++ ((tollwayref24_Check_p18 d_0 r6 r9) ++ ((tollwayref24_Check_p19 d_0 r9 r12) ++ [((!r12) = true)]))))))) (by kernel_rfl) (by kernel_rfl) (allOk_append.2 ⟨⟨rfl, ok1 (tollwayref01_Name_ret d_0.Name r1 h2)⟩, (allOk_append.2 ⟨(ok1 (not_f c3)), (allOk_append.2 ⟨(ok1 (decide_eq_false c4)), (allOk_append.2 ⟨(tollwayref24_Check_p17q d_0 c5 r6 h7), (allOk_append.2 ⟨(tollwayref24_Check_p18q d_0 r6 c8 r9 h10), (allOk_append.2 ⟨(tollwayref24_Check_p19q d_0 r9 c11 r12 h13), (ok1 (not_t (eq_false_of_ne_true c14)))⟩)⟩)⟩)⟩)⟩)⟩)
theorem tollwayref24_Check_14 (d_0 : Tapi_Discount) (r1 : Bool) (h2 : tollwayref01_Name d_0.Name = some r1) (c3 : r1 = true) (c4 : ¬ (d_0.Kind < (1 : Int))) (c5 : ¬ (d_0.Kind > (3 : Int))) (r6 : Bool) (h7 : tollwayref24_amounts d_0 = some r6) (c8 : r6 = true) (r9 : Bool) (h10 : tollwayref24_named d_0.Group = some r9) (c11 : ¬ (r9 = true)) : Ret Try.prog G0 40 [.agg (Tapi_Discount.enc d_0)] (.int .i64 6) [] :=
  Ret.of_view 400 ((tollwayref24_Check_h1 d_0 r1) ++ ((tollwayref24_Check_h2) ++ ((tollwayref24_Check_h3) ++ ((tollwayref24_Check_h4 d_0 r6) ++ ((tollwayref24_Check_h5 d_0 r9) ++ ((.op (some true) .c) :: (cs 4 [.br true, .op none .c]))))))) [] (ps := ([((.str d_0.Name : AV) = .str d_0.Name), (Ret Try.prog G0 51 [.str d_0.Name] (.bool r1) [])] ++ ([((!r1) = false)] ++ ([((decide (d_0.Kind < (1 : Int))) = false)] ++ ((tollwayref24_Check_p17 d_0 r6) ++ ((tollwayref24_Check_p18 d_0 r6 r9) ++ [((!r9) = true), (true = true)])))))) (by kernel_rfl) (by kernel_rfl) (allOk_append.2 ⟨⟨rfl, ok1 (tollwayref01_Name_ret d_0.Name r1 h2)⟩, (allOk_append.2 ⟨(ok1 (not_f c3)), (allOk_append.2 ⟨(ok1 (decide_eq_false c4)), (allOk_append.2 ⟨(tollwayref24_Check_p17q d_0 c5 r6 h7), (allOk_append.2 ⟨(tollwayref24_Check_p18q d_0 r6 c8 r9 h10), ⟨(not_t (eq_false_of_ne_true c11)), ok1 rfl⟩⟩)⟩)⟩)⟩)⟩)
theorem tollwayref24_Check_15 (d_0 : Tapi_Discount) (r1 : Bool) (h2 : tollwayref01_Name d_0.Name = some r1) (c3 : r1 = true) (c4 : ¬ (d_0.Kind < (1 : Int))) (c5 : ¬ (d_0.Kind > (3 : Int))) (r6 : Bool) (h7 : tollwayref24_amounts d_0 = some r6) (c8 : ¬ (r6 = true)) : Ret Try.prog G0 40 [.agg (Tapi_Discount.enc d_0)] (.int .i64 1) [] :=
  Ret.of_view 400 ((tollwayref24_Check_h1 d_0 r1) ++ ((tollwayref24_Check_h2) ++ ((tollwayref24_Check_h3) ++ ((tollwayref24_Check_h4 d_0 r6) ++ [.br true, .op none .c])))) [] (ps := ([((.str d_0.Name : AV) = .str d_0.Name), (Ret Try.prog G0 51 [.str d_0.Name] (.bool r1) [])] ++ ([((!r1) = false)] ++ ([((decide (d_0.Kind < (1 : Int))) = false)] ++ ((tollwayref24_Check_p17 d_0 r6) ++ [((!r6) = true)]))))) (by kernel_rfl) (by kernel_rfl) (allOk_append.2 ⟨⟨rfl, ok1 (tollwayref01_Name_ret d_0.Name r1 h2)⟩, (allOk_append.2 ⟨(ok1 (not_f c3)), (allOk_append.2 ⟨(ok1 (decide_eq_false c4)), (allOk_append.2 ⟨(tollwayref24_Check_p17q d_0 c5 r6 h7), (ok1 (not_t (eq_false_of_ne_true c8)))⟩)⟩)⟩)⟩)
theorem tollwayref24_Check_16 (d_0 : Tapi_Discount) (r1 : Bool) (h2 : tollwayref01_Name d_0.Name = some r1) (c3 : ¬ (r1 = true)) : Ret Try.prog G0 40 [.agg (Tapi_Discount.enc d_0)] (.int .i64 6) [] :=
  Ret.of_view 400 ((tollwayref24_Check_h1 d_0 r1) ++ [.br true, .op none .c]) [] (ps := ([((.str d_0.Name : AV) = .str d_0.Name), (Ret Try.prog G0 51 [.str d_0.Name] (.bool r1) [])] ++ [((!r1) = true)])) (by kernel_rfl) (by kernel_rfl) (allOk_append.2 ⟨⟨rfl, ok1 (tollwayref01_Name_ret d_0.Name r1 h2)⟩, (ok1 (not_t (eq_false_of_ne_true c3)))⟩)
theorem tollwayref24_Check_ret (d_0 : Tapi_Discount) (r : Int) (h : tollwayref24_Check d_0 = some r) : Ret Try.prog G0 40 [.agg (Tapi_Discount.enc d_0)] (.int .i64 r) [] := by
  unfold tollwayref24_Check at h
  obtain ⟨r1, h2, h⟩ := bind_some h
  rcases ite_some h with ⟨c3, h⟩ | ⟨c3, h⟩
  · rcases ite_some h with ⟨c4, h⟩ | ⟨c4, h⟩
    · simp only [Option.some.injEq] at h
      subst h
      exact tollwayref24_Check_0 d_0 r1 h2 c3 c4
    · rcases ite_some h with ⟨c5, h⟩ | ⟨c5, h⟩
      · simp only [Option.some.injEq] at h
        subst h
        exact tollwayref24_Check_1 d_0 r1 h2 c3 c4 c5
      · obtain ⟨r6, h7, h⟩ := bind_some h
        rcases ite_some h with ⟨c8, h⟩ | ⟨c8, h⟩
        · obtain ⟨r9, h10, h⟩ := bind_some h
          rcases ite_some h with ⟨c11, h⟩ | ⟨c11, h⟩
          · obtain ⟨r12, h13, h⟩ := bind_some h
            rcases ite_some h with ⟨c14, h⟩ | ⟨c14, h⟩
            · rcases ite_some h with ⟨c15, h⟩ | ⟨c15, h⟩
              · simp only [Option.some.injEq] at h
                subst h
                exact tollwayref24_Check_2 d_0 r1 h2 c3 c4 c5 r6 h7 c8 r9 h10 c11 r12 h13 c14 c15
              · rcases ite_some h with ⟨c16, h⟩ | ⟨c16, h⟩
                · simp only [Option.some.injEq] at h
                  subst h
                  exact tollwayref24_Check_3 d_0 r1 h2 c3 c4 c5 r6 h7 c8 r9 h10 c11 r12 h13 c14 c15 c16
                · rcases ite_some h with ⟨c17, h⟩ | ⟨c17, h⟩
                  · rcases ite_some h with ⟨c18, h⟩ | ⟨c18, h⟩
                    · rcases ite_some h with ⟨c19, h⟩ | ⟨c19, h⟩
                      · rcases ite_some h with ⟨c20, h⟩ | ⟨c20, h⟩
                        · simp only [Option.some.injEq] at h
                          subst h
                          exact tollwayref24_Check_4 d_0 r1 h2 c3 c4 c5 r6 h7 c8 r9 h10 c11 r12 h13 c14 c15 c16 c17 c18 c19 c20
                        · rcases ite_some h with ⟨c21, h⟩ | ⟨c21, h⟩
                          · simp only [Option.some.injEq] at h
                            subst h
                            exact tollwayref24_Check_5 d_0 r1 h2 c3 c4 c5 r6 h7 c8 r9 h10 c11 r12 h13 c14 c15 c16 c17 c18 c19 c20 c21
                          · simp only [Option.some.injEq] at h
                            subst h
                            exact tollwayref24_Check_6 d_0 r1 h2 c3 c4 c5 r6 h7 c8 r9 h10 c11 r12 h13 c14 c15 c16 c17 c18 c19 c20 c21
                      · simp only [Option.some.injEq] at h
                        subst h
                        exact tollwayref24_Check_7 d_0 r1 h2 c3 c4 c5 r6 h7 c8 r9 h10 c11 r12 h13 c14 c15 c16 c17 c18 c19
                    · simp only [Option.some.injEq] at h
                      subst h
                      exact tollwayref24_Check_8 d_0 r1 h2 c3 c4 c5 r6 h7 c8 r9 h10 c11 r12 h13 c14 c15 c16 c17 c18
                  · obtain ⟨r22, h23, h⟩ := bind_some h
                    rcases ite_some h with ⟨c24, h⟩ | ⟨c24, h⟩
                    · rcases ite_some h with ⟨c25, h⟩ | ⟨c25, h⟩
                      · simp only [Option.some.injEq] at h
                        subst h
                        exact tollwayref24_Check_9 d_0 r1 h2 c3 c4 c5 r6 h7 c8 r9 h10 c11 r12 h13 c14 c15 c16 c17 r22 h23 c24 c25
                      · rcases ite_some h with ⟨c26, h⟩ | ⟨c26, h⟩
                        · simp only [Option.some.injEq] at h
                          subst h
                          exact tollwayref24_Check_10 d_0 r1 h2 c3 c4 c5 r6 h7 c8 r9 h10 c11 r12 h13 c14 c15 c16 c17 r22 h23 c24 c25 c26
                        · simp only [Option.some.injEq] at h
                          subst h
                          exact tollwayref24_Check_11 d_0 r1 h2 c3 c4 c5 r6 h7 c8 r9 h10 c11 r12 h13 c14 c15 c16 c17 r22 h23 c24 c25 c26
                    · simp only [Option.some.injEq] at h
                      subst h
                      exact tollwayref24_Check_12 d_0 r1 h2 c3 c4 c5 r6 h7 c8 r9 h10 c11 r12 h13 c14 c15 c16 c17 r22 h23 c24
            · simp only [Option.some.injEq] at h
              subst h
              exact tollwayref24_Check_13 d_0 r1 h2 c3 c4 c5 r6 h7 c8 r9 h10 c11 r12 h13 c14
          · simp only [Option.some.injEq] at h
            subst h
            exact tollwayref24_Check_14 d_0 r1 h2 c3 c4 c5 r6 h7 c8 r9 h10 c11
        · simp only [Option.some.injEq] at h
          subst h
          exact tollwayref24_Check_15 d_0 r1 h2 c3 c4 c5 r6 h7 c8
  · simp only [Option.some.injEq] at h
    subst h
    exact tollwayref24_Check_16 d_0 r1 h2 c3
noncomputable def tollwaylaw24_short (d_0 : Tapi_Discount) : Option Bool :=
  if (↑d_0.Name.length : Int) ≤ (40 : Int) then
    if (↑d_0.Group.length : Int) ≤ (40 : Int) then
      some (decide ((↑d_0.System.length : Int) ≤ (40 : Int)))
    else
      some false
  else
    some false
def tollwaylaw24_short_h1  : List CH := (cs 5 [.op none .a, .op none .c])
def tollwaylaw24_short_h2  : List CH := ((.op (some true) .c) :: (cs 2 ((.op none .a) :: (cs 2 []))))
theorem tollwaylaw24_short_0 (d_0 : Tapi_Discount) (c1 : (↑d_0.Name.length : Int) ≤ (40 : Int)) (c2 : (↑d_0.Group.length : Int) ≤ (40 : Int)) : Ret Try.prog G0 17 [.agg (Tapi_Discount.enc d_0)] (.bool (decide ((↑d_0.System.length : Int) ≤ (40 : Int)))) [] :=
  Ret.of_view 400 ((tollwaylaw24_short_h1) ++ ((tollwaylaw24_short_h2) ++ ((.op (some true) .c) :: (cs 2 ((.op none .a) :: (cs 2 [])))))) [] (ps := ([((decide ((↑d_0.Name.length : Int) ≤ (40 : Int))) = true)] ++ [((decide ((↑d_0.Group.length : Int) ≤ (40 : Int))) = true)])) (by kernel_rfl) (by kernel_rfl) (allOk_append.2 ⟨(ok1 (decide_eq_true c1)), (ok1 (decide_eq_true c2))⟩)
theorem tollwaylaw24_short_1 (d_0 : Tapi_Discount) (c1 : (↑d_0.Name.length : Int) ≤ (40 : Int)) (c2 : ¬ ((↑d_0.Group.length : Int) ≤ (40 : Int))) : Ret Try.prog G0 17 [.agg (Tapi_Discount.enc d_0)] (.bool false) [] :=
  Ret.of_view 400 ((tollwaylaw24_short_h1) ++ ((tollwaylaw24_short_h2) ++ ((.op (some false) .c) :: (cs 5 [])))) [] (ps := ([((decide ((↑d_0.Name.length : Int) ≤ (40 : Int))) = true)] ++ [((decide ((↑d_0.Group.length : Int) ≤ (40 : Int))) = false)])) (by kernel_rfl) (by kernel_rfl) (allOk_append.2 ⟨(ok1 (decide_eq_true c1)), (ok1 (decide_eq_false c2))⟩)
theorem tollwaylaw24_short_2 (d_0 : Tapi_Discount) (c1 : ¬ ((↑d_0.Name.length : Int) ≤ (40 : Int))) : Ret Try.prog G0 17 [.agg (Tapi_Discount.enc d_0)] (.bool false) [] :=
  Ret.of_view 400 ((tollwaylaw24_short_h1) ++ ((.op (some false) .c) :: (cs 11 []))) [] (ps := [((decide ((↑d_0.Name.length : Int) ≤ (40 : Int))) = false)]) (by kernel_rfl) (by kernel_rfl) (ok1 (decide_eq_false c1))
theorem tollwaylaw24_short_ret (d_0 : Tapi_Discount) (r : Bool) (h : tollwaylaw24_short d_0 = some r) : Ret Try.prog G0 17 [.agg (Tapi_Discount.enc d_0)] (.bool r) [] := by
  unfold tollwaylaw24_short at h
  rcases ite_some h with ⟨c1, h⟩ | ⟨c1, h⟩
  · rcases ite_some h with ⟨c2, h⟩ | ⟨c2, h⟩
    · simp only [Option.some.injEq] at h
      subst h
      exact tollwaylaw24_short_0 d_0 c1 c2
    · simp only [Option.some.injEq] at h
      subst h
      exact tollwaylaw24_short_1 d_0 c1 c2
  · simp only [Option.some.injEq] at h
    subst h
    exact tollwaylaw24_short_2 d_0 c1
noncomputable def tollwaylaw24_few_L1_step (l_0 : (List Tapi_Discount)) : Nat → Option (Nat ⊕ (Unit ⊕ Unit)) := fun k3 =>
  if (↑k3 : Int) < (↑l_0.length : Int) then
    (l_0[k3]?).bind fun x10 =>
    (tollwaylaw24_short x10).bind fun r12 =>
    if r12 = true then
      if InR .i64 ((↑k3 : Int) + 1) then
        some (Sum.inl (k3 + 1))
      else none
    else
      some (Sum.inr (Sum.inl ()))
  else
    some (Sum.inr (Sum.inr (())))
def tollwaylaw24_few_L1_H (l_0 : (List Tapi_Discount)) : Nat → St := fun (s : Nat) => S 19 [(0, .lst (fl Tapi_Discount.enc l_0) l_0.length), (3, .int .i64 (↑s : Int))] []
theorem tollwaylaw24_few_L1_0 (l_0 : (List Tapi_Discount)) (k3 : Nat) (c9 : (↑k3 : Int) < (↑l_0.length : Int)) (x10 : Tapi_Discount) (h11 : l_0[k3]? = some x10) (r12 : Bool) (h13 : tollwaylaw24_short x10 = some r12) (c14 : r12 = true) (h15 : InR .i64 ((↑k3 : Int) + 1)) : Does Try.prog G0 0 (bodyAt Try.prog 8 [1, 0, 1, 0, 0]) (tollwaylaw24_few_L1_H l_0 k3) .normal (S 19 [(0, .lst (fl Tapi_Discount.enc l_0) l_0.length), (3, .int .i64 ((↑k3 : Int) + 1))] []) :=
  Does.of_viewM 0 400 (cs 3 ((.op none .a) :: (.br true) :: (cs 2 [.op none (.i k3), .op none (.v [.str x10.Name, .int .i64 x10.Kind, .int .i64 x10.Amount, .str x10.Group, .str x10.System, .int .i64 x10.Class, .int .i64 x10.Window.Days, .int .i64 x10.Window.From, .int .i64 x10.Window.To, .int .i64 x10.Least]), .ret none [.agg (Tapi_Discount.enc x10)] (.bool r12) [], .op none .c, .br false, .op none .c, .op none .w, .op none .c]))) [] (ps := [((decide ((↑k3 : Int) < (↑l_0.length : Int))) = true), ((↑k3 : Int) = ((k3 : Nat) : Int) ∧ k3 < l_0.length), ((fl Tapi_Discount.enc l_0) ≠ []), (sub (fl Tapi_Discount.enc l_0) (k3 * 10) 10 = [.str x10.Name, .int .i64 x10.Kind, .int .i64 x10.Amount, .str x10.Group, .str x10.System, .int .i64 x10.Class, .int .i64 x10.Window.Days, .int .i64 x10.Window.From, .int .i64 x10.Window.To, .int .i64 x10.Least]), ((.agg (Tapi_Discount.enc x10) : AV) = .agg (Tapi_Discount.enc x10)), (Ret Try.prog G0 17 [.agg (Tapi_Discount.enc x10)] (.bool r12) []), ((!r12) = false), (IntKind.min .i64 ≤ ((↑k3 : Int) + 1) ∧ ((↑k3 : Int) + 1) ≤ IntKind.max .i64)]) (by kernel_rfl) (by kernel_rfl) ⟨(decide_eq_true c9), ⟨rfl, get_lt h11⟩, (fl_ne (f := Tapi_Discount.enc) (z := 9) (fun _ => rfl) h11), (fl_sub0 (f := Tapi_Discount.enc) (z := 10) (j := k3) (fun _ => rfl) h11 rfl), rfl, (tollwaylaw24_short_ret x10 r12 h13), (not_f c14), ok1 h15⟩
theorem tollwaylaw24_few_L1_1 (l_0 : (List Tapi_Discount)) (k3 : Nat) (c9 : (↑k3 : Int) < (↑l_0.length : Int)) (x10 : Tapi_Discount) (h11 : l_0[k3]? = some x10) (r12 : Bool) (h13 : tollwaylaw24_short x10 = some r12) (c14 : ¬ (r12 = true)) : Does Try.prog G0 0 (bodyAt Try.prog 8 [1, 0, 1, 0, 0]) (tollwaylaw24_few_L1_H l_0 k3) .ret (S 19 [(2, .bool false)] []) :=
  Does.of_viewM 0 400 (cs 3 ((.op none .a) :: (.br true) :: (cs 2 [.op none (.i k3), .op none (.v [.str x10.Name, .int .i64 x10.Kind, .int .i64 x10.Amount, .str x10.Group, .str x10.System, .int .i64 x10.Class, .int .i64 x10.Window.Days, .int .i64 x10.Window.From, .int .i64 x10.Window.To, .int .i64 x10.Least]), .ret none [.agg (Tapi_Discount.enc x10)] (.bool r12) [], .op none .c, .br true, .op none .c]))) [] (ps := [((decide ((↑k3 : Int) < (↑l_0.length : Int))) = true), ((↑k3 : Int) = ((k3 : Nat) : Int) ∧ k3 < l_0.length), ((fl Tapi_Discount.enc l_0) ≠ []), (sub (fl Tapi_Discount.enc l_0) (k3 * 10) 10 = [.str x10.Name, .int .i64 x10.Kind, .int .i64 x10.Amount, .str x10.Group, .str x10.System, .int .i64 x10.Class, .int .i64 x10.Window.Days, .int .i64 x10.Window.From, .int .i64 x10.Window.To, .int .i64 x10.Least]), ((.agg (Tapi_Discount.enc x10) : AV) = .agg (Tapi_Discount.enc x10)), (Ret Try.prog G0 17 [.agg (Tapi_Discount.enc x10)] (.bool r12) []), ((!r12) = true)]) (by kernel_rfl) (by kernel_rfl) ⟨(decide_eq_true c9), ⟨rfl, get_lt h11⟩, (fl_ne (f := Tapi_Discount.enc) (z := 9) (fun _ => rfl) h11), (fl_sub0 (f := Tapi_Discount.enc) (z := 10) (j := k3) (fun _ => rfl) h11 rfl), rfl, (tollwaylaw24_short_ret x10 r12 h13), ok1 (not_t (eq_false_of_ne_true c14))⟩
theorem tollwaylaw24_few_L1_2 (l_0 : (List Tapi_Discount)) (k3 : Nat) (c9 : ¬ ((↑k3 : Int) < (↑l_0.length : Int))) : Does Try.prog G0 0 (bodyAt Try.prog 8 [1, 0, 1, 0, 0]) (tollwaylaw24_few_L1_H l_0 k3) (.exit 0) (S 19 [(0, .lst (fl Tapi_Discount.enc l_0) l_0.length)] []) :=
  Does.of_viewM 0 400 (cs 3 [.op none .a, .br false]) [] (ps := [((decide ((↑k3 : Int) < (↑l_0.length : Int))) = false)]) (by kernel_rfl) (by kernel_rfl) (ok1 (decide_eq_false c9))
def tollwaylaw24_few_L1_X (l_0 : (List Tapi_Discount)) : (Unit ⊕ Unit) → AEx := fun q => match q with | Sum.inl o => .ret | Sum.inr (o) => (.exit 0)
def tollwaylaw24_few_L1_E (l_0 : (List Tapi_Discount)) : (Unit ⊕ Unit) → St := fun q => match q with | Sum.inl o => S 19 [(2, .bool false)] [] | Sum.inr (o) => S 19 [(0, .lst (fl Tapi_Discount.enc l_0) l_0.length)] []
theorem tollwaylaw24_few_L1_does (l_0 : (List Tapi_Discount)) {s : Nat} {r : Unit ⊕ Unit} (h : lp (tollwaylaw24_few_L1_step l_0) s = some r) : Does Try.prog G0 0 (.loop (bodyAt Try.prog 8 [1, 0, 1, 0, 0])) (tollwaylaw24_few_L1_H l_0 s) (tollwaylaw24_few_L1_X l_0 r) (tollwaylaw24_few_L1_E l_0 r) := by
  refine Does.lp (H := tollwaylaw24_few_L1_H l_0) (X := tollwaylaw24_few_L1_X l_0) (E := tollwaylaw24_few_L1_E l_0) (fun s s2 h => ?_) (fun s r h => ?_) h
  · revert h; revert s; intro k3 h
    unfold tollwaylaw24_few_L1_step at h
    try dsimp only at h
    rcases ite_some h with ⟨c9, h⟩ | ⟨c9, h⟩
    · obtain ⟨x10, h11, h⟩ := bind_some h
      obtain ⟨r12, h13, h⟩ := bind_some h
      rcases ite_some h with ⟨c14, h⟩ | ⟨c14, h⟩
      · obtain ⟨h15, h⟩ := guard_some h
        simp only [Option.some.injEq, Sum.inl.injEq] at h
        subst h
        have hq := tollwaylaw24_few_L1_0 l_0 k3 c9 x10 h11 r12 h13 c14 h15
        first | exact hq | exact Eq.mp (by simp only [tollwaylaw24_few_L1_H, List.length_set] <;> rfl) hq
      · simp at h
    · simp at h
  · revert h; revert s; intro k3 h
    unfold tollwaylaw24_few_L1_step at h
    try dsimp only at h
    rcases ite_some h with ⟨c9, h⟩ | ⟨c9, h⟩
    · obtain ⟨x10, h11, h⟩ := bind_some h
      obtain ⟨r12, h13, h⟩ := bind_some h
      rcases ite_some h with ⟨c14, h⟩ | ⟨c14, h⟩
      · obtain ⟨h15, h⟩ := guard_some h
        simp at h
      · simp only [Option.some.injEq, Sum.inr.injEq] at h
        subst h
        exact ⟨tollwaylaw24_few_L1_1 l_0 k3 c9 x10 h11 r12 h13 c14, by intro q; cases q⟩
    · simp only [Option.some.injEq, Sum.inr.injEq] at h
      subst h
      exact ⟨tollwaylaw24_few_L1_2 l_0 k3 c9, by intro q; cases q⟩
noncomputable def tollwaylaw24_few (l_0 : (List Tapi_Discount)) : Option Bool :=
  (lp (tollwaylaw24_few_L1_step l_0) (0 : Nat)).bind fun qq => match qq with
  | Sum.inl o1 =>
    some false
  | Sum.inr (o1) =>
    some (decide ((↑l_0.length : Int) ≤ (14 : Int)))
theorem tollwaylaw24_few_0 (l_0 : (List Tapi_Discount)) (o1 : Unit) (hl1 : lp (tollwaylaw24_few_L1_step l_0) (0 : Nat) = some (Sum.inl o1)) : Ret Try.prog G0 8 [.lst (fl Tapi_Discount.enc l_0) l_0.length] (.bool false) [] :=
  Ret.of_view 400 ((cs 2 []) ++ [.fcut 0 .ret [(2, .bool false)] [] [] [(0, .lst (fl Tapi_Discount.enc l_0) l_0.length), (3, .int .i64 (↑(0 : Nat) : Int))] []]) [] (ps := ([((.lst (fl Tapi_Discount.enc l_0) l_0.length : AV) = .lst (fl Tapi_Discount.enc l_0) l_0.length), ((.int .i64 0 : AV) = .int .i64 (↑(0 : Nat) : Int))] ++ [(Does Try.prog G0 0 (.loop (bodyAt Try.prog 8 [1, 0, 1, 0, 0])) (S 19 [(0, .lst (fl Tapi_Discount.enc l_0) l_0.length), (3, .int .i64 (↑(0 : Nat) : Int))] []) .ret (S 19 [(2, .bool false)] []))])) (by kernel_rfl) (by kernel_rfl) (allOk_append.2 ⟨⟨rfl, ok1 rfl⟩, (ok1 (tollwaylaw24_few_L1_does l_0 (s := (0 : Nat)) (r := Sum.inl o1) hl1))⟩)
theorem tollwaylaw24_few_1 (l_0 : (List Tapi_Discount)) (o1 : Unit) (hl1 : lp (tollwaylaw24_few_L1_step l_0) (0 : Nat) = some (Sum.inr (o1))) : Ret Try.prog G0 8 [.lst (fl Tapi_Discount.enc l_0) l_0.length] (.bool (decide ((↑l_0.length : Int) ≤ (14 : Int)))) [] :=
  Ret.of_view 400 ((cs 2 []) ++ ((.fcut 0 (.exit 0) [(0, .lst (fl Tapi_Discount.enc l_0) l_0.length)] [] [] [(0, .lst (fl Tapi_Discount.enc l_0) l_0.length), (3, .int .i64 (↑(0 : Nat) : Int))] []) :: (cs 2 [.op none .a, .op none .c]))) [] (ps := ([((.lst (fl Tapi_Discount.enc l_0) l_0.length : AV) = .lst (fl Tapi_Discount.enc l_0) l_0.length), ((.int .i64 0 : AV) = .int .i64 (↑(0 : Nat) : Int))] ++ [(Does Try.prog G0 0 (.loop (bodyAt Try.prog 8 [1, 0, 1, 0, 0])) (S 19 [(0, .lst (fl Tapi_Discount.enc l_0) l_0.length), (3, .int .i64 (↑(0 : Nat) : Int))] []) (.exit 0) (S 19 [(0, .lst (fl Tapi_Discount.enc l_0) l_0.length)] []))])) (by kernel_rfl) (by kernel_rfl) (allOk_append.2 ⟨⟨rfl, ok1 rfl⟩, (ok1 (tollwaylaw24_few_L1_does l_0 (s := (0 : Nat)) (r := Sum.inr (o1)) hl1))⟩)
theorem tollwaylaw24_few_ret (l_0 : (List Tapi_Discount)) (r : Bool) (h : tollwaylaw24_few l_0 = some r) : Ret Try.prog G0 8 [.lst (fl Tapi_Discount.enc l_0) l_0.length] (.bool r) [] := by
  unfold tollwaylaw24_few at h
  obtain ⟨qq, hl1, h⟩ := bind_some h
  rcases qq with o1 | o1
  · dsimp only at h
    simp only [Option.some.injEq] at h
    subst h
    exact tollwaylaw24_few_0 l_0 o1 hl1
  · dsimp only at h
    simp only [Option.some.injEq] at h
    subst h
    exact tollwaylaw24_few_1 l_0 o1 hl1
end Go.Proofs.Ytabjlmlfmafllaa.Av
