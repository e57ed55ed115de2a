/-
  The law FnJoinSplit, walked (made by gen_js.py).
-/
import Derived.Test.YteemhhgioljmaaaTwoD
import Derived.Test.YteemhhgioljmaaaJoinB
import Derived.Test.YteemhhgioljmaaaResult
import Derived.Test.YteemhhgioljmaaaSame
namespace Go.Proofs.Yteemhhgioljmaaa
open Go.RowKit
set_option linter.unusedVariables false
set_option linter.unusedSimpArgs false
set_option maxRecDepth 100000
attribute [local go_sem ↓] Go.wp_at_zero Go.wp_at_succ

theorem splitJ_any (v : Value) (a b : List ByteArray) (w : World) (hj : joinOk a b = true) (hv : Strs w v (joinE a b)) :
    Calls Try.prog 66 #[.agg #[v], .int .i64 b.length] w (TwoEng w a b true) := by
  obtain ⟨ea, eb, -, h7⟩ := joinOk_true.1 hj
  obtain ⟨a1, a7, -⟩ := engOk_iff.1 ea
  obtain ⟨b1, b7, -⟩ := engOk_iff.1 eb
  rw [joinE_yes hj] at hv
  have hok : splitOk (b ++ a) (b.length : Int) = true := by
    unfold splitOk
    rw [engOk_append hj, inB_true.2 (by rw [List.length_append]; omega)]
    rfl
  have h := implSplit_any v (b ++ a) (b.length : Int) w hv (by omega)
  rw [(split_yes hok).1, (split_yes hok).2, hok, Int.toNat_natCast, List.drop_left, List.take_left] at h
  exact h
theorem resultJ_any (v : Value) (a b : List ByteArray) (w : World) (hj : joinOk a b = true) (hv : Strs w v (joinE a b)) :
    Calls Try.prog 28 #[.agg #[v]] w fun e w' => e = .returned (.tuple #[.int .i64 (sg (sat b 0)), .bool true]) ∧ Below w.heap.size w w' := by
  obtain ⟨ea, eb, -, h7⟩ := joinOk_true.1 hj
  obtain ⟨b1, b7, -⟩ := engOk_iff.1 eb
  rw [joinE_yes hj] at hv
  have h := resultOf_any v (b ++ a) w hv (engOk_append hj)
  rw [sat_append_lo (by omega)] at h
  exact h
theorem engJ_any (v : Value) (a b : List ByteArray) (w : World) (hj : joinOk a b = true) (hv : Strs w v (joinE a b)) :
    Calls Try.prog 67 #[.agg #[v]] w fun e w' => e = .returned (.bool true) ∧ Below w.heap.size w w' := by
  have h := implEng_any v (joinE a b) w hv
  rw [joinE_yes hj, engOk_append hj] at h
  exact h

set_option maxHeartbeats 8000000 in
theorem lawJoinSplitF (v : Value) (code : List Int) (w : World) (hv : Bytes w v code) :
    Calls Try.prog 12 #[v] w fun e w' => e = .returned (.bool true) ∧ Below w.heap.size w w' := by
  have HV := Lib.hid hv
  obtain ⟨A_c, c_c, rfl, -, -, -⟩ := hv.open_
  clear hv
  by_cases hbig : (1048576 : Int) < (code.length : Int)
  · go_enter Try.func12, Try.ntmps12
    go_wp2
    go_ret
    exact ⟨rfl, Below.refl _ _⟩
  · have HB := Lib.hid (Below.refl w.heap.size w)
    go_enter Try.func12, Try.ntmps12
    go_wp2_with fail
    refine (drawJoin_any _ code _ HV.out).mono ?_
    rintro e x1 ⟨r_a, r_b, a, b, rfl, o_a, o_b, a8, b8, b0⟩
    clear HV
    replace HB := Lib.hid (bel_trans HB.out b0)
    clear b0
    have R_a := Lib.hid o_a.strs
    obtain ⟨A_a, c_a, rfl, -, -, -⟩ := o_a.strs.open_
    clear o_a
    have R_b := Lib.hid o_b.strs
    obtain ⟨A_b, c_b, rfl, -, -, -⟩ := o_b.strs.open_
    clear o_b
    have ba : Below x1.heap.size x1 (((x1).alloc (.cells #[Value.slice A_a (a).length c_a] 29)).alloc (.cells #[Value.slice A_b (b).length c_b] 29)) := (bel_alloc x1 _).alloc (by simp <;> omega) _
    replace R_a := Lib.hid (R_a.out.bel ba)
    replace R_b := Lib.hid (R_b.out.bel ba)
    replace HB := Lib.hid (bel_trans HB.out ba)
    clear ba
    have K_p3 := (Blk.new' (x1) 29 (Value.slice A_a (a).length c_a) (x1.heap.size) (by simp)).alloc (.cells #[Value.slice A_b (b).length c_b] 29)
    have K_p4 := Blk.new' ((x1).alloc (.cells #[Value.slice A_a (a).length c_a] 29)) 29 (Value.slice A_b (b).length c_b) (x1.heap.size + 1) (by simp)
    obtain ⟨e_p3, f_p3⟩ := K_p3.one
    obtain ⟨e_p4, f_p4⟩ := K_p4.one
    go_wp2_with fail
    clear e_p3 f_p3 e_p4 f_p4
    generalize hW : ((x1).alloc (.cells #[Value.slice A_a (a).length c_a] 29)).alloc (.cells #[Value.slice A_b (b).length c_b] 29) = x2 at *
    clear hW
    refine (implJoin_any _ _ a b _ R_a.out R_b.out).mono ?_
    rintro e x3 ⟨r_e, rfl, o_e, b0⟩
    replace K_p3 := K_p3.below b0 K_p3.lt
    replace K_p4 := K_p4.below b0 K_p4.lt
    replace R_a := Lib.hid (R_a.out.bel b0)
    replace R_b := Lib.hid (R_b.out.bel b0)
    replace HB := Lib.hid (bel_trans HB.out b0)
    clear b0
    have R_e := Lib.hid o_e.strs
    obtain ⟨A_e, c_e, rfl, -, -, -⟩ := o_e.strs.open_
    clear o_e
    have ba : Below x3.heap.size x3 ((x3).alloc (.cells #[Value.slice A_e (joinE a b).length c_e] 29)) := bel_alloc x3 _
    replace K_p3 := K_p3.below ba K_p3.lt
    replace K_p4 := K_p4.below ba K_p4.lt
    replace R_a := Lib.hid (R_a.out.bel ba)
    replace R_b := Lib.hid (R_b.out.bel ba)
    replace R_e := Lib.hid (R_e.out.bel ba)
    replace HB := Lib.hid (bel_trans HB.out ba)
    clear ba
    have K_p5 := Blk.new' (x3) 29 (Value.slice A_e (joinE a b).length c_e) (x3.heap.size) (by simp)
    obtain ⟨e_p3, f_p3⟩ := K_p3.one
    obtain ⟨e_p4, f_p4⟩ := K_p4.one
    obtain ⟨e_p5, f_p5⟩ := K_p5.one
    go_wp2_with fail
    clear e_p3 f_p3 e_p4 f_p4 e_p5 f_p5
    generalize hW : (x3).alloc (.cells #[Value.slice A_e (joinE a b).length c_e] 29) = x4 at *
    clear hW
    refine (specJoin_any _ _ a b _ R_a.out R_b.out).mono ?_
    rintro e x5 ⟨r_f, rfl, o_f, b0⟩
    replace K_p3 := K_p3.below b0 K_p3.lt
    replace K_p4 := K_p4.below b0 K_p4.lt
    replace K_p5 := K_p5.below b0 K_p5.lt
    replace R_a := Lib.hid (R_a.out.bel b0)
    replace R_b := Lib.hid (R_b.out.bel b0)
    replace R_e := Lib.hid (R_e.out.bel b0)
    replace HB := Lib.hid (bel_trans HB.out b0)
    clear b0
    have R_f := Lib.hid o_f.strs
    obtain ⟨A_f, c_f, rfl, -, -, -⟩ := o_f.strs.open_
    clear o_f
    have he := eqS_self (joinE a b)
    have ba : Below x5.heap.size x5 ((x5).alloc (.cells #[Value.slice A_f (joinE a b).length c_f] 29)) := bel_alloc x5 _
    replace K_p3 := K_p3.below ba K_p3.lt
    replace K_p4 := K_p4.below ba K_p4.lt
    replace K_p5 := K_p5.below ba K_p5.lt
    replace R_a := Lib.hid (R_a.out.bel ba)
    replace R_b := Lib.hid (R_b.out.bel ba)
    replace R_e := Lib.hid (R_e.out.bel ba)
    replace R_f := Lib.hid (R_f.out.bel ba)
    replace HB := Lib.hid (bel_trans HB.out ba)
    clear ba
    have K_p7 := Blk.new' (x5) 29 (Value.slice A_f (joinE a b).length c_f) (x5.heap.size) (by simp)
    obtain ⟨e_p3, f_p3⟩ := K_p3.one
    obtain ⟨e_p4, f_p4⟩ := K_p4.one
    obtain ⟨e_p5, f_p5⟩ := K_p5.one
    obtain ⟨e_p7, f_p7⟩ := K_p7.one
    go_wp2_with fail
    clear e_p3 f_p3 e_p4 f_p4 e_p5 f_p5 e_p7 f_p7
    generalize hW : (x5).alloc (.cells #[Value.slice A_f (joinE a b).length c_f] 29) = x6 at *
    clear hW
    refine (deSame_any _ _ _ _ _ R_e.out R_f.out).mono ?_
    rw [he]
    rintro e x7 ⟨rfl, b0⟩
    replace K_p3 := K_p3.below b0 K_p3.lt
    replace K_p4 := K_p4.below b0 K_p4.lt
    replace K_p5 := K_p5.below b0 K_p5.lt
    replace K_p7 := K_p7.below b0 K_p7.lt
    replace R_a := Lib.hid (R_a.out.bel b0)
    replace R_b := Lib.hid (R_b.out.bel b0)
    replace R_e := Lib.hid (R_e.out.bel b0)
    replace R_f := Lib.hid (R_f.out.bel b0)
    replace HB := Lib.hid (bel_trans HB.out b0)
    clear b0
    cases hj : joinOk a b
    · skip
      obtain ⟨e_p3, f_p3⟩ := K_p3.one
      obtain ⟨e_p4, f_p4⟩ := K_p4.one
      obtain ⟨e_p5, f_p5⟩ := K_p5.one
      obtain ⟨e_p7, f_p7⟩ := K_p7.one
      go_wp2_with fail
      clear e_p3 f_p3 e_p4 f_p4 e_p5 f_p5 e_p7 f_p7
      refine (deSame_any _ _ _ _ _ R_e.out R_f.out).mono ?_
      rw [he]
      rintro e x8 ⟨rfl, b0⟩
      replace K_p3 := K_p3.below b0 K_p3.lt
      replace K_p4 := K_p4.below b0 K_p4.lt
      replace K_p5 := K_p5.below b0 K_p5.lt
      replace K_p7 := K_p7.below b0 K_p7.lt
      replace R_a := Lib.hid (R_a.out.bel b0)
      replace R_b := Lib.hid (R_b.out.bel b0)
      replace R_e := Lib.hid (R_e.out.bel b0)
      replace R_f := Lib.hid (R_f.out.bel b0)
      replace HB := Lib.hid (bel_trans HB.out b0)
      clear b0
      obtain ⟨e_p3, f_p3⟩ := K_p3.one
      obtain ⟨e_p4, f_p4⟩ := K_p4.one
      obtain ⟨e_p5, f_p5⟩ := K_p5.one
      obtain ⟨e_p7, f_p7⟩ := K_p7.one
      go_wp2
      go_ret
      exact ⟨rfl, HB.out⟩
    · skip
      have HJ := Lib.hid hj
      have ea := Lib.hid (joinOk_true.1 hj).1
      have eb := Lib.hid (joinOk_true.1 hj).2.1
      have hea := eqS_self a
      have heb := eqS_self b
      clear he
      clear K_p7 R_f
      obtain ⟨e_p3, f_p3⟩ := K_p3.one
      obtain ⟨e_p4, f_p4⟩ := K_p4.one
      obtain ⟨e_p5, f_p5⟩ := K_p5.one
      go_wp2_with fail
      clear e_p3 f_p3 e_p4 f_p4 e_p5 f_p5
      refine (splitJ_any _ a b _ HJ.out R_e.out).mono ?_
      rintro e x9 ⟨r_x, r_y, rfl, o_x, o_y, -, b0⟩
      replace K_p3 := K_p3.below b0 K_p3.lt
      replace K_p4 := K_p4.below b0 K_p4.lt
      replace K_p5 := K_p5.below b0 K_p5.lt
      replace R_a := Lib.hid (R_a.out.bel b0)
      replace R_b := Lib.hid (R_b.out.bel b0)
      replace R_e := Lib.hid (R_e.out.bel b0)
      replace HB := Lib.hid (bel_trans HB.out b0)
      clear b0
      have R_x := Lib.hid o_x.strs
      obtain ⟨A_x, c_x, rfl, -, -, -⟩ := o_x.strs.open_
      clear o_x
      have R_y := Lib.hid o_y.strs
      obtain ⟨A_y, c_y, rfl, -, -, -⟩ := o_y.strs.open_
      clear o_y
      have ba : Below x9.heap.size x9 (((x9).alloc (.cells #[Value.slice A_x (a).length c_x] 29)).alloc (.cells #[Value.slice A_y (b).length c_y] 29)) := (bel_alloc x9 _).alloc (by simp <;> omega) _
      replace K_p3 := K_p3.below ba K_p3.lt
      replace K_p4 := K_p4.below ba K_p4.lt
      replace K_p5 := K_p5.below ba K_p5.lt
      replace R_a := Lib.hid (R_a.out.bel ba)
      replace R_b := Lib.hid (R_b.out.bel ba)
      replace R_e := Lib.hid (R_e.out.bel ba)
      replace R_x := Lib.hid (R_x.out.bel ba)
      replace R_y := Lib.hid (R_y.out.bel ba)
      replace HB := Lib.hid (bel_trans HB.out ba)
      clear ba
      have K_p9 := (Blk.new' (x9) 29 (Value.slice A_x (a).length c_x) (x9.heap.size) (by simp)).alloc (.cells #[Value.slice A_y (b).length c_y] 29)
      have K_p10 := Blk.new' ((x9).alloc (.cells #[Value.slice A_x (a).length c_x] 29)) 29 (Value.slice A_y (b).length c_y) (x9.heap.size + 1) (by simp)
      obtain ⟨e_p3, f_p3⟩ := K_p3.one
      obtain ⟨e_p4, f_p4⟩ := K_p4.one
      obtain ⟨e_p5, f_p5⟩ := K_p5.one
      obtain ⟨e_p9, f_p9⟩ := K_p9.one
      obtain ⟨e_p10, f_p10⟩ := K_p10.one
      go_wp2_with fail
      clear e_p3 f_p3 e_p4 f_p4 e_p5 f_p5 e_p9 f_p9 e_p10 f_p10
      generalize hW : ((x9).alloc (.cells #[Value.slice A_x (a).length c_x] 29)).alloc (.cells #[Value.slice A_y (b).length c_y] 29) = x10 at *
      clear hW
      refine (resultJ_any _ a b _ HJ.out R_e.out).mono ?_
      rintro e x11 ⟨rfl, b0⟩
      replace K_p3 := K_p3.below b0 K_p3.lt
      replace K_p4 := K_p4.below b0 K_p4.lt
      replace K_p5 := K_p5.below b0 K_p5.lt
      replace K_p9 := K_p9.below b0 K_p9.lt
      replace K_p10 := K_p10.below b0 K_p10.lt
      replace R_a := Lib.hid (R_a.out.bel b0)
      replace R_b := Lib.hid (R_b.out.bel b0)
      replace R_e := Lib.hid (R_e.out.bel b0)
      replace R_x := Lib.hid (R_x.out.bel b0)
      replace R_y := Lib.hid (R_y.out.bel b0)
      replace HB := Lib.hid (bel_trans HB.out b0)
      clear b0
      obtain ⟨e_p3, f_p3⟩ := K_p3.one
      obtain ⟨e_p4, f_p4⟩ := K_p4.one
      obtain ⟨e_p5, f_p5⟩ := K_p5.one
      obtain ⟨e_p9, f_p9⟩ := K_p9.one
      obtain ⟨e_p10, f_p10⟩ := K_p10.one
      go_wp2_with fail
      clear e_p3 f_p3 e_p4 f_p4 e_p5 f_p5 e_p9 f_p9 e_p10 f_p10
      refine (resultOf_any _ b _ R_b.out eb.out).mono ?_
      rintro e x12 ⟨rfl, b0⟩
      replace K_p3 := K_p3.below b0 K_p3.lt
      replace K_p4 := K_p4.below b0 K_p4.lt
      replace K_p5 := K_p5.below b0 K_p5.lt
      replace K_p9 := K_p9.below b0 K_p9.lt
      replace K_p10 := K_p10.below b0 K_p10.lt
      replace R_a := Lib.hid (R_a.out.bel b0)
      replace R_b := Lib.hid (R_b.out.bel b0)
      replace R_e := Lib.hid (R_e.out.bel b0)
      replace R_x := Lib.hid (R_x.out.bel b0)
      replace R_y := Lib.hid (R_y.out.bel b0)
      replace HB := Lib.hid (bel_trans HB.out b0)
      clear b0
      obtain ⟨e_p3, f_p3⟩ := K_p3.one
      obtain ⟨e_p4, f_p4⟩ := K_p4.one
      obtain ⟨e_p5, f_p5⟩ := K_p5.one
      obtain ⟨e_p9, f_p9⟩ := K_p9.one
      obtain ⟨e_p10, f_p10⟩ := K_p10.one
      go_wp2_with fail
      clear e_p3 f_p3 e_p4 f_p4 e_p5 f_p5 e_p9 f_p9 e_p10 f_p10
      refine (deSame_any _ _ _ _ _ R_x.out R_a.out).mono ?_
      rw [hea]
      rintro e x13 ⟨rfl, b0⟩
      replace K_p3 := K_p3.below b0 K_p3.lt
      replace K_p4 := K_p4.below b0 K_p4.lt
      replace K_p5 := K_p5.below b0 K_p5.lt
      replace K_p9 := K_p9.below b0 K_p9.lt
      replace K_p10 := K_p10.below b0 K_p10.lt
      replace R_a := Lib.hid (R_a.out.bel b0)
      replace R_b := Lib.hid (R_b.out.bel b0)
      replace R_e := Lib.hid (R_e.out.bel b0)
      replace R_x := Lib.hid (R_x.out.bel b0)
      replace R_y := Lib.hid (R_y.out.bel b0)
      replace HB := Lib.hid (bel_trans HB.out b0)
      clear b0
      obtain ⟨e_p3, f_p3⟩ := K_p3.one
      obtain ⟨e_p4, f_p4⟩ := K_p4.one
      obtain ⟨e_p5, f_p5⟩ := K_p5.one
      obtain ⟨e_p9, f_p9⟩ := K_p9.one
      obtain ⟨e_p10, f_p10⟩ := K_p10.one
      go_wp2_with fail
      clear e_p3 f_p3 e_p4 f_p4 e_p5 f_p5 e_p9 f_p9 e_p10 f_p10
      refine (deSame_any _ _ _ _ _ R_y.out R_b.out).mono ?_
      rw [heb]
      rintro e x14 ⟨rfl, b0⟩
      replace K_p3 := K_p3.below b0 K_p3.lt
      replace K_p4 := K_p4.below b0 K_p4.lt
      replace K_p5 := K_p5.below b0 K_p5.lt
      replace K_p9 := K_p9.below b0 K_p9.lt
      replace K_p10 := K_p10.below b0 K_p10.lt
      replace R_a := Lib.hid (R_a.out.bel b0)
      replace R_b := Lib.hid (R_b.out.bel b0)
      replace R_e := Lib.hid (R_e.out.bel b0)
      replace R_x := Lib.hid (R_x.out.bel b0)
      replace R_y := Lib.hid (R_y.out.bel b0)
      replace HB := Lib.hid (bel_trans HB.out b0)
      clear b0
      obtain ⟨e_p3, f_p3⟩ := K_p3.one
      obtain ⟨e_p4, f_p4⟩ := K_p4.one
      obtain ⟨e_p5, f_p5⟩ := K_p5.one
      obtain ⟨e_p9, f_p9⟩ := K_p9.one
      obtain ⟨e_p10, f_p10⟩ := K_p10.one
      go_wp2_with fail
      clear e_p3 f_p3 e_p4 f_p4 e_p5 f_p5 e_p9 f_p9 e_p10 f_p10
      refine (engJ_any _ a b _ HJ.out R_e.out).mono ?_
      rintro e x15 ⟨rfl, b0⟩
      replace K_p3 := K_p3.below b0 K_p3.lt
      replace K_p4 := K_p4.below b0 K_p4.lt
      replace K_p5 := K_p5.below b0 K_p5.lt
      replace K_p9 := K_p9.below b0 K_p9.lt
      replace K_p10 := K_p10.below b0 K_p10.lt
      replace R_a := Lib.hid (R_a.out.bel b0)
      replace R_b := Lib.hid (R_b.out.bel b0)
      replace R_e := Lib.hid (R_e.out.bel b0)
      replace R_x := Lib.hid (R_x.out.bel b0)
      replace R_y := Lib.hid (R_y.out.bel b0)
      replace HB := Lib.hid (bel_trans HB.out b0)
      clear b0
      obtain ⟨e_p3, f_p3⟩ := K_p3.one
      obtain ⟨e_p4, f_p4⟩ := K_p4.one
      obtain ⟨e_p5, f_p5⟩ := K_p5.one
      obtain ⟨e_p9, f_p9⟩ := K_p9.one
      obtain ⟨e_p10, f_p10⟩ := K_p10.one
      go_wp2
      go_ret
      exact ⟨rfl, HB.out⟩

end Go.Proofs.Yteemhhgioljmaaa
