/-
  The law FnCascadeTurn, walked (made by gen_ctf.py).
-/
import Derived.Test.YteemhhgioljmaaaTwoD
import Derived.Test.YteemhhgioljmaaaJoinB
import Derived.Test.YteemhhgioljmaaaRunI
import Derived.Test.YteemhhgioljmaaaSame
import Derived.Deep.QuietTactic
import Derived.BigQuiet
namespace Go.Proofs.Yteemhhgioljmaaa
open Go.RowKit
set_option linter.unusedVariables false
set_option linter.unusedSimpArgs false
set_option maxRecDepth 100000
attribute [local go_sem ↓] Go.wp_at_zero Go.wp_at_succ

theorem implCascT_any (u v : Value) (a b : List ByteArray) (w : World) (hu : Strs w u a) (hv : Strs w v b) :
    Calls Try.prog 59 #[.agg #[u], .agg #[v]] w (TwoEng w (cA a b) (cB a b) (joinOk a b)) := implCasc_any u v a b w hu hv
/-- The joined engine after a turn. -/
def jT (a b : List ByteArray) : List ByteArray := turnS (joinE a b)
theorem joinT_any (u v : Value) (a b : List ByteArray) (w : World) (hj : joinOk a b = true) (hu : Strs w u a) (hv : Strs w v b) :
    Calls Try.prog 64 #[.agg #[u], .agg #[v]] w (EngB w (joinE a b) true) := by
  have h := implJoin_any u v a b w hu hv
  rw [hj] at h
  exact h
theorem turnJ_any (v : Value) (a b : List ByteArray) (w : World) (hj : joinOk a b = true) (hv : Strs w v (joinE a b)) :
    Calls Try.prog 69 #[.agg #[v]] w (EngB w (jT a b) true) := by
  have e : engOk (joinE a b) = true := by rw [joinE_yes hj]; exact engOk_append hj
  have h := turnWhole_any v _ w hv
  rw [e, turnW_yes e] at h
  exact h
theorem joinX_any (u v : Value) (a b : List ByteArray) (w : World) (hj : joinOk a b = true) (hu : Strs w u (cA a b)) (hv : Strs w v (cB a b)) :
    Calls Try.prog 64 #[.agg #[u], .agg #[v]] w (EngB w (jT a b) true) := by
  obtain ⟨ea, -, -, -⟩ := joinOk_true.1 hj
  have h := implJoin_any u v _ _ w hu hv
  have hk := joinOk_turn hj
  rw [(cAB_yes hj).1, (cAB_yes hj).2, hk, joinE_yes hk, ← casc_join (engOk_iff.1 ea).1, ← joinE_yes hj] at h
  exact h
theorem turnA_any (v : Value) (a b : List ByteArray) (w : World) (hj : joinOk a b = true) (hv : Strs w v a) :
    Calls Try.prog 69 #[.agg #[v]] w (EngB w (cA a b) true) := by
  obtain ⟨ea, -, -, -⟩ := joinOk_true.1 hj
  have h := turnWhole_any v a w hv
  rw [ea, turnW_yes ea, ← (cAB_yes hj).1] at h
  exact h
theorem turnB_any (v : Value) (b : List ByteArray) (w : World) (eb : engOk b = true) (hv : Strs w v b) :
    Calls Try.prog 69 #[.agg #[v]] w (EngB w (turnS b) true) := by
  have h := turnWhole_any v b w hv
  rw [eb, turnW_yes eb] at h
  exact h
theorem cB_len_yes {a b : List ByteArray} (hj : joinOk a b = true) : (cB a b).length = b.length := by rw [(cAB_yes hj).2, cascB_length]
theorem cB_at {a b : List ByteArray} (hj : joinOk a b = true) {k : Nat} (hk : k + 1 < b.length) : sat (cB a b) k = sat (turnS b) k := by
  rw [(cAB_yes hj).2, turnS_at (by omega), if_pos hk]
  unfold cascB
  rw [at_genS (by omega), if_pos hk]
theorem cB_last {a b : List ByteArray} (hj : joinOk a b = true) {k : Nat} (hk : k + 1 = b.length) : sat (cB a b) k = addC (sat b k) (sat a 0) := by
  rw [(cAB_yes hj).2]
  unfold cascB
  rw [at_genS (by omega), if_neg (by omega)]
theorem turn_last {b : List ByteArray} {k : Nat} (hk : k + 1 = b.length) : sat (turnS b) k = sat b k := by
  rw [turnS_at (by omega), if_neg (by omega)]

set_option maxHeartbeats 8000000 in
theorem lawCascadeTurnF (v : Value) (code : List Int) (w : World) (hv : Bytes w v code) :
    Calls Try.prog 13 #[v] w fun e w' => e = .returned (.bool true) ∧ Below w.heap.size w w' := by
  have HV := Lib.hid hv
  obtain ⟨A_c, c_c, rfl, -, -, -⟩ := hv.open_
  clear hv
  by_cases hbig : (1048576 : Int) < (code.length : Int)
  · go_enter Try.func13, Try.ntmps13
    go_wp2
    go_ret
    exact ⟨rfl, Below.refl _ _⟩
  · have HB := Lib.hid (Below.refl w.heap.size w)
    go_enter Try.func13, Try.ntmps13
    go_wp2_with fail
    refine (drawCasc_any _ code _ HV.out).mono ?_
    rintro e x1 ⟨r_a, r_b, a, b, rfl, o_a, o_b, a8, b8, b0⟩
    clear HV
    replace HB := Lib.hid (bel_trans HB.out b0)
    clear b0
    have R_a := Lib.hid o_a.strs
    obtain ⟨A_a, c_a, rfl, -, -, -⟩ := o_a.strs.open_
    clear o_a
    have R_b := Lib.hid o_b.strs
    obtain ⟨A_b, c_b, rfl, -, -, -⟩ := o_b.strs.open_
    clear o_b
    have ba : Below x1.heap.size x1 (((x1).alloc (.cells #[Value.slice A_a (a).length c_a] 29)).alloc (.cells #[Value.slice A_b (b).length c_b] 29)) := (bel_alloc x1 _).alloc (by simp <;> omega) _
    replace R_a := Lib.hid (R_a.out.bel ba)
    replace R_b := Lib.hid (R_b.out.bel ba)
    replace HB := Lib.hid (bel_trans HB.out ba)
    clear ba
    have K_p3 := (Blk.new' (x1) 29 (Value.slice A_a (a).length c_a) (x1.heap.size) (by simp)).alloc (.cells #[Value.slice A_b (b).length c_b] 29)
    have K_p4 := Blk.new' ((x1).alloc (.cells #[Value.slice A_a (a).length c_a] 29)) 29 (Value.slice A_b (b).length c_b) (x1.heap.size + 1) (by simp)
    obtain ⟨e_p3, f_p3⟩ := K_p3.one
    obtain ⟨e_p4, f_p4⟩ := K_p4.one
    go_wp2_with fail
    clear e_p3 f_p3 e_p4 f_p4
    generalize hW : ((x1).alloc (.cells #[Value.slice A_a (a).length c_a] 29)).alloc (.cells #[Value.slice A_b (b).length c_b] 29) = x2 at *
    clear hW
    refine (implCasc_any _ _ a b _ R_a.out R_b.out).mono ?_
    rintro e x3 ⟨r_x, r_y, rfl, o_x, o_y, -, b0⟩
    replace K_p3 := K_p3.below b0 K_p3.lt
    replace K_p4 := K_p4.below b0 K_p4.lt
    replace R_a := Lib.hid (R_a.out.bel b0)
    replace R_b := Lib.hid (R_b.out.bel b0)
    replace HB := Lib.hid (bel_trans HB.out b0)
    clear b0
    have R_x := Lib.hid o_x.strs
    obtain ⟨A_x, c_x, rfl, -, -, -⟩ := o_x.strs.open_
    clear o_x
    have R_y := Lib.hid o_y.strs
    obtain ⟨A_y, c_y, rfl, -, -, -⟩ := o_y.strs.open_
    clear o_y
    have ba : Below x3.heap.size x3 (((x3).alloc (.cells #[Value.slice A_x (cA a b).length c_x] 29)).alloc (.cells #[Value.slice A_y (cB a b).length c_y] 29)) := (bel_alloc x3 _).alloc (by simp <;> omega) _
    replace K_p3 := K_p3.below ba K_p3.lt
    replace K_p4 := K_p4.below ba K_p4.lt
    replace R_a := Lib.hid (R_a.out.bel ba)
    replace R_b := Lib.hid (R_b.out.bel ba)
    replace R_x := Lib.hid (R_x.out.bel ba)
    replace R_y := Lib.hid (R_y.out.bel ba)
    replace HB := Lib.hid (bel_trans HB.out ba)
    clear ba
    have K_p5 := (Blk.new' (x3) 29 (Value.slice A_x (cA a b).length c_x) (x3.heap.size) (by simp)).alloc (.cells #[Value.slice A_y (cB a b).length c_y] 29)
    have K_p6 := Blk.new' ((x3).alloc (.cells #[Value.slice A_x (cA a b).length c_x] 29)) 29 (Value.slice A_y (cB a b).length c_y) (x3.heap.size + 1) (by simp)
    obtain ⟨e_p3, f_p3⟩ := K_p3.one
    obtain ⟨e_p4, f_p4⟩ := K_p4.one
    obtain ⟨e_p5, f_p5⟩ := K_p5.one
    obtain ⟨e_p6, f_p6⟩ := K_p6.one
    go_wp2_with fail
    clear e_p3 f_p3 e_p4 f_p4 e_p5 f_p5 e_p6 f_p6
    generalize hW : ((x3).alloc (.cells #[Value.slice A_x (cA a b).length c_x] 29)).alloc (.cells #[Value.slice A_y (cB a b).length c_y] 29) = x4 at *
    clear hW
    refine (specCasc_any _ _ a b _ R_a.out R_b.out).mono ?_
    rintro e x5 ⟨r_p, r_q, rfl, o_p, o_q, -, b0⟩
    replace K_p3 := K_p3.below b0 K_p3.lt
    replace K_p4 := K_p4.below b0 K_p4.lt
    replace K_p5 := K_p5.below b0 K_p5.lt
    replace K_p6 := K_p6.below b0 K_p6.lt
    replace R_a := Lib.hid (R_a.out.bel b0)
    replace R_b := Lib.hid (R_b.out.bel b0)
    replace R_x := Lib.hid (R_x.out.bel b0)
    replace R_y := Lib.hid (R_y.out.bel b0)
    replace HB := Lib.hid (bel_trans HB.out b0)
    clear b0
    have R_p := Lib.hid o_p.strs
    obtain ⟨A_p, c_p, rfl, -, -, -⟩ := o_p.strs.open_
    clear o_p
    have R_q := Lib.hid o_q.strs
    obtain ⟨A_q, c_q, rfl, -, -, -⟩ := o_q.strs.open_
    clear o_q
    have hx := eqS_self (cA a b)
    have hy := eqS_self (cB a b)
    have ba : Below x5.heap.size x5 (((x5).alloc (.cells #[Value.slice A_p (cA a b).length c_p] 29)).alloc (.cells #[Value.slice A_q (cB a b).length c_q] 29)) := (bel_alloc x5 _).alloc (by simp <;> omega) _
    replace K_p3 := K_p3.below ba K_p3.lt
    replace K_p4 := K_p4.below ba K_p4.lt
    replace K_p5 := K_p5.below ba K_p5.lt
    replace K_p6 := K_p6.below ba K_p6.lt
    replace R_a := Lib.hid (R_a.out.bel ba)
    replace R_b := Lib.hid (R_b.out.bel ba)
    replace R_x := Lib.hid (R_x.out.bel ba)
    replace R_y := Lib.hid (R_y.out.bel ba)
    replace R_p := Lib.hid (R_p.out.bel ba)
    replace R_q := Lib.hid (R_q.out.bel ba)
    replace HB := Lib.hid (bel_trans HB.out ba)
    clear ba
    have K_p8 := (Blk.new' (x5) 29 (Value.slice A_p (cA a b).length c_p) (x5.heap.size) (by simp)).alloc (.cells #[Value.slice A_q (cB a b).length c_q] 29)
    have K_p9 := Blk.new' ((x5).alloc (.cells #[Value.slice A_p (cA a b).length c_p] 29)) 29 (Value.slice A_q (cB a b).length c_q) (x5.heap.size + 1) (by simp)
    obtain ⟨e_p3, f_p3⟩ := K_p3.one
    obtain ⟨e_p4, f_p4⟩ := K_p4.one
    obtain ⟨e_p5, f_p5⟩ := K_p5.one
    obtain ⟨e_p6, f_p6⟩ := K_p6.one
    obtain ⟨e_p8, f_p8⟩ := K_p8.one
    obtain ⟨e_p9, f_p9⟩ := K_p9.one
    go_wp2_with fail
    clear e_p3 f_p3 e_p4 f_p4 e_p5 f_p5 e_p6 f_p6 e_p8 f_p8 e_p9 f_p9
    generalize hW : ((x5).alloc (.cells #[Value.slice A_p (cA a b).length c_p] 29)).alloc (.cells #[Value.slice A_q (cB a b).length c_q] 29) = x6 at *
    clear hW
    refine (deSame_any _ _ _ _ _ R_x.out R_p.out).mono ?_
    rw [hx]
    rintro e x7 ⟨rfl, b0⟩
    replace K_p3 := K_p3.below b0 K_p3.lt
    replace K_p4 := K_p4.below b0 K_p4.lt
    replace K_p5 := K_p5.below b0 K_p5.lt
    replace K_p6 := K_p6.below b0 K_p6.lt
    replace K_p8 := K_p8.below b0 K_p8.lt
    replace K_p9 := K_p9.below b0 K_p9.lt
    replace R_a := Lib.hid (R_a.out.bel b0)
    replace R_b := Lib.hid (R_b.out.bel b0)
    replace R_x := Lib.hid (R_x.out.bel b0)
    replace R_y := Lib.hid (R_y.out.bel b0)
    replace R_p := Lib.hid (R_p.out.bel b0)
    replace R_q := Lib.hid (R_q.out.bel b0)
    replace HB := Lib.hid (bel_trans HB.out b0)
    clear b0
    obtain ⟨e_p3, f_p3⟩ := K_p3.one
    obtain ⟨e_p4, f_p4⟩ := K_p4.one
    obtain ⟨e_p5, f_p5⟩ := K_p5.one
    obtain ⟨e_p6, f_p6⟩ := K_p6.one
    obtain ⟨e_p8, f_p8⟩ := K_p8.one
    obtain ⟨e_p9, f_p9⟩ := K_p9.one
    go_wp2_with fail
    clear e_p3 f_p3 e_p4 f_p4 e_p5 f_p5 e_p6 f_p6 e_p8 f_p8 e_p9 f_p9
    refine (deSame_any _ _ _ _ _ R_y.out R_q.out).mono ?_
    rw [hy]
    rintro e x8 ⟨rfl, b0⟩
    replace K_p3 := K_p3.below b0 K_p3.lt
    replace K_p4 := K_p4.below b0 K_p4.lt
    replace K_p5 := K_p5.below b0 K_p5.lt
    replace K_p6 := K_p6.below b0 K_p6.lt
    replace K_p8 := K_p8.below b0 K_p8.lt
    replace K_p9 := K_p9.below b0 K_p9.lt
    replace R_a := Lib.hid (R_a.out.bel b0)
    replace R_b := Lib.hid (R_b.out.bel b0)
    replace R_x := Lib.hid (R_x.out.bel b0)
    replace R_y := Lib.hid (R_y.out.bel b0)
    replace R_p := Lib.hid (R_p.out.bel b0)
    replace R_q := Lib.hid (R_q.out.bel b0)
    replace HB := Lib.hid (bel_trans HB.out b0)
    clear b0
    cases hj : joinOk a b
    · skip
      obtain ⟨e_p3, f_p3⟩ := K_p3.one
      obtain ⟨e_p4, f_p4⟩ := K_p4.one
      obtain ⟨e_p5, f_p5⟩ := K_p5.one
      obtain ⟨e_p6, f_p6⟩ := K_p6.one
      obtain ⟨e_p8, f_p8⟩ := K_p8.one
      obtain ⟨e_p9, f_p9⟩ := K_p9.one
      go_wp2_with fail
      clear e_p3 f_p3 e_p4 f_p4 e_p5 f_p5 e_p6 f_p6 e_p8 f_p8 e_p9 f_p9
      refine (deSame_any _ _ _ _ _ R_x.out R_p.out).mono ?_
      rw [hx]
      rintro e x9 ⟨rfl, b0⟩
      replace K_p3 := K_p3.below b0 K_p3.lt
      replace K_p4 := K_p4.below b0 K_p4.lt
      replace K_p5 := K_p5.below b0 K_p5.lt
      replace K_p6 := K_p6.below b0 K_p6.lt
      replace K_p8 := K_p8.below b0 K_p8.lt
      replace K_p9 := K_p9.below b0 K_p9.lt
      replace R_a := Lib.hid (R_a.out.bel b0)
      replace R_b := Lib.hid (R_b.out.bel b0)
      replace R_x := Lib.hid (R_x.out.bel b0)
      replace R_y := Lib.hid (R_y.out.bel b0)
      replace R_p := Lib.hid (R_p.out.bel b0)
      replace R_q := Lib.hid (R_q.out.bel b0)
      replace HB := Lib.hid (bel_trans HB.out b0)
      clear b0
      obtain ⟨e_p3, f_p3⟩ := K_p3.one
      obtain ⟨e_p4, f_p4⟩ := K_p4.one
      obtain ⟨e_p5, f_p5⟩ := K_p5.one
      obtain ⟨e_p6, f_p6⟩ := K_p6.one
      obtain ⟨e_p8, f_p8⟩ := K_p8.one
      obtain ⟨e_p9, f_p9⟩ := K_p9.one
      go_wp2_with fail
      clear e_p3 f_p3 e_p4 f_p4 e_p5 f_p5 e_p6 f_p6 e_p8 f_p8 e_p9 f_p9
      refine (deSame_any _ _ _ _ _ R_y.out R_q.out).mono ?_
      rw [hy]
      rintro e x10 ⟨rfl, b0⟩
      replace K_p3 := K_p3.below b0 K_p3.lt
      replace K_p4 := K_p4.below b0 K_p4.lt
      replace K_p5 := K_p5.below b0 K_p5.lt
      replace K_p6 := K_p6.below b0 K_p6.lt
      replace K_p8 := K_p8.below b0 K_p8.lt
      replace K_p9 := K_p9.below b0 K_p9.lt
      replace R_a := Lib.hid (R_a.out.bel b0)
      replace R_b := Lib.hid (R_b.out.bel b0)
      replace R_x := Lib.hid (R_x.out.bel b0)
      replace R_y := Lib.hid (R_y.out.bel b0)
      replace R_p := Lib.hid (R_p.out.bel b0)
      replace R_q := Lib.hid (R_q.out.bel b0)
      replace HB := Lib.hid (bel_trans HB.out b0)
      clear b0
      obtain ⟨e_p3, f_p3⟩ := K_p3.one
      obtain ⟨e_p4, f_p4⟩ := K_p4.one
      obtain ⟨e_p5, f_p5⟩ := K_p5.one
      obtain ⟨e_p6, f_p6⟩ := K_p6.one
      obtain ⟨e_p8, f_p8⟩ := K_p8.one
      obtain ⟨e_p9, f_p9⟩ := K_p9.one
      go_wp2
      go_ret
      exact ⟨rfl, HB.out⟩
    · skip
      have HJ := Lib.hid hj
      have EB := Lib.hid (joinOk_true.1 hj).2.1
      have ht := eqS_self (jT a b)
      clear K_p8 K_p9 R_p R_q
      clear hy
      obtain ⟨e_p3, f_p3⟩ := K_p3.one
      obtain ⟨e_p4, f_p4⟩ := K_p4.one
      obtain ⟨e_p5, f_p5⟩ := K_p5.one
      obtain ⟨e_p6, f_p6⟩ := K_p6.one
      go_wp2_with fail
      clear e_p3 f_p3 e_p4 f_p4 e_p5 f_p5 e_p6 f_p6
      refine (joinT_any _ _ a b _ HJ.out R_a.out R_b.out).mono ?_
      rintro e x11 ⟨r_e, rfl, o_e, b0⟩
      replace K_p3 := K_p3.below b0 K_p3.lt
      replace K_p4 := K_p4.below b0 K_p4.lt
      replace K_p5 := K_p5.below b0 K_p5.lt
      replace K_p6 := K_p6.below b0 K_p6.lt
      replace R_a := Lib.hid (R_a.out.bel b0)
      replace R_b := Lib.hid (R_b.out.bel b0)
      replace R_x := Lib.hid (R_x.out.bel b0)
      replace R_y := Lib.hid (R_y.out.bel b0)
      replace HB := Lib.hid (bel_trans HB.out b0)
      clear b0
      have R_e := Lib.hid o_e.strs
      obtain ⟨A_e, c_e, rfl, -, -, -⟩ := o_e.strs.open_
      clear o_e
      have ba : Below x11.heap.size x11 ((x11).alloc (.cells #[Value.slice A_e (joinE a b).length c_e] 29)) := bel_alloc x11 _
      replace K_p3 := K_p3.below ba K_p3.lt
      replace K_p4 := K_p4.below ba K_p4.lt
      replace K_p5 := K_p5.below ba K_p5.lt
      replace K_p6 := K_p6.below ba K_p6.lt
      replace R_a := Lib.hid (R_a.out.bel ba)
      replace R_b := Lib.hid (R_b.out.bel ba)
      replace R_x := Lib.hid (R_x.out.bel ba)
      replace R_y := Lib.hid (R_y.out.bel ba)
      replace R_e := Lib.hid (R_e.out.bel ba)
      replace HB := Lib.hid (bel_trans HB.out ba)
      clear ba
      have K_p11 := Blk.new' (x11) 29 (Value.slice A_e (joinE a b).length c_e) (x11.heap.size) (by simp)
      obtain ⟨e_p3, f_p3⟩ := K_p3.one
      obtain ⟨e_p4, f_p4⟩ := K_p4.one
      obtain ⟨e_p5, f_p5⟩ := K_p5.one
      obtain ⟨e_p6, f_p6⟩ := K_p6.one
      obtain ⟨e_p11, f_p11⟩ := K_p11.one
      go_wp2_with fail
      clear e_p3 f_p3 e_p4 f_p4 e_p5 f_p5 e_p6 f_p6 e_p11 f_p11
      generalize hW : (x11).alloc (.cells #[Value.slice A_e (joinE a b).length c_e] 29) = x12 at *
      clear hW
      refine (turnJ_any _ a b _ HJ.out R_e.out).mono ?_
      rintro e x13 ⟨r_t, rfl, o_t, b0⟩
      replace K_p3 := K_p3.below b0 K_p3.lt
      replace K_p4 := K_p4.below b0 K_p4.lt
      replace K_p5 := K_p5.below b0 K_p5.lt
      replace K_p6 := K_p6.below b0 K_p6.lt
      replace K_p11 := K_p11.below b0 K_p11.lt
      replace R_a := Lib.hid (R_a.out.bel b0)
      replace R_b := Lib.hid (R_b.out.bel b0)
      replace R_x := Lib.hid (R_x.out.bel b0)
      replace R_y := Lib.hid (R_y.out.bel b0)
      replace R_e := Lib.hid (R_e.out.bel b0)
      replace HB := Lib.hid (bel_trans HB.out b0)
      clear b0
      have R_t := Lib.hid o_t.strs
      obtain ⟨A_t, c_t, rfl, -, -, -⟩ := o_t.strs.open_
      clear o_t
      clear R_e
      have ba : Below x13.heap.size x13 ((x13).alloc (.cells #[Value.slice A_t (jT a b).length c_t] 29)) := bel_alloc x13 _
      replace K_p3 := K_p3.below ba K_p3.lt
      replace K_p4 := K_p4.below ba K_p4.lt
      replace K_p5 := K_p5.below ba K_p5.lt
      replace K_p6 := K_p6.below ba K_p6.lt
      replace K_p11 := K_p11.below ba K_p11.lt
      replace R_a := Lib.hid (R_a.out.bel ba)
      replace R_b := Lib.hid (R_b.out.bel ba)
      replace R_x := Lib.hid (R_x.out.bel ba)
      replace R_y := Lib.hid (R_y.out.bel ba)
      replace R_t := Lib.hid (R_t.out.bel ba)
      replace HB := Lib.hid (bel_trans HB.out ba)
      clear ba
      have K_p13 := Blk.new' (x13) 29 (Value.slice A_t (jT a b).length c_t) (x13.heap.size) (by simp)
      obtain ⟨e_p3, f_p3⟩ := K_p3.one
      obtain ⟨e_p4, f_p4⟩ := K_p4.one
      obtain ⟨e_p5, f_p5⟩ := K_p5.one
      obtain ⟨e_p6, f_p6⟩ := K_p6.one
      obtain ⟨e_p11, f_p11⟩ := K_p11.one
      obtain ⟨e_p13, f_p13⟩ := K_p13.one
      go_wp2_with fail
      clear e_p3 f_p3 e_p4 f_p4 e_p5 f_p5 e_p6 f_p6 e_p11 f_p11 e_p13 f_p13
      generalize hW : (x13).alloc (.cells #[Value.slice A_t (jT a b).length c_t] 29) = x14 at *
      clear hW
      refine (joinX_any _ _ a b _ HJ.out R_x.out R_y.out).mono ?_
      rintro e x15 ⟨r_u, rfl, o_u, b0⟩
      replace K_p3 := K_p3.below b0 K_p3.lt
      replace K_p4 := K_p4.below b0 K_p4.lt
      replace K_p5 := K_p5.below b0 K_p5.lt
      replace K_p6 := K_p6.below b0 K_p6.lt
      replace K_p11 := K_p11.below b0 K_p11.lt
      replace K_p13 := K_p13.below b0 K_p13.lt
      replace R_a := Lib.hid (R_a.out.bel b0)
      replace R_b := Lib.hid (R_b.out.bel b0)
      replace R_x := Lib.hid (R_x.out.bel b0)
      replace R_y := Lib.hid (R_y.out.bel b0)
      replace R_t := Lib.hid (R_t.out.bel b0)
      replace HB := Lib.hid (bel_trans HB.out b0)
      clear b0
      have R_u := Lib.hid o_u.strs
      obtain ⟨A_u, c_u, rfl, -, -, -⟩ := o_u.strs.open_
      clear o_u
      clear K_p11
      have ba : Below x15.heap.size x15 ((x15).alloc (.cells #[Value.slice A_u (jT a b).length c_u] 29)) := bel_alloc x15 _
      replace K_p3 := K_p3.below ba K_p3.lt
      replace K_p4 := K_p4.below ba K_p4.lt
      replace K_p5 := K_p5.below ba K_p5.lt
      replace K_p6 := K_p6.below ba K_p6.lt
      replace K_p13 := K_p13.below ba K_p13.lt
      replace R_a := Lib.hid (R_a.out.bel ba)
      replace R_b := Lib.hid (R_b.out.bel ba)
      replace R_x := Lib.hid (R_x.out.bel ba)
      replace R_y := Lib.hid (R_y.out.bel ba)
      replace R_t := Lib.hid (R_t.out.bel ba)
      replace R_u := Lib.hid (R_u.out.bel ba)
      replace HB := Lib.hid (bel_trans HB.out ba)
      clear ba
      have K_p15 := Blk.new' (x15) 29 (Value.slice A_u (jT a b).length c_u) (x15.heap.size) (by simp)
      obtain ⟨e_p3, f_p3⟩ := K_p3.one
      obtain ⟨e_p4, f_p4⟩ := K_p4.one
      obtain ⟨e_p5, f_p5⟩ := K_p5.one
      obtain ⟨e_p6, f_p6⟩ := K_p6.one
      obtain ⟨e_p13, f_p13⟩ := K_p13.one
      obtain ⟨e_p15, f_p15⟩ := K_p15.one
      go_wp2_with fail
      clear e_p3 f_p3 e_p4 f_p4 e_p5 f_p5 e_p6 f_p6 e_p13 f_p13 e_p15 f_p15
      generalize hW : (x15).alloc (.cells #[Value.slice A_u (jT a b).length c_u] 29) = x16 at *
      clear hW
      refine (turnA_any _ a b _ HJ.out R_a.out).mono ?_
      rintro e x17 ⟨r_o, rfl, o_o, b0⟩
      replace K_p3 := K_p3.below b0 K_p3.lt
      replace K_p4 := K_p4.below b0 K_p4.lt
      replace K_p5 := K_p5.below b0 K_p5.lt
      replace K_p6 := K_p6.below b0 K_p6.lt
      replace K_p13 := K_p13.below b0 K_p13.lt
      replace K_p15 := K_p15.below b0 K_p15.lt
      replace R_a := Lib.hid (R_a.out.bel b0)
      replace R_b := Lib.hid (R_b.out.bel b0)
      replace R_x := Lib.hid (R_x.out.bel b0)
      replace R_y := Lib.hid (R_y.out.bel b0)
      replace R_t := Lib.hid (R_t.out.bel b0)
      replace R_u := Lib.hid (R_u.out.bel b0)
      replace HB := Lib.hid (bel_trans HB.out b0)
      clear b0
      have R_o := Lib.hid o_o.strs
      obtain ⟨A_o, c_o, rfl, -, -, -⟩ := o_o.strs.open_
      clear o_o
      have ba : Below x17.heap.size x17 ((x17).alloc (.cells #[Value.slice A_o (cA a b).length c_o] 29)) := bel_alloc x17 _
      replace K_p3 := K_p3.below ba K_p3.lt
      replace K_p4 := K_p4.below ba K_p4.lt
      replace K_p5 := K_p5.below ba K_p5.lt
      replace K_p6 := K_p6.below ba K_p6.lt
      replace K_p13 := K_p13.below ba K_p13.lt
      replace K_p15 := K_p15.below ba K_p15.lt
      replace R_a := Lib.hid (R_a.out.bel ba)
      replace R_b := Lib.hid (R_b.out.bel ba)
      replace R_x := Lib.hid (R_x.out.bel ba)
      replace R_y := Lib.hid (R_y.out.bel ba)
      replace R_t := Lib.hid (R_t.out.bel ba)
      replace R_u := Lib.hid (R_u.out.bel ba)
      replace R_o := Lib.hid (R_o.out.bel ba)
      replace HB := Lib.hid (bel_trans HB.out ba)
      clear ba
      have K_p17 := Blk.new' (x17) 29 (Value.slice A_o (cA a b).length c_o) (x17.heap.size) (by simp)
      obtain ⟨e_p3, f_p3⟩ := K_p3.one
      obtain ⟨e_p4, f_p4⟩ := K_p4.one
      obtain ⟨e_p5, f_p5⟩ := K_p5.one
      obtain ⟨e_p6, f_p6⟩ := K_p6.one
      obtain ⟨e_p13, f_p13⟩ := K_p13.one
      obtain ⟨e_p15, f_p15⟩ := K_p15.one
      obtain ⟨e_p17, f_p17⟩ := K_p17.one
      go_wp2_with fail
      clear e_p3 f_p3 e_p4 f_p4 e_p5 f_p5 e_p6 f_p6 e_p13 f_p13 e_p15 f_p15 e_p17 f_p17
      generalize hW : (x17).alloc (.cells #[Value.slice A_o (cA a b).length c_o] 29) = x18 at *
      clear hW
      refine (turnB_any _ b _ EB.out R_b.out).mono ?_
      rintro e x19 ⟨r_n, rfl, o_n, b0⟩
      replace K_p3 := K_p3.below b0 K_p3.lt
      replace K_p4 := K_p4.below b0 K_p4.lt
      replace K_p5 := K_p5.below b0 K_p5.lt
      replace K_p6 := K_p6.below b0 K_p6.lt
      replace K_p13 := K_p13.below b0 K_p13.lt
      replace K_p15 := K_p15.below b0 K_p15.lt
      replace K_p17 := K_p17.below b0 K_p17.lt
      replace R_a := Lib.hid (R_a.out.bel b0)
      replace R_b := Lib.hid (R_b.out.bel b0)
      replace R_x := Lib.hid (R_x.out.bel b0)
      replace R_y := Lib.hid (R_y.out.bel b0)
      replace R_t := Lib.hid (R_t.out.bel b0)
      replace R_u := Lib.hid (R_u.out.bel b0)
      replace R_o := Lib.hid (R_o.out.bel b0)
      replace HB := Lib.hid (bel_trans HB.out b0)
      clear b0
      have R_n := Lib.hid o_n.strs
      obtain ⟨A_n, c_n, rfl, -, -, -⟩ := o_n.strs.open_
      clear o_n
      clear R_b
      have ba : Below x19.heap.size x19 ((x19).alloc (.cells #[Value.slice A_n (turnS b).length c_n] 29)) := bel_alloc x19 _
      replace K_p3 := K_p3.below ba K_p3.lt
      replace K_p4 := K_p4.below ba K_p4.lt
      replace K_p5 := K_p5.below ba K_p5.lt
      replace K_p6 := K_p6.below ba K_p6.lt
      replace K_p13 := K_p13.below ba K_p13.lt
      replace K_p15 := K_p15.below ba K_p15.lt
      replace K_p17 := K_p17.below ba K_p17.lt
      replace R_a := Lib.hid (R_a.out.bel ba)
      replace R_x := Lib.hid (R_x.out.bel ba)
      replace R_y := Lib.hid (R_y.out.bel ba)
      replace R_t := Lib.hid (R_t.out.bel ba)
      replace R_u := Lib.hid (R_u.out.bel ba)
      replace R_o := Lib.hid (R_o.out.bel ba)
      replace R_n := Lib.hid (R_n.out.bel ba)
      replace HB := Lib.hid (bel_trans HB.out ba)
      clear ba
      have K_p19 := Blk.new' (x19) 29 (Value.slice A_n (turnS b).length c_n) (x19.heap.size) (by simp)
      obtain ⟨e_p3, f_p3⟩ := K_p3.one
      obtain ⟨e_p4, f_p4⟩ := K_p4.one
      obtain ⟨e_p5, f_p5⟩ := K_p5.one
      obtain ⟨e_p6, f_p6⟩ := K_p6.one
      obtain ⟨e_p13, f_p13⟩ := K_p13.one
      obtain ⟨e_p15, f_p15⟩ := K_p15.one
      obtain ⟨e_p17, f_p17⟩ := K_p17.one
      obtain ⟨e_p19, f_p19⟩ := K_p19.one
      obtain ⟨ea, eb, hss, h7⟩ := joinOk_true.1 hj
      obtain ⟨a1, a7, hca⟩ := engOk_iff.1 ea
      obtain ⟨b1, b7, hcb⟩ := engOk_iff.1 eb
      obtain ⟨m, hm⟩ : ∃ m, m + 1 = b.length := ⟨b.length - 1, by omega⟩
      have HC := Lib.hid (And.intro (hcb m (by omega)).1 (And.intro (hca 0 (by omega)).1 ((hcb m (by omega)).2.trans hss.symm)))
      have hmi : (b.length : Int) - 1 = (m : Int) := by omega
      have HM := Lib.hid hm
      have HLN := Lib.hid (turnS_length b)
      have HLY := Lib.hid (cB_len_yes hj)
      clear ea eb hss hca hcb h7
      go_wp2_with fail
      clear e_p3 f_p3 e_p4 f_p4 e_p5 f_p5 e_p6 f_p6 e_p13 f_p13 e_p15 f_p15 e_p17 f_p17 e_p19 f_p19
      generalize hW : (x19).alloc (.cells #[Value.slice A_n (turnS b).length c_n] 29) = z0 at *
      clear hW
      have hml : (m : Int) < ((turnS b).length : Int) := by rw [HLN.out]; omega
      have hm0 : (0 : Int) ≤ (m : Int) := by omega
      have pa2 : 0 < a.length := by omega
      have pa : (0 : Int) < (a.length : Int) := by omega
      have na : ¬ a = [] := by intro e; rw [e] at a1; simp at a1
      have hmn : m < (turnS b).length := by rw [HLN.out]; omega
      obtain ⟨Aa, ca, e', -, -, hrd⟩ := R_a.out.open_
      injection e' with q1 q2 q3
      subst q1 q3
      obtain ⟨ba, oa, rfl, hba, hcella⟩ := hrd.strs pa2
      have hc0 := hcella 0 pa2
      rw [Nat.add_zero] at hc0
      obtain ⟨An, cn, e', -, -, hrd2⟩ := R_n.out.open_
      injection e' with q4 q5 q6
      subst q4 q6
      obtain ⟨bn, on, rfl, hbn, hcelln⟩ := hrd2.strs (by omega)
      have hcm := hcelln m hmn
      rw [turn_last HM.out] at hcm
      obtain ⟨e3, f3⟩ := K_p3.one
      obtain ⟨e19, f19⟩ := K_p19.one
      have tok1 : True := trivial
      clear hrd hrd2 hcella q2 q5 hm
      have HCN := Lib.hid hcelln
      clear hcelln
      go_region_held3 (fun w' => w'.cell? ⟨x19.heap.size, 0, none⟩ = some (.slice (some ⟨bn, on, none⟩) (turnS b).length c_n) ∧ w'.cell? ⟨x1.heap.size, 0, none⟩ = some (.slice (some ⟨ba, oa, none⟩) a.length c_a) ∧ w'.cell? ⟨bn, on + m, none⟩ = some (.string (sat b m)) ∧ w'.cell? ⟨ba, oa, none⟩ = some (.string (sat a 0))) (first | exact ⟨e19, e3, hcm, hc0⟩ | exact ⟨(bb.cell (by exact K_p19.lt)).trans e19, (bb.cell (by exact K_p3.lt)).trans e3, (bb.cell (by exact hbn)).trans hcm, (bb.cell (by exact hba)).trans hc0⟩ | go_keep) (first
        | ((try go_simp); go_at_call 70; have _t := tok1; refine (implAdd_any _ _ _ HC.out.1 HC.out.2.1 HC.out.2.2).mono ?_; rintro e z1 ⟨rfl, bz⟩; have bb : Below z0.heap.size z0 z1 := (by first | exact bz | exact bel_trans ((Below.refl _ _).drew) bz); clear tok1 bz; (try dsimp only))
        | fail)
      all_goals
        clear e3 f3 e19 f19 hc0 hcm
        have hx60 : m ≤ 7 := by have := HM.out; omega
        replace K_p3 := K_p3.below bb K_p3.lt
        replace K_p4 := K_p4.below bb K_p4.lt
        replace K_p5 := K_p5.below bb K_p5.lt
        replace K_p6 := K_p6.below bb K_p6.lt
        replace K_p13 := K_p13.below bb K_p13.lt
        replace K_p15 := K_p15.below bb K_p15.lt
        replace K_p17 := K_p17.below bb K_p17.lt
        replace K_p19 := K_p19.below bb K_p19.lt
        replace R_a := Lib.hid (R_a.out.bel bb)
        replace R_x := Lib.hid (R_x.out.bel bb)
        replace R_y := Lib.hid (R_y.out.bel bb)
        replace R_t := Lib.hid (R_t.out.bel bb)
        replace R_u := Lib.hid (R_u.out.bel bb)
        replace R_o := Lib.hid (R_o.out.bel bb)
        replace R_n := Lib.hid (R_n.out.bel bb)
        replace HB := Lib.hid (bel_trans HB.out bb)
        clear bb
        go_wp2_with fail
        go_loopw [24] (fun i wr => ∃ k : Nat, k ≤ m ∧ i = .int .i64 k ∧ Below z1.heap.size z1 wr) (fun i _ => m - (intOf i).toNat)
        case atStart => exact ⟨0, Nat.zero_le _, rfl, Below.refl _ _⟩
        case round =>
          obtain ⟨k, hk, rfl, hb⟩ := hrel
          by_cases hlt : k < m
          · have HBW := Lib.hid hb
            have hcy := cB_at HJ.out (k := k) (by have := HM.out; omega)
            obtain ⟨Ay, cy, e', -, -, hrd⟩ := R_y.out.open_
            injection e' with q1 q2 q3
            subst q1 q3
            obtain ⟨bY, oY, rfl, hbY, hcY⟩ := hrd.strs (by rw [HLY.out]; have := HM.out; omega)
            have dY := (hb.cell (by exact hbY)).trans (hcY k (by rw [HLY.out]; have := HM.out; omega))
            rw [hcy] at dY
            obtain ⟨An, cn, e', -, -, hrd2⟩ := R_n.out.open_
            injection e' with q4 q5 q6
            subst q4 q6
            obtain ⟨bn', on', e2, hbn', hcN⟩ := hrd2.strs (by omega)
            injection e2 with e2
            injection e2 with e2 e3
            subst e2 e3
            have dN := (hb.cell (by exact hbn')).trans (hcN k (by omega))
            have e6 := (K_p6.below hb K_p6.lt).one.1
            have e19 := (K_p19.below hb K_p19.lt).one.1
            have p1 : (k : Int) < ((turnS b).length : Int) := by omega
            have p2 : (k : Int) < ((cB a b).length : Int) := by rw [HLY.out]; have := HM.out; omega
            have p3 : (0 : Int) ≤ (k : Int) := by omega
            have he : (!(sat (turnS b) k).toList == (sat (turnS b) k).toList) = false := by simp
            clear hrd hrd2 hcY hcN hb hcy q2 q5
            go_wp2_with fail
            go_quiet (fail)
            go_wp2
            go_roundw
            case rel => exact ⟨k + 1, by omega, by go_num, below_drewN HBW.out _⟩
            case measure => simp [intOf]; omega
          · skip
            replace K_p3 := K_p3.below hb K_p3.lt
            replace K_p4 := K_p4.below hb K_p4.lt
            replace K_p5 := K_p5.below hb K_p5.lt
            replace K_p6 := K_p6.below hb K_p6.lt
            replace K_p13 := K_p13.below hb K_p13.lt
            replace K_p15 := K_p15.below hb K_p15.lt
            replace K_p17 := K_p17.below hb K_p17.lt
            replace K_p19 := K_p19.below hb K_p19.lt
            replace R_a := Lib.hid (R_a.out.bel hb)
            replace R_x := Lib.hid (R_x.out.bel hb)
            replace R_y := Lib.hid (R_y.out.bel hb)
            replace R_t := Lib.hid (R_t.out.bel hb)
            replace R_u := Lib.hid (R_u.out.bel hb)
            replace R_o := Lib.hid (R_o.out.bel hb)
            replace R_n := Lib.hid (R_n.out.bel hb)
            replace HB := Lib.hid (bel_trans HB.out hb)
            clear hb
            obtain ⟨e_p3, f_p3⟩ := K_p3.one
            obtain ⟨e_p4, f_p4⟩ := K_p4.one
            obtain ⟨e_p5, f_p5⟩ := K_p5.one
            obtain ⟨e_p6, f_p6⟩ := K_p6.one
            obtain ⟨e_p13, f_p13⟩ := K_p13.one
            obtain ⟨e_p15, f_p15⟩ := K_p15.one
            obtain ⟨e_p17, f_p17⟩ := K_p17.one
            obtain ⟨e_p19, f_p19⟩ := K_p19.one
            go_wp2_with fail
            clear e_p3 f_p3 e_p4 f_p4 e_p5 f_p5 e_p6 f_p6 e_p13 f_p13 e_p15 f_p15 e_p17 f_p17 e_p19 f_p19
            refine (deSame_any _ _ _ _ _ R_u.out R_t.out).mono ?_
            rw [ht]
            rintro e x20 ⟨rfl, b0⟩
            replace K_p3 := K_p3.below b0 K_p3.lt
            replace K_p4 := K_p4.below b0 K_p4.lt
            replace K_p5 := K_p5.below b0 K_p5.lt
            replace K_p6 := K_p6.below b0 K_p6.lt
            replace K_p13 := K_p13.below b0 K_p13.lt
            replace K_p15 := K_p15.below b0 K_p15.lt
            replace K_p17 := K_p17.below b0 K_p17.lt
            replace K_p19 := K_p19.below b0 K_p19.lt
            replace R_a := Lib.hid (R_a.out.bel b0)
            replace R_x := Lib.hid (R_x.out.bel b0)
            replace R_y := Lib.hid (R_y.out.bel b0)
            replace R_t := Lib.hid (R_t.out.bel b0)
            replace R_u := Lib.hid (R_u.out.bel b0)
            replace R_o := Lib.hid (R_o.out.bel b0)
            replace R_n := Lib.hid (R_n.out.bel b0)
            replace HB := Lib.hid (bel_trans HB.out b0)
            clear b0
            obtain ⟨e_p3, f_p3⟩ := K_p3.one
            obtain ⟨e_p4, f_p4⟩ := K_p4.one
            obtain ⟨e_p5, f_p5⟩ := K_p5.one
            obtain ⟨e_p6, f_p6⟩ := K_p6.one
            obtain ⟨e_p13, f_p13⟩ := K_p13.one
            obtain ⟨e_p15, f_p15⟩ := K_p15.one
            obtain ⟨e_p17, f_p17⟩ := K_p17.one
            obtain ⟨e_p19, f_p19⟩ := K_p19.one
            go_wp2_with fail
            clear e_p3 f_p3 e_p4 f_p4 e_p5 f_p5 e_p6 f_p6 e_p13 f_p13 e_p15 f_p15 e_p17 f_p17 e_p19 f_p19
            refine (deSame_any _ _ _ _ _ R_x.out R_o.out).mono ?_
            rw [hx]
            rintro e x21 ⟨rfl, b0⟩
            replace K_p3 := K_p3.below b0 K_p3.lt
            replace K_p4 := K_p4.below b0 K_p4.lt
            replace K_p5 := K_p5.below b0 K_p5.lt
            replace K_p6 := K_p6.below b0 K_p6.lt
            replace K_p13 := K_p13.below b0 K_p13.lt
            replace K_p15 := K_p15.below b0 K_p15.lt
            replace K_p17 := K_p17.below b0 K_p17.lt
            replace K_p19 := K_p19.below b0 K_p19.lt
            replace R_a := Lib.hid (R_a.out.bel b0)
            replace R_x := Lib.hid (R_x.out.bel b0)
            replace R_y := Lib.hid (R_y.out.bel b0)
            replace R_t := Lib.hid (R_t.out.bel b0)
            replace R_u := Lib.hid (R_u.out.bel b0)
            replace R_o := Lib.hid (R_o.out.bel b0)
            replace R_n := Lib.hid (R_n.out.bel b0)
            replace HB := Lib.hid (bel_trans HB.out b0)
            clear b0
            have hcy := cB_last HJ.out HM.out
            obtain ⟨Ay, cy, e', -, -, hrd⟩ := R_y.out.open_
            injection e' with q1 q2 q3
            subst q1 q3
            have hml2 : m < (cB a b).length := by rw [HLY.out]; have := HM.out; omega
            obtain ⟨bY, oY, rfl, hbY, hcY⟩ := hrd.strs (by omega)
            have dY := hcY m hml2
            rw [hcy] at dY
            have p2 : (m : Int) < ((cB a b).length : Int) := by omega
            have p3 : (0 : Int) ≤ (m : Int) := by omega
            clear hrd hcY hcy q2
            obtain ⟨e_p3, f_p3⟩ := K_p3.one
            obtain ⟨e_p4, f_p4⟩ := K_p4.one
            obtain ⟨e_p5, f_p5⟩ := K_p5.one
            obtain ⟨e_p6, f_p6⟩ := K_p6.one
            obtain ⟨e_p13, f_p13⟩ := K_p13.one
            obtain ⟨e_p15, f_p15⟩ := K_p15.one
            obtain ⟨e_p17, f_p17⟩ := K_p17.one
            obtain ⟨e_p19, f_p19⟩ := K_p19.one
            go_wp2
            go_ret
            exact ⟨rfl, HB.out⟩

end Go.Proofs.Yteemhhgioljmaaa
