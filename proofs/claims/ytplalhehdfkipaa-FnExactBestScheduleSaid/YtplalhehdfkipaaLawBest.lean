/-
  The laws FnExactBestSchedule and FnExactLeastSpan, walked.
-/
import Derived.Test.YtplalhehdfkipaaBest
namespace Go.Proofs.Ytplalhehdfkipaa
open Go.RowKit
set_option linter.unusedVariables false

set_option maxHeartbeats 4000000 in
set_option maxRecDepth 100000 in
theorem lawBestSchedule (v0 : Value) (l0 : List Int) (a1 : Int) (w : World) (h0 : Ints w v0 l0) (h1 : -9223372036854775808 ≤ a1 ∧ a1 ≤ 9223372036854775807) :
    Calls Try.prog 13 #[v0, .int .i64 a1] w fun e w' => e = .returned (.bool true) ∧ Below w.heap.size w w' := by
  have k0 := Lib.hid h0.low
  have f0 := h0
  obtain ⟨A0, c0, rfl, hlc0, hc0, hrd0⟩ := h0.open_
  clear hrd0 h0
  by_cases hbig0 : (1048576 : Int) < (l0.length : Int)
  · go_enter Try.func13, Try.ntmps13
    go_wp2
    go_ret
    exact ⟨rfl, Below.refl _ _⟩
  · skip
    have he_r0 := eqL_self (best l0 a1)
    have he0 := eqL_self l0
    go_enter Try.func13, Try.ntmps13
    go_wp2_with fail
    refine (toIntS_any _ _ _ f0 (by omega)).mono ?_; rintro e w1 ⟨x1, rfl, o1, b1⟩
    replace o1 := Lib.hid o1
    have g1 := grown_of_below b1
    have z1 := g1.size
    replace g1 := Lib.hid g1
    replace b1 := Lib.hid b1
    have t_x1 := Lib.hid o1.out.lt
    go_wp2_with fail
    refine (specBest_any _ _ _ _ o1.out.ints h1).mono ?_; rintro e w2 ⟨r2_0, rfl, o2_0, b2⟩
    replace o2_0 := Lib.hid o2_0
    have g2 := grown_of_below b2
    have z2 := g2.size
    replace g2 := Lib.hid g2
    replace b2 := Lib.hid b2
    have t_r2_0 := Lib.hid o2_0.out.lt
    go_wp2_with fail
    have i1 := f0.bel b1.out
    have i2 := i1.bel b2.out
    refine (toIntS_any _ _ _ i2 (by omega)).mono ?_; rintro e w3 ⟨x3, rfl, o3, b3⟩
    replace o3 := Lib.hid o3
    have g3 := grown_of_below b3
    have z3 := g3.size
    replace g3 := Lib.hid g3
    replace b3 := Lib.hid b3
    have t_x3 := Lib.hid o3.out.lt
    go_wp2_with fail
    refine (implBest_any _ _ _ _ o3.out.ints h1).mono ?_; rintro e w4 ⟨r4_0, rfl, o4_0, b4⟩
    replace o4_0 := Lib.hid o4_0
    have g4 := grown_of_below b4
    have z4 := g4.size
    replace g4 := Lib.hid g4
    replace b4 := Lib.hid b4
    have t_r4_0 := Lib.hid o4_0.out.lt
    go_wp2_with fail
    have q3 := Lib.hid (o2_0.out.bel b3.out)
    have q4 := Lib.hid (q3.out.bel b4.out)
    refine (eqIntS_any _ _ _ _ _ o4_0.out.ints q4.out.ints).mono ?_; rintro e w5 ⟨rfl, b5⟩
    have g5 := grown_of_below b5
    have z5 := g5.size
    replace g5 := Lib.hid g5
    replace b5 := Lib.hid b5
    go_wp2_with fail
    have i5 := i2.bel b3.out
    have i6 := i5.bel b4.out
    have i7 := i6.bel b5.out
    refine (toIntS_any _ _ _ i7 (by omega)).mono ?_; rintro e w6 ⟨x6, rfl, o6, b6⟩
    replace o6 := Lib.hid o6
    have g6 := grown_of_below b6
    have z6 := g6.size
    replace g6 := Lib.hid g6
    replace b6 := Lib.hid b6
    have t_x6 := Lib.hid o6.out.lt
    go_wp2_with fail
    have q8 := Lib.hid (o3.out.bel b4.out)
    have q9 := Lib.hid (q8.out.bel b5.out)
    have q10 := Lib.hid (q9.out.bel b6.out)
    refine (eqIntS_any _ _ _ _ _ q10.out.ints o6.out.ints).mono ?_; rintro e w7 ⟨rfl, b7⟩
    have g7 := grown_of_below b7
    have z7 := g7.size
    replace g7 := Lib.hid g7
    replace b7 := Lib.hid b7
    have hR0 : (best l0 a1).length ≤ 1048576 := by exact Nat.le_trans (best_len _ _) (by omega)
    go_wp2_with fail
    have q11 := Lib.hid (q10.out.bel b7.out)
    refine (markIntS_any _ _ _ _ _ q11.out (by omega) (by omega)).mono ?_; rintro e w8 ⟨rfl, g8, o8⟩
    replace o8 := Lib.hid o8
    have z8 := g8.size
    replace g8 := Lib.hid g8
    go_wp2_with fail
    have q12 := Lib.hid (o4_0.out.bel b5.out)
    have q13 := Lib.hid (q12.out.bel b6.out)
    have q14 := Lib.hid (q13.out.bel b7.out)
    have n_r4_0_x3 : Hid (∀ k, r4_0.ownBlock = some k → x3.ownBlock ≠ some k) := by
      intro k p q; have p1 := t_r4_0.out k p; have q1 := t_x3.out k q; omega
    have q15 := Lib.hid (q14.out.apart g8.out n_r4_0_x3.out)
    have q16 := Lib.hid (q4.out.bel b5.out)
    have q17 := Lib.hid (q16.out.bel b6.out)
    have q18 := Lib.hid (q17.out.bel b7.out)
    have n_r2_0_x3 : Hid (∀ k, r2_0.ownBlock = some k → x3.ownBlock ≠ some k) := by
      intro k p q; have p1 := t_r2_0.out k p; have q1 := t_x3.out k q; omega
    have q19 := Lib.hid (q18.out.apart g8.out n_r2_0_x3.out)
    refine (eqIntS_any _ _ _ _ _ q15.out.ints q19.out.ints).mono ?_; rintro e w9 ⟨rfl, b9⟩
    have g9 := grown_of_below b9
    have z9 := g9.size
    replace g9 := Lib.hid g9
    replace b9 := Lib.hid b9
    go_wp2_with fail
    have q20 := Lib.hid (q15.out.bel b9.out)
    refine (markIntS_any _ _ _ _ _ q20.out (by omega) (by omega)).mono ?_; rintro e w10 ⟨rfl, g10, o10⟩
    replace o10 := Lib.hid o10
    have z10 := g10.size
    replace g10 := Lib.hid g10
    go_wp2_with fail
    refine (heldIntS_any _ _ _ _ o10.out.ints (by omega) (by omega)).mono ?_; rintro e w10 ⟨rfl, rfl⟩
    go_wp2_with fail
    have i21 := i7.bel b6.out
    have i22 := i21.bel b7.out
    have i23 := i22.far g8.out (B := w.heap.size) (fun k p => by have := t_x3.out k p; omega) k0.out
    have i24 := i23.bel b9.out
    have i25 := i24.far g10.out (B := w.heap.size) (fun k p => by have := t_r4_0.out k p; omega) k0.out
    refine (toIntS_any _ _ _ i25 (by omega)).mono ?_; rintro e w11 ⟨x11, rfl, o11, b11⟩
    replace o11 := Lib.hid o11
    have g11 := grown_of_below b11
    have z11 := g11.size
    replace g11 := Lib.hid g11
    replace b11 := Lib.hid b11
    have t_x11 := Lib.hid o11.out.lt
    go_wp2_with fail
    refine (implBest_any _ _ _ _ o11.out.ints h1).mono ?_; rintro e w12 ⟨r12_0, rfl, o12_0, b12⟩
    replace o12_0 := Lib.hid o12_0
    have g12 := grown_of_below b12
    have z12 := g12.size
    replace g12 := Lib.hid g12
    replace b12 := Lib.hid b12
    have t_r12_0 := Lib.hid o12_0.out.lt
    go_wp2_with fail
    have q26 := Lib.hid (q19.out.bel b9.out)
    have n_r2_0_r4_0 : Hid (∀ k, r2_0.ownBlock = some k → r4_0.ownBlock ≠ some k) := by
      intro k p q; have p1 := t_r2_0.out k p; have q1 := t_r4_0.out k q; omega
    have q27 := Lib.hid (q26.out.apart g10.out n_r2_0_r4_0.out)
    have q28 := Lib.hid (q27.out.bel b11.out)
    have q29 := Lib.hid (q28.out.bel b12.out)
    refine (eqIntS_any _ _ _ _ _ o12_0.out.ints q29.out.ints).mono ?_; rintro e w13 ⟨rfl, b13⟩
    have g13 := grown_of_below b13
    have z13 := g13.size
    replace g13 := Lib.hid g13
    replace b13 := Lib.hid b13
    go_wp2_with fail
    have q30 := Lib.hid (o10.out.bel b11.out)
    have q31 := Lib.hid (q30.out.bel b12.out)
    have q32 := Lib.hid (q31.out.bel b13.out)
    refine (heldIntS_any _ _ _ _ q32.out.ints (by omega) (by omega)).mono ?_; rintro e w13 ⟨rfl, rfl⟩
    go_wp2
    go_ret
    exact ⟨rfl, bel_trans (bel_trans (bel_trans (mark_bel (bel_trans (mark_bel (bel_trans (bel_trans (bel_trans (bel_trans (bel_trans (bel_trans (bel_trans (Below.refl _ _) b1.out) b2.out) b3.out) b4.out) b5.out) b6.out) b7.out) g8.out (fun k p => by have := t_x3.out k p; omega)) b9.out) g10.out (fun k p => by have := t_r4_0.out k p; omega)) b11.out) b12.out) b13.out⟩

set_option maxHeartbeats 4000000 in
set_option maxRecDepth 100000 in
theorem lawLeastSpan (v0 : Value) (l0 : List Int) (a1 : Int) (w : World) (h0 : Ints w v0 l0) (h1 : -9223372036854775808 ≤ a1 ∧ a1 ≤ 9223372036854775807) :
    Calls Try.prog 12 #[v0, .int .i64 a1] w fun e w' => e = .returned (.bool true) ∧ Below w.heap.size w w' := by
  have k0 := Lib.hid h0.low
  have f0 := h0
  obtain ⟨A0, c0, rfl, hlc0, hc0, hrd0⟩ := h0.open_
  clear hrd0 h0
  by_cases hbig0 : (1048576 : Int) < (l0.length : Int)
  · go_enter Try.func12, Try.ntmps12
    go_wp2
    go_ret
    exact ⟨rfl, Below.refl _ _⟩
  · skip
    have he0 := eqL_self l0
    go_enter Try.func12, Try.ntmps12
    go_wp2_with fail
    refine (toIntS_any _ _ _ f0 (by omega)).mono ?_; rintro e w1 ⟨x1, rfl, o1, b1⟩
    replace o1 := Lib.hid o1
    have g1 := grown_of_below b1
    have z1 := g1.size
    replace g1 := Lib.hid g1
    replace b1 := Lib.hid b1
    have t_x1 := Lib.hid o1.out.lt
    go_wp2_with fail
    refine (specLeast_any _ _ _ _ o1.out.ints h1).mono ?_; rintro e w2 ⟨rfl, b2⟩
    have g2 := grown_of_below b2
    have z2 := g2.size
    replace g2 := Lib.hid g2
    replace b2 := Lib.hid b2
    go_wp2_with fail
    have i1 := f0.bel b1.out
    have i2 := i1.bel b2.out
    refine (toIntS_any _ _ _ i2 (by omega)).mono ?_; rintro e w3 ⟨x3, rfl, o3, b3⟩
    replace o3 := Lib.hid o3
    have g3 := grown_of_below b3
    have z3 := g3.size
    replace g3 := Lib.hid g3
    replace b3 := Lib.hid b3
    have t_x3 := Lib.hid o3.out.lt
    go_wp2_with fail
    refine (implLeast_any _ _ _ _ o3.out.ints h1).mono ?_; rintro e w4 ⟨rfl, b4⟩
    have g4 := grown_of_below b4
    have z4 := g4.size
    replace g4 := Lib.hid g4
    replace b4 := Lib.hid b4
    go_wp2_with fail
    have i3 := i2.bel b3.out
    have i4 := i3.bel b4.out
    refine (toIntS_any _ _ _ i4 (by omega)).mono ?_; rintro e w5 ⟨x5, rfl, o5, b5⟩
    replace o5 := Lib.hid o5
    have g5 := grown_of_below b5
    have z5 := g5.size
    replace g5 := Lib.hid g5
    replace b5 := Lib.hid b5
    have t_x5 := Lib.hid o5.out.lt
    go_wp2_with fail
    have q5 := Lib.hid (o3.out.bel b4.out)
    have q6 := Lib.hid (q5.out.bel b5.out)
    refine (eqIntS_any _ _ _ _ _ q6.out.ints o5.out.ints).mono ?_; rintro e w6 ⟨rfl, b6⟩
    have g6 := grown_of_below b6
    have z6 := g6.size
    replace g6 := Lib.hid g6
    replace b6 := Lib.hid b6
    go_wp2
    go_ret
    exact ⟨rfl, bel_trans (bel_trans (bel_trans (bel_trans (bel_trans (bel_trans (Below.refl _ _) b1.out) b2.out) b3.out) b4.out) b5.out) b6.out⟩

end Go.Proofs.Ytplalhehdfkipaa
