/-
  The laws FnExactSpanOf, walked.
-/
import Derived.Test.YtplalhehdfkipaaSpan
namespace Go.Proofs.Ytplalhehdfkipaa
open Go.RowKit
set_option linter.unusedVariables false

set_option maxHeartbeats 4000000 in
set_option maxRecDepth 100000 in
theorem lawSpanOf (v0 : Value) (l0 : List Int) (v1 : Value) (l1 : List Int) (a2 : Int) (w : World) (h0 : Ints w v0 l0) (h1 : Ints w v1 l1) (h2 : -9223372036854775808 ≤ a2 ∧ a2 ≤ 9223372036854775807) :
    Calls Try.prog 6 #[v0, v1, .int .i64 a2] w fun e w' => e = .returned (.bool true) ∧ Below w.heap.size w w' := by
  have k0 := Lib.hid h0.low
  have f0 := h0
  obtain ⟨A0, c0, rfl, hlc0, hc0, hrd0⟩ := h0.open_
  clear hrd0 h0
  have k1 := Lib.hid h1.low
  have f1 := h1
  obtain ⟨A1, c1, rfl, hlc1, hc1, hrd1⟩ := h1.open_
  clear hrd1 h1
  by_cases hbig0 : (1048576 : Int) < (l0.length : Int)
  · go_enter Try.func6, Try.ntmps6
    go_wp2
    go_ret
    exact ⟨rfl, Below.refl _ _⟩
  · skip
    by_cases hbig1 : (1048576 : Int) < (l1.length : Int)
    · go_enter Try.func6, Try.ntmps6
      go_wp2
      go_ret
      exact ⟨rfl, Below.refl _ _⟩
    · skip
      have he0 := eqL_self l0
      have he1 := eqL_self l1
      go_enter Try.func6, Try.ntmps6
      go_wp2_with fail
      refine (toIntS_any _ _ _ f0 (by omega)).mono ?_; rintro e w1 ⟨x1, rfl, o1, b1⟩
      replace o1 := Lib.hid o1
      have g1 := grown_of_below b1
      have z1 := g1.size
      replace g1 := Lib.hid g1
      replace b1 := Lib.hid b1
      have t_x1 := Lib.hid o1.out.lt
      go_wp2_with fail
      have i1 := f1.bel b1.out
      refine (toIntS_any _ _ _ i1 (by omega)).mono ?_; rintro e w2 ⟨x2, rfl, o2, b2⟩
      replace o2 := Lib.hid o2
      have g2 := grown_of_below b2
      have z2 := g2.size
      replace g2 := Lib.hid g2
      replace b2 := Lib.hid b2
      have t_x2 := Lib.hid o2.out.lt
      go_wp2_with fail
      have q2 := Lib.hid (o1.out.bel b2.out)
      refine (specSpan_any _ _ _ _ _ _ q2.out.ints o2.out.ints h2).mono ?_; rintro e w3 ⟨rfl, b3⟩
      have g3 := grown_of_below b3
      have z3 := g3.size
      replace g3 := Lib.hid g3
      replace b3 := Lib.hid b3
      go_wp2_with fail
      have i3 := f0.bel b1.out
      have i4 := i3.bel b2.out
      have i5 := i4.bel b3.out
      refine (toIntS_any _ _ _ i5 (by omega)).mono ?_; rintro e w4 ⟨x4, rfl, o4, b4⟩
      replace o4 := Lib.hid o4
      have g4 := grown_of_below b4
      have z4 := g4.size
      replace g4 := Lib.hid g4
      replace b4 := Lib.hid b4
      have t_x4 := Lib.hid o4.out.lt
      go_wp2_with fail
      have i6 := i1.bel b2.out
      have i7 := i6.bel b3.out
      have i8 := i7.bel b4.out
      refine (toIntS_any _ _ _ i8 (by omega)).mono ?_; rintro e w5 ⟨x5, rfl, o5, b5⟩
      replace o5 := Lib.hid o5
      have g5 := grown_of_below b5
      have z5 := g5.size
      replace g5 := Lib.hid g5
      replace b5 := Lib.hid b5
      have t_x5 := Lib.hid o5.out.lt
      go_wp2_with fail
      have q9 := Lib.hid (o4.out.bel b5.out)
      refine (implSpan_any _ _ _ _ _ _ q9.out.ints o5.out.ints h2).mono ?_; rintro e w6 ⟨rfl, b6⟩
      have g6 := grown_of_below b6
      have z6 := g6.size
      replace g6 := Lib.hid g6
      replace b6 := Lib.hid b6
      go_wp2_with fail
      have i10 := i5.bel b4.out
      have i11 := i10.bel b5.out
      have i12 := i11.bel b6.out
      refine (toIntS_any _ _ _ i12 (by omega)).mono ?_; rintro e w7 ⟨x7, rfl, o7, b7⟩
      replace o7 := Lib.hid o7
      have g7 := grown_of_below b7
      have z7 := g7.size
      replace g7 := Lib.hid g7
      replace b7 := Lib.hid b7
      have t_x7 := Lib.hid o7.out.lt
      go_wp2_with fail
      have q13 := Lib.hid (q9.out.bel b6.out)
      have q14 := Lib.hid (q13.out.bel b7.out)
      refine (eqIntS_any _ _ _ _ _ q14.out.ints o7.out.ints).mono ?_; rintro e w8 ⟨rfl, b8⟩
      have g8 := grown_of_below b8
      have z8 := g8.size
      replace g8 := Lib.hid g8
      replace b8 := Lib.hid b8
      go_wp2_with fail
      have i15 := i8.bel b5.out
      have i16 := i15.bel b6.out
      have i17 := i16.bel b7.out
      have i18 := i17.bel b8.out
      refine (toIntS_any _ _ _ i18 (by omega)).mono ?_; rintro e w9 ⟨x9, rfl, o9, b9⟩
      replace o9 := Lib.hid o9
      have g9 := grown_of_below b9
      have z9 := g9.size
      replace g9 := Lib.hid g9
      replace b9 := Lib.hid b9
      have t_x9 := Lib.hid o9.out.lt
      go_wp2_with fail
      have q19 := Lib.hid (o5.out.bel b6.out)
      have q20 := Lib.hid (q19.out.bel b7.out)
      have q21 := Lib.hid (q20.out.bel b8.out)
      have q22 := Lib.hid (q21.out.bel b9.out)
      refine (eqIntS_any _ _ _ _ _ q22.out.ints o9.out.ints).mono ?_; rintro e w10 ⟨rfl, b10⟩
      have g10 := grown_of_below b10
      have z10 := g10.size
      replace g10 := Lib.hid g10
      replace b10 := Lib.hid b10
      go_wp2
      go_ret
      exact ⟨rfl, bel_trans (bel_trans (bel_trans (bel_trans (bel_trans (bel_trans (bel_trans (bel_trans (bel_trans (bel_trans (Below.refl _ _) b1.out) b2.out) b3.out) b4.out) b5.out) b6.out) b7.out) b8.out) b9.out) b10.out⟩

end Go.Proofs.Ytplalhehdfkipaa
