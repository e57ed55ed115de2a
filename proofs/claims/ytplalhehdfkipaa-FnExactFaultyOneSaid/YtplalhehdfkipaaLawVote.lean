/-
  The laws FnExactVote and FnExactFaultyOne, walked.
-/
import Derived.Test.YtplalhehdfkipaaVoteB
namespace Go.Proofs.Ytplalhehdfkipaa
open Go.RowKit
set_option linter.unusedVariables false

theorem voteR_len (a b c : List Int) : (voteR a b c).length ≤ a.length := by
  unfold voteR
  split
  · rw [gen_length]; exact Nat.le_refl _
  · simp

set_option maxHeartbeats 4000000 in
set_option maxRecDepth 100000 in
theorem lawVote (v0 : Value) (l0 : List Int) (v1 : Value) (l1 : List Int) (v2 : Value) (l2 : List Int) (w : World) (h0 : Ints w v0 l0) (h1 : Ints w v1 l1) (h2 : Ints w v2 l2) :
    Calls Try.prog 7 #[v0, v1, v2] w fun e w' => e = .returned (.bool true) ∧ Below w.heap.size w w' := by
  have k0 := Lib.hid h0.low
  have f0 := h0
  obtain ⟨A0, c0, rfl, hlc0, hc0, hrd0⟩ := h0.open_
  clear hrd0 h0
  have k1 := Lib.hid h1.low
  have f1 := h1
  obtain ⟨A1, c1, rfl, hlc1, hc1, hrd1⟩ := h1.open_
  clear hrd1 h1
  have k2 := Lib.hid h2.low
  have f2 := h2
  obtain ⟨A2, c2, rfl, hlc2, hc2, hrd2⟩ := h2.open_
  clear hrd2 h2
  by_cases hbig0 : (1048576 : Int) < (l0.length : Int)
  · go_enter Try.func7, Try.ntmps7
    go_wp2
    go_ret
    exact ⟨rfl, Below.refl _ _⟩
  · skip
    by_cases hbig1 : (1048576 : Int) < (l1.length : Int)
    · go_enter Try.func7, Try.ntmps7
      go_wp2
      go_ret
      exact ⟨rfl, Below.refl _ _⟩
    · skip
      by_cases hbig2 : (1048576 : Int) < (l2.length : Int)
      · go_enter Try.func7, Try.ntmps7
        go_wp2
        go_ret
        exact ⟨rfl, Below.refl _ _⟩
      · skip
        have he_r0 := eqL_self (voteR l0 l1 l2)
        have he0 := eqL_self l0
        have he1 := eqL_self l1
        have he2 := eqL_self l2
        go_enter Try.func7, Try.ntmps7
        go_wp2_with fail
        refine (toIntS_any _ _ _ f0 (by omega)).mono ?_; rintro e w1 ⟨x1, rfl, o1, b1⟩
        replace o1 := Lib.hid o1
        have g1 := grown_of_below b1
        have z1 := g1.size
        replace g1 := Lib.hid g1
        replace b1 := Lib.hid b1
        have t_x1 := Lib.hid o1.out.lt
        go_wp2_with fail
        have i1 := f1.bel b1.out
        refine (toIntS_any _ _ _ i1 (by omega)).mono ?_; rintro e w2 ⟨x2, rfl, o2, b2⟩
        replace o2 := Lib.hid o2
        have g2 := grown_of_below b2
        have z2 := g2.size
        replace g2 := Lib.hid g2
        replace b2 := Lib.hid b2
        have t_x2 := Lib.hid o2.out.lt
        go_wp2_with fail
        have i2 := f2.bel b1.out
        have i3 := i2.bel b2.out
        refine (toIntS_any _ _ _ i3 (by omega)).mono ?_; rintro e w3 ⟨x3, rfl, o3, b3⟩
        replace o3 := Lib.hid o3
        have g3 := grown_of_below b3
        have z3 := g3.size
        replace g3 := Lib.hid g3
        replace b3 := Lib.hid b3
        have t_x3 := Lib.hid o3.out.lt
        go_wp2_with fail
        have q4 := Lib.hid (o1.out.bel b2.out)
        have q5 := Lib.hid (q4.out.bel b3.out)
        have q6 := Lib.hid (o2.out.bel b3.out)
        refine (specVote_any _ _ _ _ _ _ _ q5.out.ints q6.out.ints o3.out.ints).mono ?_; rintro e w4 ⟨r4_0, rfl, o4_0, b4⟩
        replace o4_0 := Lib.hid o4_0
        have g4 := grown_of_below b4
        have z4 := g4.size
        replace g4 := Lib.hid g4
        replace b4 := Lib.hid b4
        have t_r4_0 := Lib.hid o4_0.out.lt
        go_wp2_with fail
        have i7 := f0.bel b1.out
        have i8 := i7.bel b2.out
        have i9 := i8.bel b3.out
        have i10 := i9.bel b4.out
        refine (toIntS_any _ _ _ i10 (by omega)).mono ?_; rintro e w5 ⟨x5, rfl, o5, b5⟩
        replace o5 := Lib.hid o5
        have g5 := grown_of_below b5
        have z5 := g5.size
        replace g5 := Lib.hid g5
        replace b5 := Lib.hid b5
        have t_x5 := Lib.hid o5.out.lt
        go_wp2_with fail
        have i11 := i1.bel b2.out
        have i12 := i11.bel b3.out
        have i13 := i12.bel b4.out
        have i14 := i13.bel b5.out
        refine (toIntS_any _ _ _ i14 (by omega)).mono ?_; rintro e w6 ⟨x6, rfl, o6, b6⟩
        replace o6 := Lib.hid o6
        have g6 := grown_of_below b6
        have z6 := g6.size
        replace g6 := Lib.hid g6
        replace b6 := Lib.hid b6
        have t_x6 := Lib.hid o6.out.lt
        go_wp2_with fail
        have i15 := i3.bel b3.out
        have i16 := i15.bel b4.out
        have i17 := i16.bel b5.out
        have i18 := i17.bel b6.out
        refine (toIntS_any _ _ _ i18 (by omega)).mono ?_; rintro e w7 ⟨x7, rfl, o7, b7⟩
        replace o7 := Lib.hid o7
        have g7 := grown_of_below b7
        have z7 := g7.size
        replace g7 := Lib.hid g7
        replace b7 := Lib.hid b7
        have t_x7 := Lib.hid o7.out.lt
        go_wp2_with fail
        have q19 := Lib.hid (o5.out.bel b6.out)
        have q20 := Lib.hid (q19.out.bel b7.out)
        have q21 := Lib.hid (o6.out.bel b7.out)
        refine (implVote_any _ _ _ _ _ _ _ q20.out.ints q21.out.ints o7.out.ints).mono ?_; rintro e w8 ⟨r8_0, rfl, o8_0, b8⟩
        replace o8_0 := Lib.hid o8_0
        have g8 := grown_of_below b8
        have z8 := g8.size
        replace g8 := Lib.hid g8
        replace b8 := Lib.hid b8
        have t_r8_0 := Lib.hid o8_0.out.lt
        go_wp2_with fail
        have q22 := Lib.hid (o4_0.out.bel b5.out)
        have q23 := Lib.hid (q22.out.bel b6.out)
        have q24 := Lib.hid (q23.out.bel b7.out)
        have q25 := Lib.hid (q24.out.bel b8.out)
        refine (eqIntS_any _ _ _ _ _ o8_0.out.ints q25.out.ints).mono ?_; rintro e w9 ⟨rfl, b9⟩
        have g9 := grown_of_below b9
        have z9 := g9.size
        replace g9 := Lib.hid g9
        replace b9 := Lib.hid b9
        go_wp2_with fail
        have i26 := i10.bel b5.out
        have i27 := i26.bel b6.out
        have i28 := i27.bel b7.out
        have i29 := i28.bel b8.out
        have i30 := i29.bel b9.out
        refine (toIntS_any _ _ _ i30 (by omega)).mono ?_; rintro e w10 ⟨x10, rfl, o10, b10⟩
        replace o10 := Lib.hid o10
        have g10 := grown_of_below b10
        have z10 := g10.size
        replace g10 := Lib.hid g10
        replace b10 := Lib.hid b10
        have t_x10 := Lib.hid o10.out.lt
        go_wp2_with fail
        have q31 := Lib.hid (q20.out.bel b8.out)
        have q32 := Lib.hid (q31.out.bel b9.out)
        have q33 := Lib.hid (q32.out.bel b10.out)
        refine (eqIntS_any _ _ _ _ _ q33.out.ints o10.out.ints).mono ?_; rintro e w11 ⟨rfl, b11⟩
        have g11 := grown_of_below b11
        have z11 := g11.size
        replace g11 := Lib.hid g11
        replace b11 := Lib.hid b11
        go_wp2_with fail
        have i34 := i14.bel b6.out
        have i35 := i34.bel b7.out
        have i36 := i35.bel b8.out
        have i37 := i36.bel b9.out
        have i38 := i37.bel b10.out
        have i39 := i38.bel b11.out
        refine (toIntS_any _ _ _ i39 (by omega)).mono ?_; rintro e w12 ⟨x12, rfl, o12, b12⟩
        replace o12 := Lib.hid o12
        have g12 := grown_of_below b12
        have z12 := g12.size
        replace g12 := Lib.hid g12
        replace b12 := Lib.hid b12
        have t_x12 := Lib.hid o12.out.lt
        go_wp2_with fail
        have q40 := Lib.hid (q21.out.bel b8.out)
        have q41 := Lib.hid (q40.out.bel b9.out)
        have q42 := Lib.hid (q41.out.bel b10.out)
        have q43 := Lib.hid (q42.out.bel b11.out)
        have q44 := Lib.hid (q43.out.bel b12.out)
        refine (eqIntS_any _ _ _ _ _ q44.out.ints o12.out.ints).mono ?_; rintro e w13 ⟨rfl, b13⟩
        have g13 := grown_of_below b13
        have z13 := g13.size
        replace g13 := Lib.hid g13
        replace b13 := Lib.hid b13
        go_wp2_with fail
        have i45 := i18.bel b7.out
        have i46 := i45.bel b8.out
        have i47 := i46.bel b9.out
        have i48 := i47.bel b10.out
        have i49 := i48.bel b11.out
        have i50 := i49.bel b12.out
        have i51 := i50.bel b13.out
        refine (toIntS_any _ _ _ i51 (by omega)).mono ?_; rintro e w14 ⟨x14, rfl, o14, b14⟩
        replace o14 := Lib.hid o14
        have g14 := grown_of_below b14
        have z14 := g14.size
        replace g14 := Lib.hid g14
        replace b14 := Lib.hid b14
        have t_x14 := Lib.hid o14.out.lt
        go_wp2_with fail
        have q52 := Lib.hid (o7.out.bel b8.out)
        have q53 := Lib.hid (q52.out.bel b9.out)
        have q54 := Lib.hid (q53.out.bel b10.out)
        have q55 := Lib.hid (q54.out.bel b11.out)
        have q56 := Lib.hid (q55.out.bel b12.out)
        have q57 := Lib.hid (q56.out.bel b13.out)
        have q58 := Lib.hid (q57.out.bel b14.out)
        refine (eqIntS_any _ _ _ _ _ q58.out.ints o14.out.ints).mono ?_; rintro e w15 ⟨rfl, b15⟩
        have g15 := grown_of_below b15
        have z15 := g15.size
        replace g15 := Lib.hid g15
        replace b15 := Lib.hid b15
        have hR0 : (voteR l0 l1 l2).length ≤ 1048576 := by exact Nat.le_trans (voteR_len _ _ _) (by omega)
        go_wp2_with fail
        have q59 := Lib.hid (q33.out.bel b11.out)
        have q60 := Lib.hid (q59.out.bel b12.out)
        have q61 := Lib.hid (q60.out.bel b13.out)
        have q62 := Lib.hid (q61.out.bel b14.out)
        have q63 := Lib.hid (q62.out.bel b15.out)
        refine (markIntS_any _ _ _ _ _ q63.out (by omega) (by omega)).mono ?_; rintro e w16 ⟨rfl, g16, o16⟩
        replace o16 := Lib.hid o16
        have z16 := g16.size
        replace g16 := Lib.hid g16
        go_wp2_with fail
        have q64 := Lib.hid (q44.out.bel b13.out)
        have q65 := Lib.hid (q64.out.bel b14.out)
        have q66 := Lib.hid (q65.out.bel b15.out)
        have n_x6_x5 : Hid (∀ k, x6.ownBlock = some k → x5.ownBlock ≠ some k) := by
          intro k p q; have p1 := t_x6.out k p; have q1 := t_x5.out k q; omega
        have q67 := Lib.hid (q66.out.apart g16.out n_x6_x5.out)
        refine (markIntS_any _ _ _ _ _ q67.out (by omega) (by omega)).mono ?_; rintro e w17 ⟨rfl, g17, o17⟩
        replace o17 := Lib.hid o17
        have z17 := g17.size
        replace g17 := Lib.hid g17
        go_wp2_with fail
        have q68 := Lib.hid (q58.out.bel b15.out)
        have n_x7_x5 : Hid (∀ k, x7.ownBlock = some k → x5.ownBlock ≠ some k) := by
          intro k p q; have p1 := t_x7.out k p; have q1 := t_x5.out k q; omega
        have q69 := Lib.hid (q68.out.apart g16.out n_x7_x5.out)
        have n_x7_x6 : Hid (∀ k, x7.ownBlock = some k → x6.ownBlock ≠ some k) := by
          intro k p q; have p1 := t_x7.out k p; have q1 := t_x6.out k q; omega
        have q70 := Lib.hid (q69.out.apart g17.out n_x7_x6.out)
        refine (markIntS_any _ _ _ _ _ q70.out (by omega) (by omega)).mono ?_; rintro e w18 ⟨rfl, g18, o18⟩
        replace o18 := Lib.hid o18
        have z18 := g18.size
        replace g18 := Lib.hid g18
        go_wp2_with fail
        have q71 := Lib.hid (o8_0.out.bel b9.out)
        have q72 := Lib.hid (q71.out.bel b10.out)
        have q73 := Lib.hid (q72.out.bel b11.out)
        have q74 := Lib.hid (q73.out.bel b12.out)
        have q75 := Lib.hid (q74.out.bel b13.out)
        have q76 := Lib.hid (q75.out.bel b14.out)
        have q77 := Lib.hid (q76.out.bel b15.out)
        have n_r8_0_x5 : Hid (∀ k, r8_0.ownBlock = some k → x5.ownBlock ≠ some k) := by
          intro k p q; have p1 := t_r8_0.out k p; have q1 := t_x5.out k q; omega
        have q78 := Lib.hid (q77.out.apart g16.out n_r8_0_x5.out)
        have n_r8_0_x6 : Hid (∀ k, r8_0.ownBlock = some k → x6.ownBlock ≠ some k) := by
          intro k p q; have p1 := t_r8_0.out k p; have q1 := t_x6.out k q; omega
        have q79 := Lib.hid (q78.out.apart g17.out n_r8_0_x6.out)
        have n_r8_0_x7 : Hid (∀ k, r8_0.ownBlock = some k → x7.ownBlock ≠ some k) := by
          intro k p q; have p1 := t_r8_0.out k p; have q1 := t_x7.out k q; omega
        have q80 := Lib.hid (q79.out.apart g18.out n_r8_0_x7.out)
        have q81 := Lib.hid (q25.out.bel b9.out)
        have q82 := Lib.hid (q81.out.bel b10.out)
        have q83 := Lib.hid (q82.out.bel b11.out)
        have q84 := Lib.hid (q83.out.bel b12.out)
        have q85 := Lib.hid (q84.out.bel b13.out)
        have q86 := Lib.hid (q85.out.bel b14.out)
        have q87 := Lib.hid (q86.out.bel b15.out)
        have n_r4_0_x5 : Hid (∀ k, r4_0.ownBlock = some k → x5.ownBlock ≠ some k) := by
          intro k p q; have p1 := t_r4_0.out k p; have q1 := t_x5.out k q; omega
        have q88 := Lib.hid (q87.out.apart g16.out n_r4_0_x5.out)
        have n_r4_0_x6 : Hid (∀ k, r4_0.ownBlock = some k → x6.ownBlock ≠ some k) := by
          intro k p q; have p1 := t_r4_0.out k p; have q1 := t_x6.out k q; omega
        have q89 := Lib.hid (q88.out.apart g17.out n_r4_0_x6.out)
        have n_r4_0_x7 : Hid (∀ k, r4_0.ownBlock = some k → x7.ownBlock ≠ some k) := by
          intro k p q; have p1 := t_r4_0.out k p; have q1 := t_x7.out k q; omega
        have q90 := Lib.hid (q89.out.apart g18.out n_r4_0_x7.out)
        refine (eqIntS_any _ _ _ _ _ q80.out.ints q90.out.ints).mono ?_; rintro e w19 ⟨rfl, b19⟩
        have g19 := grown_of_below b19
        have z19 := g19.size
        replace g19 := Lib.hid g19
        replace b19 := Lib.hid b19
        go_wp2_with fail
        have q91 := Lib.hid (q80.out.bel b19.out)
        refine (markIntS_any _ _ _ _ _ q91.out (by omega) (by omega)).mono ?_; rintro e w20 ⟨rfl, g20, o20⟩
        replace o20 := Lib.hid o20
        have z20 := g20.size
        replace g20 := Lib.hid g20
        go_wp2_with fail
        refine (heldIntS_any _ _ _ _ o20.out.ints (by omega) (by omega)).mono ?_; rintro e w20 ⟨rfl, rfl⟩
        go_wp2_with fail
        have i92 := i30.bel b10.out
        have i93 := i92.bel b11.out
        have i94 := i93.bel b12.out
        have i95 := i94.bel b13.out
        have i96 := i95.bel b14.out
        have i97 := i96.bel b15.out
        have i98 := i97.far g16.out (B := w.heap.size) (fun k p => by have := t_x5.out k p; omega) k0.out
        have i99 := i98.far g17.out (B := w.heap.size) (fun k p => by have := t_x6.out k p; omega) k0.out
        have i100 := i99.far g18.out (B := w.heap.size) (fun k p => by have := t_x7.out k p; omega) k0.out
        have i101 := i100.bel b19.out
        have i102 := i101.far g20.out (B := w.heap.size) (fun k p => by have := t_r8_0.out k p; omega) k0.out
        refine (toIntS_any _ _ _ i102 (by omega)).mono ?_; rintro e w21 ⟨x21, rfl, o21, b21⟩
        replace o21 := Lib.hid o21
        have g21 := grown_of_below b21
        have z21 := g21.size
        replace g21 := Lib.hid g21
        replace b21 := Lib.hid b21
        have t_x21 := Lib.hid o21.out.lt
        go_wp2_with fail
        have i103 := i39.bel b12.out
        have i104 := i103.bel b13.out
        have i105 := i104.bel b14.out
        have i106 := i105.bel b15.out
        have i107 := i106.far g16.out (B := w.heap.size) (fun k p => by have := t_x5.out k p; omega) k1.out
        have i108 := i107.far g17.out (B := w.heap.size) (fun k p => by have := t_x6.out k p; omega) k1.out
        have i109 := i108.far g18.out (B := w.heap.size) (fun k p => by have := t_x7.out k p; omega) k1.out
        have i110 := i109.bel b19.out
        have i111 := i110.far g20.out (B := w.heap.size) (fun k p => by have := t_r8_0.out k p; omega) k1.out
        have i112 := i111.bel b21.out
        refine (toIntS_any _ _ _ i112 (by omega)).mono ?_; rintro e w22 ⟨x22, rfl, o22, b22⟩
        replace o22 := Lib.hid o22
        have g22 := grown_of_below b22
        have z22 := g22.size
        replace g22 := Lib.hid g22
        replace b22 := Lib.hid b22
        have t_x22 := Lib.hid o22.out.lt
        go_wp2_with fail
        have i113 := i51.bel b14.out
        have i114 := i113.bel b15.out
        have i115 := i114.far g16.out (B := w.heap.size) (fun k p => by have := t_x5.out k p; omega) k2.out
        have i116 := i115.far g17.out (B := w.heap.size) (fun k p => by have := t_x6.out k p; omega) k2.out
        have i117 := i116.far g18.out (B := w.heap.size) (fun k p => by have := t_x7.out k p; omega) k2.out
        have i118 := i117.bel b19.out
        have i119 := i118.far g20.out (B := w.heap.size) (fun k p => by have := t_r8_0.out k p; omega) k2.out
        have i120 := i119.bel b21.out
        have i121 := i120.bel b22.out
        refine (toIntS_any _ _ _ i121 (by omega)).mono ?_; rintro e w23 ⟨x23, rfl, o23, b23⟩
        replace o23 := Lib.hid o23
        have g23 := grown_of_below b23
        have z23 := g23.size
        replace g23 := Lib.hid g23
        replace b23 := Lib.hid b23
        have t_x23 := Lib.hid o23.out.lt
        go_wp2_with fail
        have q122 := Lib.hid (o21.out.bel b22.out)
        have q123 := Lib.hid (q122.out.bel b23.out)
        have q124 := Lib.hid (o22.out.bel b23.out)
        refine (implVote_any _ _ _ _ _ _ _ q123.out.ints q124.out.ints o23.out.ints).mono ?_; rintro e w24 ⟨r24_0, rfl, o24_0, b24⟩
        replace o24_0 := Lib.hid o24_0
        have g24 := grown_of_below b24
        have z24 := g24.size
        replace g24 := Lib.hid g24
        replace b24 := Lib.hid b24
        have t_r24_0 := Lib.hid o24_0.out.lt
        go_wp2_with fail
        have q125 := Lib.hid (q90.out.bel b19.out)
        have n_r4_0_r8_0 : Hid (∀ k, r4_0.ownBlock = some k → r8_0.ownBlock ≠ some k) := by
          intro k p q; have p1 := t_r4_0.out k p; have q1 := t_r8_0.out k q; omega
        have q126 := Lib.hid (q125.out.apart g20.out n_r4_0_r8_0.out)
        have q127 := Lib.hid (q126.out.bel b21.out)
        have q128 := Lib.hid (q127.out.bel b22.out)
        have q129 := Lib.hid (q128.out.bel b23.out)
        have q130 := Lib.hid (q129.out.bel b24.out)
        refine (eqIntS_any _ _ _ _ _ o24_0.out.ints q130.out.ints).mono ?_; rintro e w25 ⟨rfl, b25⟩
        have g25 := grown_of_below b25
        have z25 := g25.size
        replace g25 := Lib.hid g25
        replace b25 := Lib.hid b25
        go_wp2_with fail
        have q131 := Lib.hid (o20.out.bel b21.out)
        have q132 := Lib.hid (q131.out.bel b22.out)
        have q133 := Lib.hid (q132.out.bel b23.out)
        have q134 := Lib.hid (q133.out.bel b24.out)
        have q135 := Lib.hid (q134.out.bel b25.out)
        refine (heldIntS_any _ _ _ _ q135.out.ints (by omega) (by omega)).mono ?_; rintro e w25 ⟨rfl, rfl⟩
        go_wp2
        go_ret
        exact ⟨rfl, bel_trans (bel_trans (bel_trans (bel_trans (bel_trans (mark_bel (bel_trans (mark_bel (mark_bel (mark_bel (bel_trans (bel_trans (bel_trans (bel_trans (bel_trans (bel_trans (bel_trans (bel_trans (bel_trans (bel_trans (bel_trans (bel_trans (bel_trans (bel_trans (bel_trans (Below.refl _ _) b1.out) b2.out) b3.out) b4.out) b5.out) b6.out) b7.out) b8.out) b9.out) b10.out) b11.out) b12.out) b13.out) b14.out) b15.out) g16.out (fun k p => by have := t_x5.out k p; omega)) g17.out (fun k p => by have := t_x6.out k p; omega)) g18.out (fun k p => by have := t_x7.out k p; omega)) b19.out) g20.out (fun k p => by have := t_r8_0.out k p; omega)) b21.out) b22.out) b23.out) b24.out) b25.out⟩

set_option maxHeartbeats 4000000 in
set_option maxRecDepth 100000 in
theorem lawFaultyOne (v0 : Value) (l0 : List Int) (v1 : Value) (l1 : List Int) (v2 : Value) (l2 : List Int) (w : World) (h0 : Ints w v0 l0) (h1 : Ints w v1 l1) (h2 : Ints w v2 l2) :
    Calls Try.prog 8 #[v0, v1, v2] w fun e w' => e = .returned (.bool true) ∧ Below w.heap.size w w' := by
  have k0 := Lib.hid h0.low
  have f0 := h0
  obtain ⟨A0, c0, rfl, hlc0, hc0, hrd0⟩ := h0.open_
  clear hrd0 h0
  have k1 := Lib.hid h1.low
  have f1 := h1
  obtain ⟨A1, c1, rfl, hlc1, hc1, hrd1⟩ := h1.open_
  clear hrd1 h1
  have k2 := Lib.hid h2.low
  have f2 := h2
  obtain ⟨A2, c2, rfl, hlc2, hc2, hrd2⟩ := h2.open_
  clear hrd2 h2
  by_cases hbig0 : (1048576 : Int) < (l0.length : Int)
  · go_enter Try.func8, Try.ntmps8
    go_wp2
    go_ret
    exact ⟨rfl, Below.refl _ _⟩
  · skip
    by_cases hbig1 : (1048576 : Int) < (l1.length : Int)
    · go_enter Try.func8, Try.ntmps8
      go_wp2
      go_ret
      exact ⟨rfl, Below.refl _ _⟩
    · skip
      by_cases hbig2 : (1048576 : Int) < (l2.length : Int)
      · go_enter Try.func8, Try.ntmps8
        go_wp2
        go_ret
        exact ⟨rfl, Below.refl _ _⟩
      · skip
        have he0 := eqL_self l0
        have he1 := eqL_self l1
        have he2 := eqL_self l2
        go_enter Try.func8, Try.ntmps8
        go_wp2_with fail
        refine (toIntS_any _ _ _ f0 (by omega)).mono ?_; rintro e w1 ⟨x1, rfl, o1, b1⟩
        replace o1 := Lib.hid o1
        have g1 := grown_of_below b1
        have z1 := g1.size
        replace g1 := Lib.hid g1
        replace b1 := Lib.hid b1
        have t_x1 := Lib.hid o1.out.lt
        go_wp2_with fail
        have i1 := f1.bel b1.out
        refine (toIntS_any _ _ _ i1 (by omega)).mono ?_; rintro e w2 ⟨x2, rfl, o2, b2⟩
        replace o2 := Lib.hid o2
        have g2 := grown_of_below b2
        have z2 := g2.size
        replace g2 := Lib.hid g2
        replace b2 := Lib.hid b2
        have t_x2 := Lib.hid o2.out.lt
        go_wp2_with fail
        have i2 := f2.bel b1.out
        have i3 := i2.bel b2.out
        refine (toIntS_any _ _ _ i3 (by omega)).mono ?_; rintro e w3 ⟨x3, rfl, o3, b3⟩
        replace o3 := Lib.hid o3
        have g3 := grown_of_below b3
        have z3 := g3.size
        replace g3 := Lib.hid g3
        replace b3 := Lib.hid b3
        have t_x3 := Lib.hid o3.out.lt
        go_wp2_with fail
        have q4 := Lib.hid (o1.out.bel b2.out)
        have q5 := Lib.hid (q4.out.bel b3.out)
        have q6 := Lib.hid (o2.out.bel b3.out)
        refine (specFaulty_any _ _ _ _ _ _ _ q5.out.ints q6.out.ints o3.out.ints).mono ?_; rintro e w4 ⟨rfl, b4⟩
        have g4 := grown_of_below b4
        have z4 := g4.size
        replace g4 := Lib.hid g4
        replace b4 := Lib.hid b4
        go_wp2_with fail
        have i7 := f0.bel b1.out
        have i8 := i7.bel b2.out
        have i9 := i8.bel b3.out
        have i10 := i9.bel b4.out
        refine (toIntS_any _ _ _ i10 (by omega)).mono ?_; rintro e w5 ⟨x5, rfl, o5, b5⟩
        replace o5 := Lib.hid o5
        have g5 := grown_of_below b5
        have z5 := g5.size
        replace g5 := Lib.hid g5
        replace b5 := Lib.hid b5
        have t_x5 := Lib.hid o5.out.lt
        go_wp2_with fail
        have i11 := i1.bel b2.out
        have i12 := i11.bel b3.out
        have i13 := i12.bel b4.out
        have i14 := i13.bel b5.out
        refine (toIntS_any _ _ _ i14 (by omega)).mono ?_; rintro e w6 ⟨x6, rfl, o6, b6⟩
        replace o6 := Lib.hid o6
        have g6 := grown_of_below b6
        have z6 := g6.size
        replace g6 := Lib.hid g6
        replace b6 := Lib.hid b6
        have t_x6 := Lib.hid o6.out.lt
        go_wp2_with fail
        have i15 := i3.bel b3.out
        have i16 := i15.bel b4.out
        have i17 := i16.bel b5.out
        have i18 := i17.bel b6.out
        refine (toIntS_any _ _ _ i18 (by omega)).mono ?_; rintro e w7 ⟨x7, rfl, o7, b7⟩
        replace o7 := Lib.hid o7
        have g7 := grown_of_below b7
        have z7 := g7.size
        replace g7 := Lib.hid g7
        replace b7 := Lib.hid b7
        have t_x7 := Lib.hid o7.out.lt
        go_wp2_with fail
        have q19 := Lib.hid (o5.out.bel b6.out)
        have q20 := Lib.hid (q19.out.bel b7.out)
        have q21 := Lib.hid (o6.out.bel b7.out)
        refine (implFaulty_any _ _ _ _ _ _ _ q20.out.ints q21.out.ints o7.out.ints).mono ?_; rintro e w8 ⟨rfl, b8⟩
        have g8 := grown_of_below b8
        have z8 := g8.size
        replace g8 := Lib.hid g8
        replace b8 := Lib.hid b8
        go_wp2_with fail
        have i22 := i10.bel b5.out
        have i23 := i22.bel b6.out
        have i24 := i23.bel b7.out
        have i25 := i24.bel b8.out
        refine (toIntS_any _ _ _ i25 (by omega)).mono ?_; rintro e w9 ⟨x9, rfl, o9, b9⟩
        replace o9 := Lib.hid o9
        have g9 := grown_of_below b9
        have z9 := g9.size
        replace g9 := Lib.hid g9
        replace b9 := Lib.hid b9
        have t_x9 := Lib.hid o9.out.lt
        go_wp2_with fail
        have q26 := Lib.hid (q20.out.bel b8.out)
        have q27 := Lib.hid (q26.out.bel b9.out)
        refine (eqIntS_any _ _ _ _ _ q27.out.ints o9.out.ints).mono ?_; rintro e w10 ⟨rfl, b10⟩
        have g10 := grown_of_below b10
        have z10 := g10.size
        replace g10 := Lib.hid g10
        replace b10 := Lib.hid b10
        go_wp2_with fail
        have i28 := i14.bel b6.out
        have i29 := i28.bel b7.out
        have i30 := i29.bel b8.out
        have i31 := i30.bel b9.out
        have i32 := i31.bel b10.out
        refine (toIntS_any _ _ _ i32 (by omega)).mono ?_; rintro e w11 ⟨x11, rfl, o11, b11⟩
        replace o11 := Lib.hid o11
        have g11 := grown_of_below b11
        have z11 := g11.size
        replace g11 := Lib.hid g11
        replace b11 := Lib.hid b11
        have t_x11 := Lib.hid o11.out.lt
        go_wp2_with fail
        have q33 := Lib.hid (q21.out.bel b8.out)
        have q34 := Lib.hid (q33.out.bel b9.out)
        have q35 := Lib.hid (q34.out.bel b10.out)
        have q36 := Lib.hid (q35.out.bel b11.out)
        refine (eqIntS_any _ _ _ _ _ q36.out.ints o11.out.ints).mono ?_; rintro e w12 ⟨rfl, b12⟩
        have g12 := grown_of_below b12
        have z12 := g12.size
        replace g12 := Lib.hid g12
        replace b12 := Lib.hid b12
        go_wp2_with fail
        have i37 := i18.bel b7.out
        have i38 := i37.bel b8.out
        have i39 := i38.bel b9.out
        have i40 := i39.bel b10.out
        have i41 := i40.bel b11.out
        have i42 := i41.bel b12.out
        refine (toIntS_any _ _ _ i42 (by omega)).mono ?_; rintro e w13 ⟨x13, rfl, o13, b13⟩
        replace o13 := Lib.hid o13
        have g13 := grown_of_below b13
        have z13 := g13.size
        replace g13 := Lib.hid g13
        replace b13 := Lib.hid b13
        have t_x13 := Lib.hid o13.out.lt
        go_wp2_with fail
        have q43 := Lib.hid (o7.out.bel b8.out)
        have q44 := Lib.hid (q43.out.bel b9.out)
        have q45 := Lib.hid (q44.out.bel b10.out)
        have q46 := Lib.hid (q45.out.bel b11.out)
        have q47 := Lib.hid (q46.out.bel b12.out)
        have q48 := Lib.hid (q47.out.bel b13.out)
        refine (eqIntS_any _ _ _ _ _ q48.out.ints o13.out.ints).mono ?_; rintro e w14 ⟨rfl, b14⟩
        have g14 := grown_of_below b14
        have z14 := g14.size
        replace g14 := Lib.hid g14
        replace b14 := Lib.hid b14
        go_wp2
        go_ret
        exact ⟨rfl, bel_trans (bel_trans (bel_trans (bel_trans (bel_trans (bel_trans (bel_trans (bel_trans (bel_trans (bel_trans (bel_trans (bel_trans (bel_trans (bel_trans (Below.refl _ _) b1.out) b2.out) b3.out) b4.out) b5.out) b6.out) b7.out) b8.out) b9.out) b10.out) b11.out) b12.out) b13.out) b14.out⟩

end Go.Proofs.Ytplalhehdfkipaa
