/-
  The laws FnInterleave and FnDeal, walked.
-/
import Derived.Test.YtplalhehdfkipaaDeal
import Derived.Test.YtplalhehdfkipaaDrawA
namespace Go.Proofs.Ytplalhehdfkipaa
open Go.RowKit
set_option linter.unusedVariables false

set_option maxHeartbeats 2000000 in
theorem lawInterleave (v : Value) (code : List Int) (w : World) (hv : Bytes w v code) :
    Calls Try.prog 5 #[v] w fun e w' => e = .returned (.bool true) ∧ Below w.heap.size w w' := by
  have HV := Lib.hid hv
  obtain ⟨A, c, rfl, hlc, hc, hrd⟩ := hv.open_
  clear hrd hv
  by_cases hbig : (1048576 : Int) < (code.length : Int)
  · go_enter Try.func5, Try.ntmps5
    go_wp2
    go_ret
    exact ⟨rfl, Below.refl _ _⟩
  · go_enter Try.func5, Try.ntmps5
    go_wp2_with fail
    refine (drawInterleave_any _ _ _ HV.out).mono ?_; rintro e w1 ⟨va, vb, a, b, rfl, ha, hb, la, lb, b1⟩
    have H1 := Lib.hid (And.intro ha (And.intro hb b1))
    clear ha hb b1
    obtain ⟨A1, c1, rfl, hlc1, hc1, hrd1⟩ := H1.out.1.open_
    obtain ⟨A2, c2, rfl, hlc2, hc2, hrd2⟩ := H1.out.2.1.open_
    clear hrd1 hrd2
    cases hok : interOk a b
    · have HN := Lib.hid (inter_no (by rw [hok]; simp) : inter a b = [])
      have he := eqL_self (inter a b)
      go_wp2_with fail
      refine (implInter_any _ _ a b _ H1.out.1 H1.out.2.1 (by omega) (by omega)).mono ?_; rintro e w2 ⟨r2, rfl, o2, b2⟩
      have H2 := Lib.hid (And.intro o2 (And.intro (H1.out.1.bel b2) (And.intro (H1.out.2.1.bel b2) (bel_trans H1.out.2.2 b2))))
      clear o2 b2
      go_wp2_with fail
      refine (specInter_any _ _ a b _ H2.out.2.1 H2.out.2.2.1 (by omega) (by omega)).mono ?_; rintro e w3 ⟨r3, rfl, o3, b3⟩
      have H3 := Lib.hid (And.intro (H2.out.1.bel b3) (And.intro o3 (bel_trans H2.out.2.2.2 b3)))
      clear o3 b3
      go_wp2_with fail
      refine (deInts_any _ _ _ _ _ H3.out.1.ints H3.out.2.1.ints).mono ?_; rintro e w4 ⟨rfl, b4⟩
      have H4 := Lib.hid (And.intro (H3.out.1.bel b4) (And.intro (H3.out.2.1.bel b4) (bel_trans H3.out.2.2 b4)))
      clear b4
      go_wp2_with fail
      refine (deInts_any _ _ _ _ _ H4.out.1.ints H4.out.2.1.ints).mono ?_; rintro e w5 ⟨rfl, b5⟩
      go_wp2
      go_ret
      exact ⟨rfl, bel_trans H4.out.2.2 b5⟩
    · have he := eqL_self (inter a b)
      have HD := Lib.hid (And.intro (deal_inter hok) (show (inter a b).length = a.length + b.length by rw [inter_yes hok, gen_length]))
      have hea := eqL_self a
      have heb := eqL_self b
      go_wp2_with fail
      refine (implInter_any _ _ a b _ H1.out.1 H1.out.2.1 (by omega) (by omega)).mono ?_; rintro e w2 ⟨r2, rfl, o2, b2⟩
      have H2 := Lib.hid (And.intro o2 (And.intro (H1.out.1.bel b2) (And.intro (H1.out.2.1.bel b2) (bel_trans H1.out.2.2 b2))))
      clear o2 b2
      obtain ⟨A3, c3, rfl, hlc3, hc3, hrd3⟩ := H2.out.1.ints.open_
      clear hrd3
      go_wp2_with fail
      refine (specInter_any _ _ a b _ H2.out.2.1 H2.out.2.2.1 (by omega) (by omega)).mono ?_; rintro e w3 ⟨r3, rfl, o3, b3⟩
      have H3 := Lib.hid (And.intro (H2.out.1.bel b3) (And.intro o3 (And.intro (H2.out.2.1.bel b3) (And.intro (H2.out.2.2.1.bel b3) (bel_trans H2.out.2.2.2 b3)))))
      clear o3 b3
      go_wp2_with fail
      refine (deInts_any _ _ _ _ _ H3.out.1.ints H3.out.2.1.ints).mono ?_; rintro e w4 ⟨rfl, b4⟩
      have H4 := Lib.hid (And.intro (H3.out.1.bel b4) (And.intro (H3.out.2.2.1.bel b4) (And.intro (H3.out.2.2.2.1.bel b4) (bel_trans H3.out.2.2.2.2 b4))))
      clear b4
      go_wp2_with fail
      refine (implDeal_any _ _ _ H4.out.1.ints).mono ?_
      rw [HD.out.1.1, HD.out.1.2]
      rintro e w5 ⟨r5, s5, rfl, o5, q5, b5⟩
      have H5 := Lib.hid (And.intro o5 (And.intro q5 (And.intro (H4.out.2.1.bel b5) (And.intro (H4.out.2.2.1.bel b5) (bel_trans H4.out.2.2.2 b5)))))
      clear o5 q5 b5
      go_wp2_with fail
      refine (deInts_any _ _ _ _ _ H5.out.1.ints H5.out.2.2.1).mono ?_; rintro e w6 ⟨rfl, b6⟩
      have H6 := Lib.hid (And.intro (H5.out.2.1.bel b6) (And.intro (H5.out.2.2.2.1.bel b6) (bel_trans H5.out.2.2.2.2 b6)))
      clear b6
      go_wp2_with fail
      refine (deInts_any _ _ _ _ _ H6.out.1.ints H6.out.2.1).mono ?_; rintro e w7 ⟨rfl, b7⟩
      have hL : (((inter a b).length : Int) == (a.length : Int) + (b.length : Int)) = true := by rw [HD.out.2]; simp
      go_wp2
      go_ret
      exact ⟨ret_bool (by first | rfl | (simp [hL]) | simp_all), bel_trans H6.out.2.2 b7⟩

end Go.Proofs.Ytplalhehdfkipaa
