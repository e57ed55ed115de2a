/-
  The law FnDeal, walked.
-/
import Derived.Test.YtplalhehdfkipaaDeal
import Derived.Test.YtplalhehdfkipaaDrawC
import Derived.Test.YtplalhehdfkipaaInterB
namespace Go.Proofs.Ytplalhehdfkipaa
open Go.RowKit
set_option linter.unusedVariables false

set_option maxHeartbeats 2000000 in
theorem lawDeal (v : Value) (code : List Int) (w : World) (hv : Bytes w v code) :
    Calls Try.prog 11 #[v] w fun e w' => e = .returned (.bool true) ∧ Below w.heap.size w w' := by
  have HV := Lib.hid hv
  obtain ⟨A, c, rfl, hlc, hc, hrd⟩ := hv.open_
  clear hrd hv
  by_cases hbig : (1048576 : Int) < (code.length : Int)
  · go_enter Try.func11, Try.ntmps11
    go_wp2
    go_ret
    exact ⟨rfl, Below.refl _ _⟩
  · go_enter Try.func11, Try.ntmps11
    go_wp2_with fail
    refine (drawDealTable_any _ _ _ HV.out).mono ?_; rintro e w1 ⟨va, l, rfl, ha, la, b1⟩
    have H1 := Lib.hid (And.intro ha b1)
    have hea := eqL_self (dealE l)
    have heb := eqL_self (dealO l)
    obtain ⟨A1, c1, rfl, hlc1, hc1, hrd1⟩ := ha.open_
    clear ha b1 hrd1
    go_wp2_with fail
    refine (implDeal_any _ _ _ H1.out.1).mono ?_
    rintro e w2 ⟨r2, s2, rfl, o2, q2, b2⟩
    have H2 := Lib.hid (And.intro (H1.out.1.bel b2) (And.intro o2 (And.intro q2 (bel_trans H1.out.2 b2))))
    obtain ⟨A2, c2, rfl, hlc2, hc2, hrd2⟩ := o2.ints.open_
    obtain ⟨A3, c3, rfl, hlc3, hc3, hrd3⟩ := q2.ints.open_
    clear o2 q2 b2 hrd2 hrd3
    go_wp2_with fail
    refine (specDeal_any _ _ _ H2.out.1).mono ?_
    rintro e w3 ⟨r3, s3, rfl, o3, q3, b3⟩
    have H3 := Lib.hid (And.intro (H2.out.1.bel b3) (And.intro (H2.out.2.1.bel b3) (And.intro (H2.out.2.2.1.bel b3) (And.intro o3 (And.intro q3 (bel_trans H2.out.2.2.2 b3))))))
    clear o3 q3 b3
    go_wp2_with fail
    refine (deInts_any _ _ _ _ _ H3.out.2.1.ints H3.out.2.2.2.1.ints).mono ?_; rintro e w4 ⟨rfl, b4⟩
    have H4 := Lib.hid (And.intro (H3.out.1.bel b4) (And.intro (H3.out.2.1.bel b4) (And.intro (H3.out.2.2.1.bel b4) (And.intro (H3.out.2.2.2.1.bel b4) (And.intro (H3.out.2.2.2.2.1.bel b4) (bel_trans H3.out.2.2.2.2.2 b4))))))
    clear b4
    go_wp2_with fail
    refine (deInts_any _ _ _ _ _ H4.out.2.2.1.ints H4.out.2.2.2.2.1.ints).mono ?_; rintro e w5 ⟨rfl, b5⟩
    have H5 := Lib.hid (And.intro (H4.out.1.bel b5) (And.intro (H4.out.2.1.bel b5) (And.intro (H4.out.2.2.1.bel b5) (And.intro (H4.out.2.2.2.1.bel b5) (And.intro (H4.out.2.2.2.2.1.bel b5) (bel_trans H4.out.2.2.2.2.2 b5))))))
    clear b5 H1 H2 H3 H4
    by_cases h60 : (60 : Int) < (l.length : Int)
    · go_wp2_with fail
      refine (deInts_any _ _ _ _ _ H5.out.2.1.ints H5.out.2.2.2.1.ints).mono ?_; rintro e w6 ⟨rfl, b6⟩
      have H6 := Lib.hid (And.intro (H5.out.2.2.1.bel b6) (And.intro (H5.out.2.2.2.2.1.bel b6) (bel_trans H5.out.2.2.2.2.2 b6)))
      clear b6
      go_wp2_with fail
      refine (deInts_any _ _ _ _ _ H6.out.1.ints H6.out.2.1.ints).mono ?_; rintro e w7 ⟨rfl, b7⟩
      go_wp2
      go_ret
      exact ⟨rfl, bel_trans H6.out.2.2 b7⟩
    · have HI := inter_deal (l := l) (by omega)
      have hE : (dealE l).length ≤ 60 := by rw [(deal_yes (l := l) (by omega)).1, gen_length]; omega
      have hO : (dealO l).length ≤ 60 := by rw [(deal_yes (l := l) (by omega)).2, gen_length]; omega
      have hii := HI.1
      have HJ := Lib.hid HI
      have hel := eqL_self l
      clear HI
      go_wp2_with fail
      refine (implInter_any _ _ _ _ _ H5.out.2.1.ints H5.out.2.2.1.ints (by omega) (by omega)).mono ?_
      rw [HJ.out.2.1]
      rintro e w6 ⟨r6, rfl, o6, b6⟩
      have H6 := Lib.hid (And.intro (H5.out.1.bel b6) (And.intro o6 (bel_trans H5.out.2.2.2.2.2 b6)))
      clear o6 b6
      go_wp2_with fail
      refine (deInts_any _ _ _ _ _ H6.out.2.1.ints H6.out.1).mono ?_; rintro e w7 ⟨rfl, b7⟩
      have hL : (((dealE l).length : Int) == ((dealO l).length : Int)) = true ∨ (((dealE l).length : Int) == ((dealO l).length : Int)) = false ∧ (((dealE l).length : Int) == ((dealO l).length : Int) + 1) = true := by
        rcases HJ.out.2.2 with q | q
        · left; simp [q]
        · right; rw [q]; simp; omega
      rcases hL with hL | ⟨hL, hL2⟩
      · go_wp2
        go_ret
        exact ⟨ret_bool (by first | rfl | (simp [hL]) | simp_all), bel_trans H6.out.2.2 b7⟩
      · go_wp2
        go_ret
        exact ⟨ret_bool (by first | rfl | (simp [hL]) | simp_all), bel_trans H6.out.2.2 b7⟩

end Go.Proofs.Ytplalhehdfkipaa
