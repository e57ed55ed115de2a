/-
  The law FnJobTable, walked.
-/
import Derived.Test.YteemhhgioljmaaaJdB
import Derived.Test.YteemhhgioljmaaaJobPlain
import Derived.Test.YteemhhgioljmaaaJobTab
import Derived.Test.YteemhhgioljmaaaRunI
import Derived.Test.YteemhhgioljmaaaInter
namespace Go.Proofs.Yteemhhgioljmaaa
open Go.RowKit
set_option linter.unusedVariables false
set_option linter.unusedSimpArgs false
set_option maxRecDepth 100000
attribute [local go_sem ↓] Go.wp_at_zero Go.wp_at_succ

theorem jtF_no {j : JobD} (h : jobOk j = false) : jtOk j = false ∧ jtL j = [] := by simp [jtOk, jtL, h]
theorem jtF_yes {j : JobD} (h : jobOk j = true) : jtOk j = rtOk (jvL j) j.dg j.wy ∧ jtL j = rtL (jvL j) j.dg j.wy := by simp [jtOk, jtL, h]

set_option maxHeartbeats 8000000 in
theorem lawJobTableF (v : Value) (code : List Int) (w : World) (hv : Bytes w v code) :
    Calls Try.prog 7 #[v] w fun e w' => e = .returned (.bool true) ∧ Below w.heap.size w w' := by
  have HV := Lib.hid hv
  obtain ⟨A_c, c_c, rfl, -, hc1, -⟩ := hv.open_
  clear hv
  by_cases hbig : (1048576 : Int) < (code.length : Int)
  · go_enter Try.func7, Try.ntmps7
    go_wp2
    go_ret
    exact ⟨rfl, Below.refl _ _⟩
  · go_enter Try.func7, Try.ntmps7
    go_wp2_with fail
    refine (drawJobTable_any _ code _ HV.out).mono ?_
    rintro e w0 ⟨vp, j, rfl, hs, l8, hj, b⟩
    have HJ := Lib.hid hj
    have HE := Lib.hid (And.intro (eqL_self (jtL j)) (eqL_self (rtL (jvL j) j.dg j.wy)))
    obtain ⟨A, c, rfl, -, -, -⟩ := hs.ints.open_
    have ba : Below w0.heap.size w0 (w0.alloc (.cells (jobC (.slice A j.poly.length c) j).toArray 49)) := bel_alloc w0 _
    have HS := Lib.hid (hs.ints.bel ba)
    have HB := Lib.hid (bel_trans b ba)
    clear hs b ba hj
    have K := Blk.new w0 49 (jobC (.slice A j.poly.length c) j)
    unfold jobV
    obtain ⟨a0, a1, a2, a3, a4, a5, a6, a7, a8⟩ := K.job
    go_wp2_with fail
    clear a0 a1 a2 a3 a4 a5 a6 a7 a8
    change Calls _ _ #[jobV (.slice A j.poly.length c) j] (w0.alloc (.cells (jobC (.slice A j.poly.length c) j).toArray 49)) _
    generalize hW : w0.alloc (.cells (jobC (.slice A j.poly.length c) j).toArray 49) = W at *
    clear hW
    refine (implJT_any _ j _ HS.out HJ.out).mono ?_
    rintro e w1 ⟨r1, rfl, o1, b⟩
    replace K := K.below b K.lt
    replace HS := Lib.hid (HS.out.bel b)
    replace HB := Lib.hid (bel_trans HB.out b)
    have O1 := Lib.hid o1.ints
    obtain ⟨A1, c1, rfl, -, -, -⟩ := o1.ints.open_
    clear o1 b
    obtain ⟨a0, a1, a2, a3, a4, a5, a6, a7, a8⟩ := K.job
    go_wp2_with fail
    clear a0 a1 a2 a3 a4 a5 a6 a7 a8
    change Calls _ _ #[jobV (.slice A j.poly.length c) j] _ _
    refine (specJT_any _ j _ HS.out HJ.out).mono ?_
    rintro e w2 ⟨r2, rfl, o2, b⟩
    replace K := K.below b K.lt
    replace HS := Lib.hid (HS.out.bel b)
    replace O1 := Lib.hid (O1.out.bel b)
    replace HB := Lib.hid (bel_trans HB.out b)
    have O2 := Lib.hid o2.ints
    obtain ⟨A2, c2, rfl, -, -, -⟩ := o2.ints.open_
    clear o2 b
    cases hok : jtOk j
    all_goals
      go_wp2_with fail
      refine (deInts_any _ _ _ _ _ O1.out O2.out).mono ?_
      rw [HE.out.1]
      rintro e w3 ⟨rfl, b⟩
      replace K := K.below b K.lt
      replace HS := Lib.hid (HS.out.bel b)
      replace O1 := Lib.hid (O1.out.bel b)
      replace O2 := Lib.hid (O2.out.bel b)
      replace HB := Lib.hid (bel_trans HB.out b)
      clear b
      obtain ⟨a0, a1, a2, a3, a4, a5, a6, a7, a8⟩ := K.job
      go_wp2_with fail
      clear a0 a1 a2 a3 a4 a5 a6 a7 a8
      change Calls _ _ #[jobV (.slice A j.poly.length c) j] _ _
      refine (implJob_any _ j _ HS.out HJ.out).mono ?_
      rintro e w4 ⟨rfl, b⟩
      replace K := K.below b K.lt
      replace HS := Lib.hid (HS.out.bel b)
      replace O1 := Lib.hid (O1.out.bel b)
      replace O2 := Lib.hid (O2.out.bel b)
      replace HB := Lib.hid (bel_trans HB.out b)
      clear b
      cases hq : jobOk j
      · first
        | (exfalso; rw [(jtF_no hq).1] at hok; contradiction)
        | skip
          have HQ := Lib.hid hq
          clear hq
          go_wp2_with fail
          refine (deInts_any _ _ _ _ _ O1.out O2.out).mono ?_
          rw [HE.out.1]
          rintro e w5 ⟨rfl, b⟩
          replace K := K.below b K.lt
          replace HS := Lib.hid (HS.out.bel b)
          replace O1 := Lib.hid (O1.out.bel b)
          replace O2 := Lib.hid (O2.out.bel b)
          replace HB := Lib.hid (bel_trans HB.out b)
          clear b
          obtain ⟨a0, a1, a2, a3, a4, a5, a6, a7, a8⟩ := K.job
          go_wp2_with fail
          clear a0 a1 a2 a3 a4 a5 a6 a7 a8
          change Calls _ _ #[jobV (.slice A j.poly.length c) j] _ _
          refine (implJob_any _ j _ HS.out HJ.out).mono ?_
          rintro e w6 ⟨rfl, b⟩
          replace K := K.below b K.lt
          replace HS := Lib.hid (HS.out.bel b)
          replace HB := Lib.hid (bel_trans HB.out b)
          clear b
          rw [HQ.out]
          go_wp2
          go_ret
          exact ⟨rfl, HB.out⟩
      · obtain ⟨y1, y2⟩ := jtF_yes hq
        obtain ⟨z1, z2⟩ := job_run hq
        have z3 := (jobOk_true.1 hq).1
        have HQ := Lib.hid (And.intro hq (And.intro y1 (And.intro y2 (And.intro z1 (And.intro z2 (And.intro z3 hok))))))
        clear hq y1 y2 z1 z2 z3
        obtain ⟨a0, a1, a2, a3, a4, a5, a6, a7, a8⟩ := K.job
        go_wp2_with fail
        clear a0 a1 a2 a3 a4 a5 a6 a7 a8
        refine (implSetUp_any _ j.poly j.fr j.wd _ HS.out HJ.out.fr).mono ?_
        rw [HQ.out.2.2.2.2.2.1]
        rintro e w5 ⟨r5, rfl, o5, b⟩
        replace K := K.below b K.lt
        replace HS := Lib.hid (HS.out.bel b)
        replace O1 := Lib.hid (O1.out.bel b)
        replace O2 := Lib.hid (O2.out.bel b)
        replace HB := Lib.hid (bel_trans HB.out b)
        obtain ⟨A5, c5, rfl, -, -, -⟩ := o5.strs.open_
        clear b
        have KE := Blk.new' w5 29 (.slice A5 (setE j.poly j.fr j.wd).length c5) _ rfl
        have b := bel_alloc w5 (.cells #[Value.slice A5 (setE j.poly j.fr j.wd).length c5] 29)
        have O5 := Lib.hid (o5.strs.bel b)
        replace K := K.below b K.lt
        replace HS := Lib.hid (HS.out.bel b)
        replace O1 := Lib.hid (O1.out.bel b)
        replace O2 := Lib.hid (O2.out.bel b)
        replace HB := Lib.hid (bel_trans HB.out b)
        clear b o5
        obtain ⟨a0, a1, a2, a3, a4, a5, a6, a7, a8⟩ := K.job
        obtain ⟨ke, kf⟩ := KE.one
        go_wp2_with fail
        clear a0 a1 a2 a3 a4 a5 a6 a7 a8
        clear ke kf
        generalize hW : w5.alloc (.cells #[Value.slice A5 (setE j.poly j.fr j.wd).length c5] 29) = W6 at *
        clear hW
        refine (implRun_any _ (setE j.poly j.fr j.wd) j.ct _ O5.out HJ.out.ct).mono ?_
        rw [HQ.out.2.2.2.1, HQ.out.2.2.2.2.1]
        rintro e w7 ⟨r7, rfl, o7, b⟩
        replace K := K.below b K.lt
        replace HS := Lib.hid (HS.out.bel b)
        replace O1 := Lib.hid (O1.out.bel b)
        replace O2 := Lib.hid (O2.out.bel b)
        replace HB := Lib.hid (bel_trans HB.out b)
        obtain ⟨A7, c7, rfl, -, -, -⟩ := o7.ints.open_
        have O7 := Lib.hid o7.ints
        clear b o7
        obtain ⟨a0, a1, a2, a3, a4, a5, a6, a7, a8⟩ := K.job
        go_wp2_with fail
        clear a0 a1 a2 a3 a4 a5 a6 a7 a8
        refine (implRT_any _ (jvL j) j.dg j.wy _ O7.out).mono ?_
        rintro e w8 ⟨r8, rfl, o8, b⟩
        replace K := K.below b K.lt
        replace HS := Lib.hid (HS.out.bel b)
        replace O1 := Lib.hid (O1.out.bel b)
        replace O2 := Lib.hid (O2.out.bel b)
        replace HB := Lib.hid (bel_trans HB.out b)
        obtain ⟨A8, c8, rfl, -, -, -⟩ := o8.ints.open_
        have O8 := Lib.hid o8.ints
        rw [← HQ.out.2.1, hok]
        clear b o8
        go_wp2_with fail
        refine (deInts_any _ _ _ _ _ O8.out O1.out).mono ?_
        rw [HQ.out.2.2.1, HE.out.2]
        rintro e w9 ⟨rfl, b⟩
        replace K := K.below b K.lt
        replace HS := Lib.hid (HS.out.bel b)
        replace HB := Lib.hid (bel_trans HB.out b)
        clear b
        go_wp2
        go_ret
        exact ⟨rfl, HB.out⟩

end Go.Proofs.Yteemhhgioljmaaa
