/-
  The law FnQuarterEngines, walked.
-/
import Derived.Test.YteemhhgioljmaaaQuarterE
import Derived.Test.YteemhhgioljmaaaInter
import Derived.Test.YteemhhgioljmaaaSetUp
namespace Go.Proofs.Yteemhhgioljmaaa
open Go.RowKit
set_option linter.unusedVariables false
set_option linter.unusedSimpArgs false
set_option maxRecDepth 100000
attribute [local go_sem ↓] Go.wp_at_zero Go.wp_at_succ

set_option maxHeartbeats 4000000 in
theorem lawQuarterEnginesF (v : Value) (code : List Int) (w : World) (hv : Bytes w v code) :
    Calls Try.prog 3 #[v] w fun e w' => e = .returned (.bool true) ∧ Below w.heap.size w w' := by
  have HV := Lib.hid hv
  obtain ⟨A_c, c_c, rfl, -, hc1, -⟩ := hv.open_
  clear hv
  by_cases hbig : (1048576 : Int) < (code.length : Int)
  · go_enter Try.func3, Try.ntmps3
    go_wp2
    go_ret
    exact ⟨rfl, Below.refl _ _⟩
  · go_enter Try.func3, Try.ntmps3
    go_wp2_with fail
    refine (drawQT_any _ code _ HV.out).mono ?_
    rintro e w0 ⟨n, rfl, hn, b⟩
    have HB := Lib.hid b
    clear b
    go_wp2_with fail
    refine (implQT_any n _).mono ?_
    rintro e w1 ⟨r1, rfl, o1, b⟩
    replace HB := Lib.hid (bel_trans HB.out b)
    have O1 := Lib.hid o1.ints
    obtain ⟨A1, c1, rfl, -, -, -⟩ := o1.ints.open_
    clear o1 b
    go_wp2_with fail
    refine (specQT_any n _ hn).mono ?_
    rintro e w2 ⟨r2, rfl, o2, b⟩
    replace HB := Lib.hid (bel_trans HB.out b)
    replace O1 := Lib.hid (O1.out.bel b)
    have O2 := Lib.hid o2.ints
    obtain ⟨A2, c2, rfl, -, -, -⟩ := o2.ints.open_
    clear o2 b
    go_wp2_with fail
    refine (deInts_any _ _ _ _ _ O1.out O2.out).mono ?_
    rw [eqL_self]
    rintro e w3 ⟨rfl, b⟩
    replace HB := Lib.hid (bel_trans HB.out b)
    replace O1 := Lib.hid (O1.out.bel b)
    clear b O2
    cases hin : inB n 0 60
    · have h := inB_false.1 hin
      clear hin
      by_cases h0 : n < 0
      all_goals
        first | (have h1 : ¬ 60 < n := by omega) | (have h1 : 60 < n := by omega)
        have HN := Lib.hid hn
        clear hn h
        go_wp2_with fail
        refine (specQT_any n _ HN.out).mono ?_
        rintro e w4 ⟨r2, rfl, o2, b⟩
        replace HB := Lib.hid (bel_trans HB.out b)
        replace O1 := Lib.hid (O1.out.bel b)
        have O2 := Lib.hid o2.ints
        obtain ⟨A2, c2, rfl, -, -, -⟩ := o2.ints.open_
        clear o2 b
        go_wp2_with fail
        refine (deInts_any _ _ _ _ _ O1.out O2.out).mono ?_
        rw [eqL_self]
        rintro e w5 ⟨rfl, b⟩
        replace HB := Lib.hid (bel_trans HB.out b)
        clear b
        go_wp2
        go_ret
        exact ⟨rfl, HB.out⟩
    · have h := inB_true.1 hin
      obtain ⟨m, rfl⟩ : ∃ m : Nat, n = m := ⟨n.toNat, by omega⟩
      obtain ⟨hrok, hrl⟩ := q_run hin
      rw [qT_yes hin] at O1 ⊢
      rw [qtab_len] at O1 ⊢
      clear hin
      have hm : m ≤ 60 := by omega
      clear hn h
      have HR := Lib.hid (And.intro hrok hrl)
      clear hrok hrl
      go_wp2_with fail
      have W1 := Lib.hid (lit_own w3 [0, 1, 2] _ w3.heap.size rfl (Nat.le_refl _) (by simp) (wf_lit (by simp))).ints
      replace HB := Lib.hid (bel_trans HB.out (bel_alloc w3 (.cells #[.int .i64 0, .int .i64 1, .int .i64 2] 3)))
      replace O1 := Lib.hid (O1.out.bel (bel_alloc w3 (.cells #[.int .i64 0, .int .i64 1, .int .i64 2] 3)))
      refine (qA_any _ _ W1.out).mono ?_
      rintro e w4 ⟨r4, rfl, o4, b⟩
      replace HB := Lib.hid (bel_trans HB.out b)
      replace O1 := Lib.hid (O1.out.bel b)
      have S4 := Lib.hid (o4.strs)
      obtain ⟨A4, c4, rfl, -, -, -⟩ := o4.strs.open_
      clear o4 b W1
      have K4 := Blk.new' w4 29 (.slice A4 qA.length c4) w4.heap.size rfl
      have ba := bel_alloc w4 (.cells #[.slice A4 qA.length c4] 29)
      replace HB := Lib.hid (bel_trans HB.out ba)
      replace O1 := Lib.hid (O1.out.bel ba)
      replace S4 := Lib.hid (S4.out.bel ba)
      clear ba
      go_wp2_with fail
      generalize hW : w4.alloc (.cells #[.slice A4 qA.length c4] 29) = W at *
      have W1 := Lib.hid (lit_own W [0, 2, 2] (w4.heap.size + 1) 0 (by rw [← hW]; simp) (Nat.zero_le _) (by simp) (wf_lit (by simp))).ints
      have ba := (bel_alloc W (.cells #[.int .i64 0, .int .i64 2, .int .i64 2] 3))
      replace HB := Lib.hid (bel_trans HB.out ba)
      replace O1 := Lib.hid (O1.out.bel ba)
      replace S4 := Lib.hid (S4.out.bel ba)
      replace K4 := K4.below ba K4.lt
      clear ba
      refine (qB_any _ _ W1.out).mono ?_
      rintro e w5 ⟨r5, rfl, o5, b⟩
      replace HB := Lib.hid (bel_trans HB.out b)
      replace O1 := Lib.hid (O1.out.bel b)
      replace S4 := Lib.hid (S4.out.bel b)
      replace K4 := K4.below b K4.lt
      have S5 := Lib.hid o5.strs
      obtain ⟨A5, c5, rfl, -, -, -⟩ := o5.strs.open_
      clear o5 b W1 hW
      have K5 := Blk.new' w5 29 (.slice A5 qB.length c5) w5.heap.size rfl
      have ba := bel_alloc w5 (.cells #[.slice A5 qB.length c5] 29)
      replace HB := Lib.hid (bel_trans HB.out ba)
      replace O1 := Lib.hid (O1.out.bel ba)
      replace S4 := Lib.hid (S4.out.bel ba)
      replace S5 := Lib.hid (S5.out.bel ba)
      replace K4 := K4.below ba K4.lt
      clear ba
      obtain ⟨e4, -⟩ := K4.one
      obtain ⟨e5, -⟩ := K5.one
      go_wp2_with fail
      clear e4 e5 K4
      generalize hX : w5.alloc (.cells #[.slice A5 qB.length c5] 29) = X at *
      have hXz : w5.heap.size + 1 = X.heap.size := by rw [← hX]; simp
      clear hX K5
      have ba := bel_alloc X (.cells #[.slice A4 qA.length c4, .slice A5 qB.length c5] 29)
      have K6 := Blk.new X 29 [.slice A4 qA.length c4, .slice A5 qB.length c5]
      rw [← hXz] at K6
      replace HB := Lib.hid (bel_trans HB.out ba)
      replace O1 := Lib.hid (O1.out.bel ba)
      have E6 := Lib.hid (Engs.two (S4.out.bel ba) (S5.out.bel ba) K6)
      clear ba K6 S4 S5 hXz
      refine (implSteps_any _ [qA, qB] (m : Int) _ E6.out).mono ?_
      rw [HR.out.1, HR.out.2]
      rintro e w6 ⟨r6, rfl, o6, b⟩
      replace HB := Lib.hid (bel_trans HB.out b)
      replace O1 := Lib.hid (O1.out.bel b)
      have O6 := Lib.hid o6.ints
      obtain ⟨A6, c6, rfl, -, -, -⟩ := o6.ints.open_
      clear o6 b E6 HR
      rw [qtab_len] at O6 ⊢
      go_wp2_with fail
      go_loopw [11] (fun i wr => ∃ k : Nat, k ≤ m ∧ i = .int .i64 k ∧ Below w6.heap.size w6 wr) (fun i _ => m - (intOf i).toNat)
      case atStart => exact ⟨0, Nat.zero_le _, rfl, Below.refl _ _⟩
      case round =>
        obtain ⟨k, hk, rfl, hb⟩ := hrel
        have H := Lib.hid hb
        by_cases hlt : k < m
        · have O1' := O1.out.open_
          obtain ⟨A', cc', e', -, -, hrd⟩ := O1'
          rw [qtab_len] at e'
          injection e' with q1 q2 q3
          subst q1 q3
          obtain ⟨b, o, rfl, hbb, hcell⟩ := hrd.ints (by rw [qtab_len]; omega)
          have hck := (hb.cell (by exact hbb)).trans (hcell k (by rw [qtab_len]; exact hlt))
          rw [qtab_at hlt] at hck
          have p1 : (k : Int) < (m : Int) := by omega
          have p3 : (0 : Int) ≤ (k : Int) := by omega
          have hbe : (qsq k != qsq k) = false := by simp
          clear hcell hrd hb q2
          go_wp2_with fail
          go_quiet ((go_at_call 21; first | exact quiet_left (implSquare_any k _ (by omega)) | exact quiet_add_left (implSquare_any k _ (by omega))))
          go_wp2
          go_roundw
          case rel => exact ⟨k + 1, by omega, by go_num, below_drewN H.out _⟩
          case measure => simp [intOf]; omega
        · have HB2 := Lib.hid (bel_trans HB.out hb)
          have O12 := Lib.hid (O1.out.bel hb)
          have O62 := Lib.hid (O6.out.bel hb)
          clear hb
          go_wp2_with fail
          refine (deInts_any _ _ _ _ _ O62.out O12.out).mono ?_
          rw [eqL_self]
          rintro e w7 ⟨rfl, b⟩
          have HB3 := Lib.hid (bel_trans HB2.out b)
          clear b
          go_wp2
          go_ret
          exact ⟨rfl, HB3.out⟩

end Go.Proofs.Yteemhhgioljmaaa
