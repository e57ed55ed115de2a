/-
  The laws FnGreedySchedule and FnBestSchedule, walked.
-/
import Derived.Test.YtegofpfhlhfdnaaSchedLaw
import Derived.Test.YtegofpfhlhfdnaaDrawS
import Derived.Test.YtegofpfhlhfdnaaInter
namespace Go.Proofs.Ytegofpfhlhfdnaa
open Go.RowKit
set_option linter.unusedVariables false
set_option maxRecDepth 100000

theorem schedOk_intro {t : List Int} {n : Int} (h : timesOk t = true) (h1 : 1 ≤ n) (h2 : n ≤ 3) : schedOk t n = true := by
  rw [schedOk, h, inB_true.2 ⟨h1, h2⟩]; rfl

set_option maxHeartbeats 1000000 in
theorem lawGreedy (v : Value) (code : List Int) (w : World) (hv : Bytes w v code) :
    Calls Try.prog 5 #[v] w fun e w' => e = .returned (.bool true) ∧ Below w.heap.size w w' := by
  have HV := Lib.hid hv
  obtain ⟨A, c, rfl, hlc, hc, hrd⟩ := hv.open_
  clear hrd hv
  by_cases hbig : (1048576 : Int) < (code.length : Int)
  · go_enter Try.func5, Try.ntmps5
    go_wp2
    go_ret
    exact ⟨rfl, Below.refl _ _⟩
  · go_enter Try.func5, Try.ntmps5
    go_wp2_with fail
    refine (drawGreedy_any _ _ _ HV.out).mono ?_; rintro e w1 ⟨va, t, n, rfl, ha, la, n0, n1, b1⟩
    have H1 := Lib.hid (And.intro ha b1)
    have hes := eqL_self (greedy t n)
    obtain ⟨A1, c1, rfl, hlc1, hc1, hrd1⟩ := ha.open_
    clear ha b1 hrd1
    go_wp2_with fail
    refine (implGreedy_any _ _ _ _ H1.out.1 (by omega)).mono ?_; rintro e w2 ⟨r2, rfl, o2, b2⟩
    have H2 := Lib.hid (And.intro (H1.out.1.bel b2) (And.intro o2 (bel_trans H1.out.2 b2)))
    obtain ⟨A2, c2, rfl, hlc2, hc2, hrd2⟩ := o2.ints.open_
    clear o2 b2 hrd2
    go_wp2_with fail
    refine (specGreedy_any _ _ _ _ H2.out.1 (by omega)).mono ?_; rintro e w3 ⟨r3, rfl, o3, b3⟩
    have H3 := Lib.hid (And.intro (H2.out.1.bel b3) (And.intro (H2.out.2.1.bel b3) (And.intro o3 (bel_trans H2.out.2.2 b3))))
    clear o3 b3
    go_wp2_with fail
    refine (deInts_any _ _ _ _ _ H3.out.2.1.ints H3.out.2.2.1.ints).mono ?_; rintro e w4 ⟨rfl, b4⟩
    have H4 := Lib.hid (And.intro (H3.out.1.bel b4) (And.intro (H3.out.2.1.bel b4) (bel_trans H3.out.2.2.2 b4)))
    clear b4 H1 H2 H3
    go_wp2_with fail
    refine (implTimes_any _ _ _ H4.out.1).mono ?_; rintro e w5 ⟨rfl, rfl⟩
    by_cases hok : timesOk t = true ∧ 1 ≤ n ∧ n ≤ 3
    · obtain ⟨k1, k2, k3⟩ := hok
      have hs := schedOk_intro k1 k2 k3
      obtain ⟨k, rfl⟩ : ∃ k : Nat, n = k := ⟨n.toNat, by omega⟩
      obtain ⟨s, m, e1, e2, e3, p1, p2, p3, p4⟩ := greedy_law hs
      have E1 := Lib.hid e1
      have E2 := Lib.hid e2
      have E3 := Lib.hid e3
      have q0 : (0 : Int) ≤ s * (k : Int) ∧ s * (k : Int) ≤ 24000 ∧ 0 ≤ m * (2 * (k : Int) - 1) ∧ m * (2 * (k : Int) - 1) ≤ 40000 := by
        have hk : k = 1 ∨ k = 2 ∨ k = 3 := by omega
        rcases hk with rfl | rfl | rfl <;> simp <;> omega
      clear e1 e2 e3 hs
      go_wp2_with fail
      refine (implSpan_any _ _ _ _ _ _ H4.out.1 H4.out.2.1.ints (by omega)).mono ?_
      rw [E1.out]
      rintro e w6 ⟨rfl, b6⟩
      have H6 := Lib.hid (And.intro (H4.out.1.bel b6) (bel_trans H4.out.2.2 b6))
      clear b6 H4
      go_wp2_with fail
      refine (implLeast_any _ _ _ _ H6.out.1 (by omega)).mono ?_
      rw [E2.out]
      rintro e w7 ⟨rfl, b7⟩
      have e3 := E3.out
      go_wp2
      go_ret
      exact ⟨ret_bool (by first | rfl | (simp [e3]; try omega)), bel_trans H6.out.2 b7⟩
    · have HN : timesOk t = false ∨ n < 1 ∨ 3 < n := by
        cases h : timesOk t
        · exact .inl rfl
        · simp [h] at hok
          omega
      cases ht : timesOk t
      all_goals
        by_cases hn1 : n < 1
        all_goals
          by_cases hn3 : 3 < n
          all_goals
            first
            | (exfalso; rw [ht] at HN; simp at HN; omega)
            | (go_wp2_with fail
               refine (specGreedy_any _ _ _ _ H4.out.1 (by omega)).mono ?_; rintro e w6 ⟨r6, rfl, o6, b6⟩
               have H6 := Lib.hid (And.intro (H4.out.2.1.bel b6) (And.intro o6 (bel_trans H4.out.2.2 b6)))
               clear o6 b6
               go_wp2_with fail
               refine (deInts_any _ _ _ _ _ H6.out.1.ints H6.out.2.1.ints).mono ?_; rintro e w7 ⟨rfl, b7⟩
               go_wp2
               go_ret
               exact ⟨rfl, bel_trans H6.out.2.2 b7⟩)

end Go.Proofs.Ytegofpfhlhfdnaa
