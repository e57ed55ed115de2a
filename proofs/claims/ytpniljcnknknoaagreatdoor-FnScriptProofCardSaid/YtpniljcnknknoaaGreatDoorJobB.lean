/-
  Jobs: contracts of JobValid and JobTime (both), and of the comparison of jobs.
-/
import Derived.Test.YtpniljcnknknoaaGreatDoorJob
import Derived.Deep.RegionLaw
namespace Go.Proofs.YtpniljcnknknoaaGreatDoor
open Go.RowKit
set_option linter.unusedVariables false
set_option linter.unusedSimpArgs false
set_option maxRecDepth 100000
attribute [local go_sem ↓] Go.wp_at_zero Go.wp_at_succ


def jobOk (j : JobD) : Bool := setOk j.poly j.fr j.wd && decide (1 ≤ j.ct) && decide (capI j.poly j.fr j.wd j.ct = j.ct) && wayOk j.dg j.wy && layOk j.rw j.ac j.wi
theorem jobOk_true {j : JobD} : jobOk j = true ↔ setOk j.poly j.fr j.wd = true ∧ 1 ≤ j.ct ∧ capI j.poly j.fr j.wd j.ct = j.ct ∧ wayOk j.dg j.wy = true ∧ layOk j.rw j.ac j.wi = true := by
  simp [jobOk, and_assoc]
theorem jobOk_false {j : JobD} (h : ¬ (setOk j.poly j.fr j.wd = true ∧ 1 ≤ j.ct ∧ capI j.poly j.fr j.wd j.ct = j.ct ∧ wayOk j.dg j.wy = true ∧ layOk j.rw j.ac j.wi = true)) : jobOk j = false := by
  rw [Bool.eq_false_iff]; exact fun e => h (jobOk_true.1 e)
theorem capI_bd (p : List Int) (a k c : Int) : -1 ≤ capI p a k c ∧ capI p a k c ≤ 60 := by
  by_cases h : (valOk p a c && inB k 1 12) = true
  · have h' := h
    rw [Bool.and_eq_true] at h'
    rw [cap_yes h'.1 h'.2]
    have h1 : firstBad (valL p a c) k ≤ (valL p a c).length := by unfold firstBad; exact List.Sublist.length_le (List.takeWhile_sublist _)
    have h2 := valL_len p a c
    omega
  · have e : capI p a k c = -1 := by unfold capI; rw [if_neg h]
    omega
/-- What a valid job is, by the other tests. -/
theorem jobOk_more {j : JobD} (h : jobOk j = true) : polyOk j.poly = true ∧ inB j.ct 1 60 = true := by
  obtain ⟨h1, h2, h3, -, -⟩ := jobOk_true.1 h
  refine ⟨?_, ?_⟩
  · cases hq : polyOk j.poly
    · have hs : shiftOk j.poly j.fr = false := (shift_no (argOk_p (n := j.fr) hq)).1
      rw [setOk_s hs] at h1; cases h1
    · rfl
  · have := capI_bd j.poly j.fr j.wd j.ct
    rw [h3] at this
    exact inB_true.2 (by omega)

set_option maxHeartbeats 4000000 in
theorem implJob_any (v : Value) (j : JobD) (w : World) (hv : Ints w v j.poly) (hj : j.In) :
    Calls Tryz.prog 50 #[jobV v j] w fun e w' => e = .returned (.bool (jobOk j)) ∧ Below w.heap.size w w' := by
  obtain ⟨jfr, jct, jwd, jdg, jwy, jrw, jac, jwi⟩ := hj
  have HV := Lib.hid hv
  obtain ⟨A, c, rfl, -, -, -⟩ := hv.open_
  clear hv
  have B0 : Below w.heap.size w (w.alloc (.cells (jobC (.slice A j.poly.length c) j).toArray 27)) := bel_alloc w _
  have K1 := Blk.new w 27 (jobC (.slice A j.poly.length c) j)
  unfold jobV
  go_enter Tryz.func50, Tryz.ntmps50
  go_wp2_with fail
  change Calls _ _ _ (w.alloc (.cells (jobC (.slice A j.poly.length c) j).toArray 27)) _
  generalize hW : w.alloc (.cells (jobC (.slice A j.poly.length c) j).toArray 27) = W at K1 B0 ⊢
  clear hW
  refine (implSetUp_any _ j.poly j.fr j.wd _ (HV.out.bel B0) jfr).mono ?_
  rintro e w2 ⟨r, rfl, o1, b1⟩
  obtain ⟨A3, c3, rfl, -, -, -⟩ := o1.strs.open_
  clear o1
  generalize (setE j.poly j.fr j.wd).length = q
  have HB := Lib.hid (bel_trans (bel_trans B0 b1) (bel_alloc w2 (.cells #[.slice A3 q c3] 48)))
  have HK := Lib.hid ((K1.below b1 K1.lt).alloc (.cells #[.slice A3 q c3] 48))
  have HI := Lib.hid ((HV.out.bel (bel_trans B0 b1)).bel (bel_alloc w2 (.cells #[.slice A3 q c3] 48)))
  clear b1 B0 K1
  cases hs : setOk j.poly j.fr j.wd
  · have HN := Lib.hid (jobOk_false (j := j) (fun h => by rw [hs] at h; cases h.1))
    go_wp2
    go_ret
    exact ⟨ret_bool HN.out.symm, HB.out⟩
  · have HS := Lib.hid hs
    clear hs
    obtain ⟨W3, hW3⟩ : ∃ W3, W3 = w2.alloc (.cells #[.slice A3 q c3] 48) := ⟨_, rfl⟩
    rw [← hW3] at HB HK HI
    have HW3 := Lib.hid hW3
    clear hW3
    by_cases hct : j.ct < 1
    · have HN := Lib.hid (jobOk_false (j := j) (fun h => by omega))
      have hd : decide (j.ct < 1) = true := by simpa using hct
      go_wp2_with fail
      rw [← HW3.out]
      obtain ⟨a0, a1, a2, a3, a4, a5, a6, a7, a8⟩ := HK.out.job
      go_quiet (fail)
      go_wp2
      go_ret
      exact ⟨ret_bool HN.out.symm, below_drewN HB.out _⟩
    · have hd : decide (j.ct < 1) = false := by simpa using hct
      go_wp2_with fail
      rw [← HW3.out]
      obtain ⟨a0, a1, a2, a3, a4, a5, a6, a7, a8⟩ := HK.out.job
      have hlt := HK.out.lt
      have tok1 : True := trivial
      go_region_held3 (fun w' => w'.cell? ⟨w.heap.size, 0, none⟩ = some (.slice A j.poly.length c) ∧ w'.cell? ⟨w.heap.size, 1, none⟩ = some (.int .i64 j.fr) ∧ w'.cell? ⟨w.heap.size, 2, none⟩ = some (.int .i64 j.ct) ∧ w'.cell? ⟨w.heap.size, 3, none⟩ = some (.int .i64 j.wd)) (first | exact ⟨a0, a1, a2, a3⟩ | exact ⟨a0', a1', a2', a3'⟩ | go_keep) (first
        | ((try go_simp); go_at_call 122; have _t := tok1; refine (implCap_any _ j.poly j.fr j.wd j.ct _ (by first | exact HI.out | exact HI.out.bel ((Below.refl _ _).drew)) jfr jct).mono ?_; rintro e w5 ⟨rfl, b5⟩; replace b5 : Below W3.heap.size W3 w5 := (by first | exact b5 | exact bel_trans ((Below.refl _ _).drew) b5); have HB5 := Lib.hid (bel_trans HB.out b5); have K5 := HK.out.below b5 hlt; have HK5 := Lib.hid K5; obtain ⟨a0', a1', a2', a3', -⟩ := K5.job; clear tok1 b5 K5; (try dsimp only))
        | fail)
      all_goals
        clear a0 a1 a2 a3 a4 a5 a6 a7 a8 a0' a1' a2' a3'
        by_cases hcap : capI j.poly j.fr j.wd j.ct = j.ct
        · have hne : (capI j.poly j.fr j.wd j.ct != j.ct) = false := by simp [hcap]
          have HC := Lib.hid hcap
          clear hcap
          obtain ⟨a0, a1, a2, a3, a4, a5, a6, a7, a8⟩ := HK5.out.job
          cases hwy : wayOk j.dg j.wy
          · have HN := Lib.hid (jobOk_false (j := j) (fun h => by rw [hwy] at h; cases h.2.2.2.1))
            go_wp2_with (go_at_call 71; refine (rounding_any _ _ _).mono ?_; rintro e w' ⟨rfl, rfl⟩)
            go_ret
            exact ⟨ret_bool HN.out.symm, HB5.out⟩
          · have HN := Lib.hid (show jobOk j = layOk j.rw j.ac j.wi by
              unfold jobOk
              rw [HS.out, hwy, decide_eq_true HC.out, decide_eq_true (show 1 ≤ j.ct by omega)]; rfl)
            go_wp2_with fail
            refine (rounding_any _ _ _).mono ?_
            rintro e w6 ⟨rfl, rfl⟩
            rw [hwy]
            go_wp2_with fail
            refine (implLay_any _ _ _ _).mono ?_
            rintro e w6 ⟨rfl, b6⟩
            have HB6 := Lib.hid (bel_trans HB5.out (by first | exact b6 | exact bel_trans ((Below.refl _ _).drew) b6))
            clear b6 a0 a1 a2 a3 a4 a5 a6 a7 a8
            go_wp2
            go_ret
            exact ⟨ret_bool HN.out.symm, HB6.out⟩
        · have hne : (capI j.poly j.fr j.wd j.ct != j.ct) = true := by simp [hcap]
          have HN := Lib.hid (jobOk_false (j := j) (fun h => hcap h.2.2.1))
          go_wp2
          go_ret
          exact ⟨ret_bool HN.out.symm, HB5.out⟩

set_option maxHeartbeats 8000000 in
theorem specJob_any (v : Value) (j : JobD) (w : World) (hv : Ints w v j.poly) (hj : j.In) :
    Calls Tryz.prog 120 #[jobV v j] w fun e w' => e = .returned (.bool (jobOk j)) ∧ Below w.heap.size w w' := by
  obtain ⟨jfr, jct, jwd, jdg, jwy, jrw, jac, jwi⟩ := hj
  have HV := Lib.hid hv
  obtain ⟨A, c, rfl, -, -, -⟩ := hv.open_
  clear hv
  have B0 : Below w.heap.size w (w.alloc (.cells (jobC (.slice A j.poly.length c) j).toArray 27)) := bel_alloc w _
  have K1 := Blk.new w 27 (jobC (.slice A j.poly.length c) j)
  unfold jobV
  go_enter Tryz.func120, Tryz.ntmps120
  go_wp2_with fail
  change Calls _ _ _ (w.alloc (.cells (jobC (.slice A j.poly.length c) j).toArray 27)) _
  generalize hW : w.alloc (.cells (jobC (.slice A j.poly.length c) j).toArray 27) = W at K1 B0 ⊢
  clear hW
  refine (specPoly_any _ _ _ (HV.out.bel B0)).mono ?_
  rintro e w2 ⟨rfl, rfl⟩
  have HB := Lib.hid B0
  have HK := Lib.hid K1
  have HI := Lib.hid (HV.out.bel B0)
  clear B0 K1
  cases hp : polyOk j.poly
  · have HN := Lib.hid (show jobOk j = false by rw [Bool.eq_false_iff]; intro h; rw [(jobOk_more h).1] at hp; cases hp)
    go_wp2
    go_ret
    exact ⟨ret_bool HN.out.symm, HB.out⟩
  · obtain ⟨a0, a1, a2, a3, a4, a5, a6, a7, a8⟩ := HK.out.job
    cases hc : inB j.ct 1 60
    · have HN := Lib.hid (show jobOk j = false by rw [Bool.eq_false_iff]; intro h; rw [(jobOk_more h).2] at hc; cases hc)
      go_wp2_with (go_at_call 138; refine (l1In_any _ _ _ _).mono ?_; rintro e w' ⟨rfl, rfl⟩)
      go_ret
      exact ⟨ret_bool HN.out.symm, HB.out⟩
    · have hc' := inB_true.1 hc
      go_wp2_with fail
      refine (l1In_any _ _ _ _).mono ?_
      rintro e w2 ⟨rfl, rfl⟩
      rw [hc]
      cases hwy : wayOk j.dg j.wy
      · have HN := Lib.hid (jobOk_false (j := j) (fun h => by rw [hwy] at h; cases h.2.2.2.1))
        go_wp2_with (go_at_call 176; refine (l6Way_any _ _ _).mono ?_; rintro e w' ⟨rfl, rfl⟩)
        go_ret
        exact ⟨ret_bool HN.out.symm, HB.out⟩
      · go_wp2_with fail
        refine (l6Way_any _ _ _).mono ?_
        rintro e w2 ⟨rfl, rfl⟩
        rw [hwy]
        have HWY := Lib.hid hwy
        clear hwy hc hp
        go_wp2_with fail
        refine (specLay_any _ _ _ _).mono ?_
        rintro e w2 ⟨rfl, b2⟩
        replace HB := Lib.hid (bel_trans HB.out b2)
        replace HK := Lib.hid (HK.out.below b2 HK.out.lt)
        replace HI := Lib.hid (HI.out.bel b2)
        clear b2 a0 a1 a2 a3 a4 a5 a6 a7 a8
        cases hl : layOk j.rw j.ac j.wi
        · have HN := Lib.hid (jobOk_false (j := j) (fun h => by rw [hl] at h; cases h.2.2.2.2))
          go_wp2
          go_ret
          exact ⟨ret_bool HN.out.symm, HB.out⟩
        · have HL := Lib.hid hl
          clear hl
          obtain ⟨a0, a1, a2, a3, a4, a5, a6, a7, a8⟩ := HK.out.job
          go_wp2_with fail
          refine (specSetUp_any _ j.poly j.fr j.wd _ HI.out jfr).mono ?_
          rintro e w3 ⟨r, rfl, o1, b1⟩
          obtain ⟨A3, c3, rfl, -, -, -⟩ := o1.strs.open_
          clear o1
          generalize (setE j.poly j.fr j.wd).length = q
          obtain ⟨W3, hW3⟩ : ∃ W3, W3 = w3.alloc (.cells #[.slice A3 q c3] 48) := ⟨_, rfl⟩
          have b3 : Below w2.heap.size w2 W3 := by rw [hW3]; exact bel_trans b1 (bel_alloc w3 (.cells #[.slice A3 q c3] 48))
          have HW3 := Lib.hid hW3
          replace HB := Lib.hid (bel_trans HB.out b3)
          replace HK := Lib.hid (HK.out.below b3 HK.out.lt)
          replace HI := Lib.hid (HI.out.bel b3)
          clear b1 b3 hW3 a0 a1 a2 a3 a4 a5 a6 a7 a8
          cases hs : setOk j.poly j.fr j.wd
          · have HN := Lib.hid (jobOk_false (j := j) (fun h => by rw [hs] at h; cases h.1))
            go_wp2_with fail
            rw [← HW3.out]
            go_quiet (fail)
            go_wp2
            go_ret
            exact ⟨ret_bool HN.out.symm, below_drewN HB.out _⟩
          · have HS := Lib.hid hs
            clear hs
            go_wp2_with fail
            rw [← HW3.out]
            obtain ⟨a0, a1, a2, a3, a4, a5, a6, a7, a8⟩ := HK.out.job
            have hlt := HK.out.lt
            have tok1 : True := trivial
            go_region_held3 (fun w' => w'.cell? ⟨w.heap.size, 0, none⟩ = some (.slice A j.poly.length c) ∧ w'.cell? ⟨w.heap.size, 1, none⟩ = some (.int .i64 j.fr) ∧ w'.cell? ⟨w.heap.size, 2, none⟩ = some (.int .i64 j.ct) ∧ w'.cell? ⟨w.heap.size, 3, none⟩ = some (.int .i64 j.wd)) (first | exact ⟨a0, a1, a2, a3⟩ | exact ⟨a0', a1', a2', a3'⟩ | go_keep) (first
              | ((try go_simp); go_at_call 177; have _t := tok1; refine (specCap_any _ j.poly j.fr j.wd j.ct _ (by first | exact HI.out | exact HI.out.bel ((Below.refl _ _).drew)) jfr jct).mono ?_; rintro e w5 ⟨rfl, b5⟩; replace b5 : Below W3.heap.size W3 w5 := (by first | exact b5 | exact bel_trans ((Below.refl _ _).drew) b5); have HB5 := Lib.hid (bel_trans HB.out b5); have K5 := HK.out.below b5 hlt; obtain ⟨a0', a1', a2', a3', -⟩ := K5.job; clear tok1 b5 K5; (try dsimp only))
              | fail)
            all_goals
              clear a0 a1 a2 a3 a4 a5 a6 a7 a8 a0' a1' a2' a3'
              have HN := Lib.hid (show jobOk j = (capI j.poly j.fr j.wd j.ct == j.ct) by
                unfold jobOk
                rw [HS.out, HWY.out, HL.out, decide_eq_true (show 1 ≤ j.ct by omega)]
                rw [Bool.eq_iff_iff]; simp)
              go_wp2
              go_ret
              exact ⟨ret_bool (by rw [HN.out]), HB5.out⟩

end Go.Proofs.YtpniljcnknknoaaGreatDoor
