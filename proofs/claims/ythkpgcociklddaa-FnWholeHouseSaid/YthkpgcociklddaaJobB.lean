/-
  Jobs: contracts of JobValid and JobTime (both), and of the comparison of jobs.
-/
import Derived.Test.YthkpgcociklddaaJob
import Derived.Deep.RegionLaw
namespace Go.Proofs.Ythkpgcociklddaa
open Go.RowKit
set_option linter.unusedVariables false
set_option linter.unusedSimpArgs false
set_option maxRecDepth 100000
attribute [local go_sem ↓] Go.wp_at_zero Go.wp_at_succ


def jobOk (j : JobD) : Bool := setOk j.poly j.fr j.wd && decide (1 ≤ j.ct) && decide (capI j.poly j.fr j.wd j.ct = j.ct) && wayOk j.dg j.wy && layOk j.rw j.ac j.wi
theorem jobOk_true {j : JobD} : jobOk j = true ↔ setOk j.poly j.fr j.wd = true ∧ 1 ≤ j.ct ∧ capI j.poly j.fr j.wd j.ct = j.ct ∧ wayOk j.dg j.wy = true ∧ layOk j.rw j.ac j.wi = true := by
  simp [jobOk, and_assoc]
theorem jobOk_false {j : JobD} (h : ¬ (setOk j.poly j.fr j.wd = true ∧ 1 ≤ j.ct ∧ capI j.poly j.fr j.wd j.ct = j.ct ∧ wayOk j.dg j.wy = true ∧ layOk j.rw j.ac j.wi = true)) : jobOk j = false := by
  rw [Bool.eq_false_iff]; exact fun e => h (jobOk_true.1 e)
theorem capI_bd (p : List Int) (a k c : Int) : -1 ≤ capI p a k c ∧ capI p a k c ≤ 60 := by
  by_cases h : (valOk p a c && inB k 1 12) = true
  · have h' := h
    rw [Bool.and_eq_true] at h'
    rw [cap_yes h'.1 h'.2]
    have h1 : firstBad (valL p a c) k ≤ (valL p a c).length := by unfold firstBad; exact List.Sublist.length_le (List.takeWhile_sublist _)
    have h2 := valL_len p a c
    omega
  · have e : capI p a k c = -1 := by unfold capI; rw [if_neg h]
    omega
/-- What a valid job is, by the other tests. -/
theorem jobOk_more {j : JobD} (h : jobOk j = true) : polyOk j.poly = true ∧ inB j.ct 1 60 = true := by
  obtain ⟨h1, h2, h3, -, -⟩ := jobOk_true.1 h
  refine ⟨?_, ?_⟩
  · cases hq : polyOk j.poly
    · have hs : shiftOk j.poly j.fr = false := (shift_no (argOk_p (n := j.fr) hq)).1
      rw [setOk_s hs] at h1; cases h1
    · rfl
  · have := capI_bd j.poly j.fr j.wd j.ct
    rw [h3] at this
    exact inB_true.2 (by omega)



end Go.Proofs.Ythkpgcociklddaa
