/-
  Jobs: contracts of JobTime (both).
-/
import Derived.Test.YtpniljcnknknoaaGreatDoorJobB
namespace Go.Proofs.YtpniljcnknknoaaGreatDoor
open Go.RowKit
set_option linter.unusedVariables false
set_option linter.unusedSimpArgs false
set_option maxRecDepth 100000
attribute [local go_sem ↓] Go.wp_at_zero Go.wp_at_succ

theorem setOk_shift {p : List Int} {n k : Int} (h : setOk p n k = true) : shiftOk p n = true := by
  cases hs : shiftOk p n
  · rw [setOk_s hs] at h; cases h
  · rfl
theorem setOk_width {p : List Int} {n k : Int} (h : setOk p n k = true) : 1 ≤ k ∧ k ≤ 12 := by
  cases hw : inB k 1 12
  · rw [setOk_w hw (shiftL_len.2 (setOk_shift h))] at h; cases h
  · exact inB_true.1 hw
def timeI (j : JobD) : Int := if jobOk j = true then (j.poly.length : Int) * j.wd + j.ct else -1
theorem time_no {j : JobD} (h : jobOk j = false) : timeI j = -1 := by simp [timeI, h]
theorem time_yes {j : JobD} (h : jobOk j = true) : timeI j = (j.poly.length : Int) * j.wd + j.ct := by simp [timeI, h]
theorem job_bd {j : JobD} (h : jobOk j = true) : (0 ≤ (j.poly.length : Int) * j.wd ∧ (j.poly.length : Int) * j.wd ≤ 84) ∧ 1 ≤ j.ct ∧ j.ct ≤ 60 ∧ 1 ≤ j.poly.length ∧ j.poly.length ≤ 7 ∧ 1 ≤ j.wd ∧ j.wd ≤ 12 := by
  obtain ⟨hp, hc⟩ := jobOk_more h
  obtain ⟨p1, p7, -⟩ := polyOk_true.1 hp
  have hc' := inB_true.1 hc
  have hw := setOk_width (jobOk_true.1 h).1
  have h0 : 0 ≤ (j.poly.length : Int) * j.wd := Int.mul_nonneg (by omega) (by omega)
  have h1 : (j.poly.length : Int) * j.wd ≤ 7 * 12 := Int.mul_le_mul (by omega) hw.2 (by omega) (by omega)
  exact ⟨⟨h0, by omega⟩, hc'.1, hc'.2, p1, p7, hw.1, hw.2⟩



end Go.Proofs.YtpniljcnknknoaaGreatDoor
