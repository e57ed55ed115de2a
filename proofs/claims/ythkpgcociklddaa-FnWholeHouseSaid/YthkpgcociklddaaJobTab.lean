/-
  Contracts of JobTable (both), and the mark of a job.
-/
import Derived.Test.YthkpgcociklddaaJobC
import Derived.Test.YthkpgcociklddaaRound
namespace Go.Proofs.Ythkpgcociklddaa
open Go.RowKit
set_option linter.unusedVariables false
set_option linter.unusedSimpArgs false
set_option maxRecDepth 100000
attribute [local go_sem ↓] Go.wp_at_zero Go.wp_at_succ

def jvL (j : JobD) : List Int := valL j.poly j.fr j.ct
def jtOk (j : JobD) : Bool := jobOk j && rtOk (jvL j) j.dg j.wy
def jtL (j : JobD) : List Int := if jobOk j = true then rtL (jvL j) j.dg j.wy else []
theorem jt_no {j : JobD} (h : jobOk j = false) : jtOk j = false ∧ jtL j = [] := by simp [jtOk, jtL, h]
theorem jt_yes {j : JobD} (h : jobOk j = true) : jtOk j = rtOk (jvL j) j.dg j.wy ∧ jtL j = rtL (jvL j) j.dg j.wy := by simp [jtOk, jtL, h]
theorem jobOk_val {j : JobD} (h : jobOk j = true) : valOk j.poly j.fr j.ct = true := by
  obtain ⟨-, h2, h3, -⟩ := jobOk_true.1 h
  cases hv : valOk j.poly j.fr j.ct
  · rw [cap_no (.inl hv)] at h3; omega
  · rfl
theorem rtL_len (l : List Int) (d y : Int) : (rtL l d y).length ≤ l.length := by
  unfold rtL
  split
  · rw [gen_length]; exact Nat.le_refl _
  · simp
theorem jtL_len (j : JobD) : (jtL j).length ≤ 60 := by
  unfold jtL
  split
  · exact Nat.le_trans (rtL_len _ _ _) (valL_len _ _ _)
  · simp





end Go.Proofs.Ythkpgcociklddaa
