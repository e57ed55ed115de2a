/-
  Contracts of RunSteps (both).
-/
import Derived.Test.YthkpgcociklddaaEngsB
import Derived.Test.YthkpgcociklddaaRunI
import Derived.Test.YthkpgcociklddaaShiftC
namespace Go.Proofs.Ythkpgcociklddaa
open Go.RowKit
set_option linter.unusedVariables false
set_option linter.unusedSimpArgs false
set_option maxRecDepth 100000
attribute [local go_sem ↓] Go.wp_at_zero Go.wp_at_succ

def stepV (ls : List (List ByteArray)) (j : Nat) : Int := sg (sat (turnN (eat ls (j % ls.length)) (j / ls.length)) 0)
def stepsL (ls : List (List ByteArray)) (n : Nat) : List Int := gen (stepV ls) n
theorem stepsL_length (ls : List (List ByteArray)) (n : Nat) : (stepsL ls n).length = n := gen_length _ _
theorem stepsL_succ (ls : List (List ByteArray)) (n : Nat) : stepsL ls (n + 1) = stepsL ls n ++ [stepV ls n] := gen_succ _ _
def rsOk (ls : List (List ByteArray)) (c : Int) : Bool := allOk ls && inB c 0 60
def rsL (ls : List (List ByteArray)) (c : Int) : List Int := if rsOk ls c = true then stepsL ls c.toNat else []
theorem rs_no {ls : List (List ByteArray)} {c : Int} (h : allOk ls = false ∨ inB c 0 60 = false) : rsOk ls c = false ∧ rsL ls c = [] := by
  have : rsOk ls c = false := by rcases h with h | h <;> simp [rsOk, h]
  exact ⟨this, by simp [rsL, this]⟩
theorem rs_yes {ls : List (List ByteArray)} {c : Nat} (h1 : allOk ls = true) (h2 : inB (c : Int) 0 60 = true) : rsOk ls c = true ∧ rsL ls c = stepsL ls c := by
  have : rsOk ls c = true := by simp [rsOk, h1, h2]
  exact ⟨this, by simp [rsL, this]⟩
theorem rsL_len (ls : List (List ByteArray)) (c : Int) : (rsL ls c).length ≤ 60 := by
  unfold rsL
  split
  · rename_i h
    simp only [rsOk, Bool.and_eq_true] at h
    have := inB_true.1 h.2
    rw [stepsL_length]; omega
  · simp
theorem stepV_bd {ls : List (List ByteArray)} (h : allOk ls = true) (j : Nat) : -1000000000000 ≤ stepV ls j ∧ stepV ls j ≤ 1000000000000 := by
  obtain ⟨h1, h2, h3⟩ := allOk_true.1 h
  exact sg_bd (eng0 (h3 _ (Nat.mod_lt _ (by omega))) _)


end Go.Proofs.Ythkpgcociklddaa
