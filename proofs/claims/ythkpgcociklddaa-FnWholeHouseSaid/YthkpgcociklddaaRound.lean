/-
  Contracts of RoundTable (both).
-/
import Derived.Test.YthkpgcociklddaaJob
namespace Go.Proofs.Ythkpgcociklddaa
open Go.RowKit
set_option linter.unusedVariables false
set_option linter.unusedSimpArgs false
set_option maxRecDepth 100000
attribute [local go_sem ↓] Go.wp_at_zero Go.wp_at_succ

/-- A number without its last digits, rounded down; and rounded in a way. -/
def lowI (n : Int) (d : Nat) : Int := (n - (md n (ten d) : Int)).tdiv (ten d)
def roundI (n : Int) (d : Nat) (y : Int) : Int :=
  if y = 0 ∨ 2 * md n (ten d) < ten d then lowI n d else if ten d < 2 * md n (ten d) then lowI n d + 1
  else if y = 1 then (if n < 0 then lowI n d else lowI n d + 1) else lowI n d + (md (lowI n d) 2 : Int)
theorem low_bd {n : Int} (h : -1000000000 ≤ n ∧ n ≤ 1000000000) (d : Nat) : -1000000000 ≤ lowI n d ∧ lowI n d ≤ 1000000000 := by
  have hT := ten_pos d
  have hc := md_cast n hT
  have hm := Int.emod_add_mul_ediv n (ten d)
  have he : n - (md n (ten d) : Int) = (ten d : Int) * (n / (ten d : Int)) := by omega
  unfold lowI
  rw [he, Int.mul_tdiv_cancel_left _ (by omega)]
  constructor
  · exact Int.le_ediv_of_mul_le (by omega) (by
      have : (-1000000000 : Int) * (ten d : Int) ≤ -1000000000 * 1 := Int.mul_le_mul_of_nonpos_left (by omega) (by omega)
      omega)
  · exact Int.le_of_lt_add_one (Int.ediv_lt_of_lt_mul (by omega) (by
      have : (1000000000 + 1 : Int) * 1 ≤ (1000000000 + 1) * (ten d : Int) := Int.mul_le_mul_of_nonneg_left (by omega) (by omega)
      omega))
theorem md2 (n : Int) : md n 2 = 0 ∨ md n 2 = 1 := by have := md_lt n (show 1 ≤ 2 by omega); omega
theorem round_bd {n : Int} (h : -1000000000 ≤ n ∧ n ≤ 1000000000) (d : Nat) (y : Int) : -1000000000 ≤ roundI n d y ∧ roundI n d y ≤ 1000000001 := by
  have := low_bd h d
  have := md2 (lowI n d)
  unfold roundI
  split
  · omega
  · split
    · omega
    · split
      · split <;> omega
      · omega


theorem low_cases {n : Int} {d : Nat} {y : Int} (hy : 0 ≤ y ∧ y ≤ 2) :
    ((y = 0 ∨ (2 * (md n (ten d) : Int) < (ten d : Int))) ∧ roundI n d y = lowI n d) ∨
    (y ≠ 0 ∧ (ten d : Int) < 2 * (md n (ten d) : Int) ∧ roundI n d y = lowI n d + 1) ∨
    (y = 1 ∧ 2 * (md n (ten d) : Int) = (ten d : Int) ∧ n < 0 ∧ roundI n d y = lowI n d) ∨
    (y = 1 ∧ 2 * (md n (ten d) : Int) = (ten d : Int) ∧ 0 < n ∧ roundI n d y = lowI n d + 1) ∨
    (y = 2 ∧ 2 * (md n (ten d) : Int) = (ten d : Int) ∧ roundI n d y = lowI n d + (md (lowI n d) 2 : Int)) := by
  by_cases h1 : y = 0 ∨ 2 * md n (ten d) < ten d
  · exact .inl ⟨h1.imp id (fun h => by omega), by simp only [roundI, if_pos h1]⟩
  · by_cases h2 : ten d < 2 * md n (ten d)
    · exact .inr (.inl ⟨fun e => h1 (.inl e), by omega, by simp only [roundI, if_neg h1, if_pos h2]⟩)
    · have he : 2 * (md n (ten d) : Int) = (ten d : Int) := by omega
      by_cases h3 : y = 1
      · by_cases h4 : n < 0
        · exact .inr (.inr (.inl ⟨h3, he, h4, by simp only [roundI, if_neg h1, if_neg h2, if_pos h3, if_pos h4]⟩))
        · refine .inr (.inr (.inr (.inl ⟨h3, he, ?_, by simp only [roundI, if_neg h1, if_neg h2, if_pos h3, if_neg h4]⟩)))
          have h0 : n ≠ 0 := by
            intro e
            subst e
            have hz : md 0 (ten d) = 0 := by simp [md]
            have := ten_pos d
            omega
          omega
      · exact .inr (.inr (.inr (.inr ⟨by omega, he, by simp only [roundI, if_neg h1, if_neg h2, if_neg h3]⟩)))



def rtOk (l : List Int) (d y : Int) : Bool := tableOk l && wayOk d y
def rtL (l : List Int) (d y : Int) : List Int := if rtOk l d y = true then gen (fun i => roundI (at_ l i) d.toNat y) l.length else []
theorem rt_no {l : List Int} {d y : Int} (h : tableOk l = false ∨ wayOk d y = false) : rtOk l d y = false ∧ rtL l d y = [] := by
  have : rtOk l d y = false := by rcases h with h | h <;> simp [rtOk, h]
  exact ⟨this, by simp [rtL, this]⟩
theorem rt_yes {l : List Int} {d : Nat} {y : Int} (h1 : tableOk l = true) (h2 : wayOk d y = true) : rtOk l d y = true ∧ rtL l d y = gen (fun i => roundI (at_ l i) d y) l.length := by
  have : rtOk l d y = true := by simp [rtOk, h1, h2]
  exact ⟨this, by simp [rtL, this]⟩
theorem wayOk_true {d y : Int} : wayOk d y = true ↔ (0 ≤ d ∧ d ≤ 6) ∧ 0 ≤ y ∧ y ≤ 2 := by simp [wayOk, inB, and_assoc]
def rtTo (l : List Int) (d : Nat) (y : Int) (k : Nat) : List Int := gen (fun i => roundI (at_ l i) d y) k
theorem rtTo_length (l : List Int) (d : Nat) (y : Int) (k : Nat) : (rtTo l d y k).length = k := gen_length _ _
theorem rtTo_succ (l : List Int) (d : Nat) (y : Int) (k : Nat) : rtTo l d y (k + 1) = rtTo l d y k ++ [roundI (at_ l k) d y] := gen_succ _ _



end Go.Proofs.Ythkpgcociklddaa
