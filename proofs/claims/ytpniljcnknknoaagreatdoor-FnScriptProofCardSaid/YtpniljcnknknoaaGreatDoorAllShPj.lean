import Derived.Test.YtpniljcnknknoaaGreatDoorJob
import Derived.Test.YtpniljcnknknoaaGreatDoorJobC
import Derived.Test.YtpniljcnknknoaaGreatDoorTxt
import Derived.Lib.Repeat
import Derived.Test.YtpniljcnknknoaaGreatDoorStrs
import Derived.Test.YtpniljcnknknoaaGreatDoorShelf
import Derived.LoopN
import Derived.Deep.RegionHeld3
import Derived.Lib.JoinLaws
import Derived.Test.YtpniljcnknknoaaGreatDoorFmt
import Derived.Lib.SplitLaws
import Derived.Lib.AtoiErr
import Derived.Test.YtpniljcnknknoaaGreatDoorShiftC
import Derived.Lib.AtoiErrMem
import Derived.Lib.AtoiBound
import Derived.WalkSpells
import Derived.Test.YtpniljcnknknoaaGreatDoorJobB
import Derived.Test.YtpniljcnknknoaaGreatDoorInts
import Derived.Test.YtpniljcnknknoaaGreatDoorJdB
/-
  Contracts of RoundTable (both).
-/
namespace Go.Proofs.YtpniljcnknknoaaGreatDoor
open Go.RowKit
set_option linter.unusedVariables false
set_option linter.unusedSimpArgs false
set_option maxRecDepth 100000
attribute [local go_sem ↓] Go.wp_at_zero Go.wp_at_succ

/-- A number without its last digits, rounded down; and rounded in a way. -/
def lowI (n : Int) (d : Nat) : Int := (n - (md n (ten d) : Int)).tdiv (ten d)
def roundI (n : Int) (d : Nat) (y : Int) : Int :=
  if y = 0 ∨ 2 * md n (ten d) < ten d then lowI n d else if ten d < 2 * md n (ten d) then lowI n d + 1
  else if y = 1 then (if n < 0 then lowI n d else lowI n d + 1) else lowI n d + (md (lowI n d) 2 : Int)
theorem low_bd {n : Int} (h : -1000000000 ≤ n ∧ n ≤ 1000000000) (d : Nat) : -1000000000 ≤ lowI n d ∧ lowI n d ≤ 1000000000 := by
  have hT := ten_pos d
  have hc := md_cast n hT
  have hm := Int.emod_add_mul_ediv n (ten d)
  have he : n - (md n (ten d) : Int) = (ten d : Int) * (n / (ten d : Int)) := by omega
  unfold lowI
  rw [he, Int.mul_tdiv_cancel_left _ (by omega)]
  constructor
  · exact Int.le_ediv_of_mul_le (by omega) (by
      have : (-1000000000 : Int) * (ten d : Int) ≤ -1000000000 * 1 := Int.mul_le_mul_of_nonpos_left (by omega) (by omega)
      omega)
  · exact Int.le_of_lt_add_one (Int.ediv_lt_of_lt_mul (by omega) (by
      have : (1000000000 + 1 : Int) * 1 ≤ (1000000000 + 1) * (ten d : Int) := Int.mul_le_mul_of_nonneg_left (by omega) (by omega)
      omega))
theorem md2 (n : Int) : md n 2 = 0 ∨ md n 2 = 1 := by have := md_lt n (show 1 ≤ 2 by omega); omega
theorem round_bd {n : Int} (h : -1000000000 ≤ n ∧ n ≤ 1000000000) (d : Nat) (y : Int) : -1000000000 ≤ roundI n d y ∧ roundI n d y ≤ 1000000001 := by
  have := low_bd h d
  have := md2 (lowI n d)
  unfold roundI
  split
  · omega
  · split
    · omega
    · split
      · split <;> omega
      · omega

set_option maxHeartbeats 1000000 in
theorem l4Rest_any (n : Int) (M : Nat) (w : World) (hM : 1 ≤ M ∧ M ≤ 1000000000000) :
    Calls Tryz.prog 257 #[.int .i64 n, .int .i64 M] w fun e w' => e = .returned (.int .i64 (md n M)) ∧ w = w' := by
  have hlt := md_lt n hM.1
  obtain ⟨e1, e2⟩ := tmod_back hlt
  have e3 : (((md n M : Nat) : Int) - (M : Int) + (M : Int)).tmod M = md n M := by rw [Int.sub_add_cancel]; exact e2
  have hT0 : ((M : Nat) : Int) ≠ 0 := by omega
  rcases tmod_md n hM.1 with ht | ⟨ht, hneg⟩
  all_goals
    go_enter Tryz.func257, Tryz.ntmps257
    go_wp2
    go_ret
    first
      | exact ⟨rfl, rfl⟩
      | exact ⟨ret_int (by first | exact e1 | exact e3 | (rw [Int.emod_eq_of_lt (by omega) (by omega)]; omega) | (rw [Int.add_emod_right]; exact Int.emod_eq_of_lt (by omega) (by omega))), rfl⟩

theorem low_cases {n : Int} {d : Nat} {y : Int} (hy : 0 ≤ y ∧ y ≤ 2) :
    ((y = 0 ∨ (2 * (md n (ten d) : Int) < (ten d : Int))) ∧ roundI n d y = lowI n d) ∨
    (y ≠ 0 ∧ (ten d : Int) < 2 * (md n (ten d) : Int) ∧ roundI n d y = lowI n d + 1) ∨
    (y = 1 ∧ 2 * (md n (ten d) : Int) = (ten d : Int) ∧ n < 0 ∧ roundI n d y = lowI n d) ∨
    (y = 1 ∧ 2 * (md n (ten d) : Int) = (ten d : Int) ∧ 0 < n ∧ roundI n d y = lowI n d + 1) ∨
    (y = 2 ∧ 2 * (md n (ten d) : Int) = (ten d : Int) ∧ roundI n d y = lowI n d + (md (lowI n d) 2 : Int)) := by
  by_cases h1 : y = 0 ∨ 2 * md n (ten d) < ten d
  · exact .inl ⟨h1.imp id (fun h => by omega), by simp only [roundI, if_pos h1]⟩
  · by_cases h2 : ten d < 2 * md n (ten d)
    · exact .inr (.inl ⟨fun e => h1 (.inl e), by omega, by simp only [roundI, if_neg h1, if_pos h2]⟩)
    · have he : 2 * (md n (ten d) : Int) = (ten d : Int) := by omega
      by_cases h3 : y = 1
      · by_cases h4 : n < 0
        · exact .inr (.inr (.inl ⟨h3, he, h4, by simp only [roundI, if_neg h1, if_neg h2, if_pos h3, if_pos h4]⟩))
        · refine .inr (.inr (.inr (.inl ⟨h3, he, ?_, by simp only [roundI, if_neg h1, if_neg h2, if_pos h3, if_neg h4]⟩)))
          have h0 : n ≠ 0 := by
            intro e
            subst e
            have hz : md 0 (ten d) = 0 := by simp [md]
            have := ten_pos d
            omega
          omega
      · exact .inr (.inr (.inr (.inr ⟨by omega, he, by simp only [roundI, if_neg h1, if_neg h2, if_neg h3]⟩)))

theorem l4Rest_two (n : Int) (w : World) : Calls Tryz.prog 257 #[.int .i64 n, .int .i64 2] w fun e w' => e = .returned (.int .i64 (md n 2)) ∧ w = w' := l4Rest_any n 2 w (by omega)
set_option maxHeartbeats 4000000 in
theorem l6Round_any (n : Int) (d : Nat) (y : Int) (w : World) (hn : -1000000000 ≤ n ∧ n ≤ 1000000000) (hd : d ≤ 6) (hy : 0 ≤ y ∧ y ≤ 2) :
    Calls Tryz.prog 227 #[.int .i64 n, .int .i64 d, .int .i64 y] w fun e w' => e = .returned (.int .i64 (roundI n d y)) ∧ w = w' := by
  have hT := ten_le (show d ≤ 12 by omega)
  have hT1 := ten_pos d
  have hlt := md_lt n hT1
  have hl := low_bd hn d
  have hT0 : ¬ ((ten d : Nat) : Int) = 0 := by omega
  have h2 := md2 (lowI n d)
  have hdv : (n - (md n (ten d) : Int)).tdiv (ten d) = lowI n d := rfl
  have cs := low_cases (n := n) (d := d) hy
  rcases cs with ⟨h, hr⟩ | ⟨hy0, h, hr⟩ | ⟨rfl, h, hn0, hr⟩ | ⟨rfl, h, hn0, hr⟩ | ⟨rfl, h, hr⟩
  · have HR := Lib.hid hr
    clear hr
    by_cases hy0 : y = 0
    · subst hy0
      go_enter Tryz.func227, Tryz.ntmps227
      go_wp2_with (first | (go_at_call 214; refine (l1Ten_any d _ (by omega)).mono ?_; rintro e w' ⟨rfl, rfl⟩) | (go_at_call 257; first | ((with_reducible refine (l4Rest_any n (ten d) _ ⟨hT1, hT⟩).mono ?_); rintro e w' ⟨rfl, rfl⟩) | (refine (l4Rest_two (lowI n d) _).mono ?_; rintro e w' ⟨rfl, rfl⟩)))
      go_ret
      exact ⟨ret_int (by rw [HR.out]; try (first | rfl | (rw [H2.out]; rfl) | (rw [IntWalk.wrap64_in _ (by have := H2.out; omega), H2.out]))), rfl⟩
    · have hyb : (y == 0) = false := by simp [hy0]
      have h' : 2 * (md n (ten d) : Int) < (ten d : Int) := by omega
      clear h
      go_enter Tryz.func227, Tryz.ntmps227
      go_wp2_with (first | (go_at_call 214; refine (l1Ten_any d _ (by omega)).mono ?_; rintro e w' ⟨rfl, rfl⟩) | (go_at_call 257; first | ((with_reducible refine (l4Rest_any n (ten d) _ ⟨hT1, hT⟩).mono ?_); rintro e w' ⟨rfl, rfl⟩) | (refine (l4Rest_two (lowI n d) _).mono ?_; rintro e w' ⟨rfl, rfl⟩)))
      go_ret
      exact ⟨ret_int (by rw [HR.out]; try (first | rfl | (rw [H2.out]; rfl) | (rw [IntWalk.wrap64_in _ (by have := H2.out; omega), H2.out]))), rfl⟩
  · have HR := Lib.hid hr
    clear hr
    have hyb : (y == 0) = false := by simp [hy0]
    have hnl : ¬ 2 * (md n (ten d) : Int) < (ten d : Int) := by omega
    go_enter Tryz.func227, Tryz.ntmps227
    go_wp2_with (first | (go_at_call 214; refine (l1Ten_any d _ (by omega)).mono ?_; rintro e w' ⟨rfl, rfl⟩) | (go_at_call 257; first | ((with_reducible refine (l4Rest_any n (ten d) _ ⟨hT1, hT⟩).mono ?_); rintro e w' ⟨rfl, rfl⟩) | (refine (l4Rest_two (lowI n d) _).mono ?_; rintro e w' ⟨rfl, rfl⟩)))
    go_ret
    exact ⟨ret_int (by rw [HR.out]; try (first | rfl | (rw [H2.out]; rfl) | (rw [IntWalk.wrap64_in _ (by have := H2.out; omega), H2.out]))), rfl⟩
  · have HR := Lib.hid hr
    clear hr
    have hnl : ¬ 2 * (md n (ten d) : Int) < (ten d : Int) := by omega
    have hng : ¬ (ten d : Int) < 2 * (md n (ten d) : Int) := by omega
    have hn1 : ¬ 0 < n := by omega
    clear h
    go_enter Tryz.func227, Tryz.ntmps227
    go_wp2_with (first | (go_at_call 214; refine (l1Ten_any d _ (by omega)).mono ?_; rintro e w' ⟨rfl, rfl⟩) | (go_at_call 257; first | ((with_reducible refine (l4Rest_any n (ten d) _ ⟨hT1, hT⟩).mono ?_); rintro e w' ⟨rfl, rfl⟩) | (refine (l4Rest_two (lowI n d) _).mono ?_; rintro e w' ⟨rfl, rfl⟩)))
    go_ret
    exact ⟨ret_int (by rw [HR.out]; try (first | rfl | (rw [H2.out]; rfl) | (rw [IntWalk.wrap64_in _ (by have := H2.out; omega), H2.out]))), rfl⟩
  · have HR := Lib.hid hr
    clear hr
    have hnl : ¬ 2 * (md n (ten d) : Int) < (ten d : Int) := by omega
    have hng : ¬ (ten d : Int) < 2 * (md n (ten d) : Int) := by omega
    have hn1 : ¬ n < 0 := by omega
    clear h
    go_enter Tryz.func227, Tryz.ntmps227
    go_wp2_with (first | (go_at_call 214; refine (l1Ten_any d _ (by omega)).mono ?_; rintro e w' ⟨rfl, rfl⟩) | (go_at_call 257; first | ((with_reducible refine (l4Rest_any n (ten d) _ ⟨hT1, hT⟩).mono ?_); rintro e w' ⟨rfl, rfl⟩) | (refine (l4Rest_two (lowI n d) _).mono ?_; rintro e w' ⟨rfl, rfl⟩)))
    go_ret
    exact ⟨ret_int (by rw [HR.out]; try (first | rfl | (rw [H2.out]; rfl) | (rw [IntWalk.wrap64_in _ (by have := H2.out; omega), H2.out]))), rfl⟩
  · have HR := Lib.hid hr
    clear hr
    have hnl : ¬ 2 * (md n (ten d) : Int) < (ten d : Int) := by omega
    have hng : ¬ (ten d : Int) < 2 * (md n (ten d) : Int) := by omega
    clear h
    rcases h2 with h2 | h2
    all_goals
      have H2 := Lib.hid h2
      rw [h2] at HR
      first
        | have hqb : (((md (lowI n d) 2 : Nat) : Int) == 0) = true := by rw [h2]; rfl
        | have hqb : (((md (lowI n d) 2 : Nat) : Int) == 0) = false := by rw [h2]; rfl
      clear h2
      go_enter Tryz.func227, Tryz.ntmps227
      go_wp2_with (first | (go_at_call 214; refine (l1Ten_any d _ (by omega)).mono ?_; rintro e w' ⟨rfl, rfl⟩) | (go_at_call 257; first | ((with_reducible refine (l4Rest_any n (ten d) _ ⟨hT1, hT⟩).mono ?_); rintro e w' ⟨rfl, rfl⟩) | (refine (l4Rest_two (lowI n d) _).mono ?_; rintro e w' ⟨rfl, rfl⟩)))
      go_ret
      exact ⟨ret_int (by rw [HR.out]; try (first | rfl | (rw [H2.out]; rfl) | (rw [IntWalk.wrap64_in _ (by have := H2.out; omega), H2.out]))), rfl⟩

theorem modulo_two (n : Int) (w : World) : Calls Tryz.prog 141 #[.int .i64 n, .int .i64 2] w fun e w' => e = .returned (.int .i64 (md n 2)) ∧ w = w' := modulo_any n 2 w (by omega)
set_option maxHeartbeats 4000000 in
theorem roundEntry_any (n : Int) (d : Nat) (y : Int) (w : World) (hn : -1000000000 ≤ n ∧ n ≤ 1000000000) (hd : d ≤ 6) (hy : 0 ≤ y ∧ y ≤ 2) :
    Calls Tryz.prog 72 #[.int .i64 n, .int .i64 d, .int .i64 y] w fun e w' => e = .returned (.tuple #[.int .i64 (roundI n d y), .bool true]) ∧ w = w' := by
  have hT := ten_le (show d ≤ 12 by omega)
  have hT1 := ten_pos d
  have hlt := md_lt n hT1
  have hl := low_bd hn d
  have hT0 : ¬ ((ten d : Nat) : Int) = 0 := by omega
  have h2 := md2 (lowI n d)
  have hdv : (n - (md n (ten d) : Int)).tdiv (ten d) = lowI n d := rfl
  have cs := low_cases (n := n) (d := d) hy
  have hw1 : inB n (-1000000000) 1000000000 = true := inB_true.2 hn
  have hw2 : wayOk d y = true := by simp [wayOk, inB]; omega
  rcases cs with ⟨h, hr⟩ | ⟨hy0, h, hr⟩ | ⟨rfl, h, hn0, hr⟩ | ⟨rfl, h, hn0, hr⟩ | ⟨rfl, h, hr⟩
  · have HR := Lib.hid hr
    clear hr
    by_cases hy0 : y = 0
    · subst hy0
      go_enter Tryz.func72, Tryz.ntmps72
      go_wp2_with (first | (go_at_call 110; refine (within_any _ _ _ (by omega) (by omega)).mono ?_; rintro e w' ⟨rfl, rfl⟩) | (go_at_call 71; refine (rounding_any _ _ _).mono ?_; rintro e w' ⟨rfl, rfl⟩) | (go_at_call 140; refine (power_any d _ (by omega)).mono ?_; rintro e w' ⟨rfl, rfl⟩) | (go_at_call 141; first | ((with_reducible refine (modulo_any n (ten d) _ ⟨hT1, hT⟩).mono ?_); rintro e w' ⟨rfl, rfl⟩) | (refine (modulo_two (lowI n d) _).mono ?_; rintro e w' ⟨rfl, rfl⟩)))
      go_ret2
      exact ⟨by rw [HR.out]; first | rfl | (rw [Int.natCast_zero, Int.add_zero]; rfl), rfl⟩
    · have hyb : (y == 0) = false := by simp [hy0]
      have h' : 2 * (md n (ten d) : Int) < (ten d : Int) := by omega
      clear h
      go_enter Tryz.func72, Tryz.ntmps72
      go_wp2_with (first | (go_at_call 110; refine (within_any _ _ _ (by omega) (by omega)).mono ?_; rintro e w' ⟨rfl, rfl⟩) | (go_at_call 71; refine (rounding_any _ _ _).mono ?_; rintro e w' ⟨rfl, rfl⟩) | (go_at_call 140; refine (power_any d _ (by omega)).mono ?_; rintro e w' ⟨rfl, rfl⟩) | (go_at_call 141; first | ((with_reducible refine (modulo_any n (ten d) _ ⟨hT1, hT⟩).mono ?_); rintro e w' ⟨rfl, rfl⟩) | (refine (modulo_two (lowI n d) _).mono ?_; rintro e w' ⟨rfl, rfl⟩)))
      go_ret2
      exact ⟨by rw [HR.out]; first | rfl | (rw [Int.natCast_zero, Int.add_zero]; rfl), rfl⟩
  · have HR := Lib.hid hr
    clear hr
    have hyb : (y == 0) = false := by simp [hy0]
    have hnl : ¬ 2 * (md n (ten d) : Int) < (ten d : Int) := by omega
    go_enter Tryz.func72, Tryz.ntmps72
    go_wp2_with (first | (go_at_call 110; refine (within_any _ _ _ (by omega) (by omega)).mono ?_; rintro e w' ⟨rfl, rfl⟩) | (go_at_call 71; refine (rounding_any _ _ _).mono ?_; rintro e w' ⟨rfl, rfl⟩) | (go_at_call 140; refine (power_any d _ (by omega)).mono ?_; rintro e w' ⟨rfl, rfl⟩) | (go_at_call 141; first | ((with_reducible refine (modulo_any n (ten d) _ ⟨hT1, hT⟩).mono ?_); rintro e w' ⟨rfl, rfl⟩) | (refine (modulo_two (lowI n d) _).mono ?_; rintro e w' ⟨rfl, rfl⟩)))
    go_ret2
    exact ⟨by rw [HR.out]; first | rfl | (rw [Int.natCast_zero, Int.add_zero]; rfl), rfl⟩
  · have HR := Lib.hid hr
    clear hr
    have hnl : ¬ 2 * (md n (ten d) : Int) < (ten d : Int) := by omega
    have hng : ¬ (ten d : Int) < 2 * (md n (ten d) : Int) := by omega
    have hn1 : ¬ 0 < n := by omega
    clear h
    go_enter Tryz.func72, Tryz.ntmps72
    go_wp2_with (first | (go_at_call 110; refine (within_any _ _ _ (by omega) (by omega)).mono ?_; rintro e w' ⟨rfl, rfl⟩) | (go_at_call 71; refine (rounding_any _ _ _).mono ?_; rintro e w' ⟨rfl, rfl⟩) | (go_at_call 140; refine (power_any d _ (by omega)).mono ?_; rintro e w' ⟨rfl, rfl⟩) | (go_at_call 141; first | ((with_reducible refine (modulo_any n (ten d) _ ⟨hT1, hT⟩).mono ?_); rintro e w' ⟨rfl, rfl⟩) | (refine (modulo_two (lowI n d) _).mono ?_; rintro e w' ⟨rfl, rfl⟩)))
    go_ret2
    exact ⟨by rw [HR.out]; first | rfl | (rw [Int.natCast_zero, Int.add_zero]; rfl), rfl⟩
  · have HR := Lib.hid hr
    clear hr
    have hnl : ¬ 2 * (md n (ten d) : Int) < (ten d : Int) := by omega
    have hng : ¬ (ten d : Int) < 2 * (md n (ten d) : Int) := by omega
    have hn1 : ¬ n < 0 := by omega
    clear h
    go_enter Tryz.func72, Tryz.ntmps72
    go_wp2_with (first | (go_at_call 110; refine (within_any _ _ _ (by omega) (by omega)).mono ?_; rintro e w' ⟨rfl, rfl⟩) | (go_at_call 71; refine (rounding_any _ _ _).mono ?_; rintro e w' ⟨rfl, rfl⟩) | (go_at_call 140; refine (power_any d _ (by omega)).mono ?_; rintro e w' ⟨rfl, rfl⟩) | (go_at_call 141; first | ((with_reducible refine (modulo_any n (ten d) _ ⟨hT1, hT⟩).mono ?_); rintro e w' ⟨rfl, rfl⟩) | (refine (modulo_two (lowI n d) _).mono ?_; rintro e w' ⟨rfl, rfl⟩)))
    go_ret2
    exact ⟨by rw [HR.out]; first | rfl | (rw [Int.natCast_zero, Int.add_zero]; rfl), rfl⟩
  · have HR := Lib.hid hr
    clear hr
    have hnl : ¬ 2 * (md n (ten d) : Int) < (ten d : Int) := by omega
    have hng : ¬ (ten d : Int) < 2 * (md n (ten d) : Int) := by omega
    clear h
    rcases h2 with h2 | h2
    all_goals
      have H2 := Lib.hid h2
      rw [h2] at HR
      first
        | have hqb : (((md (lowI n d) 2 : Nat) : Int) == 0) = true := by rw [h2]; rfl
        | have hqb : (((md (lowI n d) 2 : Nat) : Int) == 0) = false := by rw [h2]; rfl
      clear h2
      go_enter Tryz.func72, Tryz.ntmps72
      go_wp2_with (first | (go_at_call 110; refine (within_any _ _ _ (by omega) (by omega)).mono ?_; rintro e w' ⟨rfl, rfl⟩) | (go_at_call 71; refine (rounding_any _ _ _).mono ?_; rintro e w' ⟨rfl, rfl⟩) | (go_at_call 140; refine (power_any d _ (by omega)).mono ?_; rintro e w' ⟨rfl, rfl⟩) | (go_at_call 141; first | ((with_reducible refine (modulo_any n (ten d) _ ⟨hT1, hT⟩).mono ?_); rintro e w' ⟨rfl, rfl⟩) | (refine (modulo_two (lowI n d) _).mono ?_; rintro e w' ⟨rfl, rfl⟩)))
      go_ret2
      exact ⟨by rw [HR.out]; first | rfl | (rw [Int.natCast_zero, Int.add_zero]; rfl), rfl⟩

def rtOk (l : List Int) (d y : Int) : Bool := tableOk l && wayOk d y
def rtL (l : List Int) (d y : Int) : List Int := if rtOk l d y = true then gen (fun i => roundI (at_ l i) d.toNat y) l.length else []
theorem rt_no {l : List Int} {d y : Int} (h : tableOk l = false ∨ wayOk d y = false) : rtOk l d y = false ∧ rtL l d y = [] := by
  have : rtOk l d y = false := by rcases h with h | h <;> simp [rtOk, h]
  exact ⟨this, by simp [rtL, this]⟩
theorem rt_yes {l : List Int} {d : Nat} {y : Int} (h1 : tableOk l = true) (h2 : wayOk d y = true) : rtOk l d y = true ∧ rtL l d y = gen (fun i => roundI (at_ l i) d y) l.length := by
  have : rtOk l d y = true := by simp [rtOk, h1, h2]
  exact ⟨this, by simp [rtL, this]⟩
theorem wayOk_true {d y : Int} : wayOk d y = true ↔ (0 ≤ d ∧ d ≤ 6) ∧ 0 ≤ y ∧ y ≤ 2 := by simp [wayOk, inB, and_assoc]
def rtTo (l : List Int) (d : Nat) (y : Int) (k : Nat) : List Int := gen (fun i => roundI (at_ l i) d y) k
theorem rtTo_length (l : List Int) (d : Nat) (y : Int) (k : Nat) : (rtTo l d y k).length = k := gen_length _ _
theorem rtTo_succ (l : List Int) (d : Nat) (y : Int) (k : Nat) : rtTo l d y (k + 1) = rtTo l d y k ++ [roundI (at_ l k) d y] := gen_succ _ _

set_option maxHeartbeats 2000000 in
theorem implRT_any (v : Value) (l : List Int) (d y : Int) (w : World) (hv : Ints w v l) :
    Calls Tryz.prog 21 #[v, .int .i64 d, .int .i64 y] w (IntsQ w (rtL l d y) (rtOk l d y)) := by
  have HV := Lib.hid hv
  obtain ⟨A, c, rfl, hlc, hc, hrd⟩ := hv.open_
  have HR := Lib.hid hrd
  clear hv hrd
  cases ht : tableOk l
  · have HN := Lib.hid (rt_no (d := d) (y := y) (.inl ht))
    go_enter Tryz.func21, Tryz.ntmps21
    go_wp2_with (first | (go_at_call 31; refine (implTable_any _ _ _ HV.out).mono ?_; rintro e w' ⟨rfl, rfl⟩) | (go_at_call 71; refine (rounding_any _ _ _).mono ?_; rintro e w' ⟨rfl, rfl⟩))
    go_ret2
    exact ⟨_, by rw [HN.out.1]; rfl, by rw [HN.out.2]; exact Own.nil_ _ _, Below.refl _ _⟩
  · cases hw : wayOk d y
    · have HN := Lib.hid (rt_no (l := l) (.inr hw))
      go_enter Tryz.func21, Tryz.ntmps21
      go_wp2_with (first | (go_at_call 31; refine (implTable_any _ _ _ HV.out).mono ?_; rintro e w' ⟨rfl, rfl⟩) | (go_at_call 71; refine (rounding_any _ _ _).mono ?_; rintro e w' ⟨rfl, rfl⟩))
      go_ret2
      exact ⟨_, by rw [HN.out.1]; rfl, by rw [HN.out.2]; exact Own.nil_ _ _, Below.refl _ _⟩
    · obtain ⟨hd, hy⟩ := wayOk_true.1 hw
      obtain ⟨d, rfl⟩ : ∃ k : Nat, d = k := ⟨d.toNat, by omega⟩
      obtain ⟨l1, l60, hb⟩ := tableOk_true ht
      have HN := Lib.hid (rt_yes ht hw)
      have HB := Lib.hid hb
      have hmk := fun W => Tryz.mkInts l.length (by omega) W
      clear hb
      go_enter Tryz.func21, Tryz.ntmps21
      go_wp2_with (first | (go_at_call 31; refine (implTable_any _ _ _ HV.out).mono ?_; rintro e w' ⟨rfl, rfl⟩) | (go_at_call 71; refine (rounding_any _ _ _).mono ?_; rintro e w' ⟨rfl, rfl⟩))
      clear ht hw
      go_loopw [25] (fun i wr => ∃ (k : Nat) (cs : List Value), k ≤ l.length ∧ i = .int .i64 k ∧ Blk wr w.heap.size 3 cs ∧ cs.length = l.length ∧ (∀ j, j < k → cs[j]? = some (.int .i64 (roundI (at_ l j) d y))) ∧ Below w.heap.size w wr)
        (fun i _ => l.length - (intOf i).toNat)
      case atStart => exact ⟨0, _, Nat.zero_le _, rfl, Blk.new _ _ _, reps_length _ _, fun j hj => absurd hj (by omega), (Below.refl _ _).alloc (Nat.le_refl _) _⟩
      case round =>
        obtain ⟨k, cs, hk, rfl, hblk, hcl, hcs, hbel⟩ := hrel
        have HO := Lib.hid (And.intro hcl (And.intro hcs hbel))
        have hz := hbel.size
        clear hcl hcs
        by_cases hlt : k < l.length
        · obtain ⟨b, o, rfl, hbb, hcell⟩ := HR.out.ints (by omega)
          have ck : wr.cell? ⟨b, o + k, none⟩ = some (.int .i64 (at_ l k)) := (hbel.cell (by exact hbb)).trans (hcell k hlt)
          have c3 : wr.cell? ⟨w.heap.size, k, none⟩ = some (cs[k]'(by rw [HO.out.1]; exact hlt)) := by rw [hblk.cell]; exact List.getElem?_eq_getElem _
          have hfw := hblk.frozen k
          have hbk := HB.out k hlt
          clear hbel hcell
          go_wp2_with fail
          refine (roundEntry_any (at_ l k) d y _ hbk (by omega) hy).mono ?_
          rintro e w3 ⟨rfl, rfl⟩
          go_wp2
          go_roundw
          case rel => exact ⟨k + 1, _, by omega, by go_num, hblk.set_ k _, by rw [List.length_set]; exact HO.out.1, fun j hj => by
            by_cases e : j = k
            · subst e; rw [List.getElem?_set_self (by rw [HO.out.1]; exact hlt)]
            · rw [List.getElem?_set_ne (by omega)]; exact HO.out.2.1 j (by omega), HO.out.2.2.setCell (Nat.le_refl _) _⟩
          case measure => simp [intOf]; omega
        · have hnl : k = l.length := by omega
          subst hnl
          have OW := Lib.hid (own_gen (f := fun j => roundI (at_ l j) d y) (Nat.le_refl w.heap.size) hblk HO.out.1 (by omega) HO.out.2.1 (fun j hj => by have := round_bd (HB.out j hj) d y; omega))
          clear hbel
          go_wp2
          go_ret2
          exact ⟨_, by rw [HN.out.1]; rfl, by rw [HN.out.2]; exact OW.out, HO.out.2.2⟩

set_option maxHeartbeats 2000000 in
theorem specRT_any (v : Value) (l : List Int) (d y : Int) (w : World) (hv : Ints w v l) :
    Calls Tryz.prog 179 #[v, .int .i64 d, .int .i64 y] w (IntsQ w (rtL l d y) (rtOk l d y)) := by
  have HV := Lib.hid hv
  have OE := Lib.hid (Own.empty w w.heap.size (Nat.le_refl _))
  have HVE := Lib.hid (hv.bel (bel_alloc w (.cells #[] 3)))
  obtain ⟨A, c, rfl, hlc, hc, hrd⟩ := hv.open_
  have HR := Lib.hid hrd
  clear hv hrd
  cases ht : tableOk l
  · have HN := Lib.hid (rt_no (d := d) (y := y) (.inl ht))
    go_enter Tryz.func179, Tryz.ntmps179
    go_wp2_with (first | (go_at_call 68; refine (specTable_any _ _ _ HVE.out).mono ?_; rintro e w' ⟨rfl, rfl⟩) | (go_at_call 176; refine (l6Way_any _ _ _).mono ?_; rintro e w' ⟨rfl, rfl⟩))
    go_ret2
    exact ⟨_, by rw [HN.out.1]; rfl, by rw [HN.out.2]; exact OE.out, bel_alloc _ _⟩
  · cases hw : wayOk d y
    · have HN := Lib.hid (rt_no (l := l) (.inr hw))
      go_enter Tryz.func179, Tryz.ntmps179
      go_wp2_with (first | (go_at_call 68; refine (specTable_any _ _ _ HVE.out).mono ?_; rintro e w' ⟨rfl, rfl⟩) | (go_at_call 176; refine (l6Way_any _ _ _).mono ?_; rintro e w' ⟨rfl, rfl⟩))
      go_ret2
      exact ⟨_, by rw [HN.out.1]; rfl, by rw [HN.out.2]; exact OE.out, bel_alloc _ _⟩
    · obtain ⟨hd, hy⟩ := wayOk_true.1 hw
      obtain ⟨d, rfl⟩ : ∃ k : Nat, d = k := ⟨d.toNat, by omega⟩
      obtain ⟨l1, l60, hb⟩ := tableOk_true ht
      have HN := Lib.hid (rt_yes ht hw)
      have HB := Lib.hid hb
      clear hb
      go_enter Tryz.func179, Tryz.ntmps179
      go_wp2_with (first | (go_at_call 68; refine (specTable_any _ _ _ HVE.out).mono ?_; rintro e w' ⟨rfl, rfl⟩) | (go_at_call 176; refine (l6Way_any _ _ _).mono ?_; rintro e w' ⟨rfl, rfl⟩))
      clear ht hw
      go_loopw [8, 9] (fun r i wr => ∃ k : Nat, k ≤ l.length ∧ i = .int .i64 k ∧ Own wr w.heap.size r (rtTo l d y k) ∧ Below w.heap.size w wr) (fun _ i _ => l.length - (intOf i).toNat)
      case atStart => exact ⟨0, Nat.zero_le _, rfl, OE.out, bel_alloc _ _⟩
      case round =>
        obtain ⟨k, hk, rfl, ho, hbel⟩ := hrel
        have HO := Lib.hid (And.intro ho hbel)
        have hz := hbel.size
        clear ho
        by_cases hlt : k < l.length
        · obtain ⟨b, o, rfl, hbb, hcell⟩ := HR.out.ints (by omega)
          have ck : wr.cell? ⟨b, o + k, none⟩ = some (.int .i64 (at_ l k)) := (hbel.cell (by exact hbb)).trans (hcell k hlt)
          have hbk := HB.out k hlt
          have hrb := round_bd hbk d y
          clear hbel hcell
          go_wp2_with fail
          refine (l6Round_any (at_ l k) d y _ hbk (by omega) hy).mono ?_
          rintro e w3 ⟨rfl, rfl⟩
          go_wp2_with (at_builtin; go_must (refine app_int rfl (.tmp 27) (.tmp 35) (by rfl) w.heap.size _ (rtTo l d y k) (by rfl) (by exact HO.out.1.bel (bel_alloc _ _)) _ _ (roundI (at_ l k) d y) (by rfl) (by exact new_cell _ _ _) (by omega) (by rw [rtTo_length]; omega) (by simp; omega) ?_; intro v1 w5 ho hg _))
          go_roundw
          case rel => exact ⟨k + 1, by omega, by go_num, by rw [rtTo_succ]; exact ho, app_bel (bel_trans HO.out.2 (bel_alloc _ _)) (HO.out.1.bel (bel_alloc _ _)) hg⟩
          case measure => simp [intOf]; omega
        · have hnl : k = l.length := by omega
          subst hnl
          clear hbel
          go_wp2
          go_ret2
          exact ⟨_, by rw [HN.out.1]; rfl, by rw [HN.out.2]; exact HO.out.1, HO.out.2⟩

end Go.Proofs.YtpniljcnknknoaaGreatDoor

/-
  Contracts of JobTable (both), and the mark of a job.
-/
namespace Go.Proofs.YtpniljcnknknoaaGreatDoor
open Go.RowKit
set_option linter.unusedVariables false
set_option linter.unusedSimpArgs false
set_option maxRecDepth 100000
attribute [local go_sem ↓] Go.wp_at_zero Go.wp_at_succ

def jvL (j : JobD) : List Int := valL j.poly j.fr j.ct
def jtOk (j : JobD) : Bool := jobOk j && rtOk (jvL j) j.dg j.wy
def jtL (j : JobD) : List Int := if jobOk j = true then rtL (jvL j) j.dg j.wy else []
theorem jt_no {j : JobD} (h : jobOk j = false) : jtOk j = false ∧ jtL j = [] := by simp [jtOk, jtL, h]
theorem jt_yes {j : JobD} (h : jobOk j = true) : jtOk j = rtOk (jvL j) j.dg j.wy ∧ jtL j = rtL (jvL j) j.dg j.wy := by simp [jtOk, jtL, h]
theorem jobOk_val {j : JobD} (h : jobOk j = true) : valOk j.poly j.fr j.ct = true := by
  obtain ⟨-, h2, h3, -⟩ := jobOk_true.1 h
  cases hv : valOk j.poly j.fr j.ct
  · rw [cap_no (.inl hv)] at h3; omega
  · rfl
theorem rtL_len (l : List Int) (d y : Int) : (rtL l d y).length ≤ l.length := by
  unfold rtL
  split
  · rw [gen_length]; exact Nat.le_refl _
  · simp
theorem jtL_len (j : JobD) : (jtL j).length ≤ 60 := by
  unfold jtL
  split
  · exact Nat.le_trans (rtL_len _ _ _) (valL_len _ _ _)
  · simp

set_option maxHeartbeats 2000000 in
theorem l8Table_any (v : Value) (j : JobD) (w : World) (hv : Ints w v j.poly) (hj : j.In) :
    Calls Tryz.prog 121 #[jobV v j] w (IntsQ w (rtL (jvL j) j.dg j.wy) (rtOk (jvL j) j.dg j.wy)) := by
  have HJ := Lib.hid hj
  have HV := Lib.hid hv
  obtain ⟨A, c, rfl, -, -, -⟩ := hv.open_
  clear hv hj
  have B0 : Below w.heap.size w (w.alloc (.cells (jobC (.slice A j.poly.length c) j).toArray 27)) := bel_alloc w _
  have K1 := Blk.new w 27 (jobC (.slice A j.poly.length c) j)
  unfold jobV
  go_enter Tryz.func121, Tryz.ntmps121
  go_wp2_with fail
  change Calls _ _ _ (w.alloc (.cells (jobC (.slice A j.poly.length c) j).toArray 27)) _
  generalize hW : w.alloc (.cells (jobC (.slice A j.poly.length c) j).toArray 27) = W at K1 B0 ⊢
  clear hW
  refine (specValues_any _ j.poly j.fr j.ct _ (HV.out.bel B0) HJ.out.fr HJ.out.ct).mono ?_
  rintro e w2 ⟨r, rfl, o1, b1⟩
  have HB := Lib.hid (bel_trans B0 b1)
  have HO := Lib.hid o1.ints
  obtain ⟨a0, a1, a2, a3, a4, a5, a6, a7, a8⟩ := (K1.below b1 K1.lt).job
  obtain ⟨A2, c2, rfl, -, -, -⟩ := o1.ints.open_
  clear b1 o1 B0 K1
  go_wp2_with fail
  refine (specRT_any _ (jvL j) j.dg j.wy _ HO.out).mono ?_
  rintro e w3 ⟨r3, rfl, o3, b3⟩
  have H3 := Lib.hid (And.intro (o3.lower (base' := w.heap.size) HB.out.size) (bel_trans HB.out b3))
  clear o3 b3
  go_wp2
  go_ret2
  exact ⟨_, rfl, H3.out.1, H3.out.2⟩

set_option maxHeartbeats 2000000 in
theorem specJT_any (v : Value) (j : JobD) (w : World) (hv : Ints w v j.poly) (hj : j.In) :
    Calls Tryz.prog 49 #[jobV v j] w (IntsQ w (jtL j) (jtOk j)) := by
  have HJ := Lib.hid hj
  have HV := Lib.hid hv
  obtain ⟨A, c, rfl, -, -, -⟩ := hv.open_
  clear hv hj
  have B0 : Below w.heap.size w (w.alloc (.cells (jobC (.slice A j.poly.length c) j).toArray 27)) := bel_alloc w _
  have K1 := Blk.new w 27 (jobC (.slice A j.poly.length c) j)
  unfold jobV
  go_enter Tryz.func49, Tryz.ntmps49
  go_wp2_with fail
  change Calls _ _ #[jobV (.slice A j.poly.length c) j] (w.alloc (.cells (jobC (.slice A j.poly.length c) j).toArray 27)) _
  generalize hW : w.alloc (.cells (jobC (.slice A j.poly.length c) j).toArray 27) = W at K1 B0 ⊢
  clear hW
  refine (specJob_any _ j _ (HV.out.bel B0) HJ.out).mono ?_
  rintro e w2 ⟨rfl, b1⟩
  have HB := Lib.hid (bel_trans B0 b1)
  have HK := Lib.hid (K1.below b1 K1.lt)
  clear b1 B0 K1
  cases hq : jobOk j
  · have HN := Lib.hid (jt_no hq)
    have OE := Lib.hid (Own.empty w2 w.heap.size HB.out.size)
    go_wp2
    go_ret2
    exact ⟨_, by rw [HN.out.1]; rfl, by rw [HN.out.2]; exact OE.out, bel_trans HB.out (bel_alloc _ _)⟩
  · have HN := Lib.hid (jt_yes hq)
    obtain ⟨a0, a1, a2, a3, a4, a5, a6, a7, a8⟩ := HK.out.job
    go_wp2_with fail
    clear a0 a1 a2 a3 a4 a5 a6 a7 a8
    change Calls _ _ #[jobV (.slice A j.poly.length c) j] _ _
    refine (l8Table_any _ j _ (HV.out.bel HB.out) HJ.out).mono ?_
    rintro e w3 ⟨r3, rfl, o3, b3⟩
    have H3 := Lib.hid (And.intro (o3.lower (base' := w.heap.size) HB.out.size) (bel_trans HB.out b3))
    clear o3 b3
    go_wp2
    go_ret2
    exact ⟨_, by rw [HN.out.1]; rfl, by rw [HN.out.2]; exact H3.out.1, H3.out.2⟩

set_option maxHeartbeats 2000000 in
theorem implJT_any (v : Value) (j : JobD) (w : World) (hv : Ints w v j.poly) (hj : j.In) :
    Calls Tryz.prog 12 #[jobV v j] w (IntsQ w (jtL j) (jtOk j)) := by
  have HJ := Lib.hid hj
  have HV := Lib.hid hv
  obtain ⟨A, c, rfl, -, -, -⟩ := hv.open_
  clear hv hj
  have B0 : Below w.heap.size w (w.alloc (.cells (jobC (.slice A j.poly.length c) j).toArray 27)) := bel_alloc w _
  have K1 := Blk.new w 27 (jobC (.slice A j.poly.length c) j)
  unfold jobV
  go_enter Tryz.func12, Tryz.ntmps12
  go_wp2_with fail
  change Calls _ _ #[jobV (.slice A j.poly.length c) j] (w.alloc (.cells (jobC (.slice A j.poly.length c) j).toArray 27)) _
  generalize hW : w.alloc (.cells (jobC (.slice A j.poly.length c) j).toArray 27) = W at K1 B0 ⊢
  clear hW
  refine (implJob_any _ j _ (HV.out.bel B0) HJ.out).mono ?_
  rintro e w2 ⟨rfl, b1⟩
  have HB := Lib.hid (bel_trans B0 b1)
  have HK := Lib.hid (K1.below b1 K1.lt)
  clear b1 B0 K1
  cases hq : jobOk j
  · have HN := Lib.hid (jt_no hq)
    go_wp2
    go_ret2
    exact ⟨_, by rw [HN.out.1]; rfl, by rw [HN.out.2]; exact Own.nil_ _ _, HB.out⟩
  · have HN := Lib.hid (jt_yes hq)
    have hval := jobOk_val hq
    obtain ⟨a0, a1, a2, a3, a4, a5, a6, a7, a8⟩ := HK.out.job
    go_wp2_with fail
    clear a0 a1 a2 a3 a4 a5 a6 a7 a8
    refine (implValues_any _ j.poly j.fr j.ct _ (HV.out.bel HB.out) HJ.out.fr HJ.out.ct).mono ?_
    rintro e w3 ⟨r3, rfl, o3, b3⟩
    rw [hval]
    replace HB := Lib.hid (bel_trans HB.out b3)
    replace HK := Lib.hid (HK.out.below b3 HK.out.lt)
    have HO := Lib.hid o3.ints
    obtain ⟨a0, a1, a2, a3, a4, a5, a6, a7, a8⟩ := HK.out.job
    obtain ⟨A3, c3, rfl, -, -, -⟩ := o3.ints.open_
    clear o3 b3 hval hq
    go_wp2_with fail
    clear a0 a1 a2 a3 a4 a5 a6 a7 a8
    refine (implRT_any _ (jvL j) j.dg j.wy _ HO.out).mono ?_
    rintro e w4 ⟨r4, rfl, o4, b4⟩
    have H3 := Lib.hid (And.intro (o4.lower (base' := w.heap.size) HB.out.size) (bel_trans HB.out b4))
    clear o4 b4
    go_wp2
    go_ret2
    exact ⟨_, by rw [HN.out.1]; rfl, by rw [HN.out.2]; exact H3.out.1, H3.out.2⟩


end Go.Proofs.YtpniljcnknknoaaGreatDoor

/-
  Sheets, plainly: lines, pages and the text of a table.
-/
namespace Go.Proofs.YtpniljcnknknoaaGreatDoor
open Go.RowKit
set_option linter.unusedVariables false
set_option linter.unusedSimpArgs false
set_option maxRecDepth 100000

/-- n spaces. -/
def spS (n : Nat) : ByteArray := ⟨(Lib.repeatL [32] n).toArray⟩
theorem repL_add (l : List UInt8) (a b : Nat) : Lib.repeatL l (a + b) = Lib.repeatL l a ++ Lib.repeatL l b := by
  induction a with
  | zero => rw [Nat.zero_add]; rfl
  | succ n ih => rw [Nat.succ_add]; simp only [Lib.repeatL]; rw [ih, List.append_assoc]
theorem spS_add (a b : Nat) : spS (a + b) = spS a ++ spS b := by unfold spS; rw [repL_add, ba_app]
theorem spS_zero : spS 0 = ⟨#[]⟩ := rfl
theorem spS_size (n : Nat) : (spS n).size = n := by
  unfold spS
  have := Lib.repeatL_length [32] n
  simpa [ByteArray.size] using this
/-- An entry with spaces ahead of it. -/
def padS (W : Nat) (v : Int) : ByteArray := spS (W - (itoaS v).size) ++ itoaS v
theorem padS_size {W : Nat} {v : Int} (h : (itoaS v).size ≤ W) : (padS W v).size = W := by
  unfold padS
  rw [ByteArray.size_append, spS_size]
  omega
/-- How many columns a row has. -/
def colN (L R r : Nat) : Nat := (L - r + R - 1) / R
theorem colN_iff {L R r : Nat} (c : Nat) (hR : 0 < R) : r + c * R < L ↔ c < colN L R r := by
  unfold colN
  rw [Nat.lt_iff_add_one_le (m := c), Nat.le_div_iff_mul_le hR, Nat.add_mul]
  omega
theorem colN_le {L R r : Nat} (hR : 0 < R) : colN L R r ≤ L := by
  rcases Nat.lt_or_ge L (colN L R r) with h | h
  · have := (colN_iff (L := L) (r := r) L hR).2 h
    have := Nat.le_mul_of_pos_right L hR
    omega
  · exact h
def cellL (W : Nat) (e : List Int) (R r c : Nat) : List ByteArray := (List.range c).map fun i => padS W (at_ e (r + i * R))
def lineS (W : Nat) (e : List Int) (R r c : Nat) : ByteArray := joinS (cellL W e R r c) ⟨#[32]⟩
theorem cellL_succ (W : Nat) (e : List Int) (R r c : Nat) : cellL W e R r (c + 1) = cellL W e R r c ++ [padS W (at_ e (r + c * R))] := by
  unfold cellL
  rw [List.range_succ, List.map_append]
  rfl
theorem cellL_len (W : Nat) (e : List Int) (R r c : Nat) : (cellL W e R r c).length = c := by simp [cellL]
theorem lineS_zero (W : Nat) (e : List Int) (R r : Nat) : lineS W e R r 0 = ⟨#[]⟩ := rfl
theorem lineS_one (W : Nat) (e : List Int) (R r : Nat) : lineS W e R r (0 + 1) = lineS W e R r 0 ++ padS W (at_ e (r + 0 * R)) := by
  rw [lineS_zero]
  unfold lineS
  rw [cellL_succ]
  have : cellL W e R r 0 = [] := rfl
  rw [this]
  unfold joinS
  simp [Lib.join_one]
  apply ByteArray.ext
  apply Array.toList_inj.1
  simp
theorem lineS_succ {W : Nat} {e : List Int} {R r c : Nat} (h : 0 < c) : lineS W e R r (c + 1) = lineS W e R r c ++ ⟨#[32]⟩ ++ padS W (at_ e (r + c * R)) := by
  unfold lineS
  rw [cellL_succ]
  unfold joinS
  have hne : cellL W e R r c ≠ [] := fun h' => by have := cellL_len W e R r c; rw [h'] at this; simp at this; omega
  rw [List.map_append, List.map_cons, List.map_nil, join_snoc, if_neg (by simpa using hne)]
  apply ByteArray.ext
  apply Array.toList_inj.1
  simp
/-- The cells of a row up to c all fit. -/
def fitL (W : Nat) (e : List Int) (R r c : Nat) : Prop := ∀ i, i < c → (itoaS (at_ e (r + i * R))).size ≤ W
instance (W : Nat) (e : List Int) (R r c : Nat) : Decidable (fitL W e R r c) := by unfold fitL; infer_instance
theorem cell_size {W : Nat} {e : List Int} {R r c : Nat} (h : fitL W e R r c) : ∀ s ∈ cellL W e R r c, s.size ≤ W := by
  intro s hs
  obtain ⟨i, hi, rfl⟩ := List.mem_map.1 hs
  rw [padS_size (h i (List.mem_range.1 hi))]
  exact Nat.le_refl _
theorem lineS_size {W : Nat} {e : List Int} {R r c : Nat} (h : fitL W e R r c) : (lineS W e R r c).size ≤ (1 + W) * c := by
  have := join_len (sep := ⟨#[32]⟩) (cell_size h)
  rw [cellL_len] at this
  exact this
/-- Row r of the entries of a page, as a line; whether it fits. -/
def rowS (W : Nat) (e : List Int) (R r : Nat) : ByteArray := lineS W e R r (colN e.length R r)
def rowF (W : Nat) (e : List Int) (R r : Nat) : Prop := fitL W e R r (colN e.length R r)
instance (W : Nat) (e : List Int) (R r : Nat) : Decidable (rowF W e R r) := by unfold rowF; infer_instance
theorem rowS_size {W : Nat} {e : List Int} {R r : Nat} (h : rowF W e R r) (hR : 0 < R) (hW : W ≤ 12) (he : e.length ≤ 60) : (rowS W e R r).size ≤ 780 := by
  have h1 := lineS_size h
  have h2 := colN_le (L := e.length) (r := r) hR
  have h3 : (1 + W) * colN e.length R r ≤ 13 * 60 := Nat.mul_le_mul (by omega) (by omega)
  unfold rowS
  omega
def rowsL (W : Nat) (e : List Int) (R n : Nat) : List ByteArray := (List.range n).map fun r => rowS W e R r
theorem rowsL_succ (W : Nat) (e : List Int) (R n : Nat) : rowsL W e R (n + 1) = rowsL W e R n ++ [rowS W e R n] := by
  unfold rowsL
  rw [List.range_succ, List.map_append]
  rfl
theorem rowsL_len (W : Nat) (e : List Int) (R n : Nat) : (rowsL W e R n).length = n := by simp [rowsL]
/-- The rows up to n all fit. -/
def rowsF (W : Nat) (e : List Int) (R n : Nat) : Prop := ∀ r, r < n → rowF W e R r
instance (W : Nat) (e : List Int) (R n : Nat) : Decidable (rowsF W e R n) := by unfold rowsF; infer_instance
theorem rowsF_succ {W : Nat} {e : List Int} {R n : Nat} (h : rowsF W e R n) (h1 : rowF W e R n) : rowsF W e R (n + 1) := by
  intro r hr
  rcases Nat.lt_or_ge r n with h' | h'
  · exact h r h'
  · obtain rfl : r = n := by omega
    exact h1
theorem rowsL_size {W : Nat} {e : List Int} {R n : Nat} (h : rowsF W e R n) (hR : 0 < R) (hW : W ≤ 12) (he : e.length ≤ 60) : ∀ s ∈ rowsL W e R n, s.size ≤ 780 := by
  intro s hs
  obtain ⟨i, hi, rfl⟩ := List.mem_map.1 hs
  exact rowS_size (h i (List.mem_range.1 hi)) hR hW he
/-- The entries of page p. -/
def pgE (l : List Int) (M p : Nat) : List Int := (l.drop (p * M)).take M
theorem pgE_len (l : List Int) (M p : Nat) : (pgE l M p).length = min M (l.length - p * M) := by simp [pgE]
theorem pgE_at (l : List Int) {M p i : Nat} (h : i < M) : at_ (pgE l M p) i = at_ l (p * M + i) := by
  unfold at_ pgE
  simp [List.getElem?_take, List.getElem?_drop, h]
theorem pgE_wf {l : List Int} (h : Wf l) (M p : Nat) : Wf (pgE l M p) := fun n hn => h n (List.mem_of_mem_drop (List.mem_of_mem_take hn))
def pgRows (l : List Int) (R M p : Nat) : Nat := min R (pgE l M p).length
def pgL (W : Nat) (l : List Int) (R M p : Nat) : List ByteArray := rowsL W (pgE l M p) R (pgRows l R M p)
def pgF (W : Nat) (l : List Int) (R M p : Nat) : Prop := rowsF W (pgE l M p) R (pgRows l R M p)
instance (W : Nat) (l : List Int) (R M p : Nat) : Decidable (pgF W l R M p) := by unfold pgF; infer_instance
/-- Lines behind a text, each with its end. -/
def putL (a : ByteArray) (ls : List ByteArray) : ByteArray := ls.foldl (fun a s => a ++ (s ++ ⟨#[10]⟩)) a
theorem putL_snoc (a : ByteArray) (ls : List ByteArray) (s : ByteArray) : putL a (ls ++ [s]) = putL a ls ++ (s ++ ⟨#[10]⟩) := by
  unfold putL
  rw [List.foldl_append]
  rfl
theorem putL_size {a : ByteArray} {ls : List ByteArray} {B : Nat} (h : ∀ s ∈ ls, s.size ≤ B) : (putL a ls).size ≤ a.size + (B + 1) * ls.length := by
  unfold putL
  induction ls generalizing a with
  | nil => simp
  | cons x r ih =>
    have h1 := ih (a := a ++ (x ++ ⟨#[10]⟩)) (fun s hs => h s (by simp [hs]))
    have h2 := h x (by simp)
    rw [List.foldl_cons, List.length_cons, Nat.mul_succ]
    rw [ByteArray.size_append, ByteArray.size_append] at h1
    have : (⟨#[10]⟩ : ByteArray).size = 1 := rfl
    omega
/-- The text of the first p pages. -/
def textN (W : Nat) (l : List Int) (R M : Nat) : Nat → ByteArray
  | 0 => ⟨#[]⟩
  | p + 1 => putL (if p = 0 then textN W l R M p else textN W l R M p ++ ⟨#[10]⟩) (pgL W l R M p)
theorem textN_one (W : Nat) (l : List Int) (R M : Nat) : textN W l R M (0 + 1) = putL (textN W l R M 0) (pgL W l R M 0) := rfl
theorem textN_succ {W : Nat} {l : List Int} {R M p : Nat} (h : 0 < p) : textN W l R M (p + 1) = putL (textN W l R M p ++ ⟨#[10]⟩) (pgL W l R M p) := by
  have : ¬ p = 0 := by omega
  simp [textN, this]
def pgsF (W : Nat) (l : List Int) (R M n : Nat) : Prop := ∀ p, p < n → pgF W l R M p
instance (W : Nat) (l : List Int) (R M n : Nat) : Decidable (pgsF W l R M n) := by unfold pgsF; infer_instance
theorem pgsF_succ {W : Nat} {l : List Int} {R M n : Nat} (h : pgsF W l R M n) (h1 : pgF W l R M n) : pgsF W l R M (n + 1) := by
  intro r hr
  rcases Nat.lt_or_ge r n with h' | h'
  · exact h r h'
  · obtain rfl : r = n := by omega
    exact h1
theorem textN_size {W : Nat} {l : List Int} {R M n : Nat} (h : pgsF W l R M n) (hR : 0 < R) (hR2 : R ≤ 20) (hW : W ≤ 12) (hl : l.length ≤ 60) : (textN W l R M n).size ≤ 20000 * n := by
  induction n with
  | zero => exact Nat.le_refl _
  | succ k ih =>
    have h1 := ih (fun p hp => h p (by omega))
    have h2 := pgE_len l M k
    have h3 := putL_size (a := if k = 0 then textN W l R M k else textN W l R M k ++ ⟨#[10]⟩) (rowsL_size (h k (Nat.lt_succ_self k)) hR hW (by omega))
    rw [rowsL_len] at h3
    have h4 : (780 + 1) * pgRows l R M k ≤ 781 * 20 := Nat.mul_le_mul (by omega) (by unfold pgRows; omega)
    have h5 : (if k = 0 then textN W l R M k else textN W l R M k ++ ⟨#[10]⟩).size ≤ (textN W l R M k).size + 1 := by
      split
      · omega
      · rw [ByteArray.size_append]; exact Nat.le_refl _
    have h6 : textN W l R M (k + 1) = putL (if k = 0 then textN W l R M k else textN W l R M k ++ ⟨#[10]⟩) (pgL W l R M k) := rfl
    rw [h6]
    unfold pgL
    omega
/-- How many pages; whether all of them fit; the text of all pages. -/
def pgN (l : List Int) (M : Nat) : Nat := (l.length + M - 1) / M
theorem pgN_iff {l : List Int} {M : Nat} (p : Nat) (hM : 0 < M) : p * M < l.length ↔ p < pgN l M := by
  have := colN_iff (L := l.length) (r := 0) p hM
  rw [Nat.zero_add] at this
  exact this
theorem pgN_le {l : List Int} {M : Nat} (hM : 0 < M) : pgN l M ≤ l.length := colN_le (r := 0) hM
def shOk (W : Nat) (l : List Int) (R A : Nat) : Bool := decide (pgsF W l R (R * A) (pgN l (R * A)))
def shS (W : Nat) (l : List Int) (R A : Nat) : ByteArray := textN W l R (R * A) (pgN l (R * A))
end Go.Proofs.YtpniljcnknknoaaGreatDoor

/-
  strings.Builder at this program: copyCheck, WriteByte, WriteString (after the Shelf's proofs: BuilderK).
-/
namespace Go.Proofs.YtpniljcnknknoaaGreatDoor
open Go.RowKit
set_option linter.unusedVariables false
set_option linter.unusedSimpArgs false
set_option maxRecDepth 100000

theorem bldSize : (Tryz.prog.info? 82).map (·.size) = some 2 := by kernel_rfl
theorem bldLies : liesAt Tryz.prog Tryz.prog.depth 82 (2 / Tryz.prog.cellsOf 82) 0 82 1 = true := by kernel_rfl
theorem infoByte : (Tryz.prog.info? 5).map (fun i => (i.zero, i.size, i.bytes)) = some (some (.int .u8 0), 1, 1) := by kernel_rfl
set_option maxHeartbeats 1000000 in
theorem cc_used (b : Nat) (w : World) (h0 : w.cell? ⟨b, 0, none⟩ = some (.pointer (some ⟨b, 0, none⟩))) :
    Calls Tryz.prog 126 #[.pointer (some ⟨b, 0, none⟩)] w fun e w' => e = .returned (.tuple #[]) ∧ w' = w := by
  obtain ⟨j, hj, _⟩ := Option.map_eq_some_iff.1 bldSize
  go_enter Tryz.func126, Tryz.ntmps126
  go_wp2
  rw [Lib.run_neq_ptr_same w _ Tryz.underlying80 hj]
  go_wp2
  go_end0
  exact ⟨rfl, rfl⟩
set_option maxHeartbeats 1000000 in
theorem cc_fresh (b : Nat) (w : World) (h0 : w.cell? ⟨b, 0, none⟩ = some (.pointer none)) (hsh : w.shape? b = some (82, 2)) (hfz : w.frozen? ⟨b, 0, none⟩ = false) :
    Calls Tryz.prog 126 #[.pointer (some ⟨b, 0, none⟩)] w fun e w' => e = .returned (.tuple #[]) ∧ w' = w.setCell ⟨b, 0, none⟩ (.pointer (some ⟨b, 0, none⟩)) := by
  obtain ⟨j, hj, hjs⟩ := Option.map_eq_some_iff.1 bldSize
  go_enter Tryz.func126, Tryz.ntmps126
  go_wp2
  rw [Lib.run_to_unsafe w ⟨b, 0, none⟩ Tryz.underlying80 Tryz.underlying171 hj (by rw [hjs]; decide) hsh (Nat.zero_lt_succ 1)]
  simp only [Result.andThen]
  rw [Oper.upon_value]
  go_wp2
  rw [run_callFunc_extern Tryz.func185 (by kernel_rfl) (by kernel_rfl) (by kernel_rfl) (e := Extern.AbiNoEscape.same) (by kernel_rfl)]
  rw [Lib.run_noEscape]
  simp only [Result.andThen]
  rw [Oper.upon_value]
  go_wp2
  rw [Lib.run_from_unsafe w ⟨b, 0, none⟩ Tryz.underlying171 Tryz.underlying80 hj hsh bldLies]
  simp only [Result.andThen]
  rw [Oper.upon_value]
  go_wp2
  go_end0
  exact ⟨rfl, rfl⟩
theorem cc_any (B b : Nat) (bs : List Value) (w : World) (h : Lib.IsBuilderF 82 5 B b bs w) :
    Calls Tryz.prog 126 #[.pointer (some ⟨b, 0, none⟩)] w fun e w' => e = .returned (.tuple #[]) ∧ (Lib.BuilderAtF 82 5 B b (.pointer (some ⟨b, 0, none⟩)) bs w' ∧ Below B w w' ∧ Lib.OthersKept 5 (some b) w w') := by
  rcases h with h | h
  · refine (cc_fresh b w h.cell0 h.shape h.frozen0).mono ?_
    rintro e w' ⟨rfl, rfl⟩
    exact ⟨rfl, h.used _, (Below.refl B w).setCell (p := ⟨b, 0, none⟩) h.1 _, (Lib.OthersKept.refl _ _ w).setCell ⟨b, 0, none⟩ rfl _⟩
  · refine (cc_used b w h.cell0).mono ?_
    rintro e w' ⟨rfl, rfl⟩
    exact ⟨rfl, h, Below.refl B _, Lib.OthersKept.refl _ _ _⟩
set_option maxHeartbeats 2000000 in
theorem wByte_any (B b : Nat) (bs : List Value) (c : Int) (w : World) (h : Lib.IsBuilderF 82 5 B b bs w) (hlen : bs.length + 1 ≤ 140737488355328) (hBw : B ≤ w.heap.size) :
    Calls Tryz.prog 66 #[.pointer (some ⟨b, 0, none⟩), .int .u8 c] w fun e w' => e = .returned .nilIface ∧ (Lib.BuilderAtF 82 5 B b (.pointer (some ⟨b, 0, none⟩)) (bs ++ [.int .u8 c]) w' ∧ Below B w w' ∧ Lib.OthersKept 5 (some b) w w') := by
  obtain ⟨i0, hi, hz0, hz1, hz2⟩ := info_parts infoByte
  go_enter Tryz.func66, Tryz.ntmps66
  go_wp2_with (refine (cc_any B b bs _ h).mono ?_)
  rintro e w1 ⟨rfl, h1, hb1, hk1⟩
  obtain ⟨hB, v, hbk, hown, hne⟩ := h1
  have c0 : w1.cell? ⟨b, 0, none⟩ = some (.pointer (some ⟨b, 0, none⟩)) := by rw [Lib.cell_of_heap hbk]; rfl
  have c1 : w1.cell? ⟨b, 1, none⟩ = some v := by rw [Lib.cell_of_heap hbk]; rfl
  go_wp2_with (at_builtin; refine wpList_append_ownF _ rfl _ _ 22 rfl B 5 i0 (.int .u8 0) 1 1 Tryz.underlying22 hi hz0 hz1 hz2 rfl (by decide) _ _ _ rfl (hown.alloc _) ⟨w1.heap.size, 0, none⟩ 1 1 [.int .u8 c] rfl rfl ?c1 ?c2 ?c3 ?c4 ?c5 ?_)
  case c1 =>
    intro j u hj
    match j, hj with
    | 0, hj => simp at hj; subst hj; simp [Addr.add]
  case c2 => intro u hu; simp at hu; subst hu; rfl
  case c3 => unfold maxLen; omega
  case c4 => omega
  case c5 => have := hb1.size; simp; omega
  intro v' w2 hown' hgrow _
  have hlt : b < w1.heap.size := by
    rcases Nat.lt_or_ge b w1.heap.size with h' | h'
    · exact h'
    · simp [Array.getElem?_eq_none h'] at hbk
  have hb2 : w2.heap[b]? = some (.cells #[.pointer (some ⟨b, 0, none⟩), v] 82 (0, 0)) := by
    rw [hgrow.block b (by simp; omega) (fun e => hne e.symm), Lib.alloc_old w1 _ b hlt]
    exact hbk
  have d0 : w2.cell? ⟨b, 0, none⟩ = some (.pointer (some ⟨b, 0, none⟩)) := by rw [Lib.cell_of_heap hb2]; rfl
  have d1 : w2.cell? ⟨b, 1, none⟩ = some v := by rw [Lib.cell_of_heap hb2]; rfl
  have f1 : w2.frozen? ⟨b, 1, none⟩ = false := Lib.frozen_of_heap hb2 1
  obtain ⟨g, cap, rfl⟩ : ∃ g cap, v' = .slice (some ⟨g, 0, none⟩) (bs.length + 1) cap := by
    rcases hown'.2 with ⟨_, h0⟩ | ⟨g, cap, cur, fz, hv, _⟩
    · omega
    · exact ⟨g, cap, hv⟩
  go_wp2
  go_ret
  refine ⟨rfl, ?_, ?_, ((hk1.alloc _).grown hgrow (Lib.ownsRowF_kind (hown.alloc _))).setCell ⟨b, 1, none⟩ rfl _⟩
  · exact Lib.BuilderAtF.put (T := 82) (e := 5) hB hb2 (bs' := bs ++ [.int .u8 c]) (by simpa using hown') (by decide)
  · exact ((hb1.alloc (by have := hb1.size; omega) _).grown hgrow (by have := hb1.size; simp; omega) (fun k hk => (hown.lt k hk).1)).setCell (p := ⟨b, 1, none⟩) hB _
set_option maxHeartbeats 2000000 in
theorem wStr_any (B b : Nat) (bs : List Value) (s : ByteArray) (w : World) (h : Lib.IsBuilderF 82 5 B b bs w) (hlen : bs.length + s.size ≤ 140737488355328) (hBw : B ≤ w.heap.size) :
    Calls Tryz.prog 56 #[.pointer (some ⟨b, 0, none⟩), .string s] w fun e w' => e = .returned (.tuple #[.int .i64 s.size, .nilIface]) ∧ (Lib.BuilderAtF 82 5 B b (.pointer (some ⟨b, 0, none⟩)) (bs ++ Lib.strCells s) w' ∧ Below B w w' ∧ Lib.OthersKept 5 (some b) w w') := by
  obtain ⟨i0, hi, hz0, hz1, hz2⟩ := info_parts infoByte
  go_enter Tryz.func56, Tryz.ntmps56
  go_wp2_with (refine (cc_any B b bs _ h).mono ?_)
  rintro e w1 ⟨rfl, h1, hb1, hk1⟩
  obtain ⟨hB, v, hbk, hown, hne⟩ := h1
  have c0 : w1.cell? ⟨b, 0, none⟩ = some (.pointer (some ⟨b, 0, none⟩)) := by rw [Lib.cell_of_heap hbk]; rfl
  have c1 : w1.cell? ⟨b, 1, none⟩ = some v := by rw [Lib.cell_of_heap hbk]; rfl
  go_wp2_with (at_builtin; refine Lib.wpList_append_own_stringF _ rfl _ _ 22 9 rfl B 5 i0 Tryz.underlying22 Tryz.underlying9 hi hz0 hz1 hz2 _ _ _ rfl hown s rfl ?c3 ?c4 ?c5 ?_)
  case c3 => unfold maxLen; omega
  case c4 => omega
  case c5 => have := hb1.size; omega
  intro v' w2 hown' hgrow _
  have hlt : b < w1.heap.size := by
    rcases Nat.lt_or_ge b w1.heap.size with h' | h'
    · exact h'
    · simp [Array.getElem?_eq_none h'] at hbk
  have hb2 : w2.heap[b]? = some (.cells #[.pointer (some ⟨b, 0, none⟩), v] 82 (0, 0)) := by
    rw [hgrow.block b hlt (fun e => hne e.symm)]
    exact hbk
  have d0 : w2.cell? ⟨b, 0, none⟩ = some (.pointer (some ⟨b, 0, none⟩)) := by rw [Lib.cell_of_heap hb2]; rfl
  have d1 : w2.cell? ⟨b, 1, none⟩ = some v := by rw [Lib.cell_of_heap hb2]; rfl
  have f1 : w2.frozen? ⟨b, 1, none⟩ = false := Lib.frozen_of_heap hb2 1
  obtain ⟨ao, n', cap, rfl⟩ : ∃ ao n' cap, v' = .slice ao n' cap := by
    rcases hown'.2 with ⟨hv, _⟩ | ⟨g, cap, cur, fz, hv, _⟩
    · exact ⟨_, _, _, hv⟩
    · exact ⟨_, _, _, hv⟩
  go_wp2
  go_ret2
  refine ⟨rfl, ?_, ?_, (hk1.grown hgrow (Lib.ownsRowF_kind hown)).setCell ⟨b, 1, none⟩ rfl _⟩
  · exact Lib.BuilderAtF.put (T := 82) (e := 5) hB hb2 (bs' := bs ++ Lib.strCells s) (by simpa [Lib.strCells_length] using hown') (by decide)
  · exact (hb1.grown hgrow (by have := hb1.size; omega) (fun k hk => (hown.lt k hk).1)).setCell (p := ⟨b, 1, none⟩) hB _
/-- A list of texts that lies in a row of texts, behind what a builder writes. -/
theorem ownS_kept {w w' : World} {base : Nat} {v : Value} {l : List ByteArray} {b : Nat} (h : OwnS w base v l) (hk : Lib.OthersKept 5 (some b) w w') (hb : v.ownBlock ≠ some b) : OwnS w' base v l := by
  refine ⟨⟨h.1.1, ?_⟩, h.2.1, h.2.2⟩
  rcases h.1.2 with h0 | ⟨g, cap, cur, hv, h1, h2, h3⟩
  · exact Or.inl h0
  · refine Or.inr ⟨g, cap, cur, hv, h1, hk g _ h2 (fun e => hb (by rw [hv]; simpa [Value.ownBlock] using e)) (fun c fz e => by simp at e), h3⟩
end Go.Proofs.YtpniljcnknknoaaGreatDoor

/-
  Sheets: l9Many of a space, l6Entry, PagesNeeded (both), places, l6Line.
-/
namespace Go.Proofs.YtpniljcnknknoaaGreatDoor
open Go.RowKit
set_option linter.unusedVariables false
set_option linter.unusedSimpArgs false
set_option maxRecDepth 100000
attribute [local go_sem ↓] Go.wp_at_zero Go.wp_at_succ

set_option maxHeartbeats 4000000 in
theorem spMany_any (n : Nat) (w : World) (hn : n ≤ 12) :
    Calls Tryz.prog 245 #[.string ⟨#[32]⟩, .int .i64 n] w fun e w' => e = .returned (.string (spS n)) ∧ w = w' := by
  obtain rfl | rfl | rfl | rfl | rfl | rfl | rfl | rfl | rfl | rfl | rfl | rfl | rfl : n = 0 ∨ n = 1 ∨ n = 2 ∨ n = 3 ∨ n = 4 ∨ n = 5 ∨ n = 6 ∨ n = 7 ∨ n = 8 ∨ n = 9 ∨ n = 10 ∨ n = 11 ∨ n = 12 := by omega
  all_goals
    go_enter Tryz.func245, Tryz.ntmps245
    go_wp2_with fail
    refine wp_loop_rounds 5 ?_
    repeat any_goals (rw [rounds_succ]; go_wp2_with fail)
    go_ret
    exact ⟨rfl, rfl⟩

/-- What l6Entry, l6Line return: a text and whether it fits. -/
def TxtB (s : ByteArray) (P : Prop) (e : Ending) : Prop := (P ∧ e = .returned (.tuple #[.string s, .bool true])) ∨ (¬ P ∧ ∃ t, e = .returned (.tuple #[.string t, .bool false]))

set_option maxHeartbeats 2000000 in
theorem l6Entry_any (v : Int) (W : Nat) (w : World) (hv : -9223372036854775808 ≤ v ∧ v ≤ 9223372036854775807) (hW : W ≤ 12) :
    Calls Tryz.prog 209 #[.int .i64 v, .int .i64 W] w fun e w' => TxtB (padS W v) ((itoaS v).size ≤ W) e ∧ Below w.heap.size w w' := by
  have hs := itoaS_size hv.1 hv.2
  go_enter Tryz.func209, Tryz.ntmps209
  go_wp2_with fail
  refine (l9Dec_any v _ hv.1 hv.2).mono ?_
  rintro e w2 ⟨rfl, b2⟩
  have HB := Lib.hid b2
  clear b2
  obtain ⟨m, hm⟩ : ∃ m : Nat, (itoaS v).size = m := ⟨_, rfl⟩
  by_cases h : m ≤ W
  · have HP := Lib.hid (show padS W v = spS (W - m) ++ itoaS v by rw [← hm]; rfl)
    have hlt : ¬ (W : Int) < m := by omega
    obtain ⟨d, hd⟩ : ∃ d : Nat, W - m = d := ⟨_, rfl⟩
    have hsub : ((W : Int) - (m : Int)) = (d : Int) := by omega
    have hd12 : d ≤ 12 := by omega
    have hsz := spS_size d
    have hcat : ¬ 9223372036854775807 < (spS d).size + (itoaS v).size := by omega
    have hcat2 : ¬ 9223372036854775807 < d + m := by omega
    have H := Lib.hid (And.intro h (And.intro hm hd))
    clear h hd
    go_wp2_with fail
    refine (spMany_any d _ hd12).mono ?_
    rintro e w3 ⟨rfl, rfl⟩
    go_wp2
    go_ret2
    refine ⟨.inl ⟨by rw [H.out.2.1]; exact H.out.1, ?_⟩, HB.out⟩
    rw [HP.out, H.out.2.2]
    rfl
  · have hlt : (W : Int) < m := by omega
    have hlt2 : W < m := by omega
    go_wp2
    go_ret2
    exact ⟨.inr ⟨by rw [hm]; exact h, _, rfl⟩, HB.out⟩

/-- The cells of a layout's block. -/
theorem Blk.lay {w : World} {g : Nat} {t : TypeId} {a b c : Value} (h : Blk w g t [a, b, c]) : w.cell? ⟨g, 0, none⟩ = some a ∧ w.cell? ⟨g, 1, none⟩ = some b ∧ w.cell? ⟨g, 2, none⟩ = some c := by
  refine ⟨?_, ?_, ?_⟩ <;> rw [h.cell] <;> rfl
theorem layOk_nat {R A W : Nat} (h1 : 1 ≤ R ∧ R ≤ 20) (h2 : 1 ≤ A ∧ A ≤ 6) (h3 : 1 ≤ W ∧ W ≤ 12) : layOk R A W = true := by simp [layOk, inB]; omega
theorem mul_le_RA {R A : Nat} (h1 : R ≤ 20) (h2 : A ≤ 6) : R * A ≤ 120 := Nat.mul_le_mul h1 h2
theorem wrapMul {a b m : Nat} (h : a * b = m) (hm : m ≤ 1000000) : wrap64 ((a : Int) * (b : Int)) = (m : Int) := by
  have e : (a : Int) * (b : Int) = (m : Int) := by rw [← h]; push_cast; rfl
  rw [e]
  exact IntWalk.wrap64_in _ (by omega)
theorem divNat (a b : Nat) : ((a : Int)).tdiv (b : Int) = ((a / b : Nat) : Int) := by
  rw [Int.tdiv_eq_ediv_of_nonneg (by omega)]
  rfl

set_option maxHeartbeats 2000000 in
theorem specPN_any (R A W : Nat) (l : List Int) (w : World) (h1 : 1 ≤ R ∧ R ≤ 20) (h2 : 1 ≤ A ∧ A ≤ 6) (h3 : 1 ≤ W ∧ W ≤ 12) (hl : l.length ≤ 60) :
    Calls Tryz.prog 69 #[.agg #[.int .i64 R, .int .i64 A, .int .i64 W], .int .i64 l.length] w fun e w' => e = .returned (.int .i64 (pgN l (R * A) : Nat)) ∧ Below w.heap.size w w' := by
  have hlay := layOk_nat h1 h2 h3
  have hin : inB (l.length : Int) 0 60 = true := by simp [inB]; omega
  obtain ⟨M, hM⟩ : ∃ M : Nat, R * A = M := ⟨_, rfl⟩
  have hM0 : 0 < M := by rw [← hM]; exact Nat.mul_pos h1.1 h2.1
  have hM1 : M ≤ 120 := by rw [← hM]; exact mul_le_RA h1.2 h2.2
  have hw1 := wrapMul hM (by omega)
  rw [hM]
  obtain ⟨q, hq⟩ : ∃ q : Nat, pgN l M = q := ⟨_, rfl⟩
  have hw2 : ((l.length : Int) + (M : Int) - 1).tdiv (M : Int) = (q : Int) := by
    have : (l.length : Int) + (M : Int) - 1 = ((l.length + M - 1 : Nat) : Int) := by omega
    rw [this, divNat, ← hq]
    rfl
  have hq2 : q ≤ 60 := by rw [← hq]; exact Nat.le_trans (pgN_le hM0) hl
  have hw3 : wrap64 (q : Int) = q := IntWalk.wrap64_in _ (by omega)
  have hM3 : ¬ M = 0 := by omega
  have hM4 : ¬ (M : Int) = 0 := by omega
  rw [hq]
  clear hM hq
  have K1 := Blk.new w 25 [.int .i64 R, .int .i64 A, .int .i64 W]
  have B1 := bel_alloc w (.cells #[.int .i64 R, .int .i64 A, .int .i64 W] 25)
  obtain ⟨a0, a1, a2⟩ := K1.lay
  go_enter Tryz.func69, Tryz.ntmps69
  go_wp2_with fail
  refine (specLay_any R A W _).mono ?_
  rintro e w2 ⟨rfl, b2⟩
  rw [hlay]
  obtain ⟨c0, c1, c2⟩ := (K1.below b2 K1.lt).lay
  have HB := Lib.hid (bel_trans B1 b2)
  clear a0 a1 a2 b2 B1 K1
  go_wp2_with fail
  refine (l1In_any _ _ _ _).mono ?_
  rintro e w3 ⟨rfl, rfl⟩
  rw [hin]
  go_wp2
  go_ret
  exact ⟨rfl, HB.out⟩
set_option maxHeartbeats 2000000 in
theorem places_any (R A W M : Nat) (w : World) (hw1 : wrap64 ((R : Int) * (A : Int)) = (M : Int)) :
    Calls Tryz.prog 132 #[.agg #[.int .i64 R, .int .i64 A, .int .i64 W]] w fun e w' => e = .returned (.int .i64 M) ∧ Below w.heap.size w w' := by
  have K1 := Blk.new w 25 [.int .i64 R, .int .i64 A, .int .i64 W]
  have B1 := Lib.hid (bel_alloc w (.cells #[.int .i64 R, .int .i64 A, .int .i64 W] 25))
  obtain ⟨a0, a1, a2⟩ := K1.lay
  go_enter Tryz.func132, Tryz.ntmps132
  go_wp2
  go_ret
  exact ⟨by rw [← hw1]; rfl, B1.out⟩
set_option maxHeartbeats 1000000 in
theorem cntV_any (n : Int) (w : World) (h : 0 ≤ n ∧ n ≤ 60) :
    Calls Tryz.prog 136 #[.int .i64 n] w fun e w' => e = .returned (.bool true) ∧ w = w' := by
  obtain ⟨h0, h1⟩ := h
  go_enter Tryz.func136, Tryz.ntmps136
  go_wp2
  go_ret
  exact ⟨rfl, rfl⟩
set_option maxHeartbeats 2000000 in
theorem implPN_any (R A W : Nat) (l : List Int) (w : World) (h1 : 1 ≤ R ∧ R ≤ 20) (h2 : 1 ≤ A ∧ A ≤ 6) (h3 : 1 ≤ W ∧ W ≤ 12) (hl : l.length ≤ 60) :
    Calls Tryz.prog 64 #[.agg #[.int .i64 R, .int .i64 A, .int .i64 W], .int .i64 l.length] w fun e w' => e = .returned (.int .i64 (pgN l (R * A) : Nat)) ∧ Below w.heap.size w w' := by
  have hlay := layOk_nat h1 h2 h3
  have hin : inB (l.length : Int) 0 60 = true := by simp [inB]; omega
  obtain ⟨M, hM⟩ : ∃ M : Nat, R * A = M := ⟨_, rfl⟩
  have hM0 : 0 < M := by rw [← hM]; exact Nat.mul_pos h1.1 h2.1
  have hM1 : M ≤ 120 := by rw [← hM]; exact mul_le_RA h1.2 h2.2
  have hw1 := Lib.hid (wrapMul hM (by omega))
  rw [hM]
  obtain ⟨q, hq⟩ : ∃ q : Nat, pgN l M = q := ⟨_, rfl⟩
  have hw2 : ((l.length : Int) + (M : Int) - 1).tdiv (M : Int) = (q : Int) := by
    have : (l.length : Int) + (M : Int) - 1 = ((l.length + M - 1 : Nat) : Int) := by omega
    rw [this, divNat, ← hq]
    rfl
  have hq2 : q ≤ 60 := by rw [← hq]; exact Nat.le_trans (pgN_le hM0) hl
  have hw3 : wrap64 (q : Int) = q := IntWalk.wrap64_in _ (by omega)
  have hM3 : ¬ M = 0 := by omega
  have hM4 : ¬ (M : Int) = 0 := by omega
  rw [hq]
  clear hM hq
  have K1 := Blk.new w 25 [.int .i64 R, .int .i64 A, .int .i64 W]
  have B1 := bel_alloc w (.cells #[.int .i64 R, .int .i64 A, .int .i64 W] 25)
  obtain ⟨a0, a1, a2⟩ := K1.lay
  go_enter Tryz.func64, Tryz.ntmps64
  go_wp2_with fail
  refine (implLay_any R A W _).mono ?_
  rintro e w2 ⟨rfl, b2⟩
  rw [hlay]
  replace K1 := K1.below b2 K1.lt
  have HB := Lib.hid (bel_trans B1 b2)
  clear a0 a1 a2 b2 B1
  obtain ⟨a0, a1, a2⟩ := K1.lay
  go_wp2_with fail
  refine (cntV_any _ _ (by omega)).mono ?_
  rintro e w3 ⟨rfl, rfl⟩
  go_wp2_with fail
  have hlt := K1.lt
  have tok1 : True := trivial
  have tok2 : True := trivial
  go_region_held3 (fun w' => w'.cell? ⟨w.heap.size, 0, none⟩ = some (.int .i64 R) ∧ w'.cell? ⟨w.heap.size, 1, none⟩ = some (.int .i64 A) ∧ w'.cell? ⟨w.heap.size, 2, none⟩ = some (.int .i64 W)) (first | exact ⟨a0, a1, a2⟩ | exact ⟨a0', a1', a2'⟩ | exact ⟨d0', d1', d2'⟩ | go_keep) (first
    | ((try go_simp); go_at_call 132; have _t := tok1; refine (places_any R A W M _ hw1.out).mono ?_; rintro e w5 ⟨rfl, b5⟩; replace b5 : Below w2.heap.size w2 w5 := (by first | exact b5 | exact bel_trans ((Below.refl _ _).drew) b5); obtain ⟨a0', a1', a2'⟩ := (K1.below b5 hlt).lay; clear tok1; (try dsimp only))
    | ((try go_simp); go_at_call 132; have _t := tok2; refine (places_any R A W M _ hw1.out).mono ?_; rintro e w6 ⟨rfl, b6⟩; replace b6 : Below w2.heap.size w2 w6 := bel_trans b5 b6; obtain ⟨d0', d1', d2'⟩ := (K1.below b6 hlt).lay; clear tok2; (try dsimp only))
    | fail)
  all_goals
    clear a0 a1 a2 a0' a1' a2' d0' d1' d2'
    go_wp2
    go_ret
    refine ⟨congrArg (fun z => Ending.returned (.int .i64 z)) (?_ : IntKind.i64.wrap ((IntKind.i64.wrap (IntKind.i64.wrap ((l.length : Int) + (M : Int)) - 1)).tdiv (M : Int)) = (q : Int)), bel_trans HB.out b6⟩
    rw [IntWalk.i64_left, IntWalk.i64_left, IntWalk.i64_left, IntWalk.wrap64_in ((l.length : Int) + (M : Int)) (by omega), IntWalk.wrap64_in ((l.length : Int) + (M : Int) - 1) (by omega), hw2, hw3]

end Go.Proofs.YtpniljcnknknoaaGreatDoor

/-
  Sheets: l6Line, l6Page (spec).
-/
namespace Go.Proofs.YtpniljcnknknoaaGreatDoor
open Go.RowKit
set_option linter.unusedVariables false
set_option linter.unusedSimpArgs false
set_option maxRecDepth 100000
attribute [local go_sem ↓] Go.wp_at_zero Go.wp_at_succ

/-- k runs over the entries of a row. -/
theorem row_at {l : List Int} {R A M p r c : Nat} (hM : R * A = M) (hr : r < R) (hc : c < A) : at_ (pgE l M p) (r + c * R) = at_ l (p * M + (r + c * R)) := by
  refine pgE_at l ?_
  have h1 : (c + 1) * R ≤ A * R := Nat.mul_le_mul_right R hc
  rw [Nat.succ_mul, Nat.mul_comm A R] at h1
  omega
theorem row_more {l : List Int} {R A M p r c : Nat} (hM : R * A = M) (hr : r < R) (hc : c < A) (h : p * M + (r + c * R) < l.length) : c < colN (pgE l M p).length R r := by
  refine (colN_iff c (by omega)).1 ?_
  rw [pgE_len]
  have h1 : (c + 1) * R ≤ A * R := Nat.mul_le_mul_right R hc
  rw [Nat.succ_mul, Nat.mul_comm A R] at h1
  omega
theorem row_done {l : List Int} {R A M p r c : Nat} (hM : R * A = M) (hR : 0 < R) (hc : c ≤ colN (pgE l M p).length R r) (h : ¬ c < A ∨ ¬ p * M + (r + c * R) < l.length) : c = colN (pgE l M p).length R r := by
  refine Nat.le_antisymm hc (Nat.le_of_not_lt fun h2 => ?_)
  have h3 := (colN_iff c hR).2 h2
  rw [pgE_len] at h3
  rcases h with h | h
  · have h1 : A * R ≤ c * R := Nat.mul_le_mul_right R (by omega)
    rw [Nat.mul_comm A R] at h1
    omega
  · omega

theorem wrapAdd {a b m : Nat} (h : a + b = m) (hm : m ≤ 1000000) : wrap64 ((a : Int) + (b : Int)) = (m : Int) := by
  have e : (a : Int) + (b : Int) = (m : Int) := by rw [← h]; push_cast; rfl
  rw [e]
  exact IntWalk.wrap64_in _ (by omega)
theorem le3 {pM cR pc r K R : Nat} (h1 : pM ≤ 7200) (h2 : cR ≤ 120) (h3 : pM + cR = pc) (h4 : pc + r = K) (h5 : r < R) (h6 : R ≤ 20) : pc ≤ 7320 ∧ K ≤ 7340 := by omega
theorem le3c {pM n R K : Nat} (h1 : pM ≤ 7200) (h2 : n < R) (h3 : R ≤ 20) (h4 : pM + n = K) : K ≤ 7220 := by omega
theorem le3b {pM cR pc r K P C : Nat} (h3 : pM + cR = pc) (h4 : pc + r = K) (hP : pM = P) (hC : C = cR) : K = P + (r + C) := by omega

theorem TxtB.open_ {s : ByteArray} {P : Prop} {e : Ending} (h : TxtB s P e) : ∃ t bb, e = .returned (.tuple #[.string t, .bool bb]) ∧ ((bb = true ∧ P ∧ t = s) ∨ (bb = false ∧ ¬ P)) := by
  rcases h with ⟨h1, h2⟩ | ⟨h1, t, h2⟩
  · exact ⟨_, _, h2, .inl ⟨rfl, h1, rfl⟩⟩
  · exact ⟨_, _, h2, .inr ⟨rfl, h1⟩⟩
set_option maxHeartbeats 400000 in
theorem l6Line_any (R A W M p r : Nat) (v : Value) (l : List Int) (w : World) (hv : Ints w v l) (h1 : 1 ≤ R ∧ R ≤ 20) (h2 : 1 ≤ A ∧ A ≤ 6) (h3 : 1 ≤ W ∧ W ≤ 12) (hl : l.length ≤ 60) (hM : R * A = M) (hr : r < R) (hp : p ≤ 60) :
    Calls Tryz.prog 139 #[.agg #[.int .i64 R, .int .i64 A, .int .i64 W], v, .int .i64 p, .int .i64 r] w fun e w' => TxtB (rowS W (pgE l M p) R r) (rowF W (pgE l M p) R r) e ∧ Below w.heap.size w w' := by
  have HW := Lib.hid hv.2
  have HM := Lib.hid hM
  have hM1 : M ≤ 120 := by rw [← hM]; exact mul_le_RA h1.2 h2.2
  obtain ⟨B, cp, rfl, hlc, hc, hrd⟩ := hv.open_
  have HR := Lib.hid hrd
  obtain ⟨pR, hpR⟩ : ∃ x : Nat, p * R = x := ⟨_, rfl⟩
  obtain ⟨pM, hpM⟩ : ∃ x : Nat, pR * A = x := ⟨_, rfl⟩
  have hpR1 : pR ≤ 1200 := by rw [← hpR]; exact Nat.mul_le_mul hp h1.2
  have hpM1 : pM ≤ 7200 := by rw [← hpM]; exact Nat.mul_le_mul hpR1 h2.2
  have hw1 := wrapMul hpR (by omega)
  have hw2 := wrapMul hpM (by omega)
  have HP := Lib.hid (show pM = p * M by rw [← hpM, ← hpR, ← hM, Nat.mul_assoc])
  have K1 := Blk.new w 25 [.int .i64 R, .int .i64 A, .int .i64 W]
  have B1 := bel_alloc w (.cells #[.int .i64 R, .int .i64 A, .int .i64 W] 25)
  clear hv hrd hM hpR hpM
  go_enter Tryz.func139, Tryz.ntmps139
  go_wp2_with fail
  generalize hW1 : w.alloc (.cells #[.int .i64 R, .int .i64 A, .int .i64 W] 25) = W1 at *
  clear hW1
  go_loopw [10, 11] (fun s i wr => ∃ c : Nat, c ≤ A ∧ c ≤ colN (pgE l M p).length R r ∧ fitL W (pgE l M p) R r c ∧ i = .int .i64 c ∧ s = .string (lineS W (pgE l M p) R r c) ∧ Below W1.heap.size W1 wr) (fun _ i _ => A - (intOf i).toNat)
  case atStart => exact ⟨0, by omega, Nat.zero_le _, fun i hi => by omega, rfl, rfl, Below.refl _ _⟩
  case round =>
    obtain ⟨c, hcA, hcN, hfit, rfl, rfl, hb⟩ := hrel
    have hlsz := lineS_size hfit
    have hlsz2 : (1 + W) * c ≤ 13 * 6 := Nat.mul_le_mul (by omega) (by omega)
    obtain ⟨c0, c1, c2⟩ := (K1.below hb K1.lt).lay
    obtain ⟨cR, hcR⟩ : ∃ x : Nat, c * R = x := ⟨_, rfl⟩
    have hcR1 : cR ≤ 120 := by rw [← hcR, Nat.mul_comm]; exact mul_le_RA h1.2 (by omega)
    have hw3 := wrapMul hcR (by omega)
    obtain ⟨pc, hpc⟩ : ∃ x : Nat, pM + cR = x := ⟨_, rfl⟩
    obtain ⟨K, hK⟩ : ∃ x : Nat, pc + r = x := ⟨_, rfl⟩
    have h34 := le3 hpM1 hcR1 hpc hK hr h1.2
    have hw4 := wrapAdd hpc (Nat.le_trans h34.1 (by decide))
    have hw5 := wrapAdd hK (Nat.le_trans h34.2 (by decide))
    have EK := le3b hpc hK HP.out hcR
    have hKb := h34.2
    have H := Lib.hid (And.intro hcN (And.intro hfit (And.intro hb (And.intro hcR EK))))
    have HQ := Lib.hid (And.intro hpR1 (And.intro hpM1 (And.intro hcR1 (And.intro hpc hK))))
    have hR0 : 0 < R := Nat.lt_of_lt_of_le Nat.zero_lt_one h1.1
    have hb0 := Lib.hid (bel_trans B1 hb)
    have hb1 := Lib.hid hb
    by_cases hlt : c < A
    · by_cases hk : K < l.length
      · have hl0 : 0 < l.length := Nat.lt_of_le_of_lt (Nat.zero_le _) hk
        obtain ⟨b, o, rfl, hbb, hcell⟩ := HR.out.ints hl0
        have hck := (hb0.out.cell (by exact hbb)).trans (hcell K hk)
        have hx := HW.out.at _ K
        have hat := Lib.hid (show at_ (pgE l M p) (r + c * R) = at_ l K by rw [row_at HM.out hr hlt, ← EK])
        have hmore := Lib.hid (row_more (l := l) (p := p) HM.out hr hlt (by rw [← EK]; exact hk))
        have hbr : b < wr.heap.size := Nat.lt_of_lt_of_le hbb hb0.out.size
        have hKl := K1.lt
        have hszr := hb.size
        clear hb hcN hcR EK hpR1 hpM1 hcR1 hpc hK h34 hcell
        have HS := Lib.hid (And.intro hfit (And.intro hlsz hlsz2))
        clear hfit hlsz hlsz2
        have tok1 : True := trivial
        go_wp2_with fail
        go_region_held3 (fun w' => w'.cell? ⟨b, o + K, none⟩ = some (.int .i64 (at_ l K)) ∧ w'.cell? ⟨w.heap.size, 2, none⟩ = some (.int .i64 W)) (first | exact ⟨hck, c2⟩ | exact ⟨hck', c2'⟩ | go_keep) (first
          | ((try go_simp); go_at_call 209; have _t := tok1; refine (l6Entry_any (at_ l K) W _ hx h3.2).mono ?_; rintro e w5 ⟨T, b5⟩; replace b5 : Below wr.heap.size wr w5 := (by first | exact b5 | exact bel_trans ((Below.refl _ _).drew) b5); obtain ⟨t, bb, rfl, hT⟩ := T.open_; replace hT := Lib.hid hT; have hck' := (b5.cell (by exact hbr)).trans hck; have c2' := (b5.cell (by exact Nat.lt_of_lt_of_le hKl hszr)).trans c2; clear tok1 T; (try dsimp only))
          | fail)
        all_goals
          have HB5 := Lib.hid (bel_trans hb0.out b5)
          have b5h := Lib.hid b5
          clear b5 hck hck' c0 c1 c2 c2'
          rcases hT.out with ⟨rfl, hP, rfl⟩ | ⟨rfl, hP⟩
          · have hps := padS_size hP
            have hfit2 := Lib.hid (show fitL W (pgE l M p) R r (c + 1) from by
              intro i hi
              rcases Nat.lt_or_ge i c with h' | h'
              · exact HS.out.1 i h'
              · obtain rfl : i = c := by omega
                rw [hat.out]; exact hP)
            have hls := Nat.le_trans HS.out.2.1 HS.out.2.2
            have hpw : (padS W (at_ l K)).size ≤ 12 := by rw [hps]; exact h3.2
            obtain ⟨L, hL⟩ : ∃ L, lineS W (pgE l M p) R r c = L := ⟨_, rfl⟩
            obtain ⟨Z, hZ⟩ : ∃ Z, padS W (at_ l K) = Z := ⟨_, rfl⟩
            rw [hL] at hls
            rw [hZ] at hpw
            rw [hL, hZ]
            clear hps hP
            by_cases hc0 : 0 < c
            · have NS := Lib.hid (show lineS W (pgE l M p) R r (c + 1) = L ++ ⟨#[32]⟩ ++ Z by rw [lineS_succ hc0, hat.out, hL, hZ])
              have hcat : ¬ 9223372036854775807 < L.size + 1 := by omega
              have hs2 : (L ++ ⟨#[32]⟩).size = L.size + 1 := by rw [ByteArray.size_append]; rfl
              have hcat2 : ¬ 9223372036854775807 < (L ++ ⟨#[32]⟩).size + Z.size := by omega
              have hcat3 : ¬ 9223372036854775807 < L.size + 1 + Z.size := by omega
              clear hL hZ
              go_wp2
              go_roundw
              case rel => exact ⟨c + 1, hlt, hmore.out, hfit2.out, by go_num, by rw [NS.out], bel_trans hb1.out b5h.out⟩
              case measure => simp [intOf]; omega
            · have e0 : c = 0 := by omega
              have NS := Lib.hid (show lineS W (pgE l M p) R r (c + 1) = L ++ Z by
                rw [← hL, ← hZ, ← hat.out, e0]
                exact lineS_one W _ R r)
              have hcat : ¬ 9223372036854775807 < L.size + Z.size := by omega
              clear hL hZ e0
              go_wp2
              go_roundw
              case rel => exact ⟨c + 1, hlt, hmore.out, hfit2.out, by go_num, by rw [NS.out], bel_trans hb1.out b5h.out⟩
              case measure => simp [intOf]; omega
          · have HN := Lib.hid hP
            clear hP
            go_wp2
            go_ret2
            refine ⟨.inr ⟨fun hF => ?_, _, rfl⟩, HB5.out⟩
            have := hF c hmore.out
            rw [hat.out] at this
            exact HN.out this
      · have HD := Lib.hid (row_done (l := l) (p := p) (r := r) HM.out hR0 hcN (.inr (by rw [← EK]; exact hk)))
        have HF := Lib.hid hfit
        clear hb hcN hfit hcR hlsz hlsz2 EK hpR1 hpM1 hcR1 hpc hK h34
        go_wp2
        go_ret2
        refine ⟨.inl ⟨?_, ?_⟩, hb0.out⟩
        · unfold rowF; rw [← HD.out]; exact HF.out
        · unfold rowS; rw [← HD.out]; rfl
    · have HD := Lib.hid (row_done (l := l) (p := p) (r := r) HM.out hR0 hcN (.inl hlt))
      have HF := Lib.hid hfit
      clear hb hcN hfit hcR hlsz hlsz2 EK hpR1 hpM1 hcR1 hpc hK h34
      go_wp2
      go_ret2
      refine ⟨.inl ⟨?_, ?_⟩, hb0.out⟩
      · unfold rowF; rw [← HD.out]; exact HF.out
      · unfold rowS; rw [← HD.out]; rfl

/-- What l6Page returns: lines and whether they fit. -/
def LinesB (w : World) (base : Nat) (ls : List ByteArray) (P : Prop) (e : Ending) : Prop := ∃ r, (P ∧ e = .returned (.tuple #[r, .bool true]) ∧ OwnS w base r ls) ∨ (¬ P ∧ e = .returned (.tuple #[r, .bool false]))

theorem rows_iff {l : List Int} {R A M p : Nat} (n : Nat) (hM : R * A = M) (hA : 1 ≤ A) : n < pgRows l R M p ↔ n < R ∧ p * M + n < l.length := by
  unfold pgRows
  rw [pgE_len]
  have : R * 1 ≤ R * A := Nat.mul_le_mul_left R hA
  omega
theorem rows_done {l : List Int} {R A M p n : Nat} (hM : R * A = M) (hA : 1 ≤ A) (hn : n ≤ pgRows l R M p) (h : ¬ n < R ∨ ¬ p * M + n < l.length) : n = pgRows l R M p := by
  have := rows_iff (l := l) (p := p) n hM hA
  omega

set_option maxHeartbeats 4000000 in
theorem l6Page_any (R A W M p : Nat) (v : Value) (l : List Int) (w : World) (hv : Ints w v l) (h1 : 1 ≤ R ∧ R ≤ 20) (h2 : 1 ≤ A ∧ A ≤ 6) (h3 : 1 ≤ W ∧ W ≤ 12) (hl : l.length ≤ 60) (hM : R * A = M) (hp : p ≤ 60) :
    Calls Tryz.prog 70 #[.agg #[.int .i64 R, .int .i64 A, .int .i64 W], v, .int .i64 p] w fun e w' => LinesB w' w.heap.size (pgL W l R M p) (pgF W l R M p) e ∧ Below w.heap.size w w' := by
  have HV := Lib.hid hv
  have HM := Lib.hid hM
  obtain ⟨B, cp, rfl, hlc, hc, hrd⟩ := hv.open_
  obtain ⟨pR, hpR⟩ : ∃ x : Nat, p * R = x := ⟨_, rfl⟩
  obtain ⟨pM, hpM⟩ : ∃ x : Nat, pR * A = x := ⟨_, rfl⟩
  have hpR1 : pR ≤ 1200 := by rw [← hpR]; exact Nat.mul_le_mul hp h1.2
  have hpM1 : pM ≤ 7200 := by rw [← hpM]; exact Nat.mul_le_mul hpR1 h2.2
  have hw1 := wrapMul hpR (Nat.le_trans hpR1 (by decide))
  have hw2 := wrapMul hpM (Nat.le_trans hpM1 (by decide))
  have HP := Lib.hid (show pM = p * M by rw [← hpM, ← hpR, ← hM, Nat.mul_assoc])
  have K1 := Blk.new w 25 [.int .i64 R, .int .i64 A, .int .i64 W]
  have B1 := bel_alloc w (.cells #[.int .i64 R, .int .i64 A, .int .i64 W] 25)
  have K1' := K1.alloc (.cells #[] 9)
  have B2 := B1.alloc (Nat.le_of_lt K1.lt) (.cells #[] 9)
  have O1 := OwnS.empty (w.alloc (.cells #[.int .i64 R, .int .i64 A, .int .i64 W] 25)) (w.heap.size + 1) (by simp)
  have hgt : rowsL W (pgE l M p) R 0 = [] := rfl
  clear hv hrd hM hpR hpM K1 B1 hpR1
  go_enter Tryz.func70, Tryz.ntmps70
  go_wp2_with fail
  generalize hW1 : (w.alloc (.cells #[.int .i64 R, .int .i64 A, .int .i64 W] 25)).alloc (.cells #[] 9) = W1 at *
  have hsz1 : w.heap.size + 1 < W1.heap.size := by rw [← hW1]; simp
  clear hW1
  go_loopw [8, 9] (fun s i wr => ∃ n : Nat, n ≤ pgRows l R M p ∧ rowsF W (pgE l M p) R n ∧ i = .int .i64 n ∧ OwnS wr (w.heap.size + 1) s (rowsL W (pgE l M p) R n) ∧ Below w.heap.size w wr ∧ Blk wr w.heap.size 25 [.int .i64 R, .int .i64 A, .int .i64 W]) (fun _ i _ => R - (intOf i).toNat)
  case atStart => exact ⟨0, Nat.zero_le _, fun r hr => absurd hr (Nat.not_lt_zero _), rfl, by rw [hgt]; simpa using O1, B2, K1'⟩
  case round =>
    obtain ⟨n, hn, hF, rfl, hO, hb, hK⟩ := hrel
    obtain ⟨c0, c1, c2⟩ := hK.lay
    have hKl := hK.lt
    clear O1 B2 K1'
    by_cases hlt : n < R
    · obtain ⟨K, hpc⟩ : ∃ x : Nat, pM + n = x := ⟨_, rfl⟩
      have h34 := le3c hpM1 hlt h1.2 hpc
      have hw4 := wrapAdd hpc (Nat.le_trans h34 (by decide))
      have EK := Lib.hid (show K = p * M + n by rw [← HP.out, hpc])
      by_cases hk : K < l.length
      · have hlt2 := Lib.hid ((rows_iff (l := l) (p := p) n HM.out h2.1).2 ⟨hlt, by rw [← EK.out]; exact hk⟩)
        have H := Lib.hid (And.intro hF (And.intro hO (And.intro hb hK)))
        clear hF hO hb hK hn hpc h34 hpM1
        go_wp2_with fail
        refine (l6Line_any R A W M p n _ l _ (HV.out.bel H.out.2.2.1) h1 h2 h3 hl HM.out hlt hp).mono ?_
        rintro e w5 ⟨T, b5⟩
        obtain ⟨t, bb, rfl, hT⟩ := T.open_
        have HB5 := Lib.hid (bel_trans H.out.2.2.1 b5)
        have HO5 := Lib.hid (H.out.2.1.bel b5)
        have K5 := Lib.hid (H.out.2.2.2.below b5 hKl)
        clear b5 T c0 c1 c2
        rcases hT with ⟨rfl, hP, rfl⟩ | ⟨rfl, hP⟩
        · have hsz := rowS_size hP (Nat.lt_of_lt_of_le Nat.zero_lt_one h1.1) h3.2 (by rw [pgE_len]; omega)
          have HP2 := Lib.hid (rowsF_succ H.out.1 hP)
          have SL := Lib.hid (rowsL_succ W (pgE l M p) R n)
          have hn60 : n ≤ 20 := by omega
          have hbz := HB5.out.size
          obtain ⟨Z, hZ⟩ : ∃ Z, rowS W (pgE l M p) R n = Z := ⟨_, rfl⟩
          obtain ⟨S, hS⟩ : ∃ S, rowsL W (pgE l M p) R n = S := ⟨_, rfl⟩
          have hSl : S.length = n := by rw [← hS, rowsL_len]
          rw [hZ] at hsz
          rw [hS] at HO5
          replace SL := Lib.hid (show rowsL W (pgE l M p) R (n + 1) = S ++ [Z] by rw [SL.out, hS, hZ])
          rw [hZ]
          clear hP hZ hS
          go_wp2_with (at_builtin; go_must (refine app_str rfl (.tmp 44) (.tmp 46) (by rfl) (w.heap.size + 1) _ S (by rfl) (by exact HO5.out.bel (bel_alloc _ _)) _ _ Z (by rfl) (by exact new_cell _ _ _) (by omega) (by omega) (by simp; omega) ?_; intro v6 w6 ho6 hg6 hat6; have K6 := (K5.out.alloc (.cells #[.string Z] 9)).grown hg6 (fun e => by have := (HO5.out.lt _ e.symm).1; omega); have B6 := (bel_trans HB5.out (bel_alloc w5 (.cells #[.string Z] 9))).trans (below_own (base := w.heap.size) hg6 (by simp; omega) (fun q hq => by have := (HO5.out.lt q hq).1; omega))))
          go_roundw
          case rel => exact ⟨n + 1, hlt2.out, HP2.out, by go_num, by rw [SL.out]; exact ho6, B6, K6⟩
          case measure => simp [intOf]; omega
        · have HN := Lib.hid hP
          clear hP
          go_wp2
          go_ret2
          exact ⟨⟨_, .inr ⟨fun hF => HN.out (hF n hlt2.out), rfl⟩⟩, HB5.out.alloc (by exact HB5.out.size) _⟩
      · have HD := Lib.hid (rows_done (l := l) (p := p) HM.out h2.1 hn (.inr (by rw [← EK.out]; exact hk)))
        have H := Lib.hid (And.intro hF (And.intro hO hb))
        clear hF hO hb hK hn hpc h34 hpM1
        go_wp2
        go_ret2
        refine ⟨⟨_, .inl ⟨?_, rfl, ?_⟩⟩, H.out.2.2⟩
        · unfold pgF; rw [← HD.out]; exact H.out.1
        · unfold pgL; rw [← HD.out]; exact H.out.2.1.lower (Nat.le_succ _)
    · have HD := Lib.hid (rows_done (l := l) (p := p) HM.out h2.1 hn (.inl hlt))
      have H := Lib.hid (And.intro hF (And.intro hO hb))
      clear hF hO hb hK hn hpM1
      go_wp2
      go_ret2
      refine ⟨⟨_, .inl ⟨?_, rfl, ?_⟩⟩, H.out.2.2⟩
      · unfold pgF; rw [← HD.out]; exact H.out.1
      · unfold pgL; rw [← HD.out]; exact H.out.2.1.lower (Nat.le_succ _)
end Go.Proofs.YtpniljcnknknoaaGreatDoor

/-
  Sheets: PrintTable (spec).
-/
namespace Go.Proofs.YtpniljcnknknoaaGreatDoor
open Go.RowKit
set_option linter.unusedVariables false
set_option linter.unusedSimpArgs false
set_option maxRecDepth 100000
attribute [local go_sem ↓] Go.wp_at_zero Go.wp_at_succ

/-- What PrintTable and JobSheet return. -/
def TxtE (s : ByteArray) (P : Prop) (e : Ending) : Prop := (P ∧ e = .returned (.tuple #[.string s, .bool true])) ∨ (¬ P ∧ e = .returned (.tuple #[.string ⟨#[]⟩, .bool false]))
theorem shOk_iff {W : Nat} {l : List Int} {R A M : Nat} (hM : R * A = M) : shOk W l R A = true ↔ pgsF W l R M (pgN l M) := by unfold shOk; rw [hM]; exact decide_eq_true_iff
theorem putL_take (a : ByteArray) {ls : List ByteArray} {k : Nat} (h : k < ls.length) : putL a (ls.take (k + 1)) = putL a (ls.take k) ++ sat ls k ++ ⟨#[10]⟩ := by
  rw [List.take_succ_eq_append_getElem h, putL_snoc, sat_eq ls k h, ByteArray.append_assoc]
theorem pgL_len (W : Nat) (l : List Int) (R M p : Nat) : (pgL W l R M p).length = pgRows l R M p := rowsL_len _ _ _ _
theorem pgRows_le (l : List Int) (R M p : Nat) : pgRows l R M p ≤ R := Nat.min_le_left _ _
theorem pgL_size {W : Nat} {l : List Int} {R M p : Nat} (h : pgF W l R M p) (hR : 0 < R) (hW : W ≤ 12) (hl : l.length ≤ 60) : ∀ s ∈ pgL W l R M p, s.size ≤ 780 := rowsL_size h hR hW (by rw [pgE_len]; omega)
theorem putTake_size {a : ByteArray} {ls : List ByteArray} {k q : Nat} (h : ∀ s ∈ ls, s.size ≤ 780) (hk : k ≤ ls.length) (hl : ls.length ≤ 20) (ha : a.size ≤ 20000 * q + 1) (hq : q ≤ 60) : (putL a (ls.take k)).size ≤ 1300000 := by
  have := putL_size (a := a) (ls := ls.take k) (fun s hs => h s (List.mem_of_mem_take hs))
  rw [List.length_take, Nat.min_eq_left hk] at this
  have h2 : (780 + 1) * k ≤ 781 * 20 := Nat.mul_le_mul (by omega) (by omega)
  omega

set_option maxHeartbeats 4000000 in
theorem specPT_any (R A W M : Nat) (v : Value) (l : List Int) (w : World) (hv : Ints w v l) (h1 : 1 ≤ R ∧ R ≤ 20) (h2 : 1 ≤ A ∧ A ≤ 6) (h3 : 1 ≤ W ∧ W ≤ 12) (hl : l.length ≤ 60) (hM : R * A = M) :
    Calls Tryz.prog 20 #[.agg #[.int .i64 R, .int .i64 A, .int .i64 W], v] w fun e w' => TxtE (shS W l R A) (tableOk l = true ∧ shOk W l R A = true) e ∧ Below w.heap.size w w' := by
  have HV := Lib.hid hv
  have HM := Lib.hid hM
  have hlay := layOk_nat h1 h2 h3
  have hM0 : 0 < M := by rw [← hM]; exact Nat.mul_pos h1.1 h2.1
  obtain ⟨B, cp, rfl, hlc, hc, hrd⟩ := hv.open_
  have K1 := Blk.new w 25 [.int .i64 R, .int .i64 A, .int .i64 W]
  have B1 := bel_alloc w (.cells #[.int .i64 R, .int .i64 A, .int .i64 W] 25)
  obtain ⟨a0, a1, a2⟩ := K1.lay
  clear hv hrd hM
  go_enter Tryz.func20, Tryz.ntmps20
  go_wp2_with fail
  refine (specLay_any R A W _).mono ?_
  rintro e w2 ⟨rfl, b2⟩
  rw [hlay]
  replace K1 := K1.below b2 K1.lt
  have HB := Lib.hid (bel_trans B1 b2)
  clear a0 a1 a2 b2 B1
  obtain ⟨a0, a1, a2⟩ := K1.lay
  go_wp2_with fail
  refine (specTable_any _ l _ (HV.out.bel HB.out)).mono ?_
  rintro e w3 ⟨rfl, rfl⟩
  cases ht : tableOk l
  · go_wp2
    go_ret2
    exact ⟨.inr ⟨fun h => by rw [ht] at h; exact Bool.noConfusion h.1, rfl⟩, HB.out⟩
  · obtain ⟨q0, hq0⟩ : ∃ q, pgN l M = q := ⟨_, rfl⟩
    have hq60 : q0 ≤ 60 := by rw [← hq0]; exact Nat.le_trans (pgN_le hM0) hl
    go_wp2_with fail
    clear a0 a1 a2
    go_loopw [6, 7] (fun s i wr => ∃ q : Nat, q ≤ q0 ∧ pgsF W l R M q ∧ i = .int .i64 q ∧ s = .string (textN W l R M q) ∧ Below w.heap.size w wr ∧ Blk wr w.heap.size 25 [.int .i64 R, .int .i64 A, .int .i64 W]) (fun _ i _ => q0 - (intOf i).toNat)
    case atStart => exact ⟨0, Nat.zero_le _, fun p hp => absurd hp (Nat.not_lt_zero _), rfl, rfl, HB.out, K1⟩
    case round =>
      obtain ⟨q, hq, hF, rfl, rfl, hb, hK⟩ := hrel
      obtain ⟨c0, c1, c2⟩ := hK.lay
      have hKl := hK.lt
      have hts := textN_size hF (Nat.lt_of_lt_of_le Nat.zero_lt_one h1.1) h1.2 h3.2 hl
      have H := Lib.hid (And.intro hF (And.intro hb hK))
      have HQ := Lib.hid hq0
      clear hF hb hK K1 hq0
      go_wp2_with fail
      refine (specPN_any R A W l _ h1 h2 h3 hl).mono ?_
      rw [HM.out, HQ.out]
      rintro e w4 ⟨rfl, b4⟩
      have HB4 := Lib.hid (bel_trans H.out.2.1 b4)
      have K4 := H.out.2.2.below b4 hKl
      clear c0 c1 c2 b4
      obtain ⟨c0, c1, c2⟩ := K4.lay
      have hKl4 := K4.lt
      by_cases hlt : q < q0
      · have hp60 : q ≤ 60 := by omega
        have hmore := Lib.hid hlt
        go_wp2_with fail
        refine (l6Page_any R A W M q _ l _ (HV.out.bel HB4.out) h1 h2 h3 hl HM.out hp60).mono ?_
        rintro e w5 ⟨⟨u, T⟩, b5⟩
        have HB5 := Lib.hid (bel_trans HB4.out b5)
        have K5 := Lib.hid (K4.below b5 hKl4)
        clear b5 c0 c1 c2 K4
        rcases T with ⟨hP, rfl, hO⟩ | ⟨hP, rfl⟩
        · obtain ⟨A5, c5, rfl, hlc5, -, hrd5⟩ := hO.strs.open_
          have HR5 := Lib.hid hrd5
          have HF2 := Lib.hid (pgsF_succ H.out.1 hP)
          have HSZ := Lib.hid (pgL_size hP (Nat.lt_of_lt_of_le Nat.zero_lt_one h1.1) h3.2 hl)
          have hlen : (pgL W l R M q).length ≤ 20 := by rw [pgL_len]; exact Nat.le_trans (pgRows_le _ _ _ _) h1.2
          obtain ⟨ls, hls⟩ : ∃ ls, pgL W l R M q = ls := ⟨_, rfl⟩
          obtain ⟨T0, hT0⟩ : ∃ T0, textN W l R M q = T0 := ⟨_, rfl⟩
          rw [hls] at HR5 HSZ hlen hlc5
          rw [hls, hT0]
          rw [hT0] at hts
          clear hP hrd5 hO
          by_cases hq1 : 0 < q
          · have NS := Lib.hid (show textN W l R M (q + 1) = putL (T0 ++ ⟨#[10]⟩) ls by rw [textN_succ hq1, hT0, hls])
            have hcat : ¬ 9223372036854775807 < T0.size + 1 := by omega
            have ha : (T0 ++ ⟨#[10]⟩).size ≤ 20000 * q + 1 := by rw [ByteArray.size_append]; exact Nat.add_le_add hts (Nat.le_refl _)
            clear hls hT0
            go_wp2_with fail
            go_loopw [6, 10] (fun s i wr => ∃ k : Nat, k ≤ ls.length ∧ i = .int .i64 k ∧ s = .string (putL (T0 ++ ⟨#[10]⟩) (ls.take k)) ∧ wr = w5) (fun _ i _ => ls.length - (intOf i).toNat)
            case atStart => exact ⟨0, Nat.zero_le _, rfl, rfl, rfl⟩
            case round =>
              obtain ⟨k, hk, rfl, rfl, rfl⟩ := hrel
              by_cases hkl : k < ls.length
              · obtain ⟨b, o, rfl, hbb, hcell⟩ := HR5.out.strs (Nat.lt_of_le_of_lt (Nat.zero_le _) hkl)
                have hck := hcell k hkl
                have hps := putTake_size HSZ.out hk hlen ha hp60
                have hzz := HSZ.out _ (sat_mem ls k hkl)
                have PT := Lib.hid (putL_take (T0 ++ ⟨#[10]⟩) hkl)
                obtain ⟨Z, hZ⟩ : ∃ Z, sat ls k = Z := ⟨_, rfl⟩
                obtain ⟨U, hU⟩ : ∃ U, putL (T0 ++ ⟨#[10]⟩) (ls.take k) = U := ⟨_, rfl⟩
                rw [hZ] at hck hzz
                rw [hU] at hps
                replace PT := Lib.hid (show putL (T0 ++ ⟨#[10]⟩) (ls.take (k + 1)) = U ++ Z ++ ⟨#[10]⟩ by rw [PT.out, hU, hZ])
                rw [hU]
                have hcat : ¬ 9223372036854775807 < U.size + Z.size := by omega
                have hs2 : (U ++ Z).size = U.size + Z.size := ByteArray.size_append
                have hcat2 : ¬ 9223372036854775807 < (U ++ Z).size + 1 := by omega
                have hcat3 : ¬ 9223372036854775807 < U.size + Z.size + 1 := by omega
                clear hcell hZ hU ha hts
                go_wp2
                go_roundw
                case rel => exact ⟨k + 1, hkl, by go_num, by rw [PT.out], by first | rfl | trivial⟩
                case measure => simp [intOf]; omega
              · have hke : k = ls.length := by omega
                have TE := Lib.hid (show putL (T0 ++ ⟨#[10]⟩) (ls.take k) = textN W l R M (q + 1) by rw [hke, List.take_length, NS.out])
                rw [TE.out]
                clear hke ha hts
                go_wp2
                go_roundw
                case rel => exact ⟨q + 1, hmore.out, HF2.out, by go_num, rfl, HB5.out, K5.out⟩
                case measure => simp [intOf]; omega
          · have e0 : q = 0 := by omega
            have NS := Lib.hid (show textN W l R M (q + 1) = putL T0 ls by rw [← hT0, ← hls, e0]; exact textN_one _ _ _ _)
            have ha : T0.size ≤ 20000 * q + 1 := by omega
            clear hls hT0 e0
            go_wp2_with fail
            go_loopw [6, 10] (fun s i wr => ∃ k : Nat, k ≤ ls.length ∧ i = .int .i64 k ∧ s = .string (putL T0 (ls.take k)) ∧ wr = w5) (fun _ i _ => ls.length - (intOf i).toNat)
            case atStart => exact ⟨0, Nat.zero_le _, rfl, rfl, rfl⟩
            case round =>
              obtain ⟨k, hk, rfl, rfl, rfl⟩ := hrel
              by_cases hkl : k < ls.length
              · obtain ⟨b, o, rfl, hbb, hcell⟩ := HR5.out.strs (Nat.lt_of_le_of_lt (Nat.zero_le _) hkl)
                have hck := hcell k hkl
                have hps := putTake_size HSZ.out hk hlen ha hp60
                have hzz := HSZ.out _ (sat_mem ls k hkl)
                have PT := Lib.hid (putL_take T0 hkl)
                obtain ⟨Z, hZ⟩ : ∃ Z, sat ls k = Z := ⟨_, rfl⟩
                obtain ⟨U, hU⟩ : ∃ U, putL T0 (ls.take k) = U := ⟨_, rfl⟩
                rw [hZ] at hck hzz
                rw [hU] at hps
                replace PT := Lib.hid (show putL T0 (ls.take (k + 1)) = U ++ Z ++ ⟨#[10]⟩ by rw [PT.out, hU, hZ])
                rw [hU]
                have hcat : ¬ 9223372036854775807 < U.size + Z.size := by omega
                have hs2 : (U ++ Z).size = U.size + Z.size := ByteArray.size_append
                have hcat2 : ¬ 9223372036854775807 < (U ++ Z).size + 1 := by omega
                have hcat3 : ¬ 9223372036854775807 < U.size + Z.size + 1 := by omega
                clear hcell hZ hU ha hts
                go_wp2
                go_roundw
                case rel => exact ⟨k + 1, hkl, by go_num, by rw [PT.out], by first | rfl | trivial⟩
                case measure => simp [intOf]; omega
              · have hke : k = ls.length := by omega
                have TE := Lib.hid (show putL T0 (ls.take k) = textN W l R M (q + 1) by rw [hke, List.take_length, NS.out])
                rw [TE.out]
                clear hke ha hts
                go_wp2
                go_roundw
                case rel => exact ⟨q + 1, hmore.out, HF2.out, by go_num, rfl, HB5.out, K5.out⟩
                case measure => simp [intOf]; omega
        · have HN := Lib.hid hP
          clear hP
          go_wp2
          go_ret2
          exact ⟨.inr ⟨fun h => HN.out ((shOk_iff HM.out).1 h.2 q (by rw [HQ.out]; exact hmore.out)), rfl⟩, HB5.out⟩
      · have hqq : q = q0 := by omega
        have HQ2 := Lib.hid (hqq.trans HQ.out.symm)
        clear hqq
        go_wp2
        go_ret2
        refine ⟨.inl ⟨⟨ht, (shOk_iff HM.out).2 (by rw [← HQ2.out]; exact H.out.1)⟩, ?_⟩, HB4.out⟩
        unfold shS
        rw [HM.out, ← HQ2.out]
        rfl
end Go.Proofs.YtpniljcnknknoaaGreatDoor

/-
  Sheets: pageExists, entriesOfPage (impl).
-/
namespace Go.Proofs.YtpniljcnknknoaaGreatDoor
open Go.RowKit
set_option linter.unusedVariables false
set_option linter.unusedSimpArgs false
set_option maxRecDepth 100000
attribute [local go_sem ↓] Go.wp_at_zero Go.wp_at_succ

set_option maxHeartbeats 2000000 in
theorem pgEx_any (R A W M p : Nat) (v : Value) (l : List Int) (w : World) (hv : Ints w v l) (h1 : 1 ≤ R ∧ R ≤ 20) (h2 : 1 ≤ A ∧ A ≤ 6) (h3 : 1 ≤ W ∧ W ≤ 12) (hl : l.length ≤ 60) (hM : R * A = M) (ht : tableOk l = true) (hp : p < pgN l M) :
    Calls Tryz.prog 60 #[.agg #[.int .i64 R, .int .i64 A, .int .i64 W], v, .int .i64 p] w fun e w' => e = .returned (.bool true) ∧ Below w.heap.size w w' := by
  have HV := Lib.hid hv
  have HM := Lib.hid hM
  have hlay := layOk_nat h1 h2 h3
  have hM0 : 0 < M := by rw [← hM]; exact Nat.mul_pos h1.1 h2.1
  have hq60 : pgN l M ≤ 60 := Nat.le_trans (pgN_le hM0) hl
  obtain ⟨q0, hq0⟩ : ∃ q, pgN l M = q := ⟨_, rfl⟩
  rw [hq0] at hp hq60
  have HQ := Lib.hid hq0
  obtain ⟨B, cp, rfl, hlc, hc, hrd⟩ := hv.open_
  have K1 := Blk.new w 25 [.int .i64 R, .int .i64 A, .int .i64 W]
  have B1 := bel_alloc w (.cells #[.int .i64 R, .int .i64 A, .int .i64 W] 25)
  obtain ⟨a0, a1, a2⟩ := K1.lay
  clear hv hrd hM hq0
  go_enter Tryz.func60, Tryz.ntmps60
  go_wp2_with fail
  refine (implLay_any R A W _).mono ?_
  rintro e w2 ⟨rfl, b2⟩
  rw [hlay]
  replace K1 := K1.below b2 K1.lt
  have HB := Lib.hid (bel_trans B1 b2)
  clear a0 a1 a2 b2 B1
  obtain ⟨a0, a1, a2⟩ := K1.lay
  go_wp2_with fail
  refine (implTable_any _ l _ (HV.out.bel HB.out)).mono ?_
  rintro e w3 ⟨rfl, rfl⟩
  rw [ht]
  go_wp2_with fail
  refine (implPN_any R A W l _ h1 h2 h3 hl).mono ?_
  rw [HM.out, HQ.out]
  rintro e w4 ⟨rfl, b4⟩
  have HB4 := Lib.hid (bel_trans HB.out b4)
  clear a0 a1 a2 b4
  go_wp2
  go_ret
  exact ⟨rfl, HB4.out⟩
theorem Ints.midP {w : World} {b o c : Nat} {l : List Int} (h : Ints w (.slice (some ⟨b, o, none⟩) l.length c) l) {lo n : Nat} (hn : lo + n ≤ l.length) : Ints w (.slice (some ⟨b, o + lo, none⟩) n (c - lo)) ((l.drop lo).take n) := by
  obtain ⟨A', c', e, h1, h2, h3⟩ := h.open_
  injection e with e1 _ e3
  subst e1 e3
  have hl : ((l.drop lo).take n).length = n := by rw [List.length_take, List.length_drop]; omega
  refine ⟨⟨some ⟨b, o + lo, none⟩, c - lo, by rw [iv_length, hl], by rw [iv_length, hl]; omega, by unfold maxLen; omega, fun h0 => ?_⟩, fun x hx => h.2 x (List.mem_of_mem_drop (List.mem_of_mem_take hx))⟩
  rw [iv_length, hl] at h0
  obtain ⟨b', o', e', hb, hc⟩ := h3 (by rw [iv_length]; omega)
  injection e' with e'
  injection e' with e1 e2
  subst e1 e2
  refine ⟨b, o + lo, rfl, hb, fun k u hu => ?_⟩
  have hk : k < n := by
    rcases Nat.lt_or_ge k n with q | q
    · exact q
    · rw [List.getElem?_eq_none (by rw [iv_length, hl]; exact q)] at hu; cases hu
  rw [Nat.add_assoc]
  refine hc (lo + k) u ?_
  rw [← hu, iv, iv, List.map_take, List.map_drop, List.getElem?_take, if_pos hk, List.getElem?_drop]

theorem entr_nat {P M L : Nat} (hp : P < L) (hl : L ≤ 60) (hM : M ≤ 120) (h0 : 0 < M) : ∃ hi, min (P + M) L = hi ∧ hi ≤ L ∧ P < hi ∧ P + M ≤ 180 ∧ min ((P : Int) + (M : Int)) (L : Int) = (hi : Int) := ⟨_, rfl, by omega, by omega, by omega, by omega⟩
theorem pgE_mid (l : List Int) (M p : Nat) : pgE l M p = (l.drop (p * M)).take (min (p * M + M) l.length - p * M) := by
  unfold pgE
  rcases Nat.le_total (p * M + M) l.length with h | h
  · rw [Nat.min_eq_left h, Nat.add_sub_cancel_left]
  · rw [Nat.min_eq_right h, List.take_of_length_le (by simp; omega), List.take_of_length_le (by simp)]

set_option maxHeartbeats 2000000 in
theorem entries_any (R A W M p : Nat) (v : Value) (l : List Int) (w : World) (hv : Ints w v l) (h1 : 1 ≤ R ∧ R ≤ 20) (h2 : 1 ≤ A ∧ A ≤ 6) (h3 : 1 ≤ W ∧ W ≤ 12) (hl : l.length ≤ 60) (hM : R * A = M) (hp : p < pgN l M) :
    Calls Tryz.prog 61 #[.agg #[.int .i64 R, .int .i64 A, .int .i64 W], v, .int .i64 p] w fun e w' => ∃ r, e = .returned r ∧ (∀ w0, Ints w0 v l → Ints w0 r (pgE l M p)) ∧ Below w.heap.size w w' := by
  have HV := Lib.hid hv
  have HM := Lib.hid hM
  have hM0 : 0 < M := by rw [← hM]; exact Nat.mul_pos h1.1 h2.1
  have hM1 : M ≤ 120 := by rw [← hM]; exact mul_le_RA h1.2 h2.2
  have hw1 := Lib.hid (wrapMul hM (Nat.le_trans hM1 (by decide)))
  have hp0 := (pgN_iff p hM0).2 hp
  obtain ⟨P, hP⟩ : ∃ P, p * M = P := ⟨_, rfl⟩
  rw [hP] at hp0
  obtain ⟨hi, hhi, hh1, hh2, hPM, hmin⟩ := entr_nat hp0 hl hM1 hM0
  have hw2 := wrapMul hP (Nat.le_trans (Nat.le_add_right _ _) (Nat.le_trans hPM (by decide)))
  have hw3 : wrap64 ((P : Int) + (M : Int)) = (P : Int) + (M : Int) := by
    have e : (P : Int) + (M : Int) = ((P + M : Nat) : Int) := by push_cast; rfl
    rw [e]
    exact IntWalk.wrap64_in _ (by clear hw2 hw1; omega)
  obtain ⟨B, cp, rfl, hlc, hc, hrd⟩ := hv.open_
  obtain ⟨b, o, rfl, hbb, -⟩ := hrd.ints (Nat.lt_of_le_of_lt (Nat.zero_le _) hp0)
  have RI := Lib.hid (show ∀ w0, Ints w0 (.slice (some ⟨b, o, none⟩) l.length cp) l → Ints w0 (.slice (some ⟨b, o + P, none⟩) (hi - P) (cp - P)) (pgE l M p) by
    intro w0 h0
    rw [pgE_mid, hP, hhi]; exact h0.midP (by rw [Nat.add_sub_cancel' (Nat.le_of_lt hh2)]; exact hh1))
  have K1 := Blk.new w 25 [.int .i64 R, .int .i64 A, .int .i64 W]
  have B1 := bel_alloc w (.cells #[.int .i64 R, .int .i64 A, .int .i64 W] 25)
  obtain ⟨a0, a1, a2⟩ := K1.lay
  have HH := Lib.hid hhi
  have HPP := Lib.hid hP
  have HHp := Lib.hid hp
  clear hv hrd hM hp hP hhi
  go_enter Tryz.func61, Tryz.ntmps61
  go_wp2_with fail
  refine (places_any R A W M _ hw1.out).mono ?_
  rintro e w2 ⟨rfl, b2⟩
  replace K1 := K1.below b2 K1.lt
  have HB := Lib.hid (bel_trans B1 b2)
  clear a0 a1 a2 b2 B1
  obtain ⟨a0, a1, a2⟩ := K1.lay
  go_wp2_with fail
  refine (places_any R A W M _ hw1.out).mono ?_
  rintro e w3 ⟨rfl, b3⟩
  have HB3 := Lib.hid (bel_trans HB.out b3)
  clear a0 a1 a2 b3
  go_wp2
  go_ret
  exact ⟨_, rfl, RI.out, HB3.out⟩
end Go.Proofs.YtpniljcnknknoaaGreatDoor

/-
  Sheets: PageLines (impl).
-/
namespace Go.Proofs.YtpniljcnknknoaaGreatDoor
open Go.RowKit
set_option linter.unusedVariables false
set_option linter.unusedSimpArgs false
set_option maxRecDepth 100000
attribute [local go_sem ↓] Go.wp_at_zero Go.wp_at_succ

theorem rep_any (n : Nat) (w : World) (hn : n ≤ 1000) :
    Calls Tryz.prog 137 #[.string ⟨#[32]⟩, .int .i64 n] w fun e w' => e = .returned (.string (spS n)) ∧ Below w.heap.size w w' :=
  Tryz.strings_Repeat ⟨#[32]⟩ n w (by omega) (by rw [show (⟨#[32]⟩ : ByteArray).size = 1 from rfl]; omega)

theorem Tryz.mkRoom (c : Nat) (hc : c ≤ 1000) (W : World) : (Instr.makeSlice 46 (.int .i64 0) (.int .i64 (c : Int))).run Tryz.prog W =
    .ok (.slice (some ⟨W.heap.size, 0, none⟩) 0 c) (W.alloc (.cells (reps c (.string ⟨#[]⟩)).toArray 9)) := by
  rw [run_make_room 46 9 (.string ⟨#[]⟩) 16 Tryz.underlying46 Tryz.infoStr rfl .i64 .i64 c (by omega) (by omega) W]
  have := madeCells_reps (.string ⟨#[]⟩) c rfl
  rw [show (Value.string ⟨#[]⟩).cells = #[.string ⟨#[]⟩] from rfl] at this
  rw [this]
theorem OwnS.room (w : World) (c : Nat) (hc : c ≤ 1000) : OwnS (w.alloc (.cells (reps c (.string ⟨#[]⟩)).toArray 9)) w.heap.size (.slice (some ⟨w.heap.size, 0, none⟩) 0 c) [] :=
  OwnS.mk' (cs := reps c (.string ⟨#[]⟩)) (l := []) (Nat.le_refl _) (Blk.new w 9 _) (Nat.zero_le _) (by omega) (reps_length _ _) (fun j hj => absurd hj (by simp)) (fun _ h => by simp at h)
set_option maxHeartbeats 4000000 in
theorem pageLines_any (R A W M p : Nat) (v : Value) (l : List Int) (w : World) (hv : Ints w v l) (h1 : 1 ≤ R ∧ R ≤ 20) (h2 : 1 ≤ A ∧ A ≤ 6) (h3 : 1 ≤ W ∧ W ≤ 12) (hl : l.length ≤ 60) (hM : R * A = M) (ht : tableOk l = true) (hp : p < pgN l M) (hT : Tab w) :
    Calls Tryz.prog 65 #[.agg #[.int .i64 R, .int .i64 A, .int .i64 W], v, .int .i64 p] w fun e w' => LinesB w' w.heap.size (pgL W l R M p) (pgF W l R M p) e ∧ Below w.heap.size w w' := by
  have HV := Lib.hid hv
  have HM := Lib.hid hM
  have HT := Lib.hid hT
  have HPL := Lib.hid hp
  have HTO := Lib.hid ht
  have hel : (pgE l M p).length ≤ 60 := by rw [pgE_len]; exact Nat.le_trans (Nat.min_le_right _ _) (Nat.le_trans (Nat.sub_le _ _) hl)
  have hrw : pgRows l R M p = min R (pgE l M p).length := rfl
  have hr0 : 0 < (pgE l M p).length := by
    have := (pgN_iff (l := l) p (by rw [← HM.out]; exact Nat.mul_pos h1.1 h2.1)).2 HPL.out
    rw [pgE_len]
    have hM0 : 0 < M := by rw [← HM.out]; exact Nat.mul_pos h1.1 h2.1
    omega
  unfold pgL pgF
  obtain ⟨E, hE⟩ : ∃ E, pgE l M p = E := ⟨_, rfl⟩
  obtain ⟨q0, hq0⟩ : ∃ q, pgRows l R M p = q := ⟨_, rfl⟩
  rw [hE] at hel hrw hr0
  rw [hq0] at hrw
  rw [hq0, hE]
  have hq20 : q0 ≤ 20 := by omega
  have hminI : min (R : Int) (E.length : Int) = (q0 : Int) := by omega
  have EE := Lib.hid hE
  clear hE hq0
  obtain ⟨B, cp, rfl, hlc, hc, hrd⟩ := hv.open_
  have K1 := Blk.new w 25 [.int .i64 R, .int .i64 A, .int .i64 W]
  have B1 := bel_alloc w (.cells #[.int .i64 R, .int .i64 A, .int .i64 W] 25)
  obtain ⟨a0, a1, a2⟩ := K1.lay
  clear hv hrd hM hT hp ht
  go_enter Tryz.func65, Tryz.ntmps65
  go_wp2_with fail
  refine (pgEx_any R A W M p _ l _ (HV.out.bel B1) h1 h2 h3 hl HM.out HTO.out HPL.out).mono ?_
  rintro e w2 ⟨rfl, b2⟩
  replace K1 := K1.below b2 K1.lt
  have HB := Lib.hid (bel_trans B1 b2)
  clear a0 a1 a2 b2 B1
  obtain ⟨a0, a1, a2⟩ := K1.lay
  go_wp2_with fail
  refine (entries_any R A W M p _ l _ (HV.out.bel HB.out) h1 h2 h3 hl HM.out HPL.out).mono ?_
  rintro e w3 ⟨r, rfl, hi, b3⟩
  have HE := Lib.hid (show Ints w r E by rw [← EE.out]; exact hi w HV.out)
  replace K1 := K1.below b3 K1.lt
  replace HB := Lib.hid (bel_trans HB.out b3)
  obtain ⟨A3, c3, rfl, -, -, -⟩ := HE.out.open_
  clear a0 a1 a2 b3 hi
  obtain ⟨a0, a1, a2⟩ := K1.lay
  have hmk := fun W => Tryz.mkRoom R (by omega) W
  have OR := OwnS.room w3 R (by omega)
  have BR := bel_alloc w3 (.cells (reps R (.string ⟨#[]⟩)).toArray 9)
  have KR := K1.below BR K1.lt
  obtain ⟨d0, d1, d2⟩ := KR.lay
  have HBR := Lib.hid (bel_trans HB.out BR)
  have hgt : rowsL W E R 0 = [] := rfl
  go_wp2_with fail
  generalize hW4 : w3.alloc (.cells (reps R (.string ⟨#[]⟩)).toArray 9) = w4 at *
  clear hW4 d0 d1 d2 a0 a1 a2 hmk BR
  have hbase : w.heap.size + 1 ≤ w3.heap.size := K1.lt
  have OR1 := OR.lower hbase
  clear OR K1
  go_loopw [9, 31] (fun s i wr => ∃ n : Nat, n ≤ q0 ∧ rowsF W E R n ∧ i = .int .i64 n ∧ OwnS wr (w.heap.size + 1) s (rowsL W E R n) ∧ Below w.heap.size w wr ∧ Blk wr w.heap.size 25 [.int .i64 R, .int .i64 A, .int .i64 W]) (fun _ i _ => q0 - (intOf i).toNat)
  case atStart => exact ⟨0, Nat.zero_le _, fun r hr => absurd hr (Nat.not_lt_zero _), rfl, by rw [hgt]; exact OR1, HBR.out, KR⟩
  case round =>
    obtain ⟨n, hn, hF, rfl, hO, hb, hK⟩ := hrel
    obtain ⟨wo, hwo⟩ : ∃ wo, wo = wr := ⟨_, rfl⟩
    subst hwo
    have H := Lib.hid (And.intro hF (And.intro hO hb))
    have hbz := hb.size
    have HKR := Lib.hid hK
    have HEn := Lib.hid (HE.out.bel hb)
    have HTn := Lib.hid (HT.out.bel hb)
    have kl := HKR.out.lt
    clear hF hO hb hK OR1 KR
    by_cases hlt : n < q0
    · have hnR : n < R := by omega
      have hltm : n < min R E.length := by omega
      have hltd : decide (n < min R E.length) = true := decide_eq_true hltm
      go_wp2_with fail
      go_loopw [11, 12] (fun s i wc => ∃ c I : Nat, c ≤ colN E.length R n ∧ fitL W E R n c ∧ i = .int .i64 I ∧ I = n + c * R ∧ OwnS wc wo.heap.size s (cellL W E R n c) ∧ Below wo.heap.size wo wc) (fun _ i _ => E.length - (intOf i).toNat)
      case atStart => exact ⟨0, n, Nat.zero_le _, fun i hi => absurd hi (Nat.not_lt_zero _), rfl, by omega, OwnS.nil_ _ _, Below.refl _ _⟩
      case round =>
        obtain ⟨c, I, hc1, hfit, rfl, hI, hO, hb⟩ := hrel
        have H2 := Lib.hid (And.intro hc1 (And.intro hfit (And.intro hI (And.intro hO hb))))
        have hbz2 := hb.size
        have HK2 := Lib.hid (HKR.out.below hb kl)
        have HE2 := Lib.hid (HEn.out.bel hb)
        have HT2 := Lib.hid (HTn.out.bel hb)
        obtain ⟨d0, d1, d2⟩ := HK2.out.lay
        clear hc1 hfit hI hO hb
        by_cases hil : I < E.length
        · have hR0 : 0 < R := h1.1
          obtain ⟨b, o, e3, hbb, hcell⟩ := HE2.out.open_.choose_spec.choose_spec.2.2.2.ints hr0
          have hA3 := (Value.slice.inj HE2.out.open_.choose_spec.choose_spec.1).1
          rw [← hA3] at e3
          subst e3
          have hck := hcell I hil
          have hx := HE2.out.2.at _ I
          have hmore := Lib.hid ((colN_iff (L := E.length) (r := n) c hR0).1 (by rw [← H2.out.2.2.1]; exact hil))
          have his := itoaS_size hx.1 hx.2
          obtain ⟨Z, hZ⟩ : ∃ Z, itoaS (at_ E I) = Z := ⟨_, rfl⟩
          rw [hZ] at his
          have HZ := Lib.hid hZ
          clear hcell hA3
          go_wp2_with fail
          refine (itoa_any (at_ E I) _ hx HT2.out).mono ?_
          rw [hZ]
          rintro e w5 ⟨rfl, b5⟩
          clear hZ
          have HB5 := Lib.hid (bel_trans (H2.out.2.2.2.2) b5)
          have HO5 := Lib.hid (H2.out.2.2.2.1.bel b5)
          have HK5 := HK2.out.below b5 HK2.out.lt
          clear b5 d0 d1 d2 hck
          obtain ⟨d0, d1, d2⟩ := HK5.lay
          have HCI := Lib.hid (show itoaS (at_ E (n + c * R)) = Z by rw [← H2.out.2.2.1]; exact HZ.out)
          obtain ⟨m, hm⟩ : ∃ m : Nat, Z.size = m := ⟨_, rfl⟩
          rw [hm] at his
          by_cases hmW : m ≤ W
          · obtain ⟨d, hd⟩ : ∃ d : Nat, W - m = d := ⟨_, rfl⟩
            have hsub : ((W : Int) - (m : Int)) = (d : Int) := by omega
            have hd12 : d ≤ 1000 := by omega
            have hz5 := HB5.out.size
            have hsz := spS_size d
            have hcat : ¬ 9223372036854775807 < (spS d).size + Z.size := by omega
            have hcat2 : ¬ 9223372036854775807 < d + m := by omega
            have HPD := Lib.hid (show padS W (at_ E (n + c * R)) = spS d ++ Z by unfold padS; rw [HCI.out, hm, hd])
            have HF2 := Lib.hid (show fitL W E R n (c + 1) from by
              intro i hi
              rcases Nat.lt_or_ge i c with h' | h'
              · exact H2.out.2.1 i h'
              · obtain rfl : i = c := by omega
                rw [HCI.out, hm]; exact hmW)
            have HCL := Lib.hid (cellL_succ W E R n c)
            have hcl := cellL_len W E R n c
            have hc60 : c ≤ 60 := Nat.le_trans (Nat.le_of_lt hmore.out) (Nat.le_trans (colN_le hR0) hel)
            have HI2 := Lib.hid (show I + R = n + (c + 1) * R by rw [H2.out.2.2.1, Nat.succ_mul]; omega)
            obtain ⟨S, hS⟩ : ∃ S, cellL W E R n c = S := ⟨_, rfl⟩
            rw [hS] at hcl
            replace HO5 := Lib.hid (show OwnS w5 wo.heap.size u11 S by rw [← hS]; exact HO5.out)
            replace HCL := Lib.hid (show cellL W E R n (c + 1) = S ++ [spS d ++ Z] by rw [HCL.out, hS, HPD.out])
            clear hd hS
            go_wp2_with fail
            refine (rep_any d _ hd12).mono ?_
            rintro e w6 ⟨rfl, b6⟩
            have HB6 := Lib.hid (HB5.out.trans (b6.mono hz5))
            have HO6 := Lib.hid (HO5.out.bel b6)
            have hz6 := HB6.out.size
            have hzz : (spS d ++ Z).size ≤ 9223372036854775807 := by rw [ByteArray.size_append]; omega
            clear b6 d0 d1 d2
            go_wp2_with (at_builtin; go_must (refine app_str rfl (.tmp 53) (.tmp 62) (by rfl) wo.heap.size _ S (by rfl) (by exact HO6.out.bel (bel_alloc _ _)) _ _ (spS d ++ Z) (by rfl) (by exact new_cell _ _ _) hzz (by omega) (by simp; omega) ?_; intro v7 w7 ho7 hg7 hat7; have B7 := (HB6.out.alloc hz6 (.cells #[.string (spS d ++ Z)] 9)).trans (below_own (base := wo.heap.size) hg7 (by simp; omega) (fun q hq => by have := (HO6.out.lt q hq).1; omega)); obtain ⟨f0, f1, f2⟩ := (HKR.out.below B7 kl).lay))
            go_roundw
            case rel =>
              exact ⟨c + 1, I + R, hmore.out, HF2.out, by go_num, HI2.out, by rw [HCL.out]; exact ho7, B7⟩
            case measure => simp [intOf]; omega
          · have hlt3 : W < m := Nat.lt_of_not_le hmW
            go_wp2
            go_ret2
            refine ⟨⟨_, .inr ⟨fun hF => ?_, rfl⟩⟩, ?_⟩
            · have := hF n hlt c hmore.out
              rw [HCI.out, hm] at this
              exact hmW this
            · exact H.out.2.2.trans (HB5.out.mono hbz)
        · have hR0 : 0 < R := h1.1
          have hce : c = colN E.length R n := Nat.le_antisymm H2.out.1 (Nat.le_of_not_lt fun h => hil (by rw [H2.out.2.2.1]; exact (colN_iff c hR0).2 h))
          have hcl := cellL_len W E R n c
          have hc60 : c ≤ 60 := Nat.le_trans H2.out.1 (Nat.le_trans (colN_le hR0) hel)
          have HLS := lineS_size H2.out.2.1
          have hl13 : (1 + W) * c ≤ 13 * 60 := Nat.mul_le_mul (by omega) hc60
          have HRF := Lib.hid (show rowsF W E R (n + 1) from rowsF_succ H.out.1 (by unfold rowF; rw [← hce]; exact H2.out.2.1))
          have HRL := Lib.hid (show rowsL W E R (n + 1) = rowsL W E R n ++ [lineS W E R n c] by rw [rowsL_succ]; unfold rowS; rw [← hce])
          have hrl := rowsL_len W E R n
          go_wp2_with fail
          refine (joins_any _ (cellL W E R n c) ⟨#[32]⟩ _ H2.out.2.2.2.1.strs (by omega) 12 (fun s hs => Nat.le_trans (cell_size H2.out.2.1 s hs) h3.2) (by omega) (by decide)).mono ?_
          rw [show joinS (cellL W E R n c) ⟨#[32]⟩ = lineS W E R n c from rfl]
          rintro e w5 ⟨rfl, b5⟩
          have HB5 := Lib.hid (bel_trans (H2.out.2.2.2.2) b5)
          have HO5 := Lib.hid (H.out.2.1.bel HB5.out)
          have HK5 := Lib.hid (HKR.out.below HB5.out kl)
          have HBw := Lib.hid (bel_trans H.out.2.2 HB5.out)
          have hz5 := HBw.out.size
          have hz5' := HK5.out.lt
          obtain ⟨Z, hZ⟩ : ∃ Z, lineS W E R n c = Z := ⟨_, rfl⟩
          obtain ⟨S, hS⟩ : ∃ S, rowsL W E R n = S := ⟨_, rfl⟩
          rw [hZ] at HLS
          rw [hS] at hrl
          rw [hZ]
          replace HO5 := Lib.hid (show OwnS w5 (w.heap.size + 1) u9 S by rw [← hS]; exact HO5.out)
          replace HRL := Lib.hid (show rowsL W E R (n + 1) = S ++ [Z] by rw [HRL.out, hS, hZ])
          clear b5 hZ hS d0 d1 d2 hce
          go_wp2_with (at_builtin; go_must (refine app_str rfl (.tmp 64) (.tmp 67) (by rfl) (w.heap.size + 1) _ S (by rfl) (by exact HO5.out.bel (bel_alloc _ _)) _ _ Z (by rfl) (by exact new_cell _ _ _) (by omega) (by omega) (by simp; omega) ?_; intro v6 w6 ho6 hg6 hat6; have K6 := (HK5.out.alloc (.cells #[.string Z] 9)).grown hg6 (fun e => by have := (HO5.out.lt _ e.symm).1; omega); have B6 := (HBw.out.alloc hz5 (.cells #[.string Z] 9)).trans (below_own (base := w.heap.size) hg6 (by simp; omega) (fun q hq => by have := (HO5.out.lt q hq).1; omega))))
          go_roundw
          case rel => exact ⟨n + 1, hlt, HRF.out, by go_num, by rw [HRL.out]; exact ho6, B6, K6⟩
          case measure => simp [intOf]; omega
    · have hnq : n = q0 := by omega
      subst hnq
      go_wp2
      go_ret2
      exact ⟨⟨_, .inl ⟨H.out.1, rfl, H.out.2.1.lower (Nat.le_succ _)⟩⟩, H.out.2.2⟩
end Go.Proofs.YtpniljcnknknoaaGreatDoor

/-
  Sheets: PrintTable (impl), over strings.Builder.
-/
namespace Go.Proofs.YtpniljcnknknoaaGreatDoor
open Go.RowKit
set_option linter.unusedVariables false
set_option linter.unusedSimpArgs false
set_option maxRecDepth 100000
attribute [local go_sem ↓] Go.wp_at_zero Go.wp_at_succ

/-- A builder that holds a text. -/
def Bld (w : World) (b : Nat) (T : ByteArray) : Prop := Lib.IsBuilderF 82 5 b b (Lib.byteCells T.data.toList) w
theorem bldAt_bel {w w' : World} {B b : Nat} {p : Value} {bs : List Value} (h : Lib.BuilderAtF 82 5 B b p bs w) (hb : Below w.heap.size w w') : Lib.BuilderAtF 82 5 B b p bs w' := by
  have hlt := h.lt
  obtain ⟨hB, v, hh, hown, hne⟩ := h
  exact ⟨hB, v, (hb.block b hlt).trans hh, hown.kept (row := none) ⟨hb.os, hb.tape, hb.output, hb.size, fun i hi _ => hb.block i hi⟩ (by cases v.ownBlock <;> simp), hne⟩
theorem Bld.bel {w w' : World} {b : Nat} {T : ByteArray} (h : Bld w b T) (hb : Below w.heap.size w w') : Bld w' b T := h.elim (fun x => .inl (bldAt_bel x hb)) (fun x => .inr (bldAt_bel x hb))
theorem Bld.lt {w : World} {b : Nat} {T : ByteArray} (h : Bld w b T) : b < w.heap.size := h.elim (fun x => x.lt) (fun x => x.lt)
theorem cells_app (T s : ByteArray) : Lib.byteCells (T ++ s).data.toList = Lib.byteCells T.data.toList ++ Lib.byteCells s.data.toList := by
  rw [ByteArray.data_append, Array.toList_append]
  unfold Lib.byteCells
  exact List.map_append
theorem Bld.byte (b : Nat) (T : ByteArray) (w : World) (h : Bld w b T) (hl : T.size ≤ 100000000) :
    Calls Tryz.prog 66 #[.pointer (some ⟨b, 0, none⟩), .int .u8 10] w fun e w' => e = .returned .nilIface ∧ Bld w' b (T ++ ⟨#[10]⟩) ∧ Below b w w' ∧ Lib.OthersKept 5 (some b) w w' := by
  refine (wByte_any b b _ 10 w h (by rw [Lib.byteCells_length]; have : T.data.toList.length = T.size := rfl; omega) (Nat.le_of_lt h.lt)).mono ?_
  rintro e w' ⟨rfl, h1, h2, h3⟩
  refine ⟨rfl, .inr ?_, h2, h3⟩
  rw [cells_app]
  exact h1
theorem Bld.str (b : Nat) (T s : ByteArray) (w : World) (h : Bld w b T) (hl : T.size ≤ 100000000) (hs : s.size ≤ 100000000) :
    Calls Tryz.prog 56 #[.pointer (some ⟨b, 0, none⟩), .string s] w fun e w' => e = .returned (.tuple #[.int .i64 s.size, .nilIface]) ∧ Bld w' b (T ++ s) ∧ Below b w w' ∧ Lib.OthersKept 5 (some b) w w' := by
  refine (wStr_any b b _ s w h (by rw [Lib.byteCells_length]; have : T.data.toList.length = T.size := rfl; omega) (Nat.le_of_lt h.lt)).mono ?_
  rintro e w' ⟨rfl, h1, h2, h3⟩
  refine ⟨rfl, .inr ?_, h2, h3⟩
  rw [cells_app]
  exact h1
end Go.Proofs.YtpniljcnknknoaaGreatDoor

/-
  Sheets: PrintTable (impl).
-/
namespace Go.Proofs.YtpniljcnknknoaaGreatDoor
open Go.RowKit
set_option linter.unusedVariables false
set_option linter.unusedSimpArgs false
set_option maxRecDepth 100000
attribute [local go_sem ↓] Go.wp_at_zero Go.wp_at_succ

theorem Bld.new (w : World) : Bld (w.alloc (.cells #[.pointer none, .slice none 0 0] 82)) w.heap.size ⟨#[]⟩ :=
  .inl ⟨Nat.le_refl _, _, heap_alloc_new w _, ⟨rfl, .inl ⟨rfl, rfl⟩⟩, by simp [Value.ownBlock]⟩

set_option maxHeartbeats 4000000 in
theorem implPT_any (R A W M : Nat) (v : Value) (l : List Int) (w : World) (hv : Ints w v l) (h1 : 1 ≤ R ∧ R ≤ 20) (h2 : 1 ≤ A ∧ A ≤ 6) (h3 : 1 ≤ W ∧ W ≤ 12) (hl : l.length ≤ 60) (hM : R * A = M) (hT : Tab w) :
    Calls Tryz.prog 19 #[.agg #[.int .i64 R, .int .i64 A, .int .i64 W], v] w fun e w' => TxtE (shS W l R A) (tableOk l = true ∧ shOk W l R A = true) e ∧ Below w.heap.size w w' := by
  have HV := Lib.hid hv
  have HM := Lib.hid hM
  have HT := Lib.hid hT
  have hlay := layOk_nat h1 h2 h3
  have hM0 : 0 < M := by rw [← hM]; exact Nat.mul_pos h1.1 h2.1
  obtain ⟨B, cp, rfl, hlc, hc, hrd⟩ := hv.open_
  have K1 := Blk.new w 25 [.int .i64 R, .int .i64 A, .int .i64 W]
  have B1 := bel_alloc w (.cells #[.int .i64 R, .int .i64 A, .int .i64 W] 25)
  obtain ⟨a0, a1, a2⟩ := K1.lay
  clear hv hrd hM hT
  go_enter Tryz.func19, Tryz.ntmps19
  go_wp2_with fail
  refine (implLay_any R A W _).mono ?_
  rintro e w2 ⟨rfl, b2⟩
  rw [hlay]
  replace K1 := K1.below b2 K1.lt
  have HB := Lib.hid (bel_trans B1 b2)
  clear a0 a1 a2 b2 B1
  obtain ⟨a0, a1, a2⟩ := K1.lay
  go_wp2_with fail
  refine (implTable_any _ l _ (HV.out.bel HB.out)).mono ?_
  rintro e w3 ⟨rfl, rfl⟩
  cases ht : tableOk l
  · go_wp2
    go_ret2
    exact ⟨.inr ⟨fun h => by rw [ht] at h; exact Bool.noConfusion h.1, rfl⟩, HB.out⟩
  · obtain ⟨q0, hq0⟩ : ∃ q, pgN l M = q := ⟨_, rfl⟩
    have hq60 : q0 ≤ 60 := by rw [← hq0]; exact Nat.le_trans (pgN_le hM0) hl
    have HTO := Lib.hid ht
    have HQ := Lib.hid hq0
    have ba := bel_alloc w2 (.cells #[.pointer none, .slice none 0 0] 82)
    have BN := Bld.new w2
    have KA := K1.below ba K1.lt
    have kl2 : w.heap.size < w2.heap.size := K1.lt
    have HBA := Lib.hid (bel_trans HB.out ba)
    obtain ⟨d0, d1, d2⟩ := KA.lay
    clear hq0 ba
    go_wp2_with fail
    refine (implPN_any R A W l _ h1 h2 h3 hl).mono ?_
    rw [HM.out, HQ.out]
    rintro e w4 ⟨rfl, b4⟩
    have BN4 := BN.bel b4
    have K4 := KA.below b4 KA.lt
    have HB4 := Lib.hid (bel_trans HBA.out b4)
    have hz4 := BN4.lt
    clear a0 a1 a2 d0 d1 d2 BN KA b4 K1
    go_wp2_with fail
    go_loopw [24] (fun i wr => ∃ q : Nat, q ≤ q0 ∧ i = .int .i64 q ∧ pgsF W l R M q ∧ Bld wr w2.heap.size (textN W l R M q) ∧ Below w.heap.size w wr ∧ Blk wr w.heap.size 25 [.int .i64 R, .int .i64 A, .int .i64 W]) (fun i _ => q0 - (intOf i).toNat)
    case atStart => exact ⟨0, Nat.zero_le _, rfl, fun p hp => absurd hp (Nat.not_lt_zero _), BN4, HB4.out, K4⟩
    case round =>
      obtain ⟨q, hq, rfl, hF, hbd, hb, hK⟩ := hrel
      obtain ⟨wo, hwo⟩ : ∃ wo, wo = wr := ⟨_, rfl⟩
      subst hwo
      obtain ⟨c0, c1, c2⟩ := hK.lay
      have hbl := hbd.lt
      have hts := textN_size hF (Nat.lt_of_lt_of_le Nat.zero_lt_one h1.1) h1.2 h3.2 hl
      have H := Lib.hid (And.intro hF (And.intro hbd (And.intro hb hK)))
      clear hF hbd hb hK K4 BN4
      by_cases hlt : q < q0
      · have hp60 : q ≤ 60 := by omega
        have hmore := Lib.hid hlt
        go_wp2_with fail
        refine (pageLines_any R A W M q _ l _ (HV.out.bel H.out.2.2.1) h1 h2 h3 hl HM.out HTO.out (by rw [HQ.out]; exact hmore.out) (HT.out.bel H.out.2.2.1)).mono ?_
        rintro e w5 ⟨⟨u, T⟩, b5⟩
        have BN5 := H.out.2.1.bel b5
        have HB5 := Lib.hid (b5.mono (Nat.le_of_lt hbl))
        clear b5 c0 c1 c2
        rcases T with ⟨hP, rfl, hO⟩ | ⟨hP, rfl⟩
        · have HO5 := hO
          obtain ⟨A5, c5, rfl, hlc5, -, -⟩ := hO.strs.open_
          replace HO5 := Lib.hid HO5
          have HF2 := Lib.hid (pgsF_succ H.out.1 hP)
          have HSZ := Lib.hid (pgL_size hP (Nat.lt_of_lt_of_le Nat.zero_lt_one h1.1) h3.2 hl)
          have hlen : (pgL W l R M q).length ≤ 20 := by rw [pgL_len]; exact Nat.le_trans (pgRows_le _ _ _ _) h1.2
          obtain ⟨ls, hls⟩ : ∃ ls, pgL W l R M q = ls := ⟨_, rfl⟩
          obtain ⟨T0, hT0⟩ : ∃ T0, textN W l R M q = T0 := ⟨_, rfl⟩
          rw [hls] at HO5 HSZ hlen hlc5
          rw [hls]
          rw [hT0] at hts BN5
          clear hP hO
          by_cases hq1 : 0 < q
          · have NS := Lib.hid (show textN W l R M (q + 1) = putL (T0 ++ ⟨#[10]⟩) ls by rw [textN_succ hq1, hT0, hls])
            have ha : (T0 ++ ⟨#[10]⟩).size ≤ 20000 * q + 1 := by rw [ByteArray.size_append]; exact Nat.add_le_add hts (Nat.le_refl _)
            have hne5 : (Value.slice A5 ls.length c5).ownBlock ≠ some w2.heap.size := fun e => by have := (HO5.out.lt _ e).1; omega
            clear hls hT0
            replace BN5 := Lib.hid BN5
            go_wp2_with fail
            refine (Bld.byte w2.heap.size T0 _ BN5.out (by omega)).mono ?_
            rintro e w6 ⟨rfl, bd6, b6, k6⟩
            replace HO5 := Lib.hid (ownS_kept HO5.out k6 hne5)
            replace HB5 := Lib.hid (HB5.out.trans b6)
            replace BN5 := bd6
            clear bd6 b6 k6
            go_wp2_with fail
            go_loopw [41] (fun i wc => ∃ k : Nat, k ≤ ls.length ∧ i = .int .i64 k ∧ Bld wc w2.heap.size (putL (T0 ++ ⟨#[10]⟩) (ls.take k)) ∧ OwnS wc wo.heap.size (.slice A5 ls.length c5) ls ∧ Below w2.heap.size wo wc) (fun i _ => ls.length - (intOf i).toNat)
            case atStart => exact ⟨0, Nat.zero_le _, rfl, BN5, HO5.out, HB5.out⟩
            case round =>
              obtain ⟨k, hk, rfl, hbd, ho, hbw⟩ := hrel
              have hbl := hbd.lt
              have HBD := Lib.hid hbd
              have HO := Lib.hid ho
              have HBW := Lib.hid hbw
              clear hbd ho hbw BN5
              by_cases hkl : k < ls.length
              · obtain ⟨A6, c6, e6, -, -, hrd⟩ := HO.out.strs.open_
                cases e6
                obtain ⟨b, o, rfl, hbb, hcell⟩ := hrd.strs (Nat.lt_of_le_of_lt (Nat.zero_le _) hkl)
                have hck := hcell k hkl
                have hps := putTake_size HSZ.out hk hlen ha hp60
                have hzz := HSZ.out _ (sat_mem ls k hkl)
                have PT := Lib.hid (putL_take (T0 ++ ⟨#[10]⟩) hkl)
                obtain ⟨Z, hZ⟩ : ∃ Z, sat ls k = Z := ⟨_, rfl⟩
                obtain ⟨U, hU⟩ : ∃ U, putL (T0 ++ ⟨#[10]⟩) (ls.take k) = U := ⟨_, rfl⟩
                rw [hZ] at hck hzz
                rw [hU] at hps
                replace PT := Lib.hid (show putL (T0 ++ ⟨#[10]⟩) (ls.take (k + 1)) = U ++ Z ++ ⟨#[10]⟩ by rw [PT.out, hU, hZ])
                replace HBD := Lib.hid (show Bld wr w2.heap.size U by rw [← hU]; exact HBD.out)
                have hne : (Value.slice (some ⟨b, o, none⟩) ls.length c5).ownBlock ≠ some w2.heap.size := fun e => by have := (HO.out.lt _ e).1; omega
                have hs2 : (U ++ Z).size ≤ 100000000 := by rw [ByteArray.size_append]; omega
                clear hcell hZ hU ha hts hrd
                go_wp2_with fail
                refine (Bld.str w2.heap.size U Z _ HBD.out (by omega) (by omega)).mono ?_
                rintro e w6 ⟨rfl, bd6, b6, k6⟩
                have HO6 := ownS_kept HO.out k6 hne
                have hb6 := HBW.out.trans b6
                go_wp2_with fail
                refine (Bld.byte w2.heap.size (U ++ Z) _ bd6 hs2).mono ?_
                rintro e w7 ⟨rfl, bd7, b7, k7⟩
                have HO7 := Lib.hid (ownS_kept HO6 k7 hne)
                have hb7 := Lib.hid (hb6.trans b7)
                have HB7 := Lib.hid bd7
                clear HO6 hb6 bd6 bd7 b6 b7 k6 k7 hck
                go_wp2_with fail
                go_roundw
                case rel => exact ⟨k + 1, hkl, by go_num, by rw [PT.out]; exact HB7.out, HO7.out, hb7.out⟩
                case measure => simp [intOf]; omega
              · have hke : k = ls.length := by omega
                have TE := Lib.hid (show putL (T0 ++ ⟨#[10]⟩) (ls.take k) = textN W l R M (q + 1) by rw [hke, List.take_length, NS.out])
                rw [TE.out] at HBD
                clear hke ha hts
                go_wp2_with fail
                go_roundw
                case rel => exact ⟨q + 1, hmore.out, by go_num, HF2.out, HBD.out, H.out.2.2.1.trans (HBW.out.mono (Nat.le_of_lt kl2)), H.out.2.2.2.below HBW.out kl2⟩
                case measure => simp [intOf]; omega
          · have e0 : q = 0 := by omega
            have NS := Lib.hid (show textN W l R M (q + 1) = putL T0 ls by rw [← hT0, ← hls, e0]; exact textN_one _ _ _ _)
            have ha : T0.size ≤ 20000 * q + 1 := by omega
            clear hls hT0 e0
            go_wp2_with fail
            go_loopw [41] (fun i wc => ∃ k : Nat, k ≤ ls.length ∧ i = .int .i64 k ∧ Bld wc w2.heap.size (putL T0 (ls.take k)) ∧ OwnS wc wo.heap.size (.slice A5 ls.length c5) ls ∧ Below w2.heap.size wo wc) (fun i _ => ls.length - (intOf i).toNat)
            case atStart => exact ⟨0, Nat.zero_le _, rfl, BN5, HO5.out, HB5.out⟩
            case round =>
              obtain ⟨k, hk, rfl, hbd, ho, hbw⟩ := hrel
              have hbl := hbd.lt
              have HBD := Lib.hid hbd
              have HO := Lib.hid ho
              have HBW := Lib.hid hbw
              clear hbd ho hbw BN5
              by_cases hkl : k < ls.length
              · obtain ⟨A6, c6, e6, -, -, hrd⟩ := HO.out.strs.open_
                cases e6
                obtain ⟨b, o, rfl, hbb, hcell⟩ := hrd.strs (Nat.lt_of_le_of_lt (Nat.zero_le _) hkl)
                have hck := hcell k hkl
                have hps := putTake_size HSZ.out hk hlen ha hp60
                have hzz := HSZ.out _ (sat_mem ls k hkl)
                have PT := Lib.hid (putL_take T0 hkl)
                obtain ⟨Z, hZ⟩ : ∃ Z, sat ls k = Z := ⟨_, rfl⟩
                obtain ⟨U, hU⟩ : ∃ U, putL T0 (ls.take k) = U := ⟨_, rfl⟩
                rw [hZ] at hck hzz
                rw [hU] at hps
                replace PT := Lib.hid (show putL T0 (ls.take (k + 1)) = U ++ Z ++ ⟨#[10]⟩ by rw [PT.out, hU, hZ])
                replace HBD := Lib.hid (show Bld wr w2.heap.size U by rw [← hU]; exact HBD.out)
                have hne : (Value.slice (some ⟨b, o, none⟩) ls.length c5).ownBlock ≠ some w2.heap.size := fun e => by have := (HO.out.lt _ e).1; omega
                have hs2 : (U ++ Z).size ≤ 100000000 := by rw [ByteArray.size_append]; omega
                clear hcell hZ hU ha hts hrd
                go_wp2_with fail
                refine (Bld.str w2.heap.size U Z _ HBD.out (by omega) (by omega)).mono ?_
                rintro e w6 ⟨rfl, bd6, b6, k6⟩
                have HO6 := ownS_kept HO.out k6 hne
                have hb6 := HBW.out.trans b6
                go_wp2_with fail
                refine (Bld.byte w2.heap.size (U ++ Z) _ bd6 hs2).mono ?_
                rintro e w7 ⟨rfl, bd7, b7, k7⟩
                have HO7 := Lib.hid (ownS_kept HO6 k7 hne)
                have hb7 := Lib.hid (hb6.trans b7)
                have HB7 := Lib.hid bd7
                clear HO6 hb6 bd6 bd7 b6 b7 k6 k7 hck
                go_wp2_with fail
                go_roundw
                case rel => exact ⟨k + 1, hkl, by go_num, by rw [PT.out]; exact HB7.out, HO7.out, hb7.out⟩
                case measure => simp [intOf]; omega
              · have hke : k = ls.length := by omega
                have TE := Lib.hid (show putL T0 (ls.take k) = textN W l R M (q + 1) by rw [hke, List.take_length, NS.out])
                rw [TE.out] at HBD
                clear hke ha hts
                go_wp2_with fail
                go_roundw
                case rel => exact ⟨q + 1, hmore.out, by go_num, HF2.out, HBD.out, H.out.2.2.1.trans (HBW.out.mono (Nat.le_of_lt kl2)), H.out.2.2.2.below HBW.out kl2⟩
                case measure => simp [intOf]; omega
        · go_wp2
          go_ret2
          refine ⟨.inr ⟨fun h => hP ?_, rfl⟩, H.out.2.2.1.trans (HB5.out.mono (Nat.le_of_lt kl2))⟩
          exact (shOk_iff HM.out).1 h.2 q (by rw [HQ.out]; exact hmore.out)
      · have hqe : q = q0 := by omega
        subst hqe
        go_wp2_with fail
        refine (Tryz.Builder_String_any_k w2.heap.size w2.heap.size (textN W l R M q).data.toList _ H.out.2.1 (Nat.le_of_lt hbl)).mono ?_
        rintro e w5 ⟨rfl, -, b5, -⟩
        go_wp2
        go_ret2
        refine ⟨.inl ⟨⟨HTO.out, (shOk_iff HM.out).2 (by rw [HQ.out]; exact H.out.1)⟩, ?_⟩, H.out.2.2.1.trans (b5.mono (Nat.le_of_lt kl2))⟩
        unfold shS
        rw [HM.out, HQ.out]
        trivial
end Go.Proofs.YtpniljcnknknoaaGreatDoor

/-
  Sheets: JobSheet (both; printed by gen_shj.py).
-/
namespace Go.Proofs.YtpniljcnknknoaaGreatDoor
open Go.RowKit
set_option linter.unusedVariables false
set_option linter.unusedSimpArgs false
set_option maxRecDepth 100000
attribute [local go_sem ↓] Go.wp_at_zero Go.wp_at_succ

def shJ (j : JobD) : ByteArray := shS j.wi.toNat (jtL j) j.rw.toNat j.ac.toNat
def sjOk (j : JobD) : Prop := jtOk j = true ∧ tableOk (jtL j) = true ∧ shOk j.wi.toNat (jtL j) j.rw.toNat j.ac.toNat = true
theorem jt_lay {j : JobD} (h : jtOk j = true) : ∃ R A W : Nat, j.rw = R ∧ j.ac = A ∧ j.wi = W ∧ (1 ≤ R ∧ R ≤ 20) ∧ (1 ≤ A ∧ A ≤ 6) ∧ (1 ≤ W ∧ W ≤ 12) := by
  have hq : jobOk j = true := by
    cases hq : jobOk j
    · rw [(jt_no hq).1] at h; exact h
    · rfl
  have hl := (jobOk_true.1 hq).2.2.2.2
  simp [layOk, inB] at hl
  exact ⟨j.rw.toNat, j.ac.toNat, j.wi.toNat, by omega, by omega, by omega, by omega, by omega, by omega⟩


set_option maxHeartbeats 2000000 in
theorem specJS_any (v : Value) (j : JobD) (w : World) (hv : Ints w v j.poly) (hj : j.In) :
    Calls Tryz.prog 11 #[jobV v j] w fun e w' => TxtE (shJ j) (sjOk j) e ∧ Below w.heap.size w w' := by
  have HJ := Lib.hid hj
  have HV := Lib.hid hv
  obtain ⟨A, c, rfl, -, -, -⟩ := hv.open_
  clear hv hj
  have B0 : Below w.heap.size w (w.alloc (.cells (jobC (.slice A j.poly.length c) j).toArray 27)) := bel_alloc w _
  have K1 := Blk.new w 27 (jobC (.slice A j.poly.length c) j)
  unfold jobV
  go_enter Tryz.func11, Tryz.ntmps11
  go_wp2_with fail
  change Calls _ _ #[jobV (.slice A j.poly.length c) j] (w.alloc (.cells (jobC (.slice A j.poly.length c) j).toArray 27)) _
  generalize hW : w.alloc (.cells (jobC (.slice A j.poly.length c) j).toArray 27) = W at K1 B0 ⊢
  clear hW
  refine (specJT_any _ j _ (HV.out.bel B0) HJ.out).mono ?_
  rintro e w2 ⟨r, rfl, o1, b1⟩
  have HB := Lib.hid (bel_trans B0 b1)
  have HK := Lib.hid (K1.below b1 K1.lt)
  have HO := Lib.hid o1.ints
  obtain ⟨A2, c2, rfl, -, -, -⟩ := o1.ints.open_
  clear b1 B0 K1 o1
  cases hq : jtOk j
  · have HN := Lib.hid hq
    clear hq
    go_wp2
    go_ret2
    exact ⟨.inr ⟨fun h => by have h1 := h.1; rw [HN.out] at h1; exact Bool.noConfusion h1, rfl⟩, HB.out⟩
  · have HN := Lib.hid hq
    obtain ⟨R, Ac, W0, e1, e2, e3, h1, h2, h3⟩ := jt_lay hq
    obtain ⟨a0, a1, a2, a3, a4, a5, a6, a7, a8⟩ := HK.out.job
    clear hq
    go_wp2_with fail
    clear a0 a1 a2 a3 a4 a5 a6 a7 a8
    refine (specPT_any R Ac W0 (R * Ac) _ (jtL j) _ HO.out h1 h2 h3 (jtL_len j) rfl).mono ?_
    rintro e w3 ⟨T, b3⟩
    have HB3 := Lib.hid (bel_trans HB.out b3)
    have HE := Lib.hid (And.intro e1 (And.intro e2 e3))
    clear b3 e1 e2 e3
    rcases T with ⟨hP, rfl⟩ | ⟨hP, rfl⟩
    · have HP := Lib.hid hP
      clear hP
      go_wp2
      go_ret2
      refine ⟨.inl ⟨⟨HN.out, by rw [HE.out.1, HE.out.2.1, HE.out.2.2]; exact HP.out⟩, ?_⟩, HB3.out⟩
      unfold shJ
      rw [HE.out.1, HE.out.2.1, HE.out.2.2]
      rfl
    · have HP := Lib.hid hP
      clear hP
      go_wp2
      go_ret2
      exact ⟨.inr ⟨fun h => HP.out (by have := h.2; rw [HE.out.1, HE.out.2.1, HE.out.2.2] at this; exact this), rfl⟩, HB3.out⟩

end Go.Proofs.YtpniljcnknknoaaGreatDoor

/-
  Sheets: JobSheet (impl; printed by gen_shj.py).
-/
namespace Go.Proofs.YtpniljcnknknoaaGreatDoor
open Go.RowKit
set_option linter.unusedVariables false
set_option linter.unusedSimpArgs false
set_option maxRecDepth 100000
attribute [local go_sem ↓] Go.wp_at_zero Go.wp_at_succ


set_option maxHeartbeats 2000000 in
theorem implJS_any (v : Value) (j : JobD) (w : World) (hv : Ints w v j.poly) (hj : j.In) (ht : Tab w) :
    Calls Tryz.prog 10 #[jobV v j] w fun e w' => TxtE (shJ j) (sjOk j) e ∧ Below w.heap.size w w' := by
  have HJ := Lib.hid hj
  have HV := Lib.hid hv
  have HT := Lib.hid ht
  obtain ⟨A, c, rfl, -, -, -⟩ := hv.open_
  clear hv hj ht
  have B0 : Below w.heap.size w (w.alloc (.cells (jobC (.slice A j.poly.length c) j).toArray 27)) := bel_alloc w _
  have K1 := Blk.new w 27 (jobC (.slice A j.poly.length c) j)
  unfold jobV
  go_enter Tryz.func10, Tryz.ntmps10
  go_wp2_with fail
  change Calls _ _ #[jobV (.slice A j.poly.length c) j] (w.alloc (.cells (jobC (.slice A j.poly.length c) j).toArray 27)) _
  generalize hW : w.alloc (.cells (jobC (.slice A j.poly.length c) j).toArray 27) = W at K1 B0 ⊢
  clear hW
  refine (implJT_any _ j _ (HV.out.bel B0) HJ.out).mono ?_
  rintro e w2 ⟨r, rfl, o1, b1⟩
  have HB := Lib.hid (bel_trans B0 b1)
  have HK := Lib.hid (K1.below b1 K1.lt)
  have HO := Lib.hid o1.ints
  obtain ⟨A2, c2, rfl, -, -, -⟩ := o1.ints.open_
  clear b1 B0 K1 o1
  cases hq : jtOk j
  · have HN := Lib.hid hq
    clear hq
    go_wp2
    go_ret2
    exact ⟨.inr ⟨fun h => by have h1 := h.1; rw [HN.out] at h1; exact Bool.noConfusion h1, rfl⟩, HB.out⟩
  · have HN := Lib.hid hq
    obtain ⟨R, Ac, W0, e1, e2, e3, h1, h2, h3⟩ := jt_lay hq
    obtain ⟨a0, a1, a2, a3, a4, a5, a6, a7, a8⟩ := HK.out.job
    clear hq
    go_wp2_with fail
    clear a0 a1 a2 a3 a4 a5 a6 a7 a8
    refine (implPT_any R Ac W0 (R * Ac) _ (jtL j) _ HO.out h1 h2 h3 (jtL_len j) rfl (HT.out.bel HB.out)).mono ?_
    rintro e w3 ⟨T, b3⟩
    have HB3 := Lib.hid (bel_trans HB.out b3)
    have HE := Lib.hid (And.intro e1 (And.intro e2 e3))
    clear b3 e1 e2 e3
    rcases T with ⟨hP, rfl⟩ | ⟨hP, rfl⟩
    · have HP := Lib.hid hP
      clear hP
      go_wp2
      go_ret2
      refine ⟨.inl ⟨⟨HN.out, by rw [HE.out.1, HE.out.2.1, HE.out.2.2]; exact HP.out⟩, ?_⟩, HB3.out⟩
      unfold shJ
      rw [HE.out.1, HE.out.2.1, HE.out.2.2]
      rfl
    · have HP := Lib.hid hP
      clear hP
      go_wp2
      go_ret2
      exact ⟨.inr ⟨fun h => HP.out (by have := h.2; rw [HE.out.1, HE.out.2.1, HE.out.2.2] at this; exact this), rfl⟩, HB3.out⟩

end Go.Proofs.YtpniljcnknknoaaGreatDoor

/-
  Texts of numbers and of jobs, parsed: the plain side.
-/
namespace Go.Proofs.YtpniljcnknknoaaGreatDoor
open Go.RowKit
set_option linter.unusedVariables false
set_option linter.unusedSimpArgs false
set_option maxRecDepth 100000

/-- A piece ahead of the first of a list of pieces. -/
def glue (p : List UInt8) : List (List UInt8) → List (List UInt8)
  | [] => [p]
  | q :: r => (p ++ q) :: r
theorem glue_nil {x : List (List UInt8)} (h : x ≠ []) : glue [] x = x := by cases x with | nil => exact absurd rfl h | cons a r => rfl
theorem glue_glue (p q : List UInt8) (x : List (List UInt8)) : glue p (glue q x) = glue (p ++ q) x := by cases x with | nil => rfl | cons a r => simp [glue]
/-- The pieces of a text between the bytes c. -/
def cutB (c : UInt8) : List UInt8 → List (List UInt8)
  | [] => [[]]
  | b :: r => if b = c then [] :: cutB c r else glue [b] (cutB c r)
theorem cutB_ne (c : UInt8) (s : List UInt8) : cutB c s ≠ [] := by
  cases s with
  | nil => simp [cutB]
  | cons b r =>
    unfold cutB
    split
    · simp
    · cases cutB c r <;> simp [glue]
theorem cutB_hit (c : UInt8) (r : List UInt8) : cutB c (c :: r) = [] :: cutB c r := by simp [cutB]
theorem cutB_miss {b c : UInt8} (h : b ≠ c) (r : List UInt8) : cutB c (b :: r) = glue [b] (cutB c r) := by simp [cutB, h]
theorem cutB_len (c : UInt8) (s : List UInt8) : (cutB c s).length ≤ s.length + 1 := by
  induction s with
  | nil => simp [cutB]
  | cons b r ih =>
    unfold cutB
    split
    · simp; omega
    · cases h : cutB c r with
      | nil => simp [glue]
      | cons a q => rw [h] at ih; simp [glue] at ih ⊢; omega
theorem glue_len {p : List UInt8} {x : List (List UInt8)} (h : x ≠ []) : (glue p x).length = x.length := by cases x with | nil => exact absurd rfl h | cons a r => rfl
theorem cutB_count (c : UInt8) (s : List UInt8) : (cutB c s).length = s.count c + 1 := by
  induction s with
  | nil => rfl
  | cons b r ih =>
    by_cases h : b = c
    · subst h
      rw [cutB_hit, List.length_cons, ih, List.count_cons_self]
    · rw [cutB_miss h, glue_len (cutB_ne c r), ih, List.count_cons_of_ne h]
theorem index_miss {b c : UInt8} (h : b ≠ c) (l : List UInt8) : Lib.index (b :: l) [c] = if Lib.index l [c] == -1 then -1 else Lib.index l [c] + 1 := by
  have hp : ([c] : List UInt8).isPrefixOf (b :: l) = false := by simp [List.isPrefixOf, Ne.symm h]
  rw [Lib.index, hp]
  simp
theorem splitK_cut (c : UInt8) : ∀ (s : List UInt8), Lib.splitK [c] 0 (s.count c) s = cutB c s
  | [] => rfl
  | b :: l => by
    by_cases h : b = c
    · subst h
      have hix : Lib.index (b :: l) [b] = ((0 : Nat) : Int) := by rw [Lib.index]; simp [List.isPrefixOf]
      have ih := splitK_cut b l
      rw [List.count_cons_self, cutB_hit]
      unfold Lib.splitK
      rw [hix]
      simp [ih]
    · have ih := splitK_cut c l
      rw [List.count_cons_of_ne h, cutB_miss h, ← ih]
      cases hk : l.count c with
      | zero => rfl
      | succ k =>
        unfold Lib.splitK
        rw [index_miss h]
        by_cases hm : Lib.index l [c] = -1
        · have := Lib.count_miss hm
          rw [Lib.count_one] at this
          omega
        · have hge := Lib.index_ge l [c]
          obtain ⟨j, hj⟩ : ∃ j : Nat, Lib.index l [c] = j := ⟨(Lib.index l [c]).toNat, by omega⟩
          rw [hj]
          have e1 : ((j : Int) == -1) = false := by simp
          have e2 : (((j : Int) + 1) == -1) = false := by simp; omega
          have e3 : ((j : Int) + 1).toNat = j + 1 := by omega
          simp [e1, e2, e3, glue]
def baL (l : List UInt8) : ByteArray := ⟨l.toArray⟩
theorem baL_data (s : ByteArray) : baL s.data.toList = s := by
  apply ByteArray.ext
  simp [baL]
theorem data_baL (l : List UInt8) : (baL l).data.toList = l := by simp [baL]
theorem baL_size (l : List UInt8) : (baL l).size = l.length := by simp [baL, ByteArray.size]
theorem baL_inj {a b : List UInt8} (h : baL a = baL b) : a = b := by rw [← data_baL a, h, data_baL]
/-- The pieces of a text, as texts. -/
def cutS (c : UInt8) (s : ByteArray) : List ByteArray := (cutB c s.data.toList).map baL
theorem cutS_split (c : UInt8) (s : ByteArray) : Lib.splitB ⟨#[c]⟩ 0 (Lib.countB s ⟨#[c]⟩) s = cutS c s := by
  have h := Lib.splitB_data ⟨#[c]⟩ 0 (Lib.countB s ⟨#[c]⟩) s
  have hc : Lib.countB s ⟨#[c]⟩ = s.data.toList.count c := Lib.count_one c s.data.toList
  rw [hc] at h ⊢
  rw [show (⟨#[c]⟩ : ByteArray).data.toList = [c] from rfl, splitK_cut] at h
  unfold cutS
  rw [← h, List.map_map]
  conv => lhs; rw [← List.map_id (Lib.splitB _ _ _ _)]
  apply List.map_congr_left
  intro x _
  exact (baL_data x).symm
theorem cutS_len (c : UInt8) (s : ByteArray) : (cutS c s).length = Lib.countB s ⟨#[c]⟩ + 1 := by
  have hc : Lib.countB s ⟨#[c]⟩ = s.data.toList.count c := Lib.count_one c s.data.toList
  rw [hc, cutS, List.length_map, cutB_count]
theorem cutS_le (c : UInt8) (s : ByteArray) : (cutS c s).length ≤ s.size + 1 := by
  rw [cutS, List.length_map]
  exact cutB_len c _
theorem cutB_mem_len {c : UInt8} : ∀ {s p : List UInt8}, p ∈ cutB c s → p.length ≤ s.length := by
  intro s
  induction s with
  | nil => intro p hp; simp [cutB] at hp; simp [hp]
  | cons b r ih =>
    intro p hp
    unfold cutB at hp
    split at hp
    · rcases List.mem_cons.1 hp with rfl | h
      · simp
      · have := ih h; simp; omega
    · cases h : cutB c r with
      | nil => exact absurd h (cutB_ne c r)
      | cons a q =>
        rw [h] at hp ih
        simp only [glue] at hp
        rcases List.mem_cons.1 hp with rfl | h'
        · have := ih (p := a) (by simp); simp; omega
        · have := ih (p := p) (by simp [h']); simp; omega
theorem cutS_mem_size {c : UInt8} {s p : ByteArray} (h : p ∈ cutS c s) : p.size ≤ s.size := by
  obtain ⟨q, hq, rfl⟩ := List.mem_map.1 h
  rw [baL_size]
  exact cutB_mem_len hq
/-- Pieces that have no c, put together with c between them, and cut again. -/
theorem cut_plain {c : UInt8} {p : List UInt8} (h : c ∉ p) : cutB c p = [p] := by
  induction p with
  | nil => rfl
  | cons b r ih =>
    have hb : b ≠ c := fun e => h (by simp [e])
    rw [cutB_miss hb, ih (fun e => h (by simp [e]))]
    rfl
theorem cut_app {c : UInt8} {p : List UInt8} (h : c ∉ p) (r : List UInt8) : cutB c (p ++ c :: r) = p :: cutB c r := by
  induction p with
  | nil => exact cutB_hit c r
  | cons b q ih =>
    have hb : b ≠ c := fun e => h (by simp [e])
    rw [List.cons_append, cutB_miss hb, ih (fun e => h (by simp [e]))]
    rfl
theorem cut_join {c : UInt8} (x : List UInt8) (r : List (List UInt8)) (h : ∀ p ∈ x :: r, c ∉ p) : cutB c (Lib.join (x :: r) [c]) = x :: r := by
  induction r generalizing x with
  | nil => rw [Lib.join_one]; exact cut_plain (h x (by simp))
  | cons y q ih =>
    have e : Lib.join (x :: y :: q) [c] = x ++ c :: Lib.join (y :: q) [c] := by
      rw [Lib.join_cons, Lib.join_cons]
      simp [Lib.joinTail]
    rw [e, cut_app (h x (by simp)), ih y (fun p hp => h p (by simp at hp ⊢; exact Or.inr hp))]
theorem join_cut (c : UInt8) (s : List UInt8) : Lib.join (cutB c s) [c] = s := by
  induction s with
  | nil => simp [cutB, Lib.join_one]
  | cons b r ih =>
    cases hc : cutB c r with
    | nil => exact absurd hc (cutB_ne c r)
    | cons a q =>
      rw [hc] at ih
      by_cases h : b = c
      · subst h
        rw [cutB_hit, hc]
        have e : Lib.join ([] :: a :: q) [b] = [] ++ b :: Lib.join (a :: q) [b] := by
          rw [Lib.join_cons, Lib.join_cons]
          simp [Lib.joinTail]
        rw [e, ih]
        rfl
      · rw [cutB_miss h, hc]
        simp only [glue]
        rw [Lib.join_cons] at ih ⊢
        rw [List.append_assoc, ih]
        rfl
end Go.Proofs.YtpniljcnknknoaaGreatDoor

/-
  Decimal numbers, parsed: the plain side.
-/
namespace Go.Proofs.YtpniljcnknknoaaGreatDoor
open Go.RowKit
set_option linter.unusedVariables false
set_option linter.unusedSimpArgs false
set_option maxRecDepth 100000

theorem decFrom_snoc (l : List UInt8) (b : UInt8) : ∀ acc : Nat, Lib.decFrom acc (l ++ [b]) = (Lib.decFrom acc l).bind fun n => (Lib.digitVal b).map fun d => n * 10 + d := by
  induction l with
  | nil => intro acc; simp [Lib.decFrom]; cases Lib.digitVal b <;> rfl
  | cons a r ih =>
    intro acc
    rw [List.cons_append]
    unfold Lib.decFrom
    cases Lib.digitVal a with
    | none => rfl
    | some d => exact ih _
theorem digit_char {d : Nat} (h : d < 10) : Lib.digitVal (UInt8.ofNat (48 + d)) = some d := by
  unfold Lib.digitVal
  have : (UInt8.ofNat (48 + d)).toNat = 48 + d := by simp; omega
  rw [this, if_pos (by omega)]
  simp
theorem dec_small {m : Nat} (h : m < 10) : Lib.decDigits m = [UInt8.ofNat (48 + m)] := Lib.decDigits_one h
theorem dec_big {m : Nat} (h : ¬ m < 10) : Lib.decDigits m = Lib.decDigits (m / 10) ++ [UInt8.ofNat (48 + m % 10)] := by rw [Lib.decDigits, dif_neg h]
theorem dec_ne (m : Nat) : Lib.decDigits m ≠ [] := by
  by_cases h : m < 10
  · rw [dec_small h]; simp
  · rw [dec_big h]; simp
theorem dec_from : ∀ m : Nat, Lib.decFrom 0 (Lib.decDigits m) = some m := by
  intro m
  induction m using Nat.strongRecOn with
  | _ m ih =>
    by_cases h : m < 10
    · rw [dec_small h]
      unfold Lib.decFrom
      rw [digit_char h]
      simp [Lib.decFrom]
    · rw [dec_big h, decFrom_snoc, ih (m / 10) (by omega), Option.bind_some, digit_char (Nat.mod_lt _ (by omega))]
      simp
      omega
theorem dec_head : ∀ m : Nat, m ≠ 0 → ∀ b, (Lib.decDigits m)[0]? = some b → b ≠ 48 := by
  intro m
  induction m using Nat.strongRecOn with
  | _ m ih =>
    intro h0 b hb
    by_cases h : m < 10
    · rw [dec_small h] at hb
      simp at hb
      subst hb
      intro e
      have := congrArg UInt8.toNat e
      simp at this
      omega
    · rw [dec_big h, List.getElem?_append_left (List.length_pos_iff.2 (dec_ne _))] at hb
      exact ih (m / 10) (by omega) (by omega) b hb
theorem digit_of {b : UInt8} {d : Nat} (h : Lib.digitVal b = some d) : d < 10 ∧ b = UInt8.ofNat (48 + d) := by
  obtain ⟨h1, h2, h3⟩ := Lib.digitVal_eq h
  refine ⟨by omega, ?_⟩
  apply UInt8.toNat_inj.1
  simp
  omega
/-- A row of digits without zeros ahead is the numeral of what it spells. -/
theorem dec_of_from : ∀ (l : List UInt8) (m : Nat), l ≠ [] → Lib.decFrom 0 l = some m → (l[0]? = some 48 → l.length = 1) → Lib.decDigits m = l := by
  suffices H : ∀ (k : Nat) (l : List UInt8), l.length ≤ k → ∀ m : Nat, l ≠ [] → Lib.decFrom 0 l = some m → (l[0]? = some 48 → l.length = 1) → Lib.decDigits m = l from fun l => H l.length l (Nat.le_refl _)
  intro k
  induction k with
  | zero => intro l hl m h; exact absurd (List.length_eq_zero_iff.1 (by omega)) h
  | succ k ih0 =>
    intro l hl m hne hm hz
    obtain ⟨p, b, rfl⟩ : ∃ p b, l = p ++ [b] := by
      rcases List.eq_nil_or_concat l with h | ⟨p, b, h⟩
      · exact absurd h hne
      · exact ⟨p, b, by simpa using h⟩
    have ih := ih0 p (by simp at hl; omega)
    clear ih0
    rw [decFrom_snoc] at hm
    cases hp : Lib.decFrom 0 p with
    | none => rw [hp] at hm; simp at hm
    | some n =>
      rw [hp, Option.bind_some] at hm
      cases hd : Lib.digitVal b with
      | none => rw [hd] at hm; simp at hm
      | some d =>
        rw [hd] at hm
        simp at hm
        obtain ⟨h1, h2⟩ := digit_of hd
        cases p with
        | nil =>
          simp [Lib.decFrom] at hp
          subst hp
          obtain rfl : m = d := by omega
          rw [dec_small h1, h2]
          rfl
        | cons a r =>
          have e := ih n (by simp) hp (fun h => by have := hz (by simpa using h); simp at this)
          have hn : n ≠ 0 := by
            intro h0
            subst h0
            rw [dec_small (by omega)] at e
            have := hz (by rw [← e]; rfl)
            simp at this
          have hb : ¬ m < 10 := by omega
          rw [dec_big hb, show m / 10 = n by omega, show m % 10 = d by omega, e, h2]
/-- The number that a text shows in its one canonical form of at most 17 digits. -/
def numO (t : List UInt8) : Option Int := match Lib.atoi t with
  | some n => if Lib.itoa n = t ∧ (Lib.trimPrefix t [45]).length ≤ 17 then some n else none
  | none => none
theorem numO_itoa {t : List UInt8} {n : Int} (h : numO t = some n) : Lib.itoa n = t := by
  unfold numO at h
  split at h
  · split at h
    · rename_i hc
      rw [← Option.some.inj h]
      exact hc.1
    · exact absurd h (by simp)
  · exact absurd h (by simp)
theorem trim_minus (r : List UInt8) : Lib.trimPrefix (45 :: r) [45] = r := by simp [Lib.trimPrefix, Lib.hasPrefix, List.isPrefixOf]
theorem trim_other {b : UInt8} (h : b ≠ 45) (r : List UInt8) : Lib.trimPrefix (b :: r) [45] = b :: r := by simp [Lib.trimPrefix, Lib.hasPrefix, List.isPrefixOf, Ne.symm h]
theorem dec_at (m : Nat) (k : Nat) (b : UInt8) (h : (Lib.decDigits m)[k]? = some b) : ∃ d, Lib.digitVal b = some d := Lib.digit_of_decFrom _ _ _ (dec_from m) k b h
theorem not_digit45 : Lib.digitVal 45 = none := by decide
theorem not_digit43 : Lib.digitVal 43 = none := by decide
theorem not_digit32 : Lib.digitVal 32 = none := by decide
theorem not_digit59 : Lib.digitVal 59 = none := by decide
theorem dec_len17 {m : Nat} (h : m < 100000000000000000) : (Lib.decDigits m).length ≤ 17 := by
  rw [Lib.decDigits_length]
  rcases Nat.lt_or_ge 17 (Lib.nDigits m) with h' | h'
  · have := Lib.nDigits_unique
    exfalso
    have hp : ∀ u : Nat, ∀ k : Nat, u < 10 ^ (k + 1) → Lib.nDigits u ≤ k + 1 := by
      intro u
      induction u using Nat.strongRecOn with
      | _ u ih =>
        intro k hk
        by_cases hu : u < 10
        · rw [Lib.nDigits_small hu]; omega
        · rw [Lib.nDigits_big hu]
          cases k with
          | zero => simp at hk; omega
          | succ k =>
            have := ih (u / 10) (by omega) k (by rw [Nat.pow_succ] at hk; omega)
            omega
    have := hp m 16 (by simpa using h)
    omega
  · exact h'
theorem dec_cons (m : Nat) : ∃ b r, Lib.decDigits m = b :: r ∧ b ≠ 45 ∧ b ≠ 43 := by
  cases h : Lib.decDigits m with
  | nil => exact absurd h (dec_ne m)
  | cons b r =>
    obtain ⟨d, hd⟩ := dec_at m 0 b (by rw [h]; rfl)
    refine ⟨b, r, rfl, ?_, ?_⟩
    · rintro rfl; rw [not_digit45] at hd; simp at hd
    · rintro rfl; rw [not_digit43] at hd; simp at hd
theorem atoi_dec (m : Nat) : Lib.decNat (Lib.decDigits m) = some m := by
  unfold Lib.decNat
  rw [dec_from m]
  have := dec_ne m
  cases h : Lib.decDigits m with
  | nil => exact absurd h this
  | cons _ _ => rfl
theorem atoi_itoa (n : Int) : Lib.atoi (Lib.itoa n) = some n := by
  by_cases h : n < 0
  · have e : Lib.itoa n = 45 :: Lib.decDigits n.natAbs := by unfold Lib.itoa; rw [if_pos h]
    rw [e]
    simp [Lib.atoi, atoi_dec]
    omega
  · have e : Lib.itoa n = Lib.decDigits n.toNat := by unfold Lib.itoa; rw [if_neg h]
    obtain ⟨b, r, hd, h1, h2⟩ := dec_cons n.toNat
    have ha := atoi_dec n.toNat
    rw [e]
    rw [hd] at ha ⊢
    simp [Lib.atoi, h1, h2, ha]
    omega
theorem numO_of {n : Int} (h0 : -100000000000000000 < n) (h1 : n < 100000000000000000) : numO (Lib.itoa n) = some n := by
  unfold numO
  rw [atoi_itoa]
  simp only
  rw [if_pos]
  refine ⟨trivial, ?_⟩
  by_cases h : n < 0
  · have e : Lib.itoa n = 45 :: Lib.decDigits n.natAbs := by unfold Lib.itoa; rw [if_pos h]
    rw [e, trim_minus]
    exact dec_len17 (by omega)
  · have e : Lib.itoa n = Lib.decDigits n.toNat := by unfold Lib.itoa; rw [if_neg h]
    obtain ⟨b, r, hd, h1', h2'⟩ := dec_cons n.toNat
    rw [e, hd, trim_other h1', ← hd]
    exact dec_len17 (by omega)
theorem itoa_no (c : UInt8) (hc : Lib.digitVal c = none) (h45 : c ≠ 45) (n : Int) : c ∉ Lib.itoa n := by
  have hdec : ∀ m : Nat, c ∉ Lib.decDigits m := by
    intro m hm
    obtain ⟨k, hk, he⟩ := List.getElem_of_mem hm
    obtain ⟨d, hd⟩ := dec_at m k c (by rw [List.getElem?_eq_getElem hk, he])
    rw [hc] at hd
    simp at hd
  unfold Lib.itoa
  split
  · intro h
    rcases List.mem_cons.1 h with h' | h'
    · exact h45 h'
    · exact hdec _ h'
  · exact hdec _
end Go.Proofs.YtpniljcnknknoaaGreatDoor

/-
  Numbers and jobs parsed: what both packages return, plainly.
-/
namespace Go.Proofs.YtpniljcnknknoaaGreatDoor
open Go.RowKit
set_option linter.unusedVariables false
set_option linter.unusedSimpArgs false
set_option maxRecDepth 100000

theorem itoa_neg_form {n : Int} (h : n < 0) : Lib.itoa n = 45 :: Lib.decDigits n.natAbs := by unfold Lib.itoa; rw [if_pos h]
theorem itoa_pos_form {n : Int} (h : ¬ n < 0) : Lib.itoa n = Lib.decDigits n.toNat := by unfold Lib.itoa; rw [if_neg h]
theorem numO_some {t : List UInt8} {n : Int} (h : numO t = some n) : Lib.itoa n = t ∧ (Lib.trimPrefix t [45]).length ≤ 17 := by
  unfold numO at h
  split at h
  · split at h
    · rename_i hc
      rw [← Option.some.inj h]
      exact hc
    · exact absurd h (by simp)
  · exact absurd h (by simp)
theorem numO_minus {r : List UInt8} {n : Int} (h : numO (45 :: r) = some n) : r ≠ [] ∧ r.length ≤ 17 ∧ r[0]? ≠ some 48 ∧ ∃ m, Lib.decFrom 0 r = some m := by
  obtain ⟨h1, h2⟩ := numO_some h
  rw [trim_minus] at h2
  by_cases hn : n < 0
  · rw [itoa_neg_form hn] at h1
    have h1' := (List.cons.inj h1).2
    rw [← h1']
    refine ⟨dec_ne _, by rw [h1']; exact h2, ?_, _, dec_from _⟩
    intro hb
    exact dec_head n.natAbs (by omega) 48 hb rfl
  · rw [itoa_pos_form hn] at h1
    obtain ⟨b, q, hd, h3, -⟩ := dec_cons n.toNat
    rw [hd] at h1
    exact absurd (List.cons.inj h1).1 h3
theorem numO_plain {t : List UInt8} {n : Int} (hm : t[0]? ≠ some 45) (h : numO t = some n) : t ≠ [] ∧ t.length ≤ 17 ∧ (t[0]? = some 48 → t.length = 1) ∧ ∃ m, Lib.decFrom 0 t = some m := by
  obtain ⟨h1, h2⟩ := numO_some h
  by_cases hn : n < 0
  · rw [itoa_neg_form hn] at h1
    rw [← h1] at hm
    exact absurd rfl hm
  · rw [itoa_pos_form hn] at h1
    have hne : t ≠ [] := by rw [← h1]; exact dec_ne _
    refine ⟨hne, ?_, ?_, ?_⟩
    · cases t with
      | nil => exact absurd rfl hne
      | cons b r =>
        have hb : b ≠ 45 := fun e => hm (by simp [e])
        rw [trim_other hb] at h2
        exact h2
    · intro h0
      by_cases hz : n.toNat = 0
      · rw [hz, dec_small (by omega)] at h1
        rw [← h1]
        rfl
      · rw [← h1] at h0
        exact absurd rfl (dec_head _ hz 48 h0)
    · rw [← h1]
      exact ⟨_, dec_from _⟩
theorem from_lt17 {r : List UInt8} {m : Nat} (hl : r.length ≤ 17) (h : Lib.decFrom 0 r = some m) : m < 100000000000000000 := by
  have h1 := Lib.decFrom_lt r 0 m h
  have h2 : 10 ^ r.length ≤ 10 ^ 17 := Nat.pow_le_pow_right (by omega) hl
  simp at h1 h2
  omega
theorem numO_minus_ok {r : List UInt8} {m : Nat} (h0 : r ≠ []) (hl : r.length ≤ 17) (hz : r[0]? ≠ some 48) (h : Lib.decFrom 0 r = some m) : numO (45 :: r) = some (-(m : Int)) := by
  have hb := from_lt17 hl h
  have e := dec_of_from r m h0 h (fun h' => absurd h' hz)
  have hm : m ≠ 0 := by
    rintro rfl
    rw [dec_small (by omega)] at e
    exact hz (by rw [← e]; rfl)
  have h2 := numO_of (n := -(m : Int)) (by omega) (by omega)
  rw [itoa_neg_form (by omega), show (-(m : Int)).natAbs = m by omega, e] at h2
  exact h2
theorem numO_plain_ok {t : List UInt8} {m : Nat} (h0 : t ≠ []) (hl : t.length ≤ 17) (hz : t[0]? = some 48 → t.length = 1) (h : Lib.decFrom 0 t = some m) : numO t = some (m : Int) := by
  have hb := from_lt17 hl h
  have e := dec_of_from t m h0 h hz
  have h2 := numO_of (n := (m : Int)) (by omega) (by omega)
  rw [itoa_pos_form (by omega), show ((m : Int)).toNat = m by omega, e] at h2
  exact h2
theorem numO_bd {t : List UInt8} {n : Int} (h : numO t = some n) : -100000000000000000 < n ∧ n < 100000000000000000 := by
  obtain ⟨h1, h2⟩ := numO_some h
  by_cases hn : n < 0
  · rw [itoa_neg_form hn] at h1
    rw [← h1, trim_minus] at h2
    have := from_lt17 h2 (dec_from _)
    omega
  · have hp := itoa_pos_form hn
    obtain ⟨b, q, hd, h3, -⟩ := dec_cons n.toNat
    rw [hp, hd] at h1
    rw [← h1, trim_other h3, ← hd] at h2
    have := from_lt17 h2 (dec_from _)
    omega

/-- A text's number, or none; its value, or 0. -/
def numT (s : ByteArray) : Option Int := numO s.data.toList
def numV (s : ByteArray) : Int := (numT s).getD 0
theorem numV_bd (s : ByteArray) : -100000000000000000 < numV s ∧ numV s < 100000000000000000 := by
  unfold numV
  cases h : numT s with
  | none => simp
  | some n => exact numO_bd h
theorem numT_itoa {s : ByteArray} {n : Int} (h : numT s = some n) : itoaS n = s := by
  unfold itoaS
  rw [numO_itoa h]
theorem numT_of {n : Int} (h0 : -100000000000000000 < n) (h1 : n < 100000000000000000) : numT (itoaS n) = some n := numO_of h0 h1
/-- The numbers of a text with single spaces between them. -/
def allT (l : List ByteArray) : Bool := l.all fun s => (numT s).isSome
def numsV (s : ByteArray) : List Int := (cutS 32 s).map numV
def numsOk (s : ByteArray) : Bool := allT (cutS 32 s)
theorem itoaS_numV {s : ByteArray} (h : (numT s).isSome = true) : itoaS (numV s) = s := by
  unfold numV
  cases h' : numT s with
  | none => rw [h'] at h; simp at h
  | some n => exact numT_itoa h'
theorem joinS_cut (c : UInt8) (s : ByteArray) : joinS (cutS c s) ⟨#[c]⟩ = s := by
  unfold joinS cutS
  rw [List.map_map]
  have e : (fun x : List UInt8 => (baL x).data.toList) = id := by funext x; exact data_baL x
  rw [show ((fun x : ByteArray => x.data.toList) ∘ baL) = id from e, List.map_id]
  rw [show (⟨#[c]⟩ : ByteArray).data.toList = [c] from rfl, join_cut]
theorem cutS_join {c : UInt8} (x : ByteArray) (r : List ByteArray) (h : ∀ p ∈ x :: r, c ∉ p.data.toList) : cutS c (joinS (x :: r) ⟨#[c]⟩) = x :: r := by
  unfold joinS cutS
  have e : (baL (Lib.join ((x :: r).map (·.data.toList)) [c])).data.toList = Lib.join ((x :: r).map (·.data.toList)) [c] := data_baL _
  show (cutB c (baL (Lib.join ((x :: r).map (·.data.toList)) [c])).data.toList).map baL = x :: r
  rw [e, List.map_cons, cut_join]
  · rw [← List.map_cons (f := fun p : ByteArray => p.data.toList), List.map_map]
    have e2 : (baL ∘ fun p : ByteArray => p.data.toList) = id := by funext p; exact baL_data p
    rw [e2, List.map_id]
  · intro p hp
    rw [← List.map_cons (f := fun p : ByteArray => p.data.toList)] at hp
    obtain ⟨q, hq, rfl⟩ := List.mem_map.1 hp
    exact h q hq
theorem numsS_numsV {s : ByteArray} (h : numsOk s = true) : numsS (numsV s) = s := by
  unfold numsS numsV
  rw [List.map_map]
  have : (cutS 32 s).map (itoaS ∘ numV) = cutS 32 s := by
    conv => rhs; rw [← List.map_id (cutS 32 s)]
    apply List.map_congr_left
    intro x hx
    exact itoaS_numV (List.all_eq_true.1 h x hx)
  rw [this]
  exact joinS_cut 32 s
def Sm (l : List Int) : Prop := ∀ n ∈ l, -100000000000000000 < n ∧ n < 100000000000000000
theorem numsV_sm (s : ByteArray) : Sm (numsV s) := by
  intro n hn
  obtain ⟨x, _, rfl⟩ := List.mem_map.1 hn
  exact numV_bd x
theorem itoaS_no (c : UInt8) (hc : Lib.digitVal c = none) (h45 : c ≠ 45) (n : Int) : c ∉ (itoaS n).data.toList := by
  have : (itoaS n).data.toList = Lib.itoa n := data_baL _
  rw [this]
  exact itoa_no c hc h45 n
theorem cut_numsS {l : List Int} (h : l ≠ []) : cutS 32 (numsS l) = l.map itoaS := by
  cases l with
  | nil => exact absurd rfl h
  | cons x r =>
    unfold numsS
    rw [List.map_cons]
    apply cutS_join
    intro p hp
    rw [← List.map_cons] at hp
    obtain ⟨n, _, rfl⟩ := List.mem_map.1 hp
    exact itoaS_no 32 (by decide) (by decide) n
theorem numsOk_of {l : List Int} (h : l ≠ []) (hs : Sm l) : numsOk (numsS l) = true ∧ numsV (numsS l) = l := by
  unfold numsOk numsV
  rw [cut_numsS h]
  refine ⟨?_, ?_⟩
  · apply List.all_eq_true.2
    intro x hx
    obtain ⟨n, hn, rfl⟩ := List.mem_map.1 hx
    rw [numT_of (hs n hn).1 (hs n hn).2]
    rfl
  · rw [List.map_map]
    conv => rhs; rw [← List.map_id l]
    apply List.map_congr_left
    intro n hn
    show numV (itoaS n) = n
    unfold numV
    rw [numT_of (hs n hn).1 (hs n hn).2]
    rfl
theorem numsS_no {c : UInt8} (hc : Lib.digitVal c = none) (h45 : c ≠ 45) (h32 : c ≠ 32) (l : List Int) : c ∉ (numsS l).data.toList := by
  unfold numsS joinS
  rw [show ∀ x : List UInt8, (⟨x.toArray⟩ : ByteArray).data.toList = x from fun x => by simp]
  cases l with
  | nil => simp [Lib.join_nil]
  | cons x r =>
    rw [List.map_cons, List.map_cons, Lib.join_cons]
    intro h
    rcases List.mem_append.1 h with h | h
    · exact itoaS_no c hc h45 x h
    · unfold Lib.joinTail at h
      obtain ⟨p, hp, hcp⟩ := List.mem_flatten.1 h
      obtain ⟨q, hq, rfl⟩ := List.mem_map.1 hp
      obtain ⟨y, hy, rfl⟩ := List.mem_map.1 hq
      obtain ⟨n, hn, rfl⟩ := List.mem_map.1 hy
      rcases List.mem_append.1 hcp with h | h
      · simp at h
        exact h32 h
      · exact itoaS_no c hc h45 n h
end Go.Proofs.YtpniljcnknknoaaGreatDoor

/-
  A text cut at a byte: l9Cut (spec).
-/
namespace Go.Proofs.YtpniljcnknknoaaGreatDoor
open Go.RowKit
set_option linter.unusedVariables false
set_option linter.unusedSimpArgs false
set_option maxRecDepth 100000
attribute [local go_sem ↓] Go.wp_at_zero Go.wp_at_succ

/-- Bytes f to n of a text. -/
def mid (l : List UInt8) (f n : Nat) : List UInt8 := (l.drop f).take (n - f)
theorem mid_next {l : List UInt8} {f n : Nat} {b : UInt8} (hf : f ≤ n) (h : l[n]? = some b) : mid l f (n + 1) = mid l f n ++ [b] := by
  unfold mid
  rw [show n + 1 - f = (n - f) + 1 by omega, List.take_add_one, List.getElem?_drop, show f + (n - f) = n by omega, h]
  rfl
theorem mid_none (l : List UInt8) (n : Nat) : mid l n n = [] := by simp [mid]
theorem drop_at {l : List UInt8} {n : Nat} {b : UInt8} (h : l[n]? = some b) : l.drop n = b :: l.drop (n + 1) := by
  obtain ⟨hn, rfl⟩ := List.getElem?_eq_some_iff.1 h
  exact List.drop_eq_getElem_cons hn
theorem cut_step_hit {c : UInt8} {l : List UInt8} {f n : Nat} {P X : List (List UInt8)} (hf : f ≤ n) (h : l[n]? = some c) (hx : P ++ glue (mid l f n) (cutB c (l.drop n)) = X) : (P ++ [mid l f n]) ++ glue (mid l (n + 1) (n + 1)) (cutB c (l.drop (n + 1))) = X := by
  rw [drop_at h, cutB_hit] at hx
  rw [← hx, mid_none, glue_nil (cutB_ne c _)]
  simp [glue]
theorem cut_step_miss {b c : UInt8} {l : List UInt8} {f n : Nat} {P X : List (List UInt8)} (hf : f ≤ n) (h : l[n]? = some b) (hb : b ≠ c) (hx : P ++ glue (mid l f n) (cutB c (l.drop n)) = X) : P ++ glue (mid l f (n + 1)) (cutB c (l.drop (n + 1))) = X := by
  rw [drop_at h, cutB_miss hb, glue_glue, ← mid_next hf h] at hx
  exact hx
theorem cut_step_end {c : UInt8} {l : List UInt8} {f : Nat} {P X : List (List UInt8)} (hx : P ++ glue (mid l f l.length) (cutB c (l.drop l.length)) = X) : P ++ [mid l f l.length] = X := by
  rw [List.drop_length] at hx
  rw [← hx]
  simp [cutB, glue]
theorem mid_extract (s : ByteArray) (f n : Nat) : s.extract f n = baL (mid s.data.toList f n) := by
  apply ByteArray.ext
  apply Array.toList_inj.1
  unfold mid baL
  simp
theorem byte_at (s : ByteArray) (n : Nat) (h : n < s.size) : s.data.toList[n]? = some s[n] := by
  rw [List.getElem?_eq_getElem (by exact h)]
  rfl
/-- The pieces when the loop stands at byte n and the last piece begins at f. -/
def CutAt (c : UInt8) (s : ByteArray) (L : List ByteArray) (f n : Nat) : Prop := ∃ P : List (List UInt8), L = P.map baL ∧ P.length ≤ n ∧
  ((n ≤ s.size ∧ f ≤ n ∧ P ++ glue (mid s.data.toList f n) (cutB c (s.data.toList.drop n)) = cutB c s.data.toList) ∨ (n = s.size + 1 ∧ P = cutB c s.data.toList))

end Go.Proofs.YtpniljcnknknoaaGreatDoor

/-
  Numbers parsed: l9Num (spec).
-/
namespace Go.Proofs.YtpniljcnknknoaaGreatDoor
open Go.RowKit
set_option linter.unusedVariables false
set_option linter.unusedSimpArgs false
set_option maxRecDepth 100000
attribute [local go_sem ↓] Go.wp_at_zero Go.wp_at_succ

theorem numT_none {s : ByteArray} (h : ∀ n, numT s ≠ some n) : numT s = none := by
  cases hq : numT s with
  | none => rfl
  | some n => exact absurd hq (h n)
/-- What a parser of a number returns. -/
def NumE (s : ByteArray) (e : Ending) : Prop := e = .returned (.tuple #[.int .i64 (numV s), .bool (numT s).isSome])
theorem NumE.bad {s : ByteArray} (h : numT s = none) : NumE s (.returned (.tuple #[.int .i64 0, .bool false])) := by unfold NumE numV; rw [h]; rfl
theorem NumE.good {s : ByteArray} {n : Int} (h : numT s = some n) : NumE s (.returned (.tuple #[.int .i64 n, .bool true])) := by unfold NumE numV; rw [h]; rfl
/-- The digits of a text: behind its sign, if it has one. -/
theorem num_bad {s z : ByteArray} {neg : Bool} (hs : s.data.toList = if neg = true then 45 :: z.data.toList else z.data.toList) (h45 : neg = false → z.data.toList[0]? ≠ some 45) (h : z.size = 0 ∨ 17 < z.size ∨ (z.data.toList[0]? = some 48 ∧ (1 < z.size ∨ neg = true))) : numT s = none := by
  apply numT_none
  intro n hn
  have hz : z.data.toList.length = z.size := rfl
  unfold numT at hn
  rw [hs] at hn
  cases neg
  · obtain ⟨g0, g1, g2, -⟩ := numO_plain (h45 rfl) hn
    rcases h with h | h | ⟨h, h' | h'⟩
    · exact g0 (List.length_eq_zero_iff.1 (by omega))
    · rw [hz] at g1; omega
    · have := g2 h; omega
    · exact absurd h' (by simp)
  · obtain ⟨g0, g1, g2, -⟩ := numO_minus hn
    rcases h with h | h | ⟨h, -⟩
    · exact g0 (List.length_eq_zero_iff.1 (by omega))
    · omega
    · exact g2 h
theorem num_badD {s z : ByteArray} {neg : Bool} (hs : s.data.toList = if neg = true then 45 :: z.data.toList else z.data.toList) (h45 : neg = false → z.data.toList[0]? ≠ some 45) (h : Lib.decFrom 0 z.data.toList = none) : numT s = none := by
  apply numT_none
  intro n hn
  unfold numT at hn
  rw [hs] at hn
  cases neg
  · obtain ⟨-, -, -, m, hm⟩ := numO_plain (h45 rfl) hn
    rw [h] at hm; simp at hm
  · obtain ⟨-, -, -, m, hm⟩ := numO_minus hn
    rw [h] at hm; simp at hm
theorem num_good {s z : ByteArray} {neg : Bool} {m : Nat} (hs : s.data.toList = if neg = true then 45 :: z.data.toList else z.data.toList) (h : ¬ (z.size = 0 ∨ 17 < z.size ∨ (z.data.toList[0]? = some 48 ∧ (1 < z.size ∨ neg = true)))) (hm : Lib.decFrom 0 z.data.toList = some m) : numT s = some (if neg = true then -(m : Int) else (m : Int)) := by
  have hz : z.data.toList.length = z.size := rfl
  have h0 : z.data.toList ≠ [] := fun e => h (.inl (by rw [← hz, e]; rfl))
  have h1 : z.data.toList.length ≤ 17 := Nat.le_of_not_lt fun e => h (.inr (.inl (by rw [← hz]; exact e)))
  unfold numT
  rw [hs]
  cases neg
  · show numO z.data.toList = some (m : Int)
    refine numO_plain_ok h0 h1 (fun e => ?_) hm
    have : ¬ 1 < z.size := fun e2 => h (.inr (.inr ⟨e, .inl e2⟩))
    have : z.data.toList.length ≠ 0 := fun e3 => h0 (List.length_eq_zero_iff.1 e3)
    omega
  · exact numO_minus_ok h0 h1 (fun e => h (.inr (.inr ⟨e, .inr rfl⟩))) hm
theorem dig_ok {b : UInt8} (h : ¬ (b.toNat < 48 ∨ 57 < b.toNat)) : Lib.digitVal b = some (b.toNat - 48) := by unfold Lib.digitVal; rw [if_pos (by omega)]
theorem dig_no {b : UInt8} (h : b.toNat < 48 ∨ 57 < b.toNat) : Lib.digitVal b = none := by unfold Lib.digitVal; rw [if_neg (by omega)]
theorem from_no {l : List UInt8} {k : Nat} {b : UInt8} (hb : l[k]? = some b) (h : Lib.digitVal b = none) : Lib.decFrom 0 l = none := by
  cases hq : Lib.decFrom 0 l with
  | none => rfl
  | some n =>
    obtain ⟨d, hd⟩ := Lib.digit_of_decFrom l 0 n hq k b hb
    rw [h] at hd
    simp at hd
/-- The digits of a text behind its sign; digits that are no number. -/
def Sgn (neg : Bool) (s z : ByteArray) : Prop := (s.data.toList = if neg = true then 45 :: z.data.toList else z.data.toList) ∧ (neg = false → z.data.toList[0]? ≠ some 45)
def ZBad (neg : Bool) (z : ByteArray) : Prop := z.size = 0 ∨ 17 < z.size ∨ (z.data.toList[0]? = some 48 ∧ (1 < z.size ∨ neg = true))
end Go.Proofs.YtpniljcnknknoaaGreatDoor

/-
  Lists of numbers parsed: l8Numbers, ParsePoly (spec).
-/
namespace Go.Proofs.YtpniljcnknknoaaGreatDoor
open Go.RowKit
set_option linter.unusedVariables false
set_option linter.unusedSimpArgs false
set_option maxRecDepth 100000
attribute [local go_sem ↓] Go.wp_at_zero Go.wp_at_succ

theorem sat_mem' {l : List ByteArray} {j : Nat} (h : j < l.length) : sat l j ∈ l := sat_mem l j h
/-- n zeros. -/
def zerosL (n : Nat) : List Int := (List.range n).map fun _ => 0
theorem zerosL_len (n : Nat) : (zerosL n).length = n := by simp [zerosL]
theorem zerosL_at (n j : Nat) : at_ (zerosL n) j = 0 := by
  unfold at_ zerosL
  simp [List.getD]
  cases h : (List.range n)[j]? <;> simp
theorem zerosL_wf (n : Nat) : Wf (zerosL n) := by
  intro x hx
  obtain ⟨_, _, rfl⟩ := List.mem_map.1 hx
  omega
theorem Own.zeros (w : World) (n : Nat) (hn : n ≤ 1048577) : Own (w.alloc (.cells (reps n (.int .i64 0)).toArray 3)) w.heap.size (.slice (some ⟨w.heap.size, 0, none⟩) n n) (zerosL n) := by
  have := Own.mk' (cs := reps n (.int .i64 0)) (l := zerosL n) (base := w.heap.size) (cap := n) (Nat.le_refl _) (Blk.new w 3 _) (by rw [zerosL_len]; exact Nat.le_refl _) (by omega) (reps_length _ _) (fun j hj => by rw [zerosL_len] at hj; rw [zerosL_at]; exact reps_get _ hj) (zerosL_wf n)
  rw [zerosL_len] at this
  exact this
def numsTo (l : List ByteArray) (k : Nat) : List Int := (l.take k).map numV
theorem numsTo_succ {l : List ByteArray} {k : Nat} (h : k < l.length) : numsTo l (k + 1) = numsTo l k ++ [numV (sat l k)] := by
  unfold numsTo
  rw [List.take_succ_eq_append_getElem h, List.map_append, sat_eq l k h]
  rfl
theorem numsTo_len {l : List ByteArray} {k : Nat} (h : k ≤ l.length) : (numsTo l k).length = k := by unfold numsTo; rw [List.length_map, List.length_take, Nat.min_eq_left h]
theorem numsTo_all {l : List ByteArray} {k : Nat} (h : l.length ≤ k) : numsTo l k = l.map numV := by unfold numsTo; rw [List.take_of_length_le h]
theorem allT_no {l : List ByteArray} {k : Nat} (h : k < l.length) (hq : (numT (sat l k)).isSome = false) : ¬ allT l = true := by
  intro ha
  have := List.all_eq_true.1 ha _ (sat_mem l k h)
  rw [hq] at this
  exact Bool.noConfusion this
def okTo (l : List ByteArray) (k : Nat) : Prop := ∀ j, j < k → (numT (sat l j)).isSome = true
theorem okTo_succ {l : List ByteArray} {k : Nat} (h : okTo l k) (hk : (numT (sat l k)).isSome = true) : okTo l (k + 1) := by
  intro j hj
  rcases Nat.lt_or_ge j k with h' | h'
  · exact h j h'
  · obtain rfl : j = k := by omega
    exact hk
theorem okTo_all {l : List ByteArray} (h : okTo l l.length) : allT l = true := by
  apply List.all_eq_true.2
  intro x hx
  obtain ⟨j, hj, rfl⟩ := List.getElem_of_mem hx
  have := h j hj
  rw [sat_eq l j hj] at this
  exact this
/-- What l8Numbers returns: n numbers. -/
def eight (t : ByteArray) (n : Nat) : List Int := if (cutS 32 t).length = n ∧ numsOk t = true then numsV t else zerosL n
theorem eight_yes {t : ByteArray} {n : Nat} (h : (cutS 32 t).length = n) (h2 : numsOk t = true) : eight t n = numsV t := by simp [eight, h, h2]
theorem eight_no {t : ByteArray} {n : Nat} (h : ¬ ((cutS 32 t).length = n ∧ numsOk t = true)) : eight t n = zerosL n := by unfold eight; rw [if_neg h]
theorem eight_len (t : ByteArray) (n : Nat) : (eight t n).length = n := by
  unfold eight
  split
  · rename_i h
    unfold numsV
    rw [List.length_map]
    exact h.1
  · exact zerosL_len n
end Go.Proofs.YtpniljcnknknoaaGreatDoor

/-
  The contract of spec.FormatJob (made by gen_fmt.py).
-/
namespace Go.Proofs.YtpniljcnknknoaaGreatDoor
open Go.RowKit
set_option linter.unusedVariables false
set_option linter.unusedSimpArgs false
set_option maxRecDepth 100000
attribute [local go_sem ↓] Go.wp_at_zero Go.wp_at_succ


end Go.Proofs.YtpniljcnknknoaaGreatDoor

/-
  Polynomials parsed: ParsePoly (spec).
-/
namespace Go.Proofs.YtpniljcnknknoaaGreatDoor
open Go.RowKit
set_option linter.unusedVariables false
set_option linter.unusedSimpArgs false
set_option maxRecDepth 100000
attribute [local go_sem ↓] Go.wp_at_zero Go.wp_at_succ

/-- What the reference's ParsePoly returns. -/
def spP (t : ByteArray) : List Int := if polyS (numsTo (cutS 32 t) 8) = t then numsTo (cutS 32 t) 8 else []
theorem spP_yes {t : ByteArray} (h : polyS (numsTo (cutS 32 t) 8) = t) : spP t = numsTo (cutS 32 t) 8 := by unfold spP; rw [if_pos h]
theorem spP_no {t : ByteArray} (h : ¬ polyS (numsTo (cutS 32 t) 8) = t) : spP t = [] := by unfold spP; rw [if_neg h]
theorem numsTo_cap {l : List ByteArray} {k : Nat} (h : k = l.length) : numsTo l k = numsTo l 8 ∨ 8 < k := by
  rcases Nat.lt_or_ge 8 k with h' | h'
  · exact Or.inr h'
  · left
    unfold numsTo
    rw [List.take_of_length_le (by omega), List.take_of_length_le (by omega)]
theorem bne_of {x y : ByteArray} (h : x ≠ y) : (!x.toList == y.toList) = true := by
  simp [ByteArray.toList_eq]
  intro e
  exact h (ByteArray.ext (by first | exact e | exact Array.toList_inj.1 e))
end Go.Proofs.YtpniljcnknknoaaGreatDoor

/-
  Numbers parsed by the library's means: parseNumber (impl).
-/
namespace Go.Proofs.YtpniljcnknknoaaGreatDoor
open Go.RowKit
set_option linter.unusedVariables false
set_option linter.unusedSimpArgs false
set_option maxRecDepth 100000
attribute [local go_sem ↓] Go.wp_at_zero Go.wp_at_succ

/-- What the library's parsers want of the package-level variables: the table of powers, some bound of bytealg, the sentinel of a syntax error. -/
def Glb (w : World) : Prop := Tab w ∧ (∃ m : Int, w.cell? ⟨1, 0, none⟩ = some (.int .i64 m)) ∧ ∃ (tp : TypeId) (p : Value), w.cell? ⟨5, 0, none⟩ = some (.iface tp p)
theorem Glb.bel {w w' : World} (h : Glb w) (hb : Below w.heap.size w w') : Glb w' := by
  obtain ⟨h1, ⟨m, h2⟩, tp, p, h3⟩ := h
  exact ⟨h1.bel hb, ⟨m, (hb.cell (World.block_lt_of_cell? _ _ h2)).trans h2⟩, tp, p, (hb.cell (World.block_lt_of_cell? _ _ h3)).trans h3⟩
theorem trim_len (l : List UInt8) : l.length ≤ (Lib.trimPrefix l [45]).length + 1 := by
  unfold Lib.trimPrefix
  split
  · simp; omega
  · omega
theorem numT_long {s : ByteArray} (h : 17 < (Lib.trimPrefix s.data.toList [45]).length) : numT s = none := by
  apply numT_none
  intro n hn
  have := (numO_some hn).2
  omega
theorem numT_atoi_no {s : ByteArray} (h : Lib.atoi s.data.toList = none) : numT s = none := by unfold numT numO; rw [h]
theorem numT_atoi {s : ByteArray} {n : Int} (hl : (Lib.trimPrefix s.data.toList [45]).length ≤ 17) (h : Lib.atoi s.data.toList = some n) : numT s = if itoaS n = s then some n else none := by
  unfold numT numO
  rw [h]
  have e : (Lib.itoa n = s.data.toList ∧ (Lib.trimPrefix s.data.toList [45]).length ≤ 17) ↔ itoaS n = s := by
    constructor
    · rintro ⟨h1, -⟩
      unfold itoaS
      rw [h1]
    · intro h1
      refine ⟨?_, hl⟩
      rw [← h1]
      exact (data_baL _).symm
  simp only [e]
theorem atoi_size {s : ByteArray} (h : (Lib.trimPrefix s.data.toList [45]).length ≤ 17) : s.size ≤ 18 := by
  have := trim_len s.data.toList
  have e : s.data.toList.length = s.size := rfl
  omega
theorem bne_of2 {x y : ByteArray} (h : x ≠ y) : (!x.toList == y.toList) = true := by
  simp [ByteArray.toList_eq]
  intro e
  exact h (ByteArray.ext (by first | exact e | exact Array.toList_inj.1 e))
set_option maxHeartbeats 4000000 in
theorem parseNum_any (t : ByteArray) (w : World) (ht : t.size ≤ 1048576) (hg : Glb w) :
    Calls Tryz.prog 195 #[.string t] w fun e w' => NumE t e ∧ Below w.heap.size w w' := by
  have HG := Lib.hid hg
  clear hg
  obtain ⟨z, hz⟩ : ∃ z : ByteArray, (⟨(Lib.trimPrefix t.data.toList [45]).toArray⟩ : ByteArray) = z := ⟨_, rfl⟩
  have hzs : z.size = (Lib.trimPrefix t.data.toList [45]).length := by rw [← hz]; rfl
  have HZ := Lib.hid hzs
  have HZ0 := Lib.hid hz
  clear hz hzs
  go_enter Tryz.func195, Tryz.ntmps195
  go_wp2_with fail
  refine (Tryz.strings_TrimPrefix t ⟨#[45]⟩ w).mono ?_
  rintro e w2 ⟨rfl, rfl⟩
  rw [show (⟨#[45]⟩ : ByteArray).data.toList = [45] from rfl, HZ0.out]
  by_cases hl : 17 < z.size
  · have HN := Lib.hid (numT_long (s := t) (by rw [← HZ.out]; exact hl))
    have hli : (17 : Int) < (z.size : Int) := by omega
    go_wp2
    go_ret2
    exact ⟨NumE.bad HN.out, Below.refl _ _⟩
  · have hl17 : (Lib.trimPrefix t.data.toList [45]).length ≤ 17 := by rw [← HZ.out]; omega
    have h18 := atoi_size hl17
    have hli : ¬ (17 : Int) < (z.size : Int) := by omega
    have HL := Lib.hid hl17
    clear hl17
    cases ha : Lib.atoi t.data.toList with
    | none =>
      have HN := Lib.hid (numT_atoi_no ha)
      have HA := Lib.hid ha
      clear ha
      obtain ⟨tp, p, hv⟩ := HG.out.2.2
      have HV := Lib.hid hv
      clear hv
      go_wp2_with fail
      refine (Tryz.strconv_Atoi_err t h18 HA.out _ w2 HV.out (.inr ⟨_, _, rfl⟩)).mono ?_
      rintro e w3 ⟨N, rfl, -, -, b⟩
      go_wp2
      go_ret2
      exact ⟨NumE.bad HN.out, b⟩
    | some n =>
      have HN := Lib.hid (numT_atoi HL.out ha)
      have hbd := Lib.atoi_bound ha h18
      have HA := Lib.hid ha
      clear ha
      go_wp2_with fail
      refine (Tryz.strconv_Atoi t n h18 HA.out w2).mono ?_
      rintro e w3 ⟨rfl, tt, hw3⟩
      have b3 : Below w2.heap.size w2 w3 := by rw [hw3]; exact Lib.bytesWorld_below _ _ _
      have HB := Lib.hid b3
      clear b3 hw3
      go_wp2_with fail
      refine (itoa_any n _ ⟨by omega, by omega⟩ (HG.out.1.bel HB.out)).mono ?_
      rintro e w4 ⟨rfl, b4⟩
      have HB4 := Lib.hid (bel_trans HB.out b4)
      clear b4
      obtain ⟨T, hT⟩ : ∃ T, itoaS n = T := ⟨_, rfl⟩
      rw [hT] at HN ⊢
      clear hT
      by_cases hq : T = t
      · have HN2 := Lib.hid (show numT t = some n by rw [HN.out, if_pos hq])
        have he : (!T.toList == t.toList) = false := by rw [hq]; simp
        clear hq
        go_wp2
        go_ret2
        exact ⟨NumE.good HN2.out, HB4.out⟩
      · have HN2 := Lib.hid (show numT t = none by rw [HN.out, if_neg hq])
        have he := bne_of2 hq
        clear hq
        go_wp2
        go_ret2
        exact ⟨NumE.bad HN2.out, HB4.out⟩
end Go.Proofs.YtpniljcnknknoaaGreatDoor

/-
  Lists of numbers parsed by the library's means: splitNumbers, ParsePoly (impl).
-/
namespace Go.Proofs.YtpniljcnknknoaaGreatDoor
open Go.RowKit
set_option linter.unusedVariables false
set_option linter.unusedSimpArgs false
set_option maxRecDepth 100000
attribute [local go_sem ↓] Go.wp_at_zero Go.wp_at_succ

theorem cutS_wf (c : UInt8) (s : ByteArray) (hs : s.size ≤ 1048576) : WfS (cutS c s) := by
  intro x hx
  have := cutS_mem_size hx
  omega
theorem split_any (s : ByteArray) (c : UInt8) (w : World) (hs : s.size ≤ 1048576) (hg : Glb w) :
    Calls Tryz.prog 54 #[.string s, .string ⟨#[c]⟩] w fun e w' => ∃ A, e = .returned (.slice A (cutS c s).length (cutS c s).length) ∧ OwnS w' w.heap.size (.slice A (cutS c s).length (cutS c s).length) (cutS c s) ∧ Below w.heap.size w w' := by
  obtain ⟨m, hm⟩ := hg.2.1
  refine (Tryz.strings_Split s ⟨#[c]⟩ m w (by omega) hm (Nat.le_refl _)).mono ?_
  rintro e w' ⟨rfl, rfl⟩
  rw [cutS_split, ← cutS_len]
  have hl := cutS_le c s
  refine ⟨_, rfl, OwnS.mk' (cs := (cutS c s).map Value.string) (Nat.le_refl _) (Blk.new w 9 _) (Nat.le_refl _) (by omega) (by simp) (fun j hj => ?_) (cutS_wf c s hs), bel_alloc _ _⟩
  rw [List.getElem?_map, List.getElem?_eq_getElem hj, sat_eq _ _ hj]
  rfl
theorem grown_set (w : World) (b j : Nat) (u : Value) : w.grownBy (w.setCell ⟨b, j, none⟩ u) (some b) := only_setCell ⟨rfl, rfl, rfl, Nat.le_refl _, fun _ _ _ => rfl⟩ (.inl rfl) u
/-- What splitNumbers returns. -/
def spL (t : ByteArray) : List Int := if numsOk t = true then numsV t else []
theorem spL_yes {t : ByteArray} (h : numsOk t = true) : spL t = numsV t := by simp [spL, h]
theorem spL_no {t : ByteArray} (h : numsOk t = false) : spL t = [] := by simp [spL, h]
theorem numsV_at {ls : List ByteArray} {L : List Int} (hl : L.length = ls.length) (h : ∀ j, j < ls.length → at_ L j = numV (sat ls j)) : L = ls.map numV := by
  apply List.ext_getElem (by rw [hl, List.length_map])
  intro j h1 h2
  have := h j (by omega)
  rw [sat_eq ls j (by omega)] at this
  rw [List.getElem_map, ← this]
  unfold at_
  rw [List.getD_eq_getElem?_getD, List.getElem?_eq_getElem h1]
  rfl
set_option maxHeartbeats 4000000 in
theorem splitNum_any (t : ByteArray) (w : World) (ht : t.size ≤ 1048576) (hg : Glb w) :
    Calls Tryz.prog 129 #[.string t] w fun e w' => ∃ r, e = .returned (.tuple #[r, .bool (numsOk t)]) ∧ Own w' w.heap.size r (spL t) ∧ Below w.heap.size w w' := by
  have HG := Lib.hid hg
  go_enter Tryz.func129, Tryz.ntmps129
  go_wp2_with fail
  refine (split_any t 32 _ ht hg).mono ?_
  rintro e w2 ⟨A, rfl, o, b⟩
  have HB := Lib.hid b
  have hcl := cutS_le 32 t
  obtain ⟨ls, hls⟩ : ∃ ls, cutS 32 t = ls := ⟨_, rfl⟩
  have HLS := Lib.hid hls
  rw [hls] at o hcl
  rw [hls]
  have HP := Lib.hid o
  have hmk := fun W => Tryz.mkInts ls.length (by omega) W
  have OZ := Own.zeros w2 ls.length (by omega)
  have BZ := bel_trans b (bel_alloc w2 (.cells (reps ls.length (.int .i64 0)).toArray 3))
  have HPZ := o.bel (bel_alloc w2 (.cells (reps ls.length (.int .i64 0)).toArray 3))
  have hz2 := b.size
  clear o b hls hg
  go_wp2_with fail
  generalize hW : w2.alloc (.cells (reps ls.length (.int .i64 0)).toArray 3) = w3 at *
  clear hW
  go_loopw [17] (fun i wr => ∃ (k : Nat) (L : List Int), k ≤ ls.length ∧ i = .int .i64 k ∧ okTo ls k ∧ L.length = ls.length ∧ (∀ j, j < k → at_ L j = numV (sat ls j)) ∧ Own wr w2.heap.size (.slice (some ⟨w2.heap.size, 0, none⟩) ls.length ls.length) L ∧ OwnS wr w.heap.size (.slice A ls.length ls.length) ls ∧ Below w.heap.size w wr) (fun i _ => ls.length - (intOf i).toNat)
  case atStart => exact ⟨0, _, Nat.zero_le _, rfl, fun j hj => absurd hj (Nat.not_lt_zero _), zerosL_len _, fun j hj => absurd hj (Nat.not_lt_zero _), OZ, HPZ, BZ⟩
  case round =>
    obtain ⟨k, L, hk, rfl, hok, hL, hat, hO, hP, hB⟩ := hrel
    have H := Lib.hid (And.intro hok (And.intro hat (And.intro hO (And.intro hP hB))))
    have HLL := Lib.hid hL
    have hz := hB.size
    clear hok hat hO hP hB hL OZ HPZ BZ
    by_cases hkl : k < ls.length
    · obtain ⟨A6, c6, e6, -, -, hrd⟩ := H.out.2.2.2.1.strs.open_
      cases e6
      obtain ⟨b, o, rfl, hbb, hcell⟩ := hrd.strs (Nat.lt_of_le_of_lt (Nat.zero_le _) hkl)
      have hck := hcell k hkl
      have hss : (sat ls k).size ≤ 1048576 := Nat.le_trans (cutS_mem_size (c := 32) (s := t) (by rw [HLS.out]; exact sat_mem ls k hkl)) ht
      have hbd := numV_bd (sat ls k)
      have HNO := Lib.hid (allT_no hkl)
      have HOS := Lib.hid (fun hq => okTo_succ H.out.1 hq)
      obtain ⟨Z, hZ⟩ : ∃ Z, sat ls k = Z := ⟨_, rfl⟩
      rw [hZ] at hck hss hbd HNO HOS
      replace hZ := Lib.hid hZ
      clear hcell hrd
      go_wp2_with fail
      refine (parseNum_any Z _ hss (HG.out.bel H.out.2.2.2.2)).mono ?_
      rintro e w4 ⟨he, b4⟩
      unfold NumE at he
      subst he
      have HB4 := Lib.hid (bel_trans H.out.2.2.2.2 b4)
      have HO4 := Lib.hid (H.out.2.2.1.bel b4)
      have HP4 := Lib.hid (H.out.2.2.2.1.bel b4)
      clear b4 hck
      obtain ⟨z, hz3⟩ : ∃ z, numV Z = z := ⟨_, rfl⟩
      rw [hz3] at hbd
      rw [hz3]
      replace hz3 := Lib.hid hz3
      cases hq : (numT Z).isSome
      · have HE := Lib.hid (show numsOk t = false from by
          have := HNO.out hq
          unfold numsOk
          rw [HLS.out]
          exact Bool.eq_false_iff.2 this)
        go_wp2
        go_ret2
        exact ⟨_, by rw [HE.out]; rfl, by rw [spL_no HE.out]; exact Own.nil_ _ _, HB4.out⟩
      · have HQ := Lib.hid (HOS.out hq)
        obtain ⟨g9, c9, e9, -, -, -, -, h9⟩ := HO4.out.openN (by rw [HLL.out]; omega)
        injection e9 with e1 e2 e3
        injection e1 with e1
        injection e1 with e1
        subst e1
        clear e2 e3
        obtain ⟨f0, f1⟩ := h9 k (by rw [HLL.out]; exact hkl)
        have hne := Lib.hid (show ∀ q, (Value.slice (some ⟨b, o, none⟩) ls.length ls.length).ownBlock = some q → (Value.slice (some ⟨w2.heap.size, 0, none⟩) ls.length ls.length).ownBlock ≠ some q from fun q hq e => by
          have h1 := (HP.out.lt q hq).2
          have h2 : w2.heap.size = q := Option.some.inj e
          omega)
        clear h9
        go_wp2
        go_roundw
        case rel =>
          refine ⟨k + 1, L.set k z, hkl, by go_num, HQ.out, by rw [List.length_set]; exact HLL.out, fun j hj => ?_, HO4.out.set_ k z (by rw [HLL.out]; exact hkl) ⟨by omega, by omega⟩, HP4.out.apart (u := .slice (some ⟨w2.heap.size, 0, none⟩) ls.length ls.length) (grown_set _ _ _ _) hne.out, HB4.out.setCell hz2 _⟩
          rw [at_set j (by rw [HLL.out]; exact hkl)]
          by_cases e : j = k
          · rw [if_pos e, e, hZ.out, hz3.out]
          · rw [if_neg e]; exact H.out.2.1 j (by omega)
        case measure => simp [intOf]; omega
    · have hke : k = ls.length := by omega
      subst hke
      have HE := Lib.hid (show numsOk t = true by unfold numsOk; rw [HLS.out]; exact okTo_all H.out.1)
      have HV := Lib.hid (show numsV t = L by unfold numsV; rw [HLS.out]; exact (numsV_at HLL.out H.out.2.1).symm)
      go_wp2
      go_ret2
      exact ⟨_, by rw [HE.out]; rfl, by rw [spL_yes HE.out, HV.out]; exact H.out.2.2.1.lower hz2, H.out.2.2.2.2⟩
/-- What ParsePoly returns. -/
def ppL (t : ByteArray) : List Int := chkL (spL t)
def ppOk (t : ByteArray) : Bool := numsOk t && polyOk (spL t)
set_option maxHeartbeats 1000000 in
theorem implPP_any (t : ByteArray) (w : World) (ht : t.size ≤ 1048576) (hg : Glb w) :
    Calls Tryz.prog 201 #[.string t] w fun e w' => ∃ r, e = .returned (.tuple #[r, .bool (ppOk t)]) ∧ Own w' w.heap.size r (ppL t) ∧ Below w.heap.size w w' := by
  go_enter Tryz.func201, Tryz.ntmps201
  go_wp2_with fail
  refine (splitNum_any t w ht hg).mono ?_
  rintro e w2 ⟨r, rfl, o, b⟩
  have HO := Lib.hid o
  have HB := Lib.hid b
  obtain ⟨A, c, rfl, -, -, -⟩ := o.ints.open_
  clear o b
  cases hq : numsOk t
  · have HE := Lib.hid (show ppOk t = false by unfold ppOk; rw [hq]; rfl)
    have HL := Lib.hid (show ppL t = [] by unfold ppL; rw [spL_no hq]; rfl)
    go_wp2
    go_ret2
    exact ⟨_, by rw [HE.out]; rfl, by rw [HL.out]; exact Own.nil_ _ _, HB.out⟩
  · have HE := Lib.hid (show ppOk t = polyOk (spL t) by unfold ppOk; rw [hq]; rfl)
    go_wp2_with fail
    refine (checked_any _ (spL t) _ HO.out.ints).mono ?_
    rintro e w3 ⟨rfl, rfl⟩
    have HC := Lib.hid HO.out.chk
    obtain ⟨v, hv⟩ : ∃ v, chkV (spL t) (.slice A (spL t).length c) = v := ⟨_, rfl⟩
    rw [hv] at HC ⊢
    clear hv
    go_wp2
    go_ret2
    exact ⟨_, by rw [HE.out]; rfl, HC.out, HB.out⟩
end Go.Proofs.YtpniljcnknknoaaGreatDoor

/-
  Jobs parsed: ParseJob (spec).
-/
namespace Go.Proofs.YtpniljcnknknoaaGreatDoor
open Go.RowKit
set_option linter.unusedVariables false
set_option linter.unusedSimpArgs false
set_option maxRecDepth 100000
attribute [local go_sem ↓] Go.wp_at_zero Go.wp_at_succ

/-- The groups of a text, and the job that the reference reads from them. -/
def grp (t : ByteArray) (i : Nat) : ByteArray := sat (cutS 59 t) i
def spJ (t : ByteArray) : JobD := ⟨spP (grp t 0), at_ (eight (grp t 1) 3) 0, at_ (eight (grp t 1) 3) 1, at_ (eight (grp t 1) 3) 2, at_ (eight (grp t 2) 2) 0, at_ (eight (grp t 2) 2) 1, at_ (eight (grp t 3) 3) 0, at_ (eight (grp t 3) 3) 1, at_ (eight (grp t 3) 3) 2⟩
open Classical in
/-- What the reference's ParseJob returns. -/
noncomputable def spR (t : ByteArray) : JobD × Bool := if (cutS 59 t).length = 4 ∧ fmtJ (spJ t) = t then (spJ t, true) else (zeroJ, false)
theorem spR_yes {t : ByteArray} (h : (cutS 59 t).length = 4) (h2 : fmtJ (spJ t) = t) : spR t = (spJ t, true) := by unfold spR; rw [if_pos ⟨h, h2⟩]
theorem spR_no {t : ByteArray} (h : ¬ ((cutS 59 t).length = 4 ∧ fmtJ (spJ t) = t)) : spR t = (zeroJ, false) := by unfold spR; rw [if_neg h]
theorem grp_size {t : ByteArray} (ht : t.size ≤ 1048576) (h : (cutS 59 t).length = 4) {i : Nat} (hi : i < 4) : (grp t i).size ≤ 1048576 := Nat.le_trans (cutS_mem_size (c := 59) (s := t) (sat_mem _ i (by omega))) ht
/-- What ParseJob returns, as a value of its own. -/
def JobE (w : World) (base : Nat) (R : JobD × Bool) (e : Ending) : Prop := ∃ v, e = .returned (.tuple #[jobV v R.1, .bool R.2]) ∧ Own w base v R.1.poly ∧ R.1.In
theorem zeroJ_in : zeroJ.In := by constructor <;> (unfold zeroJ; simp)

theorem sm_at {l : List Int} (h : Sm l) (i : Nat) : -100000000000000000 < at_ l i ∧ at_ l i < 100000000000000000 := by
  unfold at_
  rw [List.getD_eq_getElem?_getD]
  cases hq : l[i]? with
  | none => simp
  | some x => exact h x (List.mem_of_getElem? hq)
theorem eight_sm (t : ByteArray) (n : Nat) : Sm (eight t n) := by
  unfold eight
  split
  · exact numsV_sm t
  · intro x hx
    obtain ⟨_, _, rfl⟩ := List.mem_map.1 hx
    omega
theorem eight_bd (t : ByteArray) (n i : Nat) : -9223372036854775808 ≤ at_ (eight t n) i ∧ at_ (eight t n) i ≤ 9223372036854775807 := by
  have := sm_at (eight_sm t n) i
  omega
theorem parts4 {w : World} {A : Option Addr} {c : Nat} {ls : List ByteArray} (h : Strs w (.slice A ls.length c) ls) (hl : ls.length = 4) : ∃ b o, A = some ⟨b, o, none⟩ ∧ b < w.heap.size ∧
    (w.cell? ⟨b, o, none⟩ = some (.string (sat ls 0)) ∧ w.cell? ⟨b, o + 1, none⟩ = some (.string (sat ls 1)) ∧ w.cell? ⟨b, o + 2, none⟩ = some (.string (sat ls 2)) ∧ w.cell? ⟨b, o + 3, none⟩ = some (.string (sat ls 3))) := by
  obtain ⟨A6, c6, e6, -, -, hrd⟩ := h.open_
  injection e6 with e1 e2 e3
  subst e1
  obtain ⟨b, o, e, hb, hc⟩ := hrd.strs (by omega)
  exact ⟨b, o, e, hb, hc 0 (by omega), hc 1 (by omega), hc 2 (by omega), hc 3 (by omega)⟩
theorem row3 {w : World} {base : Nat} {v : Value} {l : List Int} (h : Own w base v l) (hl : l.length = 3) : ∃ b c, v = .slice (some ⟨b, 0, none⟩) 3 c ∧ base ≤ b ∧ b < w.heap.size ∧ 3 ≤ c ∧
    (w.cell? ⟨b, 0, none⟩ = some (.int .i64 (at_ l 0)) ∧ w.cell? ⟨b, 1, none⟩ = some (.int .i64 (at_ l 1)) ∧ w.cell? ⟨b, 2, none⟩ = some (.int .i64 (at_ l 2))) := by
  obtain ⟨b, c, rfl, h1, h2, h3, h4, hc⟩ := h.openN (by omega)
  rw [hl] at h3 ⊢
  exact ⟨b, c, rfl, h1, h2, h3, (hc 0 (by omega)).1, (hc 1 (by omega)).1, (hc 2 (by omega)).1⟩
theorem row2 {w : World} {base : Nat} {v : Value} {l : List Int} (h : Own w base v l) (hl : l.length = 2) : ∃ b c, v = .slice (some ⟨b, 0, none⟩) 2 c ∧ base ≤ b ∧ b < w.heap.size ∧ 2 ≤ c ∧
    (w.cell? ⟨b, 0, none⟩ = some (.int .i64 (at_ l 0)) ∧ w.cell? ⟨b, 1, none⟩ = some (.int .i64 (at_ l 1))) := by
  obtain ⟨b, c, rfl, h1, h2, h3, h4, hc⟩ := h.openN (by omega)
  rw [hl] at h3 ⊢
  exact ⟨b, c, rfl, h1, h2, h3, (hc 0 (by omega)).1, (hc 1 (by omega)).1⟩
theorem cells3 {w w' : World} {b : Nat} {x y z : Value} (h : w.cell? ⟨b, 0, none⟩ = some x ∧ w.cell? ⟨b, 1, none⟩ = some y ∧ w.cell? ⟨b, 2, none⟩ = some z) (hl : b < w.heap.size) (hb : Below w.heap.size w w') : w'.cell? ⟨b, 0, none⟩ = some x ∧ w'.cell? ⟨b, 1, none⟩ = some y ∧ w'.cell? ⟨b, 2, none⟩ = some z :=
  ⟨(hb.cell hl).trans h.1, (hb.cell hl).trans h.2.1, (hb.cell hl).trans h.2.2⟩
theorem cells2 {w w' : World} {b : Nat} {x y : Value} (h : w.cell? ⟨b, 0, none⟩ = some x ∧ w.cell? ⟨b, 1, none⟩ = some y) (hl : b < w.heap.size) (hb : Below w.heap.size w w') : w'.cell? ⟨b, 0, none⟩ = some x ∧ w'.cell? ⟨b, 1, none⟩ = some y :=
  ⟨(hb.cell hl).trans h.1, (hb.cell hl).trans h.2⟩
end Go.Proofs.YtpniljcnknknoaaGreatDoor

/-
  Jobs parsed: both packages agree, plainly.
-/
namespace Go.Proofs.YtpniljcnknknoaaGreatDoor
open Go.RowKit
set_option linter.unusedVariables false
set_option linter.unusedSimpArgs false
set_option maxRecDepth 100000

def imJ (t : ByteArray) : JobD := ⟨ppL (grp t 0), at_ (spL (grp t 1)) 0, at_ (spL (grp t 1)) 1, at_ (spL (grp t 1)) 2, at_ (spL (grp t 2)) 0, at_ (spL (grp t 2)) 1, at_ (spL (grp t 3)) 0, at_ (spL (grp t 3)) 1, at_ (spL (grp t 3)) 2⟩
def ImOk (t : ByteArray) : Prop := (cutS 59 t).length = 4 ∧ ppOk (grp t 0) = true ∧ numsOk (grp t 1) = true ∧ numsOk (grp t 2) = true ∧ numsOk (grp t 3) = true ∧ (spL (grp t 1)).length = 3 ∧ (spL (grp t 2)).length = 2 ∧ (spL (grp t 3)).length = 3 ∧ jobOk (imJ t) = true
theorem list4 {l : List ByteArray} (h : l.length = 4) : l = [sat l 0, sat l 1, sat l 2, sat l 3] := by
  match l, h with
  | [a, b, c, d], _ => rfl
theorem list3i {l : List Int} (h : l.length = 3) : [at_ l 0, at_ l 1, at_ l 2] = l := by
  match l, h with
  | [a, b, c], _ => rfl
theorem list2i {l : List Int} (h : l.length = 2) : [at_ l 0, at_ l 1] = l := by
  match l, h with
  | [a, b], _ => rfl
theorem cut_len_nums (g : ByteArray) : (cutS 32 g).length = (numsV g).length := by unfold numsV; rw [List.length_map]
theorem eight_spL {g : ByteArray} {n : Nat} (h : numsOk g = true) (hl : (spL g).length = n) : eight g n = spL g := by
  rw [spL_yes h] at hl ⊢
  exact eight_yes (by rw [cut_len_nums]; exact hl) h
theorem spP_ppL {g : ByteArray} (h : ppOk g = true) : spP g = ppL g ∧ polyS (ppL g) = g := by
  unfold ppOk at h
  rw [Bool.and_eq_true] at h
  have h1 := spL_yes h.1
  rw [h1] at h
  have h7 := poly_len h.2
  have e : ppL g = numsV g := by unfold ppL; rw [h1, chkL_yes h.2]
  have h8 : numsTo (cutS 32 g) 8 = numsV g := numsTo_all (by rw [cut_len_nums]; omega)
  have hp : polyS (numsV g) = g := by rw [polyS_yes h.2, numsS_numsV h.1]
  rw [e]
  exact ⟨by rw [spP_yes (by rw [h8]; exact hp), h8], hp⟩
/-- What is parsed is what the reference parses. -/
theorem im_sp {t : ByteArray} (h : ImOk t) : imJ t = spJ t ∧ fmtJ (spJ t) = t := by
  obtain ⟨h4, hp, o1, o2, o3, l1, l2, l3, hj⟩ := h
  obtain ⟨e0, f0⟩ := spP_ppL hp
  have e : imJ t = spJ t := by
    unfold imJ spJ
    rw [eight_spL o1 l1, eight_spL o2 l2, eight_spL o3 l3, e0]
  refine ⟨e, ?_⟩
  rw [← e, fmt_yes hj, ← join_four]
  have r1 : gr1 (imJ t) = grp t 1 := by
    show numsS [at_ (spL (grp t 1)) 0, at_ (spL (grp t 1)) 1, at_ (spL (grp t 1)) 2] = _
    rw [list3i l1, spL_yes o1, numsS_numsV o1]
  have r2 : gr2 (imJ t) = grp t 2 := by
    show numsS [at_ (spL (grp t 2)) 0, at_ (spL (grp t 2)) 1] = _
    rw [list2i l2, spL_yes o2, numsS_numsV o2]
  have r3 : gr3 (imJ t) = grp t 3 := by
    show numsS [at_ (spL (grp t 3)) 0, at_ (spL (grp t 3)) 1, at_ (spL (grp t 3)) 2] = _
    rw [list3i l3, spL_yes o3, numsS_numsV o3]
  rw [r1, r2, r3, show polyS (imJ t).poly = grp t 0 from f0]
  have := joinS_cut 59 t
  rw [list4 h4] at this
  exact this
theorem job_sm {j : JobD} (hj : j.In) (h : jobOk j = true) : Sm j.poly ∧ Sm [j.fr, j.ct, j.wd] ∧ Sm [j.dg, j.wy] ∧ Sm [j.rw, j.ac, j.wi] := by
  obtain ⟨h1, h2, h3, h4, h5⟩ := jobOk_true.1 h
  obtain ⟨hk1, hk2, -, -⟩ := set_raw h1
  obtain ⟨hp0, hn⟩ := argOk_true.1 hk1
  obtain ⟨p1, p7, hp⟩ := polyOk_true.1 hp0
  have hc := capI_bd j.poly j.fr j.wd j.ct
  rw [h3] at hc
  simp [wayOk, inB] at h4
  simp [layOk, inB] at h5
  refine ⟨fun n hn => ?_, fun n hn => ?_, fun n hn => ?_, fun n hn => ?_⟩
  · obtain ⟨k, hk, rfl⟩ := List.getElem_of_mem hn
    have := hp k hk
    unfold at_ at this
    rw [List.getD_eq_getElem?_getD, List.getElem?_eq_getElem hk] at this
    simp at this
    omega
  · simp at hn
    rcases hn with rfl | rfl | rfl <;> omega
  · simp at hn
    rcases hn with rfl | rfl <;> omega
  · simp at hn
    rcases hn with rfl | rfl | rfl <;> omega
theorem sp_im {t : ByteArray} (h4 : (cutS 59 t).length = 4) (h : fmtJ (spJ t) = t) : ImOk t := by
  obtain ⟨j, hj⟩ : ∃ j, j = spJ t := ⟨_, rfl⟩
  have hin : j.In := by rw [hj]; constructor <;> exact eight_bd _ _ _
  rw [← hj] at h
  have hok : jobOk j = true := by
    cases hq : jobOk j
    · rw [fmt_no hq] at h
      rw [← h] at h4
      exact absurd h4 (by decide)
    · rfl
  have hpo := job_poly hok
  obtain ⟨s0, s1, s2, s3⟩ := job_sm hin hok
  have hp1 : j.poly ≠ [] := fun e => by have := (polyOk_true.1 hpo).1; rw [e] at this; simp at this
  rw [fmt_yes hok, polyS_yes hpo, ← join_four] at h
  have hc : cutS 59 t = [numsS j.poly, gr1 j, gr2 j, gr3 j] := by
    rw [← h]
    apply cutS_join
    intro p hp
    simp at hp
    rcases hp with rfl | rfl | rfl | rfl <;> exact numsS_no (by decide) (by decide) (by decide) _
  have g0 : grp t 0 = numsS j.poly := by unfold grp; rw [hc]; rfl
  have g1 : grp t 1 = gr1 j := by unfold grp; rw [hc]; rfl
  have g2 : grp t 2 = gr2 j := by unfold grp; rw [hc]; rfl
  have g3 : grp t 3 = gr3 j := by unfold grp; rw [hc]; rfl
  obtain ⟨a0, b0⟩ := numsOk_of hp1 s0
  obtain ⟨a1, b1⟩ := numsOk_of (by simp) s1
  obtain ⟨a2, b2⟩ := numsOk_of (by simp) s2
  obtain ⟨a3, b3⟩ := numsOk_of (by simp) s3
  have l0 : spL (grp t 0) = j.poly := by rw [g0, spL_yes a0, b0]
  have l1 : spL (grp t 1) = [j.fr, j.ct, j.wd] := by rw [g1]; unfold gr1; rw [spL_yes a1, b1]
  have l2 : spL (grp t 2) = [j.dg, j.wy] := by rw [g2]; unfold gr2; rw [spL_yes a2, b2]
  have l3 : spL (grp t 3) = [j.rw, j.ac, j.wi] := by rw [g3]; unfold gr3; rw [spL_yes a3, b3]
  have hi : imJ t = j := by
    unfold imJ ppL
    rw [l0, l1, l2, l3, chkL_yes hpo]
    rfl
  refine ⟨h4, ?_, ?_, ?_, ?_, ?_, ?_, ?_, ?_⟩
  · unfold ppOk
    rw [l0, hpo, g0, a0]
    rfl
  · rw [g1]; exact a1
  · rw [g2]; exact a2
  · rw [g3]; exact a3
  · rw [l1]; rfl
  · rw [l2]; rfl
  · rw [l3]; rfl
  · rw [hi]; exact hok
theorem spR_good {t : ByteArray} (h : ImOk t) : spR t = (imJ t, true) := by rw [spR_yes h.1 (im_sp h).2, (im_sp h).1]
theorem spR_bad {t : ByteArray} (h : ¬ ImOk t) : spR t = (zeroJ, false) := spR_no fun x => h (sp_im x.1 x.2)
end Go.Proofs.YtpniljcnknknoaaGreatDoor

/-
  Jobs parsed: ParseJob (impl; printed by gen_pjm.py).
-/
namespace Go.Proofs.YtpniljcnknknoaaGreatDoor
open Go.RowKit
set_option linter.unusedVariables false
set_option linter.unusedSimpArgs false
set_option maxRecDepth 100000
attribute [local go_sem ↓] Go.wp_at_zero Go.wp_at_succ

theorem row3' {w : World} {base c : Nat} {A : Option Addr} {l : List Int} (h : Own w base (.slice A l.length c) l) (hl : l.length = 3) : ∃ b, A = some ⟨b, 0, none⟩ ∧ 3 ≤ c ∧
    (w.cell? ⟨b, 0, none⟩ = some (.int .i64 (at_ l 0)) ∧ w.cell? ⟨b, 1, none⟩ = some (.int .i64 (at_ l 1)) ∧ w.cell? ⟨b, 2, none⟩ = some (.int .i64 (at_ l 2))) := by
  obtain ⟨b, c2, e, h1, h2, h3, h4⟩ := row3 h hl
  injection e with e1 e2 e3
  subst e3
  exact ⟨b, e1, h3, h4⟩
theorem row2' {w : World} {base c : Nat} {A : Option Addr} {l : List Int} (h : Own w base (.slice A l.length c) l) (hl : l.length = 2) : ∃ b, A = some ⟨b, 0, none⟩ ∧ 2 ≤ c ∧
    (w.cell? ⟨b, 0, none⟩ = some (.int .i64 (at_ l 0)) ∧ w.cell? ⟨b, 1, none⟩ = some (.int .i64 (at_ l 1))) := by
  obtain ⟨b, c2, e, h1, h2, h3, h4⟩ := row2 h hl
  injection e with e1 e2 e3
  subst e3
  exact ⟨b, e1, h3, h4⟩
theorem spL_sm (t : ByteArray) : Sm (spL t) := by
  unfold spL
  split
  · exact numsV_sm t
  · intro x hx; simp at hx
theorem spL_bd (t : ByteArray) (i : Nat) : -9223372036854775808 ≤ at_ (spL t) i ∧ at_ (spL t) i ≤ 9223372036854775807 := by
  have := sm_at (spL_sm t) i
  omega

set_option maxHeartbeats 8000000 in
theorem implPJ_any (t : ByteArray) (w : World) (ht : t.size ≤ 1048576) (hg : Glb w) :
    Calls Tryz.prog 240 #[.string t] w fun e w' => JobE w' w.heap.size (spR t) e ∧ Below w.heap.size w w' := by
  have K0 := Blk.new w 27 (jobC (.slice none 0 0) zeroJ)
  have B0 := bel_alloc w (.cells (jobC (.slice none 0 0) zeroJ).toArray 27)
  have HG := Lib.hid hg
  clear hg
  go_enter Tryz.func240, Tryz.ntmps240
  go_wp2_with fail
  change Calls _ _ _ (w.alloc (.cells (jobC (.slice none 0 0) zeroJ).toArray 27)) _
  generalize hW : w.alloc (.cells (jobC (.slice none 0 0) zeroJ).toArray 27) = w1 at *
  have hz1 : w1.heap.size = w.heap.size + 1 := by rw [← hW]; simp
  clear hW
  refine (split_any t 59 _ ht (HG.out.bel B0)).mono ?_
  rintro e w2 ⟨A, rfl, o, b⟩
  have hz21 : w.heap.size + 1 ≤ w2.heap.size := by rw [← hz1]; exact b.size
  replace K0 := K0.below b K0.lt
  have HK := Lib.hid K0
  have HB := Lib.hid (bel_trans B0 b)
  have HP := Lib.hid o.strs
  have hcl := cutS_le 59 t
  obtain ⟨ls, hls⟩ : ∃ ls, cutS 59 t = ls := ⟨_, rfl⟩
  have HLS := Lib.hid hls
  rw [hls] at HP hcl
  rw [hls]
  clear B0 o b hls K0
  by_cases hlen : ls.length = 4
  · have HLN := Lib.hid (show (cutS 59 t).length = 4 by rw [HLS.out]; exact hlen)
    have g0 : (sat ls 0).size ≤ 1048576 := by rw [← HLS.out]; exact grp_size ht HLN.out (i := 0) (by omega)
    have g1 : (sat ls 1).size ≤ 1048576 := by rw [← HLS.out]; exact grp_size ht HLN.out (i := 1) (by omega)
    have g2 : (sat ls 2).size ≤ 1048576 := by rw [← HLS.out]; exact grp_size ht HLN.out (i := 2) (by omega)
    have g3 : (sat ls 3).size ≤ 1048576 := by rw [← HLS.out]; exact grp_size ht HLN.out (i := 3) (by omega)
    obtain ⟨b, o, rfl, hbb, p0, p1, p2, p3⟩ := parts4 HP.out hlen
    rw [hlen] at HP ⊢
    have HJ := Lib.hid (show imJ t = ⟨ppL (sat ls 0), at_ (spL (sat ls 1)) 0, at_ (spL (sat ls 1)) 1, at_ (spL (sat ls 1)) 2, at_ (spL (sat ls 2)) 0, at_ (spL (sat ls 2)) 1, at_ (spL (sat ls 3)) 0, at_ (spL (sat ls 3)) 1, at_ (spL (sat ls 3)) 2⟩ by unfold imJ grp; rw [HLS.out])
    have HI := Lib.hid (show ImOk t ↔ (cutS 59 t).length = 4 ∧ ppOk (sat ls 0) = true ∧ numsOk (sat ls 1) = true ∧ numsOk (sat ls 2) = true ∧ numsOk (sat ls 3) = true ∧ (spL (sat ls 1)).length = 3 ∧ (spL (sat ls 2)).length = 2 ∧ (spL (sat ls 3)).length = 3 ∧ jobOk (imJ t) = true by unfold ImOk grp; rw [HLS.out])
    obtain ⟨G0, hG0⟩ : ∃ G, sat ls 0 = G := ⟨_, rfl⟩
    obtain ⟨G1, hG1⟩ : ∃ G, sat ls 1 = G := ⟨_, rfl⟩
    obtain ⟨G2, hG2⟩ : ∃ G, sat ls 2 = G := ⟨_, rfl⟩
    obtain ⟨G3, hG3⟩ : ∃ G, sat ls 3 = G := ⟨_, rfl⟩
    rw [hG0] at g0 p0 HJ HI
    rw [hG1] at g1 p1 HJ HI
    rw [hG2] at g2 p2 HJ HI
    rw [hG3] at g3 p3 HJ HI
    clear hG0 hG1 hG2 hG3 hlen HLS HP hcl
    go_wp2_with fail
    refine (implPP_any G0 _ g0 (HG.out.bel HB.out)).mono ?_
    rintro e w3 ⟨r0, rfl, o0, b3⟩
    replace HK := Lib.hid (HK.out.below b3 HK.out.lt)
    replace HB := Lib.hid (bel_trans HB.out b3)
    replace p1 := (b3.cell hbb).trans p1
    replace p2 := (b3.cell hbb).trans p2
    replace p3 := (b3.cell hbb).trans p3
    replace hbb := Nat.lt_of_lt_of_le hbb b3.size
    clear b3 p0
    go_wp2_with fail
    refine (splitNum_any G1 _ g1 (HG.out.bel HB.out)).mono ?_
    rintro e w4 ⟨r1, rfl, o1, b4⟩
    replace HK := Lib.hid (HK.out.below b4 HK.out.lt)
    replace HB := Lib.hid (bel_trans HB.out b4)
    replace p2 := (b4.cell hbb).trans p2
    replace p3 := (b4.cell hbb).trans p3
    replace hbb := Nat.lt_of_lt_of_le hbb b4.size
    replace o0 := o0.bel b4
    clear b4 p1
    go_wp2_with fail
    refine (splitNum_any G2 _ g2 (HG.out.bel HB.out)).mono ?_
    rintro e w5 ⟨r2, rfl, o2, b5⟩
    replace HK := Lib.hid (HK.out.below b5 HK.out.lt)
    replace HB := Lib.hid (bel_trans HB.out b5)
    replace p3 := (b5.cell hbb).trans p3
    replace hbb := Nat.lt_of_lt_of_le hbb b5.size
    replace o0 := o0.bel b5
    replace o1 := o1.bel b5
    clear b5 p2
    go_wp2_with fail
    refine (splitNum_any G3 _ g3 (HG.out.bel HB.out)).mono ?_
    rintro e w6 ⟨r3, rfl, o3, b6⟩
    replace HK := Lib.hid (HK.out.below b6 HK.out.lt)
    replace HB := Lib.hid (bel_trans HB.out b6)
    have O0 := Lib.hid ((o0.bel b6).lower hz21)
    have O1 := Lib.hid (o1.bel b6)
    have O2 := Lib.hid (o2.bel b6)
    have O3 := Lib.hid o3
    clear b6 p3 o0 o1 o2 o3 hbb
    obtain ⟨A0, c0, rfl, -, -, -⟩ := O0.out.ints.open_
    obtain ⟨A1, c1, rfl, -, -, -⟩ := O1.out.ints.open_
    obtain ⟨A2, c2, rfl, -, -, -⟩ := O2.out.ints.open_
    obtain ⟨A3, c3, rfl, -, -, -⟩ := O3.out.ints.open_
    obtain ⟨L1, hL1⟩ : ∃ L, spL G1 = L := ⟨_, rfl⟩
    obtain ⟨L2, hL2⟩ : ∃ L, spL G2 = L := ⟨_, rfl⟩
    obtain ⟨L3, hL3⟩ : ∃ L, spL G3 = L := ⟨_, rfl⟩
    have d1 := spL_bd G1
    have d2 := spL_bd G2
    have d3 := spL_bd G3
    rw [hL1] at O1 HJ HI d1
    rw [hL2] at O2 HJ HI d2
    rw [hL3] at O3 HJ HI d3
    have hJin : (imJ t).In := by
      rw [HJ.out]
      constructor
      exact d1 0
      exact d1 1
      exact d1 2
      exact d2 0
      exact d2 1
      exact d3 0
      exact d3 1
      exact d3 2
    have HJI := Lib.hid hJin
    rw [hL1, hL2, hL3]
    clear hL1 hL2 hL3 d1 d2 d3 hJin
    obtain ⟨q0, hq0⟩ : ∃ q, ppOk G0 = q := ⟨_, rfl⟩
    obtain ⟨q1, hq1⟩ : ∃ q, numsOk G1 = q := ⟨_, rfl⟩
    obtain ⟨q2, hq2⟩ : ∃ q, numsOk G2 = q := ⟨_, rfl⟩
    obtain ⟨q3, hq3⟩ : ∃ q, numsOk G3 = q := ⟨_, rfl⟩
    rw [hq0, hq1, hq2] at HI ⊢
    rw [hq3] at HI ⊢
    clear hq0 hq1 hq2 hq3
    cases q0
    · have HR := Lib.hid (spR_bad (t := t) fun hh => by have h := HI.out.1 hh; exact Bool.noConfusion h.2.1)
      obtain ⟨c0', c1', c2', c3', c4', c5', c6', c7', c8'⟩ := HK.out.job
      obtain ⟨f0, f1, f2, f3, f4, f5, f6, f7, f8⟩ := HK.out.free
      go_wp2_with fail
      have KE := blkNown [.slice none 0 0, .int .i64 0, .int .i64 0, .int .i64 0, .int .i64 0, .int .i64 0, .int .i64 0, .int .i64 0, .int .i64 0] _ _ 0 HK.out
      have BE := belN (g := w.heap.size) (Nat.le_refl _) [.slice none 0 0, .int .i64 0, .int .i64 0, .int .i64 0, .int .i64 0, .int .i64 0, .int .i64 0, .int .i64 0, .int .i64 0] _ 0 HB.out
      clear c0' c1' c2' c3' c4' c5' c6' c7' c8' f0 f1 f2 f3 f4 f5 f6 f7 f8 
      change bodyPost _ _ _ _ _ (setN w6 w.heap.size 0 [.slice none 0 0, .int .i64 0, .int .i64 0, .int .i64 0, .int .i64 0, .int .i64 0, .int .i64 0, .int .i64 0, .int .i64 0])
      generalize hW7 : setN w6 w.heap.size 0 [.slice none 0 0, .int .i64 0, .int .i64 0, .int .i64 0, .int .i64 0, .int .i64 0, .int .i64 0, .int .i64 0, .int .i64 0] = W7 at KE BE ⊢
      clear hW7
      obtain ⟨h0, h1, h2, h3, h4, h5, h6, h7, h8⟩ := Blk.job (v := .slice none 0 0) (j := zeroJ) KE
      refine bodyPost_ret (v := .tuple #[jobV (.slice none 0 0) zeroJ, .bool false]) (by simp [jobV, results, Tryz.results240, go_sem, h0, h1, h2, h3, h4, h5, h6, h7, h8]) rfl ⟨⟨_, by rw [HR.out], by rw [HR.out]; exact Own.nil_ _ _, by rw [HR.out]; exact zeroJ_in⟩, BE⟩
    · skip
      cases q1
      · have HR := Lib.hid (spR_bad (t := t) fun hh => by have h := HI.out.1 hh; exact Bool.noConfusion h.2.2.1)
        obtain ⟨c0', c1', c2', c3', c4', c5', c6', c7', c8'⟩ := HK.out.job
        obtain ⟨f0, f1, f2, f3, f4, f5, f6, f7, f8⟩ := HK.out.free
        go_wp2_with fail
        have KE := blkNown [.slice none 0 0, .int .i64 0, .int .i64 0, .int .i64 0, .int .i64 0, .int .i64 0, .int .i64 0, .int .i64 0, .int .i64 0] _ _ 0 HK.out
        have BE := belN (g := w.heap.size) (Nat.le_refl _) [.slice none 0 0, .int .i64 0, .int .i64 0, .int .i64 0, .int .i64 0, .int .i64 0, .int .i64 0, .int .i64 0, .int .i64 0] _ 0 HB.out
        clear c0' c1' c2' c3' c4' c5' c6' c7' c8' f0 f1 f2 f3 f4 f5 f6 f7 f8 
        change bodyPost _ _ _ _ _ (setN w6 w.heap.size 0 [.slice none 0 0, .int .i64 0, .int .i64 0, .int .i64 0, .int .i64 0, .int .i64 0, .int .i64 0, .int .i64 0, .int .i64 0])
        generalize hW7 : setN w6 w.heap.size 0 [.slice none 0 0, .int .i64 0, .int .i64 0, .int .i64 0, .int .i64 0, .int .i64 0, .int .i64 0, .int .i64 0, .int .i64 0] = W7 at KE BE ⊢
        clear hW7
        obtain ⟨h0, h1, h2, h3, h4, h5, h6, h7, h8⟩ := Blk.job (v := .slice none 0 0) (j := zeroJ) KE
        refine bodyPost_ret (v := .tuple #[jobV (.slice none 0 0) zeroJ, .bool false]) (by simp [jobV, results, Tryz.results240, go_sem, h0, h1, h2, h3, h4, h5, h6, h7, h8]) rfl ⟨⟨_, by rw [HR.out], by rw [HR.out]; exact Own.nil_ _ _, by rw [HR.out]; exact zeroJ_in⟩, BE⟩
      · skip
        cases q2
        · have HR := Lib.hid (spR_bad (t := t) fun hh => by have h := HI.out.1 hh; exact Bool.noConfusion h.2.2.2.1)
          obtain ⟨c0', c1', c2', c3', c4', c5', c6', c7', c8'⟩ := HK.out.job
          obtain ⟨f0, f1, f2, f3, f4, f5, f6, f7, f8⟩ := HK.out.free
          go_wp2_with fail
          have KE := blkNown [.slice none 0 0, .int .i64 0, .int .i64 0, .int .i64 0, .int .i64 0, .int .i64 0, .int .i64 0, .int .i64 0, .int .i64 0] _ _ 0 HK.out
          have BE := belN (g := w.heap.size) (Nat.le_refl _) [.slice none 0 0, .int .i64 0, .int .i64 0, .int .i64 0, .int .i64 0, .int .i64 0, .int .i64 0, .int .i64 0, .int .i64 0] _ 0 HB.out
          clear c0' c1' c2' c3' c4' c5' c6' c7' c8' f0 f1 f2 f3 f4 f5 f6 f7 f8 
          change bodyPost _ _ _ _ _ (setN w6 w.heap.size 0 [.slice none 0 0, .int .i64 0, .int .i64 0, .int .i64 0, .int .i64 0, .int .i64 0, .int .i64 0, .int .i64 0, .int .i64 0])
          generalize hW7 : setN w6 w.heap.size 0 [.slice none 0 0, .int .i64 0, .int .i64 0, .int .i64 0, .int .i64 0, .int .i64 0, .int .i64 0, .int .i64 0, .int .i64 0] = W7 at KE BE ⊢
          clear hW7
          obtain ⟨h0, h1, h2, h3, h4, h5, h6, h7, h8⟩ := Blk.job (v := .slice none 0 0) (j := zeroJ) KE
          refine bodyPost_ret (v := .tuple #[jobV (.slice none 0 0) zeroJ, .bool false]) (by simp [jobV, results, Tryz.results240, go_sem, h0, h1, h2, h3, h4, h5, h6, h7, h8]) rfl ⟨⟨_, by rw [HR.out], by rw [HR.out]; exact Own.nil_ _ _, by rw [HR.out]; exact zeroJ_in⟩, BE⟩
        · skip
          cases q3
          · have HR := Lib.hid (spR_bad (t := t) fun hh => by have h := HI.out.1 hh; exact Bool.noConfusion h.2.2.2.2.1)
            obtain ⟨c0', c1', c2', c3', c4', c5', c6', c7', c8'⟩ := HK.out.job
            obtain ⟨f0, f1, f2, f3, f4, f5, f6, f7, f8⟩ := HK.out.free
            go_wp2_with fail
            have KE := blkNown [.slice none 0 0, .int .i64 0, .int .i64 0, .int .i64 0, .int .i64 0, .int .i64 0, .int .i64 0, .int .i64 0, .int .i64 0] _ _ 0 HK.out
            have BE := belN (g := w.heap.size) (Nat.le_refl _) [.slice none 0 0, .int .i64 0, .int .i64 0, .int .i64 0, .int .i64 0, .int .i64 0, .int .i64 0, .int .i64 0, .int .i64 0] _ 0 HB.out
            clear c0' c1' c2' c3' c4' c5' c6' c7' c8' f0 f1 f2 f3 f4 f5 f6 f7 f8 
            change bodyPost _ _ _ _ _ (setN w6 w.heap.size 0 [.slice none 0 0, .int .i64 0, .int .i64 0, .int .i64 0, .int .i64 0, .int .i64 0, .int .i64 0, .int .i64 0, .int .i64 0])
            generalize hW7 : setN w6 w.heap.size 0 [.slice none 0 0, .int .i64 0, .int .i64 0, .int .i64 0, .int .i64 0, .int .i64 0, .int .i64 0, .int .i64 0, .int .i64 0] = W7 at KE BE ⊢
            clear hW7
            obtain ⟨h0, h1, h2, h3, h4, h5, h6, h7, h8⟩ := Blk.job (v := .slice none 0 0) (j := zeroJ) KE
            refine bodyPost_ret (v := .tuple #[jobV (.slice none 0 0) zeroJ, .bool false]) (by simp [jobV, results, Tryz.results240, go_sem, h0, h1, h2, h3, h4, h5, h6, h7, h8]) rfl ⟨⟨_, by rw [HR.out], by rw [HR.out]; exact Own.nil_ _ _, by rw [HR.out]; exact zeroJ_in⟩, BE⟩
          · skip
            by_cases hn0 : L1.length = 3
            case neg =>
              have HR := Lib.hid (spR_bad (t := t) fun hh => by have h := HI.out.1 hh; exact hn0 h.2.2.2.2.2.1)
              have hb0 : ((L1.length : Int) == 3) = false := by simp; omega
              have hi0 : ¬ (L1.length : Int) = 3 := by omega
              obtain ⟨c0', c1', c2', c3', c4', c5', c6', c7', c8'⟩ := HK.out.job
              obtain ⟨f0, f1, f2, f3, f4, f5, f6, f7, f8⟩ := HK.out.free
              go_wp2_with fail
              have KE := blkNown [.slice none 0 0, .int .i64 0, .int .i64 0, .int .i64 0, .int .i64 0, .int .i64 0, .int .i64 0, .int .i64 0, .int .i64 0] _ _ 0 HK.out
              have BE := belN (g := w.heap.size) (Nat.le_refl _) [.slice none 0 0, .int .i64 0, .int .i64 0, .int .i64 0, .int .i64 0, .int .i64 0, .int .i64 0, .int .i64 0, .int .i64 0] _ 0 HB.out
              clear c0' c1' c2' c3' c4' c5' c6' c7' c8' f0 f1 f2 f3 f4 f5 f6 f7 f8 
              change bodyPost _ _ _ _ _ (setN w6 w.heap.size 0 [.slice none 0 0, .int .i64 0, .int .i64 0, .int .i64 0, .int .i64 0, .int .i64 0, .int .i64 0, .int .i64 0, .int .i64 0])
              generalize hW7 : setN w6 w.heap.size 0 [.slice none 0 0, .int .i64 0, .int .i64 0, .int .i64 0, .int .i64 0, .int .i64 0, .int .i64 0, .int .i64 0, .int .i64 0] = W7 at KE BE ⊢
              clear hW7
              obtain ⟨h0, h1, h2, h3, h4, h5, h6, h7, h8⟩ := Blk.job (v := .slice none 0 0) (j := zeroJ) KE
              refine bodyPost_ret (v := .tuple #[jobV (.slice none 0 0) zeroJ, .bool false]) (by simp [jobV, results, Tryz.results240, go_sem, h0, h1, h2, h3, h4, h5, h6, h7, h8]) rfl ⟨⟨_, by rw [HR.out], by rw [HR.out]; exact Own.nil_ _ _, by rw [HR.out]; exact zeroJ_in⟩, BE⟩
            obtain ⟨n1, rfl, v1, z1⟩ := row3' O1.out hn0
            rw [hn0]
            have HN0 := Lib.hid hn0
            clear hn0
            by_cases hn1 : L2.length = 2
            case neg =>
              have HR := Lib.hid (spR_bad (t := t) fun hh => by have h := HI.out.1 hh; exact hn1 h.2.2.2.2.2.2.1)
              have hb1 : ((L2.length : Int) == 2) = false := by simp; omega
              have hi1 : ¬ (L2.length : Int) = 2 := by omega
              obtain ⟨c0', c1', c2', c3', c4', c5', c6', c7', c8'⟩ := HK.out.job
              obtain ⟨f0, f1, f2, f3, f4, f5, f6, f7, f8⟩ := HK.out.free
              go_wp2_with fail
              have KE := blkNown [.slice none 0 0, .int .i64 0, .int .i64 0, .int .i64 0, .int .i64 0, .int .i64 0, .int .i64 0, .int .i64 0, .int .i64 0] _ _ 0 HK.out
              have BE := belN (g := w.heap.size) (Nat.le_refl _) [.slice none 0 0, .int .i64 0, .int .i64 0, .int .i64 0, .int .i64 0, .int .i64 0, .int .i64 0, .int .i64 0, .int .i64 0] _ 0 HB.out
              clear c0' c1' c2' c3' c4' c5' c6' c7' c8' f0 f1 f2 f3 f4 f5 f6 f7 f8 
              change bodyPost _ _ _ _ _ (setN w6 w.heap.size 0 [.slice none 0 0, .int .i64 0, .int .i64 0, .int .i64 0, .int .i64 0, .int .i64 0, .int .i64 0, .int .i64 0, .int .i64 0])
              generalize hW7 : setN w6 w.heap.size 0 [.slice none 0 0, .int .i64 0, .int .i64 0, .int .i64 0, .int .i64 0, .int .i64 0, .int .i64 0, .int .i64 0, .int .i64 0] = W7 at KE BE ⊢
              clear hW7
              obtain ⟨h0, h1, h2, h3, h4, h5, h6, h7, h8⟩ := Blk.job (v := .slice none 0 0) (j := zeroJ) KE
              refine bodyPost_ret (v := .tuple #[jobV (.slice none 0 0) zeroJ, .bool false]) (by simp [jobV, results, Tryz.results240, go_sem, h0, h1, h2, h3, h4, h5, h6, h7, h8]) rfl ⟨⟨_, by rw [HR.out], by rw [HR.out]; exact Own.nil_ _ _, by rw [HR.out]; exact zeroJ_in⟩, BE⟩
            obtain ⟨n2, rfl, v2, z2⟩ := row2' O2.out hn1
            rw [hn1]
            have HN1 := Lib.hid hn1
            clear hn1
            by_cases hn2 : L3.length = 3
            case neg =>
              have HR := Lib.hid (spR_bad (t := t) fun hh => by have h := HI.out.1 hh; exact hn2 h.2.2.2.2.2.2.2.1)
              have hb2 : ((L3.length : Int) == 3) = false := by simp; omega
              have hi2 : ¬ (L3.length : Int) = 3 := by omega
              obtain ⟨c0', c1', c2', c3', c4', c5', c6', c7', c8'⟩ := HK.out.job
              obtain ⟨f0, f1, f2, f3, f4, f5, f6, f7, f8⟩ := HK.out.free
              go_wp2_with fail
              have KE := blkNown [.slice none 0 0, .int .i64 0, .int .i64 0, .int .i64 0, .int .i64 0, .int .i64 0, .int .i64 0, .int .i64 0, .int .i64 0] _ _ 0 HK.out
              have BE := belN (g := w.heap.size) (Nat.le_refl _) [.slice none 0 0, .int .i64 0, .int .i64 0, .int .i64 0, .int .i64 0, .int .i64 0, .int .i64 0, .int .i64 0, .int .i64 0] _ 0 HB.out
              clear c0' c1' c2' c3' c4' c5' c6' c7' c8' f0 f1 f2 f3 f4 f5 f6 f7 f8 
              change bodyPost _ _ _ _ _ (setN w6 w.heap.size 0 [.slice none 0 0, .int .i64 0, .int .i64 0, .int .i64 0, .int .i64 0, .int .i64 0, .int .i64 0, .int .i64 0, .int .i64 0])
              generalize hW7 : setN w6 w.heap.size 0 [.slice none 0 0, .int .i64 0, .int .i64 0, .int .i64 0, .int .i64 0, .int .i64 0, .int .i64 0, .int .i64 0, .int .i64 0] = W7 at KE BE ⊢
              clear hW7
              obtain ⟨h0, h1, h2, h3, h4, h5, h6, h7, h8⟩ := Blk.job (v := .slice none 0 0) (j := zeroJ) KE
              refine bodyPost_ret (v := .tuple #[jobV (.slice none 0 0) zeroJ, .bool false]) (by simp [jobV, results, Tryz.results240, go_sem, h0, h1, h2, h3, h4, h5, h6, h7, h8]) rfl ⟨⟨_, by rw [HR.out], by rw [HR.out]; exact Own.nil_ _ _, by rw [HR.out]; exact zeroJ_in⟩, BE⟩
            obtain ⟨n3, rfl, v3, z3⟩ := row3' O3.out hn2
            rw [hn2]
            have HN2 := Lib.hid hn2
            clear hn2
            obtain ⟨i1, i2, i3⟩ := z1
            obtain ⟨i4, i5⟩ := z2
            obtain ⟨i6, i7, i8⟩ := z3
            obtain ⟨J, hJ⟩ : ∃ J, J = imJ t := ⟨_, rfl⟩
            have HSJ := Lib.hid hJ
            rw [← hJ] at HJI HI
            rw [HJ.out] at hJ
            have e1 : J.fr = at_ L1 0 := by rw [hJ]
            have e2 : J.ct = at_ L1 1 := by rw [hJ]
            have e3 : J.wd = at_ L1 2 := by rw [hJ]
            have e4 : J.dg = at_ L2 0 := by rw [hJ]
            have e5 : J.wy = at_ L2 1 := by rw [hJ]
            have e6 : J.rw = at_ L3 0 := by rw [hJ]
            have e7 : J.ac = at_ L3 1 := by rw [hJ]
            have e8 : J.wi = at_ L3 2 := by rw [hJ]
            have e0 : J.poly = ppL G0 := by rw [hJ]
            rw [← e1] at i1
            rw [← e2] at i2
            rw [← e3] at i3
            rw [← e4] at i4
            rw [← e5] at i5
            rw [← e6] at i6
            rw [← e7] at i7
            rw [← e8] at i8
            replace O0 := Lib.hid (show Own w6 (w.heap.size + 1) (.slice A0 J.poly.length c0) J.poly by rw [e0]; exact O0.out)
            rw [← e0]
            clear hJ HJ e0 e1 e2 e3 e4 e5 e6 e7 e8 v1 v2 v3 O1 O2 O3
            go_wp2_with fail
            go_region_held3 (fun w' => w'.cell? ⟨n1, 0, none⟩ = some (.int .i64 J.fr) ∧ w'.cell? ⟨n1, 1, none⟩ = some (.int .i64 J.ct) ∧ w'.cell? ⟨n1, 2, none⟩ = some (.int .i64 J.wd) ∧ w'.cell? ⟨n2, 0, none⟩ = some (.int .i64 J.dg) ∧ w'.cell? ⟨n2, 1, none⟩ = some (.int .i64 J.wy) ∧ w'.cell? ⟨n3, 0, none⟩ = some (.int .i64 J.rw) ∧ w'.cell? ⟨n3, 1, none⟩ = some (.int .i64 J.ac) ∧ w'.cell? ⟨n3, 2, none⟩ = some (.int .i64 J.wi)) (first | exact ⟨i1, i2, i3, i4, i5, i6, i7, i8⟩ | go_keep) (first | fail)
            rename_i hHeld
            clear hHeld i1 i2 i3 i4 i5 i6 i7 i8
            have bA : Below w6.heap.size w6 (w6.alloc (.cells (jobC (.slice A0 J.poly.length c0) J).toArray 27)).drew := (bel_alloc w6 (.cells (jobC (.slice A0 J.poly.length c0) J).toArray 27)).drew
            have KJ : Blk (w6.alloc (.cells (jobC (.slice A0 J.poly.length c0) J).toArray 27)).drew w6.heap.size 27 (jobC (.slice A0 J.poly.length c0) J) := Blk.new w6 27 (jobC (.slice A0 J.poly.length c0) J)
            replace HK := Lib.hid (HK.out.below bA HK.out.lt)
            replace HB := Lib.hid (bel_trans HB.out bA)
            replace O0 := Lib.hid (O0.out.bel bA)
            have HKJ := Lib.hid KJ
            clear bA KJ
            obtain ⟨a0, a1, a2, a3, a4, a5, a6, a7, a8⟩ := HKJ.out.job
            go_wp2_with fail
            change Calls _ _ #[jobV (.slice A0 J.poly.length c0) J] (w6.alloc (.cells (jobC (.slice A0 J.poly.length c0) J).toArray 27)).drew _
            clear a0 a1 a2 a3 a4 a5 a6 a7 a8
            generalize hW : (w6.alloc (.cells (jobC (.slice A0 J.poly.length c0) J).toArray 27)).drew = wa at HK HB O0 HKJ ⊢
            clear hW
            refine (implJob_any _ J _ O0.out.ints HJI.out).mono ?_
            rintro e w7 ⟨rfl, b7⟩
            replace HK := Lib.hid (HK.out.below b7 HK.out.lt)
            replace HKJ := Lib.hid (HKJ.out.below b7 HKJ.out.lt)
            replace HB := Lib.hid (bel_trans HB.out b7)
            replace O0 := Lib.hid (O0.out.bel b7)
            clear b7
            cases hq : jobOk J
            · have HR := Lib.hid (spR_bad (t := t) fun hh => by have h := HI.out.1 hh; rw [hq] at h; exact Bool.noConfusion h.2.2.2.2.2.2.2.2)
              clear hq
              obtain ⟨c0', c1', c2', c3', c4', c5', c6', c7', c8'⟩ := HK.out.job
              obtain ⟨f0, f1, f2, f3, f4, f5, f6, f7, f8⟩ := HK.out.free
              go_wp2_with fail
              have KE := blkNown [.slice none 0 0, .int .i64 0, .int .i64 0, .int .i64 0, .int .i64 0, .int .i64 0, .int .i64 0, .int .i64 0, .int .i64 0] _ _ 0 HK.out
              have BE := belN (g := w.heap.size) (Nat.le_refl _) [.slice none 0 0, .int .i64 0, .int .i64 0, .int .i64 0, .int .i64 0, .int .i64 0, .int .i64 0, .int .i64 0, .int .i64 0] _ 0 HB.out
              clear c0' c1' c2' c3' c4' c5' c6' c7' c8' f0 f1 f2 f3 f4 f5 f6 f7 f8 
              change bodyPost _ _ _ _ _ (setN w7 w.heap.size 0 [.slice none 0 0, .int .i64 0, .int .i64 0, .int .i64 0, .int .i64 0, .int .i64 0, .int .i64 0, .int .i64 0, .int .i64 0])
              generalize hW7 : setN w7 w.heap.size 0 [.slice none 0 0, .int .i64 0, .int .i64 0, .int .i64 0, .int .i64 0, .int .i64 0, .int .i64 0, .int .i64 0, .int .i64 0] = W7 at KE BE ⊢
              clear hW7
              obtain ⟨h0, h1, h2, h3, h4, h5, h6, h7, h8⟩ := Blk.job (v := .slice none 0 0) (j := zeroJ) KE
              refine bodyPost_ret (v := .tuple #[jobV (.slice none 0 0) zeroJ, .bool false]) (by simp [jobV, results, Tryz.results240, go_sem, h0, h1, h2, h3, h4, h5, h6, h7, h8]) rfl ⟨⟨_, by rw [HR.out], by rw [HR.out]; exact Own.nil_ _ _, by rw [HR.out]; exact zeroJ_in⟩, BE⟩
            · have HR := Lib.hid (show spR t = (J, true) by rw [spR_good (HI.out.2 ⟨HLN.out, by first | rfl | trivial, by first | rfl | trivial, by first | rfl | trivial, by first | rfl | trivial, HN0.out, HN1.out, HN2.out, hq⟩), HSJ.out])
              clear hq
              obtain ⟨c0', c1', c2', c3', c4', c5', c6', c7', c8'⟩ := HK.out.job
              obtain ⟨f0, f1, f2, f3, f4, f5, f6, f7, f8⟩ := HK.out.free
              obtain ⟨a0, a1, a2, a3, a4, a5, a6, a7, a8⟩ := HKJ.out.job
              go_wp2_with fail
              have KE := blkNown [.slice A0 J.poly.length c0, .int .i64 J.fr, .int .i64 J.ct, .int .i64 J.wd, .int .i64 J.dg, .int .i64 J.wy, .int .i64 J.rw, .int .i64 J.ac, .int .i64 J.wi] _ _ 0 HK.out
              have BE := belN (g := w.heap.size) (Nat.le_refl _) [.slice A0 J.poly.length c0, .int .i64 J.fr, .int .i64 J.ct, .int .i64 J.wd, .int .i64 J.dg, .int .i64 J.wy, .int .i64 J.rw, .int .i64 J.ac, .int .i64 J.wi] _ 0 HB.out
              have OE := ownN (g := w.heap.size) (Nat.lt_succ_self _) [.slice A0 J.poly.length c0, .int .i64 J.fr, .int .i64 J.ct, .int .i64 J.wd, .int .i64 J.dg, .int .i64 J.wy, .int .i64 J.rw, .int .i64 J.ac, .int .i64 J.wi] _ 0 O0.out
              clear c0' c1' c2' c3' c4' c5' c6' c7' c8' f0 f1 f2 f3 f4 f5 f6 f7 f8 a0 a1 a2 a3 a4 a5 a6 a7 a8
              change bodyPost _ _ _ _ _ (setN w7 w.heap.size 0 [.slice A0 J.poly.length c0, .int .i64 J.fr, .int .i64 J.ct, .int .i64 J.wd, .int .i64 J.dg, .int .i64 J.wy, .int .i64 J.rw, .int .i64 J.ac, .int .i64 J.wi])
              generalize hW7 : setN w7 w.heap.size 0 [.slice A0 J.poly.length c0, .int .i64 J.fr, .int .i64 J.ct, .int .i64 J.wd, .int .i64 J.dg, .int .i64 J.wy, .int .i64 J.rw, .int .i64 J.ac, .int .i64 J.wi] = W7 at KE BE OE ⊢
              clear hW7
              obtain ⟨h0, h1, h2, h3, h4, h5, h6, h7, h8⟩ := Blk.job (v := .slice A0 J.poly.length c0) (j := J) KE
              refine bodyPost_ret (v := .tuple #[jobV (.slice A0 J.poly.length c0) J, .bool true]) (by simp [jobV, results, Tryz.results240, go_sem, h0, h1, h2, h3, h4, h5, h6, h7, h8]) rfl ⟨⟨_, by rw [HR.out], by rw [HR.out]; exact OE.lower (Nat.le_succ _), by rw [HR.out]; exact HJI.out⟩, BE⟩
  · have hlq : ((ls.length : Int) == 4) = false := by simp; omega
    have hli : ¬ (ls.length : Int) = 4 := by omega
    have HR := Lib.hid (spR_no (t := t) fun h => hlen (by rw [← HLS.out]; exact h.1))
    obtain ⟨c0', c1', c2', c3', c4', c5', c6', c7', c8'⟩ := HK.out.job
    obtain ⟨f0, f1, f2, f3, f4, f5, f6, f7, f8⟩ := HK.out.free
    go_wp2_with fail
    have KE := blkNown [.slice none 0 0, .int .i64 0, .int .i64 0, .int .i64 0, .int .i64 0, .int .i64 0, .int .i64 0, .int .i64 0, .int .i64 0] _ _ 0 HK.out
    have BE := belN (g := w.heap.size) (Nat.le_refl _) [.slice none 0 0, .int .i64 0, .int .i64 0, .int .i64 0, .int .i64 0, .int .i64 0, .int .i64 0, .int .i64 0, .int .i64 0] _ 0 HB.out
    clear c0' c1' c2' c3' c4' c5' c6' c7' c8' f0 f1 f2 f3 f4 f5 f6 f7 f8 
    change bodyPost _ _ _ _ _ (setN w2 w.heap.size 0 [.slice none 0 0, .int .i64 0, .int .i64 0, .int .i64 0, .int .i64 0, .int .i64 0, .int .i64 0, .int .i64 0, .int .i64 0])
    generalize hW7 : setN w2 w.heap.size 0 [.slice none 0 0, .int .i64 0, .int .i64 0, .int .i64 0, .int .i64 0, .int .i64 0, .int .i64 0, .int .i64 0, .int .i64 0] = W7 at KE BE ⊢
    clear hW7
    obtain ⟨h0, h1, h2, h3, h4, h5, h6, h7, h8⟩ := Blk.job (v := .slice none 0 0) (j := zeroJ) KE
    refine bodyPost_ret (v := .tuple #[jobV (.slice none 0 0) zeroJ, .bool false]) (by simp [jobV, results, Tryz.results240, go_sem, h0, h1, h2, h3, h4, h5, h6, h7, h8]) rfl ⟨⟨_, by rw [HR.out], by rw [HR.out]; exact Own.nil_ _ _, by rw [HR.out]; exact zeroJ_in⟩, BE⟩
end Go.Proofs.YtpniljcnknknoaaGreatDoor

/-
  Contracts of Interleave and DealTable.
-/
namespace Go.Proofs.YtpniljcnknknoaaGreatDoor
open Go.RowKit
set_option linter.unusedVariables false
set_option maxRecDepth 100000

set_option maxHeartbeats 400000 in
theorem deInts_any (v u : Value) (l m : List Int) (w : World) (hv : Ints w v l) (hu : Ints w u m) :
    Calls Tryz.prog 47 #[v, u] w fun e w' => e = .returned (.bool (eqL l m)) ∧ Below w.heap.size w w' := by
  obtain ⟨A, c, rfl, hlc, hc, hrd⟩ := hv.open_
  obtain ⟨B, d, rfl, hld, hd, hrd2⟩ := hu.open_
  by_cases he : l.length = m.length
  · have h1 : ((l.length : Int) != (m.length : Int)) = false := by simp [he]
    have HE := Lib.hid he
    clear he
    go_enter Tryz.func47, Tryz.ntmps47
    go_wp2
    go_loopw [5] (fun i wr => ∃ (k : Nat) , k ≤ l.length ∧ i = .int .i64 k ∧ (∀ j, j < k → at_ l j = at_ m j) ∧ ∃ n, wr = w.drewN n)
      (fun i _ => l.length - (intOf i).toNat)
    case atStart => exact ⟨0, Nat.zero_le _, rfl, fun j hj => absurd hj (by omega), 0, rfl⟩
    case round =>
      obtain ⟨k, hk, rfl, hall, nd, rfl⟩ := hrel
      have HA := Lib.hid hall
      clear hall
      by_cases hlt : k < l.length
      · have hltm : k < m.length := by have := HE.out; omega
        obtain ⟨b, o, rfl, hb, hcell⟩ := hrd.ints (by omega)
        obtain ⟨b2, o2, rfl, hb2, hcell2⟩ := hrd2.ints (by omega)
        have hck := hcell k hlt
        have hck2 := hcell2 k hltm
        have p1 : (k : Int) < (l.length : Int) := by omega
        have p2 : (k : Int) < (m.length : Int) := by omega
        have p3 : (0 : Int) ≤ (k : Int) := by omega
        clear hcell hcell2
        go_wp2
        go_quiet (fail)
        go_wp2
        · have h : (at_ l k != at_ m k) = true := by assumption
          go_ret
          exact ⟨ret_bool (eqL_false.2 (fun e => by rw [e] at h; simp at h)).symm, below_drewN (below_drewN (Below.refl _ _) _) _⟩
        · have h : (at_ l k != at_ m k) = false := by assumption
          go_roundw
          case rel => exact ⟨k + 1, by omega, by go_num, toSucc HA.out (by simpa using h), _, rfl⟩
          case measure => simp [intOf]; omega
      · go_wp2
        go_ret
        exact ⟨ret_bool (eqL_true.2 (list_ext HE.out (fun j hj => HA.out j (by omega)))).symm, below_drewN (Below.refl _ _) _⟩
  · have h1 : ((l.length : Int) != (m.length : Int)) = true := by simp; omega
    go_enter Tryz.func47, Tryz.ntmps47
    go_wp2
    go_ret
    exact ⟨ret_bool (eqL_false.2 (fun h => he (by rw [h]))).symm, Below.refl _ _⟩

def interF (a b : List Int) (j : Nat) : Int := if j % 2 = 0 then at_ a (j / 2) else at_ b (j / 2)
def interOk (a b : List Int) : Bool := decide ((a.length = b.length ∨ a.length = b.length + 1) ∧ a.length + b.length ≤ 60)
def inter (a b : List Int) : List Int := if interOk a b = true then gen (interF a b) (a.length + b.length) else []
theorem interOk_true {a b : List Int} : interOk a b = true ↔ (a.length = b.length ∨ a.length = b.length + 1) ∧ a.length + b.length ≤ 60 := by simp [interOk]
theorem inter_yes {a b : List Int} (h : interOk a b = true) : inter a b = gen (interF a b) (a.length + b.length) := by rw [inter, if_pos h]
theorem inter_no {a b : List Int} (h : ¬ interOk a b = true) : inter a b = [] := by rw [inter, if_neg h]
theorem interF_even (a b : List Int) (k : Nat) : interF a b (k + k) = at_ a k := by
  rw [interF, if_pos (by omega)]; congr 1; omega
theorem interF_odd (a b : List Int) (k : Nat) : interF a b (k + k + 1) = at_ b k := by
  rw [interF, if_neg (by omega)]; congr 1; omega
theorem own_step {w : World} {base : Nat} {v : Value} {f : Nat → Int} {n m : Nat} {z : Int} (h : Own w base v (gen f n ++ [z])) (hz : z = f n) (hm : m = n + 1) : Own w base v (gen f m) := by
  subst hm
  rw [gen_succ, ← hz]; exact h

end Go.Proofs.YtpniljcnknknoaaGreatDoor

/-
  Jobs and their texts: DrawFormatJob, deJobs, the plain law (printed by gen_jta.py).
-/
namespace Go.Proofs.YtpniljcnknknoaaGreatDoor
open Go.RowKit
set_option linter.unusedVariables false
set_option linter.unusedSimpArgs false
set_option maxRecDepth 100000
attribute [local go_sem ↓] Go.wp_at_zero Go.wp_at_succ


theorem im_of {j : JobD} {t : ByteArray} (hin : j.In) (hok : jobOk j = true) (h : fmtJ j = t) : ImOk t ∧ imJ t = j := by
  have hpo := job_poly hok
  obtain ⟨s0, s1, s2, s3⟩ := job_sm hin hok
  have hp1 : j.poly ≠ [] := fun e => by have := (polyOk_true.1 hpo).1; rw [e] at this; simp at this
  rw [fmt_yes hok, polyS_yes hpo, ← join_four] at h
  have hc : cutS 59 t = [numsS j.poly, gr1 j, gr2 j, gr3 j] := by
    rw [← h]
    apply cutS_join
    intro p hp
    simp at hp
    rcases hp with rfl | rfl | rfl | rfl <;> exact numsS_no (by decide) (by decide) (by decide) _
  have g0 : grp t 0 = numsS j.poly := by unfold grp; rw [hc]; rfl
  have g1 : grp t 1 = gr1 j := by unfold grp; rw [hc]; rfl
  have g2 : grp t 2 = gr2 j := by unfold grp; rw [hc]; rfl
  have g3 : grp t 3 = gr3 j := by unfold grp; rw [hc]; rfl
  obtain ⟨a0, b0⟩ := numsOk_of hp1 s0
  obtain ⟨a1, b1⟩ := numsOk_of (by simp) s1
  obtain ⟨a2, b2⟩ := numsOk_of (by simp) s2
  obtain ⟨a3, b3⟩ := numsOk_of (by simp) s3
  have l0 : spL (grp t 0) = j.poly := by rw [g0, spL_yes a0, b0]
  have l1 : spL (grp t 1) = [j.fr, j.ct, j.wd] := by rw [g1]; unfold gr1; rw [spL_yes a1, b1]
  have l2 : spL (grp t 2) = [j.dg, j.wy] := by rw [g2]; unfold gr2; rw [spL_yes a2, b2]
  have l3 : spL (grp t 3) = [j.rw, j.ac, j.wi] := by rw [g3]; unfold gr3; rw [spL_yes a3, b3]
  have hi : imJ t = j := by
    unfold imJ ppL
    rw [l0, l1, l2, l3, chkL_yes hpo]
    rfl
  refine ⟨⟨by rw [hc]; rfl, ?_, ?_, ?_, ?_, ?_, ?_, ?_, ?_⟩, hi⟩
  · unfold ppOk
    rw [l0, hpo, g0, a0]
    rfl
  · rw [g1]; exact a1
  · rw [g2]; exact a2
  · rw [g3]; exact a3
  · rw [l1]; rfl
  · rw [l2]; rfl
  · rw [l3]; rfl
  · rw [hi]; exact hok
/-- A valid job is parsed from its text. -/
theorem parse_fmt {j : JobD} (hin : j.In) (hok : jobOk j = true) : spR (fmtJ j) = (j, true) := by
  obtain ⟨h1, h2⟩ := im_of hin hok rfl
  rw [spR_good h1, h2]
/-- A text that is parsed is that of the parsed job. -/
theorem fmt_parse {t : ByteArray} {J : JobD} (h : spR t = (J, true)) : fmtJ J = t := by
  unfold spR at h
  split at h
  · rename_i hc
    rw [← (Prod.mk.inj h).1]
    exact hc.2
  · exact absurd (Prod.mk.inj h).2 (by simp)
theorem fmt_ne {j : JobD} (hin : j.In) (hok : jobOk j = true) : fmtJ j ≠ ⟨#[]⟩ := by
  intro e
  have h := (im_of hin hok rfl).1.1
  rw [e] at h
  exact absurd h (by decide)
theorem fmt_size {j : JobD} (hv : Wf j.poly) (hin : j.In) : (fmtJ j).size ≤ 400 := by
  cases hq : jobOk j
  · rw [fmt_no hq]; decide
  · obtain ⟨h1, h2, h3, h4⟩ := fmt_sizes hv hin hq
    rw [fmt_yes hq]
    simp only [ByteArray.size_append]
    have : semi.size = 1 := rfl
    omega
end Go.Proofs.YtpniljcnknknoaaGreatDoor
