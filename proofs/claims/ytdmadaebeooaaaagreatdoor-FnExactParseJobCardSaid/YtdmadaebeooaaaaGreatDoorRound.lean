/-
  Contracts of RoundTable (both).
-/
import Derived.Test.YtdmadaebeooaaaaGreatDoorJob
namespace Go.Proofs.YtdmadaebeooaaaaGreatDoor
open Go.RowKit
set_option linter.unusedVariables false
set_option linter.unusedSimpArgs false
set_option maxRecDepth 100000
attribute [local go_sem ↓] Go.wp_at_zero Go.wp_at_succ

/-- A number without its last digits, rounded down; and rounded in a way. -/
def lowI (n : Int) (d : Nat) : Int := (n - (md n (ten d) : Int)).tdiv (ten d)
def roundI (n : Int) (d : Nat) (y : Int) : Int :=
  if y = 0 ∨ 2 * md n (ten d) < ten d then lowI n d else if ten d < 2 * md n (ten d) then lowI n d + 1
  else if y = 1 then (if n < 0 then lowI n d else lowI n d + 1) else lowI n d + (md (lowI n d) 2 : Int)
theorem low_bd {n : Int} (h : -1000000000 ≤ n ∧ n ≤ 1000000000) (d : Nat) : -1000000000 ≤ lowI n d ∧ lowI n d ≤ 1000000000 := by
  have hT := ten_pos d
  have hc := md_cast n hT
  have hm := Int.emod_add_mul_ediv n (ten d)
  have he : n - (md n (ten d) : Int) = (ten d : Int) * (n / (ten d : Int)) := by omega
  unfold lowI
  rw [he, Int.mul_tdiv_cancel_left _ (by omega)]
  constructor
  · exact Int.le_ediv_of_mul_le (by omega) (by
      have : (-1000000000 : Int) * (ten d : Int) ≤ -1000000000 * 1 := Int.mul_le_mul_of_nonpos_left (by omega) (by omega)
      omega)
  · exact Int.le_of_lt_add_one (Int.ediv_lt_of_lt_mul (by omega) (by
      have : (1000000000 + 1 : Int) * 1 ≤ (1000000000 + 1) * (ten d : Int) := Int.mul_le_mul_of_nonneg_left (by omega) (by omega)
      omega))
theorem md2 (n : Int) : md n 2 = 0 ∨ md n 2 = 1 := by have := md_lt n (show 1 ≤ 2 by omega); omega
theorem round_bd {n : Int} (h : -1000000000 ≤ n ∧ n ≤ 1000000000) (d : Nat) (y : Int) : -1000000000 ≤ roundI n d y ∧ roundI n d y ≤ 1000000001 := by
  have := low_bd h d
  have := md2 (lowI n d)
  unfold roundI
  split
  · omega
  · split
    · omega
    · split
      · split <;> omega
      · omega

set_option maxHeartbeats 1000000 in
theorem l4Rest_any (n : Int) (M : Nat) (w : World) (hM : 1 ≤ M ∧ M ≤ 1000000000000) :
    Calls Tryz.prog 154 #[.int .i64 n, .int .i64 M] w fun e w' => e = .returned (.int .i64 (md n M)) ∧ w = w' := by
  have hlt := md_lt n hM.1
  obtain ⟨e1, e2⟩ := tmod_back hlt
  have e3 : (((md n M : Nat) : Int) - (M : Int) + (M : Int)).tmod M = md n M := by rw [Int.sub_add_cancel]; exact e2
  have hT0 : ((M : Nat) : Int) ≠ 0 := by omega
  rcases tmod_md n hM.1 with ht | ⟨ht, hneg⟩
  all_goals
    go_enter Tryz.func154, Tryz.ntmps154
    go_wp2
    go_ret
    first
      | exact ⟨rfl, rfl⟩
      | exact ⟨ret_int (by first | exact e1 | exact e3 | (rw [Int.emod_eq_of_lt (by omega) (by omega)]; omega) | (rw [Int.add_emod_right]; exact Int.emod_eq_of_lt (by omega) (by omega))), rfl⟩

theorem low_cases {n : Int} {d : Nat} {y : Int} (hy : 0 ≤ y ∧ y ≤ 2) :
    ((y = 0 ∨ (2 * (md n (ten d) : Int) < (ten d : Int))) ∧ roundI n d y = lowI n d) ∨
    (y ≠ 0 ∧ (ten d : Int) < 2 * (md n (ten d) : Int) ∧ roundI n d y = lowI n d + 1) ∨
    (y = 1 ∧ 2 * (md n (ten d) : Int) = (ten d : Int) ∧ n < 0 ∧ roundI n d y = lowI n d) ∨
    (y = 1 ∧ 2 * (md n (ten d) : Int) = (ten d : Int) ∧ 0 < n ∧ roundI n d y = lowI n d + 1) ∨
    (y = 2 ∧ 2 * (md n (ten d) : Int) = (ten d : Int) ∧ roundI n d y = lowI n d + (md (lowI n d) 2 : Int)) := by
  by_cases h1 : y = 0 ∨ 2 * md n (ten d) < ten d
  · exact .inl ⟨h1.imp id (fun h => by omega), by simp only [roundI, if_pos h1]⟩
  · by_cases h2 : ten d < 2 * md n (ten d)
    · exact .inr (.inl ⟨fun e => h1 (.inl e), by omega, by simp only [roundI, if_neg h1, if_pos h2]⟩)
    · have he : 2 * (md n (ten d) : Int) = (ten d : Int) := by omega
      by_cases h3 : y = 1
      · by_cases h4 : n < 0
        · exact .inr (.inr (.inl ⟨h3, he, h4, by simp only [roundI, if_neg h1, if_neg h2, if_pos h3, if_pos h4]⟩))
        · refine .inr (.inr (.inr (.inl ⟨h3, he, ?_, by simp only [roundI, if_neg h1, if_neg h2, if_pos h3, if_neg h4]⟩)))
          have h0 : n ≠ 0 := by
            intro e
            subst e
            have hz : md 0 (ten d) = 0 := by simp [md]
            have := ten_pos d
            omega
          omega
      · exact .inr (.inr (.inr (.inr ⟨by omega, he, by simp only [roundI, if_neg h1, if_neg h2, if_neg h3]⟩)))

theorem l4Rest_two (n : Int) (w : World) : Calls Tryz.prog 154 #[.int .i64 n, .int .i64 2] w fun e w' => e = .returned (.int .i64 (md n 2)) ∧ w = w' := l4Rest_any n 2 w (by omega)
set_option maxHeartbeats 4000000 in
theorem l6Round_any (n : Int) (d : Nat) (y : Int) (w : World) (hn : -1000000000 ≤ n ∧ n ≤ 1000000000) (hd : d ≤ 6) (hy : 0 ≤ y ∧ y ≤ 2) :
    Calls Tryz.prog 131 #[.int .i64 n, .int .i64 d, .int .i64 y] w fun e w' => e = .returned (.int .i64 (roundI n d y)) ∧ w = w' := by
  have hT := ten_le (show d ≤ 12 by omega)
  have hT1 := ten_pos d
  have hlt := md_lt n hT1
  have hl := low_bd hn d
  have hT0 : ¬ ((ten d : Nat) : Int) = 0 := by omega
  have h2 := md2 (lowI n d)
  have hdv : (n - (md n (ten d) : Int)).tdiv (ten d) = lowI n d := rfl
  have cs := low_cases (n := n) (d := d) hy
  rcases cs with ⟨h, hr⟩ | ⟨hy0, h, hr⟩ | ⟨rfl, h, hn0, hr⟩ | ⟨rfl, h, hn0, hr⟩ | ⟨rfl, h, hr⟩
  · have HR := Lib.hid hr
    clear hr
    by_cases hy0 : y = 0
    · subst hy0
      go_enter Tryz.func131, Tryz.ntmps131
      go_wp2_with (first | (go_at_call 147; refine (l1Ten_any d _ (by omega)).mono ?_; rintro e w' ⟨rfl, rfl⟩) | (go_at_call 154; first | ((with_reducible refine (l4Rest_any n (ten d) _ ⟨hT1, hT⟩).mono ?_); rintro e w' ⟨rfl, rfl⟩) | (refine (l4Rest_two (lowI n d) _).mono ?_; rintro e w' ⟨rfl, rfl⟩)))
      go_ret
      exact ⟨ret_int (by rw [HR.out]; try (first | rfl | (rw [H2.out]; rfl) | (rw [IntWalk.wrap64_in _ (by have := H2.out; omega), H2.out]))), rfl⟩
    · have hyb : (y == 0) = false := by simp [hy0]
      have h' : 2 * (md n (ten d) : Int) < (ten d : Int) := by omega
      clear h
      go_enter Tryz.func131, Tryz.ntmps131
      go_wp2_with (first | (go_at_call 147; refine (l1Ten_any d _ (by omega)).mono ?_; rintro e w' ⟨rfl, rfl⟩) | (go_at_call 154; first | ((with_reducible refine (l4Rest_any n (ten d) _ ⟨hT1, hT⟩).mono ?_); rintro e w' ⟨rfl, rfl⟩) | (refine (l4Rest_two (lowI n d) _).mono ?_; rintro e w' ⟨rfl, rfl⟩)))
      go_ret
      exact ⟨ret_int (by rw [HR.out]; try (first | rfl | (rw [H2.out]; rfl) | (rw [IntWalk.wrap64_in _ (by have := H2.out; omega), H2.out]))), rfl⟩
  · have HR := Lib.hid hr
    clear hr
    have hyb : (y == 0) = false := by simp [hy0]
    have hnl : ¬ 2 * (md n (ten d) : Int) < (ten d : Int) := by omega
    go_enter Tryz.func131, Tryz.ntmps131
    go_wp2_with (first | (go_at_call 147; refine (l1Ten_any d _ (by omega)).mono ?_; rintro e w' ⟨rfl, rfl⟩) | (go_at_call 154; first | ((with_reducible refine (l4Rest_any n (ten d) _ ⟨hT1, hT⟩).mono ?_); rintro e w' ⟨rfl, rfl⟩) | (refine (l4Rest_two (lowI n d) _).mono ?_; rintro e w' ⟨rfl, rfl⟩)))
    go_ret
    exact ⟨ret_int (by rw [HR.out]; try (first | rfl | (rw [H2.out]; rfl) | (rw [IntWalk.wrap64_in _ (by have := H2.out; omega), H2.out]))), rfl⟩
  · have HR := Lib.hid hr
    clear hr
    have hnl : ¬ 2 * (md n (ten d) : Int) < (ten d : Int) := by omega
    have hng : ¬ (ten d : Int) < 2 * (md n (ten d) : Int) := by omega
    have hn1 : ¬ 0 < n := by omega
    clear h
    go_enter Tryz.func131, Tryz.ntmps131
    go_wp2_with (first | (go_at_call 147; refine (l1Ten_any d _ (by omega)).mono ?_; rintro e w' ⟨rfl, rfl⟩) | (go_at_call 154; first | ((with_reducible refine (l4Rest_any n (ten d) _ ⟨hT1, hT⟩).mono ?_); rintro e w' ⟨rfl, rfl⟩) | (refine (l4Rest_two (lowI n d) _).mono ?_; rintro e w' ⟨rfl, rfl⟩)))
    go_ret
    exact ⟨ret_int (by rw [HR.out]; try (first | rfl | (rw [H2.out]; rfl) | (rw [IntWalk.wrap64_in _ (by have := H2.out; omega), H2.out]))), rfl⟩
  · have HR := Lib.hid hr
    clear hr
    have hnl : ¬ 2 * (md n (ten d) : Int) < (ten d : Int) := by omega
    have hng : ¬ (ten d : Int) < 2 * (md n (ten d) : Int) := by omega
    have hn1 : ¬ n < 0 := by omega
    clear h
    go_enter Tryz.func131, Tryz.ntmps131
    go_wp2_with (first | (go_at_call 147; refine (l1Ten_any d _ (by omega)).mono ?_; rintro e w' ⟨rfl, rfl⟩) | (go_at_call 154; first | ((with_reducible refine (l4Rest_any n (ten d) _ ⟨hT1, hT⟩).mono ?_); rintro e w' ⟨rfl, rfl⟩) | (refine (l4Rest_two (lowI n d) _).mono ?_; rintro e w' ⟨rfl, rfl⟩)))
    go_ret
    exact ⟨ret_int (by rw [HR.out]; try (first | rfl | (rw [H2.out]; rfl) | (rw [IntWalk.wrap64_in _ (by have := H2.out; omega), H2.out]))), rfl⟩
  · have HR := Lib.hid hr
    clear hr
    have hnl : ¬ 2 * (md n (ten d) : Int) < (ten d : Int) := by omega
    have hng : ¬ (ten d : Int) < 2 * (md n (ten d) : Int) := by omega
    clear h
    rcases h2 with h2 | h2
    all_goals
      have H2 := Lib.hid h2
      rw [h2] at HR
      first
        | have hqb : (((md (lowI n d) 2 : Nat) : Int) == 0) = true := by rw [h2]; rfl
        | have hqb : (((md (lowI n d) 2 : Nat) : Int) == 0) = false := by rw [h2]; rfl
      clear h2
      go_enter Tryz.func131, Tryz.ntmps131
      go_wp2_with (first | (go_at_call 147; refine (l1Ten_any d _ (by omega)).mono ?_; rintro e w' ⟨rfl, rfl⟩) | (go_at_call 154; first | ((with_reducible refine (l4Rest_any n (ten d) _ ⟨hT1, hT⟩).mono ?_); rintro e w' ⟨rfl, rfl⟩) | (refine (l4Rest_two (lowI n d) _).mono ?_; rintro e w' ⟨rfl, rfl⟩)))
      go_ret
      exact ⟨ret_int (by rw [HR.out]; try (first | rfl | (rw [H2.out]; rfl) | (rw [IntWalk.wrap64_in _ (by have := H2.out; omega), H2.out]))), rfl⟩

theorem modulo_two (n : Int) (w : World) : Calls Tryz.prog 123 #[.int .i64 n, .int .i64 2] w fun e w' => e = .returned (.int .i64 (md n 2)) ∧ w = w' := modulo_any n 2 w (by omega)
set_option maxHeartbeats 4000000 in
theorem roundEntry_any (n : Int) (d : Nat) (y : Int) (w : World) (hn : -1000000000 ≤ n ∧ n ≤ 1000000000) (hd : d ≤ 6) (hy : 0 ≤ y ∧ y ≤ 2) :
    Calls Tryz.prog 96 #[.int .i64 n, .int .i64 d, .int .i64 y] w fun e w' => e = .returned (.tuple #[.int .i64 (roundI n d y), .bool true]) ∧ w = w' := by
  have hT := ten_le (show d ≤ 12 by omega)
  have hT1 := ten_pos d
  have hlt := md_lt n hT1
  have hl := low_bd hn d
  have hT0 : ¬ ((ten d : Nat) : Int) = 0 := by omega
  have h2 := md2 (lowI n d)
  have hdv : (n - (md n (ten d) : Int)).tdiv (ten d) = lowI n d := rfl
  have cs := low_cases (n := n) (d := d) hy
  have hw1 : inB n (-1000000000) 1000000000 = true := inB_true.2 hn
  have hw2 : wayOk d y = true := by simp [wayOk, inB]; omega
  rcases cs with ⟨h, hr⟩ | ⟨hy0, h, hr⟩ | ⟨rfl, h, hn0, hr⟩ | ⟨rfl, h, hn0, hr⟩ | ⟨rfl, h, hr⟩
  · have HR := Lib.hid hr
    clear hr
    by_cases hy0 : y = 0
    · subst hy0
      go_enter Tryz.func96, Tryz.ntmps96
      go_wp2_with (first | (go_at_call 94; refine (within_any _ _ _ (by omega) (by omega)).mono ?_; rintro e w' ⟨rfl, rfl⟩) | (go_at_call 51; refine (rounding_any _ _ _).mono ?_; rintro e w' ⟨rfl, rfl⟩) | (go_at_call 121; refine (power_any d _ (by omega)).mono ?_; rintro e w' ⟨rfl, rfl⟩) | (go_at_call 123; first | ((with_reducible refine (modulo_any n (ten d) _ ⟨hT1, hT⟩).mono ?_); rintro e w' ⟨rfl, rfl⟩) | (refine (modulo_two (lowI n d) _).mono ?_; rintro e w' ⟨rfl, rfl⟩)))
      go_ret2
      exact ⟨by rw [HR.out]; first | rfl | (rw [Int.natCast_zero, Int.add_zero]; rfl), rfl⟩
    · have hyb : (y == 0) = false := by simp [hy0]
      have h' : 2 * (md n (ten d) : Int) < (ten d : Int) := by omega
      clear h
      go_enter Tryz.func96, Tryz.ntmps96
      go_wp2_with (first | (go_at_call 94; refine (within_any _ _ _ (by omega) (by omega)).mono ?_; rintro e w' ⟨rfl, rfl⟩) | (go_at_call 51; refine (rounding_any _ _ _).mono ?_; rintro e w' ⟨rfl, rfl⟩) | (go_at_call 121; refine (power_any d _ (by omega)).mono ?_; rintro e w' ⟨rfl, rfl⟩) | (go_at_call 123; first | ((with_reducible refine (modulo_any n (ten d) _ ⟨hT1, hT⟩).mono ?_); rintro e w' ⟨rfl, rfl⟩) | (refine (modulo_two (lowI n d) _).mono ?_; rintro e w' ⟨rfl, rfl⟩)))
      go_ret2
      exact ⟨by rw [HR.out]; first | rfl | (rw [Int.natCast_zero, Int.add_zero]; rfl), rfl⟩
  · have HR := Lib.hid hr
    clear hr
    have hyb : (y == 0) = false := by simp [hy0]
    have hnl : ¬ 2 * (md n (ten d) : Int) < (ten d : Int) := by omega
    go_enter Tryz.func96, Tryz.ntmps96
    go_wp2_with (first | (go_at_call 94; refine (within_any _ _ _ (by omega) (by omega)).mono ?_; rintro e w' ⟨rfl, rfl⟩) | (go_at_call 51; refine (rounding_any _ _ _).mono ?_; rintro e w' ⟨rfl, rfl⟩) | (go_at_call 121; refine (power_any d _ (by omega)).mono ?_; rintro e w' ⟨rfl, rfl⟩) | (go_at_call 123; first | ((with_reducible refine (modulo_any n (ten d) _ ⟨hT1, hT⟩).mono ?_); rintro e w' ⟨rfl, rfl⟩) | (refine (modulo_two (lowI n d) _).mono ?_; rintro e w' ⟨rfl, rfl⟩)))
    go_ret2
    exact ⟨by rw [HR.out]; first | rfl | (rw [Int.natCast_zero, Int.add_zero]; rfl), rfl⟩
  · have HR := Lib.hid hr
    clear hr
    have hnl : ¬ 2 * (md n (ten d) : Int) < (ten d : Int) := by omega
    have hng : ¬ (ten d : Int) < 2 * (md n (ten d) : Int) := by omega
    have hn1 : ¬ 0 < n := by omega
    clear h
    go_enter Tryz.func96, Tryz.ntmps96
    go_wp2_with (first | (go_at_call 94; refine (within_any _ _ _ (by omega) (by omega)).mono ?_; rintro e w' ⟨rfl, rfl⟩) | (go_at_call 51; refine (rounding_any _ _ _).mono ?_; rintro e w' ⟨rfl, rfl⟩) | (go_at_call 121; refine (power_any d _ (by omega)).mono ?_; rintro e w' ⟨rfl, rfl⟩) | (go_at_call 123; first | ((with_reducible refine (modulo_any n (ten d) _ ⟨hT1, hT⟩).mono ?_); rintro e w' ⟨rfl, rfl⟩) | (refine (modulo_two (lowI n d) _).mono ?_; rintro e w' ⟨rfl, rfl⟩)))
    go_ret2
    exact ⟨by rw [HR.out]; first | rfl | (rw [Int.natCast_zero, Int.add_zero]; rfl), rfl⟩
  · have HR := Lib.hid hr
    clear hr
    have hnl : ¬ 2 * (md n (ten d) : Int) < (ten d : Int) := by omega
    have hng : ¬ (ten d : Int) < 2 * (md n (ten d) : Int) := by omega
    have hn1 : ¬ n < 0 := by omega
    clear h
    go_enter Tryz.func96, Tryz.ntmps96
    go_wp2_with (first | (go_at_call 94; refine (within_any _ _ _ (by omega) (by omega)).mono ?_; rintro e w' ⟨rfl, rfl⟩) | (go_at_call 51; refine (rounding_any _ _ _).mono ?_; rintro e w' ⟨rfl, rfl⟩) | (go_at_call 121; refine (power_any d _ (by omega)).mono ?_; rintro e w' ⟨rfl, rfl⟩) | (go_at_call 123; first | ((with_reducible refine (modulo_any n (ten d) _ ⟨hT1, hT⟩).mono ?_); rintro e w' ⟨rfl, rfl⟩) | (refine (modulo_two (lowI n d) _).mono ?_; rintro e w' ⟨rfl, rfl⟩)))
    go_ret2
    exact ⟨by rw [HR.out]; first | rfl | (rw [Int.natCast_zero, Int.add_zero]; rfl), rfl⟩
  · have HR := Lib.hid hr
    clear hr
    have hnl : ¬ 2 * (md n (ten d) : Int) < (ten d : Int) := by omega
    have hng : ¬ (ten d : Int) < 2 * (md n (ten d) : Int) := by omega
    clear h
    rcases h2 with h2 | h2
    all_goals
      have H2 := Lib.hid h2
      rw [h2] at HR
      first
        | have hqb : (((md (lowI n d) 2 : Nat) : Int) == 0) = true := by rw [h2]; rfl
        | have hqb : (((md (lowI n d) 2 : Nat) : Int) == 0) = false := by rw [h2]; rfl
      clear h2
      go_enter Tryz.func96, Tryz.ntmps96
      go_wp2_with (first | (go_at_call 94; refine (within_any _ _ _ (by omega) (by omega)).mono ?_; rintro e w' ⟨rfl, rfl⟩) | (go_at_call 51; refine (rounding_any _ _ _).mono ?_; rintro e w' ⟨rfl, rfl⟩) | (go_at_call 121; refine (power_any d _ (by omega)).mono ?_; rintro e w' ⟨rfl, rfl⟩) | (go_at_call 123; first | ((with_reducible refine (modulo_any n (ten d) _ ⟨hT1, hT⟩).mono ?_); rintro e w' ⟨rfl, rfl⟩) | (refine (modulo_two (lowI n d) _).mono ?_; rintro e w' ⟨rfl, rfl⟩)))
      go_ret2
      exact ⟨by rw [HR.out]; first | rfl | (rw [Int.natCast_zero, Int.add_zero]; rfl), rfl⟩

def rtOk (l : List Int) (d y : Int) : Bool := tableOk l && wayOk d y
def rtL (l : List Int) (d y : Int) : List Int := if rtOk l d y = true then gen (fun i => roundI (at_ l i) d.toNat y) l.length else []
theorem rt_no {l : List Int} {d y : Int} (h : tableOk l = false ∨ wayOk d y = false) : rtOk l d y = false ∧ rtL l d y = [] := by
  have : rtOk l d y = false := by rcases h with h | h <;> simp [rtOk, h]
  exact ⟨this, by simp [rtL, this]⟩
theorem rt_yes {l : List Int} {d : Nat} {y : Int} (h1 : tableOk l = true) (h2 : wayOk d y = true) : rtOk l d y = true ∧ rtL l d y = gen (fun i => roundI (at_ l i) d y) l.length := by
  have : rtOk l d y = true := by simp [rtOk, h1, h2]
  exact ⟨this, by simp [rtL, this]⟩
theorem wayOk_true {d y : Int} : wayOk d y = true ↔ (0 ≤ d ∧ d ≤ 6) ∧ 0 ≤ y ∧ y ≤ 2 := by simp [wayOk, inB, and_assoc]
def rtTo (l : List Int) (d : Nat) (y : Int) (k : Nat) : List Int := gen (fun i => roundI (at_ l i) d y) k
theorem rtTo_length (l : List Int) (d : Nat) (y : Int) (k : Nat) : (rtTo l d y k).length = k := gen_length _ _
theorem rtTo_succ (l : List Int) (d : Nat) (y : Int) (k : Nat) : rtTo l d y (k + 1) = rtTo l d y k ++ [roundI (at_ l k) d y] := gen_succ _ _

set_option maxHeartbeats 2000000 in
theorem implRT_any (v : Value) (l : List Int) (d y : Int) (w : World) (hv : Ints w v l) :
    Calls Tryz.prog 61 #[v, .int .i64 d, .int .i64 y] w (IntsQ w (rtL l d y) (rtOk l d y)) := by
  have HV := Lib.hid hv
  obtain ⟨A, c, rfl, hlc, hc, hrd⟩ := hv.open_
  have HR := Lib.hid hrd
  clear hv hrd
  cases ht : tableOk l
  · have HN := Lib.hid (rt_no (d := d) (y := y) (.inl ht))
    go_enter Tryz.func61, Tryz.ntmps61
    go_wp2_with (first | (go_at_call 67; refine (implTable_any _ _ _ HV.out).mono ?_; rintro e w' ⟨rfl, rfl⟩) | (go_at_call 51; refine (rounding_any _ _ _).mono ?_; rintro e w' ⟨rfl, rfl⟩))
    go_ret2
    exact ⟨_, by rw [HN.out.1]; rfl, by rw [HN.out.2]; exact Own.nil_ _ _, Below.refl _ _⟩
  · cases hw : wayOk d y
    · have HN := Lib.hid (rt_no (l := l) (.inr hw))
      go_enter Tryz.func61, Tryz.ntmps61
      go_wp2_with (first | (go_at_call 67; refine (implTable_any _ _ _ HV.out).mono ?_; rintro e w' ⟨rfl, rfl⟩) | (go_at_call 51; refine (rounding_any _ _ _).mono ?_; rintro e w' ⟨rfl, rfl⟩))
      go_ret2
      exact ⟨_, by rw [HN.out.1]; rfl, by rw [HN.out.2]; exact Own.nil_ _ _, Below.refl _ _⟩
    · obtain ⟨hd, hy⟩ := wayOk_true.1 hw
      obtain ⟨d, rfl⟩ : ∃ k : Nat, d = k := ⟨d.toNat, by omega⟩
      obtain ⟨l1, l60, hb⟩ := tableOk_true ht
      have HN := Lib.hid (rt_yes ht hw)
      have HB := Lib.hid hb
      have hmk := fun W => Tryz.mkInts l.length (by omega) W
      clear hb
      go_enter Tryz.func61, Tryz.ntmps61
      go_wp2_with (first | (go_at_call 67; refine (implTable_any _ _ _ HV.out).mono ?_; rintro e w' ⟨rfl, rfl⟩) | (go_at_call 51; refine (rounding_any _ _ _).mono ?_; rintro e w' ⟨rfl, rfl⟩))
      clear ht hw
      go_loopw [25] (fun i wr => ∃ (k : Nat) (cs : List Value), k ≤ l.length ∧ i = .int .i64 k ∧ Blk wr w.heap.size 3 cs ∧ cs.length = l.length ∧ (∀ j, j < k → cs[j]? = some (.int .i64 (roundI (at_ l j) d y))) ∧ Below w.heap.size w wr)
        (fun i _ => l.length - (intOf i).toNat)
      case atStart => exact ⟨0, _, Nat.zero_le _, rfl, Blk.new _ _ _, reps_length _ _, fun j hj => absurd hj (by omega), (Below.refl _ _).alloc (Nat.le_refl _) _⟩
      case round =>
        obtain ⟨k, cs, hk, rfl, hblk, hcl, hcs, hbel⟩ := hrel
        have HO := Lib.hid (And.intro hcl (And.intro hcs hbel))
        have hz := hbel.size
        clear hcl hcs
        by_cases hlt : k < l.length
        · obtain ⟨b, o, rfl, hbb, hcell⟩ := HR.out.ints (by omega)
          have ck : wr.cell? ⟨b, o + k, none⟩ = some (.int .i64 (at_ l k)) := (hbel.cell (by exact hbb)).trans (hcell k hlt)
          have c3 : wr.cell? ⟨w.heap.size, k, none⟩ = some (cs[k]'(by rw [HO.out.1]; exact hlt)) := by rw [hblk.cell]; exact List.getElem?_eq_getElem _
          have hfw := hblk.frozen k
          have hbk := HB.out k hlt
          clear hbel hcell
          go_wp2_with fail
          refine (roundEntry_any (at_ l k) d y _ hbk (by omega) hy).mono ?_
          rintro e w3 ⟨rfl, rfl⟩
          go_wp2
          go_roundw
          case rel => exact ⟨k + 1, _, by omega, by go_num, hblk.set_ k _, by rw [List.length_set]; exact HO.out.1, fun j hj => by
            by_cases e : j = k
            · subst e; rw [List.getElem?_set_self (by rw [HO.out.1]; exact hlt)]
            · rw [List.getElem?_set_ne (by omega)]; exact HO.out.2.1 j (by omega), HO.out.2.2.setCell (Nat.le_refl _) _⟩
          case measure => simp [intOf]; omega
        · have hnl : k = l.length := by omega
          subst hnl
          have OW := Lib.hid (own_gen (f := fun j => roundI (at_ l j) d y) (Nat.le_refl w.heap.size) hblk HO.out.1 (by omega) HO.out.2.1 (fun j hj => by have := round_bd (HB.out j hj) d y; omega))
          clear hbel
          go_wp2
          go_ret2
          exact ⟨_, by rw [HN.out.1]; rfl, by rw [HN.out.2]; exact OW.out, HO.out.2.2⟩

set_option maxHeartbeats 2000000 in
theorem specRT_any (v : Value) (l : List Int) (d y : Int) (w : World) (hv : Ints w v l) :
    Calls Tryz.prog 98 #[v, .int .i64 d, .int .i64 y] w (IntsQ w (rtL l d y) (rtOk l d y)) := by
  have HV := Lib.hid hv
  have OE := Lib.hid (Own.empty w w.heap.size (Nat.le_refl _))
  have HVE := Lib.hid (hv.bel (bel_alloc w (.cells #[] 3)))
  obtain ⟨A, c, rfl, hlc, hc, hrd⟩ := hv.open_
  have HR := Lib.hid hrd
  clear hv hrd
  cases ht : tableOk l
  · have HN := Lib.hid (rt_no (d := d) (y := y) (.inl ht))
    go_enter Tryz.func98, Tryz.ntmps98
    go_wp2_with (first | (go_at_call 64; refine (specTable_any _ _ _ HVE.out).mono ?_; rintro e w' ⟨rfl, rfl⟩) | (go_at_call 83; refine (l6Way_any _ _ _).mono ?_; rintro e w' ⟨rfl, rfl⟩))
    go_ret2
    exact ⟨_, by rw [HN.out.1]; rfl, by rw [HN.out.2]; exact OE.out, bel_alloc _ _⟩
  · cases hw : wayOk d y
    · have HN := Lib.hid (rt_no (l := l) (.inr hw))
      go_enter Tryz.func98, Tryz.ntmps98
      go_wp2_with (first | (go_at_call 64; refine (specTable_any _ _ _ HVE.out).mono ?_; rintro e w' ⟨rfl, rfl⟩) | (go_at_call 83; refine (l6Way_any _ _ _).mono ?_; rintro e w' ⟨rfl, rfl⟩))
      go_ret2
      exact ⟨_, by rw [HN.out.1]; rfl, by rw [HN.out.2]; exact OE.out, bel_alloc _ _⟩
    · obtain ⟨hd, hy⟩ := wayOk_true.1 hw
      obtain ⟨d, rfl⟩ : ∃ k : Nat, d = k := ⟨d.toNat, by omega⟩
      obtain ⟨l1, l60, hb⟩ := tableOk_true ht
      have HN := Lib.hid (rt_yes ht hw)
      have HB := Lib.hid hb
      clear hb
      go_enter Tryz.func98, Tryz.ntmps98
      go_wp2_with (first | (go_at_call 64; refine (specTable_any _ _ _ HVE.out).mono ?_; rintro e w' ⟨rfl, rfl⟩) | (go_at_call 83; refine (l6Way_any _ _ _).mono ?_; rintro e w' ⟨rfl, rfl⟩))
      clear ht hw
      go_loopw [8, 9] (fun r i wr => ∃ k : Nat, k ≤ l.length ∧ i = .int .i64 k ∧ Own wr w.heap.size r (rtTo l d y k) ∧ Below w.heap.size w wr) (fun _ i _ => l.length - (intOf i).toNat)
      case atStart => exact ⟨0, Nat.zero_le _, rfl, OE.out, bel_alloc _ _⟩
      case round =>
        obtain ⟨k, hk, rfl, ho, hbel⟩ := hrel
        have HO := Lib.hid (And.intro ho hbel)
        have hz := hbel.size
        clear ho
        by_cases hlt : k < l.length
        · obtain ⟨b, o, rfl, hbb, hcell⟩ := HR.out.ints (by omega)
          have ck : wr.cell? ⟨b, o + k, none⟩ = some (.int .i64 (at_ l k)) := (hbel.cell (by exact hbb)).trans (hcell k hlt)
          have hbk := HB.out k hlt
          have hrb := round_bd hbk d y
          clear hbel hcell
          go_wp2_with fail
          refine (l6Round_any (at_ l k) d y _ hbk (by omega) hy).mono ?_
          rintro e w3 ⟨rfl, rfl⟩
          go_wp2_with (at_builtin; go_must (refine app_int rfl (.tmp 27) (.tmp 35) (by rfl) w.heap.size _ (rtTo l d y k) (by rfl) (by exact HO.out.1.bel (bel_alloc _ _)) _ _ (roundI (at_ l k) d y) (by rfl) (by exact new_cell _ _ _) (by omega) (by rw [rtTo_length]; omega) (by simp; omega) ?_; intro v1 w5 ho hg _))
          go_roundw
          case rel => exact ⟨k + 1, by omega, by go_num, by rw [rtTo_succ]; exact ho, app_bel (bel_trans HO.out.2 (bel_alloc _ _)) (HO.out.1.bel (bel_alloc _ _)) hg⟩
          case measure => simp [intOf]; omega
        · have hnl : k = l.length := by omega
          subst hnl
          clear hbel
          go_wp2
          go_ret2
          exact ⟨_, by rw [HN.out.1]; rfl, by rw [HN.out.2]; exact HO.out.1, HO.out.2⟩

end Go.Proofs.YtdmadaebeooaaaaGreatDoor
