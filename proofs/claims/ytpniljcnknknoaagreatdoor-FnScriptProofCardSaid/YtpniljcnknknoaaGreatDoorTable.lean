/-
  Contracts of TableValid and PolyValid and what they call.
-/
import Derived.Test.YtpniljcnknknoaaGreatDoorChecked
import Derived.Test.YtpniljcnknknoaaGreatDoorBase
import Derived.Test.YtpniljcnknknoaaGreatDoorTimes
namespace Go.Proofs.YtpniljcnknknoaaGreatDoor
open Go.RowKit
set_option linter.unusedVariables false

def tableOk (l : List Int) : Bool := inB (l.length : Int) 1 60 && l.all (fun t => inB t (-1000000000) 1000000000)
theorem tableOk_true {l : List Int} (h : tableOk l = true) : 1 ≤ l.length ∧ l.length ≤ 60 ∧ ∀ k, k < l.length → -1000000000 ≤ at_ l k ∧ at_ l k ≤ 1000000000 := by
  simp only [tableOk, Bool.and_eq_true, inB_true, List.all_eq_true] at h
  exact ⟨by omega, by omega, fun k hk => h.2 _ (at_mem l k hk)⟩

set_option maxHeartbeats 400000 in
theorem within_any (n b : Int) (w : World) (h0 : 0 ≤ b) (h1 : b ≤ 1000000000000) :
    Calls Tryz.prog 110 #[.int .i64 n, .int .i64 b] w fun e w' => e = .returned (.bool (inB n (-b) b)) ∧ w = w' := by
  go_enter Tryz.func110, Tryz.ntmps110
  go_wp2
  all_goals (go_ret; refine ⟨?_, rfl⟩; simp_all [inB])
  omega

set_option maxHeartbeats 400000 in
theorem allWithin_any (v : Value) (l : List Int) (b : Int) (w : World) (hv : Ints w v l) (h0 : 0 ≤ b) (h1 : b ≤ 1000000000000) :
    Calls Tryz.prog 89 #[v, .int .i64 b] w fun e w' => e = .returned (.bool (l.all fun t => inB t (-b) b)) ∧ w = w' := by
  obtain ⟨A, c, rfl, hlc, hc, hrd⟩ := hv.open_
  go_enter Tryz.func89, Tryz.ntmps89
  go_wp2
  go_loop [9] (fun i => ∃ k : Nat, k ≤ l.length ∧ i = .int .i64 k ∧ ∀ j, j < k → inB (at_ l j) (-b) b = true) (fun i => l.length - (intOf i).toNat)
  case atStart => exact ⟨0, Nat.zero_le _, rfl, fun j hj => absurd hj (by omega)⟩
  case round =>
    obtain ⟨k, hk, rfl, hall⟩ := hrel
    have HA := Lib.hid hall
    clear hall
    by_cases hlt : k < l.length
    · obtain ⟨bb, o, rfl, hb, hcell⟩ := hrd.ints (by omega)
      have hck := hcell k hlt
      clear hcell
      go_wp2_with (go_at_call 110; refine (within_any _ _ _ (by omega) (by omega)).mono ?_; rintro e w' ⟨rfl, rfl⟩)
      · go_ret
        have h : (!inB (at_ l k) (-b) b) = true := by assumption
        exact ⟨ret_bool (allNot (p := fun t => inB t (-b) b) hlt (by simpa using h)).symm, rfl⟩
      · have h : (!inB (at_ l k) (-b) b) = false := by assumption
        go_round
        case rel => exact ⟨k + 1, by omega, by go_num, toSucc HA.out (by simpa using h)⟩
        case measure => simp [intOf]; omega
    · go_wp2
      go_ret
      exact ⟨ret_bool (allTo (p := fun t => inB t (-b) b) (fun j hj => HA.out j (by omega))).symm, rfl⟩

/-- The document's tests on a slice: its length and its numbers. -/
def lenAll (l : List Int) (m b : Int) : Bool := inB (l.length : Int) 1 m && l.all fun t => inB t (-b) b
theorem tableOk_eq (l : List Int) : tableOk l = lenAll l 60 1000000000 := rfl

set_option maxHeartbeats 400000 in
theorem implTable_any (v : Value) (l : List Int) (w : World) (hv : Ints w v l) :
    Calls Tryz.prog 31 #[v] w fun e w' => e = .returned (.bool (tableOk l)) ∧ w = w' := by
  have hv' := Lib.hid hv
  obtain ⟨A, c, rfl, hlc, hc, hrd⟩ := hv.open_
  by_cases h1 : 1 ≤ l.length
  · by_cases h2 : l.length ≤ 60
    · have H : inB (l.length : Int) 1 60 = true := inB_true.2 (by omega)
      have HH := Lib.hid H
      clear H
      go_enter Tryz.func31, Tryz.ntmps31
      go_wp2_with (go_at_call 89; refine (allWithin_any _ _ _ _ hv'.out (by omega) (by omega)).mono ?_; rintro e w' ⟨rfl, rfl⟩)
      go_ret
      exact ⟨ret_bool (by rw [tableOk, HH.out]; rfl), rfl⟩
    · have H : inB (l.length : Int) 1 60 = false := inB_false.2 (by omega)
      have HH := Lib.hid H
      clear H
      go_enter Tryz.func31, Tryz.ntmps31
      go_wp2
      go_ret
      exact ⟨ret_bool (by rw [tableOk, HH.out]; rfl), rfl⟩
  · have H : inB (l.length : Int) 1 60 = false := inB_false.2 (by omega)
    have HH := Lib.hid H
    clear H
    go_enter Tryz.func31, Tryz.ntmps31
    go_wp2
    go_ret
    exact ⟨ret_bool (by rw [tableOk, HH.out]; rfl), rfl⟩

set_option maxHeartbeats 400000 in
theorem specTable_any (v : Value) (l : List Int) (w : World) (hv : Ints w v l) :
    Calls Tryz.prog 68 #[v] w fun e w' => e = .returned (.bool (tableOk l)) ∧ w = w' := by
  obtain ⟨A, c, rfl, hlc, hc, hrd⟩ := hv.open_
  go_enter Tryz.func68, Tryz.ntmps68
  go_wp2
  go_loop [3] (fun i => ∃ k : Nat, k ≤ l.length ∧ i = .int .i64 k ∧ ∀ j, j < k → inB (at_ l j) (-1000000000) 1000000000 = true) (fun i => l.length - (intOf i).toNat)
  case atStart => exact ⟨0, Nat.zero_le _, rfl, fun j hj => absurd hj (by omega)⟩
  case round =>
    obtain ⟨k, hk, rfl, hall⟩ := hrel
    have HA := Lib.hid hall
    clear hall
    by_cases hlt : k < l.length
    · obtain ⟨b, o, rfl, hb, hcell⟩ := hrd.ints (by omega)
      have hck := hcell k hlt
      clear hcell
      go_wp2_with (go_at_call 138; refine (l1In_any _ _ _ _).mono ?_; rintro e w' ⟨rfl, rfl⟩)
      · go_ret
        have h : (!inB (at_ l k) (-1000000000) 1000000000) = true := by assumption
        exact ⟨ret_bool (by rw [tableOk, allNot (p := fun t => inB t (-1000000000) 1000000000) hlt (by simpa using h)]; simp), rfl⟩
      · have h : (!inB (at_ l k) (-1000000000) 1000000000) = false := by assumption
        go_round
        case rel => exact ⟨k + 1, by omega, by go_num, toSucc HA.out (by simpa using h)⟩
        case measure => simp [intOf]; omega
    · go_wp2_with (go_at_call 138; refine (l1In_any _ _ _ _).mono ?_; rintro e w' ⟨rfl, rfl⟩)
      go_ret
      exact ⟨ret_bool (by rw [tableOk, allTo (p := fun t => inB t (-1000000000) 1000000000) (fun j hj => HA.out j (by omega))]; simp), rfl⟩

end Go.Proofs.YtpniljcnknknoaaGreatDoor
