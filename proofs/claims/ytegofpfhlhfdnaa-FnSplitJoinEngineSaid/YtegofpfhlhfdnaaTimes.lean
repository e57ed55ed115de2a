/-
  Contracts of TimesValid and what it calls.
-/
import Derived.Test.YtegofpfhlhfdnaaChecked
import Derived.Test.YtegofpfhlhfdnaaBase
namespace Go.Proofs.Ytegofpfhlhfdnaa
open Go.RowKit
set_option linter.unusedVariables false

set_option maxHeartbeats 400000 in
theorem l1In_any (n a b : Int) (w : World) :
    Calls Try.prog 70 #[.int .i64 n, .int .i64 a, .int .i64 b] w fun e w' => e = .returned (.bool (inB n a b)) ∧ w = w' := by
  go_enter Try.func70, Try.ntmps70
  go_wp2
  all_goals (go_ret; refine ⟨?_, rfl⟩; simp_all [inB])
  omega

set_option maxHeartbeats 400000 in
theorem costValid_any (n : Int) (w : World) :
    Calls Try.prog 74 #[.int .i64 n] w fun e w' => e = .returned (.bool (inB n 0 1000)) ∧ w = w' := by
  go_enter Try.func74, Try.ntmps74
  go_wp2
  all_goals (go_ret; refine ⟨?_, rfl⟩; simp_all [inB])
  omega

def timesOk (l : List Int) : Bool := decide (l.length ≤ 8) && l.all (fun t => inB t 0 1000)

set_option maxHeartbeats 400000 in
theorem implTimes_any (v : Value) (l : List Int) (w : World) (hv : Ints w v l) :
    Calls Try.prog 25 #[v] w fun e w' => e = .returned (.bool (timesOk l)) ∧ w = w' := by
  obtain ⟨A, c, rfl, hlc, hc, hrd⟩ := hv.open_
  by_cases h8 : l.length ≤ 8
  · go_enter Try.func25, Try.ntmps25
    go_wp2
    go_loop [10] (fun i => ∃ k : Nat, k ≤ l.length ∧ i = .int .i64 k ∧ ∀ j, j < k → inB (at_ l j) 0 1000 = true) (fun i => l.length - (intOf i).toNat)
    case atStart => exact ⟨0, Nat.zero_le _, rfl, fun j hj => absurd hj (by omega)⟩
    case round =>
      obtain ⟨k, hk, rfl, hall⟩ := hrel
      have HA := Lib.hid hall
      clear hall
      by_cases hlt : k < l.length
      · obtain ⟨b, o, rfl, hb, hcell⟩ := hrd.ints (by omega)
        have hck := hcell k hlt
        clear hcell
        go_wp2_with (go_at_call 74; refine (costValid_any _ _).mono ?_; rintro e w' ⟨rfl, rfl⟩)
        · go_ret
          have h : (!inB (at_ l k) 0 1000) = true := by assumption
          exact ⟨ret_bool (by rw [timesOk, allNot hlt (by simpa using h)]; simp), rfl⟩
        · have h : (!inB (at_ l k) 0 1000) = false := by assumption
          go_round
          case rel => exact ⟨k + 1, by omega, by go_num, toSucc HA.out (by simpa using h)⟩
          case measure => simp [intOf]; omega
      · go_wp2
        go_ret
        exact ⟨ret_bool (by rw [timesOk, allTo (fun j hj => HA.out j (by omega))]; simp; omega), rfl⟩
  · go_enter Try.func25, Try.ntmps25
    go_wp2
    go_ret
    exact ⟨ret_bool (by simp [timesOk, h8]), rfl⟩

set_option maxHeartbeats 400000 in
theorem specTimes_any (v : Value) (l : List Int) (w : World) (hv : Ints w v l) :
    Calls Try.prog 120 #[v] w fun e w' => e = .returned (.bool (timesOk l)) ∧ w = w' := by
  obtain ⟨A, c, rfl, hlc, hc, hrd⟩ := hv.open_
  go_enter Try.func120, Try.ntmps120
  go_wp2
  go_loop [3] (fun i => ∃ k : Nat, k ≤ l.length ∧ i = .int .i64 k ∧ ∀ j, j < k → inB (at_ l j) 0 1000 = true) (fun i => l.length - (intOf i).toNat)
  case atStart => exact ⟨0, Nat.zero_le _, rfl, fun j hj => absurd hj (by omega)⟩
  case round =>
    obtain ⟨k, hk, rfl, hall⟩ := hrel
    have HA := Lib.hid hall
    clear hall
    by_cases hlt : k < l.length
    · obtain ⟨b, o, rfl, hb, hcell⟩ := hrd.ints (by omega)
      have hck := hcell k hlt
      clear hcell
      go_wp2_with (go_at_call 70; refine (l1In_any _ _ _ _).mono ?_; rintro e w' ⟨rfl, rfl⟩)
      · go_ret
        have h : (!inB (at_ l k) 0 1000) = true := by assumption
        exact ⟨ret_bool (by rw [timesOk, allNot hlt (by simpa using h)]; simp), rfl⟩
      · have h : (!inB (at_ l k) 0 1000) = false := by assumption
        go_round
        case rel => exact ⟨k + 1, by omega, by go_num, toSucc HA.out (by simpa using h)⟩
        case measure => simp [intOf]; omega
    · go_wp2
      go_ret
      exact ⟨ret_bool (by rw [timesOk, allTo (fun j hj => HA.out j (by omega))]; simp; omega), rfl⟩

end Go.Proofs.Ytegofpfhlhfdnaa
