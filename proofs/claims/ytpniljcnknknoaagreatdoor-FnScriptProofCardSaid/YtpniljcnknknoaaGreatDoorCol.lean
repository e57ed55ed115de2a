/-
  Contracts of ColumnValid, EngineValid and what they call.
-/
import Derived.Test.YtpniljcnknknoaaGreatDoorStrs
import Derived.Test.YtpniljcnknknoaaGreatDoorTimes
namespace Go.Proofs.YtpniljcnknknoaaGreatDoor
open Go.RowKit
set_option linter.unusedVariables false

theorem quiet_left {P : Program} {f : FuncId} {args : Array Value} {w : World} {n : Nat} {v : Value}
    (h : Calls P f args (w.drewN n) fun e w' => e = .returned v ∧ w.drewN n = w') : Calls P f args (w.drewN n) fun e w'' => e = .returned v ∧ ∃ m, w'' = w.drewN m :=
  h.mono fun _ _ ⟨he, hm⟩ => ⟨he, n, hm.symm⟩
theorem quiet_add_left {P : Program} {f : FuncId} {args : Array Value} {w : World} {a n : Nat} {v : Value}
    (h : Calls P f args (w.drewN (a + n)) fun e w' => e = .returned v ∧ w.drewN (a + n) = w') :
    Calls P f args (w.drewN (a + n)) fun e w'' => e = .returned v ∧ ∃ m, w'' = w.drewN (a + m) :=
  h.mono fun _ _ ⟨he, hm⟩ => ⟨he, n, hm.symm⟩

/-- byte j of a string, as a number (0 beyond its end). -/
def bat (s : ByteArray) (j : Nat) : Int := if h : j < s.size then (s[j].toNat : Int) else 0
theorem bat_eq {s : ByteArray} {j : Nat} (h : j < s.size) : bat s j = (s[j].toNat : Int) := by simp [bat, h]
theorem bat_bd (s : ByteArray) (j : Nat) : 0 ≤ bat s j ∧ bat s j ≤ 255 := by
  unfold bat
  split
  · next h => have := s[j].toNat_lt; omega
  · omega
def colOk (s : ByteArray) : Bool := inB (s.size : Int) 1 12 && (List.range s.size).all fun j => inB (bat s j) 48 57
theorem colOk_true {s : ByteArray} (h : colOk s = true) : 1 ≤ s.size ∧ s.size ≤ 12 ∧ ∀ j, j < s.size → 48 ≤ bat s j ∧ bat s j ≤ 57 := by
  simp only [colOk, Bool.and_eq_true, inB_true, List.all_eq_true, List.mem_range] at h
  exact ⟨by omega, by omega, h.2⟩
theorem colOk_mk {s : ByteArray} (h1 : 1 ≤ s.size) (h2 : s.size ≤ 12) (h : ∀ j, j < s.size → 48 ≤ bat s j ∧ bat s j ≤ 57) : colOk s = true := by
  simp only [colOk, Bool.and_eq_true, inB_true, List.all_eq_true, List.mem_range]
  exact ⟨by omega, h⟩
theorem colOk_no {s : ByteArray} (h : ¬ (1 ≤ s.size ∧ s.size ≤ 12)) : colOk s = false := by
  rw [Bool.eq_false_iff]; intro e; have := colOk_true e; omega
theorem colOk_at {s : ByteArray} {j : Nat} (hj : j < s.size) (h : ¬ (48 ≤ bat s j ∧ bat s j ≤ 57)) : colOk s = false := by
  rw [Bool.eq_false_iff]; intro e; exact h ((colOk_true e).2.2 j hj)

set_option maxHeartbeats 400000 in
theorem l1Width_any (n : Int) (w : World) :
    Calls Tryz.prog 82 #[.int .i64 n] w fun e w' => e = .returned (.bool (inB n 1 12)) ∧ w = w' := by
  go_enter Tryz.func82, Tryz.ntmps82
  go_wp2_with (go_at_call 138; refine (l1In_any _ _ _ _).mono ?_; rintro e w' ⟨rfl, rfl⟩)
  go_ret
  exact ⟨rfl, rfl⟩
set_option maxHeartbeats 400000 in
theorem widthValid_any (n : Int) (w : World) :
    Calls Tryz.prog 142 #[.int .i64 n] w fun e w' => e = .returned (.bool (inB n 1 12)) ∧ w = w' := by
  go_enter Tryz.func142, Tryz.ntmps142
  go_wp2
  all_goals (go_ret; refine ⟨?_, rfl⟩; simp_all [inB])
  omega

set_option maxHeartbeats 1000000 in
theorem implCol_any (s : ByteArray) (w : World) (hs : s.size ≤ 9223372036854775807) :
    Calls Tryz.prog 210 #[.string s] w fun e w' => e = .returned (.bool (colOk s)) ∧ w = w' := by
  cases hq : inB (s.size : Int) 1 12
  · have HN := Lib.hid (colOk_no (s := s) (by have := inB_false.1 hq; omega))
    go_enter Tryz.func210, Tryz.ntmps210
    go_wp2_with (go_at_call 142; refine (widthValid_any _ _).mono ?_; rintro e w' ⟨rfl, rfl⟩)
    go_ret
    exact ⟨ret_bool HN.out.symm, rfl⟩
  · have hb := inB_true.1 hq
    go_enter Tryz.func210, Tryz.ntmps210
    go_wp2_with (go_at_call 142; refine (widthValid_any _ _).mono ?_; rintro e w' ⟨rfl, rfl⟩)
    go_loop [10] (fun i => ∃ k : Nat, k ≤ s.size ∧ i = .int .i64 k ∧ ∀ j, j < k → 48 ≤ bat s j ∧ bat s j ≤ 57) (fun i => s.size - (intOf i).toNat)
    case atStart => exact ⟨0, Nat.zero_le _, rfl, fun j hj => absurd hj (by omega)⟩
    case round =>
      obtain ⟨k, hk, rfl, hall⟩ := hrel
      have HA := Lib.hid hall
      clear hall
      by_cases hlt : k < s.size
      · have HB := Lib.hid (bat_eq hlt)
        by_cases h1 : ((s[k].toNat : Int)) < 48
        · go_wp2
          go_ret
          exact ⟨ret_bool (colOk_at hlt (by rw [HB.out]; omega)).symm, rfl⟩
        · by_cases h2 : (57 : Int) < (s[k].toNat : Int)
          · go_wp2
            go_ret
            exact ⟨ret_bool (colOk_at hlt (by rw [HB.out]; omega)).symm, rfl⟩
          · go_wp2
            go_round
            case rel => exact ⟨k + 1, by omega, by go_num, fun j hj => by
              by_cases e : j = k
              · rw [e, HB.out]; omega
              · exact HA.out j (by omega)⟩
            case measure => simp [intOf]; omega
      · have hks : k = s.size := by omega
        subst hks
        go_wp2
        go_ret
        exact ⟨ret_bool (colOk_mk (by omega) (by omega) HA.out).symm, rfl⟩

/-- Two columns of the same width. -/
def alikeC (s t : ByteArray) : Bool := colOk s && colOk t && decide (s.size = t.size)
theorem alikeC_true {s t : ByteArray} : alikeC s t = true ↔ colOk s = true ∧ colOk t = true ∧ s.size = t.size := by
  simp only [alikeC, Bool.and_eq_true, decide_eq_true_eq, and_assoc]
set_option maxHeartbeats 1000000 in
theorem implAlike_any (s t : ByteArray) (w : World) (hs : s.size ≤ 9223372036854775807) (ht : t.size ≤ 9223372036854775807) :
    Calls Tryz.prog 158 #[.string s, .string t] w fun e w' => e = .returned (.bool (alikeC s t)) ∧ w = w' := by
  cases h1 : colOk s
  · go_enter Tryz.func158, Tryz.ntmps158
    go_wp2_with (go_at_call 210; refine (implCol_any _ _ (by assumption)).mono ?_; rintro e w' ⟨rfl, rfl⟩)
    go_ret
    exact ⟨ret_bool (by simp [alikeC, h1]), rfl⟩
  · cases h2 : colOk t
    · go_enter Tryz.func158, Tryz.ntmps158
      go_wp2_with (go_at_call 210; refine (implCol_any _ _ (by assumption)).mono ?_; rintro e w' ⟨rfl, rfl⟩)
      go_ret
      exact ⟨ret_bool (by simp [alikeC, h2]), rfl⟩
    · by_cases h3 : s.size = t.size
      · have e : ((s.size : Int) == (t.size : Int)) = true := by simp [h3]
        have H3 := Lib.hid h3
        clear h3
        go_enter Tryz.func158, Tryz.ntmps158
        go_wp2_with (go_at_call 210; refine (implCol_any _ _ (by assumption)).mono ?_; rintro e w' ⟨rfl, rfl⟩)
        go_ret
        exact ⟨ret_bool (by simp [alikeC, h1, h2, H3.out]), rfl⟩
      · have e : ((s.size : Int) == (t.size : Int)) = false := by simp; omega
        have H3 := Lib.hid h3
        clear h3
        go_enter Tryz.func158, Tryz.ntmps158
        go_wp2_with (go_at_call 210; refine (implCol_any _ _ (by assumption)).mono ?_; rintro e w' ⟨rfl, rfl⟩)
        go_ret
        exact ⟨ret_bool (by simp [alikeC, h1, h2, H3.out]), rfl⟩

/-- An engine: one to seven columns of the same width. -/
def engOk (l : List ByteArray) : Bool := inB (l.length : Int) 1 7 && l.all fun s => alikeC (sat l 0) s

end Go.Proofs.YtpniljcnknknoaaGreatDoor
