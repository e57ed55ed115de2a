/-
  Contracts of ColumnValid, EngineValid and what they call.
-/
import Derived.Test.YtdmadaebeooaaaaGreatDoorStrs
import Derived.Test.YtdmadaebeooaaaaGreatDoorTimes
namespace Go.Proofs.YtdmadaebeooaaaaGreatDoor
open Go.RowKit
set_option linter.unusedVariables false

theorem quiet_left {P : Program} {f : FuncId} {args : Array Value} {w : World} {n : Nat} {v : Value}
    (h : Calls P f args (w.drewN n) fun e w' => e = .returned v ∧ w.drewN n = w') : Calls P f args (w.drewN n) fun e w'' => e = .returned v ∧ ∃ m, w'' = w.drewN m :=
  h.mono fun _ _ ⟨he, hm⟩ => ⟨he, n, hm.symm⟩
theorem quiet_add_left {P : Program} {f : FuncId} {args : Array Value} {w : World} {a n : Nat} {v : Value}
    (h : Calls P f args (w.drewN (a + n)) fun e w' => e = .returned v ∧ w.drewN (a + n) = w') :
    Calls P f args (w.drewN (a + n)) fun e w'' => e = .returned v ∧ ∃ m, w'' = w.drewN (a + m) :=
  h.mono fun _ _ ⟨he, hm⟩ => ⟨he, n, hm.symm⟩

/-- byte j of a string, as a number (0 beyond its end). -/
def bat (s : ByteArray) (j : Nat) : Int := if h : j < s.size then (s[j].toNat : Int) else 0
theorem bat_eq {s : ByteArray} {j : Nat} (h : j < s.size) : bat s j = (s[j].toNat : Int) := by simp [bat, h]
theorem bat_bd (s : ByteArray) (j : Nat) : 0 ≤ bat s j ∧ bat s j ≤ 255 := by
  unfold bat
  split
  · next h => have := s[j].toNat_lt; omega
  · omega
def colOk (s : ByteArray) : Bool := inB (s.size : Int) 1 12 && (List.range s.size).all fun j => inB (bat s j) 48 57
theorem colOk_true {s : ByteArray} (h : colOk s = true) : 1 ≤ s.size ∧ s.size ≤ 12 ∧ ∀ j, j < s.size → 48 ≤ bat s j ∧ bat s j ≤ 57 := by
  simp only [colOk, Bool.and_eq_true, inB_true, List.all_eq_true, List.mem_range] at h
  exact ⟨by omega, by omega, h.2⟩
theorem colOk_mk {s : ByteArray} (h1 : 1 ≤ s.size) (h2 : s.size ≤ 12) (h : ∀ j, j < s.size → 48 ≤ bat s j ∧ bat s j ≤ 57) : colOk s = true := by
  simp only [colOk, Bool.and_eq_true, inB_true, List.all_eq_true, List.mem_range]
  exact ⟨by omega, h⟩
theorem colOk_no {s : ByteArray} (h : ¬ (1 ≤ s.size ∧ s.size ≤ 12)) : colOk s = false := by
  rw [Bool.eq_false_iff]; intro e; have := colOk_true e; omega
theorem colOk_at {s : ByteArray} {j : Nat} (hj : j < s.size) (h : ¬ (48 ≤ bat s j ∧ bat s j ≤ 57)) : colOk s = false := by
  rw [Bool.eq_false_iff]; intro e; exact h ((colOk_true e).2.2 j hj)

set_option maxHeartbeats 400000 in
theorem l1Width_any (n : Int) (w : World) :
    Calls Tryz.prog 118 #[.int .i64 n] w fun e w' => e = .returned (.bool (inB n 1 12)) ∧ w = w' := by
  go_enter Tryz.func118, Tryz.ntmps118
  go_wp2_with (go_at_call 82; refine (l1In_any _ _ _ _).mono ?_; rintro e w' ⟨rfl, rfl⟩)
  go_ret
  exact ⟨rfl, rfl⟩
set_option maxHeartbeats 400000 in
theorem widthValid_any (n : Int) (w : World) :
    Calls Tryz.prog 89 #[.int .i64 n] w fun e w' => e = .returned (.bool (inB n 1 12)) ∧ w = w' := by
  go_enter Tryz.func89, Tryz.ntmps89
  go_wp2
  all_goals (go_ret; refine ⟨?_, rfl⟩; simp_all [inB])
  omega

/-- Two columns of the same width. -/
def alikeC (s t : ByteArray) : Bool := colOk s && colOk t && decide (s.size = t.size)
theorem alikeC_true {s t : ByteArray} : alikeC s t = true ↔ colOk s = true ∧ colOk t = true ∧ s.size = t.size := by
  simp only [alikeC, Bool.and_eq_true, decide_eq_true_eq, and_assoc]
/-- An engine: one to seven columns of the same width. -/
def engOk (l : List ByteArray) : Bool := inB (l.length : Int) 1 7 && l.all fun s => alikeC (sat l 0) s

end Go.Proofs.YtdmadaebeooaaaaGreatDoor
