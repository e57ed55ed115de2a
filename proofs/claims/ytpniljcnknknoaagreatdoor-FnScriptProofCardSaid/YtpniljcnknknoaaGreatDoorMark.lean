/-
  Contracts of markText, markStringS, heldStringS, szStringS.
-/
import Derived.Test.YtpniljcnknknoaaGreatDoorEng
import Derived.Laws.BytesArg
import Derived.Deep.RegionLaw
import Derived.Deep.RegionWith
import Derived.Deep.DrawnRows
namespace Go.Proofs.YtpniljcnknknoaaGreatDoor
open Go.RowKit
set_option linter.unusedVariables false
set_option maxRecDepth 100000
attribute [local go_sem ↓] Go.wp_at_zero Go.wp_at_succ

theorem Tryz.conv1 (z : Int) (W : World) : (convert 22 9 (.slice (some ⟨W.heap.size, 0, none⟩) 1 1)).run Tryz.prog (W.alloc (.cells #[.int .u8 z] 5)) = .ok (.string (strOfNums [z])) (W.alloc (.cells #[.int .u8 z] 5)) :=
  run_convert_bytes_arg (P := Tryz.prog) _ 22 5 Tryz.underlying22 Tryz.underlying5 W.heap.size 0 1 1 [z] rfl (fun i hi => by
    obtain rfl : i = 0 := by omega
    exact new_cell W _ (.int .u8 z)) 9 Tryz.underlying9

/-- The digits of a number, ahead of a text. -/
def digs (k : Nat) (t : ByteArray) : ByteArray := if h : k = 0 then t else digs (k / 10) (strOfNums [48 + (k : Int) % 10] ++ t)
termination_by k
decreasing_by omega
theorem digs_zero (t : ByteArray) : digs 0 t = t := by rw [digs]; simp
theorem digs_pos {k : Nat} (h : ¬ k = 0) (t : ByteArray) : digs k t = digs (k / 10) (strOfNums [48 + (k : Int) % 10] ++ t) := by rw [digs]; simp [h]
theorem digs_size : ∀ (k : Nat) (t : ByteArray), (digs k t).size ≤ k + t.size := by
  intro k
  induction k using Nat.strongRecOn with
  | _ k ih =>
    intro t
    by_cases h : k = 0
    · subst h; rw [digs_zero]; omega
    · rw [digs_pos h]
      have := ih (k / 10) (by omega) (strOfNums [48 + (k : Int) % 10] ++ t)
      rw [ByteArray.size_append, strOfNums_size] at this
      simp at this
      omega
def mt (k : Nat) : ByteArray := if k = 0 then ⟨#[109, 48]⟩ else ⟨#[109]⟩ ++ digs k ByteArray.empty
theorem mt_size (k : Nat) : (mt k).size ≤ k + 2 := by
  unfold mt
  split
  · simp [ByteArray.size]
  · rw [ByteArray.size_append]
    have h1 := digs_size k ByteArray.empty
    have h2 : ByteArray.empty.size = 0 := rfl
    have h3 : (⟨#[109]⟩ : ByteArray).size = 1 := rfl
    omega


/-- The marks k, k + 1, .. as texts. -/
def marksS (k n : Nat) : List ByteArray := genS (fun i => mt (k + i)) n
theorem marksS_length (k n : Nat) : (marksS k n).length = n := genS_length _ _
theorem at_marksS {k n j : Nat} (h : j < n) : sat (marksS k n) j = mt (k + j) := at_genS h
theorem wf_marksS {k n : Nat} (h : k + n ≤ 9223372036854775) : WfS (marksS k n) := wf_genS fun j hj => by have := mt_size (k + j); omega



/-- What is left of a bound, behind a list of texts. -/
def szTo (l : List ByteArray) (left : Int) : Nat → Int
  | 0 => left - l.length
  | n + 1 => szTo l left n - (sat l n).size
theorem szTo_le (l : List ByteArray) (left : Int) : ∀ n, szTo l left n ≤ left - l.length
  | 0 => Int.le_refl _
  | n + 1 => by have := szTo_le l left n; rw [szTo]; omega

end Go.Proofs.YtpniljcnknknoaaGreatDoor
