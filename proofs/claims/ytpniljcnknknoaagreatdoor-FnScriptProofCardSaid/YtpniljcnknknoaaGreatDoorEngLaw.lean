/-
  What the laws over engines want besides.
-/
import Derived.Test.YtpniljcnknknoaaGreatDoorSplitT
import Derived.Test.YtpniljcnknknoaaGreatDoorColPlain
namespace Go.Proofs.YtpniljcnknknoaaGreatDoor
open Go.RowKit
set_option linter.unusedVariables false

theorem cut_by {P G : Prop} (h : P) (k : P → G) : G := k h
theorem alloc_set (w : World) (z v : Value) (t : TypeId) : (w.alloc (.cells #[z] t)).setCell ⟨w.heap.size, 0, none⟩ v = w.alloc (.cells #[v] t) := by
  rw [World.setCell_alloc_at _ _ _ _ _ rfl]; rfl
theorem alloc_set2 (w : World) (z v z2 v2 : Value) (t t2 : TypeId) : ((((w.alloc (.cells #[z] t)).alloc (.cells #[z2] t2)).setCell ⟨w.heap.size, 0, none⟩ v).setCell ⟨w.heap.size + 1, 0, none⟩ v2) = (w.alloc (.cells #[v] t)).alloc (.cells #[v2] t2) := by
  rw [World.setCell_alloc_past _ _ _ _ (by simp), alloc_set]
  have := alloc_set (w.alloc (.cells #[v] t)) z2 v2 t2
  simpa using this


theorem splitA_len {l : List ByteArray} {n : Int} : (splitA l n).length ≤ l.length := by
  unfold splitA; split <;> simp
theorem splitB_len {l : List ByteArray} {n : Int} : (splitB l n).length ≤ l.length := by
  unfold splitB; split <;> simp; omega
theorem joinE_len {a b : List ByteArray} : (joinE a b).length ≤ 7 := by
  cases h : joinOk a b
  · rw [joinE_no h]; simp
  · rw [joinE_yes h, List.length_append]; have := (joinOk_true.1 h).2.2.2; omega
theorem sumE_len {e : List ByteArray} {s : Int} : (sumE e s).length ≤ 7 := by
  cases h : sumOk e s
  · rw [sumE_no h]; simp
  · rw [sumE_yes h]; have := (sumOk_true.1 h).2.1; simp; omega

end Go.Proofs.YtpniljcnknknoaaGreatDoor
