/-
  What the laws over engines want besides.
-/
import Derived.Test.YteemhhgioljmaaaSplitT
import Derived.Test.YteemhhgioljmaaaColPlain
namespace Go.Proofs.Yteemhhgioljmaaa
open Go.RowKit
set_option linter.unusedVariables false

theorem cut_by {P G : Prop} (h : P) (k : P → G) : G := k h
theorem alloc_set (w : World) (z v : Value) (t : TypeId) : (w.alloc (.cells #[z] t)).setCell ⟨w.heap.size, 0, none⟩ v = w.alloc (.cells #[v] t) := by
  rw [World.setCell_alloc_at _ _ _ _ _ rfl]; rfl
theorem alloc_set2 (w : World) (z v z2 v2 : Value) (t t2 : TypeId) : ((((w.alloc (.cells #[z] t)).alloc (.cells #[z2] t2)).setCell ⟨w.heap.size, 0, none⟩ v).setCell ⟨w.heap.size + 1, 0, none⟩ v2) = (w.alloc (.cells #[v] t)).alloc (.cells #[v2] t2) := by
  rw [World.setCell_alloc_past _ _ _ _ (by simp), alloc_set]
  have := alloc_set (w.alloc (.cells #[v] t)) z2 v2 t2
  simpa using this

theorem markEngine_int (v : Value) (l : List ByteArray) (k : Int) (base : Nat) (w : World) (hv : OwnS w base v l) (h0 : 0 ≤ k) (h1 : k + (l.length : Int) ≤ 10000000) :
    Calls Try.prog 61 #[.agg #[v], .int .i64 k] w fun e w' => e = .returned (.int .i64 (k + (l.length : Int))) ∧ w.grownBy w' v.ownBlock ∧ OwnS w' base v (marksS k.toNat l.length) := by
  obtain ⟨n, rfl⟩ : ∃ n : Nat, k = n := ⟨k.toNat, by omega⟩
  refine (markEngine_any v l n base w hv (by omega)).mono ?_
  rintro e w' ⟨rfl, h2, h3⟩
  exact ⟨by rw [Int.natCast_add], h2, h3⟩
theorem heldEngine_int (v : Value) (n : Nat) (k : Int) (w : World) (hv : Strs w v (marksS k.toNat n)) (h0 : 0 ≤ k) (h1 : k + (n : Int) ≤ 10000000) :
    Calls Try.prog 62 #[.agg #[v], .int .i64 k] w fun e w' => e = .returned (.int .i64 (k + (n : Int))) ∧ Below w.heap.size w w' := by
  obtain ⟨m, rfl⟩ : ∃ m : Nat, k = m := ⟨k.toNat, by omega⟩
  refine (heldEngine_any v n m w hv (by omega)).mono ?_
  rintro e w' ⟨rfl, h2⟩
  exact ⟨by rw [Int.natCast_add], h2⟩

theorem splitA_len {l : List ByteArray} {n : Int} : (splitA l n).length ≤ l.length := by
  unfold splitA; split <;> simp
theorem splitB_len {l : List ByteArray} {n : Int} : (splitB l n).length ≤ l.length := by
  unfold splitB; split <;> simp; omega
theorem joinE_len {a b : List ByteArray} : (joinE a b).length ≤ 7 := by
  cases h : joinOk a b
  · rw [joinE_no h]; simp
  · rw [joinE_yes h, List.length_append]; have := (joinOk_true.1 h).2.2.2; omega
theorem sumE_len {e : List ByteArray} {s : Int} : (sumE e s).length ≤ 7 := by
  cases h : sumOk e s
  · rw [sumE_no h]; simp
  · rw [sumE_yes h]; have := (sumOk_true.1 h).2.1; simp; omega

end Go.Proofs.Yteemhhgioljmaaa
