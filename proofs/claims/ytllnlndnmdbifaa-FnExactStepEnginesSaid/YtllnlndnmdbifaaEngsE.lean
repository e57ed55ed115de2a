/-
  Marks of lists of engines, from any number on.
-/
import Derived.Test.YtllnlndnmdbifaaEngsD
namespace Go.Proofs.Ytllnlndnmdbifaa
open Go.RowKit
set_option linter.unusedVariables false
set_option linter.unusedSimpArgs false
set_option maxRecDepth 100000

theorem markEngineS_int (v : Value) (ls : List (List ByteArray)) (k : Int) (lo hi : Nat) (w : World) (hv : OwnE w lo hi v ls) (h0 : 0 ≤ k) (h1 : k + (tot_ ls : Int) ≤ 10000000) :
    Calls Try.prog 28 #[v, .int .i64 k] w fun e w' => e = .returned (.int .i64 (k + (tot_ ls : Int))) ∧ Rng w w' lo hi ∧ OwnE w' lo hi v (mrkE k.toNat ls) := by
  obtain ⟨n, rfl⟩ : ∃ n : Nat, k = n := ⟨k.toNat, by omega⟩
  refine (markEngineS_any v ls n lo hi w hv (by omega)).mono ?_
  rintro e w' ⟨rfl, h2, h3⟩
  exact ⟨by rw [Int.natCast_add], h2, h3⟩
theorem heldEngineS_int (v : Value) (ls : List (List ByteArray)) (k : Int) (w : World) (hv : Engs w v (mrkE k.toNat ls)) (h0 : 0 ≤ k) (h1 : k + (tot_ ls : Int) ≤ 10000000) :
    Calls Try.prog 29 #[v, .int .i64 k] w fun e w' => e = .returned (.int .i64 (k + (tot_ ls : Int))) ∧ Below w.heap.size w w' := by
  obtain ⟨n, rfl⟩ : ∃ n : Nat, k = n := ⟨k.toNat, by omega⟩
  refine (heldEngineS_any v ls n w hv (by omega)).mono ?_
  rintro e w' ⟨rfl, h2⟩
  exact ⟨by rw [Int.natCast_add], h2⟩

end Go.Proofs.Ytllnlndnmdbifaa
