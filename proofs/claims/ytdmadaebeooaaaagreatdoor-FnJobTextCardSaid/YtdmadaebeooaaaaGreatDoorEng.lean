/-
  Contracts of EngineValid.
-/
import Derived.Test.YtdmadaebeooaaaaGreatDoorCol
namespace Go.Proofs.YtdmadaebeooaaaaGreatDoor
open Go.RowKit
set_option linter.unusedVariables false
set_option maxRecDepth 100000

theorem engOk_true {l : List ByteArray} : engOk l = true ↔ 1 ≤ l.length ∧ l.length ≤ 7 ∧ ∀ k, k < l.length → alikeC (sat l 0) (sat l k) = true := by
  simp only [engOk, Bool.and_eq_true, inB_true, List.all_eq_true]
  constructor
  · rintro ⟨h1, h2⟩
    exact ⟨by omega, by omega, fun k hk => h2 _ (sat_mem l k hk)⟩
  · rintro ⟨h1, h2, h3⟩
    refine ⟨by omega, fun s hs => ?_⟩
    obtain ⟨k, hk, rfl⟩ := List.getElem_of_mem hs
    rw [← sat_eq l k hk]
    exact h3 k hk
theorem engOk_no {l : List ByteArray} (h : ¬ (1 ≤ l.length ∧ l.length ≤ 7)) : engOk l = false := by
  rw [Bool.eq_false_iff]; intro e; have := engOk_true.1 e; omega
theorem engOk_at {l : List ByteArray} {k : Nat} (hk : k < l.length) (h : alikeC (sat l 0) (sat l k) = false) : engOk l = false := by
  rw [Bool.eq_false_iff]; intro e; have := (engOk_true.1 e).2.2 k hk; rw [h] at this; cases this

end Go.Proofs.YtdmadaebeooaaaaGreatDoor
