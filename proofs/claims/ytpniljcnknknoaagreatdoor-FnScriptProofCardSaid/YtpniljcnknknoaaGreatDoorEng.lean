/-
  Contracts of EngineValid.
-/
import Derived.Test.YtpniljcnknknoaaGreatDoorCol
namespace Go.Proofs.YtpniljcnknknoaaGreatDoor
open Go.RowKit
set_option linter.unusedVariables false
set_option maxRecDepth 100000

theorem engOk_true {l : List ByteArray} : engOk l = true ↔ 1 ≤ l.length ∧ l.length ≤ 7 ∧ ∀ k, k < l.length → alikeC (sat l 0) (sat l k) = true := by
  simp only [engOk, Bool.and_eq_true, inB_true, List.all_eq_true]
  constructor
  · rintro ⟨h1, h2⟩
    exact ⟨by omega, by omega, fun k hk => h2 _ (sat_mem l k hk)⟩
  · rintro ⟨h1, h2, h3⟩
    refine ⟨by omega, fun s hs => ?_⟩
    obtain ⟨k, hk, rfl⟩ := List.getElem_of_mem hs
    rw [← sat_eq l k hk]
    exact h3 k hk
theorem engOk_no {l : List ByteArray} (h : ¬ (1 ≤ l.length ∧ l.length ≤ 7)) : engOk l = false := by
  rw [Bool.eq_false_iff]; intro e; have := engOk_true.1 e; omega
theorem engOk_at {l : List ByteArray} {k : Nat} (hk : k < l.length) (h : alikeC (sat l 0) (sat l k) = false) : engOk l = false := by
  rw [Bool.eq_false_iff]; intro e; have := (engOk_true.1 e).2.2 k hk; rw [h] at this; cases this

set_option maxHeartbeats 1000000 in
theorem implEng_any (u : Value) (l : List ByteArray) (w : World) (hv : Strs w u l) :
    Calls Tryz.prog 87 #[.agg #[u]] w fun e w' => e = .returned (.bool (engOk l)) ∧ Below w.heap.size w w' := by
  have HV := Lib.hid hv
  obtain ⟨A, c, rfl, hlc, hc, hrd⟩ := hv.open_
  have HW := Lib.hid hv.2
  by_cases hlen : 1 ≤ l.length ∧ l.length ≤ 7
  · obtain ⟨l1, l7⟩ := hlen
    obtain ⟨b, o, rfl, hb, hcell⟩ := hrd.strs (by omega)
    have hc0 := hcell 0 (by omega)
    rw [Nat.add_zero] at hc0
    have HC := Lib.hid hcell
    clear hcell hrd hv
    go_enter Tryz.func87, Tryz.ntmps87
    go_wp2
    go_loop [18] (fun i => ∃ k : Nat, k ≤ l.length ∧ i = .int .i64 k ∧ ∀ j, j < k → alikeC (sat l 0) (sat l j) = true) (fun i => l.length - (intOf i).toNat)
    case atStart => exact ⟨0, Nat.zero_le _, rfl, fun j hj => absurd hj (by omega)⟩
    case round =>
      obtain ⟨k, hk, rfl, hall⟩ := hrel
      have HA := Lib.hid hall
      clear hall
      by_cases hlt : k < l.length
      · have hck := HC.out k hlt
        have s0 := HW.out.at _ 0
        have sk := HW.out.at _ k
        cases hal : alikeC (sat l 0) (sat l k)
        · go_wp2_with (go_at_call 158; refine (implAlike_any _ _ _ (by assumption) (by assumption)).mono ?_; rintro e w' ⟨rfl, rfl⟩)
          go_ret
          exact ⟨ret_bool (engOk_at hlt hal).symm, bel_alloc _ _⟩
        · go_wp2_with (go_at_call 158; refine (implAlike_any _ _ _ (by assumption) (by assumption)).mono ?_; rintro e w' ⟨rfl, rfl⟩)
          go_round
          case rel => exact ⟨k + 1, by omega, by go_num, fun j hj => by
            by_cases e : j = k
            · rw [e]; exact hal
            · exact HA.out j (by omega)⟩
          case measure => simp [intOf]; omega
      · have hkl : k = l.length := by omega
        subst hkl
        go_wp2
        go_ret
        exact ⟨ret_bool (engOk_true.2 ⟨l1, l7, HA.out⟩).symm, bel_alloc _ _⟩
  · have HN := Lib.hid (engOk_no hlen)
    by_cases h1 : l.length < 1
    · go_enter Tryz.func87, Tryz.ntmps87
      go_wp2
      go_ret
      exact ⟨ret_bool HN.out.symm, bel_alloc _ _⟩
    · have h7 : 7 < l.length := by omega
      go_enter Tryz.func87, Tryz.ntmps87
      go_wp2
      go_ret
      exact ⟨ret_bool HN.out.symm, bel_alloc _ _⟩

end Go.Proofs.YtpniljcnknknoaaGreatDoor
