/-
  Contracts of EngineValid.
-/
import Derived.Test.YteemhhgioljmaaaCol
namespace Go.Proofs.Yteemhhgioljmaaa
open Go.RowKit
set_option linter.unusedVariables false
set_option maxRecDepth 100000

theorem engOk_true {l : List ByteArray} : engOk l = true ↔ 1 ≤ l.length ∧ l.length ≤ 7 ∧ ∀ k, k < l.length → alikeC (sat l 0) (sat l k) = true := by
  simp only [engOk, Bool.and_eq_true, inB_true, List.all_eq_true]
  constructor
  · rintro ⟨h1, h2⟩
    exact ⟨by omega, by omega, fun k hk => h2 _ (sat_mem l k hk)⟩
  · rintro ⟨h1, h2, h3⟩
    refine ⟨by omega, fun s hs => ?_⟩
    obtain ⟨k, hk, rfl⟩ := List.getElem_of_mem hs
    rw [← sat_eq l k hk]
    exact h3 k hk
theorem engOk_no {l : List ByteArray} (h : ¬ (1 ≤ l.length ∧ l.length ≤ 7)) : engOk l = false := by
  rw [Bool.eq_false_iff]; intro e; have := engOk_true.1 e; omega
theorem engOk_at {l : List ByteArray} {k : Nat} (hk : k < l.length) (h : alikeC (sat l 0) (sat l k) = false) : engOk l = false := by
  rw [Bool.eq_false_iff]; intro e; have := (engOk_true.1 e).2.2 k hk; rw [h] at this; cases this

set_option maxHeartbeats 1000000 in
theorem implEng_any (u : Value) (l : List ByteArray) (w : World) (hv : Strs w u l) :
    Calls Try.prog 67 #[.agg #[u]] w fun e w' => e = .returned (.bool (engOk l)) ∧ Below w.heap.size w w' := by
  have HV := Lib.hid hv
  obtain ⟨A, c, rfl, hlc, hc, hrd⟩ := hv.open_
  have HW := Lib.hid hv.2
  by_cases hlen : 1 ≤ l.length ∧ l.length ≤ 7
  · obtain ⟨l1, l7⟩ := hlen
    obtain ⟨b, o, rfl, hb, hcell⟩ := hrd.strs (by omega)
    have hc0 := hcell 0 (by omega)
    rw [Nat.add_zero] at hc0
    have HC := Lib.hid hcell
    clear hcell hrd hv
    go_enter Try.func67, Try.ntmps67
    go_wp2
    go_loop [18] (fun i => ∃ k : Nat, k ≤ l.length ∧ i = .int .i64 k ∧ ∀ j, j < k → alikeC (sat l 0) (sat l j) = true) (fun i => l.length - (intOf i).toNat)
    case atStart => exact ⟨0, Nat.zero_le _, rfl, fun j hj => absurd hj (by omega)⟩
    case round =>
      obtain ⟨k, hk, rfl, hall⟩ := hrel
      have HA := Lib.hid hall
      clear hall
      by_cases hlt : k < l.length
      · have hck := HC.out k hlt
        have s0 := HW.out.at _ 0
        have sk := HW.out.at _ k
        cases hal : alikeC (sat l 0) (sat l k)
        · go_wp2_with (go_at_call 142; refine (implAlike_any _ _ _ (by assumption) (by assumption)).mono ?_; rintro e w' ⟨rfl, rfl⟩)
          go_ret
          exact ⟨ret_bool (engOk_at hlt hal).symm, bel_alloc _ _⟩
        · go_wp2_with (go_at_call 142; refine (implAlike_any _ _ _ (by assumption) (by assumption)).mono ?_; rintro e w' ⟨rfl, rfl⟩)
          go_round
          case rel => exact ⟨k + 1, by omega, by go_num, fun j hj => by
            by_cases e : j = k
            · rw [e]; exact hal
            · exact HA.out j (by omega)⟩
          case measure => simp [intOf]; omega
      · have hkl : k = l.length := by omega
        subst hkl
        go_wp2
        go_ret
        exact ⟨ret_bool (engOk_true.2 ⟨l1, l7, HA.out⟩).symm, bel_alloc _ _⟩
  · have HN := Lib.hid (engOk_no hlen)
    by_cases h1 : l.length < 1
    · go_enter Try.func67, Try.ntmps67
      go_wp2
      go_ret
      exact ⟨ret_bool HN.out.symm, bel_alloc _ _⟩
    · have h7 : 7 < l.length := by omega
      go_enter Try.func67, Try.ntmps67
      go_wp2
      go_ret
      exact ⟨ret_bool HN.out.symm, bel_alloc _ _⟩

set_option maxHeartbeats 1000000 in
theorem specEng_any (u : Value) (l : List ByteArray) (w : World) (hv : Strs w u l) :
    Calls Try.prog 145 #[.agg #[u]] w fun e w' => e = .returned (.bool (engOk l)) ∧ Below w.heap.size w w' := by
  have HV := Lib.hid hv
  obtain ⟨A, c, rfl, hlc, hc, hrd⟩ := hv.open_
  have HW := Lib.hid hv.2
  have HR := Lib.hid hrd
  clear hrd hv
  go_enter Try.func145, Try.ntmps145
  go_wp2
  obtain ⟨W0, hW0⟩ : ∃ W0, W0 = w.alloc (.cells #[.slice A l.length c] 29) := ⟨_, rfl⟩
  have hbox : W0.cell? ⟨w.heap.size, 0, none⟩ = some (.slice A l.length c) := by rw [hW0]; exact new_cell _ _ _
  have HB0 := Lib.hid (show Below w.heap.size w W0 by rw [hW0]; exact bel_alloc _ _)
  rw [← hW0]
  clear hW0
  go_loopw [3] (fun i wr => ∃ k : Nat, k ≤ l.length ∧ i = .int .i64 k ∧ (∀ j, j < k → colOk (sat l j) = true ∧ (sat l j).size = (sat l 0).size) ∧ wr.cell? ⟨w.heap.size, 0, none⟩ = some (.slice A l.length c) ∧ Below w.heap.size w wr) (fun i _ => l.length - (intOf i).toNat)
  case atStart => exact ⟨0, Nat.zero_le _, rfl, fun j hj => absurd hj (by omega), hbox, HB0.out⟩
  case round =>
    clear HB0 hbox
    obtain ⟨k, hk, rfl, hall, hbox, hb0⟩ := hrel
    have HA := Lib.hid hall
    have HB0 := Lib.hid hb0
    clear hall hb0
    by_cases hlt : k < l.length
    · obtain ⟨b, o, rfl, hb, hcell⟩ := HR.out.strs (by omega)
      have hc0 := (HB0.out.cell (by exact hb)).trans (hcell 0 (by omega))
      have hck := (HB0.out.cell (by exact hb)).trans (hcell k hlt)
      rw [Nat.add_zero] at hc0
      have s0 := HW.out.at _ 0
      have sk := HW.out.at _ k
      clear hcell
      cases hco : colOk (sat l k)
      · have HN := Lib.hid (engOk_at hlt (by rw [Bool.eq_false_iff]; intro e; have := (alikeC_true.1 e).2.1; rw [hco] at this; cases this))
        go_wp2_with fail
        go_quiet ((go_at_call 181; first | exact quiet_left (specCol_any _ _ (by assumption)) | exact quiet_add_left (specCol_any _ _ (by assumption))))
        go_wp2
        go_ret
        exact ⟨ret_bool HN.out.symm, below_drewN HB0.out _⟩
      · by_cases hsz : (sat l k).size = (sat l 0).size
        · have hne : (((sat l k).size : Int) != ((sat l 0).size : Int)) = false := by simp [hsz]
          have HS := Lib.hid hsz
          clear hsz
          go_wp2_with fail
          go_quiet ((go_at_call 181; first | exact quiet_left (specCol_any _ _ (by assumption)) | exact quiet_add_left (specCol_any _ _ (by assumption))))
          go_wp2
          go_roundw
          case rel => exact ⟨k + 1, by omega, by go_num, fun j hj => by
            by_cases e : j = k
            · rw [e]; exact ⟨hco, HS.out⟩
            · exact HA.out j (by omega), hbox, below_drewN HB0.out _⟩
          case measure => simp [intOf]; omega
        · have hne : (((sat l k).size : Int) != ((sat l 0).size : Int)) = true := by simp; omega
          have HS := Lib.hid hsz
          clear hsz
          have HN := Lib.hid (engOk_at hlt (by rw [Bool.eq_false_iff]; intro e; exact HS.out (alikeC_true.1 e).2.2.symm))
          go_wp2_with fail
          go_quiet ((go_at_call 181; first | exact quiet_left (specCol_any _ _ (by assumption)) | exact quiet_add_left (specCol_any _ _ (by assumption))))
          go_wp2
          go_ret
          exact ⟨ret_bool HN.out.symm, below_drewN HB0.out _⟩
    · have hkl : k = l.length := by omega
      subst hkl
      go_wp2_with (go_at_call 91; refine (l1In_any _ _ _ _).mono ?_; rintro e w' ⟨rfl, rfl⟩)
      go_ret
      refine ⟨ret_bool ?_, HB0.out⟩
      cases hq : inB (l.length : Int) 1 7
      · exact (engOk_no (by have := inB_false.1 hq; omega)).symm
      · have := inB_true.1 hq
        exact (engOk_true.2 ⟨by omega, by omega, fun j hj => alikeC_true.2 ⟨(HA.out 0 (by omega)).1, (HA.out j hj).1, (HA.out j hj).2.symm⟩⟩).symm

end Go.Proofs.Yteemhhgioljmaaa
