/-
  Contract of impl.Interleave.
-/
import Derived.Test.YtplalhehdfkipaaInter
namespace Go.Proofs.Ytplalhehdfkipaa
open Go.RowKit
set_option linter.unusedVariables false

set_option maxHeartbeats 2000000 in
theorem implInter_any (v u : Value) (a b : List Int) (w : World) (hv : Ints w v a) (hu : Ints w u b) (ha : a.length ≤ 4611686018427387904) (hb : b.length ≤ 4611686018427387903) :
    Calls Try.prog 22 #[v, u] w fun e w' => ∃ r, e = .returned (.tuple #[r, .bool (interOk a b)]) ∧ Own w' w.heap.size r (inter a b) ∧ Below w.heap.size w w' := by
  have HV := Lib.hid (And.intro hv hu)
  obtain ⟨i0, hi, hz0, hz1, hz2⟩ := info_parts Try.infoInt
  obtain ⟨A, c, rfl, hlc, hc, hrd⟩ := hv.open_
  obtain ⟨B, d, rfl, hld, hd, hrd2⟩ := hu.open_
  have HR := Lib.hid (And.intro hrd hrd2)
  clear hrd hrd2 hv hu
  by_cases h : interOk a b = true
  · obtain ⟨h1, h2⟩ := interOk_true.1 h
    have HY := Lib.hid (And.intro h (inter_yes h))
    have hab : a.length ≤ b.length + 1 := by omega
    have hba : b.length ≤ a.length := by omega
    clear h
    rcases h1 with h1 | h1
    · have q1 : ((a.length : Int) != (b.length : Int)) = false := by simp [h1]
      clear h1
      obtain ⟨w0, hrun, hown0, hg0⟩ := run_make_own (P := Try.prog) w w.heap.size 22 3 i0 _ 1 Try.underlying22 hi hz0 hz1 .i64 .i64 (a.length + b.length) (by rw [hz2]; omega) (by unfold maxLen; omega) (Nat.le_refl _)
      rw [Int.natCast_add] at hrun
      have OE := Lib.hid (show Own w0 w.heap.size (.slice (some ⟨w.heap.size, 0, none⟩) 0 (a.length + b.length)) [] from ⟨hown0, fun _ h => by simp at h, by simp⟩)
      have OB := Lib.hid (show Below w.heap.size w w0 from ⟨hg0.os, hg0.tape, hg0.output, hg0.size, fun k hk => hg0.block k hk (by simp)⟩)
      clear hown0 hg0
      go_enter Try.func22, Try.ntmps22
      go_wp2
      go_loopw [6, 38] (fun r i wr => ∃ k : Nat, k ≤ a.length ∧ i = .int .i64 k ∧ Own wr w.heap.size r (gen (interF a b) (k + min k b.length)) ∧ Below w.heap.size w wr)
        (fun _ i _ => a.length - (intOf i).toNat)
      case atStart => exact ⟨0, Nat.zero_le _, rfl, by rw [Nat.zero_min]; exact OE.out, OB.out⟩
      case round =>
        obtain ⟨k, hk, rfl, hown, hbel⟩ := hrel
        have hz := hbel.size
        by_cases hlt : k < a.length
        · have hm : min k b.length = k := Nat.min_eq_left (by omega)
          rw [hm] at hown
          clear hm
          obtain ⟨b1, o1, rfl, hb1, hcell⟩ := HR.out.1.ints (by omega)
          have hck : wr.cell? ⟨b1, o1 + k, none⟩ = some (.int .i64 (at_ a k)) := (hbel.cell (by exact hb1)).trans (hcell k hlt)
          have HO := Lib.hid (And.intro hown hbel)
          clear hown hbel hcell
          by_cases hlb : k < b.length
          · obtain ⟨b2, o2, rfl, hb2, hcell2⟩ := HR.out.2.ints (by omega)
            have hc2 := Lib.hid (hcell2 k hlb)
            clear hcell2
            go_wp2_with (first | (at_builtin; (refine app_int rfl (.tmp 43) (.tmp 45) (by rfl) w.heap.size _ _ (by rfl) (by exact HO.out.1.bel (bel_alloc _ _)) _ _ (at_ a k) (by rfl) (by exact new_cell _ _ _) (HV.out.1.2.at a k) (by rw [gen_length]; omega) (by simp; omega) ?_); intro v1 w1 ho hg _; have hbl := app_bel (bel_trans HO.out.2 (bel_alloc _ _)) (HO.out.1.bel (bel_alloc _ _)) hg; have hck2 : w1.cell? ⟨b2, o2 + k, none⟩ = some (.int .i64 (at_ b k)) := (hbl.cell (by exact hb2)).trans hc2.out; have ho' := own_step (m := k + k + 1) ho (interF_even a b k).symm rfl; have HP := Lib.hid (And.intro ho' hbl); have hz1 := hbl.size; clear ho hg ho' hbl) | (at_builtin; refine app_int rfl (.tmp 51) (.tmp 56) (by rfl) w.heap.size _ _ (by rfl) (by exact HP.out.1.bel (bel_alloc _ _)) _ _ (at_ b k) (by rfl) (by exact new_cell _ _ _) (HV.out.2.2.at b k) (by rw [gen_length]; omega) (by simp; omega) ?_; intro v2 w2 ho hg _))
            go_roundw
            case rel => exact ⟨k + 1, by omega, by go_num, own_step ho (interF_odd a b k).symm (by rw [Nat.min_eq_left (by omega)]; omega), app_bel (bel_trans HP.out.2 (bel_alloc _ _)) (HP.out.1.bel (bel_alloc _ _)) hg⟩
            case measure => simp [intOf]; omega
          · go_wp2_with (at_builtin; refine app_int rfl (.tmp 43) (.tmp 45) (by rfl) w.heap.size _ _ (by rfl) (by exact HO.out.1.bel (bel_alloc _ _)) _ _ (at_ a k) (by rfl) (by exact new_cell _ _ _) (HV.out.1.2.at a k) (by rw [gen_length]; omega) (by simp; omega) ?_; intro v1 w1 ho hg _)
            go_roundw
            case rel => exact ⟨k + 1, by omega, by go_num, own_step ho (interF_even a b k).symm (by rw [Nat.min_eq_right (by omega)]; omega), app_bel (bel_trans HO.out.2 (bel_alloc _ _)) (HO.out.1.bel (bel_alloc _ _)) hg⟩
            case measure => simp [intOf]; omega
        · have hka : k = a.length := by omega
          rw [hka, Nat.min_eq_right hba] at hown
          have HO := Lib.hid (And.intro hown hbel)
          clear hown hbel hka
          go_wp2
          go_ret2
          rw [HY.out.1, HY.out.2]
          exact ⟨_, rfl, HO.out.1, HO.out.2⟩
    · have q1 : ((a.length : Int) != (b.length : Int)) = true := by simp; omega
      have q2 : ((a.length : Int) != (b.length : Int) + 1) = false := by rw [h1]; simp
      clear h1
      obtain ⟨w0, hrun, hown0, hg0⟩ := run_make_own (P := Try.prog) w w.heap.size 22 3 i0 _ 1 Try.underlying22 hi hz0 hz1 .i64 .i64 (a.length + b.length) (by rw [hz2]; omega) (by unfold maxLen; omega) (Nat.le_refl _)
      rw [Int.natCast_add] at hrun
      have OE := Lib.hid (show Own w0 w.heap.size (.slice (some ⟨w.heap.size, 0, none⟩) 0 (a.length + b.length)) [] from ⟨hown0, fun _ h => by simp at h, by simp⟩)
      have OB := Lib.hid (show Below w.heap.size w w0 from ⟨hg0.os, hg0.tape, hg0.output, hg0.size, fun k hk => hg0.block k hk (by simp)⟩)
      clear hown0 hg0
      go_enter Try.func22, Try.ntmps22
      go_wp2
      go_loopw [6, 38] (fun r i wr => ∃ k : Nat, k ≤ a.length ∧ i = .int .i64 k ∧ Own wr w.heap.size r (gen (interF a b) (k + min k b.length)) ∧ Below w.heap.size w wr)
        (fun _ i _ => a.length - (intOf i).toNat)
      case atStart => exact ⟨0, Nat.zero_le _, rfl, by rw [Nat.zero_min]; exact OE.out, OB.out⟩
      case round =>
        obtain ⟨k, hk, rfl, hown, hbel⟩ := hrel
        have hz := hbel.size
        by_cases hlt : k < a.length
        · have hm : min k b.length = k := Nat.min_eq_left (by omega)
          rw [hm] at hown
          clear hm
          obtain ⟨b1, o1, rfl, hb1, hcell⟩ := HR.out.1.ints (by omega)
          have hck : wr.cell? ⟨b1, o1 + k, none⟩ = some (.int .i64 (at_ a k)) := (hbel.cell (by exact hb1)).trans (hcell k hlt)
          have HO := Lib.hid (And.intro hown hbel)
          clear hown hbel hcell
          by_cases hlb : k < b.length
          · obtain ⟨b2, o2, rfl, hb2, hcell2⟩ := HR.out.2.ints (by omega)
            have hc2 := Lib.hid (hcell2 k hlb)
            clear hcell2
            go_wp2_with (first | (at_builtin; (refine app_int rfl (.tmp 43) (.tmp 45) (by rfl) w.heap.size _ _ (by rfl) (by exact HO.out.1.bel (bel_alloc _ _)) _ _ (at_ a k) (by rfl) (by exact new_cell _ _ _) (HV.out.1.2.at a k) (by rw [gen_length]; omega) (by simp; omega) ?_); intro v1 w1 ho hg _; have hbl := app_bel (bel_trans HO.out.2 (bel_alloc _ _)) (HO.out.1.bel (bel_alloc _ _)) hg; have hck2 : w1.cell? ⟨b2, o2 + k, none⟩ = some (.int .i64 (at_ b k)) := (hbl.cell (by exact hb2)).trans hc2.out; have ho' := own_step (m := k + k + 1) ho (interF_even a b k).symm rfl; have HP := Lib.hid (And.intro ho' hbl); have hz1 := hbl.size; clear ho hg ho' hbl) | (at_builtin; refine app_int rfl (.tmp 51) (.tmp 56) (by rfl) w.heap.size _ _ (by rfl) (by exact HP.out.1.bel (bel_alloc _ _)) _ _ (at_ b k) (by rfl) (by exact new_cell _ _ _) (HV.out.2.2.at b k) (by rw [gen_length]; omega) (by simp; omega) ?_; intro v2 w2 ho hg _))
            go_roundw
            case rel => exact ⟨k + 1, by omega, by go_num, own_step ho (interF_odd a b k).symm (by rw [Nat.min_eq_left (by omega)]; omega), app_bel (bel_trans HP.out.2 (bel_alloc _ _)) (HP.out.1.bel (bel_alloc _ _)) hg⟩
            case measure => simp [intOf]; omega
          · go_wp2_with (at_builtin; refine app_int rfl (.tmp 43) (.tmp 45) (by rfl) w.heap.size _ _ (by rfl) (by exact HO.out.1.bel (bel_alloc _ _)) _ _ (at_ a k) (by rfl) (by exact new_cell _ _ _) (HV.out.1.2.at a k) (by rw [gen_length]; omega) (by simp; omega) ?_; intro v1 w1 ho hg _)
            go_roundw
            case rel => exact ⟨k + 1, by omega, by go_num, own_step ho (interF_even a b k).symm (by rw [Nat.min_eq_right (by omega)]; omega), app_bel (bel_trans HO.out.2 (bel_alloc _ _)) (HO.out.1.bel (bel_alloc _ _)) hg⟩
            case measure => simp [intOf]; omega
        · have hka : k = a.length := by omega
          rw [hka, Nat.min_eq_right hba] at hown
          have HO := Lib.hid (And.intro hown hbel)
          clear hown hbel hka
          go_wp2
          go_ret2
          rw [HY.out.1, HY.out.2]
          exact ⟨_, rfl, HO.out.1, HO.out.2⟩
  · have HN := Lib.hid (And.intro (inter_no h) (Bool.eq_false_iff.2 h))
    have h' := fun x => h (interOk_true.2 x)
    clear h
    by_cases h1 : a.length = b.length
    · have q1 : ((a.length : Int) != (b.length : Int)) = false := by simp [h1]
      have q3 : (60 : Int) < (a.length : Int) + (b.length : Int) := by
        have : ¬ (a.length + b.length ≤ 60) := fun x => h' ⟨.inl h1, x⟩
        omega
      clear h1 h'
      go_enter Try.func22, Try.ntmps22
      go_wp2
      go_ret2
      rw [HN.out.1, HN.out.2]
      exact ⟨_, rfl, Own.nil_ _ _, Below.refl _ _⟩
    · have q1 : ((a.length : Int) != (b.length : Int)) = true := by simp; omega
      by_cases h2 : a.length = b.length + 1
      · have q2 : ((a.length : Int) != (b.length : Int) + 1) = false := by rw [h2]; simp
        have q3 : (60 : Int) < (a.length : Int) + (b.length : Int) := by
          have : ¬ (a.length + b.length ≤ 60) := fun x => h' ⟨.inr h2, x⟩
          omega
        clear h1 h2 h'
        go_enter Try.func22, Try.ntmps22
        go_wp2
        go_ret2
        rw [HN.out.1, HN.out.2]
        exact ⟨_, rfl, Own.nil_ _ _, Below.refl _ _⟩
      · have q2 : ((a.length : Int) != (b.length : Int) + 1) = true := by simp; omega
        clear h1 h2 h'
        go_enter Try.func22, Try.ntmps22
        go_wp2
        go_ret2
        rw [HN.out.1, HN.out.2]
        exact ⟨_, rfl, Own.nil_ _ _, Below.refl _ _⟩


end Go.Proofs.Ytplalhehdfkipaa
