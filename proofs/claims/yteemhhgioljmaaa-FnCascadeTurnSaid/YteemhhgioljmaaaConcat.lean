/-
  Contracts of slices.Grow and slices.Concat on slices of strings.
-/
import Derived.Test.YteemhhgioljmaaaEngLaw
import Derived.Lib.AppendZeros
import Derived.LoopN
namespace Go.Proofs.Yteemhhgioljmaaa
open Go.RowKit
set_option linter.unusedVariables false
set_option maxRecDepth 100000
attribute [local go_sem ↓] Go.wp_at_zero Go.wp_at_succ

set_option maxHeartbeats 1000000 in
theorem grow_any (n : Int) (w : World) (hn : 1 ≤ n ∧ n ≤ 14) :
    Calls Try.prog 180 #[.slice none 0 0, .int .i64 n] w fun e w' => ∃ r, e = .returned r ∧ OwnS w' w.heap.size r [] ∧ Below w.heap.size w w' := by
  obtain ⟨k, rfl⟩ : ∃ k : Nat, n = k := ⟨n.toNat, by omega⟩
  obtain ⟨i0, hi, hz0, hz1, hz2⟩ := info_parts Try.infoStr
  have hr := Lib.hid (Lib.run_append_nil_zeros (P := Try.prog) w 27 3 27 9 i0 _ .i64 .i64 Try.underlying27 Try.underlying3 hi hz0 k (by omega) (by omega) (by omega) (by rw [hz2]; omega))
  have hge := grownCap_ge w k 0 9
  have hle : grownCap w k 0 9 ≤ maxLen := grownCap_le_maxLen w k 0 9 (by unfold maxLen; omega)
  unfold maxLen at hle
  go_enter Try.func180, Try.ntmps180
  go_wp2_with (at_builtin; refine Lib.wpList_append_run _ rfl _ _ _ _ rfl (.slice none 0 0) (.int .i64 k) rfl rfl _ _ hr.out ?_)
  go_ret
  refine ⟨_, rfl, OwnS.mk' (cs := (Builtin.zeroCells (Value.string ⟨#[]⟩).cells k ++ Builtin.zeroCells (Value.string ⟨#[]⟩).cells (grownCap w k 0 9 - k)).toList) (l := []) (Nat.le_refl _) ?_ (Nat.zero_le _) (by omega) ?_ (fun j hj => absurd hj (by simp)) (fun _ h => by simp at h), ?_⟩
  · have := heap_alloc_new w.drew (.cells (Builtin.zeroCells (Value.string ⟨#[]⟩).cells k ++ Builtin.zeroCells (Value.string ⟨#[]⟩).cells (grownCap w k 0 9 - k)) 9)
    unfold Blk
    rw [Array.toArray_toList]
    exact this
  · rw [Array.length_toList, Array.size_append, size_zeroCells, size_zeroCells]
    have : (Value.string ⟨#[]⟩).cells.size = 1 := rfl
    rw [this]; omega
  · exact ((Below.refl _ _).drew).alloc (Nat.le_refl _) _

set_option maxHeartbeats 2000000 in
theorem concat_any (g : Nat) (v0 v1 : Value) (l0 l1 : List ByteArray) (w : World) (h0 : Strs w v0 l0) (h1 : Strs w v1 l1) (c0 : w.cell? ⟨g, 0, none⟩ = some v0) (c1 : w.cell? ⟨g, 1, none⟩ = some v1)
    (b0 : 1 ≤ l0.length ∧ l0.length ≤ 7) (b1 : 1 ≤ l1.length ∧ l1.length ≤ 7) :
    Calls Try.prog 141 #[.slice (some ⟨g, 0, none⟩) 2 2] w fun e w' => ∃ r, e = .returned r ∧ OwnS w' w.heap.size r (l0 ++ l1) ∧ Below w.heap.size w w' := by
  have H0 := Lib.hid h0
  have H1 := Lib.hid h1
  obtain ⟨A0, d0, rfl, -, -, -⟩ := h0.open_
  obtain ⟨A1, d1, rfl, -, -, -⟩ := h1.open_
  clear h0 h1
  have hg : g < w.heap.size := by simpa using World.block_lt_of_cell? w _ c0
  go_enter Try.func141, Try.ntmps141
  go_wp2_with fail
  refine wp_loop_rounds 3 ?_
  repeat any_goals (rw [rounds_succ]; go_wp2_with fail)
  refine (grow_any _ _ (by omega)).mono ?_
  rintro e w2 ⟨r, rfl, ho, hb2⟩
  have c0' : w2.cell? ⟨g, 0, none⟩ = some (.slice A0 l0.length d0) := (hb2.cell (by exact hg)).trans c0
  have c1' : w2.cell? ⟨g, 1, none⟩ = some (.slice A1 l1.length d1) := (hb2.cell (by exact hg)).trans c1
  have HO := Lib.hid ho
  have HZ := Lib.hid (And.intro hb2 hb2.size)
  clear ho hb2 c0 c1
  go_wp2_with fail
  refine wp_loop_rounds 3 ?_
  rw [rounds_succ]
  go_wp2_with (at_builtin; refine app_strs rfl (.tmp 31) (.tmp 32) (by rfl) w.heap.size _ _ [] l0 (by rfl) (by exact HO.out) (by rfl) (by exact H0.out.bel HZ.out.1) (by simp; omega) (by have := HZ.out.2; omega) ?_; intro v3 w3 ho3 hg3 hat3; replace ho3 : OwnS w3 w.heap.size v3 l0 := ho3; have hb3 := below_own hg3 HZ.out.2 (fun k hk => (HO.out.lt k hk).1); replace c1' := (hb3.cell (by exact hg)).trans c1'; have HO3 := Lib.hid ho3; have HB3 := Lib.hid (HZ.out.1.trans hb3); clear ho3 hg3 hat3 hb3 c0')
  rw [rounds_succ]
  go_wp2_with (at_builtin; refine app_strs rfl (.tmp 31) (.tmp 32) (by rfl) w.heap.size _ _ l0 l1 (by rfl) (by exact HO3.out) (by rfl) (by exact H1.out.bel HB3.out) (by omega) (by have := HB3.out.size; omega) ?_; intro v4 w4 ho4 hg4 hat4; have hb4 := below_own hg4 HB3.out.size (fun k hk => (HO3.out.lt k hk).1); have HO4 := Lib.hid ho4; have HB4 := Lib.hid (HB3.out.trans hb4); clear ho4 hg4 hat4 hb4)
  rw [rounds_succ]
  go_wp2_with fail
  go_ret
  exact ⟨_, rfl, HO4.out, HB4.out⟩

end Go.Proofs.Yteemhhgioljmaaa
