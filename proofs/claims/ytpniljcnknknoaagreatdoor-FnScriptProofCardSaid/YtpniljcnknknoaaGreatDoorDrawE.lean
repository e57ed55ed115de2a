/-
  Drawn columns: of, l9Many, l1Any, l1Some, l1Bad.
-/
import Derived.Test.YtpniljcnknknoaaGreatDoorDraw
import Derived.Test.YtpniljcnknknoaaGreatDoorDrawA
import Derived.Test.YtpniljcnknknoaaGreatDoorCols
import Derived.LoopN
namespace Go.Proofs.YtpniljcnknknoaaGreatDoor
open Go.RowKit
set_option linter.unusedVariables false
set_option linter.unusedSimpArgs false
set_option maxRecDepth 100000
attribute [local go_sem ↓] Go.wp_at_zero Go.wp_at_succ

theorem bv_set (l : List Int) (k : Nat) (z : Int) : (bv l).set k (.int .u8 z) = bv (l.set k z) := by simp [bv, List.map_set]

/-- A drawn string of at most B bytes. -/
def DrawnStr (g K' : Nat) (w : World) (lo hi : Nat) (e : Ending) (w' : World) : Prop :=
  ∃ s : ByteArray, e = .returned (.string s) ∧ lo ≤ s.size ∧ s.size ≤ hi ∧ Rdr w' g K' ∧ w.grownBy w' (some g)


set_option maxHeartbeats 2000000 in
theorem l9Many_any (n : Int) (w : World) (hn : n = 12 ∨ n = 13) :
    Calls Tryz.prog 245 #[.string ⟨#[57]⟩, .int .i64 n] w fun e w' => ∃ s : ByteArray, e = .returned (.string s) ∧ s.size ≤ 16 ∧ w = w' := by
  rcases hn with rfl | rfl
  all_goals
    go_enter Tryz.func245, Tryz.ntmps245
    go_wp2_with fail
    refine wp_loop_rounds 5 ?_
    repeat any_goals (rw [rounds_succ]; go_wp2_with fail)
    go_ret
    exact ⟨_, rfl, by decide, rfl⟩

set_option maxHeartbeats 1000000 in
theorem l1Any_any (g K : Nat) (w : World) (hr : Rdr w g K) (hK : K ≤ 100000000) :
    Calls Tryz.prog 147 #[.pointer (some ⟨g, 0, none⟩)] w fun e w' => ∃ n : Nat, e = .returned (.int .i64 n) ∧ 1 ≤ n ∧ n ≤ 12 ∧ Rdr w' g (K + 1) ∧ w.grownBy w' (some g) := by
  have HR := Lib.hid hr
  have hgw := hr.lt
  clear hr
  go_enter Tryz.func147, Tryz.ntmps147
  go_wp2_with fail
  refine (num_any g K _ [4, 6, 1, 2, 3, 5, 8, 12] _ (HR.out.bel (bel_alloc _ _)) (by omega) (lit_own _ [4, 6, 1, 2, 3, 5, 8, 12] w.heap.size 0 rfl (by omega) (by simp) (wf_lit (by simp))).ints (by simp) (lit_ne (by omega))).mono ?_
  rintro e w1 ⟨m, rfl, hm, hr1, hg1⟩
  have hm' : 1 ≤ m ∧ m ≤ 12 := by simp at hm; omega
  obtain ⟨m, rfl⟩ : ∃ n : Nat, m = n := ⟨m.toNat, by omega⟩
  have H := Lib.hid (And.intro hr1 (grown_trans (only_alloc (World.grownBy.refl w (some g)) _) hg1 (fun j hj => .inl (by injection hj with hj; exact hj.symm))))
  clear hr1 hg1 hm
  go_wp2
  go_ret
  exact ⟨m, rfl, by omega, by omega, H.out.1, H.out.2⟩



end Go.Proofs.YtpniljcnknknoaaGreatDoor
