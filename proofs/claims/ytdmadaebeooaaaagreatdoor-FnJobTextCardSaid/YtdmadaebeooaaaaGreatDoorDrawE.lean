/-
  Drawn columns: of, l9Many, l1Any, l1Some, l1Bad.
-/
import Derived.Test.YtdmadaebeooaaaaGreatDoorDraw
import Derived.Test.YtdmadaebeooaaaaGreatDoorDrawA
import Derived.Test.YtdmadaebeooaaaaGreatDoorCols
import Derived.LoopN
namespace Go.Proofs.YtdmadaebeooaaaaGreatDoor
open Go.RowKit
set_option linter.unusedVariables false
set_option linter.unusedSimpArgs false
set_option maxRecDepth 100000
attribute [local go_sem ↓] Go.wp_at_zero Go.wp_at_succ

theorem bv_set (l : List Int) (k : Nat) (z : Int) : (bv l).set k (.int .u8 z) = bv (l.set k z) := by simp [bv, List.map_set]

/-- A drawn string of at most B bytes. -/
def DrawnStr (g K' : Nat) (w : World) (lo hi : Nat) (e : Ending) (w' : World) : Prop :=
  ∃ s : ByteArray, e = .returned (.string s) ∧ lo ≤ s.size ∧ s.size ≤ hi ∧ Rdr w' g K' ∧ w.grownBy w' (some g)

set_option maxHeartbeats 1000000 in
theorem of_any (g K : Nat) (v : Value) (l : List ByteArray) (B : Nat) (w : World) (hr : Rdr w g K) (hK : K ≤ 1000000000) (hv : Strs w v l) (hl : 0 < l.length) (hne : ∀ a n c, v = .slice (some a) n c → 0 < l.length → a.block ≠ g) (hB : ∀ s ∈ l, s.size ≤ B) :
    Calls Tryz.prog 56 #[.pointer (some ⟨g, 0, none⟩), v] w (DrawnStr g (K + 1) w 0 B) := by
  have hlen := hv.open_
  obtain ⟨A, c, rfl, hlc, hc, hrd⟩ := hlen
  obtain ⟨b, o, rfl, hb, hcell⟩ := hrd.strs hl
  have hbg := hne _ _ _ rfl hl
  have HC := Lib.hid hcell
  clear hcell hne
  go_enter Tryz.func56, Tryz.ntmps56
  go_wp2_with fail
  refine (pick_any g K _ _ hr hK (by omega)).mono ?_
  rintro e w1 ⟨m, rfl, hm, -, hr1, hg1⟩
  have hm' := hm (by omega)
  obtain ⟨n, rfl⟩ : ∃ n : Nat, m = n := ⟨m.toNat, by omega⟩
  have hcn : w1.cell? ⟨b, o + n, none⟩ = some (.string (sat l n)) := hg1.cell (HC.out n (by omega)) (fun e => by injection e with e; exact hbg e)
  have H := Lib.hid (And.intro hr1 hg1)
  clear hm hr1 hg1
  go_wp2
  go_ret
  exact ⟨_, rfl, Nat.zero_le _, hB _ (sat_mem l n (by omega)), H.out.1, H.out.2⟩

set_option maxHeartbeats 2000000 in
theorem l9Many_any (n : Int) (w : World) (hn : n = 12 ∨ n = 13) :
    Calls Tryz.prog 155 #[.string ⟨#[57]⟩, .int .i64 n] w fun e w' => ∃ s : ByteArray, e = .returned (.string s) ∧ s.size ≤ 16 ∧ w = w' := by
  rcases hn with rfl | rfl
  all_goals
    go_enter Tryz.func155, Tryz.ntmps155
    go_wp2_with fail
    refine wp_loop_rounds 5 ?_
    repeat any_goals (rw [rounds_succ]; go_wp2_with fail)
    go_ret
    exact ⟨_, rfl, by decide, rfl⟩




end Go.Proofs.YtdmadaebeooaaaaGreatDoor
