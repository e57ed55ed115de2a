/-
  Sheets: l9Many of a space, l6Entry, PagesNeeded (both), places, l6Line.
-/
import Derived.Test.YtdmadaebeooaaaaGreatDoorShP
import Derived.Test.YtdmadaebeooaaaaGreatDoorBld
import Derived.LoopN
import Derived.Deep.RegionHeld3
namespace Go.Proofs.YtdmadaebeooaaaaGreatDoor
open Go.RowKit
set_option linter.unusedVariables false
set_option linter.unusedSimpArgs false
set_option maxRecDepth 100000
attribute [local go_sem ↓] Go.wp_at_zero Go.wp_at_succ

set_option maxHeartbeats 4000000 in
theorem spMany_any (n : Nat) (w : World) (hn : n ≤ 12) :
    Calls Tryz.prog 155 #[.string ⟨#[32]⟩, .int .i64 n] w fun e w' => e = .returned (.string (spS n)) ∧ w = w' := by
  obtain rfl | rfl | rfl | rfl | rfl | rfl | rfl | rfl | rfl | rfl | rfl | rfl | rfl : n = 0 ∨ n = 1 ∨ n = 2 ∨ n = 3 ∨ n = 4 ∨ n = 5 ∨ n = 6 ∨ n = 7 ∨ n = 8 ∨ n = 9 ∨ n = 10 ∨ n = 11 ∨ n = 12 := by omega
  all_goals
    go_enter Tryz.func155, Tryz.ntmps155
    go_wp2_with fail
    refine wp_loop_rounds 5 ?_
    repeat any_goals (rw [rounds_succ]; go_wp2_with fail)
    go_ret
    exact ⟨rfl, rfl⟩

/-- What l6Entry, l6Line return: a text and whether it fits. -/
def TxtB (s : ByteArray) (P : Prop) (e : Ending) : Prop := (P ∧ e = .returned (.tuple #[.string s, .bool true])) ∨ (¬ P ∧ ∃ t, e = .returned (.tuple #[.string t, .bool false]))

set_option maxHeartbeats 2000000 in
theorem l6Entry_any (v : Int) (W : Nat) (w : World) (hv : -9223372036854775808 ≤ v ∧ v ≤ 9223372036854775807) (hW : W ≤ 12) :
    Calls Tryz.prog 132 #[.int .i64 v, .int .i64 W] w fun e w' => TxtB (padS W v) ((itoaS v).size ≤ W) e ∧ Below w.heap.size w w' := by
  have hs := itoaS_size hv.1 hv.2
  go_enter Tryz.func132, Tryz.ntmps132
  go_wp2_with fail
  refine (l9Dec_any v _ hv.1 hv.2).mono ?_
  rintro e w2 ⟨rfl, b2⟩
  have HB := Lib.hid b2
  clear b2
  obtain ⟨m, hm⟩ : ∃ m : Nat, (itoaS v).size = m := ⟨_, rfl⟩
  by_cases h : m ≤ W
  · have HP := Lib.hid (show padS W v = spS (W - m) ++ itoaS v by rw [← hm]; rfl)
    have hlt : ¬ (W : Int) < m := by omega
    obtain ⟨d, hd⟩ : ∃ d : Nat, W - m = d := ⟨_, rfl⟩
    have hsub : ((W : Int) - (m : Int)) = (d : Int) := by omega
    have hd12 : d ≤ 12 := by omega
    have hsz := spS_size d
    have hcat : ¬ 9223372036854775807 < (spS d).size + (itoaS v).size := by omega
    have hcat2 : ¬ 9223372036854775807 < d + m := by omega
    have H := Lib.hid (And.intro h (And.intro hm hd))
    clear h hd
    go_wp2_with fail
    refine (spMany_any d _ hd12).mono ?_
    rintro e w3 ⟨rfl, rfl⟩
    go_wp2
    go_ret2
    refine ⟨.inl ⟨by rw [H.out.2.1]; exact H.out.1, ?_⟩, HB.out⟩
    rw [HP.out, H.out.2.2]
    rfl
  · have hlt : (W : Int) < m := by omega
    have hlt2 : W < m := by omega
    go_wp2
    go_ret2
    exact ⟨.inr ⟨by rw [hm]; exact h, _, rfl⟩, HB.out⟩

/-- The cells of a layout's block. -/
theorem Blk.lay {w : World} {g : Nat} {t : TypeId} {a b c : Value} (h : Blk w g t [a, b, c]) : w.cell? ⟨g, 0, none⟩ = some a ∧ w.cell? ⟨g, 1, none⟩ = some b ∧ w.cell? ⟨g, 2, none⟩ = some c := by
  refine ⟨?_, ?_, ?_⟩ <;> rw [h.cell] <;> rfl
theorem layOk_nat {R A W : Nat} (h1 : 1 ≤ R ∧ R ≤ 20) (h2 : 1 ≤ A ∧ A ≤ 6) (h3 : 1 ≤ W ∧ W ≤ 12) : layOk R A W = true := by simp [layOk, inB]; omega
theorem mul_le_RA {R A : Nat} (h1 : R ≤ 20) (h2 : A ≤ 6) : R * A ≤ 120 := Nat.mul_le_mul h1 h2
theorem wrapMul {a b m : Nat} (h : a * b = m) (hm : m ≤ 1000000) : wrap64 ((a : Int) * (b : Int)) = (m : Int) := by
  have e : (a : Int) * (b : Int) = (m : Int) := by rw [← h]; push_cast; rfl
  rw [e]
  exact IntWalk.wrap64_in _ (by omega)
theorem divNat (a b : Nat) : ((a : Int)).tdiv (b : Int) = ((a / b : Nat) : Int) := by
  rw [Int.tdiv_eq_ediv_of_nonneg (by omega)]
  rfl

set_option maxHeartbeats 2000000 in
theorem specPN_any (R A W : Nat) (l : List Int) (w : World) (h1 : 1 ≤ R ∧ R ≤ 20) (h2 : 1 ≤ A ∧ A ≤ 6) (h3 : 1 ≤ W ∧ W ≤ 12) (hl : l.length ≤ 60) :
    Calls Tryz.prog 65 #[.agg #[.int .i64 R, .int .i64 A, .int .i64 W], .int .i64 l.length] w fun e w' => e = .returned (.int .i64 (pgN l (R * A) : Nat)) ∧ Below w.heap.size w w' := by
  have hlay := layOk_nat h1 h2 h3
  have hin : inB (l.length : Int) 0 60 = true := by simp [inB]; omega
  obtain ⟨M, hM⟩ : ∃ M : Nat, R * A = M := ⟨_, rfl⟩
  have hM0 : 0 < M := by rw [← hM]; exact Nat.mul_pos h1.1 h2.1
  have hM1 : M ≤ 120 := by rw [← hM]; exact mul_le_RA h1.2 h2.2
  have hw1 := wrapMul hM (by omega)
  rw [hM]
  obtain ⟨q, hq⟩ : ∃ q : Nat, pgN l M = q := ⟨_, rfl⟩
  have hw2 : ((l.length : Int) + (M : Int) - 1).tdiv (M : Int) = (q : Int) := by
    have : (l.length : Int) + (M : Int) - 1 = ((l.length + M - 1 : Nat) : Int) := by omega
    rw [this, divNat, ← hq]
    rfl
  have hq2 : q ≤ 60 := by rw [← hq]; exact Nat.le_trans (pgN_le hM0) hl
  have hw3 : wrap64 (q : Int) = q := IntWalk.wrap64_in _ (by omega)
  have hM3 : ¬ M = 0 := by omega
  have hM4 : ¬ (M : Int) = 0 := by omega
  rw [hq]
  clear hM hq
  have K1 := Blk.new w 30 [.int .i64 R, .int .i64 A, .int .i64 W]
  have B1 := bel_alloc w (.cells #[.int .i64 R, .int .i64 A, .int .i64 W] 30)
  obtain ⟨a0, a1, a2⟩ := K1.lay
  go_enter Tryz.func65, Tryz.ntmps65
  go_wp2_with fail
  refine (specLay_any R A W _).mono ?_
  rintro e w2 ⟨rfl, b2⟩
  rw [hlay]
  obtain ⟨c0, c1, c2⟩ := (K1.below b2 K1.lt).lay
  have HB := Lib.hid (bel_trans B1 b2)
  clear a0 a1 a2 b2 B1 K1
  go_wp2_with fail
  refine (l1In_any _ _ _ _).mono ?_
  rintro e w3 ⟨rfl, rfl⟩
  rw [hin]
  go_wp2
  go_ret
  exact ⟨rfl, HB.out⟩
set_option maxHeartbeats 2000000 in
theorem places_any (R A W M : Nat) (w : World) (hw1 : wrap64 ((R : Int) * (A : Int)) = (M : Int)) :
    Calls Tryz.prog 102 #[.agg #[.int .i64 R, .int .i64 A, .int .i64 W]] w fun e w' => e = .returned (.int .i64 M) ∧ Below w.heap.size w w' := by
  have K1 := Blk.new w 30 [.int .i64 R, .int .i64 A, .int .i64 W]
  have B1 := Lib.hid (bel_alloc w (.cells #[.int .i64 R, .int .i64 A, .int .i64 W] 30))
  obtain ⟨a0, a1, a2⟩ := K1.lay
  go_enter Tryz.func102, Tryz.ntmps102
  go_wp2
  go_ret
  exact ⟨by rw [← hw1]; rfl, B1.out⟩
set_option maxHeartbeats 1000000 in
theorem cntV_any (n : Int) (w : World) (h : 0 ≤ n ∧ n ≤ 60) :
    Calls Tryz.prog 101 #[.int .i64 n] w fun e w' => e = .returned (.bool true) ∧ w = w' := by
  obtain ⟨h0, h1⟩ := h
  go_enter Tryz.func101, Tryz.ntmps101
  go_wp2
  go_ret
  exact ⟨rfl, rfl⟩
set_option maxHeartbeats 2000000 in
theorem implPN_any (R A W : Nat) (l : List Int) (w : World) (h1 : 1 ≤ R ∧ R ≤ 20) (h2 : 1 ≤ A ∧ A ≤ 6) (h3 : 1 ≤ W ∧ W ≤ 12) (hl : l.length ≤ 60) :
    Calls Tryz.prog 68 #[.agg #[.int .i64 R, .int .i64 A, .int .i64 W], .int .i64 l.length] w fun e w' => e = .returned (.int .i64 (pgN l (R * A) : Nat)) ∧ Below w.heap.size w w' := by
  have hlay := layOk_nat h1 h2 h3
  have hin : inB (l.length : Int) 0 60 = true := by simp [inB]; omega
  obtain ⟨M, hM⟩ : ∃ M : Nat, R * A = M := ⟨_, rfl⟩
  have hM0 : 0 < M := by rw [← hM]; exact Nat.mul_pos h1.1 h2.1
  have hM1 : M ≤ 120 := by rw [← hM]; exact mul_le_RA h1.2 h2.2
  have hw1 := Lib.hid (wrapMul hM (by omega))
  rw [hM]
  obtain ⟨q, hq⟩ : ∃ q : Nat, pgN l M = q := ⟨_, rfl⟩
  have hw2 : ((l.length : Int) + (M : Int) - 1).tdiv (M : Int) = (q : Int) := by
    have : (l.length : Int) + (M : Int) - 1 = ((l.length + M - 1 : Nat) : Int) := by omega
    rw [this, divNat, ← hq]
    rfl
  have hq2 : q ≤ 60 := by rw [← hq]; exact Nat.le_trans (pgN_le hM0) hl
  have hw3 : wrap64 (q : Int) = q := IntWalk.wrap64_in _ (by omega)
  have hM3 : ¬ M = 0 := by omega
  have hM4 : ¬ (M : Int) = 0 := by omega
  rw [hq]
  clear hM hq
  have K1 := Blk.new w 30 [.int .i64 R, .int .i64 A, .int .i64 W]
  have B1 := bel_alloc w (.cells #[.int .i64 R, .int .i64 A, .int .i64 W] 30)
  obtain ⟨a0, a1, a2⟩ := K1.lay
  go_enter Tryz.func68, Tryz.ntmps68
  go_wp2_with fail
  refine (implLay_any R A W _).mono ?_
  rintro e w2 ⟨rfl, b2⟩
  rw [hlay]
  replace K1 := K1.below b2 K1.lt
  have HB := Lib.hid (bel_trans B1 b2)
  clear a0 a1 a2 b2 B1
  obtain ⟨a0, a1, a2⟩ := K1.lay
  go_wp2_with fail
  refine (cntV_any _ _ (by omega)).mono ?_
  rintro e w3 ⟨rfl, rfl⟩
  go_wp2_with fail
  have hlt := K1.lt
  have tok1 : True := trivial
  have tok2 : True := trivial
  go_region_held3 (fun w' => w'.cell? ⟨w.heap.size, 0, none⟩ = some (.int .i64 R) ∧ w'.cell? ⟨w.heap.size, 1, none⟩ = some (.int .i64 A) ∧ w'.cell? ⟨w.heap.size, 2, none⟩ = some (.int .i64 W)) (first | exact ⟨a0, a1, a2⟩ | exact ⟨a0', a1', a2'⟩ | exact ⟨d0', d1', d2'⟩ | go_keep) (first
    | ((try go_simp); go_at_call 102; have _t := tok1; refine (places_any R A W M _ hw1.out).mono ?_; rintro e w5 ⟨rfl, b5⟩; replace b5 : Below w2.heap.size w2 w5 := (by first | exact b5 | exact bel_trans ((Below.refl _ _).drew) b5); obtain ⟨a0', a1', a2'⟩ := (K1.below b5 hlt).lay; clear tok1; (try dsimp only))
    | ((try go_simp); go_at_call 102; have _t := tok2; refine (places_any R A W M _ hw1.out).mono ?_; rintro e w6 ⟨rfl, b6⟩; replace b6 : Below w2.heap.size w2 w6 := bel_trans b5 b6; obtain ⟨d0', d1', d2'⟩ := (K1.below b6 hlt).lay; clear tok2; (try dsimp only))
    | fail)
  all_goals
    clear a0 a1 a2 a0' a1' a2' d0' d1' d2'
    go_wp2
    go_ret
    refine ⟨congrArg (fun z => Ending.returned (.int .i64 z)) (?_ : IntKind.i64.wrap ((IntKind.i64.wrap (IntKind.i64.wrap ((l.length : Int) + (M : Int)) - 1)).tdiv (M : Int)) = (q : Int)), bel_trans HB.out b6⟩
    rw [IntWalk.i64_left, IntWalk.i64_left, IntWalk.i64_left, IntWalk.wrap64_in ((l.length : Int) + (M : Int)) (by omega), IntWalk.wrap64_in ((l.length : Int) + (M : Int) - 1) (by omega), hw2, hw3]

end Go.Proofs.YtdmadaebeooaaaaGreatDoor
