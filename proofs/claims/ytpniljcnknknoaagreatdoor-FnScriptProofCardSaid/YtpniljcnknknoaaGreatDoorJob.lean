/-
  Jobs: contracts of what the laws do with them, and of their parts.
-/
import Derived.Test.YtpniljcnknknoaaGreatDoorSetUp
import Derived.Deep.RegionHeld3
namespace Go.Proofs.YtpniljcnknknoaaGreatDoor
open Go.RowKit
set_option linter.unusedVariables false
set_option linter.unusedSimpArgs false
set_option maxRecDepth 100000
attribute [local go_sem ↓] Go.wp_at_zero Go.wp_at_succ

def i64in (n : Int) : Prop := -9223372036854775808 ≤ n ∧ n ≤ 9223372036854775807
/-- A job's numbers. -/
structure JobD where
  poly : List Int
  fr : Int
  ct : Int
  wd : Int
  dg : Int
  wy : Int
  rw : Int
  ac : Int
  wi : Int
structure JobD.In (j : JobD) : Prop where
  fr : -9223372036854775808 ≤ j.fr ∧ j.fr ≤ 9223372036854775807
  ct : -9223372036854775808 ≤ j.ct ∧ j.ct ≤ 9223372036854775807
  wd : -9223372036854775808 ≤ j.wd ∧ j.wd ≤ 9223372036854775807
  dg : -9223372036854775808 ≤ j.dg ∧ j.dg ≤ 9223372036854775807
  wy : -9223372036854775808 ≤ j.wy ∧ j.wy ≤ 9223372036854775807
  rw : -9223372036854775808 ≤ j.rw ∧ j.rw ≤ 9223372036854775807
  ac : -9223372036854775808 ≤ j.ac ∧ j.ac ≤ 9223372036854775807
  wi : -9223372036854775808 ≤ j.wi ∧ j.wi ≤ 9223372036854775807

def layOk (a b c : Int) : Bool := inB a 1 20 && inB b 1 6 && inB c 1 12
def wayOk (d y : Int) : Bool := inB d 0 6 && inB y 0 2

set_option maxHeartbeats 1000000 in
theorem l6Way_any (d y : Int) (w : World) :
    Calls Tryz.prog 176 #[.int .i64 d, .int .i64 y] w fun e w' => e = .returned (.bool (wayOk d y)) ∧ w = w' := by
  cases h1 : inB d 0 6
  all_goals cases h2 : inB y 0 2
  all_goals
    have H := Lib.hid (show wayOk d y = (inB d 0 6 && inB y 0 2) from rfl)
    go_enter Tryz.func176, Tryz.ntmps176
    go_wp2_with (go_at_call 138; refine (l1In_any _ _ _ _).mono ?_; rintro e w' ⟨rfl, rfl⟩)
    go_ret
    exact ⟨by rw [H.out, h1, h2]; rfl, rfl⟩

set_option maxHeartbeats 1000000 in
theorem rounding_any (d y : Int) (w : World) :
    Calls Tryz.prog 71 #[.int .i64 d, .int .i64 y] w fun e w' => e = .returned (.bool (wayOk d y)) ∧ w = w' := by
  go_enter Tryz.func71, Tryz.ntmps71
  go_wp2
  all_goals (go_ret; refine ⟨ret_bool ?_, rfl⟩; simp_all [wayOk, inB])
  all_goals (intros; omega)

set_option maxHeartbeats 2000000 in
theorem implLay_any (a b c : Int) (w : World) :
    Calls Tryz.prog 63 #[.agg #[.int .i64 a, .int .i64 b, .int .i64 c]] w fun e w' => e = .returned (.bool (layOk a b c)) ∧ Below w.heap.size w w' := by
  go_enter Tryz.func63, Tryz.ntmps63
  go_wp2
  all_goals (go_ret; refine ⟨ret_bool ?_, bel_alloc _ _⟩)
  all_goals simp_all [layOk, inB]
  all_goals (intros; omega)

set_option maxHeartbeats 2000000 in
theorem specLay_any (a b c : Int) (w : World) :
    Calls Tryz.prog 67 #[.agg #[.int .i64 a, .int .i64 b, .int .i64 c]] w fun e w' => e = .returned (.bool (layOk a b c)) ∧ Below w.heap.size w w' := by
  cases h1 : inB a 1 20
  all_goals cases h2 : inB b 1 6
  all_goals cases h3 : inB c 1 12
  all_goals
    have H := Lib.hid (show layOk a b c = (inB a 1 20 && inB b 1 6 && inB c 1 12) from rfl)
    go_enter Tryz.func67, Tryz.ntmps67
    go_wp2_with (go_at_call 138; refine (l1In_any _ _ _ _).mono ?_; rintro e w' ⟨rfl, rfl⟩)
    go_ret
    exact ⟨by rw [H.out, h1, h2, h3]; rfl, bel_alloc _ _⟩



/-- The value of a job. -/
def jobV (v : Value) (j : JobD) : Value := .agg #[v, .int .i64 j.fr, .int .i64 j.ct, .int .i64 j.wd, .int .i64 j.dg, .int .i64 j.wy, .int .i64 j.rw, .int .i64 j.ac, .int .i64 j.wi]
def jobC (v : Value) (j : JobD) : List Value := [v, .int .i64 j.fr, .int .i64 j.ct, .int .i64 j.wd, .int .i64 j.dg, .int .i64 j.wy, .int .i64 j.rw, .int .i64 j.ac, .int .i64 j.wi]
/-- The cells of a job's block. -/
theorem Blk.job {w : World} {g : Nat} {t : TypeId} {v : Value} {j : JobD} (h : Blk w g t (jobC v j)) :
    w.cell? ⟨g, 0, none⟩ = some v ∧ w.cell? ⟨g, 1, none⟩ = some (.int .i64 j.fr) ∧ w.cell? ⟨g, 2, none⟩ = some (.int .i64 j.ct) ∧ w.cell? ⟨g, 3, none⟩ = some (.int .i64 j.wd) ∧ w.cell? ⟨g, 4, none⟩ = some (.int .i64 j.dg) ∧
    w.cell? ⟨g, 5, none⟩ = some (.int .i64 j.wy) ∧ w.cell? ⟨g, 6, none⟩ = some (.int .i64 j.rw) ∧ w.cell? ⟨g, 7, none⟩ = some (.int .i64 j.ac) ∧ w.cell? ⟨g, 8, none⟩ = some (.int .i64 j.wi) := by
  refine ⟨?_, ?_, ?_, ?_, ?_, ?_, ?_, ?_, ?_⟩ <;> rw [h.cell] <;> rfl



/-- No cell of the block may not be written. -/
theorem Blk.free {w : World} {g : Nat} {t : TypeId} {cs : List Value} (h : Blk w g t cs) :
    w.frozen? ⟨g, 0, none⟩ = false ∧ w.frozen? ⟨g, 1, none⟩ = false ∧ w.frozen? ⟨g, 2, none⟩ = false ∧ w.frozen? ⟨g, 3, none⟩ = false ∧ w.frozen? ⟨g, 4, none⟩ = false ∧
    w.frozen? ⟨g, 5, none⟩ = false ∧ w.frozen? ⟨g, 6, none⟩ = false ∧ w.frozen? ⟨g, 7, none⟩ = false ∧ w.frozen? ⟨g, 8, none⟩ = false :=
  ⟨h.frozen 0, h.frozen 1, h.frozen 2, h.frozen 3, h.frozen 4, h.frozen 5, h.frozen 6, h.frozen 7, h.frozen 8⟩
def zeroJ : JobD := ⟨[], 0, 0, 0, 0, 0, 0, 0, 0⟩
theorem Own.setCellI {w : World} {base : Nat} {v : Value} {l : List Int} (h : Own w base v l) (p : Addr) (u : Value) (hp : p.block < base) : Own (w.setCell p u) base v l :=
  h.far (row := some p.block) (only_setCell (World.grownBy.refl w (some p.block)) (.inl rfl) u) (fun k hk => by injection hk with hk; omega)

/-- Cells written one after the other. -/
def setN (w : World) (g i : Nat) : List Value → World
  | [] => w
  | u :: us => setN (w.setCell ⟨g, i, none⟩ u) g (i + 1) us
def setL (cs : List Value) (i : Nat) : List Value → List Value
  | [] => cs
  | u :: us => setL (cs.set i u) (i + 1) us
theorem ownN {base g : Nat} {v : Value} {l : List Int} (hg : g < base) : ∀ (us : List Value) (w : World) (i : Nat), Own w base v l → Own (setN w g i us) base v l
  | [], _, _, h => h
  | u :: us, w, i, h => ownN hg us _ _ (h.setCellI ⟨g, i, none⟩ u hg)
theorem blkN {b g : Nat} {t : TypeId} {cs : List Value} (hg : b ≠ g) : ∀ (us : List Value) (w : World) (i : Nat), Blk w b t cs → Blk (setN w g i us) b t cs
  | [], _, _, h => h
  | u :: us, w, i, h => blkN hg us _ _ (h.far (p := ⟨g, i, none⟩) hg u)
theorem belN {B : Nat} {a : World} {g : Nat} (hg : B ≤ g) : ∀ (us : List Value) (w : World) (i : Nat), Below B a w → Below B a (setN w g i us)
  | [], _, _, h => h
  | u :: us, w, i, h => belN hg us _ _ (h.setCell (p := ⟨g, i, none⟩) hg u)
theorem blkNown {g : Nat} {t : TypeId} : ∀ (us : List Value) (w : World) (cs : List Value) (i : Nat), Blk w g t cs → Blk (setN w g i us) g t (setL cs i us)
  | [], _, _, _, h => h
  | u :: us, w, cs, i, h => blkNown us _ _ _ (h.set_ i u)


end Go.Proofs.YtpniljcnknknoaaGreatDoor
