/-
  Jobs: contracts of what the laws do with them, and of their parts.
-/
import Derived.Test.YtdmadaebeooaaaaGreatDoorSetUp
import Derived.Deep.RegionHeld3
namespace Go.Proofs.YtdmadaebeooaaaaGreatDoor
open Go.RowKit
set_option linter.unusedVariables false
set_option linter.unusedSimpArgs false
set_option maxRecDepth 100000
attribute [local go_sem ↓] Go.wp_at_zero Go.wp_at_succ

def i64in (n : Int) : Prop := -9223372036854775808 ≤ n ∧ n ≤ 9223372036854775807
/-- A job's numbers. -/
structure JobD where
  poly : List Int
  fr : Int
  ct : Int
  wd : Int
  dg : Int
  wy : Int
  rw : Int
  ac : Int
  wi : Int
structure JobD.In (j : JobD) : Prop where
  fr : -9223372036854775808 ≤ j.fr ∧ j.fr ≤ 9223372036854775807
  ct : -9223372036854775808 ≤ j.ct ∧ j.ct ≤ 9223372036854775807
  wd : -9223372036854775808 ≤ j.wd ∧ j.wd ≤ 9223372036854775807
  dg : -9223372036854775808 ≤ j.dg ∧ j.dg ≤ 9223372036854775807
  wy : -9223372036854775808 ≤ j.wy ∧ j.wy ≤ 9223372036854775807
  rw : -9223372036854775808 ≤ j.rw ∧ j.rw ≤ 9223372036854775807
  ac : -9223372036854775808 ≤ j.ac ∧ j.ac ≤ 9223372036854775807
  wi : -9223372036854775808 ≤ j.wi ∧ j.wi ≤ 9223372036854775807

def layOk (a b c : Int) : Bool := inB a 1 20 && inB b 1 6 && inB c 1 12
def wayOk (d y : Int) : Bool := inB d 0 6 && inB y 0 2

set_option maxHeartbeats 1000000 in
theorem l6Way_any (d y : Int) (w : World) :
    Calls Tryz.prog 83 #[.int .i64 d, .int .i64 y] w fun e w' => e = .returned (.bool (wayOk d y)) ∧ w = w' := by
  cases h1 : inB d 0 6
  all_goals cases h2 : inB y 0 2
  all_goals
    have H := Lib.hid (show wayOk d y = (inB d 0 6 && inB y 0 2) from rfl)
    go_enter Tryz.func83, Tryz.ntmps83
    go_wp2_with (go_at_call 82; refine (l1In_any _ _ _ _).mono ?_; rintro e w' ⟨rfl, rfl⟩)
    go_ret
    exact ⟨by rw [H.out, h1, h2]; rfl, rfl⟩

set_option maxHeartbeats 1000000 in
theorem rounding_any (d y : Int) (w : World) :
    Calls Tryz.prog 51 #[.int .i64 d, .int .i64 y] w fun e w' => e = .returned (.bool (wayOk d y)) ∧ w = w' := by
  go_enter Tryz.func51, Tryz.ntmps51
  go_wp2
  all_goals (go_ret; refine ⟨ret_bool ?_, rfl⟩; simp_all [wayOk, inB])
  all_goals (intros; omega)

set_option maxHeartbeats 2000000 in
theorem implLay_any (a b c : Int) (w : World) :
    Calls Tryz.prog 52 #[.agg #[.int .i64 a, .int .i64 b, .int .i64 c]] w fun e w' => e = .returned (.bool (layOk a b c)) ∧ Below w.heap.size w w' := by
  go_enter Tryz.func52, Tryz.ntmps52
  go_wp2
  all_goals (go_ret; refine ⟨ret_bool ?_, bel_alloc _ _⟩)
  all_goals simp_all [layOk, inB]
  all_goals (intros; omega)

set_option maxHeartbeats 2000000 in
theorem specLay_any (a b c : Int) (w : World) :
    Calls Tryz.prog 63 #[.agg #[.int .i64 a, .int .i64 b, .int .i64 c]] w fun e w' => e = .returned (.bool (layOk a b c)) ∧ Below w.heap.size w w' := by
  cases h1 : inB a 1 20
  all_goals cases h2 : inB b 1 6
  all_goals cases h3 : inB c 1 12
  all_goals
    have H := Lib.hid (show layOk a b c = (inB a 1 20 && inB b 1 6 && inB c 1 12) from rfl)
    go_enter Tryz.func63, Tryz.ntmps63
    go_wp2_with (go_at_call 82; refine (l1In_any _ _ _ _).mono ?_; rintro e w' ⟨rfl, rfl⟩)
    go_ret
    exact ⟨by rw [H.out, h1, h2, h3]; rfl, bel_alloc _ _⟩

set_option maxHeartbeats 2000000 in
theorem toLayout_any (a b c : Int) (w : World) :
    Calls Tryz.prog 30 #[.agg #[.int .i64 a, .int .i64 b, .int .i64 c]] w fun e w' => e = .returned (.agg #[.int .i64 a, .int .i64 b, .int .i64 c]) ∧ Below w.heap.size w w' := by
  go_enter Tryz.func30, Tryz.ntmps30
  go_wp2
  refine bodyPost_ret (v := .agg #[.int .i64 a, .int .i64 b, .int .i64 c]) (by simp [results, Tryz.results30, go_sem]) rfl ⟨rfl, ?_⟩
  exact ((bel_alloc w _).alloc (by simp) _).alloc (by simp; omega) _

set_option maxHeartbeats 2000000 in
theorem eqLayout_any (a b c : Int) (w : World) :
    Calls Tryz.prog 33 #[.agg #[.int .i64 a, .int .i64 b, .int .i64 c], .agg #[.int .i64 a, .int .i64 b, .int .i64 c]] w fun e w' => e = .returned (.bool true) ∧ Below w.heap.size w w' := by
  go_enter Tryz.func33, Tryz.ntmps33
  go_wp2
  go_ret
  exact ⟨rfl, (bel_alloc w _).alloc (by simp) _⟩

/-- The value of a job. -/
def jobV (v : Value) (j : JobD) : Value := .agg #[v, .int .i64 j.fr, .int .i64 j.ct, .int .i64 j.wd, .int .i64 j.dg, .int .i64 j.wy, .int .i64 j.rw, .int .i64 j.ac, .int .i64 j.wi]
def jobC (v : Value) (j : JobD) : List Value := [v, .int .i64 j.fr, .int .i64 j.ct, .int .i64 j.wd, .int .i64 j.dg, .int .i64 j.wy, .int .i64 j.rw, .int .i64 j.ac, .int .i64 j.wi]
/-- The cells of a job's block. -/
theorem Blk.job {w : World} {g : Nat} {t : TypeId} {v : Value} {j : JobD} (h : Blk w g t (jobC v j)) :
    w.cell? ⟨g, 0, none⟩ = some v ∧ w.cell? ⟨g, 1, none⟩ = some (.int .i64 j.fr) ∧ w.cell? ⟨g, 2, none⟩ = some (.int .i64 j.ct) ∧ w.cell? ⟨g, 3, none⟩ = some (.int .i64 j.wd) ∧ w.cell? ⟨g, 4, none⟩ = some (.int .i64 j.dg) ∧
    w.cell? ⟨g, 5, none⟩ = some (.int .i64 j.wy) ∧ w.cell? ⟨g, 6, none⟩ = some (.int .i64 j.rw) ∧ w.cell? ⟨g, 7, none⟩ = some (.int .i64 j.ac) ∧ w.cell? ⟨g, 8, none⟩ = some (.int .i64 j.wi) := by
  refine ⟨?_, ?_, ?_, ?_, ?_, ?_, ?_, ?_, ?_⟩ <;> rw [h.cell] <;> rfl

set_option maxHeartbeats 400000 in
theorem szIntS_any (v : Value) (l : List Int) (left : Int) (w : World) (hv : Ints w v l) (h0 : 0 ≤ left) (h1 : left ≤ 1048576) :
    Calls Tryz.prog 26 #[v, .int .i64 left] w fun e w' => ∃ r : Int, e = .returned (.int .i64 r) ∧ (r = -1 ∨ 0 ≤ r ∧ r + l.length ≤ left) ∧ w = w' := by
  obtain ⟨A, c, rfl, hlc, hc, hrd⟩ := hv.open_
  by_cases hn : left - (l.length : Int) < 0
  · go_enter Tryz.func26, Tryz.ntmps26
    go_wp2
    go_ret
    exact ⟨_, rfl, .inl rfl, rfl⟩
  · go_enter Tryz.func26, Tryz.ntmps26
    go_wp2
    go_ret
    exact ⟨_, rfl, .inr ⟨by omega, by omega⟩, rfl⟩

set_option maxHeartbeats 1000000 in
theorem szJob_any (v : Value) (j : JobD) (left : Int) (w : World) (hv : Ints w v j.poly) (h0 : 0 ≤ left) (h1 : left ≤ 1048576) :
    Calls Tryz.prog 7 #[jobV v j, .int .i64 left] w fun e w' => ∃ r : Int, e = .returned (.int .i64 r) ∧ (r = -1 ∨ 0 ≤ r ∧ r + j.poly.length ≤ left) ∧ Below w.heap.size w w' := by
  have HV := Lib.hid hv
  obtain ⟨A, c, rfl, hlc, hc, hrd⟩ := hv.open_
  clear hv hrd
  unfold jobV
  go_enter Tryz.func7, Tryz.ntmps7
  go_wp2_with fail
  refine (szIntS_any _ j.poly left _ (HV.out.bel (bel_alloc w _)) h0 h1).mono ?_
  rintro e w2 ⟨r, rfl, hr, rfl⟩
  rcases hr with rfl | ⟨r0, r1⟩
  · go_wp2
    go_ret
    exact ⟨_, rfl, .inl rfl, bel_alloc w _⟩
  · go_wp2
    go_ret
    exact ⟨_, rfl, .inr ⟨r0, r1⟩, bel_alloc w _⟩

/-- No cell of the block may not be written. -/
theorem Blk.free {w : World} {g : Nat} {t : TypeId} {cs : List Value} (h : Blk w g t cs) :
    w.frozen? ⟨g, 0, none⟩ = false ∧ w.frozen? ⟨g, 1, none⟩ = false ∧ w.frozen? ⟨g, 2, none⟩ = false ∧ w.frozen? ⟨g, 3, none⟩ = false ∧ w.frozen? ⟨g, 4, none⟩ = false ∧
    w.frozen? ⟨g, 5, none⟩ = false ∧ w.frozen? ⟨g, 6, none⟩ = false ∧ w.frozen? ⟨g, 7, none⟩ = false ∧ w.frozen? ⟨g, 8, none⟩ = false :=
  ⟨h.frozen 0, h.frozen 1, h.frozen 2, h.frozen 3, h.frozen 4, h.frozen 5, h.frozen 6, h.frozen 7, h.frozen 8⟩
def zeroJ : JobD := ⟨[], 0, 0, 0, 0, 0, 0, 0, 0⟩
theorem Own.setCellI {w : World} {base : Nat} {v : Value} {l : List Int} (h : Own w base v l) (p : Addr) (u : Value) (hp : p.block < base) : Own (w.setCell p u) base v l :=
  h.far (row := some p.block) (only_setCell (World.grownBy.refl w (some p.block)) (.inl rfl) u) (fun k hk => by injection hk with hk; omega)

/-- Cells written one after the other. -/
def setN (w : World) (g i : Nat) : List Value → World
  | [] => w
  | u :: us => setN (w.setCell ⟨g, i, none⟩ u) g (i + 1) us
def setL (cs : List Value) (i : Nat) : List Value → List Value
  | [] => cs
  | u :: us => setL (cs.set i u) (i + 1) us
theorem ownN {base g : Nat} {v : Value} {l : List Int} (hg : g < base) : ∀ (us : List Value) (w : World) (i : Nat), Own w base v l → Own (setN w g i us) base v l
  | [], _, _, h => h
  | u :: us, w, i, h => ownN hg us _ _ (h.setCellI ⟨g, i, none⟩ u hg)
theorem blkN {b g : Nat} {t : TypeId} {cs : List Value} (hg : b ≠ g) : ∀ (us : List Value) (w : World) (i : Nat), Blk w b t cs → Blk (setN w g i us) b t cs
  | [], _, _, h => h
  | u :: us, w, i, h => blkN hg us _ _ (h.far (p := ⟨g, i, none⟩) hg u)
theorem belN {B : Nat} {a : World} {g : Nat} (hg : B ≤ g) : ∀ (us : List Value) (w : World) (i : Nat), Below B a w → Below B a (setN w g i us)
  | [], _, _, h => h
  | u :: us, w, i, h => belN hg us _ _ (h.setCell (p := ⟨g, i, none⟩) hg u)
theorem blkNown {g : Nat} {t : TypeId} : ∀ (us : List Value) (w : World) (cs : List Value) (i : Nat), Blk w g t cs → Blk (setN w g i us) g t (setL cs i us)
  | [], _, _, _, h => h
  | u :: us, w, cs, i, h => blkNown us _ _ _ (h.set_ i u)

set_option maxHeartbeats 8000000 in
theorem toJob_any (v : Value) (j : JobD) (w : World) (hv : Ints w v j.poly) (hl : j.poly.length ≤ 1048576) :
    Calls Tryz.prog 9 #[jobV v j] w fun e w' => ∃ r, e = .returned (jobV r j) ∧ Own w' w.heap.size r j.poly ∧ Below w.heap.size w w' := by
  have HV := Lib.hid hv
  clear hv
  have B0 : Below w.heap.size w (((w.alloc (.cells (jobC v j).toArray 26)).alloc (.cells (jobC (.slice none 0 0) zeroJ).toArray 32)).alloc (.cells (jobC (.slice none 0 0) zeroJ).toArray 32)) := ((bel_alloc w _).alloc (by simp) _).alloc (by simp; omega) _
  have K1 := (((Blk.new w 26 (jobC v j)).alloc (.cells (jobC (.slice none 0 0) zeroJ).toArray 32)).alloc (.cells (jobC (.slice none 0 0) zeroJ).toArray 32))
  have K2 := ((Blk.new (w.alloc (.cells (jobC v j).toArray 26)) 32 (jobC (.slice none 0 0) zeroJ))).alloc (.cells (jobC (.slice none 0 0) zeroJ).toArray 32)
  have K3 := Blk.new ((w.alloc (.cells (jobC v j).toArray 26)).alloc (.cells (jobC (.slice none 0 0) zeroJ).toArray 32)) 32 (jobC (.slice none 0 0) zeroJ)
  unfold jobV
  go_enter Tryz.func9, Tryz.ntmps9
  go_wp2_with fail
  change Calls _ _ _ (((w.alloc (.cells (jobC v j).toArray 26)).alloc (.cells (jobC (.slice none 0 0) zeroJ).toArray 32)).alloc (.cells (jobC (.slice none 0 0) zeroJ).toArray 32)) _
  generalize hW : ((w.alloc (.cells (jobC v j).toArray 26)).alloc (.cells (jobC (.slice none 0 0) zeroJ).toArray 32)).alloc (.cells (jobC (.slice none 0 0) zeroJ).toArray 32) = W at K1 K2 K3 B0 ⊢
  have z0 : W.heap.size = w.heap.size + 1 + 1 + 1 := by rw [← hW]; simp
  clear hW
  simp only [World.size_alloc] at K2 K3
  refine (toIntS_any v j.poly W (HV.out.bel B0) hl).mono ?_
  rintro e w2 ⟨r, rfl, o1, b1⟩
  have HO := Lib.hid (And.intro o1 (bel_trans B0 b1))
  replace K1 := K1.below b1 K1.lt
  replace K2 := K2.below b1 K2.lt
  replace K3 := K3.below b1 K3.lt
  obtain ⟨A2, d2, rfl, -, -, -⟩ := o1.ints.open_
  clear o1 b1 B0
  have HK := Lib.hid K2
  obtain ⟨a0, a1, a2, a3, a4, a5, a6, a7, a8⟩ := K1.job
  obtain ⟨c0, c1, c2, c3, c4, c5, c6, c7, c8⟩ := K3.job
  obtain ⟨f0, f1, f2, f3, f4, f5, f6, f7, f8⟩ := K3.free
  clear K2 K1
  go_wp2_with fail
  have HO5 := Lib.hid (And.intro (ownN (g := w.heap.size + 1 + 1) (by omega) [.slice A2 j.poly.length d2, .int .i64 j.fr, .int .i64 j.ct, .int .i64 j.wd, .int .i64 j.dg, .int .i64 j.wy] _ 0 HO.out.1) (belN (g := w.heap.size + 1 + 1) (by omega) [.slice A2 j.poly.length d2, .int .i64 j.fr, .int .i64 j.ct, .int .i64 j.wd, .int .i64 j.dg, .int .i64 j.wy] _ 0 HO.out.2))
  have K2 := blkN (g := w.heap.size + 1 + 1) (by omega) [.slice A2 j.poly.length d2, .int .i64 j.fr, .int .i64 j.ct, .int .i64 j.wd, .int .i64 j.dg, .int .i64 j.wy] _ 0 HK.out
  replace K3 := blkNown [.slice A2 j.poly.length d2, .int .i64 j.fr, .int .i64 j.ct, .int .i64 j.wd, .int .i64 j.dg, .int .i64 j.wy] _ _ 0 K3
  clear HO HK a0 a1 a2 a3 a4 a5 a6 a7 a8 c0 c1 c2 c3 c4 c5 c6 c7 c8 f0 f1 f2 f3 f4 f5 f6 f7 f8
  change Calls _ _ _ (setN w2 (w.heap.size + 1 + 1) 0 [.slice A2 j.poly.length d2, .int .i64 j.fr, .int .i64 j.ct, .int .i64 j.wd, .int .i64 j.dg, .int .i64 j.wy]) _
  generalize hW5 : setN w2 (w.heap.size + 1 + 1) 0 [.slice A2 j.poly.length d2, .int .i64 j.fr, .int .i64 j.ct, .int .i64 j.wd, .int .i64 j.dg, .int .i64 j.wy] = W5 at K2 K3 HO5 ⊢
  clear hW5
  refine (toLayout_any j.rw j.ac j.wi _).mono ?_
  rintro e w6 ⟨rfl, b6⟩
  replace HO5 := Lib.hid (And.intro (HO5.out.1.bel b6) (bel_trans HO5.out.2 b6))
  replace K2 := K2.below b6 K2.lt
  replace K3 := K3.below b6 K3.lt
  clear b6
  obtain ⟨c0, c1, c2, c3, c4, c5, c6, c7, c8⟩ := Blk.job (j := ⟨j.poly, j.fr, j.ct, j.wd, j.dg, j.wy, 0, 0, 0⟩) K3
  obtain ⟨f0, f1, f2, f3, f4, f5, f6, f7, f8⟩ := K3.free
  obtain ⟨h0, h1, h2, h3, h4, h5, h6, h7, h8⟩ := K2.job
  obtain ⟨g0, g1, g2, g3, g4, g5, g6, g7, g8⟩ := K2.free
  have HK := Lib.hid K2
  clear K2 K3
  go_wp2_with fail
  have HO6 := Lib.hid (And.intro (ownN (g := w.heap.size + 1) (by omega) [.slice A2 j.poly.length d2, .int .i64 j.fr, .int .i64 j.ct, .int .i64 j.wd, .int .i64 j.dg, .int .i64 j.wy, .int .i64 j.rw, .int .i64 j.ac, .int .i64 j.wi] _ 0 (ownN (g := w.heap.size + 1 + 1) (by omega) [.int .i64 j.rw, .int .i64 j.ac, .int .i64 j.wi] _ 6 HO5.out.1)) (belN (g := w.heap.size + 1) (by omega) [.slice A2 j.poly.length d2, .int .i64 j.fr, .int .i64 j.ct, .int .i64 j.wd, .int .i64 j.dg, .int .i64 j.wy, .int .i64 j.rw, .int .i64 j.ac, .int .i64 j.wi] _ 0 (belN (g := w.heap.size + 1 + 1) (by omega) [.int .i64 j.rw, .int .i64 j.ac, .int .i64 j.wi] _ 6 HO5.out.2)))
  have K2 := blkNown [.slice A2 j.poly.length d2, .int .i64 j.fr, .int .i64 j.ct, .int .i64 j.wd, .int .i64 j.dg, .int .i64 j.wy, .int .i64 j.rw, .int .i64 j.ac, .int .i64 j.wi] _ _ 0 (blkN (g := w.heap.size + 1 + 1) (by omega) [.int .i64 j.rw, .int .i64 j.ac, .int .i64 j.wi] _ 6 HK.out)
  clear c0 c1 c2 c3 c4 c5 c6 c7 c8 f0 f1 f2 f3 f4 f5 f6 f7 f8 h0 h1 h2 h3 h4 h5 h6 h7 h8 g0 g1 g2 g3 g4 g5 g6 g7 g8 HK HO5
  change bodyPost _ _ _ _ _ (setN (setN w6 (w.heap.size + 1 + 1) 6 [.int .i64 j.rw, .int .i64 j.ac, .int .i64 j.wi]) (w.heap.size + 1) 0 [.slice A2 j.poly.length d2, .int .i64 j.fr, .int .i64 j.ct, .int .i64 j.wd, .int .i64 j.dg, .int .i64 j.wy, .int .i64 j.rw, .int .i64 j.ac, .int .i64 j.wi])
  generalize hW7 : setN (setN w6 (w.heap.size + 1 + 1) 6 [.int .i64 j.rw, .int .i64 j.ac, .int .i64 j.wi]) (w.heap.size + 1) 0 [.slice A2 j.poly.length d2, .int .i64 j.fr, .int .i64 j.ct, .int .i64 j.wd, .int .i64 j.dg, .int .i64 j.wy, .int .i64 j.rw, .int .i64 j.ac, .int .i64 j.wi] = W7 at K2 HO6 ⊢
  clear hW7
  obtain ⟨h0, h1, h2, h3, h4, h5, h6, h7, h8⟩ := Blk.job (v := .slice A2 j.poly.length d2) (j := j) K2
  clear K2
  refine bodyPost_ret (v := .agg #[.slice A2 j.poly.length d2, .int .i64 j.fr, .int .i64 j.ct, .int .i64 j.wd, .int .i64 j.dg, .int .i64 j.wy, .int .i64 j.rw, .int .i64 j.ac, .int .i64 j.wi]) (by simp [results, Tryz.results9, go_sem, h0, h1, h2, h3, h4, h5, h6, h7, h8]) rfl ⟨_, rfl, HO6.out.1.lower (by omega), HO6.out.2⟩

end Go.Proofs.YtdmadaebeooaaaaGreatDoor
