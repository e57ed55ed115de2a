/-
  The law FnJobTime, walked.
-/
import Derived.Test.YteemhhgioljmaaaJdB
import Derived.Test.YteemhhgioljmaaaJobPlain
import Derived.Test.YteemhhgioljmaaaJobC
namespace Go.Proofs.Yteemhhgioljmaaa
open Go.RowKit
set_option linter.unusedVariables false
set_option linter.unusedSimpArgs false
set_option maxRecDepth 100000
attribute [local go_sem ↓] Go.wp_at_zero Go.wp_at_succ

theorem time_bd (j : JobD) : -1 ≤ timeI j ∧ timeI j ≤ 144 := by
  cases h : jobOk j
  · rw [time_no h]; omega
  · rw [time_yes h]
    have := job_bd h
    omega
theorem time_pos (j : JobD) : (decide (0 ≤ timeI j)) = jobOk j := by
  cases h : jobOk j
  · rw [time_no h]; rfl
  · rw [time_yes h]
    have := job_bd h
    rw [decide_eq_true_iff]
    omega

set_option maxHeartbeats 8000000 in
theorem lawJobTimeF (v : Value) (code : List Int) (w : World) (hv : Bytes w v code) :
    Calls Try.prog 6 #[v] w fun e w' => e = .returned (.bool true) ∧ Below w.heap.size w w' := by
  have HV := Lib.hid hv
  obtain ⟨A_c, c_c, rfl, -, hc1, -⟩ := hv.open_
  clear hv
  by_cases hbig : (1048576 : Int) < (code.length : Int)
  · go_enter Try.func6, Try.ntmps6
    go_wp2
    go_ret
    exact ⟨rfl, Below.refl _ _⟩
  · go_enter Try.func6, Try.ntmps6
    go_wp2_with fail
    refine (drawJobTime_any _ code _ HV.out).mono ?_
    rintro e w0 ⟨vp, j, rfl, hs, l8, hj, b⟩
    have HJ := Lib.hid hj
    obtain ⟨A, c, rfl, -, -, -⟩ := hs.ints.open_
    have ba : Below w0.heap.size w0 (w0.alloc (.cells (jobC (.slice A j.poly.length c) j).toArray 49)) := bel_alloc w0 _
    have HS := Lib.hid (hs.ints.bel ba)
    have HB := Lib.hid (bel_trans b ba)
    clear hs b ba hj
    have K := Blk.new w0 49 (jobC (.slice A j.poly.length c) j)
    unfold jobV
    obtain ⟨a0, a1, a2, a3, a4, a5, a6, a7, a8⟩ := K.job
    go_wp2_with fail
    clear a0 a1 a2 a3 a4 a5 a6 a7 a8
    change Calls _ _ #[jobV (.slice A j.poly.length c) j] (w0.alloc (.cells (jobC (.slice A j.poly.length c) j).toArray 49)) _
    generalize hW : w0.alloc (.cells (jobC (.slice A j.poly.length c) j).toArray 49) = W at *
    clear hW
    refine (implTime_any _ j _ HS.out HJ.out).mono ?_
    rintro e w1 ⟨rfl, b⟩
    replace K := K.below b K.lt
    replace HS := Lib.hid (HS.out.bel b)
    replace HB := Lib.hid (bel_trans HB.out b)
    clear b
    obtain ⟨a0, a1, a2, a3, a4, a5, a6, a7, a8⟩ := K.job
    go_wp2_with fail
    clear a0 a1 a2 a3 a4 a5 a6 a7 a8
    change Calls _ _ #[jobV (.slice A j.poly.length c) j] _ _
    refine (specTime_any _ j _ HS.out HJ.out).mono ?_
    rintro e w2 ⟨rfl, b⟩
    replace K := K.below b K.lt
    replace HS := Lib.hid (HS.out.bel b)
    replace HB := Lib.hid (bel_trans HB.out b)
    clear b
    obtain ⟨a0, a1, a2, a3, a4, a5, a6, a7, a8⟩ := K.job
    have tb := time_bd j
    go_wp2_with fail
    clear a0 a1 a2 a3 a4 a5 a6 a7 a8
    change Calls _ _ #[jobV (.slice A j.poly.length c) j] _ _
    refine (implJob_any _ j _ HS.out HJ.out).mono ?_
    rintro e w3 ⟨rfl, b⟩
    replace K := K.below b K.lt
    replace HS := Lib.hid (HS.out.bel b)
    replace HB := Lib.hid (bel_trans HB.out b)
    clear b
    cases hq : jobOk j
    · have ht := Lib.hid (time_no hq)
      have HQ := Lib.hid hq
      rw [ht.out]
      clear hq tb
      obtain ⟨a0, a1, a2, a3, a4, a5, a6, a7, a8⟩ := K.job
      go_wp2_with fail
      all_goals
        clear a0 a1 a2 a3 a4 a5 a6 a7 a8
        change Calls _ _ #[jobV (.slice A j.poly.length c) j] _ _
        refine (specTime_any _ j _ HS.out HJ.out).mono ?_
        rintro e w4 ⟨rfl, b⟩
        replace K := K.below b K.lt
        replace HS := Lib.hid (HS.out.bel b)
        replace HB := Lib.hid (bel_trans HB.out b)
        clear b
        rw [ht.out]
        obtain ⟨a0, a1, a2, a3, a4, a5, a6, a7, a8⟩ := K.job
        go_wp2_with fail
        clear a0 a1 a2 a3 a4 a5 a6 a7 a8
        change Calls _ _ #[jobV (.slice A j.poly.length c) j] _ _
        refine (implJob_any _ j _ HS.out HJ.out).mono ?_
        rintro e w5 ⟨rfl, b⟩
        replace HB := Lib.hid (bel_trans HB.out b)
        rw [HQ.out]
        clear b
        go_wp2
        go_ret
        exact ⟨rfl, HB.out⟩
    · have ht := time_yes hq
      obtain ⟨hq1, ht1⟩ := job_one hq
      have hy1 := time_yes hq1
      rw [ht] at *
      obtain ⟨⟨m0, m1⟩, c1, c2, l1, l7, x1, x2⟩ := job_bd hq
      have hmw : wrap64 ((j.poly.length : Int) * j.wd) = (j.poly.length : Int) * j.wd := IntWalk.wrap64_in _ (by omega)
      have hmi : IntKind.i64.wrap ((j.poly.length : Int) * j.wd) = (j.poly.length : Int) * j.wd := (IntWalk.i64_left _).trans hmw
      have e1 : IntKind.i64.wrap ((j.poly.length : Int) * j.wd + j.ct - j.ct) = (j.poly.length : Int) * j.wd := by rw [show (j.poly.length : Int) * j.wd + j.ct - j.ct = (j.poly.length : Int) * j.wd by omega]; exact hmi
      have e2 : IntKind.i64.wrap ((j.poly.length : Int) * j.wd + 1) = (j.poly.length : Int) * j.wd + 1 := (IntWalk.i64_left _).trans (IntWalk.wrap64_in _ (by omega))
      have e3 : IntKind.i64.wrap ((j.poly.length : Int) * j.wd + j.ct) = (j.poly.length : Int) * j.wd + j.ct := (IntWalk.i64_left _).trans (IntWalk.wrap64_in _ (by omega))
      have HT := Lib.hid hy1
      clear ht hy1 ht1 hq hq1 tb
      obtain ⟨a0, a1, a2, a3, a4, a5, a6, a7, a8⟩ := K.job
      have KX0 := Blk.new w3 49 (jobC (.slice A j.poly.length c) j)
      have fz := KX0.frozen 2
      have KX := Lib.hid (Blk.new w3 49 (jobC (.slice A j.poly.length c) { j with ct := 1 }))
      have hlt := K.lt
      have KJ := Lib.hid (K.alloc (.cells (jobC (.slice A j.poly.length c) { j with ct := 1 }).toArray 49))
      have bx := bel_alloc w3 (.cells (jobC (.slice A j.poly.length c) { j with ct := 1 }).toArray 49)
      have HS8 := Lib.hid (HS.out.bel bx)
      have HB8 := Lib.hid (bel_trans HB.out bx)
      clear bx KX0
      have HJ1 := Lib.hid (show JobD.In { j with ct := 1 } from ⟨HJ.out.fr, by dsimp only; omega, HJ.out.wd, HJ.out.dg, HJ.out.wy, HJ.out.rw, HJ.out.ac, HJ.out.wi⟩)
      have zx : w3.heap.size < (w3.alloc (.cells (jobC (.slice A j.poly.length c) { j with ct := 1 }).toArray 49)).heap.size := by simp
      have zy : w0.heap.size < (w3.alloc (.cells (jobC (.slice A j.poly.length c) { j with ct := 1 }).toArray 49)).heap.size := by simp; omega
      go_wp2_with fail
      clear a0 a1 a2 a3 a4 a5 a6 a7 a8 fz
      obtain ⟨a0, a1, a2, a3, a4, a5, a6, a7, a8⟩ := KJ.out.job
      obtain ⟨x0, y1, y2, x3, x4, x5, x6, x7, x8⟩ := Blk.job (v := .slice A j.poly.length c) (j := { j with ct := 1 }) KX.out
      have tok1 : True := trivial
      go_region_held3 (fun w' => (w'.cell? ⟨w0.heap.size, 0, none⟩ = some (.slice A j.poly.length c) ∧ w'.cell? ⟨w0.heap.size, 1, none⟩ = some (.int .i64 j.fr) ∧ w'.cell? ⟨w0.heap.size, 2, none⟩ = some (.int .i64 j.ct) ∧ w'.cell? ⟨w0.heap.size, 3, none⟩ = some (.int .i64 j.wd) ∧ w'.cell? ⟨w0.heap.size, 4, none⟩ = some (.int .i64 j.dg) ∧ w'.cell? ⟨w0.heap.size, 5, none⟩ = some (.int .i64 j.wy) ∧ w'.cell? ⟨w0.heap.size, 6, none⟩ = some (.int .i64 j.rw) ∧ w'.cell? ⟨w0.heap.size, 7, none⟩ = some (.int .i64 j.ac) ∧ w'.cell? ⟨w0.heap.size, 8, none⟩ = some (.int .i64 j.wi)) ∧ (w'.cell? ⟨w3.heap.size, 0, none⟩ = some (.slice A j.poly.length c) ∧ w'.cell? ⟨w3.heap.size, 1, none⟩ = some (.int .i64 j.fr) ∧ w'.cell? ⟨w3.heap.size, 2, none⟩ = some (.int .i64 1) ∧ w'.cell? ⟨w3.heap.size, 3, none⟩ = some (.int .i64 j.wd) ∧ w'.cell? ⟨w3.heap.size, 4, none⟩ = some (.int .i64 j.dg) ∧ w'.cell? ⟨w3.heap.size, 5, none⟩ = some (.int .i64 j.wy) ∧ w'.cell? ⟨w3.heap.size, 6, none⟩ = some (.int .i64 j.rw) ∧ w'.cell? ⟨w3.heap.size, 7, none⟩ = some (.int .i64 j.ac) ∧ w'.cell? ⟨w3.heap.size, 8, none⟩ = some (.int .i64 j.wi))) (first | exact ⟨KJ.out.job, Blk.job (v := .slice A j.poly.length c) (j := { j with ct := 1 }) KX.out⟩ | exact ⟨KJ9.out.job, Blk.job (v := .slice A j.poly.length c) (j := { j with ct := 1 }) KX9.out⟩ | go_keep) (first
        | ((try go_simp); go_at_call 31; have _t := tok1; go_loud (refine (implTime_any (.slice A j.poly.length c) { j with ct := 1 } _ (by first | exact HS8.out | exact HS8.out.bel ((Below.refl _ _).drew)) HJ1.out).mono ?_; rintro e w9 ⟨rfl, b⟩; replace b : Below (w3.alloc (.cells (jobC (.slice A j.poly.length c) { j with ct := 1 }).toArray 49)).heap.size (w3.alloc (.cells (jobC (.slice A j.poly.length c) { j with ct := 1 }).toArray 49)) w9 := (by first | exact b | exact bel_trans ((Below.refl _ _).drew) b); have HB9 := Lib.hid (bel_trans HB8.out b); have KJ9 := Lib.hid (KJ.out.below b zy); have KX9 := Lib.hid (KX.out.below b zx); rw [HT.out]; clear tok1 b; (try dsimp only)))
        | fail)
      all_goals
        clear a0 a1 a2 a3 a4 a5 a6 a7 a8 x0 y1 y2 x3 x4 x5 x6 x7 x8
        go_wp2
        go_ret
        exact ⟨rfl, HB9.out⟩

end Go.Proofs.Yteemhhgioljmaaa
