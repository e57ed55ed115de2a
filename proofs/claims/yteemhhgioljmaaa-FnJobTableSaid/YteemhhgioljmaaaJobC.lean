/-
  Jobs: contracts of JobTime (both).
-/
import Derived.Test.YteemhhgioljmaaaJobB
namespace Go.Proofs.Yteemhhgioljmaaa
open Go.RowKit
set_option linter.unusedVariables false
set_option linter.unusedSimpArgs false
set_option maxRecDepth 100000
attribute [local go_sem ↓] Go.wp_at_zero Go.wp_at_succ

theorem setOk_shift {p : List Int} {n k : Int} (h : setOk p n k = true) : shiftOk p n = true := by
  cases hs : shiftOk p n
  · rw [setOk_s hs] at h; cases h
  · rfl
theorem setOk_width {p : List Int} {n k : Int} (h : setOk p n k = true) : 1 ≤ k ∧ k ≤ 12 := by
  cases hw : inB k 1 12
  · rw [setOk_w hw (shiftL_len.2 (setOk_shift h))] at h; cases h
  · exact inB_true.1 hw
def timeI (j : JobD) : Int := if jobOk j = true then (j.poly.length : Int) * j.wd + j.ct else -1
theorem time_no {j : JobD} (h : jobOk j = false) : timeI j = -1 := by simp [timeI, h]
theorem time_yes {j : JobD} (h : jobOk j = true) : timeI j = (j.poly.length : Int) * j.wd + j.ct := by simp [timeI, h]
theorem job_bd {j : JobD} (h : jobOk j = true) : (0 ≤ (j.poly.length : Int) * j.wd ∧ (j.poly.length : Int) * j.wd ≤ 84) ∧ 1 ≤ j.ct ∧ j.ct ≤ 60 ∧ 1 ≤ j.poly.length ∧ j.poly.length ≤ 7 ∧ 1 ≤ j.wd ∧ j.wd ≤ 12 := by
  obtain ⟨hp, hc⟩ := jobOk_more h
  obtain ⟨p1, p7, -⟩ := polyOk_true.1 hp
  have hc' := inB_true.1 hc
  have hw := setOk_width (jobOk_true.1 h).1
  have h0 : 0 ≤ (j.poly.length : Int) * j.wd := Int.mul_nonneg (by omega) (by omega)
  have h1 : (j.poly.length : Int) * j.wd ≤ 7 * 12 := Int.mul_le_mul (by omega) hw.2 (by omega) (by omega)
  exact ⟨⟨h0, by omega⟩, hc'.1, hc'.2, p1, p7, hw.1, hw.2⟩

set_option maxHeartbeats 4000000 in
theorem implTime_any (v : Value) (j : JobD) (w : World) (hv : Ints w v j.poly) (hj : j.In) :
    Calls Try.prog 31 #[jobV v j] w fun e w' => e = .returned (.int .i64 (timeI j)) ∧ Below w.heap.size w w' := by
  have HV := Lib.hid hv
  obtain ⟨A, c, rfl, -, hc, -⟩ := hv.open_
  clear hv
  have B0 : Below w.heap.size w (w.alloc (.cells (jobC (.slice A j.poly.length c) j).toArray 49)) := bel_alloc w _
  have K1 := Blk.new w 49 (jobC (.slice A j.poly.length c) j)
  unfold jobV
  go_enter Try.func31, Try.ntmps31
  go_wp2_with fail
  change Calls _ _ #[jobV (.slice A j.poly.length c) j] (w.alloc (.cells (jobC (.slice A j.poly.length c) j).toArray 49)) _
  generalize hW : w.alloc (.cells (jobC (.slice A j.poly.length c) j).toArray 49) = W at K1 B0 ⊢
  clear hW
  refine (implJob_any _ j _ (HV.out.bel B0) hj).mono ?_
  rintro e w2 ⟨rfl, b1⟩
  have HB := Lib.hid (bel_trans B0 b1)
  have HK := Lib.hid (K1.below b1 K1.lt)
  clear b1 B0 K1 hj
  cases hq : jobOk j
  · have HN := Lib.hid (time_no hq)
    go_wp2
    go_ret
    exact ⟨ret_int HN.out.symm, HB.out⟩
  · have HN := Lib.hid (time_yes hq)
    obtain ⟨⟨m0, m1⟩, c1, c2, l1, l7, w1, w2⟩ := job_bd hq
    have hmw : wrap64 ((j.poly.length : Int) * j.wd) = (j.poly.length : Int) * j.wd := IntWalk.wrap64_in _ (by omega)
    obtain ⟨a0, a1, a2, a3, a4, a5, a6, a7, a8⟩ := HK.out.job
    clear hq
    go_wp2
    go_ret
    exact ⟨ret_int HN.out.symm, HB.out⟩

set_option maxHeartbeats 4000000 in
theorem specTime_any (v : Value) (j : JobD) (w : World) (hv : Ints w v j.poly) (hj : j.In) :
    Calls Try.prog 32 #[jobV v j] w fun e w' => e = .returned (.int .i64 (timeI j)) ∧ Below w.heap.size w w' := by
  have HV := Lib.hid hv
  obtain ⟨A, c, rfl, -, hc, -⟩ := hv.open_
  clear hv
  have B0 : Below w.heap.size w (w.alloc (.cells (jobC (.slice A j.poly.length c) j).toArray 49)) := bel_alloc w _
  have K1 := Blk.new w 49 (jobC (.slice A j.poly.length c) j)
  unfold jobV
  go_enter Try.func32, Try.ntmps32
  go_wp2_with fail
  change Calls _ _ #[jobV (.slice A j.poly.length c) j] (w.alloc (.cells (jobC (.slice A j.poly.length c) j).toArray 49)) _
  generalize hW : w.alloc (.cells (jobC (.slice A j.poly.length c) j).toArray 49) = W at K1 B0 ⊢
  clear hW
  refine (specJob_any _ j _ (HV.out.bel B0) hj).mono ?_
  rintro e w2 ⟨rfl, b1⟩
  have HB := Lib.hid (bel_trans B0 b1)
  have HK := Lib.hid (K1.below b1 K1.lt)
  clear b1 B0 K1 hj
  cases hq : jobOk j
  · have HN := Lib.hid (time_no hq)
    go_wp2
    go_ret
    exact ⟨ret_int HN.out.symm, HB.out⟩
  · have HN := Lib.hid (time_yes hq)
    obtain ⟨⟨m0, m1⟩, c1, c2, l1, l7, w1, w2⟩ := job_bd hq
    have hmw : wrap64 ((j.poly.length : Int) * j.wd) = (j.poly.length : Int) * j.wd := IntWalk.wrap64_in _ (by omega)
    obtain ⟨a0, a1, a2, a3, a4, a5, a6, a7, a8⟩ := HK.out.job
    clear hq
    go_wp2
    go_ret
    exact ⟨ret_int HN.out.symm, HB.out⟩

end Go.Proofs.Yteemhhgioljmaaa
