/-
  Contracts of JobTable (both), and the mark of a job.
-/
import Derived.Test.YtdmadaebeooaaaaGreatDoorJobC
import Derived.Test.YtdmadaebeooaaaaGreatDoorRound
namespace Go.Proofs.YtdmadaebeooaaaaGreatDoor
open Go.RowKit
set_option linter.unusedVariables false
set_option linter.unusedSimpArgs false
set_option maxRecDepth 100000
attribute [local go_sem ↓] Go.wp_at_zero Go.wp_at_succ

def jvL (j : JobD) : List Int := valL j.poly j.fr j.ct
def jtOk (j : JobD) : Bool := jobOk j && rtOk (jvL j) j.dg j.wy
def jtL (j : JobD) : List Int := if jobOk j = true then rtL (jvL j) j.dg j.wy else []
theorem jt_no {j : JobD} (h : jobOk j = false) : jtOk j = false ∧ jtL j = [] := by simp [jtOk, jtL, h]
theorem jt_yes {j : JobD} (h : jobOk j = true) : jtOk j = rtOk (jvL j) j.dg j.wy ∧ jtL j = rtL (jvL j) j.dg j.wy := by simp [jtOk, jtL, h]
theorem jobOk_val {j : JobD} (h : jobOk j = true) : valOk j.poly j.fr j.ct = true := by
  obtain ⟨-, h2, h3, -⟩ := jobOk_true.1 h
  cases hv : valOk j.poly j.fr j.ct
  · rw [cap_no (.inl hv)] at h3; omega
  · rfl
theorem rtL_len (l : List Int) (d y : Int) : (rtL l d y).length ≤ l.length := by
  unfold rtL
  split
  · rw [gen_length]; exact Nat.le_refl _
  · simp
theorem jtL_len (j : JobD) : (jtL j).length ≤ 60 := by
  unfold jtL
  split
  · exact Nat.le_trans (rtL_len _ _ _) (valL_len _ _ _)
  · simp

set_option maxHeartbeats 2000000 in
theorem l8Table_any (v : Value) (j : JobD) (w : World) (hv : Ints w v j.poly) (hj : j.In) :
    Calls Tryz.prog 62 #[jobV v j] w (IntsQ w (rtL (jvL j) j.dg j.wy) (rtOk (jvL j) j.dg j.wy)) := by
  have HJ := Lib.hid hj
  have HV := Lib.hid hv
  obtain ⟨A, c, rfl, -, -, -⟩ := hv.open_
  clear hv hj
  have B0 : Below w.heap.size w (w.alloc (.cells (jobC (.slice A j.poly.length c) j).toArray 32)) := bel_alloc w _
  have K1 := Blk.new w 32 (jobC (.slice A j.poly.length c) j)
  unfold jobV
  go_enter Tryz.func62, Tryz.ntmps62
  go_wp2_with fail
  change Calls _ _ _ (w.alloc (.cells (jobC (.slice A j.poly.length c) j).toArray 32)) _
  generalize hW : w.alloc (.cells (jobC (.slice A j.poly.length c) j).toArray 32) = W at K1 B0 ⊢
  clear hW
  refine (specValues_any _ j.poly j.fr j.ct _ (HV.out.bel B0) HJ.out.fr HJ.out.ct).mono ?_
  rintro e w2 ⟨r, rfl, o1, b1⟩
  have HB := Lib.hid (bel_trans B0 b1)
  have HO := Lib.hid o1.ints
  obtain ⟨a0, a1, a2, a3, a4, a5, a6, a7, a8⟩ := (K1.below b1 K1.lt).job
  obtain ⟨A2, c2, rfl, -, -, -⟩ := o1.ints.open_
  clear b1 o1 B0 K1
  go_wp2_with fail
  refine (specRT_any _ (jvL j) j.dg j.wy _ HO.out).mono ?_
  rintro e w3 ⟨r3, rfl, o3, b3⟩
  have H3 := Lib.hid (And.intro (o3.lower (base' := w.heap.size) HB.out.size) (bel_trans HB.out b3))
  clear o3 b3
  go_wp2
  go_ret2
  exact ⟨_, rfl, H3.out.1, H3.out.2⟩

set_option maxHeartbeats 2000000 in
theorem specJT_any (v : Value) (j : JobD) (w : World) (hv : Ints w v j.poly) (hj : j.In) :
    Calls Tryz.prog 27 #[jobV v j] w (IntsQ w (jtL j) (jtOk j)) := by
  have HJ := Lib.hid hj
  have HV := Lib.hid hv
  obtain ⟨A, c, rfl, -, -, -⟩ := hv.open_
  clear hv hj
  have B0 : Below w.heap.size w (w.alloc (.cells (jobC (.slice A j.poly.length c) j).toArray 32)) := bel_alloc w _
  have K1 := Blk.new w 32 (jobC (.slice A j.poly.length c) j)
  unfold jobV
  go_enter Tryz.func27, Tryz.ntmps27
  go_wp2_with fail
  change Calls _ _ #[jobV (.slice A j.poly.length c) j] (w.alloc (.cells (jobC (.slice A j.poly.length c) j).toArray 32)) _
  generalize hW : w.alloc (.cells (jobC (.slice A j.poly.length c) j).toArray 32) = W at K1 B0 ⊢
  clear hW
  refine (specJob_any _ j _ (HV.out.bel B0) HJ.out).mono ?_
  rintro e w2 ⟨rfl, b1⟩
  have HB := Lib.hid (bel_trans B0 b1)
  have HK := Lib.hid (K1.below b1 K1.lt)
  clear b1 B0 K1
  cases hq : jobOk j
  · have HN := Lib.hid (jt_no hq)
    have OE := Lib.hid (Own.empty w2 w.heap.size HB.out.size)
    go_wp2
    go_ret2
    exact ⟨_, by rw [HN.out.1]; rfl, by rw [HN.out.2]; exact OE.out, bel_trans HB.out (bel_alloc _ _)⟩
  · have HN := Lib.hid (jt_yes hq)
    obtain ⟨a0, a1, a2, a3, a4, a5, a6, a7, a8⟩ := HK.out.job
    go_wp2_with fail
    clear a0 a1 a2 a3 a4 a5 a6 a7 a8
    change Calls _ _ #[jobV (.slice A j.poly.length c) j] _ _
    refine (l8Table_any _ j _ (HV.out.bel HB.out) HJ.out).mono ?_
    rintro e w3 ⟨r3, rfl, o3, b3⟩
    have H3 := Lib.hid (And.intro (o3.lower (base' := w.heap.size) HB.out.size) (bel_trans HB.out b3))
    clear o3 b3
    go_wp2
    go_ret2
    exact ⟨_, by rw [HN.out.1]; rfl, by rw [HN.out.2]; exact H3.out.1, H3.out.2⟩

set_option maxHeartbeats 2000000 in
theorem implJT_any (v : Value) (j : JobD) (w : World) (hv : Ints w v j.poly) (hj : j.In) :
    Calls Tryz.prog 24 #[jobV v j] w (IntsQ w (jtL j) (jtOk j)) := by
  have HJ := Lib.hid hj
  have HV := Lib.hid hv
  obtain ⟨A, c, rfl, -, -, -⟩ := hv.open_
  clear hv hj
  have B0 : Below w.heap.size w (w.alloc (.cells (jobC (.slice A j.poly.length c) j).toArray 32)) := bel_alloc w _
  have K1 := Blk.new w 32 (jobC (.slice A j.poly.length c) j)
  unfold jobV
  go_enter Tryz.func24, Tryz.ntmps24
  go_wp2_with fail
  change Calls _ _ #[jobV (.slice A j.poly.length c) j] (w.alloc (.cells (jobC (.slice A j.poly.length c) j).toArray 32)) _
  generalize hW : w.alloc (.cells (jobC (.slice A j.poly.length c) j).toArray 32) = W at K1 B0 ⊢
  clear hW
  refine (implJob_any _ j _ (HV.out.bel B0) HJ.out).mono ?_
  rintro e w2 ⟨rfl, b1⟩
  have HB := Lib.hid (bel_trans B0 b1)
  have HK := Lib.hid (K1.below b1 K1.lt)
  clear b1 B0 K1
  cases hq : jobOk j
  · have HN := Lib.hid (jt_no hq)
    go_wp2
    go_ret2
    exact ⟨_, by rw [HN.out.1]; rfl, by rw [HN.out.2]; exact Own.nil_ _ _, HB.out⟩
  · have HN := Lib.hid (jt_yes hq)
    have hval := jobOk_val hq
    obtain ⟨a0, a1, a2, a3, a4, a5, a6, a7, a8⟩ := HK.out.job
    go_wp2_with fail
    clear a0 a1 a2 a3 a4 a5 a6 a7 a8
    refine (implValues_any _ j.poly j.fr j.ct _ (HV.out.bel HB.out) HJ.out.fr HJ.out.ct).mono ?_
    rintro e w3 ⟨r3, rfl, o3, b3⟩
    rw [hval]
    replace HB := Lib.hid (bel_trans HB.out b3)
    replace HK := Lib.hid (HK.out.below b3 HK.out.lt)
    have HO := Lib.hid o3.ints
    obtain ⟨a0, a1, a2, a3, a4, a5, a6, a7, a8⟩ := HK.out.job
    obtain ⟨A3, c3, rfl, -, -, -⟩ := o3.ints.open_
    clear o3 b3 hval hq
    go_wp2_with fail
    clear a0 a1 a2 a3 a4 a5 a6 a7 a8
    refine (implRT_any _ (jvL j) j.dg j.wy _ HO.out).mono ?_
    rintro e w4 ⟨r4, rfl, o4, b4⟩
    have H3 := Lib.hid (And.intro (o4.lower (base' := w.heap.size) HB.out.size) (bel_trans HB.out b4))
    clear o4 b4
    go_wp2
    go_ret2
    exact ⟨_, by rw [HN.out.1]; rfl, by rw [HN.out.2]; exact H3.out.1, H3.out.2⟩

set_option maxHeartbeats 1000000 in
theorem markJob_any (v : Value) (j : JobD) (k : Int) (base : Nat) (w : World) (hv : Own w base v j.poly) (h0 : 0 ≤ k) (h1 : k + (j.poly.length : Int) ≤ 4611686018427387904) :
    Calls Tryz.prog 14 #[jobV v j, .int .i64 k] w fun e w' => e = .returned (.int .i64 (k + (j.poly.length : Int))) ∧ w.grownBy w' v.ownBlock ∧ Own w' base v (marks k j.poly.length) := by
  have HV := Lib.hid hv
  obtain ⟨A, c, rfl, -, -, -⟩ := hv.ints.open_
  clear hv
  unfold jobV
  go_enter Tryz.func14, Tryz.ntmps14
  go_wp2_with fail
  refine (markIntS_any _ j.poly k base _ (HV.out.bel (bel_alloc w _)) h0 h1).mono ?_
  rintro e w2 ⟨rfl, hg, ho⟩
  have H := Lib.hid (And.intro hg ho)
  clear hg ho
  go_wp2
  go_ret
  exact ⟨rfl, ⟨H.out.1.os.trans (bel_alloc w _).os, H.out.1.tape.trans (bel_alloc w _).tape, H.out.1.output.trans (bel_alloc w _).output, Nat.le_trans (bel_alloc w _).size H.out.1.size, fun i hi hne => (H.out.1.block i (Nat.lt_of_lt_of_le hi (bel_alloc w _).size) hne).trans ((bel_alloc w _).block i hi)⟩, H.out.2⟩

end Go.Proofs.YtdmadaebeooaaaaGreatDoor
