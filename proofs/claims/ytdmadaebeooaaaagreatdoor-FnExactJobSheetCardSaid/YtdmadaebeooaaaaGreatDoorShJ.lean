/-
  Sheets: JobSheet (both; printed by gen_shj.py).
-/
import Derived.Test.YtdmadaebeooaaaaGreatDoorShM
namespace Go.Proofs.YtdmadaebeooaaaaGreatDoor
open Go.RowKit
set_option linter.unusedVariables false
set_option linter.unusedSimpArgs false
set_option maxRecDepth 100000
attribute [local go_sem ↓] Go.wp_at_zero Go.wp_at_succ

def shJ (j : JobD) : ByteArray := shS j.wi.toNat (jtL j) j.rw.toNat j.ac.toNat
def sjOk (j : JobD) : Prop := jtOk j = true ∧ tableOk (jtL j) = true ∧ shOk j.wi.toNat (jtL j) j.rw.toNat j.ac.toNat = true
theorem jt_lay {j : JobD} (h : jtOk j = true) : ∃ R A W : Nat, j.rw = R ∧ j.ac = A ∧ j.wi = W ∧ (1 ≤ R ∧ R ≤ 20) ∧ (1 ≤ A ∧ A ≤ 6) ∧ (1 ≤ W ∧ W ≤ 12) := by
  have hq : jobOk j = true := by
    cases hq : jobOk j
    · rw [(jt_no hq).1] at h; exact h
    · rfl
  have hl := (jobOk_true.1 hq).2.2.2.2
  simp [layOk, inB] at hl
  exact ⟨j.rw.toNat, j.ac.toNat, j.wi.toNat, by omega, by omega, by omega, by omega, by omega, by omega⟩


set_option maxHeartbeats 2000000 in
theorem specJS_any (v : Value) (j : JobD) (w : World) (hv : Ints w v j.poly) (hj : j.In) :
    Calls Tryz.prog 8 #[jobV v j] w fun e w' => TxtE (shJ j) (sjOk j) e ∧ Below w.heap.size w w' := by
  have HJ := Lib.hid hj
  have HV := Lib.hid hv
  obtain ⟨A, c, rfl, -, -, -⟩ := hv.open_
  clear hv hj
  have B0 : Below w.heap.size w (w.alloc (.cells (jobC (.slice A j.poly.length c) j).toArray 32)) := bel_alloc w _
  have K1 := Blk.new w 32 (jobC (.slice A j.poly.length c) j)
  unfold jobV
  go_enter Tryz.func8, Tryz.ntmps8
  go_wp2_with fail
  change Calls _ _ #[jobV (.slice A j.poly.length c) j] (w.alloc (.cells (jobC (.slice A j.poly.length c) j).toArray 32)) _
  generalize hW : w.alloc (.cells (jobC (.slice A j.poly.length c) j).toArray 32) = W at K1 B0 ⊢
  clear hW
  refine (specJT_any _ j _ (HV.out.bel B0) HJ.out).mono ?_
  rintro e w2 ⟨r, rfl, o1, b1⟩
  have HB := Lib.hid (bel_trans B0 b1)
  have HK := Lib.hid (K1.below b1 K1.lt)
  have HO := Lib.hid o1.ints
  obtain ⟨A2, c2, rfl, -, -, -⟩ := o1.ints.open_
  clear b1 B0 K1 o1
  cases hq : jtOk j
  · have HN := Lib.hid hq
    clear hq
    go_wp2
    go_ret2
    exact ⟨.inr ⟨fun h => by have h1 := h.1; rw [HN.out] at h1; exact Bool.noConfusion h1, rfl⟩, HB.out⟩
  · have HN := Lib.hid hq
    obtain ⟨R, Ac, W0, e1, e2, e3, h1, h2, h3⟩ := jt_lay hq
    obtain ⟨a0, a1, a2, a3, a4, a5, a6, a7, a8⟩ := HK.out.job
    clear hq
    go_wp2_with fail
    clear a0 a1 a2 a3 a4 a5 a6 a7 a8
    refine (specPT_any R Ac W0 (R * Ac) _ (jtL j) _ HO.out h1 h2 h3 (jtL_len j) rfl).mono ?_
    rintro e w3 ⟨T, b3⟩
    have HB3 := Lib.hid (bel_trans HB.out b3)
    have HE := Lib.hid (And.intro e1 (And.intro e2 e3))
    clear b3 e1 e2 e3
    rcases T with ⟨hP, rfl⟩ | ⟨hP, rfl⟩
    · have HP := Lib.hid hP
      clear hP
      go_wp2
      go_ret2
      refine ⟨.inl ⟨⟨HN.out, by rw [HE.out.1, HE.out.2.1, HE.out.2.2]; exact HP.out⟩, ?_⟩, HB3.out⟩
      unfold shJ
      rw [HE.out.1, HE.out.2.1, HE.out.2.2]
      rfl
    · have HP := Lib.hid hP
      clear hP
      go_wp2
      go_ret2
      exact ⟨.inr ⟨fun h => HP.out (by have := h.2; rw [HE.out.1, HE.out.2.1, HE.out.2.2] at this; exact this), rfl⟩, HB3.out⟩

end Go.Proofs.YtdmadaebeooaaaaGreatDoor
