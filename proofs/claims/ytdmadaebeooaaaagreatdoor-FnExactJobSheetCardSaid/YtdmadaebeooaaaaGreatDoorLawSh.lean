/-
  The law FnExactJobSheet, walked.
-/
import Derived.Test.YtdmadaebeooaaaaGreatDoorShQ
import Derived.Test.YtdmadaebeooaaaaGreatDoorEngBox
import Derived.Test.YtdmadaebeooaaaaGreatDoorJobC
namespace Go.Proofs.YtdmadaebeooaaaaGreatDoor
open Go.RowKit
set_option linter.unusedVariables false
set_option linter.unusedSimpArgs false
set_option maxRecDepth 100000
attribute [local go_sem ↓] Go.wp_at_zero Go.wp_at_succ

theorem TxtE.one (s : ByteArray) (P : Prop) : ∃ (S : ByteArray) (B : Bool), ∀ e, TxtE s P e → e = .returned (.tuple #[.string S, .bool B]) := by
  by_cases h : P
  · exact ⟨s, true, fun e he => he.elim (fun x => x.2) (fun x => absurd h x.1)⟩
  · exact ⟨⟨#[]⟩, false, fun e he => he.elim (fun x => absurd x.1 h) (fun x => x.2)⟩

set_option maxHeartbeats 8000000 in
theorem lawJobSheet (v : Value) (j : JobD) (w : World) (hv : Ints w v j.poly) (hj : j.In) (ht : Tab w) :
    Calls Tryz.prog 3 #[jobV v j] w fun e w' => e = .returned (.bool true) ∧ Below w.heap.size w w' := by
  have HV := Lib.hid hv
  have HJ := Lib.hid hj
  have HT := Lib.hid ht
  obtain ⟨S, T, hST⟩ := TxtE.one (shJ j) (sjOk j)
  replace hST := Lib.hid hST
  have he : (!S.toList == S.toList) = false := by simp
  have he2 : (!T == T) = false := by cases T <;> rfl
  obtain ⟨A, c, rfl, -, -, -⟩ := hv.open_
  clear hv hj ht
  have B0 : Below w.heap.size w (w.alloc (.cells (jobC (.slice A j.poly.length c) j).toArray 26)) := bel_alloc w _
  have K1 := Blk.new w 26 (jobC (.slice A j.poly.length c) j)
  unfold jobV
  go_enter Tryz.func3, Tryz.ntmps3
  go_wp2_with fail
  change Calls _ _ #[jobV (.slice A j.poly.length c) j, .int .i64 1048576] (w.alloc (.cells (jobC (.slice A j.poly.length c) j).toArray 26)) _
  generalize hW : w.alloc (.cells (jobC (.slice A j.poly.length c) j).toArray 26) = W at K1 B0 ⊢
  clear hW
  have HB := Lib.hid B0
  have HK := Lib.hid K1
  have HI := Lib.hid (HV.out.bel B0)
  clear K1 B0 HV
  refine (szJob_any _ j 1048576 _ HI.out (by omega) (by omega)).mono ?_
  rintro e w2 ⟨lf, rfl, hr, b⟩
  replace HB := Lib.hid (bel_trans HB.out b)
  replace HK := Lib.hid (HK.out.below b HK.out.lt)
  replace HI := Lib.hid (HI.out.bel b)
  clear b
  rcases hr with rfl | ⟨q0, q1⟩
  · go_wp2
    go_ret
    exact ⟨rfl, HB.out⟩
  · have hl : j.poly.length ≤ 1048576 := by omega
    obtain ⟨a0, a1, a2, a3, a4, a5, a6, a7, a8⟩ := HK.out.job
    go_wp2_with fail
    clear a0 a1 a2 a3 a4 a5 a6 a7 a8
    change Calls _ _ #[jobV (.slice A j.poly.length c) j] _ _
    refine (toJob_any _ j _ HI.out hl).mono ?_
    rintro e w3 ⟨r1, rfl, o1, b⟩
    replace HB := Lib.hid (bel_trans HB.out b)
    replace HK := Lib.hid (HK.out.below b HK.out.lt)
    replace HI := Lib.hid (HI.out.bel b)
    have O1 := Lib.hid o1
    obtain ⟨A1, c1, rfl, -, -, -⟩ := o1.ints.open_
    clear b o1
    unfold jobV
    go_wp2_with fail
    change Calls _ _ #[jobV (.slice A1 j.poly.length c1) j] _ _
    refine (specJS_any _ j _ O1.out.ints HJ.out).mono ?_
    rintro e w4 ⟨TE, b⟩
    obtain rfl := hST.out e TE
    clear TE
    replace HB := Lib.hid (bel_trans HB.out b)
    replace HK := Lib.hid (HK.out.below b HK.out.lt)
    replace HI := Lib.hid (HI.out.bel b)
    clear b O1
    obtain ⟨a0, a1, a2, a3, a4, a5, a6, a7, a8⟩ := HK.out.job
    go_wp2_with fail
    clear a0 a1 a2 a3 a4 a5 a6 a7 a8
    change Calls _ _ #[jobV (.slice A j.poly.length c) j] _ _
    refine (toJob_any _ j _ HI.out hl).mono ?_
    rintro e w5 ⟨r2, rfl, o2, b⟩
    obtain ⟨A2, c2, rfl, -, -, -⟩ := o2.ints.open_
    have bb := bel_trans b (bel_alloc w5 (.cells (jobC (.slice A2 j.poly.length c2) j).toArray 32))
    replace HB := Lib.hid (bel_trans HB.out bb)
    replace HK := Lib.hid (HK.out.below bb HK.out.lt)
    replace HI := Lib.hid (HI.out.bel bb)
    have O2 := Lib.hid (o2.ints.bel (bel_alloc w5 (.cells (jobC (.slice A2 j.poly.length c2) j).toArray 32)))
    have KX := Lib.hid (Blk.new w5 32 (jobC (.slice A2 j.poly.length c2) j))
    clear b bb o2
    unfold jobV
    go_wp2_with fail
    change Calls _ _ #[jobV (.slice A2 j.poly.length c2) j] (w5.alloc (.cells (jobC (.slice A2 j.poly.length c2) j).toArray 32)) _
    generalize hW : w5.alloc (.cells (jobC (.slice A2 j.poly.length c2) j).toArray 32) = W6 at KX HK HI HB O2 ⊢
    clear hW
    refine (implJS_any _ j _ O2.out HJ.out (HT.out.bel HB.out)).mono ?_
    rintro e w7 ⟨TE, b⟩
    obtain rfl := hST.out e TE
    clear TE
    replace HB := Lib.hid (bel_trans HB.out b)
    replace HK := Lib.hid (HK.out.below b HK.out.lt)
    replace KX := Lib.hid (KX.out.below b KX.out.lt)
    replace HI := Lib.hid (HI.out.bel b)
    replace O2 := Lib.hid (O2.out.bel b)
    clear b
    go_wp2_with fail
    obtain ⟨a0, a1, a2, a3, a4, a5, a6, a7, a8⟩ := HK.out.job
    obtain ⟨x0, x1, x2, x3, x4, x5, x6, x7, x8⟩ := KX.out.job
    have hltp := HK.out.lt
    have hltx := KX.out.lt
    have tok1 : True := trivial
    have tok2 : True := trivial
    go_region_held3 (fun w' => (w'.cell? ⟨w.heap.size, 0, none⟩ = some (.slice A j.poly.length c) ∧ w'.cell? ⟨w.heap.size, 1, none⟩ = some (.int .i64 j.fr) ∧ w'.cell? ⟨w.heap.size, 2, none⟩ = some (.int .i64 j.ct) ∧ w'.cell? ⟨w.heap.size, 3, none⟩ = some (.int .i64 j.wd) ∧ w'.cell? ⟨w.heap.size, 4, none⟩ = some (.int .i64 j.dg) ∧ w'.cell? ⟨w.heap.size, 5, none⟩ = some (.int .i64 j.wy) ∧ w'.cell? ⟨w.heap.size, 6, none⟩ = some (.int .i64 j.rw) ∧ w'.cell? ⟨w.heap.size, 7, none⟩ = some (.int .i64 j.ac) ∧ w'.cell? ⟨w.heap.size, 8, none⟩ = some (.int .i64 j.wi)) ∧ (w'.cell? ⟨w5.heap.size, 0, none⟩ = some (.slice A2 j.poly.length c2) ∧ w'.cell? ⟨w5.heap.size, 1, none⟩ = some (.int .i64 j.fr) ∧ w'.cell? ⟨w5.heap.size, 2, none⟩ = some (.int .i64 j.ct) ∧ w'.cell? ⟨w5.heap.size, 3, none⟩ = some (.int .i64 j.wd) ∧ w'.cell? ⟨w5.heap.size, 4, none⟩ = some (.int .i64 j.dg) ∧ w'.cell? ⟨w5.heap.size, 5, none⟩ = some (.int .i64 j.wy) ∧ w'.cell? ⟨w5.heap.size, 6, none⟩ = some (.int .i64 j.rw) ∧ w'.cell? ⟨w5.heap.size, 7, none⟩ = some (.int .i64 j.ac) ∧ w'.cell? ⟨w5.heap.size, 8, none⟩ = some (.int .i64 j.wi))) (first | exact ⟨HK.out.job, KX.out.job⟩ | exact ⟨HK8.out.job, KX8.out.job⟩ | exact ⟨HK9.out.job, KX9.out.job⟩ | go_keep) (first
      | ((try go_simp); go_at_call 9; have _t := tok1; go_loud (refine (toJob_any (.slice A j.poly.length c) j _ (by first | exact HI.out | exact HI.out.bel ((Below.refl _ _).drew)) hl).mono ?_; rintro e w8 ⟨r3, rfl, o3, b⟩; replace b : Below w7.heap.size w7 w8 := (by first | exact b | exact bel_trans ((Below.refl _ _).drew) b); have HB8 := Lib.hid (bel_trans HB.out b); have HK8 := Lib.hid (HK.out.below b hltp); have KX8 := Lib.hid (KX.out.below b hltx); have O28 := Lib.hid (O2.out.bel b); have O3 := Lib.hid o3.ints; obtain ⟨A3, c3, rfl, -, -, -⟩ := o3.ints.open_; clear tok1 b o3; unfold jobV; (try dsimp only)))
      | ((try go_simp); go_at_call 11; have _t := tok2; go_loud (refine (eqJob_any (.slice A2 j.poly.length c2) (.slice A3 j.poly.length c3) j _ (by first | exact O28.out | exact O28.out.bel ((Below.refl _ _).drew)) (by first | exact O3.out | exact O3.out.bel ((Below.refl _ _).drew))).mono ?_; rintro e w9 ⟨rfl, b⟩; replace b : Below w8.heap.size w8 w9 := (by first | exact b | exact bel_trans ((Below.refl _ _).drew) b); have HB9 := Lib.hid (bel_trans HB8.out b); have HK9 := Lib.hid (HK8.out.below b HK8.out.lt); have KX9 := Lib.hid (KX8.out.below b KX8.out.lt); clear tok2 b; (try dsimp only)))
      | fail)
    all_goals
      clear a0 a1 a2 a3 a4 a5 a6 a7 a8 x0 x1 x2 x3 x4 x5 x6 x7 x8
      go_wp2
      go_ret
      exact ⟨rfl, HB9.out⟩

end Go.Proofs.YtdmadaebeooaaaaGreatDoor
