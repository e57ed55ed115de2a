/-
  The contract of spec.FormatJob (made by gen_fmt.py).
-/
import Derived.Test.YtdmadaebeooaaaaGreatDoorFmt
namespace Go.Proofs.YtdmadaebeooaaaaGreatDoor
open Go.RowKit
set_option linter.unusedVariables false
set_option linter.unusedSimpArgs false
set_option maxRecDepth 100000
attribute [local go_sem ↓] Go.wp_at_zero Go.wp_at_succ

set_option maxHeartbeats 8000000 in
theorem specFmt_any (v : Value) (j : JobD) (w : World) (hv : Ints w v j.poly) (hj : j.In) :
    Calls Tryz.prog 18 #[jobV v j] w fun e w' => e = .returned (.string (fmtJ j)) ∧ Below w.heap.size w w' := by
  have HV := Lib.hid hv
  have HJ := Lib.hid hj
  obtain ⟨A, c, rfl, -, hc, -⟩ := hv.open_
  clear hv
  have B0 : Below w.heap.size w (w.alloc (.cells (jobC (.slice A j.poly.length c) j).toArray 32)) := bel_alloc w _
  have K1 := Blk.new w 32 (jobC (.slice A j.poly.length c) j)
  unfold jobV
  go_enter Tryz.func18, Tryz.ntmps18
  go_wp2_with fail
  change Calls _ _ #[jobV (.slice A j.poly.length c) j] (w.alloc (.cells (jobC (.slice A j.poly.length c) j).toArray 32)) _
  generalize hW : w.alloc (.cells (jobC (.slice A j.poly.length c) j).toArray 32) = W at K1 B0 ⊢
  clear hW
  refine (specJob_any _ j _ (HV.out.bel B0) hj).mono ?_
  rintro e w2 ⟨rfl, b1⟩
  have HB := Lib.hid (bel_trans B0 b1)
  have K2 := K1.below b1 K1.lt
  clear b1 B0 K1 hj
  cases hq : jobOk j
  · have HN := Lib.hid (fmt_no hq)
    go_wp2
    go_ret
    exact ⟨by rw [HN.out]; rfl, HB.out⟩
  · have HN := Lib.hid (fmt_yes hq)
    have HP := Lib.hid (HV.out.bel HB.out)
    have HWF := Lib.hid (job_wf HJ.out)
    obtain ⟨z0, z1, z2, z3⟩ := fmt_sizes HV.out.2 HJ.out hq
    have hsemi : semi.size = 1 := rfl
    obtain ⟨a0, a1, a2, a3, a4, a5, a6, a7, a8⟩ := K2.job
    have hl2 := K2.lt
    clear hq HV
    go_wp2_with fail
    have f0 : (polyS j.poly).size = (polyS j.poly).size := by rfl
    have c0a : ¬ 9223372036854775807 < (polyS j.poly).size + 1 := by omega
    have c0b : ¬ 9223372036854775807 < (polyS j.poly).size + 1 := by omega
    have f1 : (polyS j.poly ++ semi).size = (polyS j.poly).size + 1 := by rw [ByteArray.size_append, f0]; rfl
    have c1a : ¬ 9223372036854775807 < (polyS j.poly ++ semi).size + (gr1 j).size := by omega
    have c1b : ¬ 9223372036854775807 < (polyS j.poly).size + 1 + (gr1 j).size := by omega
    have f2 : (polyS j.poly ++ semi ++ gr1 j).size = (polyS j.poly).size + 1 + (gr1 j).size := by rw [ByteArray.size_append, f1]
    have c2a : ¬ 9223372036854775807 < (polyS j.poly ++ semi ++ gr1 j).size + 1 := by omega
    have c2b : ¬ 9223372036854775807 < (polyS j.poly).size + 1 + (gr1 j).size + 1 := by omega
    have f3 : (polyS j.poly ++ semi ++ gr1 j ++ semi).size = (polyS j.poly).size + 1 + (gr1 j).size + 1 := by rw [ByteArray.size_append, f2]; rfl
    have c3a : ¬ 9223372036854775807 < (polyS j.poly ++ semi ++ gr1 j ++ semi).size + (gr2 j).size := by omega
    have c3b : ¬ 9223372036854775807 < (polyS j.poly).size + 1 + (gr1 j).size + 1 + (gr2 j).size := by omega
    have f4 : (polyS j.poly ++ semi ++ gr1 j ++ semi ++ gr2 j).size = (polyS j.poly).size + 1 + (gr1 j).size + 1 + (gr2 j).size := by rw [ByteArray.size_append, f3]
    have c4a : ¬ 9223372036854775807 < (polyS j.poly ++ semi ++ gr1 j ++ semi ++ gr2 j).size + 1 := by omega
    have c4b : ¬ 9223372036854775807 < (polyS j.poly).size + 1 + (gr1 j).size + 1 + (gr2 j).size + 1 := by omega
    have f5 : (polyS j.poly ++ semi ++ gr1 j ++ semi ++ gr2 j ++ semi).size = (polyS j.poly).size + 1 + (gr1 j).size + 1 + (gr2 j).size + 1 := by rw [ByteArray.size_append, f4]; rfl
    have c5a : ¬ 9223372036854775807 < (polyS j.poly ++ semi ++ gr1 j ++ semi ++ gr2 j ++ semi).size + (gr3 j).size := by omega
    have c5b : ¬ 9223372036854775807 < (polyS j.poly).size + 1 + (gr1 j).size + 1 + (gr2 j).size + 1 + (gr3 j).size := by omega
    refine cut_by (P := ?Pq_2_10_11_18_19_31_32) ?hkq_2_10_11_18_19_31_32 (fun keyq_2_10_11_18_19_31_32 => ?mainq_2_10_11_18_19_31_32)
    case mainq_2_10_11_18_19_31_32 =>
      replace keyq_2_10_11_18_19_31_32 := Lib.hid keyq_2_10_11_18_19_31_32
      refine cut_by (P := ?Pq_2_10_11_18_19_31) ?hkq_2_10_11_18_19_31 (fun keyq_2_10_11_18_19_31 => ?mainq_2_10_11_18_19_31)
      case mainq_2_10_11_18_19_31 =>
        replace keyq_2_10_11_18_19_31 := Lib.hid keyq_2_10_11_18_19_31
        refine cut_by (P := ?Pq_2_10_11_18_31) ?hkq_2_10_11_18_31 (fun keyq_2_10_11_18_31 => ?mainq_2_10_11_18_31)
        case mainq_2_10_11_18_31 =>
          replace keyq_2_10_11_18_31 := Lib.hid keyq_2_10_11_18_31
          refine cut_by (P := ?Pq_2_10_11_18_19) ?hkq_2_10_11_18_19 (fun keyq_2_10_11_18_19 => ?mainq_2_10_11_18_19)
          case mainq_2_10_11_18_19 =>
            replace keyq_2_10_11_18_19 := Lib.hid keyq_2_10_11_18_19
            refine cut_by (P := ?Pq_2_10_18_31) ?hkq_2_10_18_31 (fun keyq_2_10_18_31 => ?mainq_2_10_18_31)
            case mainq_2_10_18_31 =>
              replace keyq_2_10_18_31 := Lib.hid keyq_2_10_18_31
              refine cut_by (P := ?Pq_2_10_11_31) ?hkq_2_10_11_31 (fun keyq_2_10_11_31 => ?mainq_2_10_11_31)
              case mainq_2_10_11_31 =>
                replace keyq_2_10_11_31 := Lib.hid keyq_2_10_11_31
                refine cut_by (P := ?Pq_2_10_11_18) ?hkq_2_10_11_18 (fun keyq_2_10_11_18 => ?mainq_2_10_11_18)
                case mainq_2_10_11_18 =>
                  replace keyq_2_10_11_18 := Lib.hid keyq_2_10_11_18
                  refine cut_by (P := ?Pq_10_18_31) ?hkq_10_18_31 (fun keyq_10_18_31 => ?mainq_10_18_31)
                  case mainq_10_18_31 =>
                    replace keyq_10_18_31 := Lib.hid keyq_10_18_31
                    refine cut_by (P := ?Pq_2_18_31) ?hkq_2_18_31 (fun keyq_2_18_31 => ?mainq_2_18_31)
                    case mainq_2_18_31 =>
                      replace keyq_2_18_31 := Lib.hid keyq_2_18_31
                      refine cut_by (P := ?Pq_2_10_31) ?hkq_2_10_31 (fun keyq_2_10_31 => ?mainq_2_10_31)
                      case mainq_2_10_31 =>
                        replace keyq_2_10_31 := Lib.hid keyq_2_10_31
                        refine cut_by (P := ?Pq_2_10_18) ?hkq_2_10_18 (fun keyq_2_10_18 => ?mainq_2_10_18)
                        case mainq_2_10_18 =>
                          replace keyq_2_10_18 := Lib.hid keyq_2_10_18
                          refine cut_by (P := ?Pq_2_10_11) ?hkq_2_10_11 (fun keyq_2_10_11 => ?mainq_2_10_11)
                          case mainq_2_10_11 =>
                            replace keyq_2_10_11 := Lib.hid keyq_2_10_11
                            refine cut_by (P := ?Pq_18_31) ?hkq_18_31 (fun keyq_18_31 => ?mainq_18_31)
                            case mainq_18_31 =>
                              replace keyq_18_31 := Lib.hid keyq_18_31
                              refine cut_by (P := ?Pq_10_31) ?hkq_10_31 (fun keyq_10_31 => ?mainq_10_31)
                              case mainq_10_31 =>
                                replace keyq_10_31 := Lib.hid keyq_10_31
                                refine cut_by (P := ?Pq_10_18) ?hkq_10_18 (fun keyq_10_18 => ?mainq_10_18)
                                case mainq_10_18 =>
                                  replace keyq_10_18 := Lib.hid keyq_10_18
                                  refine cut_by (P := ?Pq_2_31) ?hkq_2_31 (fun keyq_2_31 => ?mainq_2_31)
                                  case mainq_2_31 =>
                                    replace keyq_2_31 := Lib.hid keyq_2_31
                                    refine cut_by (P := ?Pq_2_18) ?hkq_2_18 (fun keyq_2_18 => ?mainq_2_18)
                                    case mainq_2_18 =>
                                      replace keyq_2_18 := Lib.hid keyq_2_18
                                      refine cut_by (P := ?Pq_2_10) ?hkq_2_10 (fun keyq_2_10 => ?mainq_2_10)
                                      case mainq_2_10 =>
                                        replace keyq_2_10 := Lib.hid keyq_2_10
                                        refine cut_by (P := ?Pq_31) ?hkq_31 (fun keyq_31 => ?mainq_31)
                                        case mainq_31 =>
                                          replace keyq_31 := Lib.hid keyq_31
                                          refine cut_by (P := ?Pq_18) ?hkq_18 (fun keyq_18 => ?mainq_18)
                                          case mainq_18 =>
                                            replace keyq_18 := Lib.hid keyq_18
                                            refine cut_by (P := ?Pq_10) ?hkq_10 (fun keyq_10 => ?mainq_10)
                                            case mainq_10 =>
                                              replace keyq_10 := Lib.hid keyq_10
                                              refine cut_by (P := ?Pq_2) ?hkq_2 (fun keyq_2 => ?mainq_2)
                                              case mainq_2 =>
                                                replace keyq_2 := Lib.hid keyq_2
                                                refine wp_region_held_drew (S := (fun w' => w'.cell? ⟨w.heap.size, 0, none⟩ = some (.slice A j.poly.length c) ∧ w'.cell? ⟨w.heap.size, 1, none⟩ = some (.int .i64 j.fr) ∧ w'.cell? ⟨w.heap.size, 2, none⟩ = some (.int .i64 j.ct) ∧ w'.cell? ⟨w.heap.size, 3, none⟩ = some (.int .i64 j.wd) ∧ w'.cell? ⟨w.heap.size, 4, none⟩ = some (.int .i64 j.dg) ∧ w'.cell? ⟨w.heap.size, 5, none⟩ = some (.int .i64 j.wy) ∧ w'.cell? ⟨w.heap.size, 6, none⟩ = some (.int .i64 j.rw) ∧ w'.cell? ⟨w.heap.size, 7, none⟩ = some (.int .i64 j.ac) ∧ w'.cell? ⟨w.heap.size, 8, none⟩ = some (.int .i64 j.wi))) (by kernel_rfl) ?_ (fun hS => ?_)
                                                · skip
                                                  exact ⟨a0, a1, a2, a3, a4, a5, a6, a7, a8⟩
                                                have B : Below w2.heap.size w2 w2.drew := (Below.refl _ _).drew
                                                generalize hW : w2.drew = wr at *
                                                clear hW
                                                refine wpAnyH_take (i := 0) (oi := { dst := some 6, op := Op.fieldAddr 32 (Operand.tmp 1) 0, type := 0, pos := "l8_desk.go:19", after := #[], guard := none }) (v := ?vq_1) rfl (by kernel_rfl) (by kernel_rfl) (by kernel_rfl) (fun _ _ _ h => h) (Or.inl ⟨by rfl, ?hyq_1⟩) hS ?restq_1
                                                case hyq_1 => (intro w' hSw; (try dsimp only at hSw); go_simp; all_goals with_reducible rfl)
                                                (try simp only [Act.put, List.setIfInBounds_toArray, List.set_cons_zero, List.set_cons_succ])
                                                refine wpAnyH_take (i := 1) (oi := { dst := some 7, op := Op.load 22 (Operand.tmp 6), type := 22, pos := "l8_desk.go:19", after := #[{ on := 0, ground := Ground.data }], guard := none }) (v := ?vq_2) rfl (by kernel_rfl) (by kernel_rfl) (by kernel_rfl) (fun _ _ _ h => h) (Or.inl ⟨by rfl, ?hyq_2⟩) hS ?restq_2
                                                case hyq_2 => (intro w' hSw; (try dsimp only at hSw); go_simp; all_goals with_reducible rfl)
                                                (try simp only [Act.put, List.setIfInBounds_toArray, List.set_cons_zero, List.set_cons_succ])
                                                refine wpAnyH_take (i := 4) (oi := { dst := some 10, op := Op.fieldAddr 32 (Operand.tmp 1) 1, type := 0, pos := "l8_desk.go:19", after := #[], guard := none }) (v := ?vq_3) rfl (by kernel_rfl) (by kernel_rfl) (by kernel_rfl) (fun _ _ _ h => h) (Or.inl ⟨by rfl, ?hyq_3⟩) hS ?restq_3
                                                case hyq_3 => (intro w' hSw; (try dsimp only at hSw); go_simp; all_goals with_reducible rfl)
                                                (try simp only [Act.put, List.setIfInBounds_toArray, List.set_cons_zero, List.set_cons_succ])
                                                refine wpAnyH_take (i := 5) (oi := { dst := some 11, op := Op.load 3 (Operand.tmp 10), type := 3, pos := "l8_desk.go:19", after := #[{ on := 4, ground := Ground.data }], guard := none }) (v := ?vq_4) rfl (by kernel_rfl) (by kernel_rfl) (by kernel_rfl) (fun _ _ _ h => h) (Or.inl ⟨by rfl, ?hyq_4⟩) hS ?restq_4
                                                case hyq_4 => (intro w' hSw; (try dsimp only at hSw); go_simp; all_goals with_reducible rfl)
                                                (try simp only [Act.put, List.setIfInBounds_toArray, List.set_cons_zero, List.set_cons_succ])
                                                refine wpAnyH_take (i := 6) (oi := { dst := some 12, op := Op.fieldAddr 32 (Operand.tmp 1) 2, type := 0, pos := "l8_desk.go:19", after := #[], guard := none }) (v := ?vq_5) rfl (by kernel_rfl) (by kernel_rfl) (by kernel_rfl) (fun _ _ _ h => h) (Or.inl ⟨by rfl, ?hyq_5⟩) hS ?restq_5
                                                case hyq_5 => (intro w' hSw; (try dsimp only at hSw); go_simp; all_goals with_reducible rfl)
                                                (try simp only [Act.put, List.setIfInBounds_toArray, List.set_cons_zero, List.set_cons_succ])
                                                refine wpAnyH_take (i := 7) (oi := { dst := some 13, op := Op.load 3 (Operand.tmp 12), type := 3, pos := "l8_desk.go:19", after := #[{ on := 6, ground := Ground.data }], guard := none }) (v := ?vq_6) rfl (by kernel_rfl) (by kernel_rfl) (by kernel_rfl) (fun _ _ _ h => h) (Or.inl ⟨by rfl, ?hyq_6⟩) hS ?restq_6
                                                case hyq_6 => (intro w' hSw; (try dsimp only at hSw); go_simp; all_goals with_reducible rfl)
                                                (try simp only [Act.put, List.setIfInBounds_toArray, List.set_cons_zero, List.set_cons_succ])
                                                refine wpAnyH_take (i := 8) (oi := { dst := some 14, op := Op.fieldAddr 32 (Operand.tmp 1) 3, type := 0, pos := "l8_desk.go:19", after := #[], guard := none }) (v := ?vq_7) rfl (by kernel_rfl) (by kernel_rfl) (by kernel_rfl) (fun _ _ _ h => h) (Or.inl ⟨by rfl, ?hyq_7⟩) hS ?restq_7
                                                case hyq_7 => (intro w' hSw; (try dsimp only at hSw); go_simp; all_goals with_reducible rfl)
                                                (try simp only [Act.put, List.setIfInBounds_toArray, List.set_cons_zero, List.set_cons_succ])
                                                refine wpAnyH_take (i := 9) (oi := { dst := some 15, op := Op.load 3 (Operand.tmp 14), type := 3, pos := "l8_desk.go:19", after := #[{ on := 8, ground := Ground.data }], guard := none }) (v := ?vq_8) rfl (by kernel_rfl) (by kernel_rfl) (by kernel_rfl) (fun _ _ _ h => h) (Or.inl ⟨by rfl, ?hyq_8⟩) hS ?restq_8
                                                case hyq_8 => (intro w' hSw; (try dsimp only at hSw); go_simp; all_goals with_reducible rfl)
                                                (try simp only [Act.put, List.setIfInBounds_toArray, List.set_cons_zero, List.set_cons_succ])
                                                refine wpAnyH_take (i := 14) (oi := { dst := some 20, op := Op.fieldAddr 32 (Operand.tmp 1) 4, type := 0, pos := "l8_desk.go:19", after := #[], guard := none }) (v := ?vq_9) rfl (by kernel_rfl) (by kernel_rfl) (by kernel_rfl) (fun _ _ _ h => h) (Or.inl ⟨by rfl, ?hyq_9⟩) hS ?restq_9
                                                case hyq_9 => (intro w' hSw; (try dsimp only at hSw); go_simp; all_goals with_reducible rfl)
                                                (try simp only [Act.put, List.setIfInBounds_toArray, List.set_cons_zero, List.set_cons_succ])
                                                refine wpAnyH_take (i := 15) (oi := { dst := some 21, op := Op.load 3 (Operand.tmp 20), type := 3, pos := "l8_desk.go:19", after := #[{ on := 14, ground := Ground.data }], guard := none }) (v := ?vq_10) rfl (by kernel_rfl) (by kernel_rfl) (by kernel_rfl) (fun _ _ _ h => h) (Or.inl ⟨by rfl, ?hyq_10⟩) hS ?restq_10
                                                case hyq_10 => (intro w' hSw; (try dsimp only at hSw); go_simp; all_goals with_reducible rfl)
                                                (try simp only [Act.put, List.setIfInBounds_toArray, List.set_cons_zero, List.set_cons_succ])
                                                refine wpAnyH_take (i := 16) (oi := { dst := some 22, op := Op.fieldAddr 32 (Operand.tmp 1) 5, type := 0, pos := "l8_desk.go:19", after := #[], guard := none }) (v := ?vq_11) rfl (by kernel_rfl) (by kernel_rfl) (by kernel_rfl) (fun _ _ _ h => h) (Or.inl ⟨by rfl, ?hyq_11⟩) hS ?restq_11
                                                case hyq_11 => (intro w' hSw; (try dsimp only at hSw); go_simp; all_goals with_reducible rfl)
                                                (try simp only [Act.put, List.setIfInBounds_toArray, List.set_cons_zero, List.set_cons_succ])
                                                refine wpAnyH_take (i := 17) (oi := { dst := some 23, op := Op.load 3 (Operand.tmp 22), type := 3, pos := "l8_desk.go:19", after := #[{ on := 16, ground := Ground.data }], guard := none }) (v := ?vq_12) rfl (by kernel_rfl) (by kernel_rfl) (by kernel_rfl) (fun _ _ _ h => h) (Or.inl ⟨by rfl, ?hyq_12⟩) hS ?restq_12
                                                case hyq_12 => (intro w' hSw; (try dsimp only at hSw); go_simp; all_goals with_reducible rfl)
                                                (try simp only [Act.put, List.setIfInBounds_toArray, List.set_cons_zero, List.set_cons_succ])
                                                refine wpAnyH_take (i := 22) (oi := { dst := some 28, op := Op.fieldAddr 32 (Operand.tmp 1) 6, type := 0, pos := "l8_desk.go:19", after := #[], guard := none }) (v := ?vq_13) rfl (by kernel_rfl) (by kernel_rfl) (by kernel_rfl) (fun _ _ _ h => h) (Or.inl ⟨by rfl, ?hyq_13⟩) hS ?restq_13
                                                case hyq_13 => (intro w' hSw; (try dsimp only at hSw); go_simp; all_goals with_reducible rfl)
                                                (try simp only [Act.put, List.setIfInBounds_toArray, List.set_cons_zero, List.set_cons_succ])
                                                refine wpAnyH_take (i := 23) (oi := { dst := some 29, op := Op.fieldAddr 30 (Operand.tmp 28) 0, type := 0, pos := "l8_desk.go:19", after := #[{ on := 22, ground := Ground.data }], guard := none }) (v := ?vq_14) rfl (by kernel_rfl) (by kernel_rfl) (by kernel_rfl) (fun _ _ _ h => h) (Or.inl ⟨by rfl, ?hyq_14⟩) hS ?restq_14
                                                case hyq_14 => (intro w' hSw; (try dsimp only at hSw); go_simp; all_goals with_reducible rfl)
                                                (try simp only [Act.put, List.setIfInBounds_toArray, List.set_cons_zero, List.set_cons_succ])
                                                refine wpAnyH_take (i := 24) (oi := { dst := some 30, op := Op.load 3 (Operand.tmp 29), type := 3, pos := "l8_desk.go:19", after := #[{ on := 23, ground := Ground.data }], guard := none }) (v := ?vq_15) rfl (by kernel_rfl) (by kernel_rfl) (by kernel_rfl) (fun _ _ _ h => h) (Or.inl ⟨by rfl, ?hyq_15⟩) hS ?restq_15
                                                case hyq_15 => (intro w' hSw; (try dsimp only at hSw); go_simp; all_goals with_reducible rfl)
                                                (try simp only [Act.put, List.setIfInBounds_toArray, List.set_cons_zero, List.set_cons_succ])
                                                refine wpAnyH_take (i := 25) (oi := { dst := some 31, op := Op.fieldAddr 32 (Operand.tmp 1) 6, type := 0, pos := "l8_desk.go:19", after := #[], guard := none }) (v := ?vq_16) rfl (by kernel_rfl) (by kernel_rfl) (by kernel_rfl) (fun _ _ _ h => h) (Or.inl ⟨by rfl, ?hyq_16⟩) hS ?restq_16
                                                case hyq_16 => (intro w' hSw; (try dsimp only at hSw); go_simp; all_goals with_reducible rfl)
                                                (try simp only [Act.put, List.setIfInBounds_toArray, List.set_cons_zero, List.set_cons_succ])
                                                refine wpAnyH_take (i := 26) (oi := { dst := some 32, op := Op.fieldAddr 30 (Operand.tmp 31) 1, type := 0, pos := "l8_desk.go:19", after := #[{ on := 25, ground := Ground.data }], guard := none }) (v := ?vq_17) rfl (by kernel_rfl) (by kernel_rfl) (by kernel_rfl) (fun _ _ _ h => h) (Or.inl ⟨by rfl, ?hyq_17⟩) hS ?restq_17
                                                case hyq_17 => (intro w' hSw; (try dsimp only at hSw); go_simp; all_goals with_reducible rfl)
                                                (try simp only [Act.put, List.setIfInBounds_toArray, List.set_cons_zero, List.set_cons_succ])
                                                refine wpAnyH_take (i := 27) (oi := { dst := some 33, op := Op.load 3 (Operand.tmp 32), type := 3, pos := "l8_desk.go:19", after := #[{ on := 26, ground := Ground.data }], guard := none }) (v := ?vq_18) rfl (by kernel_rfl) (by kernel_rfl) (by kernel_rfl) (fun _ _ _ h => h) (Or.inl ⟨by rfl, ?hyq_18⟩) hS ?restq_18
                                                case hyq_18 => (intro w' hSw; (try dsimp only at hSw); go_simp; all_goals with_reducible rfl)
                                                (try simp only [Act.put, List.setIfInBounds_toArray, List.set_cons_zero, List.set_cons_succ])
                                                refine wpAnyH_take (i := 28) (oi := { dst := some 34, op := Op.fieldAddr 32 (Operand.tmp 1) 6, type := 0, pos := "l8_desk.go:19", after := #[], guard := none }) (v := ?vq_19) rfl (by kernel_rfl) (by kernel_rfl) (by kernel_rfl) (fun _ _ _ h => h) (Or.inl ⟨by rfl, ?hyq_19⟩) hS ?restq_19
                                                case hyq_19 => (intro w' hSw; (try dsimp only at hSw); go_simp; all_goals with_reducible rfl)
                                                (try simp only [Act.put, List.setIfInBounds_toArray, List.set_cons_zero, List.set_cons_succ])
                                                refine wpAnyH_take (i := 29) (oi := { dst := some 35, op := Op.fieldAddr 30 (Operand.tmp 34) 2, type := 0, pos := "l8_desk.go:19", after := #[{ on := 28, ground := Ground.data }], guard := none }) (v := ?vq_20) rfl (by kernel_rfl) (by kernel_rfl) (by kernel_rfl) (fun _ _ _ h => h) (Or.inl ⟨by rfl, ?hyq_20⟩) hS ?restq_20
                                                case hyq_20 => (intro w' hSw; (try dsimp only at hSw); go_simp; all_goals with_reducible rfl)
                                                (try simp only [Act.put, List.setIfInBounds_toArray, List.set_cons_zero, List.set_cons_succ])
                                                refine wpAnyH_take (i := 30) (oi := { dst := some 36, op := Op.load 3 (Operand.tmp 35), type := 3, pos := "l8_desk.go:19", after := #[{ on := 29, ground := Ground.data }], guard := none }) (v := ?vq_21) rfl (by kernel_rfl) (by kernel_rfl) (by kernel_rfl) (fun _ _ _ h => h) (Or.inl ⟨by rfl, ?hyq_21⟩) hS ?restq_21
                                                case hyq_21 => (intro w' hSw; (try dsimp only at hSw); go_simp; all_goals with_reducible rfl)
                                                (try simp only [Act.put, List.setIfInBounds_toArray, List.set_cons_zero, List.set_cons_succ])
                                                refine wpAnyH_listed (l' := #[true, true, false, false, true, true, true, true, true, true, false, false, false, false, true, true, true, true, false, false, false, false, true, true, true, true, true, true, true, true, true, false, false, false, false]) (by kernel_rfl) ?_
                                                clear hS
                                                refine wpAnyH_ready (rs := [2, 10, 18, 31]) (by kernel_rfl) (by simp) ?_
                                                refine AllReadyH.cons (o := { dst := some 8, op := Op.call { callee := Callee.value (Operand.func 47), args := #[Operand.tmp 7], argTypes := #[22] }, type := 9, pos := "l8_desk.go:19", after := #[{ on := 1, ground := Ground.data }], guard := none }) rfl (fun K hK => ?_) ?_
                                                · skip
                                                  (try go_simp)
                                                  go_at_call 47
                                                  refine (specFP_any _ j.poly _ (HP.out.bel B)).mono ?_
                                                  rintro e wn ⟨rfl, b⟩
                                                  replace B := bel_trans B b
                                                  clear b
                                                  (try dsimp only)
                                                  refine hK.out _ _ (by first | exact ⟨(B.cell (by exact hl2)).trans a0, (B.cell (by exact hl2)).trans a1, (B.cell (by exact hl2)).trans a2, (B.cell (by exact hl2)).trans a3, (B.cell (by exact hl2)).trans a4, (B.cell (by exact hl2)).trans a5, (B.cell (by exact hl2)).trans a6, (B.cell (by exact hl2)).trans a7, (B.cell (by exact hl2)).trans a8⟩ | (dsimp only; exact ⟨(B.cell (by exact hl2)).trans a0, (B.cell (by exact hl2)).trans a1, (B.cell (by exact hl2)).trans a2, (B.cell (by exact hl2)).trans a3, (B.cell (by exact hl2)).trans a4, (B.cell (by exact hl2)).trans a5, (B.cell (by exact hl2)).trans a6, (B.cell (by exact hl2)).trans a7, (B.cell (by exact hl2)).trans a8⟩)) (fun hS => ?_)
                                                  clear hK K
                                                  (try simp only [Act.put, List.setIfInBounds_toArray, List.set_cons_zero, List.set_cons_succ])
                                                  refine wpAnyH_take (i := 3) (oi := { dst := some 9, op := Op.binOp BinOp.add 9 (Operand.tmp 8) (Operand.const (Value.string { data := #[59] })) 9, type := 9, pos := "l8_desk.go:19", after := #[{ on := 2, ground := Ground.data }], guard := none }) (v := ?vq_22) rfl (by kernel_rfl) (by kernel_rfl) (by kernel_rfl) (fun _ _ _ h => h) (Or.inl ⟨by rfl, ?hyq_22⟩) hS ?restq_22
                                                  case hyq_22 => (intro w' hSw; (try dsimp only at hSw); go_simp; all_goals with_reducible rfl)
                                                  (try simp only [Act.put, List.setIfInBounds_toArray, List.set_cons_zero, List.set_cons_succ])
                                                  refine wpAnyH_listed (l' := #[true, true, true, true, true, true, true, true, true, true, false, false, false, false, true, true, true, true, false, false, false, false, true, true, true, true, true, true, true, true, true, false, false, false, false]) (by kernel_rfl) ?_
                                                  clear hS
                                                  (try clear hwx)
                                                  revert B
                                                  revert wn
                                                  exact keyq_2.out
                                                refine AllReadyH.cons (o := { dst := some 16, op := Op.buildSlice 22 3 #[(0, Operand.tmp 11), (1, Operand.tmp 13), (2, Operand.tmp 15)], type := 22, pos := "l8_desk.go:19", after := #[{ on := 5, ground := Ground.data }, { on := 7, ground := Ground.data }, { on := 9, ground := Ground.data }], guard := none }) rfl (fun K hK => ?_) ?_
                                                · skip
                                                  go_simp
                                                  replace B : Below w2.heap.size w2 (wr.alloc (.cells #[Value.int .i64 j.fr, Value.int .i64 j.ct, Value.int .i64 j.wd] 3)) := bel_trans B (bel_alloc wr _)
                                                  have J10 : Hid (Ints (wr.alloc (.cells #[Value.int .i64 j.fr, Value.int .i64 j.ct, Value.int .i64 j.wd] 3)) (Value.slice (some ⟨wr.heap.size, 0, none⟩) 3 3) [j.fr, j.ct, j.wd]) := Lib.hid (lit_ints wr [j.fr, j.ct, j.wd] (by simp) HWF.out.1)
                                                  refine hK.out _ _ (by first | exact ⟨(B.cell (by exact hl2)).trans a0, (B.cell (by exact hl2)).trans a1, (B.cell (by exact hl2)).trans a2, (B.cell (by exact hl2)).trans a3, (B.cell (by exact hl2)).trans a4, (B.cell (by exact hl2)).trans a5, (B.cell (by exact hl2)).trans a6, (B.cell (by exact hl2)).trans a7, (B.cell (by exact hl2)).trans a8⟩ | (dsimp only; exact ⟨(B.cell (by exact hl2)).trans a0, (B.cell (by exact hl2)).trans a1, (B.cell (by exact hl2)).trans a2, (B.cell (by exact hl2)).trans a3, (B.cell (by exact hl2)).trans a4, (B.cell (by exact hl2)).trans a5, (B.cell (by exact hl2)).trans a6, (B.cell (by exact hl2)).trans a7, (B.cell (by exact hl2)).trans a8⟩)) (fun hS => ?_)
                                                  clear hK K
                                                  (try simp only [Act.put, List.setIfInBounds_toArray, List.set_cons_zero, List.set_cons_succ])
                                                  refine wpAnyH_listed (l' := #[true, true, false, false, true, true, true, true, true, true, true, false, false, false, true, true, true, true, false, false, false, false, true, true, true, true, true, true, true, true, true, false, false, false, false]) (by kernel_rfl) ?_
                                                  clear hS
                                                  (try clear hwx)
                                                  revert J10; revert B
                                                  generalize (wr.alloc (.cells #[Value.int .i64 j.fr, Value.int .i64 j.ct, Value.int .i64 j.wd] 3)) = wn
                                                  generalize wr.heap.size = b10
                                                  revert b10; revert wn
                                                  exact keyq_10.out
                                                refine AllReadyH.cons (o := { dst := some 24, op := Op.buildSlice 22 2 #[(0, Operand.tmp 21), (1, Operand.tmp 23)], type := 22, pos := "l8_desk.go:19", after := #[{ on := 15, ground := Ground.data }, { on := 17, ground := Ground.data }], guard := none }) rfl (fun K hK => ?_) ?_
                                                · skip
                                                  go_simp
                                                  replace B : Below w2.heap.size w2 (wr.alloc (.cells #[Value.int .i64 j.dg, Value.int .i64 j.wy] 3)) := bel_trans B (bel_alloc wr _)
                                                  have J18 : Hid (Ints (wr.alloc (.cells #[Value.int .i64 j.dg, Value.int .i64 j.wy] 3)) (Value.slice (some ⟨wr.heap.size, 0, none⟩) 2 2) [j.dg, j.wy]) := Lib.hid (lit_ints wr [j.dg, j.wy] (by simp) HWF.out.2.1)
                                                  refine hK.out _ _ (by first | exact ⟨(B.cell (by exact hl2)).trans a0, (B.cell (by exact hl2)).trans a1, (B.cell (by exact hl2)).trans a2, (B.cell (by exact hl2)).trans a3, (B.cell (by exact hl2)).trans a4, (B.cell (by exact hl2)).trans a5, (B.cell (by exact hl2)).trans a6, (B.cell (by exact hl2)).trans a7, (B.cell (by exact hl2)).trans a8⟩ | (dsimp only; exact ⟨(B.cell (by exact hl2)).trans a0, (B.cell (by exact hl2)).trans a1, (B.cell (by exact hl2)).trans a2, (B.cell (by exact hl2)).trans a3, (B.cell (by exact hl2)).trans a4, (B.cell (by exact hl2)).trans a5, (B.cell (by exact hl2)).trans a6, (B.cell (by exact hl2)).trans a7, (B.cell (by exact hl2)).trans a8⟩)) (fun hS => ?_)
                                                  clear hK K
                                                  (try simp only [Act.put, List.setIfInBounds_toArray, List.set_cons_zero, List.set_cons_succ])
                                                  refine wpAnyH_listed (l' := #[true, true, false, false, true, true, true, true, true, true, false, false, false, false, true, true, true, true, true, false, false, false, true, true, true, true, true, true, true, true, true, false, false, false, false]) (by kernel_rfl) ?_
                                                  clear hS
                                                  (try clear hwx)
                                                  revert J18; revert B
                                                  generalize (wr.alloc (.cells #[Value.int .i64 j.dg, Value.int .i64 j.wy] 3)) = wn
                                                  generalize wr.heap.size = b18
                                                  revert b18; revert wn
                                                  exact keyq_18.out
                                                refine AllReadyH.cons (o := { dst := some 37, op := Op.buildSlice 22 3 #[(0, Operand.tmp 30), (1, Operand.tmp 33), (2, Operand.tmp 36)], type := 22, pos := "l8_desk.go:19", after := #[{ on := 24, ground := Ground.data }, { on := 27, ground := Ground.data }, { on := 30, ground := Ground.data }], guard := none }) rfl (fun K hK => ?_) ?_
                                                · skip
                                                  go_simp
                                                  replace B : Below w2.heap.size w2 (wr.alloc (.cells #[Value.int .i64 j.rw, Value.int .i64 j.ac, Value.int .i64 j.wi] 3)) := bel_trans B (bel_alloc wr _)
                                                  have J31 : Hid (Ints (wr.alloc (.cells #[Value.int .i64 j.rw, Value.int .i64 j.ac, Value.int .i64 j.wi] 3)) (Value.slice (some ⟨wr.heap.size, 0, none⟩) 3 3) [j.rw, j.ac, j.wi]) := Lib.hid (lit_ints wr [j.rw, j.ac, j.wi] (by simp) HWF.out.2.2)
                                                  refine hK.out _ _ (by first | exact ⟨(B.cell (by exact hl2)).trans a0, (B.cell (by exact hl2)).trans a1, (B.cell (by exact hl2)).trans a2, (B.cell (by exact hl2)).trans a3, (B.cell (by exact hl2)).trans a4, (B.cell (by exact hl2)).trans a5, (B.cell (by exact hl2)).trans a6, (B.cell (by exact hl2)).trans a7, (B.cell (by exact hl2)).trans a8⟩ | (dsimp only; exact ⟨(B.cell (by exact hl2)).trans a0, (B.cell (by exact hl2)).trans a1, (B.cell (by exact hl2)).trans a2, (B.cell (by exact hl2)).trans a3, (B.cell (by exact hl2)).trans a4, (B.cell (by exact hl2)).trans a5, (B.cell (by exact hl2)).trans a6, (B.cell (by exact hl2)).trans a7, (B.cell (by exact hl2)).trans a8⟩)) (fun hS => ?_)
                                                  clear hK K
                                                  (try simp only [Act.put, List.setIfInBounds_toArray, List.set_cons_zero, List.set_cons_succ])
                                                  refine wpAnyH_listed (l' := #[true, true, false, false, true, true, true, true, true, true, false, false, false, false, true, true, true, true, false, false, false, false, true, true, true, true, true, true, true, true, true, true, false, false, false]) (by kernel_rfl) ?_
                                                  clear hS
                                                  (try clear hwx)
                                                  revert J31; revert B
                                                  generalize (wr.alloc (.cells #[Value.int .i64 j.rw, Value.int .i64 j.ac, Value.int .i64 j.wi] 3)) = wn
                                                  generalize wr.heap.size = b31
                                                  revert b31; revert wn
                                                  exact keyq_31.out
                                                exact AllReadyH.nil
                                              case hkq_2 =>
                                                intro wr B
                                                refine wpAnyH_ready (rs := [10, 18, 31]) (by kernel_rfl) (by simp) ?_
                                                refine AllReadyH.cons (o := { dst := some 16, op := Op.buildSlice 22 3 #[(0, Operand.tmp 11), (1, Operand.tmp 13), (2, Operand.tmp 15)], type := 22, pos := "l8_desk.go:19", after := #[{ on := 5, ground := Ground.data }, { on := 7, ground := Ground.data }, { on := 9, ground := Ground.data }], guard := none }) rfl (fun K hK => ?_) ?_
                                                · skip
                                                  go_simp
                                                  replace B : Below w2.heap.size w2 (wr.alloc (.cells #[Value.int .i64 j.fr, Value.int .i64 j.ct, Value.int .i64 j.wd] 3)) := bel_trans B (bel_alloc wr _)
                                                  have J10 : Hid (Ints (wr.alloc (.cells #[Value.int .i64 j.fr, Value.int .i64 j.ct, Value.int .i64 j.wd] 3)) (Value.slice (some ⟨wr.heap.size, 0, none⟩) 3 3) [j.fr, j.ct, j.wd]) := Lib.hid (lit_ints wr [j.fr, j.ct, j.wd] (by simp) HWF.out.1)
                                                  refine hK.out _ _ (by first | exact ⟨(B.cell (by exact hl2)).trans a0, (B.cell (by exact hl2)).trans a1, (B.cell (by exact hl2)).trans a2, (B.cell (by exact hl2)).trans a3, (B.cell (by exact hl2)).trans a4, (B.cell (by exact hl2)).trans a5, (B.cell (by exact hl2)).trans a6, (B.cell (by exact hl2)).trans a7, (B.cell (by exact hl2)).trans a8⟩ | (dsimp only; exact ⟨(B.cell (by exact hl2)).trans a0, (B.cell (by exact hl2)).trans a1, (B.cell (by exact hl2)).trans a2, (B.cell (by exact hl2)).trans a3, (B.cell (by exact hl2)).trans a4, (B.cell (by exact hl2)).trans a5, (B.cell (by exact hl2)).trans a6, (B.cell (by exact hl2)).trans a7, (B.cell (by exact hl2)).trans a8⟩)) (fun hS => ?_)
                                                  clear hK K
                                                  (try simp only [Act.put, List.setIfInBounds_toArray, List.set_cons_zero, List.set_cons_succ])
                                                  refine wpAnyH_listed (l' := #[true, true, true, true, true, true, true, true, true, true, true, false, false, false, true, true, true, true, false, false, false, false, true, true, true, true, true, true, true, true, true, false, false, false, false]) (by kernel_rfl) ?_
                                                  clear hS
                                                  (try clear hwx)
                                                  revert J10; revert B
                                                  generalize (wr.alloc (.cells #[Value.int .i64 j.fr, Value.int .i64 j.ct, Value.int .i64 j.wd] 3)) = wn
                                                  generalize wr.heap.size = b10
                                                  revert b10; revert wn
                                                  exact keyq_2_10.out
                                                refine AllReadyH.cons (o := { dst := some 24, op := Op.buildSlice 22 2 #[(0, Operand.tmp 21), (1, Operand.tmp 23)], type := 22, pos := "l8_desk.go:19", after := #[{ on := 15, ground := Ground.data }, { on := 17, ground := Ground.data }], guard := none }) rfl (fun K hK => ?_) ?_
                                                · skip
                                                  go_simp
                                                  replace B : Below w2.heap.size w2 (wr.alloc (.cells #[Value.int .i64 j.dg, Value.int .i64 j.wy] 3)) := bel_trans B (bel_alloc wr _)
                                                  have J18 : Hid (Ints (wr.alloc (.cells #[Value.int .i64 j.dg, Value.int .i64 j.wy] 3)) (Value.slice (some ⟨wr.heap.size, 0, none⟩) 2 2) [j.dg, j.wy]) := Lib.hid (lit_ints wr [j.dg, j.wy] (by simp) HWF.out.2.1)
                                                  refine hK.out _ _ (by first | exact ⟨(B.cell (by exact hl2)).trans a0, (B.cell (by exact hl2)).trans a1, (B.cell (by exact hl2)).trans a2, (B.cell (by exact hl2)).trans a3, (B.cell (by exact hl2)).trans a4, (B.cell (by exact hl2)).trans a5, (B.cell (by exact hl2)).trans a6, (B.cell (by exact hl2)).trans a7, (B.cell (by exact hl2)).trans a8⟩ | (dsimp only; exact ⟨(B.cell (by exact hl2)).trans a0, (B.cell (by exact hl2)).trans a1, (B.cell (by exact hl2)).trans a2, (B.cell (by exact hl2)).trans a3, (B.cell (by exact hl2)).trans a4, (B.cell (by exact hl2)).trans a5, (B.cell (by exact hl2)).trans a6, (B.cell (by exact hl2)).trans a7, (B.cell (by exact hl2)).trans a8⟩)) (fun hS => ?_)
                                                  clear hK K
                                                  (try simp only [Act.put, List.setIfInBounds_toArray, List.set_cons_zero, List.set_cons_succ])
                                                  refine wpAnyH_listed (l' := #[true, true, true, true, true, true, true, true, true, true, false, false, false, false, true, true, true, true, true, false, false, false, true, true, true, true, true, true, true, true, true, false, false, false, false]) (by kernel_rfl) ?_
                                                  clear hS
                                                  (try clear hwx)
                                                  revert J18; revert B
                                                  generalize (wr.alloc (.cells #[Value.int .i64 j.dg, Value.int .i64 j.wy] 3)) = wn
                                                  generalize wr.heap.size = b18
                                                  revert b18; revert wn
                                                  exact keyq_2_18.out
                                                refine AllReadyH.cons (o := { dst := some 37, op := Op.buildSlice 22 3 #[(0, Operand.tmp 30), (1, Operand.tmp 33), (2, Operand.tmp 36)], type := 22, pos := "l8_desk.go:19", after := #[{ on := 24, ground := Ground.data }, { on := 27, ground := Ground.data }, { on := 30, ground := Ground.data }], guard := none }) rfl (fun K hK => ?_) ?_
                                                · skip
                                                  go_simp
                                                  replace B : Below w2.heap.size w2 (wr.alloc (.cells #[Value.int .i64 j.rw, Value.int .i64 j.ac, Value.int .i64 j.wi] 3)) := bel_trans B (bel_alloc wr _)
                                                  have J31 : Hid (Ints (wr.alloc (.cells #[Value.int .i64 j.rw, Value.int .i64 j.ac, Value.int .i64 j.wi] 3)) (Value.slice (some ⟨wr.heap.size, 0, none⟩) 3 3) [j.rw, j.ac, j.wi]) := Lib.hid (lit_ints wr [j.rw, j.ac, j.wi] (by simp) HWF.out.2.2)
                                                  refine hK.out _ _ (by first | exact ⟨(B.cell (by exact hl2)).trans a0, (B.cell (by exact hl2)).trans a1, (B.cell (by exact hl2)).trans a2, (B.cell (by exact hl2)).trans a3, (B.cell (by exact hl2)).trans a4, (B.cell (by exact hl2)).trans a5, (B.cell (by exact hl2)).trans a6, (B.cell (by exact hl2)).trans a7, (B.cell (by exact hl2)).trans a8⟩ | (dsimp only; exact ⟨(B.cell (by exact hl2)).trans a0, (B.cell (by exact hl2)).trans a1, (B.cell (by exact hl2)).trans a2, (B.cell (by exact hl2)).trans a3, (B.cell (by exact hl2)).trans a4, (B.cell (by exact hl2)).trans a5, (B.cell (by exact hl2)).trans a6, (B.cell (by exact hl2)).trans a7, (B.cell (by exact hl2)).trans a8⟩)) (fun hS => ?_)
                                                  clear hK K
                                                  (try simp only [Act.put, List.setIfInBounds_toArray, List.set_cons_zero, List.set_cons_succ])
                                                  refine wpAnyH_listed (l' := #[true, true, true, true, true, true, true, true, true, true, false, false, false, false, true, true, true, true, false, false, false, false, true, true, true, true, true, true, true, true, true, true, false, false, false]) (by kernel_rfl) ?_
                                                  clear hS
                                                  (try clear hwx)
                                                  revert J31; revert B
                                                  generalize (wr.alloc (.cells #[Value.int .i64 j.rw, Value.int .i64 j.ac, Value.int .i64 j.wi] 3)) = wn
                                                  generalize wr.heap.size = b31
                                                  revert b31; revert wn
                                                  exact keyq_2_31.out
                                                exact AllReadyH.nil
                                            case hkq_10 =>
                                              intro wr b10 B J10
                                              refine wpAnyH_ready (rs := [2, 18, 31]) (by kernel_rfl) (by simp) ?_
                                              refine AllReadyH.cons (o := { dst := some 8, op := Op.call { callee := Callee.value (Operand.func 47), args := #[Operand.tmp 7], argTypes := #[22] }, type := 9, pos := "l8_desk.go:19", after := #[{ on := 1, ground := Ground.data }], guard := none }) rfl (fun K hK => ?_) ?_
                                              · skip
                                                (try go_simp)
                                                go_at_call 47
                                                refine (specFP_any _ j.poly _ (HP.out.bel B)).mono ?_
                                                rintro e wn ⟨rfl, b⟩
                                                replace J10 := Lib.hid (J10.out.bel b)
                                                replace B := bel_trans B b
                                                clear b
                                                (try dsimp only)
                                                refine hK.out _ _ (by first | exact ⟨(B.cell (by exact hl2)).trans a0, (B.cell (by exact hl2)).trans a1, (B.cell (by exact hl2)).trans a2, (B.cell (by exact hl2)).trans a3, (B.cell (by exact hl2)).trans a4, (B.cell (by exact hl2)).trans a5, (B.cell (by exact hl2)).trans a6, (B.cell (by exact hl2)).trans a7, (B.cell (by exact hl2)).trans a8⟩ | (dsimp only; exact ⟨(B.cell (by exact hl2)).trans a0, (B.cell (by exact hl2)).trans a1, (B.cell (by exact hl2)).trans a2, (B.cell (by exact hl2)).trans a3, (B.cell (by exact hl2)).trans a4, (B.cell (by exact hl2)).trans a5, (B.cell (by exact hl2)).trans a6, (B.cell (by exact hl2)).trans a7, (B.cell (by exact hl2)).trans a8⟩)) (fun hS => ?_)
                                                clear hK K
                                                (try simp only [Act.put, List.setIfInBounds_toArray, List.set_cons_zero, List.set_cons_succ])
                                                refine wpAnyH_take (i := 3) (oi := { dst := some 9, op := Op.binOp BinOp.add 9 (Operand.tmp 8) (Operand.const (Value.string { data := #[59] })) 9, type := 9, pos := "l8_desk.go:19", after := #[{ on := 2, ground := Ground.data }], guard := none }) (v := ?vq_23) rfl (by kernel_rfl) (by kernel_rfl) (by kernel_rfl) (fun _ _ _ h => h) (Or.inl ⟨by rfl, ?hyq_23⟩) hS ?restq_23
                                                case hyq_23 => (intro w' hSw; (try dsimp only at hSw); go_simp; all_goals with_reducible rfl)
                                                (try simp only [Act.put, List.setIfInBounds_toArray, List.set_cons_zero, List.set_cons_succ])
                                                refine wpAnyH_listed (l' := #[true, true, true, true, true, true, true, true, true, true, true, false, false, false, true, true, true, true, false, false, false, false, true, true, true, true, true, true, true, true, true, false, false, false, false]) (by kernel_rfl) ?_
                                                clear hS
                                                (try clear hwx)
                                                revert J10; revert B
                                                revert b10; revert wn
                                                exact keyq_2_10.out
                                              refine AllReadyH.cons (o := { dst := some 24, op := Op.buildSlice 22 2 #[(0, Operand.tmp 21), (1, Operand.tmp 23)], type := 22, pos := "l8_desk.go:19", after := #[{ on := 15, ground := Ground.data }, { on := 17, ground := Ground.data }], guard := none }) rfl (fun K hK => ?_) ?_
                                              · skip
                                                go_simp
                                                replace J10 := Lib.hid (J10.out.bel (bel_alloc wr ((.cells #[Value.int .i64 j.dg, Value.int .i64 j.wy] 3))))
                                                replace B : Below w2.heap.size w2 (wr.alloc (.cells #[Value.int .i64 j.dg, Value.int .i64 j.wy] 3)) := bel_trans B (bel_alloc wr _)
                                                have J18 : Hid (Ints (wr.alloc (.cells #[Value.int .i64 j.dg, Value.int .i64 j.wy] 3)) (Value.slice (some ⟨wr.heap.size, 0, none⟩) 2 2) [j.dg, j.wy]) := Lib.hid (lit_ints wr [j.dg, j.wy] (by simp) HWF.out.2.1)
                                                refine hK.out _ _ (by first | exact ⟨(B.cell (by exact hl2)).trans a0, (B.cell (by exact hl2)).trans a1, (B.cell (by exact hl2)).trans a2, (B.cell (by exact hl2)).trans a3, (B.cell (by exact hl2)).trans a4, (B.cell (by exact hl2)).trans a5, (B.cell (by exact hl2)).trans a6, (B.cell (by exact hl2)).trans a7, (B.cell (by exact hl2)).trans a8⟩ | (dsimp only; exact ⟨(B.cell (by exact hl2)).trans a0, (B.cell (by exact hl2)).trans a1, (B.cell (by exact hl2)).trans a2, (B.cell (by exact hl2)).trans a3, (B.cell (by exact hl2)).trans a4, (B.cell (by exact hl2)).trans a5, (B.cell (by exact hl2)).trans a6, (B.cell (by exact hl2)).trans a7, (B.cell (by exact hl2)).trans a8⟩)) (fun hS => ?_)
                                                clear hK K
                                                (try simp only [Act.put, List.setIfInBounds_toArray, List.set_cons_zero, List.set_cons_succ])
                                                refine wpAnyH_listed (l' := #[true, true, false, false, true, true, true, true, true, true, true, false, false, false, true, true, true, true, true, false, false, false, true, true, true, true, true, true, true, true, true, false, false, false, false]) (by kernel_rfl) ?_
                                                clear hS
                                                (try clear hwx)
                                                revert J18; revert J10; revert B
                                                generalize (wr.alloc (.cells #[Value.int .i64 j.dg, Value.int .i64 j.wy] 3)) = wn
                                                generalize wr.heap.size = b18
                                                revert b18; revert b10; revert wn
                                                exact keyq_10_18.out
                                              refine AllReadyH.cons (o := { dst := some 37, op := Op.buildSlice 22 3 #[(0, Operand.tmp 30), (1, Operand.tmp 33), (2, Operand.tmp 36)], type := 22, pos := "l8_desk.go:19", after := #[{ on := 24, ground := Ground.data }, { on := 27, ground := Ground.data }, { on := 30, ground := Ground.data }], guard := none }) rfl (fun K hK => ?_) ?_
                                              · skip
                                                go_simp
                                                replace J10 := Lib.hid (J10.out.bel (bel_alloc wr ((.cells #[Value.int .i64 j.rw, Value.int .i64 j.ac, Value.int .i64 j.wi] 3))))
                                                replace B : Below w2.heap.size w2 (wr.alloc (.cells #[Value.int .i64 j.rw, Value.int .i64 j.ac, Value.int .i64 j.wi] 3)) := bel_trans B (bel_alloc wr _)
                                                have J31 : Hid (Ints (wr.alloc (.cells #[Value.int .i64 j.rw, Value.int .i64 j.ac, Value.int .i64 j.wi] 3)) (Value.slice (some ⟨wr.heap.size, 0, none⟩) 3 3) [j.rw, j.ac, j.wi]) := Lib.hid (lit_ints wr [j.rw, j.ac, j.wi] (by simp) HWF.out.2.2)
                                                refine hK.out _ _ (by first | exact ⟨(B.cell (by exact hl2)).trans a0, (B.cell (by exact hl2)).trans a1, (B.cell (by exact hl2)).trans a2, (B.cell (by exact hl2)).trans a3, (B.cell (by exact hl2)).trans a4, (B.cell (by exact hl2)).trans a5, (B.cell (by exact hl2)).trans a6, (B.cell (by exact hl2)).trans a7, (B.cell (by exact hl2)).trans a8⟩ | (dsimp only; exact ⟨(B.cell (by exact hl2)).trans a0, (B.cell (by exact hl2)).trans a1, (B.cell (by exact hl2)).trans a2, (B.cell (by exact hl2)).trans a3, (B.cell (by exact hl2)).trans a4, (B.cell (by exact hl2)).trans a5, (B.cell (by exact hl2)).trans a6, (B.cell (by exact hl2)).trans a7, (B.cell (by exact hl2)).trans a8⟩)) (fun hS => ?_)
                                                clear hK K
                                                (try simp only [Act.put, List.setIfInBounds_toArray, List.set_cons_zero, List.set_cons_succ])
                                                refine wpAnyH_listed (l' := #[true, true, false, false, true, true, true, true, true, true, true, false, false, false, true, true, true, true, false, false, false, false, true, true, true, true, true, true, true, true, true, true, false, false, false]) (by kernel_rfl) ?_
                                                clear hS
                                                (try clear hwx)
                                                revert J31; revert J10; revert B
                                                generalize (wr.alloc (.cells #[Value.int .i64 j.rw, Value.int .i64 j.ac, Value.int .i64 j.wi] 3)) = wn
                                                generalize wr.heap.size = b31
                                                revert b31; revert b10; revert wn
                                                exact keyq_10_31.out
                                              exact AllReadyH.nil
                                          case hkq_18 =>
                                            intro wr b18 B J18
                                            refine wpAnyH_ready (rs := [2, 10, 31]) (by kernel_rfl) (by simp) ?_
                                            refine AllReadyH.cons (o := { dst := some 8, op := Op.call { callee := Callee.value (Operand.func 47), args := #[Operand.tmp 7], argTypes := #[22] }, type := 9, pos := "l8_desk.go:19", after := #[{ on := 1, ground := Ground.data }], guard := none }) rfl (fun K hK => ?_) ?_
                                            · skip
                                              (try go_simp)
                                              go_at_call 47
                                              refine (specFP_any _ j.poly _ (HP.out.bel B)).mono ?_
                                              rintro e wn ⟨rfl, b⟩
                                              replace J18 := Lib.hid (J18.out.bel b)
                                              replace B := bel_trans B b
                                              clear b
                                              (try dsimp only)
                                              refine hK.out _ _ (by first | exact ⟨(B.cell (by exact hl2)).trans a0, (B.cell (by exact hl2)).trans a1, (B.cell (by exact hl2)).trans a2, (B.cell (by exact hl2)).trans a3, (B.cell (by exact hl2)).trans a4, (B.cell (by exact hl2)).trans a5, (B.cell (by exact hl2)).trans a6, (B.cell (by exact hl2)).trans a7, (B.cell (by exact hl2)).trans a8⟩ | (dsimp only; exact ⟨(B.cell (by exact hl2)).trans a0, (B.cell (by exact hl2)).trans a1, (B.cell (by exact hl2)).trans a2, (B.cell (by exact hl2)).trans a3, (B.cell (by exact hl2)).trans a4, (B.cell (by exact hl2)).trans a5, (B.cell (by exact hl2)).trans a6, (B.cell (by exact hl2)).trans a7, (B.cell (by exact hl2)).trans a8⟩)) (fun hS => ?_)
                                              clear hK K
                                              (try simp only [Act.put, List.setIfInBounds_toArray, List.set_cons_zero, List.set_cons_succ])
                                              refine wpAnyH_take (i := 3) (oi := { dst := some 9, op := Op.binOp BinOp.add 9 (Operand.tmp 8) (Operand.const (Value.string { data := #[59] })) 9, type := 9, pos := "l8_desk.go:19", after := #[{ on := 2, ground := Ground.data }], guard := none }) (v := ?vq_24) rfl (by kernel_rfl) (by kernel_rfl) (by kernel_rfl) (fun _ _ _ h => h) (Or.inl ⟨by rfl, ?hyq_24⟩) hS ?restq_24
                                              case hyq_24 => (intro w' hSw; (try dsimp only at hSw); go_simp; all_goals with_reducible rfl)
                                              (try simp only [Act.put, List.setIfInBounds_toArray, List.set_cons_zero, List.set_cons_succ])
                                              refine wpAnyH_listed (l' := #[true, true, true, true, true, true, true, true, true, true, false, false, false, false, true, true, true, true, true, false, false, false, true, true, true, true, true, true, true, true, true, false, false, false, false]) (by kernel_rfl) ?_
                                              clear hS
                                              (try clear hwx)
                                              revert J18; revert B
                                              revert b18; revert wn
                                              exact keyq_2_18.out
                                            refine AllReadyH.cons (o := { dst := some 16, op := Op.buildSlice 22 3 #[(0, Operand.tmp 11), (1, Operand.tmp 13), (2, Operand.tmp 15)], type := 22, pos := "l8_desk.go:19", after := #[{ on := 5, ground := Ground.data }, { on := 7, ground := Ground.data }, { on := 9, ground := Ground.data }], guard := none }) rfl (fun K hK => ?_) ?_
                                            · skip
                                              go_simp
                                              replace J18 := Lib.hid (J18.out.bel (bel_alloc wr ((.cells #[Value.int .i64 j.fr, Value.int .i64 j.ct, Value.int .i64 j.wd] 3))))
                                              replace B : Below w2.heap.size w2 (wr.alloc (.cells #[Value.int .i64 j.fr, Value.int .i64 j.ct, Value.int .i64 j.wd] 3)) := bel_trans B (bel_alloc wr _)
                                              have J10 : Hid (Ints (wr.alloc (.cells #[Value.int .i64 j.fr, Value.int .i64 j.ct, Value.int .i64 j.wd] 3)) (Value.slice (some ⟨wr.heap.size, 0, none⟩) 3 3) [j.fr, j.ct, j.wd]) := Lib.hid (lit_ints wr [j.fr, j.ct, j.wd] (by simp) HWF.out.1)
                                              refine hK.out _ _ (by first | exact ⟨(B.cell (by exact hl2)).trans a0, (B.cell (by exact hl2)).trans a1, (B.cell (by exact hl2)).trans a2, (B.cell (by exact hl2)).trans a3, (B.cell (by exact hl2)).trans a4, (B.cell (by exact hl2)).trans a5, (B.cell (by exact hl2)).trans a6, (B.cell (by exact hl2)).trans a7, (B.cell (by exact hl2)).trans a8⟩ | (dsimp only; exact ⟨(B.cell (by exact hl2)).trans a0, (B.cell (by exact hl2)).trans a1, (B.cell (by exact hl2)).trans a2, (B.cell (by exact hl2)).trans a3, (B.cell (by exact hl2)).trans a4, (B.cell (by exact hl2)).trans a5, (B.cell (by exact hl2)).trans a6, (B.cell (by exact hl2)).trans a7, (B.cell (by exact hl2)).trans a8⟩)) (fun hS => ?_)
                                              clear hK K
                                              (try simp only [Act.put, List.setIfInBounds_toArray, List.set_cons_zero, List.set_cons_succ])
                                              refine wpAnyH_listed (l' := #[true, true, false, false, true, true, true, true, true, true, true, false, false, false, true, true, true, true, true, false, false, false, true, true, true, true, true, true, true, true, true, false, false, false, false]) (by kernel_rfl) ?_
                                              clear hS
                                              (try clear hwx)
                                              revert J18; revert J10; revert B
                                              generalize (wr.alloc (.cells #[Value.int .i64 j.fr, Value.int .i64 j.ct, Value.int .i64 j.wd] 3)) = wn
                                              generalize wr.heap.size = b10
                                              revert b18; revert b10; revert wn
                                              exact keyq_10_18.out
                                            refine AllReadyH.cons (o := { dst := some 37, op := Op.buildSlice 22 3 #[(0, Operand.tmp 30), (1, Operand.tmp 33), (2, Operand.tmp 36)], type := 22, pos := "l8_desk.go:19", after := #[{ on := 24, ground := Ground.data }, { on := 27, ground := Ground.data }, { on := 30, ground := Ground.data }], guard := none }) rfl (fun K hK => ?_) ?_
                                            · skip
                                              go_simp
                                              replace J18 := Lib.hid (J18.out.bel (bel_alloc wr ((.cells #[Value.int .i64 j.rw, Value.int .i64 j.ac, Value.int .i64 j.wi] 3))))
                                              replace B : Below w2.heap.size w2 (wr.alloc (.cells #[Value.int .i64 j.rw, Value.int .i64 j.ac, Value.int .i64 j.wi] 3)) := bel_trans B (bel_alloc wr _)
                                              have J31 : Hid (Ints (wr.alloc (.cells #[Value.int .i64 j.rw, Value.int .i64 j.ac, Value.int .i64 j.wi] 3)) (Value.slice (some ⟨wr.heap.size, 0, none⟩) 3 3) [j.rw, j.ac, j.wi]) := Lib.hid (lit_ints wr [j.rw, j.ac, j.wi] (by simp) HWF.out.2.2)
                                              refine hK.out _ _ (by first | exact ⟨(B.cell (by exact hl2)).trans a0, (B.cell (by exact hl2)).trans a1, (B.cell (by exact hl2)).trans a2, (B.cell (by exact hl2)).trans a3, (B.cell (by exact hl2)).trans a4, (B.cell (by exact hl2)).trans a5, (B.cell (by exact hl2)).trans a6, (B.cell (by exact hl2)).trans a7, (B.cell (by exact hl2)).trans a8⟩ | (dsimp only; exact ⟨(B.cell (by exact hl2)).trans a0, (B.cell (by exact hl2)).trans a1, (B.cell (by exact hl2)).trans a2, (B.cell (by exact hl2)).trans a3, (B.cell (by exact hl2)).trans a4, (B.cell (by exact hl2)).trans a5, (B.cell (by exact hl2)).trans a6, (B.cell (by exact hl2)).trans a7, (B.cell (by exact hl2)).trans a8⟩)) (fun hS => ?_)
                                              clear hK K
                                              (try simp only [Act.put, List.setIfInBounds_toArray, List.set_cons_zero, List.set_cons_succ])
                                              refine wpAnyH_listed (l' := #[true, true, false, false, true, true, true, true, true, true, false, false, false, false, true, true, true, true, true, false, false, false, true, true, true, true, true, true, true, true, true, true, false, false, false]) (by kernel_rfl) ?_
                                              clear hS
                                              (try clear hwx)
                                              revert J31; revert J18; revert B
                                              generalize (wr.alloc (.cells #[Value.int .i64 j.rw, Value.int .i64 j.ac, Value.int .i64 j.wi] 3)) = wn
                                              generalize wr.heap.size = b31
                                              revert b31; revert b18; revert wn
                                              exact keyq_18_31.out
                                            exact AllReadyH.nil
                                        case hkq_31 =>
                                          intro wr b31 B J31
                                          refine wpAnyH_ready (rs := [2, 10, 18]) (by kernel_rfl) (by simp) ?_
                                          refine AllReadyH.cons (o := { dst := some 8, op := Op.call { callee := Callee.value (Operand.func 47), args := #[Operand.tmp 7], argTypes := #[22] }, type := 9, pos := "l8_desk.go:19", after := #[{ on := 1, ground := Ground.data }], guard := none }) rfl (fun K hK => ?_) ?_
                                          · skip
                                            (try go_simp)
                                            go_at_call 47
                                            refine (specFP_any _ j.poly _ (HP.out.bel B)).mono ?_
                                            rintro e wn ⟨rfl, b⟩
                                            replace J31 := Lib.hid (J31.out.bel b)
                                            replace B := bel_trans B b
                                            clear b
                                            (try dsimp only)
                                            refine hK.out _ _ (by first | exact ⟨(B.cell (by exact hl2)).trans a0, (B.cell (by exact hl2)).trans a1, (B.cell (by exact hl2)).trans a2, (B.cell (by exact hl2)).trans a3, (B.cell (by exact hl2)).trans a4, (B.cell (by exact hl2)).trans a5, (B.cell (by exact hl2)).trans a6, (B.cell (by exact hl2)).trans a7, (B.cell (by exact hl2)).trans a8⟩ | (dsimp only; exact ⟨(B.cell (by exact hl2)).trans a0, (B.cell (by exact hl2)).trans a1, (B.cell (by exact hl2)).trans a2, (B.cell (by exact hl2)).trans a3, (B.cell (by exact hl2)).trans a4, (B.cell (by exact hl2)).trans a5, (B.cell (by exact hl2)).trans a6, (B.cell (by exact hl2)).trans a7, (B.cell (by exact hl2)).trans a8⟩)) (fun hS => ?_)
                                            clear hK K
                                            (try simp only [Act.put, List.setIfInBounds_toArray, List.set_cons_zero, List.set_cons_succ])
                                            refine wpAnyH_take (i := 3) (oi := { dst := some 9, op := Op.binOp BinOp.add 9 (Operand.tmp 8) (Operand.const (Value.string { data := #[59] })) 9, type := 9, pos := "l8_desk.go:19", after := #[{ on := 2, ground := Ground.data }], guard := none }) (v := ?vq_25) rfl (by kernel_rfl) (by kernel_rfl) (by kernel_rfl) (fun _ _ _ h => h) (Or.inl ⟨by rfl, ?hyq_25⟩) hS ?restq_25
                                            case hyq_25 => (intro w' hSw; (try dsimp only at hSw); go_simp; all_goals with_reducible rfl)
                                            (try simp only [Act.put, List.setIfInBounds_toArray, List.set_cons_zero, List.set_cons_succ])
                                            refine wpAnyH_listed (l' := #[true, true, true, true, true, true, true, true, true, true, false, false, false, false, true, true, true, true, false, false, false, false, true, true, true, true, true, true, true, true, true, true, false, false, false]) (by kernel_rfl) ?_
                                            clear hS
                                            (try clear hwx)
                                            revert J31; revert B
                                            revert b31; revert wn
                                            exact keyq_2_31.out
                                          refine AllReadyH.cons (o := { dst := some 16, op := Op.buildSlice 22 3 #[(0, Operand.tmp 11), (1, Operand.tmp 13), (2, Operand.tmp 15)], type := 22, pos := "l8_desk.go:19", after := #[{ on := 5, ground := Ground.data }, { on := 7, ground := Ground.data }, { on := 9, ground := Ground.data }], guard := none }) rfl (fun K hK => ?_) ?_
                                          · skip
                                            go_simp
                                            replace J31 := Lib.hid (J31.out.bel (bel_alloc wr ((.cells #[Value.int .i64 j.fr, Value.int .i64 j.ct, Value.int .i64 j.wd] 3))))
                                            replace B : Below w2.heap.size w2 (wr.alloc (.cells #[Value.int .i64 j.fr, Value.int .i64 j.ct, Value.int .i64 j.wd] 3)) := bel_trans B (bel_alloc wr _)
                                            have J10 : Hid (Ints (wr.alloc (.cells #[Value.int .i64 j.fr, Value.int .i64 j.ct, Value.int .i64 j.wd] 3)) (Value.slice (some ⟨wr.heap.size, 0, none⟩) 3 3) [j.fr, j.ct, j.wd]) := Lib.hid (lit_ints wr [j.fr, j.ct, j.wd] (by simp) HWF.out.1)
                                            refine hK.out _ _ (by first | exact ⟨(B.cell (by exact hl2)).trans a0, (B.cell (by exact hl2)).trans a1, (B.cell (by exact hl2)).trans a2, (B.cell (by exact hl2)).trans a3, (B.cell (by exact hl2)).trans a4, (B.cell (by exact hl2)).trans a5, (B.cell (by exact hl2)).trans a6, (B.cell (by exact hl2)).trans a7, (B.cell (by exact hl2)).trans a8⟩ | (dsimp only; exact ⟨(B.cell (by exact hl2)).trans a0, (B.cell (by exact hl2)).trans a1, (B.cell (by exact hl2)).trans a2, (B.cell (by exact hl2)).trans a3, (B.cell (by exact hl2)).trans a4, (B.cell (by exact hl2)).trans a5, (B.cell (by exact hl2)).trans a6, (B.cell (by exact hl2)).trans a7, (B.cell (by exact hl2)).trans a8⟩)) (fun hS => ?_)
                                            clear hK K
                                            (try simp only [Act.put, List.setIfInBounds_toArray, List.set_cons_zero, List.set_cons_succ])
                                            refine wpAnyH_listed (l' := #[true, true, false, false, true, true, true, true, true, true, true, false, false, false, true, true, true, true, false, false, false, false, true, true, true, true, true, true, true, true, true, true, false, false, false]) (by kernel_rfl) ?_
                                            clear hS
                                            (try clear hwx)
                                            revert J31; revert J10; revert B
                                            generalize (wr.alloc (.cells #[Value.int .i64 j.fr, Value.int .i64 j.ct, Value.int .i64 j.wd] 3)) = wn
                                            generalize wr.heap.size = b10
                                            revert b31; revert b10; revert wn
                                            exact keyq_10_31.out
                                          refine AllReadyH.cons (o := { dst := some 24, op := Op.buildSlice 22 2 #[(0, Operand.tmp 21), (1, Operand.tmp 23)], type := 22, pos := "l8_desk.go:19", after := #[{ on := 15, ground := Ground.data }, { on := 17, ground := Ground.data }], guard := none }) rfl (fun K hK => ?_) ?_
                                          · skip
                                            go_simp
                                            replace J31 := Lib.hid (J31.out.bel (bel_alloc wr ((.cells #[Value.int .i64 j.dg, Value.int .i64 j.wy] 3))))
                                            replace B : Below w2.heap.size w2 (wr.alloc (.cells #[Value.int .i64 j.dg, Value.int .i64 j.wy] 3)) := bel_trans B (bel_alloc wr _)
                                            have J18 : Hid (Ints (wr.alloc (.cells #[Value.int .i64 j.dg, Value.int .i64 j.wy] 3)) (Value.slice (some ⟨wr.heap.size, 0, none⟩) 2 2) [j.dg, j.wy]) := Lib.hid (lit_ints wr [j.dg, j.wy] (by simp) HWF.out.2.1)
                                            refine hK.out _ _ (by first | exact ⟨(B.cell (by exact hl2)).trans a0, (B.cell (by exact hl2)).trans a1, (B.cell (by exact hl2)).trans a2, (B.cell (by exact hl2)).trans a3, (B.cell (by exact hl2)).trans a4, (B.cell (by exact hl2)).trans a5, (B.cell (by exact hl2)).trans a6, (B.cell (by exact hl2)).trans a7, (B.cell (by exact hl2)).trans a8⟩ | (dsimp only; exact ⟨(B.cell (by exact hl2)).trans a0, (B.cell (by exact hl2)).trans a1, (B.cell (by exact hl2)).trans a2, (B.cell (by exact hl2)).trans a3, (B.cell (by exact hl2)).trans a4, (B.cell (by exact hl2)).trans a5, (B.cell (by exact hl2)).trans a6, (B.cell (by exact hl2)).trans a7, (B.cell (by exact hl2)).trans a8⟩)) (fun hS => ?_)
                                            clear hK K
                                            (try simp only [Act.put, List.setIfInBounds_toArray, List.set_cons_zero, List.set_cons_succ])
                                            refine wpAnyH_listed (l' := #[true, true, false, false, true, true, true, true, true, true, false, false, false, false, true, true, true, true, true, false, false, false, true, true, true, true, true, true, true, true, true, true, false, false, false]) (by kernel_rfl) ?_
                                            clear hS
                                            (try clear hwx)
                                            revert J31; revert J18; revert B
                                            generalize (wr.alloc (.cells #[Value.int .i64 j.dg, Value.int .i64 j.wy] 3)) = wn
                                            generalize wr.heap.size = b18
                                            revert b31; revert b18; revert wn
                                            exact keyq_18_31.out
                                          exact AllReadyH.nil
                                      case hkq_2_10 =>
                                        intro wr b10 B J10
                                        refine wpAnyH_ready (rs := [11, 18, 31]) (by kernel_rfl) (by simp) ?_
                                        refine AllReadyH.cons (o := { dst := some 17, op := Op.call { callee := Callee.value (Operand.func 48), args := #[Operand.tmp 16], argTypes := #[22] }, type := 9, pos := "l8_desk.go:19", after := #[{ on := 10, ground := Ground.data }, { on := 2, ground := Ground.chain }], guard := none }) rfl (fun K hK => ?_) ?_
                                        · skip
                                          (try go_simp)
                                          go_at_call 48
                                          refine (show Calls _ _ _ _ (fun e w' => e = .returned (.string (gr1 j)) ∧ Below wr.heap.size wr w') from l2Text_any _ [j.fr, j.ct, j.wd] _ J10.out (by simp)).mono ?_
                                          rintro e wn ⟨rfl, b⟩
                                          clear J10
                                          replace B := bel_trans B b
                                          clear b
                                          (try dsimp only)
                                          refine hK.out _ _ (by first | exact ⟨(B.cell (by exact hl2)).trans a0, (B.cell (by exact hl2)).trans a1, (B.cell (by exact hl2)).trans a2, (B.cell (by exact hl2)).trans a3, (B.cell (by exact hl2)).trans a4, (B.cell (by exact hl2)).trans a5, (B.cell (by exact hl2)).trans a6, (B.cell (by exact hl2)).trans a7, (B.cell (by exact hl2)).trans a8⟩ | (dsimp only; exact ⟨(B.cell (by exact hl2)).trans a0, (B.cell (by exact hl2)).trans a1, (B.cell (by exact hl2)).trans a2, (B.cell (by exact hl2)).trans a3, (B.cell (by exact hl2)).trans a4, (B.cell (by exact hl2)).trans a5, (B.cell (by exact hl2)).trans a6, (B.cell (by exact hl2)).trans a7, (B.cell (by exact hl2)).trans a8⟩)) (fun hS => ?_)
                                          clear hK K
                                          (try simp only [Act.put, List.setIfInBounds_toArray, List.set_cons_zero, List.set_cons_succ])
                                          refine wpAnyH_take (i := 12) (oi := { dst := some 18, op := Op.binOp BinOp.add 9 (Operand.tmp 9) (Operand.tmp 17) 9, type := 9, pos := "l8_desk.go:19", after := #[{ on := 3, ground := Ground.data }, { on := 11, ground := Ground.data }], guard := none }) (v := ?vq_26) rfl (by kernel_rfl) (by kernel_rfl) (by kernel_rfl) (fun _ _ _ h => h) (Or.inl ⟨by rfl, ?hyq_26⟩) hS ?restq_26
                                          case hyq_26 => (intro w' hSw; (try dsimp only at hSw); go_simp; all_goals with_reducible rfl)
                                          (try simp only [Act.put, List.setIfInBounds_toArray, List.set_cons_zero, List.set_cons_succ])
                                          refine wpAnyH_take (i := 13) (oi := { dst := some 19, op := Op.binOp BinOp.add 9 (Operand.tmp 18) (Operand.const (Value.string { data := #[59] })) 9, type := 9, pos := "l8_desk.go:19", after := #[{ on := 12, ground := Ground.data }], guard := none }) (v := ?vq_27) rfl (by kernel_rfl) (by kernel_rfl) (by kernel_rfl) (fun _ _ _ h => h) (Or.inl ⟨by rfl, ?hyq_27⟩) hS ?restq_27
                                          case hyq_27 => (intro w' hSw; (try dsimp only at hSw); go_simp; all_goals with_reducible rfl)
                                          (try simp only [Act.put, List.setIfInBounds_toArray, List.set_cons_zero, List.set_cons_succ])
                                          refine wpAnyH_listed (l' := #[true, true, true, true, true, true, true, true, true, true, true, true, true, true, true, true, true, true, false, false, false, false, true, true, true, true, true, true, true, true, true, false, false, false, false]) (by kernel_rfl) ?_
                                          clear hS
                                          (try clear hwx)
                                          revert B
                                          revert b10; revert wn
                                          exact keyq_2_10_11.out
                                        refine AllReadyH.cons (o := { dst := some 24, op := Op.buildSlice 22 2 #[(0, Operand.tmp 21), (1, Operand.tmp 23)], type := 22, pos := "l8_desk.go:19", after := #[{ on := 15, ground := Ground.data }, { on := 17, ground := Ground.data }], guard := none }) rfl (fun K hK => ?_) ?_
                                        · skip
                                          go_simp
                                          replace J10 := Lib.hid (J10.out.bel (bel_alloc wr ((.cells #[Value.int .i64 j.dg, Value.int .i64 j.wy] 3))))
                                          replace B : Below w2.heap.size w2 (wr.alloc (.cells #[Value.int .i64 j.dg, Value.int .i64 j.wy] 3)) := bel_trans B (bel_alloc wr _)
                                          have J18 : Hid (Ints (wr.alloc (.cells #[Value.int .i64 j.dg, Value.int .i64 j.wy] 3)) (Value.slice (some ⟨wr.heap.size, 0, none⟩) 2 2) [j.dg, j.wy]) := Lib.hid (lit_ints wr [j.dg, j.wy] (by simp) HWF.out.2.1)
                                          refine hK.out _ _ (by first | exact ⟨(B.cell (by exact hl2)).trans a0, (B.cell (by exact hl2)).trans a1, (B.cell (by exact hl2)).trans a2, (B.cell (by exact hl2)).trans a3, (B.cell (by exact hl2)).trans a4, (B.cell (by exact hl2)).trans a5, (B.cell (by exact hl2)).trans a6, (B.cell (by exact hl2)).trans a7, (B.cell (by exact hl2)).trans a8⟩ | (dsimp only; exact ⟨(B.cell (by exact hl2)).trans a0, (B.cell (by exact hl2)).trans a1, (B.cell (by exact hl2)).trans a2, (B.cell (by exact hl2)).trans a3, (B.cell (by exact hl2)).trans a4, (B.cell (by exact hl2)).trans a5, (B.cell (by exact hl2)).trans a6, (B.cell (by exact hl2)).trans a7, (B.cell (by exact hl2)).trans a8⟩)) (fun hS => ?_)
                                          clear hK K
                                          (try simp only [Act.put, List.setIfInBounds_toArray, List.set_cons_zero, List.set_cons_succ])
                                          refine wpAnyH_listed (l' := #[true, true, true, true, true, true, true, true, true, true, true, false, false, false, true, true, true, true, true, false, false, false, true, true, true, true, true, true, true, true, true, false, false, false, false]) (by kernel_rfl) ?_
                                          clear hS
                                          (try clear hwx)
                                          revert J18; revert J10; revert B
                                          generalize (wr.alloc (.cells #[Value.int .i64 j.dg, Value.int .i64 j.wy] 3)) = wn
                                          generalize wr.heap.size = b18
                                          revert b18; revert b10; revert wn
                                          exact keyq_2_10_18.out
                                        refine AllReadyH.cons (o := { dst := some 37, op := Op.buildSlice 22 3 #[(0, Operand.tmp 30), (1, Operand.tmp 33), (2, Operand.tmp 36)], type := 22, pos := "l8_desk.go:19", after := #[{ on := 24, ground := Ground.data }, { on := 27, ground := Ground.data }, { on := 30, ground := Ground.data }], guard := none }) rfl (fun K hK => ?_) ?_
                                        · skip
                                          go_simp
                                          replace J10 := Lib.hid (J10.out.bel (bel_alloc wr ((.cells #[Value.int .i64 j.rw, Value.int .i64 j.ac, Value.int .i64 j.wi] 3))))
                                          replace B : Below w2.heap.size w2 (wr.alloc (.cells #[Value.int .i64 j.rw, Value.int .i64 j.ac, Value.int .i64 j.wi] 3)) := bel_trans B (bel_alloc wr _)
                                          have J31 : Hid (Ints (wr.alloc (.cells #[Value.int .i64 j.rw, Value.int .i64 j.ac, Value.int .i64 j.wi] 3)) (Value.slice (some ⟨wr.heap.size, 0, none⟩) 3 3) [j.rw, j.ac, j.wi]) := Lib.hid (lit_ints wr [j.rw, j.ac, j.wi] (by simp) HWF.out.2.2)
                                          refine hK.out _ _ (by first | exact ⟨(B.cell (by exact hl2)).trans a0, (B.cell (by exact hl2)).trans a1, (B.cell (by exact hl2)).trans a2, (B.cell (by exact hl2)).trans a3, (B.cell (by exact hl2)).trans a4, (B.cell (by exact hl2)).trans a5, (B.cell (by exact hl2)).trans a6, (B.cell (by exact hl2)).trans a7, (B.cell (by exact hl2)).trans a8⟩ | (dsimp only; exact ⟨(B.cell (by exact hl2)).trans a0, (B.cell (by exact hl2)).trans a1, (B.cell (by exact hl2)).trans a2, (B.cell (by exact hl2)).trans a3, (B.cell (by exact hl2)).trans a4, (B.cell (by exact hl2)).trans a5, (B.cell (by exact hl2)).trans a6, (B.cell (by exact hl2)).trans a7, (B.cell (by exact hl2)).trans a8⟩)) (fun hS => ?_)
                                          clear hK K
                                          (try simp only [Act.put, List.setIfInBounds_toArray, List.set_cons_zero, List.set_cons_succ])
                                          refine wpAnyH_listed (l' := #[true, true, true, true, true, true, true, true, true, true, true, false, false, false, true, true, true, true, false, false, false, false, true, true, true, true, true, true, true, true, true, true, false, false, false]) (by kernel_rfl) ?_
                                          clear hS
                                          (try clear hwx)
                                          revert J31; revert J10; revert B
                                          generalize (wr.alloc (.cells #[Value.int .i64 j.rw, Value.int .i64 j.ac, Value.int .i64 j.wi] 3)) = wn
                                          generalize wr.heap.size = b31
                                          revert b31; revert b10; revert wn
                                          exact keyq_2_10_31.out
                                        exact AllReadyH.nil
                                    case hkq_2_18 =>
                                      intro wr b18 B J18
                                      refine wpAnyH_ready (rs := [10, 31]) (by kernel_rfl) (by simp) ?_
                                      refine AllReadyH.cons (o := { dst := some 16, op := Op.buildSlice 22 3 #[(0, Operand.tmp 11), (1, Operand.tmp 13), (2, Operand.tmp 15)], type := 22, pos := "l8_desk.go:19", after := #[{ on := 5, ground := Ground.data }, { on := 7, ground := Ground.data }, { on := 9, ground := Ground.data }], guard := none }) rfl (fun K hK => ?_) ?_
                                      · skip
                                        go_simp
                                        replace J18 := Lib.hid (J18.out.bel (bel_alloc wr ((.cells #[Value.int .i64 j.fr, Value.int .i64 j.ct, Value.int .i64 j.wd] 3))))
                                        replace B : Below w2.heap.size w2 (wr.alloc (.cells #[Value.int .i64 j.fr, Value.int .i64 j.ct, Value.int .i64 j.wd] 3)) := bel_trans B (bel_alloc wr _)
                                        have J10 : Hid (Ints (wr.alloc (.cells #[Value.int .i64 j.fr, Value.int .i64 j.ct, Value.int .i64 j.wd] 3)) (Value.slice (some ⟨wr.heap.size, 0, none⟩) 3 3) [j.fr, j.ct, j.wd]) := Lib.hid (lit_ints wr [j.fr, j.ct, j.wd] (by simp) HWF.out.1)
                                        refine hK.out _ _ (by first | exact ⟨(B.cell (by exact hl2)).trans a0, (B.cell (by exact hl2)).trans a1, (B.cell (by exact hl2)).trans a2, (B.cell (by exact hl2)).trans a3, (B.cell (by exact hl2)).trans a4, (B.cell (by exact hl2)).trans a5, (B.cell (by exact hl2)).trans a6, (B.cell (by exact hl2)).trans a7, (B.cell (by exact hl2)).trans a8⟩ | (dsimp only; exact ⟨(B.cell (by exact hl2)).trans a0, (B.cell (by exact hl2)).trans a1, (B.cell (by exact hl2)).trans a2, (B.cell (by exact hl2)).trans a3, (B.cell (by exact hl2)).trans a4, (B.cell (by exact hl2)).trans a5, (B.cell (by exact hl2)).trans a6, (B.cell (by exact hl2)).trans a7, (B.cell (by exact hl2)).trans a8⟩)) (fun hS => ?_)
                                        clear hK K
                                        (try simp only [Act.put, List.setIfInBounds_toArray, List.set_cons_zero, List.set_cons_succ])
                                        refine wpAnyH_listed (l' := #[true, true, true, true, true, true, true, true, true, true, true, false, false, false, true, true, true, true, true, false, false, false, true, true, true, true, true, true, true, true, true, false, false, false, false]) (by kernel_rfl) ?_
                                        clear hS
                                        (try clear hwx)
                                        revert J18; revert J10; revert B
                                        generalize (wr.alloc (.cells #[Value.int .i64 j.fr, Value.int .i64 j.ct, Value.int .i64 j.wd] 3)) = wn
                                        generalize wr.heap.size = b10
                                        revert b18; revert b10; revert wn
                                        exact keyq_2_10_18.out
                                      refine AllReadyH.cons (o := { dst := some 37, op := Op.buildSlice 22 3 #[(0, Operand.tmp 30), (1, Operand.tmp 33), (2, Operand.tmp 36)], type := 22, pos := "l8_desk.go:19", after := #[{ on := 24, ground := Ground.data }, { on := 27, ground := Ground.data }, { on := 30, ground := Ground.data }], guard := none }) rfl (fun K hK => ?_) ?_
                                      · skip
                                        go_simp
                                        replace J18 := Lib.hid (J18.out.bel (bel_alloc wr ((.cells #[Value.int .i64 j.rw, Value.int .i64 j.ac, Value.int .i64 j.wi] 3))))
                                        replace B : Below w2.heap.size w2 (wr.alloc (.cells #[Value.int .i64 j.rw, Value.int .i64 j.ac, Value.int .i64 j.wi] 3)) := bel_trans B (bel_alloc wr _)
                                        have J31 : Hid (Ints (wr.alloc (.cells #[Value.int .i64 j.rw, Value.int .i64 j.ac, Value.int .i64 j.wi] 3)) (Value.slice (some ⟨wr.heap.size, 0, none⟩) 3 3) [j.rw, j.ac, j.wi]) := Lib.hid (lit_ints wr [j.rw, j.ac, j.wi] (by simp) HWF.out.2.2)
                                        refine hK.out _ _ (by first | exact ⟨(B.cell (by exact hl2)).trans a0, (B.cell (by exact hl2)).trans a1, (B.cell (by exact hl2)).trans a2, (B.cell (by exact hl2)).trans a3, (B.cell (by exact hl2)).trans a4, (B.cell (by exact hl2)).trans a5, (B.cell (by exact hl2)).trans a6, (B.cell (by exact hl2)).trans a7, (B.cell (by exact hl2)).trans a8⟩ | (dsimp only; exact ⟨(B.cell (by exact hl2)).trans a0, (B.cell (by exact hl2)).trans a1, (B.cell (by exact hl2)).trans a2, (B.cell (by exact hl2)).trans a3, (B.cell (by exact hl2)).trans a4, (B.cell (by exact hl2)).trans a5, (B.cell (by exact hl2)).trans a6, (B.cell (by exact hl2)).trans a7, (B.cell (by exact hl2)).trans a8⟩)) (fun hS => ?_)
                                        clear hK K
                                        (try simp only [Act.put, List.setIfInBounds_toArray, List.set_cons_zero, List.set_cons_succ])
                                        refine wpAnyH_listed (l' := #[true, true, true, true, true, true, true, true, true, true, false, false, false, false, true, true, true, true, true, false, false, false, true, true, true, true, true, true, true, true, true, true, false, false, false]) (by kernel_rfl) ?_
                                        clear hS
                                        (try clear hwx)
                                        revert J31; revert J18; revert B
                                        generalize (wr.alloc (.cells #[Value.int .i64 j.rw, Value.int .i64 j.ac, Value.int .i64 j.wi] 3)) = wn
                                        generalize wr.heap.size = b31
                                        revert b31; revert b18; revert wn
                                        exact keyq_2_18_31.out
                                      exact AllReadyH.nil
                                  case hkq_2_31 =>
                                    intro wr b31 B J31
                                    refine wpAnyH_ready (rs := [10, 18]) (by kernel_rfl) (by simp) ?_
                                    refine AllReadyH.cons (o := { dst := some 16, op := Op.buildSlice 22 3 #[(0, Operand.tmp 11), (1, Operand.tmp 13), (2, Operand.tmp 15)], type := 22, pos := "l8_desk.go:19", after := #[{ on := 5, ground := Ground.data }, { on := 7, ground := Ground.data }, { on := 9, ground := Ground.data }], guard := none }) rfl (fun K hK => ?_) ?_
                                    · skip
                                      go_simp
                                      replace J31 := Lib.hid (J31.out.bel (bel_alloc wr ((.cells #[Value.int .i64 j.fr, Value.int .i64 j.ct, Value.int .i64 j.wd] 3))))
                                      replace B : Below w2.heap.size w2 (wr.alloc (.cells #[Value.int .i64 j.fr, Value.int .i64 j.ct, Value.int .i64 j.wd] 3)) := bel_trans B (bel_alloc wr _)
                                      have J10 : Hid (Ints (wr.alloc (.cells #[Value.int .i64 j.fr, Value.int .i64 j.ct, Value.int .i64 j.wd] 3)) (Value.slice (some ⟨wr.heap.size, 0, none⟩) 3 3) [j.fr, j.ct, j.wd]) := Lib.hid (lit_ints wr [j.fr, j.ct, j.wd] (by simp) HWF.out.1)
                                      refine hK.out _ _ (by first | exact ⟨(B.cell (by exact hl2)).trans a0, (B.cell (by exact hl2)).trans a1, (B.cell (by exact hl2)).trans a2, (B.cell (by exact hl2)).trans a3, (B.cell (by exact hl2)).trans a4, (B.cell (by exact hl2)).trans a5, (B.cell (by exact hl2)).trans a6, (B.cell (by exact hl2)).trans a7, (B.cell (by exact hl2)).trans a8⟩ | (dsimp only; exact ⟨(B.cell (by exact hl2)).trans a0, (B.cell (by exact hl2)).trans a1, (B.cell (by exact hl2)).trans a2, (B.cell (by exact hl2)).trans a3, (B.cell (by exact hl2)).trans a4, (B.cell (by exact hl2)).trans a5, (B.cell (by exact hl2)).trans a6, (B.cell (by exact hl2)).trans a7, (B.cell (by exact hl2)).trans a8⟩)) (fun hS => ?_)
                                      clear hK K
                                      (try simp only [Act.put, List.setIfInBounds_toArray, List.set_cons_zero, List.set_cons_succ])
                                      refine wpAnyH_listed (l' := #[true, true, true, true, true, true, true, true, true, true, true, false, false, false, true, true, true, true, false, false, false, false, true, true, true, true, true, true, true, true, true, true, false, false, false]) (by kernel_rfl) ?_
                                      clear hS
                                      (try clear hwx)
                                      revert J31; revert J10; revert B
                                      generalize (wr.alloc (.cells #[Value.int .i64 j.fr, Value.int .i64 j.ct, Value.int .i64 j.wd] 3)) = wn
                                      generalize wr.heap.size = b10
                                      revert b31; revert b10; revert wn
                                      exact keyq_2_10_31.out
                                    refine AllReadyH.cons (o := { dst := some 24, op := Op.buildSlice 22 2 #[(0, Operand.tmp 21), (1, Operand.tmp 23)], type := 22, pos := "l8_desk.go:19", after := #[{ on := 15, ground := Ground.data }, { on := 17, ground := Ground.data }], guard := none }) rfl (fun K hK => ?_) ?_
                                    · skip
                                      go_simp
                                      replace J31 := Lib.hid (J31.out.bel (bel_alloc wr ((.cells #[Value.int .i64 j.dg, Value.int .i64 j.wy] 3))))
                                      replace B : Below w2.heap.size w2 (wr.alloc (.cells #[Value.int .i64 j.dg, Value.int .i64 j.wy] 3)) := bel_trans B (bel_alloc wr _)
                                      have J18 : Hid (Ints (wr.alloc (.cells #[Value.int .i64 j.dg, Value.int .i64 j.wy] 3)) (Value.slice (some ⟨wr.heap.size, 0, none⟩) 2 2) [j.dg, j.wy]) := Lib.hid (lit_ints wr [j.dg, j.wy] (by simp) HWF.out.2.1)
                                      refine hK.out _ _ (by first | exact ⟨(B.cell (by exact hl2)).trans a0, (B.cell (by exact hl2)).trans a1, (B.cell (by exact hl2)).trans a2, (B.cell (by exact hl2)).trans a3, (B.cell (by exact hl2)).trans a4, (B.cell (by exact hl2)).trans a5, (B.cell (by exact hl2)).trans a6, (B.cell (by exact hl2)).trans a7, (B.cell (by exact hl2)).trans a8⟩ | (dsimp only; exact ⟨(B.cell (by exact hl2)).trans a0, (B.cell (by exact hl2)).trans a1, (B.cell (by exact hl2)).trans a2, (B.cell (by exact hl2)).trans a3, (B.cell (by exact hl2)).trans a4, (B.cell (by exact hl2)).trans a5, (B.cell (by exact hl2)).trans a6, (B.cell (by exact hl2)).trans a7, (B.cell (by exact hl2)).trans a8⟩)) (fun hS => ?_)
                                      clear hK K
                                      (try simp only [Act.put, List.setIfInBounds_toArray, List.set_cons_zero, List.set_cons_succ])
                                      refine wpAnyH_listed (l' := #[true, true, true, true, true, true, true, true, true, true, false, false, false, false, true, true, true, true, true, false, false, false, true, true, true, true, true, true, true, true, true, true, false, false, false]) (by kernel_rfl) ?_
                                      clear hS
                                      (try clear hwx)
                                      revert J31; revert J18; revert B
                                      generalize (wr.alloc (.cells #[Value.int .i64 j.dg, Value.int .i64 j.wy] 3)) = wn
                                      generalize wr.heap.size = b18
                                      revert b31; revert b18; revert wn
                                      exact keyq_2_18_31.out
                                    exact AllReadyH.nil
                                case hkq_10_18 =>
                                  intro wr b10 b18 B J10 J18
                                  refine wpAnyH_ready (rs := [2, 31]) (by kernel_rfl) (by simp) ?_
                                  refine AllReadyH.cons (o := { dst := some 8, op := Op.call { callee := Callee.value (Operand.func 47), args := #[Operand.tmp 7], argTypes := #[22] }, type := 9, pos := "l8_desk.go:19", after := #[{ on := 1, ground := Ground.data }], guard := none }) rfl (fun K hK => ?_) ?_
                                  · skip
                                    (try go_simp)
                                    go_at_call 47
                                    refine (specFP_any _ j.poly _ (HP.out.bel B)).mono ?_
                                    rintro e wn ⟨rfl, b⟩
                                    replace J10 := Lib.hid (J10.out.bel b)
                                    replace J18 := Lib.hid (J18.out.bel b)
                                    replace B := bel_trans B b
                                    clear b
                                    (try dsimp only)
                                    refine hK.out _ _ (by first | exact ⟨(B.cell (by exact hl2)).trans a0, (B.cell (by exact hl2)).trans a1, (B.cell (by exact hl2)).trans a2, (B.cell (by exact hl2)).trans a3, (B.cell (by exact hl2)).trans a4, (B.cell (by exact hl2)).trans a5, (B.cell (by exact hl2)).trans a6, (B.cell (by exact hl2)).trans a7, (B.cell (by exact hl2)).trans a8⟩ | (dsimp only; exact ⟨(B.cell (by exact hl2)).trans a0, (B.cell (by exact hl2)).trans a1, (B.cell (by exact hl2)).trans a2, (B.cell (by exact hl2)).trans a3, (B.cell (by exact hl2)).trans a4, (B.cell (by exact hl2)).trans a5, (B.cell (by exact hl2)).trans a6, (B.cell (by exact hl2)).trans a7, (B.cell (by exact hl2)).trans a8⟩)) (fun hS => ?_)
                                    clear hK K
                                    (try simp only [Act.put, List.setIfInBounds_toArray, List.set_cons_zero, List.set_cons_succ])
                                    refine wpAnyH_take (i := 3) (oi := { dst := some 9, op := Op.binOp BinOp.add 9 (Operand.tmp 8) (Operand.const (Value.string { data := #[59] })) 9, type := 9, pos := "l8_desk.go:19", after := #[{ on := 2, ground := Ground.data }], guard := none }) (v := ?vq_28) rfl (by kernel_rfl) (by kernel_rfl) (by kernel_rfl) (fun _ _ _ h => h) (Or.inl ⟨by rfl, ?hyq_28⟩) hS ?restq_28
                                    case hyq_28 => (intro w' hSw; (try dsimp only at hSw); go_simp; all_goals with_reducible rfl)
                                    (try simp only [Act.put, List.setIfInBounds_toArray, List.set_cons_zero, List.set_cons_succ])
                                    refine wpAnyH_listed (l' := #[true, true, true, true, true, true, true, true, true, true, true, false, false, false, true, true, true, true, true, false, false, false, true, true, true, true, true, true, true, true, true, false, false, false, false]) (by kernel_rfl) ?_
                                    clear hS
                                    (try clear hwx)
                                    revert J18; revert J10; revert B
                                    revert b18; revert b10; revert wn
                                    exact keyq_2_10_18.out
                                  refine AllReadyH.cons (o := { dst := some 37, op := Op.buildSlice 22 3 #[(0, Operand.tmp 30), (1, Operand.tmp 33), (2, Operand.tmp 36)], type := 22, pos := "l8_desk.go:19", after := #[{ on := 24, ground := Ground.data }, { on := 27, ground := Ground.data }, { on := 30, ground := Ground.data }], guard := none }) rfl (fun K hK => ?_) ?_
                                  · skip
                                    go_simp
                                    replace J10 := Lib.hid (J10.out.bel (bel_alloc wr ((.cells #[Value.int .i64 j.rw, Value.int .i64 j.ac, Value.int .i64 j.wi] 3))))
                                    replace J18 := Lib.hid (J18.out.bel (bel_alloc wr ((.cells #[Value.int .i64 j.rw, Value.int .i64 j.ac, Value.int .i64 j.wi] 3))))
                                    replace B : Below w2.heap.size w2 (wr.alloc (.cells #[Value.int .i64 j.rw, Value.int .i64 j.ac, Value.int .i64 j.wi] 3)) := bel_trans B (bel_alloc wr _)
                                    have J31 : Hid (Ints (wr.alloc (.cells #[Value.int .i64 j.rw, Value.int .i64 j.ac, Value.int .i64 j.wi] 3)) (Value.slice (some ⟨wr.heap.size, 0, none⟩) 3 3) [j.rw, j.ac, j.wi]) := Lib.hid (lit_ints wr [j.rw, j.ac, j.wi] (by simp) HWF.out.2.2)
                                    refine hK.out _ _ (by first | exact ⟨(B.cell (by exact hl2)).trans a0, (B.cell (by exact hl2)).trans a1, (B.cell (by exact hl2)).trans a2, (B.cell (by exact hl2)).trans a3, (B.cell (by exact hl2)).trans a4, (B.cell (by exact hl2)).trans a5, (B.cell (by exact hl2)).trans a6, (B.cell (by exact hl2)).trans a7, (B.cell (by exact hl2)).trans a8⟩ | (dsimp only; exact ⟨(B.cell (by exact hl2)).trans a0, (B.cell (by exact hl2)).trans a1, (B.cell (by exact hl2)).trans a2, (B.cell (by exact hl2)).trans a3, (B.cell (by exact hl2)).trans a4, (B.cell (by exact hl2)).trans a5, (B.cell (by exact hl2)).trans a6, (B.cell (by exact hl2)).trans a7, (B.cell (by exact hl2)).trans a8⟩)) (fun hS => ?_)
                                    clear hK K
                                    (try simp only [Act.put, List.setIfInBounds_toArray, List.set_cons_zero, List.set_cons_succ])
                                    refine wpAnyH_listed (l' := #[true, true, false, false, true, true, true, true, true, true, true, false, false, false, true, true, true, true, true, false, false, false, true, true, true, true, true, true, true, true, true, true, false, false, false]) (by kernel_rfl) ?_
                                    clear hS
                                    (try clear hwx)
                                    revert J31; revert J18; revert J10; revert B
                                    generalize (wr.alloc (.cells #[Value.int .i64 j.rw, Value.int .i64 j.ac, Value.int .i64 j.wi] 3)) = wn
                                    generalize wr.heap.size = b31
                                    revert b31; revert b18; revert b10; revert wn
                                    exact keyq_10_18_31.out
                                  exact AllReadyH.nil
                              case hkq_10_31 =>
                                intro wr b10 b31 B J10 J31
                                refine wpAnyH_ready (rs := [2, 18]) (by kernel_rfl) (by simp) ?_
                                refine AllReadyH.cons (o := { dst := some 8, op := Op.call { callee := Callee.value (Operand.func 47), args := #[Operand.tmp 7], argTypes := #[22] }, type := 9, pos := "l8_desk.go:19", after := #[{ on := 1, ground := Ground.data }], guard := none }) rfl (fun K hK => ?_) ?_
                                · skip
                                  (try go_simp)
                                  go_at_call 47
                                  refine (specFP_any _ j.poly _ (HP.out.bel B)).mono ?_
                                  rintro e wn ⟨rfl, b⟩
                                  replace J10 := Lib.hid (J10.out.bel b)
                                  replace J31 := Lib.hid (J31.out.bel b)
                                  replace B := bel_trans B b
                                  clear b
                                  (try dsimp only)
                                  refine hK.out _ _ (by first | exact ⟨(B.cell (by exact hl2)).trans a0, (B.cell (by exact hl2)).trans a1, (B.cell (by exact hl2)).trans a2, (B.cell (by exact hl2)).trans a3, (B.cell (by exact hl2)).trans a4, (B.cell (by exact hl2)).trans a5, (B.cell (by exact hl2)).trans a6, (B.cell (by exact hl2)).trans a7, (B.cell (by exact hl2)).trans a8⟩ | (dsimp only; exact ⟨(B.cell (by exact hl2)).trans a0, (B.cell (by exact hl2)).trans a1, (B.cell (by exact hl2)).trans a2, (B.cell (by exact hl2)).trans a3, (B.cell (by exact hl2)).trans a4, (B.cell (by exact hl2)).trans a5, (B.cell (by exact hl2)).trans a6, (B.cell (by exact hl2)).trans a7, (B.cell (by exact hl2)).trans a8⟩)) (fun hS => ?_)
                                  clear hK K
                                  (try simp only [Act.put, List.setIfInBounds_toArray, List.set_cons_zero, List.set_cons_succ])
                                  refine wpAnyH_take (i := 3) (oi := { dst := some 9, op := Op.binOp BinOp.add 9 (Operand.tmp 8) (Operand.const (Value.string { data := #[59] })) 9, type := 9, pos := "l8_desk.go:19", after := #[{ on := 2, ground := Ground.data }], guard := none }) (v := ?vq_29) rfl (by kernel_rfl) (by kernel_rfl) (by kernel_rfl) (fun _ _ _ h => h) (Or.inl ⟨by rfl, ?hyq_29⟩) hS ?restq_29
                                  case hyq_29 => (intro w' hSw; (try dsimp only at hSw); go_simp; all_goals with_reducible rfl)
                                  (try simp only [Act.put, List.setIfInBounds_toArray, List.set_cons_zero, List.set_cons_succ])
                                  refine wpAnyH_listed (l' := #[true, true, true, true, true, true, true, true, true, true, true, false, false, false, true, true, true, true, false, false, false, false, true, true, true, true, true, true, true, true, true, true, false, false, false]) (by kernel_rfl) ?_
                                  clear hS
                                  (try clear hwx)
                                  revert J31; revert J10; revert B
                                  revert b31; revert b10; revert wn
                                  exact keyq_2_10_31.out
                                refine AllReadyH.cons (o := { dst := some 24, op := Op.buildSlice 22 2 #[(0, Operand.tmp 21), (1, Operand.tmp 23)], type := 22, pos := "l8_desk.go:19", after := #[{ on := 15, ground := Ground.data }, { on := 17, ground := Ground.data }], guard := none }) rfl (fun K hK => ?_) ?_
                                · skip
                                  go_simp
                                  replace J10 := Lib.hid (J10.out.bel (bel_alloc wr ((.cells #[Value.int .i64 j.dg, Value.int .i64 j.wy] 3))))
                                  replace J31 := Lib.hid (J31.out.bel (bel_alloc wr ((.cells #[Value.int .i64 j.dg, Value.int .i64 j.wy] 3))))
                                  replace B : Below w2.heap.size w2 (wr.alloc (.cells #[Value.int .i64 j.dg, Value.int .i64 j.wy] 3)) := bel_trans B (bel_alloc wr _)
                                  have J18 : Hid (Ints (wr.alloc (.cells #[Value.int .i64 j.dg, Value.int .i64 j.wy] 3)) (Value.slice (some ⟨wr.heap.size, 0, none⟩) 2 2) [j.dg, j.wy]) := Lib.hid (lit_ints wr [j.dg, j.wy] (by simp) HWF.out.2.1)
                                  refine hK.out _ _ (by first | exact ⟨(B.cell (by exact hl2)).trans a0, (B.cell (by exact hl2)).trans a1, (B.cell (by exact hl2)).trans a2, (B.cell (by exact hl2)).trans a3, (B.cell (by exact hl2)).trans a4, (B.cell (by exact hl2)).trans a5, (B.cell (by exact hl2)).trans a6, (B.cell (by exact hl2)).trans a7, (B.cell (by exact hl2)).trans a8⟩ | (dsimp only; exact ⟨(B.cell (by exact hl2)).trans a0, (B.cell (by exact hl2)).trans a1, (B.cell (by exact hl2)).trans a2, (B.cell (by exact hl2)).trans a3, (B.cell (by exact hl2)).trans a4, (B.cell (by exact hl2)).trans a5, (B.cell (by exact hl2)).trans a6, (B.cell (by exact hl2)).trans a7, (B.cell (by exact hl2)).trans a8⟩)) (fun hS => ?_)
                                  clear hK K
                                  (try simp only [Act.put, List.setIfInBounds_toArray, List.set_cons_zero, List.set_cons_succ])
                                  refine wpAnyH_listed (l' := #[true, true, false, false, true, true, true, true, true, true, true, false, false, false, true, true, true, true, true, false, false, false, true, true, true, true, true, true, true, true, true, true, false, false, false]) (by kernel_rfl) ?_
                                  clear hS
                                  (try clear hwx)
                                  revert J31; revert J18; revert J10; revert B
                                  generalize (wr.alloc (.cells #[Value.int .i64 j.dg, Value.int .i64 j.wy] 3)) = wn
                                  generalize wr.heap.size = b18
                                  revert b31; revert b18; revert b10; revert wn
                                  exact keyq_10_18_31.out
                                exact AllReadyH.nil
                            case hkq_18_31 =>
                              intro wr b18 b31 B J18 J31
                              refine wpAnyH_ready (rs := [2, 10]) (by kernel_rfl) (by simp) ?_
                              refine AllReadyH.cons (o := { dst := some 8, op := Op.call { callee := Callee.value (Operand.func 47), args := #[Operand.tmp 7], argTypes := #[22] }, type := 9, pos := "l8_desk.go:19", after := #[{ on := 1, ground := Ground.data }], guard := none }) rfl (fun K hK => ?_) ?_
                              · skip
                                (try go_simp)
                                go_at_call 47
                                refine (specFP_any _ j.poly _ (HP.out.bel B)).mono ?_
                                rintro e wn ⟨rfl, b⟩
                                replace J18 := Lib.hid (J18.out.bel b)
                                replace J31 := Lib.hid (J31.out.bel b)
                                replace B := bel_trans B b
                                clear b
                                (try dsimp only)
                                refine hK.out _ _ (by first | exact ⟨(B.cell (by exact hl2)).trans a0, (B.cell (by exact hl2)).trans a1, (B.cell (by exact hl2)).trans a2, (B.cell (by exact hl2)).trans a3, (B.cell (by exact hl2)).trans a4, (B.cell (by exact hl2)).trans a5, (B.cell (by exact hl2)).trans a6, (B.cell (by exact hl2)).trans a7, (B.cell (by exact hl2)).trans a8⟩ | (dsimp only; exact ⟨(B.cell (by exact hl2)).trans a0, (B.cell (by exact hl2)).trans a1, (B.cell (by exact hl2)).trans a2, (B.cell (by exact hl2)).trans a3, (B.cell (by exact hl2)).trans a4, (B.cell (by exact hl2)).trans a5, (B.cell (by exact hl2)).trans a6, (B.cell (by exact hl2)).trans a7, (B.cell (by exact hl2)).trans a8⟩)) (fun hS => ?_)
                                clear hK K
                                (try simp only [Act.put, List.setIfInBounds_toArray, List.set_cons_zero, List.set_cons_succ])
                                refine wpAnyH_take (i := 3) (oi := { dst := some 9, op := Op.binOp BinOp.add 9 (Operand.tmp 8) (Operand.const (Value.string { data := #[59] })) 9, type := 9, pos := "l8_desk.go:19", after := #[{ on := 2, ground := Ground.data }], guard := none }) (v := ?vq_30) rfl (by kernel_rfl) (by kernel_rfl) (by kernel_rfl) (fun _ _ _ h => h) (Or.inl ⟨by rfl, ?hyq_30⟩) hS ?restq_30
                                case hyq_30 => (intro w' hSw; (try dsimp only at hSw); go_simp; all_goals with_reducible rfl)
                                (try simp only [Act.put, List.setIfInBounds_toArray, List.set_cons_zero, List.set_cons_succ])
                                refine wpAnyH_listed (l' := #[true, true, true, true, true, true, true, true, true, true, false, false, false, false, true, true, true, true, true, false, false, false, true, true, true, true, true, true, true, true, true, true, false, false, false]) (by kernel_rfl) ?_
                                clear hS
                                (try clear hwx)
                                revert J31; revert J18; revert B
                                revert b31; revert b18; revert wn
                                exact keyq_2_18_31.out
                              refine AllReadyH.cons (o := { dst := some 16, op := Op.buildSlice 22 3 #[(0, Operand.tmp 11), (1, Operand.tmp 13), (2, Operand.tmp 15)], type := 22, pos := "l8_desk.go:19", after := #[{ on := 5, ground := Ground.data }, { on := 7, ground := Ground.data }, { on := 9, ground := Ground.data }], guard := none }) rfl (fun K hK => ?_) ?_
                              · skip
                                go_simp
                                replace J18 := Lib.hid (J18.out.bel (bel_alloc wr ((.cells #[Value.int .i64 j.fr, Value.int .i64 j.ct, Value.int .i64 j.wd] 3))))
                                replace J31 := Lib.hid (J31.out.bel (bel_alloc wr ((.cells #[Value.int .i64 j.fr, Value.int .i64 j.ct, Value.int .i64 j.wd] 3))))
                                replace B : Below w2.heap.size w2 (wr.alloc (.cells #[Value.int .i64 j.fr, Value.int .i64 j.ct, Value.int .i64 j.wd] 3)) := bel_trans B (bel_alloc wr _)
                                have J10 : Hid (Ints (wr.alloc (.cells #[Value.int .i64 j.fr, Value.int .i64 j.ct, Value.int .i64 j.wd] 3)) (Value.slice (some ⟨wr.heap.size, 0, none⟩) 3 3) [j.fr, j.ct, j.wd]) := Lib.hid (lit_ints wr [j.fr, j.ct, j.wd] (by simp) HWF.out.1)
                                refine hK.out _ _ (by first | exact ⟨(B.cell (by exact hl2)).trans a0, (B.cell (by exact hl2)).trans a1, (B.cell (by exact hl2)).trans a2, (B.cell (by exact hl2)).trans a3, (B.cell (by exact hl2)).trans a4, (B.cell (by exact hl2)).trans a5, (B.cell (by exact hl2)).trans a6, (B.cell (by exact hl2)).trans a7, (B.cell (by exact hl2)).trans a8⟩ | (dsimp only; exact ⟨(B.cell (by exact hl2)).trans a0, (B.cell (by exact hl2)).trans a1, (B.cell (by exact hl2)).trans a2, (B.cell (by exact hl2)).trans a3, (B.cell (by exact hl2)).trans a4, (B.cell (by exact hl2)).trans a5, (B.cell (by exact hl2)).trans a6, (B.cell (by exact hl2)).trans a7, (B.cell (by exact hl2)).trans a8⟩)) (fun hS => ?_)
                                clear hK K
                                (try simp only [Act.put, List.setIfInBounds_toArray, List.set_cons_zero, List.set_cons_succ])
                                refine wpAnyH_listed (l' := #[true, true, false, false, true, true, true, true, true, true, true, false, false, false, true, true, true, true, true, false, false, false, true, true, true, true, true, true, true, true, true, true, false, false, false]) (by kernel_rfl) ?_
                                clear hS
                                (try clear hwx)
                                revert J31; revert J18; revert J10; revert B
                                generalize (wr.alloc (.cells #[Value.int .i64 j.fr, Value.int .i64 j.ct, Value.int .i64 j.wd] 3)) = wn
                                generalize wr.heap.size = b10
                                revert b31; revert b18; revert b10; revert wn
                                exact keyq_10_18_31.out
                              exact AllReadyH.nil
                          case hkq_2_10_11 =>
                            intro wr b10 B
                            refine wpAnyH_ready (rs := [18, 31]) (by kernel_rfl) (by simp) ?_
                            refine AllReadyH.cons (o := { dst := some 24, op := Op.buildSlice 22 2 #[(0, Operand.tmp 21), (1, Operand.tmp 23)], type := 22, pos := "l8_desk.go:19", after := #[{ on := 15, ground := Ground.data }, { on := 17, ground := Ground.data }], guard := none }) rfl (fun K hK => ?_) ?_
                            · skip
                              go_simp
                              replace B : Below w2.heap.size w2 (wr.alloc (.cells #[Value.int .i64 j.dg, Value.int .i64 j.wy] 3)) := bel_trans B (bel_alloc wr _)
                              have J18 : Hid (Ints (wr.alloc (.cells #[Value.int .i64 j.dg, Value.int .i64 j.wy] 3)) (Value.slice (some ⟨wr.heap.size, 0, none⟩) 2 2) [j.dg, j.wy]) := Lib.hid (lit_ints wr [j.dg, j.wy] (by simp) HWF.out.2.1)
                              refine hK.out _ _ (by first | exact ⟨(B.cell (by exact hl2)).trans a0, (B.cell (by exact hl2)).trans a1, (B.cell (by exact hl2)).trans a2, (B.cell (by exact hl2)).trans a3, (B.cell (by exact hl2)).trans a4, (B.cell (by exact hl2)).trans a5, (B.cell (by exact hl2)).trans a6, (B.cell (by exact hl2)).trans a7, (B.cell (by exact hl2)).trans a8⟩ | (dsimp only; exact ⟨(B.cell (by exact hl2)).trans a0, (B.cell (by exact hl2)).trans a1, (B.cell (by exact hl2)).trans a2, (B.cell (by exact hl2)).trans a3, (B.cell (by exact hl2)).trans a4, (B.cell (by exact hl2)).trans a5, (B.cell (by exact hl2)).trans a6, (B.cell (by exact hl2)).trans a7, (B.cell (by exact hl2)).trans a8⟩)) (fun hS => ?_)
                              clear hK K
                              (try simp only [Act.put, List.setIfInBounds_toArray, List.set_cons_zero, List.set_cons_succ])
                              refine wpAnyH_listed (l' := #[true, true, true, true, true, true, true, true, true, true, true, true, true, true, true, true, true, true, true, false, false, false, true, true, true, true, true, true, true, true, true, false, false, false, false]) (by kernel_rfl) ?_
                              clear hS
                              (try clear hwx)
                              revert J18; revert B
                              generalize (wr.alloc (.cells #[Value.int .i64 j.dg, Value.int .i64 j.wy] 3)) = wn
                              generalize wr.heap.size = b18
                              revert b18; revert b10; revert wn
                              exact keyq_2_10_11_18.out
                            refine AllReadyH.cons (o := { dst := some 37, op := Op.buildSlice 22 3 #[(0, Operand.tmp 30), (1, Operand.tmp 33), (2, Operand.tmp 36)], type := 22, pos := "l8_desk.go:19", after := #[{ on := 24, ground := Ground.data }, { on := 27, ground := Ground.data }, { on := 30, ground := Ground.data }], guard := none }) rfl (fun K hK => ?_) ?_
                            · skip
                              go_simp
                              replace B : Below w2.heap.size w2 (wr.alloc (.cells #[Value.int .i64 j.rw, Value.int .i64 j.ac, Value.int .i64 j.wi] 3)) := bel_trans B (bel_alloc wr _)
                              have J31 : Hid (Ints (wr.alloc (.cells #[Value.int .i64 j.rw, Value.int .i64 j.ac, Value.int .i64 j.wi] 3)) (Value.slice (some ⟨wr.heap.size, 0, none⟩) 3 3) [j.rw, j.ac, j.wi]) := Lib.hid (lit_ints wr [j.rw, j.ac, j.wi] (by simp) HWF.out.2.2)
                              refine hK.out _ _ (by first | exact ⟨(B.cell (by exact hl2)).trans a0, (B.cell (by exact hl2)).trans a1, (B.cell (by exact hl2)).trans a2, (B.cell (by exact hl2)).trans a3, (B.cell (by exact hl2)).trans a4, (B.cell (by exact hl2)).trans a5, (B.cell (by exact hl2)).trans a6, (B.cell (by exact hl2)).trans a7, (B.cell (by exact hl2)).trans a8⟩ | (dsimp only; exact ⟨(B.cell (by exact hl2)).trans a0, (B.cell (by exact hl2)).trans a1, (B.cell (by exact hl2)).trans a2, (B.cell (by exact hl2)).trans a3, (B.cell (by exact hl2)).trans a4, (B.cell (by exact hl2)).trans a5, (B.cell (by exact hl2)).trans a6, (B.cell (by exact hl2)).trans a7, (B.cell (by exact hl2)).trans a8⟩)) (fun hS => ?_)
                              clear hK K
                              (try simp only [Act.put, List.setIfInBounds_toArray, List.set_cons_zero, List.set_cons_succ])
                              refine wpAnyH_listed (l' := #[true, true, true, true, true, true, true, true, true, true, true, true, true, true, true, true, true, true, false, false, false, false, true, true, true, true, true, true, true, true, true, true, false, false, false]) (by kernel_rfl) ?_
                              clear hS
                              (try clear hwx)
                              revert J31; revert B
                              generalize (wr.alloc (.cells #[Value.int .i64 j.rw, Value.int .i64 j.ac, Value.int .i64 j.wi] 3)) = wn
                              generalize wr.heap.size = b31
                              revert b31; revert b10; revert wn
                              exact keyq_2_10_11_31.out
                            exact AllReadyH.nil
                        case hkq_2_10_18 =>
                          intro wr b10 b18 B J10 J18
                          refine wpAnyH_ready (rs := [11, 31]) (by kernel_rfl) (by simp) ?_
                          refine AllReadyH.cons (o := { dst := some 17, op := Op.call { callee := Callee.value (Operand.func 48), args := #[Operand.tmp 16], argTypes := #[22] }, type := 9, pos := "l8_desk.go:19", after := #[{ on := 10, ground := Ground.data }, { on := 2, ground := Ground.chain }], guard := none }) rfl (fun K hK => ?_) ?_
                          · skip
                            (try go_simp)
                            go_at_call 48
                            refine (show Calls _ _ _ _ (fun e w' => e = .returned (.string (gr1 j)) ∧ Below wr.heap.size wr w') from l2Text_any _ [j.fr, j.ct, j.wd] _ J10.out (by simp)).mono ?_
                            rintro e wn ⟨rfl, b⟩
                            clear J10
                            replace J18 := Lib.hid (J18.out.bel b)
                            replace B := bel_trans B b
                            clear b
                            (try dsimp only)
                            refine hK.out _ _ (by first | exact ⟨(B.cell (by exact hl2)).trans a0, (B.cell (by exact hl2)).trans a1, (B.cell (by exact hl2)).trans a2, (B.cell (by exact hl2)).trans a3, (B.cell (by exact hl2)).trans a4, (B.cell (by exact hl2)).trans a5, (B.cell (by exact hl2)).trans a6, (B.cell (by exact hl2)).trans a7, (B.cell (by exact hl2)).trans a8⟩ | (dsimp only; exact ⟨(B.cell (by exact hl2)).trans a0, (B.cell (by exact hl2)).trans a1, (B.cell (by exact hl2)).trans a2, (B.cell (by exact hl2)).trans a3, (B.cell (by exact hl2)).trans a4, (B.cell (by exact hl2)).trans a5, (B.cell (by exact hl2)).trans a6, (B.cell (by exact hl2)).trans a7, (B.cell (by exact hl2)).trans a8⟩)) (fun hS => ?_)
                            clear hK K
                            (try simp only [Act.put, List.setIfInBounds_toArray, List.set_cons_zero, List.set_cons_succ])
                            refine wpAnyH_take (i := 12) (oi := { dst := some 18, op := Op.binOp BinOp.add 9 (Operand.tmp 9) (Operand.tmp 17) 9, type := 9, pos := "l8_desk.go:19", after := #[{ on := 3, ground := Ground.data }, { on := 11, ground := Ground.data }], guard := none }) (v := ?vq_31) rfl (by kernel_rfl) (by kernel_rfl) (by kernel_rfl) (fun _ _ _ h => h) (Or.inl ⟨by rfl, ?hyq_31⟩) hS ?restq_31
                            case hyq_31 => (intro w' hSw; (try dsimp only at hSw); go_simp; all_goals with_reducible rfl)
                            (try simp only [Act.put, List.setIfInBounds_toArray, List.set_cons_zero, List.set_cons_succ])
                            refine wpAnyH_take (i := 13) (oi := { dst := some 19, op := Op.binOp BinOp.add 9 (Operand.tmp 18) (Operand.const (Value.string { data := #[59] })) 9, type := 9, pos := "l8_desk.go:19", after := #[{ on := 12, ground := Ground.data }], guard := none }) (v := ?vq_32) rfl (by kernel_rfl) (by kernel_rfl) (by kernel_rfl) (fun _ _ _ h => h) (Or.inl ⟨by rfl, ?hyq_32⟩) hS ?restq_32
                            case hyq_32 => (intro w' hSw; (try dsimp only at hSw); go_simp; all_goals with_reducible rfl)
                            (try simp only [Act.put, List.setIfInBounds_toArray, List.set_cons_zero, List.set_cons_succ])
                            refine wpAnyH_listed (l' := #[true, true, true, true, true, true, true, true, true, true, true, true, true, true, true, true, true, true, true, false, false, false, true, true, true, true, true, true, true, true, true, false, false, false, false]) (by kernel_rfl) ?_
                            clear hS
                            (try clear hwx)
                            revert J18; revert B
                            revert b18; revert b10; revert wn
                            exact keyq_2_10_11_18.out
                          refine AllReadyH.cons (o := { dst := some 37, op := Op.buildSlice 22 3 #[(0, Operand.tmp 30), (1, Operand.tmp 33), (2, Operand.tmp 36)], type := 22, pos := "l8_desk.go:19", after := #[{ on := 24, ground := Ground.data }, { on := 27, ground := Ground.data }, { on := 30, ground := Ground.data }], guard := none }) rfl (fun K hK => ?_) ?_
                          · skip
                            go_simp
                            replace J10 := Lib.hid (J10.out.bel (bel_alloc wr ((.cells #[Value.int .i64 j.rw, Value.int .i64 j.ac, Value.int .i64 j.wi] 3))))
                            replace J18 := Lib.hid (J18.out.bel (bel_alloc wr ((.cells #[Value.int .i64 j.rw, Value.int .i64 j.ac, Value.int .i64 j.wi] 3))))
                            replace B : Below w2.heap.size w2 (wr.alloc (.cells #[Value.int .i64 j.rw, Value.int .i64 j.ac, Value.int .i64 j.wi] 3)) := bel_trans B (bel_alloc wr _)
                            have J31 : Hid (Ints (wr.alloc (.cells #[Value.int .i64 j.rw, Value.int .i64 j.ac, Value.int .i64 j.wi] 3)) (Value.slice (some ⟨wr.heap.size, 0, none⟩) 3 3) [j.rw, j.ac, j.wi]) := Lib.hid (lit_ints wr [j.rw, j.ac, j.wi] (by simp) HWF.out.2.2)
                            refine hK.out _ _ (by first | exact ⟨(B.cell (by exact hl2)).trans a0, (B.cell (by exact hl2)).trans a1, (B.cell (by exact hl2)).trans a2, (B.cell (by exact hl2)).trans a3, (B.cell (by exact hl2)).trans a4, (B.cell (by exact hl2)).trans a5, (B.cell (by exact hl2)).trans a6, (B.cell (by exact hl2)).trans a7, (B.cell (by exact hl2)).trans a8⟩ | (dsimp only; exact ⟨(B.cell (by exact hl2)).trans a0, (B.cell (by exact hl2)).trans a1, (B.cell (by exact hl2)).trans a2, (B.cell (by exact hl2)).trans a3, (B.cell (by exact hl2)).trans a4, (B.cell (by exact hl2)).trans a5, (B.cell (by exact hl2)).trans a6, (B.cell (by exact hl2)).trans a7, (B.cell (by exact hl2)).trans a8⟩)) (fun hS => ?_)
                            clear hK K
                            (try simp only [Act.put, List.setIfInBounds_toArray, List.set_cons_zero, List.set_cons_succ])
                            refine wpAnyH_listed (l' := #[true, true, true, true, true, true, true, true, true, true, true, false, false, false, true, true, true, true, true, false, false, false, true, true, true, true, true, true, true, true, true, true, false, false, false]) (by kernel_rfl) ?_
                            clear hS
                            (try clear hwx)
                            revert J31; revert J18; revert J10; revert B
                            generalize (wr.alloc (.cells #[Value.int .i64 j.rw, Value.int .i64 j.ac, Value.int .i64 j.wi] 3)) = wn
                            generalize wr.heap.size = b31
                            revert b31; revert b18; revert b10; revert wn
                            exact keyq_2_10_18_31.out
                          exact AllReadyH.nil
                      case hkq_2_10_31 =>
                        intro wr b10 b31 B J10 J31
                        refine wpAnyH_ready (rs := [11, 18]) (by kernel_rfl) (by simp) ?_
                        refine AllReadyH.cons (o := { dst := some 17, op := Op.call { callee := Callee.value (Operand.func 48), args := #[Operand.tmp 16], argTypes := #[22] }, type := 9, pos := "l8_desk.go:19", after := #[{ on := 10, ground := Ground.data }, { on := 2, ground := Ground.chain }], guard := none }) rfl (fun K hK => ?_) ?_
                        · skip
                          (try go_simp)
                          go_at_call 48
                          refine (show Calls _ _ _ _ (fun e w' => e = .returned (.string (gr1 j)) ∧ Below wr.heap.size wr w') from l2Text_any _ [j.fr, j.ct, j.wd] _ J10.out (by simp)).mono ?_
                          rintro e wn ⟨rfl, b⟩
                          clear J10
                          replace J31 := Lib.hid (J31.out.bel b)
                          replace B := bel_trans B b
                          clear b
                          (try dsimp only)
                          refine hK.out _ _ (by first | exact ⟨(B.cell (by exact hl2)).trans a0, (B.cell (by exact hl2)).trans a1, (B.cell (by exact hl2)).trans a2, (B.cell (by exact hl2)).trans a3, (B.cell (by exact hl2)).trans a4, (B.cell (by exact hl2)).trans a5, (B.cell (by exact hl2)).trans a6, (B.cell (by exact hl2)).trans a7, (B.cell (by exact hl2)).trans a8⟩ | (dsimp only; exact ⟨(B.cell (by exact hl2)).trans a0, (B.cell (by exact hl2)).trans a1, (B.cell (by exact hl2)).trans a2, (B.cell (by exact hl2)).trans a3, (B.cell (by exact hl2)).trans a4, (B.cell (by exact hl2)).trans a5, (B.cell (by exact hl2)).trans a6, (B.cell (by exact hl2)).trans a7, (B.cell (by exact hl2)).trans a8⟩)) (fun hS => ?_)
                          clear hK K
                          (try simp only [Act.put, List.setIfInBounds_toArray, List.set_cons_zero, List.set_cons_succ])
                          refine wpAnyH_take (i := 12) (oi := { dst := some 18, op := Op.binOp BinOp.add 9 (Operand.tmp 9) (Operand.tmp 17) 9, type := 9, pos := "l8_desk.go:19", after := #[{ on := 3, ground := Ground.data }, { on := 11, ground := Ground.data }], guard := none }) (v := ?vq_33) rfl (by kernel_rfl) (by kernel_rfl) (by kernel_rfl) (fun _ _ _ h => h) (Or.inl ⟨by rfl, ?hyq_33⟩) hS ?restq_33
                          case hyq_33 => (intro w' hSw; (try dsimp only at hSw); go_simp; all_goals with_reducible rfl)
                          (try simp only [Act.put, List.setIfInBounds_toArray, List.set_cons_zero, List.set_cons_succ])
                          refine wpAnyH_take (i := 13) (oi := { dst := some 19, op := Op.binOp BinOp.add 9 (Operand.tmp 18) (Operand.const (Value.string { data := #[59] })) 9, type := 9, pos := "l8_desk.go:19", after := #[{ on := 12, ground := Ground.data }], guard := none }) (v := ?vq_34) rfl (by kernel_rfl) (by kernel_rfl) (by kernel_rfl) (fun _ _ _ h => h) (Or.inl ⟨by rfl, ?hyq_34⟩) hS ?restq_34
                          case hyq_34 => (intro w' hSw; (try dsimp only at hSw); go_simp; all_goals with_reducible rfl)
                          (try simp only [Act.put, List.setIfInBounds_toArray, List.set_cons_zero, List.set_cons_succ])
                          refine wpAnyH_listed (l' := #[true, true, true, true, true, true, true, true, true, true, true, true, true, true, true, true, true, true, false, false, false, false, true, true, true, true, true, true, true, true, true, true, false, false, false]) (by kernel_rfl) ?_
                          clear hS
                          (try clear hwx)
                          revert J31; revert B
                          revert b31; revert b10; revert wn
                          exact keyq_2_10_11_31.out
                        refine AllReadyH.cons (o := { dst := some 24, op := Op.buildSlice 22 2 #[(0, Operand.tmp 21), (1, Operand.tmp 23)], type := 22, pos := "l8_desk.go:19", after := #[{ on := 15, ground := Ground.data }, { on := 17, ground := Ground.data }], guard := none }) rfl (fun K hK => ?_) ?_
                        · skip
                          go_simp
                          replace J10 := Lib.hid (J10.out.bel (bel_alloc wr ((.cells #[Value.int .i64 j.dg, Value.int .i64 j.wy] 3))))
                          replace J31 := Lib.hid (J31.out.bel (bel_alloc wr ((.cells #[Value.int .i64 j.dg, Value.int .i64 j.wy] 3))))
                          replace B : Below w2.heap.size w2 (wr.alloc (.cells #[Value.int .i64 j.dg, Value.int .i64 j.wy] 3)) := bel_trans B (bel_alloc wr _)
                          have J18 : Hid (Ints (wr.alloc (.cells #[Value.int .i64 j.dg, Value.int .i64 j.wy] 3)) (Value.slice (some ⟨wr.heap.size, 0, none⟩) 2 2) [j.dg, j.wy]) := Lib.hid (lit_ints wr [j.dg, j.wy] (by simp) HWF.out.2.1)
                          refine hK.out _ _ (by first | exact ⟨(B.cell (by exact hl2)).trans a0, (B.cell (by exact hl2)).trans a1, (B.cell (by exact hl2)).trans a2, (B.cell (by exact hl2)).trans a3, (B.cell (by exact hl2)).trans a4, (B.cell (by exact hl2)).trans a5, (B.cell (by exact hl2)).trans a6, (B.cell (by exact hl2)).trans a7, (B.cell (by exact hl2)).trans a8⟩ | (dsimp only; exact ⟨(B.cell (by exact hl2)).trans a0, (B.cell (by exact hl2)).trans a1, (B.cell (by exact hl2)).trans a2, (B.cell (by exact hl2)).trans a3, (B.cell (by exact hl2)).trans a4, (B.cell (by exact hl2)).trans a5, (B.cell (by exact hl2)).trans a6, (B.cell (by exact hl2)).trans a7, (B.cell (by exact hl2)).trans a8⟩)) (fun hS => ?_)
                          clear hK K
                          (try simp only [Act.put, List.setIfInBounds_toArray, List.set_cons_zero, List.set_cons_succ])
                          refine wpAnyH_listed (l' := #[true, true, true, true, true, true, true, true, true, true, true, false, false, false, true, true, true, true, true, false, false, false, true, true, true, true, true, true, true, true, true, true, false, false, false]) (by kernel_rfl) ?_
                          clear hS
                          (try clear hwx)
                          revert J31; revert J18; revert J10; revert B
                          generalize (wr.alloc (.cells #[Value.int .i64 j.dg, Value.int .i64 j.wy] 3)) = wn
                          generalize wr.heap.size = b18
                          revert b31; revert b18; revert b10; revert wn
                          exact keyq_2_10_18_31.out
                        exact AllReadyH.nil
                    case hkq_2_18_31 =>
                      intro wr b18 b31 B J18 J31
                      refine wpAnyH_ready (rs := [10]) (by kernel_rfl) (by simp) ?_
                      refine AllReadyH.cons (o := { dst := some 16, op := Op.buildSlice 22 3 #[(0, Operand.tmp 11), (1, Operand.tmp 13), (2, Operand.tmp 15)], type := 22, pos := "l8_desk.go:19", after := #[{ on := 5, ground := Ground.data }, { on := 7, ground := Ground.data }, { on := 9, ground := Ground.data }], guard := none }) rfl (fun K hK => ?_) ?_
                      · skip
                        go_simp
                        replace J18 := Lib.hid (J18.out.bel (bel_alloc wr ((.cells #[Value.int .i64 j.fr, Value.int .i64 j.ct, Value.int .i64 j.wd] 3))))
                        replace J31 := Lib.hid (J31.out.bel (bel_alloc wr ((.cells #[Value.int .i64 j.fr, Value.int .i64 j.ct, Value.int .i64 j.wd] 3))))
                        replace B : Below w2.heap.size w2 (wr.alloc (.cells #[Value.int .i64 j.fr, Value.int .i64 j.ct, Value.int .i64 j.wd] 3)) := bel_trans B (bel_alloc wr _)
                        have J10 : Hid (Ints (wr.alloc (.cells #[Value.int .i64 j.fr, Value.int .i64 j.ct, Value.int .i64 j.wd] 3)) (Value.slice (some ⟨wr.heap.size, 0, none⟩) 3 3) [j.fr, j.ct, j.wd]) := Lib.hid (lit_ints wr [j.fr, j.ct, j.wd] (by simp) HWF.out.1)
                        refine hK.out _ _ (by first | exact ⟨(B.cell (by exact hl2)).trans a0, (B.cell (by exact hl2)).trans a1, (B.cell (by exact hl2)).trans a2, (B.cell (by exact hl2)).trans a3, (B.cell (by exact hl2)).trans a4, (B.cell (by exact hl2)).trans a5, (B.cell (by exact hl2)).trans a6, (B.cell (by exact hl2)).trans a7, (B.cell (by exact hl2)).trans a8⟩ | (dsimp only; exact ⟨(B.cell (by exact hl2)).trans a0, (B.cell (by exact hl2)).trans a1, (B.cell (by exact hl2)).trans a2, (B.cell (by exact hl2)).trans a3, (B.cell (by exact hl2)).trans a4, (B.cell (by exact hl2)).trans a5, (B.cell (by exact hl2)).trans a6, (B.cell (by exact hl2)).trans a7, (B.cell (by exact hl2)).trans a8⟩)) (fun hS => ?_)
                        clear hK K
                        (try simp only [Act.put, List.setIfInBounds_toArray, List.set_cons_zero, List.set_cons_succ])
                        refine wpAnyH_listed (l' := #[true, true, true, true, true, true, true, true, true, true, true, false, false, false, true, true, true, true, true, false, false, false, true, true, true, true, true, true, true, true, true, true, false, false, false]) (by kernel_rfl) ?_
                        clear hS
                        (try clear hwx)
                        revert J31; revert J18; revert J10; revert B
                        generalize (wr.alloc (.cells #[Value.int .i64 j.fr, Value.int .i64 j.ct, Value.int .i64 j.wd] 3)) = wn
                        generalize wr.heap.size = b10
                        revert b31; revert b18; revert b10; revert wn
                        exact keyq_2_10_18_31.out
                      exact AllReadyH.nil
                  case hkq_10_18_31 =>
                    intro wr b10 b18 b31 B J10 J18 J31
                    refine wpAnyH_ready (rs := [2]) (by kernel_rfl) (by simp) ?_
                    refine AllReadyH.cons (o := { dst := some 8, op := Op.call { callee := Callee.value (Operand.func 47), args := #[Operand.tmp 7], argTypes := #[22] }, type := 9, pos := "l8_desk.go:19", after := #[{ on := 1, ground := Ground.data }], guard := none }) rfl (fun K hK => ?_) ?_
                    · skip
                      (try go_simp)
                      go_at_call 47
                      refine (specFP_any _ j.poly _ (HP.out.bel B)).mono ?_
                      rintro e wn ⟨rfl, b⟩
                      replace J10 := Lib.hid (J10.out.bel b)
                      replace J18 := Lib.hid (J18.out.bel b)
                      replace J31 := Lib.hid (J31.out.bel b)
                      replace B := bel_trans B b
                      clear b
                      (try dsimp only)
                      refine hK.out _ _ (by first | exact ⟨(B.cell (by exact hl2)).trans a0, (B.cell (by exact hl2)).trans a1, (B.cell (by exact hl2)).trans a2, (B.cell (by exact hl2)).trans a3, (B.cell (by exact hl2)).trans a4, (B.cell (by exact hl2)).trans a5, (B.cell (by exact hl2)).trans a6, (B.cell (by exact hl2)).trans a7, (B.cell (by exact hl2)).trans a8⟩ | (dsimp only; exact ⟨(B.cell (by exact hl2)).trans a0, (B.cell (by exact hl2)).trans a1, (B.cell (by exact hl2)).trans a2, (B.cell (by exact hl2)).trans a3, (B.cell (by exact hl2)).trans a4, (B.cell (by exact hl2)).trans a5, (B.cell (by exact hl2)).trans a6, (B.cell (by exact hl2)).trans a7, (B.cell (by exact hl2)).trans a8⟩)) (fun hS => ?_)
                      clear hK K
                      (try simp only [Act.put, List.setIfInBounds_toArray, List.set_cons_zero, List.set_cons_succ])
                      refine wpAnyH_take (i := 3) (oi := { dst := some 9, op := Op.binOp BinOp.add 9 (Operand.tmp 8) (Operand.const (Value.string { data := #[59] })) 9, type := 9, pos := "l8_desk.go:19", after := #[{ on := 2, ground := Ground.data }], guard := none }) (v := ?vq_35) rfl (by kernel_rfl) (by kernel_rfl) (by kernel_rfl) (fun _ _ _ h => h) (Or.inl ⟨by rfl, ?hyq_35⟩) hS ?restq_35
                      case hyq_35 => (intro w' hSw; (try dsimp only at hSw); go_simp; all_goals with_reducible rfl)
                      (try simp only [Act.put, List.setIfInBounds_toArray, List.set_cons_zero, List.set_cons_succ])
                      refine wpAnyH_listed (l' := #[true, true, true, true, true, true, true, true, true, true, true, false, false, false, true, true, true, true, true, false, false, false, true, true, true, true, true, true, true, true, true, true, false, false, false]) (by kernel_rfl) ?_
                      clear hS
                      (try clear hwx)
                      revert J31; revert J18; revert J10; revert B
                      revert b31; revert b18; revert b10; revert wn
                      exact keyq_2_10_18_31.out
                    exact AllReadyH.nil
                case hkq_2_10_11_18 =>
                  intro wr b10 b18 B J18
                  refine wpAnyH_ready (rs := [19, 31]) (by kernel_rfl) (by simp) ?_
                  refine AllReadyH.cons (o := { dst := some 25, op := Op.call { callee := Callee.value (Operand.func 48), args := #[Operand.tmp 24], argTypes := #[22] }, type := 9, pos := "l8_desk.go:19", after := #[{ on := 18, ground := Ground.data }, { on := 11, ground := Ground.chain }], guard := none }) rfl (fun K hK => ?_) ?_
                  · skip
                    (try go_simp)
                    go_at_call 48
                    refine (show Calls _ _ _ _ (fun e w' => e = .returned (.string (gr2 j)) ∧ Below wr.heap.size wr w') from l2Text_any _ [j.dg, j.wy] _ J18.out (by simp)).mono ?_
                    rintro e wn ⟨rfl, b⟩
                    clear J18
                    replace B := bel_trans B b
                    clear b
                    (try dsimp only)
                    refine hK.out _ _ (by first | exact ⟨(B.cell (by exact hl2)).trans a0, (B.cell (by exact hl2)).trans a1, (B.cell (by exact hl2)).trans a2, (B.cell (by exact hl2)).trans a3, (B.cell (by exact hl2)).trans a4, (B.cell (by exact hl2)).trans a5, (B.cell (by exact hl2)).trans a6, (B.cell (by exact hl2)).trans a7, (B.cell (by exact hl2)).trans a8⟩ | (dsimp only; exact ⟨(B.cell (by exact hl2)).trans a0, (B.cell (by exact hl2)).trans a1, (B.cell (by exact hl2)).trans a2, (B.cell (by exact hl2)).trans a3, (B.cell (by exact hl2)).trans a4, (B.cell (by exact hl2)).trans a5, (B.cell (by exact hl2)).trans a6, (B.cell (by exact hl2)).trans a7, (B.cell (by exact hl2)).trans a8⟩)) (fun hS => ?_)
                    clear hK K
                    (try simp only [Act.put, List.setIfInBounds_toArray, List.set_cons_zero, List.set_cons_succ])
                    refine wpAnyH_take (i := 20) (oi := { dst := some 26, op := Op.binOp BinOp.add 9 (Operand.tmp 19) (Operand.tmp 25) 9, type := 9, pos := "l8_desk.go:19", after := #[{ on := 13, ground := Ground.data }, { on := 19, ground := Ground.data }], guard := none }) (v := ?vq_36) rfl (by kernel_rfl) (by kernel_rfl) (by kernel_rfl) (fun _ _ _ h => h) (Or.inl ⟨by rfl, ?hyq_36⟩) hS ?restq_36
                    case hyq_36 => (intro w' hSw; (try dsimp only at hSw); go_simp; all_goals with_reducible rfl)
                    (try simp only [Act.put, List.setIfInBounds_toArray, List.set_cons_zero, List.set_cons_succ])
                    refine wpAnyH_take (i := 21) (oi := { dst := some 27, op := Op.binOp BinOp.add 9 (Operand.tmp 26) (Operand.const (Value.string { data := #[59] })) 9, type := 9, pos := "l8_desk.go:19", after := #[{ on := 20, ground := Ground.data }], guard := none }) (v := ?vq_37) rfl (by kernel_rfl) (by kernel_rfl) (by kernel_rfl) (fun _ _ _ h => h) (Or.inl ⟨by rfl, ?hyq_37⟩) hS ?restq_37
                    case hyq_37 => (intro w' hSw; (try dsimp only at hSw); go_simp; all_goals with_reducible rfl)
                    (try simp only [Act.put, List.setIfInBounds_toArray, List.set_cons_zero, List.set_cons_succ])
                    refine wpAnyH_listed (l' := #[true, true, true, true, true, true, true, true, true, true, true, true, true, true, true, true, true, true, true, true, true, true, true, true, true, true, true, true, true, true, true, false, false, false, false]) (by kernel_rfl) ?_
                    clear hS
                    (try clear hwx)
                    revert B
                    revert b18; revert b10; revert wn
                    exact keyq_2_10_11_18_19.out
                  refine AllReadyH.cons (o := { dst := some 37, op := Op.buildSlice 22 3 #[(0, Operand.tmp 30), (1, Operand.tmp 33), (2, Operand.tmp 36)], type := 22, pos := "l8_desk.go:19", after := #[{ on := 24, ground := Ground.data }, { on := 27, ground := Ground.data }, { on := 30, ground := Ground.data }], guard := none }) rfl (fun K hK => ?_) ?_
                  · skip
                    go_simp
                    replace J18 := Lib.hid (J18.out.bel (bel_alloc wr ((.cells #[Value.int .i64 j.rw, Value.int .i64 j.ac, Value.int .i64 j.wi] 3))))
                    replace B : Below w2.heap.size w2 (wr.alloc (.cells #[Value.int .i64 j.rw, Value.int .i64 j.ac, Value.int .i64 j.wi] 3)) := bel_trans B (bel_alloc wr _)
                    have J31 : Hid (Ints (wr.alloc (.cells #[Value.int .i64 j.rw, Value.int .i64 j.ac, Value.int .i64 j.wi] 3)) (Value.slice (some ⟨wr.heap.size, 0, none⟩) 3 3) [j.rw, j.ac, j.wi]) := Lib.hid (lit_ints wr [j.rw, j.ac, j.wi] (by simp) HWF.out.2.2)
                    refine hK.out _ _ (by first | exact ⟨(B.cell (by exact hl2)).trans a0, (B.cell (by exact hl2)).trans a1, (B.cell (by exact hl2)).trans a2, (B.cell (by exact hl2)).trans a3, (B.cell (by exact hl2)).trans a4, (B.cell (by exact hl2)).trans a5, (B.cell (by exact hl2)).trans a6, (B.cell (by exact hl2)).trans a7, (B.cell (by exact hl2)).trans a8⟩ | (dsimp only; exact ⟨(B.cell (by exact hl2)).trans a0, (B.cell (by exact hl2)).trans a1, (B.cell (by exact hl2)).trans a2, (B.cell (by exact hl2)).trans a3, (B.cell (by exact hl2)).trans a4, (B.cell (by exact hl2)).trans a5, (B.cell (by exact hl2)).trans a6, (B.cell (by exact hl2)).trans a7, (B.cell (by exact hl2)).trans a8⟩)) (fun hS => ?_)
                    clear hK K
                    (try simp only [Act.put, List.setIfInBounds_toArray, List.set_cons_zero, List.set_cons_succ])
                    refine wpAnyH_listed (l' := #[true, true, true, true, true, true, true, true, true, true, true, true, true, true, true, true, true, true, true, false, false, false, true, true, true, true, true, true, true, true, true, true, false, false, false]) (by kernel_rfl) ?_
                    clear hS
                    (try clear hwx)
                    revert J31; revert J18; revert B
                    generalize (wr.alloc (.cells #[Value.int .i64 j.rw, Value.int .i64 j.ac, Value.int .i64 j.wi] 3)) = wn
                    generalize wr.heap.size = b31
                    revert b31; revert b18; revert b10; revert wn
                    exact keyq_2_10_11_18_31.out
                  exact AllReadyH.nil
              case hkq_2_10_11_31 =>
                intro wr b10 b31 B J31
                refine wpAnyH_ready (rs := [18]) (by kernel_rfl) (by simp) ?_
                refine AllReadyH.cons (o := { dst := some 24, op := Op.buildSlice 22 2 #[(0, Operand.tmp 21), (1, Operand.tmp 23)], type := 22, pos := "l8_desk.go:19", after := #[{ on := 15, ground := Ground.data }, { on := 17, ground := Ground.data }], guard := none }) rfl (fun K hK => ?_) ?_
                · skip
                  go_simp
                  replace J31 := Lib.hid (J31.out.bel (bel_alloc wr ((.cells #[Value.int .i64 j.dg, Value.int .i64 j.wy] 3))))
                  replace B : Below w2.heap.size w2 (wr.alloc (.cells #[Value.int .i64 j.dg, Value.int .i64 j.wy] 3)) := bel_trans B (bel_alloc wr _)
                  have J18 : Hid (Ints (wr.alloc (.cells #[Value.int .i64 j.dg, Value.int .i64 j.wy] 3)) (Value.slice (some ⟨wr.heap.size, 0, none⟩) 2 2) [j.dg, j.wy]) := Lib.hid (lit_ints wr [j.dg, j.wy] (by simp) HWF.out.2.1)
                  refine hK.out _ _ (by first | exact ⟨(B.cell (by exact hl2)).trans a0, (B.cell (by exact hl2)).trans a1, (B.cell (by exact hl2)).trans a2, (B.cell (by exact hl2)).trans a3, (B.cell (by exact hl2)).trans a4, (B.cell (by exact hl2)).trans a5, (B.cell (by exact hl2)).trans a6, (B.cell (by exact hl2)).trans a7, (B.cell (by exact hl2)).trans a8⟩ | (dsimp only; exact ⟨(B.cell (by exact hl2)).trans a0, (B.cell (by exact hl2)).trans a1, (B.cell (by exact hl2)).trans a2, (B.cell (by exact hl2)).trans a3, (B.cell (by exact hl2)).trans a4, (B.cell (by exact hl2)).trans a5, (B.cell (by exact hl2)).trans a6, (B.cell (by exact hl2)).trans a7, (B.cell (by exact hl2)).trans a8⟩)) (fun hS => ?_)
                  clear hK K
                  (try simp only [Act.put, List.setIfInBounds_toArray, List.set_cons_zero, List.set_cons_succ])
                  refine wpAnyH_listed (l' := #[true, true, true, true, true, true, true, true, true, true, true, true, true, true, true, true, true, true, true, false, false, false, true, true, true, true, true, true, true, true, true, true, false, false, false]) (by kernel_rfl) ?_
                  clear hS
                  (try clear hwx)
                  revert J31; revert J18; revert B
                  generalize (wr.alloc (.cells #[Value.int .i64 j.dg, Value.int .i64 j.wy] 3)) = wn
                  generalize wr.heap.size = b18
                  revert b31; revert b18; revert b10; revert wn
                  exact keyq_2_10_11_18_31.out
                exact AllReadyH.nil
            case hkq_2_10_18_31 =>
              intro wr b10 b18 b31 B J10 J18 J31
              refine wpAnyH_ready (rs := [11]) (by kernel_rfl) (by simp) ?_
              refine AllReadyH.cons (o := { dst := some 17, op := Op.call { callee := Callee.value (Operand.func 48), args := #[Operand.tmp 16], argTypes := #[22] }, type := 9, pos := "l8_desk.go:19", after := #[{ on := 10, ground := Ground.data }, { on := 2, ground := Ground.chain }], guard := none }) rfl (fun K hK => ?_) ?_
              · skip
                (try go_simp)
                go_at_call 48
                refine (show Calls _ _ _ _ (fun e w' => e = .returned (.string (gr1 j)) ∧ Below wr.heap.size wr w') from l2Text_any _ [j.fr, j.ct, j.wd] _ J10.out (by simp)).mono ?_
                rintro e wn ⟨rfl, b⟩
                clear J10
                replace J18 := Lib.hid (J18.out.bel b)
                replace J31 := Lib.hid (J31.out.bel b)
                replace B := bel_trans B b
                clear b
                (try dsimp only)
                refine hK.out _ _ (by first | exact ⟨(B.cell (by exact hl2)).trans a0, (B.cell (by exact hl2)).trans a1, (B.cell (by exact hl2)).trans a2, (B.cell (by exact hl2)).trans a3, (B.cell (by exact hl2)).trans a4, (B.cell (by exact hl2)).trans a5, (B.cell (by exact hl2)).trans a6, (B.cell (by exact hl2)).trans a7, (B.cell (by exact hl2)).trans a8⟩ | (dsimp only; exact ⟨(B.cell (by exact hl2)).trans a0, (B.cell (by exact hl2)).trans a1, (B.cell (by exact hl2)).trans a2, (B.cell (by exact hl2)).trans a3, (B.cell (by exact hl2)).trans a4, (B.cell (by exact hl2)).trans a5, (B.cell (by exact hl2)).trans a6, (B.cell (by exact hl2)).trans a7, (B.cell (by exact hl2)).trans a8⟩)) (fun hS => ?_)
                clear hK K
                (try simp only [Act.put, List.setIfInBounds_toArray, List.set_cons_zero, List.set_cons_succ])
                refine wpAnyH_take (i := 12) (oi := { dst := some 18, op := Op.binOp BinOp.add 9 (Operand.tmp 9) (Operand.tmp 17) 9, type := 9, pos := "l8_desk.go:19", after := #[{ on := 3, ground := Ground.data }, { on := 11, ground := Ground.data }], guard := none }) (v := ?vq_38) rfl (by kernel_rfl) (by kernel_rfl) (by kernel_rfl) (fun _ _ _ h => h) (Or.inl ⟨by rfl, ?hyq_38⟩) hS ?restq_38
                case hyq_38 => (intro w' hSw; (try dsimp only at hSw); go_simp; all_goals with_reducible rfl)
                (try simp only [Act.put, List.setIfInBounds_toArray, List.set_cons_zero, List.set_cons_succ])
                refine wpAnyH_take (i := 13) (oi := { dst := some 19, op := Op.binOp BinOp.add 9 (Operand.tmp 18) (Operand.const (Value.string { data := #[59] })) 9, type := 9, pos := "l8_desk.go:19", after := #[{ on := 12, ground := Ground.data }], guard := none }) (v := ?vq_39) rfl (by kernel_rfl) (by kernel_rfl) (by kernel_rfl) (fun _ _ _ h => h) (Or.inl ⟨by rfl, ?hyq_39⟩) hS ?restq_39
                case hyq_39 => (intro w' hSw; (try dsimp only at hSw); go_simp; all_goals with_reducible rfl)
                (try simp only [Act.put, List.setIfInBounds_toArray, List.set_cons_zero, List.set_cons_succ])
                refine wpAnyH_listed (l' := #[true, true, true, true, true, true, true, true, true, true, true, true, true, true, true, true, true, true, true, false, false, false, true, true, true, true, true, true, true, true, true, true, false, false, false]) (by kernel_rfl) ?_
                clear hS
                (try clear hwx)
                revert J31; revert J18; revert B
                revert b31; revert b18; revert b10; revert wn
                exact keyq_2_10_11_18_31.out
              exact AllReadyH.nil
          case hkq_2_10_11_18_19 =>
            intro wr b10 b18 B
            refine wpAnyH_ready (rs := [31]) (by kernel_rfl) (by simp) ?_
            refine AllReadyH.cons (o := { dst := some 37, op := Op.buildSlice 22 3 #[(0, Operand.tmp 30), (1, Operand.tmp 33), (2, Operand.tmp 36)], type := 22, pos := "l8_desk.go:19", after := #[{ on := 24, ground := Ground.data }, { on := 27, ground := Ground.data }, { on := 30, ground := Ground.data }], guard := none }) rfl (fun K hK => ?_) ?_
            · skip
              go_simp
              replace B : Below w2.heap.size w2 (wr.alloc (.cells #[Value.int .i64 j.rw, Value.int .i64 j.ac, Value.int .i64 j.wi] 3)) := bel_trans B (bel_alloc wr _)
              have J31 : Hid (Ints (wr.alloc (.cells #[Value.int .i64 j.rw, Value.int .i64 j.ac, Value.int .i64 j.wi] 3)) (Value.slice (some ⟨wr.heap.size, 0, none⟩) 3 3) [j.rw, j.ac, j.wi]) := Lib.hid (lit_ints wr [j.rw, j.ac, j.wi] (by simp) HWF.out.2.2)
              refine hK.out _ _ (by first | exact ⟨(B.cell (by exact hl2)).trans a0, (B.cell (by exact hl2)).trans a1, (B.cell (by exact hl2)).trans a2, (B.cell (by exact hl2)).trans a3, (B.cell (by exact hl2)).trans a4, (B.cell (by exact hl2)).trans a5, (B.cell (by exact hl2)).trans a6, (B.cell (by exact hl2)).trans a7, (B.cell (by exact hl2)).trans a8⟩ | (dsimp only; exact ⟨(B.cell (by exact hl2)).trans a0, (B.cell (by exact hl2)).trans a1, (B.cell (by exact hl2)).trans a2, (B.cell (by exact hl2)).trans a3, (B.cell (by exact hl2)).trans a4, (B.cell (by exact hl2)).trans a5, (B.cell (by exact hl2)).trans a6, (B.cell (by exact hl2)).trans a7, (B.cell (by exact hl2)).trans a8⟩)) (fun hS => ?_)
              clear hK K
              (try simp only [Act.put, List.setIfInBounds_toArray, List.set_cons_zero, List.set_cons_succ])
              refine wpAnyH_listed (l' := #[true, true, true, true, true, true, true, true, true, true, true, true, true, true, true, true, true, true, true, true, true, true, true, true, true, true, true, true, true, true, true, true, false, false, false]) (by kernel_rfl) ?_
              clear hS
              (try clear hwx)
              revert J31; revert B
              generalize (wr.alloc (.cells #[Value.int .i64 j.rw, Value.int .i64 j.ac, Value.int .i64 j.wi] 3)) = wn
              generalize wr.heap.size = b31
              revert b31; revert b18; revert b10; revert wn
              exact keyq_2_10_11_18_19_31.out
            exact AllReadyH.nil
        case hkq_2_10_11_18_31 =>
          intro wr b10 b18 b31 B J18 J31
          refine wpAnyH_ready (rs := [19]) (by kernel_rfl) (by simp) ?_
          refine AllReadyH.cons (o := { dst := some 25, op := Op.call { callee := Callee.value (Operand.func 48), args := #[Operand.tmp 24], argTypes := #[22] }, type := 9, pos := "l8_desk.go:19", after := #[{ on := 18, ground := Ground.data }, { on := 11, ground := Ground.chain }], guard := none }) rfl (fun K hK => ?_) ?_
          · skip
            (try go_simp)
            go_at_call 48
            refine (show Calls _ _ _ _ (fun e w' => e = .returned (.string (gr2 j)) ∧ Below wr.heap.size wr w') from l2Text_any _ [j.dg, j.wy] _ J18.out (by simp)).mono ?_
            rintro e wn ⟨rfl, b⟩
            clear J18
            replace J31 := Lib.hid (J31.out.bel b)
            replace B := bel_trans B b
            clear b
            (try dsimp only)
            refine hK.out _ _ (by first | exact ⟨(B.cell (by exact hl2)).trans a0, (B.cell (by exact hl2)).trans a1, (B.cell (by exact hl2)).trans a2, (B.cell (by exact hl2)).trans a3, (B.cell (by exact hl2)).trans a4, (B.cell (by exact hl2)).trans a5, (B.cell (by exact hl2)).trans a6, (B.cell (by exact hl2)).trans a7, (B.cell (by exact hl2)).trans a8⟩ | (dsimp only; exact ⟨(B.cell (by exact hl2)).trans a0, (B.cell (by exact hl2)).trans a1, (B.cell (by exact hl2)).trans a2, (B.cell (by exact hl2)).trans a3, (B.cell (by exact hl2)).trans a4, (B.cell (by exact hl2)).trans a5, (B.cell (by exact hl2)).trans a6, (B.cell (by exact hl2)).trans a7, (B.cell (by exact hl2)).trans a8⟩)) (fun hS => ?_)
            clear hK K
            (try simp only [Act.put, List.setIfInBounds_toArray, List.set_cons_zero, List.set_cons_succ])
            refine wpAnyH_take (i := 20) (oi := { dst := some 26, op := Op.binOp BinOp.add 9 (Operand.tmp 19) (Operand.tmp 25) 9, type := 9, pos := "l8_desk.go:19", after := #[{ on := 13, ground := Ground.data }, { on := 19, ground := Ground.data }], guard := none }) (v := ?vq_40) rfl (by kernel_rfl) (by kernel_rfl) (by kernel_rfl) (fun _ _ _ h => h) (Or.inl ⟨by rfl, ?hyq_40⟩) hS ?restq_40
            case hyq_40 => (intro w' hSw; (try dsimp only at hSw); go_simp; all_goals with_reducible rfl)
            (try simp only [Act.put, List.setIfInBounds_toArray, List.set_cons_zero, List.set_cons_succ])
            refine wpAnyH_take (i := 21) (oi := { dst := some 27, op := Op.binOp BinOp.add 9 (Operand.tmp 26) (Operand.const (Value.string { data := #[59] })) 9, type := 9, pos := "l8_desk.go:19", after := #[{ on := 20, ground := Ground.data }], guard := none }) (v := ?vq_41) rfl (by kernel_rfl) (by kernel_rfl) (by kernel_rfl) (fun _ _ _ h => h) (Or.inl ⟨by rfl, ?hyq_41⟩) hS ?restq_41
            case hyq_41 => (intro w' hSw; (try dsimp only at hSw); go_simp; all_goals with_reducible rfl)
            (try simp only [Act.put, List.setIfInBounds_toArray, List.set_cons_zero, List.set_cons_succ])
            refine wpAnyH_listed (l' := #[true, true, true, true, true, true, true, true, true, true, true, true, true, true, true, true, true, true, true, true, true, true, true, true, true, true, true, true, true, true, true, true, false, false, false]) (by kernel_rfl) ?_
            clear hS
            (try clear hwx)
            revert J31; revert B
            revert b31; revert b18; revert b10; revert wn
            exact keyq_2_10_11_18_19_31.out
          exact AllReadyH.nil
      case hkq_2_10_11_18_19_31 =>
        intro wr b10 b18 b31 B J31
        refine wpAnyH_ready (rs := [32]) (by kernel_rfl) (by simp) ?_
        refine AllReadyH.cons (o := { dst := some 38, op := Op.call { callee := Callee.value (Operand.func 48), args := #[Operand.tmp 37], argTypes := #[22] }, type := 9, pos := "l8_desk.go:19", after := #[{ on := 31, ground := Ground.data }, { on := 19, ground := Ground.chain }], guard := none }) rfl (fun K hK => ?_) ?_
        · skip
          (try go_simp)
          go_at_call 48
          refine (show Calls _ _ _ _ (fun e w' => e = .returned (.string (gr3 j)) ∧ Below wr.heap.size wr w') from l2Text_any _ [j.rw, j.ac, j.wi] _ J31.out (by simp)).mono ?_
          rintro e wn ⟨rfl, b⟩
          clear J31
          replace B := bel_trans B b
          clear b
          (try dsimp only)
          refine hK.out _ _ (by first | exact ⟨(B.cell (by exact hl2)).trans a0, (B.cell (by exact hl2)).trans a1, (B.cell (by exact hl2)).trans a2, (B.cell (by exact hl2)).trans a3, (B.cell (by exact hl2)).trans a4, (B.cell (by exact hl2)).trans a5, (B.cell (by exact hl2)).trans a6, (B.cell (by exact hl2)).trans a7, (B.cell (by exact hl2)).trans a8⟩ | (dsimp only; exact ⟨(B.cell (by exact hl2)).trans a0, (B.cell (by exact hl2)).trans a1, (B.cell (by exact hl2)).trans a2, (B.cell (by exact hl2)).trans a3, (B.cell (by exact hl2)).trans a4, (B.cell (by exact hl2)).trans a5, (B.cell (by exact hl2)).trans a6, (B.cell (by exact hl2)).trans a7, (B.cell (by exact hl2)).trans a8⟩)) (fun hS => ?_)
          clear hK K
          (try simp only [Act.put, List.setIfInBounds_toArray, List.set_cons_zero, List.set_cons_succ])
          refine wpAnyH_take (i := 33) (oi := { dst := some 39, op := Op.binOp BinOp.add 9 (Operand.tmp 27) (Operand.tmp 38) 9, type := 9, pos := "l8_desk.go:19", after := #[{ on := 21, ground := Ground.data }, { on := 32, ground := Ground.data }], guard := none }) (v := ?vq_42) rfl (by kernel_rfl) (by kernel_rfl) (by kernel_rfl) (fun _ _ _ h => h) (Or.inl ⟨by rfl, ?hyq_42⟩) hS ?restq_42
          case hyq_42 => (intro w' hSw; (try dsimp only at hSw); go_simp; all_goals with_reducible rfl)
          (try simp only [Act.put, List.setIfInBounds_toArray, List.set_cons_zero, List.set_cons_succ])
          refine wpAnyH_take (i := 34) (oi := { dst := some 2, op := Op.assign (Operand.tmp 39), type := 9, pos := "l8_desk.go:19", after := #[{ on := 33, ground := Ground.data }, { on := 32, ground := Ground.chain }, { on := 0, ground := Ground.phase }, { on := 1, ground := Ground.phase }, { on := 2, ground := Ground.phase }, { on := 3, ground := Ground.phase }, { on := 4, ground := Ground.phase }, { on := 5, ground := Ground.phase }, { on := 6, ground := Ground.phase }, { on := 7, ground := Ground.phase }, { on := 8, ground := Ground.phase }, { on := 9, ground := Ground.phase }, { on := 10, ground := Ground.phase }, { on := 11, ground := Ground.phase }, { on := 12, ground := Ground.phase }, { on := 13, ground := Ground.phase }, { on := 14, ground := Ground.phase }, { on := 15, ground := Ground.phase }, { on := 16, ground := Ground.phase }, { on := 17, ground := Ground.phase }, { on := 18, ground := Ground.phase }, { on := 19, ground := Ground.phase }, { on := 20, ground := Ground.phase }, { on := 21, ground := Ground.phase }, { on := 22, ground := Ground.phase }, { on := 23, ground := Ground.phase }, { on := 24, ground := Ground.phase }, { on := 25, ground := Ground.phase }, { on := 26, ground := Ground.phase }, { on := 27, ground := Ground.phase }, { on := 28, ground := Ground.phase }, { on := 29, ground := Ground.phase }, { on := 30, ground := Ground.phase }, { on := 31, ground := Ground.phase }, { on := 32, ground := Ground.phase }, { on := 33, ground := Ground.phase }], guard := none }) (v := ?vq_43) rfl (by kernel_rfl) (by kernel_rfl) (by kernel_rfl) (fun _ _ _ h => h) (Or.inl ⟨by rfl, ?hyq_43⟩) hS ?restq_43
          case hyq_43 => (intro w' hSw; (try dsimp only at hSw); go_simp; all_goals with_reducible rfl)
          (try simp only [Act.put, List.setIfInBounds_toArray, List.set_cons_zero, List.set_cons_succ])
          refine wpAnyH_listed (l' := #[true, true, true, true, true, true, true, true, true, true, true, true, true, true, true, true, true, true, true, true, true, true, true, true, true, true, true, true, true, true, true, true, true, true, true]) (by kernel_rfl) ?_
          clear hS
          (try clear hwx)
          revert B
          revert b31; revert b18; revert b10; revert wn
          exact keyq_2_10_11_18_19_31_32.out
        exact AllReadyH.nil
    intro w5 b10 b18 b31 B
    refine wpAnyH_done (by kernel_rfl) ?_ _
    have HB5 := Lib.hid (bel_trans HB.out B)
    clear a0 a1 a2 a3 a4 a5 a6 a7 a8
    go_wp2
    go_ret
    exact ⟨by rw [HN.out]; rfl, HB5.out⟩

end Go.Proofs.YtdmadaebeooaaaaGreatDoor
