/-
  The contract of impl.FormatJob (made by gen_fmt.py).
-/
import Derived.Test.YtpniljcnknknoaaGreatDoorFmt
namespace Go.Proofs.YtpniljcnknknoaaGreatDoor
open Go.RowKit
set_option linter.unusedVariables false
set_option linter.unusedSimpArgs false
set_option maxRecDepth 100000
attribute [local go_sem ↓] Go.wp_at_zero Go.wp_at_succ

set_option maxHeartbeats 8000000 in
theorem implFmt_any (v : Value) (j : JobD) (w : World) (hv : Ints w v j.poly) (hj : j.In) (ht : Tab w) :
    Calls Tryz.prog 13 #[jobV v j] w fun e w' => e = .returned (.string (fmtJ j)) ∧ Below w.heap.size w w' := by
  have HV := Lib.hid hv
  have HJ := Lib.hid hj
  have HT := Lib.hid ht
  obtain ⟨A, c, rfl, -, hc, -⟩ := hv.open_
  clear hv ht
  have B0 : Below w.heap.size w (w.alloc (.cells (jobC (.slice A j.poly.length c) j).toArray 27)) := bel_alloc w _
  have K1 := Blk.new w 27 (jobC (.slice A j.poly.length c) j)
  unfold jobV
  go_enter Tryz.func13, Tryz.ntmps13
  go_wp2_with fail
  change Calls _ _ #[jobV (.slice A j.poly.length c) j] (w.alloc (.cells (jobC (.slice A j.poly.length c) j).toArray 27)) _
  generalize hW : w.alloc (.cells (jobC (.slice A j.poly.length c) j).toArray 27) = W at K1 B0 ⊢
  clear hW
  refine (implJob_any _ j _ (HV.out.bel B0) hj).mono ?_
  rintro e w2 ⟨rfl, b1⟩
  have HB := Lib.hid (bel_trans B0 b1)
  have K2 := K1.below b1 K1.lt
  clear b1 B0 K1 hj
  cases hq : jobOk j
  · have HN := Lib.hid (fmt_no hq)
    go_wp2
    go_ret
    exact ⟨by rw [HN.out]; rfl, HB.out⟩
  · have HN := Lib.hid (fmt_yes hq)
    have HP := Lib.hid (HV.out.bel HB.out)
    have HT2 := Lib.hid (HT.out.bel HB.out)
    have HWF := Lib.hid (job_wf HJ.out)
    obtain ⟨z0, z1, z2, z3⟩ := fmt_sizes HV.out.2 HJ.out hq
    have hsemi : semi.size = 1 := rfl
    obtain ⟨a0, a1, a2, a3, a4, a5, a6, a7, a8⟩ := K2.job
    have hl2 := K2.lt
    clear hq HV HT
    go_wp2_with fail
    refine cut_by (P := ?Pq_2_9_10_15_16_26_27_28) ?hkq_2_9_10_15_16_26_27_28 (fun keyq_2_9_10_15_16_26_27_28 => ?mainq_2_9_10_15_16_26_27_28)
    case mainq_2_9_10_15_16_26_27_28 =>
      replace keyq_2_9_10_15_16_26_27_28 := Lib.hid keyq_2_9_10_15_16_26_27_28
      refine cut_by (P := ?Pq_2_9_10_15_16_26_27) ?hkq_2_9_10_15_16_26_27 (fun keyq_2_9_10_15_16_26_27 => ?mainq_2_9_10_15_16_26_27)
      case mainq_2_9_10_15_16_26_27 =>
        replace keyq_2_9_10_15_16_26_27 := Lib.hid keyq_2_9_10_15_16_26_27
        refine cut_by (P := ?Pq_2_9_10_15_16_26) ?hkq_2_9_10_15_16_26 (fun keyq_2_9_10_15_16_26 => ?mainq_2_9_10_15_16_26)
        case mainq_2_9_10_15_16_26 =>
          replace keyq_2_9_10_15_16_26 := Lib.hid keyq_2_9_10_15_16_26
          refine cut_by (P := ?Pq_2_9_10_15_26) ?hkq_2_9_10_15_26 (fun keyq_2_9_10_15_26 => ?mainq_2_9_10_15_26)
          case mainq_2_9_10_15_26 =>
            replace keyq_2_9_10_15_26 := Lib.hid keyq_2_9_10_15_26
            refine cut_by (P := ?Pq_2_9_10_15_16) ?hkq_2_9_10_15_16 (fun keyq_2_9_10_15_16 => ?mainq_2_9_10_15_16)
            case mainq_2_9_10_15_16 =>
              replace keyq_2_9_10_15_16 := Lib.hid keyq_2_9_10_15_16
              refine cut_by (P := ?Pq_2_9_15_26) ?hkq_2_9_15_26 (fun keyq_2_9_15_26 => ?mainq_2_9_15_26)
              case mainq_2_9_15_26 =>
                replace keyq_2_9_15_26 := Lib.hid keyq_2_9_15_26
                refine cut_by (P := ?Pq_2_9_10_26) ?hkq_2_9_10_26 (fun keyq_2_9_10_26 => ?mainq_2_9_10_26)
                case mainq_2_9_10_26 =>
                  replace keyq_2_9_10_26 := Lib.hid keyq_2_9_10_26
                  refine cut_by (P := ?Pq_2_9_10_15) ?hkq_2_9_10_15 (fun keyq_2_9_10_15 => ?mainq_2_9_10_15)
                  case mainq_2_9_10_15 =>
                    replace keyq_2_9_10_15 := Lib.hid keyq_2_9_10_15
                    refine cut_by (P := ?Pq_9_15_26) ?hkq_9_15_26 (fun keyq_9_15_26 => ?mainq_9_15_26)
                    case mainq_9_15_26 =>
                      replace keyq_9_15_26 := Lib.hid keyq_9_15_26
                      refine cut_by (P := ?Pq_2_15_26) ?hkq_2_15_26 (fun keyq_2_15_26 => ?mainq_2_15_26)
                      case mainq_2_15_26 =>
                        replace keyq_2_15_26 := Lib.hid keyq_2_15_26
                        refine cut_by (P := ?Pq_2_9_26) ?hkq_2_9_26 (fun keyq_2_9_26 => ?mainq_2_9_26)
                        case mainq_2_9_26 =>
                          replace keyq_2_9_26 := Lib.hid keyq_2_9_26
                          refine cut_by (P := ?Pq_2_9_15) ?hkq_2_9_15 (fun keyq_2_9_15 => ?mainq_2_9_15)
                          case mainq_2_9_15 =>
                            replace keyq_2_9_15 := Lib.hid keyq_2_9_15
                            refine cut_by (P := ?Pq_2_9_10) ?hkq_2_9_10 (fun keyq_2_9_10 => ?mainq_2_9_10)
                            case mainq_2_9_10 =>
                              replace keyq_2_9_10 := Lib.hid keyq_2_9_10
                              refine cut_by (P := ?Pq_15_26) ?hkq_15_26 (fun keyq_15_26 => ?mainq_15_26)
                              case mainq_15_26 =>
                                replace keyq_15_26 := Lib.hid keyq_15_26
                                refine cut_by (P := ?Pq_9_26) ?hkq_9_26 (fun keyq_9_26 => ?mainq_9_26)
                                case mainq_9_26 =>
                                  replace keyq_9_26 := Lib.hid keyq_9_26
                                  refine cut_by (P := ?Pq_9_15) ?hkq_9_15 (fun keyq_9_15 => ?mainq_9_15)
                                  case mainq_9_15 =>
                                    replace keyq_9_15 := Lib.hid keyq_9_15
                                    refine cut_by (P := ?Pq_2_26) ?hkq_2_26 (fun keyq_2_26 => ?mainq_2_26)
                                    case mainq_2_26 =>
                                      replace keyq_2_26 := Lib.hid keyq_2_26
                                      refine cut_by (P := ?Pq_2_15) ?hkq_2_15 (fun keyq_2_15 => ?mainq_2_15)
                                      case mainq_2_15 =>
                                        replace keyq_2_15 := Lib.hid keyq_2_15
                                        refine cut_by (P := ?Pq_2_9) ?hkq_2_9 (fun keyq_2_9 => ?mainq_2_9)
                                        case mainq_2_9 =>
                                          replace keyq_2_9 := Lib.hid keyq_2_9
                                          refine cut_by (P := ?Pq_26) ?hkq_26 (fun keyq_26 => ?mainq_26)
                                          case mainq_26 =>
                                            replace keyq_26 := Lib.hid keyq_26
                                            refine cut_by (P := ?Pq_15) ?hkq_15 (fun keyq_15 => ?mainq_15)
                                            case mainq_15 =>
                                              replace keyq_15 := Lib.hid keyq_15
                                              refine cut_by (P := ?Pq_9) ?hkq_9 (fun keyq_9 => ?mainq_9)
                                              case mainq_9 =>
                                                replace keyq_9 := Lib.hid keyq_9
                                                refine cut_by (P := ?Pq_2) ?hkq_2 (fun keyq_2 => ?mainq_2)
                                                case mainq_2 =>
                                                  replace keyq_2 := Lib.hid keyq_2
                                                  refine wp_region_held_drew (S := (fun w' => w'.cell? ⟨w.heap.size, 0, none⟩ = some (.slice A j.poly.length c) ∧ w'.cell? ⟨w.heap.size, 1, none⟩ = some (.int .i64 j.fr) ∧ w'.cell? ⟨w.heap.size, 2, none⟩ = some (.int .i64 j.ct) ∧ w'.cell? ⟨w.heap.size, 3, none⟩ = some (.int .i64 j.wd) ∧ w'.cell? ⟨w.heap.size, 4, none⟩ = some (.int .i64 j.dg) ∧ w'.cell? ⟨w.heap.size, 5, none⟩ = some (.int .i64 j.wy) ∧ w'.cell? ⟨w.heap.size, 6, none⟩ = some (.int .i64 j.rw) ∧ w'.cell? ⟨w.heap.size, 7, none⟩ = some (.int .i64 j.ac) ∧ w'.cell? ⟨w.heap.size, 8, none⟩ = some (.int .i64 j.wi))) (by kernel_rfl) ?_ (fun hS => ?_)
                                                  · skip
                                                    exact ⟨a0, a1, a2, a3, a4, a5, a6, a7, a8⟩
                                                  have B : Below w2.heap.size w2 w2.drew := (Below.refl _ _).drew
                                                  generalize hW : w2.drew = wr at *
                                                  clear hW
                                                  refine wpAnyH_take (i := 0) (oi := { dst := some 7, op := Op.fieldAddr 27 (Operand.tmp 1) 0, type := 0, pos := "l8_desk.go:45", after := #[], guard := none }) (v := ?vq_1) rfl (by kernel_rfl) (by kernel_rfl) (by kernel_rfl) (fun _ _ _ h => h) (Or.inl ⟨by rfl, ?hyq_1⟩) hS ?restq_1
                                                  case hyq_1 => (intro w' hSw; (try dsimp only at hSw); go_simp; all_goals with_reducible rfl)
                                                  (try simp only [Act.put, List.setIfInBounds_toArray, List.set_cons_zero, List.set_cons_succ])
                                                  refine wpAnyH_take (i := 1) (oi := { dst := some 8, op := Op.load 23 (Operand.tmp 7), type := 23, pos := "l8_desk.go:45", after := #[{ on := 0, ground := Ground.data }], guard := none }) (v := ?vq_2) rfl (by kernel_rfl) (by kernel_rfl) (by kernel_rfl) (fun _ _ _ h => h) (Or.inl ⟨by rfl, ?hyq_2⟩) hS ?restq_2
                                                  case hyq_2 => (intro w' hSw; (try dsimp only at hSw); go_simp; all_goals with_reducible rfl)
                                                  (try simp only [Act.put, List.setIfInBounds_toArray, List.set_cons_zero, List.set_cons_succ])
                                                  refine wpAnyH_take (i := 3) (oi := { dst := some 10, op := Op.fieldAddr 27 (Operand.tmp 1) 1, type := 0, pos := "l8_desk.go:45", after := #[], guard := none }) (v := ?vq_3) rfl (by kernel_rfl) (by kernel_rfl) (by kernel_rfl) (fun _ _ _ h => h) (Or.inl ⟨by rfl, ?hyq_3⟩) hS ?restq_3
                                                  case hyq_3 => (intro w' hSw; (try dsimp only at hSw); go_simp; all_goals with_reducible rfl)
                                                  (try simp only [Act.put, List.setIfInBounds_toArray, List.set_cons_zero, List.set_cons_succ])
                                                  refine wpAnyH_take (i := 4) (oi := { dst := some 11, op := Op.load 3 (Operand.tmp 10), type := 3, pos := "l8_desk.go:45", after := #[{ on := 3, ground := Ground.data }], guard := none }) (v := ?vq_4) rfl (by kernel_rfl) (by kernel_rfl) (by kernel_rfl) (fun _ _ _ h => h) (Or.inl ⟨by rfl, ?hyq_4⟩) hS ?restq_4
                                                  case hyq_4 => (intro w' hSw; (try dsimp only at hSw); go_simp; all_goals with_reducible rfl)
                                                  (try simp only [Act.put, List.setIfInBounds_toArray, List.set_cons_zero, List.set_cons_succ])
                                                  refine wpAnyH_take (i := 5) (oi := { dst := some 12, op := Op.fieldAddr 27 (Operand.tmp 1) 2, type := 0, pos := "l8_desk.go:45", after := #[], guard := none }) (v := ?vq_5) rfl (by kernel_rfl) (by kernel_rfl) (by kernel_rfl) (fun _ _ _ h => h) (Or.inl ⟨by rfl, ?hyq_5⟩) hS ?restq_5
                                                  case hyq_5 => (intro w' hSw; (try dsimp only at hSw); go_simp; all_goals with_reducible rfl)
                                                  (try simp only [Act.put, List.setIfInBounds_toArray, List.set_cons_zero, List.set_cons_succ])
                                                  refine wpAnyH_take (i := 6) (oi := { dst := some 13, op := Op.load 3 (Operand.tmp 12), type := 3, pos := "l8_desk.go:45", after := #[{ on := 5, ground := Ground.data }], guard := none }) (v := ?vq_6) rfl (by kernel_rfl) (by kernel_rfl) (by kernel_rfl) (fun _ _ _ h => h) (Or.inl ⟨by rfl, ?hyq_6⟩) hS ?restq_6
                                                  case hyq_6 => (intro w' hSw; (try dsimp only at hSw); go_simp; all_goals with_reducible rfl)
                                                  (try simp only [Act.put, List.setIfInBounds_toArray, List.set_cons_zero, List.set_cons_succ])
                                                  refine wpAnyH_take (i := 7) (oi := { dst := some 14, op := Op.fieldAddr 27 (Operand.tmp 1) 3, type := 0, pos := "l8_desk.go:45", after := #[], guard := none }) (v := ?vq_7) rfl (by kernel_rfl) (by kernel_rfl) (by kernel_rfl) (fun _ _ _ h => h) (Or.inl ⟨by rfl, ?hyq_7⟩) hS ?restq_7
                                                  case hyq_7 => (intro w' hSw; (try dsimp only at hSw); go_simp; all_goals with_reducible rfl)
                                                  (try simp only [Act.put, List.setIfInBounds_toArray, List.set_cons_zero, List.set_cons_succ])
                                                  refine wpAnyH_take (i := 8) (oi := { dst := some 15, op := Op.load 3 (Operand.tmp 14), type := 3, pos := "l8_desk.go:45", after := #[{ on := 7, ground := Ground.data }], guard := none }) (v := ?vq_8) rfl (by kernel_rfl) (by kernel_rfl) (by kernel_rfl) (fun _ _ _ h => h) (Or.inl ⟨by rfl, ?hyq_8⟩) hS ?restq_8
                                                  case hyq_8 => (intro w' hSw; (try dsimp only at hSw); go_simp; all_goals with_reducible rfl)
                                                  (try simp only [Act.put, List.setIfInBounds_toArray, List.set_cons_zero, List.set_cons_succ])
                                                  refine wpAnyH_take (i := 11) (oi := { dst := some 18, op := Op.fieldAddr 27 (Operand.tmp 1) 4, type := 0, pos := "l8_desk.go:45", after := #[], guard := none }) (v := ?vq_9) rfl (by kernel_rfl) (by kernel_rfl) (by kernel_rfl) (fun _ _ _ h => h) (Or.inl ⟨by rfl, ?hyq_9⟩) hS ?restq_9
                                                  case hyq_9 => (intro w' hSw; (try dsimp only at hSw); go_simp; all_goals with_reducible rfl)
                                                  (try simp only [Act.put, List.setIfInBounds_toArray, List.set_cons_zero, List.set_cons_succ])
                                                  refine wpAnyH_take (i := 12) (oi := { dst := some 19, op := Op.load 3 (Operand.tmp 18), type := 3, pos := "l8_desk.go:45", after := #[{ on := 11, ground := Ground.data }], guard := none }) (v := ?vq_10) rfl (by kernel_rfl) (by kernel_rfl) (by kernel_rfl) (fun _ _ _ h => h) (Or.inl ⟨by rfl, ?hyq_10⟩) hS ?restq_10
                                                  case hyq_10 => (intro w' hSw; (try dsimp only at hSw); go_simp; all_goals with_reducible rfl)
                                                  (try simp only [Act.put, List.setIfInBounds_toArray, List.set_cons_zero, List.set_cons_succ])
                                                  refine wpAnyH_take (i := 13) (oi := { dst := some 20, op := Op.fieldAddr 27 (Operand.tmp 1) 5, type := 0, pos := "l8_desk.go:45", after := #[], guard := none }) (v := ?vq_11) rfl (by kernel_rfl) (by kernel_rfl) (by kernel_rfl) (fun _ _ _ h => h) (Or.inl ⟨by rfl, ?hyq_11⟩) hS ?restq_11
                                                  case hyq_11 => (intro w' hSw; (try dsimp only at hSw); go_simp; all_goals with_reducible rfl)
                                                  (try simp only [Act.put, List.setIfInBounds_toArray, List.set_cons_zero, List.set_cons_succ])
                                                  refine wpAnyH_take (i := 14) (oi := { dst := some 21, op := Op.load 3 (Operand.tmp 20), type := 3, pos := "l8_desk.go:45", after := #[{ on := 13, ground := Ground.data }], guard := none }) (v := ?vq_12) rfl (by kernel_rfl) (by kernel_rfl) (by kernel_rfl) (fun _ _ _ h => h) (Or.inl ⟨by rfl, ?hyq_12⟩) hS ?restq_12
                                                  case hyq_12 => (intro w' hSw; (try dsimp only at hSw); go_simp; all_goals with_reducible rfl)
                                                  (try simp only [Act.put, List.setIfInBounds_toArray, List.set_cons_zero, List.set_cons_succ])
                                                  refine wpAnyH_take (i := 17) (oi := { dst := some 24, op := Op.fieldAddr 27 (Operand.tmp 1) 6, type := 0, pos := "l8_desk.go:45", after := #[], guard := none }) (v := ?vq_13) rfl (by kernel_rfl) (by kernel_rfl) (by kernel_rfl) (fun _ _ _ h => h) (Or.inl ⟨by rfl, ?hyq_13⟩) hS ?restq_13
                                                  case hyq_13 => (intro w' hSw; (try dsimp only at hSw); go_simp; all_goals with_reducible rfl)
                                                  (try simp only [Act.put, List.setIfInBounds_toArray, List.set_cons_zero, List.set_cons_succ])
                                                  refine wpAnyH_take (i := 18) (oi := { dst := some 25, op := Op.fieldAddr 25 (Operand.tmp 24) 0, type := 0, pos := "l8_desk.go:45", after := #[{ on := 17, ground := Ground.data }], guard := none }) (v := ?vq_14) rfl (by kernel_rfl) (by kernel_rfl) (by kernel_rfl) (fun _ _ _ h => h) (Or.inl ⟨by rfl, ?hyq_14⟩) hS ?restq_14
                                                  case hyq_14 => (intro w' hSw; (try dsimp only at hSw); go_simp; all_goals with_reducible rfl)
                                                  (try simp only [Act.put, List.setIfInBounds_toArray, List.set_cons_zero, List.set_cons_succ])
                                                  refine wpAnyH_take (i := 19) (oi := { dst := some 26, op := Op.load 3 (Operand.tmp 25), type := 3, pos := "l8_desk.go:45", after := #[{ on := 18, ground := Ground.data }], guard := none }) (v := ?vq_15) rfl (by kernel_rfl) (by kernel_rfl) (by kernel_rfl) (fun _ _ _ h => h) (Or.inl ⟨by rfl, ?hyq_15⟩) hS ?restq_15
                                                  case hyq_15 => (intro w' hSw; (try dsimp only at hSw); go_simp; all_goals with_reducible rfl)
                                                  (try simp only [Act.put, List.setIfInBounds_toArray, List.set_cons_zero, List.set_cons_succ])
                                                  refine wpAnyH_take (i := 20) (oi := { dst := some 27, op := Op.fieldAddr 27 (Operand.tmp 1) 6, type := 0, pos := "l8_desk.go:45", after := #[], guard := none }) (v := ?vq_16) rfl (by kernel_rfl) (by kernel_rfl) (by kernel_rfl) (fun _ _ _ h => h) (Or.inl ⟨by rfl, ?hyq_16⟩) hS ?restq_16
                                                  case hyq_16 => (intro w' hSw; (try dsimp only at hSw); go_simp; all_goals with_reducible rfl)
                                                  (try simp only [Act.put, List.setIfInBounds_toArray, List.set_cons_zero, List.set_cons_succ])
                                                  refine wpAnyH_take (i := 21) (oi := { dst := some 28, op := Op.fieldAddr 25 (Operand.tmp 27) 1, type := 0, pos := "l8_desk.go:45", after := #[{ on := 20, ground := Ground.data }], guard := none }) (v := ?vq_17) rfl (by kernel_rfl) (by kernel_rfl) (by kernel_rfl) (fun _ _ _ h => h) (Or.inl ⟨by rfl, ?hyq_17⟩) hS ?restq_17
                                                  case hyq_17 => (intro w' hSw; (try dsimp only at hSw); go_simp; all_goals with_reducible rfl)
                                                  (try simp only [Act.put, List.setIfInBounds_toArray, List.set_cons_zero, List.set_cons_succ])
                                                  refine wpAnyH_take (i := 22) (oi := { dst := some 29, op := Op.load 3 (Operand.tmp 28), type := 3, pos := "l8_desk.go:45", after := #[{ on := 21, ground := Ground.data }], guard := none }) (v := ?vq_18) rfl (by kernel_rfl) (by kernel_rfl) (by kernel_rfl) (fun _ _ _ h => h) (Or.inl ⟨by rfl, ?hyq_18⟩) hS ?restq_18
                                                  case hyq_18 => (intro w' hSw; (try dsimp only at hSw); go_simp; all_goals with_reducible rfl)
                                                  (try simp only [Act.put, List.setIfInBounds_toArray, List.set_cons_zero, List.set_cons_succ])
                                                  refine wpAnyH_take (i := 23) (oi := { dst := some 30, op := Op.fieldAddr 27 (Operand.tmp 1) 6, type := 0, pos := "l8_desk.go:45", after := #[], guard := none }) (v := ?vq_19) rfl (by kernel_rfl) (by kernel_rfl) (by kernel_rfl) (fun _ _ _ h => h) (Or.inl ⟨by rfl, ?hyq_19⟩) hS ?restq_19
                                                  case hyq_19 => (intro w' hSw; (try dsimp only at hSw); go_simp; all_goals with_reducible rfl)
                                                  (try simp only [Act.put, List.setIfInBounds_toArray, List.set_cons_zero, List.set_cons_succ])
                                                  refine wpAnyH_take (i := 24) (oi := { dst := some 31, op := Op.fieldAddr 25 (Operand.tmp 30) 2, type := 0, pos := "l8_desk.go:45", after := #[{ on := 23, ground := Ground.data }], guard := none }) (v := ?vq_20) rfl (by kernel_rfl) (by kernel_rfl) (by kernel_rfl) (fun _ _ _ h => h) (Or.inl ⟨by rfl, ?hyq_20⟩) hS ?restq_20
                                                  case hyq_20 => (intro w' hSw; (try dsimp only at hSw); go_simp; all_goals with_reducible rfl)
                                                  (try simp only [Act.put, List.setIfInBounds_toArray, List.set_cons_zero, List.set_cons_succ])
                                                  refine wpAnyH_take (i := 25) (oi := { dst := some 32, op := Op.load 3 (Operand.tmp 31), type := 3, pos := "l8_desk.go:45", after := #[{ on := 24, ground := Ground.data }], guard := none }) (v := ?vq_21) rfl (by kernel_rfl) (by kernel_rfl) (by kernel_rfl) (fun _ _ _ h => h) (Or.inl ⟨by rfl, ?hyq_21⟩) hS ?restq_21
                                                  case hyq_21 => (intro w' hSw; (try dsimp only at hSw); go_simp; all_goals with_reducible rfl)
                                                  (try simp only [Act.put, List.setIfInBounds_toArray, List.set_cons_zero, List.set_cons_succ])
                                                  refine wpAnyH_listed (l' := #[true, true, false, true, true, true, true, true, true, false, false, true, true, true, true, false, false, true, true, true, true, true, true, true, true, true, false, false, false, false]) (by kernel_rfl) ?_
                                                  clear hS
                                                  refine wpAnyH_ready (rs := [2, 9, 15, 26]) (by kernel_rfl) (by simp) ?_
                                                  refine AllReadyH.cons (o := { dst := some 9, op := Op.call { callee := Callee.value (Operand.func 15), args := #[Operand.tmp 8], argTypes := #[23] }, type := 9, pos := "l8_desk.go:46", after := #[{ on := 1, ground := Ground.data }], guard := none }) rfl (fun K hK => ?_) ?_
                                                  · skip
                                                    (try go_simp)
                                                    go_at_call 15
                                                    refine (implFP_any _ j.poly _ (HP.out.bel B) (HT2.out.bel B)).mono ?_
                                                    rintro e wn ⟨rfl, b⟩
                                                    replace B := bel_trans B b
                                                    clear b
                                                    (try dsimp only)
                                                    refine hK.out _ _ (by first | exact ⟨(B.cell (by exact hl2)).trans a0, (B.cell (by exact hl2)).trans a1, (B.cell (by exact hl2)).trans a2, (B.cell (by exact hl2)).trans a3, (B.cell (by exact hl2)).trans a4, (B.cell (by exact hl2)).trans a5, (B.cell (by exact hl2)).trans a6, (B.cell (by exact hl2)).trans a7, (B.cell (by exact hl2)).trans a8⟩ | (dsimp only; exact ⟨(B.cell (by exact hl2)).trans a0, (B.cell (by exact hl2)).trans a1, (B.cell (by exact hl2)).trans a2, (B.cell (by exact hl2)).trans a3, (B.cell (by exact hl2)).trans a4, (B.cell (by exact hl2)).trans a5, (B.cell (by exact hl2)).trans a6, (B.cell (by exact hl2)).trans a7, (B.cell (by exact hl2)).trans a8⟩)) (fun hS => ?_)
                                                    clear hK K
                                                    (try simp only [Act.put, List.setIfInBounds_toArray, List.set_cons_zero, List.set_cons_succ])
                                                    refine wpAnyH_listed (l' := #[true, true, true, true, true, true, true, true, true, false, false, true, true, true, true, false, false, true, true, true, true, true, true, true, true, true, false, false, false, false]) (by kernel_rfl) ?_
                                                    clear hS
                                                    (try clear hwx)
                                                    revert B
                                                    revert wn
                                                    exact keyq_2.out
                                                  refine AllReadyH.cons (o := { dst := some 16, op := Op.buildSlice 23 3 #[(0, Operand.tmp 11), (1, Operand.tmp 13), (2, Operand.tmp 15)], type := 23, pos := "l8_desk.go:45", after := #[{ on := 4, ground := Ground.data }, { on := 6, ground := Ground.data }, { on := 8, ground := Ground.data }], guard := none }) rfl (fun K hK => ?_) ?_
                                                  · skip
                                                    go_simp
                                                    replace B : Below w2.heap.size w2 (wr.alloc (.cells #[Value.int .i64 j.fr, Value.int .i64 j.ct, Value.int .i64 j.wd] 3)) := bel_trans B (bel_alloc wr _)
                                                    have J9 : Hid (Ints (wr.alloc (.cells #[Value.int .i64 j.fr, Value.int .i64 j.ct, Value.int .i64 j.wd] 3)) (Value.slice (some ⟨wr.heap.size, 0, none⟩) 3 3) [j.fr, j.ct, j.wd]) := Lib.hid (lit_ints wr [j.fr, j.ct, j.wd] (by simp) HWF.out.1)
                                                    refine hK.out _ _ (by first | exact ⟨(B.cell (by exact hl2)).trans a0, (B.cell (by exact hl2)).trans a1, (B.cell (by exact hl2)).trans a2, (B.cell (by exact hl2)).trans a3, (B.cell (by exact hl2)).trans a4, (B.cell (by exact hl2)).trans a5, (B.cell (by exact hl2)).trans a6, (B.cell (by exact hl2)).trans a7, (B.cell (by exact hl2)).trans a8⟩ | (dsimp only; exact ⟨(B.cell (by exact hl2)).trans a0, (B.cell (by exact hl2)).trans a1, (B.cell (by exact hl2)).trans a2, (B.cell (by exact hl2)).trans a3, (B.cell (by exact hl2)).trans a4, (B.cell (by exact hl2)).trans a5, (B.cell (by exact hl2)).trans a6, (B.cell (by exact hl2)).trans a7, (B.cell (by exact hl2)).trans a8⟩)) (fun hS => ?_)
                                                    clear hK K
                                                    (try simp only [Act.put, List.setIfInBounds_toArray, List.set_cons_zero, List.set_cons_succ])
                                                    refine wpAnyH_listed (l' := #[true, true, false, true, true, true, true, true, true, true, false, true, true, true, true, false, false, true, true, true, true, true, true, true, true, true, false, false, false, false]) (by kernel_rfl) ?_
                                                    clear hS
                                                    (try clear hwx)
                                                    revert J9; revert B
                                                    generalize (wr.alloc (.cells #[Value.int .i64 j.fr, Value.int .i64 j.ct, Value.int .i64 j.wd] 3)) = wn
                                                    generalize wr.heap.size = b9
                                                    revert b9; revert wn
                                                    exact keyq_9.out
                                                  refine AllReadyH.cons (o := { dst := some 22, op := Op.buildSlice 23 2 #[(0, Operand.tmp 19), (1, Operand.tmp 21)], type := 23, pos := "l8_desk.go:45", after := #[{ on := 12, ground := Ground.data }, { on := 14, ground := Ground.data }], guard := none }) rfl (fun K hK => ?_) ?_
                                                  · skip
                                                    go_simp
                                                    replace B : Below w2.heap.size w2 (wr.alloc (.cells #[Value.int .i64 j.dg, Value.int .i64 j.wy] 3)) := bel_trans B (bel_alloc wr _)
                                                    have J15 : Hid (Ints (wr.alloc (.cells #[Value.int .i64 j.dg, Value.int .i64 j.wy] 3)) (Value.slice (some ⟨wr.heap.size, 0, none⟩) 2 2) [j.dg, j.wy]) := Lib.hid (lit_ints wr [j.dg, j.wy] (by simp) HWF.out.2.1)
                                                    refine hK.out _ _ (by first | exact ⟨(B.cell (by exact hl2)).trans a0, (B.cell (by exact hl2)).trans a1, (B.cell (by exact hl2)).trans a2, (B.cell (by exact hl2)).trans a3, (B.cell (by exact hl2)).trans a4, (B.cell (by exact hl2)).trans a5, (B.cell (by exact hl2)).trans a6, (B.cell (by exact hl2)).trans a7, (B.cell (by exact hl2)).trans a8⟩ | (dsimp only; exact ⟨(B.cell (by exact hl2)).trans a0, (B.cell (by exact hl2)).trans a1, (B.cell (by exact hl2)).trans a2, (B.cell (by exact hl2)).trans a3, (B.cell (by exact hl2)).trans a4, (B.cell (by exact hl2)).trans a5, (B.cell (by exact hl2)).trans a6, (B.cell (by exact hl2)).trans a7, (B.cell (by exact hl2)).trans a8⟩)) (fun hS => ?_)
                                                    clear hK K
                                                    (try simp only [Act.put, List.setIfInBounds_toArray, List.set_cons_zero, List.set_cons_succ])
                                                    refine wpAnyH_listed (l' := #[true, true, false, true, true, true, true, true, true, false, false, true, true, true, true, true, false, true, true, true, true, true, true, true, true, true, false, false, false, false]) (by kernel_rfl) ?_
                                                    clear hS
                                                    (try clear hwx)
                                                    revert J15; revert B
                                                    generalize (wr.alloc (.cells #[Value.int .i64 j.dg, Value.int .i64 j.wy] 3)) = wn
                                                    generalize wr.heap.size = b15
                                                    revert b15; revert wn
                                                    exact keyq_15.out
                                                  refine AllReadyH.cons (o := { dst := some 33, op := Op.buildSlice 23 3 #[(0, Operand.tmp 26), (1, Operand.tmp 29), (2, Operand.tmp 32)], type := 23, pos := "l8_desk.go:45", after := #[{ on := 19, ground := Ground.data }, { on := 22, ground := Ground.data }, { on := 25, ground := Ground.data }], guard := none }) rfl (fun K hK => ?_) ?_
                                                  · skip
                                                    go_simp
                                                    replace B : Below w2.heap.size w2 (wr.alloc (.cells #[Value.int .i64 j.rw, Value.int .i64 j.ac, Value.int .i64 j.wi] 3)) := bel_trans B (bel_alloc wr _)
                                                    have J26 : Hid (Ints (wr.alloc (.cells #[Value.int .i64 j.rw, Value.int .i64 j.ac, Value.int .i64 j.wi] 3)) (Value.slice (some ⟨wr.heap.size, 0, none⟩) 3 3) [j.rw, j.ac, j.wi]) := Lib.hid (lit_ints wr [j.rw, j.ac, j.wi] (by simp) HWF.out.2.2)
                                                    refine hK.out _ _ (by first | exact ⟨(B.cell (by exact hl2)).trans a0, (B.cell (by exact hl2)).trans a1, (B.cell (by exact hl2)).trans a2, (B.cell (by exact hl2)).trans a3, (B.cell (by exact hl2)).trans a4, (B.cell (by exact hl2)).trans a5, (B.cell (by exact hl2)).trans a6, (B.cell (by exact hl2)).trans a7, (B.cell (by exact hl2)).trans a8⟩ | (dsimp only; exact ⟨(B.cell (by exact hl2)).trans a0, (B.cell (by exact hl2)).trans a1, (B.cell (by exact hl2)).trans a2, (B.cell (by exact hl2)).trans a3, (B.cell (by exact hl2)).trans a4, (B.cell (by exact hl2)).trans a5, (B.cell (by exact hl2)).trans a6, (B.cell (by exact hl2)).trans a7, (B.cell (by exact hl2)).trans a8⟩)) (fun hS => ?_)
                                                    clear hK K
                                                    (try simp only [Act.put, List.setIfInBounds_toArray, List.set_cons_zero, List.set_cons_succ])
                                                    refine wpAnyH_listed (l' := #[true, true, false, true, true, true, true, true, true, false, false, true, true, true, true, false, false, true, true, true, true, true, true, true, true, true, true, false, false, false]) (by kernel_rfl) ?_
                                                    clear hS
                                                    (try clear hwx)
                                                    revert J26; revert B
                                                    generalize (wr.alloc (.cells #[Value.int .i64 j.rw, Value.int .i64 j.ac, Value.int .i64 j.wi] 3)) = wn
                                                    generalize wr.heap.size = b26
                                                    revert b26; revert wn
                                                    exact keyq_26.out
                                                  exact AllReadyH.nil
                                                case hkq_2 =>
                                                  intro wr B
                                                  refine wpAnyH_ready (rs := [9, 15, 26]) (by kernel_rfl) (by simp) ?_
                                                  refine AllReadyH.cons (o := { dst := some 16, op := Op.buildSlice 23 3 #[(0, Operand.tmp 11), (1, Operand.tmp 13), (2, Operand.tmp 15)], type := 23, pos := "l8_desk.go:45", after := #[{ on := 4, ground := Ground.data }, { on := 6, ground := Ground.data }, { on := 8, ground := Ground.data }], guard := none }) rfl (fun K hK => ?_) ?_
                                                  · skip
                                                    go_simp
                                                    replace B : Below w2.heap.size w2 (wr.alloc (.cells #[Value.int .i64 j.fr, Value.int .i64 j.ct, Value.int .i64 j.wd] 3)) := bel_trans B (bel_alloc wr _)
                                                    have J9 : Hid (Ints (wr.alloc (.cells #[Value.int .i64 j.fr, Value.int .i64 j.ct, Value.int .i64 j.wd] 3)) (Value.slice (some ⟨wr.heap.size, 0, none⟩) 3 3) [j.fr, j.ct, j.wd]) := Lib.hid (lit_ints wr [j.fr, j.ct, j.wd] (by simp) HWF.out.1)
                                                    refine hK.out _ _ (by first | exact ⟨(B.cell (by exact hl2)).trans a0, (B.cell (by exact hl2)).trans a1, (B.cell (by exact hl2)).trans a2, (B.cell (by exact hl2)).trans a3, (B.cell (by exact hl2)).trans a4, (B.cell (by exact hl2)).trans a5, (B.cell (by exact hl2)).trans a6, (B.cell (by exact hl2)).trans a7, (B.cell (by exact hl2)).trans a8⟩ | (dsimp only; exact ⟨(B.cell (by exact hl2)).trans a0, (B.cell (by exact hl2)).trans a1, (B.cell (by exact hl2)).trans a2, (B.cell (by exact hl2)).trans a3, (B.cell (by exact hl2)).trans a4, (B.cell (by exact hl2)).trans a5, (B.cell (by exact hl2)).trans a6, (B.cell (by exact hl2)).trans a7, (B.cell (by exact hl2)).trans a8⟩)) (fun hS => ?_)
                                                    clear hK K
                                                    (try simp only [Act.put, List.setIfInBounds_toArray, List.set_cons_zero, List.set_cons_succ])
                                                    refine wpAnyH_listed (l' := #[true, true, true, true, true, true, true, true, true, true, false, true, true, true, true, false, false, true, true, true, true, true, true, true, true, true, false, false, false, false]) (by kernel_rfl) ?_
                                                    clear hS
                                                    (try clear hwx)
                                                    revert J9; revert B
                                                    generalize (wr.alloc (.cells #[Value.int .i64 j.fr, Value.int .i64 j.ct, Value.int .i64 j.wd] 3)) = wn
                                                    generalize wr.heap.size = b9
                                                    revert b9; revert wn
                                                    exact keyq_2_9.out
                                                  refine AllReadyH.cons (o := { dst := some 22, op := Op.buildSlice 23 2 #[(0, Operand.tmp 19), (1, Operand.tmp 21)], type := 23, pos := "l8_desk.go:45", after := #[{ on := 12, ground := Ground.data }, { on := 14, ground := Ground.data }], guard := none }) rfl (fun K hK => ?_) ?_
                                                  · skip
                                                    go_simp
                                                    replace B : Below w2.heap.size w2 (wr.alloc (.cells #[Value.int .i64 j.dg, Value.int .i64 j.wy] 3)) := bel_trans B (bel_alloc wr _)
                                                    have J15 : Hid (Ints (wr.alloc (.cells #[Value.int .i64 j.dg, Value.int .i64 j.wy] 3)) (Value.slice (some ⟨wr.heap.size, 0, none⟩) 2 2) [j.dg, j.wy]) := Lib.hid (lit_ints wr [j.dg, j.wy] (by simp) HWF.out.2.1)
                                                    refine hK.out _ _ (by first | exact ⟨(B.cell (by exact hl2)).trans a0, (B.cell (by exact hl2)).trans a1, (B.cell (by exact hl2)).trans a2, (B.cell (by exact hl2)).trans a3, (B.cell (by exact hl2)).trans a4, (B.cell (by exact hl2)).trans a5, (B.cell (by exact hl2)).trans a6, (B.cell (by exact hl2)).trans a7, (B.cell (by exact hl2)).trans a8⟩ | (dsimp only; exact ⟨(B.cell (by exact hl2)).trans a0, (B.cell (by exact hl2)).trans a1, (B.cell (by exact hl2)).trans a2, (B.cell (by exact hl2)).trans a3, (B.cell (by exact hl2)).trans a4, (B.cell (by exact hl2)).trans a5, (B.cell (by exact hl2)).trans a6, (B.cell (by exact hl2)).trans a7, (B.cell (by exact hl2)).trans a8⟩)) (fun hS => ?_)
                                                    clear hK K
                                                    (try simp only [Act.put, List.setIfInBounds_toArray, List.set_cons_zero, List.set_cons_succ])
                                                    refine wpAnyH_listed (l' := #[true, true, true, true, true, true, true, true, true, false, false, true, true, true, true, true, false, true, true, true, true, true, true, true, true, true, false, false, false, false]) (by kernel_rfl) ?_
                                                    clear hS
                                                    (try clear hwx)
                                                    revert J15; revert B
                                                    generalize (wr.alloc (.cells #[Value.int .i64 j.dg, Value.int .i64 j.wy] 3)) = wn
                                                    generalize wr.heap.size = b15
                                                    revert b15; revert wn
                                                    exact keyq_2_15.out
                                                  refine AllReadyH.cons (o := { dst := some 33, op := Op.buildSlice 23 3 #[(0, Operand.tmp 26), (1, Operand.tmp 29), (2, Operand.tmp 32)], type := 23, pos := "l8_desk.go:45", after := #[{ on := 19, ground := Ground.data }, { on := 22, ground := Ground.data }, { on := 25, ground := Ground.data }], guard := none }) rfl (fun K hK => ?_) ?_
                                                  · skip
                                                    go_simp
                                                    replace B : Below w2.heap.size w2 (wr.alloc (.cells #[Value.int .i64 j.rw, Value.int .i64 j.ac, Value.int .i64 j.wi] 3)) := bel_trans B (bel_alloc wr _)
                                                    have J26 : Hid (Ints (wr.alloc (.cells #[Value.int .i64 j.rw, Value.int .i64 j.ac, Value.int .i64 j.wi] 3)) (Value.slice (some ⟨wr.heap.size, 0, none⟩) 3 3) [j.rw, j.ac, j.wi]) := Lib.hid (lit_ints wr [j.rw, j.ac, j.wi] (by simp) HWF.out.2.2)
                                                    refine hK.out _ _ (by first | exact ⟨(B.cell (by exact hl2)).trans a0, (B.cell (by exact hl2)).trans a1, (B.cell (by exact hl2)).trans a2, (B.cell (by exact hl2)).trans a3, (B.cell (by exact hl2)).trans a4, (B.cell (by exact hl2)).trans a5, (B.cell (by exact hl2)).trans a6, (B.cell (by exact hl2)).trans a7, (B.cell (by exact hl2)).trans a8⟩ | (dsimp only; exact ⟨(B.cell (by exact hl2)).trans a0, (B.cell (by exact hl2)).trans a1, (B.cell (by exact hl2)).trans a2, (B.cell (by exact hl2)).trans a3, (B.cell (by exact hl2)).trans a4, (B.cell (by exact hl2)).trans a5, (B.cell (by exact hl2)).trans a6, (B.cell (by exact hl2)).trans a7, (B.cell (by exact hl2)).trans a8⟩)) (fun hS => ?_)
                                                    clear hK K
                                                    (try simp only [Act.put, List.setIfInBounds_toArray, List.set_cons_zero, List.set_cons_succ])
                                                    refine wpAnyH_listed (l' := #[true, true, true, true, true, true, true, true, true, false, false, true, true, true, true, false, false, true, true, true, true, true, true, true, true, true, true, false, false, false]) (by kernel_rfl) ?_
                                                    clear hS
                                                    (try clear hwx)
                                                    revert J26; revert B
                                                    generalize (wr.alloc (.cells #[Value.int .i64 j.rw, Value.int .i64 j.ac, Value.int .i64 j.wi] 3)) = wn
                                                    generalize wr.heap.size = b26
                                                    revert b26; revert wn
                                                    exact keyq_2_26.out
                                                  exact AllReadyH.nil
                                              case hkq_9 =>
                                                intro wr b9 B J9
                                                refine wpAnyH_ready (rs := [2, 15, 26]) (by kernel_rfl) (by simp) ?_
                                                refine AllReadyH.cons (o := { dst := some 9, op := Op.call { callee := Callee.value (Operand.func 15), args := #[Operand.tmp 8], argTypes := #[23] }, type := 9, pos := "l8_desk.go:46", after := #[{ on := 1, ground := Ground.data }], guard := none }) rfl (fun K hK => ?_) ?_
                                                · skip
                                                  (try go_simp)
                                                  go_at_call 15
                                                  refine (implFP_any _ j.poly _ (HP.out.bel B) (HT2.out.bel B)).mono ?_
                                                  rintro e wn ⟨rfl, b⟩
                                                  replace J9 := Lib.hid (J9.out.bel b)
                                                  replace B := bel_trans B b
                                                  clear b
                                                  (try dsimp only)
                                                  refine hK.out _ _ (by first | exact ⟨(B.cell (by exact hl2)).trans a0, (B.cell (by exact hl2)).trans a1, (B.cell (by exact hl2)).trans a2, (B.cell (by exact hl2)).trans a3, (B.cell (by exact hl2)).trans a4, (B.cell (by exact hl2)).trans a5, (B.cell (by exact hl2)).trans a6, (B.cell (by exact hl2)).trans a7, (B.cell (by exact hl2)).trans a8⟩ | (dsimp only; exact ⟨(B.cell (by exact hl2)).trans a0, (B.cell (by exact hl2)).trans a1, (B.cell (by exact hl2)).trans a2, (B.cell (by exact hl2)).trans a3, (B.cell (by exact hl2)).trans a4, (B.cell (by exact hl2)).trans a5, (B.cell (by exact hl2)).trans a6, (B.cell (by exact hl2)).trans a7, (B.cell (by exact hl2)).trans a8⟩)) (fun hS => ?_)
                                                  clear hK K
                                                  (try simp only [Act.put, List.setIfInBounds_toArray, List.set_cons_zero, List.set_cons_succ])
                                                  refine wpAnyH_listed (l' := #[true, true, true, true, true, true, true, true, true, true, false, true, true, true, true, false, false, true, true, true, true, true, true, true, true, true, false, false, false, false]) (by kernel_rfl) ?_
                                                  clear hS
                                                  (try clear hwx)
                                                  revert J9; revert B
                                                  revert b9; revert wn
                                                  exact keyq_2_9.out
                                                refine AllReadyH.cons (o := { dst := some 22, op := Op.buildSlice 23 2 #[(0, Operand.tmp 19), (1, Operand.tmp 21)], type := 23, pos := "l8_desk.go:45", after := #[{ on := 12, ground := Ground.data }, { on := 14, ground := Ground.data }], guard := none }) rfl (fun K hK => ?_) ?_
                                                · skip
                                                  go_simp
                                                  replace J9 := Lib.hid (J9.out.bel (bel_alloc wr ((.cells #[Value.int .i64 j.dg, Value.int .i64 j.wy] 3))))
                                                  replace B : Below w2.heap.size w2 (wr.alloc (.cells #[Value.int .i64 j.dg, Value.int .i64 j.wy] 3)) := bel_trans B (bel_alloc wr _)
                                                  have J15 : Hid (Ints (wr.alloc (.cells #[Value.int .i64 j.dg, Value.int .i64 j.wy] 3)) (Value.slice (some ⟨wr.heap.size, 0, none⟩) 2 2) [j.dg, j.wy]) := Lib.hid (lit_ints wr [j.dg, j.wy] (by simp) HWF.out.2.1)
                                                  refine hK.out _ _ (by first | exact ⟨(B.cell (by exact hl2)).trans a0, (B.cell (by exact hl2)).trans a1, (B.cell (by exact hl2)).trans a2, (B.cell (by exact hl2)).trans a3, (B.cell (by exact hl2)).trans a4, (B.cell (by exact hl2)).trans a5, (B.cell (by exact hl2)).trans a6, (B.cell (by exact hl2)).trans a7, (B.cell (by exact hl2)).trans a8⟩ | (dsimp only; exact ⟨(B.cell (by exact hl2)).trans a0, (B.cell (by exact hl2)).trans a1, (B.cell (by exact hl2)).trans a2, (B.cell (by exact hl2)).trans a3, (B.cell (by exact hl2)).trans a4, (B.cell (by exact hl2)).trans a5, (B.cell (by exact hl2)).trans a6, (B.cell (by exact hl2)).trans a7, (B.cell (by exact hl2)).trans a8⟩)) (fun hS => ?_)
                                                  clear hK K
                                                  (try simp only [Act.put, List.setIfInBounds_toArray, List.set_cons_zero, List.set_cons_succ])
                                                  refine wpAnyH_listed (l' := #[true, true, false, true, true, true, true, true, true, true, false, true, true, true, true, true, false, true, true, true, true, true, true, true, true, true, false, false, false, false]) (by kernel_rfl) ?_
                                                  clear hS
                                                  (try clear hwx)
                                                  revert J15; revert J9; revert B
                                                  generalize (wr.alloc (.cells #[Value.int .i64 j.dg, Value.int .i64 j.wy] 3)) = wn
                                                  generalize wr.heap.size = b15
                                                  revert b15; revert b9; revert wn
                                                  exact keyq_9_15.out
                                                refine AllReadyH.cons (o := { dst := some 33, op := Op.buildSlice 23 3 #[(0, Operand.tmp 26), (1, Operand.tmp 29), (2, Operand.tmp 32)], type := 23, pos := "l8_desk.go:45", after := #[{ on := 19, ground := Ground.data }, { on := 22, ground := Ground.data }, { on := 25, ground := Ground.data }], guard := none }) rfl (fun K hK => ?_) ?_
                                                · skip
                                                  go_simp
                                                  replace J9 := Lib.hid (J9.out.bel (bel_alloc wr ((.cells #[Value.int .i64 j.rw, Value.int .i64 j.ac, Value.int .i64 j.wi] 3))))
                                                  replace B : Below w2.heap.size w2 (wr.alloc (.cells #[Value.int .i64 j.rw, Value.int .i64 j.ac, Value.int .i64 j.wi] 3)) := bel_trans B (bel_alloc wr _)
                                                  have J26 : Hid (Ints (wr.alloc (.cells #[Value.int .i64 j.rw, Value.int .i64 j.ac, Value.int .i64 j.wi] 3)) (Value.slice (some ⟨wr.heap.size, 0, none⟩) 3 3) [j.rw, j.ac, j.wi]) := Lib.hid (lit_ints wr [j.rw, j.ac, j.wi] (by simp) HWF.out.2.2)
                                                  refine hK.out _ _ (by first | exact ⟨(B.cell (by exact hl2)).trans a0, (B.cell (by exact hl2)).trans a1, (B.cell (by exact hl2)).trans a2, (B.cell (by exact hl2)).trans a3, (B.cell (by exact hl2)).trans a4, (B.cell (by exact hl2)).trans a5, (B.cell (by exact hl2)).trans a6, (B.cell (by exact hl2)).trans a7, (B.cell (by exact hl2)).trans a8⟩ | (dsimp only; exact ⟨(B.cell (by exact hl2)).trans a0, (B.cell (by exact hl2)).trans a1, (B.cell (by exact hl2)).trans a2, (B.cell (by exact hl2)).trans a3, (B.cell (by exact hl2)).trans a4, (B.cell (by exact hl2)).trans a5, (B.cell (by exact hl2)).trans a6, (B.cell (by exact hl2)).trans a7, (B.cell (by exact hl2)).trans a8⟩)) (fun hS => ?_)
                                                  clear hK K
                                                  (try simp only [Act.put, List.setIfInBounds_toArray, List.set_cons_zero, List.set_cons_succ])
                                                  refine wpAnyH_listed (l' := #[true, true, false, true, true, true, true, true, true, true, false, true, true, true, true, false, false, true, true, true, true, true, true, true, true, true, true, false, false, false]) (by kernel_rfl) ?_
                                                  clear hS
                                                  (try clear hwx)
                                                  revert J26; revert J9; revert B
                                                  generalize (wr.alloc (.cells #[Value.int .i64 j.rw, Value.int .i64 j.ac, Value.int .i64 j.wi] 3)) = wn
                                                  generalize wr.heap.size = b26
                                                  revert b26; revert b9; revert wn
                                                  exact keyq_9_26.out
                                                exact AllReadyH.nil
                                            case hkq_15 =>
                                              intro wr b15 B J15
                                              refine wpAnyH_ready (rs := [2, 9, 26]) (by kernel_rfl) (by simp) ?_
                                              refine AllReadyH.cons (o := { dst := some 9, op := Op.call { callee := Callee.value (Operand.func 15), args := #[Operand.tmp 8], argTypes := #[23] }, type := 9, pos := "l8_desk.go:46", after := #[{ on := 1, ground := Ground.data }], guard := none }) rfl (fun K hK => ?_) ?_
                                              · skip
                                                (try go_simp)
                                                go_at_call 15
                                                refine (implFP_any _ j.poly _ (HP.out.bel B) (HT2.out.bel B)).mono ?_
                                                rintro e wn ⟨rfl, b⟩
                                                replace J15 := Lib.hid (J15.out.bel b)
                                                replace B := bel_trans B b
                                                clear b
                                                (try dsimp only)
                                                refine hK.out _ _ (by first | exact ⟨(B.cell (by exact hl2)).trans a0, (B.cell (by exact hl2)).trans a1, (B.cell (by exact hl2)).trans a2, (B.cell (by exact hl2)).trans a3, (B.cell (by exact hl2)).trans a4, (B.cell (by exact hl2)).trans a5, (B.cell (by exact hl2)).trans a6, (B.cell (by exact hl2)).trans a7, (B.cell (by exact hl2)).trans a8⟩ | (dsimp only; exact ⟨(B.cell (by exact hl2)).trans a0, (B.cell (by exact hl2)).trans a1, (B.cell (by exact hl2)).trans a2, (B.cell (by exact hl2)).trans a3, (B.cell (by exact hl2)).trans a4, (B.cell (by exact hl2)).trans a5, (B.cell (by exact hl2)).trans a6, (B.cell (by exact hl2)).trans a7, (B.cell (by exact hl2)).trans a8⟩)) (fun hS => ?_)
                                                clear hK K
                                                (try simp only [Act.put, List.setIfInBounds_toArray, List.set_cons_zero, List.set_cons_succ])
                                                refine wpAnyH_listed (l' := #[true, true, true, true, true, true, true, true, true, false, false, true, true, true, true, true, false, true, true, true, true, true, true, true, true, true, false, false, false, false]) (by kernel_rfl) ?_
                                                clear hS
                                                (try clear hwx)
                                                revert J15; revert B
                                                revert b15; revert wn
                                                exact keyq_2_15.out
                                              refine AllReadyH.cons (o := { dst := some 16, op := Op.buildSlice 23 3 #[(0, Operand.tmp 11), (1, Operand.tmp 13), (2, Operand.tmp 15)], type := 23, pos := "l8_desk.go:45", after := #[{ on := 4, ground := Ground.data }, { on := 6, ground := Ground.data }, { on := 8, ground := Ground.data }], guard := none }) rfl (fun K hK => ?_) ?_
                                              · skip
                                                go_simp
                                                replace J15 := Lib.hid (J15.out.bel (bel_alloc wr ((.cells #[Value.int .i64 j.fr, Value.int .i64 j.ct, Value.int .i64 j.wd] 3))))
                                                replace B : Below w2.heap.size w2 (wr.alloc (.cells #[Value.int .i64 j.fr, Value.int .i64 j.ct, Value.int .i64 j.wd] 3)) := bel_trans B (bel_alloc wr _)
                                                have J9 : Hid (Ints (wr.alloc (.cells #[Value.int .i64 j.fr, Value.int .i64 j.ct, Value.int .i64 j.wd] 3)) (Value.slice (some ⟨wr.heap.size, 0, none⟩) 3 3) [j.fr, j.ct, j.wd]) := Lib.hid (lit_ints wr [j.fr, j.ct, j.wd] (by simp) HWF.out.1)
                                                refine hK.out _ _ (by first | exact ⟨(B.cell (by exact hl2)).trans a0, (B.cell (by exact hl2)).trans a1, (B.cell (by exact hl2)).trans a2, (B.cell (by exact hl2)).trans a3, (B.cell (by exact hl2)).trans a4, (B.cell (by exact hl2)).trans a5, (B.cell (by exact hl2)).trans a6, (B.cell (by exact hl2)).trans a7, (B.cell (by exact hl2)).trans a8⟩ | (dsimp only; exact ⟨(B.cell (by exact hl2)).trans a0, (B.cell (by exact hl2)).trans a1, (B.cell (by exact hl2)).trans a2, (B.cell (by exact hl2)).trans a3, (B.cell (by exact hl2)).trans a4, (B.cell (by exact hl2)).trans a5, (B.cell (by exact hl2)).trans a6, (B.cell (by exact hl2)).trans a7, (B.cell (by exact hl2)).trans a8⟩)) (fun hS => ?_)
                                                clear hK K
                                                (try simp only [Act.put, List.setIfInBounds_toArray, List.set_cons_zero, List.set_cons_succ])
                                                refine wpAnyH_listed (l' := #[true, true, false, true, true, true, true, true, true, true, false, true, true, true, true, true, false, true, true, true, true, true, true, true, true, true, false, false, false, false]) (by kernel_rfl) ?_
                                                clear hS
                                                (try clear hwx)
                                                revert J15; revert J9; revert B
                                                generalize (wr.alloc (.cells #[Value.int .i64 j.fr, Value.int .i64 j.ct, Value.int .i64 j.wd] 3)) = wn
                                                generalize wr.heap.size = b9
                                                revert b15; revert b9; revert wn
                                                exact keyq_9_15.out
                                              refine AllReadyH.cons (o := { dst := some 33, op := Op.buildSlice 23 3 #[(0, Operand.tmp 26), (1, Operand.tmp 29), (2, Operand.tmp 32)], type := 23, pos := "l8_desk.go:45", after := #[{ on := 19, ground := Ground.data }, { on := 22, ground := Ground.data }, { on := 25, ground := Ground.data }], guard := none }) rfl (fun K hK => ?_) ?_
                                              · skip
                                                go_simp
                                                replace J15 := Lib.hid (J15.out.bel (bel_alloc wr ((.cells #[Value.int .i64 j.rw, Value.int .i64 j.ac, Value.int .i64 j.wi] 3))))
                                                replace B : Below w2.heap.size w2 (wr.alloc (.cells #[Value.int .i64 j.rw, Value.int .i64 j.ac, Value.int .i64 j.wi] 3)) := bel_trans B (bel_alloc wr _)
                                                have J26 : Hid (Ints (wr.alloc (.cells #[Value.int .i64 j.rw, Value.int .i64 j.ac, Value.int .i64 j.wi] 3)) (Value.slice (some ⟨wr.heap.size, 0, none⟩) 3 3) [j.rw, j.ac, j.wi]) := Lib.hid (lit_ints wr [j.rw, j.ac, j.wi] (by simp) HWF.out.2.2)
                                                refine hK.out _ _ (by first | exact ⟨(B.cell (by exact hl2)).trans a0, (B.cell (by exact hl2)).trans a1, (B.cell (by exact hl2)).trans a2, (B.cell (by exact hl2)).trans a3, (B.cell (by exact hl2)).trans a4, (B.cell (by exact hl2)).trans a5, (B.cell (by exact hl2)).trans a6, (B.cell (by exact hl2)).trans a7, (B.cell (by exact hl2)).trans a8⟩ | (dsimp only; exact ⟨(B.cell (by exact hl2)).trans a0, (B.cell (by exact hl2)).trans a1, (B.cell (by exact hl2)).trans a2, (B.cell (by exact hl2)).trans a3, (B.cell (by exact hl2)).trans a4, (B.cell (by exact hl2)).trans a5, (B.cell (by exact hl2)).trans a6, (B.cell (by exact hl2)).trans a7, (B.cell (by exact hl2)).trans a8⟩)) (fun hS => ?_)
                                                clear hK K
                                                (try simp only [Act.put, List.setIfInBounds_toArray, List.set_cons_zero, List.set_cons_succ])
                                                refine wpAnyH_listed (l' := #[true, true, false, true, true, true, true, true, true, false, false, true, true, true, true, true, false, true, true, true, true, true, true, true, true, true, true, false, false, false]) (by kernel_rfl) ?_
                                                clear hS
                                                (try clear hwx)
                                                revert J26; revert J15; revert B
                                                generalize (wr.alloc (.cells #[Value.int .i64 j.rw, Value.int .i64 j.ac, Value.int .i64 j.wi] 3)) = wn
                                                generalize wr.heap.size = b26
                                                revert b26; revert b15; revert wn
                                                exact keyq_15_26.out
                                              exact AllReadyH.nil
                                          case hkq_26 =>
                                            intro wr b26 B J26
                                            refine wpAnyH_ready (rs := [2, 9, 15]) (by kernel_rfl) (by simp) ?_
                                            refine AllReadyH.cons (o := { dst := some 9, op := Op.call { callee := Callee.value (Operand.func 15), args := #[Operand.tmp 8], argTypes := #[23] }, type := 9, pos := "l8_desk.go:46", after := #[{ on := 1, ground := Ground.data }], guard := none }) rfl (fun K hK => ?_) ?_
                                            · skip
                                              (try go_simp)
                                              go_at_call 15
                                              refine (implFP_any _ j.poly _ (HP.out.bel B) (HT2.out.bel B)).mono ?_
                                              rintro e wn ⟨rfl, b⟩
                                              replace J26 := Lib.hid (J26.out.bel b)
                                              replace B := bel_trans B b
                                              clear b
                                              (try dsimp only)
                                              refine hK.out _ _ (by first | exact ⟨(B.cell (by exact hl2)).trans a0, (B.cell (by exact hl2)).trans a1, (B.cell (by exact hl2)).trans a2, (B.cell (by exact hl2)).trans a3, (B.cell (by exact hl2)).trans a4, (B.cell (by exact hl2)).trans a5, (B.cell (by exact hl2)).trans a6, (B.cell (by exact hl2)).trans a7, (B.cell (by exact hl2)).trans a8⟩ | (dsimp only; exact ⟨(B.cell (by exact hl2)).trans a0, (B.cell (by exact hl2)).trans a1, (B.cell (by exact hl2)).trans a2, (B.cell (by exact hl2)).trans a3, (B.cell (by exact hl2)).trans a4, (B.cell (by exact hl2)).trans a5, (B.cell (by exact hl2)).trans a6, (B.cell (by exact hl2)).trans a7, (B.cell (by exact hl2)).trans a8⟩)) (fun hS => ?_)
                                              clear hK K
                                              (try simp only [Act.put, List.setIfInBounds_toArray, List.set_cons_zero, List.set_cons_succ])
                                              refine wpAnyH_listed (l' := #[true, true, true, true, true, true, true, true, true, false, false, true, true, true, true, false, false, true, true, true, true, true, true, true, true, true, true, false, false, false]) (by kernel_rfl) ?_
                                              clear hS
                                              (try clear hwx)
                                              revert J26; revert B
                                              revert b26; revert wn
                                              exact keyq_2_26.out
                                            refine AllReadyH.cons (o := { dst := some 16, op := Op.buildSlice 23 3 #[(0, Operand.tmp 11), (1, Operand.tmp 13), (2, Operand.tmp 15)], type := 23, pos := "l8_desk.go:45", after := #[{ on := 4, ground := Ground.data }, { on := 6, ground := Ground.data }, { on := 8, ground := Ground.data }], guard := none }) rfl (fun K hK => ?_) ?_
                                            · skip
                                              go_simp
                                              replace J26 := Lib.hid (J26.out.bel (bel_alloc wr ((.cells #[Value.int .i64 j.fr, Value.int .i64 j.ct, Value.int .i64 j.wd] 3))))
                                              replace B : Below w2.heap.size w2 (wr.alloc (.cells #[Value.int .i64 j.fr, Value.int .i64 j.ct, Value.int .i64 j.wd] 3)) := bel_trans B (bel_alloc wr _)
                                              have J9 : Hid (Ints (wr.alloc (.cells #[Value.int .i64 j.fr, Value.int .i64 j.ct, Value.int .i64 j.wd] 3)) (Value.slice (some ⟨wr.heap.size, 0, none⟩) 3 3) [j.fr, j.ct, j.wd]) := Lib.hid (lit_ints wr [j.fr, j.ct, j.wd] (by simp) HWF.out.1)
                                              refine hK.out _ _ (by first | exact ⟨(B.cell (by exact hl2)).trans a0, (B.cell (by exact hl2)).trans a1, (B.cell (by exact hl2)).trans a2, (B.cell (by exact hl2)).trans a3, (B.cell (by exact hl2)).trans a4, (B.cell (by exact hl2)).trans a5, (B.cell (by exact hl2)).trans a6, (B.cell (by exact hl2)).trans a7, (B.cell (by exact hl2)).trans a8⟩ | (dsimp only; exact ⟨(B.cell (by exact hl2)).trans a0, (B.cell (by exact hl2)).trans a1, (B.cell (by exact hl2)).trans a2, (B.cell (by exact hl2)).trans a3, (B.cell (by exact hl2)).trans a4, (B.cell (by exact hl2)).trans a5, (B.cell (by exact hl2)).trans a6, (B.cell (by exact hl2)).trans a7, (B.cell (by exact hl2)).trans a8⟩)) (fun hS => ?_)
                                              clear hK K
                                              (try simp only [Act.put, List.setIfInBounds_toArray, List.set_cons_zero, List.set_cons_succ])
                                              refine wpAnyH_listed (l' := #[true, true, false, true, true, true, true, true, true, true, false, true, true, true, true, false, false, true, true, true, true, true, true, true, true, true, true, false, false, false]) (by kernel_rfl) ?_
                                              clear hS
                                              (try clear hwx)
                                              revert J26; revert J9; revert B
                                              generalize (wr.alloc (.cells #[Value.int .i64 j.fr, Value.int .i64 j.ct, Value.int .i64 j.wd] 3)) = wn
                                              generalize wr.heap.size = b9
                                              revert b26; revert b9; revert wn
                                              exact keyq_9_26.out
                                            refine AllReadyH.cons (o := { dst := some 22, op := Op.buildSlice 23 2 #[(0, Operand.tmp 19), (1, Operand.tmp 21)], type := 23, pos := "l8_desk.go:45", after := #[{ on := 12, ground := Ground.data }, { on := 14, ground := Ground.data }], guard := none }) rfl (fun K hK => ?_) ?_
                                            · skip
                                              go_simp
                                              replace J26 := Lib.hid (J26.out.bel (bel_alloc wr ((.cells #[Value.int .i64 j.dg, Value.int .i64 j.wy] 3))))
                                              replace B : Below w2.heap.size w2 (wr.alloc (.cells #[Value.int .i64 j.dg, Value.int .i64 j.wy] 3)) := bel_trans B (bel_alloc wr _)
                                              have J15 : Hid (Ints (wr.alloc (.cells #[Value.int .i64 j.dg, Value.int .i64 j.wy] 3)) (Value.slice (some ⟨wr.heap.size, 0, none⟩) 2 2) [j.dg, j.wy]) := Lib.hid (lit_ints wr [j.dg, j.wy] (by simp) HWF.out.2.1)
                                              refine hK.out _ _ (by first | exact ⟨(B.cell (by exact hl2)).trans a0, (B.cell (by exact hl2)).trans a1, (B.cell (by exact hl2)).trans a2, (B.cell (by exact hl2)).trans a3, (B.cell (by exact hl2)).trans a4, (B.cell (by exact hl2)).trans a5, (B.cell (by exact hl2)).trans a6, (B.cell (by exact hl2)).trans a7, (B.cell (by exact hl2)).trans a8⟩ | (dsimp only; exact ⟨(B.cell (by exact hl2)).trans a0, (B.cell (by exact hl2)).trans a1, (B.cell (by exact hl2)).trans a2, (B.cell (by exact hl2)).trans a3, (B.cell (by exact hl2)).trans a4, (B.cell (by exact hl2)).trans a5, (B.cell (by exact hl2)).trans a6, (B.cell (by exact hl2)).trans a7, (B.cell (by exact hl2)).trans a8⟩)) (fun hS => ?_)
                                              clear hK K
                                              (try simp only [Act.put, List.setIfInBounds_toArray, List.set_cons_zero, List.set_cons_succ])
                                              refine wpAnyH_listed (l' := #[true, true, false, true, true, true, true, true, true, false, false, true, true, true, true, true, false, true, true, true, true, true, true, true, true, true, true, false, false, false]) (by kernel_rfl) ?_
                                              clear hS
                                              (try clear hwx)
                                              revert J26; revert J15; revert B
                                              generalize (wr.alloc (.cells #[Value.int .i64 j.dg, Value.int .i64 j.wy] 3)) = wn
                                              generalize wr.heap.size = b15
                                              revert b26; revert b15; revert wn
                                              exact keyq_15_26.out
                                            exact AllReadyH.nil
                                        case hkq_2_9 =>
                                          intro wr b9 B J9
                                          refine wpAnyH_ready (rs := [10, 15, 26]) (by kernel_rfl) (by simp) ?_
                                          refine AllReadyH.cons (o := { dst := some 17, op := Op.call { callee := Callee.value (Operand.func 52), args := #[Operand.tmp 16], argTypes := #[23] }, type := 9, pos := "l8_desk.go:47", after := #[{ on := 9, ground := Ground.data }, { on := 2, ground := Ground.chain }], guard := none }) rfl (fun K hK => ?_) ?_
                                          · skip
                                            (try go_simp)
                                            go_at_call 52
                                            refine (show Calls _ _ _ _ (fun e w' => e = .returned (.string (gr1 j)) ∧ Below wr.heap.size wr w') from joinNumbers_any _ [j.fr, j.ct, j.wd] _ J9.out (by simp) (HT2.out.bel B)).mono ?_
                                            rintro e wn ⟨rfl, b⟩
                                            clear J9
                                            replace B := bel_trans B b
                                            clear b
                                            (try dsimp only)
                                            refine hK.out _ _ (by first | exact ⟨(B.cell (by exact hl2)).trans a0, (B.cell (by exact hl2)).trans a1, (B.cell (by exact hl2)).trans a2, (B.cell (by exact hl2)).trans a3, (B.cell (by exact hl2)).trans a4, (B.cell (by exact hl2)).trans a5, (B.cell (by exact hl2)).trans a6, (B.cell (by exact hl2)).trans a7, (B.cell (by exact hl2)).trans a8⟩ | (dsimp only; exact ⟨(B.cell (by exact hl2)).trans a0, (B.cell (by exact hl2)).trans a1, (B.cell (by exact hl2)).trans a2, (B.cell (by exact hl2)).trans a3, (B.cell (by exact hl2)).trans a4, (B.cell (by exact hl2)).trans a5, (B.cell (by exact hl2)).trans a6, (B.cell (by exact hl2)).trans a7, (B.cell (by exact hl2)).trans a8⟩)) (fun hS => ?_)
                                            clear hK K
                                            (try simp only [Act.put, List.setIfInBounds_toArray, List.set_cons_zero, List.set_cons_succ])
                                            refine wpAnyH_listed (l' := #[true, true, true, true, true, true, true, true, true, true, true, true, true, true, true, false, false, true, true, true, true, true, true, true, true, true, false, false, false, false]) (by kernel_rfl) ?_
                                            clear hS
                                            (try clear hwx)
                                            revert B
                                            revert b9; revert wn
                                            exact keyq_2_9_10.out
                                          refine AllReadyH.cons (o := { dst := some 22, op := Op.buildSlice 23 2 #[(0, Operand.tmp 19), (1, Operand.tmp 21)], type := 23, pos := "l8_desk.go:45", after := #[{ on := 12, ground := Ground.data }, { on := 14, ground := Ground.data }], guard := none }) rfl (fun K hK => ?_) ?_
                                          · skip
                                            go_simp
                                            replace J9 := Lib.hid (J9.out.bel (bel_alloc wr ((.cells #[Value.int .i64 j.dg, Value.int .i64 j.wy] 3))))
                                            replace B : Below w2.heap.size w2 (wr.alloc (.cells #[Value.int .i64 j.dg, Value.int .i64 j.wy] 3)) := bel_trans B (bel_alloc wr _)
                                            have J15 : Hid (Ints (wr.alloc (.cells #[Value.int .i64 j.dg, Value.int .i64 j.wy] 3)) (Value.slice (some ⟨wr.heap.size, 0, none⟩) 2 2) [j.dg, j.wy]) := Lib.hid (lit_ints wr [j.dg, j.wy] (by simp) HWF.out.2.1)
                                            refine hK.out _ _ (by first | exact ⟨(B.cell (by exact hl2)).trans a0, (B.cell (by exact hl2)).trans a1, (B.cell (by exact hl2)).trans a2, (B.cell (by exact hl2)).trans a3, (B.cell (by exact hl2)).trans a4, (B.cell (by exact hl2)).trans a5, (B.cell (by exact hl2)).trans a6, (B.cell (by exact hl2)).trans a7, (B.cell (by exact hl2)).trans a8⟩ | (dsimp only; exact ⟨(B.cell (by exact hl2)).trans a0, (B.cell (by exact hl2)).trans a1, (B.cell (by exact hl2)).trans a2, (B.cell (by exact hl2)).trans a3, (B.cell (by exact hl2)).trans a4, (B.cell (by exact hl2)).trans a5, (B.cell (by exact hl2)).trans a6, (B.cell (by exact hl2)).trans a7, (B.cell (by exact hl2)).trans a8⟩)) (fun hS => ?_)
                                            clear hK K
                                            (try simp only [Act.put, List.setIfInBounds_toArray, List.set_cons_zero, List.set_cons_succ])
                                            refine wpAnyH_listed (l' := #[true, true, true, true, true, true, true, true, true, true, false, true, true, true, true, true, false, true, true, true, true, true, true, true, true, true, false, false, false, false]) (by kernel_rfl) ?_
                                            clear hS
                                            (try clear hwx)
                                            revert J15; revert J9; revert B
                                            generalize (wr.alloc (.cells #[Value.int .i64 j.dg, Value.int .i64 j.wy] 3)) = wn
                                            generalize wr.heap.size = b15
                                            revert b15; revert b9; revert wn
                                            exact keyq_2_9_15.out
                                          refine AllReadyH.cons (o := { dst := some 33, op := Op.buildSlice 23 3 #[(0, Operand.tmp 26), (1, Operand.tmp 29), (2, Operand.tmp 32)], type := 23, pos := "l8_desk.go:45", after := #[{ on := 19, ground := Ground.data }, { on := 22, ground := Ground.data }, { on := 25, ground := Ground.data }], guard := none }) rfl (fun K hK => ?_) ?_
                                          · skip
                                            go_simp
                                            replace J9 := Lib.hid (J9.out.bel (bel_alloc wr ((.cells #[Value.int .i64 j.rw, Value.int .i64 j.ac, Value.int .i64 j.wi] 3))))
                                            replace B : Below w2.heap.size w2 (wr.alloc (.cells #[Value.int .i64 j.rw, Value.int .i64 j.ac, Value.int .i64 j.wi] 3)) := bel_trans B (bel_alloc wr _)
                                            have J26 : Hid (Ints (wr.alloc (.cells #[Value.int .i64 j.rw, Value.int .i64 j.ac, Value.int .i64 j.wi] 3)) (Value.slice (some ⟨wr.heap.size, 0, none⟩) 3 3) [j.rw, j.ac, j.wi]) := Lib.hid (lit_ints wr [j.rw, j.ac, j.wi] (by simp) HWF.out.2.2)
                                            refine hK.out _ _ (by first | exact ⟨(B.cell (by exact hl2)).trans a0, (B.cell (by exact hl2)).trans a1, (B.cell (by exact hl2)).trans a2, (B.cell (by exact hl2)).trans a3, (B.cell (by exact hl2)).trans a4, (B.cell (by exact hl2)).trans a5, (B.cell (by exact hl2)).trans a6, (B.cell (by exact hl2)).trans a7, (B.cell (by exact hl2)).trans a8⟩ | (dsimp only; exact ⟨(B.cell (by exact hl2)).trans a0, (B.cell (by exact hl2)).trans a1, (B.cell (by exact hl2)).trans a2, (B.cell (by exact hl2)).trans a3, (B.cell (by exact hl2)).trans a4, (B.cell (by exact hl2)).trans a5, (B.cell (by exact hl2)).trans a6, (B.cell (by exact hl2)).trans a7, (B.cell (by exact hl2)).trans a8⟩)) (fun hS => ?_)
                                            clear hK K
                                            (try simp only [Act.put, List.setIfInBounds_toArray, List.set_cons_zero, List.set_cons_succ])
                                            refine wpAnyH_listed (l' := #[true, true, true, true, true, true, true, true, true, true, false, true, true, true, true, false, false, true, true, true, true, true, true, true, true, true, true, false, false, false]) (by kernel_rfl) ?_
                                            clear hS
                                            (try clear hwx)
                                            revert J26; revert J9; revert B
                                            generalize (wr.alloc (.cells #[Value.int .i64 j.rw, Value.int .i64 j.ac, Value.int .i64 j.wi] 3)) = wn
                                            generalize wr.heap.size = b26
                                            revert b26; revert b9; revert wn
                                            exact keyq_2_9_26.out
                                          exact AllReadyH.nil
                                      case hkq_2_15 =>
                                        intro wr b15 B J15
                                        refine wpAnyH_ready (rs := [9, 26]) (by kernel_rfl) (by simp) ?_
                                        refine AllReadyH.cons (o := { dst := some 16, op := Op.buildSlice 23 3 #[(0, Operand.tmp 11), (1, Operand.tmp 13), (2, Operand.tmp 15)], type := 23, pos := "l8_desk.go:45", after := #[{ on := 4, ground := Ground.data }, { on := 6, ground := Ground.data }, { on := 8, ground := Ground.data }], guard := none }) rfl (fun K hK => ?_) ?_
                                        · skip
                                          go_simp
                                          replace J15 := Lib.hid (J15.out.bel (bel_alloc wr ((.cells #[Value.int .i64 j.fr, Value.int .i64 j.ct, Value.int .i64 j.wd] 3))))
                                          replace B : Below w2.heap.size w2 (wr.alloc (.cells #[Value.int .i64 j.fr, Value.int .i64 j.ct, Value.int .i64 j.wd] 3)) := bel_trans B (bel_alloc wr _)
                                          have J9 : Hid (Ints (wr.alloc (.cells #[Value.int .i64 j.fr, Value.int .i64 j.ct, Value.int .i64 j.wd] 3)) (Value.slice (some ⟨wr.heap.size, 0, none⟩) 3 3) [j.fr, j.ct, j.wd]) := Lib.hid (lit_ints wr [j.fr, j.ct, j.wd] (by simp) HWF.out.1)
                                          refine hK.out _ _ (by first | exact ⟨(B.cell (by exact hl2)).trans a0, (B.cell (by exact hl2)).trans a1, (B.cell (by exact hl2)).trans a2, (B.cell (by exact hl2)).trans a3, (B.cell (by exact hl2)).trans a4, (B.cell (by exact hl2)).trans a5, (B.cell (by exact hl2)).trans a6, (B.cell (by exact hl2)).trans a7, (B.cell (by exact hl2)).trans a8⟩ | (dsimp only; exact ⟨(B.cell (by exact hl2)).trans a0, (B.cell (by exact hl2)).trans a1, (B.cell (by exact hl2)).trans a2, (B.cell (by exact hl2)).trans a3, (B.cell (by exact hl2)).trans a4, (B.cell (by exact hl2)).trans a5, (B.cell (by exact hl2)).trans a6, (B.cell (by exact hl2)).trans a7, (B.cell (by exact hl2)).trans a8⟩)) (fun hS => ?_)
                                          clear hK K
                                          (try simp only [Act.put, List.setIfInBounds_toArray, List.set_cons_zero, List.set_cons_succ])
                                          refine wpAnyH_listed (l' := #[true, true, true, true, true, true, true, true, true, true, false, true, true, true, true, true, false, true, true, true, true, true, true, true, true, true, false, false, false, false]) (by kernel_rfl) ?_
                                          clear hS
                                          (try clear hwx)
                                          revert J15; revert J9; revert B
                                          generalize (wr.alloc (.cells #[Value.int .i64 j.fr, Value.int .i64 j.ct, Value.int .i64 j.wd] 3)) = wn
                                          generalize wr.heap.size = b9
                                          revert b15; revert b9; revert wn
                                          exact keyq_2_9_15.out
                                        refine AllReadyH.cons (o := { dst := some 33, op := Op.buildSlice 23 3 #[(0, Operand.tmp 26), (1, Operand.tmp 29), (2, Operand.tmp 32)], type := 23, pos := "l8_desk.go:45", after := #[{ on := 19, ground := Ground.data }, { on := 22, ground := Ground.data }, { on := 25, ground := Ground.data }], guard := none }) rfl (fun K hK => ?_) ?_
                                        · skip
                                          go_simp
                                          replace J15 := Lib.hid (J15.out.bel (bel_alloc wr ((.cells #[Value.int .i64 j.rw, Value.int .i64 j.ac, Value.int .i64 j.wi] 3))))
                                          replace B : Below w2.heap.size w2 (wr.alloc (.cells #[Value.int .i64 j.rw, Value.int .i64 j.ac, Value.int .i64 j.wi] 3)) := bel_trans B (bel_alloc wr _)
                                          have J26 : Hid (Ints (wr.alloc (.cells #[Value.int .i64 j.rw, Value.int .i64 j.ac, Value.int .i64 j.wi] 3)) (Value.slice (some ⟨wr.heap.size, 0, none⟩) 3 3) [j.rw, j.ac, j.wi]) := Lib.hid (lit_ints wr [j.rw, j.ac, j.wi] (by simp) HWF.out.2.2)
                                          refine hK.out _ _ (by first | exact ⟨(B.cell (by exact hl2)).trans a0, (B.cell (by exact hl2)).trans a1, (B.cell (by exact hl2)).trans a2, (B.cell (by exact hl2)).trans a3, (B.cell (by exact hl2)).trans a4, (B.cell (by exact hl2)).trans a5, (B.cell (by exact hl2)).trans a6, (B.cell (by exact hl2)).trans a7, (B.cell (by exact hl2)).trans a8⟩ | (dsimp only; exact ⟨(B.cell (by exact hl2)).trans a0, (B.cell (by exact hl2)).trans a1, (B.cell (by exact hl2)).trans a2, (B.cell (by exact hl2)).trans a3, (B.cell (by exact hl2)).trans a4, (B.cell (by exact hl2)).trans a5, (B.cell (by exact hl2)).trans a6, (B.cell (by exact hl2)).trans a7, (B.cell (by exact hl2)).trans a8⟩)) (fun hS => ?_)
                                          clear hK K
                                          (try simp only [Act.put, List.setIfInBounds_toArray, List.set_cons_zero, List.set_cons_succ])
                                          refine wpAnyH_listed (l' := #[true, true, true, true, true, true, true, true, true, false, false, true, true, true, true, true, false, true, true, true, true, true, true, true, true, true, true, false, false, false]) (by kernel_rfl) ?_
                                          clear hS
                                          (try clear hwx)
                                          revert J26; revert J15; revert B
                                          generalize (wr.alloc (.cells #[Value.int .i64 j.rw, Value.int .i64 j.ac, Value.int .i64 j.wi] 3)) = wn
                                          generalize wr.heap.size = b26
                                          revert b26; revert b15; revert wn
                                          exact keyq_2_15_26.out
                                        exact AllReadyH.nil
                                    case hkq_2_26 =>
                                      intro wr b26 B J26
                                      refine wpAnyH_ready (rs := [9, 15]) (by kernel_rfl) (by simp) ?_
                                      refine AllReadyH.cons (o := { dst := some 16, op := Op.buildSlice 23 3 #[(0, Operand.tmp 11), (1, Operand.tmp 13), (2, Operand.tmp 15)], type := 23, pos := "l8_desk.go:45", after := #[{ on := 4, ground := Ground.data }, { on := 6, ground := Ground.data }, { on := 8, ground := Ground.data }], guard := none }) rfl (fun K hK => ?_) ?_
                                      · skip
                                        go_simp
                                        replace J26 := Lib.hid (J26.out.bel (bel_alloc wr ((.cells #[Value.int .i64 j.fr, Value.int .i64 j.ct, Value.int .i64 j.wd] 3))))
                                        replace B : Below w2.heap.size w2 (wr.alloc (.cells #[Value.int .i64 j.fr, Value.int .i64 j.ct, Value.int .i64 j.wd] 3)) := bel_trans B (bel_alloc wr _)
                                        have J9 : Hid (Ints (wr.alloc (.cells #[Value.int .i64 j.fr, Value.int .i64 j.ct, Value.int .i64 j.wd] 3)) (Value.slice (some ⟨wr.heap.size, 0, none⟩) 3 3) [j.fr, j.ct, j.wd]) := Lib.hid (lit_ints wr [j.fr, j.ct, j.wd] (by simp) HWF.out.1)
                                        refine hK.out _ _ (by first | exact ⟨(B.cell (by exact hl2)).trans a0, (B.cell (by exact hl2)).trans a1, (B.cell (by exact hl2)).trans a2, (B.cell (by exact hl2)).trans a3, (B.cell (by exact hl2)).trans a4, (B.cell (by exact hl2)).trans a5, (B.cell (by exact hl2)).trans a6, (B.cell (by exact hl2)).trans a7, (B.cell (by exact hl2)).trans a8⟩ | (dsimp only; exact ⟨(B.cell (by exact hl2)).trans a0, (B.cell (by exact hl2)).trans a1, (B.cell (by exact hl2)).trans a2, (B.cell (by exact hl2)).trans a3, (B.cell (by exact hl2)).trans a4, (B.cell (by exact hl2)).trans a5, (B.cell (by exact hl2)).trans a6, (B.cell (by exact hl2)).trans a7, (B.cell (by exact hl2)).trans a8⟩)) (fun hS => ?_)
                                        clear hK K
                                        (try simp only [Act.put, List.setIfInBounds_toArray, List.set_cons_zero, List.set_cons_succ])
                                        refine wpAnyH_listed (l' := #[true, true, true, true, true, true, true, true, true, true, false, true, true, true, true, false, false, true, true, true, true, true, true, true, true, true, true, false, false, false]) (by kernel_rfl) ?_
                                        clear hS
                                        (try clear hwx)
                                        revert J26; revert J9; revert B
                                        generalize (wr.alloc (.cells #[Value.int .i64 j.fr, Value.int .i64 j.ct, Value.int .i64 j.wd] 3)) = wn
                                        generalize wr.heap.size = b9
                                        revert b26; revert b9; revert wn
                                        exact keyq_2_9_26.out
                                      refine AllReadyH.cons (o := { dst := some 22, op := Op.buildSlice 23 2 #[(0, Operand.tmp 19), (1, Operand.tmp 21)], type := 23, pos := "l8_desk.go:45", after := #[{ on := 12, ground := Ground.data }, { on := 14, ground := Ground.data }], guard := none }) rfl (fun K hK => ?_) ?_
                                      · skip
                                        go_simp
                                        replace J26 := Lib.hid (J26.out.bel (bel_alloc wr ((.cells #[Value.int .i64 j.dg, Value.int .i64 j.wy] 3))))
                                        replace B : Below w2.heap.size w2 (wr.alloc (.cells #[Value.int .i64 j.dg, Value.int .i64 j.wy] 3)) := bel_trans B (bel_alloc wr _)
                                        have J15 : Hid (Ints (wr.alloc (.cells #[Value.int .i64 j.dg, Value.int .i64 j.wy] 3)) (Value.slice (some ⟨wr.heap.size, 0, none⟩) 2 2) [j.dg, j.wy]) := Lib.hid (lit_ints wr [j.dg, j.wy] (by simp) HWF.out.2.1)
                                        refine hK.out _ _ (by first | exact ⟨(B.cell (by exact hl2)).trans a0, (B.cell (by exact hl2)).trans a1, (B.cell (by exact hl2)).trans a2, (B.cell (by exact hl2)).trans a3, (B.cell (by exact hl2)).trans a4, (B.cell (by exact hl2)).trans a5, (B.cell (by exact hl2)).trans a6, (B.cell (by exact hl2)).trans a7, (B.cell (by exact hl2)).trans a8⟩ | (dsimp only; exact ⟨(B.cell (by exact hl2)).trans a0, (B.cell (by exact hl2)).trans a1, (B.cell (by exact hl2)).trans a2, (B.cell (by exact hl2)).trans a3, (B.cell (by exact hl2)).trans a4, (B.cell (by exact hl2)).trans a5, (B.cell (by exact hl2)).trans a6, (B.cell (by exact hl2)).trans a7, (B.cell (by exact hl2)).trans a8⟩)) (fun hS => ?_)
                                        clear hK K
                                        (try simp only [Act.put, List.setIfInBounds_toArray, List.set_cons_zero, List.set_cons_succ])
                                        refine wpAnyH_listed (l' := #[true, true, true, true, true, true, true, true, true, false, false, true, true, true, true, true, false, true, true, true, true, true, true, true, true, true, true, false, false, false]) (by kernel_rfl) ?_
                                        clear hS
                                        (try clear hwx)
                                        revert J26; revert J15; revert B
                                        generalize (wr.alloc (.cells #[Value.int .i64 j.dg, Value.int .i64 j.wy] 3)) = wn
                                        generalize wr.heap.size = b15
                                        revert b26; revert b15; revert wn
                                        exact keyq_2_15_26.out
                                      exact AllReadyH.nil
                                  case hkq_9_15 =>
                                    intro wr b9 b15 B J9 J15
                                    refine wpAnyH_ready (rs := [2, 26]) (by kernel_rfl) (by simp) ?_
                                    refine AllReadyH.cons (o := { dst := some 9, op := Op.call { callee := Callee.value (Operand.func 15), args := #[Operand.tmp 8], argTypes := #[23] }, type := 9, pos := "l8_desk.go:46", after := #[{ on := 1, ground := Ground.data }], guard := none }) rfl (fun K hK => ?_) ?_
                                    · skip
                                      (try go_simp)
                                      go_at_call 15
                                      refine (implFP_any _ j.poly _ (HP.out.bel B) (HT2.out.bel B)).mono ?_
                                      rintro e wn ⟨rfl, b⟩
                                      replace J9 := Lib.hid (J9.out.bel b)
                                      replace J15 := Lib.hid (J15.out.bel b)
                                      replace B := bel_trans B b
                                      clear b
                                      (try dsimp only)
                                      refine hK.out _ _ (by first | exact ⟨(B.cell (by exact hl2)).trans a0, (B.cell (by exact hl2)).trans a1, (B.cell (by exact hl2)).trans a2, (B.cell (by exact hl2)).trans a3, (B.cell (by exact hl2)).trans a4, (B.cell (by exact hl2)).trans a5, (B.cell (by exact hl2)).trans a6, (B.cell (by exact hl2)).trans a7, (B.cell (by exact hl2)).trans a8⟩ | (dsimp only; exact ⟨(B.cell (by exact hl2)).trans a0, (B.cell (by exact hl2)).trans a1, (B.cell (by exact hl2)).trans a2, (B.cell (by exact hl2)).trans a3, (B.cell (by exact hl2)).trans a4, (B.cell (by exact hl2)).trans a5, (B.cell (by exact hl2)).trans a6, (B.cell (by exact hl2)).trans a7, (B.cell (by exact hl2)).trans a8⟩)) (fun hS => ?_)
                                      clear hK K
                                      (try simp only [Act.put, List.setIfInBounds_toArray, List.set_cons_zero, List.set_cons_succ])
                                      refine wpAnyH_listed (l' := #[true, true, true, true, true, true, true, true, true, true, false, true, true, true, true, true, false, true, true, true, true, true, true, true, true, true, false, false, false, false]) (by kernel_rfl) ?_
                                      clear hS
                                      (try clear hwx)
                                      revert J15; revert J9; revert B
                                      revert b15; revert b9; revert wn
                                      exact keyq_2_9_15.out
                                    refine AllReadyH.cons (o := { dst := some 33, op := Op.buildSlice 23 3 #[(0, Operand.tmp 26), (1, Operand.tmp 29), (2, Operand.tmp 32)], type := 23, pos := "l8_desk.go:45", after := #[{ on := 19, ground := Ground.data }, { on := 22, ground := Ground.data }, { on := 25, ground := Ground.data }], guard := none }) rfl (fun K hK => ?_) ?_
                                    · skip
                                      go_simp
                                      replace J9 := Lib.hid (J9.out.bel (bel_alloc wr ((.cells #[Value.int .i64 j.rw, Value.int .i64 j.ac, Value.int .i64 j.wi] 3))))
                                      replace J15 := Lib.hid (J15.out.bel (bel_alloc wr ((.cells #[Value.int .i64 j.rw, Value.int .i64 j.ac, Value.int .i64 j.wi] 3))))
                                      replace B : Below w2.heap.size w2 (wr.alloc (.cells #[Value.int .i64 j.rw, Value.int .i64 j.ac, Value.int .i64 j.wi] 3)) := bel_trans B (bel_alloc wr _)
                                      have J26 : Hid (Ints (wr.alloc (.cells #[Value.int .i64 j.rw, Value.int .i64 j.ac, Value.int .i64 j.wi] 3)) (Value.slice (some ⟨wr.heap.size, 0, none⟩) 3 3) [j.rw, j.ac, j.wi]) := Lib.hid (lit_ints wr [j.rw, j.ac, j.wi] (by simp) HWF.out.2.2)
                                      refine hK.out _ _ (by first | exact ⟨(B.cell (by exact hl2)).trans a0, (B.cell (by exact hl2)).trans a1, (B.cell (by exact hl2)).trans a2, (B.cell (by exact hl2)).trans a3, (B.cell (by exact hl2)).trans a4, (B.cell (by exact hl2)).trans a5, (B.cell (by exact hl2)).trans a6, (B.cell (by exact hl2)).trans a7, (B.cell (by exact hl2)).trans a8⟩ | (dsimp only; exact ⟨(B.cell (by exact hl2)).trans a0, (B.cell (by exact hl2)).trans a1, (B.cell (by exact hl2)).trans a2, (B.cell (by exact hl2)).trans a3, (B.cell (by exact hl2)).trans a4, (B.cell (by exact hl2)).trans a5, (B.cell (by exact hl2)).trans a6, (B.cell (by exact hl2)).trans a7, (B.cell (by exact hl2)).trans a8⟩)) (fun hS => ?_)
                                      clear hK K
                                      (try simp only [Act.put, List.setIfInBounds_toArray, List.set_cons_zero, List.set_cons_succ])
                                      refine wpAnyH_listed (l' := #[true, true, false, true, true, true, true, true, true, true, false, true, true, true, true, true, false, true, true, true, true, true, true, true, true, true, true, false, false, false]) (by kernel_rfl) ?_
                                      clear hS
                                      (try clear hwx)
                                      revert J26; revert J15; revert J9; revert B
                                      generalize (wr.alloc (.cells #[Value.int .i64 j.rw, Value.int .i64 j.ac, Value.int .i64 j.wi] 3)) = wn
                                      generalize wr.heap.size = b26
                                      revert b26; revert b15; revert b9; revert wn
                                      exact keyq_9_15_26.out
                                    exact AllReadyH.nil
                                case hkq_9_26 =>
                                  intro wr b9 b26 B J9 J26
                                  refine wpAnyH_ready (rs := [2, 15]) (by kernel_rfl) (by simp) ?_
                                  refine AllReadyH.cons (o := { dst := some 9, op := Op.call { callee := Callee.value (Operand.func 15), args := #[Operand.tmp 8], argTypes := #[23] }, type := 9, pos := "l8_desk.go:46", after := #[{ on := 1, ground := Ground.data }], guard := none }) rfl (fun K hK => ?_) ?_
                                  · skip
                                    (try go_simp)
                                    go_at_call 15
                                    refine (implFP_any _ j.poly _ (HP.out.bel B) (HT2.out.bel B)).mono ?_
                                    rintro e wn ⟨rfl, b⟩
                                    replace J9 := Lib.hid (J9.out.bel b)
                                    replace J26 := Lib.hid (J26.out.bel b)
                                    replace B := bel_trans B b
                                    clear b
                                    (try dsimp only)
                                    refine hK.out _ _ (by first | exact ⟨(B.cell (by exact hl2)).trans a0, (B.cell (by exact hl2)).trans a1, (B.cell (by exact hl2)).trans a2, (B.cell (by exact hl2)).trans a3, (B.cell (by exact hl2)).trans a4, (B.cell (by exact hl2)).trans a5, (B.cell (by exact hl2)).trans a6, (B.cell (by exact hl2)).trans a7, (B.cell (by exact hl2)).trans a8⟩ | (dsimp only; exact ⟨(B.cell (by exact hl2)).trans a0, (B.cell (by exact hl2)).trans a1, (B.cell (by exact hl2)).trans a2, (B.cell (by exact hl2)).trans a3, (B.cell (by exact hl2)).trans a4, (B.cell (by exact hl2)).trans a5, (B.cell (by exact hl2)).trans a6, (B.cell (by exact hl2)).trans a7, (B.cell (by exact hl2)).trans a8⟩)) (fun hS => ?_)
                                    clear hK K
                                    (try simp only [Act.put, List.setIfInBounds_toArray, List.set_cons_zero, List.set_cons_succ])
                                    refine wpAnyH_listed (l' := #[true, true, true, true, true, true, true, true, true, true, false, true, true, true, true, false, false, true, true, true, true, true, true, true, true, true, true, false, false, false]) (by kernel_rfl) ?_
                                    clear hS
                                    (try clear hwx)
                                    revert J26; revert J9; revert B
                                    revert b26; revert b9; revert wn
                                    exact keyq_2_9_26.out
                                  refine AllReadyH.cons (o := { dst := some 22, op := Op.buildSlice 23 2 #[(0, Operand.tmp 19), (1, Operand.tmp 21)], type := 23, pos := "l8_desk.go:45", after := #[{ on := 12, ground := Ground.data }, { on := 14, ground := Ground.data }], guard := none }) rfl (fun K hK => ?_) ?_
                                  · skip
                                    go_simp
                                    replace J9 := Lib.hid (J9.out.bel (bel_alloc wr ((.cells #[Value.int .i64 j.dg, Value.int .i64 j.wy] 3))))
                                    replace J26 := Lib.hid (J26.out.bel (bel_alloc wr ((.cells #[Value.int .i64 j.dg, Value.int .i64 j.wy] 3))))
                                    replace B : Below w2.heap.size w2 (wr.alloc (.cells #[Value.int .i64 j.dg, Value.int .i64 j.wy] 3)) := bel_trans B (bel_alloc wr _)
                                    have J15 : Hid (Ints (wr.alloc (.cells #[Value.int .i64 j.dg, Value.int .i64 j.wy] 3)) (Value.slice (some ⟨wr.heap.size, 0, none⟩) 2 2) [j.dg, j.wy]) := Lib.hid (lit_ints wr [j.dg, j.wy] (by simp) HWF.out.2.1)
                                    refine hK.out _ _ (by first | exact ⟨(B.cell (by exact hl2)).trans a0, (B.cell (by exact hl2)).trans a1, (B.cell (by exact hl2)).trans a2, (B.cell (by exact hl2)).trans a3, (B.cell (by exact hl2)).trans a4, (B.cell (by exact hl2)).trans a5, (B.cell (by exact hl2)).trans a6, (B.cell (by exact hl2)).trans a7, (B.cell (by exact hl2)).trans a8⟩ | (dsimp only; exact ⟨(B.cell (by exact hl2)).trans a0, (B.cell (by exact hl2)).trans a1, (B.cell (by exact hl2)).trans a2, (B.cell (by exact hl2)).trans a3, (B.cell (by exact hl2)).trans a4, (B.cell (by exact hl2)).trans a5, (B.cell (by exact hl2)).trans a6, (B.cell (by exact hl2)).trans a7, (B.cell (by exact hl2)).trans a8⟩)) (fun hS => ?_)
                                    clear hK K
                                    (try simp only [Act.put, List.setIfInBounds_toArray, List.set_cons_zero, List.set_cons_succ])
                                    refine wpAnyH_listed (l' := #[true, true, false, true, true, true, true, true, true, true, false, true, true, true, true, true, false, true, true, true, true, true, true, true, true, true, true, false, false, false]) (by kernel_rfl) ?_
                                    clear hS
                                    (try clear hwx)
                                    revert J26; revert J15; revert J9; revert B
                                    generalize (wr.alloc (.cells #[Value.int .i64 j.dg, Value.int .i64 j.wy] 3)) = wn
                                    generalize wr.heap.size = b15
                                    revert b26; revert b15; revert b9; revert wn
                                    exact keyq_9_15_26.out
                                  exact AllReadyH.nil
                              case hkq_15_26 =>
                                intro wr b15 b26 B J15 J26
                                refine wpAnyH_ready (rs := [2, 9]) (by kernel_rfl) (by simp) ?_
                                refine AllReadyH.cons (o := { dst := some 9, op := Op.call { callee := Callee.value (Operand.func 15), args := #[Operand.tmp 8], argTypes := #[23] }, type := 9, pos := "l8_desk.go:46", after := #[{ on := 1, ground := Ground.data }], guard := none }) rfl (fun K hK => ?_) ?_
                                · skip
                                  (try go_simp)
                                  go_at_call 15
                                  refine (implFP_any _ j.poly _ (HP.out.bel B) (HT2.out.bel B)).mono ?_
                                  rintro e wn ⟨rfl, b⟩
                                  replace J15 := Lib.hid (J15.out.bel b)
                                  replace J26 := Lib.hid (J26.out.bel b)
                                  replace B := bel_trans B b
                                  clear b
                                  (try dsimp only)
                                  refine hK.out _ _ (by first | exact ⟨(B.cell (by exact hl2)).trans a0, (B.cell (by exact hl2)).trans a1, (B.cell (by exact hl2)).trans a2, (B.cell (by exact hl2)).trans a3, (B.cell (by exact hl2)).trans a4, (B.cell (by exact hl2)).trans a5, (B.cell (by exact hl2)).trans a6, (B.cell (by exact hl2)).trans a7, (B.cell (by exact hl2)).trans a8⟩ | (dsimp only; exact ⟨(B.cell (by exact hl2)).trans a0, (B.cell (by exact hl2)).trans a1, (B.cell (by exact hl2)).trans a2, (B.cell (by exact hl2)).trans a3, (B.cell (by exact hl2)).trans a4, (B.cell (by exact hl2)).trans a5, (B.cell (by exact hl2)).trans a6, (B.cell (by exact hl2)).trans a7, (B.cell (by exact hl2)).trans a8⟩)) (fun hS => ?_)
                                  clear hK K
                                  (try simp only [Act.put, List.setIfInBounds_toArray, List.set_cons_zero, List.set_cons_succ])
                                  refine wpAnyH_listed (l' := #[true, true, true, true, true, true, true, true, true, false, false, true, true, true, true, true, false, true, true, true, true, true, true, true, true, true, true, false, false, false]) (by kernel_rfl) ?_
                                  clear hS
                                  (try clear hwx)
                                  revert J26; revert J15; revert B
                                  revert b26; revert b15; revert wn
                                  exact keyq_2_15_26.out
                                refine AllReadyH.cons (o := { dst := some 16, op := Op.buildSlice 23 3 #[(0, Operand.tmp 11), (1, Operand.tmp 13), (2, Operand.tmp 15)], type := 23, pos := "l8_desk.go:45", after := #[{ on := 4, ground := Ground.data }, { on := 6, ground := Ground.data }, { on := 8, ground := Ground.data }], guard := none }) rfl (fun K hK => ?_) ?_
                                · skip
                                  go_simp
                                  replace J15 := Lib.hid (J15.out.bel (bel_alloc wr ((.cells #[Value.int .i64 j.fr, Value.int .i64 j.ct, Value.int .i64 j.wd] 3))))
                                  replace J26 := Lib.hid (J26.out.bel (bel_alloc wr ((.cells #[Value.int .i64 j.fr, Value.int .i64 j.ct, Value.int .i64 j.wd] 3))))
                                  replace B : Below w2.heap.size w2 (wr.alloc (.cells #[Value.int .i64 j.fr, Value.int .i64 j.ct, Value.int .i64 j.wd] 3)) := bel_trans B (bel_alloc wr _)
                                  have J9 : Hid (Ints (wr.alloc (.cells #[Value.int .i64 j.fr, Value.int .i64 j.ct, Value.int .i64 j.wd] 3)) (Value.slice (some ⟨wr.heap.size, 0, none⟩) 3 3) [j.fr, j.ct, j.wd]) := Lib.hid (lit_ints wr [j.fr, j.ct, j.wd] (by simp) HWF.out.1)
                                  refine hK.out _ _ (by first | exact ⟨(B.cell (by exact hl2)).trans a0, (B.cell (by exact hl2)).trans a1, (B.cell (by exact hl2)).trans a2, (B.cell (by exact hl2)).trans a3, (B.cell (by exact hl2)).trans a4, (B.cell (by exact hl2)).trans a5, (B.cell (by exact hl2)).trans a6, (B.cell (by exact hl2)).trans a7, (B.cell (by exact hl2)).trans a8⟩ | (dsimp only; exact ⟨(B.cell (by exact hl2)).trans a0, (B.cell (by exact hl2)).trans a1, (B.cell (by exact hl2)).trans a2, (B.cell (by exact hl2)).trans a3, (B.cell (by exact hl2)).trans a4, (B.cell (by exact hl2)).trans a5, (B.cell (by exact hl2)).trans a6, (B.cell (by exact hl2)).trans a7, (B.cell (by exact hl2)).trans a8⟩)) (fun hS => ?_)
                                  clear hK K
                                  (try simp only [Act.put, List.setIfInBounds_toArray, List.set_cons_zero, List.set_cons_succ])
                                  refine wpAnyH_listed (l' := #[true, true, false, true, true, true, true, true, true, true, false, true, true, true, true, true, false, true, true, true, true, true, true, true, true, true, true, false, false, false]) (by kernel_rfl) ?_
                                  clear hS
                                  (try clear hwx)
                                  revert J26; revert J15; revert J9; revert B
                                  generalize (wr.alloc (.cells #[Value.int .i64 j.fr, Value.int .i64 j.ct, Value.int .i64 j.wd] 3)) = wn
                                  generalize wr.heap.size = b9
                                  revert b26; revert b15; revert b9; revert wn
                                  exact keyq_9_15_26.out
                                exact AllReadyH.nil
                            case hkq_2_9_10 =>
                              intro wr b9 B
                              refine wpAnyH_ready (rs := [15, 26]) (by kernel_rfl) (by simp) ?_
                              refine AllReadyH.cons (o := { dst := some 22, op := Op.buildSlice 23 2 #[(0, Operand.tmp 19), (1, Operand.tmp 21)], type := 23, pos := "l8_desk.go:45", after := #[{ on := 12, ground := Ground.data }, { on := 14, ground := Ground.data }], guard := none }) rfl (fun K hK => ?_) ?_
                              · skip
                                go_simp
                                replace B : Below w2.heap.size w2 (wr.alloc (.cells #[Value.int .i64 j.dg, Value.int .i64 j.wy] 3)) := bel_trans B (bel_alloc wr _)
                                have J15 : Hid (Ints (wr.alloc (.cells #[Value.int .i64 j.dg, Value.int .i64 j.wy] 3)) (Value.slice (some ⟨wr.heap.size, 0, none⟩) 2 2) [j.dg, j.wy]) := Lib.hid (lit_ints wr [j.dg, j.wy] (by simp) HWF.out.2.1)
                                refine hK.out _ _ (by first | exact ⟨(B.cell (by exact hl2)).trans a0, (B.cell (by exact hl2)).trans a1, (B.cell (by exact hl2)).trans a2, (B.cell (by exact hl2)).trans a3, (B.cell (by exact hl2)).trans a4, (B.cell (by exact hl2)).trans a5, (B.cell (by exact hl2)).trans a6, (B.cell (by exact hl2)).trans a7, (B.cell (by exact hl2)).trans a8⟩ | (dsimp only; exact ⟨(B.cell (by exact hl2)).trans a0, (B.cell (by exact hl2)).trans a1, (B.cell (by exact hl2)).trans a2, (B.cell (by exact hl2)).trans a3, (B.cell (by exact hl2)).trans a4, (B.cell (by exact hl2)).trans a5, (B.cell (by exact hl2)).trans a6, (B.cell (by exact hl2)).trans a7, (B.cell (by exact hl2)).trans a8⟩)) (fun hS => ?_)
                                clear hK K
                                (try simp only [Act.put, List.setIfInBounds_toArray, List.set_cons_zero, List.set_cons_succ])
                                refine wpAnyH_listed (l' := #[true, true, true, true, true, true, true, true, true, true, true, true, true, true, true, true, false, true, true, true, true, true, true, true, true, true, false, false, false, false]) (by kernel_rfl) ?_
                                clear hS
                                (try clear hwx)
                                revert J15; revert B
                                generalize (wr.alloc (.cells #[Value.int .i64 j.dg, Value.int .i64 j.wy] 3)) = wn
                                generalize wr.heap.size = b15
                                revert b15; revert b9; revert wn
                                exact keyq_2_9_10_15.out
                              refine AllReadyH.cons (o := { dst := some 33, op := Op.buildSlice 23 3 #[(0, Operand.tmp 26), (1, Operand.tmp 29), (2, Operand.tmp 32)], type := 23, pos := "l8_desk.go:45", after := #[{ on := 19, ground := Ground.data }, { on := 22, ground := Ground.data }, { on := 25, ground := Ground.data }], guard := none }) rfl (fun K hK => ?_) ?_
                              · skip
                                go_simp
                                replace B : Below w2.heap.size w2 (wr.alloc (.cells #[Value.int .i64 j.rw, Value.int .i64 j.ac, Value.int .i64 j.wi] 3)) := bel_trans B (bel_alloc wr _)
                                have J26 : Hid (Ints (wr.alloc (.cells #[Value.int .i64 j.rw, Value.int .i64 j.ac, Value.int .i64 j.wi] 3)) (Value.slice (some ⟨wr.heap.size, 0, none⟩) 3 3) [j.rw, j.ac, j.wi]) := Lib.hid (lit_ints wr [j.rw, j.ac, j.wi] (by simp) HWF.out.2.2)
                                refine hK.out _ _ (by first | exact ⟨(B.cell (by exact hl2)).trans a0, (B.cell (by exact hl2)).trans a1, (B.cell (by exact hl2)).trans a2, (B.cell (by exact hl2)).trans a3, (B.cell (by exact hl2)).trans a4, (B.cell (by exact hl2)).trans a5, (B.cell (by exact hl2)).trans a6, (B.cell (by exact hl2)).trans a7, (B.cell (by exact hl2)).trans a8⟩ | (dsimp only; exact ⟨(B.cell (by exact hl2)).trans a0, (B.cell (by exact hl2)).trans a1, (B.cell (by exact hl2)).trans a2, (B.cell (by exact hl2)).trans a3, (B.cell (by exact hl2)).trans a4, (B.cell (by exact hl2)).trans a5, (B.cell (by exact hl2)).trans a6, (B.cell (by exact hl2)).trans a7, (B.cell (by exact hl2)).trans a8⟩)) (fun hS => ?_)
                                clear hK K
                                (try simp only [Act.put, List.setIfInBounds_toArray, List.set_cons_zero, List.set_cons_succ])
                                refine wpAnyH_listed (l' := #[true, true, true, true, true, true, true, true, true, true, true, true, true, true, true, false, false, true, true, true, true, true, true, true, true, true, true, false, false, false]) (by kernel_rfl) ?_
                                clear hS
                                (try clear hwx)
                                revert J26; revert B
                                generalize (wr.alloc (.cells #[Value.int .i64 j.rw, Value.int .i64 j.ac, Value.int .i64 j.wi] 3)) = wn
                                generalize wr.heap.size = b26
                                revert b26; revert b9; revert wn
                                exact keyq_2_9_10_26.out
                              exact AllReadyH.nil
                          case hkq_2_9_15 =>
                            intro wr b9 b15 B J9 J15
                            refine wpAnyH_ready (rs := [10, 26]) (by kernel_rfl) (by simp) ?_
                            refine AllReadyH.cons (o := { dst := some 17, op := Op.call { callee := Callee.value (Operand.func 52), args := #[Operand.tmp 16], argTypes := #[23] }, type := 9, pos := "l8_desk.go:47", after := #[{ on := 9, ground := Ground.data }, { on := 2, ground := Ground.chain }], guard := none }) rfl (fun K hK => ?_) ?_
                            · skip
                              (try go_simp)
                              go_at_call 52
                              refine (show Calls _ _ _ _ (fun e w' => e = .returned (.string (gr1 j)) ∧ Below wr.heap.size wr w') from joinNumbers_any _ [j.fr, j.ct, j.wd] _ J9.out (by simp) (HT2.out.bel B)).mono ?_
                              rintro e wn ⟨rfl, b⟩
                              clear J9
                              replace J15 := Lib.hid (J15.out.bel b)
                              replace B := bel_trans B b
                              clear b
                              (try dsimp only)
                              refine hK.out _ _ (by first | exact ⟨(B.cell (by exact hl2)).trans a0, (B.cell (by exact hl2)).trans a1, (B.cell (by exact hl2)).trans a2, (B.cell (by exact hl2)).trans a3, (B.cell (by exact hl2)).trans a4, (B.cell (by exact hl2)).trans a5, (B.cell (by exact hl2)).trans a6, (B.cell (by exact hl2)).trans a7, (B.cell (by exact hl2)).trans a8⟩ | (dsimp only; exact ⟨(B.cell (by exact hl2)).trans a0, (B.cell (by exact hl2)).trans a1, (B.cell (by exact hl2)).trans a2, (B.cell (by exact hl2)).trans a3, (B.cell (by exact hl2)).trans a4, (B.cell (by exact hl2)).trans a5, (B.cell (by exact hl2)).trans a6, (B.cell (by exact hl2)).trans a7, (B.cell (by exact hl2)).trans a8⟩)) (fun hS => ?_)
                              clear hK K
                              (try simp only [Act.put, List.setIfInBounds_toArray, List.set_cons_zero, List.set_cons_succ])
                              refine wpAnyH_listed (l' := #[true, true, true, true, true, true, true, true, true, true, true, true, true, true, true, true, false, true, true, true, true, true, true, true, true, true, false, false, false, false]) (by kernel_rfl) ?_
                              clear hS
                              (try clear hwx)
                              revert J15; revert B
                              revert b15; revert b9; revert wn
                              exact keyq_2_9_10_15.out
                            refine AllReadyH.cons (o := { dst := some 33, op := Op.buildSlice 23 3 #[(0, Operand.tmp 26), (1, Operand.tmp 29), (2, Operand.tmp 32)], type := 23, pos := "l8_desk.go:45", after := #[{ on := 19, ground := Ground.data }, { on := 22, ground := Ground.data }, { on := 25, ground := Ground.data }], guard := none }) rfl (fun K hK => ?_) ?_
                            · skip
                              go_simp
                              replace J9 := Lib.hid (J9.out.bel (bel_alloc wr ((.cells #[Value.int .i64 j.rw, Value.int .i64 j.ac, Value.int .i64 j.wi] 3))))
                              replace J15 := Lib.hid (J15.out.bel (bel_alloc wr ((.cells #[Value.int .i64 j.rw, Value.int .i64 j.ac, Value.int .i64 j.wi] 3))))
                              replace B : Below w2.heap.size w2 (wr.alloc (.cells #[Value.int .i64 j.rw, Value.int .i64 j.ac, Value.int .i64 j.wi] 3)) := bel_trans B (bel_alloc wr _)
                              have J26 : Hid (Ints (wr.alloc (.cells #[Value.int .i64 j.rw, Value.int .i64 j.ac, Value.int .i64 j.wi] 3)) (Value.slice (some ⟨wr.heap.size, 0, none⟩) 3 3) [j.rw, j.ac, j.wi]) := Lib.hid (lit_ints wr [j.rw, j.ac, j.wi] (by simp) HWF.out.2.2)
                              refine hK.out _ _ (by first | exact ⟨(B.cell (by exact hl2)).trans a0, (B.cell (by exact hl2)).trans a1, (B.cell (by exact hl2)).trans a2, (B.cell (by exact hl2)).trans a3, (B.cell (by exact hl2)).trans a4, (B.cell (by exact hl2)).trans a5, (B.cell (by exact hl2)).trans a6, (B.cell (by exact hl2)).trans a7, (B.cell (by exact hl2)).trans a8⟩ | (dsimp only; exact ⟨(B.cell (by exact hl2)).trans a0, (B.cell (by exact hl2)).trans a1, (B.cell (by exact hl2)).trans a2, (B.cell (by exact hl2)).trans a3, (B.cell (by exact hl2)).trans a4, (B.cell (by exact hl2)).trans a5, (B.cell (by exact hl2)).trans a6, (B.cell (by exact hl2)).trans a7, (B.cell (by exact hl2)).trans a8⟩)) (fun hS => ?_)
                              clear hK K
                              (try simp only [Act.put, List.setIfInBounds_toArray, List.set_cons_zero, List.set_cons_succ])
                              refine wpAnyH_listed (l' := #[true, true, true, true, true, true, true, true, true, true, false, true, true, true, true, true, false, true, true, true, true, true, true, true, true, true, true, false, false, false]) (by kernel_rfl) ?_
                              clear hS
                              (try clear hwx)
                              revert J26; revert J15; revert J9; revert B
                              generalize (wr.alloc (.cells #[Value.int .i64 j.rw, Value.int .i64 j.ac, Value.int .i64 j.wi] 3)) = wn
                              generalize wr.heap.size = b26
                              revert b26; revert b15; revert b9; revert wn
                              exact keyq_2_9_15_26.out
                            exact AllReadyH.nil
                        case hkq_2_9_26 =>
                          intro wr b9 b26 B J9 J26
                          refine wpAnyH_ready (rs := [10, 15]) (by kernel_rfl) (by simp) ?_
                          refine AllReadyH.cons (o := { dst := some 17, op := Op.call { callee := Callee.value (Operand.func 52), args := #[Operand.tmp 16], argTypes := #[23] }, type := 9, pos := "l8_desk.go:47", after := #[{ on := 9, ground := Ground.data }, { on := 2, ground := Ground.chain }], guard := none }) rfl (fun K hK => ?_) ?_
                          · skip
                            (try go_simp)
                            go_at_call 52
                            refine (show Calls _ _ _ _ (fun e w' => e = .returned (.string (gr1 j)) ∧ Below wr.heap.size wr w') from joinNumbers_any _ [j.fr, j.ct, j.wd] _ J9.out (by simp) (HT2.out.bel B)).mono ?_
                            rintro e wn ⟨rfl, b⟩
                            clear J9
                            replace J26 := Lib.hid (J26.out.bel b)
                            replace B := bel_trans B b
                            clear b
                            (try dsimp only)
                            refine hK.out _ _ (by first | exact ⟨(B.cell (by exact hl2)).trans a0, (B.cell (by exact hl2)).trans a1, (B.cell (by exact hl2)).trans a2, (B.cell (by exact hl2)).trans a3, (B.cell (by exact hl2)).trans a4, (B.cell (by exact hl2)).trans a5, (B.cell (by exact hl2)).trans a6, (B.cell (by exact hl2)).trans a7, (B.cell (by exact hl2)).trans a8⟩ | (dsimp only; exact ⟨(B.cell (by exact hl2)).trans a0, (B.cell (by exact hl2)).trans a1, (B.cell (by exact hl2)).trans a2, (B.cell (by exact hl2)).trans a3, (B.cell (by exact hl2)).trans a4, (B.cell (by exact hl2)).trans a5, (B.cell (by exact hl2)).trans a6, (B.cell (by exact hl2)).trans a7, (B.cell (by exact hl2)).trans a8⟩)) (fun hS => ?_)
                            clear hK K
                            (try simp only [Act.put, List.setIfInBounds_toArray, List.set_cons_zero, List.set_cons_succ])
                            refine wpAnyH_listed (l' := #[true, true, true, true, true, true, true, true, true, true, true, true, true, true, true, false, false, true, true, true, true, true, true, true, true, true, true, false, false, false]) (by kernel_rfl) ?_
                            clear hS
                            (try clear hwx)
                            revert J26; revert B
                            revert b26; revert b9; revert wn
                            exact keyq_2_9_10_26.out
                          refine AllReadyH.cons (o := { dst := some 22, op := Op.buildSlice 23 2 #[(0, Operand.tmp 19), (1, Operand.tmp 21)], type := 23, pos := "l8_desk.go:45", after := #[{ on := 12, ground := Ground.data }, { on := 14, ground := Ground.data }], guard := none }) rfl (fun K hK => ?_) ?_
                          · skip
                            go_simp
                            replace J9 := Lib.hid (J9.out.bel (bel_alloc wr ((.cells #[Value.int .i64 j.dg, Value.int .i64 j.wy] 3))))
                            replace J26 := Lib.hid (J26.out.bel (bel_alloc wr ((.cells #[Value.int .i64 j.dg, Value.int .i64 j.wy] 3))))
                            replace B : Below w2.heap.size w2 (wr.alloc (.cells #[Value.int .i64 j.dg, Value.int .i64 j.wy] 3)) := bel_trans B (bel_alloc wr _)
                            have J15 : Hid (Ints (wr.alloc (.cells #[Value.int .i64 j.dg, Value.int .i64 j.wy] 3)) (Value.slice (some ⟨wr.heap.size, 0, none⟩) 2 2) [j.dg, j.wy]) := Lib.hid (lit_ints wr [j.dg, j.wy] (by simp) HWF.out.2.1)
                            refine hK.out _ _ (by first | exact ⟨(B.cell (by exact hl2)).trans a0, (B.cell (by exact hl2)).trans a1, (B.cell (by exact hl2)).trans a2, (B.cell (by exact hl2)).trans a3, (B.cell (by exact hl2)).trans a4, (B.cell (by exact hl2)).trans a5, (B.cell (by exact hl2)).trans a6, (B.cell (by exact hl2)).trans a7, (B.cell (by exact hl2)).trans a8⟩ | (dsimp only; exact ⟨(B.cell (by exact hl2)).trans a0, (B.cell (by exact hl2)).trans a1, (B.cell (by exact hl2)).trans a2, (B.cell (by exact hl2)).trans a3, (B.cell (by exact hl2)).trans a4, (B.cell (by exact hl2)).trans a5, (B.cell (by exact hl2)).trans a6, (B.cell (by exact hl2)).trans a7, (B.cell (by exact hl2)).trans a8⟩)) (fun hS => ?_)
                            clear hK K
                            (try simp only [Act.put, List.setIfInBounds_toArray, List.set_cons_zero, List.set_cons_succ])
                            refine wpAnyH_listed (l' := #[true, true, true, true, true, true, true, true, true, true, false, true, true, true, true, true, false, true, true, true, true, true, true, true, true, true, true, false, false, false]) (by kernel_rfl) ?_
                            clear hS
                            (try clear hwx)
                            revert J26; revert J15; revert J9; revert B
                            generalize (wr.alloc (.cells #[Value.int .i64 j.dg, Value.int .i64 j.wy] 3)) = wn
                            generalize wr.heap.size = b15
                            revert b26; revert b15; revert b9; revert wn
                            exact keyq_2_9_15_26.out
                          exact AllReadyH.nil
                      case hkq_2_15_26 =>
                        intro wr b15 b26 B J15 J26
                        refine wpAnyH_ready (rs := [9]) (by kernel_rfl) (by simp) ?_
                        refine AllReadyH.cons (o := { dst := some 16, op := Op.buildSlice 23 3 #[(0, Operand.tmp 11), (1, Operand.tmp 13), (2, Operand.tmp 15)], type := 23, pos := "l8_desk.go:45", after := #[{ on := 4, ground := Ground.data }, { on := 6, ground := Ground.data }, { on := 8, ground := Ground.data }], guard := none }) rfl (fun K hK => ?_) ?_
                        · skip
                          go_simp
                          replace J15 := Lib.hid (J15.out.bel (bel_alloc wr ((.cells #[Value.int .i64 j.fr, Value.int .i64 j.ct, Value.int .i64 j.wd] 3))))
                          replace J26 := Lib.hid (J26.out.bel (bel_alloc wr ((.cells #[Value.int .i64 j.fr, Value.int .i64 j.ct, Value.int .i64 j.wd] 3))))
                          replace B : Below w2.heap.size w2 (wr.alloc (.cells #[Value.int .i64 j.fr, Value.int .i64 j.ct, Value.int .i64 j.wd] 3)) := bel_trans B (bel_alloc wr _)
                          have J9 : Hid (Ints (wr.alloc (.cells #[Value.int .i64 j.fr, Value.int .i64 j.ct, Value.int .i64 j.wd] 3)) (Value.slice (some ⟨wr.heap.size, 0, none⟩) 3 3) [j.fr, j.ct, j.wd]) := Lib.hid (lit_ints wr [j.fr, j.ct, j.wd] (by simp) HWF.out.1)
                          refine hK.out _ _ (by first | exact ⟨(B.cell (by exact hl2)).trans a0, (B.cell (by exact hl2)).trans a1, (B.cell (by exact hl2)).trans a2, (B.cell (by exact hl2)).trans a3, (B.cell (by exact hl2)).trans a4, (B.cell (by exact hl2)).trans a5, (B.cell (by exact hl2)).trans a6, (B.cell (by exact hl2)).trans a7, (B.cell (by exact hl2)).trans a8⟩ | (dsimp only; exact ⟨(B.cell (by exact hl2)).trans a0, (B.cell (by exact hl2)).trans a1, (B.cell (by exact hl2)).trans a2, (B.cell (by exact hl2)).trans a3, (B.cell (by exact hl2)).trans a4, (B.cell (by exact hl2)).trans a5, (B.cell (by exact hl2)).trans a6, (B.cell (by exact hl2)).trans a7, (B.cell (by exact hl2)).trans a8⟩)) (fun hS => ?_)
                          clear hK K
                          (try simp only [Act.put, List.setIfInBounds_toArray, List.set_cons_zero, List.set_cons_succ])
                          refine wpAnyH_listed (l' := #[true, true, true, true, true, true, true, true, true, true, false, true, true, true, true, true, false, true, true, true, true, true, true, true, true, true, true, false, false, false]) (by kernel_rfl) ?_
                          clear hS
                          (try clear hwx)
                          revert J26; revert J15; revert J9; revert B
                          generalize (wr.alloc (.cells #[Value.int .i64 j.fr, Value.int .i64 j.ct, Value.int .i64 j.wd] 3)) = wn
                          generalize wr.heap.size = b9
                          revert b26; revert b15; revert b9; revert wn
                          exact keyq_2_9_15_26.out
                        exact AllReadyH.nil
                    case hkq_9_15_26 =>
                      intro wr b9 b15 b26 B J9 J15 J26
                      refine wpAnyH_ready (rs := [2]) (by kernel_rfl) (by simp) ?_
                      refine AllReadyH.cons (o := { dst := some 9, op := Op.call { callee := Callee.value (Operand.func 15), args := #[Operand.tmp 8], argTypes := #[23] }, type := 9, pos := "l8_desk.go:46", after := #[{ on := 1, ground := Ground.data }], guard := none }) rfl (fun K hK => ?_) ?_
                      · skip
                        (try go_simp)
                        go_at_call 15
                        refine (implFP_any _ j.poly _ (HP.out.bel B) (HT2.out.bel B)).mono ?_
                        rintro e wn ⟨rfl, b⟩
                        replace J9 := Lib.hid (J9.out.bel b)
                        replace J15 := Lib.hid (J15.out.bel b)
                        replace J26 := Lib.hid (J26.out.bel b)
                        replace B := bel_trans B b
                        clear b
                        (try dsimp only)
                        refine hK.out _ _ (by first | exact ⟨(B.cell (by exact hl2)).trans a0, (B.cell (by exact hl2)).trans a1, (B.cell (by exact hl2)).trans a2, (B.cell (by exact hl2)).trans a3, (B.cell (by exact hl2)).trans a4, (B.cell (by exact hl2)).trans a5, (B.cell (by exact hl2)).trans a6, (B.cell (by exact hl2)).trans a7, (B.cell (by exact hl2)).trans a8⟩ | (dsimp only; exact ⟨(B.cell (by exact hl2)).trans a0, (B.cell (by exact hl2)).trans a1, (B.cell (by exact hl2)).trans a2, (B.cell (by exact hl2)).trans a3, (B.cell (by exact hl2)).trans a4, (B.cell (by exact hl2)).trans a5, (B.cell (by exact hl2)).trans a6, (B.cell (by exact hl2)).trans a7, (B.cell (by exact hl2)).trans a8⟩)) (fun hS => ?_)
                        clear hK K
                        (try simp only [Act.put, List.setIfInBounds_toArray, List.set_cons_zero, List.set_cons_succ])
                        refine wpAnyH_listed (l' := #[true, true, true, true, true, true, true, true, true, true, false, true, true, true, true, true, false, true, true, true, true, true, true, true, true, true, true, false, false, false]) (by kernel_rfl) ?_
                        clear hS
                        (try clear hwx)
                        revert J26; revert J15; revert J9; revert B
                        revert b26; revert b15; revert b9; revert wn
                        exact keyq_2_9_15_26.out
                      exact AllReadyH.nil
                  case hkq_2_9_10_15 =>
                    intro wr b9 b15 B J15
                    refine wpAnyH_ready (rs := [16, 26]) (by kernel_rfl) (by simp) ?_
                    refine AllReadyH.cons (o := { dst := some 23, op := Op.call { callee := Callee.value (Operand.func 52), args := #[Operand.tmp 22], argTypes := #[23] }, type := 9, pos := "l8_desk.go:48", after := #[{ on := 15, ground := Ground.data }, { on := 10, ground := Ground.chain }], guard := none }) rfl (fun K hK => ?_) ?_
                    · skip
                      (try go_simp)
                      go_at_call 52
                      refine (show Calls _ _ _ _ (fun e w' => e = .returned (.string (gr2 j)) ∧ Below wr.heap.size wr w') from joinNumbers_any _ [j.dg, j.wy] _ J15.out (by simp) (HT2.out.bel B)).mono ?_
                      rintro e wn ⟨rfl, b⟩
                      clear J15
                      replace B := bel_trans B b
                      clear b
                      (try dsimp only)
                      refine hK.out _ _ (by first | exact ⟨(B.cell (by exact hl2)).trans a0, (B.cell (by exact hl2)).trans a1, (B.cell (by exact hl2)).trans a2, (B.cell (by exact hl2)).trans a3, (B.cell (by exact hl2)).trans a4, (B.cell (by exact hl2)).trans a5, (B.cell (by exact hl2)).trans a6, (B.cell (by exact hl2)).trans a7, (B.cell (by exact hl2)).trans a8⟩ | (dsimp only; exact ⟨(B.cell (by exact hl2)).trans a0, (B.cell (by exact hl2)).trans a1, (B.cell (by exact hl2)).trans a2, (B.cell (by exact hl2)).trans a3, (B.cell (by exact hl2)).trans a4, (B.cell (by exact hl2)).trans a5, (B.cell (by exact hl2)).trans a6, (B.cell (by exact hl2)).trans a7, (B.cell (by exact hl2)).trans a8⟩)) (fun hS => ?_)
                      clear hK K
                      (try simp only [Act.put, List.setIfInBounds_toArray, List.set_cons_zero, List.set_cons_succ])
                      refine wpAnyH_listed (l' := #[true, true, true, true, true, true, true, true, true, true, true, true, true, true, true, true, true, true, true, true, true, true, true, true, true, true, false, false, false, false]) (by kernel_rfl) ?_
                      clear hS
                      (try clear hwx)
                      revert B
                      revert b15; revert b9; revert wn
                      exact keyq_2_9_10_15_16.out
                    refine AllReadyH.cons (o := { dst := some 33, op := Op.buildSlice 23 3 #[(0, Operand.tmp 26), (1, Operand.tmp 29), (2, Operand.tmp 32)], type := 23, pos := "l8_desk.go:45", after := #[{ on := 19, ground := Ground.data }, { on := 22, ground := Ground.data }, { on := 25, ground := Ground.data }], guard := none }) rfl (fun K hK => ?_) ?_
                    · skip
                      go_simp
                      replace J15 := Lib.hid (J15.out.bel (bel_alloc wr ((.cells #[Value.int .i64 j.rw, Value.int .i64 j.ac, Value.int .i64 j.wi] 3))))
                      replace B : Below w2.heap.size w2 (wr.alloc (.cells #[Value.int .i64 j.rw, Value.int .i64 j.ac, Value.int .i64 j.wi] 3)) := bel_trans B (bel_alloc wr _)
                      have J26 : Hid (Ints (wr.alloc (.cells #[Value.int .i64 j.rw, Value.int .i64 j.ac, Value.int .i64 j.wi] 3)) (Value.slice (some ⟨wr.heap.size, 0, none⟩) 3 3) [j.rw, j.ac, j.wi]) := Lib.hid (lit_ints wr [j.rw, j.ac, j.wi] (by simp) HWF.out.2.2)
                      refine hK.out _ _ (by first | exact ⟨(B.cell (by exact hl2)).trans a0, (B.cell (by exact hl2)).trans a1, (B.cell (by exact hl2)).trans a2, (B.cell (by exact hl2)).trans a3, (B.cell (by exact hl2)).trans a4, (B.cell (by exact hl2)).trans a5, (B.cell (by exact hl2)).trans a6, (B.cell (by exact hl2)).trans a7, (B.cell (by exact hl2)).trans a8⟩ | (dsimp only; exact ⟨(B.cell (by exact hl2)).trans a0, (B.cell (by exact hl2)).trans a1, (B.cell (by exact hl2)).trans a2, (B.cell (by exact hl2)).trans a3, (B.cell (by exact hl2)).trans a4, (B.cell (by exact hl2)).trans a5, (B.cell (by exact hl2)).trans a6, (B.cell (by exact hl2)).trans a7, (B.cell (by exact hl2)).trans a8⟩)) (fun hS => ?_)
                      clear hK K
                      (try simp only [Act.put, List.setIfInBounds_toArray, List.set_cons_zero, List.set_cons_succ])
                      refine wpAnyH_listed (l' := #[true, true, true, true, true, true, true, true, true, true, true, true, true, true, true, true, false, true, true, true, true, true, true, true, true, true, true, false, false, false]) (by kernel_rfl) ?_
                      clear hS
                      (try clear hwx)
                      revert J26; revert J15; revert B
                      generalize (wr.alloc (.cells #[Value.int .i64 j.rw, Value.int .i64 j.ac, Value.int .i64 j.wi] 3)) = wn
                      generalize wr.heap.size = b26
                      revert b26; revert b15; revert b9; revert wn
                      exact keyq_2_9_10_15_26.out
                    exact AllReadyH.nil
                case hkq_2_9_10_26 =>
                  intro wr b9 b26 B J26
                  refine wpAnyH_ready (rs := [15]) (by kernel_rfl) (by simp) ?_
                  refine AllReadyH.cons (o := { dst := some 22, op := Op.buildSlice 23 2 #[(0, Operand.tmp 19), (1, Operand.tmp 21)], type := 23, pos := "l8_desk.go:45", after := #[{ on := 12, ground := Ground.data }, { on := 14, ground := Ground.data }], guard := none }) rfl (fun K hK => ?_) ?_
                  · skip
                    go_simp
                    replace J26 := Lib.hid (J26.out.bel (bel_alloc wr ((.cells #[Value.int .i64 j.dg, Value.int .i64 j.wy] 3))))
                    replace B : Below w2.heap.size w2 (wr.alloc (.cells #[Value.int .i64 j.dg, Value.int .i64 j.wy] 3)) := bel_trans B (bel_alloc wr _)
                    have J15 : Hid (Ints (wr.alloc (.cells #[Value.int .i64 j.dg, Value.int .i64 j.wy] 3)) (Value.slice (some ⟨wr.heap.size, 0, none⟩) 2 2) [j.dg, j.wy]) := Lib.hid (lit_ints wr [j.dg, j.wy] (by simp) HWF.out.2.1)
                    refine hK.out _ _ (by first | exact ⟨(B.cell (by exact hl2)).trans a0, (B.cell (by exact hl2)).trans a1, (B.cell (by exact hl2)).trans a2, (B.cell (by exact hl2)).trans a3, (B.cell (by exact hl2)).trans a4, (B.cell (by exact hl2)).trans a5, (B.cell (by exact hl2)).trans a6, (B.cell (by exact hl2)).trans a7, (B.cell (by exact hl2)).trans a8⟩ | (dsimp only; exact ⟨(B.cell (by exact hl2)).trans a0, (B.cell (by exact hl2)).trans a1, (B.cell (by exact hl2)).trans a2, (B.cell (by exact hl2)).trans a3, (B.cell (by exact hl2)).trans a4, (B.cell (by exact hl2)).trans a5, (B.cell (by exact hl2)).trans a6, (B.cell (by exact hl2)).trans a7, (B.cell (by exact hl2)).trans a8⟩)) (fun hS => ?_)
                    clear hK K
                    (try simp only [Act.put, List.setIfInBounds_toArray, List.set_cons_zero, List.set_cons_succ])
                    refine wpAnyH_listed (l' := #[true, true, true, true, true, true, true, true, true, true, true, true, true, true, true, true, false, true, true, true, true, true, true, true, true, true, true, false, false, false]) (by kernel_rfl) ?_
                    clear hS
                    (try clear hwx)
                    revert J26; revert J15; revert B
                    generalize (wr.alloc (.cells #[Value.int .i64 j.dg, Value.int .i64 j.wy] 3)) = wn
                    generalize wr.heap.size = b15
                    revert b26; revert b15; revert b9; revert wn
                    exact keyq_2_9_10_15_26.out
                  exact AllReadyH.nil
              case hkq_2_9_15_26 =>
                intro wr b9 b15 b26 B J9 J15 J26
                refine wpAnyH_ready (rs := [10]) (by kernel_rfl) (by simp) ?_
                refine AllReadyH.cons (o := { dst := some 17, op := Op.call { callee := Callee.value (Operand.func 52), args := #[Operand.tmp 16], argTypes := #[23] }, type := 9, pos := "l8_desk.go:47", after := #[{ on := 9, ground := Ground.data }, { on := 2, ground := Ground.chain }], guard := none }) rfl (fun K hK => ?_) ?_
                · skip
                  (try go_simp)
                  go_at_call 52
                  refine (show Calls _ _ _ _ (fun e w' => e = .returned (.string (gr1 j)) ∧ Below wr.heap.size wr w') from joinNumbers_any _ [j.fr, j.ct, j.wd] _ J9.out (by simp) (HT2.out.bel B)).mono ?_
                  rintro e wn ⟨rfl, b⟩
                  clear J9
                  replace J15 := Lib.hid (J15.out.bel b)
                  replace J26 := Lib.hid (J26.out.bel b)
                  replace B := bel_trans B b
                  clear b
                  (try dsimp only)
                  refine hK.out _ _ (by first | exact ⟨(B.cell (by exact hl2)).trans a0, (B.cell (by exact hl2)).trans a1, (B.cell (by exact hl2)).trans a2, (B.cell (by exact hl2)).trans a3, (B.cell (by exact hl2)).trans a4, (B.cell (by exact hl2)).trans a5, (B.cell (by exact hl2)).trans a6, (B.cell (by exact hl2)).trans a7, (B.cell (by exact hl2)).trans a8⟩ | (dsimp only; exact ⟨(B.cell (by exact hl2)).trans a0, (B.cell (by exact hl2)).trans a1, (B.cell (by exact hl2)).trans a2, (B.cell (by exact hl2)).trans a3, (B.cell (by exact hl2)).trans a4, (B.cell (by exact hl2)).trans a5, (B.cell (by exact hl2)).trans a6, (B.cell (by exact hl2)).trans a7, (B.cell (by exact hl2)).trans a8⟩)) (fun hS => ?_)
                  clear hK K
                  (try simp only [Act.put, List.setIfInBounds_toArray, List.set_cons_zero, List.set_cons_succ])
                  refine wpAnyH_listed (l' := #[true, true, true, true, true, true, true, true, true, true, true, true, true, true, true, true, false, true, true, true, true, true, true, true, true, true, true, false, false, false]) (by kernel_rfl) ?_
                  clear hS
                  (try clear hwx)
                  revert J26; revert J15; revert B
                  revert b26; revert b15; revert b9; revert wn
                  exact keyq_2_9_10_15_26.out
                exact AllReadyH.nil
            case hkq_2_9_10_15_16 =>
              intro wr b9 b15 B
              refine wpAnyH_ready (rs := [26]) (by kernel_rfl) (by simp) ?_
              refine AllReadyH.cons (o := { dst := some 33, op := Op.buildSlice 23 3 #[(0, Operand.tmp 26), (1, Operand.tmp 29), (2, Operand.tmp 32)], type := 23, pos := "l8_desk.go:45", after := #[{ on := 19, ground := Ground.data }, { on := 22, ground := Ground.data }, { on := 25, ground := Ground.data }], guard := none }) rfl (fun K hK => ?_) ?_
              · skip
                go_simp
                replace B : Below w2.heap.size w2 (wr.alloc (.cells #[Value.int .i64 j.rw, Value.int .i64 j.ac, Value.int .i64 j.wi] 3)) := bel_trans B (bel_alloc wr _)
                have J26 : Hid (Ints (wr.alloc (.cells #[Value.int .i64 j.rw, Value.int .i64 j.ac, Value.int .i64 j.wi] 3)) (Value.slice (some ⟨wr.heap.size, 0, none⟩) 3 3) [j.rw, j.ac, j.wi]) := Lib.hid (lit_ints wr [j.rw, j.ac, j.wi] (by simp) HWF.out.2.2)
                refine hK.out _ _ (by first | exact ⟨(B.cell (by exact hl2)).trans a0, (B.cell (by exact hl2)).trans a1, (B.cell (by exact hl2)).trans a2, (B.cell (by exact hl2)).trans a3, (B.cell (by exact hl2)).trans a4, (B.cell (by exact hl2)).trans a5, (B.cell (by exact hl2)).trans a6, (B.cell (by exact hl2)).trans a7, (B.cell (by exact hl2)).trans a8⟩ | (dsimp only; exact ⟨(B.cell (by exact hl2)).trans a0, (B.cell (by exact hl2)).trans a1, (B.cell (by exact hl2)).trans a2, (B.cell (by exact hl2)).trans a3, (B.cell (by exact hl2)).trans a4, (B.cell (by exact hl2)).trans a5, (B.cell (by exact hl2)).trans a6, (B.cell (by exact hl2)).trans a7, (B.cell (by exact hl2)).trans a8⟩)) (fun hS => ?_)
                clear hK K
                (try simp only [Act.put, List.setIfInBounds_toArray, List.set_cons_zero, List.set_cons_succ])
                refine wpAnyH_listed (l' := #[true, true, true, true, true, true, true, true, true, true, true, true, true, true, true, true, true, true, true, true, true, true, true, true, true, true, true, false, false, false]) (by kernel_rfl) ?_
                clear hS
                (try clear hwx)
                revert J26; revert B
                generalize (wr.alloc (.cells #[Value.int .i64 j.rw, Value.int .i64 j.ac, Value.int .i64 j.wi] 3)) = wn
                generalize wr.heap.size = b26
                revert b26; revert b15; revert b9; revert wn
                exact keyq_2_9_10_15_16_26.out
              exact AllReadyH.nil
          case hkq_2_9_10_15_26 =>
            intro wr b9 b15 b26 B J15 J26
            refine wpAnyH_ready (rs := [16]) (by kernel_rfl) (by simp) ?_
            refine AllReadyH.cons (o := { dst := some 23, op := Op.call { callee := Callee.value (Operand.func 52), args := #[Operand.tmp 22], argTypes := #[23] }, type := 9, pos := "l8_desk.go:48", after := #[{ on := 15, ground := Ground.data }, { on := 10, ground := Ground.chain }], guard := none }) rfl (fun K hK => ?_) ?_
            · skip
              (try go_simp)
              go_at_call 52
              refine (show Calls _ _ _ _ (fun e w' => e = .returned (.string (gr2 j)) ∧ Below wr.heap.size wr w') from joinNumbers_any _ [j.dg, j.wy] _ J15.out (by simp) (HT2.out.bel B)).mono ?_
              rintro e wn ⟨rfl, b⟩
              clear J15
              replace J26 := Lib.hid (J26.out.bel b)
              replace B := bel_trans B b
              clear b
              (try dsimp only)
              refine hK.out _ _ (by first | exact ⟨(B.cell (by exact hl2)).trans a0, (B.cell (by exact hl2)).trans a1, (B.cell (by exact hl2)).trans a2, (B.cell (by exact hl2)).trans a3, (B.cell (by exact hl2)).trans a4, (B.cell (by exact hl2)).trans a5, (B.cell (by exact hl2)).trans a6, (B.cell (by exact hl2)).trans a7, (B.cell (by exact hl2)).trans a8⟩ | (dsimp only; exact ⟨(B.cell (by exact hl2)).trans a0, (B.cell (by exact hl2)).trans a1, (B.cell (by exact hl2)).trans a2, (B.cell (by exact hl2)).trans a3, (B.cell (by exact hl2)).trans a4, (B.cell (by exact hl2)).trans a5, (B.cell (by exact hl2)).trans a6, (B.cell (by exact hl2)).trans a7, (B.cell (by exact hl2)).trans a8⟩)) (fun hS => ?_)
              clear hK K
              (try simp only [Act.put, List.setIfInBounds_toArray, List.set_cons_zero, List.set_cons_succ])
              refine wpAnyH_listed (l' := #[true, true, true, true, true, true, true, true, true, true, true, true, true, true, true, true, true, true, true, true, true, true, true, true, true, true, true, false, false, false]) (by kernel_rfl) ?_
              clear hS
              (try clear hwx)
              revert J26; revert B
              revert b26; revert b15; revert b9; revert wn
              exact keyq_2_9_10_15_16_26.out
            exact AllReadyH.nil
        case hkq_2_9_10_15_16_26 =>
          intro wr b9 b15 b26 B J26
          refine wpAnyH_ready (rs := [27]) (by kernel_rfl) (by simp) ?_
          refine AllReadyH.cons (o := { dst := some 34, op := Op.call { callee := Callee.value (Operand.func 52), args := #[Operand.tmp 33], argTypes := #[23] }, type := 9, pos := "l8_desk.go:49", after := #[{ on := 26, ground := Ground.data }, { on := 16, ground := Ground.chain }], guard := none }) rfl (fun K hK => ?_) ?_
          · skip
            (try go_simp)
            go_at_call 52
            refine (show Calls _ _ _ _ (fun e w' => e = .returned (.string (gr3 j)) ∧ Below wr.heap.size wr w') from joinNumbers_any _ [j.rw, j.ac, j.wi] _ J26.out (by simp) (HT2.out.bel B)).mono ?_
            rintro e wn ⟨rfl, b⟩
            clear J26
            replace B := bel_trans B b
            clear b
            (try dsimp only)
            refine hK.out _ _ (by first | exact ⟨(B.cell (by exact hl2)).trans a0, (B.cell (by exact hl2)).trans a1, (B.cell (by exact hl2)).trans a2, (B.cell (by exact hl2)).trans a3, (B.cell (by exact hl2)).trans a4, (B.cell (by exact hl2)).trans a5, (B.cell (by exact hl2)).trans a6, (B.cell (by exact hl2)).trans a7, (B.cell (by exact hl2)).trans a8⟩ | (dsimp only; exact ⟨(B.cell (by exact hl2)).trans a0, (B.cell (by exact hl2)).trans a1, (B.cell (by exact hl2)).trans a2, (B.cell (by exact hl2)).trans a3, (B.cell (by exact hl2)).trans a4, (B.cell (by exact hl2)).trans a5, (B.cell (by exact hl2)).trans a6, (B.cell (by exact hl2)).trans a7, (B.cell (by exact hl2)).trans a8⟩)) (fun hS => ?_)
            clear hK K
            (try simp only [Act.put, List.setIfInBounds_toArray, List.set_cons_zero, List.set_cons_succ])
            refine wpAnyH_listed (l' := #[true, true, true, true, true, true, true, true, true, true, true, true, true, true, true, true, true, true, true, true, true, true, true, true, true, true, true, true, false, false]) (by kernel_rfl) ?_
            clear hS
            (try clear hwx)
            revert B
            revert b26; revert b15; revert b9; revert wn
            exact keyq_2_9_10_15_16_26_27.out
          exact AllReadyH.nil
      case hkq_2_9_10_15_16_26_27 =>
        intro wr b9 b15 b26 B
        refine wpAnyH_ready (rs := [28]) (by kernel_rfl) (by simp) ?_
        refine AllReadyH.cons (o := { dst := some 35, op := Op.buildSlice 46 4 #[(0, Operand.tmp 9), (1, Operand.tmp 17), (2, Operand.tmp 23), (3, Operand.tmp 34)], type := 46, pos := "l8_desk.go:45", after := #[{ on := 2, ground := Ground.data }, { on := 10, ground := Ground.data }, { on := 16, ground := Ground.data }, { on := 27, ground := Ground.data }], guard := none }) rfl (fun K hK => ?_) ?_
        · skip
          go_simp
          replace B : Below w2.heap.size w2 (wr.alloc (.cells #[Value.string (polyS j.poly), Value.string (gr1 j), Value.string (gr2 j), Value.string (gr3 j)] 9)) := bel_trans B (bel_alloc wr _)
          have J28 : Hid (Strs (wr.alloc (.cells #[Value.string (polyS j.poly), Value.string (gr1 j), Value.string (gr2 j), Value.string (gr3 j)] 9)) (Value.slice (some ⟨wr.heap.size, 0, none⟩) 4 4) [polyS j.poly, gr1 j, gr2 j, gr3 j]) := Lib.hid (lit_texts wr [polyS j.poly, gr1 j, gr2 j, gr3 j] (by simp) (fun s hs => by simp at hs; rcases hs with rfl | rfl | rfl | rfl <;> omega))
          refine hK.out _ _ (by first | exact ⟨(B.cell (by exact hl2)).trans a0, (B.cell (by exact hl2)).trans a1, (B.cell (by exact hl2)).trans a2, (B.cell (by exact hl2)).trans a3, (B.cell (by exact hl2)).trans a4, (B.cell (by exact hl2)).trans a5, (B.cell (by exact hl2)).trans a6, (B.cell (by exact hl2)).trans a7, (B.cell (by exact hl2)).trans a8⟩ | (dsimp only; exact ⟨(B.cell (by exact hl2)).trans a0, (B.cell (by exact hl2)).trans a1, (B.cell (by exact hl2)).trans a2, (B.cell (by exact hl2)).trans a3, (B.cell (by exact hl2)).trans a4, (B.cell (by exact hl2)).trans a5, (B.cell (by exact hl2)).trans a6, (B.cell (by exact hl2)).trans a7, (B.cell (by exact hl2)).trans a8⟩)) (fun hS => ?_)
          clear hK K
          (try simp only [Act.put, List.setIfInBounds_toArray, List.set_cons_zero, List.set_cons_succ])
          refine wpAnyH_take (i := 29) (oi := { dst := some 3, op := Op.assign (Operand.tmp 35), type := 46, pos := "l8_desk.go:45", after := #[{ on := 28, ground := Ground.data }, { on := 27, ground := Ground.chain }, { on := 0, ground := Ground.phase }, { on := 1, ground := Ground.phase }, { on := 2, ground := Ground.phase }, { on := 3, ground := Ground.phase }, { on := 4, ground := Ground.phase }, { on := 5, ground := Ground.phase }, { on := 6, ground := Ground.phase }, { on := 7, ground := Ground.phase }, { on := 8, ground := Ground.phase }, { on := 9, ground := Ground.phase }, { on := 10, ground := Ground.phase }, { on := 11, ground := Ground.phase }, { on := 12, ground := Ground.phase }, { on := 13, ground := Ground.phase }, { on := 14, ground := Ground.phase }, { on := 15, ground := Ground.phase }, { on := 16, ground := Ground.phase }, { on := 17, ground := Ground.phase }, { on := 18, ground := Ground.phase }, { on := 19, ground := Ground.phase }, { on := 20, ground := Ground.phase }, { on := 21, ground := Ground.phase }, { on := 22, ground := Ground.phase }, { on := 23, ground := Ground.phase }, { on := 24, ground := Ground.phase }, { on := 25, ground := Ground.phase }, { on := 26, ground := Ground.phase }, { on := 27, ground := Ground.phase }, { on := 28, ground := Ground.phase }], guard := none }) (v := ?vq_22) rfl (by kernel_rfl) (by kernel_rfl) (by kernel_rfl) (fun _ _ _ h => h) (Or.inl ⟨by rfl, ?hyq_22⟩) hS ?restq_22
          case hyq_22 => (intro w' hSw; (try dsimp only at hSw); go_simp; all_goals with_reducible rfl)
          (try simp only [Act.put, List.setIfInBounds_toArray, List.set_cons_zero, List.set_cons_succ])
          refine wpAnyH_listed (l' := #[true, true, true, true, true, true, true, true, true, true, true, true, true, true, true, true, true, true, true, true, true, true, true, true, true, true, true, true, true, true]) (by kernel_rfl) ?_
          clear hS
          (try clear hwx)
          revert J28; revert B
          generalize (wr.alloc (.cells #[Value.string (polyS j.poly), Value.string (gr1 j), Value.string (gr2 j), Value.string (gr3 j)] 9)) = wn
          generalize wr.heap.size = b28
          revert b28; revert b26; revert b15; revert b9; revert wn
          exact keyq_2_9_10_15_16_26_27_28.out
        exact AllReadyH.nil
    intro w5 b9 b15 b26 b28 B J28
    refine wpAnyH_done (by kernel_rfl) ?_ _
    have HB5 := Lib.hid (bel_trans HB.out B)
    clear a0 a1 a2 a3 a4 a5 a6 a7 a8
    go_wp2_with fail
    refine (joins_any _ [polyS j.poly, gr1 j, gr2 j, gr3 j] ⟨#[59]⟩ _ J28.out (by simp) 154 (fun s hs => by simp at hs; rcases hs with rfl | rfl | rfl | rfl <;> omega) (by omega) (by decide)).mono ?_
    rintro e w6 ⟨rfl, b⟩
    have HB6 := Lib.hid (bel_trans HB5.out b)
    clear b
    go_wp2
    go_ret
    exact ⟨by rw [HN.out, ← join_four]; rfl, HB6.out⟩

end Go.Proofs.YtpniljcnknknoaaGreatDoor
