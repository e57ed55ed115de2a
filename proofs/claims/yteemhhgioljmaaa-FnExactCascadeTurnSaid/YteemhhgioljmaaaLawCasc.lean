/-
  The law FnExactCascadeTurn, walked (made by exact2.py).
-/
import Derived.Test.YteemhhgioljmaaaEngLaw
import Derived.Test.YteemhhgioljmaaaCascS
import Derived.Test.YteemhhgioljmaaaEngBox
import Derived.Deep.RegionLaw
import Derived.Deep.RegionWith
import Derived.Deep.DrawnRows
import Derived.Deep.RegionHeld3
namespace Go.Proofs.Yteemhhgioljmaaa
open Go.RowKit
set_option linter.unusedVariables false
set_option linter.unusedSimpArgs false
set_option maxRecDepth 100000

set_option maxHeartbeats 8000000 in
theorem lawCascadeTurn (v0 : Value) (l0 : List ByteArray) (v1 : Value) (l1 : List ByteArray) (w : World) (h0 : Strs w v0 l0) (h1 : Strs w v1 l1) :
    Calls Try.prog 11 #[.agg #[v0], .agg #[v1]] w fun e w' => e = .returned (.bool true) ∧ Below w.heap.size w w' := by
  have S_0 := Lib.hid h0
  have J_0 := Lib.hid h0.low
  obtain ⟨A_a0, c_a0, rfl, -, -, -⟩ := h0.open_
  clear h0
  have S_1 := Lib.hid h1
  have J_1 := Lib.hid h1.low
  obtain ⟨A_a1, c_a1, rfl, -, -, -⟩ := h1.open_
  clear h1
  have he_r0 := eqS_self (cA l0 l1)
  have he_r1 := eqS_self (cB l0 l1)
  have he_a0 := eqS_self l0
  have he_a1 := eqS_self l1
  have HB := Lib.hid (Below.refl w.heap.size w)
  go_enter Try.func11, Try.ntmps11
  have ba : Below w.heap.size w ((w.alloc (.cells #[Value.slice A_a0 l0.length c_a0] 72)).alloc (.cells #[Value.slice A_a1 l1.length c_a1] 72)) := (bel_alloc w _).alloc (by simp <;> omega) _
  replace S_0 := Lib.hid (S_0.out.bel ba)
  replace S_1 := Lib.hid (S_1.out.bel ba)
  replace HB := Lib.hid (bel_trans HB.out ba)
  clear ba
  have K_p0 := (Blk.new' w 72 (Value.slice A_a0 l0.length c_a0) _ rfl).alloc (.cells #[Value.slice A_a1 l1.length c_a1] 72)
  have K_p1 := Blk.new' (w.alloc (.cells #[Value.slice A_a0 l0.length c_a0] 72)) 72 (Value.slice A_a1 l1.length c_a1) (w.heap.size + 1) (by simp)
  obtain ⟨e_p0, -⟩ := K_p0.one
  obtain ⟨e_p1, -⟩ := K_p1.one
  go_wp2_with fail
  clear e_p0 e_p1
  generalize hW : (w.alloc (.cells #[Value.slice A_a0 l0.length c_a0] 72)).alloc (.cells #[Value.slice A_a1 l1.length c_a1] 72) = w1 at *
  clear hW
  refine (szEngine_any _ l0 1048576 _ S_0.out (by omega) (by omega)).mono ?_
  rintro e w2 ⟨lf0, rfl, hr0, b⟩
  replace K_p0 := K_p0.below b K_p0.lt
  replace K_p1 := K_p1.below b K_p1.lt
  replace S_0 := Lib.hid (S_0.out.bel b)
  replace S_1 := Lib.hid (S_1.out.bel b)
  replace HB := Lib.hid (bel_trans HB.out b)
  clear b
  rcases hr0 with rfl | ⟨q0_0, q1_0⟩
  · go_wp2
    go_ret
    exact ⟨rfl, HB.out⟩
  · skip
    obtain ⟨e_p0, -⟩ := K_p0.one
    obtain ⟨e_p1, -⟩ := K_p1.one
    go_wp2_with fail
    clear e_p0 e_p1
    refine (szEngine_any _ l1 lf0 _ S_1.out (by omega) (by omega)).mono ?_
    rintro e w3 ⟨lf1, rfl, hr1, b⟩
    replace K_p0 := K_p0.below b K_p0.lt
    replace K_p1 := K_p1.below b K_p1.lt
    replace S_0 := Lib.hid (S_0.out.bel b)
    replace S_1 := Lib.hid (S_1.out.bel b)
    replace HB := Lib.hid (bel_trans HB.out b)
    clear b
    rcases hr1 with rfl | ⟨q0_1, q1_1⟩
    · go_wp2
      go_ret
      exact ⟨rfl, HB.out⟩
    · skip
      have len0 : l0.length ≤ 1048576 := by omega
      have len1 : l1.length ≤ 1048576 := by omega
      obtain ⟨e_p0, -⟩ := K_p0.one
      obtain ⟨e_p1, -⟩ := K_p1.one
      go_wp2_with fail
      clear e_p0 e_p1
      obtain ⟨e_p0, -⟩ := K_p0.one
      obtain ⟨e_p1, -⟩ := K_p1.one
      refine cut_by (P := ?Pr1_1_3_4_9_10_11_12) ?hkr1_1_3_4_9_10_11_12 (fun keyr1_1_3_4_9_10_11_12 => ?mainr1_1_3_4_9_10_11_12)
      case mainr1_1_3_4_9_10_11_12 =>
        replace keyr1_1_3_4_9_10_11_12 := Lib.hid keyr1_1_3_4_9_10_11_12
        refine cut_by (P := ?Pr1_1_3_4_9_10_11) ?hkr1_1_3_4_9_10_11 (fun keyr1_1_3_4_9_10_11 => ?mainr1_1_3_4_9_10_11)
        case mainr1_1_3_4_9_10_11 =>
          replace keyr1_1_3_4_9_10_11 := Lib.hid keyr1_1_3_4_9_10_11
          refine cut_by (P := ?Pr1_1_3_4_9_10) ?hkr1_1_3_4_9_10 (fun keyr1_1_3_4_9_10 => ?mainr1_1_3_4_9_10)
          case mainr1_1_3_4_9_10 =>
            replace keyr1_1_3_4_9_10 := Lib.hid keyr1_1_3_4_9_10
            refine cut_by (P := ?Pr1_1_3_9_10) ?hkr1_1_3_9_10 (fun keyr1_1_3_9_10 => ?mainr1_1_3_9_10)
            case mainr1_1_3_9_10 =>
              replace keyr1_1_3_9_10 := Lib.hid keyr1_1_3_9_10
              refine cut_by (P := ?Pr1_1_3_4_10) ?hkr1_1_3_4_10 (fun keyr1_1_3_4_10 => ?mainr1_1_3_4_10)
              case mainr1_1_3_4_10 =>
                replace keyr1_1_3_4_10 := Lib.hid keyr1_1_3_4_10
                refine cut_by (P := ?Pr1_1_3_4_9) ?hkr1_1_3_4_9 (fun keyr1_1_3_4_9 => ?mainr1_1_3_4_9)
                case mainr1_1_3_4_9 =>
                  replace keyr1_1_3_4_9 := Lib.hid keyr1_1_3_4_9
                  refine cut_by (P := ?Pr1_1_9_10) ?hkr1_1_9_10 (fun keyr1_1_9_10 => ?mainr1_1_9_10)
                  case mainr1_1_9_10 =>
                    replace keyr1_1_9_10 := Lib.hid keyr1_1_9_10
                    refine cut_by (P := ?Pr1_1_3_10) ?hkr1_1_3_10 (fun keyr1_1_3_10 => ?mainr1_1_3_10)
                    case mainr1_1_3_10 =>
                      replace keyr1_1_3_10 := Lib.hid keyr1_1_3_10
                      refine cut_by (P := ?Pr1_1_3_9) ?hkr1_1_3_9 (fun keyr1_1_3_9 => ?mainr1_1_3_9)
                      case mainr1_1_3_9 =>
                        replace keyr1_1_3_9 := Lib.hid keyr1_1_3_9
                        refine cut_by (P := ?Pr1_1_3_4) ?hkr1_1_3_4 (fun keyr1_1_3_4 => ?mainr1_1_3_4)
                        case mainr1_1_3_4 =>
                          replace keyr1_1_3_4 := Lib.hid keyr1_1_3_4
                          refine cut_by (P := ?Pr1_9_10) ?hkr1_9_10 (fun keyr1_9_10 => ?mainr1_9_10)
                          case mainr1_9_10 =>
                            replace keyr1_9_10 := Lib.hid keyr1_9_10
                            refine cut_by (P := ?Pr1_1_10) ?hkr1_1_10 (fun keyr1_1_10 => ?mainr1_1_10)
                            case mainr1_1_10 =>
                              replace keyr1_1_10 := Lib.hid keyr1_1_10
                              refine cut_by (P := ?Pr1_1_9) ?hkr1_1_9 (fun keyr1_1_9 => ?mainr1_1_9)
                              case mainr1_1_9 =>
                                replace keyr1_1_9 := Lib.hid keyr1_1_9
                                refine cut_by (P := ?Pr1_1_3) ?hkr1_1_3 (fun keyr1_1_3 => ?mainr1_1_3)
                                case mainr1_1_3 =>
                                  replace keyr1_1_3 := Lib.hid keyr1_1_3
                                  refine cut_by (P := ?Pr1_10) ?hkr1_10 (fun keyr1_10 => ?mainr1_10)
                                  case mainr1_10 =>
                                    replace keyr1_10 := Lib.hid keyr1_10
                                    refine cut_by (P := ?Pr1_9) ?hkr1_9 (fun keyr1_9 => ?mainr1_9)
                                    case mainr1_9 =>
                                      replace keyr1_9 := Lib.hid keyr1_9
                                      refine cut_by (P := ?Pr1_1) ?hkr1_1 (fun keyr1_1 => ?mainr1_1)
                                      case mainr1_1 =>
                                        replace keyr1_1 := Lib.hid keyr1_1
                                        refine wp_region_held_drew (S := (fun w' => w'.cell? ⟨w.heap.size, 0, none⟩ = some (Value.slice A_a0 l0.length c_a0) ∧ w'.cell? ⟨w.heap.size + 1, 0, none⟩ = some (Value.slice A_a1 l1.length c_a1))) (by kernel_rfl) ?_ (fun hS => ?_)
                                        · skip
                                          exact ⟨e_p0, e_p1⟩
                                        have B : Below w3.heap.size w3 w3.drew := (Below.refl _ _).drew
                                        generalize hW : w3.drew = wr at *
                                        clear hW
                                        refine wpAnyH_take (i := 0) (oi := { dst := some 31, op := Op.load 72 (Operand.tmp 2), type := 72, pos := "exact.go:4218", after := #[], guard := none }) (v := ?vr1_1) rfl (by kernel_rfl) (by kernel_rfl) (by kernel_rfl) (fun _ _ _ h => h) (Or.inl ⟨by rfl, ?hyr1_1⟩) hS ?restr1_1
                                        case hyr1_1 => (intro w' hSw; (try dsimp only at hSw); go_simp; all_goals with_reducible rfl)
                                        (try simp only [Act.put, List.setIfInBounds_toArray, List.set_cons_zero, List.set_cons_succ])
                                        refine wpAnyH_take (i := 2) (oi := { dst := some 33, op := Op.load 72 (Operand.tmp 3), type := 72, pos := "exact.go:4218", after := #[], guard := none }) (v := ?vr1_2) rfl (by kernel_rfl) (by kernel_rfl) (by kernel_rfl) (fun _ _ _ h => h) (Or.inl ⟨by rfl, ?hyr1_2⟩) hS ?restr1_2
                                        case hyr1_2 => (intro w' hSw; (try dsimp only at hSw); go_simp; all_goals with_reducible rfl)
                                        (try simp only [Act.put, List.setIfInBounds_toArray, List.set_cons_zero, List.set_cons_succ])
                                        refine wpAnyH_listed (l' := #[true, false, true, false, false, false, false, false, false, false, false, false, false, false]) (by kernel_rfl) ?_
                                        clear hS
                                        refine wpAnyH_ready (rs := [1, 9, 10]) (by kernel_rfl) (by simp) ?_
                                        refine AllReadyH.cons (o := { dst := some 32, op := Op.call { callee := Callee.value (Operand.func 58), args := #[Operand.tmp 31], argTypes := #[72] }, type := 29, pos := "exact.go:4218", after := #[{ on := 0, ground := Ground.data }], guard := none }) rfl (fun K hK => ?_) ?_
                                        · skip
                                          (try go_simp)
                                          go_at_call 58
                                          refine (toEngine_any _ l0 _ (S_0.out.bel B) len0).mono ?_
                                          rintro e wn ⟨r_r1x0, rfl, o_r1x0, b⟩
                                          have O_r1x0 := Lib.hid (o_r1x0.lower B.size)
                                          replace B := bel_trans B b
                                          obtain ⟨A_r1x0, c_r1x0, rfl, -, -, -⟩ := o_r1x0.strs.open_
                                          clear o_r1x0
                                          clear b
                                          (try dsimp only)
                                          refine hK.out _ _ (by first | exact ⟨(B.cell (by exact K_p0.lt)).trans e_p0, (B.cell (by exact K_p1.lt)).trans e_p1⟩ | (dsimp only; exact ⟨(B.cell (by exact K_p0.lt)).trans e_p0, (B.cell (by exact K_p1.lt)).trans e_p1⟩)) (fun hS => ?_)
                                          clear hK K
                                          (try simp only [Act.put, List.setIfInBounds_toArray, List.set_cons_zero, List.set_cons_succ])
                                          refine wpAnyH_listed (l' := #[true, true, true, false, false, false, false, false, false, false, false, false, false, false]) (by kernel_rfl) ?_
                                          clear hS
                                          revert O_r1x0; revert B
                                          revert c_r1x0; revert A_r1x0; revert wn
                                          exact keyr1_1.out
                                        refine AllReadyH.cons (o := { dst := some 6, op := Op.alloc 29, type := 0, pos := "exact.go:4218", after := #[], guard := none }) rfl (fun K hK => ?_) ?_
                                        · skip
                                          go_simp
                                          have H_sb0 : w3.heap.size ≤ wr.heap.size := B.size
                                          replace B : Below w3.heap.size w3 (wr.alloc (.cells #[Value.slice none 0 0] 29)) := bel_trans B (bel_alloc wr _)
                                          have K_sb0 := Blk.new' wr 29 (Value.slice none 0 0) wr.heap.size rfl
                                          refine hK.out _ _ (by first | exact ⟨(B.cell (by exact K_p0.lt)).trans e_p0, (B.cell (by exact K_p1.lt)).trans e_p1⟩ | (dsimp only; exact ⟨(B.cell (by exact K_p0.lt)).trans e_p0, (B.cell (by exact K_p1.lt)).trans e_p1⟩)) (fun hS => ?_)
                                          clear hK K
                                          (try simp only [Act.put, List.setIfInBounds_toArray, List.set_cons_zero, List.set_cons_succ])
                                          refine wpAnyH_listed (l' := #[true, false, true, false, false, false, false, false, false, true, false, false, false, false]) (by kernel_rfl) ?_
                                          clear hS
                                          revert H_sb0; revert K_sb0; revert B
                                          generalize (wr.alloc (.cells #[Value.slice none 0 0] 29)) = wn
                                          generalize wr.heap.size = ab_sb0
                                          revert ab_sb0; revert wn
                                          exact keyr1_9.out
                                        refine AllReadyH.cons (o := { dst := some 7, op := Op.alloc 29, type := 0, pos := "exact.go:4218", after := #[], guard := none }) rfl (fun K hK => ?_) ?_
                                        · skip
                                          go_simp
                                          have H_sb1 : w3.heap.size ≤ wr.heap.size := B.size
                                          replace B : Below w3.heap.size w3 (wr.alloc (.cells #[Value.slice none 0 0] 29)) := bel_trans B (bel_alloc wr _)
                                          have K_sb1 := Blk.new' wr 29 (Value.slice none 0 0) wr.heap.size rfl
                                          refine hK.out _ _ (by first | exact ⟨(B.cell (by exact K_p0.lt)).trans e_p0, (B.cell (by exact K_p1.lt)).trans e_p1⟩ | (dsimp only; exact ⟨(B.cell (by exact K_p0.lt)).trans e_p0, (B.cell (by exact K_p1.lt)).trans e_p1⟩)) (fun hS => ?_)
                                          clear hK K
                                          (try simp only [Act.put, List.setIfInBounds_toArray, List.set_cons_zero, List.set_cons_succ])
                                          refine wpAnyH_listed (l' := #[true, false, true, false, false, false, false, false, false, false, true, false, false, false]) (by kernel_rfl) ?_
                                          clear hS
                                          revert H_sb1; revert K_sb1; revert B
                                          generalize (wr.alloc (.cells #[Value.slice none 0 0] 29)) = wn
                                          generalize wr.heap.size = ab_sb1
                                          revert ab_sb1; revert wn
                                          exact keyr1_10.out
                                        exact AllReadyH.nil
                                      case hkr1_1 =>
                                        intro wr A_r1x0 c_r1x0 B O_r1x0
                                        refine wpAnyH_ready (rs := [3, 9, 10]) (by kernel_rfl) (by simp) ?_
                                        refine AllReadyH.cons (o := { dst := some 34, op := Op.call { callee := Callee.value (Operand.func 58), args := #[Operand.tmp 33], argTypes := #[72] }, type := 29, pos := "exact.go:4218", after := #[{ on := 2, ground := Ground.data }, { on := 1, ground := Ground.chain }], guard := none }) rfl (fun K hK => ?_) ?_
                                        · skip
                                          (try go_simp)
                                          go_at_call 58
                                          refine (toEngine_any _ l1 _ (S_1.out.bel B) len1).mono ?_
                                          rintro e wn ⟨r_r1x1, rfl, o_r1x1, b⟩
                                          have O_r1x1 := Lib.hid (o_r1x1.lower B.size)
                                          replace O_r1x0 := Lib.hid (O_r1x0.out.bel b)
                                          replace B := bel_trans B b
                                          obtain ⟨A_r1x1, c_r1x1, rfl, -, -, -⟩ := o_r1x1.strs.open_
                                          clear o_r1x1
                                          clear b
                                          (try dsimp only)
                                          refine hK.out _ _ (by first | exact ⟨(B.cell (by exact K_p0.lt)).trans e_p0, (B.cell (by exact K_p1.lt)).trans e_p1⟩ | (dsimp only; exact ⟨(B.cell (by exact K_p0.lt)).trans e_p0, (B.cell (by exact K_p1.lt)).trans e_p1⟩)) (fun hS => ?_)
                                          clear hK K
                                          (try simp only [Act.put, List.setIfInBounds_toArray, List.set_cons_zero, List.set_cons_succ])
                                          refine wpAnyH_listed (l' := #[true, true, true, true, false, false, false, false, false, false, false, false, false, false]) (by kernel_rfl) ?_
                                          clear hS
                                          revert O_r1x1; revert O_r1x0; revert B
                                          revert c_r1x1; revert A_r1x1; revert c_r1x0; revert A_r1x0; revert wn
                                          exact keyr1_1_3.out
                                        refine AllReadyH.cons (o := { dst := some 6, op := Op.alloc 29, type := 0, pos := "exact.go:4218", after := #[], guard := none }) rfl (fun K hK => ?_) ?_
                                        · skip
                                          go_simp
                                          have H_sb0 : w3.heap.size ≤ wr.heap.size := B.size
                                          replace B : Below w3.heap.size w3 (wr.alloc (.cells #[Value.slice none 0 0] 29)) := bel_trans B (bel_alloc wr _)
                                          have K_sb0 := Blk.new' wr 29 (Value.slice none 0 0) wr.heap.size rfl
                                          have N_sb0_r1x0 : Hid (∀ k, (Value.slice A_r1x0 (l0).length c_r1x0).ownBlock = some k → k ≠ wr.heap.size) := Lib.hid (fun k hk => by have p1 := (O_r1x0.out.lt k hk).2; omega)
                                          replace O_r1x0 := Lib.hid (O_r1x0.out.bel (bel_alloc wr (.cells #[Value.slice none 0 0] 29)))
                                          refine hK.out _ _ (by first | exact ⟨(B.cell (by exact K_p0.lt)).trans e_p0, (B.cell (by exact K_p1.lt)).trans e_p1⟩ | (dsimp only; exact ⟨(B.cell (by exact K_p0.lt)).trans e_p0, (B.cell (by exact K_p1.lt)).trans e_p1⟩)) (fun hS => ?_)
                                          clear hK K
                                          (try simp only [Act.put, List.setIfInBounds_toArray, List.set_cons_zero, List.set_cons_succ])
                                          refine wpAnyH_listed (l' := #[true, true, true, false, false, false, false, false, false, true, false, false, false, false]) (by kernel_rfl) ?_
                                          clear hS
                                          revert N_sb0_r1x0; revert H_sb0; revert K_sb0; revert O_r1x0; revert B
                                          generalize (wr.alloc (.cells #[Value.slice none 0 0] 29)) = wn
                                          generalize wr.heap.size = ab_sb0
                                          revert ab_sb0; revert c_r1x0; revert A_r1x0; revert wn
                                          exact keyr1_1_9.out
                                        refine AllReadyH.cons (o := { dst := some 7, op := Op.alloc 29, type := 0, pos := "exact.go:4218", after := #[], guard := none }) rfl (fun K hK => ?_) ?_
                                        · skip
                                          go_simp
                                          have H_sb1 : w3.heap.size ≤ wr.heap.size := B.size
                                          replace B : Below w3.heap.size w3 (wr.alloc (.cells #[Value.slice none 0 0] 29)) := bel_trans B (bel_alloc wr _)
                                          have K_sb1 := Blk.new' wr 29 (Value.slice none 0 0) wr.heap.size rfl
                                          have N_sb1_r1x0 : Hid (∀ k, (Value.slice A_r1x0 (l0).length c_r1x0).ownBlock = some k → k ≠ wr.heap.size) := Lib.hid (fun k hk => by have p1 := (O_r1x0.out.lt k hk).2; omega)
                                          replace O_r1x0 := Lib.hid (O_r1x0.out.bel (bel_alloc wr (.cells #[Value.slice none 0 0] 29)))
                                          refine hK.out _ _ (by first | exact ⟨(B.cell (by exact K_p0.lt)).trans e_p0, (B.cell (by exact K_p1.lt)).trans e_p1⟩ | (dsimp only; exact ⟨(B.cell (by exact K_p0.lt)).trans e_p0, (B.cell (by exact K_p1.lt)).trans e_p1⟩)) (fun hS => ?_)
                                          clear hK K
                                          (try simp only [Act.put, List.setIfInBounds_toArray, List.set_cons_zero, List.set_cons_succ])
                                          refine wpAnyH_listed (l' := #[true, true, true, false, false, false, false, false, false, false, true, false, false, false]) (by kernel_rfl) ?_
                                          clear hS
                                          revert N_sb1_r1x0; revert H_sb1; revert K_sb1; revert O_r1x0; revert B
                                          generalize (wr.alloc (.cells #[Value.slice none 0 0] 29)) = wn
                                          generalize wr.heap.size = ab_sb1
                                          revert ab_sb1; revert c_r1x0; revert A_r1x0; revert wn
                                          exact keyr1_1_10.out
                                        exact AllReadyH.nil
                                    case hkr1_9 =>
                                      intro wr ab_sb0 B K_sb0 H_sb0
                                      refine wpAnyH_ready (rs := [1, 10]) (by kernel_rfl) (by simp) ?_
                                      refine AllReadyH.cons (o := { dst := some 32, op := Op.call { callee := Callee.value (Operand.func 58), args := #[Operand.tmp 31], argTypes := #[72] }, type := 29, pos := "exact.go:4218", after := #[{ on := 0, ground := Ground.data }], guard := none }) rfl (fun K hK => ?_) ?_
                                      · skip
                                        (try go_simp)
                                        go_at_call 58
                                        refine (toEngine_any _ l0 _ (S_0.out.bel B) len0).mono ?_
                                        rintro e wn ⟨r_r1x0, rfl, o_r1x0, b⟩
                                        have N_sb0_r1x0 : Hid (∀ k, r_r1x0.ownBlock = some k → k ≠ ab_sb0) := Lib.hid (fun k hk => by have p1 := (o_r1x0.lt k hk).1; have p2 := K_sb0.lt; omega)
                                        have O_r1x0 := Lib.hid (o_r1x0.lower B.size)
                                        replace K_sb0 := K_sb0.below b K_sb0.lt
                                        replace B := bel_trans B b
                                        obtain ⟨A_r1x0, c_r1x0, rfl, -, -, -⟩ := o_r1x0.strs.open_
                                        clear o_r1x0
                                        clear b
                                        (try dsimp only)
                                        refine hK.out _ _ (by first | exact ⟨(B.cell (by exact K_p0.lt)).trans e_p0, (B.cell (by exact K_p1.lt)).trans e_p1⟩ | (dsimp only; exact ⟨(B.cell (by exact K_p0.lt)).trans e_p0, (B.cell (by exact K_p1.lt)).trans e_p1⟩)) (fun hS => ?_)
                                        clear hK K
                                        (try simp only [Act.put, List.setIfInBounds_toArray, List.set_cons_zero, List.set_cons_succ])
                                        refine wpAnyH_listed (l' := #[true, true, true, false, false, false, false, false, false, true, false, false, false, false]) (by kernel_rfl) ?_
                                        clear hS
                                        revert N_sb0_r1x0; revert H_sb0; revert K_sb0; revert O_r1x0; revert B
                                        revert ab_sb0; revert c_r1x0; revert A_r1x0; revert wn
                                        exact keyr1_1_9.out
                                      refine AllReadyH.cons (o := { dst := some 7, op := Op.alloc 29, type := 0, pos := "exact.go:4218", after := #[], guard := none }) rfl (fun K hK => ?_) ?_
                                      · skip
                                        go_simp
                                        have H_sb1 : w3.heap.size ≤ wr.heap.size := B.size
                                        replace B : Below w3.heap.size w3 (wr.alloc (.cells #[Value.slice none 0 0] 29)) := bel_trans B (bel_alloc wr _)
                                        have X_r1 : ab_sb0 ≠ wr.heap.size := by have := K_sb0.lt; omega
                                        replace K_sb0 := K_sb0.alloc (.cells #[Value.slice none 0 0] 29)
                                        have K_sb1 := Blk.new' wr 29 (Value.slice none 0 0) wr.heap.size rfl
                                        refine hK.out _ _ (by first | exact ⟨(B.cell (by exact K_p0.lt)).trans e_p0, (B.cell (by exact K_p1.lt)).trans e_p1⟩ | (dsimp only; exact ⟨(B.cell (by exact K_p0.lt)).trans e_p0, (B.cell (by exact K_p1.lt)).trans e_p1⟩)) (fun hS => ?_)
                                        clear hK K
                                        (try simp only [Act.put, List.setIfInBounds_toArray, List.set_cons_zero, List.set_cons_succ])
                                        refine wpAnyH_listed (l' := #[true, false, true, false, false, false, false, false, false, true, true, false, false, false]) (by kernel_rfl) ?_
                                        clear hS
                                        revert X_r1; revert H_sb1; revert K_sb1; revert H_sb0; revert K_sb0; revert B
                                        generalize (wr.alloc (.cells #[Value.slice none 0 0] 29)) = wn
                                        generalize wr.heap.size = ab_sb1
                                        revert ab_sb1; revert ab_sb0; revert wn
                                        exact keyr1_9_10.out
                                      exact AllReadyH.nil
                                  case hkr1_10 =>
                                    intro wr ab_sb1 B K_sb1 H_sb1
                                    refine wpAnyH_ready (rs := [1, 9]) (by kernel_rfl) (by simp) ?_
                                    refine AllReadyH.cons (o := { dst := some 32, op := Op.call { callee := Callee.value (Operand.func 58), args := #[Operand.tmp 31], argTypes := #[72] }, type := 29, pos := "exact.go:4218", after := #[{ on := 0, ground := Ground.data }], guard := none }) rfl (fun K hK => ?_) ?_
                                    · skip
                                      (try go_simp)
                                      go_at_call 58
                                      refine (toEngine_any _ l0 _ (S_0.out.bel B) len0).mono ?_
                                      rintro e wn ⟨r_r1x0, rfl, o_r1x0, b⟩
                                      have N_sb1_r1x0 : Hid (∀ k, r_r1x0.ownBlock = some k → k ≠ ab_sb1) := Lib.hid (fun k hk => by have p1 := (o_r1x0.lt k hk).1; have p2 := K_sb1.lt; omega)
                                      have O_r1x0 := Lib.hid (o_r1x0.lower B.size)
                                      replace K_sb1 := K_sb1.below b K_sb1.lt
                                      replace B := bel_trans B b
                                      obtain ⟨A_r1x0, c_r1x0, rfl, -, -, -⟩ := o_r1x0.strs.open_
                                      clear o_r1x0
                                      clear b
                                      (try dsimp only)
                                      refine hK.out _ _ (by first | exact ⟨(B.cell (by exact K_p0.lt)).trans e_p0, (B.cell (by exact K_p1.lt)).trans e_p1⟩ | (dsimp only; exact ⟨(B.cell (by exact K_p0.lt)).trans e_p0, (B.cell (by exact K_p1.lt)).trans e_p1⟩)) (fun hS => ?_)
                                      clear hK K
                                      (try simp only [Act.put, List.setIfInBounds_toArray, List.set_cons_zero, List.set_cons_succ])
                                      refine wpAnyH_listed (l' := #[true, true, true, false, false, false, false, false, false, false, true, false, false, false]) (by kernel_rfl) ?_
                                      clear hS
                                      revert N_sb1_r1x0; revert H_sb1; revert K_sb1; revert O_r1x0; revert B
                                      revert ab_sb1; revert c_r1x0; revert A_r1x0; revert wn
                                      exact keyr1_1_10.out
                                    refine AllReadyH.cons (o := { dst := some 6, op := Op.alloc 29, type := 0, pos := "exact.go:4218", after := #[], guard := none }) rfl (fun K hK => ?_) ?_
                                    · skip
                                      go_simp
                                      have H_sb0 : w3.heap.size ≤ wr.heap.size := B.size
                                      replace B : Below w3.heap.size w3 (wr.alloc (.cells #[Value.slice none 0 0] 29)) := bel_trans B (bel_alloc wr _)
                                      have X_r1 : wr.heap.size ≠ ab_sb1 := by have := K_sb1.lt; omega
                                      replace K_sb1 := K_sb1.alloc (.cells #[Value.slice none 0 0] 29)
                                      have K_sb0 := Blk.new' wr 29 (Value.slice none 0 0) wr.heap.size rfl
                                      refine hK.out _ _ (by first | exact ⟨(B.cell (by exact K_p0.lt)).trans e_p0, (B.cell (by exact K_p1.lt)).trans e_p1⟩ | (dsimp only; exact ⟨(B.cell (by exact K_p0.lt)).trans e_p0, (B.cell (by exact K_p1.lt)).trans e_p1⟩)) (fun hS => ?_)
                                      clear hK K
                                      (try simp only [Act.put, List.setIfInBounds_toArray, List.set_cons_zero, List.set_cons_succ])
                                      refine wpAnyH_listed (l' := #[true, false, true, false, false, false, false, false, false, true, true, false, false, false]) (by kernel_rfl) ?_
                                      clear hS
                                      revert X_r1; revert H_sb1; revert K_sb1; revert H_sb0; revert K_sb0; revert B
                                      generalize (wr.alloc (.cells #[Value.slice none 0 0] 29)) = wn
                                      generalize wr.heap.size = ab_sb0
                                      revert ab_sb1; revert ab_sb0; revert wn
                                      exact keyr1_9_10.out
                                    exact AllReadyH.nil
                                case hkr1_1_3 =>
                                  intro wr A_r1x0 c_r1x0 A_r1x1 c_r1x1 B O_r1x0 O_r1x1
                                  refine wpAnyH_ready (rs := [4, 9, 10]) (by kernel_rfl) (by simp) ?_
                                  refine AllReadyH.cons (o := { dst := some 35, op := Op.call { callee := Callee.value (Operand.func 57), args := #[Operand.tmp 32, Operand.tmp 34], argTypes := #[29, 29] }, type := 74, pos := "exact.go:4218", after := #[{ on := 1, ground := Ground.data }, { on := 3, ground := Ground.data }, { on := 3, ground := Ground.chain }], guard := none }) rfl (fun K hK => ?_) ?_
                                  · skip
                                    (try go_simp)
                                    go_at_call 57
                                    refine (specCasc_any _ _ l0 l1 _ O_r1x0.out.strs O_r1x1.out.strs).mono ?_
                                    rintro e wn ⟨r_s0, r_s1, rfl, o_s0, o_s1, dxy, b⟩
                                    have D_r1 := Lib.hid dxy
                                    have O_s0 := Lib.hid (o_s0.lower B.size)
                                    have O_s1 := Lib.hid (o_s1.lower B.size)
                                    clear O_r1x0 
                                    clear O_r1x1 
                                    replace B := bel_trans B b
                                    obtain ⟨A_s0, c_s0, rfl, -, -, -⟩ := o_s0.strs.open_
                                    clear o_s0
                                    obtain ⟨A_s1, c_s1, rfl, -, -, -⟩ := o_s1.strs.open_
                                    clear o_s1
                                    clear b dxy
                                    (try dsimp only)
                                    refine hK.out _ _ (by first | exact ⟨(B.cell (by exact K_p0.lt)).trans e_p0, (B.cell (by exact K_p1.lt)).trans e_p1⟩ | (dsimp only; exact ⟨(B.cell (by exact K_p0.lt)).trans e_p0, (B.cell (by exact K_p1.lt)).trans e_p1⟩)) (fun hS => ?_)
                                    clear hK K
                                    (try simp only [Act.put, List.setIfInBounds_toArray, List.set_cons_zero, List.set_cons_succ])
                                    refine wpAnyH_take (i := 5) (oi := { dst := some 30, op := Op.move (Operand.tmp 35), type := 74, pos := "exact.go:4218", after := #[{ on := 4, ground := Ground.data }], guard := none }) (v := ?vr1_3) rfl (by kernel_rfl) (by kernel_rfl) (by kernel_rfl) (fun _ _ _ h => h) (Or.inl ⟨by rfl, ?hyr1_3⟩) hS ?restr1_3
                                    case hyr1_3 => (intro w' hSw; (try dsimp only at hSw); go_simp; all_goals with_reducible rfl)
                                    (try simp only [Act.put, List.setIfInBounds_toArray, List.set_cons_zero, List.set_cons_succ])
                                    refine wpAnyH_take (i := 6) (oi := { dst := some 36, op := Op.extract (Operand.tmp 30) 0, type := 29, pos := "exact.go:4218", after := #[{ on := 5, ground := Ground.data }], guard := none }) (v := ?vr1_4) rfl (by kernel_rfl) (by kernel_rfl) (by kernel_rfl) (fun _ _ _ h => h) (Or.inl ⟨by rfl, ?hyr1_4⟩) hS ?restr1_4
                                    case hyr1_4 => (intro w' hSw; (try dsimp only at hSw); go_simp; all_goals with_reducible rfl)
                                    (try simp only [Act.put, List.setIfInBounds_toArray, List.set_cons_zero, List.set_cons_succ])
                                    refine wpAnyH_take (i := 7) (oi := { dst := some 37, op := Op.extract (Operand.tmp 30) 1, type := 29, pos := "exact.go:4218", after := #[{ on := 5, ground := Ground.data }, { on := 11, ground := Ground.gcOnly Departure.lateStores }], guard := none }) (v := ?vr1_5) rfl (by kernel_rfl) (by kernel_rfl) (by kernel_rfl) (fun _ _ _ h => h) (Or.inl ⟨by rfl, ?hyr1_5⟩) hS ?restr1_5
                                    case hyr1_5 => (intro w' hSw; (try dsimp only at hSw); go_simp; all_goals with_reducible rfl)
                                    (try simp only [Act.put, List.setIfInBounds_toArray, List.set_cons_zero, List.set_cons_succ])
                                    refine wpAnyH_take (i := 8) (oi := { dst := some 38, op := Op.extract (Operand.tmp 30) 2, type := 4, pos := "exact.go:4218", after := #[{ on := 5, ground := Ground.data }, { on := 12, ground := Ground.gcOnly Departure.lateStores }], guard := none }) (v := ?vr1_6) rfl (by kernel_rfl) (by kernel_rfl) (by kernel_rfl) (fun _ _ _ h => h) (Or.inl ⟨by rfl, ?hyr1_6⟩) hS ?restr1_6
                                    case hyr1_6 => (intro w' hSw; (try dsimp only at hSw); go_simp; all_goals with_reducible rfl)
                                    (try simp only [Act.put, List.setIfInBounds_toArray, List.set_cons_zero, List.set_cons_succ])
                                    refine wpAnyH_listed (l' := #[true, true, true, true, true, true, true, true, true, false, false, false, false, false]) (by kernel_rfl) ?_
                                    clear hS
                                    revert D_r1; revert O_s1; revert O_s0; revert B
                                    revert c_s1; revert A_s1; revert c_s0; revert A_s0; revert c_r1x1; revert A_r1x1; revert c_r1x0; revert A_r1x0; revert wn
                                    exact keyr1_1_3_4.out
                                  refine AllReadyH.cons (o := { dst := some 6, op := Op.alloc 29, type := 0, pos := "exact.go:4218", after := #[], guard := none }) rfl (fun K hK => ?_) ?_
                                  · skip
                                    go_simp
                                    have H_sb0 : w3.heap.size ≤ wr.heap.size := B.size
                                    replace B : Below w3.heap.size w3 (wr.alloc (.cells #[Value.slice none 0 0] 29)) := bel_trans B (bel_alloc wr _)
                                    have K_sb0 := Blk.new' wr 29 (Value.slice none 0 0) wr.heap.size rfl
                                    have N_sb0_r1x0 : Hid (∀ k, (Value.slice A_r1x0 (l0).length c_r1x0).ownBlock = some k → k ≠ wr.heap.size) := Lib.hid (fun k hk => by have p1 := (O_r1x0.out.lt k hk).2; omega)
                                    replace O_r1x0 := Lib.hid (O_r1x0.out.bel (bel_alloc wr (.cells #[Value.slice none 0 0] 29)))
                                    have N_sb0_r1x1 : Hid (∀ k, (Value.slice A_r1x1 (l1).length c_r1x1).ownBlock = some k → k ≠ wr.heap.size) := Lib.hid (fun k hk => by have p1 := (O_r1x1.out.lt k hk).2; omega)
                                    replace O_r1x1 := Lib.hid (O_r1x1.out.bel (bel_alloc wr (.cells #[Value.slice none 0 0] 29)))
                                    refine hK.out _ _ (by first | exact ⟨(B.cell (by exact K_p0.lt)).trans e_p0, (B.cell (by exact K_p1.lt)).trans e_p1⟩ | (dsimp only; exact ⟨(B.cell (by exact K_p0.lt)).trans e_p0, (B.cell (by exact K_p1.lt)).trans e_p1⟩)) (fun hS => ?_)
                                    clear hK K
                                    (try simp only [Act.put, List.setIfInBounds_toArray, List.set_cons_zero, List.set_cons_succ])
                                    refine wpAnyH_listed (l' := #[true, true, true, true, false, false, false, false, false, true, false, false, false, false]) (by kernel_rfl) ?_
                                    clear hS
                                    revert N_sb0_r1x1; revert N_sb0_r1x0; revert H_sb0; revert K_sb0; revert O_r1x1; revert O_r1x0; revert B
                                    generalize (wr.alloc (.cells #[Value.slice none 0 0] 29)) = wn
                                    generalize wr.heap.size = ab_sb0
                                    revert ab_sb0; revert c_r1x1; revert A_r1x1; revert c_r1x0; revert A_r1x0; revert wn
                                    exact keyr1_1_3_9.out
                                  refine AllReadyH.cons (o := { dst := some 7, op := Op.alloc 29, type := 0, pos := "exact.go:4218", after := #[], guard := none }) rfl (fun K hK => ?_) ?_
                                  · skip
                                    go_simp
                                    have H_sb1 : w3.heap.size ≤ wr.heap.size := B.size
                                    replace B : Below w3.heap.size w3 (wr.alloc (.cells #[Value.slice none 0 0] 29)) := bel_trans B (bel_alloc wr _)
                                    have K_sb1 := Blk.new' wr 29 (Value.slice none 0 0) wr.heap.size rfl
                                    have N_sb1_r1x0 : Hid (∀ k, (Value.slice A_r1x0 (l0).length c_r1x0).ownBlock = some k → k ≠ wr.heap.size) := Lib.hid (fun k hk => by have p1 := (O_r1x0.out.lt k hk).2; omega)
                                    replace O_r1x0 := Lib.hid (O_r1x0.out.bel (bel_alloc wr (.cells #[Value.slice none 0 0] 29)))
                                    have N_sb1_r1x1 : Hid (∀ k, (Value.slice A_r1x1 (l1).length c_r1x1).ownBlock = some k → k ≠ wr.heap.size) := Lib.hid (fun k hk => by have p1 := (O_r1x1.out.lt k hk).2; omega)
                                    replace O_r1x1 := Lib.hid (O_r1x1.out.bel (bel_alloc wr (.cells #[Value.slice none 0 0] 29)))
                                    refine hK.out _ _ (by first | exact ⟨(B.cell (by exact K_p0.lt)).trans e_p0, (B.cell (by exact K_p1.lt)).trans e_p1⟩ | (dsimp only; exact ⟨(B.cell (by exact K_p0.lt)).trans e_p0, (B.cell (by exact K_p1.lt)).trans e_p1⟩)) (fun hS => ?_)
                                    clear hK K
                                    (try simp only [Act.put, List.setIfInBounds_toArray, List.set_cons_zero, List.set_cons_succ])
                                    refine wpAnyH_listed (l' := #[true, true, true, true, false, false, false, false, false, false, true, false, false, false]) (by kernel_rfl) ?_
                                    clear hS
                                    revert N_sb1_r1x1; revert N_sb1_r1x0; revert H_sb1; revert K_sb1; revert O_r1x1; revert O_r1x0; revert B
                                    generalize (wr.alloc (.cells #[Value.slice none 0 0] 29)) = wn
                                    generalize wr.heap.size = ab_sb1
                                    revert ab_sb1; revert c_r1x1; revert A_r1x1; revert c_r1x0; revert A_r1x0; revert wn
                                    exact keyr1_1_3_10.out
                                  exact AllReadyH.nil
                              case hkr1_1_9 =>
                                intro wr A_r1x0 c_r1x0 ab_sb0 B O_r1x0 K_sb0 H_sb0 N_sb0_r1x0
                                refine wpAnyH_ready (rs := [3, 10]) (by kernel_rfl) (by simp) ?_
                                refine AllReadyH.cons (o := { dst := some 34, op := Op.call { callee := Callee.value (Operand.func 58), args := #[Operand.tmp 33], argTypes := #[72] }, type := 29, pos := "exact.go:4218", after := #[{ on := 2, ground := Ground.data }, { on := 1, ground := Ground.chain }], guard := none }) rfl (fun K hK => ?_) ?_
                                · skip
                                  (try go_simp)
                                  go_at_call 58
                                  refine (toEngine_any _ l1 _ (S_1.out.bel B) len1).mono ?_
                                  rintro e wn ⟨r_r1x1, rfl, o_r1x1, b⟩
                                  have N_sb0_r1x1 : Hid (∀ k, r_r1x1.ownBlock = some k → k ≠ ab_sb0) := Lib.hid (fun k hk => by have p1 := (o_r1x1.lt k hk).1; have p2 := K_sb0.lt; omega)
                                  have O_r1x1 := Lib.hid (o_r1x1.lower B.size)
                                  replace K_sb0 := K_sb0.below b K_sb0.lt
                                  replace O_r1x0 := Lib.hid (O_r1x0.out.bel b)
                                  replace B := bel_trans B b
                                  obtain ⟨A_r1x1, c_r1x1, rfl, -, -, -⟩ := o_r1x1.strs.open_
                                  clear o_r1x1
                                  clear b
                                  (try dsimp only)
                                  refine hK.out _ _ (by first | exact ⟨(B.cell (by exact K_p0.lt)).trans e_p0, (B.cell (by exact K_p1.lt)).trans e_p1⟩ | (dsimp only; exact ⟨(B.cell (by exact K_p0.lt)).trans e_p0, (B.cell (by exact K_p1.lt)).trans e_p1⟩)) (fun hS => ?_)
                                  clear hK K
                                  (try simp only [Act.put, List.setIfInBounds_toArray, List.set_cons_zero, List.set_cons_succ])
                                  refine wpAnyH_listed (l' := #[true, true, true, true, false, false, false, false, false, true, false, false, false, false]) (by kernel_rfl) ?_
                                  clear hS
                                  revert N_sb0_r1x1; revert N_sb0_r1x0; revert H_sb0; revert K_sb0; revert O_r1x1; revert O_r1x0; revert B
                                  revert ab_sb0; revert c_r1x1; revert A_r1x1; revert c_r1x0; revert A_r1x0; revert wn
                                  exact keyr1_1_3_9.out
                                refine AllReadyH.cons (o := { dst := some 7, op := Op.alloc 29, type := 0, pos := "exact.go:4218", after := #[], guard := none }) rfl (fun K hK => ?_) ?_
                                · skip
                                  go_simp
                                  have H_sb1 : w3.heap.size ≤ wr.heap.size := B.size
                                  replace B : Below w3.heap.size w3 (wr.alloc (.cells #[Value.slice none 0 0] 29)) := bel_trans B (bel_alloc wr _)
                                  have X_r1 : ab_sb0 ≠ wr.heap.size := by have := K_sb0.lt; omega
                                  replace K_sb0 := K_sb0.alloc (.cells #[Value.slice none 0 0] 29)
                                  have K_sb1 := Blk.new' wr 29 (Value.slice none 0 0) wr.heap.size rfl
                                  have N_sb1_r1x0 : Hid (∀ k, (Value.slice A_r1x0 (l0).length c_r1x0).ownBlock = some k → k ≠ wr.heap.size) := Lib.hid (fun k hk => by have p1 := (O_r1x0.out.lt k hk).2; omega)
                                  replace O_r1x0 := Lib.hid (O_r1x0.out.bel (bel_alloc wr (.cells #[Value.slice none 0 0] 29)))
                                  refine hK.out _ _ (by first | exact ⟨(B.cell (by exact K_p0.lt)).trans e_p0, (B.cell (by exact K_p1.lt)).trans e_p1⟩ | (dsimp only; exact ⟨(B.cell (by exact K_p0.lt)).trans e_p0, (B.cell (by exact K_p1.lt)).trans e_p1⟩)) (fun hS => ?_)
                                  clear hK K
                                  (try simp only [Act.put, List.setIfInBounds_toArray, List.set_cons_zero, List.set_cons_succ])
                                  refine wpAnyH_listed (l' := #[true, true, true, false, false, false, false, false, false, true, true, false, false, false]) (by kernel_rfl) ?_
                                  clear hS
                                  revert N_sb1_r1x0; revert N_sb0_r1x0; revert X_r1; revert H_sb1; revert K_sb1; revert H_sb0; revert K_sb0; revert O_r1x0; revert B
                                  generalize (wr.alloc (.cells #[Value.slice none 0 0] 29)) = wn
                                  generalize wr.heap.size = ab_sb1
                                  revert ab_sb1; revert ab_sb0; revert c_r1x0; revert A_r1x0; revert wn
                                  exact keyr1_1_9_10.out
                                exact AllReadyH.nil
                            case hkr1_1_10 =>
                              intro wr A_r1x0 c_r1x0 ab_sb1 B O_r1x0 K_sb1 H_sb1 N_sb1_r1x0
                              refine wpAnyH_ready (rs := [3, 9]) (by kernel_rfl) (by simp) ?_
                              refine AllReadyH.cons (o := { dst := some 34, op := Op.call { callee := Callee.value (Operand.func 58), args := #[Operand.tmp 33], argTypes := #[72] }, type := 29, pos := "exact.go:4218", after := #[{ on := 2, ground := Ground.data }, { on := 1, ground := Ground.chain }], guard := none }) rfl (fun K hK => ?_) ?_
                              · skip
                                (try go_simp)
                                go_at_call 58
                                refine (toEngine_any _ l1 _ (S_1.out.bel B) len1).mono ?_
                                rintro e wn ⟨r_r1x1, rfl, o_r1x1, b⟩
                                have N_sb1_r1x1 : Hid (∀ k, r_r1x1.ownBlock = some k → k ≠ ab_sb1) := Lib.hid (fun k hk => by have p1 := (o_r1x1.lt k hk).1; have p2 := K_sb1.lt; omega)
                                have O_r1x1 := Lib.hid (o_r1x1.lower B.size)
                                replace K_sb1 := K_sb1.below b K_sb1.lt
                                replace O_r1x0 := Lib.hid (O_r1x0.out.bel b)
                                replace B := bel_trans B b
                                obtain ⟨A_r1x1, c_r1x1, rfl, -, -, -⟩ := o_r1x1.strs.open_
                                clear o_r1x1
                                clear b
                                (try dsimp only)
                                refine hK.out _ _ (by first | exact ⟨(B.cell (by exact K_p0.lt)).trans e_p0, (B.cell (by exact K_p1.lt)).trans e_p1⟩ | (dsimp only; exact ⟨(B.cell (by exact K_p0.lt)).trans e_p0, (B.cell (by exact K_p1.lt)).trans e_p1⟩)) (fun hS => ?_)
                                clear hK K
                                (try simp only [Act.put, List.setIfInBounds_toArray, List.set_cons_zero, List.set_cons_succ])
                                refine wpAnyH_listed (l' := #[true, true, true, true, false, false, false, false, false, false, true, false, false, false]) (by kernel_rfl) ?_
                                clear hS
                                revert N_sb1_r1x1; revert N_sb1_r1x0; revert H_sb1; revert K_sb1; revert O_r1x1; revert O_r1x0; revert B
                                revert ab_sb1; revert c_r1x1; revert A_r1x1; revert c_r1x0; revert A_r1x0; revert wn
                                exact keyr1_1_3_10.out
                              refine AllReadyH.cons (o := { dst := some 6, op := Op.alloc 29, type := 0, pos := "exact.go:4218", after := #[], guard := none }) rfl (fun K hK => ?_) ?_
                              · skip
                                go_simp
                                have H_sb0 : w3.heap.size ≤ wr.heap.size := B.size
                                replace B : Below w3.heap.size w3 (wr.alloc (.cells #[Value.slice none 0 0] 29)) := bel_trans B (bel_alloc wr _)
                                have X_r1 : wr.heap.size ≠ ab_sb1 := by have := K_sb1.lt; omega
                                replace K_sb1 := K_sb1.alloc (.cells #[Value.slice none 0 0] 29)
                                have K_sb0 := Blk.new' wr 29 (Value.slice none 0 0) wr.heap.size rfl
                                have N_sb0_r1x0 : Hid (∀ k, (Value.slice A_r1x0 (l0).length c_r1x0).ownBlock = some k → k ≠ wr.heap.size) := Lib.hid (fun k hk => by have p1 := (O_r1x0.out.lt k hk).2; omega)
                                replace O_r1x0 := Lib.hid (O_r1x0.out.bel (bel_alloc wr (.cells #[Value.slice none 0 0] 29)))
                                refine hK.out _ _ (by first | exact ⟨(B.cell (by exact K_p0.lt)).trans e_p0, (B.cell (by exact K_p1.lt)).trans e_p1⟩ | (dsimp only; exact ⟨(B.cell (by exact K_p0.lt)).trans e_p0, (B.cell (by exact K_p1.lt)).trans e_p1⟩)) (fun hS => ?_)
                                clear hK K
                                (try simp only [Act.put, List.setIfInBounds_toArray, List.set_cons_zero, List.set_cons_succ])
                                refine wpAnyH_listed (l' := #[true, true, true, false, false, false, false, false, false, true, true, false, false, false]) (by kernel_rfl) ?_
                                clear hS
                                revert N_sb1_r1x0; revert N_sb0_r1x0; revert X_r1; revert H_sb1; revert K_sb1; revert H_sb0; revert K_sb0; revert O_r1x0; revert B
                                generalize (wr.alloc (.cells #[Value.slice none 0 0] 29)) = wn
                                generalize wr.heap.size = ab_sb0
                                revert ab_sb1; revert ab_sb0; revert c_r1x0; revert A_r1x0; revert wn
                                exact keyr1_1_9_10.out
                              exact AllReadyH.nil
                          case hkr1_9_10 =>
                            intro wr ab_sb0 ab_sb1 B K_sb0 H_sb0 K_sb1 H_sb1 X_r1
                            refine wpAnyH_ready (rs := [1]) (by kernel_rfl) (by simp) ?_
                            refine AllReadyH.cons (o := { dst := some 32, op := Op.call { callee := Callee.value (Operand.func 58), args := #[Operand.tmp 31], argTypes := #[72] }, type := 29, pos := "exact.go:4218", after := #[{ on := 0, ground := Ground.data }], guard := none }) rfl (fun K hK => ?_) ?_
                            · skip
                              (try go_simp)
                              go_at_call 58
                              refine (toEngine_any _ l0 _ (S_0.out.bel B) len0).mono ?_
                              rintro e wn ⟨r_r1x0, rfl, o_r1x0, b⟩
                              have N_sb0_r1x0 : Hid (∀ k, r_r1x0.ownBlock = some k → k ≠ ab_sb0) := Lib.hid (fun k hk => by have p1 := (o_r1x0.lt k hk).1; have p2 := K_sb0.lt; omega)
                              have N_sb1_r1x0 : Hid (∀ k, r_r1x0.ownBlock = some k → k ≠ ab_sb1) := Lib.hid (fun k hk => by have p1 := (o_r1x0.lt k hk).1; have p2 := K_sb1.lt; omega)
                              have O_r1x0 := Lib.hid (o_r1x0.lower B.size)
                              replace K_sb0 := K_sb0.below b K_sb0.lt
                              replace K_sb1 := K_sb1.below b K_sb1.lt
                              replace B := bel_trans B b
                              obtain ⟨A_r1x0, c_r1x0, rfl, -, -, -⟩ := o_r1x0.strs.open_
                              clear o_r1x0
                              clear b
                              (try dsimp only)
                              refine hK.out _ _ (by first | exact ⟨(B.cell (by exact K_p0.lt)).trans e_p0, (B.cell (by exact K_p1.lt)).trans e_p1⟩ | (dsimp only; exact ⟨(B.cell (by exact K_p0.lt)).trans e_p0, (B.cell (by exact K_p1.lt)).trans e_p1⟩)) (fun hS => ?_)
                              clear hK K
                              (try simp only [Act.put, List.setIfInBounds_toArray, List.set_cons_zero, List.set_cons_succ])
                              refine wpAnyH_listed (l' := #[true, true, true, false, false, false, false, false, false, true, true, false, false, false]) (by kernel_rfl) ?_
                              clear hS
                              revert N_sb1_r1x0; revert N_sb0_r1x0; revert X_r1; revert H_sb1; revert K_sb1; revert H_sb0; revert K_sb0; revert O_r1x0; revert B
                              revert ab_sb1; revert ab_sb0; revert c_r1x0; revert A_r1x0; revert wn
                              exact keyr1_1_9_10.out
                            exact AllReadyH.nil
                        case hkr1_1_3_4 =>
                          intro wr A_r1x0 c_r1x0 A_r1x1 c_r1x1 A_s0 c_s0 A_s1 c_s1 B O_s0 O_s1 D_r1
                          refine wpAnyH_ready (rs := [9, 10]) (by kernel_rfl) (by simp) ?_
                          refine AllReadyH.cons (o := { dst := some 6, op := Op.alloc 29, type := 0, pos := "exact.go:4218", after := #[], guard := none }) rfl (fun K hK => ?_) ?_
                          · skip
                            go_simp
                            have H_sb0 : w3.heap.size ≤ wr.heap.size := B.size
                            replace B : Below w3.heap.size w3 (wr.alloc (.cells #[Value.slice none 0 0] 29)) := bel_trans B (bel_alloc wr _)
                            have K_sb0 := Blk.new' wr 29 (Value.slice none 0 0) wr.heap.size rfl
                            have N_sb0_s0 : Hid (∀ k, (Value.slice A_s0 (cA l0 l1).length c_s0).ownBlock = some k → k ≠ wr.heap.size) := Lib.hid (fun k hk => by have p1 := (O_s0.out.lt k hk).2; omega)
                            replace O_s0 := Lib.hid (O_s0.out.bel (bel_alloc wr (.cells #[Value.slice none 0 0] 29)))
                            have N_sb0_s1 : Hid (∀ k, (Value.slice A_s1 (cB l0 l1).length c_s1).ownBlock = some k → k ≠ wr.heap.size) := Lib.hid (fun k hk => by have p1 := (O_s1.out.lt k hk).2; omega)
                            replace O_s1 := Lib.hid (O_s1.out.bel (bel_alloc wr (.cells #[Value.slice none 0 0] 29)))
                            refine hK.out _ _ (by first | exact ⟨(B.cell (by exact K_p0.lt)).trans e_p0, (B.cell (by exact K_p1.lt)).trans e_p1⟩ | (dsimp only; exact ⟨(B.cell (by exact K_p0.lt)).trans e_p0, (B.cell (by exact K_p1.lt)).trans e_p1⟩)) (fun hS => ?_)
                            clear hK K
                            (try simp only [Act.put, List.setIfInBounds_toArray, List.set_cons_zero, List.set_cons_succ])
                            refine wpAnyH_listed (l' := #[true, true, true, true, true, true, true, true, true, true, false, false, false, false]) (by kernel_rfl) ?_
                            clear hS
                            revert N_sb0_s1; revert N_sb0_s0; revert H_sb0; revert K_sb0; revert D_r1; revert O_s1; revert O_s0; revert B
                            generalize (wr.alloc (.cells #[Value.slice none 0 0] 29)) = wn
                            generalize wr.heap.size = ab_sb0
                            revert ab_sb0; revert c_s1; revert A_s1; revert c_s0; revert A_s0; revert c_r1x1; revert A_r1x1; revert c_r1x0; revert A_r1x0; revert wn
                            exact keyr1_1_3_4_9.out
                          refine AllReadyH.cons (o := { dst := some 7, op := Op.alloc 29, type := 0, pos := "exact.go:4218", after := #[], guard := none }) rfl (fun K hK => ?_) ?_
                          · skip
                            go_simp
                            have H_sb1 : w3.heap.size ≤ wr.heap.size := B.size
                            replace B : Below w3.heap.size w3 (wr.alloc (.cells #[Value.slice none 0 0] 29)) := bel_trans B (bel_alloc wr _)
                            have K_sb1 := Blk.new' wr 29 (Value.slice none 0 0) wr.heap.size rfl
                            have N_sb1_s0 : Hid (∀ k, (Value.slice A_s0 (cA l0 l1).length c_s0).ownBlock = some k → k ≠ wr.heap.size) := Lib.hid (fun k hk => by have p1 := (O_s0.out.lt k hk).2; omega)
                            replace O_s0 := Lib.hid (O_s0.out.bel (bel_alloc wr (.cells #[Value.slice none 0 0] 29)))
                            have N_sb1_s1 : Hid (∀ k, (Value.slice A_s1 (cB l0 l1).length c_s1).ownBlock = some k → k ≠ wr.heap.size) := Lib.hid (fun k hk => by have p1 := (O_s1.out.lt k hk).2; omega)
                            replace O_s1 := Lib.hid (O_s1.out.bel (bel_alloc wr (.cells #[Value.slice none 0 0] 29)))
                            refine hK.out _ _ (by first | exact ⟨(B.cell (by exact K_p0.lt)).trans e_p0, (B.cell (by exact K_p1.lt)).trans e_p1⟩ | (dsimp only; exact ⟨(B.cell (by exact K_p0.lt)).trans e_p0, (B.cell (by exact K_p1.lt)).trans e_p1⟩)) (fun hS => ?_)
                            clear hK K
                            (try simp only [Act.put, List.setIfInBounds_toArray, List.set_cons_zero, List.set_cons_succ])
                            refine wpAnyH_listed (l' := #[true, true, true, true, true, true, true, true, true, false, true, false, false, false]) (by kernel_rfl) ?_
                            clear hS
                            revert N_sb1_s1; revert N_sb1_s0; revert H_sb1; revert K_sb1; revert D_r1; revert O_s1; revert O_s0; revert B
                            generalize (wr.alloc (.cells #[Value.slice none 0 0] 29)) = wn
                            generalize wr.heap.size = ab_sb1
                            revert ab_sb1; revert c_s1; revert A_s1; revert c_s0; revert A_s0; revert c_r1x1; revert A_r1x1; revert c_r1x0; revert A_r1x0; revert wn
                            exact keyr1_1_3_4_10.out
                          exact AllReadyH.nil
                      case hkr1_1_3_9 =>
                        intro wr A_r1x0 c_r1x0 A_r1x1 c_r1x1 ab_sb0 B O_r1x0 O_r1x1 K_sb0 H_sb0 N_sb0_r1x0 N_sb0_r1x1
                        refine wpAnyH_ready (rs := [4, 10]) (by kernel_rfl) (by simp) ?_
                        refine AllReadyH.cons (o := { dst := some 35, op := Op.call { callee := Callee.value (Operand.func 57), args := #[Operand.tmp 32, Operand.tmp 34], argTypes := #[29, 29] }, type := 74, pos := "exact.go:4218", after := #[{ on := 1, ground := Ground.data }, { on := 3, ground := Ground.data }, { on := 3, ground := Ground.chain }], guard := none }) rfl (fun K hK => ?_) ?_
                        · skip
                          (try go_simp)
                          go_at_call 57
                          refine (specCasc_any _ _ l0 l1 _ O_r1x0.out.strs O_r1x1.out.strs).mono ?_
                          rintro e wn ⟨r_s0, r_s1, rfl, o_s0, o_s1, dxy, b⟩
                          have N_sb0_s0 : Hid (∀ k, r_s0.ownBlock = some k → k ≠ ab_sb0) := Lib.hid (fun k hk => by have p1 := (o_s0.lt k hk).1; have p2 := K_sb0.lt; omega)
                          have N_sb0_s1 : Hid (∀ k, r_s1.ownBlock = some k → k ≠ ab_sb0) := Lib.hid (fun k hk => by have p1 := (o_s1.lt k hk).1; have p2 := K_sb0.lt; omega)
                          have D_r1 := Lib.hid dxy
                          have O_s0 := Lib.hid (o_s0.lower B.size)
                          have O_s1 := Lib.hid (o_s1.lower B.size)
                          replace K_sb0 := K_sb0.below b K_sb0.lt
                          clear O_r1x0 N_sb0_r1x0
                          clear O_r1x1 N_sb0_r1x1
                          replace B := bel_trans B b
                          obtain ⟨A_s0, c_s0, rfl, -, -, -⟩ := o_s0.strs.open_
                          clear o_s0
                          obtain ⟨A_s1, c_s1, rfl, -, -, -⟩ := o_s1.strs.open_
                          clear o_s1
                          clear b dxy
                          (try dsimp only)
                          refine hK.out _ _ (by first | exact ⟨(B.cell (by exact K_p0.lt)).trans e_p0, (B.cell (by exact K_p1.lt)).trans e_p1⟩ | (dsimp only; exact ⟨(B.cell (by exact K_p0.lt)).trans e_p0, (B.cell (by exact K_p1.lt)).trans e_p1⟩)) (fun hS => ?_)
                          clear hK K
                          (try simp only [Act.put, List.setIfInBounds_toArray, List.set_cons_zero, List.set_cons_succ])
                          refine wpAnyH_take (i := 5) (oi := { dst := some 30, op := Op.move (Operand.tmp 35), type := 74, pos := "exact.go:4218", after := #[{ on := 4, ground := Ground.data }], guard := none }) (v := ?vr1_7) rfl (by kernel_rfl) (by kernel_rfl) (by kernel_rfl) (fun _ _ _ h => h) (Or.inl ⟨by rfl, ?hyr1_7⟩) hS ?restr1_7
                          case hyr1_7 => (intro w' hSw; (try dsimp only at hSw); go_simp; all_goals with_reducible rfl)
                          (try simp only [Act.put, List.setIfInBounds_toArray, List.set_cons_zero, List.set_cons_succ])
                          refine wpAnyH_take (i := 6) (oi := { dst := some 36, op := Op.extract (Operand.tmp 30) 0, type := 29, pos := "exact.go:4218", after := #[{ on := 5, ground := Ground.data }], guard := none }) (v := ?vr1_8) rfl (by kernel_rfl) (by kernel_rfl) (by kernel_rfl) (fun _ _ _ h => h) (Or.inl ⟨by rfl, ?hyr1_8⟩) hS ?restr1_8
                          case hyr1_8 => (intro w' hSw; (try dsimp only at hSw); go_simp; all_goals with_reducible rfl)
                          (try simp only [Act.put, List.setIfInBounds_toArray, List.set_cons_zero, List.set_cons_succ])
                          refine wpAnyH_take (i := 7) (oi := { dst := some 37, op := Op.extract (Operand.tmp 30) 1, type := 29, pos := "exact.go:4218", after := #[{ on := 5, ground := Ground.data }, { on := 11, ground := Ground.gcOnly Departure.lateStores }], guard := none }) (v := ?vr1_9) rfl (by kernel_rfl) (by kernel_rfl) (by kernel_rfl) (fun _ _ _ h => h) (Or.inl ⟨by rfl, ?hyr1_9⟩) hS ?restr1_9
                          case hyr1_9 => (intro w' hSw; (try dsimp only at hSw); go_simp; all_goals with_reducible rfl)
                          (try simp only [Act.put, List.setIfInBounds_toArray, List.set_cons_zero, List.set_cons_succ])
                          refine wpAnyH_take (i := 8) (oi := { dst := some 38, op := Op.extract (Operand.tmp 30) 2, type := 4, pos := "exact.go:4218", after := #[{ on := 5, ground := Ground.data }, { on := 12, ground := Ground.gcOnly Departure.lateStores }], guard := none }) (v := ?vr1_10) rfl (by kernel_rfl) (by kernel_rfl) (by kernel_rfl) (fun _ _ _ h => h) (Or.inl ⟨by rfl, ?hyr1_10⟩) hS ?restr1_10
                          case hyr1_10 => (intro w' hSw; (try dsimp only at hSw); go_simp; all_goals with_reducible rfl)
                          (try simp only [Act.put, List.setIfInBounds_toArray, List.set_cons_zero, List.set_cons_succ])
                          refine wpAnyH_listed (l' := #[true, true, true, true, true, true, true, true, true, true, false, false, false, false]) (by kernel_rfl) ?_
                          clear hS
                          revert N_sb0_s1; revert N_sb0_s0; revert H_sb0; revert K_sb0; revert D_r1; revert O_s1; revert O_s0; revert B
                          revert ab_sb0; revert c_s1; revert A_s1; revert c_s0; revert A_s0; revert c_r1x1; revert A_r1x1; revert c_r1x0; revert A_r1x0; revert wn
                          exact keyr1_1_3_4_9.out
                        refine AllReadyH.cons (o := { dst := some 7, op := Op.alloc 29, type := 0, pos := "exact.go:4218", after := #[], guard := none }) rfl (fun K hK => ?_) ?_
                        · skip
                          go_simp
                          have H_sb1 : w3.heap.size ≤ wr.heap.size := B.size
                          replace B : Below w3.heap.size w3 (wr.alloc (.cells #[Value.slice none 0 0] 29)) := bel_trans B (bel_alloc wr _)
                          have X_r1 : ab_sb0 ≠ wr.heap.size := by have := K_sb0.lt; omega
                          replace K_sb0 := K_sb0.alloc (.cells #[Value.slice none 0 0] 29)
                          have K_sb1 := Blk.new' wr 29 (Value.slice none 0 0) wr.heap.size rfl
                          have N_sb1_r1x0 : Hid (∀ k, (Value.slice A_r1x0 (l0).length c_r1x0).ownBlock = some k → k ≠ wr.heap.size) := Lib.hid (fun k hk => by have p1 := (O_r1x0.out.lt k hk).2; omega)
                          replace O_r1x0 := Lib.hid (O_r1x0.out.bel (bel_alloc wr (.cells #[Value.slice none 0 0] 29)))
                          have N_sb1_r1x1 : Hid (∀ k, (Value.slice A_r1x1 (l1).length c_r1x1).ownBlock = some k → k ≠ wr.heap.size) := Lib.hid (fun k hk => by have p1 := (O_r1x1.out.lt k hk).2; omega)
                          replace O_r1x1 := Lib.hid (O_r1x1.out.bel (bel_alloc wr (.cells #[Value.slice none 0 0] 29)))
                          refine hK.out _ _ (by first | exact ⟨(B.cell (by exact K_p0.lt)).trans e_p0, (B.cell (by exact K_p1.lt)).trans e_p1⟩ | (dsimp only; exact ⟨(B.cell (by exact K_p0.lt)).trans e_p0, (B.cell (by exact K_p1.lt)).trans e_p1⟩)) (fun hS => ?_)
                          clear hK K
                          (try simp only [Act.put, List.setIfInBounds_toArray, List.set_cons_zero, List.set_cons_succ])
                          refine wpAnyH_listed (l' := #[true, true, true, true, false, false, false, false, false, true, true, false, false, false]) (by kernel_rfl) ?_
                          clear hS
                          revert N_sb1_r1x1; revert N_sb1_r1x0; revert N_sb0_r1x1; revert N_sb0_r1x0; revert X_r1; revert H_sb1; revert K_sb1; revert H_sb0; revert K_sb0; revert O_r1x1; revert O_r1x0; revert B
                          generalize (wr.alloc (.cells #[Value.slice none 0 0] 29)) = wn
                          generalize wr.heap.size = ab_sb1
                          revert ab_sb1; revert ab_sb0; revert c_r1x1; revert A_r1x1; revert c_r1x0; revert A_r1x0; revert wn
                          exact keyr1_1_3_9_10.out
                        exact AllReadyH.nil
                    case hkr1_1_3_10 =>
                      intro wr A_r1x0 c_r1x0 A_r1x1 c_r1x1 ab_sb1 B O_r1x0 O_r1x1 K_sb1 H_sb1 N_sb1_r1x0 N_sb1_r1x1
                      refine wpAnyH_ready (rs := [4, 9]) (by kernel_rfl) (by simp) ?_
                      refine AllReadyH.cons (o := { dst := some 35, op := Op.call { callee := Callee.value (Operand.func 57), args := #[Operand.tmp 32, Operand.tmp 34], argTypes := #[29, 29] }, type := 74, pos := "exact.go:4218", after := #[{ on := 1, ground := Ground.data }, { on := 3, ground := Ground.data }, { on := 3, ground := Ground.chain }], guard := none }) rfl (fun K hK => ?_) ?_
                      · skip
                        (try go_simp)
                        go_at_call 57
                        refine (specCasc_any _ _ l0 l1 _ O_r1x0.out.strs O_r1x1.out.strs).mono ?_
                        rintro e wn ⟨r_s0, r_s1, rfl, o_s0, o_s1, dxy, b⟩
                        have N_sb1_s0 : Hid (∀ k, r_s0.ownBlock = some k → k ≠ ab_sb1) := Lib.hid (fun k hk => by have p1 := (o_s0.lt k hk).1; have p2 := K_sb1.lt; omega)
                        have N_sb1_s1 : Hid (∀ k, r_s1.ownBlock = some k → k ≠ ab_sb1) := Lib.hid (fun k hk => by have p1 := (o_s1.lt k hk).1; have p2 := K_sb1.lt; omega)
                        have D_r1 := Lib.hid dxy
                        have O_s0 := Lib.hid (o_s0.lower B.size)
                        have O_s1 := Lib.hid (o_s1.lower B.size)
                        replace K_sb1 := K_sb1.below b K_sb1.lt
                        clear O_r1x0 N_sb1_r1x0
                        clear O_r1x1 N_sb1_r1x1
                        replace B := bel_trans B b
                        obtain ⟨A_s0, c_s0, rfl, -, -, -⟩ := o_s0.strs.open_
                        clear o_s0
                        obtain ⟨A_s1, c_s1, rfl, -, -, -⟩ := o_s1.strs.open_
                        clear o_s1
                        clear b dxy
                        (try dsimp only)
                        refine hK.out _ _ (by first | exact ⟨(B.cell (by exact K_p0.lt)).trans e_p0, (B.cell (by exact K_p1.lt)).trans e_p1⟩ | (dsimp only; exact ⟨(B.cell (by exact K_p0.lt)).trans e_p0, (B.cell (by exact K_p1.lt)).trans e_p1⟩)) (fun hS => ?_)
                        clear hK K
                        (try simp only [Act.put, List.setIfInBounds_toArray, List.set_cons_zero, List.set_cons_succ])
                        refine wpAnyH_take (i := 5) (oi := { dst := some 30, op := Op.move (Operand.tmp 35), type := 74, pos := "exact.go:4218", after := #[{ on := 4, ground := Ground.data }], guard := none }) (v := ?vr1_11) rfl (by kernel_rfl) (by kernel_rfl) (by kernel_rfl) (fun _ _ _ h => h) (Or.inl ⟨by rfl, ?hyr1_11⟩) hS ?restr1_11
                        case hyr1_11 => (intro w' hSw; (try dsimp only at hSw); go_simp; all_goals with_reducible rfl)
                        (try simp only [Act.put, List.setIfInBounds_toArray, List.set_cons_zero, List.set_cons_succ])
                        refine wpAnyH_take (i := 6) (oi := { dst := some 36, op := Op.extract (Operand.tmp 30) 0, type := 29, pos := "exact.go:4218", after := #[{ on := 5, ground := Ground.data }], guard := none }) (v := ?vr1_12) rfl (by kernel_rfl) (by kernel_rfl) (by kernel_rfl) (fun _ _ _ h => h) (Or.inl ⟨by rfl, ?hyr1_12⟩) hS ?restr1_12
                        case hyr1_12 => (intro w' hSw; (try dsimp only at hSw); go_simp; all_goals with_reducible rfl)
                        (try simp only [Act.put, List.setIfInBounds_toArray, List.set_cons_zero, List.set_cons_succ])
                        refine wpAnyH_take (i := 7) (oi := { dst := some 37, op := Op.extract (Operand.tmp 30) 1, type := 29, pos := "exact.go:4218", after := #[{ on := 5, ground := Ground.data }, { on := 11, ground := Ground.gcOnly Departure.lateStores }], guard := none }) (v := ?vr1_13) rfl (by kernel_rfl) (by kernel_rfl) (by kernel_rfl) (fun _ _ _ h => h) (Or.inl ⟨by rfl, ?hyr1_13⟩) hS ?restr1_13
                        case hyr1_13 => (intro w' hSw; (try dsimp only at hSw); go_simp; all_goals with_reducible rfl)
                        (try simp only [Act.put, List.setIfInBounds_toArray, List.set_cons_zero, List.set_cons_succ])
                        refine wpAnyH_take (i := 8) (oi := { dst := some 38, op := Op.extract (Operand.tmp 30) 2, type := 4, pos := "exact.go:4218", after := #[{ on := 5, ground := Ground.data }, { on := 12, ground := Ground.gcOnly Departure.lateStores }], guard := none }) (v := ?vr1_14) rfl (by kernel_rfl) (by kernel_rfl) (by kernel_rfl) (fun _ _ _ h => h) (Or.inl ⟨by rfl, ?hyr1_14⟩) hS ?restr1_14
                        case hyr1_14 => (intro w' hSw; (try dsimp only at hSw); go_simp; all_goals with_reducible rfl)
                        (try simp only [Act.put, List.setIfInBounds_toArray, List.set_cons_zero, List.set_cons_succ])
                        refine wpAnyH_listed (l' := #[true, true, true, true, true, true, true, true, true, false, true, false, false, false]) (by kernel_rfl) ?_
                        clear hS
                        revert N_sb1_s1; revert N_sb1_s0; revert H_sb1; revert K_sb1; revert D_r1; revert O_s1; revert O_s0; revert B
                        revert ab_sb1; revert c_s1; revert A_s1; revert c_s0; revert A_s0; revert c_r1x1; revert A_r1x1; revert c_r1x0; revert A_r1x0; revert wn
                        exact keyr1_1_3_4_10.out
                      refine AllReadyH.cons (o := { dst := some 6, op := Op.alloc 29, type := 0, pos := "exact.go:4218", after := #[], guard := none }) rfl (fun K hK => ?_) ?_
                      · skip
                        go_simp
                        have H_sb0 : w3.heap.size ≤ wr.heap.size := B.size
                        replace B : Below w3.heap.size w3 (wr.alloc (.cells #[Value.slice none 0 0] 29)) := bel_trans B (bel_alloc wr _)
                        have X_r1 : wr.heap.size ≠ ab_sb1 := by have := K_sb1.lt; omega
                        replace K_sb1 := K_sb1.alloc (.cells #[Value.slice none 0 0] 29)
                        have K_sb0 := Blk.new' wr 29 (Value.slice none 0 0) wr.heap.size rfl
                        have N_sb0_r1x0 : Hid (∀ k, (Value.slice A_r1x0 (l0).length c_r1x0).ownBlock = some k → k ≠ wr.heap.size) := Lib.hid (fun k hk => by have p1 := (O_r1x0.out.lt k hk).2; omega)
                        replace O_r1x0 := Lib.hid (O_r1x0.out.bel (bel_alloc wr (.cells #[Value.slice none 0 0] 29)))
                        have N_sb0_r1x1 : Hid (∀ k, (Value.slice A_r1x1 (l1).length c_r1x1).ownBlock = some k → k ≠ wr.heap.size) := Lib.hid (fun k hk => by have p1 := (O_r1x1.out.lt k hk).2; omega)
                        replace O_r1x1 := Lib.hid (O_r1x1.out.bel (bel_alloc wr (.cells #[Value.slice none 0 0] 29)))
                        refine hK.out _ _ (by first | exact ⟨(B.cell (by exact K_p0.lt)).trans e_p0, (B.cell (by exact K_p1.lt)).trans e_p1⟩ | (dsimp only; exact ⟨(B.cell (by exact K_p0.lt)).trans e_p0, (B.cell (by exact K_p1.lt)).trans e_p1⟩)) (fun hS => ?_)
                        clear hK K
                        (try simp only [Act.put, List.setIfInBounds_toArray, List.set_cons_zero, List.set_cons_succ])
                        refine wpAnyH_listed (l' := #[true, true, true, true, false, false, false, false, false, true, true, false, false, false]) (by kernel_rfl) ?_
                        clear hS
                        revert N_sb1_r1x1; revert N_sb1_r1x0; revert N_sb0_r1x1; revert N_sb0_r1x0; revert X_r1; revert H_sb1; revert K_sb1; revert H_sb0; revert K_sb0; revert O_r1x1; revert O_r1x0; revert B
                        generalize (wr.alloc (.cells #[Value.slice none 0 0] 29)) = wn
                        generalize wr.heap.size = ab_sb0
                        revert ab_sb1; revert ab_sb0; revert c_r1x1; revert A_r1x1; revert c_r1x0; revert A_r1x0; revert wn
                        exact keyr1_1_3_9_10.out
                      exact AllReadyH.nil
                  case hkr1_1_9_10 =>
                    intro wr A_r1x0 c_r1x0 ab_sb0 ab_sb1 B O_r1x0 K_sb0 H_sb0 K_sb1 H_sb1 X_r1 N_sb0_r1x0 N_sb1_r1x0
                    refine wpAnyH_ready (rs := [3]) (by kernel_rfl) (by simp) ?_
                    refine AllReadyH.cons (o := { dst := some 34, op := Op.call { callee := Callee.value (Operand.func 58), args := #[Operand.tmp 33], argTypes := #[72] }, type := 29, pos := "exact.go:4218", after := #[{ on := 2, ground := Ground.data }, { on := 1, ground := Ground.chain }], guard := none }) rfl (fun K hK => ?_) ?_
                    · skip
                      (try go_simp)
                      go_at_call 58
                      refine (toEngine_any _ l1 _ (S_1.out.bel B) len1).mono ?_
                      rintro e wn ⟨r_r1x1, rfl, o_r1x1, b⟩
                      have N_sb0_r1x1 : Hid (∀ k, r_r1x1.ownBlock = some k → k ≠ ab_sb0) := Lib.hid (fun k hk => by have p1 := (o_r1x1.lt k hk).1; have p2 := K_sb0.lt; omega)
                      have N_sb1_r1x1 : Hid (∀ k, r_r1x1.ownBlock = some k → k ≠ ab_sb1) := Lib.hid (fun k hk => by have p1 := (o_r1x1.lt k hk).1; have p2 := K_sb1.lt; omega)
                      have O_r1x1 := Lib.hid (o_r1x1.lower B.size)
                      replace K_sb0 := K_sb0.below b K_sb0.lt
                      replace K_sb1 := K_sb1.below b K_sb1.lt
                      replace O_r1x0 := Lib.hid (O_r1x0.out.bel b)
                      replace B := bel_trans B b
                      obtain ⟨A_r1x1, c_r1x1, rfl, -, -, -⟩ := o_r1x1.strs.open_
                      clear o_r1x1
                      clear b
                      (try dsimp only)
                      refine hK.out _ _ (by first | exact ⟨(B.cell (by exact K_p0.lt)).trans e_p0, (B.cell (by exact K_p1.lt)).trans e_p1⟩ | (dsimp only; exact ⟨(B.cell (by exact K_p0.lt)).trans e_p0, (B.cell (by exact K_p1.lt)).trans e_p1⟩)) (fun hS => ?_)
                      clear hK K
                      (try simp only [Act.put, List.setIfInBounds_toArray, List.set_cons_zero, List.set_cons_succ])
                      refine wpAnyH_listed (l' := #[true, true, true, true, false, false, false, false, false, true, true, false, false, false]) (by kernel_rfl) ?_
                      clear hS
                      revert N_sb1_r1x1; revert N_sb1_r1x0; revert N_sb0_r1x1; revert N_sb0_r1x0; revert X_r1; revert H_sb1; revert K_sb1; revert H_sb0; revert K_sb0; revert O_r1x1; revert O_r1x0; revert B
                      revert ab_sb1; revert ab_sb0; revert c_r1x1; revert A_r1x1; revert c_r1x0; revert A_r1x0; revert wn
                      exact keyr1_1_3_9_10.out
                    exact AllReadyH.nil
                case hkr1_1_3_4_9 =>
                  intro wr A_r1x0 c_r1x0 A_r1x1 c_r1x1 A_s0 c_s0 A_s1 c_s1 ab_sb0 B O_s0 O_s1 D_r1 K_sb0 H_sb0 N_sb0_s0 N_sb0_s1
                  refine wpAnyH_ready (rs := [10]) (by kernel_rfl) (by simp) ?_
                  refine AllReadyH.cons (o := { dst := some 7, op := Op.alloc 29, type := 0, pos := "exact.go:4218", after := #[], guard := none }) rfl (fun K hK => ?_) ?_
                  · skip
                    go_simp
                    have H_sb1 : w3.heap.size ≤ wr.heap.size := B.size
                    replace B : Below w3.heap.size w3 (wr.alloc (.cells #[Value.slice none 0 0] 29)) := bel_trans B (bel_alloc wr _)
                    have X_r1 : ab_sb0 ≠ wr.heap.size := by have := K_sb0.lt; omega
                    replace K_sb0 := K_sb0.alloc (.cells #[Value.slice none 0 0] 29)
                    have K_sb1 := Blk.new' wr 29 (Value.slice none 0 0) wr.heap.size rfl
                    have N_sb1_s0 : Hid (∀ k, (Value.slice A_s0 (cA l0 l1).length c_s0).ownBlock = some k → k ≠ wr.heap.size) := Lib.hid (fun k hk => by have p1 := (O_s0.out.lt k hk).2; omega)
                    replace O_s0 := Lib.hid (O_s0.out.bel (bel_alloc wr (.cells #[Value.slice none 0 0] 29)))
                    have N_sb1_s1 : Hid (∀ k, (Value.slice A_s1 (cB l0 l1).length c_s1).ownBlock = some k → k ≠ wr.heap.size) := Lib.hid (fun k hk => by have p1 := (O_s1.out.lt k hk).2; omega)
                    replace O_s1 := Lib.hid (O_s1.out.bel (bel_alloc wr (.cells #[Value.slice none 0 0] 29)))
                    refine hK.out _ _ (by first | exact ⟨(B.cell (by exact K_p0.lt)).trans e_p0, (B.cell (by exact K_p1.lt)).trans e_p1⟩ | (dsimp only; exact ⟨(B.cell (by exact K_p0.lt)).trans e_p0, (B.cell (by exact K_p1.lt)).trans e_p1⟩)) (fun hS => ?_)
                    clear hK K
                    (try simp only [Act.put, List.setIfInBounds_toArray, List.set_cons_zero, List.set_cons_succ])
                    refine wpAnyH_listed (l' := #[true, true, true, true, true, true, true, true, true, true, true, false, false, false]) (by kernel_rfl) ?_
                    clear hS
                    revert N_sb1_s1; revert N_sb1_s0; revert N_sb0_s1; revert N_sb0_s0; revert X_r1; revert H_sb1; revert K_sb1; revert H_sb0; revert K_sb0; revert D_r1; revert O_s1; revert O_s0; revert B
                    generalize (wr.alloc (.cells #[Value.slice none 0 0] 29)) = wn
                    generalize wr.heap.size = ab_sb1
                    revert ab_sb1; revert ab_sb0; revert c_s1; revert A_s1; revert c_s0; revert A_s0; revert c_r1x1; revert A_r1x1; revert c_r1x0; revert A_r1x0; revert wn
                    exact keyr1_1_3_4_9_10.out
                  exact AllReadyH.nil
              case hkr1_1_3_4_10 =>
                intro wr A_r1x0 c_r1x0 A_r1x1 c_r1x1 A_s0 c_s0 A_s1 c_s1 ab_sb1 B O_s0 O_s1 D_r1 K_sb1 H_sb1 N_sb1_s0 N_sb1_s1
                refine wpAnyH_ready (rs := [9]) (by kernel_rfl) (by simp) ?_
                refine AllReadyH.cons (o := { dst := some 6, op := Op.alloc 29, type := 0, pos := "exact.go:4218", after := #[], guard := none }) rfl (fun K hK => ?_) ?_
                · skip
                  go_simp
                  have H_sb0 : w3.heap.size ≤ wr.heap.size := B.size
                  replace B : Below w3.heap.size w3 (wr.alloc (.cells #[Value.slice none 0 0] 29)) := bel_trans B (bel_alloc wr _)
                  have X_r1 : wr.heap.size ≠ ab_sb1 := by have := K_sb1.lt; omega
                  replace K_sb1 := K_sb1.alloc (.cells #[Value.slice none 0 0] 29)
                  have K_sb0 := Blk.new' wr 29 (Value.slice none 0 0) wr.heap.size rfl
                  have N_sb0_s0 : Hid (∀ k, (Value.slice A_s0 (cA l0 l1).length c_s0).ownBlock = some k → k ≠ wr.heap.size) := Lib.hid (fun k hk => by have p1 := (O_s0.out.lt k hk).2; omega)
                  replace O_s0 := Lib.hid (O_s0.out.bel (bel_alloc wr (.cells #[Value.slice none 0 0] 29)))
                  have N_sb0_s1 : Hid (∀ k, (Value.slice A_s1 (cB l0 l1).length c_s1).ownBlock = some k → k ≠ wr.heap.size) := Lib.hid (fun k hk => by have p1 := (O_s1.out.lt k hk).2; omega)
                  replace O_s1 := Lib.hid (O_s1.out.bel (bel_alloc wr (.cells #[Value.slice none 0 0] 29)))
                  refine hK.out _ _ (by first | exact ⟨(B.cell (by exact K_p0.lt)).trans e_p0, (B.cell (by exact K_p1.lt)).trans e_p1⟩ | (dsimp only; exact ⟨(B.cell (by exact K_p0.lt)).trans e_p0, (B.cell (by exact K_p1.lt)).trans e_p1⟩)) (fun hS => ?_)
                  clear hK K
                  (try simp only [Act.put, List.setIfInBounds_toArray, List.set_cons_zero, List.set_cons_succ])
                  refine wpAnyH_listed (l' := #[true, true, true, true, true, true, true, true, true, true, true, false, false, false]) (by kernel_rfl) ?_
                  clear hS
                  revert N_sb1_s1; revert N_sb1_s0; revert N_sb0_s1; revert N_sb0_s0; revert X_r1; revert H_sb1; revert K_sb1; revert H_sb0; revert K_sb0; revert D_r1; revert O_s1; revert O_s0; revert B
                  generalize (wr.alloc (.cells #[Value.slice none 0 0] 29)) = wn
                  generalize wr.heap.size = ab_sb0
                  revert ab_sb1; revert ab_sb0; revert c_s1; revert A_s1; revert c_s0; revert A_s0; revert c_r1x1; revert A_r1x1; revert c_r1x0; revert A_r1x0; revert wn
                  exact keyr1_1_3_4_9_10.out
                exact AllReadyH.nil
            case hkr1_1_3_9_10 =>
              intro wr A_r1x0 c_r1x0 A_r1x1 c_r1x1 ab_sb0 ab_sb1 B O_r1x0 O_r1x1 K_sb0 H_sb0 K_sb1 H_sb1 X_r1 N_sb0_r1x0 N_sb0_r1x1 N_sb1_r1x0 N_sb1_r1x1
              refine wpAnyH_ready (rs := [4]) (by kernel_rfl) (by simp) ?_
              refine AllReadyH.cons (o := { dst := some 35, op := Op.call { callee := Callee.value (Operand.func 57), args := #[Operand.tmp 32, Operand.tmp 34], argTypes := #[29, 29] }, type := 74, pos := "exact.go:4218", after := #[{ on := 1, ground := Ground.data }, { on := 3, ground := Ground.data }, { on := 3, ground := Ground.chain }], guard := none }) rfl (fun K hK => ?_) ?_
              · skip
                (try go_simp)
                go_at_call 57
                refine (specCasc_any _ _ l0 l1 _ O_r1x0.out.strs O_r1x1.out.strs).mono ?_
                rintro e wn ⟨r_s0, r_s1, rfl, o_s0, o_s1, dxy, b⟩
                have N_sb0_s0 : Hid (∀ k, r_s0.ownBlock = some k → k ≠ ab_sb0) := Lib.hid (fun k hk => by have p1 := (o_s0.lt k hk).1; have p2 := K_sb0.lt; omega)
                have N_sb0_s1 : Hid (∀ k, r_s1.ownBlock = some k → k ≠ ab_sb0) := Lib.hid (fun k hk => by have p1 := (o_s1.lt k hk).1; have p2 := K_sb0.lt; omega)
                have N_sb1_s0 : Hid (∀ k, r_s0.ownBlock = some k → k ≠ ab_sb1) := Lib.hid (fun k hk => by have p1 := (o_s0.lt k hk).1; have p2 := K_sb1.lt; omega)
                have N_sb1_s1 : Hid (∀ k, r_s1.ownBlock = some k → k ≠ ab_sb1) := Lib.hid (fun k hk => by have p1 := (o_s1.lt k hk).1; have p2 := K_sb1.lt; omega)
                have D_r1 := Lib.hid dxy
                have O_s0 := Lib.hid (o_s0.lower B.size)
                have O_s1 := Lib.hid (o_s1.lower B.size)
                replace K_sb0 := K_sb0.below b K_sb0.lt
                replace K_sb1 := K_sb1.below b K_sb1.lt
                clear O_r1x0 N_sb0_r1x0 N_sb1_r1x0
                clear O_r1x1 N_sb0_r1x1 N_sb1_r1x1
                replace B := bel_trans B b
                obtain ⟨A_s0, c_s0, rfl, -, -, -⟩ := o_s0.strs.open_
                clear o_s0
                obtain ⟨A_s1, c_s1, rfl, -, -, -⟩ := o_s1.strs.open_
                clear o_s1
                clear b dxy
                (try dsimp only)
                refine hK.out _ _ (by first | exact ⟨(B.cell (by exact K_p0.lt)).trans e_p0, (B.cell (by exact K_p1.lt)).trans e_p1⟩ | (dsimp only; exact ⟨(B.cell (by exact K_p0.lt)).trans e_p0, (B.cell (by exact K_p1.lt)).trans e_p1⟩)) (fun hS => ?_)
                clear hK K
                (try simp only [Act.put, List.setIfInBounds_toArray, List.set_cons_zero, List.set_cons_succ])
                refine wpAnyH_take (i := 5) (oi := { dst := some 30, op := Op.move (Operand.tmp 35), type := 74, pos := "exact.go:4218", after := #[{ on := 4, ground := Ground.data }], guard := none }) (v := ?vr1_15) rfl (by kernel_rfl) (by kernel_rfl) (by kernel_rfl) (fun _ _ _ h => h) (Or.inl ⟨by rfl, ?hyr1_15⟩) hS ?restr1_15
                case hyr1_15 => (intro w' hSw; (try dsimp only at hSw); go_simp; all_goals with_reducible rfl)
                (try simp only [Act.put, List.setIfInBounds_toArray, List.set_cons_zero, List.set_cons_succ])
                refine wpAnyH_take (i := 6) (oi := { dst := some 36, op := Op.extract (Operand.tmp 30) 0, type := 29, pos := "exact.go:4218", after := #[{ on := 5, ground := Ground.data }], guard := none }) (v := ?vr1_16) rfl (by kernel_rfl) (by kernel_rfl) (by kernel_rfl) (fun _ _ _ h => h) (Or.inl ⟨by rfl, ?hyr1_16⟩) hS ?restr1_16
                case hyr1_16 => (intro w' hSw; (try dsimp only at hSw); go_simp; all_goals with_reducible rfl)
                (try simp only [Act.put, List.setIfInBounds_toArray, List.set_cons_zero, List.set_cons_succ])
                refine wpAnyH_take (i := 7) (oi := { dst := some 37, op := Op.extract (Operand.tmp 30) 1, type := 29, pos := "exact.go:4218", after := #[{ on := 5, ground := Ground.data }, { on := 11, ground := Ground.gcOnly Departure.lateStores }], guard := none }) (v := ?vr1_17) rfl (by kernel_rfl) (by kernel_rfl) (by kernel_rfl) (fun _ _ _ h => h) (Or.inl ⟨by rfl, ?hyr1_17⟩) hS ?restr1_17
                case hyr1_17 => (intro w' hSw; (try dsimp only at hSw); go_simp; all_goals with_reducible rfl)
                (try simp only [Act.put, List.setIfInBounds_toArray, List.set_cons_zero, List.set_cons_succ])
                refine wpAnyH_take (i := 8) (oi := { dst := some 38, op := Op.extract (Operand.tmp 30) 2, type := 4, pos := "exact.go:4218", after := #[{ on := 5, ground := Ground.data }, { on := 12, ground := Ground.gcOnly Departure.lateStores }], guard := none }) (v := ?vr1_18) rfl (by kernel_rfl) (by kernel_rfl) (by kernel_rfl) (fun _ _ _ h => h) (Or.inl ⟨by rfl, ?hyr1_18⟩) hS ?restr1_18
                case hyr1_18 => (intro w' hSw; (try dsimp only at hSw); go_simp; all_goals with_reducible rfl)
                (try simp only [Act.put, List.setIfInBounds_toArray, List.set_cons_zero, List.set_cons_succ])
                refine wpAnyH_listed (l' := #[true, true, true, true, true, true, true, true, true, true, true, false, false, false]) (by kernel_rfl) ?_
                clear hS
                revert N_sb1_s1; revert N_sb1_s0; revert N_sb0_s1; revert N_sb0_s0; revert X_r1; revert H_sb1; revert K_sb1; revert H_sb0; revert K_sb0; revert D_r1; revert O_s1; revert O_s0; revert B
                revert ab_sb1; revert ab_sb0; revert c_s1; revert A_s1; revert c_s0; revert A_s0; revert c_r1x1; revert A_r1x1; revert c_r1x0; revert A_r1x0; revert wn
                exact keyr1_1_3_4_9_10.out
              exact AllReadyH.nil
          case hkr1_1_3_4_9_10 =>
            intro wr A_r1x0 c_r1x0 A_r1x1 c_r1x1 A_s0 c_s0 A_s1 c_s1 ab_sb0 ab_sb1 B O_s0 O_s1 D_r1 K_sb0 H_sb0 K_sb1 H_sb1 X_r1 N_sb0_s0 N_sb0_s1 N_sb1_s0 N_sb1_s1
            refine wpAnyH_ready (rs := [11]) (by kernel_rfl) (by simp) ?_
            refine AllReadyH.cons (o := { dst := none, op := Op.store 29 (Operand.tmp 6) (Operand.tmp 36), type := 0, pos := "exact.go:4218", after := #[{ on := 9, ground := Ground.data }, { on := 6, ground := Ground.data }, { on := 4, ground := Ground.chain }, { on := 0, ground := Ground.phase }, { on := 1, ground := Ground.phase }, { on := 2, ground := Ground.phase }, { on := 3, ground := Ground.phase }, { on := 4, ground := Ground.phase }, { on := 5, ground := Ground.phase }, { on := 6, ground := Ground.phase }, { on := 7, ground := Ground.textOnly Departure.lateStores }, { on := 8, ground := Ground.textOnly Departure.lateStores }, { on := 9, ground := Ground.phase }, { on := 10, ground := Ground.phase }], guard := none }) rfl (fun K hK => ?_) ?_
            · skip
              obtain ⟨e_sb0, f_sb0⟩ := K_sb0.one
              go_simp
              clear e_sb0 f_sb0
              have g : wr.grownBy (wr.setCell ⟨ab_sb0, 0, none⟩ (Value.slice A_s0 (cA l0 l1).length c_s0)) (some ab_sb0) := only_setCell (World.grownBy.refl wr (some ab_sb0)) (.inl rfl) _
              replace O_s0 := Lib.hid (O_s0.out.awayRow g N_sb0_s0.out)
              replace O_s1 := Lib.hid (O_s1.out.awayRow g N_sb0_s1.out)
              replace K_sb0 : Blk (wr.setCell ⟨ab_sb0, 0, none⟩ (Value.slice A_s0 (cA l0 l1).length c_s0)) ab_sb0 29 [Value.slice A_s0 (cA l0 l1).length c_s0] := K_sb0.set_ 0 _
              replace K_sb1 := K_sb1.far (p := ⟨ab_sb0, 0, none⟩) (by show ab_sb1 ≠ ab_sb0; omega) (Value.slice A_s0 (cA l0 l1).length c_s0)
              replace B := B.setCell (p := ⟨ab_sb0, 0, none⟩) H_sb0 (Value.slice A_s0 (cA l0 l1).length c_s0)
              clear g
              refine hK.out _ _ (by first | exact ⟨(B.cell (by exact K_p0.lt)).trans e_p0, (B.cell (by exact K_p1.lt)).trans e_p1⟩ | (dsimp only; exact ⟨(B.cell (by exact K_p0.lt)).trans e_p0, (B.cell (by exact K_p1.lt)).trans e_p1⟩)) (fun hS => ?_)
              clear hK K
              (try simp only [Act.put, List.setIfInBounds_toArray, List.set_cons_zero, List.set_cons_succ])
              refine wpAnyH_listed (l' := #[true, true, true, true, true, true, true, true, true, true, true, true, false, false]) (by kernel_rfl) ?_
              clear hS
              revert N_sb1_s1; revert N_sb1_s0; revert N_sb0_s1; revert N_sb0_s0; revert X_r1; revert H_sb1; revert K_sb1; revert H_sb0; revert K_sb0; revert D_r1; revert O_s1; revert O_s0; revert B
              generalize (wr.setCell ⟨ab_sb0, 0, none⟩ (Value.slice A_s0 (cA l0 l1).length c_s0)) = wn
              revert ab_sb1; revert ab_sb0; revert c_s1; revert A_s1; revert c_s0; revert A_s0; revert c_r1x1; revert A_r1x1; revert c_r1x0; revert A_r1x0; revert wn
              exact keyr1_1_3_4_9_10_11.out
            exact AllReadyH.nil
        case hkr1_1_3_4_9_10_11 =>
          intro wr A_r1x0 c_r1x0 A_r1x1 c_r1x1 A_s0 c_s0 A_s1 c_s1 ab_sb0 ab_sb1 B O_s0 O_s1 D_r1 K_sb0 H_sb0 K_sb1 H_sb1 X_r1 N_sb0_s0 N_sb0_s1 N_sb1_s0 N_sb1_s1
          refine wpAnyH_ready (rs := [12]) (by kernel_rfl) (by simp) ?_
          refine AllReadyH.cons (o := { dst := none, op := Op.store 29 (Operand.tmp 7) (Operand.tmp 37), type := 0, pos := "exact.go:4218", after := #[{ on := 10, ground := Ground.data }, { on := 7, ground := Ground.data }, { on := 11, ground := Ground.chain }, { on := 0, ground := Ground.phase }, { on := 1, ground := Ground.phase }, { on := 2, ground := Ground.phase }, { on := 3, ground := Ground.phase }, { on := 4, ground := Ground.phase }, { on := 5, ground := Ground.phase }, { on := 6, ground := Ground.phase }, { on := 7, ground := Ground.phase }, { on := 8, ground := Ground.textOnly Departure.lateStores }, { on := 9, ground := Ground.phase }, { on := 10, ground := Ground.phase }, { on := 11, ground := Ground.phase }], guard := none }) rfl (fun K hK => ?_) ?_
          · skip
            obtain ⟨e_sb1, f_sb1⟩ := K_sb1.one
            go_simp
            clear e_sb1 f_sb1
            have g : wr.grownBy (wr.setCell ⟨ab_sb1, 0, none⟩ (Value.slice A_s1 (cB l0 l1).length c_s1)) (some ab_sb1) := only_setCell (World.grownBy.refl wr (some ab_sb1)) (.inl rfl) _
            replace O_s0 := Lib.hid (O_s0.out.awayRow g N_sb1_s0.out)
            replace O_s1 := Lib.hid (O_s1.out.awayRow g N_sb1_s1.out)
            replace K_sb1 : Blk (wr.setCell ⟨ab_sb1, 0, none⟩ (Value.slice A_s1 (cB l0 l1).length c_s1)) ab_sb1 29 [Value.slice A_s1 (cB l0 l1).length c_s1] := K_sb1.set_ 0 _
            replace K_sb0 := K_sb0.far (p := ⟨ab_sb1, 0, none⟩) (by show ab_sb0 ≠ ab_sb1; omega) (Value.slice A_s1 (cB l0 l1).length c_s1)
            replace B := B.setCell (p := ⟨ab_sb1, 0, none⟩) H_sb1 (Value.slice A_s1 (cB l0 l1).length c_s1)
            clear g
            refine hK.out _ _ (by first | exact ⟨(B.cell (by exact K_p0.lt)).trans e_p0, (B.cell (by exact K_p1.lt)).trans e_p1⟩ | (dsimp only; exact ⟨(B.cell (by exact K_p0.lt)).trans e_p0, (B.cell (by exact K_p1.lt)).trans e_p1⟩)) (fun hS => ?_)
            clear hK K
            (try simp only [Act.put, List.setIfInBounds_toArray, List.set_cons_zero, List.set_cons_succ])
            refine wpAnyH_take (i := 13) (oi := { dst := some 8, op := Op.assign (Operand.tmp 38), type := 4, pos := "exact.go:4218", after := #[{ on := 8, ground := Ground.data }, { on := 12, ground := Ground.chain }, { on := 0, ground := Ground.phase }, { on := 1, ground := Ground.phase }, { on := 2, ground := Ground.phase }, { on := 3, ground := Ground.phase }, { on := 4, ground := Ground.phase }, { on := 5, ground := Ground.phase }, { on := 6, ground := Ground.phase }, { on := 7, ground := Ground.phase }, { on := 8, ground := Ground.phase }, { on := 9, ground := Ground.phase }, { on := 10, ground := Ground.phase }, { on := 11, ground := Ground.phase }, { on := 12, ground := Ground.phase }], guard := none }) (v := ?vr1_19) rfl (by kernel_rfl) (by kernel_rfl) (by kernel_rfl) (fun _ _ _ h => h) (Or.inl ⟨by rfl, ?hyr1_19⟩) hS ?restr1_19
            case hyr1_19 => (intro w' hSw; (try dsimp only at hSw); go_simp; all_goals with_reducible rfl)
            (try simp only [Act.put, List.setIfInBounds_toArray, List.set_cons_zero, List.set_cons_succ])
            refine wpAnyH_listed (l' := #[true, true, true, true, true, true, true, true, true, true, true, true, true, true]) (by kernel_rfl) ?_
            clear hS
            revert N_sb1_s1; revert N_sb1_s0; revert N_sb0_s1; revert N_sb0_s0; revert X_r1; revert H_sb1; revert K_sb1; revert H_sb0; revert K_sb0; revert D_r1; revert O_s1; revert O_s0; revert B
            generalize (wr.setCell ⟨ab_sb1, 0, none⟩ (Value.slice A_s1 (cB l0 l1).length c_s1)) = wn
            revert ab_sb1; revert ab_sb0; revert c_s1; revert A_s1; revert c_s0; revert A_s0; revert c_r1x1; revert A_r1x1; revert c_r1x0; revert A_r1x0; revert wn
            exact keyr1_1_3_4_9_10_11_12.out
          exact AllReadyH.nil
      intro w4 A_r1x0 c_r1x0 A_r1x1 c_r1x1 A_s0 c_s0 A_s1 c_s1 ab_sb0 ab_sb1 B O_s0 O_s1 D_r1 K_sb0 H_sb0 K_sb1 H_sb1 X_r1 N_sb0_s0 N_sb0_s1 N_sb1_s0 N_sb1_s1
      refine wpAnyH_done (by kernel_rfl) ?_ _
      clear e_p0 e_p1
      have N_p0_s0 : Hid (∀ k, (Value.slice A_s0 (cA l0 l1).length c_s0).ownBlock = some k → k ≠ w.heap.size) := Lib.hid (fun k hk => by have p1 := (O_s0.out.lt k hk).1; have p2 := K_p0.lt; omega)
      have N_p1_s0 : Hid (∀ k, (Value.slice A_s0 (cA l0 l1).length c_s0).ownBlock = some k → k ≠ w.heap.size + 1) := Lib.hid (fun k hk => by have p1 := (O_s0.out.lt k hk).1; have p2 := K_p1.lt; omega)
      have t_s0 : Hid (∀ k, (Value.slice A_s0 (cA l0 l1).length c_s0).ownBlock = some k → w.heap.size ≤ k) := Lib.hid (fun k hk => by have p1 := (O_s0.out.lt k hk).1; have p2 := HB.out.size; omega)
      have N_p0_s1 : Hid (∀ k, (Value.slice A_s1 (cB l0 l1).length c_s1).ownBlock = some k → k ≠ w.heap.size) := Lib.hid (fun k hk => by have p1 := (O_s1.out.lt k hk).1; have p2 := K_p0.lt; omega)
      have N_p1_s1 : Hid (∀ k, (Value.slice A_s1 (cB l0 l1).length c_s1).ownBlock = some k → k ≠ w.heap.size + 1) := Lib.hid (fun k hk => by have p1 := (O_s1.out.lt k hk).1; have p2 := K_p1.lt; omega)
      have t_s1 : Hid (∀ k, (Value.slice A_s1 (cB l0 l1).length c_s1).ownBlock = some k → w.heap.size ≤ k) := Lib.hid (fun k hk => by have p1 := (O_s1.out.lt k hk).1; have p2 := HB.out.size; omega)
      replace O_s0 := Lib.hid (O_s0.out.lower HB.out.size)
      replace O_s1 := Lib.hid (O_s1.out.lower HB.out.size)
      have N_s0_s1 := D_r1
      clear H_sb0 H_sb1 X_r1 D_r1
      replace K_p0 := K_p0.below B K_p0.lt
      replace K_p1 := K_p1.below B K_p1.lt
      replace S_0 := Lib.hid (S_0.out.bel B)
      replace S_1 := Lib.hid (S_1.out.bel B)
      replace HB := Lib.hid (bel_trans HB.out B)
      clear B
      obtain ⟨e_p0, -⟩ := K_p0.one
      obtain ⟨e_p1, -⟩ := K_p1.one
      obtain ⟨e_sb0, -⟩ := K_sb0.one
      obtain ⟨e_sb1, -⟩ := K_sb1.one
      go_wp2_with fail
      clear e_p0 e_p1 e_sb0 e_sb1
      refine (toEngine_any _ l0 _ S_0.out len0).mono ?_
      rintro e w5 ⟨r_x0, rfl, o_x0, b⟩
      have z_p0 := K_p0.lt
      have z_p1 := K_p1.lt
      have z_sb0 := K_sb0.lt
      have z_sb1 := K_sb1.lt
      have HB0 := HB.out.size
      have y_s0 := Lib.hid (fun k hk => (O_s0.out.lt k hk).2)
      have y_s1 := Lib.hid (fun k hk => (O_s1.out.lt k hk).2)
      replace K_p0 := K_p0.below b K_p0.lt
      replace K_p1 := K_p1.below b K_p1.lt
      replace K_sb0 := K_sb0.below b K_sb0.lt
      replace K_sb1 := K_sb1.below b K_sb1.lt
      replace O_s0 := Lib.hid (O_s0.out.bel b)
      replace O_s1 := Lib.hid (O_s1.out.bel b)
      replace S_0 := Lib.hid (S_0.out.bel b)
      replace S_1 := Lib.hid (S_1.out.bel b)
      replace HB := Lib.hid (bel_trans HB.out b)
      clear b
      have N_p0_x0 : Hid (∀ k, r_x0.ownBlock = some k → k ≠ w.heap.size) := Lib.hid (fun k hk => by have p1 := (o_x0.lt k hk).1; have p2 := z_p0; omega)
      have N_p1_x0 : Hid (∀ k, r_x0.ownBlock = some k → k ≠ w.heap.size + 1) := Lib.hid (fun k hk => by have p1 := (o_x0.lt k hk).1; have p2 := z_p1; omega)
      have N_sb0_x0 : Hid (∀ k, r_x0.ownBlock = some k → k ≠ ab_sb0) := Lib.hid (fun k hk => by have p1 := (o_x0.lt k hk).1; have p2 := z_sb0; omega)
      have N_sb1_x0 : Hid (∀ k, r_x0.ownBlock = some k → k ≠ ab_sb1) := Lib.hid (fun k hk => by have p1 := (o_x0.lt k hk).1; have p2 := z_sb1; omega)
      have N_s0_x0 : Hid (∀ k, (Value.slice A_s0 (cA l0 l1).length c_s0).ownBlock = some k → r_x0.ownBlock ≠ some k) := Lib.hid (fun k p q => by have p1 := (y_s0.out k p); have q1 := (o_x0.lt k q).1; omega)
      have N_s1_x0 : Hid (∀ k, (Value.slice A_s1 (cB l0 l1).length c_s1).ownBlock = some k → r_x0.ownBlock ≠ some k) := Lib.hid (fun k p q => by have p1 := (y_s1.out k p); have q1 := (o_x0.lt k q).1; omega)
      have t_x0 : Hid (∀ k, r_x0.ownBlock = some k → w.heap.size ≤ k) := Lib.hid (fun k hk => by have p1 := (o_x0.lt k hk).1; have p2 := HB0; omega)
      have HBZ := Lib.hid HB0
      clear HB0 z_p0 z_p1 z_sb0 z_sb1 y_s0 y_s1
      have O_x0 := Lib.hid (o_x0.lower (base' := w.heap.size) HBZ.out)
      obtain ⟨A_x0, c_x0, rfl, -, -, -⟩ := o_x0.strs.open_
      clear o_x0
      clear HBZ
      have ba : Below w5.heap.size w5 (w5.alloc (.cells #[Value.slice A_x0 (l0).length c_x0] 29)) := bel_alloc w5 _
      have u_s0 := Lib.hid (fun k hk => (O_s0.out.lt k hk).2)
      have u_s1 := Lib.hid (fun k hk => (O_s1.out.lt k hk).2)
      have u_x0 := Lib.hid (fun k hk => (O_x0.out.lt k hk).2)
      replace K_p0 := K_p0.below ba K_p0.lt
      replace K_p1 := K_p1.below ba K_p1.lt
      replace K_sb0 := K_sb0.below ba K_sb0.lt
      replace K_sb1 := K_sb1.below ba K_sb1.lt
      replace O_s0 := Lib.hid (O_s0.out.bel ba)
      replace O_s1 := Lib.hid (O_s1.out.bel ba)
      replace O_x0 := Lib.hid (O_x0.out.bel ba)
      replace S_0 := Lib.hid (S_0.out.bel ba)
      replace S_1 := Lib.hid (S_1.out.bel ba)
      replace HB := Lib.hid (bel_trans HB.out ba)
      clear ba
      have K_bx0 := Blk.new' w5 29 (Value.slice A_x0 (l0).length c_x0) _ rfl
      have N_bx0_s0 : Hid (∀ k, (Value.slice A_s0 (cA l0 l1).length c_s0).ownBlock = some k → k ≠ w5.heap.size) := Lib.hid (fun k hk => by have p1 := u_s0.out k hk; omega)
      have N_bx0_s1 : Hid (∀ k, (Value.slice A_s1 (cB l0 l1).length c_s1).ownBlock = some k → k ≠ w5.heap.size) := Lib.hid (fun k hk => by have p1 := u_s1.out k hk; omega)
      have N_bx0_x0 : Hid (∀ k, (Value.slice A_x0 (l0).length c_x0).ownBlock = some k → k ≠ w5.heap.size) := Lib.hid (fun k hk => by have p1 := u_x0.out k hk; omega)
      clear u_s0 u_s1 u_x0
      obtain ⟨e_p0, -⟩ := K_p0.one
      obtain ⟨e_p1, -⟩ := K_p1.one
      obtain ⟨e_sb0, -⟩ := K_sb0.one
      obtain ⟨e_sb1, -⟩ := K_sb1.one
      obtain ⟨e_bx0, -⟩ := K_bx0.one
      go_wp2_with fail
      clear e_p0 e_p1 e_sb0 e_sb1 e_bx0
      generalize hW : w5.alloc (.cells #[Value.slice A_x0 (l0).length c_x0] 29) = w6 at *
      clear hW
      refine (toEngine_any _ l1 _ S_1.out len1).mono ?_
      rintro e w7 ⟨r_x1, rfl, o_x1, b⟩
      have z_p0 := K_p0.lt
      have z_p1 := K_p1.lt
      have z_sb0 := K_sb0.lt
      have z_sb1 := K_sb1.lt
      have z_bx0 := K_bx0.lt
      have HB0 := HB.out.size
      have y_s0 := Lib.hid (fun k hk => (O_s0.out.lt k hk).2)
      have y_s1 := Lib.hid (fun k hk => (O_s1.out.lt k hk).2)
      have y_x0 := Lib.hid (fun k hk => (O_x0.out.lt k hk).2)
      replace K_p0 := K_p0.below b K_p0.lt
      replace K_p1 := K_p1.below b K_p1.lt
      replace K_sb0 := K_sb0.below b K_sb0.lt
      replace K_sb1 := K_sb1.below b K_sb1.lt
      replace K_bx0 := K_bx0.below b K_bx0.lt
      replace O_s0 := Lib.hid (O_s0.out.bel b)
      replace O_s1 := Lib.hid (O_s1.out.bel b)
      replace O_x0 := Lib.hid (O_x0.out.bel b)
      replace S_0 := Lib.hid (S_0.out.bel b)
      replace S_1 := Lib.hid (S_1.out.bel b)
      replace HB := Lib.hid (bel_trans HB.out b)
      clear b
      have N_p0_x1 : Hid (∀ k, r_x1.ownBlock = some k → k ≠ w.heap.size) := Lib.hid (fun k hk => by have p1 := (o_x1.lt k hk).1; have p2 := z_p0; omega)
      have N_p1_x1 : Hid (∀ k, r_x1.ownBlock = some k → k ≠ w.heap.size + 1) := Lib.hid (fun k hk => by have p1 := (o_x1.lt k hk).1; have p2 := z_p1; omega)
      have N_sb0_x1 : Hid (∀ k, r_x1.ownBlock = some k → k ≠ ab_sb0) := Lib.hid (fun k hk => by have p1 := (o_x1.lt k hk).1; have p2 := z_sb0; omega)
      have N_sb1_x1 : Hid (∀ k, r_x1.ownBlock = some k → k ≠ ab_sb1) := Lib.hid (fun k hk => by have p1 := (o_x1.lt k hk).1; have p2 := z_sb1; omega)
      have N_bx0_x1 : Hid (∀ k, r_x1.ownBlock = some k → k ≠ w5.heap.size) := Lib.hid (fun k hk => by have p1 := (o_x1.lt k hk).1; have p2 := z_bx0; omega)
      have N_s0_x1 : Hid (∀ k, (Value.slice A_s0 (cA l0 l1).length c_s0).ownBlock = some k → r_x1.ownBlock ≠ some k) := Lib.hid (fun k p q => by have p1 := (y_s0.out k p); have q1 := (o_x1.lt k q).1; omega)
      have N_s1_x1 : Hid (∀ k, (Value.slice A_s1 (cB l0 l1).length c_s1).ownBlock = some k → r_x1.ownBlock ≠ some k) := Lib.hid (fun k p q => by have p1 := (y_s1.out k p); have q1 := (o_x1.lt k q).1; omega)
      have N_x0_x1 : Hid (∀ k, (Value.slice A_x0 (l0).length c_x0).ownBlock = some k → r_x1.ownBlock ≠ some k) := Lib.hid (fun k p q => by have p1 := (y_x0.out k p); have q1 := (o_x1.lt k q).1; omega)
      have t_x1 : Hid (∀ k, r_x1.ownBlock = some k → w.heap.size ≤ k) := Lib.hid (fun k hk => by have p1 := (o_x1.lt k hk).1; have p2 := HB0; omega)
      have HBZ := Lib.hid HB0
      clear HB0 z_p0 z_p1 z_sb0 z_sb1 z_bx0 y_s0 y_s1 y_x0
      have O_x1 := Lib.hid (o_x1.lower (base' := w.heap.size) HBZ.out)
      obtain ⟨A_x1, c_x1, rfl, -, -, -⟩ := o_x1.strs.open_
      clear o_x1
      clear HBZ
      have ba : Below w7.heap.size w7 (w7.alloc (.cells #[Value.slice A_x1 (l1).length c_x1] 29)) := bel_alloc w7 _
      have u_s0 := Lib.hid (fun k hk => (O_s0.out.lt k hk).2)
      have u_s1 := Lib.hid (fun k hk => (O_s1.out.lt k hk).2)
      have u_x0 := Lib.hid (fun k hk => (O_x0.out.lt k hk).2)
      have u_x1 := Lib.hid (fun k hk => (O_x1.out.lt k hk).2)
      replace K_p0 := K_p0.below ba K_p0.lt
      replace K_p1 := K_p1.below ba K_p1.lt
      replace K_sb0 := K_sb0.below ba K_sb0.lt
      replace K_sb1 := K_sb1.below ba K_sb1.lt
      replace K_bx0 := K_bx0.below ba K_bx0.lt
      replace O_s0 := Lib.hid (O_s0.out.bel ba)
      replace O_s1 := Lib.hid (O_s1.out.bel ba)
      replace O_x0 := Lib.hid (O_x0.out.bel ba)
      replace O_x1 := Lib.hid (O_x1.out.bel ba)
      replace S_0 := Lib.hid (S_0.out.bel ba)
      replace S_1 := Lib.hid (S_1.out.bel ba)
      replace HB := Lib.hid (bel_trans HB.out ba)
      clear ba
      have K_bx1 := Blk.new' w7 29 (Value.slice A_x1 (l1).length c_x1) _ rfl
      have N_bx1_s0 : Hid (∀ k, (Value.slice A_s0 (cA l0 l1).length c_s0).ownBlock = some k → k ≠ w7.heap.size) := Lib.hid (fun k hk => by have p1 := u_s0.out k hk; omega)
      have N_bx1_s1 : Hid (∀ k, (Value.slice A_s1 (cB l0 l1).length c_s1).ownBlock = some k → k ≠ w7.heap.size) := Lib.hid (fun k hk => by have p1 := u_s1.out k hk; omega)
      have N_bx1_x0 : Hid (∀ k, (Value.slice A_x0 (l0).length c_x0).ownBlock = some k → k ≠ w7.heap.size) := Lib.hid (fun k hk => by have p1 := u_x0.out k hk; omega)
      have N_bx1_x1 : Hid (∀ k, (Value.slice A_x1 (l1).length c_x1).ownBlock = some k → k ≠ w7.heap.size) := Lib.hid (fun k hk => by have p1 := u_x1.out k hk; omega)
      clear u_s0 u_s1 u_x0 u_x1
      obtain ⟨e_p0, -⟩ := K_p0.one
      obtain ⟨e_p1, -⟩ := K_p1.one
      obtain ⟨e_sb0, -⟩ := K_sb0.one
      obtain ⟨e_sb1, -⟩ := K_sb1.one
      obtain ⟨e_bx0, -⟩ := K_bx0.one
      obtain ⟨e_bx1, -⟩ := K_bx1.one
      go_wp2_with fail
      clear e_p0 e_p1 e_sb0 e_sb1 e_bx0 e_bx1
      generalize hW : w7.alloc (.cells #[Value.slice A_x1 (l1).length c_x1] 29) = w8 at *
      clear hW
      refine (implCasc_any _ _ l0 l1 _ O_x0.out.strs O_x1.out.strs).mono ?_
      rintro e w9 ⟨r_g0, r_g1, rfl, o_g0, o_g1, dxy, b⟩
      have z_p0 := K_p0.lt
      have z_p1 := K_p1.lt
      have z_sb0 := K_sb0.lt
      have z_sb1 := K_sb1.lt
      have z_bx0 := K_bx0.lt
      have z_bx1 := K_bx1.lt
      have HB0 := HB.out.size
      have y_s0 := Lib.hid (fun k hk => (O_s0.out.lt k hk).2)
      have y_s1 := Lib.hid (fun k hk => (O_s1.out.lt k hk).2)
      have y_x0 := Lib.hid (fun k hk => (O_x0.out.lt k hk).2)
      have y_x1 := Lib.hid (fun k hk => (O_x1.out.lt k hk).2)
      replace K_p0 := K_p0.below b K_p0.lt
      replace K_p1 := K_p1.below b K_p1.lt
      replace K_sb0 := K_sb0.below b K_sb0.lt
      replace K_sb1 := K_sb1.below b K_sb1.lt
      replace K_bx0 := K_bx0.below b K_bx0.lt
      replace K_bx1 := K_bx1.below b K_bx1.lt
      replace O_s0 := Lib.hid (O_s0.out.bel b)
      replace O_s1 := Lib.hid (O_s1.out.bel b)
      replace O_x0 := Lib.hid (O_x0.out.bel b)
      replace O_x1 := Lib.hid (O_x1.out.bel b)
      replace S_0 := Lib.hid (S_0.out.bel b)
      replace S_1 := Lib.hid (S_1.out.bel b)
      replace HB := Lib.hid (bel_trans HB.out b)
      clear b
      have N_p0_g0 : Hid (∀ k, r_g0.ownBlock = some k → k ≠ w.heap.size) := Lib.hid (fun k hk => by have p1 := (o_g0.lt k hk).1; have p2 := z_p0; omega)
      have N_p1_g0 : Hid (∀ k, r_g0.ownBlock = some k → k ≠ w.heap.size + 1) := Lib.hid (fun k hk => by have p1 := (o_g0.lt k hk).1; have p2 := z_p1; omega)
      have N_sb0_g0 : Hid (∀ k, r_g0.ownBlock = some k → k ≠ ab_sb0) := Lib.hid (fun k hk => by have p1 := (o_g0.lt k hk).1; have p2 := z_sb0; omega)
      have N_sb1_g0 : Hid (∀ k, r_g0.ownBlock = some k → k ≠ ab_sb1) := Lib.hid (fun k hk => by have p1 := (o_g0.lt k hk).1; have p2 := z_sb1; omega)
      have N_bx0_g0 : Hid (∀ k, r_g0.ownBlock = some k → k ≠ w5.heap.size) := Lib.hid (fun k hk => by have p1 := (o_g0.lt k hk).1; have p2 := z_bx0; omega)
      have N_bx1_g0 : Hid (∀ k, r_g0.ownBlock = some k → k ≠ w7.heap.size) := Lib.hid (fun k hk => by have p1 := (o_g0.lt k hk).1; have p2 := z_bx1; omega)
      have N_s0_g0 : Hid (∀ k, (Value.slice A_s0 (cA l0 l1).length c_s0).ownBlock = some k → r_g0.ownBlock ≠ some k) := Lib.hid (fun k p q => by have p1 := (y_s0.out k p); have q1 := (o_g0.lt k q).1; omega)
      have N_s1_g0 : Hid (∀ k, (Value.slice A_s1 (cB l0 l1).length c_s1).ownBlock = some k → r_g0.ownBlock ≠ some k) := Lib.hid (fun k p q => by have p1 := (y_s1.out k p); have q1 := (o_g0.lt k q).1; omega)
      have N_x0_g0 : Hid (∀ k, (Value.slice A_x0 (l0).length c_x0).ownBlock = some k → r_g0.ownBlock ≠ some k) := Lib.hid (fun k p q => by have p1 := (y_x0.out k p); have q1 := (o_g0.lt k q).1; omega)
      have N_x1_g0 : Hid (∀ k, (Value.slice A_x1 (l1).length c_x1).ownBlock = some k → r_g0.ownBlock ≠ some k) := Lib.hid (fun k p q => by have p1 := (y_x1.out k p); have q1 := (o_g0.lt k q).1; omega)
      have t_g0 : Hid (∀ k, r_g0.ownBlock = some k → w.heap.size ≤ k) := Lib.hid (fun k hk => by have p1 := (o_g0.lt k hk).1; have p2 := HB0; omega)
      have N_p0_g1 : Hid (∀ k, r_g1.ownBlock = some k → k ≠ w.heap.size) := Lib.hid (fun k hk => by have p1 := (o_g1.lt k hk).1; have p2 := z_p0; omega)
      have N_p1_g1 : Hid (∀ k, r_g1.ownBlock = some k → k ≠ w.heap.size + 1) := Lib.hid (fun k hk => by have p1 := (o_g1.lt k hk).1; have p2 := z_p1; omega)
      have N_sb0_g1 : Hid (∀ k, r_g1.ownBlock = some k → k ≠ ab_sb0) := Lib.hid (fun k hk => by have p1 := (o_g1.lt k hk).1; have p2 := z_sb0; omega)
      have N_sb1_g1 : Hid (∀ k, r_g1.ownBlock = some k → k ≠ ab_sb1) := Lib.hid (fun k hk => by have p1 := (o_g1.lt k hk).1; have p2 := z_sb1; omega)
      have N_bx0_g1 : Hid (∀ k, r_g1.ownBlock = some k → k ≠ w5.heap.size) := Lib.hid (fun k hk => by have p1 := (o_g1.lt k hk).1; have p2 := z_bx0; omega)
      have N_bx1_g1 : Hid (∀ k, r_g1.ownBlock = some k → k ≠ w7.heap.size) := Lib.hid (fun k hk => by have p1 := (o_g1.lt k hk).1; have p2 := z_bx1; omega)
      have N_s0_g1 : Hid (∀ k, (Value.slice A_s0 (cA l0 l1).length c_s0).ownBlock = some k → r_g1.ownBlock ≠ some k) := Lib.hid (fun k p q => by have p1 := (y_s0.out k p); have q1 := (o_g1.lt k q).1; omega)
      have N_s1_g1 : Hid (∀ k, (Value.slice A_s1 (cB l0 l1).length c_s1).ownBlock = some k → r_g1.ownBlock ≠ some k) := Lib.hid (fun k p q => by have p1 := (y_s1.out k p); have q1 := (o_g1.lt k q).1; omega)
      have N_x0_g1 : Hid (∀ k, (Value.slice A_x0 (l0).length c_x0).ownBlock = some k → r_g1.ownBlock ≠ some k) := Lib.hid (fun k p q => by have p1 := (y_x0.out k p); have q1 := (o_g1.lt k q).1; omega)
      have N_x1_g1 : Hid (∀ k, (Value.slice A_x1 (l1).length c_x1).ownBlock = some k → r_g1.ownBlock ≠ some k) := Lib.hid (fun k p q => by have p1 := (y_x1.out k p); have q1 := (o_g1.lt k q).1; omega)
      have t_g1 : Hid (∀ k, r_g1.ownBlock = some k → w.heap.size ≤ k) := Lib.hid (fun k hk => by have p1 := (o_g1.lt k hk).1; have p2 := HB0; omega)
      have HBZ := Lib.hid HB0
      clear HB0 z_p0 z_p1 z_sb0 z_sb1 z_bx0 z_bx1 y_s0 y_s1 y_x0 y_x1
      have N_g0_g1 := Lib.hid dxy
      clear dxy
      have O_g0 := Lib.hid (o_g0.lower (base' := w.heap.size) HBZ.out)
      obtain ⟨A_g0, c_g0, rfl, -, -, -⟩ := o_g0.strs.open_
      clear o_g0
      have O_g1 := Lib.hid (o_g1.lower (base' := w.heap.size) HBZ.out)
      obtain ⟨A_g1, c_g1, rfl, -, -, -⟩ := o_g1.strs.open_
      clear o_g1
      clear HBZ
      have ba : Below w9.heap.size w9 ((w9.alloc (.cells #[Value.slice A_g0 (cA l0 l1).length c_g0] 29)).alloc (.cells #[Value.slice A_g1 (cB l0 l1).length c_g1] 29)) := (bel_alloc w9 _).alloc (by simp <;> omega) _
      have u_s0 := Lib.hid (fun k hk => (O_s0.out.lt k hk).2)
      have u_s1 := Lib.hid (fun k hk => (O_s1.out.lt k hk).2)
      have u_x0 := Lib.hid (fun k hk => (O_x0.out.lt k hk).2)
      have u_x1 := Lib.hid (fun k hk => (O_x1.out.lt k hk).2)
      have u_g0 := Lib.hid (fun k hk => (O_g0.out.lt k hk).2)
      have u_g1 := Lib.hid (fun k hk => (O_g1.out.lt k hk).2)
      replace K_p0 := K_p0.below ba K_p0.lt
      replace K_p1 := K_p1.below ba K_p1.lt
      replace K_sb0 := K_sb0.below ba K_sb0.lt
      replace K_sb1 := K_sb1.below ba K_sb1.lt
      replace K_bx0 := K_bx0.below ba K_bx0.lt
      replace K_bx1 := K_bx1.below ba K_bx1.lt
      replace O_s0 := Lib.hid (O_s0.out.bel ba)
      replace O_s1 := Lib.hid (O_s1.out.bel ba)
      replace O_x0 := Lib.hid (O_x0.out.bel ba)
      replace O_x1 := Lib.hid (O_x1.out.bel ba)
      replace O_g0 := Lib.hid (O_g0.out.bel ba)
      replace O_g1 := Lib.hid (O_g1.out.bel ba)
      replace S_0 := Lib.hid (S_0.out.bel ba)
      replace S_1 := Lib.hid (S_1.out.bel ba)
      replace HB := Lib.hid (bel_trans HB.out ba)
      clear ba
      have K_gb0 := (Blk.new' w9 29 (Value.slice A_g0 (cA l0 l1).length c_g0) _ rfl).alloc (.cells #[Value.slice A_g1 (cB l0 l1).length c_g1] 29)
      have N_gb0_s0 : Hid (∀ k, (Value.slice A_s0 (cA l0 l1).length c_s0).ownBlock = some k → k ≠ w9.heap.size) := Lib.hid (fun k hk => by have p1 := u_s0.out k hk; omega)
      have N_gb0_s1 : Hid (∀ k, (Value.slice A_s1 (cB l0 l1).length c_s1).ownBlock = some k → k ≠ w9.heap.size) := Lib.hid (fun k hk => by have p1 := u_s1.out k hk; omega)
      have N_gb0_x0 : Hid (∀ k, (Value.slice A_x0 (l0).length c_x0).ownBlock = some k → k ≠ w9.heap.size) := Lib.hid (fun k hk => by have p1 := u_x0.out k hk; omega)
      have N_gb0_x1 : Hid (∀ k, (Value.slice A_x1 (l1).length c_x1).ownBlock = some k → k ≠ w9.heap.size) := Lib.hid (fun k hk => by have p1 := u_x1.out k hk; omega)
      have N_gb0_g0 : Hid (∀ k, (Value.slice A_g0 (cA l0 l1).length c_g0).ownBlock = some k → k ≠ w9.heap.size) := Lib.hid (fun k hk => by have p1 := u_g0.out k hk; omega)
      have N_gb0_g1 : Hid (∀ k, (Value.slice A_g1 (cB l0 l1).length c_g1).ownBlock = some k → k ≠ w9.heap.size) := Lib.hid (fun k hk => by have p1 := u_g1.out k hk; omega)
      have K_gb1 := Blk.new' (w9.alloc (.cells #[Value.slice A_g0 (cA l0 l1).length c_g0] 29)) 29 (Value.slice A_g1 (cB l0 l1).length c_g1) (w9.heap.size + 1) (by simp)
      have N_gb1_s0 : Hid (∀ k, (Value.slice A_s0 (cA l0 l1).length c_s0).ownBlock = some k → k ≠ w9.heap.size + 1) := Lib.hid (fun k hk => by have p1 := u_s0.out k hk; omega)
      have N_gb1_s1 : Hid (∀ k, (Value.slice A_s1 (cB l0 l1).length c_s1).ownBlock = some k → k ≠ w9.heap.size + 1) := Lib.hid (fun k hk => by have p1 := u_s1.out k hk; omega)
      have N_gb1_x0 : Hid (∀ k, (Value.slice A_x0 (l0).length c_x0).ownBlock = some k → k ≠ w9.heap.size + 1) := Lib.hid (fun k hk => by have p1 := u_x0.out k hk; omega)
      have N_gb1_x1 : Hid (∀ k, (Value.slice A_x1 (l1).length c_x1).ownBlock = some k → k ≠ w9.heap.size + 1) := Lib.hid (fun k hk => by have p1 := u_x1.out k hk; omega)
      have N_gb1_g0 : Hid (∀ k, (Value.slice A_g0 (cA l0 l1).length c_g0).ownBlock = some k → k ≠ w9.heap.size + 1) := Lib.hid (fun k hk => by have p1 := u_g0.out k hk; omega)
      have N_gb1_g1 : Hid (∀ k, (Value.slice A_g1 (cB l0 l1).length c_g1).ownBlock = some k → k ≠ w9.heap.size + 1) := Lib.hid (fun k hk => by have p1 := u_g1.out k hk; omega)
      clear u_s0 u_s1 u_x0 u_x1 u_g0 u_g1
      obtain ⟨e_p0, -⟩ := K_p0.one
      obtain ⟨e_p1, -⟩ := K_p1.one
      obtain ⟨e_sb0, -⟩ := K_sb0.one
      obtain ⟨e_sb1, -⟩ := K_sb1.one
      obtain ⟨e_bx0, -⟩ := K_bx0.one
      obtain ⟨e_bx1, -⟩ := K_bx1.one
      obtain ⟨e_gb0, -⟩ := K_gb0.one
      obtain ⟨e_gb1, -⟩ := K_gb1.one
      go_wp2_with fail
      clear e_p0 e_p1 e_sb0 e_sb1 e_bx0 e_bx1 e_gb0 e_gb1
      generalize hW : (w9.alloc (.cells #[Value.slice A_g0 (cA l0 l1).length c_g0] 29)).alloc (.cells #[Value.slice A_g1 (cB l0 l1).length c_g1] 29) = w10 at *
      clear hW
      refine (eqEngine_any _ _ _ _ _ O_g0.out.strs O_s0.out.strs).mono ?_
      rw [he_r0]
      rintro e w11 ⟨rfl, b⟩
      replace K_p0 := K_p0.below b K_p0.lt
      replace K_p1 := K_p1.below b K_p1.lt
      replace K_sb0 := K_sb0.below b K_sb0.lt
      replace K_sb1 := K_sb1.below b K_sb1.lt
      replace K_bx0 := K_bx0.below b K_bx0.lt
      replace K_bx1 := K_bx1.below b K_bx1.lt
      replace K_gb0 := K_gb0.below b K_gb0.lt
      replace K_gb1 := K_gb1.below b K_gb1.lt
      replace O_s0 := Lib.hid (O_s0.out.bel b)
      replace O_s1 := Lib.hid (O_s1.out.bel b)
      replace O_x0 := Lib.hid (O_x0.out.bel b)
      replace O_x1 := Lib.hid (O_x1.out.bel b)
      replace O_g0 := Lib.hid (O_g0.out.bel b)
      replace O_g1 := Lib.hid (O_g1.out.bel b)
      replace S_0 := Lib.hid (S_0.out.bel b)
      replace S_1 := Lib.hid (S_1.out.bel b)
      replace HB := Lib.hid (bel_trans HB.out b)
      clear b
      obtain ⟨e_p0, -⟩ := K_p0.one
      obtain ⟨e_p1, -⟩ := K_p1.one
      obtain ⟨e_sb0, -⟩ := K_sb0.one
      obtain ⟨e_sb1, -⟩ := K_sb1.one
      obtain ⟨e_bx0, -⟩ := K_bx0.one
      obtain ⟨e_bx1, -⟩ := K_bx1.one
      obtain ⟨e_gb0, -⟩ := K_gb0.one
      obtain ⟨e_gb1, -⟩ := K_gb1.one
      go_wp2_with fail
      clear e_p0 e_p1 e_sb0 e_sb1 e_bx0 e_bx1 e_gb0 e_gb1
      refine (eqEngine_any _ _ _ _ _ O_g1.out.strs O_s1.out.strs).mono ?_
      rw [he_r1]
      rintro e w12 ⟨rfl, b⟩
      replace K_p0 := K_p0.below b K_p0.lt
      replace K_p1 := K_p1.below b K_p1.lt
      replace K_sb0 := K_sb0.below b K_sb0.lt
      replace K_sb1 := K_sb1.below b K_sb1.lt
      replace K_bx0 := K_bx0.below b K_bx0.lt
      replace K_bx1 := K_bx1.below b K_bx1.lt
      replace K_gb0 := K_gb0.below b K_gb0.lt
      replace K_gb1 := K_gb1.below b K_gb1.lt
      replace O_s0 := Lib.hid (O_s0.out.bel b)
      replace O_s1 := Lib.hid (O_s1.out.bel b)
      replace O_x0 := Lib.hid (O_x0.out.bel b)
      replace O_x1 := Lib.hid (O_x1.out.bel b)
      replace O_g0 := Lib.hid (O_g0.out.bel b)
      replace O_g1 := Lib.hid (O_g1.out.bel b)
      replace S_0 := Lib.hid (S_0.out.bel b)
      replace S_1 := Lib.hid (S_1.out.bel b)
      replace HB := Lib.hid (bel_trans HB.out b)
      clear b
      obtain ⟨e_p0, -⟩ := K_p0.one
      obtain ⟨e_p1, -⟩ := K_p1.one
      obtain ⟨e_sb0, -⟩ := K_sb0.one
      obtain ⟨e_sb1, -⟩ := K_sb1.one
      obtain ⟨e_bx0, -⟩ := K_bx0.one
      obtain ⟨e_bx1, -⟩ := K_bx1.one
      obtain ⟨e_gb0, -⟩ := K_gb0.one
      obtain ⟨e_gb1, -⟩ := K_gb1.one
      go_wp2_with fail
      clear e_p0 e_p1 e_sb0 e_sb1 e_bx0 e_bx1 e_gb0 e_gb1
      refine cut_by (P := ?P2) ?hk2 (fun key2 => ?main2)
      case main2 =>
        replace key2 := Lib.hid key2
        obtain ⟨e_p0, -⟩ := K_p0.one
        obtain ⟨e_p1, -⟩ := K_p1.one
        obtain ⟨e_sb0, -⟩ := K_sb0.one
        obtain ⟨e_sb1, -⟩ := K_sb1.one
        obtain ⟨e_bx0, -⟩ := K_bx0.one
        obtain ⟨e_bx1, -⟩ := K_bx1.one
        obtain ⟨e_gb0, -⟩ := K_gb0.one
        obtain ⟨e_gb1, -⟩ := K_gb1.one
        have tok1 : True := trivial
        have tok2 : True := trivial
        go_region_held3 (fun w' => w'.cell? ⟨w.heap.size, 0, none⟩ = some (Value.slice A_a0 l0.length c_a0) ∧ w'.cell? ⟨w5.heap.size, 0, none⟩ = some (Value.slice A_x0 (l0).length c_x0)) (first | exact ⟨e_p0, e_bx0⟩ | exact ⟨((bel_alloc _ _).cell (by exact K_p0.lt)).trans e_p0, ((bel_alloc _ _).cell (by exact K_bx0.lt)).trans e_bx0⟩ | exact ⟨(World.cell?_setCell_other _ _ _ _ (by intro e; injection e with q; have := K_p0.lt; simp at q; omega)).trans (((bel_alloc _ _).cell (by exact K_p0.lt)).trans e_p0), (World.cell?_setCell_other _ _ _ _ (by intro e; injection e with q; have := K_bx0.lt; simp at q; omega)).trans (((bel_alloc _ _).cell (by exact K_bx0.lt)).trans e_bx0)⟩ | exact ⟨(World.cell?_setCell_other _ _ _ _ (by intro e; injection e with q; omega)).trans e_p0, (World.cell?_setCell_other _ _ _ _ (by intro e; injection e with q; omega)).trans e_bx0⟩ | go_keep) (first
          | ((try go_simp); go_at_call 58; have _t := tok1; clear e_p0 e_p1 e_sb0 e_sb1 e_bx0 e_bx1 e_gb0 e_gb1; (refine (toEngine_any _ l0 _ (by first | exact S_0.out | exact S_0.out.bel ((Below.refl _ _).drew)) len0).mono ?_; rintro e w13 ⟨r_x2, rfl, o_x2, b⟩; replace o_x2 : OwnS w13 w12.heap.size r_x2 (l0) := (by first | exact o_x2 | exact o_x2.lower (by simp)); replace b : Below w12.heap.size w12 w13 := (by first | exact b | exact bel_trans ((Below.refl _ _).drew) b | exact bel_trans (bel_alloc _ _) b | exact bel_trans ((bel_alloc _ _).drew) b | exact bel_trans (((Below.refl _ _).drew).alloc (Nat.le_refl _) _) b); have HBZ := Lib.hid HB.out.size; replace K_p0 := K_p0.below b K_p0.lt; replace K_p1 := K_p1.below b K_p1.lt; replace K_sb0 := K_sb0.below b K_sb0.lt; replace K_sb1 := K_sb1.below b K_sb1.lt; replace K_bx0 := K_bx0.below b K_bx0.lt; replace K_bx1 := K_bx1.below b K_bx1.lt; replace K_gb0 := K_gb0.below b K_gb0.lt; replace K_gb1 := K_gb1.below b K_gb1.lt; replace O_s0 := Lib.hid (O_s0.out.bel b); replace O_s1 := Lib.hid (O_s1.out.bel b); replace O_x0 := Lib.hid (O_x0.out.bel b); replace O_x1 := Lib.hid (O_x1.out.bel b); replace O_g0 := Lib.hid (O_g0.out.bel b); replace O_g1 := Lib.hid (O_g1.out.bel b); replace S_0 := Lib.hid (S_0.out.bel b); replace S_1 := Lib.hid (S_1.out.bel b); replace HB := Lib.hid (bel_trans HB.out b); clear b; have O_x2 := Lib.hid (o_x2.lower (base' := w.heap.size) HBZ.out); clear HBZ; obtain ⟨A_x2, c_x2, rfl, -, -, -⟩ := o_x2.strs.open_; clear o_x2; obtain ⟨e_p0, -⟩ := K_p0.one; obtain ⟨e_p1, -⟩ := K_p1.one; obtain ⟨e_sb0, -⟩ := K_sb0.one; obtain ⟨e_sb1, -⟩ := K_sb1.one; obtain ⟨e_bx0, -⟩ := K_bx0.one; obtain ⟨e_bx1, -⟩ := K_bx1.one; obtain ⟨e_gb0, -⟩ := K_gb0.one; obtain ⟨e_gb1, -⟩ := K_gb1.one; clear tok1; (try dsimp only)))
          | ((try go_simp); go_at_call 60; have _t := tok2; clear e_p0 e_p1 e_sb0 e_sb1 e_bx0 e_bx1 e_gb0 e_gb1; (refine (eqEngine_any _ _ _ _ _ (by first | exact O_x0.out.strs | exact O_x0.out.strs.bel ((Below.refl _ _).drew)) (by first | exact O_x2.out.strs | exact O_x2.out.strs.bel ((Below.refl _ _).drew))).mono ?_; rw [he_a0]; rintro e w14 ⟨rfl, b⟩; replace b : Below w13.heap.size w13 w14 := (by first | exact b | exact bel_trans ((Below.refl _ _).drew) b | exact bel_trans (bel_alloc _ _) b | exact bel_trans ((bel_alloc _ _).drew) b | exact bel_trans (((Below.refl _ _).drew).alloc (Nat.le_refl _) _) b); replace K_p0 := K_p0.below b K_p0.lt; replace K_p1 := K_p1.below b K_p1.lt; replace K_sb0 := K_sb0.below b K_sb0.lt; replace K_sb1 := K_sb1.below b K_sb1.lt; replace K_bx0 := K_bx0.below b K_bx0.lt; replace K_bx1 := K_bx1.below b K_bx1.lt; replace K_gb0 := K_gb0.below b K_gb0.lt; replace K_gb1 := K_gb1.below b K_gb1.lt; replace O_s0 := Lib.hid (O_s0.out.bel b); replace O_s1 := Lib.hid (O_s1.out.bel b); replace O_x0 := Lib.hid (O_x0.out.bel b); replace O_x1 := Lib.hid (O_x1.out.bel b); replace O_g0 := Lib.hid (O_g0.out.bel b); replace O_g1 := Lib.hid (O_g1.out.bel b); replace O_x2 := Lib.hid (O_x2.out.bel b); replace S_0 := Lib.hid (S_0.out.bel b); replace S_1 := Lib.hid (S_1.out.bel b); replace HB := Lib.hid (bel_trans HB.out b); clear b; clear O_x2; obtain ⟨e_p0, -⟩ := K_p0.one; obtain ⟨e_p1, -⟩ := K_p1.one; obtain ⟨e_sb0, -⟩ := K_sb0.one; obtain ⟨e_sb1, -⟩ := K_sb1.one; obtain ⟨e_bx0, -⟩ := K_bx0.one; obtain ⟨e_bx1, -⟩ := K_bx1.one; obtain ⟨e_gb0, -⟩ := K_gb0.one; obtain ⟨e_gb1, -⟩ := K_gb1.one; clear tok2; (try dsimp only)))
          | fail)
        all_goals
          clear e_p0 e_p1 e_sb0 e_sb1 e_bx0 e_bx1 e_gb0 e_gb1
          first
          | (obtain ⟨w15, hW⟩ : ∃ W', W' = w14.drew := ⟨_, rfl⟩; rw [← hW]; have b : Below w14.heap.size w14 w15 := (by rw [hW]; exact (Below.refl _ _).drew); clear hW)
          | (obtain ⟨w15, hW⟩ : ∃ W', W' = w14 := ⟨_, rfl⟩; rw [← hW]; have b : Below w14.heap.size w14 w15 := (by rw [hW]; exact Below.refl _ _); clear hW)
          replace K_p0 := K_p0.below b K_p0.lt
          replace K_p1 := K_p1.below b K_p1.lt
          replace K_sb0 := K_sb0.below b K_sb0.lt
          replace K_sb1 := K_sb1.below b K_sb1.lt
          replace K_bx0 := K_bx0.below b K_bx0.lt
          replace K_bx1 := K_bx1.below b K_bx1.lt
          replace K_gb0 := K_gb0.below b K_gb0.lt
          replace K_gb1 := K_gb1.below b K_gb1.lt
          replace O_s0 := Lib.hid (O_s0.out.bel b)
          replace O_s1 := Lib.hid (O_s1.out.bel b)
          replace O_x0 := Lib.hid (O_x0.out.bel b)
          replace O_x1 := Lib.hid (O_x1.out.bel b)
          replace O_g0 := Lib.hid (O_g0.out.bel b)
          replace O_g1 := Lib.hid (O_g1.out.bel b)
          replace S_0 := Lib.hid (S_0.out.bel b)
          replace S_1 := Lib.hid (S_1.out.bel b)
          replace HB := Lib.hid (bel_trans HB.out b)
          clear b
          revert HB; revert S_1; revert S_0; revert O_g1; revert O_g0; revert O_x1; revert O_x0; revert O_s1; revert O_s0; revert K_gb1; revert K_gb0; revert K_bx1; revert K_bx0; revert K_sb1; revert K_sb0; revert K_p1; revert K_p0; revert c_x2; revert A_x2; revert w15
          exact key2.out
      intro w15 A_x2 c_x2
      intro K_p0 K_p1 K_sb0 K_sb1 K_bx0 K_bx1 K_gb0 K_gb1 O_s0 O_s1 O_x0 O_x1 O_g0 O_g1 S_0 S_1 HB
      obtain ⟨e_p0, -⟩ := K_p0.one
      obtain ⟨e_p1, -⟩ := K_p1.one
      obtain ⟨e_sb0, -⟩ := K_sb0.one
      obtain ⟨e_sb1, -⟩ := K_sb1.one
      obtain ⟨e_bx0, -⟩ := K_bx0.one
      obtain ⟨e_bx1, -⟩ := K_bx1.one
      obtain ⟨e_gb0, -⟩ := K_gb0.one
      obtain ⟨e_gb1, -⟩ := K_gb1.one
      go_wp2_with fail
      clear e_p0 e_p1 e_sb0 e_sb1 e_bx0 e_bx1 e_gb0 e_gb1
      refine cut_by (P := ?P3) ?hk3 (fun key3 => ?main3)
      case main3 =>
        replace key3 := Lib.hid key3
        obtain ⟨e_p0, -⟩ := K_p0.one
        obtain ⟨e_p1, -⟩ := K_p1.one
        obtain ⟨e_sb0, -⟩ := K_sb0.one
        obtain ⟨e_sb1, -⟩ := K_sb1.one
        obtain ⟨e_bx0, -⟩ := K_bx0.one
        obtain ⟨e_bx1, -⟩ := K_bx1.one
        obtain ⟨e_gb0, -⟩ := K_gb0.one
        obtain ⟨e_gb1, -⟩ := K_gb1.one
        have tok1 : True := trivial
        have tok2 : True := trivial
        go_region_held3 (fun w' => w'.cell? ⟨w.heap.size + 1, 0, none⟩ = some (Value.slice A_a1 l1.length c_a1) ∧ w'.cell? ⟨w7.heap.size, 0, none⟩ = some (Value.slice A_x1 (l1).length c_x1)) (first | exact ⟨e_p1, e_bx1⟩ | exact ⟨((bel_alloc _ _).cell (by exact K_p1.lt)).trans e_p1, ((bel_alloc _ _).cell (by exact K_bx1.lt)).trans e_bx1⟩ | exact ⟨(World.cell?_setCell_other _ _ _ _ (by intro e; injection e with q; have := K_p1.lt; simp at q; omega)).trans (((bel_alloc _ _).cell (by exact K_p1.lt)).trans e_p1), (World.cell?_setCell_other _ _ _ _ (by intro e; injection e with q; have := K_bx1.lt; simp at q; omega)).trans (((bel_alloc _ _).cell (by exact K_bx1.lt)).trans e_bx1)⟩ | exact ⟨(World.cell?_setCell_other _ _ _ _ (by intro e; injection e with q; omega)).trans e_p1, (World.cell?_setCell_other _ _ _ _ (by intro e; injection e with q; omega)).trans e_bx1⟩ | go_keep) (first
          | ((try go_simp); go_at_call 58; have _t := tok1; clear e_p0 e_p1 e_sb0 e_sb1 e_bx0 e_bx1 e_gb0 e_gb1; (refine (toEngine_any _ l1 _ (by first | exact S_1.out | exact S_1.out.bel ((Below.refl _ _).drew)) len1).mono ?_; rintro e w16 ⟨r_x3, rfl, o_x3, b⟩; replace o_x3 : OwnS w16 w15.heap.size r_x3 (l1) := (by first | exact o_x3 | exact o_x3.lower (by simp)); replace b : Below w15.heap.size w15 w16 := (by first | exact b | exact bel_trans ((Below.refl _ _).drew) b | exact bel_trans (bel_alloc _ _) b | exact bel_trans ((bel_alloc _ _).drew) b | exact bel_trans (((Below.refl _ _).drew).alloc (Nat.le_refl _) _) b); have HBZ := Lib.hid HB.out.size; replace K_p0 := K_p0.below b K_p0.lt; replace K_p1 := K_p1.below b K_p1.lt; replace K_sb0 := K_sb0.below b K_sb0.lt; replace K_sb1 := K_sb1.below b K_sb1.lt; replace K_bx0 := K_bx0.below b K_bx0.lt; replace K_bx1 := K_bx1.below b K_bx1.lt; replace K_gb0 := K_gb0.below b K_gb0.lt; replace K_gb1 := K_gb1.below b K_gb1.lt; replace O_s0 := Lib.hid (O_s0.out.bel b); replace O_s1 := Lib.hid (O_s1.out.bel b); replace O_x0 := Lib.hid (O_x0.out.bel b); replace O_x1 := Lib.hid (O_x1.out.bel b); replace O_g0 := Lib.hid (O_g0.out.bel b); replace O_g1 := Lib.hid (O_g1.out.bel b); replace S_0 := Lib.hid (S_0.out.bel b); replace S_1 := Lib.hid (S_1.out.bel b); replace HB := Lib.hid (bel_trans HB.out b); clear b; have O_x3 := Lib.hid (o_x3.lower (base' := w.heap.size) HBZ.out); clear HBZ; obtain ⟨A_x3, c_x3, rfl, -, -, -⟩ := o_x3.strs.open_; clear o_x3; obtain ⟨e_p0, -⟩ := K_p0.one; obtain ⟨e_p1, -⟩ := K_p1.one; obtain ⟨e_sb0, -⟩ := K_sb0.one; obtain ⟨e_sb1, -⟩ := K_sb1.one; obtain ⟨e_bx0, -⟩ := K_bx0.one; obtain ⟨e_bx1, -⟩ := K_bx1.one; obtain ⟨e_gb0, -⟩ := K_gb0.one; obtain ⟨e_gb1, -⟩ := K_gb1.one; clear tok1; (try dsimp only)))
          | ((try go_simp); go_at_call 60; have _t := tok2; clear e_p0 e_p1 e_sb0 e_sb1 e_bx0 e_bx1 e_gb0 e_gb1; (refine (eqEngine_any _ _ _ _ _ (by first | exact O_x1.out.strs | exact O_x1.out.strs.bel ((Below.refl _ _).drew)) (by first | exact O_x3.out.strs | exact O_x3.out.strs.bel ((Below.refl _ _).drew))).mono ?_; rw [he_a1]; rintro e w17 ⟨rfl, b⟩; replace b : Below w16.heap.size w16 w17 := (by first | exact b | exact bel_trans ((Below.refl _ _).drew) b | exact bel_trans (bel_alloc _ _) b | exact bel_trans ((bel_alloc _ _).drew) b | exact bel_trans (((Below.refl _ _).drew).alloc (Nat.le_refl _) _) b); replace K_p0 := K_p0.below b K_p0.lt; replace K_p1 := K_p1.below b K_p1.lt; replace K_sb0 := K_sb0.below b K_sb0.lt; replace K_sb1 := K_sb1.below b K_sb1.lt; replace K_bx0 := K_bx0.below b K_bx0.lt; replace K_bx1 := K_bx1.below b K_bx1.lt; replace K_gb0 := K_gb0.below b K_gb0.lt; replace K_gb1 := K_gb1.below b K_gb1.lt; replace O_s0 := Lib.hid (O_s0.out.bel b); replace O_s1 := Lib.hid (O_s1.out.bel b); replace O_x0 := Lib.hid (O_x0.out.bel b); replace O_x1 := Lib.hid (O_x1.out.bel b); replace O_g0 := Lib.hid (O_g0.out.bel b); replace O_g1 := Lib.hid (O_g1.out.bel b); replace O_x3 := Lib.hid (O_x3.out.bel b); replace S_0 := Lib.hid (S_0.out.bel b); replace S_1 := Lib.hid (S_1.out.bel b); replace HB := Lib.hid (bel_trans HB.out b); clear b; clear O_x3; obtain ⟨e_p0, -⟩ := K_p0.one; obtain ⟨e_p1, -⟩ := K_p1.one; obtain ⟨e_sb0, -⟩ := K_sb0.one; obtain ⟨e_sb1, -⟩ := K_sb1.one; obtain ⟨e_bx0, -⟩ := K_bx0.one; obtain ⟨e_bx1, -⟩ := K_bx1.one; obtain ⟨e_gb0, -⟩ := K_gb0.one; obtain ⟨e_gb1, -⟩ := K_gb1.one; clear tok2; (try dsimp only)))
          | fail)
        all_goals
          clear e_p0 e_p1 e_sb0 e_sb1 e_bx0 e_bx1 e_gb0 e_gb1
          first
          | (obtain ⟨w18, hW⟩ : ∃ W', W' = w17.drew := ⟨_, rfl⟩; rw [← hW]; have b : Below w17.heap.size w17 w18 := (by rw [hW]; exact (Below.refl _ _).drew); clear hW)
          | (obtain ⟨w18, hW⟩ : ∃ W', W' = w17 := ⟨_, rfl⟩; rw [← hW]; have b : Below w17.heap.size w17 w18 := (by rw [hW]; exact Below.refl _ _); clear hW)
          replace K_p0 := K_p0.below b K_p0.lt
          replace K_p1 := K_p1.below b K_p1.lt
          replace K_sb0 := K_sb0.below b K_sb0.lt
          replace K_sb1 := K_sb1.below b K_sb1.lt
          replace K_bx0 := K_bx0.below b K_bx0.lt
          replace K_bx1 := K_bx1.below b K_bx1.lt
          replace K_gb0 := K_gb0.below b K_gb0.lt
          replace K_gb1 := K_gb1.below b K_gb1.lt
          replace O_s0 := Lib.hid (O_s0.out.bel b)
          replace O_s1 := Lib.hid (O_s1.out.bel b)
          replace O_x0 := Lib.hid (O_x0.out.bel b)
          replace O_x1 := Lib.hid (O_x1.out.bel b)
          replace O_g0 := Lib.hid (O_g0.out.bel b)
          replace O_g1 := Lib.hid (O_g1.out.bel b)
          replace S_0 := Lib.hid (S_0.out.bel b)
          replace S_1 := Lib.hid (S_1.out.bel b)
          replace HB := Lib.hid (bel_trans HB.out b)
          clear b
          revert HB; revert S_1; revert S_0; revert O_g1; revert O_g0; revert O_x1; revert O_x0; revert O_s1; revert O_s0; revert K_gb1; revert K_gb0; revert K_bx1; revert K_bx0; revert K_sb1; revert K_sb0; revert K_p1; revert K_p0; revert c_x3; revert A_x3; revert w18
          exact key3.out
      intro w18 A_x3 c_x3
      intro K_p0 K_p1 K_sb0 K_sb1 K_bx0 K_bx1 K_gb0 K_gb1 O_s0 O_s1 O_x0 O_x1 O_g0 O_g1 S_0 S_1 HB
      have hR0 : (cA l0 l1).length ≤ 1048576 := by exact Nat.le_trans cA_len (by omega)
      have hR1 : (cB l0 l1).length ≤ 1048576 := by exact Nat.le_trans cB_len (by omega)
      obtain ⟨e_p0, -⟩ := K_p0.one
      obtain ⟨e_p1, -⟩ := K_p1.one
      obtain ⟨e_sb0, -⟩ := K_sb0.one
      obtain ⟨e_sb1, -⟩ := K_sb1.one
      obtain ⟨e_bx0, -⟩ := K_bx0.one
      obtain ⟨e_bx1, -⟩ := K_bx1.one
      obtain ⟨e_gb0, -⟩ := K_gb0.one
      obtain ⟨e_gb1, -⟩ := K_gb1.one
      go_wp2_with fail
      clear e_p0 e_p1 e_sb0 e_sb1 e_bx0 e_bx1 e_gb0 e_gb1
      refine (markEngine_int _ _ (1) _ _ O_x0.out (by omega) (by omega)).mono ?_
      rintro e w19 ⟨rfl, g, o_x0⟩
      replace K_p0 := K_p0.grown g (fun e => N_p0_x0.out _ e.symm rfl)
      replace K_p1 := K_p1.grown g (fun e => N_p1_x0.out _ e.symm rfl)
      replace K_sb0 := K_sb0.grown g (fun e => N_sb0_x0.out _ e.symm rfl)
      replace K_sb1 := K_sb1.grown g (fun e => N_sb1_x0.out _ e.symm rfl)
      replace K_bx0 := K_bx0.grown g (fun e => N_bx0_x0.out _ e.symm rfl)
      replace K_bx1 := K_bx1.grown g (fun e => N_bx1_x0.out _ e.symm rfl)
      replace K_gb0 := K_gb0.grown g (fun e => N_gb0_x0.out _ e.symm rfl)
      replace K_gb1 := K_gb1.grown g (fun e => N_gb1_x0.out _ e.symm rfl)
      replace O_s0 := Lib.hid (O_s0.out.apart g N_s0_x0.out)
      replace O_s1 := Lib.hid (O_s1.out.apart g N_s1_x0.out)
      replace O_x1 := Lib.hid (O_x1.out.apart g (fun k p q => N_x0_x1.out k q p))
      replace O_g0 := Lib.hid (O_g0.out.apart g (fun k p q => N_x0_g0.out k q p))
      replace O_g1 := Lib.hid (O_g1.out.apart g (fun k p q => N_x0_g1.out k q p))
      replace S_0 := Lib.hid (S_0.out.far g (B := w.heap.size) (fun k p => t_x0.out k p) J_0.out)
      replace S_1 := Lib.hid (S_1.out.far g (B := w.heap.size) (fun k p => t_x0.out k p) J_1.out)
      replace HB := Lib.hid (mark_bel HB.out g (fun k p => t_x0.out k p))
      clear g
      replace O_x0 := Lib.hid o_x0
      clear o_x0
      obtain ⟨e_p0, -⟩ := K_p0.one
      obtain ⟨e_p1, -⟩ := K_p1.one
      obtain ⟨e_sb0, -⟩ := K_sb0.one
      obtain ⟨e_sb1, -⟩ := K_sb1.one
      obtain ⟨e_bx0, -⟩ := K_bx0.one
      obtain ⟨e_bx1, -⟩ := K_bx1.one
      obtain ⟨e_gb0, -⟩ := K_gb0.one
      obtain ⟨e_gb1, -⟩ := K_gb1.one
      go_wp2_with fail
      clear e_p0 e_p1 e_sb0 e_sb1 e_bx0 e_bx1 e_gb0 e_gb1
      refine (markEngine_int _ _ (1 + (l0.length : Int)) _ _ O_x1.out (by omega) (by omega)).mono ?_
      rintro e w20 ⟨rfl, g, o_x1⟩
      replace K_p0 := K_p0.grown g (fun e => N_p0_x1.out _ e.symm rfl)
      replace K_p1 := K_p1.grown g (fun e => N_p1_x1.out _ e.symm rfl)
      replace K_sb0 := K_sb0.grown g (fun e => N_sb0_x1.out _ e.symm rfl)
      replace K_sb1 := K_sb1.grown g (fun e => N_sb1_x1.out _ e.symm rfl)
      replace K_bx0 := K_bx0.grown g (fun e => N_bx0_x1.out _ e.symm rfl)
      replace K_bx1 := K_bx1.grown g (fun e => N_bx1_x1.out _ e.symm rfl)
      replace K_gb0 := K_gb0.grown g (fun e => N_gb0_x1.out _ e.symm rfl)
      replace K_gb1 := K_gb1.grown g (fun e => N_gb1_x1.out _ e.symm rfl)
      replace O_s0 := Lib.hid (O_s0.out.apart g N_s0_x1.out)
      replace O_s1 := Lib.hid (O_s1.out.apart g N_s1_x1.out)
      replace O_x0 := Lib.hid (O_x0.out.apart g N_x0_x1.out)
      replace O_g0 := Lib.hid (O_g0.out.apart g (fun k p q => N_x1_g0.out k q p))
      replace O_g1 := Lib.hid (O_g1.out.apart g (fun k p q => N_x1_g1.out k q p))
      replace S_0 := Lib.hid (S_0.out.far g (B := w.heap.size) (fun k p => t_x1.out k p) J_0.out)
      replace S_1 := Lib.hid (S_1.out.far g (B := w.heap.size) (fun k p => t_x1.out k p) J_1.out)
      replace HB := Lib.hid (mark_bel HB.out g (fun k p => t_x1.out k p))
      clear g
      replace O_x1 := Lib.hid o_x1
      clear o_x1
      obtain ⟨e_p0, -⟩ := K_p0.one
      obtain ⟨e_p1, -⟩ := K_p1.one
      obtain ⟨e_sb0, -⟩ := K_sb0.one
      obtain ⟨e_sb1, -⟩ := K_sb1.one
      obtain ⟨e_bx0, -⟩ := K_bx0.one
      obtain ⟨e_bx1, -⟩ := K_bx1.one
      obtain ⟨e_gb0, -⟩ := K_gb0.one
      obtain ⟨e_gb1, -⟩ := K_gb1.one
      go_wp2_with fail
      clear e_p0 e_p1 e_sb0 e_sb1 e_bx0 e_bx1 e_gb0 e_gb1
      refine (eqEngine_any _ _ _ _ _ O_g0.out.strs O_s0.out.strs).mono ?_
      rw [he_r0]
      rintro e w21 ⟨rfl, b⟩
      replace K_p0 := K_p0.below b K_p0.lt
      replace K_p1 := K_p1.below b K_p1.lt
      replace K_sb0 := K_sb0.below b K_sb0.lt
      replace K_sb1 := K_sb1.below b K_sb1.lt
      replace K_bx0 := K_bx0.below b K_bx0.lt
      replace K_bx1 := K_bx1.below b K_bx1.lt
      replace K_gb0 := K_gb0.below b K_gb0.lt
      replace K_gb1 := K_gb1.below b K_gb1.lt
      replace O_s0 := Lib.hid (O_s0.out.bel b)
      replace O_s1 := Lib.hid (O_s1.out.bel b)
      replace O_x0 := Lib.hid (O_x0.out.bel b)
      replace O_x1 := Lib.hid (O_x1.out.bel b)
      replace O_g0 := Lib.hid (O_g0.out.bel b)
      replace O_g1 := Lib.hid (O_g1.out.bel b)
      replace S_0 := Lib.hid (S_0.out.bel b)
      replace S_1 := Lib.hid (S_1.out.bel b)
      replace HB := Lib.hid (bel_trans HB.out b)
      clear b
      obtain ⟨e_p0, -⟩ := K_p0.one
      obtain ⟨e_p1, -⟩ := K_p1.one
      obtain ⟨e_sb0, -⟩ := K_sb0.one
      obtain ⟨e_sb1, -⟩ := K_sb1.one
      obtain ⟨e_bx0, -⟩ := K_bx0.one
      obtain ⟨e_bx1, -⟩ := K_bx1.one
      obtain ⟨e_gb0, -⟩ := K_gb0.one
      obtain ⟨e_gb1, -⟩ := K_gb1.one
      go_wp2_with fail
      clear e_p0 e_p1 e_sb0 e_sb1 e_bx0 e_bx1 e_gb0 e_gb1
      refine (eqEngine_any _ _ _ _ _ O_g1.out.strs O_s1.out.strs).mono ?_
      rw [he_r1]
      rintro e w22 ⟨rfl, b⟩
      replace K_p0 := K_p0.below b K_p0.lt
      replace K_p1 := K_p1.below b K_p1.lt
      replace K_sb0 := K_sb0.below b K_sb0.lt
      replace K_sb1 := K_sb1.below b K_sb1.lt
      replace K_bx0 := K_bx0.below b K_bx0.lt
      replace K_bx1 := K_bx1.below b K_bx1.lt
      replace K_gb0 := K_gb0.below b K_gb0.lt
      replace K_gb1 := K_gb1.below b K_gb1.lt
      replace O_s0 := Lib.hid (O_s0.out.bel b)
      replace O_s1 := Lib.hid (O_s1.out.bel b)
      replace O_x0 := Lib.hid (O_x0.out.bel b)
      replace O_x1 := Lib.hid (O_x1.out.bel b)
      replace O_g0 := Lib.hid (O_g0.out.bel b)
      replace O_g1 := Lib.hid (O_g1.out.bel b)
      replace S_0 := Lib.hid (S_0.out.bel b)
      replace S_1 := Lib.hid (S_1.out.bel b)
      replace HB := Lib.hid (bel_trans HB.out b)
      clear b
      obtain ⟨e_p0, -⟩ := K_p0.one
      obtain ⟨e_p1, -⟩ := K_p1.one
      obtain ⟨e_sb0, -⟩ := K_sb0.one
      obtain ⟨e_sb1, -⟩ := K_sb1.one
      obtain ⟨e_bx0, -⟩ := K_bx0.one
      obtain ⟨e_bx1, -⟩ := K_bx1.one
      obtain ⟨e_gb0, -⟩ := K_gb0.one
      obtain ⟨e_gb1, -⟩ := K_gb1.one
      go_wp2_with fail
      clear e_p0 e_p1 e_sb0 e_sb1 e_bx0 e_bx1 e_gb0 e_gb1
      refine (markEngine_int _ _ (1) _ _ O_g0.out (by omega) (by omega)).mono ?_
      rintro e w23 ⟨rfl, g, o_g0⟩
      replace K_p0 := K_p0.grown g (fun e => N_p0_g0.out _ e.symm rfl)
      replace K_p1 := K_p1.grown g (fun e => N_p1_g0.out _ e.symm rfl)
      replace K_sb0 := K_sb0.grown g (fun e => N_sb0_g0.out _ e.symm rfl)
      replace K_sb1 := K_sb1.grown g (fun e => N_sb1_g0.out _ e.symm rfl)
      replace K_bx0 := K_bx0.grown g (fun e => N_bx0_g0.out _ e.symm rfl)
      replace K_bx1 := K_bx1.grown g (fun e => N_bx1_g0.out _ e.symm rfl)
      replace K_gb0 := K_gb0.grown g (fun e => N_gb0_g0.out _ e.symm rfl)
      replace K_gb1 := K_gb1.grown g (fun e => N_gb1_g0.out _ e.symm rfl)
      replace O_s0 := Lib.hid (O_s0.out.apart g N_s0_g0.out)
      replace O_s1 := Lib.hid (O_s1.out.apart g N_s1_g0.out)
      replace O_x0 := Lib.hid (O_x0.out.apart g N_x0_g0.out)
      replace O_x1 := Lib.hid (O_x1.out.apart g N_x1_g0.out)
      replace O_g1 := Lib.hid (O_g1.out.apart g (fun k p q => N_g0_g1.out k q p))
      replace S_0 := Lib.hid (S_0.out.far g (B := w.heap.size) (fun k p => t_g0.out k p) J_0.out)
      replace S_1 := Lib.hid (S_1.out.far g (B := w.heap.size) (fun k p => t_g0.out k p) J_1.out)
      replace HB := Lib.hid (mark_bel HB.out g (fun k p => t_g0.out k p))
      clear g
      replace O_g0 := Lib.hid o_g0
      clear o_g0
      obtain ⟨e_p0, -⟩ := K_p0.one
      obtain ⟨e_p1, -⟩ := K_p1.one
      obtain ⟨e_sb0, -⟩ := K_sb0.one
      obtain ⟨e_sb1, -⟩ := K_sb1.one
      obtain ⟨e_bx0, -⟩ := K_bx0.one
      obtain ⟨e_bx1, -⟩ := K_bx1.one
      obtain ⟨e_gb0, -⟩ := K_gb0.one
      obtain ⟨e_gb1, -⟩ := K_gb1.one
      go_wp2_with fail
      clear e_p0 e_p1 e_sb0 e_sb1 e_bx0 e_bx1 e_gb0 e_gb1
      refine (markEngine_int _ _ (1 + ((cA l0 l1).length : Int)) _ _ O_g1.out (by omega) (by omega)).mono ?_
      rintro e w24 ⟨rfl, g, o_g1⟩
      replace K_p0 := K_p0.grown g (fun e => N_p0_g1.out _ e.symm rfl)
      replace K_p1 := K_p1.grown g (fun e => N_p1_g1.out _ e.symm rfl)
      replace K_sb0 := K_sb0.grown g (fun e => N_sb0_g1.out _ e.symm rfl)
      replace K_sb1 := K_sb1.grown g (fun e => N_sb1_g1.out _ e.symm rfl)
      replace K_bx0 := K_bx0.grown g (fun e => N_bx0_g1.out _ e.symm rfl)
      replace K_bx1 := K_bx1.grown g (fun e => N_bx1_g1.out _ e.symm rfl)
      replace K_gb0 := K_gb0.grown g (fun e => N_gb0_g1.out _ e.symm rfl)
      replace K_gb1 := K_gb1.grown g (fun e => N_gb1_g1.out _ e.symm rfl)
      replace O_s0 := Lib.hid (O_s0.out.apart g N_s0_g1.out)
      replace O_s1 := Lib.hid (O_s1.out.apart g N_s1_g1.out)
      replace O_x0 := Lib.hid (O_x0.out.apart g N_x0_g1.out)
      replace O_x1 := Lib.hid (O_x1.out.apart g N_x1_g1.out)
      replace O_g0 := Lib.hid (O_g0.out.apart g N_g0_g1.out)
      replace S_0 := Lib.hid (S_0.out.far g (B := w.heap.size) (fun k p => t_g1.out k p) J_0.out)
      replace S_1 := Lib.hid (S_1.out.far g (B := w.heap.size) (fun k p => t_g1.out k p) J_1.out)
      replace HB := Lib.hid (mark_bel HB.out g (fun k p => t_g1.out k p))
      clear g
      replace O_g1 := Lib.hid o_g1
      clear o_g1
      obtain ⟨e_p0, -⟩ := K_p0.one
      obtain ⟨e_p1, -⟩ := K_p1.one
      obtain ⟨e_sb0, -⟩ := K_sb0.one
      obtain ⟨e_sb1, -⟩ := K_sb1.one
      obtain ⟨e_bx0, -⟩ := K_bx0.one
      obtain ⟨e_bx1, -⟩ := K_bx1.one
      obtain ⟨e_gb0, -⟩ := K_gb0.one
      obtain ⟨e_gb1, -⟩ := K_gb1.one
      go_wp2_with fail
      clear e_p0 e_p1 e_sb0 e_sb1 e_bx0 e_bx1 e_gb0 e_gb1
      refine (heldEngine_int _ (cA l0 l1).length (1) _ O_g0.out.strs (by omega) (by omega)).mono ?_
      rintro e w25 ⟨rfl, b⟩
      replace K_p0 := K_p0.below b K_p0.lt
      replace K_p1 := K_p1.below b K_p1.lt
      replace K_sb0 := K_sb0.below b K_sb0.lt
      replace K_sb1 := K_sb1.below b K_sb1.lt
      replace K_bx0 := K_bx0.below b K_bx0.lt
      replace K_bx1 := K_bx1.below b K_bx1.lt
      replace K_gb0 := K_gb0.below b K_gb0.lt
      replace K_gb1 := K_gb1.below b K_gb1.lt
      replace O_s0 := Lib.hid (O_s0.out.bel b)
      replace O_s1 := Lib.hid (O_s1.out.bel b)
      replace O_x0 := Lib.hid (O_x0.out.bel b)
      replace O_x1 := Lib.hid (O_x1.out.bel b)
      replace O_g0 := Lib.hid (O_g0.out.bel b)
      replace O_g1 := Lib.hid (O_g1.out.bel b)
      replace S_0 := Lib.hid (S_0.out.bel b)
      replace S_1 := Lib.hid (S_1.out.bel b)
      replace HB := Lib.hid (bel_trans HB.out b)
      clear b
      obtain ⟨e_p0, -⟩ := K_p0.one
      obtain ⟨e_p1, -⟩ := K_p1.one
      obtain ⟨e_sb0, -⟩ := K_sb0.one
      obtain ⟨e_sb1, -⟩ := K_sb1.one
      obtain ⟨e_bx0, -⟩ := K_bx0.one
      obtain ⟨e_bx1, -⟩ := K_bx1.one
      obtain ⟨e_gb0, -⟩ := K_gb0.one
      obtain ⟨e_gb1, -⟩ := K_gb1.one
      go_wp2_with fail
      clear e_p0 e_p1 e_sb0 e_sb1 e_bx0 e_bx1 e_gb0 e_gb1
      refine (heldEngine_int _ (cB l0 l1).length (1 + ((cA l0 l1).length : Int)) _ O_g1.out.strs (by omega) (by omega)).mono ?_
      rintro e w26 ⟨rfl, b⟩
      replace K_p0 := K_p0.below b K_p0.lt
      replace K_p1 := K_p1.below b K_p1.lt
      replace K_sb0 := K_sb0.below b K_sb0.lt
      replace K_sb1 := K_sb1.below b K_sb1.lt
      replace K_bx0 := K_bx0.below b K_bx0.lt
      replace K_bx1 := K_bx1.below b K_bx1.lt
      replace K_gb0 := K_gb0.below b K_gb0.lt
      replace K_gb1 := K_gb1.below b K_gb1.lt
      replace O_s0 := Lib.hid (O_s0.out.bel b)
      replace O_s1 := Lib.hid (O_s1.out.bel b)
      replace O_x0 := Lib.hid (O_x0.out.bel b)
      replace O_x1 := Lib.hid (O_x1.out.bel b)
      replace O_g0 := Lib.hid (O_g0.out.bel b)
      replace O_g1 := Lib.hid (O_g1.out.bel b)
      replace S_0 := Lib.hid (S_0.out.bel b)
      replace S_1 := Lib.hid (S_1.out.bel b)
      replace HB := Lib.hid (bel_trans HB.out b)
      clear b
      obtain ⟨e_p0, -⟩ := K_p0.one
      obtain ⟨e_p1, -⟩ := K_p1.one
      obtain ⟨e_sb0, -⟩ := K_sb0.one
      obtain ⟨e_sb1, -⟩ := K_sb1.one
      obtain ⟨e_bx0, -⟩ := K_bx0.one
      obtain ⟨e_bx1, -⟩ := K_bx1.one
      obtain ⟨e_gb0, -⟩ := K_gb0.one
      obtain ⟨e_gb1, -⟩ := K_gb1.one
      go_wp2_with fail
      clear e_p0 e_p1 e_sb0 e_sb1 e_bx0 e_bx1 e_gb0 e_gb1
      obtain ⟨e_p0, -⟩ := K_p0.one
      obtain ⟨e_p1, -⟩ := K_p1.one
      obtain ⟨e_sb0, -⟩ := K_sb0.one
      obtain ⟨e_sb1, -⟩ := K_sb1.one
      obtain ⟨e_bx0, -⟩ := K_bx0.one
      obtain ⟨e_bx1, -⟩ := K_bx1.one
      obtain ⟨e_gb0, -⟩ := K_gb0.one
      obtain ⟨e_gb1, -⟩ := K_gb1.one
      refine cut_by (P := ?Pr4_1_3_4_9_10_11_12) ?hkr4_1_3_4_9_10_11_12 (fun keyr4_1_3_4_9_10_11_12 => ?mainr4_1_3_4_9_10_11_12)
      case mainr4_1_3_4_9_10_11_12 =>
        replace keyr4_1_3_4_9_10_11_12 := Lib.hid keyr4_1_3_4_9_10_11_12
        refine cut_by (P := ?Pr4_1_3_4_9_10_11) ?hkr4_1_3_4_9_10_11 (fun keyr4_1_3_4_9_10_11 => ?mainr4_1_3_4_9_10_11)
        case mainr4_1_3_4_9_10_11 =>
          replace keyr4_1_3_4_9_10_11 := Lib.hid keyr4_1_3_4_9_10_11
          refine cut_by (P := ?Pr4_1_3_4_9_10) ?hkr4_1_3_4_9_10 (fun keyr4_1_3_4_9_10 => ?mainr4_1_3_4_9_10)
          case mainr4_1_3_4_9_10 =>
            replace keyr4_1_3_4_9_10 := Lib.hid keyr4_1_3_4_9_10
            refine cut_by (P := ?Pr4_1_3_9_10) ?hkr4_1_3_9_10 (fun keyr4_1_3_9_10 => ?mainr4_1_3_9_10)
            case mainr4_1_3_9_10 =>
              replace keyr4_1_3_9_10 := Lib.hid keyr4_1_3_9_10
              refine cut_by (P := ?Pr4_1_3_4_10) ?hkr4_1_3_4_10 (fun keyr4_1_3_4_10 => ?mainr4_1_3_4_10)
              case mainr4_1_3_4_10 =>
                replace keyr4_1_3_4_10 := Lib.hid keyr4_1_3_4_10
                refine cut_by (P := ?Pr4_1_3_4_9) ?hkr4_1_3_4_9 (fun keyr4_1_3_4_9 => ?mainr4_1_3_4_9)
                case mainr4_1_3_4_9 =>
                  replace keyr4_1_3_4_9 := Lib.hid keyr4_1_3_4_9
                  refine cut_by (P := ?Pr4_1_9_10) ?hkr4_1_9_10 (fun keyr4_1_9_10 => ?mainr4_1_9_10)
                  case mainr4_1_9_10 =>
                    replace keyr4_1_9_10 := Lib.hid keyr4_1_9_10
                    refine cut_by (P := ?Pr4_1_3_10) ?hkr4_1_3_10 (fun keyr4_1_3_10 => ?mainr4_1_3_10)
                    case mainr4_1_3_10 =>
                      replace keyr4_1_3_10 := Lib.hid keyr4_1_3_10
                      refine cut_by (P := ?Pr4_1_3_9) ?hkr4_1_3_9 (fun keyr4_1_3_9 => ?mainr4_1_3_9)
                      case mainr4_1_3_9 =>
                        replace keyr4_1_3_9 := Lib.hid keyr4_1_3_9
                        refine cut_by (P := ?Pr4_1_3_4) ?hkr4_1_3_4 (fun keyr4_1_3_4 => ?mainr4_1_3_4)
                        case mainr4_1_3_4 =>
                          replace keyr4_1_3_4 := Lib.hid keyr4_1_3_4
                          refine cut_by (P := ?Pr4_9_10) ?hkr4_9_10 (fun keyr4_9_10 => ?mainr4_9_10)
                          case mainr4_9_10 =>
                            replace keyr4_9_10 := Lib.hid keyr4_9_10
                            refine cut_by (P := ?Pr4_1_10) ?hkr4_1_10 (fun keyr4_1_10 => ?mainr4_1_10)
                            case mainr4_1_10 =>
                              replace keyr4_1_10 := Lib.hid keyr4_1_10
                              refine cut_by (P := ?Pr4_1_9) ?hkr4_1_9 (fun keyr4_1_9 => ?mainr4_1_9)
                              case mainr4_1_9 =>
                                replace keyr4_1_9 := Lib.hid keyr4_1_9
                                refine cut_by (P := ?Pr4_1_3) ?hkr4_1_3 (fun keyr4_1_3 => ?mainr4_1_3)
                                case mainr4_1_3 =>
                                  replace keyr4_1_3 := Lib.hid keyr4_1_3
                                  refine cut_by (P := ?Pr4_10) ?hkr4_10 (fun keyr4_10 => ?mainr4_10)
                                  case mainr4_10 =>
                                    replace keyr4_10 := Lib.hid keyr4_10
                                    refine cut_by (P := ?Pr4_9) ?hkr4_9 (fun keyr4_9 => ?mainr4_9)
                                    case mainr4_9 =>
                                      replace keyr4_9 := Lib.hid keyr4_9
                                      refine cut_by (P := ?Pr4_1) ?hkr4_1 (fun keyr4_1 => ?mainr4_1)
                                      case mainr4_1 =>
                                        replace keyr4_1 := Lib.hid keyr4_1
                                        refine wp_region_held_drew (S := (fun w' => w'.cell? ⟨w.heap.size, 0, none⟩ = some (Value.slice A_a0 l0.length c_a0) ∧ w'.cell? ⟨w.heap.size + 1, 0, none⟩ = some (Value.slice A_a1 l1.length c_a1))) (by kernel_rfl) ?_ (fun hS => ?_)
                                        · skip
                                          exact ⟨e_p0, e_p1⟩
                                        have B : Below w26.heap.size w26 w26.drew := (Below.refl _ _).drew
                                        generalize hW : w26.drew = wr at *
                                        clear hW
                                        refine wpAnyH_take (i := 0) (oi := { dst := some 120, op := Op.load 72 (Operand.tmp 2), type := 72, pos := "exact.go:4252", after := #[], guard := none }) (v := ?vr4_1) rfl (by kernel_rfl) (by kernel_rfl) (by kernel_rfl) (fun _ _ _ h => h) (Or.inl ⟨by rfl, ?hyr4_1⟩) hS ?restr4_1
                                        case hyr4_1 => (intro w' hSw; (try dsimp only at hSw); go_simp; all_goals with_reducible rfl)
                                        (try simp only [Act.put, List.setIfInBounds_toArray, List.set_cons_zero, List.set_cons_succ])
                                        refine wpAnyH_take (i := 2) (oi := { dst := some 122, op := Op.load 72 (Operand.tmp 3), type := 72, pos := "exact.go:4252", after := #[], guard := none }) (v := ?vr4_2) rfl (by kernel_rfl) (by kernel_rfl) (by kernel_rfl) (fun _ _ _ h => h) (Or.inl ⟨by rfl, ?hyr4_2⟩) hS ?restr4_2
                                        case hyr4_2 => (intro w' hSw; (try dsimp only at hSw); go_simp; all_goals with_reducible rfl)
                                        (try simp only [Act.put, List.setIfInBounds_toArray, List.set_cons_zero, List.set_cons_succ])
                                        refine wpAnyH_listed (l' := #[true, false, true, false, false, false, false, false, false, false, false, false, false, false]) (by kernel_rfl) ?_
                                        clear hS
                                        refine wpAnyH_ready (rs := [1, 9, 10]) (by kernel_rfl) (by simp) ?_
                                        refine AllReadyH.cons (o := { dst := some 121, op := Op.call { callee := Callee.value (Operand.func 58), args := #[Operand.tmp 120], argTypes := #[72] }, type := 29, pos := "exact.go:4252", after := #[{ on := 0, ground := Ground.data }], guard := none }) rfl (fun K hK => ?_) ?_
                                        · skip
                                          (try go_simp)
                                          go_at_call 58
                                          refine (toEngine_any _ l0 _ (S_0.out.bel B) len0).mono ?_
                                          rintro e wn ⟨r_r4x0, rfl, o_r4x0, b⟩
                                          have O_r4x0 := Lib.hid (o_r4x0.lower B.size)
                                          replace B := bel_trans B b
                                          obtain ⟨A_r4x0, c_r4x0, rfl, -, -, -⟩ := o_r4x0.strs.open_
                                          clear o_r4x0
                                          clear b
                                          (try dsimp only)
                                          refine hK.out _ _ (by first | exact ⟨(B.cell (by exact K_p0.lt)).trans e_p0, (B.cell (by exact K_p1.lt)).trans e_p1⟩ | (dsimp only; exact ⟨(B.cell (by exact K_p0.lt)).trans e_p0, (B.cell (by exact K_p1.lt)).trans e_p1⟩)) (fun hS => ?_)
                                          clear hK K
                                          (try simp only [Act.put, List.setIfInBounds_toArray, List.set_cons_zero, List.set_cons_succ])
                                          refine wpAnyH_listed (l' := #[true, true, true, false, false, false, false, false, false, false, false, false, false, false]) (by kernel_rfl) ?_
                                          clear hS
                                          revert O_r4x0; revert B
                                          revert c_r4x0; revert A_r4x0; revert wn
                                          exact keyr4_1.out
                                        refine AllReadyH.cons (o := { dst := some 17, op := Op.alloc 29, type := 0, pos := "exact.go:4252", after := #[], guard := none }) rfl (fun K hK => ?_) ?_
                                        · skip
                                          go_simp
                                          have H_hb0 : w26.heap.size ≤ wr.heap.size := B.size
                                          replace B : Below w26.heap.size w26 (wr.alloc (.cells #[Value.slice none 0 0] 29)) := bel_trans B (bel_alloc wr _)
                                          have K_hb0 := Blk.new' wr 29 (Value.slice none 0 0) wr.heap.size rfl
                                          refine hK.out _ _ (by first | exact ⟨(B.cell (by exact K_p0.lt)).trans e_p0, (B.cell (by exact K_p1.lt)).trans e_p1⟩ | (dsimp only; exact ⟨(B.cell (by exact K_p0.lt)).trans e_p0, (B.cell (by exact K_p1.lt)).trans e_p1⟩)) (fun hS => ?_)
                                          clear hK K
                                          (try simp only [Act.put, List.setIfInBounds_toArray, List.set_cons_zero, List.set_cons_succ])
                                          refine wpAnyH_listed (l' := #[true, false, true, false, false, false, false, false, false, true, false, false, false, false]) (by kernel_rfl) ?_
                                          clear hS
                                          revert H_hb0; revert K_hb0; revert B
                                          generalize (wr.alloc (.cells #[Value.slice none 0 0] 29)) = wn
                                          generalize wr.heap.size = ab_hb0
                                          revert ab_hb0; revert wn
                                          exact keyr4_9.out
                                        refine AllReadyH.cons (o := { dst := some 18, op := Op.alloc 29, type := 0, pos := "exact.go:4252", after := #[], guard := none }) rfl (fun K hK => ?_) ?_
                                        · skip
                                          go_simp
                                          have H_hb1 : w26.heap.size ≤ wr.heap.size := B.size
                                          replace B : Below w26.heap.size w26 (wr.alloc (.cells #[Value.slice none 0 0] 29)) := bel_trans B (bel_alloc wr _)
                                          have K_hb1 := Blk.new' wr 29 (Value.slice none 0 0) wr.heap.size rfl
                                          refine hK.out _ _ (by first | exact ⟨(B.cell (by exact K_p0.lt)).trans e_p0, (B.cell (by exact K_p1.lt)).trans e_p1⟩ | (dsimp only; exact ⟨(B.cell (by exact K_p0.lt)).trans e_p0, (B.cell (by exact K_p1.lt)).trans e_p1⟩)) (fun hS => ?_)
                                          clear hK K
                                          (try simp only [Act.put, List.setIfInBounds_toArray, List.set_cons_zero, List.set_cons_succ])
                                          refine wpAnyH_listed (l' := #[true, false, true, false, false, false, false, false, false, false, true, false, false, false]) (by kernel_rfl) ?_
                                          clear hS
                                          revert H_hb1; revert K_hb1; revert B
                                          generalize (wr.alloc (.cells #[Value.slice none 0 0] 29)) = wn
                                          generalize wr.heap.size = ab_hb1
                                          revert ab_hb1; revert wn
                                          exact keyr4_10.out
                                        exact AllReadyH.nil
                                      case hkr4_1 =>
                                        intro wr A_r4x0 c_r4x0 B O_r4x0
                                        refine wpAnyH_ready (rs := [3, 9, 10]) (by kernel_rfl) (by simp) ?_
                                        refine AllReadyH.cons (o := { dst := some 123, op := Op.call { callee := Callee.value (Operand.func 58), args := #[Operand.tmp 122], argTypes := #[72] }, type := 29, pos := "exact.go:4252", after := #[{ on := 2, ground := Ground.data }, { on := 1, ground := Ground.chain }], guard := none }) rfl (fun K hK => ?_) ?_
                                        · skip
                                          (try go_simp)
                                          go_at_call 58
                                          refine (toEngine_any _ l1 _ (S_1.out.bel B) len1).mono ?_
                                          rintro e wn ⟨r_r4x1, rfl, o_r4x1, b⟩
                                          have O_r4x1 := Lib.hid (o_r4x1.lower B.size)
                                          replace O_r4x0 := Lib.hid (O_r4x0.out.bel b)
                                          replace B := bel_trans B b
                                          obtain ⟨A_r4x1, c_r4x1, rfl, -, -, -⟩ := o_r4x1.strs.open_
                                          clear o_r4x1
                                          clear b
                                          (try dsimp only)
                                          refine hK.out _ _ (by first | exact ⟨(B.cell (by exact K_p0.lt)).trans e_p0, (B.cell (by exact K_p1.lt)).trans e_p1⟩ | (dsimp only; exact ⟨(B.cell (by exact K_p0.lt)).trans e_p0, (B.cell (by exact K_p1.lt)).trans e_p1⟩)) (fun hS => ?_)
                                          clear hK K
                                          (try simp only [Act.put, List.setIfInBounds_toArray, List.set_cons_zero, List.set_cons_succ])
                                          refine wpAnyH_listed (l' := #[true, true, true, true, false, false, false, false, false, false, false, false, false, false]) (by kernel_rfl) ?_
                                          clear hS
                                          revert O_r4x1; revert O_r4x0; revert B
                                          revert c_r4x1; revert A_r4x1; revert c_r4x0; revert A_r4x0; revert wn
                                          exact keyr4_1_3.out
                                        refine AllReadyH.cons (o := { dst := some 17, op := Op.alloc 29, type := 0, pos := "exact.go:4252", after := #[], guard := none }) rfl (fun K hK => ?_) ?_
                                        · skip
                                          go_simp
                                          have H_hb0 : w26.heap.size ≤ wr.heap.size := B.size
                                          replace B : Below w26.heap.size w26 (wr.alloc (.cells #[Value.slice none 0 0] 29)) := bel_trans B (bel_alloc wr _)
                                          have K_hb0 := Blk.new' wr 29 (Value.slice none 0 0) wr.heap.size rfl
                                          have N_hb0_r4x0 : Hid (∀ k, (Value.slice A_r4x0 (l0).length c_r4x0).ownBlock = some k → k ≠ wr.heap.size) := Lib.hid (fun k hk => by have p1 := (O_r4x0.out.lt k hk).2; omega)
                                          replace O_r4x0 := Lib.hid (O_r4x0.out.bel (bel_alloc wr (.cells #[Value.slice none 0 0] 29)))
                                          refine hK.out _ _ (by first | exact ⟨(B.cell (by exact K_p0.lt)).trans e_p0, (B.cell (by exact K_p1.lt)).trans e_p1⟩ | (dsimp only; exact ⟨(B.cell (by exact K_p0.lt)).trans e_p0, (B.cell (by exact K_p1.lt)).trans e_p1⟩)) (fun hS => ?_)
                                          clear hK K
                                          (try simp only [Act.put, List.setIfInBounds_toArray, List.set_cons_zero, List.set_cons_succ])
                                          refine wpAnyH_listed (l' := #[true, true, true, false, false, false, false, false, false, true, false, false, false, false]) (by kernel_rfl) ?_
                                          clear hS
                                          revert N_hb0_r4x0; revert H_hb0; revert K_hb0; revert O_r4x0; revert B
                                          generalize (wr.alloc (.cells #[Value.slice none 0 0] 29)) = wn
                                          generalize wr.heap.size = ab_hb0
                                          revert ab_hb0; revert c_r4x0; revert A_r4x0; revert wn
                                          exact keyr4_1_9.out
                                        refine AllReadyH.cons (o := { dst := some 18, op := Op.alloc 29, type := 0, pos := "exact.go:4252", after := #[], guard := none }) rfl (fun K hK => ?_) ?_
                                        · skip
                                          go_simp
                                          have H_hb1 : w26.heap.size ≤ wr.heap.size := B.size
                                          replace B : Below w26.heap.size w26 (wr.alloc (.cells #[Value.slice none 0 0] 29)) := bel_trans B (bel_alloc wr _)
                                          have K_hb1 := Blk.new' wr 29 (Value.slice none 0 0) wr.heap.size rfl
                                          have N_hb1_r4x0 : Hid (∀ k, (Value.slice A_r4x0 (l0).length c_r4x0).ownBlock = some k → k ≠ wr.heap.size) := Lib.hid (fun k hk => by have p1 := (O_r4x0.out.lt k hk).2; omega)
                                          replace O_r4x0 := Lib.hid (O_r4x0.out.bel (bel_alloc wr (.cells #[Value.slice none 0 0] 29)))
                                          refine hK.out _ _ (by first | exact ⟨(B.cell (by exact K_p0.lt)).trans e_p0, (B.cell (by exact K_p1.lt)).trans e_p1⟩ | (dsimp only; exact ⟨(B.cell (by exact K_p0.lt)).trans e_p0, (B.cell (by exact K_p1.lt)).trans e_p1⟩)) (fun hS => ?_)
                                          clear hK K
                                          (try simp only [Act.put, List.setIfInBounds_toArray, List.set_cons_zero, List.set_cons_succ])
                                          refine wpAnyH_listed (l' := #[true, true, true, false, false, false, false, false, false, false, true, false, false, false]) (by kernel_rfl) ?_
                                          clear hS
                                          revert N_hb1_r4x0; revert H_hb1; revert K_hb1; revert O_r4x0; revert B
                                          generalize (wr.alloc (.cells #[Value.slice none 0 0] 29)) = wn
                                          generalize wr.heap.size = ab_hb1
                                          revert ab_hb1; revert c_r4x0; revert A_r4x0; revert wn
                                          exact keyr4_1_10.out
                                        exact AllReadyH.nil
                                    case hkr4_9 =>
                                      intro wr ab_hb0 B K_hb0 H_hb0
                                      refine wpAnyH_ready (rs := [1, 10]) (by kernel_rfl) (by simp) ?_
                                      refine AllReadyH.cons (o := { dst := some 121, op := Op.call { callee := Callee.value (Operand.func 58), args := #[Operand.tmp 120], argTypes := #[72] }, type := 29, pos := "exact.go:4252", after := #[{ on := 0, ground := Ground.data }], guard := none }) rfl (fun K hK => ?_) ?_
                                      · skip
                                        (try go_simp)
                                        go_at_call 58
                                        refine (toEngine_any _ l0 _ (S_0.out.bel B) len0).mono ?_
                                        rintro e wn ⟨r_r4x0, rfl, o_r4x0, b⟩
                                        have N_hb0_r4x0 : Hid (∀ k, r_r4x0.ownBlock = some k → k ≠ ab_hb0) := Lib.hid (fun k hk => by have p1 := (o_r4x0.lt k hk).1; have p2 := K_hb0.lt; omega)
                                        have O_r4x0 := Lib.hid (o_r4x0.lower B.size)
                                        replace K_hb0 := K_hb0.below b K_hb0.lt
                                        replace B := bel_trans B b
                                        obtain ⟨A_r4x0, c_r4x0, rfl, -, -, -⟩ := o_r4x0.strs.open_
                                        clear o_r4x0
                                        clear b
                                        (try dsimp only)
                                        refine hK.out _ _ (by first | exact ⟨(B.cell (by exact K_p0.lt)).trans e_p0, (B.cell (by exact K_p1.lt)).trans e_p1⟩ | (dsimp only; exact ⟨(B.cell (by exact K_p0.lt)).trans e_p0, (B.cell (by exact K_p1.lt)).trans e_p1⟩)) (fun hS => ?_)
                                        clear hK K
                                        (try simp only [Act.put, List.setIfInBounds_toArray, List.set_cons_zero, List.set_cons_succ])
                                        refine wpAnyH_listed (l' := #[true, true, true, false, false, false, false, false, false, true, false, false, false, false]) (by kernel_rfl) ?_
                                        clear hS
                                        revert N_hb0_r4x0; revert H_hb0; revert K_hb0; revert O_r4x0; revert B
                                        revert ab_hb0; revert c_r4x0; revert A_r4x0; revert wn
                                        exact keyr4_1_9.out
                                      refine AllReadyH.cons (o := { dst := some 18, op := Op.alloc 29, type := 0, pos := "exact.go:4252", after := #[], guard := none }) rfl (fun K hK => ?_) ?_
                                      · skip
                                        go_simp
                                        have H_hb1 : w26.heap.size ≤ wr.heap.size := B.size
                                        replace B : Below w26.heap.size w26 (wr.alloc (.cells #[Value.slice none 0 0] 29)) := bel_trans B (bel_alloc wr _)
                                        have X_r4 : ab_hb0 ≠ wr.heap.size := by have := K_hb0.lt; omega
                                        replace K_hb0 := K_hb0.alloc (.cells #[Value.slice none 0 0] 29)
                                        have K_hb1 := Blk.new' wr 29 (Value.slice none 0 0) wr.heap.size rfl
                                        refine hK.out _ _ (by first | exact ⟨(B.cell (by exact K_p0.lt)).trans e_p0, (B.cell (by exact K_p1.lt)).trans e_p1⟩ | (dsimp only; exact ⟨(B.cell (by exact K_p0.lt)).trans e_p0, (B.cell (by exact K_p1.lt)).trans e_p1⟩)) (fun hS => ?_)
                                        clear hK K
                                        (try simp only [Act.put, List.setIfInBounds_toArray, List.set_cons_zero, List.set_cons_succ])
                                        refine wpAnyH_listed (l' := #[true, false, true, false, false, false, false, false, false, true, true, false, false, false]) (by kernel_rfl) ?_
                                        clear hS
                                        revert X_r4; revert H_hb1; revert K_hb1; revert H_hb0; revert K_hb0; revert B
                                        generalize (wr.alloc (.cells #[Value.slice none 0 0] 29)) = wn
                                        generalize wr.heap.size = ab_hb1
                                        revert ab_hb1; revert ab_hb0; revert wn
                                        exact keyr4_9_10.out
                                      exact AllReadyH.nil
                                  case hkr4_10 =>
                                    intro wr ab_hb1 B K_hb1 H_hb1
                                    refine wpAnyH_ready (rs := [1, 9]) (by kernel_rfl) (by simp) ?_
                                    refine AllReadyH.cons (o := { dst := some 121, op := Op.call { callee := Callee.value (Operand.func 58), args := #[Operand.tmp 120], argTypes := #[72] }, type := 29, pos := "exact.go:4252", after := #[{ on := 0, ground := Ground.data }], guard := none }) rfl (fun K hK => ?_) ?_
                                    · skip
                                      (try go_simp)
                                      go_at_call 58
                                      refine (toEngine_any _ l0 _ (S_0.out.bel B) len0).mono ?_
                                      rintro e wn ⟨r_r4x0, rfl, o_r4x0, b⟩
                                      have N_hb1_r4x0 : Hid (∀ k, r_r4x0.ownBlock = some k → k ≠ ab_hb1) := Lib.hid (fun k hk => by have p1 := (o_r4x0.lt k hk).1; have p2 := K_hb1.lt; omega)
                                      have O_r4x0 := Lib.hid (o_r4x0.lower B.size)
                                      replace K_hb1 := K_hb1.below b K_hb1.lt
                                      replace B := bel_trans B b
                                      obtain ⟨A_r4x0, c_r4x0, rfl, -, -, -⟩ := o_r4x0.strs.open_
                                      clear o_r4x0
                                      clear b
                                      (try dsimp only)
                                      refine hK.out _ _ (by first | exact ⟨(B.cell (by exact K_p0.lt)).trans e_p0, (B.cell (by exact K_p1.lt)).trans e_p1⟩ | (dsimp only; exact ⟨(B.cell (by exact K_p0.lt)).trans e_p0, (B.cell (by exact K_p1.lt)).trans e_p1⟩)) (fun hS => ?_)
                                      clear hK K
                                      (try simp only [Act.put, List.setIfInBounds_toArray, List.set_cons_zero, List.set_cons_succ])
                                      refine wpAnyH_listed (l' := #[true, true, true, false, false, false, false, false, false, false, true, false, false, false]) (by kernel_rfl) ?_
                                      clear hS
                                      revert N_hb1_r4x0; revert H_hb1; revert K_hb1; revert O_r4x0; revert B
                                      revert ab_hb1; revert c_r4x0; revert A_r4x0; revert wn
                                      exact keyr4_1_10.out
                                    refine AllReadyH.cons (o := { dst := some 17, op := Op.alloc 29, type := 0, pos := "exact.go:4252", after := #[], guard := none }) rfl (fun K hK => ?_) ?_
                                    · skip
                                      go_simp
                                      have H_hb0 : w26.heap.size ≤ wr.heap.size := B.size
                                      replace B : Below w26.heap.size w26 (wr.alloc (.cells #[Value.slice none 0 0] 29)) := bel_trans B (bel_alloc wr _)
                                      have X_r4 : wr.heap.size ≠ ab_hb1 := by have := K_hb1.lt; omega
                                      replace K_hb1 := K_hb1.alloc (.cells #[Value.slice none 0 0] 29)
                                      have K_hb0 := Blk.new' wr 29 (Value.slice none 0 0) wr.heap.size rfl
                                      refine hK.out _ _ (by first | exact ⟨(B.cell (by exact K_p0.lt)).trans e_p0, (B.cell (by exact K_p1.lt)).trans e_p1⟩ | (dsimp only; exact ⟨(B.cell (by exact K_p0.lt)).trans e_p0, (B.cell (by exact K_p1.lt)).trans e_p1⟩)) (fun hS => ?_)
                                      clear hK K
                                      (try simp only [Act.put, List.setIfInBounds_toArray, List.set_cons_zero, List.set_cons_succ])
                                      refine wpAnyH_listed (l' := #[true, false, true, false, false, false, false, false, false, true, true, false, false, false]) (by kernel_rfl) ?_
                                      clear hS
                                      revert X_r4; revert H_hb1; revert K_hb1; revert H_hb0; revert K_hb0; revert B
                                      generalize (wr.alloc (.cells #[Value.slice none 0 0] 29)) = wn
                                      generalize wr.heap.size = ab_hb0
                                      revert ab_hb1; revert ab_hb0; revert wn
                                      exact keyr4_9_10.out
                                    exact AllReadyH.nil
                                case hkr4_1_3 =>
                                  intro wr A_r4x0 c_r4x0 A_r4x1 c_r4x1 B O_r4x0 O_r4x1
                                  refine wpAnyH_ready (rs := [4, 9, 10]) (by kernel_rfl) (by simp) ?_
                                  refine AllReadyH.cons (o := { dst := some 124, op := Op.call { callee := Callee.value (Operand.func 59), args := #[Operand.tmp 121, Operand.tmp 123], argTypes := #[29, 29] }, type := 74, pos := "exact.go:4252", after := #[{ on := 1, ground := Ground.data }, { on := 3, ground := Ground.data }, { on := 3, ground := Ground.chain }], guard := none }) rfl (fun K hK => ?_) ?_
                                  · skip
                                    (try go_simp)
                                    go_at_call 59
                                    refine (implCasc_any _ _ l0 l1 _ O_r4x0.out.strs O_r4x1.out.strs).mono ?_
                                    rintro e wn ⟨r_h0, r_h1, rfl, o_h0, o_h1, dxy, b⟩
                                    have D_r4 := Lib.hid dxy
                                    have O_h0 := Lib.hid (o_h0.lower B.size)
                                    have O_h1 := Lib.hid (o_h1.lower B.size)
                                    clear O_r4x0 
                                    clear O_r4x1 
                                    replace B := bel_trans B b
                                    obtain ⟨A_h0, c_h0, rfl, -, -, -⟩ := o_h0.strs.open_
                                    clear o_h0
                                    obtain ⟨A_h1, c_h1, rfl, -, -, -⟩ := o_h1.strs.open_
                                    clear o_h1
                                    clear b dxy
                                    (try dsimp only)
                                    refine hK.out _ _ (by first | exact ⟨(B.cell (by exact K_p0.lt)).trans e_p0, (B.cell (by exact K_p1.lt)).trans e_p1⟩ | (dsimp only; exact ⟨(B.cell (by exact K_p0.lt)).trans e_p0, (B.cell (by exact K_p1.lt)).trans e_p1⟩)) (fun hS => ?_)
                                    clear hK K
                                    (try simp only [Act.put, List.setIfInBounds_toArray, List.set_cons_zero, List.set_cons_succ])
                                    refine wpAnyH_take (i := 5) (oi := { dst := some 119, op := Op.move (Operand.tmp 124), type := 74, pos := "exact.go:4252", after := #[{ on := 4, ground := Ground.data }], guard := none }) (v := ?vr4_3) rfl (by kernel_rfl) (by kernel_rfl) (by kernel_rfl) (fun _ _ _ h => h) (Or.inl ⟨by rfl, ?hyr4_3⟩) hS ?restr4_3
                                    case hyr4_3 => (intro w' hSw; (try dsimp only at hSw); go_simp; all_goals with_reducible rfl)
                                    (try simp only [Act.put, List.setIfInBounds_toArray, List.set_cons_zero, List.set_cons_succ])
                                    refine wpAnyH_take (i := 6) (oi := { dst := some 125, op := Op.extract (Operand.tmp 119) 0, type := 29, pos := "exact.go:4252", after := #[{ on := 5, ground := Ground.data }], guard := none }) (v := ?vr4_4) rfl (by kernel_rfl) (by kernel_rfl) (by kernel_rfl) (fun _ _ _ h => h) (Or.inl ⟨by rfl, ?hyr4_4⟩) hS ?restr4_4
                                    case hyr4_4 => (intro w' hSw; (try dsimp only at hSw); go_simp; all_goals with_reducible rfl)
                                    (try simp only [Act.put, List.setIfInBounds_toArray, List.set_cons_zero, List.set_cons_succ])
                                    refine wpAnyH_take (i := 7) (oi := { dst := some 126, op := Op.extract (Operand.tmp 119) 1, type := 29, pos := "exact.go:4252", after := #[{ on := 5, ground := Ground.data }, { on := 11, ground := Ground.gcOnly Departure.lateStores }], guard := none }) (v := ?vr4_5) rfl (by kernel_rfl) (by kernel_rfl) (by kernel_rfl) (fun _ _ _ h => h) (Or.inl ⟨by rfl, ?hyr4_5⟩) hS ?restr4_5
                                    case hyr4_5 => (intro w' hSw; (try dsimp only at hSw); go_simp; all_goals with_reducible rfl)
                                    (try simp only [Act.put, List.setIfInBounds_toArray, List.set_cons_zero, List.set_cons_succ])
                                    refine wpAnyH_take (i := 8) (oi := { dst := some 127, op := Op.extract (Operand.tmp 119) 2, type := 4, pos := "exact.go:4252", after := #[{ on := 5, ground := Ground.data }, { on := 12, ground := Ground.gcOnly Departure.lateStores }], guard := none }) (v := ?vr4_6) rfl (by kernel_rfl) (by kernel_rfl) (by kernel_rfl) (fun _ _ _ h => h) (Or.inl ⟨by rfl, ?hyr4_6⟩) hS ?restr4_6
                                    case hyr4_6 => (intro w' hSw; (try dsimp only at hSw); go_simp; all_goals with_reducible rfl)
                                    (try simp only [Act.put, List.setIfInBounds_toArray, List.set_cons_zero, List.set_cons_succ])
                                    refine wpAnyH_listed (l' := #[true, true, true, true, true, true, true, true, true, false, false, false, false, false]) (by kernel_rfl) ?_
                                    clear hS
                                    revert D_r4; revert O_h1; revert O_h0; revert B
                                    revert c_h1; revert A_h1; revert c_h0; revert A_h0; revert c_r4x1; revert A_r4x1; revert c_r4x0; revert A_r4x0; revert wn
                                    exact keyr4_1_3_4.out
                                  refine AllReadyH.cons (o := { dst := some 17, op := Op.alloc 29, type := 0, pos := "exact.go:4252", after := #[], guard := none }) rfl (fun K hK => ?_) ?_
                                  · skip
                                    go_simp
                                    have H_hb0 : w26.heap.size ≤ wr.heap.size := B.size
                                    replace B : Below w26.heap.size w26 (wr.alloc (.cells #[Value.slice none 0 0] 29)) := bel_trans B (bel_alloc wr _)
                                    have K_hb0 := Blk.new' wr 29 (Value.slice none 0 0) wr.heap.size rfl
                                    have N_hb0_r4x0 : Hid (∀ k, (Value.slice A_r4x0 (l0).length c_r4x0).ownBlock = some k → k ≠ wr.heap.size) := Lib.hid (fun k hk => by have p1 := (O_r4x0.out.lt k hk).2; omega)
                                    replace O_r4x0 := Lib.hid (O_r4x0.out.bel (bel_alloc wr (.cells #[Value.slice none 0 0] 29)))
                                    have N_hb0_r4x1 : Hid (∀ k, (Value.slice A_r4x1 (l1).length c_r4x1).ownBlock = some k → k ≠ wr.heap.size) := Lib.hid (fun k hk => by have p1 := (O_r4x1.out.lt k hk).2; omega)
                                    replace O_r4x1 := Lib.hid (O_r4x1.out.bel (bel_alloc wr (.cells #[Value.slice none 0 0] 29)))
                                    refine hK.out _ _ (by first | exact ⟨(B.cell (by exact K_p0.lt)).trans e_p0, (B.cell (by exact K_p1.lt)).trans e_p1⟩ | (dsimp only; exact ⟨(B.cell (by exact K_p0.lt)).trans e_p0, (B.cell (by exact K_p1.lt)).trans e_p1⟩)) (fun hS => ?_)
                                    clear hK K
                                    (try simp only [Act.put, List.setIfInBounds_toArray, List.set_cons_zero, List.set_cons_succ])
                                    refine wpAnyH_listed (l' := #[true, true, true, true, false, false, false, false, false, true, false, false, false, false]) (by kernel_rfl) ?_
                                    clear hS
                                    revert N_hb0_r4x1; revert N_hb0_r4x0; revert H_hb0; revert K_hb0; revert O_r4x1; revert O_r4x0; revert B
                                    generalize (wr.alloc (.cells #[Value.slice none 0 0] 29)) = wn
                                    generalize wr.heap.size = ab_hb0
                                    revert ab_hb0; revert c_r4x1; revert A_r4x1; revert c_r4x0; revert A_r4x0; revert wn
                                    exact keyr4_1_3_9.out
                                  refine AllReadyH.cons (o := { dst := some 18, op := Op.alloc 29, type := 0, pos := "exact.go:4252", after := #[], guard := none }) rfl (fun K hK => ?_) ?_
                                  · skip
                                    go_simp
                                    have H_hb1 : w26.heap.size ≤ wr.heap.size := B.size
                                    replace B : Below w26.heap.size w26 (wr.alloc (.cells #[Value.slice none 0 0] 29)) := bel_trans B (bel_alloc wr _)
                                    have K_hb1 := Blk.new' wr 29 (Value.slice none 0 0) wr.heap.size rfl
                                    have N_hb1_r4x0 : Hid (∀ k, (Value.slice A_r4x0 (l0).length c_r4x0).ownBlock = some k → k ≠ wr.heap.size) := Lib.hid (fun k hk => by have p1 := (O_r4x0.out.lt k hk).2; omega)
                                    replace O_r4x0 := Lib.hid (O_r4x0.out.bel (bel_alloc wr (.cells #[Value.slice none 0 0] 29)))
                                    have N_hb1_r4x1 : Hid (∀ k, (Value.slice A_r4x1 (l1).length c_r4x1).ownBlock = some k → k ≠ wr.heap.size) := Lib.hid (fun k hk => by have p1 := (O_r4x1.out.lt k hk).2; omega)
                                    replace O_r4x1 := Lib.hid (O_r4x1.out.bel (bel_alloc wr (.cells #[Value.slice none 0 0] 29)))
                                    refine hK.out _ _ (by first | exact ⟨(B.cell (by exact K_p0.lt)).trans e_p0, (B.cell (by exact K_p1.lt)).trans e_p1⟩ | (dsimp only; exact ⟨(B.cell (by exact K_p0.lt)).trans e_p0, (B.cell (by exact K_p1.lt)).trans e_p1⟩)) (fun hS => ?_)
                                    clear hK K
                                    (try simp only [Act.put, List.setIfInBounds_toArray, List.set_cons_zero, List.set_cons_succ])
                                    refine wpAnyH_listed (l' := #[true, true, true, true, false, false, false, false, false, false, true, false, false, false]) (by kernel_rfl) ?_
                                    clear hS
                                    revert N_hb1_r4x1; revert N_hb1_r4x0; revert H_hb1; revert K_hb1; revert O_r4x1; revert O_r4x0; revert B
                                    generalize (wr.alloc (.cells #[Value.slice none 0 0] 29)) = wn
                                    generalize wr.heap.size = ab_hb1
                                    revert ab_hb1; revert c_r4x1; revert A_r4x1; revert c_r4x0; revert A_r4x0; revert wn
                                    exact keyr4_1_3_10.out
                                  exact AllReadyH.nil
                              case hkr4_1_9 =>
                                intro wr A_r4x0 c_r4x0 ab_hb0 B O_r4x0 K_hb0 H_hb0 N_hb0_r4x0
                                refine wpAnyH_ready (rs := [3, 10]) (by kernel_rfl) (by simp) ?_
                                refine AllReadyH.cons (o := { dst := some 123, op := Op.call { callee := Callee.value (Operand.func 58), args := #[Operand.tmp 122], argTypes := #[72] }, type := 29, pos := "exact.go:4252", after := #[{ on := 2, ground := Ground.data }, { on := 1, ground := Ground.chain }], guard := none }) rfl (fun K hK => ?_) ?_
                                · skip
                                  (try go_simp)
                                  go_at_call 58
                                  refine (toEngine_any _ l1 _ (S_1.out.bel B) len1).mono ?_
                                  rintro e wn ⟨r_r4x1, rfl, o_r4x1, b⟩
                                  have N_hb0_r4x1 : Hid (∀ k, r_r4x1.ownBlock = some k → k ≠ ab_hb0) := Lib.hid (fun k hk => by have p1 := (o_r4x1.lt k hk).1; have p2 := K_hb0.lt; omega)
                                  have O_r4x1 := Lib.hid (o_r4x1.lower B.size)
                                  replace K_hb0 := K_hb0.below b K_hb0.lt
                                  replace O_r4x0 := Lib.hid (O_r4x0.out.bel b)
                                  replace B := bel_trans B b
                                  obtain ⟨A_r4x1, c_r4x1, rfl, -, -, -⟩ := o_r4x1.strs.open_
                                  clear o_r4x1
                                  clear b
                                  (try dsimp only)
                                  refine hK.out _ _ (by first | exact ⟨(B.cell (by exact K_p0.lt)).trans e_p0, (B.cell (by exact K_p1.lt)).trans e_p1⟩ | (dsimp only; exact ⟨(B.cell (by exact K_p0.lt)).trans e_p0, (B.cell (by exact K_p1.lt)).trans e_p1⟩)) (fun hS => ?_)
                                  clear hK K
                                  (try simp only [Act.put, List.setIfInBounds_toArray, List.set_cons_zero, List.set_cons_succ])
                                  refine wpAnyH_listed (l' := #[true, true, true, true, false, false, false, false, false, true, false, false, false, false]) (by kernel_rfl) ?_
                                  clear hS
                                  revert N_hb0_r4x1; revert N_hb0_r4x0; revert H_hb0; revert K_hb0; revert O_r4x1; revert O_r4x0; revert B
                                  revert ab_hb0; revert c_r4x1; revert A_r4x1; revert c_r4x0; revert A_r4x0; revert wn
                                  exact keyr4_1_3_9.out
                                refine AllReadyH.cons (o := { dst := some 18, op := Op.alloc 29, type := 0, pos := "exact.go:4252", after := #[], guard := none }) rfl (fun K hK => ?_) ?_
                                · skip
                                  go_simp
                                  have H_hb1 : w26.heap.size ≤ wr.heap.size := B.size
                                  replace B : Below w26.heap.size w26 (wr.alloc (.cells #[Value.slice none 0 0] 29)) := bel_trans B (bel_alloc wr _)
                                  have X_r4 : ab_hb0 ≠ wr.heap.size := by have := K_hb0.lt; omega
                                  replace K_hb0 := K_hb0.alloc (.cells #[Value.slice none 0 0] 29)
                                  have K_hb1 := Blk.new' wr 29 (Value.slice none 0 0) wr.heap.size rfl
                                  have N_hb1_r4x0 : Hid (∀ k, (Value.slice A_r4x0 (l0).length c_r4x0).ownBlock = some k → k ≠ wr.heap.size) := Lib.hid (fun k hk => by have p1 := (O_r4x0.out.lt k hk).2; omega)
                                  replace O_r4x0 := Lib.hid (O_r4x0.out.bel (bel_alloc wr (.cells #[Value.slice none 0 0] 29)))
                                  refine hK.out _ _ (by first | exact ⟨(B.cell (by exact K_p0.lt)).trans e_p0, (B.cell (by exact K_p1.lt)).trans e_p1⟩ | (dsimp only; exact ⟨(B.cell (by exact K_p0.lt)).trans e_p0, (B.cell (by exact K_p1.lt)).trans e_p1⟩)) (fun hS => ?_)
                                  clear hK K
                                  (try simp only [Act.put, List.setIfInBounds_toArray, List.set_cons_zero, List.set_cons_succ])
                                  refine wpAnyH_listed (l' := #[true, true, true, false, false, false, false, false, false, true, true, false, false, false]) (by kernel_rfl) ?_
                                  clear hS
                                  revert N_hb1_r4x0; revert N_hb0_r4x0; revert X_r4; revert H_hb1; revert K_hb1; revert H_hb0; revert K_hb0; revert O_r4x0; revert B
                                  generalize (wr.alloc (.cells #[Value.slice none 0 0] 29)) = wn
                                  generalize wr.heap.size = ab_hb1
                                  revert ab_hb1; revert ab_hb0; revert c_r4x0; revert A_r4x0; revert wn
                                  exact keyr4_1_9_10.out
                                exact AllReadyH.nil
                            case hkr4_1_10 =>
                              intro wr A_r4x0 c_r4x0 ab_hb1 B O_r4x0 K_hb1 H_hb1 N_hb1_r4x0
                              refine wpAnyH_ready (rs := [3, 9]) (by kernel_rfl) (by simp) ?_
                              refine AllReadyH.cons (o := { dst := some 123, op := Op.call { callee := Callee.value (Operand.func 58), args := #[Operand.tmp 122], argTypes := #[72] }, type := 29, pos := "exact.go:4252", after := #[{ on := 2, ground := Ground.data }, { on := 1, ground := Ground.chain }], guard := none }) rfl (fun K hK => ?_) ?_
                              · skip
                                (try go_simp)
                                go_at_call 58
                                refine (toEngine_any _ l1 _ (S_1.out.bel B) len1).mono ?_
                                rintro e wn ⟨r_r4x1, rfl, o_r4x1, b⟩
                                have N_hb1_r4x1 : Hid (∀ k, r_r4x1.ownBlock = some k → k ≠ ab_hb1) := Lib.hid (fun k hk => by have p1 := (o_r4x1.lt k hk).1; have p2 := K_hb1.lt; omega)
                                have O_r4x1 := Lib.hid (o_r4x1.lower B.size)
                                replace K_hb1 := K_hb1.below b K_hb1.lt
                                replace O_r4x0 := Lib.hid (O_r4x0.out.bel b)
                                replace B := bel_trans B b
                                obtain ⟨A_r4x1, c_r4x1, rfl, -, -, -⟩ := o_r4x1.strs.open_
                                clear o_r4x1
                                clear b
                                (try dsimp only)
                                refine hK.out _ _ (by first | exact ⟨(B.cell (by exact K_p0.lt)).trans e_p0, (B.cell (by exact K_p1.lt)).trans e_p1⟩ | (dsimp only; exact ⟨(B.cell (by exact K_p0.lt)).trans e_p0, (B.cell (by exact K_p1.lt)).trans e_p1⟩)) (fun hS => ?_)
                                clear hK K
                                (try simp only [Act.put, List.setIfInBounds_toArray, List.set_cons_zero, List.set_cons_succ])
                                refine wpAnyH_listed (l' := #[true, true, true, true, false, false, false, false, false, false, true, false, false, false]) (by kernel_rfl) ?_
                                clear hS
                                revert N_hb1_r4x1; revert N_hb1_r4x0; revert H_hb1; revert K_hb1; revert O_r4x1; revert O_r4x0; revert B
                                revert ab_hb1; revert c_r4x1; revert A_r4x1; revert c_r4x0; revert A_r4x0; revert wn
                                exact keyr4_1_3_10.out
                              refine AllReadyH.cons (o := { dst := some 17, op := Op.alloc 29, type := 0, pos := "exact.go:4252", after := #[], guard := none }) rfl (fun K hK => ?_) ?_
                              · skip
                                go_simp
                                have H_hb0 : w26.heap.size ≤ wr.heap.size := B.size
                                replace B : Below w26.heap.size w26 (wr.alloc (.cells #[Value.slice none 0 0] 29)) := bel_trans B (bel_alloc wr _)
                                have X_r4 : wr.heap.size ≠ ab_hb1 := by have := K_hb1.lt; omega
                                replace K_hb1 := K_hb1.alloc (.cells #[Value.slice none 0 0] 29)
                                have K_hb0 := Blk.new' wr 29 (Value.slice none 0 0) wr.heap.size rfl
                                have N_hb0_r4x0 : Hid (∀ k, (Value.slice A_r4x0 (l0).length c_r4x0).ownBlock = some k → k ≠ wr.heap.size) := Lib.hid (fun k hk => by have p1 := (O_r4x0.out.lt k hk).2; omega)
                                replace O_r4x0 := Lib.hid (O_r4x0.out.bel (bel_alloc wr (.cells #[Value.slice none 0 0] 29)))
                                refine hK.out _ _ (by first | exact ⟨(B.cell (by exact K_p0.lt)).trans e_p0, (B.cell (by exact K_p1.lt)).trans e_p1⟩ | (dsimp only; exact ⟨(B.cell (by exact K_p0.lt)).trans e_p0, (B.cell (by exact K_p1.lt)).trans e_p1⟩)) (fun hS => ?_)
                                clear hK K
                                (try simp only [Act.put, List.setIfInBounds_toArray, List.set_cons_zero, List.set_cons_succ])
                                refine wpAnyH_listed (l' := #[true, true, true, false, false, false, false, false, false, true, true, false, false, false]) (by kernel_rfl) ?_
                                clear hS
                                revert N_hb1_r4x0; revert N_hb0_r4x0; revert X_r4; revert H_hb1; revert K_hb1; revert H_hb0; revert K_hb0; revert O_r4x0; revert B
                                generalize (wr.alloc (.cells #[Value.slice none 0 0] 29)) = wn
                                generalize wr.heap.size = ab_hb0
                                revert ab_hb1; revert ab_hb0; revert c_r4x0; revert A_r4x0; revert wn
                                exact keyr4_1_9_10.out
                              exact AllReadyH.nil
                          case hkr4_9_10 =>
                            intro wr ab_hb0 ab_hb1 B K_hb0 H_hb0 K_hb1 H_hb1 X_r4
                            refine wpAnyH_ready (rs := [1]) (by kernel_rfl) (by simp) ?_
                            refine AllReadyH.cons (o := { dst := some 121, op := Op.call { callee := Callee.value (Operand.func 58), args := #[Operand.tmp 120], argTypes := #[72] }, type := 29, pos := "exact.go:4252", after := #[{ on := 0, ground := Ground.data }], guard := none }) rfl (fun K hK => ?_) ?_
                            · skip
                              (try go_simp)
                              go_at_call 58
                              refine (toEngine_any _ l0 _ (S_0.out.bel B) len0).mono ?_
                              rintro e wn ⟨r_r4x0, rfl, o_r4x0, b⟩
                              have N_hb0_r4x0 : Hid (∀ k, r_r4x0.ownBlock = some k → k ≠ ab_hb0) := Lib.hid (fun k hk => by have p1 := (o_r4x0.lt k hk).1; have p2 := K_hb0.lt; omega)
                              have N_hb1_r4x0 : Hid (∀ k, r_r4x0.ownBlock = some k → k ≠ ab_hb1) := Lib.hid (fun k hk => by have p1 := (o_r4x0.lt k hk).1; have p2 := K_hb1.lt; omega)
                              have O_r4x0 := Lib.hid (o_r4x0.lower B.size)
                              replace K_hb0 := K_hb0.below b K_hb0.lt
                              replace K_hb1 := K_hb1.below b K_hb1.lt
                              replace B := bel_trans B b
                              obtain ⟨A_r4x0, c_r4x0, rfl, -, -, -⟩ := o_r4x0.strs.open_
                              clear o_r4x0
                              clear b
                              (try dsimp only)
                              refine hK.out _ _ (by first | exact ⟨(B.cell (by exact K_p0.lt)).trans e_p0, (B.cell (by exact K_p1.lt)).trans e_p1⟩ | (dsimp only; exact ⟨(B.cell (by exact K_p0.lt)).trans e_p0, (B.cell (by exact K_p1.lt)).trans e_p1⟩)) (fun hS => ?_)
                              clear hK K
                              (try simp only [Act.put, List.setIfInBounds_toArray, List.set_cons_zero, List.set_cons_succ])
                              refine wpAnyH_listed (l' := #[true, true, true, false, false, false, false, false, false, true, true, false, false, false]) (by kernel_rfl) ?_
                              clear hS
                              revert N_hb1_r4x0; revert N_hb0_r4x0; revert X_r4; revert H_hb1; revert K_hb1; revert H_hb0; revert K_hb0; revert O_r4x0; revert B
                              revert ab_hb1; revert ab_hb0; revert c_r4x0; revert A_r4x0; revert wn
                              exact keyr4_1_9_10.out
                            exact AllReadyH.nil
                        case hkr4_1_3_4 =>
                          intro wr A_r4x0 c_r4x0 A_r4x1 c_r4x1 A_h0 c_h0 A_h1 c_h1 B O_h0 O_h1 D_r4
                          refine wpAnyH_ready (rs := [9, 10]) (by kernel_rfl) (by simp) ?_
                          refine AllReadyH.cons (o := { dst := some 17, op := Op.alloc 29, type := 0, pos := "exact.go:4252", after := #[], guard := none }) rfl (fun K hK => ?_) ?_
                          · skip
                            go_simp
                            have H_hb0 : w26.heap.size ≤ wr.heap.size := B.size
                            replace B : Below w26.heap.size w26 (wr.alloc (.cells #[Value.slice none 0 0] 29)) := bel_trans B (bel_alloc wr _)
                            have K_hb0 := Blk.new' wr 29 (Value.slice none 0 0) wr.heap.size rfl
                            have N_hb0_h0 : Hid (∀ k, (Value.slice A_h0 (cA l0 l1).length c_h0).ownBlock = some k → k ≠ wr.heap.size) := Lib.hid (fun k hk => by have p1 := (O_h0.out.lt k hk).2; omega)
                            replace O_h0 := Lib.hid (O_h0.out.bel (bel_alloc wr (.cells #[Value.slice none 0 0] 29)))
                            have N_hb0_h1 : Hid (∀ k, (Value.slice A_h1 (cB l0 l1).length c_h1).ownBlock = some k → k ≠ wr.heap.size) := Lib.hid (fun k hk => by have p1 := (O_h1.out.lt k hk).2; omega)
                            replace O_h1 := Lib.hid (O_h1.out.bel (bel_alloc wr (.cells #[Value.slice none 0 0] 29)))
                            refine hK.out _ _ (by first | exact ⟨(B.cell (by exact K_p0.lt)).trans e_p0, (B.cell (by exact K_p1.lt)).trans e_p1⟩ | (dsimp only; exact ⟨(B.cell (by exact K_p0.lt)).trans e_p0, (B.cell (by exact K_p1.lt)).trans e_p1⟩)) (fun hS => ?_)
                            clear hK K
                            (try simp only [Act.put, List.setIfInBounds_toArray, List.set_cons_zero, List.set_cons_succ])
                            refine wpAnyH_listed (l' := #[true, true, true, true, true, true, true, true, true, true, false, false, false, false]) (by kernel_rfl) ?_
                            clear hS
                            revert N_hb0_h1; revert N_hb0_h0; revert H_hb0; revert K_hb0; revert D_r4; revert O_h1; revert O_h0; revert B
                            generalize (wr.alloc (.cells #[Value.slice none 0 0] 29)) = wn
                            generalize wr.heap.size = ab_hb0
                            revert ab_hb0; revert c_h1; revert A_h1; revert c_h0; revert A_h0; revert c_r4x1; revert A_r4x1; revert c_r4x0; revert A_r4x0; revert wn
                            exact keyr4_1_3_4_9.out
                          refine AllReadyH.cons (o := { dst := some 18, op := Op.alloc 29, type := 0, pos := "exact.go:4252", after := #[], guard := none }) rfl (fun K hK => ?_) ?_
                          · skip
                            go_simp
                            have H_hb1 : w26.heap.size ≤ wr.heap.size := B.size
                            replace B : Below w26.heap.size w26 (wr.alloc (.cells #[Value.slice none 0 0] 29)) := bel_trans B (bel_alloc wr _)
                            have K_hb1 := Blk.new' wr 29 (Value.slice none 0 0) wr.heap.size rfl
                            have N_hb1_h0 : Hid (∀ k, (Value.slice A_h0 (cA l0 l1).length c_h0).ownBlock = some k → k ≠ wr.heap.size) := Lib.hid (fun k hk => by have p1 := (O_h0.out.lt k hk).2; omega)
                            replace O_h0 := Lib.hid (O_h0.out.bel (bel_alloc wr (.cells #[Value.slice none 0 0] 29)))
                            have N_hb1_h1 : Hid (∀ k, (Value.slice A_h1 (cB l0 l1).length c_h1).ownBlock = some k → k ≠ wr.heap.size) := Lib.hid (fun k hk => by have p1 := (O_h1.out.lt k hk).2; omega)
                            replace O_h1 := Lib.hid (O_h1.out.bel (bel_alloc wr (.cells #[Value.slice none 0 0] 29)))
                            refine hK.out _ _ (by first | exact ⟨(B.cell (by exact K_p0.lt)).trans e_p0, (B.cell (by exact K_p1.lt)).trans e_p1⟩ | (dsimp only; exact ⟨(B.cell (by exact K_p0.lt)).trans e_p0, (B.cell (by exact K_p1.lt)).trans e_p1⟩)) (fun hS => ?_)
                            clear hK K
                            (try simp only [Act.put, List.setIfInBounds_toArray, List.set_cons_zero, List.set_cons_succ])
                            refine wpAnyH_listed (l' := #[true, true, true, true, true, true, true, true, true, false, true, false, false, false]) (by kernel_rfl) ?_
                            clear hS
                            revert N_hb1_h1; revert N_hb1_h0; revert H_hb1; revert K_hb1; revert D_r4; revert O_h1; revert O_h0; revert B
                            generalize (wr.alloc (.cells #[Value.slice none 0 0] 29)) = wn
                            generalize wr.heap.size = ab_hb1
                            revert ab_hb1; revert c_h1; revert A_h1; revert c_h0; revert A_h0; revert c_r4x1; revert A_r4x1; revert c_r4x0; revert A_r4x0; revert wn
                            exact keyr4_1_3_4_10.out
                          exact AllReadyH.nil
                      case hkr4_1_3_9 =>
                        intro wr A_r4x0 c_r4x0 A_r4x1 c_r4x1 ab_hb0 B O_r4x0 O_r4x1 K_hb0 H_hb0 N_hb0_r4x0 N_hb0_r4x1
                        refine wpAnyH_ready (rs := [4, 10]) (by kernel_rfl) (by simp) ?_
                        refine AllReadyH.cons (o := { dst := some 124, op := Op.call { callee := Callee.value (Operand.func 59), args := #[Operand.tmp 121, Operand.tmp 123], argTypes := #[29, 29] }, type := 74, pos := "exact.go:4252", after := #[{ on := 1, ground := Ground.data }, { on := 3, ground := Ground.data }, { on := 3, ground := Ground.chain }], guard := none }) rfl (fun K hK => ?_) ?_
                        · skip
                          (try go_simp)
                          go_at_call 59
                          refine (implCasc_any _ _ l0 l1 _ O_r4x0.out.strs O_r4x1.out.strs).mono ?_
                          rintro e wn ⟨r_h0, r_h1, rfl, o_h0, o_h1, dxy, b⟩
                          have N_hb0_h0 : Hid (∀ k, r_h0.ownBlock = some k → k ≠ ab_hb0) := Lib.hid (fun k hk => by have p1 := (o_h0.lt k hk).1; have p2 := K_hb0.lt; omega)
                          have N_hb0_h1 : Hid (∀ k, r_h1.ownBlock = some k → k ≠ ab_hb0) := Lib.hid (fun k hk => by have p1 := (o_h1.lt k hk).1; have p2 := K_hb0.lt; omega)
                          have D_r4 := Lib.hid dxy
                          have O_h0 := Lib.hid (o_h0.lower B.size)
                          have O_h1 := Lib.hid (o_h1.lower B.size)
                          replace K_hb0 := K_hb0.below b K_hb0.lt
                          clear O_r4x0 N_hb0_r4x0
                          clear O_r4x1 N_hb0_r4x1
                          replace B := bel_trans B b
                          obtain ⟨A_h0, c_h0, rfl, -, -, -⟩ := o_h0.strs.open_
                          clear o_h0
                          obtain ⟨A_h1, c_h1, rfl, -, -, -⟩ := o_h1.strs.open_
                          clear o_h1
                          clear b dxy
                          (try dsimp only)
                          refine hK.out _ _ (by first | exact ⟨(B.cell (by exact K_p0.lt)).trans e_p0, (B.cell (by exact K_p1.lt)).trans e_p1⟩ | (dsimp only; exact ⟨(B.cell (by exact K_p0.lt)).trans e_p0, (B.cell (by exact K_p1.lt)).trans e_p1⟩)) (fun hS => ?_)
                          clear hK K
                          (try simp only [Act.put, List.setIfInBounds_toArray, List.set_cons_zero, List.set_cons_succ])
                          refine wpAnyH_take (i := 5) (oi := { dst := some 119, op := Op.move (Operand.tmp 124), type := 74, pos := "exact.go:4252", after := #[{ on := 4, ground := Ground.data }], guard := none }) (v := ?vr4_7) rfl (by kernel_rfl) (by kernel_rfl) (by kernel_rfl) (fun _ _ _ h => h) (Or.inl ⟨by rfl, ?hyr4_7⟩) hS ?restr4_7
                          case hyr4_7 => (intro w' hSw; (try dsimp only at hSw); go_simp; all_goals with_reducible rfl)
                          (try simp only [Act.put, List.setIfInBounds_toArray, List.set_cons_zero, List.set_cons_succ])
                          refine wpAnyH_take (i := 6) (oi := { dst := some 125, op := Op.extract (Operand.tmp 119) 0, type := 29, pos := "exact.go:4252", after := #[{ on := 5, ground := Ground.data }], guard := none }) (v := ?vr4_8) rfl (by kernel_rfl) (by kernel_rfl) (by kernel_rfl) (fun _ _ _ h => h) (Or.inl ⟨by rfl, ?hyr4_8⟩) hS ?restr4_8
                          case hyr4_8 => (intro w' hSw; (try dsimp only at hSw); go_simp; all_goals with_reducible rfl)
                          (try simp only [Act.put, List.setIfInBounds_toArray, List.set_cons_zero, List.set_cons_succ])
                          refine wpAnyH_take (i := 7) (oi := { dst := some 126, op := Op.extract (Operand.tmp 119) 1, type := 29, pos := "exact.go:4252", after := #[{ on := 5, ground := Ground.data }, { on := 11, ground := Ground.gcOnly Departure.lateStores }], guard := none }) (v := ?vr4_9) rfl (by kernel_rfl) (by kernel_rfl) (by kernel_rfl) (fun _ _ _ h => h) (Or.inl ⟨by rfl, ?hyr4_9⟩) hS ?restr4_9
                          case hyr4_9 => (intro w' hSw; (try dsimp only at hSw); go_simp; all_goals with_reducible rfl)
                          (try simp only [Act.put, List.setIfInBounds_toArray, List.set_cons_zero, List.set_cons_succ])
                          refine wpAnyH_take (i := 8) (oi := { dst := some 127, op := Op.extract (Operand.tmp 119) 2, type := 4, pos := "exact.go:4252", after := #[{ on := 5, ground := Ground.data }, { on := 12, ground := Ground.gcOnly Departure.lateStores }], guard := none }) (v := ?vr4_10) rfl (by kernel_rfl) (by kernel_rfl) (by kernel_rfl) (fun _ _ _ h => h) (Or.inl ⟨by rfl, ?hyr4_10⟩) hS ?restr4_10
                          case hyr4_10 => (intro w' hSw; (try dsimp only at hSw); go_simp; all_goals with_reducible rfl)
                          (try simp only [Act.put, List.setIfInBounds_toArray, List.set_cons_zero, List.set_cons_succ])
                          refine wpAnyH_listed (l' := #[true, true, true, true, true, true, true, true, true, true, false, false, false, false]) (by kernel_rfl) ?_
                          clear hS
                          revert N_hb0_h1; revert N_hb0_h0; revert H_hb0; revert K_hb0; revert D_r4; revert O_h1; revert O_h0; revert B
                          revert ab_hb0; revert c_h1; revert A_h1; revert c_h0; revert A_h0; revert c_r4x1; revert A_r4x1; revert c_r4x0; revert A_r4x0; revert wn
                          exact keyr4_1_3_4_9.out
                        refine AllReadyH.cons (o := { dst := some 18, op := Op.alloc 29, type := 0, pos := "exact.go:4252", after := #[], guard := none }) rfl (fun K hK => ?_) ?_
                        · skip
                          go_simp
                          have H_hb1 : w26.heap.size ≤ wr.heap.size := B.size
                          replace B : Below w26.heap.size w26 (wr.alloc (.cells #[Value.slice none 0 0] 29)) := bel_trans B (bel_alloc wr _)
                          have X_r4 : ab_hb0 ≠ wr.heap.size := by have := K_hb0.lt; omega
                          replace K_hb0 := K_hb0.alloc (.cells #[Value.slice none 0 0] 29)
                          have K_hb1 := Blk.new' wr 29 (Value.slice none 0 0) wr.heap.size rfl
                          have N_hb1_r4x0 : Hid (∀ k, (Value.slice A_r4x0 (l0).length c_r4x0).ownBlock = some k → k ≠ wr.heap.size) := Lib.hid (fun k hk => by have p1 := (O_r4x0.out.lt k hk).2; omega)
                          replace O_r4x0 := Lib.hid (O_r4x0.out.bel (bel_alloc wr (.cells #[Value.slice none 0 0] 29)))
                          have N_hb1_r4x1 : Hid (∀ k, (Value.slice A_r4x1 (l1).length c_r4x1).ownBlock = some k → k ≠ wr.heap.size) := Lib.hid (fun k hk => by have p1 := (O_r4x1.out.lt k hk).2; omega)
                          replace O_r4x1 := Lib.hid (O_r4x1.out.bel (bel_alloc wr (.cells #[Value.slice none 0 0] 29)))
                          refine hK.out _ _ (by first | exact ⟨(B.cell (by exact K_p0.lt)).trans e_p0, (B.cell (by exact K_p1.lt)).trans e_p1⟩ | (dsimp only; exact ⟨(B.cell (by exact K_p0.lt)).trans e_p0, (B.cell (by exact K_p1.lt)).trans e_p1⟩)) (fun hS => ?_)
                          clear hK K
                          (try simp only [Act.put, List.setIfInBounds_toArray, List.set_cons_zero, List.set_cons_succ])
                          refine wpAnyH_listed (l' := #[true, true, true, true, false, false, false, false, false, true, true, false, false, false]) (by kernel_rfl) ?_
                          clear hS
                          revert N_hb1_r4x1; revert N_hb1_r4x0; revert N_hb0_r4x1; revert N_hb0_r4x0; revert X_r4; revert H_hb1; revert K_hb1; revert H_hb0; revert K_hb0; revert O_r4x1; revert O_r4x0; revert B
                          generalize (wr.alloc (.cells #[Value.slice none 0 0] 29)) = wn
                          generalize wr.heap.size = ab_hb1
                          revert ab_hb1; revert ab_hb0; revert c_r4x1; revert A_r4x1; revert c_r4x0; revert A_r4x0; revert wn
                          exact keyr4_1_3_9_10.out
                        exact AllReadyH.nil
                    case hkr4_1_3_10 =>
                      intro wr A_r4x0 c_r4x0 A_r4x1 c_r4x1 ab_hb1 B O_r4x0 O_r4x1 K_hb1 H_hb1 N_hb1_r4x0 N_hb1_r4x1
                      refine wpAnyH_ready (rs := [4, 9]) (by kernel_rfl) (by simp) ?_
                      refine AllReadyH.cons (o := { dst := some 124, op := Op.call { callee := Callee.value (Operand.func 59), args := #[Operand.tmp 121, Operand.tmp 123], argTypes := #[29, 29] }, type := 74, pos := "exact.go:4252", after := #[{ on := 1, ground := Ground.data }, { on := 3, ground := Ground.data }, { on := 3, ground := Ground.chain }], guard := none }) rfl (fun K hK => ?_) ?_
                      · skip
                        (try go_simp)
                        go_at_call 59
                        refine (implCasc_any _ _ l0 l1 _ O_r4x0.out.strs O_r4x1.out.strs).mono ?_
                        rintro e wn ⟨r_h0, r_h1, rfl, o_h0, o_h1, dxy, b⟩
                        have N_hb1_h0 : Hid (∀ k, r_h0.ownBlock = some k → k ≠ ab_hb1) := Lib.hid (fun k hk => by have p1 := (o_h0.lt k hk).1; have p2 := K_hb1.lt; omega)
                        have N_hb1_h1 : Hid (∀ k, r_h1.ownBlock = some k → k ≠ ab_hb1) := Lib.hid (fun k hk => by have p1 := (o_h1.lt k hk).1; have p2 := K_hb1.lt; omega)
                        have D_r4 := Lib.hid dxy
                        have O_h0 := Lib.hid (o_h0.lower B.size)
                        have O_h1 := Lib.hid (o_h1.lower B.size)
                        replace K_hb1 := K_hb1.below b K_hb1.lt
                        clear O_r4x0 N_hb1_r4x0
                        clear O_r4x1 N_hb1_r4x1
                        replace B := bel_trans B b
                        obtain ⟨A_h0, c_h0, rfl, -, -, -⟩ := o_h0.strs.open_
                        clear o_h0
                        obtain ⟨A_h1, c_h1, rfl, -, -, -⟩ := o_h1.strs.open_
                        clear o_h1
                        clear b dxy
                        (try dsimp only)
                        refine hK.out _ _ (by first | exact ⟨(B.cell (by exact K_p0.lt)).trans e_p0, (B.cell (by exact K_p1.lt)).trans e_p1⟩ | (dsimp only; exact ⟨(B.cell (by exact K_p0.lt)).trans e_p0, (B.cell (by exact K_p1.lt)).trans e_p1⟩)) (fun hS => ?_)
                        clear hK K
                        (try simp only [Act.put, List.setIfInBounds_toArray, List.set_cons_zero, List.set_cons_succ])
                        refine wpAnyH_take (i := 5) (oi := { dst := some 119, op := Op.move (Operand.tmp 124), type := 74, pos := "exact.go:4252", after := #[{ on := 4, ground := Ground.data }], guard := none }) (v := ?vr4_11) rfl (by kernel_rfl) (by kernel_rfl) (by kernel_rfl) (fun _ _ _ h => h) (Or.inl ⟨by rfl, ?hyr4_11⟩) hS ?restr4_11
                        case hyr4_11 => (intro w' hSw; (try dsimp only at hSw); go_simp; all_goals with_reducible rfl)
                        (try simp only [Act.put, List.setIfInBounds_toArray, List.set_cons_zero, List.set_cons_succ])
                        refine wpAnyH_take (i := 6) (oi := { dst := some 125, op := Op.extract (Operand.tmp 119) 0, type := 29, pos := "exact.go:4252", after := #[{ on := 5, ground := Ground.data }], guard := none }) (v := ?vr4_12) rfl (by kernel_rfl) (by kernel_rfl) (by kernel_rfl) (fun _ _ _ h => h) (Or.inl ⟨by rfl, ?hyr4_12⟩) hS ?restr4_12
                        case hyr4_12 => (intro w' hSw; (try dsimp only at hSw); go_simp; all_goals with_reducible rfl)
                        (try simp only [Act.put, List.setIfInBounds_toArray, List.set_cons_zero, List.set_cons_succ])
                        refine wpAnyH_take (i := 7) (oi := { dst := some 126, op := Op.extract (Operand.tmp 119) 1, type := 29, pos := "exact.go:4252", after := #[{ on := 5, ground := Ground.data }, { on := 11, ground := Ground.gcOnly Departure.lateStores }], guard := none }) (v := ?vr4_13) rfl (by kernel_rfl) (by kernel_rfl) (by kernel_rfl) (fun _ _ _ h => h) (Or.inl ⟨by rfl, ?hyr4_13⟩) hS ?restr4_13
                        case hyr4_13 => (intro w' hSw; (try dsimp only at hSw); go_simp; all_goals with_reducible rfl)
                        (try simp only [Act.put, List.setIfInBounds_toArray, List.set_cons_zero, List.set_cons_succ])
                        refine wpAnyH_take (i := 8) (oi := { dst := some 127, op := Op.extract (Operand.tmp 119) 2, type := 4, pos := "exact.go:4252", after := #[{ on := 5, ground := Ground.data }, { on := 12, ground := Ground.gcOnly Departure.lateStores }], guard := none }) (v := ?vr4_14) rfl (by kernel_rfl) (by kernel_rfl) (by kernel_rfl) (fun _ _ _ h => h) (Or.inl ⟨by rfl, ?hyr4_14⟩) hS ?restr4_14
                        case hyr4_14 => (intro w' hSw; (try dsimp only at hSw); go_simp; all_goals with_reducible rfl)
                        (try simp only [Act.put, List.setIfInBounds_toArray, List.set_cons_zero, List.set_cons_succ])
                        refine wpAnyH_listed (l' := #[true, true, true, true, true, true, true, true, true, false, true, false, false, false]) (by kernel_rfl) ?_
                        clear hS
                        revert N_hb1_h1; revert N_hb1_h0; revert H_hb1; revert K_hb1; revert D_r4; revert O_h1; revert O_h0; revert B
                        revert ab_hb1; revert c_h1; revert A_h1; revert c_h0; revert A_h0; revert c_r4x1; revert A_r4x1; revert c_r4x0; revert A_r4x0; revert wn
                        exact keyr4_1_3_4_10.out
                      refine AllReadyH.cons (o := { dst := some 17, op := Op.alloc 29, type := 0, pos := "exact.go:4252", after := #[], guard := none }) rfl (fun K hK => ?_) ?_
                      · skip
                        go_simp
                        have H_hb0 : w26.heap.size ≤ wr.heap.size := B.size
                        replace B : Below w26.heap.size w26 (wr.alloc (.cells #[Value.slice none 0 0] 29)) := bel_trans B (bel_alloc wr _)
                        have X_r4 : wr.heap.size ≠ ab_hb1 := by have := K_hb1.lt; omega
                        replace K_hb1 := K_hb1.alloc (.cells #[Value.slice none 0 0] 29)
                        have K_hb0 := Blk.new' wr 29 (Value.slice none 0 0) wr.heap.size rfl
                        have N_hb0_r4x0 : Hid (∀ k, (Value.slice A_r4x0 (l0).length c_r4x0).ownBlock = some k → k ≠ wr.heap.size) := Lib.hid (fun k hk => by have p1 := (O_r4x0.out.lt k hk).2; omega)
                        replace O_r4x0 := Lib.hid (O_r4x0.out.bel (bel_alloc wr (.cells #[Value.slice none 0 0] 29)))
                        have N_hb0_r4x1 : Hid (∀ k, (Value.slice A_r4x1 (l1).length c_r4x1).ownBlock = some k → k ≠ wr.heap.size) := Lib.hid (fun k hk => by have p1 := (O_r4x1.out.lt k hk).2; omega)
                        replace O_r4x1 := Lib.hid (O_r4x1.out.bel (bel_alloc wr (.cells #[Value.slice none 0 0] 29)))
                        refine hK.out _ _ (by first | exact ⟨(B.cell (by exact K_p0.lt)).trans e_p0, (B.cell (by exact K_p1.lt)).trans e_p1⟩ | (dsimp only; exact ⟨(B.cell (by exact K_p0.lt)).trans e_p0, (B.cell (by exact K_p1.lt)).trans e_p1⟩)) (fun hS => ?_)
                        clear hK K
                        (try simp only [Act.put, List.setIfInBounds_toArray, List.set_cons_zero, List.set_cons_succ])
                        refine wpAnyH_listed (l' := #[true, true, true, true, false, false, false, false, false, true, true, false, false, false]) (by kernel_rfl) ?_
                        clear hS
                        revert N_hb1_r4x1; revert N_hb1_r4x0; revert N_hb0_r4x1; revert N_hb0_r4x0; revert X_r4; revert H_hb1; revert K_hb1; revert H_hb0; revert K_hb0; revert O_r4x1; revert O_r4x0; revert B
                        generalize (wr.alloc (.cells #[Value.slice none 0 0] 29)) = wn
                        generalize wr.heap.size = ab_hb0
                        revert ab_hb1; revert ab_hb0; revert c_r4x1; revert A_r4x1; revert c_r4x0; revert A_r4x0; revert wn
                        exact keyr4_1_3_9_10.out
                      exact AllReadyH.nil
                  case hkr4_1_9_10 =>
                    intro wr A_r4x0 c_r4x0 ab_hb0 ab_hb1 B O_r4x0 K_hb0 H_hb0 K_hb1 H_hb1 X_r4 N_hb0_r4x0 N_hb1_r4x0
                    refine wpAnyH_ready (rs := [3]) (by kernel_rfl) (by simp) ?_
                    refine AllReadyH.cons (o := { dst := some 123, op := Op.call { callee := Callee.value (Operand.func 58), args := #[Operand.tmp 122], argTypes := #[72] }, type := 29, pos := "exact.go:4252", after := #[{ on := 2, ground := Ground.data }, { on := 1, ground := Ground.chain }], guard := none }) rfl (fun K hK => ?_) ?_
                    · skip
                      (try go_simp)
                      go_at_call 58
                      refine (toEngine_any _ l1 _ (S_1.out.bel B) len1).mono ?_
                      rintro e wn ⟨r_r4x1, rfl, o_r4x1, b⟩
                      have N_hb0_r4x1 : Hid (∀ k, r_r4x1.ownBlock = some k → k ≠ ab_hb0) := Lib.hid (fun k hk => by have p1 := (o_r4x1.lt k hk).1; have p2 := K_hb0.lt; omega)
                      have N_hb1_r4x1 : Hid (∀ k, r_r4x1.ownBlock = some k → k ≠ ab_hb1) := Lib.hid (fun k hk => by have p1 := (o_r4x1.lt k hk).1; have p2 := K_hb1.lt; omega)
                      have O_r4x1 := Lib.hid (o_r4x1.lower B.size)
                      replace K_hb0 := K_hb0.below b K_hb0.lt
                      replace K_hb1 := K_hb1.below b K_hb1.lt
                      replace O_r4x0 := Lib.hid (O_r4x0.out.bel b)
                      replace B := bel_trans B b
                      obtain ⟨A_r4x1, c_r4x1, rfl, -, -, -⟩ := o_r4x1.strs.open_
                      clear o_r4x1
                      clear b
                      (try dsimp only)
                      refine hK.out _ _ (by first | exact ⟨(B.cell (by exact K_p0.lt)).trans e_p0, (B.cell (by exact K_p1.lt)).trans e_p1⟩ | (dsimp only; exact ⟨(B.cell (by exact K_p0.lt)).trans e_p0, (B.cell (by exact K_p1.lt)).trans e_p1⟩)) (fun hS => ?_)
                      clear hK K
                      (try simp only [Act.put, List.setIfInBounds_toArray, List.set_cons_zero, List.set_cons_succ])
                      refine wpAnyH_listed (l' := #[true, true, true, true, false, false, false, false, false, true, true, false, false, false]) (by kernel_rfl) ?_
                      clear hS
                      revert N_hb1_r4x1; revert N_hb1_r4x0; revert N_hb0_r4x1; revert N_hb0_r4x0; revert X_r4; revert H_hb1; revert K_hb1; revert H_hb0; revert K_hb0; revert O_r4x1; revert O_r4x0; revert B
                      revert ab_hb1; revert ab_hb0; revert c_r4x1; revert A_r4x1; revert c_r4x0; revert A_r4x0; revert wn
                      exact keyr4_1_3_9_10.out
                    exact AllReadyH.nil
                case hkr4_1_3_4_9 =>
                  intro wr A_r4x0 c_r4x0 A_r4x1 c_r4x1 A_h0 c_h0 A_h1 c_h1 ab_hb0 B O_h0 O_h1 D_r4 K_hb0 H_hb0 N_hb0_h0 N_hb0_h1
                  refine wpAnyH_ready (rs := [10]) (by kernel_rfl) (by simp) ?_
                  refine AllReadyH.cons (o := { dst := some 18, op := Op.alloc 29, type := 0, pos := "exact.go:4252", after := #[], guard := none }) rfl (fun K hK => ?_) ?_
                  · skip
                    go_simp
                    have H_hb1 : w26.heap.size ≤ wr.heap.size := B.size
                    replace B : Below w26.heap.size w26 (wr.alloc (.cells #[Value.slice none 0 0] 29)) := bel_trans B (bel_alloc wr _)
                    have X_r4 : ab_hb0 ≠ wr.heap.size := by have := K_hb0.lt; omega
                    replace K_hb0 := K_hb0.alloc (.cells #[Value.slice none 0 0] 29)
                    have K_hb1 := Blk.new' wr 29 (Value.slice none 0 0) wr.heap.size rfl
                    have N_hb1_h0 : Hid (∀ k, (Value.slice A_h0 (cA l0 l1).length c_h0).ownBlock = some k → k ≠ wr.heap.size) := Lib.hid (fun k hk => by have p1 := (O_h0.out.lt k hk).2; omega)
                    replace O_h0 := Lib.hid (O_h0.out.bel (bel_alloc wr (.cells #[Value.slice none 0 0] 29)))
                    have N_hb1_h1 : Hid (∀ k, (Value.slice A_h1 (cB l0 l1).length c_h1).ownBlock = some k → k ≠ wr.heap.size) := Lib.hid (fun k hk => by have p1 := (O_h1.out.lt k hk).2; omega)
                    replace O_h1 := Lib.hid (O_h1.out.bel (bel_alloc wr (.cells #[Value.slice none 0 0] 29)))
                    refine hK.out _ _ (by first | exact ⟨(B.cell (by exact K_p0.lt)).trans e_p0, (B.cell (by exact K_p1.lt)).trans e_p1⟩ | (dsimp only; exact ⟨(B.cell (by exact K_p0.lt)).trans e_p0, (B.cell (by exact K_p1.lt)).trans e_p1⟩)) (fun hS => ?_)
                    clear hK K
                    (try simp only [Act.put, List.setIfInBounds_toArray, List.set_cons_zero, List.set_cons_succ])
                    refine wpAnyH_listed (l' := #[true, true, true, true, true, true, true, true, true, true, true, false, false, false]) (by kernel_rfl) ?_
                    clear hS
                    revert N_hb1_h1; revert N_hb1_h0; revert N_hb0_h1; revert N_hb0_h0; revert X_r4; revert H_hb1; revert K_hb1; revert H_hb0; revert K_hb0; revert D_r4; revert O_h1; revert O_h0; revert B
                    generalize (wr.alloc (.cells #[Value.slice none 0 0] 29)) = wn
                    generalize wr.heap.size = ab_hb1
                    revert ab_hb1; revert ab_hb0; revert c_h1; revert A_h1; revert c_h0; revert A_h0; revert c_r4x1; revert A_r4x1; revert c_r4x0; revert A_r4x0; revert wn
                    exact keyr4_1_3_4_9_10.out
                  exact AllReadyH.nil
              case hkr4_1_3_4_10 =>
                intro wr A_r4x0 c_r4x0 A_r4x1 c_r4x1 A_h0 c_h0 A_h1 c_h1 ab_hb1 B O_h0 O_h1 D_r4 K_hb1 H_hb1 N_hb1_h0 N_hb1_h1
                refine wpAnyH_ready (rs := [9]) (by kernel_rfl) (by simp) ?_
                refine AllReadyH.cons (o := { dst := some 17, op := Op.alloc 29, type := 0, pos := "exact.go:4252", after := #[], guard := none }) rfl (fun K hK => ?_) ?_
                · skip
                  go_simp
                  have H_hb0 : w26.heap.size ≤ wr.heap.size := B.size
                  replace B : Below w26.heap.size w26 (wr.alloc (.cells #[Value.slice none 0 0] 29)) := bel_trans B (bel_alloc wr _)
                  have X_r4 : wr.heap.size ≠ ab_hb1 := by have := K_hb1.lt; omega
                  replace K_hb1 := K_hb1.alloc (.cells #[Value.slice none 0 0] 29)
                  have K_hb0 := Blk.new' wr 29 (Value.slice none 0 0) wr.heap.size rfl
                  have N_hb0_h0 : Hid (∀ k, (Value.slice A_h0 (cA l0 l1).length c_h0).ownBlock = some k → k ≠ wr.heap.size) := Lib.hid (fun k hk => by have p1 := (O_h0.out.lt k hk).2; omega)
                  replace O_h0 := Lib.hid (O_h0.out.bel (bel_alloc wr (.cells #[Value.slice none 0 0] 29)))
                  have N_hb0_h1 : Hid (∀ k, (Value.slice A_h1 (cB l0 l1).length c_h1).ownBlock = some k → k ≠ wr.heap.size) := Lib.hid (fun k hk => by have p1 := (O_h1.out.lt k hk).2; omega)
                  replace O_h1 := Lib.hid (O_h1.out.bel (bel_alloc wr (.cells #[Value.slice none 0 0] 29)))
                  refine hK.out _ _ (by first | exact ⟨(B.cell (by exact K_p0.lt)).trans e_p0, (B.cell (by exact K_p1.lt)).trans e_p1⟩ | (dsimp only; exact ⟨(B.cell (by exact K_p0.lt)).trans e_p0, (B.cell (by exact K_p1.lt)).trans e_p1⟩)) (fun hS => ?_)
                  clear hK K
                  (try simp only [Act.put, List.setIfInBounds_toArray, List.set_cons_zero, List.set_cons_succ])
                  refine wpAnyH_listed (l' := #[true, true, true, true, true, true, true, true, true, true, true, false, false, false]) (by kernel_rfl) ?_
                  clear hS
                  revert N_hb1_h1; revert N_hb1_h0; revert N_hb0_h1; revert N_hb0_h0; revert X_r4; revert H_hb1; revert K_hb1; revert H_hb0; revert K_hb0; revert D_r4; revert O_h1; revert O_h0; revert B
                  generalize (wr.alloc (.cells #[Value.slice none 0 0] 29)) = wn
                  generalize wr.heap.size = ab_hb0
                  revert ab_hb1; revert ab_hb0; revert c_h1; revert A_h1; revert c_h0; revert A_h0; revert c_r4x1; revert A_r4x1; revert c_r4x0; revert A_r4x0; revert wn
                  exact keyr4_1_3_4_9_10.out
                exact AllReadyH.nil
            case hkr4_1_3_9_10 =>
              intro wr A_r4x0 c_r4x0 A_r4x1 c_r4x1 ab_hb0 ab_hb1 B O_r4x0 O_r4x1 K_hb0 H_hb0 K_hb1 H_hb1 X_r4 N_hb0_r4x0 N_hb0_r4x1 N_hb1_r4x0 N_hb1_r4x1
              refine wpAnyH_ready (rs := [4]) (by kernel_rfl) (by simp) ?_
              refine AllReadyH.cons (o := { dst := some 124, op := Op.call { callee := Callee.value (Operand.func 59), args := #[Operand.tmp 121, Operand.tmp 123], argTypes := #[29, 29] }, type := 74, pos := "exact.go:4252", after := #[{ on := 1, ground := Ground.data }, { on := 3, ground := Ground.data }, { on := 3, ground := Ground.chain }], guard := none }) rfl (fun K hK => ?_) ?_
              · skip
                (try go_simp)
                go_at_call 59
                refine (implCasc_any _ _ l0 l1 _ O_r4x0.out.strs O_r4x1.out.strs).mono ?_
                rintro e wn ⟨r_h0, r_h1, rfl, o_h0, o_h1, dxy, b⟩
                have N_hb0_h0 : Hid (∀ k, r_h0.ownBlock = some k → k ≠ ab_hb0) := Lib.hid (fun k hk => by have p1 := (o_h0.lt k hk).1; have p2 := K_hb0.lt; omega)
                have N_hb0_h1 : Hid (∀ k, r_h1.ownBlock = some k → k ≠ ab_hb0) := Lib.hid (fun k hk => by have p1 := (o_h1.lt k hk).1; have p2 := K_hb0.lt; omega)
                have N_hb1_h0 : Hid (∀ k, r_h0.ownBlock = some k → k ≠ ab_hb1) := Lib.hid (fun k hk => by have p1 := (o_h0.lt k hk).1; have p2 := K_hb1.lt; omega)
                have N_hb1_h1 : Hid (∀ k, r_h1.ownBlock = some k → k ≠ ab_hb1) := Lib.hid (fun k hk => by have p1 := (o_h1.lt k hk).1; have p2 := K_hb1.lt; omega)
                have D_r4 := Lib.hid dxy
                have O_h0 := Lib.hid (o_h0.lower B.size)
                have O_h1 := Lib.hid (o_h1.lower B.size)
                replace K_hb0 := K_hb0.below b K_hb0.lt
                replace K_hb1 := K_hb1.below b K_hb1.lt
                clear O_r4x0 N_hb0_r4x0 N_hb1_r4x0
                clear O_r4x1 N_hb0_r4x1 N_hb1_r4x1
                replace B := bel_trans B b
                obtain ⟨A_h0, c_h0, rfl, -, -, -⟩ := o_h0.strs.open_
                clear o_h0
                obtain ⟨A_h1, c_h1, rfl, -, -, -⟩ := o_h1.strs.open_
                clear o_h1
                clear b dxy
                (try dsimp only)
                refine hK.out _ _ (by first | exact ⟨(B.cell (by exact K_p0.lt)).trans e_p0, (B.cell (by exact K_p1.lt)).trans e_p1⟩ | (dsimp only; exact ⟨(B.cell (by exact K_p0.lt)).trans e_p0, (B.cell (by exact K_p1.lt)).trans e_p1⟩)) (fun hS => ?_)
                clear hK K
                (try simp only [Act.put, List.setIfInBounds_toArray, List.set_cons_zero, List.set_cons_succ])
                refine wpAnyH_take (i := 5) (oi := { dst := some 119, op := Op.move (Operand.tmp 124), type := 74, pos := "exact.go:4252", after := #[{ on := 4, ground := Ground.data }], guard := none }) (v := ?vr4_15) rfl (by kernel_rfl) (by kernel_rfl) (by kernel_rfl) (fun _ _ _ h => h) (Or.inl ⟨by rfl, ?hyr4_15⟩) hS ?restr4_15
                case hyr4_15 => (intro w' hSw; (try dsimp only at hSw); go_simp; all_goals with_reducible rfl)
                (try simp only [Act.put, List.setIfInBounds_toArray, List.set_cons_zero, List.set_cons_succ])
                refine wpAnyH_take (i := 6) (oi := { dst := some 125, op := Op.extract (Operand.tmp 119) 0, type := 29, pos := "exact.go:4252", after := #[{ on := 5, ground := Ground.data }], guard := none }) (v := ?vr4_16) rfl (by kernel_rfl) (by kernel_rfl) (by kernel_rfl) (fun _ _ _ h => h) (Or.inl ⟨by rfl, ?hyr4_16⟩) hS ?restr4_16
                case hyr4_16 => (intro w' hSw; (try dsimp only at hSw); go_simp; all_goals with_reducible rfl)
                (try simp only [Act.put, List.setIfInBounds_toArray, List.set_cons_zero, List.set_cons_succ])
                refine wpAnyH_take (i := 7) (oi := { dst := some 126, op := Op.extract (Operand.tmp 119) 1, type := 29, pos := "exact.go:4252", after := #[{ on := 5, ground := Ground.data }, { on := 11, ground := Ground.gcOnly Departure.lateStores }], guard := none }) (v := ?vr4_17) rfl (by kernel_rfl) (by kernel_rfl) (by kernel_rfl) (fun _ _ _ h => h) (Or.inl ⟨by rfl, ?hyr4_17⟩) hS ?restr4_17
                case hyr4_17 => (intro w' hSw; (try dsimp only at hSw); go_simp; all_goals with_reducible rfl)
                (try simp only [Act.put, List.setIfInBounds_toArray, List.set_cons_zero, List.set_cons_succ])
                refine wpAnyH_take (i := 8) (oi := { dst := some 127, op := Op.extract (Operand.tmp 119) 2, type := 4, pos := "exact.go:4252", after := #[{ on := 5, ground := Ground.data }, { on := 12, ground := Ground.gcOnly Departure.lateStores }], guard := none }) (v := ?vr4_18) rfl (by kernel_rfl) (by kernel_rfl) (by kernel_rfl) (fun _ _ _ h => h) (Or.inl ⟨by rfl, ?hyr4_18⟩) hS ?restr4_18
                case hyr4_18 => (intro w' hSw; (try dsimp only at hSw); go_simp; all_goals with_reducible rfl)
                (try simp only [Act.put, List.setIfInBounds_toArray, List.set_cons_zero, List.set_cons_succ])
                refine wpAnyH_listed (l' := #[true, true, true, true, true, true, true, true, true, true, true, false, false, false]) (by kernel_rfl) ?_
                clear hS
                revert N_hb1_h1; revert N_hb1_h0; revert N_hb0_h1; revert N_hb0_h0; revert X_r4; revert H_hb1; revert K_hb1; revert H_hb0; revert K_hb0; revert D_r4; revert O_h1; revert O_h0; revert B
                revert ab_hb1; revert ab_hb0; revert c_h1; revert A_h1; revert c_h0; revert A_h0; revert c_r4x1; revert A_r4x1; revert c_r4x0; revert A_r4x0; revert wn
                exact keyr4_1_3_4_9_10.out
              exact AllReadyH.nil
          case hkr4_1_3_4_9_10 =>
            intro wr A_r4x0 c_r4x0 A_r4x1 c_r4x1 A_h0 c_h0 A_h1 c_h1 ab_hb0 ab_hb1 B O_h0 O_h1 D_r4 K_hb0 H_hb0 K_hb1 H_hb1 X_r4 N_hb0_h0 N_hb0_h1 N_hb1_h0 N_hb1_h1
            refine wpAnyH_ready (rs := [11]) (by kernel_rfl) (by simp) ?_
            refine AllReadyH.cons (o := { dst := none, op := Op.store 29 (Operand.tmp 17) (Operand.tmp 125), type := 0, pos := "exact.go:4252", after := #[{ on := 9, ground := Ground.data }, { on := 6, ground := Ground.data }, { on := 4, ground := Ground.chain }, { on := 0, ground := Ground.phase }, { on := 1, ground := Ground.phase }, { on := 2, ground := Ground.phase }, { on := 3, ground := Ground.phase }, { on := 4, ground := Ground.phase }, { on := 5, ground := Ground.phase }, { on := 6, ground := Ground.phase }, { on := 7, ground := Ground.textOnly Departure.lateStores }, { on := 8, ground := Ground.textOnly Departure.lateStores }, { on := 9, ground := Ground.phase }, { on := 10, ground := Ground.phase }], guard := none }) rfl (fun K hK => ?_) ?_
            · skip
              obtain ⟨e_hb0, f_hb0⟩ := K_hb0.one
              go_simp
              clear e_hb0 f_hb0
              have g : wr.grownBy (wr.setCell ⟨ab_hb0, 0, none⟩ (Value.slice A_h0 (cA l0 l1).length c_h0)) (some ab_hb0) := only_setCell (World.grownBy.refl wr (some ab_hb0)) (.inl rfl) _
              replace O_h0 := Lib.hid (O_h0.out.awayRow g N_hb0_h0.out)
              replace O_h1 := Lib.hid (O_h1.out.awayRow g N_hb0_h1.out)
              replace K_hb0 : Blk (wr.setCell ⟨ab_hb0, 0, none⟩ (Value.slice A_h0 (cA l0 l1).length c_h0)) ab_hb0 29 [Value.slice A_h0 (cA l0 l1).length c_h0] := K_hb0.set_ 0 _
              replace K_hb1 := K_hb1.far (p := ⟨ab_hb0, 0, none⟩) (by show ab_hb1 ≠ ab_hb0; omega) (Value.slice A_h0 (cA l0 l1).length c_h0)
              replace B := B.setCell (p := ⟨ab_hb0, 0, none⟩) H_hb0 (Value.slice A_h0 (cA l0 l1).length c_h0)
              clear g
              refine hK.out _ _ (by first | exact ⟨(B.cell (by exact K_p0.lt)).trans e_p0, (B.cell (by exact K_p1.lt)).trans e_p1⟩ | (dsimp only; exact ⟨(B.cell (by exact K_p0.lt)).trans e_p0, (B.cell (by exact K_p1.lt)).trans e_p1⟩)) (fun hS => ?_)
              clear hK K
              (try simp only [Act.put, List.setIfInBounds_toArray, List.set_cons_zero, List.set_cons_succ])
              refine wpAnyH_listed (l' := #[true, true, true, true, true, true, true, true, true, true, true, true, false, false]) (by kernel_rfl) ?_
              clear hS
              revert N_hb1_h1; revert N_hb1_h0; revert N_hb0_h1; revert N_hb0_h0; revert X_r4; revert H_hb1; revert K_hb1; revert H_hb0; revert K_hb0; revert D_r4; revert O_h1; revert O_h0; revert B
              generalize (wr.setCell ⟨ab_hb0, 0, none⟩ (Value.slice A_h0 (cA l0 l1).length c_h0)) = wn
              revert ab_hb1; revert ab_hb0; revert c_h1; revert A_h1; revert c_h0; revert A_h0; revert c_r4x1; revert A_r4x1; revert c_r4x0; revert A_r4x0; revert wn
              exact keyr4_1_3_4_9_10_11.out
            exact AllReadyH.nil
        case hkr4_1_3_4_9_10_11 =>
          intro wr A_r4x0 c_r4x0 A_r4x1 c_r4x1 A_h0 c_h0 A_h1 c_h1 ab_hb0 ab_hb1 B O_h0 O_h1 D_r4 K_hb0 H_hb0 K_hb1 H_hb1 X_r4 N_hb0_h0 N_hb0_h1 N_hb1_h0 N_hb1_h1
          refine wpAnyH_ready (rs := [12]) (by kernel_rfl) (by simp) ?_
          refine AllReadyH.cons (o := { dst := none, op := Op.store 29 (Operand.tmp 18) (Operand.tmp 126), type := 0, pos := "exact.go:4252", after := #[{ on := 10, ground := Ground.data }, { on := 7, ground := Ground.data }, { on := 11, ground := Ground.chain }, { on := 0, ground := Ground.phase }, { on := 1, ground := Ground.phase }, { on := 2, ground := Ground.phase }, { on := 3, ground := Ground.phase }, { on := 4, ground := Ground.phase }, { on := 5, ground := Ground.phase }, { on := 6, ground := Ground.phase }, { on := 7, ground := Ground.phase }, { on := 8, ground := Ground.textOnly Departure.lateStores }, { on := 9, ground := Ground.phase }, { on := 10, ground := Ground.phase }, { on := 11, ground := Ground.phase }], guard := none }) rfl (fun K hK => ?_) ?_
          · skip
            obtain ⟨e_hb1, f_hb1⟩ := K_hb1.one
            go_simp
            clear e_hb1 f_hb1
            have g : wr.grownBy (wr.setCell ⟨ab_hb1, 0, none⟩ (Value.slice A_h1 (cB l0 l1).length c_h1)) (some ab_hb1) := only_setCell (World.grownBy.refl wr (some ab_hb1)) (.inl rfl) _
            replace O_h0 := Lib.hid (O_h0.out.awayRow g N_hb1_h0.out)
            replace O_h1 := Lib.hid (O_h1.out.awayRow g N_hb1_h1.out)
            replace K_hb1 : Blk (wr.setCell ⟨ab_hb1, 0, none⟩ (Value.slice A_h1 (cB l0 l1).length c_h1)) ab_hb1 29 [Value.slice A_h1 (cB l0 l1).length c_h1] := K_hb1.set_ 0 _
            replace K_hb0 := K_hb0.far (p := ⟨ab_hb1, 0, none⟩) (by show ab_hb0 ≠ ab_hb1; omega) (Value.slice A_h1 (cB l0 l1).length c_h1)
            replace B := B.setCell (p := ⟨ab_hb1, 0, none⟩) H_hb1 (Value.slice A_h1 (cB l0 l1).length c_h1)
            clear g
            refine hK.out _ _ (by first | exact ⟨(B.cell (by exact K_p0.lt)).trans e_p0, (B.cell (by exact K_p1.lt)).trans e_p1⟩ | (dsimp only; exact ⟨(B.cell (by exact K_p0.lt)).trans e_p0, (B.cell (by exact K_p1.lt)).trans e_p1⟩)) (fun hS => ?_)
            clear hK K
            (try simp only [Act.put, List.setIfInBounds_toArray, List.set_cons_zero, List.set_cons_succ])
            refine wpAnyH_take (i := 13) (oi := { dst := some 19, op := Op.assign (Operand.tmp 127), type := 4, pos := "exact.go:4252", after := #[{ on := 8, ground := Ground.data }, { on := 12, ground := Ground.chain }, { on := 0, ground := Ground.phase }, { on := 1, ground := Ground.phase }, { on := 2, ground := Ground.phase }, { on := 3, ground := Ground.phase }, { on := 4, ground := Ground.phase }, { on := 5, ground := Ground.phase }, { on := 6, ground := Ground.phase }, { on := 7, ground := Ground.phase }, { on := 8, ground := Ground.phase }, { on := 9, ground := Ground.phase }, { on := 10, ground := Ground.phase }, { on := 11, ground := Ground.phase }, { on := 12, ground := Ground.phase }], guard := none }) (v := ?vr4_19) rfl (by kernel_rfl) (by kernel_rfl) (by kernel_rfl) (fun _ _ _ h => h) (Or.inl ⟨by rfl, ?hyr4_19⟩) hS ?restr4_19
            case hyr4_19 => (intro w' hSw; (try dsimp only at hSw); go_simp; all_goals with_reducible rfl)
            (try simp only [Act.put, List.setIfInBounds_toArray, List.set_cons_zero, List.set_cons_succ])
            refine wpAnyH_listed (l' := #[true, true, true, true, true, true, true, true, true, true, true, true, true, true]) (by kernel_rfl) ?_
            clear hS
            revert N_hb1_h1; revert N_hb1_h0; revert N_hb0_h1; revert N_hb0_h0; revert X_r4; revert H_hb1; revert K_hb1; revert H_hb0; revert K_hb0; revert D_r4; revert O_h1; revert O_h0; revert B
            generalize (wr.setCell ⟨ab_hb1, 0, none⟩ (Value.slice A_h1 (cB l0 l1).length c_h1)) = wn
            revert ab_hb1; revert ab_hb0; revert c_h1; revert A_h1; revert c_h0; revert A_h0; revert c_r4x1; revert A_r4x1; revert c_r4x0; revert A_r4x0; revert wn
            exact keyr4_1_3_4_9_10_11_12.out
          exact AllReadyH.nil
      intro w27 A_r4x0 c_r4x0 A_r4x1 c_r4x1 A_h0 c_h0 A_h1 c_h1 ab_hb0 ab_hb1 B O_h0 O_h1 D_r4 K_hb0 H_hb0 K_hb1 H_hb1 X_r4 N_hb0_h0 N_hb0_h1 N_hb1_h0 N_hb1_h1
      refine wpAnyH_done (by kernel_rfl) ?_ _
      clear e_p0 e_p1 e_sb0 e_sb1 e_bx0 e_bx1 e_gb0 e_gb1
      have N_p0_h0 : Hid (∀ k, (Value.slice A_h0 (cA l0 l1).length c_h0).ownBlock = some k → k ≠ w.heap.size) := Lib.hid (fun k hk => by have p1 := (O_h0.out.lt k hk).1; have p2 := K_p0.lt; omega)
      have N_p1_h0 : Hid (∀ k, (Value.slice A_h0 (cA l0 l1).length c_h0).ownBlock = some k → k ≠ w.heap.size + 1) := Lib.hid (fun k hk => by have p1 := (O_h0.out.lt k hk).1; have p2 := K_p1.lt; omega)
      have N_sb0_h0 : Hid (∀ k, (Value.slice A_h0 (cA l0 l1).length c_h0).ownBlock = some k → k ≠ ab_sb0) := Lib.hid (fun k hk => by have p1 := (O_h0.out.lt k hk).1; have p2 := K_sb0.lt; omega)
      have N_sb1_h0 : Hid (∀ k, (Value.slice A_h0 (cA l0 l1).length c_h0).ownBlock = some k → k ≠ ab_sb1) := Lib.hid (fun k hk => by have p1 := (O_h0.out.lt k hk).1; have p2 := K_sb1.lt; omega)
      have N_bx0_h0 : Hid (∀ k, (Value.slice A_h0 (cA l0 l1).length c_h0).ownBlock = some k → k ≠ w5.heap.size) := Lib.hid (fun k hk => by have p1 := (O_h0.out.lt k hk).1; have p2 := K_bx0.lt; omega)
      have N_bx1_h0 : Hid (∀ k, (Value.slice A_h0 (cA l0 l1).length c_h0).ownBlock = some k → k ≠ w7.heap.size) := Lib.hid (fun k hk => by have p1 := (O_h0.out.lt k hk).1; have p2 := K_bx1.lt; omega)
      have N_gb0_h0 : Hid (∀ k, (Value.slice A_h0 (cA l0 l1).length c_h0).ownBlock = some k → k ≠ w9.heap.size) := Lib.hid (fun k hk => by have p1 := (O_h0.out.lt k hk).1; have p2 := K_gb0.lt; omega)
      have N_gb1_h0 : Hid (∀ k, (Value.slice A_h0 (cA l0 l1).length c_h0).ownBlock = some k → k ≠ w9.heap.size + 1) := Lib.hid (fun k hk => by have p1 := (O_h0.out.lt k hk).1; have p2 := K_gb1.lt; omega)
      have N_s0_h0 : Hid (∀ k, (Value.slice A_s0 (cA l0 l1).length c_s0).ownBlock = some k → (Value.slice A_h0 (cA l0 l1).length c_h0).ownBlock ≠ some k) := Lib.hid (fun k p q => by have p1 := (O_s0.out.lt k p).2; have q1 := (O_h0.out.lt k q).1; omega)
      have N_s1_h0 : Hid (∀ k, (Value.slice A_s1 (cB l0 l1).length c_s1).ownBlock = some k → (Value.slice A_h0 (cA l0 l1).length c_h0).ownBlock ≠ some k) := Lib.hid (fun k p q => by have p1 := (O_s1.out.lt k p).2; have q1 := (O_h0.out.lt k q).1; omega)
      have N_x0_h0 : Hid (∀ k, (Value.slice A_x0 (l0).length c_x0).ownBlock = some k → (Value.slice A_h0 (cA l0 l1).length c_h0).ownBlock ≠ some k) := Lib.hid (fun k p q => by have p1 := (O_x0.out.lt k p).2; have q1 := (O_h0.out.lt k q).1; omega)
      have N_x1_h0 : Hid (∀ k, (Value.slice A_x1 (l1).length c_x1).ownBlock = some k → (Value.slice A_h0 (cA l0 l1).length c_h0).ownBlock ≠ some k) := Lib.hid (fun k p q => by have p1 := (O_x1.out.lt k p).2; have q1 := (O_h0.out.lt k q).1; omega)
      have N_g0_h0 : Hid (∀ k, (Value.slice A_g0 (cA l0 l1).length c_g0).ownBlock = some k → (Value.slice A_h0 (cA l0 l1).length c_h0).ownBlock ≠ some k) := Lib.hid (fun k p q => by have p1 := (O_g0.out.lt k p).2; have q1 := (O_h0.out.lt k q).1; omega)
      have N_g1_h0 : Hid (∀ k, (Value.slice A_g1 (cB l0 l1).length c_g1).ownBlock = some k → (Value.slice A_h0 (cA l0 l1).length c_h0).ownBlock ≠ some k) := Lib.hid (fun k p q => by have p1 := (O_g1.out.lt k p).2; have q1 := (O_h0.out.lt k q).1; omega)
      have t_h0 : Hid (∀ k, (Value.slice A_h0 (cA l0 l1).length c_h0).ownBlock = some k → w.heap.size ≤ k) := Lib.hid (fun k hk => by have p1 := (O_h0.out.lt k hk).1; have p2 := HB.out.size; omega)
      have N_p0_h1 : Hid (∀ k, (Value.slice A_h1 (cB l0 l1).length c_h1).ownBlock = some k → k ≠ w.heap.size) := Lib.hid (fun k hk => by have p1 := (O_h1.out.lt k hk).1; have p2 := K_p0.lt; omega)
      have N_p1_h1 : Hid (∀ k, (Value.slice A_h1 (cB l0 l1).length c_h1).ownBlock = some k → k ≠ w.heap.size + 1) := Lib.hid (fun k hk => by have p1 := (O_h1.out.lt k hk).1; have p2 := K_p1.lt; omega)
      have N_sb0_h1 : Hid (∀ k, (Value.slice A_h1 (cB l0 l1).length c_h1).ownBlock = some k → k ≠ ab_sb0) := Lib.hid (fun k hk => by have p1 := (O_h1.out.lt k hk).1; have p2 := K_sb0.lt; omega)
      have N_sb1_h1 : Hid (∀ k, (Value.slice A_h1 (cB l0 l1).length c_h1).ownBlock = some k → k ≠ ab_sb1) := Lib.hid (fun k hk => by have p1 := (O_h1.out.lt k hk).1; have p2 := K_sb1.lt; omega)
      have N_bx0_h1 : Hid (∀ k, (Value.slice A_h1 (cB l0 l1).length c_h1).ownBlock = some k → k ≠ w5.heap.size) := Lib.hid (fun k hk => by have p1 := (O_h1.out.lt k hk).1; have p2 := K_bx0.lt; omega)
      have N_bx1_h1 : Hid (∀ k, (Value.slice A_h1 (cB l0 l1).length c_h1).ownBlock = some k → k ≠ w7.heap.size) := Lib.hid (fun k hk => by have p1 := (O_h1.out.lt k hk).1; have p2 := K_bx1.lt; omega)
      have N_gb0_h1 : Hid (∀ k, (Value.slice A_h1 (cB l0 l1).length c_h1).ownBlock = some k → k ≠ w9.heap.size) := Lib.hid (fun k hk => by have p1 := (O_h1.out.lt k hk).1; have p2 := K_gb0.lt; omega)
      have N_gb1_h1 : Hid (∀ k, (Value.slice A_h1 (cB l0 l1).length c_h1).ownBlock = some k → k ≠ w9.heap.size + 1) := Lib.hid (fun k hk => by have p1 := (O_h1.out.lt k hk).1; have p2 := K_gb1.lt; omega)
      have N_s0_h1 : Hid (∀ k, (Value.slice A_s0 (cA l0 l1).length c_s0).ownBlock = some k → (Value.slice A_h1 (cB l0 l1).length c_h1).ownBlock ≠ some k) := Lib.hid (fun k p q => by have p1 := (O_s0.out.lt k p).2; have q1 := (O_h1.out.lt k q).1; omega)
      have N_s1_h1 : Hid (∀ k, (Value.slice A_s1 (cB l0 l1).length c_s1).ownBlock = some k → (Value.slice A_h1 (cB l0 l1).length c_h1).ownBlock ≠ some k) := Lib.hid (fun k p q => by have p1 := (O_s1.out.lt k p).2; have q1 := (O_h1.out.lt k q).1; omega)
      have N_x0_h1 : Hid (∀ k, (Value.slice A_x0 (l0).length c_x0).ownBlock = some k → (Value.slice A_h1 (cB l0 l1).length c_h1).ownBlock ≠ some k) := Lib.hid (fun k p q => by have p1 := (O_x0.out.lt k p).2; have q1 := (O_h1.out.lt k q).1; omega)
      have N_x1_h1 : Hid (∀ k, (Value.slice A_x1 (l1).length c_x1).ownBlock = some k → (Value.slice A_h1 (cB l0 l1).length c_h1).ownBlock ≠ some k) := Lib.hid (fun k p q => by have p1 := (O_x1.out.lt k p).2; have q1 := (O_h1.out.lt k q).1; omega)
      have N_g0_h1 : Hid (∀ k, (Value.slice A_g0 (cA l0 l1).length c_g0).ownBlock = some k → (Value.slice A_h1 (cB l0 l1).length c_h1).ownBlock ≠ some k) := Lib.hid (fun k p q => by have p1 := (O_g0.out.lt k p).2; have q1 := (O_h1.out.lt k q).1; omega)
      have N_g1_h1 : Hid (∀ k, (Value.slice A_g1 (cB l0 l1).length c_g1).ownBlock = some k → (Value.slice A_h1 (cB l0 l1).length c_h1).ownBlock ≠ some k) := Lib.hid (fun k p q => by have p1 := (O_g1.out.lt k p).2; have q1 := (O_h1.out.lt k q).1; omega)
      have t_h1 : Hid (∀ k, (Value.slice A_h1 (cB l0 l1).length c_h1).ownBlock = some k → w.heap.size ≤ k) := Lib.hid (fun k hk => by have p1 := (O_h1.out.lt k hk).1; have p2 := HB.out.size; omega)
      have N_hb0_s0 : Hid (∀ k, (Value.slice A_s0 (cA l0 l1).length c_s0).ownBlock = some k → k ≠ ab_hb0) := Lib.hid (fun k hk => by have p1 := (O_s0.out.lt k hk).2; omega)
      have N_hb0_s1 : Hid (∀ k, (Value.slice A_s1 (cB l0 l1).length c_s1).ownBlock = some k → k ≠ ab_hb0) := Lib.hid (fun k hk => by have p1 := (O_s1.out.lt k hk).2; omega)
      have N_hb0_x0 : Hid (∀ k, (Value.slice A_x0 (l0).length c_x0).ownBlock = some k → k ≠ ab_hb0) := Lib.hid (fun k hk => by have p1 := (O_x0.out.lt k hk).2; omega)
      have N_hb0_x1 : Hid (∀ k, (Value.slice A_x1 (l1).length c_x1).ownBlock = some k → k ≠ ab_hb0) := Lib.hid (fun k hk => by have p1 := (O_x1.out.lt k hk).2; omega)
      have N_hb0_g0 : Hid (∀ k, (Value.slice A_g0 (cA l0 l1).length c_g0).ownBlock = some k → k ≠ ab_hb0) := Lib.hid (fun k hk => by have p1 := (O_g0.out.lt k hk).2; omega)
      have N_hb0_g1 : Hid (∀ k, (Value.slice A_g1 (cB l0 l1).length c_g1).ownBlock = some k → k ≠ ab_hb0) := Lib.hid (fun k hk => by have p1 := (O_g1.out.lt k hk).2; omega)
      have N_hb1_s0 : Hid (∀ k, (Value.slice A_s0 (cA l0 l1).length c_s0).ownBlock = some k → k ≠ ab_hb1) := Lib.hid (fun k hk => by have p1 := (O_s0.out.lt k hk).2; omega)
      have N_hb1_s1 : Hid (∀ k, (Value.slice A_s1 (cB l0 l1).length c_s1).ownBlock = some k → k ≠ ab_hb1) := Lib.hid (fun k hk => by have p1 := (O_s1.out.lt k hk).2; omega)
      have N_hb1_x0 : Hid (∀ k, (Value.slice A_x0 (l0).length c_x0).ownBlock = some k → k ≠ ab_hb1) := Lib.hid (fun k hk => by have p1 := (O_x0.out.lt k hk).2; omega)
      have N_hb1_x1 : Hid (∀ k, (Value.slice A_x1 (l1).length c_x1).ownBlock = some k → k ≠ ab_hb1) := Lib.hid (fun k hk => by have p1 := (O_x1.out.lt k hk).2; omega)
      have N_hb1_g0 : Hid (∀ k, (Value.slice A_g0 (cA l0 l1).length c_g0).ownBlock = some k → k ≠ ab_hb1) := Lib.hid (fun k hk => by have p1 := (O_g0.out.lt k hk).2; omega)
      have N_hb1_g1 : Hid (∀ k, (Value.slice A_g1 (cB l0 l1).length c_g1).ownBlock = some k → k ≠ ab_hb1) := Lib.hid (fun k hk => by have p1 := (O_g1.out.lt k hk).2; omega)
      replace O_h0 := Lib.hid (O_h0.out.lower HB.out.size)
      replace O_h1 := Lib.hid (O_h1.out.lower HB.out.size)
      have N_h0_h1 := D_r4
      clear H_hb0 H_hb1 X_r4 D_r4
      replace K_p0 := K_p0.below B K_p0.lt
      replace K_p1 := K_p1.below B K_p1.lt
      replace K_sb0 := K_sb0.below B K_sb0.lt
      replace K_sb1 := K_sb1.below B K_sb1.lt
      replace K_bx0 := K_bx0.below B K_bx0.lt
      replace K_bx1 := K_bx1.below B K_bx1.lt
      replace K_gb0 := K_gb0.below B K_gb0.lt
      replace K_gb1 := K_gb1.below B K_gb1.lt
      replace O_s0 := Lib.hid (O_s0.out.bel B)
      replace O_s1 := Lib.hid (O_s1.out.bel B)
      replace O_x0 := Lib.hid (O_x0.out.bel B)
      replace O_x1 := Lib.hid (O_x1.out.bel B)
      replace O_g0 := Lib.hid (O_g0.out.bel B)
      replace O_g1 := Lib.hid (O_g1.out.bel B)
      replace S_0 := Lib.hid (S_0.out.bel B)
      replace S_1 := Lib.hid (S_1.out.bel B)
      replace HB := Lib.hid (bel_trans HB.out B)
      clear B
      obtain ⟨e_p0, -⟩ := K_p0.one
      obtain ⟨e_p1, -⟩ := K_p1.one
      obtain ⟨e_sb0, -⟩ := K_sb0.one
      obtain ⟨e_sb1, -⟩ := K_sb1.one
      obtain ⟨e_bx0, -⟩ := K_bx0.one
      obtain ⟨e_bx1, -⟩ := K_bx1.one
      obtain ⟨e_gb0, -⟩ := K_gb0.one
      obtain ⟨e_gb1, -⟩ := K_gb1.one
      obtain ⟨e_hb0, -⟩ := K_hb0.one
      obtain ⟨e_hb1, -⟩ := K_hb1.one
      go_wp2_with fail
      clear e_p0 e_p1 e_sb0 e_sb1 e_bx0 e_bx1 e_gb0 e_gb1 e_hb0 e_hb1
      refine (eqEngine_any _ _ _ _ _ O_h0.out.strs O_s0.out.strs).mono ?_
      rw [he_r0]
      rintro e w28 ⟨rfl, b⟩
      replace K_p0 := K_p0.below b K_p0.lt
      replace K_p1 := K_p1.below b K_p1.lt
      replace K_sb0 := K_sb0.below b K_sb0.lt
      replace K_sb1 := K_sb1.below b K_sb1.lt
      replace K_bx0 := K_bx0.below b K_bx0.lt
      replace K_bx1 := K_bx1.below b K_bx1.lt
      replace K_gb0 := K_gb0.below b K_gb0.lt
      replace K_gb1 := K_gb1.below b K_gb1.lt
      replace K_hb0 := K_hb0.below b K_hb0.lt
      replace K_hb1 := K_hb1.below b K_hb1.lt
      replace O_s0 := Lib.hid (O_s0.out.bel b)
      replace O_s1 := Lib.hid (O_s1.out.bel b)
      replace O_x0 := Lib.hid (O_x0.out.bel b)
      replace O_x1 := Lib.hid (O_x1.out.bel b)
      replace O_g0 := Lib.hid (O_g0.out.bel b)
      replace O_g1 := Lib.hid (O_g1.out.bel b)
      replace O_h0 := Lib.hid (O_h0.out.bel b)
      replace O_h1 := Lib.hid (O_h1.out.bel b)
      replace S_0 := Lib.hid (S_0.out.bel b)
      replace S_1 := Lib.hid (S_1.out.bel b)
      replace HB := Lib.hid (bel_trans HB.out b)
      clear b
      obtain ⟨e_p0, -⟩ := K_p0.one
      obtain ⟨e_p1, -⟩ := K_p1.one
      obtain ⟨e_sb0, -⟩ := K_sb0.one
      obtain ⟨e_sb1, -⟩ := K_sb1.one
      obtain ⟨e_bx0, -⟩ := K_bx0.one
      obtain ⟨e_bx1, -⟩ := K_bx1.one
      obtain ⟨e_gb0, -⟩ := K_gb0.one
      obtain ⟨e_gb1, -⟩ := K_gb1.one
      obtain ⟨e_hb0, -⟩ := K_hb0.one
      obtain ⟨e_hb1, -⟩ := K_hb1.one
      go_wp2_with fail
      clear e_p0 e_p1 e_sb0 e_sb1 e_bx0 e_bx1 e_gb0 e_gb1 e_hb0 e_hb1
      refine (eqEngine_any _ _ _ _ _ O_h1.out.strs O_s1.out.strs).mono ?_
      rw [he_r1]
      rintro e w29 ⟨rfl, b⟩
      replace K_p0 := K_p0.below b K_p0.lt
      replace K_p1 := K_p1.below b K_p1.lt
      replace K_sb0 := K_sb0.below b K_sb0.lt
      replace K_sb1 := K_sb1.below b K_sb1.lt
      replace K_bx0 := K_bx0.below b K_bx0.lt
      replace K_bx1 := K_bx1.below b K_bx1.lt
      replace K_gb0 := K_gb0.below b K_gb0.lt
      replace K_gb1 := K_gb1.below b K_gb1.lt
      replace K_hb0 := K_hb0.below b K_hb0.lt
      replace K_hb1 := K_hb1.below b K_hb1.lt
      replace O_s0 := Lib.hid (O_s0.out.bel b)
      replace O_s1 := Lib.hid (O_s1.out.bel b)
      replace O_x0 := Lib.hid (O_x0.out.bel b)
      replace O_x1 := Lib.hid (O_x1.out.bel b)
      replace O_g0 := Lib.hid (O_g0.out.bel b)
      replace O_g1 := Lib.hid (O_g1.out.bel b)
      replace O_h0 := Lib.hid (O_h0.out.bel b)
      replace O_h1 := Lib.hid (O_h1.out.bel b)
      replace S_0 := Lib.hid (S_0.out.bel b)
      replace S_1 := Lib.hid (S_1.out.bel b)
      replace HB := Lib.hid (bel_trans HB.out b)
      clear b
      obtain ⟨e_p0, -⟩ := K_p0.one
      obtain ⟨e_p1, -⟩ := K_p1.one
      obtain ⟨e_sb0, -⟩ := K_sb0.one
      obtain ⟨e_sb1, -⟩ := K_sb1.one
      obtain ⟨e_bx0, -⟩ := K_bx0.one
      obtain ⟨e_bx1, -⟩ := K_bx1.one
      obtain ⟨e_gb0, -⟩ := K_gb0.one
      obtain ⟨e_gb1, -⟩ := K_gb1.one
      obtain ⟨e_hb0, -⟩ := K_hb0.one
      obtain ⟨e_hb1, -⟩ := K_hb1.one
      go_wp2_with fail
      clear e_p0 e_p1 e_sb0 e_sb1 e_bx0 e_bx1 e_gb0 e_gb1 e_hb0 e_hb1
      refine (heldEngine_int _ (cA l0 l1).length (1) _ O_g0.out.strs (by omega) (by omega)).mono ?_
      rintro e w30 ⟨rfl, b⟩
      replace K_p0 := K_p0.below b K_p0.lt
      replace K_p1 := K_p1.below b K_p1.lt
      replace K_sb0 := K_sb0.below b K_sb0.lt
      replace K_sb1 := K_sb1.below b K_sb1.lt
      replace K_bx0 := K_bx0.below b K_bx0.lt
      replace K_bx1 := K_bx1.below b K_bx1.lt
      replace K_gb0 := K_gb0.below b K_gb0.lt
      replace K_gb1 := K_gb1.below b K_gb1.lt
      replace K_hb0 := K_hb0.below b K_hb0.lt
      replace K_hb1 := K_hb1.below b K_hb1.lt
      replace O_s0 := Lib.hid (O_s0.out.bel b)
      replace O_s1 := Lib.hid (O_s1.out.bel b)
      replace O_x0 := Lib.hid (O_x0.out.bel b)
      replace O_x1 := Lib.hid (O_x1.out.bel b)
      replace O_g0 := Lib.hid (O_g0.out.bel b)
      replace O_g1 := Lib.hid (O_g1.out.bel b)
      replace O_h0 := Lib.hid (O_h0.out.bel b)
      replace O_h1 := Lib.hid (O_h1.out.bel b)
      replace S_0 := Lib.hid (S_0.out.bel b)
      replace S_1 := Lib.hid (S_1.out.bel b)
      replace HB := Lib.hid (bel_trans HB.out b)
      clear b
      obtain ⟨e_p0, -⟩ := K_p0.one
      obtain ⟨e_p1, -⟩ := K_p1.one
      obtain ⟨e_sb0, -⟩ := K_sb0.one
      obtain ⟨e_sb1, -⟩ := K_sb1.one
      obtain ⟨e_bx0, -⟩ := K_bx0.one
      obtain ⟨e_bx1, -⟩ := K_bx1.one
      obtain ⟨e_gb0, -⟩ := K_gb0.one
      obtain ⟨e_gb1, -⟩ := K_gb1.one
      obtain ⟨e_hb0, -⟩ := K_hb0.one
      obtain ⟨e_hb1, -⟩ := K_hb1.one
      go_wp2_with fail
      clear e_p0 e_p1 e_sb0 e_sb1 e_bx0 e_bx1 e_gb0 e_gb1 e_hb0 e_hb1
      refine (heldEngine_int _ (cB l0 l1).length (1 + ((cA l0 l1).length : Int)) _ O_g1.out.strs (by omega) (by omega)).mono ?_
      rintro e w31 ⟨rfl, b⟩
      replace K_p0 := K_p0.below b K_p0.lt
      replace K_p1 := K_p1.below b K_p1.lt
      replace K_sb0 := K_sb0.below b K_sb0.lt
      replace K_sb1 := K_sb1.below b K_sb1.lt
      replace K_bx0 := K_bx0.below b K_bx0.lt
      replace K_bx1 := K_bx1.below b K_bx1.lt
      replace K_gb0 := K_gb0.below b K_gb0.lt
      replace K_gb1 := K_gb1.below b K_gb1.lt
      replace K_hb0 := K_hb0.below b K_hb0.lt
      replace K_hb1 := K_hb1.below b K_hb1.lt
      replace O_s0 := Lib.hid (O_s0.out.bel b)
      replace O_s1 := Lib.hid (O_s1.out.bel b)
      replace O_x0 := Lib.hid (O_x0.out.bel b)
      replace O_x1 := Lib.hid (O_x1.out.bel b)
      replace O_g0 := Lib.hid (O_g0.out.bel b)
      replace O_g1 := Lib.hid (O_g1.out.bel b)
      replace O_h0 := Lib.hid (O_h0.out.bel b)
      replace O_h1 := Lib.hid (O_h1.out.bel b)
      replace S_0 := Lib.hid (S_0.out.bel b)
      replace S_1 := Lib.hid (S_1.out.bel b)
      replace HB := Lib.hid (bel_trans HB.out b)
      clear b
      go_wp2
      go_ret
      exact ⟨rfl, HB.out⟩

end Go.Proofs.Yteemhhgioljmaaa
