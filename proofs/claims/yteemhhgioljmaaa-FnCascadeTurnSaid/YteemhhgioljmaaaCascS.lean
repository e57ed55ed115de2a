/-
  The contract of the reference's CascadeTurn (made by gen_cascs.py).
-/
import Derived.Test.YteemhhgioljmaaaSplitT
import Derived.Test.YteemhhgioljmaaaCasc
import Derived.Test.YteemhhgioljmaaaEngBox
import Derived.Test.YteemhhgioljmaaaJoinB
import Derived.Deep.RegionHeld3
namespace Go.Proofs.Yteemhhgioljmaaa
open Go.RowKit
set_option linter.unusedVariables false
set_option linter.unusedSimpArgs false
set_option maxRecDepth 100000
attribute [local go_sem ↓] Go.wp_at_zero Go.wp_at_succ

theorem wpAnyH_listed {P : Program} {md : Region.Mode} {ops : Array Oper} {Q : Exit → Act → World → Prop} {S : World → Prop} {fuel : Nat} {l l' : Array Bool} {a : Act} {w : World} (h : l = l') (H : wpAnyH P md ops Q S fuel l' a w) : wpAnyH P md ops Q S fuel l a w := by rw [h]; exact H

theorem joinC_any (u v : Value) (a b : List ByteArray) (w : World) (hj : joinOk a b = true) (hu : Strs w u a) (hv : Strs w v b) :
    Calls Try.prog 133 #[.agg #[u], .agg #[v]] w fun e w' => ∃ r, e = .returned (.agg #[r]) ∧ OwnS w' w.heap.size r (joinE a b) ∧ Below w.heap.size w w' := by
  obtain ⟨ea, eb, -, h7⟩ := joinOk_true.1 hj
  obtain ⟨a1, a7, -⟩ := engOk_iff.1 ea
  obtain ⟨b1, b7, -⟩ := engOk_iff.1 eb
  rw [joinE_yes hj]
  exact l7Join_any u v a b w hu hv ⟨a1, a7⟩ ⟨b1, b7⟩
theorem turnC_any (v : Value) (a b : List ByteArray) (w : World) (hj : joinOk a b = true) (hv : Strs w v (joinE a b)) :
    Calls Try.prog 132 #[.agg #[v]] w fun e w' => ∃ r, e = .returned (.agg #[r]) ∧ OwnS w' w.heap.size r (turnS (joinE a b)) ∧ Below w.heap.size w w' :=
  l3Turn_any v _ w hv (by rw [joinE_yes hj]; exact engOk_append hj)
theorem splitC_any (v : Value) (a b : List ByteArray) (w : World) (hj : joinOk a b = true) (hv : Strs w v (turnS (joinE a b))) :
    Calls Try.prog 131 #[.agg #[v], .int .i64 b.length] w (PairEng w (cA a b) (cB a b)) := by
  obtain ⟨ea, eb, -, h7⟩ := joinOk_true.1 hj
  obtain ⟨a1, a7, -⟩ := engOk_iff.1 ea
  obtain ⟨b1, b7, -⟩ := engOk_iff.1 eb
  rw [joinE_yes hj] at hv
  have hl : (turnS (b ++ a)).length = b.length + a.length := by rw [turnS_length, List.length_append]
  have h := l7Split_any v (turnS (b ++ a)) b.length w hv (by omega) b1 (by omega)
  obtain ⟨e1, e2⟩ := casc_split (a := a) (b := b) a1
  rw [e1, e2] at h
  rw [(cAB_yes hj).1, (cAB_yes hj).2]
  exact h

set_option maxHeartbeats 4000000 in
theorem specCasc_any (u v : Value) (a b : List ByteArray) (w : World) (hu : Strs w u a) (hv : Strs w v b) :
    Calls Try.prog 57 #[.agg #[u], .agg #[v]] w (TwoEng w (cA a b) (cB a b) (joinOk a b)) := by
  have HU := Lib.hid hu
  have HV := Lib.hid hv
  obtain ⟨A, c, rfl, -, -, -⟩ := hu.open_
  obtain ⟨Bv, d, rfl, -, -, -⟩ := hv.open_
  clear hu hv
  have B0 := Lib.hid (show Below w.heap.size w ((((w.alloc (.cells #[.slice A a.length c] 29)).alloc (.cells #[.slice Bv b.length d] 29)).alloc (.cells #[.slice none 0 0] 29)).alloc (.cells #[.slice none 0 0] 29)) from (((bel_alloc w _).alloc (by simp) _).alloc (by simp; omega) _).alloc (by simp; omega) _)
  have K0 := (((Blk.new' w 29 (.slice A a.length c) w.heap.size rfl).alloc (.cells #[.slice Bv b.length d] 29)).alloc (.cells #[.slice none 0 0] 29)).alloc (.cells #[.slice none 0 0] 29)
  have K1 := ((Blk.new' (w.alloc (.cells #[.slice A a.length c] 29)) 29 (.slice Bv b.length d) (w.heap.size + 1) (by simp)).alloc (.cells #[.slice none 0 0] 29)).alloc (.cells #[.slice none 0 0] 29)
  have K2 := (Blk.new' ((w.alloc (.cells #[.slice A a.length c] 29)).alloc (.cells #[.slice Bv b.length d] 29)) 29 (.slice none 0 0) (w.heap.size + 1 + 1) (by simp)).alloc (.cells #[.slice none 0 0] 29)
  have K3 := Blk.new' (((w.alloc (.cells #[.slice A a.length c] 29)).alloc (.cells #[.slice Bv b.length d] 29)).alloc (.cells #[.slice none 0 0] 29)) 29 (.slice none 0 0) (w.heap.size + 1 + 1 + 1) (by simp)
  obtain ⟨c0, -⟩ := K0.one
  obtain ⟨c1, -⟩ := K1.one
  go_enter Try.func57, Try.ntmps57
  go_wp2_with fail
  clear c0 c1
  generalize hW : (((w.alloc (.cells #[.slice A a.length c] 29)).alloc (.cells #[.slice Bv b.length d] 29)).alloc (.cells #[.slice none 0 0] 29)).alloc (.cells #[.slice none 0 0] 29) = W at *
  clear hW
  refine (l7Shape_any _ _ a b _ (HU.out.bel B0.out) (HV.out.bel B0.out)).mono ?_
  rintro e w2 ⟨rfl, hb⟩
  replace K0 := K0.below hb K0.lt
  replace K1 := K1.below hb K1.lt
  replace K2 := K2.below hb K2.lt
  replace K3 := K3.below hb K3.lt
  have HB := Lib.hid (bel_trans B0.out hb)
  have hz := HB.out.size
  clear hb
  obtain ⟨c0, -⟩ := K0.one
  obtain ⟨c1, -⟩ := K1.one
  cases hj : joinOk a b
  · have HN := Lib.hid (cAB_no hj)
    obtain ⟨c2, f2⟩ := K2.one
    obtain ⟨c3, f3⟩ := K3.one
    go_wp2
    refine bodyPost_ret (v := .tuple #[.agg #[.slice none 0 0], .agg #[.slice none 0 0], .bool false]) (by simp [results, Try.results57, go_sem, c2, c3]) rfl ⟨.slice none 0 0, .slice none 0 0, by rw [hj], ?_, ?_, (fun k hk => by cases hk), ?_⟩
    · rw [HN.out.1]; exact OwnS.nil_ _ _
    · rw [HN.out.2]; exact OwnS.nil_ _ _
    · exact (HB.out.setCell (by simp; omega) _).setCell (by simp; omega) _
  · obtain ⟨ea, eb, -, -⟩ := joinOk_true.1 hj
    obtain ⟨a1, a7, -⟩ := engOk_iff.1 ea
    obtain ⟨b1, b7, -⟩ := engOk_iff.1 eb
    clear ea eb
    go_wp2_with fail
    refine cut_by (P := ?Pq_2_3_7_11_12_13_14) ?hkq_2_3_7_11_12_13_14 (fun keyq_2_3_7_11_12_13_14 => ?mainq_2_3_7_11_12_13_14)
    case mainq_2_3_7_11_12_13_14 =>
      replace keyq_2_3_7_11_12_13_14 := Lib.hid keyq_2_3_7_11_12_13_14
      refine cut_by (P := ?Pq_2_3_7_11_12_13) ?hkq_2_3_7_11_12_13 (fun keyq_2_3_7_11_12_13 => ?mainq_2_3_7_11_12_13)
      case mainq_2_3_7_11_12_13 =>
        replace keyq_2_3_7_11_12_13 := Lib.hid keyq_2_3_7_11_12_13
        refine cut_by (P := ?Pq_2_3_7_11_12) ?hkq_2_3_7_11_12 (fun keyq_2_3_7_11_12 => ?mainq_2_3_7_11_12)
        case mainq_2_3_7_11_12 =>
          replace keyq_2_3_7_11_12 := Lib.hid keyq_2_3_7_11_12
          refine cut_by (P := ?Pq_2_3_11_12) ?hkq_2_3_11_12 (fun keyq_2_3_11_12 => ?mainq_2_3_11_12)
          case mainq_2_3_11_12 =>
            replace keyq_2_3_11_12 := Lib.hid keyq_2_3_11_12
            refine cut_by (P := ?Pq_2_3_7_12) ?hkq_2_3_7_12 (fun keyq_2_3_7_12 => ?mainq_2_3_7_12)
            case mainq_2_3_7_12 =>
              replace keyq_2_3_7_12 := Lib.hid keyq_2_3_7_12
              refine cut_by (P := ?Pq_2_3_7_11) ?hkq_2_3_7_11 (fun keyq_2_3_7_11 => ?mainq_2_3_7_11)
              case mainq_2_3_7_11 =>
                replace keyq_2_3_7_11 := Lib.hid keyq_2_3_7_11
                refine cut_by (P := ?Pq_2_11_12) ?hkq_2_11_12 (fun keyq_2_11_12 => ?mainq_2_11_12)
                case mainq_2_11_12 =>
                  replace keyq_2_11_12 := Lib.hid keyq_2_11_12
                  refine cut_by (P := ?Pq_2_3_12) ?hkq_2_3_12 (fun keyq_2_3_12 => ?mainq_2_3_12)
                  case mainq_2_3_12 =>
                    replace keyq_2_3_12 := Lib.hid keyq_2_3_12
                    refine cut_by (P := ?Pq_2_3_11) ?hkq_2_3_11 (fun keyq_2_3_11 => ?mainq_2_3_11)
                    case mainq_2_3_11 =>
                      replace keyq_2_3_11 := Lib.hid keyq_2_3_11
                      refine cut_by (P := ?Pq_2_3_7) ?hkq_2_3_7 (fun keyq_2_3_7 => ?mainq_2_3_7)
                      case mainq_2_3_7 =>
                        replace keyq_2_3_7 := Lib.hid keyq_2_3_7
                        refine cut_by (P := ?Pq_11_12) ?hkq_11_12 (fun keyq_11_12 => ?mainq_11_12)
                        case mainq_11_12 =>
                          replace keyq_11_12 := Lib.hid keyq_11_12
                          refine cut_by (P := ?Pq_2_12) ?hkq_2_12 (fun keyq_2_12 => ?mainq_2_12)
                          case mainq_2_12 =>
                            replace keyq_2_12 := Lib.hid keyq_2_12
                            refine cut_by (P := ?Pq_2_11) ?hkq_2_11 (fun keyq_2_11 => ?mainq_2_11)
                            case mainq_2_11 =>
                              replace keyq_2_11 := Lib.hid keyq_2_11
                              refine cut_by (P := ?Pq_2_3) ?hkq_2_3 (fun keyq_2_3 => ?mainq_2_3)
                              case mainq_2_3 =>
                                replace keyq_2_3 := Lib.hid keyq_2_3
                                refine cut_by (P := ?Pq_12) ?hkq_12 (fun keyq_12 => ?mainq_12)
                                case mainq_12 =>
                                  replace keyq_12 := Lib.hid keyq_12
                                  refine cut_by (P := ?Pq_11) ?hkq_11 (fun keyq_11 => ?mainq_11)
                                  case mainq_11 =>
                                    replace keyq_11 := Lib.hid keyq_11
                                    refine cut_by (P := ?Pq_2) ?hkq_2 (fun keyq_2 => ?mainq_2)
                                    case mainq_2 =>
                                      replace keyq_2 := Lib.hid keyq_2
                                      refine wp_region_held_drew (S := (fun w' => w'.cell? ⟨w.heap.size, 0, none⟩ = some (Value.slice A a.length c) ∧ w'.cell? ⟨w.heap.size + 1, 0, none⟩ = some (Value.slice Bv b.length d))) (by kernel_rfl) ?_ (fun hS => ?_)
                                      · skip
                                        exact ⟨c0, c1⟩
                                      have B : Below w2.heap.size w2 w2.drew := (Below.refl _ _).drew
                                      generalize hW : w2.drew = wr at *
                                      clear hW
                                      refine wpAnyH_take (i := 0) (oi := { dst := some 16, op := Op.load 29 (Operand.tmp 2), type := 29, pos := "l7_pairs.go:43", after := #[], guard := none }) (v := ?vq_1) rfl (by kernel_rfl) (by kernel_rfl) (by kernel_rfl) (fun _ _ _ h => h) (Or.inl ⟨by rfl, ?hyq_1⟩) hS ?restq_1
                                      case hyq_1 => (intro w' hSw; (try dsimp only at hSw); go_simp; all_goals with_reducible rfl)
                                      (try simp only [Act.put, List.setIfInBounds_toArray, List.set_cons_zero, List.set_cons_succ])
                                      refine wpAnyH_take (i := 1) (oi := { dst := some 17, op := Op.load 29 (Operand.tmp 3), type := 29, pos := "l7_pairs.go:43", after := #[], guard := none }) (v := ?vq_2) rfl (by kernel_rfl) (by kernel_rfl) (by kernel_rfl) (fun _ _ _ h => h) (Or.inl ⟨by rfl, ?hyq_2⟩) hS ?restq_2
                                      case hyq_2 => (intro w' hSw; (try dsimp only at hSw); go_simp; all_goals with_reducible rfl)
                                      (try simp only [Act.put, List.setIfInBounds_toArray, List.set_cons_zero, List.set_cons_succ])
                                      refine wpAnyH_take (i := 4) (oi := { dst := some 20, op := Op.fieldAddr 29 (Operand.tmp 3) 0, type := 0, pos := "l7_pairs.go:43", after := #[], guard := none }) (v := ?vq_3) rfl (by kernel_rfl) (by kernel_rfl) (by kernel_rfl) (fun _ _ _ h => h) (Or.inl ⟨by rfl, ?hyq_3⟩) hS ?restq_3
                                      case hyq_3 => (intro w' hSw; (try dsimp only at hSw); go_simp; all_goals with_reducible rfl)
                                      (try simp only [Act.put, List.setIfInBounds_toArray, List.set_cons_zero, List.set_cons_succ])
                                      refine wpAnyH_take (i := 5) (oi := { dst := some 21, op := Op.load 27 (Operand.tmp 20), type := 27, pos := "l7_pairs.go:43", after := #[{ on := 4, ground := Ground.data }], guard := none }) (v := ?vq_4) rfl (by kernel_rfl) (by kernel_rfl) (by kernel_rfl) (fun _ _ _ h => h) (Or.inl ⟨by rfl, ?hyq_4⟩) hS ?restq_4
                                      case hyq_4 => (intro w' hSw; (try dsimp only at hSw); go_simp; all_goals with_reducible rfl)
                                      (try simp only [Act.put, List.setIfInBounds_toArray, List.set_cons_zero, List.set_cons_succ])
                                      refine wpAnyH_take (i := 6) (oi := { dst := some 22, op := Op.call { callee := Callee.builtin Builtin.len, args := #[Operand.tmp 21], argTypes := #[27] }, type := 3, pos := "l7_pairs.go:43", after := #[{ on := 5, ground := Ground.data }], guard := none }) (v := ?vq_5) rfl (by kernel_rfl) (by kernel_rfl) (by kernel_rfl) (fun _ _ _ h => h) (Or.inl ⟨by rfl, ?hyq_5⟩) hS ?restq_5
                                      case hyq_5 => (intro w' hSw; (try dsimp only at hSw); go_simp; all_goals with_reducible rfl)
                                      (try simp only [Act.put, List.setIfInBounds_toArray, List.set_cons_zero, List.set_cons_succ])
                                      refine wpAnyH_listed (l' := #[true, true, false, false, true, true, true, false, false, false, false, false, false, false, false]) (by kernel_rfl) ?_
                                      clear hS
                                      refine wpAnyH_ready (rs := [2, 11, 12]) (by kernel_rfl) (by simp) ?_
                                      refine AllReadyH.cons (o := { dst := some 18, op := Op.call { callee := Callee.value (Operand.func 133), args := #[Operand.tmp 16, Operand.tmp 17], argTypes := #[29, 29] }, type := 29, pos := "l7_pairs.go:43", after := #[{ on := 0, ground := Ground.data }, { on := 1, ground := Ground.data }], guard := none }) rfl (fun K hK => ?_) ?_
                                      · skip
                                        (try go_simp)
                                        go_at_call 133
                                        refine (joinC_any _ _ a b _ hj ((HU.out.bel HB.out).bel B) ((HV.out.bel HB.out).bel B)).mono ?_
                                        rintro e wn ⟨r_j, rfl, o_j, b⟩
                                        have O_j := Lib.hid (o_j.lower B.size)
                                        replace B := bel_trans B b
                                        obtain ⟨A_j, c_j, rfl, -, -, -⟩ := o_j.strs.open_
                                        clear o_j
                                        clear b
                                        (try dsimp only)
                                        refine hK.out _ _ (by first | exact ⟨(B.cell (by exact K0.lt)).trans c0, (B.cell (by exact K1.lt)).trans c1⟩ | (dsimp only; exact ⟨(B.cell (by exact K0.lt)).trans c0, (B.cell (by exact K1.lt)).trans c1⟩)) (fun hS => ?_)
                                        clear hK K
                                        (try simp only [Act.put, List.setIfInBounds_toArray, List.set_cons_zero, List.set_cons_succ])
                                        refine wpAnyH_listed (l' := #[true, true, true, false, true, true, true, false, false, false, false, false, false, false, false]) (by kernel_rfl) ?_
                                        clear hS
                                        revert O_j; revert B
                                        revert c_j; revert A_j; revert wn
                                        exact keyq_2.out
                                      refine AllReadyH.cons (o := { dst := some 7, op := Op.alloc 29, type := 0, pos := "l7_pairs.go:43", after := #[], guard := none }) rfl (fun K hK => ?_) ?_
                                      · skip
                                        go_simp
                                        have H_u : w2.heap.size ≤ wr.heap.size := B.size
                                        replace B : Below w2.heap.size w2 (wr.alloc (.cells #[Value.slice none 0 0] 29)) := bel_trans B (bel_alloc wr _)
                                        have K_u := Blk.new' wr 29 (Value.slice none 0 0) wr.heap.size rfl
                                        refine hK.out _ _ (by first | exact ⟨(B.cell (by exact K0.lt)).trans c0, (B.cell (by exact K1.lt)).trans c1⟩ | (dsimp only; exact ⟨(B.cell (by exact K0.lt)).trans c0, (B.cell (by exact K1.lt)).trans c1⟩)) (fun hS => ?_)
                                        clear hK K
                                        (try simp only [Act.put, List.setIfInBounds_toArray, List.set_cons_zero, List.set_cons_succ])
                                        refine wpAnyH_listed (l' := #[true, true, false, false, true, true, true, false, false, false, false, true, false, false, false]) (by kernel_rfl) ?_
                                        clear hS
                                        revert H_u; revert K_u; revert B
                                        generalize (wr.alloc (.cells #[Value.slice none 0 0] 29)) = wn
                                        generalize wr.heap.size = ab_u
                                        revert ab_u; revert wn
                                        exact keyq_11.out
                                      refine AllReadyH.cons (o := { dst := some 8, op := Op.alloc 29, type := 0, pos := "l7_pairs.go:43", after := #[], guard := none }) rfl (fun K hK => ?_) ?_
                                      · skip
                                        go_simp
                                        have H_v : w2.heap.size ≤ wr.heap.size := B.size
                                        replace B : Below w2.heap.size w2 (wr.alloc (.cells #[Value.slice none 0 0] 29)) := bel_trans B (bel_alloc wr _)
                                        have K_v := Blk.new' wr 29 (Value.slice none 0 0) wr.heap.size rfl
                                        refine hK.out _ _ (by first | exact ⟨(B.cell (by exact K0.lt)).trans c0, (B.cell (by exact K1.lt)).trans c1⟩ | (dsimp only; exact ⟨(B.cell (by exact K0.lt)).trans c0, (B.cell (by exact K1.lt)).trans c1⟩)) (fun hS => ?_)
                                        clear hK K
                                        (try simp only [Act.put, List.setIfInBounds_toArray, List.set_cons_zero, List.set_cons_succ])
                                        refine wpAnyH_listed (l' := #[true, true, false, false, true, true, true, false, false, false, false, false, true, false, false]) (by kernel_rfl) ?_
                                        clear hS
                                        revert H_v; revert K_v; revert B
                                        generalize (wr.alloc (.cells #[Value.slice none 0 0] 29)) = wn
                                        generalize wr.heap.size = ab_v
                                        revert ab_v; revert wn
                                        exact keyq_12.out
                                      exact AllReadyH.nil
                                    case hkq_2 =>
                                      intro wr A_j c_j B O_j
                                      refine wpAnyH_ready (rs := [3, 11, 12]) (by kernel_rfl) (by simp) ?_
                                      refine AllReadyH.cons (o := { dst := some 19, op := Op.call { callee := Callee.value (Operand.func 132), args := #[Operand.tmp 18], argTypes := #[29] }, type := 29, pos := "l7_pairs.go:43", after := #[{ on := 2, ground := Ground.data }, { on := 2, ground := Ground.chain }], guard := none }) rfl (fun K hK => ?_) ?_
                                      · skip
                                        (try go_simp)
                                        go_at_call 132
                                        refine (turnC_any _ a b _ hj O_j.out.strs).mono ?_
                                        rintro e wn ⟨r_t, rfl, o_t, b⟩
                                        have O_t := Lib.hid (o_t.lower B.size)
                                        clear O_j 
                                        replace B := bel_trans B b
                                        obtain ⟨A_t, c_t, rfl, -, -, -⟩ := o_t.strs.open_
                                        clear o_t
                                        clear b
                                        (try dsimp only)
                                        refine hK.out _ _ (by first | exact ⟨(B.cell (by exact K0.lt)).trans c0, (B.cell (by exact K1.lt)).trans c1⟩ | (dsimp only; exact ⟨(B.cell (by exact K0.lt)).trans c0, (B.cell (by exact K1.lt)).trans c1⟩)) (fun hS => ?_)
                                        clear hK K
                                        (try simp only [Act.put, List.setIfInBounds_toArray, List.set_cons_zero, List.set_cons_succ])
                                        refine wpAnyH_listed (l' := #[true, true, true, true, true, true, true, false, false, false, false, false, false, false, false]) (by kernel_rfl) ?_
                                        clear hS
                                        revert O_t; revert B
                                        revert c_t; revert A_t; revert c_j; revert A_j; revert wn
                                        exact keyq_2_3.out
                                      refine AllReadyH.cons (o := { dst := some 7, op := Op.alloc 29, type := 0, pos := "l7_pairs.go:43", after := #[], guard := none }) rfl (fun K hK => ?_) ?_
                                      · skip
                                        go_simp
                                        have H_u : w2.heap.size ≤ wr.heap.size := B.size
                                        replace B : Below w2.heap.size w2 (wr.alloc (.cells #[Value.slice none 0 0] 29)) := bel_trans B (bel_alloc wr _)
                                        have K_u := Blk.new' wr 29 (Value.slice none 0 0) wr.heap.size rfl
                                        have N_u_j : Hid (∀ k, (Value.slice A_j (joinE a b).length c_j).ownBlock = some k → k ≠ wr.heap.size) := Lib.hid (fun k hk => by have p1 := (O_j.out.lt k hk).2; omega)
                                        replace O_j := Lib.hid (O_j.out.bel (bel_alloc wr (.cells #[Value.slice none 0 0] 29)))
                                        refine hK.out _ _ (by first | exact ⟨(B.cell (by exact K0.lt)).trans c0, (B.cell (by exact K1.lt)).trans c1⟩ | (dsimp only; exact ⟨(B.cell (by exact K0.lt)).trans c0, (B.cell (by exact K1.lt)).trans c1⟩)) (fun hS => ?_)
                                        clear hK K
                                        (try simp only [Act.put, List.setIfInBounds_toArray, List.set_cons_zero, List.set_cons_succ])
                                        refine wpAnyH_listed (l' := #[true, true, true, false, true, true, true, false, false, false, false, true, false, false, false]) (by kernel_rfl) ?_
                                        clear hS
                                        revert N_u_j; revert H_u; revert K_u; revert O_j; revert B
                                        generalize (wr.alloc (.cells #[Value.slice none 0 0] 29)) = wn
                                        generalize wr.heap.size = ab_u
                                        revert ab_u; revert c_j; revert A_j; revert wn
                                        exact keyq_2_11.out
                                      refine AllReadyH.cons (o := { dst := some 8, op := Op.alloc 29, type := 0, pos := "l7_pairs.go:43", after := #[], guard := none }) rfl (fun K hK => ?_) ?_
                                      · skip
                                        go_simp
                                        have H_v : w2.heap.size ≤ wr.heap.size := B.size
                                        replace B : Below w2.heap.size w2 (wr.alloc (.cells #[Value.slice none 0 0] 29)) := bel_trans B (bel_alloc wr _)
                                        have K_v := Blk.new' wr 29 (Value.slice none 0 0) wr.heap.size rfl
                                        have N_v_j : Hid (∀ k, (Value.slice A_j (joinE a b).length c_j).ownBlock = some k → k ≠ wr.heap.size) := Lib.hid (fun k hk => by have p1 := (O_j.out.lt k hk).2; omega)
                                        replace O_j := Lib.hid (O_j.out.bel (bel_alloc wr (.cells #[Value.slice none 0 0] 29)))
                                        refine hK.out _ _ (by first | exact ⟨(B.cell (by exact K0.lt)).trans c0, (B.cell (by exact K1.lt)).trans c1⟩ | (dsimp only; exact ⟨(B.cell (by exact K0.lt)).trans c0, (B.cell (by exact K1.lt)).trans c1⟩)) (fun hS => ?_)
                                        clear hK K
                                        (try simp only [Act.put, List.setIfInBounds_toArray, List.set_cons_zero, List.set_cons_succ])
                                        refine wpAnyH_listed (l' := #[true, true, true, false, true, true, true, false, false, false, false, false, true, false, false]) (by kernel_rfl) ?_
                                        clear hS
                                        revert N_v_j; revert H_v; revert K_v; revert O_j; revert B
                                        generalize (wr.alloc (.cells #[Value.slice none 0 0] 29)) = wn
                                        generalize wr.heap.size = ab_v
                                        revert ab_v; revert c_j; revert A_j; revert wn
                                        exact keyq_2_12.out
                                      exact AllReadyH.nil
                                  case hkq_11 =>
                                    intro wr ab_u B K_u H_u
                                    refine wpAnyH_ready (rs := [2, 12]) (by kernel_rfl) (by simp) ?_
                                    refine AllReadyH.cons (o := { dst := some 18, op := Op.call { callee := Callee.value (Operand.func 133), args := #[Operand.tmp 16, Operand.tmp 17], argTypes := #[29, 29] }, type := 29, pos := "l7_pairs.go:43", after := #[{ on := 0, ground := Ground.data }, { on := 1, ground := Ground.data }], guard := none }) rfl (fun K hK => ?_) ?_
                                    · skip
                                      (try go_simp)
                                      go_at_call 133
                                      refine (joinC_any _ _ a b _ hj ((HU.out.bel HB.out).bel B) ((HV.out.bel HB.out).bel B)).mono ?_
                                      rintro e wn ⟨r_j, rfl, o_j, b⟩
                                      have N_u_j : Hid (∀ k, r_j.ownBlock = some k → k ≠ ab_u) := Lib.hid (fun k hk => by have p1 := (o_j.lt k hk).1; have p2 := K_u.lt; omega)
                                      have O_j := Lib.hid (o_j.lower B.size)
                                      replace K_u := K_u.below b K_u.lt
                                      replace B := bel_trans B b
                                      obtain ⟨A_j, c_j, rfl, -, -, -⟩ := o_j.strs.open_
                                      clear o_j
                                      clear b
                                      (try dsimp only)
                                      refine hK.out _ _ (by first | exact ⟨(B.cell (by exact K0.lt)).trans c0, (B.cell (by exact K1.lt)).trans c1⟩ | (dsimp only; exact ⟨(B.cell (by exact K0.lt)).trans c0, (B.cell (by exact K1.lt)).trans c1⟩)) (fun hS => ?_)
                                      clear hK K
                                      (try simp only [Act.put, List.setIfInBounds_toArray, List.set_cons_zero, List.set_cons_succ])
                                      refine wpAnyH_listed (l' := #[true, true, true, false, true, true, true, false, false, false, false, true, false, false, false]) (by kernel_rfl) ?_
                                      clear hS
                                      revert N_u_j; revert H_u; revert K_u; revert O_j; revert B
                                      revert ab_u; revert c_j; revert A_j; revert wn
                                      exact keyq_2_11.out
                                    refine AllReadyH.cons (o := { dst := some 8, op := Op.alloc 29, type := 0, pos := "l7_pairs.go:43", after := #[], guard := none }) rfl (fun K hK => ?_) ?_
                                    · skip
                                      go_simp
                                      have H_v : w2.heap.size ≤ wr.heap.size := B.size
                                      replace B : Below w2.heap.size w2 (wr.alloc (.cells #[Value.slice none 0 0] 29)) := bel_trans B (bel_alloc wr _)
                                      have X_q : ab_u ≠ wr.heap.size := by have := K_u.lt; omega
                                      replace K_u := K_u.alloc (.cells #[Value.slice none 0 0] 29)
                                      have K_v := Blk.new' wr 29 (Value.slice none 0 0) wr.heap.size rfl
                                      refine hK.out _ _ (by first | exact ⟨(B.cell (by exact K0.lt)).trans c0, (B.cell (by exact K1.lt)).trans c1⟩ | (dsimp only; exact ⟨(B.cell (by exact K0.lt)).trans c0, (B.cell (by exact K1.lt)).trans c1⟩)) (fun hS => ?_)
                                      clear hK K
                                      (try simp only [Act.put, List.setIfInBounds_toArray, List.set_cons_zero, List.set_cons_succ])
                                      refine wpAnyH_listed (l' := #[true, true, false, false, true, true, true, false, false, false, false, true, true, false, false]) (by kernel_rfl) ?_
                                      clear hS
                                      revert X_q; revert H_v; revert K_v; revert H_u; revert K_u; revert B
                                      generalize (wr.alloc (.cells #[Value.slice none 0 0] 29)) = wn
                                      generalize wr.heap.size = ab_v
                                      revert ab_v; revert ab_u; revert wn
                                      exact keyq_11_12.out
                                    exact AllReadyH.nil
                                case hkq_12 =>
                                  intro wr ab_v B K_v H_v
                                  refine wpAnyH_ready (rs := [2, 11]) (by kernel_rfl) (by simp) ?_
                                  refine AllReadyH.cons (o := { dst := some 18, op := Op.call { callee := Callee.value (Operand.func 133), args := #[Operand.tmp 16, Operand.tmp 17], argTypes := #[29, 29] }, type := 29, pos := "l7_pairs.go:43", after := #[{ on := 0, ground := Ground.data }, { on := 1, ground := Ground.data }], guard := none }) rfl (fun K hK => ?_) ?_
                                  · skip
                                    (try go_simp)
                                    go_at_call 133
                                    refine (joinC_any _ _ a b _ hj ((HU.out.bel HB.out).bel B) ((HV.out.bel HB.out).bel B)).mono ?_
                                    rintro e wn ⟨r_j, rfl, o_j, b⟩
                                    have N_v_j : Hid (∀ k, r_j.ownBlock = some k → k ≠ ab_v) := Lib.hid (fun k hk => by have p1 := (o_j.lt k hk).1; have p2 := K_v.lt; omega)
                                    have O_j := Lib.hid (o_j.lower B.size)
                                    replace K_v := K_v.below b K_v.lt
                                    replace B := bel_trans B b
                                    obtain ⟨A_j, c_j, rfl, -, -, -⟩ := o_j.strs.open_
                                    clear o_j
                                    clear b
                                    (try dsimp only)
                                    refine hK.out _ _ (by first | exact ⟨(B.cell (by exact K0.lt)).trans c0, (B.cell (by exact K1.lt)).trans c1⟩ | (dsimp only; exact ⟨(B.cell (by exact K0.lt)).trans c0, (B.cell (by exact K1.lt)).trans c1⟩)) (fun hS => ?_)
                                    clear hK K
                                    (try simp only [Act.put, List.setIfInBounds_toArray, List.set_cons_zero, List.set_cons_succ])
                                    refine wpAnyH_listed (l' := #[true, true, true, false, true, true, true, false, false, false, false, false, true, false, false]) (by kernel_rfl) ?_
                                    clear hS
                                    revert N_v_j; revert H_v; revert K_v; revert O_j; revert B
                                    revert ab_v; revert c_j; revert A_j; revert wn
                                    exact keyq_2_12.out
                                  refine AllReadyH.cons (o := { dst := some 7, op := Op.alloc 29, type := 0, pos := "l7_pairs.go:43", after := #[], guard := none }) rfl (fun K hK => ?_) ?_
                                  · skip
                                    go_simp
                                    have H_u : w2.heap.size ≤ wr.heap.size := B.size
                                    replace B : Below w2.heap.size w2 (wr.alloc (.cells #[Value.slice none 0 0] 29)) := bel_trans B (bel_alloc wr _)
                                    have X_q : wr.heap.size ≠ ab_v := by have := K_v.lt; omega
                                    replace K_v := K_v.alloc (.cells #[Value.slice none 0 0] 29)
                                    have K_u := Blk.new' wr 29 (Value.slice none 0 0) wr.heap.size rfl
                                    refine hK.out _ _ (by first | exact ⟨(B.cell (by exact K0.lt)).trans c0, (B.cell (by exact K1.lt)).trans c1⟩ | (dsimp only; exact ⟨(B.cell (by exact K0.lt)).trans c0, (B.cell (by exact K1.lt)).trans c1⟩)) (fun hS => ?_)
                                    clear hK K
                                    (try simp only [Act.put, List.setIfInBounds_toArray, List.set_cons_zero, List.set_cons_succ])
                                    refine wpAnyH_listed (l' := #[true, true, false, false, true, true, true, false, false, false, false, true, true, false, false]) (by kernel_rfl) ?_
                                    clear hS
                                    revert X_q; revert H_v; revert K_v; revert H_u; revert K_u; revert B
                                    generalize (wr.alloc (.cells #[Value.slice none 0 0] 29)) = wn
                                    generalize wr.heap.size = ab_u
                                    revert ab_v; revert ab_u; revert wn
                                    exact keyq_11_12.out
                                  exact AllReadyH.nil
                              case hkq_2_3 =>
                                intro wr A_j c_j A_t c_t B O_t
                                refine wpAnyH_ready (rs := [7, 11, 12]) (by kernel_rfl) (by simp) ?_
                                refine AllReadyH.cons (o := { dst := some 23, op := Op.call { callee := Callee.value (Operand.func 131), args := #[Operand.tmp 19, Operand.tmp 22], argTypes := #[29, 3] }, type := 79, pos := "l7_pairs.go:43", after := #[{ on := 3, ground := Ground.data }, { on := 6, ground := Ground.data }, { on := 3, ground := Ground.chain }], guard := none }) rfl (fun K hK => ?_) ?_
                                · skip
                                  (try go_simp)
                                  go_at_call 131
                                  refine (splitC_any _ a b _ hj O_t.out.strs).mono ?_
                                  rintro e wn ⟨r_x, r_y, rfl, o_x, o_y, dxy, b⟩
                                  have D_q := Lib.hid dxy
                                  have O_x := Lib.hid (o_x.lower B.size)
                                  have O_y := Lib.hid (o_y.lower B.size)
                                  clear O_t 
                                  replace B := bel_trans B b
                                  obtain ⟨A_x, c_x, rfl, -, -, -⟩ := o_x.strs.open_
                                  clear o_x
                                  obtain ⟨A_y, c_y, rfl, -, -, -⟩ := o_y.strs.open_
                                  clear o_y
                                  clear b dxy
                                  (try dsimp only)
                                  refine hK.out _ _ (by first | exact ⟨(B.cell (by exact K0.lt)).trans c0, (B.cell (by exact K1.lt)).trans c1⟩ | (dsimp only; exact ⟨(B.cell (by exact K0.lt)).trans c0, (B.cell (by exact K1.lt)).trans c1⟩)) (fun hS => ?_)
                                  clear hK K
                                  (try simp only [Act.put, List.setIfInBounds_toArray, List.set_cons_zero, List.set_cons_succ])
                                  refine wpAnyH_take (i := 8) (oi := { dst := some 15, op := Op.move (Operand.tmp 23), type := 79, pos := "l7_pairs.go:43", after := #[{ on := 7, ground := Ground.data }], guard := none }) (v := ?vq_6) rfl (by kernel_rfl) (by kernel_rfl) (by kernel_rfl) (fun _ _ _ h => h) (Or.inl ⟨by rfl, ?hyq_6⟩) hS ?restq_6
                                  case hyq_6 => (intro w' hSw; (try dsimp only at hSw); go_simp; all_goals with_reducible rfl)
                                  (try simp only [Act.put, List.setIfInBounds_toArray, List.set_cons_zero, List.set_cons_succ])
                                  refine wpAnyH_take (i := 9) (oi := { dst := some 24, op := Op.extract (Operand.tmp 15) 0, type := 29, pos := "l7_pairs.go:43", after := #[{ on := 8, ground := Ground.data }], guard := none }) (v := ?vq_7) rfl (by kernel_rfl) (by kernel_rfl) (by kernel_rfl) (fun _ _ _ h => h) (Or.inl ⟨by rfl, ?hyq_7⟩) hS ?restq_7
                                  case hyq_7 => (intro w' hSw; (try dsimp only at hSw); go_simp; all_goals with_reducible rfl)
                                  (try simp only [Act.put, List.setIfInBounds_toArray, List.set_cons_zero, List.set_cons_succ])
                                  refine wpAnyH_take (i := 10) (oi := { dst := some 25, op := Op.extract (Operand.tmp 15) 1, type := 29, pos := "l7_pairs.go:43", after := #[{ on := 8, ground := Ground.data }, { on := 13, ground := Ground.gcOnly Departure.lateStores }], guard := none }) (v := ?vq_8) rfl (by kernel_rfl) (by kernel_rfl) (by kernel_rfl) (fun _ _ _ h => h) (Or.inl ⟨by rfl, ?hyq_8⟩) hS ?restq_8
                                  case hyq_8 => (intro w' hSw; (try dsimp only at hSw); go_simp; all_goals with_reducible rfl)
                                  (try simp only [Act.put, List.setIfInBounds_toArray, List.set_cons_zero, List.set_cons_succ])
                                  refine wpAnyH_listed (l' := #[true, true, true, true, true, true, true, true, true, true, true, false, false, false, false]) (by kernel_rfl) ?_
                                  clear hS
                                  revert D_q; revert O_y; revert O_x; revert B
                                  revert c_y; revert A_y; revert c_x; revert A_x; revert c_t; revert A_t; revert c_j; revert A_j; revert wn
                                  exact keyq_2_3_7.out
                                refine AllReadyH.cons (o := { dst := some 7, op := Op.alloc 29, type := 0, pos := "l7_pairs.go:43", after := #[], guard := none }) rfl (fun K hK => ?_) ?_
                                · skip
                                  go_simp
                                  have H_u : w2.heap.size ≤ wr.heap.size := B.size
                                  replace B : Below w2.heap.size w2 (wr.alloc (.cells #[Value.slice none 0 0] 29)) := bel_trans B (bel_alloc wr _)
                                  have K_u := Blk.new' wr 29 (Value.slice none 0 0) wr.heap.size rfl
                                  have N_u_t : Hid (∀ k, (Value.slice A_t (turnS (joinE a b)).length c_t).ownBlock = some k → k ≠ wr.heap.size) := Lib.hid (fun k hk => by have p1 := (O_t.out.lt k hk).2; omega)
                                  replace O_t := Lib.hid (O_t.out.bel (bel_alloc wr (.cells #[Value.slice none 0 0] 29)))
                                  refine hK.out _ _ (by first | exact ⟨(B.cell (by exact K0.lt)).trans c0, (B.cell (by exact K1.lt)).trans c1⟩ | (dsimp only; exact ⟨(B.cell (by exact K0.lt)).trans c0, (B.cell (by exact K1.lt)).trans c1⟩)) (fun hS => ?_)
                                  clear hK K
                                  (try simp only [Act.put, List.setIfInBounds_toArray, List.set_cons_zero, List.set_cons_succ])
                                  refine wpAnyH_listed (l' := #[true, true, true, true, true, true, true, false, false, false, false, true, false, false, false]) (by kernel_rfl) ?_
                                  clear hS
                                  revert N_u_t; revert H_u; revert K_u; revert O_t; revert B
                                  generalize (wr.alloc (.cells #[Value.slice none 0 0] 29)) = wn
                                  generalize wr.heap.size = ab_u
                                  revert ab_u; revert c_t; revert A_t; revert c_j; revert A_j; revert wn
                                  exact keyq_2_3_11.out
                                refine AllReadyH.cons (o := { dst := some 8, op := Op.alloc 29, type := 0, pos := "l7_pairs.go:43", after := #[], guard := none }) rfl (fun K hK => ?_) ?_
                                · skip
                                  go_simp
                                  have H_v : w2.heap.size ≤ wr.heap.size := B.size
                                  replace B : Below w2.heap.size w2 (wr.alloc (.cells #[Value.slice none 0 0] 29)) := bel_trans B (bel_alloc wr _)
                                  have K_v := Blk.new' wr 29 (Value.slice none 0 0) wr.heap.size rfl
                                  have N_v_t : Hid (∀ k, (Value.slice A_t (turnS (joinE a b)).length c_t).ownBlock = some k → k ≠ wr.heap.size) := Lib.hid (fun k hk => by have p1 := (O_t.out.lt k hk).2; omega)
                                  replace O_t := Lib.hid (O_t.out.bel (bel_alloc wr (.cells #[Value.slice none 0 0] 29)))
                                  refine hK.out _ _ (by first | exact ⟨(B.cell (by exact K0.lt)).trans c0, (B.cell (by exact K1.lt)).trans c1⟩ | (dsimp only; exact ⟨(B.cell (by exact K0.lt)).trans c0, (B.cell (by exact K1.lt)).trans c1⟩)) (fun hS => ?_)
                                  clear hK K
                                  (try simp only [Act.put, List.setIfInBounds_toArray, List.set_cons_zero, List.set_cons_succ])
                                  refine wpAnyH_listed (l' := #[true, true, true, true, true, true, true, false, false, false, false, false, true, false, false]) (by kernel_rfl) ?_
                                  clear hS
                                  revert N_v_t; revert H_v; revert K_v; revert O_t; revert B
                                  generalize (wr.alloc (.cells #[Value.slice none 0 0] 29)) = wn
                                  generalize wr.heap.size = ab_v
                                  revert ab_v; revert c_t; revert A_t; revert c_j; revert A_j; revert wn
                                  exact keyq_2_3_12.out
                                exact AllReadyH.nil
                            case hkq_2_11 =>
                              intro wr A_j c_j ab_u B O_j K_u H_u N_u_j
                              refine wpAnyH_ready (rs := [3, 12]) (by kernel_rfl) (by simp) ?_
                              refine AllReadyH.cons (o := { dst := some 19, op := Op.call { callee := Callee.value (Operand.func 132), args := #[Operand.tmp 18], argTypes := #[29] }, type := 29, pos := "l7_pairs.go:43", after := #[{ on := 2, ground := Ground.data }, { on := 2, ground := Ground.chain }], guard := none }) rfl (fun K hK => ?_) ?_
                              · skip
                                (try go_simp)
                                go_at_call 132
                                refine (turnC_any _ a b _ hj O_j.out.strs).mono ?_
                                rintro e wn ⟨r_t, rfl, o_t, b⟩
                                have N_u_t : Hid (∀ k, r_t.ownBlock = some k → k ≠ ab_u) := Lib.hid (fun k hk => by have p1 := (o_t.lt k hk).1; have p2 := K_u.lt; omega)
                                have O_t := Lib.hid (o_t.lower B.size)
                                replace K_u := K_u.below b K_u.lt
                                clear O_j N_u_j
                                replace B := bel_trans B b
                                obtain ⟨A_t, c_t, rfl, -, -, -⟩ := o_t.strs.open_
                                clear o_t
                                clear b
                                (try dsimp only)
                                refine hK.out _ _ (by first | exact ⟨(B.cell (by exact K0.lt)).trans c0, (B.cell (by exact K1.lt)).trans c1⟩ | (dsimp only; exact ⟨(B.cell (by exact K0.lt)).trans c0, (B.cell (by exact K1.lt)).trans c1⟩)) (fun hS => ?_)
                                clear hK K
                                (try simp only [Act.put, List.setIfInBounds_toArray, List.set_cons_zero, List.set_cons_succ])
                                refine wpAnyH_listed (l' := #[true, true, true, true, true, true, true, false, false, false, false, true, false, false, false]) (by kernel_rfl) ?_
                                clear hS
                                revert N_u_t; revert H_u; revert K_u; revert O_t; revert B
                                revert ab_u; revert c_t; revert A_t; revert c_j; revert A_j; revert wn
                                exact keyq_2_3_11.out
                              refine AllReadyH.cons (o := { dst := some 8, op := Op.alloc 29, type := 0, pos := "l7_pairs.go:43", after := #[], guard := none }) rfl (fun K hK => ?_) ?_
                              · skip
                                go_simp
                                have H_v : w2.heap.size ≤ wr.heap.size := B.size
                                replace B : Below w2.heap.size w2 (wr.alloc (.cells #[Value.slice none 0 0] 29)) := bel_trans B (bel_alloc wr _)
                                have X_q : ab_u ≠ wr.heap.size := by have := K_u.lt; omega
                                replace K_u := K_u.alloc (.cells #[Value.slice none 0 0] 29)
                                have K_v := Blk.new' wr 29 (Value.slice none 0 0) wr.heap.size rfl
                                have N_v_j : Hid (∀ k, (Value.slice A_j (joinE a b).length c_j).ownBlock = some k → k ≠ wr.heap.size) := Lib.hid (fun k hk => by have p1 := (O_j.out.lt k hk).2; omega)
                                replace O_j := Lib.hid (O_j.out.bel (bel_alloc wr (.cells #[Value.slice none 0 0] 29)))
                                refine hK.out _ _ (by first | exact ⟨(B.cell (by exact K0.lt)).trans c0, (B.cell (by exact K1.lt)).trans c1⟩ | (dsimp only; exact ⟨(B.cell (by exact K0.lt)).trans c0, (B.cell (by exact K1.lt)).trans c1⟩)) (fun hS => ?_)
                                clear hK K
                                (try simp only [Act.put, List.setIfInBounds_toArray, List.set_cons_zero, List.set_cons_succ])
                                refine wpAnyH_listed (l' := #[true, true, true, false, true, true, true, false, false, false, false, true, true, false, false]) (by kernel_rfl) ?_
                                clear hS
                                revert N_v_j; revert N_u_j; revert X_q; revert H_v; revert K_v; revert H_u; revert K_u; revert O_j; revert B
                                generalize (wr.alloc (.cells #[Value.slice none 0 0] 29)) = wn
                                generalize wr.heap.size = ab_v
                                revert ab_v; revert ab_u; revert c_j; revert A_j; revert wn
                                exact keyq_2_11_12.out
                              exact AllReadyH.nil
                          case hkq_2_12 =>
                            intro wr A_j c_j ab_v B O_j K_v H_v N_v_j
                            refine wpAnyH_ready (rs := [3, 11]) (by kernel_rfl) (by simp) ?_
                            refine AllReadyH.cons (o := { dst := some 19, op := Op.call { callee := Callee.value (Operand.func 132), args := #[Operand.tmp 18], argTypes := #[29] }, type := 29, pos := "l7_pairs.go:43", after := #[{ on := 2, ground := Ground.data }, { on := 2, ground := Ground.chain }], guard := none }) rfl (fun K hK => ?_) ?_
                            · skip
                              (try go_simp)
                              go_at_call 132
                              refine (turnC_any _ a b _ hj O_j.out.strs).mono ?_
                              rintro e wn ⟨r_t, rfl, o_t, b⟩
                              have N_v_t : Hid (∀ k, r_t.ownBlock = some k → k ≠ ab_v) := Lib.hid (fun k hk => by have p1 := (o_t.lt k hk).1; have p2 := K_v.lt; omega)
                              have O_t := Lib.hid (o_t.lower B.size)
                              replace K_v := K_v.below b K_v.lt
                              clear O_j N_v_j
                              replace B := bel_trans B b
                              obtain ⟨A_t, c_t, rfl, -, -, -⟩ := o_t.strs.open_
                              clear o_t
                              clear b
                              (try dsimp only)
                              refine hK.out _ _ (by first | exact ⟨(B.cell (by exact K0.lt)).trans c0, (B.cell (by exact K1.lt)).trans c1⟩ | (dsimp only; exact ⟨(B.cell (by exact K0.lt)).trans c0, (B.cell (by exact K1.lt)).trans c1⟩)) (fun hS => ?_)
                              clear hK K
                              (try simp only [Act.put, List.setIfInBounds_toArray, List.set_cons_zero, List.set_cons_succ])
                              refine wpAnyH_listed (l' := #[true, true, true, true, true, true, true, false, false, false, false, false, true, false, false]) (by kernel_rfl) ?_
                              clear hS
                              revert N_v_t; revert H_v; revert K_v; revert O_t; revert B
                              revert ab_v; revert c_t; revert A_t; revert c_j; revert A_j; revert wn
                              exact keyq_2_3_12.out
                            refine AllReadyH.cons (o := { dst := some 7, op := Op.alloc 29, type := 0, pos := "l7_pairs.go:43", after := #[], guard := none }) rfl (fun K hK => ?_) ?_
                            · skip
                              go_simp
                              have H_u : w2.heap.size ≤ wr.heap.size := B.size
                              replace B : Below w2.heap.size w2 (wr.alloc (.cells #[Value.slice none 0 0] 29)) := bel_trans B (bel_alloc wr _)
                              have X_q : wr.heap.size ≠ ab_v := by have := K_v.lt; omega
                              replace K_v := K_v.alloc (.cells #[Value.slice none 0 0] 29)
                              have K_u := Blk.new' wr 29 (Value.slice none 0 0) wr.heap.size rfl
                              have N_u_j : Hid (∀ k, (Value.slice A_j (joinE a b).length c_j).ownBlock = some k → k ≠ wr.heap.size) := Lib.hid (fun k hk => by have p1 := (O_j.out.lt k hk).2; omega)
                              replace O_j := Lib.hid (O_j.out.bel (bel_alloc wr (.cells #[Value.slice none 0 0] 29)))
                              refine hK.out _ _ (by first | exact ⟨(B.cell (by exact K0.lt)).trans c0, (B.cell (by exact K1.lt)).trans c1⟩ | (dsimp only; exact ⟨(B.cell (by exact K0.lt)).trans c0, (B.cell (by exact K1.lt)).trans c1⟩)) (fun hS => ?_)
                              clear hK K
                              (try simp only [Act.put, List.setIfInBounds_toArray, List.set_cons_zero, List.set_cons_succ])
                              refine wpAnyH_listed (l' := #[true, true, true, false, true, true, true, false, false, false, false, true, true, false, false]) (by kernel_rfl) ?_
                              clear hS
                              revert N_v_j; revert N_u_j; revert X_q; revert H_v; revert K_v; revert H_u; revert K_u; revert O_j; revert B
                              generalize (wr.alloc (.cells #[Value.slice none 0 0] 29)) = wn
                              generalize wr.heap.size = ab_u
                              revert ab_v; revert ab_u; revert c_j; revert A_j; revert wn
                              exact keyq_2_11_12.out
                            exact AllReadyH.nil
                        case hkq_11_12 =>
                          intro wr ab_u ab_v B K_u H_u K_v H_v X_q
                          refine wpAnyH_ready (rs := [2]) (by kernel_rfl) (by simp) ?_
                          refine AllReadyH.cons (o := { dst := some 18, op := Op.call { callee := Callee.value (Operand.func 133), args := #[Operand.tmp 16, Operand.tmp 17], argTypes := #[29, 29] }, type := 29, pos := "l7_pairs.go:43", after := #[{ on := 0, ground := Ground.data }, { on := 1, ground := Ground.data }], guard := none }) rfl (fun K hK => ?_) ?_
                          · skip
                            (try go_simp)
                            go_at_call 133
                            refine (joinC_any _ _ a b _ hj ((HU.out.bel HB.out).bel B) ((HV.out.bel HB.out).bel B)).mono ?_
                            rintro e wn ⟨r_j, rfl, o_j, b⟩
                            have N_u_j : Hid (∀ k, r_j.ownBlock = some k → k ≠ ab_u) := Lib.hid (fun k hk => by have p1 := (o_j.lt k hk).1; have p2 := K_u.lt; omega)
                            have N_v_j : Hid (∀ k, r_j.ownBlock = some k → k ≠ ab_v) := Lib.hid (fun k hk => by have p1 := (o_j.lt k hk).1; have p2 := K_v.lt; omega)
                            have O_j := Lib.hid (o_j.lower B.size)
                            replace K_u := K_u.below b K_u.lt
                            replace K_v := K_v.below b K_v.lt
                            replace B := bel_trans B b
                            obtain ⟨A_j, c_j, rfl, -, -, -⟩ := o_j.strs.open_
                            clear o_j
                            clear b
                            (try dsimp only)
                            refine hK.out _ _ (by first | exact ⟨(B.cell (by exact K0.lt)).trans c0, (B.cell (by exact K1.lt)).trans c1⟩ | (dsimp only; exact ⟨(B.cell (by exact K0.lt)).trans c0, (B.cell (by exact K1.lt)).trans c1⟩)) (fun hS => ?_)
                            clear hK K
                            (try simp only [Act.put, List.setIfInBounds_toArray, List.set_cons_zero, List.set_cons_succ])
                            refine wpAnyH_listed (l' := #[true, true, true, false, true, true, true, false, false, false, false, true, true, false, false]) (by kernel_rfl) ?_
                            clear hS
                            revert N_v_j; revert N_u_j; revert X_q; revert H_v; revert K_v; revert H_u; revert K_u; revert O_j; revert B
                            revert ab_v; revert ab_u; revert c_j; revert A_j; revert wn
                            exact keyq_2_11_12.out
                          exact AllReadyH.nil
                      case hkq_2_3_7 =>
                        intro wr A_j c_j A_t c_t A_x c_x A_y c_y B O_x O_y D_q
                        refine wpAnyH_ready (rs := [11, 12]) (by kernel_rfl) (by simp) ?_
                        refine AllReadyH.cons (o := { dst := some 7, op := Op.alloc 29, type := 0, pos := "l7_pairs.go:43", after := #[], guard := none }) rfl (fun K hK => ?_) ?_
                        · skip
                          go_simp
                          have H_u : w2.heap.size ≤ wr.heap.size := B.size
                          replace B : Below w2.heap.size w2 (wr.alloc (.cells #[Value.slice none 0 0] 29)) := bel_trans B (bel_alloc wr _)
                          have K_u := Blk.new' wr 29 (Value.slice none 0 0) wr.heap.size rfl
                          have N_u_x : Hid (∀ k, (Value.slice A_x (cA a b).length c_x).ownBlock = some k → k ≠ wr.heap.size) := Lib.hid (fun k hk => by have p1 := (O_x.out.lt k hk).2; omega)
                          replace O_x := Lib.hid (O_x.out.bel (bel_alloc wr (.cells #[Value.slice none 0 0] 29)))
                          have N_u_y : Hid (∀ k, (Value.slice A_y (cB a b).length c_y).ownBlock = some k → k ≠ wr.heap.size) := Lib.hid (fun k hk => by have p1 := (O_y.out.lt k hk).2; omega)
                          replace O_y := Lib.hid (O_y.out.bel (bel_alloc wr (.cells #[Value.slice none 0 0] 29)))
                          refine hK.out _ _ (by first | exact ⟨(B.cell (by exact K0.lt)).trans c0, (B.cell (by exact K1.lt)).trans c1⟩ | (dsimp only; exact ⟨(B.cell (by exact K0.lt)).trans c0, (B.cell (by exact K1.lt)).trans c1⟩)) (fun hS => ?_)
                          clear hK K
                          (try simp only [Act.put, List.setIfInBounds_toArray, List.set_cons_zero, List.set_cons_succ])
                          refine wpAnyH_listed (l' := #[true, true, true, true, true, true, true, true, true, true, true, true, false, false, false]) (by kernel_rfl) ?_
                          clear hS
                          revert N_u_y; revert N_u_x; revert H_u; revert K_u; revert D_q; revert O_y; revert O_x; revert B
                          generalize (wr.alloc (.cells #[Value.slice none 0 0] 29)) = wn
                          generalize wr.heap.size = ab_u
                          revert ab_u; revert c_y; revert A_y; revert c_x; revert A_x; revert c_t; revert A_t; revert c_j; revert A_j; revert wn
                          exact keyq_2_3_7_11.out
                        refine AllReadyH.cons (o := { dst := some 8, op := Op.alloc 29, type := 0, pos := "l7_pairs.go:43", after := #[], guard := none }) rfl (fun K hK => ?_) ?_
                        · skip
                          go_simp
                          have H_v : w2.heap.size ≤ wr.heap.size := B.size
                          replace B : Below w2.heap.size w2 (wr.alloc (.cells #[Value.slice none 0 0] 29)) := bel_trans B (bel_alloc wr _)
                          have K_v := Blk.new' wr 29 (Value.slice none 0 0) wr.heap.size rfl
                          have N_v_x : Hid (∀ k, (Value.slice A_x (cA a b).length c_x).ownBlock = some k → k ≠ wr.heap.size) := Lib.hid (fun k hk => by have p1 := (O_x.out.lt k hk).2; omega)
                          replace O_x := Lib.hid (O_x.out.bel (bel_alloc wr (.cells #[Value.slice none 0 0] 29)))
                          have N_v_y : Hid (∀ k, (Value.slice A_y (cB a b).length c_y).ownBlock = some k → k ≠ wr.heap.size) := Lib.hid (fun k hk => by have p1 := (O_y.out.lt k hk).2; omega)
                          replace O_y := Lib.hid (O_y.out.bel (bel_alloc wr (.cells #[Value.slice none 0 0] 29)))
                          refine hK.out _ _ (by first | exact ⟨(B.cell (by exact K0.lt)).trans c0, (B.cell (by exact K1.lt)).trans c1⟩ | (dsimp only; exact ⟨(B.cell (by exact K0.lt)).trans c0, (B.cell (by exact K1.lt)).trans c1⟩)) (fun hS => ?_)
                          clear hK K
                          (try simp only [Act.put, List.setIfInBounds_toArray, List.set_cons_zero, List.set_cons_succ])
                          refine wpAnyH_listed (l' := #[true, true, true, true, true, true, true, true, true, true, true, false, true, false, false]) (by kernel_rfl) ?_
                          clear hS
                          revert N_v_y; revert N_v_x; revert H_v; revert K_v; revert D_q; revert O_y; revert O_x; revert B
                          generalize (wr.alloc (.cells #[Value.slice none 0 0] 29)) = wn
                          generalize wr.heap.size = ab_v
                          revert ab_v; revert c_y; revert A_y; revert c_x; revert A_x; revert c_t; revert A_t; revert c_j; revert A_j; revert wn
                          exact keyq_2_3_7_12.out
                        exact AllReadyH.nil
                    case hkq_2_3_11 =>
                      intro wr A_j c_j A_t c_t ab_u B O_t K_u H_u N_u_t
                      refine wpAnyH_ready (rs := [7, 12]) (by kernel_rfl) (by simp) ?_
                      refine AllReadyH.cons (o := { dst := some 23, op := Op.call { callee := Callee.value (Operand.func 131), args := #[Operand.tmp 19, Operand.tmp 22], argTypes := #[29, 3] }, type := 79, pos := "l7_pairs.go:43", after := #[{ on := 3, ground := Ground.data }, { on := 6, ground := Ground.data }, { on := 3, ground := Ground.chain }], guard := none }) rfl (fun K hK => ?_) ?_
                      · skip
                        (try go_simp)
                        go_at_call 131
                        refine (splitC_any _ a b _ hj O_t.out.strs).mono ?_
                        rintro e wn ⟨r_x, r_y, rfl, o_x, o_y, dxy, b⟩
                        have N_u_x : Hid (∀ k, r_x.ownBlock = some k → k ≠ ab_u) := Lib.hid (fun k hk => by have p1 := (o_x.lt k hk).1; have p2 := K_u.lt; omega)
                        have N_u_y : Hid (∀ k, r_y.ownBlock = some k → k ≠ ab_u) := Lib.hid (fun k hk => by have p1 := (o_y.lt k hk).1; have p2 := K_u.lt; omega)
                        have D_q := Lib.hid dxy
                        have O_x := Lib.hid (o_x.lower B.size)
                        have O_y := Lib.hid (o_y.lower B.size)
                        replace K_u := K_u.below b K_u.lt
                        clear O_t N_u_t
                        replace B := bel_trans B b
                        obtain ⟨A_x, c_x, rfl, -, -, -⟩ := o_x.strs.open_
                        clear o_x
                        obtain ⟨A_y, c_y, rfl, -, -, -⟩ := o_y.strs.open_
                        clear o_y
                        clear b dxy
                        (try dsimp only)
                        refine hK.out _ _ (by first | exact ⟨(B.cell (by exact K0.lt)).trans c0, (B.cell (by exact K1.lt)).trans c1⟩ | (dsimp only; exact ⟨(B.cell (by exact K0.lt)).trans c0, (B.cell (by exact K1.lt)).trans c1⟩)) (fun hS => ?_)
                        clear hK K
                        (try simp only [Act.put, List.setIfInBounds_toArray, List.set_cons_zero, List.set_cons_succ])
                        refine wpAnyH_take (i := 8) (oi := { dst := some 15, op := Op.move (Operand.tmp 23), type := 79, pos := "l7_pairs.go:43", after := #[{ on := 7, ground := Ground.data }], guard := none }) (v := ?vq_9) rfl (by kernel_rfl) (by kernel_rfl) (by kernel_rfl) (fun _ _ _ h => h) (Or.inl ⟨by rfl, ?hyq_9⟩) hS ?restq_9
                        case hyq_9 => (intro w' hSw; (try dsimp only at hSw); go_simp; all_goals with_reducible rfl)
                        (try simp only [Act.put, List.setIfInBounds_toArray, List.set_cons_zero, List.set_cons_succ])
                        refine wpAnyH_take (i := 9) (oi := { dst := some 24, op := Op.extract (Operand.tmp 15) 0, type := 29, pos := "l7_pairs.go:43", after := #[{ on := 8, ground := Ground.data }], guard := none }) (v := ?vq_10) rfl (by kernel_rfl) (by kernel_rfl) (by kernel_rfl) (fun _ _ _ h => h) (Or.inl ⟨by rfl, ?hyq_10⟩) hS ?restq_10
                        case hyq_10 => (intro w' hSw; (try dsimp only at hSw); go_simp; all_goals with_reducible rfl)
                        (try simp only [Act.put, List.setIfInBounds_toArray, List.set_cons_zero, List.set_cons_succ])
                        refine wpAnyH_take (i := 10) (oi := { dst := some 25, op := Op.extract (Operand.tmp 15) 1, type := 29, pos := "l7_pairs.go:43", after := #[{ on := 8, ground := Ground.data }, { on := 13, ground := Ground.gcOnly Departure.lateStores }], guard := none }) (v := ?vq_11) rfl (by kernel_rfl) (by kernel_rfl) (by kernel_rfl) (fun _ _ _ h => h) (Or.inl ⟨by rfl, ?hyq_11⟩) hS ?restq_11
                        case hyq_11 => (intro w' hSw; (try dsimp only at hSw); go_simp; all_goals with_reducible rfl)
                        (try simp only [Act.put, List.setIfInBounds_toArray, List.set_cons_zero, List.set_cons_succ])
                        refine wpAnyH_listed (l' := #[true, true, true, true, true, true, true, true, true, true, true, true, false, false, false]) (by kernel_rfl) ?_
                        clear hS
                        revert N_u_y; revert N_u_x; revert H_u; revert K_u; revert D_q; revert O_y; revert O_x; revert B
                        revert ab_u; revert c_y; revert A_y; revert c_x; revert A_x; revert c_t; revert A_t; revert c_j; revert A_j; revert wn
                        exact keyq_2_3_7_11.out
                      refine AllReadyH.cons (o := { dst := some 8, op := Op.alloc 29, type := 0, pos := "l7_pairs.go:43", after := #[], guard := none }) rfl (fun K hK => ?_) ?_
                      · skip
                        go_simp
                        have H_v : w2.heap.size ≤ wr.heap.size := B.size
                        replace B : Below w2.heap.size w2 (wr.alloc (.cells #[Value.slice none 0 0] 29)) := bel_trans B (bel_alloc wr _)
                        have X_q : ab_u ≠ wr.heap.size := by have := K_u.lt; omega
                        replace K_u := K_u.alloc (.cells #[Value.slice none 0 0] 29)
                        have K_v := Blk.new' wr 29 (Value.slice none 0 0) wr.heap.size rfl
                        have N_v_t : Hid (∀ k, (Value.slice A_t (turnS (joinE a b)).length c_t).ownBlock = some k → k ≠ wr.heap.size) := Lib.hid (fun k hk => by have p1 := (O_t.out.lt k hk).2; omega)
                        replace O_t := Lib.hid (O_t.out.bel (bel_alloc wr (.cells #[Value.slice none 0 0] 29)))
                        refine hK.out _ _ (by first | exact ⟨(B.cell (by exact K0.lt)).trans c0, (B.cell (by exact K1.lt)).trans c1⟩ | (dsimp only; exact ⟨(B.cell (by exact K0.lt)).trans c0, (B.cell (by exact K1.lt)).trans c1⟩)) (fun hS => ?_)
                        clear hK K
                        (try simp only [Act.put, List.setIfInBounds_toArray, List.set_cons_zero, List.set_cons_succ])
                        refine wpAnyH_listed (l' := #[true, true, true, true, true, true, true, false, false, false, false, true, true, false, false]) (by kernel_rfl) ?_
                        clear hS
                        revert N_v_t; revert N_u_t; revert X_q; revert H_v; revert K_v; revert H_u; revert K_u; revert O_t; revert B
                        generalize (wr.alloc (.cells #[Value.slice none 0 0] 29)) = wn
                        generalize wr.heap.size = ab_v
                        revert ab_v; revert ab_u; revert c_t; revert A_t; revert c_j; revert A_j; revert wn
                        exact keyq_2_3_11_12.out
                      exact AllReadyH.nil
                  case hkq_2_3_12 =>
                    intro wr A_j c_j A_t c_t ab_v B O_t K_v H_v N_v_t
                    refine wpAnyH_ready (rs := [7, 11]) (by kernel_rfl) (by simp) ?_
                    refine AllReadyH.cons (o := { dst := some 23, op := Op.call { callee := Callee.value (Operand.func 131), args := #[Operand.tmp 19, Operand.tmp 22], argTypes := #[29, 3] }, type := 79, pos := "l7_pairs.go:43", after := #[{ on := 3, ground := Ground.data }, { on := 6, ground := Ground.data }, { on := 3, ground := Ground.chain }], guard := none }) rfl (fun K hK => ?_) ?_
                    · skip
                      (try go_simp)
                      go_at_call 131
                      refine (splitC_any _ a b _ hj O_t.out.strs).mono ?_
                      rintro e wn ⟨r_x, r_y, rfl, o_x, o_y, dxy, b⟩
                      have N_v_x : Hid (∀ k, r_x.ownBlock = some k → k ≠ ab_v) := Lib.hid (fun k hk => by have p1 := (o_x.lt k hk).1; have p2 := K_v.lt; omega)
                      have N_v_y : Hid (∀ k, r_y.ownBlock = some k → k ≠ ab_v) := Lib.hid (fun k hk => by have p1 := (o_y.lt k hk).1; have p2 := K_v.lt; omega)
                      have D_q := Lib.hid dxy
                      have O_x := Lib.hid (o_x.lower B.size)
                      have O_y := Lib.hid (o_y.lower B.size)
                      replace K_v := K_v.below b K_v.lt
                      clear O_t N_v_t
                      replace B := bel_trans B b
                      obtain ⟨A_x, c_x, rfl, -, -, -⟩ := o_x.strs.open_
                      clear o_x
                      obtain ⟨A_y, c_y, rfl, -, -, -⟩ := o_y.strs.open_
                      clear o_y
                      clear b dxy
                      (try dsimp only)
                      refine hK.out _ _ (by first | exact ⟨(B.cell (by exact K0.lt)).trans c0, (B.cell (by exact K1.lt)).trans c1⟩ | (dsimp only; exact ⟨(B.cell (by exact K0.lt)).trans c0, (B.cell (by exact K1.lt)).trans c1⟩)) (fun hS => ?_)
                      clear hK K
                      (try simp only [Act.put, List.setIfInBounds_toArray, List.set_cons_zero, List.set_cons_succ])
                      refine wpAnyH_take (i := 8) (oi := { dst := some 15, op := Op.move (Operand.tmp 23), type := 79, pos := "l7_pairs.go:43", after := #[{ on := 7, ground := Ground.data }], guard := none }) (v := ?vq_12) rfl (by kernel_rfl) (by kernel_rfl) (by kernel_rfl) (fun _ _ _ h => h) (Or.inl ⟨by rfl, ?hyq_12⟩) hS ?restq_12
                      case hyq_12 => (intro w' hSw; (try dsimp only at hSw); go_simp; all_goals with_reducible rfl)
                      (try simp only [Act.put, List.setIfInBounds_toArray, List.set_cons_zero, List.set_cons_succ])
                      refine wpAnyH_take (i := 9) (oi := { dst := some 24, op := Op.extract (Operand.tmp 15) 0, type := 29, pos := "l7_pairs.go:43", after := #[{ on := 8, ground := Ground.data }], guard := none }) (v := ?vq_13) rfl (by kernel_rfl) (by kernel_rfl) (by kernel_rfl) (fun _ _ _ h => h) (Or.inl ⟨by rfl, ?hyq_13⟩) hS ?restq_13
                      case hyq_13 => (intro w' hSw; (try dsimp only at hSw); go_simp; all_goals with_reducible rfl)
                      (try simp only [Act.put, List.setIfInBounds_toArray, List.set_cons_zero, List.set_cons_succ])
                      refine wpAnyH_take (i := 10) (oi := { dst := some 25, op := Op.extract (Operand.tmp 15) 1, type := 29, pos := "l7_pairs.go:43", after := #[{ on := 8, ground := Ground.data }, { on := 13, ground := Ground.gcOnly Departure.lateStores }], guard := none }) (v := ?vq_14) rfl (by kernel_rfl) (by kernel_rfl) (by kernel_rfl) (fun _ _ _ h => h) (Or.inl ⟨by rfl, ?hyq_14⟩) hS ?restq_14
                      case hyq_14 => (intro w' hSw; (try dsimp only at hSw); go_simp; all_goals with_reducible rfl)
                      (try simp only [Act.put, List.setIfInBounds_toArray, List.set_cons_zero, List.set_cons_succ])
                      refine wpAnyH_listed (l' := #[true, true, true, true, true, true, true, true, true, true, true, false, true, false, false]) (by kernel_rfl) ?_
                      clear hS
                      revert N_v_y; revert N_v_x; revert H_v; revert K_v; revert D_q; revert O_y; revert O_x; revert B
                      revert ab_v; revert c_y; revert A_y; revert c_x; revert A_x; revert c_t; revert A_t; revert c_j; revert A_j; revert wn
                      exact keyq_2_3_7_12.out
                    refine AllReadyH.cons (o := { dst := some 7, op := Op.alloc 29, type := 0, pos := "l7_pairs.go:43", after := #[], guard := none }) rfl (fun K hK => ?_) ?_
                    · skip
                      go_simp
                      have H_u : w2.heap.size ≤ wr.heap.size := B.size
                      replace B : Below w2.heap.size w2 (wr.alloc (.cells #[Value.slice none 0 0] 29)) := bel_trans B (bel_alloc wr _)
                      have X_q : wr.heap.size ≠ ab_v := by have := K_v.lt; omega
                      replace K_v := K_v.alloc (.cells #[Value.slice none 0 0] 29)
                      have K_u := Blk.new' wr 29 (Value.slice none 0 0) wr.heap.size rfl
                      have N_u_t : Hid (∀ k, (Value.slice A_t (turnS (joinE a b)).length c_t).ownBlock = some k → k ≠ wr.heap.size) := Lib.hid (fun k hk => by have p1 := (O_t.out.lt k hk).2; omega)
                      replace O_t := Lib.hid (O_t.out.bel (bel_alloc wr (.cells #[Value.slice none 0 0] 29)))
                      refine hK.out _ _ (by first | exact ⟨(B.cell (by exact K0.lt)).trans c0, (B.cell (by exact K1.lt)).trans c1⟩ | (dsimp only; exact ⟨(B.cell (by exact K0.lt)).trans c0, (B.cell (by exact K1.lt)).trans c1⟩)) (fun hS => ?_)
                      clear hK K
                      (try simp only [Act.put, List.setIfInBounds_toArray, List.set_cons_zero, List.set_cons_succ])
                      refine wpAnyH_listed (l' := #[true, true, true, true, true, true, true, false, false, false, false, true, true, false, false]) (by kernel_rfl) ?_
                      clear hS
                      revert N_v_t; revert N_u_t; revert X_q; revert H_v; revert K_v; revert H_u; revert K_u; revert O_t; revert B
                      generalize (wr.alloc (.cells #[Value.slice none 0 0] 29)) = wn
                      generalize wr.heap.size = ab_u
                      revert ab_v; revert ab_u; revert c_t; revert A_t; revert c_j; revert A_j; revert wn
                      exact keyq_2_3_11_12.out
                    exact AllReadyH.nil
                case hkq_2_11_12 =>
                  intro wr A_j c_j ab_u ab_v B O_j K_u H_u K_v H_v X_q N_u_j N_v_j
                  refine wpAnyH_ready (rs := [3]) (by kernel_rfl) (by simp) ?_
                  refine AllReadyH.cons (o := { dst := some 19, op := Op.call { callee := Callee.value (Operand.func 132), args := #[Operand.tmp 18], argTypes := #[29] }, type := 29, pos := "l7_pairs.go:43", after := #[{ on := 2, ground := Ground.data }, { on := 2, ground := Ground.chain }], guard := none }) rfl (fun K hK => ?_) ?_
                  · skip
                    (try go_simp)
                    go_at_call 132
                    refine (turnC_any _ a b _ hj O_j.out.strs).mono ?_
                    rintro e wn ⟨r_t, rfl, o_t, b⟩
                    have N_u_t : Hid (∀ k, r_t.ownBlock = some k → k ≠ ab_u) := Lib.hid (fun k hk => by have p1 := (o_t.lt k hk).1; have p2 := K_u.lt; omega)
                    have N_v_t : Hid (∀ k, r_t.ownBlock = some k → k ≠ ab_v) := Lib.hid (fun k hk => by have p1 := (o_t.lt k hk).1; have p2 := K_v.lt; omega)
                    have O_t := Lib.hid (o_t.lower B.size)
                    replace K_u := K_u.below b K_u.lt
                    replace K_v := K_v.below b K_v.lt
                    clear O_j N_u_j N_v_j
                    replace B := bel_trans B b
                    obtain ⟨A_t, c_t, rfl, -, -, -⟩ := o_t.strs.open_
                    clear o_t
                    clear b
                    (try dsimp only)
                    refine hK.out _ _ (by first | exact ⟨(B.cell (by exact K0.lt)).trans c0, (B.cell (by exact K1.lt)).trans c1⟩ | (dsimp only; exact ⟨(B.cell (by exact K0.lt)).trans c0, (B.cell (by exact K1.lt)).trans c1⟩)) (fun hS => ?_)
                    clear hK K
                    (try simp only [Act.put, List.setIfInBounds_toArray, List.set_cons_zero, List.set_cons_succ])
                    refine wpAnyH_listed (l' := #[true, true, true, true, true, true, true, false, false, false, false, true, true, false, false]) (by kernel_rfl) ?_
                    clear hS
                    revert N_v_t; revert N_u_t; revert X_q; revert H_v; revert K_v; revert H_u; revert K_u; revert O_t; revert B
                    revert ab_v; revert ab_u; revert c_t; revert A_t; revert c_j; revert A_j; revert wn
                    exact keyq_2_3_11_12.out
                  exact AllReadyH.nil
              case hkq_2_3_7_11 =>
                intro wr A_j c_j A_t c_t A_x c_x A_y c_y ab_u B O_x O_y D_q K_u H_u N_u_x N_u_y
                refine wpAnyH_ready (rs := [12]) (by kernel_rfl) (by simp) ?_
                refine AllReadyH.cons (o := { dst := some 8, op := Op.alloc 29, type := 0, pos := "l7_pairs.go:43", after := #[], guard := none }) rfl (fun K hK => ?_) ?_
                · skip
                  go_simp
                  have H_v : w2.heap.size ≤ wr.heap.size := B.size
                  replace B : Below w2.heap.size w2 (wr.alloc (.cells #[Value.slice none 0 0] 29)) := bel_trans B (bel_alloc wr _)
                  have X_q : ab_u ≠ wr.heap.size := by have := K_u.lt; omega
                  replace K_u := K_u.alloc (.cells #[Value.slice none 0 0] 29)
                  have K_v := Blk.new' wr 29 (Value.slice none 0 0) wr.heap.size rfl
                  have N_v_x : Hid (∀ k, (Value.slice A_x (cA a b).length c_x).ownBlock = some k → k ≠ wr.heap.size) := Lib.hid (fun k hk => by have p1 := (O_x.out.lt k hk).2; omega)
                  replace O_x := Lib.hid (O_x.out.bel (bel_alloc wr (.cells #[Value.slice none 0 0] 29)))
                  have N_v_y : Hid (∀ k, (Value.slice A_y (cB a b).length c_y).ownBlock = some k → k ≠ wr.heap.size) := Lib.hid (fun k hk => by have p1 := (O_y.out.lt k hk).2; omega)
                  replace O_y := Lib.hid (O_y.out.bel (bel_alloc wr (.cells #[Value.slice none 0 0] 29)))
                  refine hK.out _ _ (by first | exact ⟨(B.cell (by exact K0.lt)).trans c0, (B.cell (by exact K1.lt)).trans c1⟩ | (dsimp only; exact ⟨(B.cell (by exact K0.lt)).trans c0, (B.cell (by exact K1.lt)).trans c1⟩)) (fun hS => ?_)
                  clear hK K
                  (try simp only [Act.put, List.setIfInBounds_toArray, List.set_cons_zero, List.set_cons_succ])
                  refine wpAnyH_listed (l' := #[true, true, true, true, true, true, true, true, true, true, true, true, true, false, false]) (by kernel_rfl) ?_
                  clear hS
                  revert N_v_y; revert N_v_x; revert N_u_y; revert N_u_x; revert X_q; revert H_v; revert K_v; revert H_u; revert K_u; revert D_q; revert O_y; revert O_x; revert B
                  generalize (wr.alloc (.cells #[Value.slice none 0 0] 29)) = wn
                  generalize wr.heap.size = ab_v
                  revert ab_v; revert ab_u; revert c_y; revert A_y; revert c_x; revert A_x; revert c_t; revert A_t; revert c_j; revert A_j; revert wn
                  exact keyq_2_3_7_11_12.out
                exact AllReadyH.nil
            case hkq_2_3_7_12 =>
              intro wr A_j c_j A_t c_t A_x c_x A_y c_y ab_v B O_x O_y D_q K_v H_v N_v_x N_v_y
              refine wpAnyH_ready (rs := [11]) (by kernel_rfl) (by simp) ?_
              refine AllReadyH.cons (o := { dst := some 7, op := Op.alloc 29, type := 0, pos := "l7_pairs.go:43", after := #[], guard := none }) rfl (fun K hK => ?_) ?_
              · skip
                go_simp
                have H_u : w2.heap.size ≤ wr.heap.size := B.size
                replace B : Below w2.heap.size w2 (wr.alloc (.cells #[Value.slice none 0 0] 29)) := bel_trans B (bel_alloc wr _)
                have X_q : wr.heap.size ≠ ab_v := by have := K_v.lt; omega
                replace K_v := K_v.alloc (.cells #[Value.slice none 0 0] 29)
                have K_u := Blk.new' wr 29 (Value.slice none 0 0) wr.heap.size rfl
                have N_u_x : Hid (∀ k, (Value.slice A_x (cA a b).length c_x).ownBlock = some k → k ≠ wr.heap.size) := Lib.hid (fun k hk => by have p1 := (O_x.out.lt k hk).2; omega)
                replace O_x := Lib.hid (O_x.out.bel (bel_alloc wr (.cells #[Value.slice none 0 0] 29)))
                have N_u_y : Hid (∀ k, (Value.slice A_y (cB a b).length c_y).ownBlock = some k → k ≠ wr.heap.size) := Lib.hid (fun k hk => by have p1 := (O_y.out.lt k hk).2; omega)
                replace O_y := Lib.hid (O_y.out.bel (bel_alloc wr (.cells #[Value.slice none 0 0] 29)))
                refine hK.out _ _ (by first | exact ⟨(B.cell (by exact K0.lt)).trans c0, (B.cell (by exact K1.lt)).trans c1⟩ | (dsimp only; exact ⟨(B.cell (by exact K0.lt)).trans c0, (B.cell (by exact K1.lt)).trans c1⟩)) (fun hS => ?_)
                clear hK K
                (try simp only [Act.put, List.setIfInBounds_toArray, List.set_cons_zero, List.set_cons_succ])
                refine wpAnyH_listed (l' := #[true, true, true, true, true, true, true, true, true, true, true, true, true, false, false]) (by kernel_rfl) ?_
                clear hS
                revert N_v_y; revert N_v_x; revert N_u_y; revert N_u_x; revert X_q; revert H_v; revert K_v; revert H_u; revert K_u; revert D_q; revert O_y; revert O_x; revert B
                generalize (wr.alloc (.cells #[Value.slice none 0 0] 29)) = wn
                generalize wr.heap.size = ab_u
                revert ab_v; revert ab_u; revert c_y; revert A_y; revert c_x; revert A_x; revert c_t; revert A_t; revert c_j; revert A_j; revert wn
                exact keyq_2_3_7_11_12.out
              exact AllReadyH.nil
          case hkq_2_3_11_12 =>
            intro wr A_j c_j A_t c_t ab_u ab_v B O_t K_u H_u K_v H_v X_q N_u_t N_v_t
            refine wpAnyH_ready (rs := [7]) (by kernel_rfl) (by simp) ?_
            refine AllReadyH.cons (o := { dst := some 23, op := Op.call { callee := Callee.value (Operand.func 131), args := #[Operand.tmp 19, Operand.tmp 22], argTypes := #[29, 3] }, type := 79, pos := "l7_pairs.go:43", after := #[{ on := 3, ground := Ground.data }, { on := 6, ground := Ground.data }, { on := 3, ground := Ground.chain }], guard := none }) rfl (fun K hK => ?_) ?_
            · skip
              (try go_simp)
              go_at_call 131
              refine (splitC_any _ a b _ hj O_t.out.strs).mono ?_
              rintro e wn ⟨r_x, r_y, rfl, o_x, o_y, dxy, b⟩
              have N_u_x : Hid (∀ k, r_x.ownBlock = some k → k ≠ ab_u) := Lib.hid (fun k hk => by have p1 := (o_x.lt k hk).1; have p2 := K_u.lt; omega)
              have N_u_y : Hid (∀ k, r_y.ownBlock = some k → k ≠ ab_u) := Lib.hid (fun k hk => by have p1 := (o_y.lt k hk).1; have p2 := K_u.lt; omega)
              have N_v_x : Hid (∀ k, r_x.ownBlock = some k → k ≠ ab_v) := Lib.hid (fun k hk => by have p1 := (o_x.lt k hk).1; have p2 := K_v.lt; omega)
              have N_v_y : Hid (∀ k, r_y.ownBlock = some k → k ≠ ab_v) := Lib.hid (fun k hk => by have p1 := (o_y.lt k hk).1; have p2 := K_v.lt; omega)
              have D_q := Lib.hid dxy
              have O_x := Lib.hid (o_x.lower B.size)
              have O_y := Lib.hid (o_y.lower B.size)
              replace K_u := K_u.below b K_u.lt
              replace K_v := K_v.below b K_v.lt
              clear O_t N_u_t N_v_t
              replace B := bel_trans B b
              obtain ⟨A_x, c_x, rfl, -, -, -⟩ := o_x.strs.open_
              clear o_x
              obtain ⟨A_y, c_y, rfl, -, -, -⟩ := o_y.strs.open_
              clear o_y
              clear b dxy
              (try dsimp only)
              refine hK.out _ _ (by first | exact ⟨(B.cell (by exact K0.lt)).trans c0, (B.cell (by exact K1.lt)).trans c1⟩ | (dsimp only; exact ⟨(B.cell (by exact K0.lt)).trans c0, (B.cell (by exact K1.lt)).trans c1⟩)) (fun hS => ?_)
              clear hK K
              (try simp only [Act.put, List.setIfInBounds_toArray, List.set_cons_zero, List.set_cons_succ])
              refine wpAnyH_take (i := 8) (oi := { dst := some 15, op := Op.move (Operand.tmp 23), type := 79, pos := "l7_pairs.go:43", after := #[{ on := 7, ground := Ground.data }], guard := none }) (v := ?vq_15) rfl (by kernel_rfl) (by kernel_rfl) (by kernel_rfl) (fun _ _ _ h => h) (Or.inl ⟨by rfl, ?hyq_15⟩) hS ?restq_15
              case hyq_15 => (intro w' hSw; (try dsimp only at hSw); go_simp; all_goals with_reducible rfl)
              (try simp only [Act.put, List.setIfInBounds_toArray, List.set_cons_zero, List.set_cons_succ])
              refine wpAnyH_take (i := 9) (oi := { dst := some 24, op := Op.extract (Operand.tmp 15) 0, type := 29, pos := "l7_pairs.go:43", after := #[{ on := 8, ground := Ground.data }], guard := none }) (v := ?vq_16) rfl (by kernel_rfl) (by kernel_rfl) (by kernel_rfl) (fun _ _ _ h => h) (Or.inl ⟨by rfl, ?hyq_16⟩) hS ?restq_16
              case hyq_16 => (intro w' hSw; (try dsimp only at hSw); go_simp; all_goals with_reducible rfl)
              (try simp only [Act.put, List.setIfInBounds_toArray, List.set_cons_zero, List.set_cons_succ])
              refine wpAnyH_take (i := 10) (oi := { dst := some 25, op := Op.extract (Operand.tmp 15) 1, type := 29, pos := "l7_pairs.go:43", after := #[{ on := 8, ground := Ground.data }, { on := 13, ground := Ground.gcOnly Departure.lateStores }], guard := none }) (v := ?vq_17) rfl (by kernel_rfl) (by kernel_rfl) (by kernel_rfl) (fun _ _ _ h => h) (Or.inl ⟨by rfl, ?hyq_17⟩) hS ?restq_17
              case hyq_17 => (intro w' hSw; (try dsimp only at hSw); go_simp; all_goals with_reducible rfl)
              (try simp only [Act.put, List.setIfInBounds_toArray, List.set_cons_zero, List.set_cons_succ])
              refine wpAnyH_listed (l' := #[true, true, true, true, true, true, true, true, true, true, true, true, true, false, false]) (by kernel_rfl) ?_
              clear hS
              revert N_v_y; revert N_v_x; revert N_u_y; revert N_u_x; revert X_q; revert H_v; revert K_v; revert H_u; revert K_u; revert D_q; revert O_y; revert O_x; revert B
              revert ab_v; revert ab_u; revert c_y; revert A_y; revert c_x; revert A_x; revert c_t; revert A_t; revert c_j; revert A_j; revert wn
              exact keyq_2_3_7_11_12.out
            exact AllReadyH.nil
        case hkq_2_3_7_11_12 =>
          intro wr A_j c_j A_t c_t A_x c_x A_y c_y ab_u ab_v B O_x O_y D_q K_u H_u K_v H_v X_q N_u_x N_u_y N_v_x N_v_y
          refine wpAnyH_ready (rs := [13]) (by kernel_rfl) (by simp) ?_
          refine AllReadyH.cons (o := { dst := none, op := Op.store 29 (Operand.tmp 7) (Operand.tmp 24), type := 0, pos := "l7_pairs.go:43", after := #[{ on := 11, ground := Ground.data }, { on := 9, ground := Ground.data }, { on := 7, ground := Ground.chain }, { on := 0, ground := Ground.phase }, { on := 1, ground := Ground.phase }, { on := 2, ground := Ground.phase }, { on := 3, ground := Ground.phase }, { on := 4, ground := Ground.phase }, { on := 5, ground := Ground.phase }, { on := 6, ground := Ground.phase }, { on := 7, ground := Ground.phase }, { on := 8, ground := Ground.phase }, { on := 9, ground := Ground.phase }, { on := 10, ground := Ground.textOnly Departure.lateStores }, { on := 11, ground := Ground.phase }, { on := 12, ground := Ground.phase }], guard := none }) rfl (fun K hK => ?_) ?_
          · skip
            obtain ⟨e_u, f_u⟩ := K_u.one
            go_simp
            clear e_u f_u
            have g : wr.grownBy (wr.setCell ⟨ab_u, 0, none⟩ (Value.slice A_x (cA a b).length c_x)) (some ab_u) := only_setCell (World.grownBy.refl wr (some ab_u)) (.inl rfl) _
            replace O_x := Lib.hid (O_x.out.awayRow g N_u_x.out)
            replace O_y := Lib.hid (O_y.out.awayRow g N_u_y.out)
            replace K_u : Blk (wr.setCell ⟨ab_u, 0, none⟩ (Value.slice A_x (cA a b).length c_x)) ab_u 29 [Value.slice A_x (cA a b).length c_x] := K_u.set_ 0 _
            replace K_v := K_v.far (p := ⟨ab_u, 0, none⟩) (by show ab_v ≠ ab_u; omega) (Value.slice A_x (cA a b).length c_x)
            replace B := B.setCell (p := ⟨ab_u, 0, none⟩) H_u (Value.slice A_x (cA a b).length c_x)
            clear g
            refine hK.out _ _ (by first | exact ⟨(B.cell (by exact K0.lt)).trans c0, (B.cell (by exact K1.lt)).trans c1⟩ | (dsimp only; exact ⟨(B.cell (by exact K0.lt)).trans c0, (B.cell (by exact K1.lt)).trans c1⟩)) (fun hS => ?_)
            clear hK K
            (try simp only [Act.put, List.setIfInBounds_toArray, List.set_cons_zero, List.set_cons_succ])
            refine wpAnyH_listed (l' := #[true, true, true, true, true, true, true, true, true, true, true, true, true, true, false]) (by kernel_rfl) ?_
            clear hS
            revert N_v_y; revert N_v_x; revert N_u_y; revert N_u_x; revert X_q; revert H_v; revert K_v; revert H_u; revert K_u; revert D_q; revert O_y; revert O_x; revert B
            generalize (wr.setCell ⟨ab_u, 0, none⟩ (Value.slice A_x (cA a b).length c_x)) = wn
            revert ab_v; revert ab_u; revert c_y; revert A_y; revert c_x; revert A_x; revert c_t; revert A_t; revert c_j; revert A_j; revert wn
            exact keyq_2_3_7_11_12_13.out
          exact AllReadyH.nil
      case hkq_2_3_7_11_12_13 =>
        intro wr A_j c_j A_t c_t A_x c_x A_y c_y ab_u ab_v B O_x O_y D_q K_u H_u K_v H_v X_q N_u_x N_u_y N_v_x N_v_y
        refine wpAnyH_ready (rs := [14]) (by kernel_rfl) (by simp) ?_
        refine AllReadyH.cons (o := { dst := none, op := Op.store 29 (Operand.tmp 8) (Operand.tmp 25), type := 0, pos := "l7_pairs.go:43", after := #[{ on := 12, ground := Ground.data }, { on := 10, ground := Ground.data }, { on := 13, ground := Ground.chain }, { on := 0, ground := Ground.phase }, { on := 1, ground := Ground.phase }, { on := 2, ground := Ground.phase }, { on := 3, ground := Ground.phase }, { on := 4, ground := Ground.phase }, { on := 5, ground := Ground.phase }, { on := 6, ground := Ground.phase }, { on := 7, ground := Ground.phase }, { on := 8, ground := Ground.phase }, { on := 9, ground := Ground.phase }, { on := 10, ground := Ground.phase }, { on := 11, ground := Ground.phase }, { on := 12, ground := Ground.phase }, { on := 13, ground := Ground.phase }], guard := none }) rfl (fun K hK => ?_) ?_
        · skip
          obtain ⟨e_v, f_v⟩ := K_v.one
          go_simp
          clear e_v f_v
          have g : wr.grownBy (wr.setCell ⟨ab_v, 0, none⟩ (Value.slice A_y (cB a b).length c_y)) (some ab_v) := only_setCell (World.grownBy.refl wr (some ab_v)) (.inl rfl) _
          replace O_x := Lib.hid (O_x.out.awayRow g N_v_x.out)
          replace O_y := Lib.hid (O_y.out.awayRow g N_v_y.out)
          replace K_v : Blk (wr.setCell ⟨ab_v, 0, none⟩ (Value.slice A_y (cB a b).length c_y)) ab_v 29 [Value.slice A_y (cB a b).length c_y] := K_v.set_ 0 _
          replace K_u := K_u.far (p := ⟨ab_v, 0, none⟩) (by show ab_u ≠ ab_v; omega) (Value.slice A_y (cB a b).length c_y)
          replace B := B.setCell (p := ⟨ab_v, 0, none⟩) H_v (Value.slice A_y (cB a b).length c_y)
          clear g
          refine hK.out _ _ (by first | exact ⟨(B.cell (by exact K0.lt)).trans c0, (B.cell (by exact K1.lt)).trans c1⟩ | (dsimp only; exact ⟨(B.cell (by exact K0.lt)).trans c0, (B.cell (by exact K1.lt)).trans c1⟩)) (fun hS => ?_)
          clear hK K
          (try simp only [Act.put, List.setIfInBounds_toArray, List.set_cons_zero, List.set_cons_succ])
          refine wpAnyH_listed (l' := #[true, true, true, true, true, true, true, true, true, true, true, true, true, true, true]) (by kernel_rfl) ?_
          clear hS
          revert N_v_y; revert N_v_x; revert N_u_y; revert N_u_x; revert X_q; revert H_v; revert K_v; revert H_u; revert K_u; revert D_q; revert O_y; revert O_x; revert B
          generalize (wr.setCell ⟨ab_v, 0, none⟩ (Value.slice A_y (cB a b).length c_y)) = wn
          revert ab_v; revert ab_u; revert c_y; revert A_y; revert c_x; revert A_x; revert c_t; revert A_t; revert c_j; revert A_j; revert wn
          exact keyq_2_3_7_11_12_13_14.out
        exact AllReadyH.nil
    intro w5 A_j c_j A_t c_t A_x c_x A_y c_y ab_u ab_v B O_x O_y D_q K_u H_u K_v H_v X_q N_u_x N_u_y N_v_x N_v_y
    refine wpAnyH_done (by kernel_rfl) ?_ _
    clear c0 c1
    have k2 := K2.lt
    have k3 := K3.lt
    replace K2 := K2.below B K2.lt
    replace K3 := K3.below B K3.lt
    obtain ⟨c2, f2⟩ := K2.one
    obtain ⟨c3, f3⟩ := K3.one
    obtain ⟨c5, f5⟩ := K_u.one
    obtain ⟨c6, f6⟩ := K_v.one
    have HY := Lib.hid (And.intro (And.intro hj H_u) (And.intro H_v X_q))
    have HE := Lib.hid (bel_trans HB.out B)
    have y2 : w.heap.size + 1 + 1 ≠ ab_u := by omega
    have y3 : w.heap.size + 1 + 1 ≠ ab_v := by omega
    have y4 : w.heap.size + 1 + 1 + 1 ≠ ab_u := by omega
    have y5 : w.heap.size + 1 + 1 + 1 ≠ ab_v := by omega
    clear hj H_u H_v X_q
    go_wp2_with fail
    go_region_held3 (fun w' => w'.cell? ⟨ab_u, 0, none⟩ = some (.slice A_x (cA a b).length c_x) ∧ w'.cell? ⟨ab_v, 0, none⟩ = some (.slice A_y (cB a b).length c_y)) (first | exact ⟨c5, c6⟩ | exact ⟨(World.cell?_setCell_other _ _ _ _ (by intro e; injection e with q; omega)).trans c5, (World.cell?_setCell_other _ _ _ _ (by intro e; injection e with q; omega)).trans c6⟩ | go_keep) (first | fail)
    all_goals
      clear c2 c3 c5 c6
      have bl2 : Blk ((w5.setCell ⟨w.heap.size + 1 + 1, 0, none⟩ (.slice A_x (cA a b).length c_x)).setCell ⟨w.heap.size + 1 + 1 + 1, 0, none⟩ (.slice A_y (cB a b).length c_y)) (w.heap.size + 1 + 1) 29 [.slice A_x (cA a b).length c_x] := (K2.set_ 0 _).far (by show w.heap.size + 1 + 1 ≠ w.heap.size + 1 + 1 + 1; omega) _
      have bl3 : Blk ((w5.setCell ⟨w.heap.size + 1 + 1, 0, none⟩ (.slice A_x (cA a b).length c_x)).setCell ⟨w.heap.size + 1 + 1 + 1, 0, none⟩ (.slice A_y (cB a b).length c_y)) (w.heap.size + 1 + 1 + 1) 29 [.slice A_y (cB a b).length c_y] := (K3.far (by show w.heap.size + 1 + 1 + 1 ≠ w.heap.size + 1 + 1; omega) _).set_ 0 _
      obtain ⟨c2, -⟩ := bl2.one
      obtain ⟨c3, -⟩ := bl3.one
      go_wp2
      refine bodyPost_ret (v := .tuple #[.agg #[.slice A_x (cA a b).length c_x], .agg #[.slice A_y (cB a b).length c_y], .bool true]) (by simp [results, Try.results57, go_sem, c2, c3]) rfl ⟨_, _, by rw [HY.out.1.1], ?_, ?_, D_q.out, ?_⟩
      · exact ((((O_x.out.setCell _ _ (by simp <;> omega)).setCell _ _ (by simp <;> omega)).bel ((Below.refl _ _).drew)).lower (by omega))
      · exact ((((O_y.out.setCell _ _ (by simp <;> omega)).setCell _ _ (by simp <;> omega)).bel ((Below.refl _ _).drew)).lower (by omega))
      · exact ((HE.out.setCell (p := ⟨w.heap.size + 1 + 1, 0, none⟩) (by show w.heap.size ≤ w.heap.size + 1 + 1; omega) _).setCell (p := ⟨w.heap.size + 1 + 1 + 1, 0, none⟩) (by show w.heap.size ≤ w.heap.size + 1 + 1 + 1; omega) _).drew

end Go.Proofs.Yteemhhgioljmaaa

