/-
  The law FnExactRunCascade, walked (made by exact2.py).
-/
import Derived.Test.YtgndnkpenmcafaaEngLaw
import Derived.Deep.RegionLaw
import Derived.Deep.RegionWith
import Derived.Deep.DrawnRows
import Derived.Deep.RegionHeld3
import Derived.Test.YtgndnkpenmcafaaRunC
namespace Go.Proofs.Ytgndnkpenmcafaa
open Go.RowKit
set_option linter.unusedVariables false
set_option linter.unusedSimpArgs false
set_option maxRecDepth 100000

set_option maxHeartbeats 8000000 in
theorem lawRunCascade (v0 : Value) (l0 : List ByteArray) (v1 : Value) (l1 : List ByteArray) (a2 : Int) (w : World) (h0 : Strs w v0 l0) (h1 : Strs w v1 l1) (h2 : -9223372036854775808 ≤ a2 ∧ a2 ≤ 9223372036854775807) :
    Calls Try.prog 7 #[.agg #[v0], .agg #[v1], .int .i64 a2] w fun e w' => e = .returned (.bool true) ∧ Below w.heap.size w w' := by
  have S_0 := Lib.hid h0
  have J_0 := Lib.hid h0.low
  obtain ⟨A_a0, c_a0, rfl, -, -, -⟩ := h0.open_
  clear h0
  have S_1 := Lib.hid h1
  have J_1 := Lib.hid h1.low
  obtain ⟨A_a1, c_a1, rfl, -, -, -⟩ := h1.open_
  clear h1
  have he_r0 := eqL_self (rcL l0 l1 a2)
  have he_a0 := eqS_self l0
  have he_a1 := eqS_self l1
  have HB := Lib.hid (Below.refl w.heap.size w)
  go_enter Try.func7, Try.ntmps7
  have ba : Below w.heap.size w ((w.alloc (.cells #[Value.slice A_a0 l0.length c_a0] 24)).alloc (.cells #[Value.slice A_a1 l1.length c_a1] 24)) := (bel_alloc w _).alloc (by simp <;> omega) _
  replace S_0 := Lib.hid (S_0.out.bel ba)
  replace S_1 := Lib.hid (S_1.out.bel ba)
  replace HB := Lib.hid (bel_trans HB.out ba)
  clear ba
  have K_p0 := (Blk.new' w 24 (Value.slice A_a0 l0.length c_a0) _ rfl).alloc (.cells #[Value.slice A_a1 l1.length c_a1] 24)
  have K_p1 := Blk.new' (w.alloc (.cells #[Value.slice A_a0 l0.length c_a0] 24)) 24 (Value.slice A_a1 l1.length c_a1) (w.heap.size + 1) (by simp)
  obtain ⟨e_p0, -⟩ := K_p0.one
  obtain ⟨e_p1, -⟩ := K_p1.one
  go_wp2_with fail
  clear e_p0 e_p1
  generalize hW : (w.alloc (.cells #[Value.slice A_a0 l0.length c_a0] 24)).alloc (.cells #[Value.slice A_a1 l1.length c_a1] 24) = w1 at *
  clear hW
  refine (szEngine_any _ l0 1048576 _ S_0.out (by omega) (by omega)).mono ?_
  rintro e w2 ⟨lf0, rfl, hr0, b⟩
  replace K_p0 := K_p0.below b K_p0.lt
  replace K_p1 := K_p1.below b K_p1.lt
  replace S_0 := Lib.hid (S_0.out.bel b)
  replace S_1 := Lib.hid (S_1.out.bel b)
  replace HB := Lib.hid (bel_trans HB.out b)
  clear b
  rcases hr0 with rfl | ⟨q0_0, q1_0⟩
  · go_wp2
    go_ret
    exact ⟨rfl, HB.out⟩
  · skip
    obtain ⟨e_p0, -⟩ := K_p0.one
    obtain ⟨e_p1, -⟩ := K_p1.one
    go_wp2_with fail
    clear e_p0 e_p1
    refine (szEngine_any _ l1 lf0 _ S_1.out (by omega) (by omega)).mono ?_
    rintro e w3 ⟨lf1, rfl, hr1, b⟩
    replace K_p0 := K_p0.below b K_p0.lt
    replace K_p1 := K_p1.below b K_p1.lt
    replace S_0 := Lib.hid (S_0.out.bel b)
    replace S_1 := Lib.hid (S_1.out.bel b)
    replace HB := Lib.hid (bel_trans HB.out b)
    clear b
    rcases hr1 with rfl | ⟨q0_1, q1_1⟩
    · go_wp2
      go_ret
      exact ⟨rfl, HB.out⟩
    · skip
      have len0 : l0.length ≤ 1048576 := by omega
      have len1 : l1.length ≤ 1048576 := by omega
      obtain ⟨e_p0, -⟩ := K_p0.one
      obtain ⟨e_p1, -⟩ := K_p1.one
      go_wp2_with fail
      clear e_p0 e_p1
      refine cut_by (P := ?P1) ?hk1 (fun key1 => ?main1)
      case main1 =>
        replace key1 := Lib.hid key1
        obtain ⟨e_p0, -⟩ := K_p0.one
        obtain ⟨e_p1, -⟩ := K_p1.one
        have tok1 : True := trivial
        have tok2 : True := trivial
        have tok3 : True := trivial
        go_region_held3 (fun w' => w'.cell? ⟨w.heap.size, 0, none⟩ = some (Value.slice A_a0 l0.length c_a0) ∧ w'.cell? ⟨w.heap.size + 1, 0, none⟩ = some (Value.slice A_a1 l1.length c_a1)) (first | exact ⟨e_p0, e_p1⟩ | exact ⟨((bel_alloc _ _).cell (by exact K_p0.lt)).trans e_p0, ((bel_alloc _ _).cell (by exact K_p1.lt)).trans e_p1⟩ | exact ⟨(World.cell?_setCell_other _ _ _ _ (by intro e; injection e with q; have := K_p0.lt; simp at q; omega)).trans (((bel_alloc _ _).cell (by exact K_p0.lt)).trans e_p0), (World.cell?_setCell_other _ _ _ _ (by intro e; injection e with q; have := K_p1.lt; simp at q; omega)).trans (((bel_alloc _ _).cell (by exact K_p1.lt)).trans e_p1)⟩ | go_keep) (first
          | ((try go_simp); go_at_call 17; have _t := tok1; clear e_p0 e_p1; (refine (toEngine_any _ l0 _ (by first | exact S_0.out | exact S_0.out.bel ((Below.refl _ _).drew)) len0).mono ?_; rintro e w4 ⟨r_x0, rfl, o_x0, b⟩; replace o_x0 : OwnS w4 w3.heap.size r_x0 (l0) := o_x0; replace b : Below w3.heap.size w3 w4 := (by first | exact b | exact bel_trans ((Below.refl _ _).drew) b); have HBZ := Lib.hid HB.out.size; replace K_p0 := K_p0.below b K_p0.lt; replace K_p1 := K_p1.below b K_p1.lt; replace S_0 := Lib.hid (S_0.out.bel b); replace S_1 := Lib.hid (S_1.out.bel b); replace HB := Lib.hid (bel_trans HB.out b); clear b; have O_x0 := Lib.hid (o_x0.lower (base' := w.heap.size) HBZ.out); clear HBZ; obtain ⟨A_x0, c_x0, rfl, -, -, -⟩ := o_x0.strs.open_; clear o_x0; obtain ⟨e_p0, -⟩ := K_p0.one; obtain ⟨e_p1, -⟩ := K_p1.one; clear tok1; (try dsimp only)))
          | ((try go_simp); go_at_call 17; have _t := tok2; clear e_p0 e_p1; (refine (toEngine_any _ l1 _ (by first | exact S_1.out | exact S_1.out.bel ((Below.refl _ _).drew)) len1).mono ?_; rintro e w5 ⟨r_x1, rfl, o_x1, b⟩; replace o_x1 : OwnS w5 w4.heap.size r_x1 (l1) := o_x1; replace b : Below w4.heap.size w4 w5 := (by first | exact b | exact bel_trans ((Below.refl _ _).drew) b); have HBZ := Lib.hid HB.out.size; replace K_p0 := K_p0.below b K_p0.lt; replace K_p1 := K_p1.below b K_p1.lt; replace O_x0 := Lib.hid (O_x0.out.bel b); replace S_0 := Lib.hid (S_0.out.bel b); replace S_1 := Lib.hid (S_1.out.bel b); replace HB := Lib.hid (bel_trans HB.out b); clear b; have O_x1 := Lib.hid (o_x1.lower (base' := w.heap.size) HBZ.out); clear HBZ; obtain ⟨A_x1, c_x1, rfl, -, -, -⟩ := o_x1.strs.open_; clear o_x1; obtain ⟨e_p0, -⟩ := K_p0.one; obtain ⟨e_p1, -⟩ := K_p1.one; clear tok2; (try dsimp only)))
          | ((try go_simp); go_at_call 28; have _t := tok3; clear e_p0 e_p1; (refine (specRunC_any _ _ l0 l1 a2 _ (by first | exact O_x0.out.strs | exact O_x0.out.strs.bel ((Below.refl _ _).drew)) (by first | exact O_x1.out.strs | exact O_x1.out.strs.bel ((Below.refl _ _).drew)) h2).mono ?_; rintro e w6 ⟨r_s0, rfl, o_s0, b⟩; replace o_s0 : Own w6 w5.heap.size r_s0 (rcL l0 l1 a2) := o_s0; replace b : Below w5.heap.size w5 w6 := (by first | exact b | exact bel_trans ((Below.refl _ _).drew) b); have z_p0 := K_p0.lt; have z_p1 := K_p1.lt; have HB0 := HB.out.size; replace K_p0 := K_p0.below b K_p0.lt; replace K_p1 := K_p1.below b K_p1.lt; replace O_x0 := Lib.hid (O_x0.out.bel b); replace O_x1 := Lib.hid (O_x1.out.bel b); replace S_0 := Lib.hid (S_0.out.bel b); replace S_1 := Lib.hid (S_1.out.bel b); replace HB := Lib.hid (bel_trans HB.out b); clear b; have N_p0_s0 : Hid (∀ k, r_s0.ownBlock = some k → k ≠ w.heap.size) := Lib.hid (fun k hk => by have p1 := (o_s0.lt k hk).1; have p2 := z_p0; omega); have N_p1_s0 : Hid (∀ k, r_s0.ownBlock = some k → k ≠ w.heap.size + 1) := Lib.hid (fun k hk => by have p1 := (o_s0.lt k hk).1; have p2 := z_p1; omega); have t_s0 : Hid (∀ k, r_s0.ownBlock = some k → w.heap.size ≤ k) := Lib.hid (fun k hk => by have p1 := (o_s0.lt k hk).1; have p2 := HB0; omega); have HBZ := Lib.hid HB0; clear HB0 z_p0 z_p1 ; have O_s0 := Lib.hid (o_s0.lower (base' := w.heap.size) HBZ.out); obtain ⟨A_s0, c_s0, rfl, -, -, -⟩ := o_s0.ints.open_; clear o_s0; clear HBZ; clear O_x0 O_x1; obtain ⟨e_p0, -⟩ := K_p0.one; obtain ⟨e_p1, -⟩ := K_p1.one; clear tok3; (try dsimp only)))
          | fail)
        all_goals
          clear e_p0 e_p1
          first
          | (obtain ⟨w7, hW⟩ : ∃ W', W' = w6.drew := ⟨_, rfl⟩; rw [← hW]; have b : Below w6.heap.size w6 w7 := (by rw [hW]; exact (Below.refl _ _).drew); clear hW)
          | (obtain ⟨w7, hW⟩ : ∃ W', W' = w6 := ⟨_, rfl⟩; rw [← hW]; have b : Below w6.heap.size w6 w7 := (by rw [hW]; exact Below.refl _ _); clear hW)
          replace K_p0 := K_p0.below b K_p0.lt
          replace K_p1 := K_p1.below b K_p1.lt
          replace O_s0 := Lib.hid (O_s0.out.bel b)
          replace S_0 := Lib.hid (S_0.out.bel b)
          replace S_1 := Lib.hid (S_1.out.bel b)
          replace HB := Lib.hid (bel_trans HB.out b)
          clear b
          revert t_s0; revert N_p1_s0; revert N_p0_s0; revert HB; revert S_1; revert S_0; revert O_s0; revert K_p1; revert K_p0; revert c_s0; revert A_s0; revert c_x1; revert A_x1; revert c_x0; revert A_x0; revert w7
          exact key1.out
      intro w7 A_x0 c_x0 A_x1 c_x1 A_s0 c_s0
      intro K_p0 K_p1 O_s0 S_0 S_1 HB N_p0_s0 N_p1_s0 t_s0
      obtain ⟨e_p0, -⟩ := K_p0.one
      obtain ⟨e_p1, -⟩ := K_p1.one
      go_wp2_with fail
      clear e_p0 e_p1
      refine (toEngine_any _ l0 _ S_0.out len0).mono ?_
      rintro e w8 ⟨r_x2, rfl, o_x2, b⟩
      have z_p0 := K_p0.lt
      have z_p1 := K_p1.lt
      have HB0 := HB.out.size
      have y_s0 := Lib.hid (fun k hk => (O_s0.out.lt k hk).2)
      replace K_p0 := K_p0.below b K_p0.lt
      replace K_p1 := K_p1.below b K_p1.lt
      replace O_s0 := Lib.hid (O_s0.out.bel b)
      replace S_0 := Lib.hid (S_0.out.bel b)
      replace S_1 := Lib.hid (S_1.out.bel b)
      replace HB := Lib.hid (bel_trans HB.out b)
      clear b
      have N_p0_x2 : Hid (∀ k, r_x2.ownBlock = some k → k ≠ w.heap.size) := Lib.hid (fun k hk => by have p1 := (o_x2.lt k hk).1; have p2 := z_p0; omega)
      have N_p1_x2 : Hid (∀ k, r_x2.ownBlock = some k → k ≠ w.heap.size + 1) := Lib.hid (fun k hk => by have p1 := (o_x2.lt k hk).1; have p2 := z_p1; omega)
      have N_s0_x2 : Hid (∀ k, (Value.slice A_s0 (rcL l0 l1 a2).length c_s0).ownBlock = some k → r_x2.ownBlock ≠ some k) := Lib.hid (fun k p q => by have p1 := (y_s0.out k p); have q1 := (o_x2.lt k q).1; omega)
      have t_x2 : Hid (∀ k, r_x2.ownBlock = some k → w.heap.size ≤ k) := Lib.hid (fun k hk => by have p1 := (o_x2.lt k hk).1; have p2 := HB0; omega)
      have HBZ := Lib.hid HB0
      clear HB0 z_p0 z_p1 y_s0
      have O_x2 := Lib.hid (o_x2.lower (base' := w.heap.size) HBZ.out)
      obtain ⟨A_x2, c_x2, rfl, -, -, -⟩ := o_x2.strs.open_
      clear o_x2
      clear HBZ
      have ba : Below w8.heap.size w8 (w8.alloc (.cells #[Value.slice A_x2 (l0).length c_x2] 26)) := bel_alloc w8 _
      have u_s0 := Lib.hid (fun k hk => (O_s0.out.lt k hk).2)
      have u_x2 := Lib.hid (fun k hk => (O_x2.out.lt k hk).2)
      replace K_p0 := K_p0.below ba K_p0.lt
      replace K_p1 := K_p1.below ba K_p1.lt
      replace O_s0 := Lib.hid (O_s0.out.bel ba)
      replace O_x2 := Lib.hid (O_x2.out.bel ba)
      replace S_0 := Lib.hid (S_0.out.bel ba)
      replace S_1 := Lib.hid (S_1.out.bel ba)
      replace HB := Lib.hid (bel_trans HB.out ba)
      clear ba
      have K_bx0 := Blk.new' w8 26 (Value.slice A_x2 (l0).length c_x2) _ rfl
      have N_bx0_s0 : Hid (∀ k, (Value.slice A_s0 (rcL l0 l1 a2).length c_s0).ownBlock = some k → k ≠ w8.heap.size) := Lib.hid (fun k hk => by have p1 := u_s0.out k hk; omega)
      have N_bx0_x2 : Hid (∀ k, (Value.slice A_x2 (l0).length c_x2).ownBlock = some k → k ≠ w8.heap.size) := Lib.hid (fun k hk => by have p1 := u_x2.out k hk; omega)
      clear u_s0 u_x2
      obtain ⟨e_p0, -⟩ := K_p0.one
      obtain ⟨e_p1, -⟩ := K_p1.one
      obtain ⟨e_bx0, -⟩ := K_bx0.one
      go_wp2_with fail
      clear e_p0 e_p1 e_bx0
      generalize hW : w8.alloc (.cells #[Value.slice A_x2 (l0).length c_x2] 26) = w9 at *
      clear hW
      refine (toEngine_any _ l1 _ S_1.out len1).mono ?_
      rintro e w10 ⟨r_x3, rfl, o_x3, b⟩
      have z_p0 := K_p0.lt
      have z_p1 := K_p1.lt
      have z_bx0 := K_bx0.lt
      have HB0 := HB.out.size
      have y_s0 := Lib.hid (fun k hk => (O_s0.out.lt k hk).2)
      have y_x2 := Lib.hid (fun k hk => (O_x2.out.lt k hk).2)
      replace K_p0 := K_p0.below b K_p0.lt
      replace K_p1 := K_p1.below b K_p1.lt
      replace K_bx0 := K_bx0.below b K_bx0.lt
      replace O_s0 := Lib.hid (O_s0.out.bel b)
      replace O_x2 := Lib.hid (O_x2.out.bel b)
      replace S_0 := Lib.hid (S_0.out.bel b)
      replace S_1 := Lib.hid (S_1.out.bel b)
      replace HB := Lib.hid (bel_trans HB.out b)
      clear b
      have N_p0_x3 : Hid (∀ k, r_x3.ownBlock = some k → k ≠ w.heap.size) := Lib.hid (fun k hk => by have p1 := (o_x3.lt k hk).1; have p2 := z_p0; omega)
      have N_p1_x3 : Hid (∀ k, r_x3.ownBlock = some k → k ≠ w.heap.size + 1) := Lib.hid (fun k hk => by have p1 := (o_x3.lt k hk).1; have p2 := z_p1; omega)
      have N_bx0_x3 : Hid (∀ k, r_x3.ownBlock = some k → k ≠ w8.heap.size) := Lib.hid (fun k hk => by have p1 := (o_x3.lt k hk).1; have p2 := z_bx0; omega)
      have N_s0_x3 : Hid (∀ k, (Value.slice A_s0 (rcL l0 l1 a2).length c_s0).ownBlock = some k → r_x3.ownBlock ≠ some k) := Lib.hid (fun k p q => by have p1 := (y_s0.out k p); have q1 := (o_x3.lt k q).1; omega)
      have N_x2_x3 : Hid (∀ k, (Value.slice A_x2 (l0).length c_x2).ownBlock = some k → r_x3.ownBlock ≠ some k) := Lib.hid (fun k p q => by have p1 := (y_x2.out k p); have q1 := (o_x3.lt k q).1; omega)
      have t_x3 : Hid (∀ k, r_x3.ownBlock = some k → w.heap.size ≤ k) := Lib.hid (fun k hk => by have p1 := (o_x3.lt k hk).1; have p2 := HB0; omega)
      have HBZ := Lib.hid HB0
      clear HB0 z_p0 z_p1 z_bx0 y_s0 y_x2
      have O_x3 := Lib.hid (o_x3.lower (base' := w.heap.size) HBZ.out)
      obtain ⟨A_x3, c_x3, rfl, -, -, -⟩ := o_x3.strs.open_
      clear o_x3
      clear HBZ
      have ba : Below w10.heap.size w10 (w10.alloc (.cells #[Value.slice A_x3 (l1).length c_x3] 26)) := bel_alloc w10 _
      have u_s0 := Lib.hid (fun k hk => (O_s0.out.lt k hk).2)
      have u_x2 := Lib.hid (fun k hk => (O_x2.out.lt k hk).2)
      have u_x3 := Lib.hid (fun k hk => (O_x3.out.lt k hk).2)
      replace K_p0 := K_p0.below ba K_p0.lt
      replace K_p1 := K_p1.below ba K_p1.lt
      replace K_bx0 := K_bx0.below ba K_bx0.lt
      replace O_s0 := Lib.hid (O_s0.out.bel ba)
      replace O_x2 := Lib.hid (O_x2.out.bel ba)
      replace O_x3 := Lib.hid (O_x3.out.bel ba)
      replace S_0 := Lib.hid (S_0.out.bel ba)
      replace S_1 := Lib.hid (S_1.out.bel ba)
      replace HB := Lib.hid (bel_trans HB.out ba)
      clear ba
      have K_bx1 := Blk.new' w10 26 (Value.slice A_x3 (l1).length c_x3) _ rfl
      have N_bx1_s0 : Hid (∀ k, (Value.slice A_s0 (rcL l0 l1 a2).length c_s0).ownBlock = some k → k ≠ w10.heap.size) := Lib.hid (fun k hk => by have p1 := u_s0.out k hk; omega)
      have N_bx1_x2 : Hid (∀ k, (Value.slice A_x2 (l0).length c_x2).ownBlock = some k → k ≠ w10.heap.size) := Lib.hid (fun k hk => by have p1 := u_x2.out k hk; omega)
      have N_bx1_x3 : Hid (∀ k, (Value.slice A_x3 (l1).length c_x3).ownBlock = some k → k ≠ w10.heap.size) := Lib.hid (fun k hk => by have p1 := u_x3.out k hk; omega)
      clear u_s0 u_x2 u_x3
      obtain ⟨e_p0, -⟩ := K_p0.one
      obtain ⟨e_p1, -⟩ := K_p1.one
      obtain ⟨e_bx0, -⟩ := K_bx0.one
      obtain ⟨e_bx1, -⟩ := K_bx1.one
      go_wp2_with fail
      clear e_p0 e_p1 e_bx0 e_bx1
      generalize hW : w10.alloc (.cells #[Value.slice A_x3 (l1).length c_x3] 26) = w11 at *
      clear hW
      refine (implRunC_any _ _ l0 l1 a2 _ O_x2.out.strs O_x3.out.strs h2).mono ?_
      rintro e w12 ⟨r_g0, rfl, o_g0, b⟩
      have z_p0 := K_p0.lt
      have z_p1 := K_p1.lt
      have z_bx0 := K_bx0.lt
      have z_bx1 := K_bx1.lt
      have HB0 := HB.out.size
      have y_s0 := Lib.hid (fun k hk => (O_s0.out.lt k hk).2)
      have y_x2 := Lib.hid (fun k hk => (O_x2.out.lt k hk).2)
      have y_x3 := Lib.hid (fun k hk => (O_x3.out.lt k hk).2)
      replace K_p0 := K_p0.below b K_p0.lt
      replace K_p1 := K_p1.below b K_p1.lt
      replace K_bx0 := K_bx0.below b K_bx0.lt
      replace K_bx1 := K_bx1.below b K_bx1.lt
      replace O_s0 := Lib.hid (O_s0.out.bel b)
      replace O_x2 := Lib.hid (O_x2.out.bel b)
      replace O_x3 := Lib.hid (O_x3.out.bel b)
      replace S_0 := Lib.hid (S_0.out.bel b)
      replace S_1 := Lib.hid (S_1.out.bel b)
      replace HB := Lib.hid (bel_trans HB.out b)
      clear b
      have N_p0_g0 : Hid (∀ k, r_g0.ownBlock = some k → k ≠ w.heap.size) := Lib.hid (fun k hk => by have p1 := (o_g0.lt k hk).1; have p2 := z_p0; omega)
      have N_p1_g0 : Hid (∀ k, r_g0.ownBlock = some k → k ≠ w.heap.size + 1) := Lib.hid (fun k hk => by have p1 := (o_g0.lt k hk).1; have p2 := z_p1; omega)
      have N_bx0_g0 : Hid (∀ k, r_g0.ownBlock = some k → k ≠ w8.heap.size) := Lib.hid (fun k hk => by have p1 := (o_g0.lt k hk).1; have p2 := z_bx0; omega)
      have N_bx1_g0 : Hid (∀ k, r_g0.ownBlock = some k → k ≠ w10.heap.size) := Lib.hid (fun k hk => by have p1 := (o_g0.lt k hk).1; have p2 := z_bx1; omega)
      have N_s0_g0 : Hid (∀ k, (Value.slice A_s0 (rcL l0 l1 a2).length c_s0).ownBlock = some k → r_g0.ownBlock ≠ some k) := Lib.hid (fun k p q => by have p1 := (y_s0.out k p); have q1 := (o_g0.lt k q).1; omega)
      have N_x2_g0 : Hid (∀ k, (Value.slice A_x2 (l0).length c_x2).ownBlock = some k → r_g0.ownBlock ≠ some k) := Lib.hid (fun k p q => by have p1 := (y_x2.out k p); have q1 := (o_g0.lt k q).1; omega)
      have N_x3_g0 : Hid (∀ k, (Value.slice A_x3 (l1).length c_x3).ownBlock = some k → r_g0.ownBlock ≠ some k) := Lib.hid (fun k p q => by have p1 := (y_x3.out k p); have q1 := (o_g0.lt k q).1; omega)
      have t_g0 : Hid (∀ k, r_g0.ownBlock = some k → w.heap.size ≤ k) := Lib.hid (fun k hk => by have p1 := (o_g0.lt k hk).1; have p2 := HB0; omega)
      have HBZ := Lib.hid HB0
      clear HB0 z_p0 z_p1 z_bx0 z_bx1 y_s0 y_x2 y_x3
      have O_g0 := Lib.hid (o_g0.lower (base' := w.heap.size) HBZ.out)
      obtain ⟨A_g0, c_g0, rfl, -, -, -⟩ := o_g0.ints.open_
      clear o_g0
      clear HBZ
      obtain ⟨e_p0, -⟩ := K_p0.one
      obtain ⟨e_p1, -⟩ := K_p1.one
      obtain ⟨e_bx0, -⟩ := K_bx0.one
      obtain ⟨e_bx1, -⟩ := K_bx1.one
      go_wp2_with fail
      clear e_p0 e_p1 e_bx0 e_bx1
      refine (eqIntS_any _ _ _ _ _ O_g0.out.ints O_s0.out.ints).mono ?_
      rw [he_r0]
      rintro e w13 ⟨rfl, b⟩
      replace K_p0 := K_p0.below b K_p0.lt
      replace K_p1 := K_p1.below b K_p1.lt
      replace K_bx0 := K_bx0.below b K_bx0.lt
      replace K_bx1 := K_bx1.below b K_bx1.lt
      replace O_s0 := Lib.hid (O_s0.out.bel b)
      replace O_x2 := Lib.hid (O_x2.out.bel b)
      replace O_x3 := Lib.hid (O_x3.out.bel b)
      replace O_g0 := Lib.hid (O_g0.out.bel b)
      replace S_0 := Lib.hid (S_0.out.bel b)
      replace S_1 := Lib.hid (S_1.out.bel b)
      replace HB := Lib.hid (bel_trans HB.out b)
      clear b
      obtain ⟨e_p0, -⟩ := K_p0.one
      obtain ⟨e_p1, -⟩ := K_p1.one
      obtain ⟨e_bx0, -⟩ := K_bx0.one
      obtain ⟨e_bx1, -⟩ := K_bx1.one
      go_wp2_with fail
      clear e_p0 e_p1 e_bx0 e_bx1
      refine cut_by (P := ?P2) ?hk2 (fun key2 => ?main2)
      case main2 =>
        replace key2 := Lib.hid key2
        obtain ⟨e_p0, -⟩ := K_p0.one
        obtain ⟨e_p1, -⟩ := K_p1.one
        obtain ⟨e_bx0, -⟩ := K_bx0.one
        obtain ⟨e_bx1, -⟩ := K_bx1.one
        have tok1 : True := trivial
        have tok2 : True := trivial
        go_region_held3 (fun w' => w'.cell? ⟨w.heap.size, 0, none⟩ = some (Value.slice A_a0 l0.length c_a0) ∧ w'.cell? ⟨w8.heap.size, 0, none⟩ = some (Value.slice A_x2 (l0).length c_x2)) (first | exact ⟨e_p0, e_bx0⟩ | exact ⟨((bel_alloc _ _).cell (by exact K_p0.lt)).trans e_p0, ((bel_alloc _ _).cell (by exact K_bx0.lt)).trans e_bx0⟩ | exact ⟨(World.cell?_setCell_other _ _ _ _ (by intro e; injection e with q; have := K_p0.lt; simp at q; omega)).trans (((bel_alloc _ _).cell (by exact K_p0.lt)).trans e_p0), (World.cell?_setCell_other _ _ _ _ (by intro e; injection e with q; have := K_bx0.lt; simp at q; omega)).trans (((bel_alloc _ _).cell (by exact K_bx0.lt)).trans e_bx0)⟩ | go_keep) (first
          | ((try go_simp); go_at_call 17; have _t := tok1; clear e_p0 e_p1 e_bx0 e_bx1; (refine (toEngine_any _ l0 _ (by first | exact S_0.out | exact S_0.out.bel ((Below.refl _ _).drew)) len0).mono ?_; rintro e w14 ⟨r_x4, rfl, o_x4, b⟩; replace o_x4 : OwnS w14 w13.heap.size r_x4 (l0) := o_x4; replace b : Below w13.heap.size w13 w14 := (by first | exact b | exact bel_trans ((Below.refl _ _).drew) b); have HBZ := Lib.hid HB.out.size; replace K_p0 := K_p0.below b K_p0.lt; replace K_p1 := K_p1.below b K_p1.lt; replace K_bx0 := K_bx0.below b K_bx0.lt; replace K_bx1 := K_bx1.below b K_bx1.lt; replace O_s0 := Lib.hid (O_s0.out.bel b); replace O_x2 := Lib.hid (O_x2.out.bel b); replace O_x3 := Lib.hid (O_x3.out.bel b); replace O_g0 := Lib.hid (O_g0.out.bel b); replace S_0 := Lib.hid (S_0.out.bel b); replace S_1 := Lib.hid (S_1.out.bel b); replace HB := Lib.hid (bel_trans HB.out b); clear b; have O_x4 := Lib.hid (o_x4.lower (base' := w.heap.size) HBZ.out); clear HBZ; obtain ⟨A_x4, c_x4, rfl, -, -, -⟩ := o_x4.strs.open_; clear o_x4; obtain ⟨e_p0, -⟩ := K_p0.one; obtain ⟨e_p1, -⟩ := K_p1.one; obtain ⟨e_bx0, -⟩ := K_bx0.one; obtain ⟨e_bx1, -⟩ := K_bx1.one; clear tok1; (try dsimp only)))
          | ((try go_simp); go_at_call 19; have _t := tok2; clear e_p0 e_p1 e_bx0 e_bx1; (refine (eqEngine_any _ _ _ _ _ (by first | exact O_x2.out.strs | exact O_x2.out.strs.bel ((Below.refl _ _).drew)) (by first | exact O_x4.out.strs | exact O_x4.out.strs.bel ((Below.refl _ _).drew))).mono ?_; rw [he_a0]; rintro e w15 ⟨rfl, b⟩; replace b : Below w14.heap.size w14 w15 := (by first | exact b | exact bel_trans ((Below.refl _ _).drew) b); replace K_p0 := K_p0.below b K_p0.lt; replace K_p1 := K_p1.below b K_p1.lt; replace K_bx0 := K_bx0.below b K_bx0.lt; replace K_bx1 := K_bx1.below b K_bx1.lt; replace O_s0 := Lib.hid (O_s0.out.bel b); replace O_x2 := Lib.hid (O_x2.out.bel b); replace O_x3 := Lib.hid (O_x3.out.bel b); replace O_g0 := Lib.hid (O_g0.out.bel b); replace O_x4 := Lib.hid (O_x4.out.bel b); replace S_0 := Lib.hid (S_0.out.bel b); replace S_1 := Lib.hid (S_1.out.bel b); replace HB := Lib.hid (bel_trans HB.out b); clear b; clear O_x4; obtain ⟨e_p0, -⟩ := K_p0.one; obtain ⟨e_p1, -⟩ := K_p1.one; obtain ⟨e_bx0, -⟩ := K_bx0.one; obtain ⟨e_bx1, -⟩ := K_bx1.one; clear tok2; (try dsimp only)))
          | fail)
        all_goals
          clear e_p0 e_p1 e_bx0 e_bx1
          first
          | (obtain ⟨w16, hW⟩ : ∃ W', W' = w15.drew := ⟨_, rfl⟩; rw [← hW]; have b : Below w15.heap.size w15 w16 := (by rw [hW]; exact (Below.refl _ _).drew); clear hW)
          | (obtain ⟨w16, hW⟩ : ∃ W', W' = w15 := ⟨_, rfl⟩; rw [← hW]; have b : Below w15.heap.size w15 w16 := (by rw [hW]; exact Below.refl _ _); clear hW)
          replace K_p0 := K_p0.below b K_p0.lt
          replace K_p1 := K_p1.below b K_p1.lt
          replace K_bx0 := K_bx0.below b K_bx0.lt
          replace K_bx1 := K_bx1.below b K_bx1.lt
          replace O_s0 := Lib.hid (O_s0.out.bel b)
          replace O_x2 := Lib.hid (O_x2.out.bel b)
          replace O_x3 := Lib.hid (O_x3.out.bel b)
          replace O_g0 := Lib.hid (O_g0.out.bel b)
          replace S_0 := Lib.hid (S_0.out.bel b)
          replace S_1 := Lib.hid (S_1.out.bel b)
          replace HB := Lib.hid (bel_trans HB.out b)
          clear b
          revert HB; revert S_1; revert S_0; revert O_g0; revert O_x3; revert O_x2; revert O_s0; revert K_bx1; revert K_bx0; revert K_p1; revert K_p0; revert c_x4; revert A_x4; revert w16
          exact key2.out
      intro w16 A_x4 c_x4
      intro K_p0 K_p1 K_bx0 K_bx1 O_s0 O_x2 O_x3 O_g0 S_0 S_1 HB
      obtain ⟨e_p0, -⟩ := K_p0.one
      obtain ⟨e_p1, -⟩ := K_p1.one
      obtain ⟨e_bx0, -⟩ := K_bx0.one
      obtain ⟨e_bx1, -⟩ := K_bx1.one
      go_wp2_with fail
      clear e_p0 e_p1 e_bx0 e_bx1
      refine cut_by (P := ?P3) ?hk3 (fun key3 => ?main3)
      case main3 =>
        replace key3 := Lib.hid key3
        obtain ⟨e_p0, -⟩ := K_p0.one
        obtain ⟨e_p1, -⟩ := K_p1.one
        obtain ⟨e_bx0, -⟩ := K_bx0.one
        obtain ⟨e_bx1, -⟩ := K_bx1.one
        have tok1 : True := trivial
        have tok2 : True := trivial
        go_region_held3 (fun w' => w'.cell? ⟨w.heap.size + 1, 0, none⟩ = some (Value.slice A_a1 l1.length c_a1) ∧ w'.cell? ⟨w10.heap.size, 0, none⟩ = some (Value.slice A_x3 (l1).length c_x3)) (first | exact ⟨e_p1, e_bx1⟩ | exact ⟨((bel_alloc _ _).cell (by exact K_p1.lt)).trans e_p1, ((bel_alloc _ _).cell (by exact K_bx1.lt)).trans e_bx1⟩ | exact ⟨(World.cell?_setCell_other _ _ _ _ (by intro e; injection e with q; have := K_p1.lt; simp at q; omega)).trans (((bel_alloc _ _).cell (by exact K_p1.lt)).trans e_p1), (World.cell?_setCell_other _ _ _ _ (by intro e; injection e with q; have := K_bx1.lt; simp at q; omega)).trans (((bel_alloc _ _).cell (by exact K_bx1.lt)).trans e_bx1)⟩ | go_keep) (first
          | ((try go_simp); go_at_call 17; have _t := tok1; clear e_p0 e_p1 e_bx0 e_bx1; (refine (toEngine_any _ l1 _ (by first | exact S_1.out | exact S_1.out.bel ((Below.refl _ _).drew)) len1).mono ?_; rintro e w17 ⟨r_x5, rfl, o_x5, b⟩; replace o_x5 : OwnS w17 w16.heap.size r_x5 (l1) := o_x5; replace b : Below w16.heap.size w16 w17 := (by first | exact b | exact bel_trans ((Below.refl _ _).drew) b); have HBZ := Lib.hid HB.out.size; replace K_p0 := K_p0.below b K_p0.lt; replace K_p1 := K_p1.below b K_p1.lt; replace K_bx0 := K_bx0.below b K_bx0.lt; replace K_bx1 := K_bx1.below b K_bx1.lt; replace O_s0 := Lib.hid (O_s0.out.bel b); replace O_x2 := Lib.hid (O_x2.out.bel b); replace O_x3 := Lib.hid (O_x3.out.bel b); replace O_g0 := Lib.hid (O_g0.out.bel b); replace S_0 := Lib.hid (S_0.out.bel b); replace S_1 := Lib.hid (S_1.out.bel b); replace HB := Lib.hid (bel_trans HB.out b); clear b; have O_x5 := Lib.hid (o_x5.lower (base' := w.heap.size) HBZ.out); clear HBZ; obtain ⟨A_x5, c_x5, rfl, -, -, -⟩ := o_x5.strs.open_; clear o_x5; obtain ⟨e_p0, -⟩ := K_p0.one; obtain ⟨e_p1, -⟩ := K_p1.one; obtain ⟨e_bx0, -⟩ := K_bx0.one; obtain ⟨e_bx1, -⟩ := K_bx1.one; clear tok1; (try dsimp only)))
          | ((try go_simp); go_at_call 19; have _t := tok2; clear e_p0 e_p1 e_bx0 e_bx1; (refine (eqEngine_any _ _ _ _ _ (by first | exact O_x3.out.strs | exact O_x3.out.strs.bel ((Below.refl _ _).drew)) (by first | exact O_x5.out.strs | exact O_x5.out.strs.bel ((Below.refl _ _).drew))).mono ?_; rw [he_a1]; rintro e w18 ⟨rfl, b⟩; replace b : Below w17.heap.size w17 w18 := (by first | exact b | exact bel_trans ((Below.refl _ _).drew) b); replace K_p0 := K_p0.below b K_p0.lt; replace K_p1 := K_p1.below b K_p1.lt; replace K_bx0 := K_bx0.below b K_bx0.lt; replace K_bx1 := K_bx1.below b K_bx1.lt; replace O_s0 := Lib.hid (O_s0.out.bel b); replace O_x2 := Lib.hid (O_x2.out.bel b); replace O_x3 := Lib.hid (O_x3.out.bel b); replace O_g0 := Lib.hid (O_g0.out.bel b); replace O_x5 := Lib.hid (O_x5.out.bel b); replace S_0 := Lib.hid (S_0.out.bel b); replace S_1 := Lib.hid (S_1.out.bel b); replace HB := Lib.hid (bel_trans HB.out b); clear b; clear O_x5; obtain ⟨e_p0, -⟩ := K_p0.one; obtain ⟨e_p1, -⟩ := K_p1.one; obtain ⟨e_bx0, -⟩ := K_bx0.one; obtain ⟨e_bx1, -⟩ := K_bx1.one; clear tok2; (try dsimp only)))
          | fail)
        all_goals
          clear e_p0 e_p1 e_bx0 e_bx1
          first
          | (obtain ⟨w19, hW⟩ : ∃ W', W' = w18.drew := ⟨_, rfl⟩; rw [← hW]; have b : Below w18.heap.size w18 w19 := (by rw [hW]; exact (Below.refl _ _).drew); clear hW)
          | (obtain ⟨w19, hW⟩ : ∃ W', W' = w18 := ⟨_, rfl⟩; rw [← hW]; have b : Below w18.heap.size w18 w19 := (by rw [hW]; exact Below.refl _ _); clear hW)
          replace K_p0 := K_p0.below b K_p0.lt
          replace K_p1 := K_p1.below b K_p1.lt
          replace K_bx0 := K_bx0.below b K_bx0.lt
          replace K_bx1 := K_bx1.below b K_bx1.lt
          replace O_s0 := Lib.hid (O_s0.out.bel b)
          replace O_x2 := Lib.hid (O_x2.out.bel b)
          replace O_x3 := Lib.hid (O_x3.out.bel b)
          replace O_g0 := Lib.hid (O_g0.out.bel b)
          replace S_0 := Lib.hid (S_0.out.bel b)
          replace S_1 := Lib.hid (S_1.out.bel b)
          replace HB := Lib.hid (bel_trans HB.out b)
          clear b
          revert HB; revert S_1; revert S_0; revert O_g0; revert O_x3; revert O_x2; revert O_s0; revert K_bx1; revert K_bx0; revert K_p1; revert K_p0; revert c_x5; revert A_x5; revert w19
          exact key3.out
      intro w19 A_x5 c_x5
      intro K_p0 K_p1 K_bx0 K_bx1 O_s0 O_x2 O_x3 O_g0 S_0 S_1 HB
      have hR0 : (rcL l0 l1 a2).length ≤ 1048576 := by exact Nat.le_trans rcL_len (by omega)
      obtain ⟨e_p0, -⟩ := K_p0.one
      obtain ⟨e_p1, -⟩ := K_p1.one
      obtain ⟨e_bx0, -⟩ := K_bx0.one
      obtain ⟨e_bx1, -⟩ := K_bx1.one
      go_wp2_with fail
      clear e_p0 e_p1 e_bx0 e_bx1
      refine (markEngine_int _ _ (1) _ _ O_x2.out (by omega) (by omega)).mono ?_
      rintro e w20 ⟨rfl, g, o_x2⟩
      replace K_p0 := K_p0.grown g (fun e => N_p0_x2.out _ e.symm rfl)
      replace K_p1 := K_p1.grown g (fun e => N_p1_x2.out _ e.symm rfl)
      replace K_bx0 := K_bx0.grown g (fun e => N_bx0_x2.out _ e.symm rfl)
      replace K_bx1 := K_bx1.grown g (fun e => N_bx1_x2.out _ e.symm rfl)
      replace O_s0 := Lib.hid (O_s0.out.apart g N_s0_x2.out)
      replace O_x3 := Lib.hid (O_x3.out.apart g (fun k p q => N_x2_x3.out k q p))
      replace O_g0 := Lib.hid (O_g0.out.apart g (fun k p q => N_x2_g0.out k q p))
      replace S_0 := Lib.hid (S_0.out.far g (B := w.heap.size) (fun k p => t_x2.out k p) J_0.out)
      replace S_1 := Lib.hid (S_1.out.far g (B := w.heap.size) (fun k p => t_x2.out k p) J_1.out)
      replace HB := Lib.hid (mark_bel HB.out g (fun k p => t_x2.out k p))
      clear g
      replace O_x2 := Lib.hid o_x2
      clear o_x2
      obtain ⟨e_p0, -⟩ := K_p0.one
      obtain ⟨e_p1, -⟩ := K_p1.one
      obtain ⟨e_bx0, -⟩ := K_bx0.one
      obtain ⟨e_bx1, -⟩ := K_bx1.one
      go_wp2_with fail
      clear e_p0 e_p1 e_bx0 e_bx1
      refine (markEngine_int _ _ (1 + (l0.length : Int)) _ _ O_x3.out (by omega) (by omega)).mono ?_
      rintro e w21 ⟨rfl, g, o_x3⟩
      replace K_p0 := K_p0.grown g (fun e => N_p0_x3.out _ e.symm rfl)
      replace K_p1 := K_p1.grown g (fun e => N_p1_x3.out _ e.symm rfl)
      replace K_bx0 := K_bx0.grown g (fun e => N_bx0_x3.out _ e.symm rfl)
      replace K_bx1 := K_bx1.grown g (fun e => N_bx1_x3.out _ e.symm rfl)
      replace O_s0 := Lib.hid (O_s0.out.apart g N_s0_x3.out)
      replace O_x2 := Lib.hid (O_x2.out.apart g N_x2_x3.out)
      replace O_g0 := Lib.hid (O_g0.out.apart g (fun k p q => N_x3_g0.out k q p))
      replace S_0 := Lib.hid (S_0.out.far g (B := w.heap.size) (fun k p => t_x3.out k p) J_0.out)
      replace S_1 := Lib.hid (S_1.out.far g (B := w.heap.size) (fun k p => t_x3.out k p) J_1.out)
      replace HB := Lib.hid (mark_bel HB.out g (fun k p => t_x3.out k p))
      clear g
      replace O_x3 := Lib.hid o_x3
      clear o_x3
      obtain ⟨e_p0, -⟩ := K_p0.one
      obtain ⟨e_p1, -⟩ := K_p1.one
      obtain ⟨e_bx0, -⟩ := K_bx0.one
      obtain ⟨e_bx1, -⟩ := K_bx1.one
      go_wp2_with fail
      clear e_p0 e_p1 e_bx0 e_bx1
      refine (eqIntS_any _ _ _ _ _ O_g0.out.ints O_s0.out.ints).mono ?_
      rw [he_r0]
      rintro e w22 ⟨rfl, b⟩
      replace K_p0 := K_p0.below b K_p0.lt
      replace K_p1 := K_p1.below b K_p1.lt
      replace K_bx0 := K_bx0.below b K_bx0.lt
      replace K_bx1 := K_bx1.below b K_bx1.lt
      replace O_s0 := Lib.hid (O_s0.out.bel b)
      replace O_x2 := Lib.hid (O_x2.out.bel b)
      replace O_x3 := Lib.hid (O_x3.out.bel b)
      replace O_g0 := Lib.hid (O_g0.out.bel b)
      replace S_0 := Lib.hid (S_0.out.bel b)
      replace S_1 := Lib.hid (S_1.out.bel b)
      replace HB := Lib.hid (bel_trans HB.out b)
      clear b
      obtain ⟨e_p0, -⟩ := K_p0.one
      obtain ⟨e_p1, -⟩ := K_p1.one
      obtain ⟨e_bx0, -⟩ := K_bx0.one
      obtain ⟨e_bx1, -⟩ := K_bx1.one
      go_wp2_with fail
      clear e_p0 e_p1 e_bx0 e_bx1
      refine (markIntS_any _ _ (1) _ _ O_g0.out (by omega) (by omega)).mono ?_
      rintro e w23 ⟨rfl, g, o_g0⟩
      replace K_p0 := K_p0.grown g (fun e => N_p0_g0.out _ e.symm rfl)
      replace K_p1 := K_p1.grown g (fun e => N_p1_g0.out _ e.symm rfl)
      replace K_bx0 := K_bx0.grown g (fun e => N_bx0_g0.out _ e.symm rfl)
      replace K_bx1 := K_bx1.grown g (fun e => N_bx1_g0.out _ e.symm rfl)
      replace O_s0 := Lib.hid (O_s0.out.apart g N_s0_g0.out)
      replace O_x2 := Lib.hid (O_x2.out.apart g N_x2_g0.out)
      replace O_x3 := Lib.hid (O_x3.out.apart g N_x3_g0.out)
      replace S_0 := Lib.hid (S_0.out.far g (B := w.heap.size) (fun k p => t_g0.out k p) J_0.out)
      replace S_1 := Lib.hid (S_1.out.far g (B := w.heap.size) (fun k p => t_g0.out k p) J_1.out)
      replace HB := Lib.hid (mark_bel HB.out g (fun k p => t_g0.out k p))
      clear g
      replace O_g0 := Lib.hid o_g0
      clear o_g0
      obtain ⟨e_p0, -⟩ := K_p0.one
      obtain ⟨e_p1, -⟩ := K_p1.one
      obtain ⟨e_bx0, -⟩ := K_bx0.one
      obtain ⟨e_bx1, -⟩ := K_bx1.one
      go_wp2_with fail
      clear e_p0 e_p1 e_bx0 e_bx1
      refine (heldIntS_any _ _ (1) _ O_g0.out.ints (by omega) (by omega)).mono ?_
      rintro e w24 ⟨rfl, hww⟩
      subst hww
      obtain ⟨e_p0, -⟩ := K_p0.one
      obtain ⟨e_p1, -⟩ := K_p1.one
      obtain ⟨e_bx0, -⟩ := K_bx0.one
      obtain ⟨e_bx1, -⟩ := K_bx1.one
      go_wp2_with fail
      clear e_p0 e_p1 e_bx0 e_bx1
      refine cut_by (P := ?P4) ?hk4 (fun key4 => ?main4)
      case main4 =>
        replace key4 := Lib.hid key4
        obtain ⟨e_p0, -⟩ := K_p0.one
        obtain ⟨e_p1, -⟩ := K_p1.one
        obtain ⟨e_bx0, -⟩ := K_bx0.one
        obtain ⟨e_bx1, -⟩ := K_bx1.one
        have tok1 : True := trivial
        have tok2 : True := trivial
        have tok3 : True := trivial
        go_region_held3 (fun w' => w'.cell? ⟨w.heap.size, 0, none⟩ = some (Value.slice A_a0 l0.length c_a0) ∧ w'.cell? ⟨w.heap.size + 1, 0, none⟩ = some (Value.slice A_a1 l1.length c_a1)) (first | exact ⟨e_p0, e_p1⟩ | exact ⟨((bel_alloc _ _).cell (by exact K_p0.lt)).trans e_p0, ((bel_alloc _ _).cell (by exact K_p1.lt)).trans e_p1⟩ | exact ⟨(World.cell?_setCell_other _ _ _ _ (by intro e; injection e with q; have := K_p0.lt; simp at q; omega)).trans (((bel_alloc _ _).cell (by exact K_p0.lt)).trans e_p0), (World.cell?_setCell_other _ _ _ _ (by intro e; injection e with q; have := K_p1.lt; simp at q; omega)).trans (((bel_alloc _ _).cell (by exact K_p1.lt)).trans e_p1)⟩ | go_keep) (first
          | ((try go_simp); go_at_call 17; have _t := tok1; clear e_p0 e_p1 e_bx0 e_bx1; (refine (toEngine_any _ l0 _ (by first | exact S_0.out | exact S_0.out.bel ((Below.refl _ _).drew)) len0).mono ?_; rintro e w25 ⟨r_x6, rfl, o_x6, b⟩; replace o_x6 : OwnS w25 w23.heap.size r_x6 (l0) := o_x6; replace b : Below w23.heap.size w23 w25 := (by first | exact b | exact bel_trans ((Below.refl _ _).drew) b); have HBZ := Lib.hid HB.out.size; replace K_p0 := K_p0.below b K_p0.lt; replace K_p1 := K_p1.below b K_p1.lt; replace K_bx0 := K_bx0.below b K_bx0.lt; replace K_bx1 := K_bx1.below b K_bx1.lt; replace O_s0 := Lib.hid (O_s0.out.bel b); replace O_x2 := Lib.hid (O_x2.out.bel b); replace O_x3 := Lib.hid (O_x3.out.bel b); replace O_g0 := Lib.hid (O_g0.out.bel b); replace S_0 := Lib.hid (S_0.out.bel b); replace S_1 := Lib.hid (S_1.out.bel b); replace HB := Lib.hid (bel_trans HB.out b); clear b; have O_x6 := Lib.hid (o_x6.lower (base' := w.heap.size) HBZ.out); clear HBZ; obtain ⟨A_x6, c_x6, rfl, -, -, -⟩ := o_x6.strs.open_; clear o_x6; obtain ⟨e_p0, -⟩ := K_p0.one; obtain ⟨e_p1, -⟩ := K_p1.one; obtain ⟨e_bx0, -⟩ := K_bx0.one; obtain ⟨e_bx1, -⟩ := K_bx1.one; clear tok1; (try dsimp only)))
          | ((try go_simp); go_at_call 17; have _t := tok2; clear e_p0 e_p1 e_bx0 e_bx1; (refine (toEngine_any _ l1 _ (by first | exact S_1.out | exact S_1.out.bel ((Below.refl _ _).drew)) len1).mono ?_; rintro e w26 ⟨r_x7, rfl, o_x7, b⟩; replace o_x7 : OwnS w26 w25.heap.size r_x7 (l1) := o_x7; replace b : Below w25.heap.size w25 w26 := (by first | exact b | exact bel_trans ((Below.refl _ _).drew) b); have HBZ := Lib.hid HB.out.size; replace K_p0 := K_p0.below b K_p0.lt; replace K_p1 := K_p1.below b K_p1.lt; replace K_bx0 := K_bx0.below b K_bx0.lt; replace K_bx1 := K_bx1.below b K_bx1.lt; replace O_s0 := Lib.hid (O_s0.out.bel b); replace O_x2 := Lib.hid (O_x2.out.bel b); replace O_x3 := Lib.hid (O_x3.out.bel b); replace O_g0 := Lib.hid (O_g0.out.bel b); replace O_x6 := Lib.hid (O_x6.out.bel b); replace S_0 := Lib.hid (S_0.out.bel b); replace S_1 := Lib.hid (S_1.out.bel b); replace HB := Lib.hid (bel_trans HB.out b); clear b; have O_x7 := Lib.hid (o_x7.lower (base' := w.heap.size) HBZ.out); clear HBZ; obtain ⟨A_x7, c_x7, rfl, -, -, -⟩ := o_x7.strs.open_; clear o_x7; obtain ⟨e_p0, -⟩ := K_p0.one; obtain ⟨e_p1, -⟩ := K_p1.one; obtain ⟨e_bx0, -⟩ := K_bx0.one; obtain ⟨e_bx1, -⟩ := K_bx1.one; clear tok2; (try dsimp only)))
          | ((try go_simp); go_at_call 29; have _t := tok3; clear e_p0 e_p1 e_bx0 e_bx1; (refine (implRunC_any _ _ l0 l1 a2 _ (by first | exact O_x6.out.strs | exact O_x6.out.strs.bel ((Below.refl _ _).drew)) (by first | exact O_x7.out.strs | exact O_x7.out.strs.bel ((Below.refl _ _).drew)) h2).mono ?_; rintro e w27 ⟨r_h0, rfl, o_h0, b⟩; replace o_h0 : Own w27 w26.heap.size r_h0 (rcL l0 l1 a2) := o_h0; replace b : Below w26.heap.size w26 w27 := (by first | exact b | exact bel_trans ((Below.refl _ _).drew) b); have z_p0 := K_p0.lt; have z_p1 := K_p1.lt; have z_bx0 := K_bx0.lt; have z_bx1 := K_bx1.lt; have HB0 := HB.out.size; have y_s0 := Lib.hid (fun k hk => (O_s0.out.lt k hk).2); have y_x2 := Lib.hid (fun k hk => (O_x2.out.lt k hk).2); have y_x3 := Lib.hid (fun k hk => (O_x3.out.lt k hk).2); have y_g0 := Lib.hid (fun k hk => (O_g0.out.lt k hk).2); replace K_p0 := K_p0.below b K_p0.lt; replace K_p1 := K_p1.below b K_p1.lt; replace K_bx0 := K_bx0.below b K_bx0.lt; replace K_bx1 := K_bx1.below b K_bx1.lt; replace O_s0 := Lib.hid (O_s0.out.bel b); replace O_x2 := Lib.hid (O_x2.out.bel b); replace O_x3 := Lib.hid (O_x3.out.bel b); replace O_g0 := Lib.hid (O_g0.out.bel b); replace O_x6 := Lib.hid (O_x6.out.bel b); replace O_x7 := Lib.hid (O_x7.out.bel b); replace S_0 := Lib.hid (S_0.out.bel b); replace S_1 := Lib.hid (S_1.out.bel b); replace HB := Lib.hid (bel_trans HB.out b); clear b; have N_p0_h0 : Hid (∀ k, r_h0.ownBlock = some k → k ≠ w.heap.size) := Lib.hid (fun k hk => by have p1 := (o_h0.lt k hk).1; have p2 := z_p0; omega); have N_p1_h0 : Hid (∀ k, r_h0.ownBlock = some k → k ≠ w.heap.size + 1) := Lib.hid (fun k hk => by have p1 := (o_h0.lt k hk).1; have p2 := z_p1; omega); have N_bx0_h0 : Hid (∀ k, r_h0.ownBlock = some k → k ≠ w8.heap.size) := Lib.hid (fun k hk => by have p1 := (o_h0.lt k hk).1; have p2 := z_bx0; omega); have N_bx1_h0 : Hid (∀ k, r_h0.ownBlock = some k → k ≠ w10.heap.size) := Lib.hid (fun k hk => by have p1 := (o_h0.lt k hk).1; have p2 := z_bx1; omega); have N_s0_h0 : Hid (∀ k, (Value.slice A_s0 (rcL l0 l1 a2).length c_s0).ownBlock = some k → r_h0.ownBlock ≠ some k) := Lib.hid (fun k p q => by have p1 := (y_s0.out k p); have q1 := (o_h0.lt k q).1; omega); have N_x2_h0 : Hid (∀ k, (Value.slice A_x2 (l0).length c_x2).ownBlock = some k → r_h0.ownBlock ≠ some k) := Lib.hid (fun k p q => by have p1 := (y_x2.out k p); have q1 := (o_h0.lt k q).1; omega); have N_x3_h0 : Hid (∀ k, (Value.slice A_x3 (l1).length c_x3).ownBlock = some k → r_h0.ownBlock ≠ some k) := Lib.hid (fun k p q => by have p1 := (y_x3.out k p); have q1 := (o_h0.lt k q).1; omega); have N_g0_h0 : Hid (∀ k, (Value.slice A_g0 (rcL l0 l1 a2).length c_g0).ownBlock = some k → r_h0.ownBlock ≠ some k) := Lib.hid (fun k p q => by have p1 := (y_g0.out k p); have q1 := (o_h0.lt k q).1; omega); have t_h0 : Hid (∀ k, r_h0.ownBlock = some k → w.heap.size ≤ k) := Lib.hid (fun k hk => by have p1 := (o_h0.lt k hk).1; have p2 := HB0; omega); have HBZ := Lib.hid HB0; clear HB0 z_p0 z_p1 z_bx0 z_bx1 y_s0 y_x2 y_x3 y_g0; have O_h0 := Lib.hid (o_h0.lower (base' := w.heap.size) HBZ.out); obtain ⟨A_h0, c_h0, rfl, -, -, -⟩ := o_h0.ints.open_; clear o_h0; clear HBZ; clear O_x6 O_x7; obtain ⟨e_p0, -⟩ := K_p0.one; obtain ⟨e_p1, -⟩ := K_p1.one; obtain ⟨e_bx0, -⟩ := K_bx0.one; obtain ⟨e_bx1, -⟩ := K_bx1.one; clear tok3; (try dsimp only)))
          | fail)
        all_goals
          clear e_p0 e_p1 e_bx0 e_bx1
          first
          | (obtain ⟨w28, hW⟩ : ∃ W', W' = w27.drew := ⟨_, rfl⟩; rw [← hW]; have b : Below w27.heap.size w27 w28 := (by rw [hW]; exact (Below.refl _ _).drew); clear hW)
          | (obtain ⟨w28, hW⟩ : ∃ W', W' = w27 := ⟨_, rfl⟩; rw [← hW]; have b : Below w27.heap.size w27 w28 := (by rw [hW]; exact Below.refl _ _); clear hW)
          replace K_p0 := K_p0.below b K_p0.lt
          replace K_p1 := K_p1.below b K_p1.lt
          replace K_bx0 := K_bx0.below b K_bx0.lt
          replace K_bx1 := K_bx1.below b K_bx1.lt
          replace O_s0 := Lib.hid (O_s0.out.bel b)
          replace O_x2 := Lib.hid (O_x2.out.bel b)
          replace O_x3 := Lib.hid (O_x3.out.bel b)
          replace O_g0 := Lib.hid (O_g0.out.bel b)
          replace O_h0 := Lib.hid (O_h0.out.bel b)
          replace S_0 := Lib.hid (S_0.out.bel b)
          replace S_1 := Lib.hid (S_1.out.bel b)
          replace HB := Lib.hid (bel_trans HB.out b)
          clear b
          revert N_x3_h0; revert N_x2_h0; revert N_s0_h0; revert N_g0_h0; revert t_h0; revert N_bx1_h0; revert N_bx0_h0; revert N_p1_h0; revert N_p0_h0; revert HB; revert S_1; revert S_0; revert O_h0; revert O_g0; revert O_x3; revert O_x2; revert O_s0; revert K_bx1; revert K_bx0; revert K_p1; revert K_p0; revert c_h0; revert A_h0; revert c_x7; revert A_x7; revert c_x6; revert A_x6; revert w28
          exact key4.out
      intro w28 A_x6 c_x6 A_x7 c_x7 A_h0 c_h0
      intro K_p0 K_p1 K_bx0 K_bx1 O_s0 O_x2 O_x3 O_g0 O_h0 S_0 S_1 HB N_p0_h0 N_p1_h0 N_bx0_h0 N_bx1_h0 t_h0 N_g0_h0 N_s0_h0 N_x2_h0 N_x3_h0
      obtain ⟨e_p0, -⟩ := K_p0.one
      obtain ⟨e_p1, -⟩ := K_p1.one
      obtain ⟨e_bx0, -⟩ := K_bx0.one
      obtain ⟨e_bx1, -⟩ := K_bx1.one
      go_wp2_with fail
      clear e_p0 e_p1 e_bx0 e_bx1
      refine (eqIntS_any _ _ _ _ _ O_h0.out.ints O_s0.out.ints).mono ?_
      rw [he_r0]
      rintro e w29 ⟨rfl, b⟩
      replace K_p0 := K_p0.below b K_p0.lt
      replace K_p1 := K_p1.below b K_p1.lt
      replace K_bx0 := K_bx0.below b K_bx0.lt
      replace K_bx1 := K_bx1.below b K_bx1.lt
      replace O_s0 := Lib.hid (O_s0.out.bel b)
      replace O_x2 := Lib.hid (O_x2.out.bel b)
      replace O_x3 := Lib.hid (O_x3.out.bel b)
      replace O_g0 := Lib.hid (O_g0.out.bel b)
      replace O_h0 := Lib.hid (O_h0.out.bel b)
      replace S_0 := Lib.hid (S_0.out.bel b)
      replace S_1 := Lib.hid (S_1.out.bel b)
      replace HB := Lib.hid (bel_trans HB.out b)
      clear b
      obtain ⟨e_p0, -⟩ := K_p0.one
      obtain ⟨e_p1, -⟩ := K_p1.one
      obtain ⟨e_bx0, -⟩ := K_bx0.one
      obtain ⟨e_bx1, -⟩ := K_bx1.one
      go_wp2_with fail
      clear e_p0 e_p1 e_bx0 e_bx1
      refine (heldIntS_any _ _ (1) _ O_g0.out.ints (by omega) (by omega)).mono ?_
      rintro e w30 ⟨rfl, hww⟩
      subst hww
      go_wp2
      go_ret
      exact ⟨rfl, HB.out⟩

end Go.Proofs.Ytgndnkpenmcafaa
