/-
  The law FnExactSumEngine, walked (made by exact2.py).
-/
import Derived.Test.YtgndnkpenmcafaaEngLaw
import Derived.Deep.RegionLaw
import Derived.Deep.RegionWith
import Derived.Deep.DrawnRows
import Derived.Deep.RegionHeld3
import Derived.Test.YtgndnkpenmcafaaSum
namespace Go.Proofs.Ytgndnkpenmcafaa
open Go.RowKit
set_option linter.unusedVariables false
set_option linter.unusedSimpArgs false
set_option maxRecDepth 100000

set_option maxHeartbeats 8000000 in
theorem lawSumEngine (v0 : Value) (l0 : List ByteArray) (a1 : Int) (w : World) (h0 : Strs w v0 l0) (h1 : -9223372036854775808 ≤ a1 ∧ a1 ≤ 9223372036854775807) :
    Calls Try.prog 5 #[.agg #[v0], .int .i64 a1] w fun e w' => e = .returned (.bool true) ∧ Below w.heap.size w w' := by
  have S_0 := Lib.hid h0
  have J_0 := Lib.hid h0.low
  obtain ⟨A_a0, c_a0, rfl, -, -, -⟩ := h0.open_
  clear h0
  have he_r0 := eqS_self (sumE l0 a1)
  have he_a0 := eqS_self l0
  have HB := Lib.hid (Below.refl w.heap.size w)
  go_enter Try.func5, Try.ntmps5
  have ba : Below w.heap.size w (w.alloc (.cells #[Value.slice A_a0 l0.length c_a0] 24)) := bel_alloc w _
  replace S_0 := Lib.hid (S_0.out.bel ba)
  replace HB := Lib.hid (bel_trans HB.out ba)
  clear ba
  have K_p0 := Blk.new' w 24 (Value.slice A_a0 l0.length c_a0) _ rfl
  obtain ⟨e_p0, -⟩ := K_p0.one
  go_wp2_with fail
  clear e_p0
  generalize hW : w.alloc (.cells #[Value.slice A_a0 l0.length c_a0] 24) = w1 at *
  clear hW
  refine (szEngine_any _ l0 1048576 _ S_0.out (by omega) (by omega)).mono ?_
  rintro e w2 ⟨lf0, rfl, hr0, b⟩
  replace K_p0 := K_p0.below b K_p0.lt
  replace S_0 := Lib.hid (S_0.out.bel b)
  replace HB := Lib.hid (bel_trans HB.out b)
  clear b
  rcases hr0 with rfl | ⟨q0_0, q1_0⟩
  · go_wp2
    go_ret
    exact ⟨rfl, HB.out⟩
  · skip
    have len0 : l0.length ≤ 1048576 := by omega
    obtain ⟨e_p0, -⟩ := K_p0.one
    go_wp2_with fail
    clear e_p0
    refine (toEngine_any _ l0 _ S_0.out len0).mono ?_
    rintro e w3 ⟨r_x0, rfl, o_x0, b⟩
    have HBZ := Lib.hid HB.out.size
    replace K_p0 := K_p0.below b K_p0.lt
    replace S_0 := Lib.hid (S_0.out.bel b)
    replace HB := Lib.hid (bel_trans HB.out b)
    clear b
    have O_x0 := Lib.hid (o_x0.lower (base' := w.heap.size) HBZ.out)
    clear HBZ
    obtain ⟨A_x0, c_x0, rfl, -, -, -⟩ := o_x0.strs.open_
    clear o_x0
    obtain ⟨e_p0, -⟩ := K_p0.one
    go_wp2_with fail
    clear e_p0
    refine (specSum_any _ l0 a1 _ O_x0.out.strs h1).mono ?_
    rintro e w4 ⟨r_s0, rfl, o_s0, b⟩
    have z_p0 := K_p0.lt
    have HB0 := HB.out.size
    replace K_p0 := K_p0.below b K_p0.lt
    replace O_x0 := Lib.hid (O_x0.out.bel b)
    replace S_0 := Lib.hid (S_0.out.bel b)
    replace HB := Lib.hid (bel_trans HB.out b)
    clear b
    have N_p0_s0 : Hid (∀ k, r_s0.ownBlock = some k → k ≠ w.heap.size) := Lib.hid (fun k hk => by have p1 := (o_s0.lt k hk).1; have p2 := z_p0; omega)
    have t_s0 : Hid (∀ k, r_s0.ownBlock = some k → w.heap.size ≤ k) := Lib.hid (fun k hk => by have p1 := (o_s0.lt k hk).1; have p2 := HB0; omega)
    have HBZ := Lib.hid HB0
    clear HB0 z_p0 
    have O_s0 := Lib.hid (o_s0.lower (base' := w.heap.size) HBZ.out)
    obtain ⟨A_s0, c_s0, rfl, -, -, -⟩ := o_s0.strs.open_
    clear o_s0
    clear HBZ
    clear O_x0
    have ba : Below w4.heap.size w4 (w4.alloc (.cells #[Value.slice A_s0 (sumE l0 a1).length c_s0] 26)) := bel_alloc w4 _
    have u_s0 := Lib.hid (fun k hk => (O_s0.out.lt k hk).2)
    replace K_p0 := K_p0.below ba K_p0.lt
    replace O_s0 := Lib.hid (O_s0.out.bel ba)
    replace S_0 := Lib.hid (S_0.out.bel ba)
    replace HB := Lib.hid (bel_trans HB.out ba)
    clear ba
    have K_sb0 := Blk.new' w4 26 (Value.slice A_s0 (sumE l0 a1).length c_s0) _ rfl
    have N_sb0_s0 : Hid (∀ k, (Value.slice A_s0 (sumE l0 a1).length c_s0).ownBlock = some k → k ≠ w4.heap.size) := Lib.hid (fun k hk => by have p1 := u_s0.out k hk; omega)
    clear u_s0
    obtain ⟨e_p0, -⟩ := K_p0.one
    obtain ⟨e_sb0, -⟩ := K_sb0.one
    go_wp2_with fail
    clear e_p0 e_sb0
    generalize hW : w4.alloc (.cells #[Value.slice A_s0 (sumE l0 a1).length c_s0] 26) = w5 at *
    clear hW
    refine (toEngine_any _ l0 _ S_0.out len0).mono ?_
    rintro e w6 ⟨r_x1, rfl, o_x1, b⟩
    have z_p0 := K_p0.lt
    have z_sb0 := K_sb0.lt
    have HB0 := HB.out.size
    have y_s0 := Lib.hid (fun k hk => (O_s0.out.lt k hk).2)
    replace K_p0 := K_p0.below b K_p0.lt
    replace K_sb0 := K_sb0.below b K_sb0.lt
    replace O_s0 := Lib.hid (O_s0.out.bel b)
    replace S_0 := Lib.hid (S_0.out.bel b)
    replace HB := Lib.hid (bel_trans HB.out b)
    clear b
    have N_p0_x1 : Hid (∀ k, r_x1.ownBlock = some k → k ≠ w.heap.size) := Lib.hid (fun k hk => by have p1 := (o_x1.lt k hk).1; have p2 := z_p0; omega)
    have N_sb0_x1 : Hid (∀ k, r_x1.ownBlock = some k → k ≠ w4.heap.size) := Lib.hid (fun k hk => by have p1 := (o_x1.lt k hk).1; have p2 := z_sb0; omega)
    have N_s0_x1 : Hid (∀ k, (Value.slice A_s0 (sumE l0 a1).length c_s0).ownBlock = some k → r_x1.ownBlock ≠ some k) := Lib.hid (fun k p q => by have p1 := (y_s0.out k p); have q1 := (o_x1.lt k q).1; omega)
    have t_x1 : Hid (∀ k, r_x1.ownBlock = some k → w.heap.size ≤ k) := Lib.hid (fun k hk => by have p1 := (o_x1.lt k hk).1; have p2 := HB0; omega)
    have HBZ := Lib.hid HB0
    clear HB0 z_p0 z_sb0 y_s0
    have O_x1 := Lib.hid (o_x1.lower (base' := w.heap.size) HBZ.out)
    obtain ⟨A_x1, c_x1, rfl, -, -, -⟩ := o_x1.strs.open_
    clear o_x1
    clear HBZ
    have ba : Below w6.heap.size w6 (w6.alloc (.cells #[Value.slice A_x1 (l0).length c_x1] 26)) := bel_alloc w6 _
    have u_s0 := Lib.hid (fun k hk => (O_s0.out.lt k hk).2)
    have u_x1 := Lib.hid (fun k hk => (O_x1.out.lt k hk).2)
    replace K_p0 := K_p0.below ba K_p0.lt
    replace K_sb0 := K_sb0.below ba K_sb0.lt
    replace O_s0 := Lib.hid (O_s0.out.bel ba)
    replace O_x1 := Lib.hid (O_x1.out.bel ba)
    replace S_0 := Lib.hid (S_0.out.bel ba)
    replace HB := Lib.hid (bel_trans HB.out ba)
    clear ba
    have K_bx0 := Blk.new' w6 26 (Value.slice A_x1 (l0).length c_x1) _ rfl
    have N_bx0_s0 : Hid (∀ k, (Value.slice A_s0 (sumE l0 a1).length c_s0).ownBlock = some k → k ≠ w6.heap.size) := Lib.hid (fun k hk => by have p1 := u_s0.out k hk; omega)
    have N_bx0_x1 : Hid (∀ k, (Value.slice A_x1 (l0).length c_x1).ownBlock = some k → k ≠ w6.heap.size) := Lib.hid (fun k hk => by have p1 := u_x1.out k hk; omega)
    clear u_s0 u_x1
    obtain ⟨e_p0, -⟩ := K_p0.one
    obtain ⟨e_sb0, -⟩ := K_sb0.one
    obtain ⟨e_bx0, -⟩ := K_bx0.one
    go_wp2_with fail
    clear e_p0 e_sb0 e_bx0
    generalize hW : w6.alloc (.cells #[Value.slice A_x1 (l0).length c_x1] 26) = w7 at *
    clear hW
    refine (implSum_any _ l0 a1 _ O_x1.out.strs h1).mono ?_
    rintro e w8 ⟨r_g0, rfl, o_g0, b⟩
    have z_p0 := K_p0.lt
    have z_sb0 := K_sb0.lt
    have z_bx0 := K_bx0.lt
    have HB0 := HB.out.size
    have y_s0 := Lib.hid (fun k hk => (O_s0.out.lt k hk).2)
    have y_x1 := Lib.hid (fun k hk => (O_x1.out.lt k hk).2)
    replace K_p0 := K_p0.below b K_p0.lt
    replace K_sb0 := K_sb0.below b K_sb0.lt
    replace K_bx0 := K_bx0.below b K_bx0.lt
    replace O_s0 := Lib.hid (O_s0.out.bel b)
    replace O_x1 := Lib.hid (O_x1.out.bel b)
    replace S_0 := Lib.hid (S_0.out.bel b)
    replace HB := Lib.hid (bel_trans HB.out b)
    clear b
    have N_p0_g0 : Hid (∀ k, r_g0.ownBlock = some k → k ≠ w.heap.size) := Lib.hid (fun k hk => by have p1 := (o_g0.lt k hk).1; have p2 := z_p0; omega)
    have N_sb0_g0 : Hid (∀ k, r_g0.ownBlock = some k → k ≠ w4.heap.size) := Lib.hid (fun k hk => by have p1 := (o_g0.lt k hk).1; have p2 := z_sb0; omega)
    have N_bx0_g0 : Hid (∀ k, r_g0.ownBlock = some k → k ≠ w6.heap.size) := Lib.hid (fun k hk => by have p1 := (o_g0.lt k hk).1; have p2 := z_bx0; omega)
    have N_s0_g0 : Hid (∀ k, (Value.slice A_s0 (sumE l0 a1).length c_s0).ownBlock = some k → r_g0.ownBlock ≠ some k) := Lib.hid (fun k p q => by have p1 := (y_s0.out k p); have q1 := (o_g0.lt k q).1; omega)
    have N_x1_g0 : Hid (∀ k, (Value.slice A_x1 (l0).length c_x1).ownBlock = some k → r_g0.ownBlock ≠ some k) := Lib.hid (fun k p q => by have p1 := (y_x1.out k p); have q1 := (o_g0.lt k q).1; omega)
    have t_g0 : Hid (∀ k, r_g0.ownBlock = some k → w.heap.size ≤ k) := Lib.hid (fun k hk => by have p1 := (o_g0.lt k hk).1; have p2 := HB0; omega)
    have HBZ := Lib.hid HB0
    clear HB0 z_p0 z_sb0 z_bx0 y_s0 y_x1
    have O_g0 := Lib.hid (o_g0.lower (base' := w.heap.size) HBZ.out)
    obtain ⟨A_g0, c_g0, rfl, -, -, -⟩ := o_g0.strs.open_
    clear o_g0
    clear HBZ
    have ba : Below w8.heap.size w8 (w8.alloc (.cells #[Value.slice A_g0 (sumE l0 a1).length c_g0] 26)) := bel_alloc w8 _
    have u_s0 := Lib.hid (fun k hk => (O_s0.out.lt k hk).2)
    have u_x1 := Lib.hid (fun k hk => (O_x1.out.lt k hk).2)
    have u_g0 := Lib.hid (fun k hk => (O_g0.out.lt k hk).2)
    replace K_p0 := K_p0.below ba K_p0.lt
    replace K_sb0 := K_sb0.below ba K_sb0.lt
    replace K_bx0 := K_bx0.below ba K_bx0.lt
    replace O_s0 := Lib.hid (O_s0.out.bel ba)
    replace O_x1 := Lib.hid (O_x1.out.bel ba)
    replace O_g0 := Lib.hid (O_g0.out.bel ba)
    replace S_0 := Lib.hid (S_0.out.bel ba)
    replace HB := Lib.hid (bel_trans HB.out ba)
    clear ba
    have K_gb0 := Blk.new' w8 26 (Value.slice A_g0 (sumE l0 a1).length c_g0) _ rfl
    have N_gb0_s0 : Hid (∀ k, (Value.slice A_s0 (sumE l0 a1).length c_s0).ownBlock = some k → k ≠ w8.heap.size) := Lib.hid (fun k hk => by have p1 := u_s0.out k hk; omega)
    have N_gb0_x1 : Hid (∀ k, (Value.slice A_x1 (l0).length c_x1).ownBlock = some k → k ≠ w8.heap.size) := Lib.hid (fun k hk => by have p1 := u_x1.out k hk; omega)
    have N_gb0_g0 : Hid (∀ k, (Value.slice A_g0 (sumE l0 a1).length c_g0).ownBlock = some k → k ≠ w8.heap.size) := Lib.hid (fun k hk => by have p1 := u_g0.out k hk; omega)
    clear u_s0 u_x1 u_g0
    obtain ⟨e_p0, -⟩ := K_p0.one
    obtain ⟨e_sb0, -⟩ := K_sb0.one
    obtain ⟨e_bx0, -⟩ := K_bx0.one
    obtain ⟨e_gb0, -⟩ := K_gb0.one
    go_wp2_with fail
    clear e_p0 e_sb0 e_bx0 e_gb0
    generalize hW : w8.alloc (.cells #[Value.slice A_g0 (sumE l0 a1).length c_g0] 26) = w9 at *
    clear hW
    refine (eqEngine_any _ _ _ _ _ O_g0.out.strs O_s0.out.strs).mono ?_
    rw [he_r0]
    rintro e w10 ⟨rfl, b⟩
    replace K_p0 := K_p0.below b K_p0.lt
    replace K_sb0 := K_sb0.below b K_sb0.lt
    replace K_bx0 := K_bx0.below b K_bx0.lt
    replace K_gb0 := K_gb0.below b K_gb0.lt
    replace O_s0 := Lib.hid (O_s0.out.bel b)
    replace O_x1 := Lib.hid (O_x1.out.bel b)
    replace O_g0 := Lib.hid (O_g0.out.bel b)
    replace S_0 := Lib.hid (S_0.out.bel b)
    replace HB := Lib.hid (bel_trans HB.out b)
    clear b
    obtain ⟨e_p0, -⟩ := K_p0.one
    obtain ⟨e_sb0, -⟩ := K_sb0.one
    obtain ⟨e_bx0, -⟩ := K_bx0.one
    obtain ⟨e_gb0, -⟩ := K_gb0.one
    go_wp2_with fail
    clear e_p0 e_sb0 e_bx0 e_gb0
    refine cut_by (P := ?P1) ?hk1 (fun key1 => ?main1)
    case main1 =>
      obtain ⟨e_p0, -⟩ := K_p0.one
      obtain ⟨e_sb0, -⟩ := K_sb0.one
      obtain ⟨e_bx0, -⟩ := K_bx0.one
      obtain ⟨e_gb0, -⟩ := K_gb0.one
      have tok1 : True := trivial
      have tok2 : True := trivial
      go_region_held3 (fun w' => w'.cell? ⟨w.heap.size, 0, none⟩ = some (Value.slice A_a0 l0.length c_a0) ∧ w'.cell? ⟨w6.heap.size, 0, none⟩ = some (Value.slice A_x1 (l0).length c_x1)) (first | exact ⟨e_p0, e_bx0⟩ | exact ⟨((bel_alloc _ _).cell (by exact K_p0.lt)).trans e_p0, ((bel_alloc _ _).cell (by exact K_bx0.lt)).trans e_bx0⟩ | exact ⟨(World.cell?_setCell_other _ _ _ _ (by intro e; injection e with q; have := K_p0.lt; simp at q; omega)).trans (((bel_alloc _ _).cell (by exact K_p0.lt)).trans e_p0), (World.cell?_setCell_other _ _ _ _ (by intro e; injection e with q; have := K_bx0.lt; simp at q; omega)).trans (((bel_alloc _ _).cell (by exact K_bx0.lt)).trans e_bx0)⟩ | go_keep) (first
        | ((try go_simp); go_at_call 17; have _t := tok1; clear e_p0 e_sb0 e_bx0 e_gb0; (refine (toEngine_any _ l0 _ (by first | exact S_0.out | exact S_0.out.bel ((Below.refl _ _).drew)) len0).mono ?_; rintro e w11 ⟨r_x2, rfl, o_x2, b⟩; replace o_x2 : OwnS w11 w10.heap.size r_x2 (l0) := o_x2; replace b : Below w10.heap.size w10 w11 := (by first | exact b | exact bel_trans ((Below.refl _ _).drew) b); have HBZ := Lib.hid HB.out.size; replace K_p0 := K_p0.below b K_p0.lt; replace K_sb0 := K_sb0.below b K_sb0.lt; replace K_bx0 := K_bx0.below b K_bx0.lt; replace K_gb0 := K_gb0.below b K_gb0.lt; replace O_s0 := Lib.hid (O_s0.out.bel b); replace O_x1 := Lib.hid (O_x1.out.bel b); replace O_g0 := Lib.hid (O_g0.out.bel b); replace S_0 := Lib.hid (S_0.out.bel b); replace HB := Lib.hid (bel_trans HB.out b); clear b; have O_x2 := Lib.hid (o_x2.lower (base' := w.heap.size) HBZ.out); clear HBZ; obtain ⟨A_x2, c_x2, rfl, -, -, -⟩ := o_x2.strs.open_; clear o_x2; obtain ⟨e_p0, -⟩ := K_p0.one; obtain ⟨e_sb0, -⟩ := K_sb0.one; obtain ⟨e_bx0, -⟩ := K_bx0.one; obtain ⟨e_gb0, -⟩ := K_gb0.one; clear tok1))
        | ((try go_simp); go_at_call 19; have _t := tok2; clear e_p0 e_sb0 e_bx0 e_gb0; (refine (eqEngine_any _ _ _ _ _ (by first | exact O_x1.out.strs | exact O_x1.out.strs.bel ((Below.refl _ _).drew)) (by first | exact O_x2.out.strs | exact O_x2.out.strs.bel ((Below.refl _ _).drew))).mono ?_; rw [he_a0]; rintro e w12 ⟨rfl, b⟩; replace b : Below w11.heap.size w11 w12 := (by first | exact b | exact bel_trans ((Below.refl _ _).drew) b); replace K_p0 := K_p0.below b K_p0.lt; replace K_sb0 := K_sb0.below b K_sb0.lt; replace K_bx0 := K_bx0.below b K_bx0.lt; replace K_gb0 := K_gb0.below b K_gb0.lt; replace O_s0 := Lib.hid (O_s0.out.bel b); replace O_x1 := Lib.hid (O_x1.out.bel b); replace O_g0 := Lib.hid (O_g0.out.bel b); replace O_x2 := Lib.hid (O_x2.out.bel b); replace S_0 := Lib.hid (S_0.out.bel b); replace HB := Lib.hid (bel_trans HB.out b); clear b; clear O_x2; obtain ⟨e_p0, -⟩ := K_p0.one; obtain ⟨e_sb0, -⟩ := K_sb0.one; obtain ⟨e_bx0, -⟩ := K_bx0.one; obtain ⟨e_gb0, -⟩ := K_gb0.one; clear tok2)))
      all_goals
        clear e_p0 e_sb0 e_bx0 e_gb0
        first
        | (obtain ⟨w13, hW⟩ : ∃ W', W' = w12.drew := ⟨_, rfl⟩; rw [← hW]; have b : Below w12.heap.size w12 w13 := (by rw [hW]; exact (Below.refl _ _).drew); clear hW)
        | (obtain ⟨w13, hW⟩ : ∃ W', W' = w12 := ⟨_, rfl⟩; rw [← hW]; have b : Below w12.heap.size w12 w13 := (by rw [hW]; exact Below.refl _ _); clear hW)
        replace K_p0 := K_p0.below b K_p0.lt
        replace K_sb0 := K_sb0.below b K_sb0.lt
        replace K_bx0 := K_bx0.below b K_bx0.lt
        replace K_gb0 := K_gb0.below b K_gb0.lt
        replace O_s0 := Lib.hid (O_s0.out.bel b)
        replace O_x1 := Lib.hid (O_x1.out.bel b)
        replace O_g0 := Lib.hid (O_g0.out.bel b)
        replace S_0 := Lib.hid (S_0.out.bel b)
        replace HB := Lib.hid (bel_trans HB.out b)
        clear b
        revert K_p0 K_sb0 K_bx0 K_gb0 O_s0 O_x1 O_g0 S_0 HB
        revert w13 A_x2 c_x2
        exact key1
    intro w13 A_x2 c_x2
    intro K_p0 K_sb0 K_bx0 K_gb0 O_s0 O_x1 O_g0 S_0 HB
    have hR0 : (sumE l0 a1).length ≤ 1048576 := by exact Nat.le_trans sumE_len (by omega)
    obtain ⟨e_p0, -⟩ := K_p0.one
    obtain ⟨e_sb0, -⟩ := K_sb0.one
    obtain ⟨e_bx0, -⟩ := K_bx0.one
    obtain ⟨e_gb0, -⟩ := K_gb0.one
    go_wp2_with fail
    clear e_p0 e_sb0 e_bx0 e_gb0
    refine (markEngine_int _ _ 1 _ _ O_x1.out (by omega) (by omega)).mono ?_
    rintro e w14 ⟨rfl, g, o_x1⟩
    replace K_p0 := K_p0.grown g (fun e => N_p0_x1.out _ e.symm rfl)
    replace K_sb0 := K_sb0.grown g (fun e => N_sb0_x1.out _ e.symm rfl)
    replace K_bx0 := K_bx0.grown g (fun e => N_bx0_x1.out _ e.symm rfl)
    replace K_gb0 := K_gb0.grown g (fun e => N_gb0_x1.out _ e.symm rfl)
    replace O_s0 := Lib.hid (O_s0.out.apart g N_s0_x1.out)
    replace O_g0 := Lib.hid (O_g0.out.apart g (fun k p q => N_x1_g0.out k q p))
    replace S_0 := Lib.hid (S_0.out.far g (B := w.heap.size) (fun k p => t_x1.out k p) J_0.out)
    replace HB := Lib.hid (mark_bel HB.out g (fun k p => t_x1.out k p))
    clear g
    replace O_x1 := Lib.hid o_x1
    clear o_x1
    obtain ⟨e_p0, -⟩ := K_p0.one
    obtain ⟨e_sb0, -⟩ := K_sb0.one
    obtain ⟨e_bx0, -⟩ := K_bx0.one
    obtain ⟨e_gb0, -⟩ := K_gb0.one
    go_wp2_with fail
    clear e_p0 e_sb0 e_bx0 e_gb0
    refine (eqEngine_any _ _ _ _ _ O_g0.out.strs O_s0.out.strs).mono ?_
    rw [he_r0]
    rintro e w15 ⟨rfl, b⟩
    replace K_p0 := K_p0.below b K_p0.lt
    replace K_sb0 := K_sb0.below b K_sb0.lt
    replace K_bx0 := K_bx0.below b K_bx0.lt
    replace K_gb0 := K_gb0.below b K_gb0.lt
    replace O_s0 := Lib.hid (O_s0.out.bel b)
    replace O_x1 := Lib.hid (O_x1.out.bel b)
    replace O_g0 := Lib.hid (O_g0.out.bel b)
    replace S_0 := Lib.hid (S_0.out.bel b)
    replace HB := Lib.hid (bel_trans HB.out b)
    clear b
    obtain ⟨e_p0, -⟩ := K_p0.one
    obtain ⟨e_sb0, -⟩ := K_sb0.one
    obtain ⟨e_bx0, -⟩ := K_bx0.one
    obtain ⟨e_gb0, -⟩ := K_gb0.one
    go_wp2_with fail
    clear e_p0 e_sb0 e_bx0 e_gb0
    refine (markEngine_int _ _ (1) _ _ O_g0.out (by omega) (by omega)).mono ?_
    rintro e w16 ⟨rfl, g, o_g0⟩
    replace K_p0 := K_p0.grown g (fun e => N_p0_g0.out _ e.symm rfl)
    replace K_sb0 := K_sb0.grown g (fun e => N_sb0_g0.out _ e.symm rfl)
    replace K_bx0 := K_bx0.grown g (fun e => N_bx0_g0.out _ e.symm rfl)
    replace K_gb0 := K_gb0.grown g (fun e => N_gb0_g0.out _ e.symm rfl)
    replace O_s0 := Lib.hid (O_s0.out.apart g N_s0_g0.out)
    replace O_x1 := Lib.hid (O_x1.out.apart g N_x1_g0.out)
    replace S_0 := Lib.hid (S_0.out.far g (B := w.heap.size) (fun k p => t_g0.out k p) J_0.out)
    replace HB := Lib.hid (mark_bel HB.out g (fun k p => t_g0.out k p))
    clear g
    replace O_g0 := Lib.hid o_g0
    clear o_g0
    obtain ⟨e_p0, -⟩ := K_p0.one
    obtain ⟨e_sb0, -⟩ := K_sb0.one
    obtain ⟨e_bx0, -⟩ := K_bx0.one
    obtain ⟨e_gb0, -⟩ := K_gb0.one
    go_wp2_with fail
    clear e_p0 e_sb0 e_bx0 e_gb0
    refine (heldEngine_int _ (sumE l0 a1).length (1) _ O_g0.out.strs (by omega) (by omega)).mono ?_
    rintro e w17 ⟨rfl, b⟩
    replace K_p0 := K_p0.below b K_p0.lt
    replace K_sb0 := K_sb0.below b K_sb0.lt
    replace K_bx0 := K_bx0.below b K_bx0.lt
    replace K_gb0 := K_gb0.below b K_gb0.lt
    replace O_s0 := Lib.hid (O_s0.out.bel b)
    replace O_x1 := Lib.hid (O_x1.out.bel b)
    replace O_g0 := Lib.hid (O_g0.out.bel b)
    replace S_0 := Lib.hid (S_0.out.bel b)
    replace HB := Lib.hid (bel_trans HB.out b)
    clear b
    obtain ⟨e_p0, -⟩ := K_p0.one
    obtain ⟨e_sb0, -⟩ := K_sb0.one
    obtain ⟨e_bx0, -⟩ := K_bx0.one
    obtain ⟨e_gb0, -⟩ := K_gb0.one
    go_wp2_with fail
    clear e_p0 e_sb0 e_bx0 e_gb0
    refine (toEngine_any _ l0 _ S_0.out len0).mono ?_
    rintro e w18 ⟨r_x3, rfl, o_x3, b⟩
    have HBZ := Lib.hid HB.out.size
    replace K_p0 := K_p0.below b K_p0.lt
    replace K_sb0 := K_sb0.below b K_sb0.lt
    replace K_bx0 := K_bx0.below b K_bx0.lt
    replace K_gb0 := K_gb0.below b K_gb0.lt
    replace O_s0 := Lib.hid (O_s0.out.bel b)
    replace O_x1 := Lib.hid (O_x1.out.bel b)
    replace O_g0 := Lib.hid (O_g0.out.bel b)
    replace S_0 := Lib.hid (S_0.out.bel b)
    replace HB := Lib.hid (bel_trans HB.out b)
    clear b
    have O_x3 := Lib.hid (o_x3.lower (base' := w.heap.size) HBZ.out)
    clear HBZ
    obtain ⟨A_x3, c_x3, rfl, -, -, -⟩ := o_x3.strs.open_
    clear o_x3
    obtain ⟨e_p0, -⟩ := K_p0.one
    obtain ⟨e_sb0, -⟩ := K_sb0.one
    obtain ⟨e_bx0, -⟩ := K_bx0.one
    obtain ⟨e_gb0, -⟩ := K_gb0.one
    go_wp2_with fail
    clear e_p0 e_sb0 e_bx0 e_gb0
    refine (implSum_any _ l0 a1 _ O_x3.out.strs h1).mono ?_
    rintro e w19 ⟨r_h0, rfl, o_h0, b⟩
    have z_p0 := K_p0.lt
    have z_sb0 := K_sb0.lt
    have z_bx0 := K_bx0.lt
    have z_gb0 := K_gb0.lt
    have HB0 := HB.out.size
    have y_s0 := Lib.hid (fun k hk => (O_s0.out.lt k hk).2)
    have y_x1 := Lib.hid (fun k hk => (O_x1.out.lt k hk).2)
    have y_g0 := Lib.hid (fun k hk => (O_g0.out.lt k hk).2)
    replace K_p0 := K_p0.below b K_p0.lt
    replace K_sb0 := K_sb0.below b K_sb0.lt
    replace K_bx0 := K_bx0.below b K_bx0.lt
    replace K_gb0 := K_gb0.below b K_gb0.lt
    replace O_s0 := Lib.hid (O_s0.out.bel b)
    replace O_x1 := Lib.hid (O_x1.out.bel b)
    replace O_g0 := Lib.hid (O_g0.out.bel b)
    replace O_x3 := Lib.hid (O_x3.out.bel b)
    replace S_0 := Lib.hid (S_0.out.bel b)
    replace HB := Lib.hid (bel_trans HB.out b)
    clear b
    have N_p0_h0 : Hid (∀ k, r_h0.ownBlock = some k → k ≠ w.heap.size) := Lib.hid (fun k hk => by have p1 := (o_h0.lt k hk).1; have p2 := z_p0; omega)
    have N_sb0_h0 : Hid (∀ k, r_h0.ownBlock = some k → k ≠ w4.heap.size) := Lib.hid (fun k hk => by have p1 := (o_h0.lt k hk).1; have p2 := z_sb0; omega)
    have N_bx0_h0 : Hid (∀ k, r_h0.ownBlock = some k → k ≠ w6.heap.size) := Lib.hid (fun k hk => by have p1 := (o_h0.lt k hk).1; have p2 := z_bx0; omega)
    have N_gb0_h0 : Hid (∀ k, r_h0.ownBlock = some k → k ≠ w8.heap.size) := Lib.hid (fun k hk => by have p1 := (o_h0.lt k hk).1; have p2 := z_gb0; omega)
    have N_s0_h0 : Hid (∀ k, (Value.slice A_s0 (sumE l0 a1).length c_s0).ownBlock = some k → r_h0.ownBlock ≠ some k) := Lib.hid (fun k p q => by have p1 := (y_s0.out k p); have q1 := (o_h0.lt k q).1; omega)
    have N_x1_h0 : Hid (∀ k, (Value.slice A_x1 (l0).length c_x1).ownBlock = some k → r_h0.ownBlock ≠ some k) := Lib.hid (fun k p q => by have p1 := (y_x1.out k p); have q1 := (o_h0.lt k q).1; omega)
    have N_g0_h0 : Hid (∀ k, (Value.slice A_g0 (sumE l0 a1).length c_g0).ownBlock = some k → r_h0.ownBlock ≠ some k) := Lib.hid (fun k p q => by have p1 := (y_g0.out k p); have q1 := (o_h0.lt k q).1; omega)
    have t_h0 : Hid (∀ k, r_h0.ownBlock = some k → w.heap.size ≤ k) := Lib.hid (fun k hk => by have p1 := (o_h0.lt k hk).1; have p2 := HB0; omega)
    have HBZ := Lib.hid HB0
    clear HB0 z_p0 z_sb0 z_bx0 z_gb0 y_s0 y_x1 y_g0
    have O_h0 := Lib.hid (o_h0.lower (base' := w.heap.size) HBZ.out)
    obtain ⟨A_h0, c_h0, rfl, -, -, -⟩ := o_h0.strs.open_
    clear o_h0
    clear HBZ
    clear O_x3
    have ba : Below w19.heap.size w19 (w19.alloc (.cells #[Value.slice A_h0 (sumE l0 a1).length c_h0] 26)) := bel_alloc w19 _
    have u_s0 := Lib.hid (fun k hk => (O_s0.out.lt k hk).2)
    have u_x1 := Lib.hid (fun k hk => (O_x1.out.lt k hk).2)
    have u_g0 := Lib.hid (fun k hk => (O_g0.out.lt k hk).2)
    have u_h0 := Lib.hid (fun k hk => (O_h0.out.lt k hk).2)
    replace K_p0 := K_p0.below ba K_p0.lt
    replace K_sb0 := K_sb0.below ba K_sb0.lt
    replace K_bx0 := K_bx0.below ba K_bx0.lt
    replace K_gb0 := K_gb0.below ba K_gb0.lt
    replace O_s0 := Lib.hid (O_s0.out.bel ba)
    replace O_x1 := Lib.hid (O_x1.out.bel ba)
    replace O_g0 := Lib.hid (O_g0.out.bel ba)
    replace O_h0 := Lib.hid (O_h0.out.bel ba)
    replace S_0 := Lib.hid (S_0.out.bel ba)
    replace HB := Lib.hid (bel_trans HB.out ba)
    clear ba
    have K_hb0 := Blk.new' w19 26 (Value.slice A_h0 (sumE l0 a1).length c_h0) _ rfl
    have N_hb0_s0 : Hid (∀ k, (Value.slice A_s0 (sumE l0 a1).length c_s0).ownBlock = some k → k ≠ w19.heap.size) := Lib.hid (fun k hk => by have p1 := u_s0.out k hk; omega)
    have N_hb0_x1 : Hid (∀ k, (Value.slice A_x1 (l0).length c_x1).ownBlock = some k → k ≠ w19.heap.size) := Lib.hid (fun k hk => by have p1 := u_x1.out k hk; omega)
    have N_hb0_g0 : Hid (∀ k, (Value.slice A_g0 (sumE l0 a1).length c_g0).ownBlock = some k → k ≠ w19.heap.size) := Lib.hid (fun k hk => by have p1 := u_g0.out k hk; omega)
    have N_hb0_h0 : Hid (∀ k, (Value.slice A_h0 (sumE l0 a1).length c_h0).ownBlock = some k → k ≠ w19.heap.size) := Lib.hid (fun k hk => by have p1 := u_h0.out k hk; omega)
    clear u_s0 u_x1 u_g0 u_h0
    obtain ⟨e_p0, -⟩ := K_p0.one
    obtain ⟨e_sb0, -⟩ := K_sb0.one
    obtain ⟨e_bx0, -⟩ := K_bx0.one
    obtain ⟨e_gb0, -⟩ := K_gb0.one
    obtain ⟨e_hb0, -⟩ := K_hb0.one
    go_wp2_with fail
    clear e_p0 e_sb0 e_bx0 e_gb0 e_hb0
    generalize hW : w19.alloc (.cells #[Value.slice A_h0 (sumE l0 a1).length c_h0] 26) = w20 at *
    clear hW
    refine (eqEngine_any _ _ _ _ _ O_h0.out.strs O_s0.out.strs).mono ?_
    rw [he_r0]
    rintro e w21 ⟨rfl, b⟩
    replace K_p0 := K_p0.below b K_p0.lt
    replace K_sb0 := K_sb0.below b K_sb0.lt
    replace K_bx0 := K_bx0.below b K_bx0.lt
    replace K_gb0 := K_gb0.below b K_gb0.lt
    replace K_hb0 := K_hb0.below b K_hb0.lt
    replace O_s0 := Lib.hid (O_s0.out.bel b)
    replace O_x1 := Lib.hid (O_x1.out.bel b)
    replace O_g0 := Lib.hid (O_g0.out.bel b)
    replace O_h0 := Lib.hid (O_h0.out.bel b)
    replace S_0 := Lib.hid (S_0.out.bel b)
    replace HB := Lib.hid (bel_trans HB.out b)
    clear b
    obtain ⟨e_p0, -⟩ := K_p0.one
    obtain ⟨e_sb0, -⟩ := K_sb0.one
    obtain ⟨e_bx0, -⟩ := K_bx0.one
    obtain ⟨e_gb0, -⟩ := K_gb0.one
    obtain ⟨e_hb0, -⟩ := K_hb0.one
    go_wp2_with fail
    clear e_p0 e_sb0 e_bx0 e_gb0 e_hb0
    refine (heldEngine_int _ (sumE l0 a1).length (1) _ O_g0.out.strs (by omega) (by omega)).mono ?_
    rintro e w22 ⟨rfl, b⟩
    replace K_p0 := K_p0.below b K_p0.lt
    replace K_sb0 := K_sb0.below b K_sb0.lt
    replace K_bx0 := K_bx0.below b K_bx0.lt
    replace K_gb0 := K_gb0.below b K_gb0.lt
    replace K_hb0 := K_hb0.below b K_hb0.lt
    replace O_s0 := Lib.hid (O_s0.out.bel b)
    replace O_x1 := Lib.hid (O_x1.out.bel b)
    replace O_g0 := Lib.hid (O_g0.out.bel b)
    replace O_h0 := Lib.hid (O_h0.out.bel b)
    replace S_0 := Lib.hid (S_0.out.bel b)
    replace HB := Lib.hid (bel_trans HB.out b)
    clear b
    go_wp2
    go_ret
    exact ⟨rfl, HB.out⟩

end Go.Proofs.Ytgndnkpenmcafaa
