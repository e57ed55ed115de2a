/-
  The law FnExactJoinEngines, walked (made by exact2.py).
-/
import Derived.Test.YtgndnkpenmcafaaEngLaw
import Derived.Deep.RegionLaw
import Derived.Deep.RegionWith
import Derived.Deep.DrawnRows
import Derived.Deep.RegionHeld3
import Derived.Test.YtgndnkpenmcafaaJoinB
import Derived.Test.YtgndnkpenmcafaaEngBox
namespace Go.Proofs.Ytgndnkpenmcafaa
open Go.RowKit
set_option linter.unusedVariables false
set_option linter.unusedSimpArgs false
set_option maxRecDepth 100000

set_option maxHeartbeats 8000000 in
theorem lawJoinEngines (v0 : Value) (l0 : List ByteArray) (v1 : Value) (l1 : List ByteArray) (w : World) (h0 : Strs w v0 l0) (h1 : Strs w v1 l1) :
    Calls Try.prog 4 #[.agg #[v0], .agg #[v1]] w fun e w' => e = .returned (.bool true) ∧ Below w.heap.size w w' := by
  have S_0 := Lib.hid h0
  have J_0 := Lib.hid h0.low
  obtain ⟨A_a0, c_a0, rfl, -, -, -⟩ := h0.open_
  clear h0
  have S_1 := Lib.hid h1
  have J_1 := Lib.hid h1.low
  obtain ⟨A_a1, c_a1, rfl, -, -, -⟩ := h1.open_
  clear h1
  have he_r0 := eqS_self (joinE l0 l1)
  have he_a0 := eqS_self l0
  have he_a1 := eqS_self l1
  have HB := Lib.hid (Below.refl w.heap.size w)
  go_enter Try.func4, Try.ntmps4
  have ba : Below w.heap.size w ((w.alloc (.cells #[Value.slice A_a0 l0.length c_a0] 24)).alloc (.cells #[Value.slice A_a1 l1.length c_a1] 24)) := (bel_alloc w _).alloc (by simp <;> omega) _
  replace S_0 := Lib.hid (S_0.out.bel ba)
  replace S_1 := Lib.hid (S_1.out.bel ba)
  replace HB := Lib.hid (bel_trans HB.out ba)
  clear ba
  have K_p0 := (Blk.new' w 24 (Value.slice A_a0 l0.length c_a0) _ rfl).alloc (.cells #[Value.slice A_a1 l1.length c_a1] 24)
  have K_p1 := Blk.new' (w.alloc (.cells #[Value.slice A_a0 l0.length c_a0] 24)) 24 (Value.slice A_a1 l1.length c_a1) (w.heap.size + 1) (by simp)
  obtain ⟨e_p0, -⟩ := K_p0.one
  obtain ⟨e_p1, -⟩ := K_p1.one
  go_wp2_with fail
  clear e_p0 e_p1
  generalize hW : (w.alloc (.cells #[Value.slice A_a0 l0.length c_a0] 24)).alloc (.cells #[Value.slice A_a1 l1.length c_a1] 24) = w1 at *
  clear hW
  refine (szEngine_any _ l0 1048576 _ S_0.out (by omega) (by omega)).mono ?_
  rintro e w2 ⟨lf0, rfl, hr0, b⟩
  replace K_p0 := K_p0.below b K_p0.lt
  replace K_p1 := K_p1.below b K_p1.lt
  replace S_0 := Lib.hid (S_0.out.bel b)
  replace S_1 := Lib.hid (S_1.out.bel b)
  replace HB := Lib.hid (bel_trans HB.out b)
  clear b
  rcases hr0 with rfl | ⟨q0_0, q1_0⟩
  · go_wp2
    go_ret
    exact ⟨rfl, HB.out⟩
  · skip
    obtain ⟨e_p0, -⟩ := K_p0.one
    obtain ⟨e_p1, -⟩ := K_p1.one
    go_wp2_with fail
    clear e_p0 e_p1
    refine (szEngine_any _ l1 lf0 _ S_1.out (by omega) (by omega)).mono ?_
    rintro e w3 ⟨lf1, rfl, hr1, b⟩
    replace K_p0 := K_p0.below b K_p0.lt
    replace K_p1 := K_p1.below b K_p1.lt
    replace S_0 := Lib.hid (S_0.out.bel b)
    replace S_1 := Lib.hid (S_1.out.bel b)
    replace HB := Lib.hid (bel_trans HB.out b)
    clear b
    rcases hr1 with rfl | ⟨q0_1, q1_1⟩
    · go_wp2
      go_ret
      exact ⟨rfl, HB.out⟩
    · skip
      have len0 : l0.length ≤ 1048576 := by omega
      have len1 : l1.length ≤ 1048576 := by omega
      obtain ⟨e_p0, -⟩ := K_p0.one
      obtain ⟨e_p1, -⟩ := K_p1.one
      go_wp2_with fail
      clear e_p0 e_p1
      refine cut_by (P := ?P1) ?hk1 (fun key1 => ?main1)
      case main1 =>
        replace key1 := Lib.hid key1
        obtain ⟨e_p0, -⟩ := K_p0.one
        obtain ⟨e_p1, -⟩ := K_p1.one
        have tok1 : True := trivial
        have tok2 : True := trivial
        have tok3 : True := trivial
        go_region_held3 (fun w' => w'.cell? ⟨w.heap.size, 0, none⟩ = some (Value.slice A_a0 l0.length c_a0) ∧ w'.cell? ⟨w.heap.size + 1, 0, none⟩ = some (Value.slice A_a1 l1.length c_a1)) (first | exact ⟨e_p0, e_p1⟩ | exact ⟨((bel_alloc _ _).cell (by exact K_p0.lt)).trans e_p0, ((bel_alloc _ _).cell (by exact K_p1.lt)).trans e_p1⟩ | exact ⟨(World.cell?_setCell_other _ _ _ _ (by intro e; injection e with q; have := K_p0.lt; simp at q; omega)).trans (((bel_alloc _ _).cell (by exact K_p0.lt)).trans e_p0), (World.cell?_setCell_other _ _ _ _ (by intro e; injection e with q; have := K_p1.lt; simp at q; omega)).trans (((bel_alloc _ _).cell (by exact K_p1.lt)).trans e_p1)⟩ | exact ⟨(World.cell?_setCell_other _ _ _ _ (by intro e; injection e with q; omega)).trans e_p0, (World.cell?_setCell_other _ _ _ _ (by intro e; injection e with q; omega)).trans e_p1⟩ | go_keep) (first
          | ((try go_simp); go_at_call 17; have _t := tok1; clear e_p0 e_p1; go_loud (refine (toEngine_any _ l0 _ (by first | exact S_0.out | exact S_0.out.bel ((Below.refl _ _).drew) | exact S_0.out.bel (bel_alloc _ _) | exact S_0.out.bel ((bel_alloc _ _).drew) | exact S_0.out.bel (((Below.refl _ _).drew).alloc (Nat.le_refl _) _)) len0).mono ?_; rintro e w4 ⟨r_x0, rfl, o_x0, b⟩; replace o_x0 : OwnS w4 w3.heap.size r_x0 (l0) := (by first | exact o_x0 | exact o_x0.lower (by simp)); (try replace K_sb0 := K_sb0.below b K_sb0.lt); (first | (obtain ⟨ab_sb0, hab⟩ : ∃ ab, ab = w3.heap.size := ⟨_, rfl⟩; (first | rw [← hab] | (simp only [World.size_drew]; rw [← hab]) | (rw [show w3.heap.size = w3.drew.heap.size from rfl] at hab; rw [← hab]; rw [show w3.drew.heap.size = w3.heap.size from rfl] at hab)); have K_sb0 : Blk w4 ab_sb0 26 [Value.slice none 0 0] := (by rw [hab]; exact (b.block _ (by first | (rw [World.size_alloc]; exact Nat.lt_succ_self _) | (show w3.heap.size < (w3.alloc _).heap.size; rw [World.size_alloc]; exact Nat.lt_succ_self _))).trans (heap_alloc_new w3 _)); have lt_sb0_p0 := K_p0.lt; have lt_sb0_p1 := K_p1.lt; rw [← hab] at lt_sb0_p0; rw [← hab] at lt_sb0_p1; have lt_sb0 := HB.out.size; rw [← hab] at lt_sb0; (try have zz_sb0 := zp); (try rw [← hab] at zz_sb0); clear hab) | skip); replace b : Below w3.heap.size w3 w4 := (by first | exact b | exact bel_trans ((Below.refl _ _).drew) b | exact bel_trans (bel_alloc _ _) b | exact bel_trans ((bel_alloc _ _).drew) b | exact bel_trans (((Below.refl _ _).drew).alloc (Nat.le_refl _) _) b); have HBZ := Lib.hid HB.out.size; replace K_p0 := K_p0.below b K_p0.lt; replace K_p1 := K_p1.below b K_p1.lt; replace S_0 := Lib.hid (S_0.out.bel b); replace S_1 := Lib.hid (S_1.out.bel b); replace HB := Lib.hid (bel_trans HB.out b); clear b; have O_x0 := Lib.hid (o_x0.lower (base' := w.heap.size) HBZ.out); clear HBZ; obtain ⟨A_x0, c_x0, rfl, -, -, -⟩ := o_x0.strs.open_; clear o_x0; obtain ⟨e_p0, -⟩ := K_p0.one; obtain ⟨e_p1, -⟩ := K_p1.one; (try clear e_sb0 f_sb0); (try obtain ⟨e_sb0, f_sb0⟩ := K_sb0.one); clear tok1; (try dsimp only)))
          | ((try go_simp); go_at_call 17; have _t := tok2; clear e_p0 e_p1; go_loud (refine (toEngine_any _ l1 _ (by first | exact S_1.out | exact S_1.out.bel ((Below.refl _ _).drew) | exact S_1.out.bel (bel_alloc _ _) | exact S_1.out.bel ((bel_alloc _ _).drew) | exact S_1.out.bel (((Below.refl _ _).drew).alloc (Nat.le_refl _) _)) len1).mono ?_; rintro e w5 ⟨r_x1, rfl, o_x1, b⟩; replace o_x1 : OwnS w5 w4.heap.size r_x1 (l1) := (by first | exact o_x1 | exact o_x1.lower (by simp)); (try replace K_sb0 := K_sb0.below b K_sb0.lt); (first | (obtain ⟨ab_sb0, hab⟩ : ∃ ab, ab = w4.heap.size := ⟨_, rfl⟩; (first | rw [← hab] | (simp only [World.size_drew]; rw [← hab]) | (rw [show w4.heap.size = w4.drew.heap.size from rfl] at hab; rw [← hab]; rw [show w4.drew.heap.size = w4.heap.size from rfl] at hab)); have K_sb0 : Blk w5 ab_sb0 26 [Value.slice none 0 0] := (by rw [hab]; exact (b.block _ (by first | (rw [World.size_alloc]; exact Nat.lt_succ_self _) | (show w4.heap.size < (w4.alloc _).heap.size; rw [World.size_alloc]; exact Nat.lt_succ_self _))).trans (heap_alloc_new w4 _)); have lt_sb0_p0 := K_p0.lt; have lt_sb0_p1 := K_p1.lt; rw [← hab] at lt_sb0_p0; rw [← hab] at lt_sb0_p1; have lt_sb0 := HB.out.size; rw [← hab] at lt_sb0; (try have zz_sb0 := zp); (try rw [← hab] at zz_sb0); clear hab) | skip); replace b : Below w4.heap.size w4 w5 := (by first | exact b | exact bel_trans ((Below.refl _ _).drew) b | exact bel_trans (bel_alloc _ _) b | exact bel_trans ((bel_alloc _ _).drew) b | exact bel_trans (((Below.refl _ _).drew).alloc (Nat.le_refl _) _) b); have HBZ := Lib.hid HB.out.size; replace K_p0 := K_p0.below b K_p0.lt; replace K_p1 := K_p1.below b K_p1.lt; replace O_x0 := Lib.hid (O_x0.out.bel b); replace S_0 := Lib.hid (S_0.out.bel b); replace S_1 := Lib.hid (S_1.out.bel b); replace HB := Lib.hid (bel_trans HB.out b); clear b; have O_x1 := Lib.hid (o_x1.lower (base' := w.heap.size) HBZ.out); clear HBZ; obtain ⟨A_x1, c_x1, rfl, -, -, -⟩ := o_x1.strs.open_; clear o_x1; obtain ⟨e_p0, -⟩ := K_p0.one; obtain ⟨e_p1, -⟩ := K_p1.one; (try clear e_sb0 f_sb0); (try obtain ⟨e_sb0, f_sb0⟩ := K_sb0.one); clear tok2; (try dsimp only)))
          | ((try go_simp); go_at_call 22; have _t := tok3; clear e_p0 e_p1; go_loud ((try have zq_sb0 := K_sb0.lt); refine (specJoin_any _ _ l0 l1 _ (by first | exact O_x0.out.strs | exact O_x0.out.strs.bel ((Below.refl _ _).drew) | exact O_x0.out.strs.bel (bel_alloc _ _) | exact O_x0.out.strs.bel ((bel_alloc _ _).drew) | exact O_x0.out.strs.bel (((Below.refl _ _).drew).alloc (Nat.le_refl _) _)) (by first | exact O_x1.out.strs | exact O_x1.out.strs.bel ((Below.refl _ _).drew) | exact O_x1.out.strs.bel (bel_alloc _ _) | exact O_x1.out.strs.bel ((bel_alloc _ _).drew) | exact O_x1.out.strs.bel (((Below.refl _ _).drew).alloc (Nat.le_refl _) _))).mono ?_; rintro e w6 ⟨r_s0, rfl, o_s0, b⟩; (try have zp : ∀ k, r_s0.ownBlock = some k → k ≠ w5.heap.size := (fun k hk => by have p1 := (o_s0.lt k hk).1; simp at p1; omega)); replace o_s0 : OwnS w6 w5.heap.size r_s0 (joinE l0 l1) := (by first | exact o_s0 | exact o_s0.lower (by simp)); (try replace K_sb0 := K_sb0.below b K_sb0.lt); (first | (obtain ⟨ab_sb0, hab⟩ : ∃ ab, ab = w5.heap.size := ⟨_, rfl⟩; (first | rw [← hab] | (simp only [World.size_drew]; rw [← hab]) | (rw [show w5.heap.size = w5.drew.heap.size from rfl] at hab; rw [← hab]; rw [show w5.drew.heap.size = w5.heap.size from rfl] at hab)); have K_sb0 : Blk w6 ab_sb0 26 [Value.slice none 0 0] := (by rw [hab]; exact (b.block _ (by first | (rw [World.size_alloc]; exact Nat.lt_succ_self _) | (show w5.heap.size < (w5.alloc _).heap.size; rw [World.size_alloc]; exact Nat.lt_succ_self _))).trans (heap_alloc_new w5 _)); have lt_sb0_p0 := K_p0.lt; have lt_sb0_p1 := K_p1.lt; rw [← hab] at lt_sb0_p0; rw [← hab] at lt_sb0_p1; have lt_sb0 := HB.out.size; rw [← hab] at lt_sb0; (try have zz_sb0 := zp); (try rw [← hab] at zz_sb0); clear hab) | skip); replace b : Below w5.heap.size w5 w6 := (by first | exact b | exact bel_trans ((Below.refl _ _).drew) b | exact bel_trans (bel_alloc _ _) b | exact bel_trans ((bel_alloc _ _).drew) b | exact bel_trans (((Below.refl _ _).drew).alloc (Nat.le_refl _) _) b); (try have zo_sb0 := (show ab_sb0 < w5.heap.size from zq_sb0)); have z_p0 := K_p0.lt; have z_p1 := K_p1.lt; have HB0 := HB.out.size; replace K_p0 := K_p0.below b K_p0.lt; replace K_p1 := K_p1.below b K_p1.lt; replace O_x0 := Lib.hid (O_x0.out.bel b); replace O_x1 := Lib.hid (O_x1.out.bel b); replace S_0 := Lib.hid (S_0.out.bel b); replace S_1 := Lib.hid (S_1.out.bel b); replace HB := Lib.hid (bel_trans HB.out b); clear b; have N_p0_s0 : Hid (∀ k, r_s0.ownBlock = some k → k ≠ w.heap.size) := Lib.hid (fun k hk => by have p1 := (o_s0.lt k hk).1; have p2 := z_p0; omega); have N_p1_s0 : Hid (∀ k, r_s0.ownBlock = some k → k ≠ w.heap.size + 1) := Lib.hid (fun k hk => by have p1 := (o_s0.lt k hk).1; have p2 := z_p1; omega); have t_s0 : Hid (∀ k, r_s0.ownBlock = some k → w.heap.size ≤ k) := Lib.hid (fun k hk => by have p1 := (o_s0.lt k hk).1; have p2 := HB0; omega); (try have N_sb0_s0 : Hid (∀ k, r_s0.ownBlock = some k → k ≠ ab_sb0) := Lib.hid (by first | exact zz_sb0 | exact (fun k hk => by have p1 := (o_s0.lt k hk).1; have p2 := zq_sb0; omega))); have HBZ := Lib.hid HB0; clear HB0 z_p0 z_p1 ; have O_s0 := Lib.hid (o_s0.lower (base' := w.heap.size) HBZ.out); obtain ⟨A_s0, c_s0, rfl, -, -, -⟩ := o_s0.strs.open_; clear o_s0; clear HBZ; clear O_x0 O_x1; obtain ⟨e_p0, -⟩ := K_p0.one; obtain ⟨e_p1, -⟩ := K_p1.one; (try clear e_sb0 f_sb0); (try obtain ⟨e_sb0, f_sb0⟩ := K_sb0.one); clear tok3; (try dsimp only)))
          | fail)
        all_goals
          clear e_p0 e_p1
          first
          | ((try rw [alloc_set]); have ba : Below w6.heap.size w6 (w6.alloc (.cells #[Value.slice A_s0 (joinE l0 l1).length c_s0] 26)) := bel_alloc w6 _; have u_s0 := Lib.hid (fun k hk => (O_s0.out.lt k hk).2); replace K_p0 := K_p0.below ba K_p0.lt; replace K_p1 := K_p1.below ba K_p1.lt; replace O_s0 := Lib.hid (O_s0.out.bel ba); replace S_0 := Lib.hid (S_0.out.bel ba); replace S_1 := Lib.hid (S_1.out.bel ba); replace HB := Lib.hid (bel_trans HB.out ba); clear ba; have K_sb0 := Blk.new' w6 26 (Value.slice A_s0 (joinE l0 l1).length c_s0) _ rfl; have N_sb0_s0 : Hid (∀ k, (Value.slice A_s0 (joinE l0 l1).length c_s0).ownBlock = some k → k ≠ w6.heap.size) := Lib.hid (fun k hk => by have p1 := u_s0.out k hk; omega); clear u_s0; generalize hW : w6.alloc (.cells #[Value.slice A_s0 (joinE l0 l1).length c_s0] 26) = WW at *; clear hW; obtain ⟨ab_sb0, hab⟩ : ∃ ab, ab = w6.heap.size := ⟨_, rfl⟩; rw [← hab] at K_sb0 N_sb0_s0 ⊢; clear hab)
          | (have g : w6.grownBy (w6.setCell ⟨ab_sb0, 0, none⟩ (Value.slice A_s0 (joinE l0 l1).length c_s0)) (some ab_sb0) := only_setCell (World.grownBy.refl w6 (some ab_sb0)) (.inl rfl) _; replace K_p0 := K_p0.grown g (fun e => by injection e with e; omega); replace K_p1 := K_p1.grown g (fun e => by injection e with e; omega); replace O_s0 := Lib.hid (O_s0.out.awayRow g N_sb0_s0.out); replace S_0 := Lib.hid (S_0.out.far g (B := w.heap.size) (fun k p => by injection p with p; omega) J_0.out); replace S_1 := Lib.hid (S_1.out.far g (B := w.heap.size) (fun k p => by injection p with p; omega) J_1.out); replace HB := Lib.hid (HB.out.setCell (p := ⟨ab_sb0, 0, none⟩) (by show w.heap.size ≤ ab_sb0; omega) (Value.slice A_s0 (joinE l0 l1).length c_s0)); replace K_sb0 := K_sb0.set_ 0 (Value.slice A_s0 (joinE l0 l1).length c_s0); replace K_sb0 : Blk _ ab_sb0 26 [Value.slice A_s0 (joinE l0 l1).length c_s0] := K_sb0; clear g; generalize hW : w6.setCell ⟨ab_sb0, 0, none⟩ (Value.slice A_s0 (joinE l0 l1).length c_s0) = WW at *; clear hW)
          try clear lt_sb0
          try clear e_sb0
          try clear f_sb0
          try clear zz_sb0
          try clear zp
          try clear zq_sb0
          try clear zo_sb0
          try clear lt_sb0_p0
          try clear lt_sb0_p1
          first
          | (obtain ⟨w7, hW⟩ : ∃ W', W' = WW.drew := ⟨_, rfl⟩; rw [← hW]; have b : Below WW.heap.size WW w7 := (by rw [hW]; exact (Below.refl _ _).drew); clear hW)
          | (obtain ⟨w7, hW⟩ : ∃ W', W' = WW := ⟨_, rfl⟩; rw [← hW]; have b : Below WW.heap.size WW w7 := (by rw [hW]; exact Below.refl _ _); clear hW)
          replace K_p0 := K_p0.below b K_p0.lt
          replace K_p1 := K_p1.below b K_p1.lt
          replace K_sb0 := K_sb0.below b K_sb0.lt
          replace O_s0 := Lib.hid (O_s0.out.bel b)
          replace S_0 := Lib.hid (S_0.out.bel b)
          replace S_1 := Lib.hid (S_1.out.bel b)
          replace HB := Lib.hid (bel_trans HB.out b)
          clear b
          revert t_s0; revert N_sb0_s0; revert N_p1_s0; revert N_p0_s0; revert HB; revert S_1; revert S_0; revert O_s0; revert K_sb0; revert K_p1; revert K_p0; revert c_s0; revert A_s0; revert c_x1; revert A_x1; revert c_x0; revert A_x0; revert w7; revert ab_sb0
          exact key1.out
      intro ab_sb0 w7 A_x0 c_x0 A_x1 c_x1 A_s0 c_s0
      intro K_p0 K_p1 K_sb0 O_s0 S_0 S_1 HB N_p0_s0 N_p1_s0 N_sb0_s0 t_s0
      obtain ⟨e_p0, -⟩ := K_p0.one
      obtain ⟨e_p1, -⟩ := K_p1.one
      obtain ⟨e_sb0, -⟩ := K_sb0.one
      go_wp2_with fail
      clear e_p0 e_p1 e_sb0
      refine (toEngine_any _ l0 _ S_0.out len0).mono ?_
      rintro e w8 ⟨r_x2, rfl, o_x2, b⟩
      have z_p0 := K_p0.lt
      have z_p1 := K_p1.lt
      have z_sb0 := K_sb0.lt
      have HB0 := HB.out.size
      have y_s0 := Lib.hid (fun k hk => (O_s0.out.lt k hk).2)
      replace K_p0 := K_p0.below b K_p0.lt
      replace K_p1 := K_p1.below b K_p1.lt
      replace K_sb0 := K_sb0.below b K_sb0.lt
      replace O_s0 := Lib.hid (O_s0.out.bel b)
      replace S_0 := Lib.hid (S_0.out.bel b)
      replace S_1 := Lib.hid (S_1.out.bel b)
      replace HB := Lib.hid (bel_trans HB.out b)
      clear b
      have N_p0_x2 : Hid (∀ k, r_x2.ownBlock = some k → k ≠ w.heap.size) := Lib.hid (fun k hk => by have p1 := (o_x2.lt k hk).1; have p2 := z_p0; omega)
      have N_p1_x2 : Hid (∀ k, r_x2.ownBlock = some k → k ≠ w.heap.size + 1) := Lib.hid (fun k hk => by have p1 := (o_x2.lt k hk).1; have p2 := z_p1; omega)
      have N_sb0_x2 : Hid (∀ k, r_x2.ownBlock = some k → k ≠ ab_sb0) := Lib.hid (fun k hk => by have p1 := (o_x2.lt k hk).1; have p2 := z_sb0; omega)
      have N_s0_x2 : Hid (∀ k, (Value.slice A_s0 (joinE l0 l1).length c_s0).ownBlock = some k → r_x2.ownBlock ≠ some k) := Lib.hid (fun k p q => by have p1 := (y_s0.out k p); have q1 := (o_x2.lt k q).1; omega)
      have t_x2 : Hid (∀ k, r_x2.ownBlock = some k → w.heap.size ≤ k) := Lib.hid (fun k hk => by have p1 := (o_x2.lt k hk).1; have p2 := HB0; omega)
      have HBZ := Lib.hid HB0
      clear HB0 z_p0 z_p1 z_sb0 y_s0
      have O_x2 := Lib.hid (o_x2.lower (base' := w.heap.size) HBZ.out)
      obtain ⟨A_x2, c_x2, rfl, -, -, -⟩ := o_x2.strs.open_
      clear o_x2
      clear HBZ
      have ba : Below w8.heap.size w8 (w8.alloc (.cells #[Value.slice A_x2 (l0).length c_x2] 26)) := bel_alloc w8 _
      have u_s0 := Lib.hid (fun k hk => (O_s0.out.lt k hk).2)
      have u_x2 := Lib.hid (fun k hk => (O_x2.out.lt k hk).2)
      replace K_p0 := K_p0.below ba K_p0.lt
      replace K_p1 := K_p1.below ba K_p1.lt
      replace K_sb0 := K_sb0.below ba K_sb0.lt
      replace O_s0 := Lib.hid (O_s0.out.bel ba)
      replace O_x2 := Lib.hid (O_x2.out.bel ba)
      replace S_0 := Lib.hid (S_0.out.bel ba)
      replace S_1 := Lib.hid (S_1.out.bel ba)
      replace HB := Lib.hid (bel_trans HB.out ba)
      clear ba
      have K_bx0 := Blk.new' w8 26 (Value.slice A_x2 (l0).length c_x2) _ rfl
      have N_bx0_s0 : Hid (∀ k, (Value.slice A_s0 (joinE l0 l1).length c_s0).ownBlock = some k → k ≠ w8.heap.size) := Lib.hid (fun k hk => by have p1 := u_s0.out k hk; omega)
      have N_bx0_x2 : Hid (∀ k, (Value.slice A_x2 (l0).length c_x2).ownBlock = some k → k ≠ w8.heap.size) := Lib.hid (fun k hk => by have p1 := u_x2.out k hk; omega)
      clear u_s0 u_x2
      obtain ⟨e_p0, -⟩ := K_p0.one
      obtain ⟨e_p1, -⟩ := K_p1.one
      obtain ⟨e_sb0, -⟩ := K_sb0.one
      obtain ⟨e_bx0, -⟩ := K_bx0.one
      go_wp2_with fail
      clear e_p0 e_p1 e_sb0 e_bx0
      generalize hW : w8.alloc (.cells #[Value.slice A_x2 (l0).length c_x2] 26) = w9 at *
      clear hW
      refine (toEngine_any _ l1 _ S_1.out len1).mono ?_
      rintro e w10 ⟨r_x3, rfl, o_x3, b⟩
      have z_p0 := K_p0.lt
      have z_p1 := K_p1.lt
      have z_sb0 := K_sb0.lt
      have z_bx0 := K_bx0.lt
      have HB0 := HB.out.size
      have y_s0 := Lib.hid (fun k hk => (O_s0.out.lt k hk).2)
      have y_x2 := Lib.hid (fun k hk => (O_x2.out.lt k hk).2)
      replace K_p0 := K_p0.below b K_p0.lt
      replace K_p1 := K_p1.below b K_p1.lt
      replace K_sb0 := K_sb0.below b K_sb0.lt
      replace K_bx0 := K_bx0.below b K_bx0.lt
      replace O_s0 := Lib.hid (O_s0.out.bel b)
      replace O_x2 := Lib.hid (O_x2.out.bel b)
      replace S_0 := Lib.hid (S_0.out.bel b)
      replace S_1 := Lib.hid (S_1.out.bel b)
      replace HB := Lib.hid (bel_trans HB.out b)
      clear b
      have N_p0_x3 : Hid (∀ k, r_x3.ownBlock = some k → k ≠ w.heap.size) := Lib.hid (fun k hk => by have p1 := (o_x3.lt k hk).1; have p2 := z_p0; omega)
      have N_p1_x3 : Hid (∀ k, r_x3.ownBlock = some k → k ≠ w.heap.size + 1) := Lib.hid (fun k hk => by have p1 := (o_x3.lt k hk).1; have p2 := z_p1; omega)
      have N_sb0_x3 : Hid (∀ k, r_x3.ownBlock = some k → k ≠ ab_sb0) := Lib.hid (fun k hk => by have p1 := (o_x3.lt k hk).1; have p2 := z_sb0; omega)
      have N_bx0_x3 : Hid (∀ k, r_x3.ownBlock = some k → k ≠ w8.heap.size) := Lib.hid (fun k hk => by have p1 := (o_x3.lt k hk).1; have p2 := z_bx0; omega)
      have N_s0_x3 : Hid (∀ k, (Value.slice A_s0 (joinE l0 l1).length c_s0).ownBlock = some k → r_x3.ownBlock ≠ some k) := Lib.hid (fun k p q => by have p1 := (y_s0.out k p); have q1 := (o_x3.lt k q).1; omega)
      have N_x2_x3 : Hid (∀ k, (Value.slice A_x2 (l0).length c_x2).ownBlock = some k → r_x3.ownBlock ≠ some k) := Lib.hid (fun k p q => by have p1 := (y_x2.out k p); have q1 := (o_x3.lt k q).1; omega)
      have t_x3 : Hid (∀ k, r_x3.ownBlock = some k → w.heap.size ≤ k) := Lib.hid (fun k hk => by have p1 := (o_x3.lt k hk).1; have p2 := HB0; omega)
      have HBZ := Lib.hid HB0
      clear HB0 z_p0 z_p1 z_sb0 z_bx0 y_s0 y_x2
      have O_x3 := Lib.hid (o_x3.lower (base' := w.heap.size) HBZ.out)
      obtain ⟨A_x3, c_x3, rfl, -, -, -⟩ := o_x3.strs.open_
      clear o_x3
      clear HBZ
      have ba : Below w10.heap.size w10 (w10.alloc (.cells #[Value.slice A_x3 (l1).length c_x3] 26)) := bel_alloc w10 _
      have u_s0 := Lib.hid (fun k hk => (O_s0.out.lt k hk).2)
      have u_x2 := Lib.hid (fun k hk => (O_x2.out.lt k hk).2)
      have u_x3 := Lib.hid (fun k hk => (O_x3.out.lt k hk).2)
      replace K_p0 := K_p0.below ba K_p0.lt
      replace K_p1 := K_p1.below ba K_p1.lt
      replace K_sb0 := K_sb0.below ba K_sb0.lt
      replace K_bx0 := K_bx0.below ba K_bx0.lt
      replace O_s0 := Lib.hid (O_s0.out.bel ba)
      replace O_x2 := Lib.hid (O_x2.out.bel ba)
      replace O_x3 := Lib.hid (O_x3.out.bel ba)
      replace S_0 := Lib.hid (S_0.out.bel ba)
      replace S_1 := Lib.hid (S_1.out.bel ba)
      replace HB := Lib.hid (bel_trans HB.out ba)
      clear ba
      have K_bx1 := Blk.new' w10 26 (Value.slice A_x3 (l1).length c_x3) _ rfl
      have N_bx1_s0 : Hid (∀ k, (Value.slice A_s0 (joinE l0 l1).length c_s0).ownBlock = some k → k ≠ w10.heap.size) := Lib.hid (fun k hk => by have p1 := u_s0.out k hk; omega)
      have N_bx1_x2 : Hid (∀ k, (Value.slice A_x2 (l0).length c_x2).ownBlock = some k → k ≠ w10.heap.size) := Lib.hid (fun k hk => by have p1 := u_x2.out k hk; omega)
      have N_bx1_x3 : Hid (∀ k, (Value.slice A_x3 (l1).length c_x3).ownBlock = some k → k ≠ w10.heap.size) := Lib.hid (fun k hk => by have p1 := u_x3.out k hk; omega)
      clear u_s0 u_x2 u_x3
      obtain ⟨e_p0, -⟩ := K_p0.one
      obtain ⟨e_p1, -⟩ := K_p1.one
      obtain ⟨e_sb0, -⟩ := K_sb0.one
      obtain ⟨e_bx0, -⟩ := K_bx0.one
      obtain ⟨e_bx1, -⟩ := K_bx1.one
      go_wp2_with fail
      clear e_p0 e_p1 e_sb0 e_bx0 e_bx1
      generalize hW : w10.alloc (.cells #[Value.slice A_x3 (l1).length c_x3] 26) = w11 at *
      clear hW
      refine (implJoin_any _ _ l0 l1 _ O_x2.out.strs O_x3.out.strs).mono ?_
      rintro e w12 ⟨r_g0, rfl, o_g0, b⟩
      have z_p0 := K_p0.lt
      have z_p1 := K_p1.lt
      have z_sb0 := K_sb0.lt
      have z_bx0 := K_bx0.lt
      have z_bx1 := K_bx1.lt
      have HB0 := HB.out.size
      have y_s0 := Lib.hid (fun k hk => (O_s0.out.lt k hk).2)
      have y_x2 := Lib.hid (fun k hk => (O_x2.out.lt k hk).2)
      have y_x3 := Lib.hid (fun k hk => (O_x3.out.lt k hk).2)
      replace K_p0 := K_p0.below b K_p0.lt
      replace K_p1 := K_p1.below b K_p1.lt
      replace K_sb0 := K_sb0.below b K_sb0.lt
      replace K_bx0 := K_bx0.below b K_bx0.lt
      replace K_bx1 := K_bx1.below b K_bx1.lt
      replace O_s0 := Lib.hid (O_s0.out.bel b)
      replace O_x2 := Lib.hid (O_x2.out.bel b)
      replace O_x3 := Lib.hid (O_x3.out.bel b)
      replace S_0 := Lib.hid (S_0.out.bel b)
      replace S_1 := Lib.hid (S_1.out.bel b)
      replace HB := Lib.hid (bel_trans HB.out b)
      clear b
      have N_p0_g0 : Hid (∀ k, r_g0.ownBlock = some k → k ≠ w.heap.size) := Lib.hid (fun k hk => by have p1 := (o_g0.lt k hk).1; have p2 := z_p0; omega)
      have N_p1_g0 : Hid (∀ k, r_g0.ownBlock = some k → k ≠ w.heap.size + 1) := Lib.hid (fun k hk => by have p1 := (o_g0.lt k hk).1; have p2 := z_p1; omega)
      have N_sb0_g0 : Hid (∀ k, r_g0.ownBlock = some k → k ≠ ab_sb0) := Lib.hid (fun k hk => by have p1 := (o_g0.lt k hk).1; have p2 := z_sb0; omega)
      have N_bx0_g0 : Hid (∀ k, r_g0.ownBlock = some k → k ≠ w8.heap.size) := Lib.hid (fun k hk => by have p1 := (o_g0.lt k hk).1; have p2 := z_bx0; omega)
      have N_bx1_g0 : Hid (∀ k, r_g0.ownBlock = some k → k ≠ w10.heap.size) := Lib.hid (fun k hk => by have p1 := (o_g0.lt k hk).1; have p2 := z_bx1; omega)
      have N_s0_g0 : Hid (∀ k, (Value.slice A_s0 (joinE l0 l1).length c_s0).ownBlock = some k → r_g0.ownBlock ≠ some k) := Lib.hid (fun k p q => by have p1 := (y_s0.out k p); have q1 := (o_g0.lt k q).1; omega)
      have N_x2_g0 : Hid (∀ k, (Value.slice A_x2 (l0).length c_x2).ownBlock = some k → r_g0.ownBlock ≠ some k) := Lib.hid (fun k p q => by have p1 := (y_x2.out k p); have q1 := (o_g0.lt k q).1; omega)
      have N_x3_g0 : Hid (∀ k, (Value.slice A_x3 (l1).length c_x3).ownBlock = some k → r_g0.ownBlock ≠ some k) := Lib.hid (fun k p q => by have p1 := (y_x3.out k p); have q1 := (o_g0.lt k q).1; omega)
      have t_g0 : Hid (∀ k, r_g0.ownBlock = some k → w.heap.size ≤ k) := Lib.hid (fun k hk => by have p1 := (o_g0.lt k hk).1; have p2 := HB0; omega)
      have HBZ := Lib.hid HB0
      clear HB0 z_p0 z_p1 z_sb0 z_bx0 z_bx1 y_s0 y_x2 y_x3
      have O_g0 := Lib.hid (o_g0.lower (base' := w.heap.size) HBZ.out)
      obtain ⟨A_g0, c_g0, rfl, -, -, -⟩ := o_g0.strs.open_
      clear o_g0
      clear HBZ
      have ba : Below w12.heap.size w12 (w12.alloc (.cells #[Value.slice A_g0 (joinE l0 l1).length c_g0] 26)) := bel_alloc w12 _
      have u_s0 := Lib.hid (fun k hk => (O_s0.out.lt k hk).2)
      have u_x2 := Lib.hid (fun k hk => (O_x2.out.lt k hk).2)
      have u_x3 := Lib.hid (fun k hk => (O_x3.out.lt k hk).2)
      have u_g0 := Lib.hid (fun k hk => (O_g0.out.lt k hk).2)
      replace K_p0 := K_p0.below ba K_p0.lt
      replace K_p1 := K_p1.below ba K_p1.lt
      replace K_sb0 := K_sb0.below ba K_sb0.lt
      replace K_bx0 := K_bx0.below ba K_bx0.lt
      replace K_bx1 := K_bx1.below ba K_bx1.lt
      replace O_s0 := Lib.hid (O_s0.out.bel ba)
      replace O_x2 := Lib.hid (O_x2.out.bel ba)
      replace O_x3 := Lib.hid (O_x3.out.bel ba)
      replace O_g0 := Lib.hid (O_g0.out.bel ba)
      replace S_0 := Lib.hid (S_0.out.bel ba)
      replace S_1 := Lib.hid (S_1.out.bel ba)
      replace HB := Lib.hid (bel_trans HB.out ba)
      clear ba
      have K_gb0 := Blk.new' w12 26 (Value.slice A_g0 (joinE l0 l1).length c_g0) _ rfl
      have N_gb0_s0 : Hid (∀ k, (Value.slice A_s0 (joinE l0 l1).length c_s0).ownBlock = some k → k ≠ w12.heap.size) := Lib.hid (fun k hk => by have p1 := u_s0.out k hk; omega)
      have N_gb0_x2 : Hid (∀ k, (Value.slice A_x2 (l0).length c_x2).ownBlock = some k → k ≠ w12.heap.size) := Lib.hid (fun k hk => by have p1 := u_x2.out k hk; omega)
      have N_gb0_x3 : Hid (∀ k, (Value.slice A_x3 (l1).length c_x3).ownBlock = some k → k ≠ w12.heap.size) := Lib.hid (fun k hk => by have p1 := u_x3.out k hk; omega)
      have N_gb0_g0 : Hid (∀ k, (Value.slice A_g0 (joinE l0 l1).length c_g0).ownBlock = some k → k ≠ w12.heap.size) := Lib.hid (fun k hk => by have p1 := u_g0.out k hk; omega)
      clear u_s0 u_x2 u_x3 u_g0
      obtain ⟨e_p0, -⟩ := K_p0.one
      obtain ⟨e_p1, -⟩ := K_p1.one
      obtain ⟨e_sb0, -⟩ := K_sb0.one
      obtain ⟨e_bx0, -⟩ := K_bx0.one
      obtain ⟨e_bx1, -⟩ := K_bx1.one
      obtain ⟨e_gb0, -⟩ := K_gb0.one
      go_wp2_with fail
      clear e_p0 e_p1 e_sb0 e_bx0 e_bx1 e_gb0
      generalize hW : w12.alloc (.cells #[Value.slice A_g0 (joinE l0 l1).length c_g0] 26) = w13 at *
      clear hW
      refine (eqEngine_any _ _ _ _ _ O_g0.out.strs O_s0.out.strs).mono ?_
      rw [he_r0]
      rintro e w14 ⟨rfl, b⟩
      replace K_p0 := K_p0.below b K_p0.lt
      replace K_p1 := K_p1.below b K_p1.lt
      replace K_sb0 := K_sb0.below b K_sb0.lt
      replace K_bx0 := K_bx0.below b K_bx0.lt
      replace K_bx1 := K_bx1.below b K_bx1.lt
      replace K_gb0 := K_gb0.below b K_gb0.lt
      replace O_s0 := Lib.hid (O_s0.out.bel b)
      replace O_x2 := Lib.hid (O_x2.out.bel b)
      replace O_x3 := Lib.hid (O_x3.out.bel b)
      replace O_g0 := Lib.hid (O_g0.out.bel b)
      replace S_0 := Lib.hid (S_0.out.bel b)
      replace S_1 := Lib.hid (S_1.out.bel b)
      replace HB := Lib.hid (bel_trans HB.out b)
      clear b
      obtain ⟨e_p0, -⟩ := K_p0.one
      obtain ⟨e_p1, -⟩ := K_p1.one
      obtain ⟨e_sb0, -⟩ := K_sb0.one
      obtain ⟨e_bx0, -⟩ := K_bx0.one
      obtain ⟨e_bx1, -⟩ := K_bx1.one
      obtain ⟨e_gb0, -⟩ := K_gb0.one
      go_wp2_with fail
      clear e_p0 e_p1 e_sb0 e_bx0 e_bx1 e_gb0
      refine cut_by (P := ?P2) ?hk2 (fun key2 => ?main2)
      case main2 =>
        replace key2 := Lib.hid key2
        obtain ⟨e_p0, -⟩ := K_p0.one
        obtain ⟨e_p1, -⟩ := K_p1.one
        obtain ⟨e_sb0, -⟩ := K_sb0.one
        obtain ⟨e_bx0, -⟩ := K_bx0.one
        obtain ⟨e_bx1, -⟩ := K_bx1.one
        obtain ⟨e_gb0, -⟩ := K_gb0.one
        have tok1 : True := trivial
        have tok2 : True := trivial
        go_region_held3 (fun w' => w'.cell? ⟨w.heap.size, 0, none⟩ = some (Value.slice A_a0 l0.length c_a0) ∧ w'.cell? ⟨w8.heap.size, 0, none⟩ = some (Value.slice A_x2 (l0).length c_x2)) (first | exact ⟨e_p0, e_bx0⟩ | exact ⟨((bel_alloc _ _).cell (by exact K_p0.lt)).trans e_p0, ((bel_alloc _ _).cell (by exact K_bx0.lt)).trans e_bx0⟩ | exact ⟨(World.cell?_setCell_other _ _ _ _ (by intro e; injection e with q; have := K_p0.lt; simp at q; omega)).trans (((bel_alloc _ _).cell (by exact K_p0.lt)).trans e_p0), (World.cell?_setCell_other _ _ _ _ (by intro e; injection e with q; have := K_bx0.lt; simp at q; omega)).trans (((bel_alloc _ _).cell (by exact K_bx0.lt)).trans e_bx0)⟩ | exact ⟨(World.cell?_setCell_other _ _ _ _ (by intro e; injection e with q; omega)).trans e_p0, (World.cell?_setCell_other _ _ _ _ (by intro e; injection e with q; omega)).trans e_bx0⟩ | go_keep) (first
          | ((try go_simp); go_at_call 17; have _t := tok1; clear e_p0 e_p1 e_sb0 e_bx0 e_bx1 e_gb0; go_loud (refine (toEngine_any _ l0 _ (by first | exact S_0.out | exact S_0.out.bel ((Below.refl _ _).drew)) len0).mono ?_; rintro e w15 ⟨r_x4, rfl, o_x4, b⟩; replace o_x4 : OwnS w15 w14.heap.size r_x4 (l0) := (by first | exact o_x4 | exact o_x4.lower (by simp)); replace b : Below w14.heap.size w14 w15 := (by first | exact b | exact bel_trans ((Below.refl _ _).drew) b | exact bel_trans (bel_alloc _ _) b | exact bel_trans ((bel_alloc _ _).drew) b | exact bel_trans (((Below.refl _ _).drew).alloc (Nat.le_refl _) _) b); have HBZ := Lib.hid HB.out.size; replace K_p0 := K_p0.below b K_p0.lt; replace K_p1 := K_p1.below b K_p1.lt; replace K_sb0 := K_sb0.below b K_sb0.lt; replace K_bx0 := K_bx0.below b K_bx0.lt; replace K_bx1 := K_bx1.below b K_bx1.lt; replace K_gb0 := K_gb0.below b K_gb0.lt; replace O_s0 := Lib.hid (O_s0.out.bel b); replace O_x2 := Lib.hid (O_x2.out.bel b); replace O_x3 := Lib.hid (O_x3.out.bel b); replace O_g0 := Lib.hid (O_g0.out.bel b); replace S_0 := Lib.hid (S_0.out.bel b); replace S_1 := Lib.hid (S_1.out.bel b); replace HB := Lib.hid (bel_trans HB.out b); clear b; have O_x4 := Lib.hid (o_x4.lower (base' := w.heap.size) HBZ.out); clear HBZ; obtain ⟨A_x4, c_x4, rfl, -, -, -⟩ := o_x4.strs.open_; clear o_x4; obtain ⟨e_p0, -⟩ := K_p0.one; obtain ⟨e_p1, -⟩ := K_p1.one; obtain ⟨e_sb0, -⟩ := K_sb0.one; obtain ⟨e_bx0, -⟩ := K_bx0.one; obtain ⟨e_bx1, -⟩ := K_bx1.one; obtain ⟨e_gb0, -⟩ := K_gb0.one; clear tok1; (try dsimp only)))
          | ((try go_simp); go_at_call 19; have _t := tok2; clear e_p0 e_p1 e_sb0 e_bx0 e_bx1 e_gb0; go_loud (refine (eqEngine_any _ _ _ _ _ (by first | exact O_x2.out.strs | exact O_x2.out.strs.bel ((Below.refl _ _).drew)) (by first | exact O_x4.out.strs | exact O_x4.out.strs.bel ((Below.refl _ _).drew))).mono ?_; rw [he_a0]; rintro e w16 ⟨rfl, b⟩; replace b : Below w15.heap.size w15 w16 := (by first | exact b | exact bel_trans ((Below.refl _ _).drew) b | exact bel_trans (bel_alloc _ _) b | exact bel_trans ((bel_alloc _ _).drew) b | exact bel_trans (((Below.refl _ _).drew).alloc (Nat.le_refl _) _) b); replace K_p0 := K_p0.below b K_p0.lt; replace K_p1 := K_p1.below b K_p1.lt; replace K_sb0 := K_sb0.below b K_sb0.lt; replace K_bx0 := K_bx0.below b K_bx0.lt; replace K_bx1 := K_bx1.below b K_bx1.lt; replace K_gb0 := K_gb0.below b K_gb0.lt; replace O_s0 := Lib.hid (O_s0.out.bel b); replace O_x2 := Lib.hid (O_x2.out.bel b); replace O_x3 := Lib.hid (O_x3.out.bel b); replace O_g0 := Lib.hid (O_g0.out.bel b); replace O_x4 := Lib.hid (O_x4.out.bel b); replace S_0 := Lib.hid (S_0.out.bel b); replace S_1 := Lib.hid (S_1.out.bel b); replace HB := Lib.hid (bel_trans HB.out b); clear b; clear O_x4; obtain ⟨e_p0, -⟩ := K_p0.one; obtain ⟨e_p1, -⟩ := K_p1.one; obtain ⟨e_sb0, -⟩ := K_sb0.one; obtain ⟨e_bx0, -⟩ := K_bx0.one; obtain ⟨e_bx1, -⟩ := K_bx1.one; obtain ⟨e_gb0, -⟩ := K_gb0.one; clear tok2; (try dsimp only)))
          | fail)
        all_goals
          clear e_p0 e_p1 e_sb0 e_bx0 e_bx1 e_gb0
          first
          | (obtain ⟨w17, hW⟩ : ∃ W', W' = w16.drew := ⟨_, rfl⟩; rw [← hW]; have b : Below w16.heap.size w16 w17 := (by rw [hW]; exact (Below.refl _ _).drew); clear hW)
          | (obtain ⟨w17, hW⟩ : ∃ W', W' = w16 := ⟨_, rfl⟩; rw [← hW]; have b : Below w16.heap.size w16 w17 := (by rw [hW]; exact Below.refl _ _); clear hW)
          replace K_p0 := K_p0.below b K_p0.lt
          replace K_p1 := K_p1.below b K_p1.lt
          replace K_sb0 := K_sb0.below b K_sb0.lt
          replace K_bx0 := K_bx0.below b K_bx0.lt
          replace K_bx1 := K_bx1.below b K_bx1.lt
          replace K_gb0 := K_gb0.below b K_gb0.lt
          replace O_s0 := Lib.hid (O_s0.out.bel b)
          replace O_x2 := Lib.hid (O_x2.out.bel b)
          replace O_x3 := Lib.hid (O_x3.out.bel b)
          replace O_g0 := Lib.hid (O_g0.out.bel b)
          replace S_0 := Lib.hid (S_0.out.bel b)
          replace S_1 := Lib.hid (S_1.out.bel b)
          replace HB := Lib.hid (bel_trans HB.out b)
          clear b
          revert HB; revert S_1; revert S_0; revert O_g0; revert O_x3; revert O_x2; revert O_s0; revert K_gb0; revert K_bx1; revert K_bx0; revert K_sb0; revert K_p1; revert K_p0; revert c_x4; revert A_x4; revert w17
          exact key2.out
      intro w17 A_x4 c_x4
      intro K_p0 K_p1 K_sb0 K_bx0 K_bx1 K_gb0 O_s0 O_x2 O_x3 O_g0 S_0 S_1 HB
      obtain ⟨e_p0, -⟩ := K_p0.one
      obtain ⟨e_p1, -⟩ := K_p1.one
      obtain ⟨e_sb0, -⟩ := K_sb0.one
      obtain ⟨e_bx0, -⟩ := K_bx0.one
      obtain ⟨e_bx1, -⟩ := K_bx1.one
      obtain ⟨e_gb0, -⟩ := K_gb0.one
      go_wp2_with fail
      clear e_p0 e_p1 e_sb0 e_bx0 e_bx1 e_gb0
      refine cut_by (P := ?P3) ?hk3 (fun key3 => ?main3)
      case main3 =>
        replace key3 := Lib.hid key3
        obtain ⟨e_p0, -⟩ := K_p0.one
        obtain ⟨e_p1, -⟩ := K_p1.one
        obtain ⟨e_sb0, -⟩ := K_sb0.one
        obtain ⟨e_bx0, -⟩ := K_bx0.one
        obtain ⟨e_bx1, -⟩ := K_bx1.one
        obtain ⟨e_gb0, -⟩ := K_gb0.one
        have tok1 : True := trivial
        have tok2 : True := trivial
        go_region_held3 (fun w' => w'.cell? ⟨w.heap.size + 1, 0, none⟩ = some (Value.slice A_a1 l1.length c_a1) ∧ w'.cell? ⟨w10.heap.size, 0, none⟩ = some (Value.slice A_x3 (l1).length c_x3)) (first | exact ⟨e_p1, e_bx1⟩ | exact ⟨((bel_alloc _ _).cell (by exact K_p1.lt)).trans e_p1, ((bel_alloc _ _).cell (by exact K_bx1.lt)).trans e_bx1⟩ | exact ⟨(World.cell?_setCell_other _ _ _ _ (by intro e; injection e with q; have := K_p1.lt; simp at q; omega)).trans (((bel_alloc _ _).cell (by exact K_p1.lt)).trans e_p1), (World.cell?_setCell_other _ _ _ _ (by intro e; injection e with q; have := K_bx1.lt; simp at q; omega)).trans (((bel_alloc _ _).cell (by exact K_bx1.lt)).trans e_bx1)⟩ | exact ⟨(World.cell?_setCell_other _ _ _ _ (by intro e; injection e with q; omega)).trans e_p1, (World.cell?_setCell_other _ _ _ _ (by intro e; injection e with q; omega)).trans e_bx1⟩ | go_keep) (first
          | ((try go_simp); go_at_call 17; have _t := tok1; clear e_p0 e_p1 e_sb0 e_bx0 e_bx1 e_gb0; go_loud (refine (toEngine_any _ l1 _ (by first | exact S_1.out | exact S_1.out.bel ((Below.refl _ _).drew)) len1).mono ?_; rintro e w18 ⟨r_x5, rfl, o_x5, b⟩; replace o_x5 : OwnS w18 w17.heap.size r_x5 (l1) := (by first | exact o_x5 | exact o_x5.lower (by simp)); replace b : Below w17.heap.size w17 w18 := (by first | exact b | exact bel_trans ((Below.refl _ _).drew) b | exact bel_trans (bel_alloc _ _) b | exact bel_trans ((bel_alloc _ _).drew) b | exact bel_trans (((Below.refl _ _).drew).alloc (Nat.le_refl _) _) b); have HBZ := Lib.hid HB.out.size; replace K_p0 := K_p0.below b K_p0.lt; replace K_p1 := K_p1.below b K_p1.lt; replace K_sb0 := K_sb0.below b K_sb0.lt; replace K_bx0 := K_bx0.below b K_bx0.lt; replace K_bx1 := K_bx1.below b K_bx1.lt; replace K_gb0 := K_gb0.below b K_gb0.lt; replace O_s0 := Lib.hid (O_s0.out.bel b); replace O_x2 := Lib.hid (O_x2.out.bel b); replace O_x3 := Lib.hid (O_x3.out.bel b); replace O_g0 := Lib.hid (O_g0.out.bel b); replace S_0 := Lib.hid (S_0.out.bel b); replace S_1 := Lib.hid (S_1.out.bel b); replace HB := Lib.hid (bel_trans HB.out b); clear b; have O_x5 := Lib.hid (o_x5.lower (base' := w.heap.size) HBZ.out); clear HBZ; obtain ⟨A_x5, c_x5, rfl, -, -, -⟩ := o_x5.strs.open_; clear o_x5; obtain ⟨e_p0, -⟩ := K_p0.one; obtain ⟨e_p1, -⟩ := K_p1.one; obtain ⟨e_sb0, -⟩ := K_sb0.one; obtain ⟨e_bx0, -⟩ := K_bx0.one; obtain ⟨e_bx1, -⟩ := K_bx1.one; obtain ⟨e_gb0, -⟩ := K_gb0.one; clear tok1; (try dsimp only)))
          | ((try go_simp); go_at_call 19; have _t := tok2; clear e_p0 e_p1 e_sb0 e_bx0 e_bx1 e_gb0; go_loud (refine (eqEngine_any _ _ _ _ _ (by first | exact O_x3.out.strs | exact O_x3.out.strs.bel ((Below.refl _ _).drew)) (by first | exact O_x5.out.strs | exact O_x5.out.strs.bel ((Below.refl _ _).drew))).mono ?_; rw [he_a1]; rintro e w19 ⟨rfl, b⟩; replace b : Below w18.heap.size w18 w19 := (by first | exact b | exact bel_trans ((Below.refl _ _).drew) b | exact bel_trans (bel_alloc _ _) b | exact bel_trans ((bel_alloc _ _).drew) b | exact bel_trans (((Below.refl _ _).drew).alloc (Nat.le_refl _) _) b); replace K_p0 := K_p0.below b K_p0.lt; replace K_p1 := K_p1.below b K_p1.lt; replace K_sb0 := K_sb0.below b K_sb0.lt; replace K_bx0 := K_bx0.below b K_bx0.lt; replace K_bx1 := K_bx1.below b K_bx1.lt; replace K_gb0 := K_gb0.below b K_gb0.lt; replace O_s0 := Lib.hid (O_s0.out.bel b); replace O_x2 := Lib.hid (O_x2.out.bel b); replace O_x3 := Lib.hid (O_x3.out.bel b); replace O_g0 := Lib.hid (O_g0.out.bel b); replace O_x5 := Lib.hid (O_x5.out.bel b); replace S_0 := Lib.hid (S_0.out.bel b); replace S_1 := Lib.hid (S_1.out.bel b); replace HB := Lib.hid (bel_trans HB.out b); clear b; clear O_x5; obtain ⟨e_p0, -⟩ := K_p0.one; obtain ⟨e_p1, -⟩ := K_p1.one; obtain ⟨e_sb0, -⟩ := K_sb0.one; obtain ⟨e_bx0, -⟩ := K_bx0.one; obtain ⟨e_bx1, -⟩ := K_bx1.one; obtain ⟨e_gb0, -⟩ := K_gb0.one; clear tok2; (try dsimp only)))
          | fail)
        all_goals
          clear e_p0 e_p1 e_sb0 e_bx0 e_bx1 e_gb0
          first
          | (obtain ⟨w20, hW⟩ : ∃ W', W' = w19.drew := ⟨_, rfl⟩; rw [← hW]; have b : Below w19.heap.size w19 w20 := (by rw [hW]; exact (Below.refl _ _).drew); clear hW)
          | (obtain ⟨w20, hW⟩ : ∃ W', W' = w19 := ⟨_, rfl⟩; rw [← hW]; have b : Below w19.heap.size w19 w20 := (by rw [hW]; exact Below.refl _ _); clear hW)
          replace K_p0 := K_p0.below b K_p0.lt
          replace K_p1 := K_p1.below b K_p1.lt
          replace K_sb0 := K_sb0.below b K_sb0.lt
          replace K_bx0 := K_bx0.below b K_bx0.lt
          replace K_bx1 := K_bx1.below b K_bx1.lt
          replace K_gb0 := K_gb0.below b K_gb0.lt
          replace O_s0 := Lib.hid (O_s0.out.bel b)
          replace O_x2 := Lib.hid (O_x2.out.bel b)
          replace O_x3 := Lib.hid (O_x3.out.bel b)
          replace O_g0 := Lib.hid (O_g0.out.bel b)
          replace S_0 := Lib.hid (S_0.out.bel b)
          replace S_1 := Lib.hid (S_1.out.bel b)
          replace HB := Lib.hid (bel_trans HB.out b)
          clear b
          revert HB; revert S_1; revert S_0; revert O_g0; revert O_x3; revert O_x2; revert O_s0; revert K_gb0; revert K_bx1; revert K_bx0; revert K_sb0; revert K_p1; revert K_p0; revert c_x5; revert A_x5; revert w20
          exact key3.out
      intro w20 A_x5 c_x5
      intro K_p0 K_p1 K_sb0 K_bx0 K_bx1 K_gb0 O_s0 O_x2 O_x3 O_g0 S_0 S_1 HB
      have hR0 : (joinE l0 l1).length ≤ 1048576 := by exact Nat.le_trans joinE_len (by omega)
      obtain ⟨e_p0, -⟩ := K_p0.one
      obtain ⟨e_p1, -⟩ := K_p1.one
      obtain ⟨e_sb0, -⟩ := K_sb0.one
      obtain ⟨e_bx0, -⟩ := K_bx0.one
      obtain ⟨e_bx1, -⟩ := K_bx1.one
      obtain ⟨e_gb0, -⟩ := K_gb0.one
      go_wp2_with fail
      clear e_p0 e_p1 e_sb0 e_bx0 e_bx1 e_gb0
      refine (markEngine_int _ _ (1) _ _ O_x2.out (by omega) (by omega)).mono ?_
      rintro e w21 ⟨rfl, g, o_x2⟩
      replace K_p0 := K_p0.grown g (fun e => N_p0_x2.out _ e.symm rfl)
      replace K_p1 := K_p1.grown g (fun e => N_p1_x2.out _ e.symm rfl)
      replace K_sb0 := K_sb0.grown g (fun e => N_sb0_x2.out _ e.symm rfl)
      replace K_bx0 := K_bx0.grown g (fun e => N_bx0_x2.out _ e.symm rfl)
      replace K_bx1 := K_bx1.grown g (fun e => N_bx1_x2.out _ e.symm rfl)
      replace K_gb0 := K_gb0.grown g (fun e => N_gb0_x2.out _ e.symm rfl)
      replace O_s0 := Lib.hid (O_s0.out.apart g N_s0_x2.out)
      replace O_x3 := Lib.hid (O_x3.out.apart g (fun k p q => N_x2_x3.out k q p))
      replace O_g0 := Lib.hid (O_g0.out.apart g (fun k p q => N_x2_g0.out k q p))
      replace S_0 := Lib.hid (S_0.out.far g (B := w.heap.size) (fun k p => t_x2.out k p) J_0.out)
      replace S_1 := Lib.hid (S_1.out.far g (B := w.heap.size) (fun k p => t_x2.out k p) J_1.out)
      replace HB := Lib.hid (mark_bel HB.out g (fun k p => t_x2.out k p))
      clear g
      replace O_x2 := Lib.hid o_x2
      clear o_x2
      obtain ⟨e_p0, -⟩ := K_p0.one
      obtain ⟨e_p1, -⟩ := K_p1.one
      obtain ⟨e_sb0, -⟩ := K_sb0.one
      obtain ⟨e_bx0, -⟩ := K_bx0.one
      obtain ⟨e_bx1, -⟩ := K_bx1.one
      obtain ⟨e_gb0, -⟩ := K_gb0.one
      go_wp2_with fail
      clear e_p0 e_p1 e_sb0 e_bx0 e_bx1 e_gb0
      refine (markEngine_int _ _ (1 + (l0.length : Int)) _ _ O_x3.out (by omega) (by omega)).mono ?_
      rintro e w22 ⟨rfl, g, o_x3⟩
      replace K_p0 := K_p0.grown g (fun e => N_p0_x3.out _ e.symm rfl)
      replace K_p1 := K_p1.grown g (fun e => N_p1_x3.out _ e.symm rfl)
      replace K_sb0 := K_sb0.grown g (fun e => N_sb0_x3.out _ e.symm rfl)
      replace K_bx0 := K_bx0.grown g (fun e => N_bx0_x3.out _ e.symm rfl)
      replace K_bx1 := K_bx1.grown g (fun e => N_bx1_x3.out _ e.symm rfl)
      replace K_gb0 := K_gb0.grown g (fun e => N_gb0_x3.out _ e.symm rfl)
      replace O_s0 := Lib.hid (O_s0.out.apart g N_s0_x3.out)
      replace O_x2 := Lib.hid (O_x2.out.apart g N_x2_x3.out)
      replace O_g0 := Lib.hid (O_g0.out.apart g (fun k p q => N_x3_g0.out k q p))
      replace S_0 := Lib.hid (S_0.out.far g (B := w.heap.size) (fun k p => t_x3.out k p) J_0.out)
      replace S_1 := Lib.hid (S_1.out.far g (B := w.heap.size) (fun k p => t_x3.out k p) J_1.out)
      replace HB := Lib.hid (mark_bel HB.out g (fun k p => t_x3.out k p))
      clear g
      replace O_x3 := Lib.hid o_x3
      clear o_x3
      obtain ⟨e_p0, -⟩ := K_p0.one
      obtain ⟨e_p1, -⟩ := K_p1.one
      obtain ⟨e_sb0, -⟩ := K_sb0.one
      obtain ⟨e_bx0, -⟩ := K_bx0.one
      obtain ⟨e_bx1, -⟩ := K_bx1.one
      obtain ⟨e_gb0, -⟩ := K_gb0.one
      go_wp2_with fail
      clear e_p0 e_p1 e_sb0 e_bx0 e_bx1 e_gb0
      refine (eqEngine_any _ _ _ _ _ O_g0.out.strs O_s0.out.strs).mono ?_
      rw [he_r0]
      rintro e w23 ⟨rfl, b⟩
      replace K_p0 := K_p0.below b K_p0.lt
      replace K_p1 := K_p1.below b K_p1.lt
      replace K_sb0 := K_sb0.below b K_sb0.lt
      replace K_bx0 := K_bx0.below b K_bx0.lt
      replace K_bx1 := K_bx1.below b K_bx1.lt
      replace K_gb0 := K_gb0.below b K_gb0.lt
      replace O_s0 := Lib.hid (O_s0.out.bel b)
      replace O_x2 := Lib.hid (O_x2.out.bel b)
      replace O_x3 := Lib.hid (O_x3.out.bel b)
      replace O_g0 := Lib.hid (O_g0.out.bel b)
      replace S_0 := Lib.hid (S_0.out.bel b)
      replace S_1 := Lib.hid (S_1.out.bel b)
      replace HB := Lib.hid (bel_trans HB.out b)
      clear b
      obtain ⟨e_p0, -⟩ := K_p0.one
      obtain ⟨e_p1, -⟩ := K_p1.one
      obtain ⟨e_sb0, -⟩ := K_sb0.one
      obtain ⟨e_bx0, -⟩ := K_bx0.one
      obtain ⟨e_bx1, -⟩ := K_bx1.one
      obtain ⟨e_gb0, -⟩ := K_gb0.one
      go_wp2_with fail
      clear e_p0 e_p1 e_sb0 e_bx0 e_bx1 e_gb0
      refine (markEngine_int _ _ (1) _ _ O_g0.out (by omega) (by omega)).mono ?_
      rintro e w24 ⟨rfl, g, o_g0⟩
      replace K_p0 := K_p0.grown g (fun e => N_p0_g0.out _ e.symm rfl)
      replace K_p1 := K_p1.grown g (fun e => N_p1_g0.out _ e.symm rfl)
      replace K_sb0 := K_sb0.grown g (fun e => N_sb0_g0.out _ e.symm rfl)
      replace K_bx0 := K_bx0.grown g (fun e => N_bx0_g0.out _ e.symm rfl)
      replace K_bx1 := K_bx1.grown g (fun e => N_bx1_g0.out _ e.symm rfl)
      replace K_gb0 := K_gb0.grown g (fun e => N_gb0_g0.out _ e.symm rfl)
      replace O_s0 := Lib.hid (O_s0.out.apart g N_s0_g0.out)
      replace O_x2 := Lib.hid (O_x2.out.apart g N_x2_g0.out)
      replace O_x3 := Lib.hid (O_x3.out.apart g N_x3_g0.out)
      replace S_0 := Lib.hid (S_0.out.far g (B := w.heap.size) (fun k p => t_g0.out k p) J_0.out)
      replace S_1 := Lib.hid (S_1.out.far g (B := w.heap.size) (fun k p => t_g0.out k p) J_1.out)
      replace HB := Lib.hid (mark_bel HB.out g (fun k p => t_g0.out k p))
      clear g
      replace O_g0 := Lib.hid o_g0
      clear o_g0
      obtain ⟨e_p0, -⟩ := K_p0.one
      obtain ⟨e_p1, -⟩ := K_p1.one
      obtain ⟨e_sb0, -⟩ := K_sb0.one
      obtain ⟨e_bx0, -⟩ := K_bx0.one
      obtain ⟨e_bx1, -⟩ := K_bx1.one
      obtain ⟨e_gb0, -⟩ := K_gb0.one
      go_wp2_with fail
      clear e_p0 e_p1 e_sb0 e_bx0 e_bx1 e_gb0
      refine (heldEngine_int _ (joinE l0 l1).length (1) _ O_g0.out.strs (by omega) (by omega)).mono ?_
      rintro e w25 ⟨rfl, b⟩
      replace K_p0 := K_p0.below b K_p0.lt
      replace K_p1 := K_p1.below b K_p1.lt
      replace K_sb0 := K_sb0.below b K_sb0.lt
      replace K_bx0 := K_bx0.below b K_bx0.lt
      replace K_bx1 := K_bx1.below b K_bx1.lt
      replace K_gb0 := K_gb0.below b K_gb0.lt
      replace O_s0 := Lib.hid (O_s0.out.bel b)
      replace O_x2 := Lib.hid (O_x2.out.bel b)
      replace O_x3 := Lib.hid (O_x3.out.bel b)
      replace O_g0 := Lib.hid (O_g0.out.bel b)
      replace S_0 := Lib.hid (S_0.out.bel b)
      replace S_1 := Lib.hid (S_1.out.bel b)
      replace HB := Lib.hid (bel_trans HB.out b)
      clear b
      obtain ⟨e_p0, -⟩ := K_p0.one
      obtain ⟨e_p1, -⟩ := K_p1.one
      obtain ⟨e_sb0, -⟩ := K_sb0.one
      obtain ⟨e_bx0, -⟩ := K_bx0.one
      obtain ⟨e_bx1, -⟩ := K_bx1.one
      obtain ⟨e_gb0, -⟩ := K_gb0.one
      go_wp2_with fail
      clear e_p0 e_p1 e_sb0 e_bx0 e_bx1 e_gb0
      refine cut_by (P := ?P4) ?hk4 (fun key4 => ?main4)
      case main4 =>
        replace key4 := Lib.hid key4
        obtain ⟨e_p0, -⟩ := K_p0.one
        obtain ⟨e_p1, -⟩ := K_p1.one
        obtain ⟨e_sb0, -⟩ := K_sb0.one
        obtain ⟨e_bx0, -⟩ := K_bx0.one
        obtain ⟨e_bx1, -⟩ := K_bx1.one
        obtain ⟨e_gb0, -⟩ := K_gb0.one
        have tok1 : True := trivial
        have tok2 : True := trivial
        have tok3 : True := trivial
        go_region_held3 (fun w' => w'.cell? ⟨w.heap.size, 0, none⟩ = some (Value.slice A_a0 l0.length c_a0) ∧ w'.cell? ⟨w.heap.size + 1, 0, none⟩ = some (Value.slice A_a1 l1.length c_a1)) (first | exact ⟨e_p0, e_p1⟩ | exact ⟨((bel_alloc _ _).cell (by exact K_p0.lt)).trans e_p0, ((bel_alloc _ _).cell (by exact K_p1.lt)).trans e_p1⟩ | exact ⟨(World.cell?_setCell_other _ _ _ _ (by intro e; injection e with q; have := K_p0.lt; simp at q; omega)).trans (((bel_alloc _ _).cell (by exact K_p0.lt)).trans e_p0), (World.cell?_setCell_other _ _ _ _ (by intro e; injection e with q; have := K_p1.lt; simp at q; omega)).trans (((bel_alloc _ _).cell (by exact K_p1.lt)).trans e_p1)⟩ | exact ⟨(World.cell?_setCell_other _ _ _ _ (by intro e; injection e with q; omega)).trans e_p0, (World.cell?_setCell_other _ _ _ _ (by intro e; injection e with q; omega)).trans e_p1⟩ | go_keep) (first
          | ((try go_simp); go_at_call 17; have _t := tok1; clear e_p0 e_p1 e_sb0 e_bx0 e_bx1 e_gb0; go_loud (refine (toEngine_any _ l0 _ (by first | exact S_0.out | exact S_0.out.bel ((Below.refl _ _).drew) | exact S_0.out.bel (bel_alloc _ _) | exact S_0.out.bel ((bel_alloc _ _).drew) | exact S_0.out.bel (((Below.refl _ _).drew).alloc (Nat.le_refl _) _)) len0).mono ?_; rintro e w26 ⟨r_x6, rfl, o_x6, b⟩; replace o_x6 : OwnS w26 w25.heap.size r_x6 (l0) := (by first | exact o_x6 | exact o_x6.lower (by simp)); (try replace K_hb0 := K_hb0.below b K_hb0.lt); (first | (obtain ⟨ab_hb0, hab⟩ : ∃ ab, ab = w25.heap.size := ⟨_, rfl⟩; (first | rw [← hab] | (simp only [World.size_drew]; rw [← hab]) | (rw [show w25.heap.size = w25.drew.heap.size from rfl] at hab; rw [← hab]; rw [show w25.drew.heap.size = w25.heap.size from rfl] at hab)); have K_hb0 : Blk w26 ab_hb0 26 [Value.slice none 0 0] := (by rw [hab]; exact (b.block _ (by first | (rw [World.size_alloc]; exact Nat.lt_succ_self _) | (show w25.heap.size < (w25.alloc _).heap.size; rw [World.size_alloc]; exact Nat.lt_succ_self _))).trans (heap_alloc_new w25 _)); have N_hb0_s0 : Hid (∀ k, (Value.slice A_s0 (joinE l0 l1).length c_s0).ownBlock = some k → k ≠ ab_hb0) := Lib.hid (fun k hk => by have p1 := (O_s0.out.lt k hk).2; omega); have N_hb0_x2 : Hid (∀ k, (Value.slice A_x2 (l0).length c_x2).ownBlock = some k → k ≠ ab_hb0) := Lib.hid (fun k hk => by have p1 := (O_x2.out.lt k hk).2; omega); have N_hb0_x3 : Hid (∀ k, (Value.slice A_x3 (l1).length c_x3).ownBlock = some k → k ≠ ab_hb0) := Lib.hid (fun k hk => by have p1 := (O_x3.out.lt k hk).2; omega); have N_hb0_g0 : Hid (∀ k, (Value.slice A_g0 (joinE l0 l1).length c_g0).ownBlock = some k → k ≠ ab_hb0) := Lib.hid (fun k hk => by have p1 := (O_g0.out.lt k hk).2; omega); have lt_hb0_p0 := K_p0.lt; have lt_hb0_p1 := K_p1.lt; have lt_hb0_sb0 := K_sb0.lt; have lt_hb0_bx0 := K_bx0.lt; have lt_hb0_bx1 := K_bx1.lt; have lt_hb0_gb0 := K_gb0.lt; rw [← hab] at lt_hb0_p0; rw [← hab] at lt_hb0_p1; rw [← hab] at lt_hb0_sb0; rw [← hab] at lt_hb0_bx0; rw [← hab] at lt_hb0_bx1; rw [← hab] at lt_hb0_gb0; have lt_hb0 := HB.out.size; rw [← hab] at lt_hb0; (try have zz_hb0 := zp); (try rw [← hab] at zz_hb0); clear hab) | skip); replace b : Below w25.heap.size w25 w26 := (by first | exact b | exact bel_trans ((Below.refl _ _).drew) b | exact bel_trans (bel_alloc _ _) b | exact bel_trans ((bel_alloc _ _).drew) b | exact bel_trans (((Below.refl _ _).drew).alloc (Nat.le_refl _) _) b); have HBZ := Lib.hid HB.out.size; replace K_p0 := K_p0.below b K_p0.lt; replace K_p1 := K_p1.below b K_p1.lt; replace K_sb0 := K_sb0.below b K_sb0.lt; replace K_bx0 := K_bx0.below b K_bx0.lt; replace K_bx1 := K_bx1.below b K_bx1.lt; replace K_gb0 := K_gb0.below b K_gb0.lt; replace O_s0 := Lib.hid (O_s0.out.bel b); replace O_x2 := Lib.hid (O_x2.out.bel b); replace O_x3 := Lib.hid (O_x3.out.bel b); replace O_g0 := Lib.hid (O_g0.out.bel b); replace S_0 := Lib.hid (S_0.out.bel b); replace S_1 := Lib.hid (S_1.out.bel b); replace HB := Lib.hid (bel_trans HB.out b); clear b; have O_x6 := Lib.hid (o_x6.lower (base' := w.heap.size) HBZ.out); clear HBZ; obtain ⟨A_x6, c_x6, rfl, -, -, -⟩ := o_x6.strs.open_; clear o_x6; obtain ⟨e_p0, -⟩ := K_p0.one; obtain ⟨e_p1, -⟩ := K_p1.one; obtain ⟨e_sb0, -⟩ := K_sb0.one; obtain ⟨e_bx0, -⟩ := K_bx0.one; obtain ⟨e_bx1, -⟩ := K_bx1.one; obtain ⟨e_gb0, -⟩ := K_gb0.one; (try clear e_hb0 f_hb0); (try obtain ⟨e_hb0, f_hb0⟩ := K_hb0.one); clear tok1; (try dsimp only)))
          | ((try go_simp); go_at_call 17; have _t := tok2; clear e_p0 e_p1 e_sb0 e_bx0 e_bx1 e_gb0; go_loud (refine (toEngine_any _ l1 _ (by first | exact S_1.out | exact S_1.out.bel ((Below.refl _ _).drew) | exact S_1.out.bel (bel_alloc _ _) | exact S_1.out.bel ((bel_alloc _ _).drew) | exact S_1.out.bel (((Below.refl _ _).drew).alloc (Nat.le_refl _) _)) len1).mono ?_; rintro e w27 ⟨r_x7, rfl, o_x7, b⟩; replace o_x7 : OwnS w27 w26.heap.size r_x7 (l1) := (by first | exact o_x7 | exact o_x7.lower (by simp)); (try replace K_hb0 := K_hb0.below b K_hb0.lt); (first | (obtain ⟨ab_hb0, hab⟩ : ∃ ab, ab = w26.heap.size := ⟨_, rfl⟩; (first | rw [← hab] | (simp only [World.size_drew]; rw [← hab]) | (rw [show w26.heap.size = w26.drew.heap.size from rfl] at hab; rw [← hab]; rw [show w26.drew.heap.size = w26.heap.size from rfl] at hab)); have K_hb0 : Blk w27 ab_hb0 26 [Value.slice none 0 0] := (by rw [hab]; exact (b.block _ (by first | (rw [World.size_alloc]; exact Nat.lt_succ_self _) | (show w26.heap.size < (w26.alloc _).heap.size; rw [World.size_alloc]; exact Nat.lt_succ_self _))).trans (heap_alloc_new w26 _)); have N_hb0_s0 : Hid (∀ k, (Value.slice A_s0 (joinE l0 l1).length c_s0).ownBlock = some k → k ≠ ab_hb0) := Lib.hid (fun k hk => by have p1 := (O_s0.out.lt k hk).2; omega); have N_hb0_x2 : Hid (∀ k, (Value.slice A_x2 (l0).length c_x2).ownBlock = some k → k ≠ ab_hb0) := Lib.hid (fun k hk => by have p1 := (O_x2.out.lt k hk).2; omega); have N_hb0_x3 : Hid (∀ k, (Value.slice A_x3 (l1).length c_x3).ownBlock = some k → k ≠ ab_hb0) := Lib.hid (fun k hk => by have p1 := (O_x3.out.lt k hk).2; omega); have N_hb0_g0 : Hid (∀ k, (Value.slice A_g0 (joinE l0 l1).length c_g0).ownBlock = some k → k ≠ ab_hb0) := Lib.hid (fun k hk => by have p1 := (O_g0.out.lt k hk).2; omega); have lt_hb0_p0 := K_p0.lt; have lt_hb0_p1 := K_p1.lt; have lt_hb0_sb0 := K_sb0.lt; have lt_hb0_bx0 := K_bx0.lt; have lt_hb0_bx1 := K_bx1.lt; have lt_hb0_gb0 := K_gb0.lt; rw [← hab] at lt_hb0_p0; rw [← hab] at lt_hb0_p1; rw [← hab] at lt_hb0_sb0; rw [← hab] at lt_hb0_bx0; rw [← hab] at lt_hb0_bx1; rw [← hab] at lt_hb0_gb0; have lt_hb0 := HB.out.size; rw [← hab] at lt_hb0; (try have zz_hb0 := zp); (try rw [← hab] at zz_hb0); clear hab) | skip); replace b : Below w26.heap.size w26 w27 := (by first | exact b | exact bel_trans ((Below.refl _ _).drew) b | exact bel_trans (bel_alloc _ _) b | exact bel_trans ((bel_alloc _ _).drew) b | exact bel_trans (((Below.refl _ _).drew).alloc (Nat.le_refl _) _) b); have HBZ := Lib.hid HB.out.size; replace K_p0 := K_p0.below b K_p0.lt; replace K_p1 := K_p1.below b K_p1.lt; replace K_sb0 := K_sb0.below b K_sb0.lt; replace K_bx0 := K_bx0.below b K_bx0.lt; replace K_bx1 := K_bx1.below b K_bx1.lt; replace K_gb0 := K_gb0.below b K_gb0.lt; replace O_s0 := Lib.hid (O_s0.out.bel b); replace O_x2 := Lib.hid (O_x2.out.bel b); replace O_x3 := Lib.hid (O_x3.out.bel b); replace O_g0 := Lib.hid (O_g0.out.bel b); replace O_x6 := Lib.hid (O_x6.out.bel b); replace S_0 := Lib.hid (S_0.out.bel b); replace S_1 := Lib.hid (S_1.out.bel b); replace HB := Lib.hid (bel_trans HB.out b); clear b; have O_x7 := Lib.hid (o_x7.lower (base' := w.heap.size) HBZ.out); clear HBZ; obtain ⟨A_x7, c_x7, rfl, -, -, -⟩ := o_x7.strs.open_; clear o_x7; obtain ⟨e_p0, -⟩ := K_p0.one; obtain ⟨e_p1, -⟩ := K_p1.one; obtain ⟨e_sb0, -⟩ := K_sb0.one; obtain ⟨e_bx0, -⟩ := K_bx0.one; obtain ⟨e_bx1, -⟩ := K_bx1.one; obtain ⟨e_gb0, -⟩ := K_gb0.one; (try clear e_hb0 f_hb0); (try obtain ⟨e_hb0, f_hb0⟩ := K_hb0.one); clear tok2; (try dsimp only)))
          | ((try go_simp); go_at_call 23; have _t := tok3; clear e_p0 e_p1 e_sb0 e_bx0 e_bx1 e_gb0; go_loud ((try have zq_hb0 := K_hb0.lt); refine (implJoin_any _ _ l0 l1 _ (by first | exact O_x6.out.strs | exact O_x6.out.strs.bel ((Below.refl _ _).drew) | exact O_x6.out.strs.bel (bel_alloc _ _) | exact O_x6.out.strs.bel ((bel_alloc _ _).drew) | exact O_x6.out.strs.bel (((Below.refl _ _).drew).alloc (Nat.le_refl _) _)) (by first | exact O_x7.out.strs | exact O_x7.out.strs.bel ((Below.refl _ _).drew) | exact O_x7.out.strs.bel (bel_alloc _ _) | exact O_x7.out.strs.bel ((bel_alloc _ _).drew) | exact O_x7.out.strs.bel (((Below.refl _ _).drew).alloc (Nat.le_refl _) _))).mono ?_; rintro e w28 ⟨r_h0, rfl, o_h0, b⟩; (try have zp : ∀ k, r_h0.ownBlock = some k → k ≠ w27.heap.size := (fun k hk => by have p1 := (o_h0.lt k hk).1; simp at p1; omega)); replace o_h0 : OwnS w28 w27.heap.size r_h0 (joinE l0 l1) := (by first | exact o_h0 | exact o_h0.lower (by simp)); (try replace K_hb0 := K_hb0.below b K_hb0.lt); (first | (obtain ⟨ab_hb0, hab⟩ : ∃ ab, ab = w27.heap.size := ⟨_, rfl⟩; (first | rw [← hab] | (simp only [World.size_drew]; rw [← hab]) | (rw [show w27.heap.size = w27.drew.heap.size from rfl] at hab; rw [← hab]; rw [show w27.drew.heap.size = w27.heap.size from rfl] at hab)); have K_hb0 : Blk w28 ab_hb0 26 [Value.slice none 0 0] := (by rw [hab]; exact (b.block _ (by first | (rw [World.size_alloc]; exact Nat.lt_succ_self _) | (show w27.heap.size < (w27.alloc _).heap.size; rw [World.size_alloc]; exact Nat.lt_succ_self _))).trans (heap_alloc_new w27 _)); have N_hb0_s0 : Hid (∀ k, (Value.slice A_s0 (joinE l0 l1).length c_s0).ownBlock = some k → k ≠ ab_hb0) := Lib.hid (fun k hk => by have p1 := (O_s0.out.lt k hk).2; omega); have N_hb0_x2 : Hid (∀ k, (Value.slice A_x2 (l0).length c_x2).ownBlock = some k → k ≠ ab_hb0) := Lib.hid (fun k hk => by have p1 := (O_x2.out.lt k hk).2; omega); have N_hb0_x3 : Hid (∀ k, (Value.slice A_x3 (l1).length c_x3).ownBlock = some k → k ≠ ab_hb0) := Lib.hid (fun k hk => by have p1 := (O_x3.out.lt k hk).2; omega); have N_hb0_g0 : Hid (∀ k, (Value.slice A_g0 (joinE l0 l1).length c_g0).ownBlock = some k → k ≠ ab_hb0) := Lib.hid (fun k hk => by have p1 := (O_g0.out.lt k hk).2; omega); have lt_hb0_p0 := K_p0.lt; have lt_hb0_p1 := K_p1.lt; have lt_hb0_sb0 := K_sb0.lt; have lt_hb0_bx0 := K_bx0.lt; have lt_hb0_bx1 := K_bx1.lt; have lt_hb0_gb0 := K_gb0.lt; rw [← hab] at lt_hb0_p0; rw [← hab] at lt_hb0_p1; rw [← hab] at lt_hb0_sb0; rw [← hab] at lt_hb0_bx0; rw [← hab] at lt_hb0_bx1; rw [← hab] at lt_hb0_gb0; have lt_hb0 := HB.out.size; rw [← hab] at lt_hb0; (try have zz_hb0 := zp); (try rw [← hab] at zz_hb0); clear hab) | skip); replace b : Below w27.heap.size w27 w28 := (by first | exact b | exact bel_trans ((Below.refl _ _).drew) b | exact bel_trans (bel_alloc _ _) b | exact bel_trans ((bel_alloc _ _).drew) b | exact bel_trans (((Below.refl _ _).drew).alloc (Nat.le_refl _) _) b); (try have zo_hb0 := (show ab_hb0 < w27.heap.size from zq_hb0)); have z_p0 := K_p0.lt; have z_p1 := K_p1.lt; have z_sb0 := K_sb0.lt; have z_bx0 := K_bx0.lt; have z_bx1 := K_bx1.lt; have z_gb0 := K_gb0.lt; have HB0 := HB.out.size; have y_s0 := Lib.hid (fun k hk => (O_s0.out.lt k hk).2); have y_x2 := Lib.hid (fun k hk => (O_x2.out.lt k hk).2); have y_x3 := Lib.hid (fun k hk => (O_x3.out.lt k hk).2); have y_g0 := Lib.hid (fun k hk => (O_g0.out.lt k hk).2); replace K_p0 := K_p0.below b K_p0.lt; replace K_p1 := K_p1.below b K_p1.lt; replace K_sb0 := K_sb0.below b K_sb0.lt; replace K_bx0 := K_bx0.below b K_bx0.lt; replace K_bx1 := K_bx1.below b K_bx1.lt; replace K_gb0 := K_gb0.below b K_gb0.lt; replace O_s0 := Lib.hid (O_s0.out.bel b); replace O_x2 := Lib.hid (O_x2.out.bel b); replace O_x3 := Lib.hid (O_x3.out.bel b); replace O_g0 := Lib.hid (O_g0.out.bel b); replace O_x6 := Lib.hid (O_x6.out.bel b); replace O_x7 := Lib.hid (O_x7.out.bel b); replace S_0 := Lib.hid (S_0.out.bel b); replace S_1 := Lib.hid (S_1.out.bel b); replace HB := Lib.hid (bel_trans HB.out b); clear b; have N_p0_h0 : Hid (∀ k, r_h0.ownBlock = some k → k ≠ w.heap.size) := Lib.hid (fun k hk => by have p1 := (o_h0.lt k hk).1; have p2 := z_p0; omega); have N_p1_h0 : Hid (∀ k, r_h0.ownBlock = some k → k ≠ w.heap.size + 1) := Lib.hid (fun k hk => by have p1 := (o_h0.lt k hk).1; have p2 := z_p1; omega); have N_sb0_h0 : Hid (∀ k, r_h0.ownBlock = some k → k ≠ ab_sb0) := Lib.hid (fun k hk => by have p1 := (o_h0.lt k hk).1; have p2 := z_sb0; omega); have N_bx0_h0 : Hid (∀ k, r_h0.ownBlock = some k → k ≠ w8.heap.size) := Lib.hid (fun k hk => by have p1 := (o_h0.lt k hk).1; have p2 := z_bx0; omega); have N_bx1_h0 : Hid (∀ k, r_h0.ownBlock = some k → k ≠ w10.heap.size) := Lib.hid (fun k hk => by have p1 := (o_h0.lt k hk).1; have p2 := z_bx1; omega); have N_gb0_h0 : Hid (∀ k, r_h0.ownBlock = some k → k ≠ w12.heap.size) := Lib.hid (fun k hk => by have p1 := (o_h0.lt k hk).1; have p2 := z_gb0; omega); have N_s0_h0 : Hid (∀ k, (Value.slice A_s0 (joinE l0 l1).length c_s0).ownBlock = some k → r_h0.ownBlock ≠ some k) := Lib.hid (fun k p q => by have p1 := (y_s0.out k p); have q1 := (o_h0.lt k q).1; omega); have N_x2_h0 : Hid (∀ k, (Value.slice A_x2 (l0).length c_x2).ownBlock = some k → r_h0.ownBlock ≠ some k) := Lib.hid (fun k p q => by have p1 := (y_x2.out k p); have q1 := (o_h0.lt k q).1; omega); have N_x3_h0 : Hid (∀ k, (Value.slice A_x3 (l1).length c_x3).ownBlock = some k → r_h0.ownBlock ≠ some k) := Lib.hid (fun k p q => by have p1 := (y_x3.out k p); have q1 := (o_h0.lt k q).1; omega); have N_g0_h0 : Hid (∀ k, (Value.slice A_g0 (joinE l0 l1).length c_g0).ownBlock = some k → r_h0.ownBlock ≠ some k) := Lib.hid (fun k p q => by have p1 := (y_g0.out k p); have q1 := (o_h0.lt k q).1; omega); have t_h0 : Hid (∀ k, r_h0.ownBlock = some k → w.heap.size ≤ k) := Lib.hid (fun k hk => by have p1 := (o_h0.lt k hk).1; have p2 := HB0; omega); (try have N_hb0_h0 : Hid (∀ k, r_h0.ownBlock = some k → k ≠ ab_hb0) := Lib.hid (by first | exact zz_hb0 | exact (fun k hk => by have p1 := (o_h0.lt k hk).1; have p2 := zq_hb0; omega))); have HBZ := Lib.hid HB0; clear HB0 z_p0 z_p1 z_sb0 z_bx0 z_bx1 z_gb0 y_s0 y_x2 y_x3 y_g0; have O_h0 := Lib.hid (o_h0.lower (base' := w.heap.size) HBZ.out); obtain ⟨A_h0, c_h0, rfl, -, -, -⟩ := o_h0.strs.open_; clear o_h0; clear HBZ; clear O_x6 O_x7; obtain ⟨e_p0, -⟩ := K_p0.one; obtain ⟨e_p1, -⟩ := K_p1.one; obtain ⟨e_sb0, -⟩ := K_sb0.one; obtain ⟨e_bx0, -⟩ := K_bx0.one; obtain ⟨e_bx1, -⟩ := K_bx1.one; obtain ⟨e_gb0, -⟩ := K_gb0.one; (try clear e_hb0 f_hb0); (try obtain ⟨e_hb0, f_hb0⟩ := K_hb0.one); clear tok3; (try dsimp only)))
          | fail)
        all_goals
          clear e_p0 e_p1 e_sb0 e_bx0 e_bx1 e_gb0
          first
          | ((try rw [alloc_set]); have ba : Below w28.heap.size w28 (w28.alloc (.cells #[Value.slice A_h0 (joinE l0 l1).length c_h0] 26)) := bel_alloc w28 _; have u_s0 := Lib.hid (fun k hk => (O_s0.out.lt k hk).2); have u_x2 := Lib.hid (fun k hk => (O_x2.out.lt k hk).2); have u_x3 := Lib.hid (fun k hk => (O_x3.out.lt k hk).2); have u_g0 := Lib.hid (fun k hk => (O_g0.out.lt k hk).2); have u_h0 := Lib.hid (fun k hk => (O_h0.out.lt k hk).2); replace K_p0 := K_p0.below ba K_p0.lt; replace K_p1 := K_p1.below ba K_p1.lt; replace K_sb0 := K_sb0.below ba K_sb0.lt; replace K_bx0 := K_bx0.below ba K_bx0.lt; replace K_bx1 := K_bx1.below ba K_bx1.lt; replace K_gb0 := K_gb0.below ba K_gb0.lt; replace O_s0 := Lib.hid (O_s0.out.bel ba); replace O_x2 := Lib.hid (O_x2.out.bel ba); replace O_x3 := Lib.hid (O_x3.out.bel ba); replace O_g0 := Lib.hid (O_g0.out.bel ba); replace O_h0 := Lib.hid (O_h0.out.bel ba); replace S_0 := Lib.hid (S_0.out.bel ba); replace S_1 := Lib.hid (S_1.out.bel ba); replace HB := Lib.hid (bel_trans HB.out ba); clear ba; have K_hb0 := Blk.new' w28 26 (Value.slice A_h0 (joinE l0 l1).length c_h0) _ rfl; have N_hb0_s0 : Hid (∀ k, (Value.slice A_s0 (joinE l0 l1).length c_s0).ownBlock = some k → k ≠ w28.heap.size) := Lib.hid (fun k hk => by have p1 := u_s0.out k hk; omega); have N_hb0_x2 : Hid (∀ k, (Value.slice A_x2 (l0).length c_x2).ownBlock = some k → k ≠ w28.heap.size) := Lib.hid (fun k hk => by have p1 := u_x2.out k hk; omega); have N_hb0_x3 : Hid (∀ k, (Value.slice A_x3 (l1).length c_x3).ownBlock = some k → k ≠ w28.heap.size) := Lib.hid (fun k hk => by have p1 := u_x3.out k hk; omega); have N_hb0_g0 : Hid (∀ k, (Value.slice A_g0 (joinE l0 l1).length c_g0).ownBlock = some k → k ≠ w28.heap.size) := Lib.hid (fun k hk => by have p1 := u_g0.out k hk; omega); have N_hb0_h0 : Hid (∀ k, (Value.slice A_h0 (joinE l0 l1).length c_h0).ownBlock = some k → k ≠ w28.heap.size) := Lib.hid (fun k hk => by have p1 := u_h0.out k hk; omega); clear u_s0 u_x2 u_x3 u_g0 u_h0; generalize hW : w28.alloc (.cells #[Value.slice A_h0 (joinE l0 l1).length c_h0] 26) = WW at *; clear hW; obtain ⟨ab_hb0, hab⟩ : ∃ ab, ab = w28.heap.size := ⟨_, rfl⟩; rw [← hab] at K_hb0 N_hb0_s0 N_hb0_x2 N_hb0_x3 N_hb0_g0 N_hb0_h0 ⊢; clear hab)
          | (have g : w28.grownBy (w28.setCell ⟨ab_hb0, 0, none⟩ (Value.slice A_h0 (joinE l0 l1).length c_h0)) (some ab_hb0) := only_setCell (World.grownBy.refl w28 (some ab_hb0)) (.inl rfl) _; replace K_p0 := K_p0.grown g (fun e => by injection e with e; omega); replace K_p1 := K_p1.grown g (fun e => by injection e with e; omega); replace K_sb0 := K_sb0.grown g (fun e => by injection e with e; omega); replace K_bx0 := K_bx0.grown g (fun e => by injection e with e; omega); replace K_bx1 := K_bx1.grown g (fun e => by injection e with e; omega); replace K_gb0 := K_gb0.grown g (fun e => by injection e with e; omega); replace O_s0 := Lib.hid (O_s0.out.awayRow g N_hb0_s0.out); replace O_x2 := Lib.hid (O_x2.out.awayRow g N_hb0_x2.out); replace O_x3 := Lib.hid (O_x3.out.awayRow g N_hb0_x3.out); replace O_g0 := Lib.hid (O_g0.out.awayRow g N_hb0_g0.out); replace O_h0 := Lib.hid (O_h0.out.awayRow g N_hb0_h0.out); replace S_0 := Lib.hid (S_0.out.far g (B := w.heap.size) (fun k p => by injection p with p; omega) J_0.out); replace S_1 := Lib.hid (S_1.out.far g (B := w.heap.size) (fun k p => by injection p with p; omega) J_1.out); replace HB := Lib.hid (HB.out.setCell (p := ⟨ab_hb0, 0, none⟩) (by show w.heap.size ≤ ab_hb0; omega) (Value.slice A_h0 (joinE l0 l1).length c_h0)); replace K_hb0 := K_hb0.set_ 0 (Value.slice A_h0 (joinE l0 l1).length c_h0); replace K_hb0 : Blk _ ab_hb0 26 [Value.slice A_h0 (joinE l0 l1).length c_h0] := K_hb0; clear g; generalize hW : w28.setCell ⟨ab_hb0, 0, none⟩ (Value.slice A_h0 (joinE l0 l1).length c_h0) = WW at *; clear hW)
          try clear lt_hb0
          try clear e_hb0
          try clear f_hb0
          try clear zz_hb0
          try clear zp
          try clear zq_hb0
          try clear zo_hb0
          try clear lt_hb0_p0
          try clear lt_hb0_p1
          try clear lt_hb0_sb0
          try clear lt_hb0_bx0
          try clear lt_hb0_bx1
          try clear lt_hb0_gb0
          first
          | (obtain ⟨w29, hW⟩ : ∃ W', W' = WW.drew := ⟨_, rfl⟩; rw [← hW]; have b : Below WW.heap.size WW w29 := (by rw [hW]; exact (Below.refl _ _).drew); clear hW)
          | (obtain ⟨w29, hW⟩ : ∃ W', W' = WW := ⟨_, rfl⟩; rw [← hW]; have b : Below WW.heap.size WW w29 := (by rw [hW]; exact Below.refl _ _); clear hW)
          replace K_p0 := K_p0.below b K_p0.lt
          replace K_p1 := K_p1.below b K_p1.lt
          replace K_sb0 := K_sb0.below b K_sb0.lt
          replace K_bx0 := K_bx0.below b K_bx0.lt
          replace K_bx1 := K_bx1.below b K_bx1.lt
          replace K_gb0 := K_gb0.below b K_gb0.lt
          replace K_hb0 := K_hb0.below b K_hb0.lt
          replace O_s0 := Lib.hid (O_s0.out.bel b)
          replace O_x2 := Lib.hid (O_x2.out.bel b)
          replace O_x3 := Lib.hid (O_x3.out.bel b)
          replace O_g0 := Lib.hid (O_g0.out.bel b)
          replace O_h0 := Lib.hid (O_h0.out.bel b)
          replace S_0 := Lib.hid (S_0.out.bel b)
          replace S_1 := Lib.hid (S_1.out.bel b)
          replace HB := Lib.hid (bel_trans HB.out b)
          clear b
          revert N_x3_h0; revert N_x2_h0; revert N_s0_h0; revert N_g0_h0; revert t_h0; revert N_hb0_h0; revert N_gb0_h0; revert N_bx1_h0; revert N_bx0_h0; revert N_sb0_h0; revert N_p1_h0; revert N_p0_h0; revert N_hb0_g0; revert N_hb0_x3; revert N_hb0_x2; revert N_hb0_s0; revert HB; revert S_1; revert S_0; revert O_h0; revert O_g0; revert O_x3; revert O_x2; revert O_s0; revert K_hb0; revert K_gb0; revert K_bx1; revert K_bx0; revert K_sb0; revert K_p1; revert K_p0; revert c_h0; revert A_h0; revert c_x7; revert A_x7; revert c_x6; revert A_x6; revert w29; revert ab_hb0
          exact key4.out
      intro ab_hb0 w29 A_x6 c_x6 A_x7 c_x7 A_h0 c_h0
      intro K_p0 K_p1 K_sb0 K_bx0 K_bx1 K_gb0 K_hb0 O_s0 O_x2 O_x3 O_g0 O_h0 S_0 S_1 HB N_hb0_s0 N_hb0_x2 N_hb0_x3 N_hb0_g0 N_p0_h0 N_p1_h0 N_sb0_h0 N_bx0_h0 N_bx1_h0 N_gb0_h0 N_hb0_h0 t_h0 N_g0_h0 N_s0_h0 N_x2_h0 N_x3_h0
      obtain ⟨e_p0, -⟩ := K_p0.one
      obtain ⟨e_p1, -⟩ := K_p1.one
      obtain ⟨e_sb0, -⟩ := K_sb0.one
      obtain ⟨e_bx0, -⟩ := K_bx0.one
      obtain ⟨e_bx1, -⟩ := K_bx1.one
      obtain ⟨e_gb0, -⟩ := K_gb0.one
      obtain ⟨e_hb0, -⟩ := K_hb0.one
      go_wp2_with fail
      clear e_p0 e_p1 e_sb0 e_bx0 e_bx1 e_gb0 e_hb0
      refine (eqEngine_any _ _ _ _ _ O_h0.out.strs O_s0.out.strs).mono ?_
      rw [he_r0]
      rintro e w30 ⟨rfl, b⟩
      replace K_p0 := K_p0.below b K_p0.lt
      replace K_p1 := K_p1.below b K_p1.lt
      replace K_sb0 := K_sb0.below b K_sb0.lt
      replace K_bx0 := K_bx0.below b K_bx0.lt
      replace K_bx1 := K_bx1.below b K_bx1.lt
      replace K_gb0 := K_gb0.below b K_gb0.lt
      replace K_hb0 := K_hb0.below b K_hb0.lt
      replace O_s0 := Lib.hid (O_s0.out.bel b)
      replace O_x2 := Lib.hid (O_x2.out.bel b)
      replace O_x3 := Lib.hid (O_x3.out.bel b)
      replace O_g0 := Lib.hid (O_g0.out.bel b)
      replace O_h0 := Lib.hid (O_h0.out.bel b)
      replace S_0 := Lib.hid (S_0.out.bel b)
      replace S_1 := Lib.hid (S_1.out.bel b)
      replace HB := Lib.hid (bel_trans HB.out b)
      clear b
      obtain ⟨e_p0, -⟩ := K_p0.one
      obtain ⟨e_p1, -⟩ := K_p1.one
      obtain ⟨e_sb0, -⟩ := K_sb0.one
      obtain ⟨e_bx0, -⟩ := K_bx0.one
      obtain ⟨e_bx1, -⟩ := K_bx1.one
      obtain ⟨e_gb0, -⟩ := K_gb0.one
      obtain ⟨e_hb0, -⟩ := K_hb0.one
      go_wp2_with fail
      clear e_p0 e_p1 e_sb0 e_bx0 e_bx1 e_gb0 e_hb0
      refine (heldEngine_int _ (joinE l0 l1).length (1) _ O_g0.out.strs (by omega) (by omega)).mono ?_
      rintro e w31 ⟨rfl, b⟩
      replace K_p0 := K_p0.below b K_p0.lt
      replace K_p1 := K_p1.below b K_p1.lt
      replace K_sb0 := K_sb0.below b K_sb0.lt
      replace K_bx0 := K_bx0.below b K_bx0.lt
      replace K_bx1 := K_bx1.below b K_bx1.lt
      replace K_gb0 := K_gb0.below b K_gb0.lt
      replace K_hb0 := K_hb0.below b K_hb0.lt
      replace O_s0 := Lib.hid (O_s0.out.bel b)
      replace O_x2 := Lib.hid (O_x2.out.bel b)
      replace O_x3 := Lib.hid (O_x3.out.bel b)
      replace O_g0 := Lib.hid (O_g0.out.bel b)
      replace O_h0 := Lib.hid (O_h0.out.bel b)
      replace S_0 := Lib.hid (S_0.out.bel b)
      replace S_1 := Lib.hid (S_1.out.bel b)
      replace HB := Lib.hid (bel_trans HB.out b)
      clear b
      go_wp2
      go_ret
      exact ⟨rfl, HB.out⟩

end Go.Proofs.Ytgndnkpenmcafaa
