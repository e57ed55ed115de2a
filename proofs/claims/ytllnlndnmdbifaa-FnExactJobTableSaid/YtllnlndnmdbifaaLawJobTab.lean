/-
  The law FnExactJobTable, walked (made by law_jobtab.py).
-/
import Derived.Test.YtllnlndnmdbifaaJobTab
import Derived.Test.YtllnlndnmdbifaaEngBox
namespace Go.Proofs.Ytllnlndnmdbifaa
open Go.RowKit
set_option linter.unusedVariables false
set_option linter.unusedSimpArgs false
set_option maxRecDepth 100000
attribute [local go_sem ↓] Go.wp_at_zero Go.wp_at_succ

theorem Blk.newL (w : World) (t : TypeId) (cs : List Value) (g : Nat) (hg : g = w.heap.size) : Blk (w.alloc (.cells cs.toArray t)) g t cs := by subst hg; exact Blk.new w t cs

set_option maxHeartbeats 8000000 in
theorem lawJobTable (v : Value) (j : JobD) (w : World) (hv : Ints w v j.poly) (hj : j.In) :
    Calls Try.prog 10 #[jobV v j] w fun e w' => e = .returned (.bool true) ∧ Below w.heap.size w w' := by
  have S_0 := Lib.hid hv
  have J_0 := Lib.hid hv.low
  have HJ := Lib.hid hj
  obtain ⟨A_a0, c_a0, rfl, -, -, -⟩ := hv.open_
  clear hv hj
  have he_r0 := eqL_self (jtL j)
  have hR0 : (jtL j).length ≤ 1048576 := by have := jtL_len j; omega
  have HB := Lib.hid (Below.refl w.heap.size w)
  unfold jobV
  go_enter Try.func10, Try.ntmps10
  have ba : Below w.heap.size w (w.alloc (.cells #[Value.slice A_a0 j.poly.length c_a0, .int .i64 j.fr, .int .i64 j.ct, .int .i64 j.wd, .int .i64 j.dg, .int .i64 j.wy, .int .i64 j.rw, .int .i64 j.ac, .int .i64 j.wi] 56)) := bel_alloc w _
  replace S_0 := Lib.hid (S_0.out.bel ba)
  replace HB := Lib.hid (bel_trans HB.out ba)
  clear ba
  have K_p0 := Blk.newL w 56 [Value.slice A_a0 j.poly.length c_a0, .int .i64 j.fr, .int .i64 j.ct, .int .i64 j.wd, .int .i64 j.dg, .int .i64 j.wy, .int .i64 j.rw, .int .i64 j.ac, .int .i64 j.wi] _ rfl
  obtain ⟨e_p0, e_p0_1, e_p0_2, e_p0_3, e_p0_4, e_p0_5, e_p0_6, e_p0_7, e_p0_8⟩ := Blk.job (j := j) K_p0
  go_wp2_with fail
  clear e_p0 e_p0_1 e_p0_2 e_p0_3 e_p0_4 e_p0_5 e_p0_6 e_p0_7 e_p0_8
  generalize hW : w.alloc (.cells #[Value.slice A_a0 j.poly.length c_a0, .int .i64 j.fr, .int .i64 j.ct, .int .i64 j.wd, .int .i64 j.dg, .int .i64 j.wy, .int .i64 j.rw, .int .i64 j.ac, .int .i64 j.wi] 56) = w1 at *
  clear hW
  refine (szJob_any _ j 1048576 _ S_0.out (by omega) (by omega)).mono ?_
  rintro e w2 ⟨lf0, rfl, hr0, b⟩
  replace K_p0 := K_p0.below b K_p0.lt
  replace S_0 := Lib.hid (S_0.out.bel b)
  replace HB := Lib.hid (bel_trans HB.out b)
  clear b
  rcases hr0 with rfl | ⟨q0_0, q1_0⟩
  · go_wp2
    go_ret
    exact ⟨rfl, HB.out⟩
  · skip
    have len0 : j.poly.length ≤ 1048576 := by omega
    obtain ⟨e_p0, e_p0_1, e_p0_2, e_p0_3, e_p0_4, e_p0_5, e_p0_6, e_p0_7, e_p0_8⟩ := Blk.job (j := j) K_p0
    go_wp2_with fail
    clear e_p0 e_p0_1 e_p0_2 e_p0_3 e_p0_4 e_p0_5 e_p0_6 e_p0_7 e_p0_8
    refine (toJob_any _ j _ S_0.out len0).mono ?_
    rintro e w3 ⟨r_x0, rfl, o_x0, b⟩
    have HBZ := Lib.hid HB.out.size
    replace K_p0 := K_p0.below b K_p0.lt
    replace S_0 := Lib.hid (S_0.out.bel b)
    replace HB := Lib.hid (bel_trans HB.out b)
    clear b
    have O_x0 := Lib.hid (o_x0.lower (base' := w.heap.size) HBZ.out)
    clear HBZ
    obtain ⟨A_x0, c_x0, rfl, -, -, -⟩ := o_x0.ints.open_
    clear o_x0
    unfold jobV
    obtain ⟨e_p0, e_p0_1, e_p0_2, e_p0_3, e_p0_4, e_p0_5, e_p0_6, e_p0_7, e_p0_8⟩ := Blk.job (j := j) K_p0
    go_wp2_with fail
    clear e_p0 e_p0_1 e_p0_2 e_p0_3 e_p0_4 e_p0_5 e_p0_6 e_p0_7 e_p0_8
    refine (specJT_any _ j _ O_x0.out.ints HJ.out).mono ?_
    rintro e w4 ⟨r_s0, rfl, o_s0, b⟩
    have z_p0 := K_p0.lt
    have HB0 := HB.out.size
    replace K_p0 := K_p0.below b K_p0.lt
    replace O_x0 := Lib.hid (O_x0.out.bel b)
    replace S_0 := Lib.hid (S_0.out.bel b)
    replace HB := Lib.hid (bel_trans HB.out b)
    clear b
    have N_p0_s0 : Hid (∀ k, r_s0.ownBlock = some k → k ≠ w.heap.size) := Lib.hid (fun k hk => by have p1 := (o_s0.lt k hk).1; have p2 := z_p0; omega)
    have t_s0 : Hid (∀ k, r_s0.ownBlock = some k → w.heap.size ≤ k) := Lib.hid (fun k hk => by have p1 := (o_s0.lt k hk).1; have p2 := HB0; omega)
    have HBZ := Lib.hid HB0
    clear HB0 z_p0 
    have O_s0 := Lib.hid (o_s0.lower (base' := w.heap.size) HBZ.out)
    obtain ⟨A_s0, c_s0, rfl, -, -, -⟩ := o_s0.ints.open_
    clear o_s0
    clear HBZ
    clear O_x0
    obtain ⟨e_p0, e_p0_1, e_p0_2, e_p0_3, e_p0_4, e_p0_5, e_p0_6, e_p0_7, e_p0_8⟩ := Blk.job (j := j) K_p0
    go_wp2_with fail
    clear e_p0 e_p0_1 e_p0_2 e_p0_3 e_p0_4 e_p0_5 e_p0_6 e_p0_7 e_p0_8
    refine (toJob_any _ j _ S_0.out len0).mono ?_
    rintro e w5 ⟨r_x1, rfl, o_x1, b⟩
    have z_p0 := K_p0.lt
    have HB0 := HB.out.size
    have y_s0 := Lib.hid (fun k hk => (O_s0.out.lt k hk).2)
    replace K_p0 := K_p0.below b K_p0.lt
    replace O_s0 := Lib.hid (O_s0.out.bel b)
    replace S_0 := Lib.hid (S_0.out.bel b)
    replace HB := Lib.hid (bel_trans HB.out b)
    clear b
    have N_p0_x1 : Hid (∀ k, r_x1.ownBlock = some k → k ≠ w.heap.size) := Lib.hid (fun k hk => by have p1 := (o_x1.lt k hk).1; have p2 := z_p0; omega)
    have N_s0_x1 : Hid (∀ k, (Value.slice A_s0 (jtL j).length c_s0).ownBlock = some k → r_x1.ownBlock ≠ some k) := Lib.hid (fun k p q => by have p1 := (y_s0.out k p); have q1 := (o_x1.lt k q).1; omega)
    have t_x1 : Hid (∀ k, r_x1.ownBlock = some k → w.heap.size ≤ k) := Lib.hid (fun k hk => by have p1 := (o_x1.lt k hk).1; have p2 := HB0; omega)
    have HBZ := Lib.hid HB0
    clear HB0 z_p0 y_s0
    have O_x1 := Lib.hid (o_x1.lower (base' := w.heap.size) HBZ.out)
    obtain ⟨A_x1, c_x1, rfl, -, -, -⟩ := o_x1.ints.open_
    clear o_x1
    clear HBZ
    unfold jobV
    have ba : Below w5.heap.size w5 (w5.alloc (.cells #[Value.slice A_x1 (j.poly).length c_x1, .int .i64 j.fr, .int .i64 j.ct, .int .i64 j.wd, .int .i64 j.dg, .int .i64 j.wy, .int .i64 j.rw, .int .i64 j.ac, .int .i64 j.wi] 61)) := bel_alloc w5 _
    have u_s0 := Lib.hid (fun k hk => (O_s0.out.lt k hk).2)
    have u_x1 := Lib.hid (fun k hk => (O_x1.out.lt k hk).2)
    replace K_p0 := K_p0.below ba K_p0.lt
    replace O_s0 := Lib.hid (O_s0.out.bel ba)
    replace O_x1 := Lib.hid (O_x1.out.bel ba)
    replace S_0 := Lib.hid (S_0.out.bel ba)
    replace HB := Lib.hid (bel_trans HB.out ba)
    clear ba
    have K_bx0 := Blk.newL w5 61 [Value.slice A_x1 (j.poly).length c_x1, .int .i64 j.fr, .int .i64 j.ct, .int .i64 j.wd, .int .i64 j.dg, .int .i64 j.wy, .int .i64 j.rw, .int .i64 j.ac, .int .i64 j.wi] _ rfl
    have N_bx0_s0 : Hid (∀ k, (Value.slice A_s0 (jtL j).length c_s0).ownBlock = some k → k ≠ w5.heap.size) := Lib.hid (fun k hk => by have p1 := u_s0.out k hk; omega)
    have N_bx0_x1 : Hid (∀ k, (Value.slice A_x1 (j.poly).length c_x1).ownBlock = some k → k ≠ w5.heap.size) := Lib.hid (fun k hk => by have p1 := u_x1.out k hk; omega)
    clear u_s0 u_x1
    obtain ⟨e_p0, e_p0_1, e_p0_2, e_p0_3, e_p0_4, e_p0_5, e_p0_6, e_p0_7, e_p0_8⟩ := Blk.job (j := j) K_p0
    obtain ⟨e_bx0, e_bx0_1, e_bx0_2, e_bx0_3, e_bx0_4, e_bx0_5, e_bx0_6, e_bx0_7, e_bx0_8⟩ := Blk.job (j := j) K_bx0
    go_wp2_with fail
    clear e_p0 e_p0_1 e_p0_2 e_p0_3 e_p0_4 e_p0_5 e_p0_6 e_p0_7 e_p0_8
    clear e_bx0 e_bx0_1 e_bx0_2 e_bx0_3 e_bx0_4 e_bx0_5 e_bx0_6 e_bx0_7 e_bx0_8
    generalize hW : w5.alloc (.cells #[Value.slice A_x1 (j.poly).length c_x1, .int .i64 j.fr, .int .i64 j.ct, .int .i64 j.wd, .int .i64 j.dg, .int .i64 j.wy, .int .i64 j.rw, .int .i64 j.ac, .int .i64 j.wi] 61) = w6 at *
    clear hW
    refine (implJT_any _ j _ O_x1.out.ints HJ.out).mono ?_
    rintro e w7 ⟨r_g0, rfl, o_g0, b⟩
    have z_p0 := K_p0.lt
    have z_bx0 := K_bx0.lt
    have HB0 := HB.out.size
    have y_s0 := Lib.hid (fun k hk => (O_s0.out.lt k hk).2)
    have y_x1 := Lib.hid (fun k hk => (O_x1.out.lt k hk).2)
    replace K_p0 := K_p0.below b K_p0.lt
    replace K_bx0 := K_bx0.below b K_bx0.lt
    replace O_s0 := Lib.hid (O_s0.out.bel b)
    replace O_x1 := Lib.hid (O_x1.out.bel b)
    replace S_0 := Lib.hid (S_0.out.bel b)
    replace HB := Lib.hid (bel_trans HB.out b)
    clear b
    have N_p0_g0 : Hid (∀ k, r_g0.ownBlock = some k → k ≠ w.heap.size) := Lib.hid (fun k hk => by have p1 := (o_g0.lt k hk).1; have p2 := z_p0; omega)
    have N_bx0_g0 : Hid (∀ k, r_g0.ownBlock = some k → k ≠ w5.heap.size) := Lib.hid (fun k hk => by have p1 := (o_g0.lt k hk).1; have p2 := z_bx0; omega)
    have N_s0_g0 : Hid (∀ k, (Value.slice A_s0 (jtL j).length c_s0).ownBlock = some k → r_g0.ownBlock ≠ some k) := Lib.hid (fun k p q => by have p1 := (y_s0.out k p); have q1 := (o_g0.lt k q).1; omega)
    have N_x1_g0 : Hid (∀ k, (Value.slice A_x1 (j.poly).length c_x1).ownBlock = some k → r_g0.ownBlock ≠ some k) := Lib.hid (fun k p q => by have p1 := (y_x1.out k p); have q1 := (o_g0.lt k q).1; omega)
    have t_g0 : Hid (∀ k, r_g0.ownBlock = some k → w.heap.size ≤ k) := Lib.hid (fun k hk => by have p1 := (o_g0.lt k hk).1; have p2 := HB0; omega)
    have HBZ := Lib.hid HB0
    clear HB0 z_p0 z_bx0 y_s0 y_x1
    have O_g0 := Lib.hid (o_g0.lower (base' := w.heap.size) HBZ.out)
    obtain ⟨A_g0, c_g0, rfl, -, -, -⟩ := o_g0.ints.open_
    clear o_g0
    clear HBZ
    obtain ⟨e_p0, e_p0_1, e_p0_2, e_p0_3, e_p0_4, e_p0_5, e_p0_6, e_p0_7, e_p0_8⟩ := Blk.job (j := j) K_p0
    obtain ⟨e_bx0, e_bx0_1, e_bx0_2, e_bx0_3, e_bx0_4, e_bx0_5, e_bx0_6, e_bx0_7, e_bx0_8⟩ := Blk.job (j := j) K_bx0
    go_wp2_with fail
    clear e_p0 e_p0_1 e_p0_2 e_p0_3 e_p0_4 e_p0_5 e_p0_6 e_p0_7 e_p0_8
    clear e_bx0 e_bx0_1 e_bx0_2 e_bx0_3 e_bx0_4 e_bx0_5 e_bx0_6 e_bx0_7 e_bx0_8
    refine (eqIntS_any _ _ _ _ _ O_g0.out.ints O_s0.out.ints).mono ?_
    rw [he_r0]
    rintro e w8 ⟨rfl, b⟩
    replace K_p0 := K_p0.below b K_p0.lt
    replace K_bx0 := K_bx0.below b K_bx0.lt
    replace O_s0 := Lib.hid (O_s0.out.bel b)
    replace O_x1 := Lib.hid (O_x1.out.bel b)
    replace O_g0 := Lib.hid (O_g0.out.bel b)
    replace S_0 := Lib.hid (S_0.out.bel b)
    replace HB := Lib.hid (bel_trans HB.out b)
    clear b
    go_wp2_with fail
    obtain ⟨e_p0, e_p0_1, e_p0_2, e_p0_3, e_p0_4, e_p0_5, e_p0_6, e_p0_7, e_p0_8⟩ := Blk.job (j := j) K_p0
    obtain ⟨e_bx0, e_bx0_1, e_bx0_2, e_bx0_3, e_bx0_4, e_bx0_5, e_bx0_6, e_bx0_7, e_bx0_8⟩ := Blk.job (j := j) K_bx0
    have hl_p0 := K_p0.lt
    have hl_bx0 := K_bx0.lt
    have tok1 : True := trivial
    have tok2 : True := trivial
    go_region_held3 (fun w' => (w'.cell? ⟨w.heap.size, 0, none⟩ = some (Value.slice A_a0 j.poly.length c_a0) ∧ w'.cell? ⟨w.heap.size, 1, none⟩ = some (.int .i64 j.fr) ∧ w'.cell? ⟨w.heap.size, 2, none⟩ = some (.int .i64 j.ct) ∧ w'.cell? ⟨w.heap.size, 3, none⟩ = some (.int .i64 j.wd) ∧ w'.cell? ⟨w.heap.size, 4, none⟩ = some (.int .i64 j.dg) ∧ w'.cell? ⟨w.heap.size, 5, none⟩ = some (.int .i64 j.wy) ∧ w'.cell? ⟨w.heap.size, 6, none⟩ = some (.int .i64 j.rw) ∧ w'.cell? ⟨w.heap.size, 7, none⟩ = some (.int .i64 j.ac) ∧ w'.cell? ⟨w.heap.size, 8, none⟩ = some (.int .i64 j.wi)) ∧ (w'.cell? ⟨w5.heap.size, 0, none⟩ = some (Value.slice A_x1 (j.poly).length c_x1) ∧ w'.cell? ⟨w5.heap.size, 1, none⟩ = some (.int .i64 j.fr) ∧ w'.cell? ⟨w5.heap.size, 2, none⟩ = some (.int .i64 j.ct) ∧ w'.cell? ⟨w5.heap.size, 3, none⟩ = some (.int .i64 j.wd) ∧ w'.cell? ⟨w5.heap.size, 4, none⟩ = some (.int .i64 j.dg) ∧ w'.cell? ⟨w5.heap.size, 5, none⟩ = some (.int .i64 j.wy) ∧ w'.cell? ⟨w5.heap.size, 6, none⟩ = some (.int .i64 j.rw) ∧ w'.cell? ⟨w5.heap.size, 7, none⟩ = some (.int .i64 j.ac) ∧ w'.cell? ⟨w5.heap.size, 8, none⟩ = some (.int .i64 j.wi))) (first | exact ⟨Blk.job (j := j) K_p0, Blk.job (j := j) K_bx0⟩ | exact ⟨Blk.job (j := j) K8_p0, Blk.job (j := j) K8_bx0⟩ | exact ⟨Blk.job (j := j) K9_p0, Blk.job (j := j) K9_bx0⟩ | go_keep) (first
      | ((try go_simp); go_at_call 41; have _t := tok1; go_loud (refine (toJob_any (Value.slice A_a0 j.poly.length c_a0) j _ (by first | exact S_0.out | exact S_0.out.bel ((Below.refl _ _).drew)) len0).mono ?_; rintro e w_8 ⟨r_y, rfl, o_y, b⟩; replace b : Below w8.heap.size w8 w_8 := (by first | exact b | exact bel_trans ((Below.refl _ _).drew) b); have B8 := Lib.hid b; have K8_p0 := K_p0.below b hl_p0; have K8_bx0 := K_bx0.below b hl_bx0; have O_y := Lib.hid o_y.ints; obtain ⟨A_y, c_y, rfl, -, -, -⟩ := o_y.ints.open_; clear tok1 b o_y; unfold jobV; (try dsimp only)))
      | ((try go_simp); go_at_call 43; have _t := tok2; go_loud (refine (eqJob_any (Value.slice A_x1 (j.poly).length c_x1) (.slice A_y j.poly.length c_y) j _ (by first | exact (O_x1.out.ints.bel B8.out) | exact (O_x1.out.ints.bel B8.out).bel ((Below.refl _ _).drew)) (by first | exact O_y.out | exact O_y.out.bel ((Below.refl _ _).drew))).mono ?_; rintro e w_9 ⟨rfl, b⟩; replace b : Below w8.heap.size w8 w_9 := (by first | exact bel_trans B8.out b | exact bel_trans B8.out (bel_trans ((Below.refl _ _).drew) b)); have B9 := Lib.hid b; have K9_p0 := K_p0.below b hl_p0; have K9_bx0 := K_bx0.below b hl_bx0; clear tok2 b; (try dsimp only)))
      | fail)
    all_goals
      clear e_p0 e_p0_1 e_p0_2 e_p0_3 e_p0_4 e_p0_5 e_p0_6 e_p0_7 e_p0_8
      clear e_bx0 e_bx0_1 e_bx0_2 e_bx0_3 e_bx0_4 e_bx0_5 e_bx0_6 e_bx0_7 e_bx0_8
      have b := B9.out
      clear K8_p0 K8_bx0 K9_p0 K9_bx0 O_y B8
      replace K_p0 := K_p0.below b K_p0.lt
      replace K_bx0 := K_bx0.below b K_bx0.lt
      replace O_s0 := Lib.hid (O_s0.out.bel b)
      replace O_x1 := Lib.hid (O_x1.out.bel b)
      replace O_g0 := Lib.hid (O_g0.out.bel b)
      replace S_0 := Lib.hid (S_0.out.bel b)
      replace HB := Lib.hid (bel_trans HB.out b)
      clear b
      obtain ⟨e_p0, e_p0_1, e_p0_2, e_p0_3, e_p0_4, e_p0_5, e_p0_6, e_p0_7, e_p0_8⟩ := Blk.job (j := j) K_p0
      obtain ⟨e_bx0, e_bx0_1, e_bx0_2, e_bx0_3, e_bx0_4, e_bx0_5, e_bx0_6, e_bx0_7, e_bx0_8⟩ := Blk.job (j := j) K_bx0
      go_wp2_with fail
      clear e_p0 e_p0_1 e_p0_2 e_p0_3 e_p0_4 e_p0_5 e_p0_6 e_p0_7 e_p0_8
      clear e_bx0 e_bx0_1 e_bx0_2 e_bx0_3 e_bx0_4 e_bx0_5 e_bx0_6 e_bx0_7 e_bx0_8
      refine (markJob_any _ j 1 _ _ O_x1.out (by omega) (by omega)).mono ?_
      rintro e w9 ⟨rfl, g, o_x1⟩
      replace K_p0 := K_p0.grown g (fun e => N_p0_x1.out _ e.symm rfl)
      replace K_bx0 := K_bx0.grown g (fun e => N_bx0_x1.out _ e.symm rfl)
      replace O_s0 := Lib.hid (O_s0.out.apart g N_s0_x1.out)
      replace O_g0 := Lib.hid (O_g0.out.apart g (fun k p q => N_x1_g0.out k q p))
      replace S_0 := Lib.hid (S_0.out.far g (B := w.heap.size) (fun k p => t_x1.out k p) J_0.out)
      replace HB := Lib.hid (mark_bel HB.out g (fun k p => t_x1.out k p))
      clear g
      replace O_x1 := Lib.hid o_x1
      clear o_x1
      obtain ⟨e_p0, e_p0_1, e_p0_2, e_p0_3, e_p0_4, e_p0_5, e_p0_6, e_p0_7, e_p0_8⟩ := Blk.job (j := j) K_p0
      obtain ⟨e_bx0, e_bx0_1, e_bx0_2, e_bx0_3, e_bx0_4, e_bx0_5, e_bx0_6, e_bx0_7, e_bx0_8⟩ := Blk.job (j := j) K_bx0
      go_wp2_with fail
      clear e_p0 e_p0_1 e_p0_2 e_p0_3 e_p0_4 e_p0_5 e_p0_6 e_p0_7 e_p0_8
      clear e_bx0 e_bx0_1 e_bx0_2 e_bx0_3 e_bx0_4 e_bx0_5 e_bx0_6 e_bx0_7 e_bx0_8
      refine (eqIntS_any _ _ _ _ _ O_g0.out.ints O_s0.out.ints).mono ?_
      rw [he_r0]
      rintro e w10 ⟨rfl, b⟩
      replace K_p0 := K_p0.below b K_p0.lt
      replace K_bx0 := K_bx0.below b K_bx0.lt
      replace O_s0 := Lib.hid (O_s0.out.bel b)
      replace O_x1 := Lib.hid (O_x1.out.bel b)
      replace O_g0 := Lib.hid (O_g0.out.bel b)
      replace S_0 := Lib.hid (S_0.out.bel b)
      replace HB := Lib.hid (bel_trans HB.out b)
      clear b
      obtain ⟨e_p0, e_p0_1, e_p0_2, e_p0_3, e_p0_4, e_p0_5, e_p0_6, e_p0_7, e_p0_8⟩ := Blk.job (j := j) K_p0
      obtain ⟨e_bx0, e_bx0_1, e_bx0_2, e_bx0_3, e_bx0_4, e_bx0_5, e_bx0_6, e_bx0_7, e_bx0_8⟩ := Blk.job (j := j) K_bx0
      go_wp2_with fail
      clear e_p0 e_p0_1 e_p0_2 e_p0_3 e_p0_4 e_p0_5 e_p0_6 e_p0_7 e_p0_8
      clear e_bx0 e_bx0_1 e_bx0_2 e_bx0_3 e_bx0_4 e_bx0_5 e_bx0_6 e_bx0_7 e_bx0_8
      refine (markIntS_any _ _ 1 _ _ O_g0.out (by omega) (by omega)).mono ?_
      rintro e w11 ⟨rfl, g, o_g0⟩
      replace K_p0 := K_p0.grown g (fun e => N_p0_g0.out _ e.symm rfl)
      replace K_bx0 := K_bx0.grown g (fun e => N_bx0_g0.out _ e.symm rfl)
      replace O_s0 := Lib.hid (O_s0.out.apart g N_s0_g0.out)
      replace O_x1 := Lib.hid (O_x1.out.apart g N_x1_g0.out)
      replace S_0 := Lib.hid (S_0.out.far g (B := w.heap.size) (fun k p => t_g0.out k p) J_0.out)
      replace HB := Lib.hid (mark_bel HB.out g (fun k p => t_g0.out k p))
      clear g
      replace O_g0 := Lib.hid o_g0
      clear o_g0
      obtain ⟨e_p0, e_p0_1, e_p0_2, e_p0_3, e_p0_4, e_p0_5, e_p0_6, e_p0_7, e_p0_8⟩ := Blk.job (j := j) K_p0
      obtain ⟨e_bx0, e_bx0_1, e_bx0_2, e_bx0_3, e_bx0_4, e_bx0_5, e_bx0_6, e_bx0_7, e_bx0_8⟩ := Blk.job (j := j) K_bx0
      go_wp2_with fail
      clear e_p0 e_p0_1 e_p0_2 e_p0_3 e_p0_4 e_p0_5 e_p0_6 e_p0_7 e_p0_8
      clear e_bx0 e_bx0_1 e_bx0_2 e_bx0_3 e_bx0_4 e_bx0_5 e_bx0_6 e_bx0_7 e_bx0_8
      refine (heldIntS_any _ _ 1 _ O_g0.out.ints (by omega) (by omega)).mono ?_
      rintro e w12 ⟨rfl, hww⟩
      subst hww
      obtain ⟨e_p0, e_p0_1, e_p0_2, e_p0_3, e_p0_4, e_p0_5, e_p0_6, e_p0_7, e_p0_8⟩ := Blk.job (j := j) K_p0
      obtain ⟨e_bx0, e_bx0_1, e_bx0_2, e_bx0_3, e_bx0_4, e_bx0_5, e_bx0_6, e_bx0_7, e_bx0_8⟩ := Blk.job (j := j) K_bx0
      go_wp2_with fail
      clear e_p0 e_p0_1 e_p0_2 e_p0_3 e_p0_4 e_p0_5 e_p0_6 e_p0_7 e_p0_8
      clear e_bx0 e_bx0_1 e_bx0_2 e_bx0_3 e_bx0_4 e_bx0_5 e_bx0_6 e_bx0_7 e_bx0_8
      refine (toJob_any _ j _ S_0.out len0).mono ?_
      rintro e w13 ⟨r_x2, rfl, o_x2, b⟩
      have HBZ := Lib.hid HB.out.size
      replace K_p0 := K_p0.below b K_p0.lt
      replace K_bx0 := K_bx0.below b K_bx0.lt
      replace O_s0 := Lib.hid (O_s0.out.bel b)
      replace O_x1 := Lib.hid (O_x1.out.bel b)
      replace O_g0 := Lib.hid (O_g0.out.bel b)
      replace S_0 := Lib.hid (S_0.out.bel b)
      replace HB := Lib.hid (bel_trans HB.out b)
      clear b
      have O_x2 := Lib.hid (o_x2.lower (base' := w.heap.size) HBZ.out)
      clear HBZ
      obtain ⟨A_x2, c_x2, rfl, -, -, -⟩ := o_x2.ints.open_
      clear o_x2
      unfold jobV
      obtain ⟨e_p0, e_p0_1, e_p0_2, e_p0_3, e_p0_4, e_p0_5, e_p0_6, e_p0_7, e_p0_8⟩ := Blk.job (j := j) K_p0
      obtain ⟨e_bx0, e_bx0_1, e_bx0_2, e_bx0_3, e_bx0_4, e_bx0_5, e_bx0_6, e_bx0_7, e_bx0_8⟩ := Blk.job (j := j) K_bx0
      go_wp2_with fail
      clear e_p0 e_p0_1 e_p0_2 e_p0_3 e_p0_4 e_p0_5 e_p0_6 e_p0_7 e_p0_8
      clear e_bx0 e_bx0_1 e_bx0_2 e_bx0_3 e_bx0_4 e_bx0_5 e_bx0_6 e_bx0_7 e_bx0_8
      refine (implJT_any _ j _ O_x2.out.ints HJ.out).mono ?_
      rintro e w14 ⟨r_h0, rfl, o_h0, b⟩
      have z_p0 := K_p0.lt
      have z_bx0 := K_bx0.lt
      have HB0 := HB.out.size
      have y_s0 := Lib.hid (fun k hk => (O_s0.out.lt k hk).2)
      have y_x1 := Lib.hid (fun k hk => (O_x1.out.lt k hk).2)
      have y_g0 := Lib.hid (fun k hk => (O_g0.out.lt k hk).2)
      replace K_p0 := K_p0.below b K_p0.lt
      replace K_bx0 := K_bx0.below b K_bx0.lt
      replace O_s0 := Lib.hid (O_s0.out.bel b)
      replace O_x1 := Lib.hid (O_x1.out.bel b)
      replace O_g0 := Lib.hid (O_g0.out.bel b)
      replace O_x2 := Lib.hid (O_x2.out.bel b)
      replace S_0 := Lib.hid (S_0.out.bel b)
      replace HB := Lib.hid (bel_trans HB.out b)
      clear b
      have N_p0_h0 : Hid (∀ k, r_h0.ownBlock = some k → k ≠ w.heap.size) := Lib.hid (fun k hk => by have p1 := (o_h0.lt k hk).1; have p2 := z_p0; omega)
      have N_bx0_h0 : Hid (∀ k, r_h0.ownBlock = some k → k ≠ w5.heap.size) := Lib.hid (fun k hk => by have p1 := (o_h0.lt k hk).1; have p2 := z_bx0; omega)
      have N_s0_h0 : Hid (∀ k, (Value.slice A_s0 (jtL j).length c_s0).ownBlock = some k → r_h0.ownBlock ≠ some k) := Lib.hid (fun k p q => by have p1 := (y_s0.out k p); have q1 := (o_h0.lt k q).1; omega)
      have N_x1_h0 : Hid (∀ k, (Value.slice A_x1 (j.poly).length c_x1).ownBlock = some k → r_h0.ownBlock ≠ some k) := Lib.hid (fun k p q => by have p1 := (y_x1.out k p); have q1 := (o_h0.lt k q).1; omega)
      have N_g0_h0 : Hid (∀ k, (Value.slice A_g0 (jtL j).length c_g0).ownBlock = some k → r_h0.ownBlock ≠ some k) := Lib.hid (fun k p q => by have p1 := (y_g0.out k p); have q1 := (o_h0.lt k q).1; omega)
      have t_h0 : Hid (∀ k, r_h0.ownBlock = some k → w.heap.size ≤ k) := Lib.hid (fun k hk => by have p1 := (o_h0.lt k hk).1; have p2 := HB0; omega)
      have HBZ := Lib.hid HB0
      clear HB0 z_p0 z_bx0 y_s0 y_x1 y_g0
      have O_h0 := Lib.hid (o_h0.lower (base' := w.heap.size) HBZ.out)
      obtain ⟨A_h0, c_h0, rfl, -, -, -⟩ := o_h0.ints.open_
      clear o_h0
      clear HBZ
      clear O_x2
      obtain ⟨e_p0, e_p0_1, e_p0_2, e_p0_3, e_p0_4, e_p0_5, e_p0_6, e_p0_7, e_p0_8⟩ := Blk.job (j := j) K_p0
      obtain ⟨e_bx0, e_bx0_1, e_bx0_2, e_bx0_3, e_bx0_4, e_bx0_5, e_bx0_6, e_bx0_7, e_bx0_8⟩ := Blk.job (j := j) K_bx0
      go_wp2_with fail
      clear e_p0 e_p0_1 e_p0_2 e_p0_3 e_p0_4 e_p0_5 e_p0_6 e_p0_7 e_p0_8
      clear e_bx0 e_bx0_1 e_bx0_2 e_bx0_3 e_bx0_4 e_bx0_5 e_bx0_6 e_bx0_7 e_bx0_8
      refine (eqIntS_any _ _ _ _ _ O_h0.out.ints O_s0.out.ints).mono ?_
      rw [he_r0]
      rintro e w15 ⟨rfl, b⟩
      replace K_p0 := K_p0.below b K_p0.lt
      replace K_bx0 := K_bx0.below b K_bx0.lt
      replace O_s0 := Lib.hid (O_s0.out.bel b)
      replace O_x1 := Lib.hid (O_x1.out.bel b)
      replace O_g0 := Lib.hid (O_g0.out.bel b)
      replace O_h0 := Lib.hid (O_h0.out.bel b)
      replace S_0 := Lib.hid (S_0.out.bel b)
      replace HB := Lib.hid (bel_trans HB.out b)
      clear b
      obtain ⟨e_p0, e_p0_1, e_p0_2, e_p0_3, e_p0_4, e_p0_5, e_p0_6, e_p0_7, e_p0_8⟩ := Blk.job (j := j) K_p0
      obtain ⟨e_bx0, e_bx0_1, e_bx0_2, e_bx0_3, e_bx0_4, e_bx0_5, e_bx0_6, e_bx0_7, e_bx0_8⟩ := Blk.job (j := j) K_bx0
      go_wp2_with fail
      clear e_p0 e_p0_1 e_p0_2 e_p0_3 e_p0_4 e_p0_5 e_p0_6 e_p0_7 e_p0_8
      clear e_bx0 e_bx0_1 e_bx0_2 e_bx0_3 e_bx0_4 e_bx0_5 e_bx0_6 e_bx0_7 e_bx0_8
      refine (heldIntS_any _ _ 1 _ O_g0.out.ints (by omega) (by omega)).mono ?_
      rintro e w16 ⟨rfl, hww⟩
      subst hww
      go_wp2
      go_ret
      exact ⟨rfl, HB.out⟩

end Go.Proofs.Ytllnlndnmdbifaa
