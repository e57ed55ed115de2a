/-
  The law FnExactTotalOf, walked (made by exact2.py).
-/
import Derived.Test.YtgndnkpenmcafaaEngLaw
import Derived.Deep.RegionLaw
import Derived.Deep.RegionWith
import Derived.Deep.DrawnRows
import Derived.Deep.RegionHeld3
import Derived.Test.YtgndnkpenmcafaaTotal
namespace Go.Proofs.Ytgndnkpenmcafaa
open Go.RowKit
set_option linter.unusedVariables false
set_option linter.unusedSimpArgs false
set_option maxRecDepth 100000

set_option maxHeartbeats 8000000 in
theorem lawTotalOf (v0 : Value) (l0 : List ByteArray) (a1 : Int) (w : World) (h0 : Strs w v0 l0) (h1 : -9223372036854775808 ≤ a1 ∧ a1 ≤ 9223372036854775807) :
    Calls Try.prog 8 #[.agg #[v0], .int .i64 a1] w fun e w' => e = .returned (.bool true) ∧ Below w.heap.size w w' := by
  have S_0 := Lib.hid h0
  have J_0 := Lib.hid h0.low
  obtain ⟨A_a0, c_a0, rfl, -, -, -⟩ := h0.open_
  clear h0
  have he_a0 := eqS_self l0
  have HB := Lib.hid (Below.refl w.heap.size w)
  go_enter Try.func8, Try.ntmps8
  have ba : Below w.heap.size w (w.alloc (.cells #[Value.slice A_a0 l0.length c_a0] 24)) := bel_alloc w _
  replace S_0 := Lib.hid (S_0.out.bel ba)
  replace HB := Lib.hid (bel_trans HB.out ba)
  clear ba
  have K_p0 := Blk.new' w 24 (Value.slice A_a0 l0.length c_a0) _ rfl
  obtain ⟨e_p0, -⟩ := K_p0.one
  go_wp2_with fail
  clear e_p0
  generalize hW : w.alloc (.cells #[Value.slice A_a0 l0.length c_a0] 24) = w1 at *
  clear hW
  refine (szEngine_any _ l0 1048576 _ S_0.out (by omega) (by omega)).mono ?_
  rintro e w2 ⟨lf0, rfl, hr0, b⟩
  replace K_p0 := K_p0.below b K_p0.lt
  replace S_0 := Lib.hid (S_0.out.bel b)
  replace HB := Lib.hid (bel_trans HB.out b)
  clear b
  rcases hr0 with rfl | ⟨q0_0, q1_0⟩
  · go_wp2
    go_ret
    exact ⟨rfl, HB.out⟩
  · skip
    have len0 : l0.length ≤ 1048576 := by omega
    obtain ⟨e_p0, -⟩ := K_p0.one
    go_wp2_with fail
    clear e_p0
    refine (toEngine_any _ l0 _ S_0.out len0).mono ?_
    rintro e w3 ⟨r_x0, rfl, o_x0, b⟩
    have HBZ := Lib.hid HB.out.size
    replace K_p0 := K_p0.below b K_p0.lt
    replace S_0 := Lib.hid (S_0.out.bel b)
    replace HB := Lib.hid (bel_trans HB.out b)
    clear b
    have O_x0 := Lib.hid (o_x0.lower (base' := w.heap.size) HBZ.out)
    clear HBZ
    obtain ⟨A_x0, c_x0, rfl, -, -, -⟩ := o_x0.strs.open_
    clear o_x0
    obtain ⟨e_p0, -⟩ := K_p0.one
    go_wp2_with fail
    clear e_p0
    refine (specTot_any _ l0 a1 _ O_x0.out.strs h1).mono ?_
    rintro e w4 ⟨rfl, b⟩
    replace K_p0 := K_p0.below b K_p0.lt
    replace O_x0 := Lib.hid (O_x0.out.bel b)
    replace S_0 := Lib.hid (S_0.out.bel b)
    replace HB := Lib.hid (bel_trans HB.out b)
    clear b
    clear O_x0
    obtain ⟨e_p0, -⟩ := K_p0.one
    go_wp2_with fail
    clear e_p0
    refine (toEngine_any _ l0 _ S_0.out len0).mono ?_
    rintro e w5 ⟨r_x1, rfl, o_x1, b⟩
    have z_p0 := K_p0.lt
    have HB0 := HB.out.size
    replace K_p0 := K_p0.below b K_p0.lt
    replace S_0 := Lib.hid (S_0.out.bel b)
    replace HB := Lib.hid (bel_trans HB.out b)
    clear b
    have N_p0_x1 : Hid (∀ k, r_x1.ownBlock = some k → k ≠ w.heap.size) := Lib.hid (fun k hk => by have p1 := (o_x1.lt k hk).1; have p2 := z_p0; omega)
    have t_x1 : Hid (∀ k, r_x1.ownBlock = some k → w.heap.size ≤ k) := Lib.hid (fun k hk => by have p1 := (o_x1.lt k hk).1; have p2 := HB0; omega)
    have HBZ := Lib.hid HB0
    clear HB0 z_p0 
    have O_x1 := Lib.hid (o_x1.lower (base' := w.heap.size) HBZ.out)
    obtain ⟨A_x1, c_x1, rfl, -, -, -⟩ := o_x1.strs.open_
    clear o_x1
    clear HBZ
    have ba : Below w5.heap.size w5 (w5.alloc (.cells #[Value.slice A_x1 (l0).length c_x1] 26)) := bel_alloc w5 _
    have u_x1 := Lib.hid (fun k hk => (O_x1.out.lt k hk).2)
    replace K_p0 := K_p0.below ba K_p0.lt
    replace O_x1 := Lib.hid (O_x1.out.bel ba)
    replace S_0 := Lib.hid (S_0.out.bel ba)
    replace HB := Lib.hid (bel_trans HB.out ba)
    clear ba
    have K_bx0 := Blk.new' w5 26 (Value.slice A_x1 (l0).length c_x1) _ rfl
    have N_bx0_x1 : Hid (∀ k, (Value.slice A_x1 (l0).length c_x1).ownBlock = some k → k ≠ w5.heap.size) := Lib.hid (fun k hk => by have p1 := u_x1.out k hk; omega)
    clear u_x1
    obtain ⟨e_p0, -⟩ := K_p0.one
    obtain ⟨e_bx0, -⟩ := K_bx0.one
    go_wp2_with fail
    clear e_p0 e_bx0
    generalize hW : w5.alloc (.cells #[Value.slice A_x1 (l0).length c_x1] 26) = w6 at *
    clear hW
    refine (implTot_any _ l0 a1 _ O_x1.out.strs h1).mono ?_
    rintro e w7 ⟨rfl, b⟩
    replace K_p0 := K_p0.below b K_p0.lt
    replace K_bx0 := K_bx0.below b K_bx0.lt
    replace O_x1 := Lib.hid (O_x1.out.bel b)
    replace S_0 := Lib.hid (S_0.out.bel b)
    replace HB := Lib.hid (bel_trans HB.out b)
    clear b
    obtain ⟨e_p0, -⟩ := K_p0.one
    obtain ⟨e_bx0, -⟩ := K_bx0.one
    go_wp2_with fail
    clear e_p0 e_bx0
    refine cut_by (P := ?P1) ?hk1 (fun key1 => ?main1)
    case main1 =>
      obtain ⟨e_p0, -⟩ := K_p0.one
      obtain ⟨e_bx0, -⟩ := K_bx0.one
      have tok1 : True := trivial
      have tok2 : True := trivial
      go_region_held3 (fun w' => w'.cell? ⟨w.heap.size, 0, none⟩ = some (Value.slice A_a0 l0.length c_a0) ∧ w'.cell? ⟨w5.heap.size, 0, none⟩ = some (Value.slice A_x1 (l0).length c_x1)) (first | exact ⟨e_p0, e_bx0⟩ | exact ⟨((bel_alloc _ _).cell (by exact K_p0.lt)).trans e_p0, ((bel_alloc _ _).cell (by exact K_bx0.lt)).trans e_bx0⟩ | exact ⟨(World.cell?_setCell_other _ _ _ _ (by intro e; injection e with q; have := K_p0.lt; simp at q; omega)).trans (((bel_alloc _ _).cell (by exact K_p0.lt)).trans e_p0), (World.cell?_setCell_other _ _ _ _ (by intro e; injection e with q; have := K_bx0.lt; simp at q; omega)).trans (((bel_alloc _ _).cell (by exact K_bx0.lt)).trans e_bx0)⟩ | go_keep) (first
        | ((try go_simp); go_at_call 17; have _t := tok1; clear e_p0 e_bx0; (refine (toEngine_any _ l0 _ (by first | exact S_0.out | exact S_0.out.bel ((Below.refl _ _).drew)) len0).mono ?_; rintro e w8 ⟨r_x2, rfl, o_x2, b⟩; replace o_x2 : OwnS w8 w7.heap.size r_x2 (l0) := o_x2; replace b : Below w7.heap.size w7 w8 := (by first | exact b | exact bel_trans ((Below.refl _ _).drew) b); have HBZ := Lib.hid HB.out.size; replace K_p0 := K_p0.below b K_p0.lt; replace K_bx0 := K_bx0.below b K_bx0.lt; replace O_x1 := Lib.hid (O_x1.out.bel b); replace S_0 := Lib.hid (S_0.out.bel b); replace HB := Lib.hid (bel_trans HB.out b); clear b; have O_x2 := Lib.hid (o_x2.lower (base' := w.heap.size) HBZ.out); clear HBZ; obtain ⟨A_x2, c_x2, rfl, -, -, -⟩ := o_x2.strs.open_; clear o_x2; obtain ⟨e_p0, -⟩ := K_p0.one; obtain ⟨e_bx0, -⟩ := K_bx0.one; clear tok1))
        | ((try go_simp); go_at_call 19; have _t := tok2; clear e_p0 e_bx0; (refine (eqEngine_any _ _ _ _ _ (by first | exact O_x1.out.strs | exact O_x1.out.strs.bel ((Below.refl _ _).drew)) (by first | exact O_x2.out.strs | exact O_x2.out.strs.bel ((Below.refl _ _).drew))).mono ?_; rw [he_a0]; rintro e w9 ⟨rfl, b⟩; replace b : Below w8.heap.size w8 w9 := (by first | exact b | exact bel_trans ((Below.refl _ _).drew) b); replace K_p0 := K_p0.below b K_p0.lt; replace K_bx0 := K_bx0.below b K_bx0.lt; replace O_x1 := Lib.hid (O_x1.out.bel b); replace O_x2 := Lib.hid (O_x2.out.bel b); replace S_0 := Lib.hid (S_0.out.bel b); replace HB := Lib.hid (bel_trans HB.out b); clear b; clear O_x2; obtain ⟨e_p0, -⟩ := K_p0.one; obtain ⟨e_bx0, -⟩ := K_bx0.one; clear tok2)))
      all_goals
        clear e_p0 e_bx0
        first
        | (obtain ⟨w10, hW⟩ : ∃ W', W' = w9.drew := ⟨_, rfl⟩; rw [← hW]; have b : Below w9.heap.size w9 w10 := (by rw [hW]; exact (Below.refl _ _).drew); clear hW)
        | (obtain ⟨w10, hW⟩ : ∃ W', W' = w9 := ⟨_, rfl⟩; rw [← hW]; have b : Below w9.heap.size w9 w10 := (by rw [hW]; exact Below.refl _ _); clear hW)
        replace K_p0 := K_p0.below b K_p0.lt
        replace K_bx0 := K_bx0.below b K_bx0.lt
        replace O_x1 := Lib.hid (O_x1.out.bel b)
        replace S_0 := Lib.hid (S_0.out.bel b)
        replace HB := Lib.hid (bel_trans HB.out b)
        clear b
        revert K_p0 K_bx0 O_x1 S_0 HB
        revert w10 A_x2 c_x2
        exact key1
    intro w10 A_x2 c_x2
    intro K_p0 K_bx0 O_x1 S_0 HB
    go_wp2
    go_ret
    exact ⟨rfl, HB.out⟩

end Go.Proofs.Ytgndnkpenmcafaa
