/-
  The law FnExactStepEngines, walked (made by exact3.py).
-/
import Derived.Test.YtllnlndnmdbifaaEngsE
import Derived.Test.YtllnlndnmdbifaaStepE
namespace Go.Proofs.Ytllnlndnmdbifaa
open Go.RowKit
set_option linter.unusedVariables false
set_option linter.unusedSimpArgs false
set_option maxRecDepth 100000

set_option maxHeartbeats 8000000 in
theorem lawStepEngines (v0 : Value) (l0 : List Int) (a1 : Int) (a2 : Int) (a3 : Int) (w : World) (h0 : Ints w v0 l0) (h1 : -9223372036854775808 ≤ a1 ∧ a1 ≤ 9223372036854775807) (h2 : -9223372036854775808 ≤ a2 ∧ a2 ≤ 9223372036854775807) (h3 : -9223372036854775808 ≤ a3 ∧ a3 ≤ 9223372036854775807) :
    Calls Try.prog 6 #[v0, .int .i64 a1, .int .i64 a2, .int .i64 a3] w fun e w' => e = .returned (.bool true) ∧ Below w.heap.size w w' := by
  have S_0 := Lib.hid h0
  obtain ⟨A_a0, c_a0, rfl, -, hc0, -⟩ := h0.open_
  clear h0
  have HB := Lib.hid (Below.refl w.heap.size w)
  by_cases hbig0 : (1048576 : Int) < (l0.length : Int)
  · go_enter Try.func6, Try.ntmps6
    go_wp2
    go_ret
    exact ⟨rfl, Below.refl _ _⟩
  · skip
    have B_0 : l0.length ≤ 1048576 := by omega
    go_enter Try.func6, Try.ntmps6
    have hR := (seL_bd l0 a1 a2 a3).2.2
    go_wp2_with fail
    refine (toIntS_any _ l0 _ (S_0.out.below HB.out (Nat.le_refl _)) B_0).mono ?_
    rintro e w1 ⟨r_x0, rfl, o_x0, b⟩
    have t_x0 : Hid (∀ k, r_x0.ownBlock = some k → w.heap.size ≤ k ∧ k < w1.heap.size) := Lib.hid (fun k hk => o_x0.lt k hk)
    replace HB := Lib.hid (bel_trans HB.out b)
    have z1 := b.size
    clear b
    have O_x0 := Lib.hid o_x0
    clear o_x0
    go_wp2_with fail
    refine (specSE_any _ l0 a1 a2 a3 _ O_x0.out.ints h1 h2).mono ?_
    rintro e w2 ⟨r_s, rfl, o_s, b⟩
    replace O_x0 := Lib.hid (O_x0.out.bel b)
    replace HB := Lib.hid (bel_trans HB.out b)
    have z2 := b.size
    clear b
    have R_s := Lib.hid o_s
    clear o_s
    have BS := Lib.hid (Below.refl w2.heap.size w2)
    clear O_x0 t_x0
    go_wp2_with fail
    refine (toIntS_any _ l0 _ (S_0.out.below HB.out (Nat.le_refl _)) B_0).mono ?_
    rintro e w3 ⟨r_x1, rfl, o_x1, b⟩
    have t_x1 : Hid (∀ k, r_x1.ownBlock = some k → w2.heap.size ≤ k ∧ k < w3.heap.size) := Lib.hid (fun k hk => o_x1.lt k hk)
    replace BS := Lib.hid (bel_trans BS.out b)
    replace HB := Lib.hid (bel_trans HB.out b)
    have z3 := b.size
    clear b
    have O_x1 := Lib.hid o_x1
    clear o_x1
    go_wp2_with fail
    refine (implSE_any _ l0 a1 a2 a3 _ O_x1.out.ints h1 h2).mono ?_
    rintro e w4 ⟨r_g, rfl, o_g, b⟩
    replace BS := Lib.hid (bel_trans BS.out b)
    replace O_x1 := Lib.hid (O_x1.out.bel b)
    replace HB := Lib.hid (bel_trans HB.out b)
    have z4 := b.size
    clear b
    have O_g := Lib.hid o_g
    clear o_g
    go_wp2_with fail
    refine (eqEngineS_same _ _ _ _ O_g.out.engs (R_s.out.below BS.out (Nat.le_refl _))).mono ?_
    rintro e w5 ⟨rfl, b⟩
    replace BS := Lib.hid (bel_trans BS.out b)
    replace O_x1 := Lib.hid (O_x1.out.bel b)
    replace O_g := Lib.hid (O_g.out.bel b)
    replace HB := Lib.hid (bel_trans HB.out b)
    have z5 := b.size
    clear b
    go_wp2_with fail
    refine (toIntS_any _ l0 _ (S_0.out.below HB.out (Nat.le_refl _)) B_0).mono ?_
    rintro e w6 ⟨r_x2, rfl, o_x2, b⟩
    have t_x2 : Hid (∀ k, r_x2.ownBlock = some k → w5.heap.size ≤ k ∧ k < w6.heap.size) := Lib.hid (fun k hk => o_x2.lt k hk)
    replace BS := Lib.hid (bel_trans BS.out b)
    replace O_x1 := Lib.hid (O_x1.out.bel b)
    replace O_g := Lib.hid (O_g.out.bel b)
    replace HB := Lib.hid (bel_trans HB.out b)
    have z6 := b.size
    clear b
    have O_x2 := Lib.hid o_x2
    clear o_x2
    go_wp2_with fail
    refine (eqIntS_any _ _ _ _ _ O_x1.out.ints O_x2.out.ints).mono ?_
    rw [eqL_self]
    rintro e w7 ⟨rfl, b⟩
    replace BS := Lib.hid (bel_trans BS.out b)
    replace O_x1 := Lib.hid (O_x1.out.bel b)
    replace O_g := Lib.hid (O_g.out.bel b)
    replace O_x2 := Lib.hid (O_x2.out.bel b)
    replace HB := Lib.hid (bel_trans HB.out b)
    have z7 := b.size
    clear b
    clear O_x2 t_x2
    go_wp2_with fail
    refine (markIntS_any _ _ (1) _ _ O_x1.out (by omega) (by omega)).mono ?_
    rintro e w8 ⟨rfl, g, o_x1⟩
    replace BS := Lib.hid (mark_bel BS.out g (fun k hk => by have p1 := t_x1.out k hk; omega))
    replace O_g := Lib.hid (O_g.out.grown g (fun k hk => by have := t_x1.out k hk; omega))
    replace HB := Lib.hid (mark_bel HB.out g (fun k hk => by have p1 := t_x1.out k hk; omega))
    have z8 := g.size
    clear g
    replace O_x1 := Lib.hid o_x1
    clear o_x1
    go_wp2_with fail
    refine (eqEngineS_same _ _ _ _ O_g.out.engs (R_s.out.below BS.out (Nat.le_refl _))).mono ?_
    rintro e w9 ⟨rfl, b⟩
    replace BS := Lib.hid (bel_trans BS.out b)
    replace O_x1 := Lib.hid (O_x1.out.bel b)
    replace O_g := Lib.hid (O_g.out.bel b)
    replace HB := Lib.hid (bel_trans HB.out b)
    have z9 := b.size
    clear b
    go_wp2_with fail
    refine (markEngineS_int _ _ (1) _ _ _ O_g.out (by omega) (by omega)).mono ?_
    rintro e w10 ⟨rfl, g, o_g⟩
    replace BS := Lib.hid (Rng.below BS.out g (by omega))
    replace O_x1 := Lib.hid (O_x1.out.rng g (fun k hk => by have := t_x1.out k hk; omega))
    replace HB := Lib.hid (Rng.below HB.out g (by omega))
    have z10 := g.size
    clear g
    replace O_g := Lib.hid o_g
    clear o_g
    go_wp2_with fail
    refine (heldEngineS_int _ (seL l0 a1 a2 a3) (1) _ O_g.out.engs (by omega) (by omega)).mono ?_
    rintro e w11 ⟨rfl, b⟩
    replace BS := Lib.hid (bel_trans BS.out b)
    replace O_x1 := Lib.hid (O_x1.out.bel b)
    replace O_g := Lib.hid (O_g.out.bel b)
    replace HB := Lib.hid (bel_trans HB.out b)
    have z11 := b.size
    clear b
    go_wp2_with fail
    refine (toIntS_any _ l0 _ (S_0.out.below HB.out (Nat.le_refl _)) B_0).mono ?_
    rintro e w12 ⟨r_x3, rfl, o_x3, b⟩
    have t_x3 : Hid (∀ k, r_x3.ownBlock = some k → w11.heap.size ≤ k ∧ k < w12.heap.size) := Lib.hid (fun k hk => o_x3.lt k hk)
    replace BS := Lib.hid (bel_trans BS.out b)
    replace O_x1 := Lib.hid (O_x1.out.bel b)
    replace O_g := Lib.hid (O_g.out.bel b)
    replace HB := Lib.hid (bel_trans HB.out b)
    have z12 := b.size
    clear b
    have O_x3 := Lib.hid o_x3
    clear o_x3
    go_wp2_with fail
    refine (implSE_any _ l0 a1 a2 a3 _ O_x3.out.ints h1 h2).mono ?_
    rintro e w13 ⟨r_h, rfl, o_h, b⟩
    replace BS := Lib.hid (bel_trans BS.out b)
    replace O_x1 := Lib.hid (O_x1.out.bel b)
    replace O_g := Lib.hid (O_g.out.bel b)
    replace O_x3 := Lib.hid (O_x3.out.bel b)
    replace HB := Lib.hid (bel_trans HB.out b)
    have z13 := b.size
    clear b
    have O_h := Lib.hid o_h
    clear o_h
    clear O_x3 t_x3
    go_wp2_with fail
    refine (eqEngineS_same _ _ _ _ O_h.out.engs (R_s.out.below BS.out (Nat.le_refl _))).mono ?_
    rintro e w14 ⟨rfl, b⟩
    replace BS := Lib.hid (bel_trans BS.out b)
    replace O_x1 := Lib.hid (O_x1.out.bel b)
    replace O_g := Lib.hid (O_g.out.bel b)
    replace O_h := Lib.hid (O_h.out.bel b)
    replace HB := Lib.hid (bel_trans HB.out b)
    have z14 := b.size
    clear b
    go_wp2_with fail
    refine (heldEngineS_int _ (seL l0 a1 a2 a3) (1) _ O_g.out.engs (by omega) (by omega)).mono ?_
    rintro e w15 ⟨rfl, b⟩
    replace BS := Lib.hid (bel_trans BS.out b)
    replace O_x1 := Lib.hid (O_x1.out.bel b)
    replace O_g := Lib.hid (O_g.out.bel b)
    replace O_h := Lib.hid (O_h.out.bel b)
    replace HB := Lib.hid (bel_trans HB.out b)
    have z15 := b.size
    clear b
    go_wp2
    go_ret
    exact ⟨rfl, HB.out⟩

end Go.Proofs.Ytllnlndnmdbifaa
