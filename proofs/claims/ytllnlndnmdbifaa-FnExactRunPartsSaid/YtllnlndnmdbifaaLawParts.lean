/-
  The law FnExactRunParts, walked (made by exact3.py).
-/
import Derived.Test.YtllnlndnmdbifaaEngsE
import Derived.Test.YtllnlndnmdbifaaParts
namespace Go.Proofs.Ytllnlndnmdbifaa
open Go.RowKit
set_option linter.unusedVariables false
set_option linter.unusedSimpArgs false
set_option maxRecDepth 100000

set_option maxHeartbeats 8000000 in
theorem lawRunParts (v0 : Value) (l0 : List (List ByteArray)) (v1 : Value) (l1 : List Int) (w : World) (h0 : Engs w v0 l0) (h1 : Ints w v1 l1) :
    Calls Try.prog 7 #[v0, v1] w fun e w' => e = .returned (.bool true) ∧ Below w.heap.size w w' := by
  have S_0 := Lib.hid h0
  clear h0
  have S_1 := Lib.hid h1
  obtain ⟨A_a1, c_a1, rfl, -, hc1, -⟩ := h1.open_
  clear h1
  have HB := Lib.hid (Below.refl w.heap.size w)
  by_cases hbig1 : (1048576 : Int) < (l1.length : Int)
  · go_enter Try.func7, Try.ntmps7
    go_wp2
    go_ret
    exact ⟨rfl, Below.refl _ _⟩
  · skip
    have B_1 : l1.length ≤ 1048576 := by omega
    go_enter Try.func7, Try.ntmps7
    go_wp2_with fail
    refine (szEngineS_any _ l0 1048576 _ (S_0.out.below HB.out (Nat.le_refl _)) (by omega) (by omega)).mono ?_
    rintro e w1 ⟨lf0, rfl, hr0, b⟩
    replace HB := Lib.hid (bel_trans HB.out b)
    have z1 := b.size
    clear b
    rcases hr0 with rfl | ⟨q0_0, q1_0⟩
    · go_wp2
      go_ret
      exact ⟨rfl, HB.out⟩
    · skip
      have B_0 : l0.length ≤ 1048576 ∧ (∀ i, i < l0.length → (eat l0 i).length ≤ 1048576) ∧ tot_ l0 ≤ 1048576 := ⟨by omega, fun i hi => by have := tot_at hi; omega, by omega⟩
      have T_0 := B_0.2.2
      have hR := rpL_len l0 l1
      go_wp2_with fail
      refine (toEngineS_any _ l0 _ (S_0.out.below HB.out (Nat.le_refl _)) B_0.1 B_0.2.1).mono ?_
      rintro e w2 ⟨r_x0, rfl, o_x0, b⟩
      replace HB := Lib.hid (bel_trans HB.out b)
      have z2 := b.size
      clear b
      have O_x0 := Lib.hid o_x0
      clear o_x0
      go_wp2_with fail
      refine (toIntS_any _ l1 _ (S_1.out.below HB.out (Nat.le_refl _)) B_1).mono ?_
      rintro e w3 ⟨r_x1, rfl, o_x1, b⟩
      have t_x1 : Hid (∀ k, r_x1.ownBlock = some k → w2.heap.size ≤ k ∧ k < w3.heap.size) := Lib.hid (fun k hk => o_x1.lt k hk)
      replace O_x0 := Lib.hid (O_x0.out.bel b)
      replace HB := Lib.hid (bel_trans HB.out b)
      have z3 := b.size
      clear b
      have O_x1 := Lib.hid o_x1
      clear o_x1
      go_wp2_with fail
      refine (specParts_any _ _ l0 l1 _ O_x0.out.engs O_x1.out.ints B_1).mono ?_
      rintro e w4 ⟨r_s, rfl, o_s, b⟩
      have t_s : Hid (∀ k, r_s.ownBlock = some k → w3.heap.size ≤ k ∧ k < w4.heap.size) := Lib.hid (fun k hk => o_s.lt k hk)
      replace O_x0 := Lib.hid (O_x0.out.bel b)
      replace O_x1 := Lib.hid (O_x1.out.bel b)
      replace HB := Lib.hid (bel_trans HB.out b)
      have z4 := b.size
      clear b
      have O_s := Lib.hid o_s
      clear o_s
      clear O_x0
      clear O_x1 t_x1
      go_wp2_with fail
      refine (toEngineS_any _ l0 _ (S_0.out.below HB.out (Nat.le_refl _)) B_0.1 B_0.2.1).mono ?_
      rintro e w5 ⟨r_x2, rfl, o_x2, b⟩
      replace O_s := Lib.hid (O_s.out.bel b)
      replace HB := Lib.hid (bel_trans HB.out b)
      have z5 := b.size
      clear b
      have O_x2 := Lib.hid o_x2
      clear o_x2
      go_wp2_with fail
      refine (toIntS_any _ l1 _ (S_1.out.below HB.out (Nat.le_refl _)) B_1).mono ?_
      rintro e w6 ⟨r_x3, rfl, o_x3, b⟩
      have t_x3 : Hid (∀ k, r_x3.ownBlock = some k → w5.heap.size ≤ k ∧ k < w6.heap.size) := Lib.hid (fun k hk => o_x3.lt k hk)
      replace O_s := Lib.hid (O_s.out.bel b)
      replace O_x2 := Lib.hid (O_x2.out.bel b)
      replace HB := Lib.hid (bel_trans HB.out b)
      have z6 := b.size
      clear b
      have O_x3 := Lib.hid o_x3
      clear o_x3
      go_wp2_with fail
      refine (implParts_any _ _ l0 l1 _ O_x2.out.engs O_x3.out.ints B_1).mono ?_
      rintro e w7 ⟨r_g, rfl, o_g, b⟩
      have t_g : Hid (∀ k, r_g.ownBlock = some k → w6.heap.size ≤ k ∧ k < w7.heap.size) := Lib.hid (fun k hk => o_g.lt k hk)
      replace O_s := Lib.hid (O_s.out.bel b)
      replace O_x2 := Lib.hid (O_x2.out.bel b)
      replace O_x3 := Lib.hid (O_x3.out.bel b)
      replace HB := Lib.hid (bel_trans HB.out b)
      have z7 := b.size
      clear b
      have O_g := Lib.hid o_g
      clear o_g
      go_wp2_with fail
      refine (eqIntS_any _ _ _ _ _ O_g.out.ints O_s.out.ints).mono ?_
      rw [eqL_self]
      rintro e w8 ⟨rfl, b⟩
      replace O_s := Lib.hid (O_s.out.bel b)
      replace O_x2 := Lib.hid (O_x2.out.bel b)
      replace O_x3 := Lib.hid (O_x3.out.bel b)
      replace O_g := Lib.hid (O_g.out.bel b)
      replace HB := Lib.hid (bel_trans HB.out b)
      have z8 := b.size
      clear b
      go_wp2_with fail
      refine (toEngineS_any _ l0 _ (S_0.out.below HB.out (Nat.le_refl _)) B_0.1 B_0.2.1).mono ?_
      rintro e w9 ⟨r_x4, rfl, o_x4, b⟩
      replace O_s := Lib.hid (O_s.out.bel b)
      replace O_x2 := Lib.hid (O_x2.out.bel b)
      replace O_x3 := Lib.hid (O_x3.out.bel b)
      replace O_g := Lib.hid (O_g.out.bel b)
      replace HB := Lib.hid (bel_trans HB.out b)
      have z9 := b.size
      clear b
      have O_x4 := Lib.hid o_x4
      clear o_x4
      go_wp2_with fail
      refine (eqEngineS_same _ _ _ _ O_x2.out.engs O_x4.out.engs).mono ?_
      rintro e w10 ⟨rfl, b⟩
      replace O_s := Lib.hid (O_s.out.bel b)
      replace O_x2 := Lib.hid (O_x2.out.bel b)
      replace O_x3 := Lib.hid (O_x3.out.bel b)
      replace O_g := Lib.hid (O_g.out.bel b)
      replace O_x4 := Lib.hid (O_x4.out.bel b)
      replace HB := Lib.hid (bel_trans HB.out b)
      have z10 := b.size
      clear b
      clear O_x4
      go_wp2_with fail
      refine (toIntS_any _ l1 _ (S_1.out.below HB.out (Nat.le_refl _)) B_1).mono ?_
      rintro e w11 ⟨r_x5, rfl, o_x5, b⟩
      have t_x5 : Hid (∀ k, r_x5.ownBlock = some k → w10.heap.size ≤ k ∧ k < w11.heap.size) := Lib.hid (fun k hk => o_x5.lt k hk)
      replace O_s := Lib.hid (O_s.out.bel b)
      replace O_x2 := Lib.hid (O_x2.out.bel b)
      replace O_x3 := Lib.hid (O_x3.out.bel b)
      replace O_g := Lib.hid (O_g.out.bel b)
      replace HB := Lib.hid (bel_trans HB.out b)
      have z11 := b.size
      clear b
      have O_x5 := Lib.hid o_x5
      clear o_x5
      go_wp2_with fail
      refine (eqIntS_any _ _ _ _ _ O_x3.out.ints O_x5.out.ints).mono ?_
      rw [eqL_self]
      rintro e w12 ⟨rfl, b⟩
      replace O_s := Lib.hid (O_s.out.bel b)
      replace O_x2 := Lib.hid (O_x2.out.bel b)
      replace O_x3 := Lib.hid (O_x3.out.bel b)
      replace O_g := Lib.hid (O_g.out.bel b)
      replace O_x5 := Lib.hid (O_x5.out.bel b)
      replace HB := Lib.hid (bel_trans HB.out b)
      have z12 := b.size
      clear b
      clear O_x5 t_x5
      go_wp2_with fail
      refine (markEngineS_int _ _ (1) _ _ _ O_x2.out (by omega) (by omega)).mono ?_
      rintro e w13 ⟨rfl, g, o_x2⟩
      replace O_s := Lib.hid (O_s.out.rng g (fun k hk => by have := t_s.out k hk; omega))
      replace O_x3 := Lib.hid (O_x3.out.rng g (fun k hk => by have := t_x3.out k hk; omega))
      replace O_g := Lib.hid (O_g.out.rng g (fun k hk => by have := t_g.out k hk; omega))
      replace HB := Lib.hid (Rng.below HB.out g (by omega))
      have z13 := g.size
      clear g
      replace O_x2 := Lib.hid o_x2
      clear o_x2
      go_wp2_with fail
      refine (markIntS_any _ _ (1 + (tot_ (l0) : Int)) _ _ O_x3.out (by omega) (by omega)).mono ?_
      rintro e w14 ⟨rfl, g, o_x3⟩
      replace O_s := Lib.hid (O_s.out.apart g (fun k h1 h2 => by have p1 := t_s.out k h1; have p2 := t_x3.out k h2; omega))
      replace O_x2 := Lib.hid (O_x2.out.grown g (fun k hk => by have := t_x3.out k hk; omega))
      replace O_g := Lib.hid (O_g.out.apart g (fun k h1 h2 => by have p1 := t_g.out k h1; have p2 := t_x3.out k h2; omega))
      replace HB := Lib.hid (mark_bel HB.out g (fun k hk => by have p1 := t_x3.out k hk; omega))
      have z14 := g.size
      clear g
      replace O_x3 := Lib.hid o_x3
      clear o_x3
      go_wp2_with fail
      refine (eqIntS_any _ _ _ _ _ O_g.out.ints O_s.out.ints).mono ?_
      rw [eqL_self]
      rintro e w15 ⟨rfl, b⟩
      replace O_s := Lib.hid (O_s.out.bel b)
      replace O_x2 := Lib.hid (O_x2.out.bel b)
      replace O_x3 := Lib.hid (O_x3.out.bel b)
      replace O_g := Lib.hid (O_g.out.bel b)
      replace HB := Lib.hid (bel_trans HB.out b)
      have z15 := b.size
      clear b
      go_wp2_with fail
      refine (markIntS_any _ _ (1) _ _ O_g.out (by omega) (by omega)).mono ?_
      rintro e w16 ⟨rfl, g, o_g⟩
      replace O_s := Lib.hid (O_s.out.apart g (fun k h1 h2 => by have p1 := t_s.out k h1; have p2 := t_g.out k h2; omega))
      replace O_x2 := Lib.hid (O_x2.out.grown g (fun k hk => by have := t_g.out k hk; omega))
      replace O_x3 := Lib.hid (O_x3.out.apart g (fun k h1 h2 => by have p1 := t_x3.out k h1; have p2 := t_g.out k h2; omega))
      replace HB := Lib.hid (mark_bel HB.out g (fun k hk => by have p1 := t_g.out k hk; omega))
      have z16 := g.size
      clear g
      replace O_g := Lib.hid o_g
      clear o_g
      go_wp2_with fail
      refine (heldIntS_any _ _ (1) _ O_g.out.ints (by omega) (by omega)).mono ?_
      rintro e w17 ⟨rfl, hww⟩
      subst hww
      go_wp2_with fail
      refine (toEngineS_any _ l0 _ (S_0.out.below HB.out (Nat.le_refl _)) B_0.1 B_0.2.1).mono ?_
      rintro e w18 ⟨r_x6, rfl, o_x6, b⟩
      replace O_s := Lib.hid (O_s.out.bel b)
      replace O_x2 := Lib.hid (O_x2.out.bel b)
      replace O_x3 := Lib.hid (O_x3.out.bel b)
      replace O_g := Lib.hid (O_g.out.bel b)
      replace HB := Lib.hid (bel_trans HB.out b)
      have z18 := b.size
      clear b
      have O_x6 := Lib.hid o_x6
      clear o_x6
      go_wp2_with fail
      refine (toIntS_any _ l1 _ (S_1.out.below HB.out (Nat.le_refl _)) B_1).mono ?_
      rintro e w19 ⟨r_x7, rfl, o_x7, b⟩
      have t_x7 : Hid (∀ k, r_x7.ownBlock = some k → w18.heap.size ≤ k ∧ k < w19.heap.size) := Lib.hid (fun k hk => o_x7.lt k hk)
      replace O_s := Lib.hid (O_s.out.bel b)
      replace O_x2 := Lib.hid (O_x2.out.bel b)
      replace O_x3 := Lib.hid (O_x3.out.bel b)
      replace O_g := Lib.hid (O_g.out.bel b)
      replace O_x6 := Lib.hid (O_x6.out.bel b)
      replace HB := Lib.hid (bel_trans HB.out b)
      have z19 := b.size
      clear b
      have O_x7 := Lib.hid o_x7
      clear o_x7
      go_wp2_with fail
      refine (implParts_any _ _ l0 l1 _ O_x6.out.engs O_x7.out.ints B_1).mono ?_
      rintro e w20 ⟨r_h, rfl, o_h, b⟩
      have t_h : Hid (∀ k, r_h.ownBlock = some k → w19.heap.size ≤ k ∧ k < w20.heap.size) := Lib.hid (fun k hk => o_h.lt k hk)
      replace O_s := Lib.hid (O_s.out.bel b)
      replace O_x2 := Lib.hid (O_x2.out.bel b)
      replace O_x3 := Lib.hid (O_x3.out.bel b)
      replace O_g := Lib.hid (O_g.out.bel b)
      replace O_x6 := Lib.hid (O_x6.out.bel b)
      replace O_x7 := Lib.hid (O_x7.out.bel b)
      replace HB := Lib.hid (bel_trans HB.out b)
      have z20 := b.size
      clear b
      have O_h := Lib.hid o_h
      clear o_h
      clear O_x6
      clear O_x7 t_x7
      go_wp2_with fail
      refine (eqIntS_any _ _ _ _ _ O_h.out.ints O_s.out.ints).mono ?_
      rw [eqL_self]
      rintro e w21 ⟨rfl, b⟩
      replace O_s := Lib.hid (O_s.out.bel b)
      replace O_x2 := Lib.hid (O_x2.out.bel b)
      replace O_x3 := Lib.hid (O_x3.out.bel b)
      replace O_g := Lib.hid (O_g.out.bel b)
      replace O_h := Lib.hid (O_h.out.bel b)
      replace HB := Lib.hid (bel_trans HB.out b)
      have z21 := b.size
      clear b
      go_wp2_with fail
      refine (heldIntS_any _ _ (1) _ O_g.out.ints (by omega) (by omega)).mono ?_
      rintro e w22 ⟨rfl, hww⟩
      subst hww
      go_wp2
      go_ret
      exact ⟨rfl, HB.out⟩

end Go.Proofs.Ytllnlndnmdbifaa
