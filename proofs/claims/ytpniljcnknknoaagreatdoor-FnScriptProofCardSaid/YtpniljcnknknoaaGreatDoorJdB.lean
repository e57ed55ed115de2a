/-
  What the laws of jobs draw: layouts and jobs.
-/
import Derived.Test.YtpniljcnknknoaaGreatDoorJdA
namespace Go.Proofs.YtpniljcnknknoaaGreatDoor
open Go.RowKit
set_option linter.unusedVariables false
set_option linter.unusedSimpArgs false
set_option maxRecDepth 100000
attribute [local go_sem ↓] Go.wp_at_zero Go.wp_at_succ

theorem grown_setN {a : World} {g b : Nat} (hb : a.heap.size ≤ b) : ∀ (us : List Value) (w : World) (i : Nat), a.grownBy w (some g) → a.grownBy (setN w b i us) (some g)
  | [], _, _, h => h
  | u :: us, w, i, h => grown_setN hb us _ _ (grown_trans h (only_setCell (World.grownBy.refl w (some b)) (p := ⟨b, i, none⟩) (.inl rfl) u) (fun j hj => .inr (by injection hj with hj; omega)))
theorem rdr_setN {g b K : Nat} (hb : g < b) : ∀ (us : List Value) (w : World) (i : Nat), Rdr w g K → Rdr (setN w b i us) g K
  | [], _, _, h => h
  | u :: us, w, i, h => rdr_setN hb us _ _ (h.grown (only_setCell (World.grownBy.refl w (some b)) (p := ⟨b, i, none⟩) (.inl rfl) u) (fun k hk => by injection hk with hk; omega))
def layC (a b c : Int) : List Value := [.int .i64 a, .int .i64 b, .int .i64 c]
theorem Blk.layI {w : World} {g : Nat} {t : TypeId} {a b c : Int} (h : Blk w g t (layC a b c)) :
    w.cell? ⟨g, 0, none⟩ = some (.int .i64 a) ∧ w.cell? ⟨g, 1, none⟩ = some (.int .i64 b) ∧ w.cell? ⟨g, 2, none⟩ = some (.int .i64 c) := by
  refine ⟨?_, ?_, ?_⟩ <;> rw [h.cell] <;> rfl
/-- A drawn layout. -/
def DrawnLay (w : World) (g K' : Nat) (e : Ending) (w' : World) : Prop :=
  ∃ a b c : Int, e = .returned (.agg #[.int .i64 a, .int .i64 b, .int .i64 c]) ∧ i64in a ∧ i64in b ∧ i64in c ∧ Rdr w' g K' ∧ w.grownBy w' (some g)
set_option maxHeartbeats 4000000 in
theorem l6Layout_any (g K : Nat) (w : World) (hr : Rdr w g K) (hK : K ≤ 10000000) :
    Calls Tryz.prog 133 #[.pointer (some ⟨g, 0, none⟩)] w (DrawnLay w g (K + 5)) := by
  have hgw := hr.lt
  have K2 := Blk.new w 25 (layC 0 0 0)
  have HR := Lib.hid (hr.bel (bel_alloc w (.cells (layC 0 0 0).toArray 25)))
  have HG := Lib.hid (only_alloc (World.grownBy.refl w (some g)) (.cells (layC 0 0 0).toArray 25))
  clear hr
  go_enter Tryz.func133, Tryz.ntmps133
  go_wp2_with fail
  change Calls _ _ _ (w.alloc (.cells (layC 0 0 0).toArray 25)) _
  generalize hW : w.alloc (.cells (layC 0 0 0).toArray 25) = W at *
  have hwz : W.heap.size = w.heap.size + 1 := by rw [← hW]; simp
  clear hW
  refine (pick_any g K 6 _ HR.out (by omega) (by omega)).mono ?_
  rintro e w1 ⟨a, rfl, ha, -, hr1, hg1⟩
  replace ha := ha (by omega)
  replace K2 := K2.grown hg1 (fun e => by injection e with e; omega)
  replace HR := Lib.hid hr1
  replace HG := Lib.hid (grown_trans HG.out hg1 (fun j hj => .inl (by injection hj with hj; exact hj.symm)))
  have z1 := hg1.size
  clear hr1 hg1
  go_wp2_with fail
  refine (pick_any g (K + 1) 4 _ HR.out (by omega) (by omega)).mono ?_
  rintro e w2 ⟨b, rfl, hb, -, hr1, hg1⟩
  replace hb := hb (by omega)
  replace K2 := K2.grown hg1 (fun e => by injection e with e; omega)
  replace HR := Lib.hid hr1
  replace HG := Lib.hid (grown_trans HG.out hg1 (fun j hj => .inl (by injection hj with hj; exact hj.symm)))
  have z2 := hg1.size
  clear hr1 hg1
  go_wp2_with fail
  refine (pick_any g (K + 1 + 1) 3 _ HR.out (by omega) (by omega)).mono ?_
  rintro e w3 ⟨c, rfl, hc, -, hr1, hg1⟩
  replace hc := hc (by omega)
  have K3 := Blk.new w3 25 (layC (1 + a) (1 + b) (5 + c))
  replace K2 := (K2.grown hg1 (fun e => by injection e with e; omega)).alloc (.cells (layC (1 + a) (1 + b) (5 + c)).toArray 25)
  replace HR := Lib.hid (hr1.bel (bel_alloc w3 (.cells (layC (1 + a) (1 + b) (5 + c)).toArray 25)))
  replace HG := Lib.hid (only_alloc (grown_trans HG.out hg1 (fun j hj => .inl (by injection hj with hj; exact hj.symm))) (.cells (layC (1 + a) (1 + b) (5 + c)).toArray 25))
  have z3 := hg1.size
  clear hr1 hg1
  go_wp2_with fail
  change Calls _ _ _ (w3.alloc (.cells (layC (1 + a) (1 + b) (5 + c)).toArray 25)) _
  generalize hW : w3.alloc (.cells (layC (1 + a) (1 + b) (5 + c)).toArray 25) = W4 at *
  have hwz4 : W4.heap.size = w3.heap.size + 1 := by rw [← hW]; simp
  clear hW
  refine (pick_any g (K + 1 + 1 + 1) 30 _ HR.out (by omega) (by omega)).mono ?_
  rintro e w5 ⟨m, rfl, hm, -, hr1, hg1⟩
  replace K2 := K2.grown hg1 (fun e => by injection e with e; omega)
  replace K3 := K3.grown hg1 (fun e => by injection e with e; omega)
  replace HR := Lib.hid hr1
  replace HG := Lib.hid (grown_trans HG.out hg1 (fun j hj => .inl (by injection hj with hj; exact hj.symm)))
  have z5 := hg1.size
  clear hr1 hg1 hm
  cases q0 : (m == 0)
  · cases q1 : (m == 1)
    · cases q2 : (m == 2)
      · obtain ⟨c0, c1, c2⟩ := Blk.layI (a := 1 + a) (b := 1 + b) (c := 5 + c) K3
        obtain ⟨d0, d1, d2⟩ := Blk.layI (a := 0) (b := 0) (c := 0) K2
        have f0 := K3.frozen 0
        have f1 := K3.frozen 1
        have f2 := K3.frozen 2
        have g0 := K2.frozen 0
        have g1 := K2.frozen 1
        have g2 := K2.frozen 2
        have HK := Lib.hid (And.intro K3 K2)
        clear K3 K2
        go_wp2
        have RE := rdr_setN (b := w.heap.size) (by omega) [.int .i64 (1 + a), .int .i64 (1 + b), .int .i64 (5 + c)] _ 0 HR.out
        have GE := grown_setN (b := w.heap.size) (by omega) [.int .i64 (1 + a), .int .i64 (1 + b), .int .i64 (5 + c)] _ 0 HG.out
        have K5 := blkNown [.int .i64 (1 + a), .int .i64 (1 + b), .int .i64 (5 + c)] _ _ 0 HK.out.2
        clear c0 c1 c2 d0 d1 d2 f0 f1 f2 g0 g1 g2 HK
        change bodyPost _ _ _ _ _ (setN w5 (w.heap.size) 0 [.int .i64 (1 + a), .int .i64 (1 + b), .int .i64 (5 + c)])
        generalize hW7 : setN w5 (w.heap.size) 0 [.int .i64 (1 + a), .int .i64 (1 + b), .int .i64 (5 + c)] = W7 at K5 RE GE ⊢
        clear hW7
        obtain ⟨h0, h1, h2⟩ := Blk.layI (a := 1 + a) (b := 1 + b) (c := 5 + c) K5
        refine bodyPost_ret (v := .agg #[.int .i64 (1 + a), .int .i64 (1 + b), .int .i64 (5 + c)]) (by simp [results, Tryz.results133, go_sem, h0, h1, h2]) rfl ⟨_, _, _, rfl, ?_, ?_, ?_, RE.more (by omega), GE⟩ <;> unfold i64in <;> omega
      · go_wp2_with fail
        refine (num_any g _ _ [0, 1, 12, 13] _ (HR.out.bel (bel_alloc _ _)) (by omega) (lit_own _ [0, 1, 12, 13] _ 0 rfl (by omega) (by simp) (wf_lit (by simp))).ints (by simp) (lit_ne (by omega))).mono ?_
        rintro e w6 ⟨n, rfl, hn, hr1, hg1⟩
        have hn' : -9223372036854775808 ≤ n ∧ n ≤ 9223372036854775807 := by simp at hn; omega
        replace K3 := (K3.alloc _).grown hg1 (fun e => by injection e with e; omega)
        replace K2 := (K2.alloc _).grown hg1 (fun e => by injection e with e; omega)
        replace HG := Lib.hid (grown_trans (only_alloc HG.out _) hg1 (fun j hj => .inl (by injection hj with hj; exact hj.symm)))
        replace HR := Lib.hid hr1
        clear hr1 hg1 hn
        obtain ⟨c0, c1, c2⟩ := Blk.layI (a := 1 + a) (b := 1 + b) (c := 5 + c) K3
        obtain ⟨d0, d1, d2⟩ := Blk.layI (a := 0) (b := 0) (c := 0) K2
        have f0 := K3.frozen 0
        have f1 := K3.frozen 1
        have f2 := K3.frozen 2
        have g0 := K2.frozen 0
        have g1 := K2.frozen 1
        have g2 := K2.frozen 2
        have HK := Lib.hid (And.intro K3 K2)
        clear K3 K2
        go_wp2
        have RE := rdr_setN (b := w.heap.size) (by omega) [.int .i64 (1 + a), .int .i64 (1 + b), .int .i64 (n)] _ 0 (rdr_setN (b := w3.heap.size) (by omega) [.int .i64 (n)] _ 2 HR.out)
        have GE := grown_setN (b := w.heap.size) (by omega) [.int .i64 (1 + a), .int .i64 (1 + b), .int .i64 (n)] _ 0 (grown_setN (b := w3.heap.size) (by omega) [.int .i64 (n)] _ 2 HG.out)
        have K5 := blkNown [.int .i64 (1 + a), .int .i64 (1 + b), .int .i64 (n)] _ _ 0 (blkN (g := w3.heap.size) (by omega) [.int .i64 (n)] _ 2 HK.out.2)
        clear c0 c1 c2 d0 d1 d2 f0 f1 f2 g0 g1 g2 HK
        change bodyPost _ _ _ _ _ (setN (setN w6 (w3.heap.size) 2 [.int .i64 (n)]) (w.heap.size) 0 [.int .i64 (1 + a), .int .i64 (1 + b), .int .i64 (n)])
        generalize hW7 : setN (setN w6 (w3.heap.size) 2 [.int .i64 (n)]) (w.heap.size) 0 [.int .i64 (1 + a), .int .i64 (1 + b), .int .i64 (n)] = W7 at K5 RE GE ⊢
        clear hW7
        obtain ⟨h0, h1, h2⟩ := Blk.layI (a := 1 + a) (b := 1 + b) (c := n) K5
        refine bodyPost_ret (v := .agg #[.int .i64 (1 + a), .int .i64 (1 + b), .int .i64 (n)]) (by simp [results, Tryz.results133, go_sem, h0, h1, h2]) rfl ⟨_, _, _, rfl, ?_, ?_, ?_, RE.more (by omega), GE⟩ <;> unfold i64in <;> omega
    · go_wp2_with fail
      refine (num_any g _ _ [0, 6, 7] _ (HR.out.bel (bel_alloc _ _)) (by omega) (lit_own _ [0, 6, 7] _ 0 rfl (by omega) (by simp) (wf_lit (by simp))).ints (by simp) (lit_ne (by omega))).mono ?_
      rintro e w6 ⟨n, rfl, hn, hr1, hg1⟩
      have hn' : -9223372036854775808 ≤ n ∧ n ≤ 9223372036854775807 := by simp at hn; omega
      replace K3 := (K3.alloc _).grown hg1 (fun e => by injection e with e; omega)
      replace K2 := (K2.alloc _).grown hg1 (fun e => by injection e with e; omega)
      replace HG := Lib.hid (grown_trans (only_alloc HG.out _) hg1 (fun j hj => .inl (by injection hj with hj; exact hj.symm)))
      replace HR := Lib.hid hr1
      clear hr1 hg1 hn
      obtain ⟨c0, c1, c2⟩ := Blk.layI (a := 1 + a) (b := 1 + b) (c := 5 + c) K3
      obtain ⟨d0, d1, d2⟩ := Blk.layI (a := 0) (b := 0) (c := 0) K2
      have f0 := K3.frozen 0
      have f1 := K3.frozen 1
      have f2 := K3.frozen 2
      have g0 := K2.frozen 0
      have g1 := K2.frozen 1
      have g2 := K2.frozen 2
      have HK := Lib.hid (And.intro K3 K2)
      clear K3 K2
      go_wp2
      have RE := rdr_setN (b := w.heap.size) (by omega) [.int .i64 (1 + a), .int .i64 (n), .int .i64 (5 + c)] _ 0 (rdr_setN (b := w3.heap.size) (by omega) [.int .i64 (n)] _ 1 HR.out)
      have GE := grown_setN (b := w.heap.size) (by omega) [.int .i64 (1 + a), .int .i64 (n), .int .i64 (5 + c)] _ 0 (grown_setN (b := w3.heap.size) (by omega) [.int .i64 (n)] _ 1 HG.out)
      have K5 := blkNown [.int .i64 (1 + a), .int .i64 (n), .int .i64 (5 + c)] _ _ 0 (blkN (g := w3.heap.size) (by omega) [.int .i64 (n)] _ 1 HK.out.2)
      clear c0 c1 c2 d0 d1 d2 f0 f1 f2 g0 g1 g2 HK
      change bodyPost _ _ _ _ _ (setN (setN w6 (w3.heap.size) 1 [.int .i64 (n)]) (w.heap.size) 0 [.int .i64 (1 + a), .int .i64 (n), .int .i64 (5 + c)])
      generalize hW7 : setN (setN w6 (w3.heap.size) 1 [.int .i64 (n)]) (w.heap.size) 0 [.int .i64 (1 + a), .int .i64 (n), .int .i64 (5 + c)] = W7 at K5 RE GE ⊢
      clear hW7
      obtain ⟨h0, h1, h2⟩ := Blk.layI (a := 1 + a) (b := n) (c := 5 + c) K5
      refine bodyPost_ret (v := .agg #[.int .i64 (1 + a), .int .i64 (n), .int .i64 (5 + c)]) (by simp [results, Tryz.results133, go_sem, h0, h1, h2]) rfl ⟨_, _, _, rfl, ?_, ?_, ?_, RE.more (by omega), GE⟩ <;> unfold i64in <;> omega
  · go_wp2_with fail
    refine (num_any g _ _ [0, 20, 21, -1] _ (HR.out.bel (bel_alloc _ _)) (by omega) (lit_own _ [0, 20, 21, -1] _ 0 rfl (by omega) (by simp) (wf_lit (by simp))).ints (by simp) (lit_ne (by omega))).mono ?_
    rintro e w6 ⟨n, rfl, hn, hr1, hg1⟩
    have hn' : -9223372036854775808 ≤ n ∧ n ≤ 9223372036854775807 := by simp at hn; omega
    replace K3 := (K3.alloc _).grown hg1 (fun e => by injection e with e; omega)
    replace K2 := (K2.alloc _).grown hg1 (fun e => by injection e with e; omega)
    replace HG := Lib.hid (grown_trans (only_alloc HG.out _) hg1 (fun j hj => .inl (by injection hj with hj; exact hj.symm)))
    replace HR := Lib.hid hr1
    clear hr1 hg1 hn
    obtain ⟨c0, c1, c2⟩ := Blk.layI (a := 1 + a) (b := 1 + b) (c := 5 + c) K3
    obtain ⟨d0, d1, d2⟩ := Blk.layI (a := 0) (b := 0) (c := 0) K2
    have f0 := K3.frozen 0
    have f1 := K3.frozen 1
    have f2 := K3.frozen 2
    have g0 := K2.frozen 0
    have g1 := K2.frozen 1
    have g2 := K2.frozen 2
    have HK := Lib.hid (And.intro K3 K2)
    clear K3 K2
    go_wp2
    have RE := rdr_setN (b := w.heap.size) (by omega) [.int .i64 (n), .int .i64 (1 + b), .int .i64 (5 + c)] _ 0 (rdr_setN (b := w3.heap.size) (by omega) [.int .i64 (n)] _ 0 HR.out)
    have GE := grown_setN (b := w.heap.size) (by omega) [.int .i64 (n), .int .i64 (1 + b), .int .i64 (5 + c)] _ 0 (grown_setN (b := w3.heap.size) (by omega) [.int .i64 (n)] _ 0 HG.out)
    have K5 := blkNown [.int .i64 (n), .int .i64 (1 + b), .int .i64 (5 + c)] _ _ 0 (blkN (g := w3.heap.size) (by omega) [.int .i64 (n)] _ 0 HK.out.2)
    clear c0 c1 c2 d0 d1 d2 f0 f1 f2 g0 g1 g2 HK
    change bodyPost _ _ _ _ _ (setN (setN w6 (w3.heap.size) 0 [.int .i64 (n)]) (w.heap.size) 0 [.int .i64 (n), .int .i64 (1 + b), .int .i64 (5 + c)])
    generalize hW7 : setN (setN w6 (w3.heap.size) 0 [.int .i64 (n)]) (w.heap.size) 0 [.int .i64 (n), .int .i64 (1 + b), .int .i64 (5 + c)] = W7 at K5 RE GE ⊢
    clear hW7
    obtain ⟨h0, h1, h2⟩ := Blk.layI (a := n) (b := 1 + b) (c := 5 + c) K5
    refine bodyPost_ret (v := .agg #[.int .i64 (n), .int .i64 (1 + b), .int .i64 (5 + c)]) (by simp [results, Tryz.results133, go_sem, h0, h1, h2]) rfl ⟨_, _, _, rfl, ?_, ?_, ?_, RE.more (by omega), GE⟩ <;> unfold i64in <;> omega

/-- A drawn job, its polynomial held beside a reader. -/
def DrawnJobS (w : World) (g K' : Nat) (e : Ending) (w' : World) : Prop :=
  ∃ v j, e = .returned (jobV v j) ∧ St w g K' v j.poly w' ∧ (1 ≤ j.poly.length ∧ j.poly.length ≤ 6) ∧ j.In
set_option maxHeartbeats 8000000 in
theorem l8Some_any (g K : Nat) (w : World) (hr : Rdr w g K) (hK : K ≤ 10000000) :
    Calls Tryz.prog 119 #[.pointer (some ⟨g, 0, none⟩)] w (DrawnJobS w g (K + 30)) := by
  have hgw := hr.lt
  have K4 := Blk.new w 27 (jobC (.slice none 0 0) zeroJ)
  have HR := Lib.hid (hr.bel (bel_alloc w (.cells (jobC (.slice none 0 0) zeroJ).toArray 27)))
  have HG := Lib.hid (only_alloc (World.grownBy.refl w (some g)) (.cells (jobC (.slice none 0 0) zeroJ).toArray 27))
  clear hr
  go_enter Tryz.func119, Tryz.ntmps119
  go_wp2_with fail
  change Calls _ _ _ (w.alloc (.cells (jobC (.slice none 0 0) zeroJ).toArray 27)) _
  generalize hW : w.alloc (.cells (jobC (.slice none 0 0) zeroJ).toArray 27) = W at *
  have hwz : W.heap.size = w.heap.size + 1 := by rw [← hW]; simp
  clear hW
  refine (l2Some_any g K _ HR.out (by omega)).mono ?_
  rintro e w1 ⟨v, l, rfl, ho, l1, l6, hr1, hg1⟩
  have hne : ∀ k, v.ownBlock = some k → k ≠ w.heap.size := fun k hk => by have := (ho.lt k hk).1; omega
  have hlt1 : ∀ k, v.ownBlock = some k → k < w1.heap.size := fun k hk => (ho.lt k hk).2
  have S1 := Lib.hid (show St w g (K + 20) v l w1 from ⟨ho.lower (by omega), hr1, grown_trans HG.out hg1 (fun j hj => .inl (by injection hj with hj; exact hj.symm)), hgw⟩)
  replace K4 := K4.grown hg1 (fun e => by injection e with e; omega)
  have z1 := hg1.size
  obtain ⟨A, c, rfl, hlc, hc, -⟩ := ho.ints.open_
  clear ho hr1 hg1 HR HG
  have HN := Lib.hid (And.intro hne hlt1)
  clear hne hlt1
  go_wp2_with fail
  refine (pick_k 20 S1.out (by omega) (by omega)).mono ?_
  rintro e w2 ⟨p, rfl, pa, pb, hs, hg⟩
  have S2 := Lib.hid hs
  replace K4 := K4.grown hg (fun e => by injection e with e; omega)
  have z_w2 := hg.size
  clear hs hg S1
  go_wp2_with fail
  refine (pick_k 14 S2.out (by omega) (by omega)).mono ?_
  rintro e w3 ⟨q, rfl, qa, qb, hs, hg⟩
  have S3 := Lib.hid hs
  replace K4 := K4.grown hg (fun e => by injection e with e; omega)
  have z_w3 := hg.size
  clear hs hg S2
  go_wp2_with fail
  refine (pick_k 4 S3.out (by omega) (by omega)).mono ?_
  rintro e w4 ⟨r, rfl, ra, rb, hs, hg⟩
  have S4 := Lib.hid hs
  replace K4 := K4.grown hg (fun e => by injection e with e; omega)
  have z_w4 := hg.size
  clear hs hg S3
  have z4 := z_w4
  have K3 := Blk.new w4 27 (jobC (.slice A l.length c) ⟨l, p - 5, 1 + q, 8 + r, 0, 0, 0, 0, 0⟩)
  replace K4 := K4.alloc (.cells (jobC (.slice A l.length c) ⟨l, p - 5, 1 + q, 8 + r, 0, 0, 0, 0, 0⟩).toArray 27)
  have S5 := Lib.hid (S4.out.bel (bel_alloc w4 (.cells (jobC (.slice A l.length c) ⟨l, p - 5, 1 + q, 8 + r, 0, 0, 0, 0, 0⟩).toArray 27)))
  have HV := Lib.hid (show (∀ k, (Value.slice A l.length c).ownBlock = some k → k ≠ w4.heap.size) ∧ (∀ k, (Value.slice A l.length c).ownBlock = some k → k ≠ w.heap.size) from ⟨fun k hk => by have := HN.out.2 k hk; omega, HN.out.1⟩)
  clear S4 HN
  go_wp2_with fail
  change Calls _ _ _ (w4.alloc (.cells (jobC (.slice A l.length c) ⟨l, p - 5, 1 + q, 8 + r, 0, 0, 0, 0, 0⟩).toArray 27)) _
  generalize hW : w4.alloc (.cells (jobC (.slice A l.length c) ⟨l, p - 5, 1 + q, 8 + r, 0, 0, 0, 0, 0⟩).toArray 27) = W4 at *
  have hw4 : W4.heap.size = w4.heap.size + 1 := by rw [← hW]; simp
  clear hW
  refine (pick_k 3 S5.out (by omega) (by omega)).mono ?_
  rintro e w5 ⟨s, rfl, sa, sb, hs, hg⟩
  have S6 := Lib.hid hs
  replace K3 := K3.grown hg (fun e => by injection e with e; omega)
  replace K4 := K4.grown hg (fun e => by injection e with e; omega)
  have z_w5 := hg.size
  clear hs hg S5
  have fz := K3.frozen 4
  have cz : w5.cell? ⟨w4.heap.size, 4, none⟩ = some (.int .i64 0) := K3.cell 4
  go_wp2_with fail
  clear fz cz
  have S7 := Lib.hid (St.setN (b := w4.heap.size) (by omega) HV.out.1 [.int .i64 s] _ 4 S6.out)
  replace K4 := blkN (g := w4.heap.size) (by omega) [.int .i64 s] _ 4 K4
  replace K3 := blkNown [.int .i64 s] _ _ 4 K3
  clear S6
  change Calls _ _ _ (setN w5 (w4.heap.size) 4 [.int .i64 s]) _
  generalize hW : setN w5 (w4.heap.size) 4 [.int .i64 s] = W5 at *
  have hz_W5 : W5.heap.size = w5.heap.size := by rw [← hW]; simp [setN]
  clear hW
  refine (pick_k 3 S7.out (by omega) (by omega)).mono ?_
  rintro e w6 ⟨t, rfl, ta, tb, hs, hg⟩
  have S8 := Lib.hid hs
  replace K3 := K3.grown hg (fun e => by injection e with e; omega)
  replace K4 := K4.grown hg (fun e => by injection e with e; omega)
  have z_w6 := hg.size
  clear hs hg S7
  have fz := K3.frozen 5
  have cz : w6.cell? ⟨w4.heap.size, 5, none⟩ = some (.int .i64 0) := K3.cell 5
  go_wp2_with fail
  clear fz cz
  have S9 := Lib.hid (St.setN (b := w4.heap.size) (by omega) HV.out.1 [.int .i64 t] _ 5 S8.out)
  replace K4 := blkN (g := w4.heap.size) (by omega) [.int .i64 t] _ 5 K4
  replace K3 := blkNown [.int .i64 t] _ _ 5 K3
  clear S8
  change Calls _ _ _ (setN w6 (w4.heap.size) 5 [.int .i64 t]) _
  generalize hW : setN w6 (w4.heap.size) 5 [.int .i64 t] = W6 at *
  have hz_W6 : W6.heap.size = w6.heap.size := by rw [← hW]; simp [setN]
  clear hW
  refine (pick_k 6 S9.out (by omega) (by omega)).mono ?_
  rintro e w7 ⟨x, rfl, xa, xb, hs, hg⟩
  have S10 := Lib.hid hs
  replace K3 := K3.grown hg (fun e => by injection e with e; omega)
  replace K4 := K4.grown hg (fun e => by injection e with e; omega)
  have z_w7 := hg.size
  clear hs hg S9
  go_wp2_with fail
  refine (pick_k 4 S10.out (by omega) (by omega)).mono ?_
  rintro e w8 ⟨y, rfl, ya, yb, hs, hg⟩
  have S11 := Lib.hid hs
  replace K3 := K3.grown hg (fun e => by injection e with e; omega)
  replace K4 := K4.grown hg (fun e => by injection e with e; omega)
  have z_w8 := hg.size
  clear hs hg S10
  go_wp2_with fail
  refine (pick_k 5 S11.out (by omega) (by omega)).mono ?_
  rintro e w9 ⟨u, rfl, ua, ub, hs, hg⟩
  have S12 := Lib.hid hs
  replace K3 := K3.grown hg (fun e => by injection e with e; omega)
  replace K4 := K4.grown hg (fun e => by injection e with e; omega)
  have z_w9 := hg.size
  clear hs hg S11
  obtain ⟨c0, c1, c2, c3, c4, c5, c6, c7, c8⟩ := Blk.job (v := (.slice A l.length c)) (j := (⟨l, p - 5, 1 + q, 8 + r, s, t, 0, 0, 0⟩ : JobD)) K3
  obtain ⟨f0, f1, f2, f3, f4, f5, f6, f7, f8⟩ := K3.free
  obtain ⟨g0, g1, g2, g3, g4, g5, g6, g7, g8⟩ := K4.free
  obtain ⟨d0, d1, d2, d3, d4, d5, d6, d7, d8⟩ := Blk.job (v := .slice none 0 0) (j := zeroJ) K4
  have HK := Lib.hid (And.intro K3 K4)
  clear K3 K4
  go_wp2
  have SE := St.setN (b := w.heap.size) (by omega) HV.out.2 [(.slice A l.length c), .int .i64 (p - 5), .int .i64 (1 + q), .int .i64 (8 + r), .int .i64 (s), .int .i64 (t), .int .i64 (1 + x), .int .i64 (1 + y), .int .i64 (7 + u)] _ 0 (St.setN (b := w4.heap.size) (by omega) HV.out.1 [.int .i64 (1 + x), .int .i64 (1 + y), .int .i64 (7 + u)] _ 6 S12.out)
  have K5 := blkNown [(.slice A l.length c), .int .i64 (p - 5), .int .i64 (1 + q), .int .i64 (8 + r), .int .i64 (s), .int .i64 (t), .int .i64 (1 + x), .int .i64 (1 + y), .int .i64 (7 + u)] _ _ 0 (blkN (g := w4.heap.size) (by omega) [.int .i64 (1 + x), .int .i64 (1 + y), .int .i64 (7 + u)] _ 6 HK.out.2)
  clear c0 c1 c2 c3 c4 c5 c6 c7 c8 f0 f1 f2 f3 f4 f5 f6 f7 f8 g0 g1 g2 g3 g4 g5 g6 g7 g8 d0 d1 d2 d3 d4 d5 d6 d7 d8 HK
  change bodyPost _ _ _ _ _ (setN (setN w9 (w4.heap.size) 6 [.int .i64 (1 + x), .int .i64 (1 + y), .int .i64 (7 + u)]) (w.heap.size) 0 [(.slice A l.length c), .int .i64 (p - 5), .int .i64 (1 + q), .int .i64 (8 + r), .int .i64 (s), .int .i64 (t), .int .i64 (1 + x), .int .i64 (1 + y), .int .i64 (7 + u)])
  generalize hW7 : setN (setN w9 (w4.heap.size) 6 [.int .i64 (1 + x), .int .i64 (1 + y), .int .i64 (7 + u)]) (w.heap.size) 0 [(.slice A l.length c), .int .i64 (p - 5), .int .i64 (1 + q), .int .i64 (8 + r), .int .i64 (s), .int .i64 (t), .int .i64 (1 + x), .int .i64 (1 + y), .int .i64 (7 + u)] = W7 at K5 SE ⊢
  clear hW7
  obtain ⟨h0, h1, h2, h3, h4, h5, h6, h7, h8⟩ := Blk.job (v := (.slice A l.length c)) (j := (⟨l, p - 5, 1 + q, 8 + r, s, t, 1 + x, 1 + y, 7 + u⟩ : JobD)) K5
  clear K5
  refine bodyPost_ret (v := .agg #[(.slice A l.length c), .int .i64 (p - 5), .int .i64 (1 + q), .int .i64 (8 + r), .int .i64 (s), .int .i64 (t), .int .i64 (1 + x), .int .i64 (1 + y), .int .i64 (7 + u)]) (by simp [results, Tryz.results119, go_sem, h0, h1, h2, h3, h4, h5, h6, h7, h8]) rfl ⟨_, (⟨l, p - 5, 1 + q, 8 + r, s, t, 1 + x, 1 + y, 7 + u⟩ : JobD), rfl, ⟨SE.own, SE.rdr.more (by omega), SE.gr, SE.lt⟩, ⟨by simpa using l1, by simpa using l6⟩, ?_⟩
  refine ⟨?_, ?_, ?_, ?_, ?_, ?_, ?_, ?_⟩ <;> dsimp only <;> omega

/-- A drawn job that may break the rules. -/
def DrawnJobB (w : World) (g K' : Nat) (e : Ending) (w' : World) : Prop :=
  ∃ v j, e = .returned (jobV v j) ∧ St w g K' v j.poly w' ∧ j.poly.length ≤ 8 ∧ j.In
set_option maxHeartbeats 8000000 in
theorem l8Bad_any (g K : Nat) (w w0 : World) (v : Value) (j : JobD) (hst : St w g K v j.poly w0) (hj : j.In) (hl : 1 ≤ j.poly.length ∧ j.poly.length ≤ 6) (hK : K ≤ 1000000) :
    Calls Tryz.prog 118 #[.pointer (some ⟨g, 0, none⟩), jobV v j] w0 (DrawnJobB w g (K + 10)) := by
  have hgw := hst.lt
  have zw := hst.gr.size
  obtain ⟨A, c, rfl, hlc, hc, -⟩ := hst.own.ints.open_
  obtain ⟨l, j1, j2, j3, j4, j5, j6, j7, j8⟩ := j
  have HJ := Lib.hid hj
  have g1 := hj.fr
  have g2 := hj.ct
  have g3 := hj.wd
  have g4 := hj.dg
  have g5 := hj.wy
  have g6 := hj.rw
  have g7 := hj.ac
  have g8 := hj.wi
  dsimp only at hst hl hlc g1 g2 g3 g4 g5 g6 g7 g8
  have HV := Lib.hid (show (∀ k, (Value.slice A l.length c).ownBlock = some k → k ≠ w0.heap.size) ∧ (∀ k, (Value.slice A l.length c).ownBlock = some k → k ≠ w0.heap.size + 1) from ⟨fun k hk => by have := (hst.own.lt k hk).2; omega, fun k hk => by have := (hst.own.lt k hk).2; omega⟩)
  have K3 := (Blk.new w0 27 (jobC (.slice A l.length c) ⟨l, j1, j2, j3, j4, j5, j6, j7, j8⟩)).alloc (.cells (jobC (.slice none 0 0) zeroJ).toArray 27)
  have K4 := Blk.new (w0.alloc (.cells (jobC (.slice A l.length c) ⟨l, j1, j2, j3, j4, j5, j6, j7, j8⟩).toArray 27)) 27 (jobC (.slice none 0 0) zeroJ)
  have S0 := Lib.hid ((hst.bel (bel_alloc w0 (.cells (jobC (.slice A l.length c) ⟨l, j1, j2, j3, j4, j5, j6, j7, j8⟩).toArray 27))).bel (bel_alloc _ (.cells (jobC (.slice none 0 0) zeroJ).toArray 27)))
  simp only [World.size_alloc] at K4
  clear hst hj
  unfold jobV
  go_enter Tryz.func118, Tryz.ntmps118
  go_wp2_with fail
  change Calls _ _ _ ((w0.alloc (.cells (jobC (.slice A l.length c) ⟨l, j1, j2, j3, j4, j5, j6, j7, j8⟩).toArray 27)).alloc (.cells (jobC (.slice none 0 0) zeroJ).toArray 27)) _
  generalize hW : (w0.alloc (.cells (jobC (.slice A l.length c) ⟨l, j1, j2, j3, j4, j5, j6, j7, j8⟩).toArray 27)).alloc (.cells (jobC (.slice none 0 0) zeroJ).toArray 27) = W at *
  have hwz : W.heap.size = w0.heap.size + 2 := by rw [← hW]; simp
  clear hW
  refine (pick_k 30 S0.out (by omega) (by omega)).mono ?_
  rintro e w1 ⟨m, rfl, ma, mb, hs, hg⟩
  have S1 := Lib.hid hs
  replace K3 := K3.grown hg (fun e => by injection e with e; omega)
  replace K4 := K4.grown hg (fun e => by injection e with e; omega)
  have z_w1 := hg.size
  clear hs hg S0
  cases q0 : (m == 0)
  · cases q1 : (m == 1)
    · cases q2 : (m == 2)
      · cases q3 : (m == 3)
        · cases q4 : (m == 4)
          · cases q5 : (m == 5)
            · cases q6 : (m == 6)
              · obtain ⟨c0, c1, c2, c3, c4, c5, c6, c7, c8⟩ := Blk.job (v := (.slice A l.length c)) (j := (⟨l, j1, j2, j3, j4, j5, j6, j7, j8⟩ : JobD)) K3
                obtain ⟨f0, f1, f2, f3, f4, f5, f6, f7, f8⟩ := K3.free
                obtain ⟨g0, g1, g2, g3, g4, g5, g6, g7, g8⟩ := K4.free
                obtain ⟨d0, d1, d2, d3, d4, d5, d6, d7, d8⟩ := Blk.job (v := .slice none 0 0) (j := zeroJ) K4
                have HK := Lib.hid (And.intro K3 K4)
                clear K3 K4
                go_wp2
                have SE := St.setN (b := w0.heap.size + 1) (by omega) HV.out.2 [(.slice A l.length c), .int .i64 (j1), .int .i64 (j2), .int .i64 (j3), .int .i64 (j4), .int .i64 (j5), .int .i64 (j6), .int .i64 (j7), .int .i64 (j8)] _ 0 (S1.out)
                have K5 := blkNown [(.slice A l.length c), .int .i64 (j1), .int .i64 (j2), .int .i64 (j3), .int .i64 (j4), .int .i64 (j5), .int .i64 (j6), .int .i64 (j7), .int .i64 (j8)] _ _ 0 HK.out.2
                clear c0 c1 c2 c3 c4 c5 c6 c7 c8 f0 f1 f2 f3 f4 f5 f6 f7 f8 g0 g1 g2 g3 g4 g5 g6 g7 g8 d0 d1 d2 d3 d4 d5 d6 d7 d8 HK
                change bodyPost _ _ _ _ _ (setN w1 (w0.heap.size + 1) 0 [(.slice A l.length c), .int .i64 (j1), .int .i64 (j2), .int .i64 (j3), .int .i64 (j4), .int .i64 (j5), .int .i64 (j6), .int .i64 (j7), .int .i64 (j8)])
                generalize hW7 : setN w1 (w0.heap.size + 1) 0 [(.slice A l.length c), .int .i64 (j1), .int .i64 (j2), .int .i64 (j3), .int .i64 (j4), .int .i64 (j5), .int .i64 (j6), .int .i64 (j7), .int .i64 (j8)] = W7 at K5 SE ⊢
                clear hW7
                obtain ⟨h0, h1, h2, h3, h4, h5, h6, h7, h8⟩ := Blk.job (v := (.slice A l.length c)) (j := (⟨l, j1, j2, j3, j4, j5, j6, j7, j8⟩ : JobD)) K5
                clear K5
                refine bodyPost_ret (v := .agg #[(.slice A l.length c), .int .i64 (j1), .int .i64 (j2), .int .i64 (j3), .int .i64 (j4), .int .i64 (j5), .int .i64 (j6), .int .i64 (j7), .int .i64 (j8)]) (by simp [results, Tryz.results118, go_sem, h0, h1, h2, h3, h4, h5, h6, h7, h8]) rfl ⟨_, (⟨l, j1, j2, j3, j4, j5, j6, j7, j8⟩ : JobD), rfl, ⟨SE.own, SE.rdr.more (by omega), SE.gr, SE.lt⟩, by simpa using (by omega : l.length ≤ 8), ?_⟩
                exact HJ.out
              · go_wp2_with fail
                refine (l6Layout_any g _ _ S1.out.rdr (by omega)).mono ?_
                rintro e w2 ⟨x, y, u, rfl, hx, hy, hu, hr2, hg⟩
                unfold i64in at hx hy hu
                have S2 := Lib.hid (S1.out.grown hg hr2)
                replace K3 := K3.grown hg (fun e => by injection e with e; omega)
                replace K4 := K4.grown hg (fun e => by injection e with e; omega)
                have zz := hg.size
                clear hr2 hg S1
                obtain ⟨c0, c1, c2, c3, c4, c5, c6, c7, c8⟩ := Blk.job (v := (.slice A l.length c)) (j := (⟨l, j1, j2, j3, j4, j5, j6, j7, j8⟩ : JobD)) K3
                obtain ⟨f0, f1, f2, f3, f4, f5, f6, f7, f8⟩ := K3.free
                obtain ⟨g0, g1, g2, g3, g4, g5, g6, g7, g8⟩ := K4.free
                obtain ⟨d0, d1, d2, d3, d4, d5, d6, d7, d8⟩ := Blk.job (v := .slice none 0 0) (j := zeroJ) K4
                have HK := Lib.hid (And.intro K3 K4)
                clear K3 K4
                go_wp2
                have SE := St.setN (b := w0.heap.size + 1) (by omega) HV.out.2 [(.slice A l.length c), .int .i64 (j1), .int .i64 (j2), .int .i64 (j3), .int .i64 (j4), .int .i64 (j5), .int .i64 (x), .int .i64 (y), .int .i64 (u)] _ 0 (St.setN (b := w0.heap.size) (by omega) HV.out.1 [.int .i64 x, .int .i64 y, .int .i64 u] _ 6 S2.out)
                have K5 := blkNown [(.slice A l.length c), .int .i64 (j1), .int .i64 (j2), .int .i64 (j3), .int .i64 (j4), .int .i64 (j5), .int .i64 (x), .int .i64 (y), .int .i64 (u)] _ _ 0 (blkN (g := w0.heap.size) (by omega) [.int .i64 x, .int .i64 y, .int .i64 u] _ 6 HK.out.2)
                clear c0 c1 c2 c3 c4 c5 c6 c7 c8 f0 f1 f2 f3 f4 f5 f6 f7 f8 g0 g1 g2 g3 g4 g5 g6 g7 g8 d0 d1 d2 d3 d4 d5 d6 d7 d8 HK
                change bodyPost _ _ _ _ _ (setN (setN w2 (w0.heap.size) 6 [.int .i64 x, .int .i64 y, .int .i64 u]) (w0.heap.size + 1) 0 [(.slice A l.length c), .int .i64 (j1), .int .i64 (j2), .int .i64 (j3), .int .i64 (j4), .int .i64 (j5), .int .i64 (x), .int .i64 (y), .int .i64 (u)])
                generalize hW7 : setN (setN w2 (w0.heap.size) 6 [.int .i64 x, .int .i64 y, .int .i64 u]) (w0.heap.size + 1) 0 [(.slice A l.length c), .int .i64 (j1), .int .i64 (j2), .int .i64 (j3), .int .i64 (j4), .int .i64 (j5), .int .i64 (x), .int .i64 (y), .int .i64 (u)] = W7 at K5 SE ⊢
                clear hW7
                obtain ⟨h0, h1, h2, h3, h4, h5, h6, h7, h8⟩ := Blk.job (v := (.slice A l.length c)) (j := (⟨l, j1, j2, j3, j4, j5, x, y, u⟩ : JobD)) K5
                clear K5
                refine bodyPost_ret (v := .agg #[(.slice A l.length c), .int .i64 (j1), .int .i64 (j2), .int .i64 (j3), .int .i64 (j4), .int .i64 (j5), .int .i64 (x), .int .i64 (y), .int .i64 (u)]) (by simp [results, Tryz.results118, go_sem, h0, h1, h2, h3, h4, h5, h6, h7, h8]) rfl ⟨_, (⟨l, j1, j2, j3, j4, j5, x, y, u⟩ : JobD), rfl, ⟨SE.own, SE.rdr.more (by omega), SE.gr, SE.lt⟩, by simpa using (by omega : l.length ≤ 8), ?_⟩
                refine ⟨?_, ?_, ?_, ?_, ?_, ?_, ?_, ?_⟩ <;> dsimp only <;> omega
            · obtain ⟨c0, c1, c2, c3, c4, c5, c6, c7, c8⟩ := Blk.job (v := (.slice A l.length c)) (j := (⟨l, j1, j2, j3, j4, j5, j6, j7, j8⟩ : JobD)) K3
              obtain ⟨f0, f1, f2, f3, f4, f5, f6, f7, f8⟩ := K3.free
              obtain ⟨g0, g1, g2, g3, g4, g5, g6, g7, g8⟩ := K4.free
              obtain ⟨d0, d1, d2, d3, d4, d5, d6, d7, d8⟩ := Blk.job (v := .slice none 0 0) (j := zeroJ) K4
              have HK := Lib.hid (And.intro K3 K4)
              clear K3 K4
              go_wp2
              have SE := St.setN (b := w0.heap.size + 1) (by omega) HV.out.2 [(.slice A l.length c), .int .i64 (j1), .int .i64 (j2), .int .i64 (j3), .int .i64 (j4), .int .i64 (3), .int .i64 (j6), .int .i64 (j7), .int .i64 (j8)] _ 0 (St.setN (b := w0.heap.size) (by omega) HV.out.1 [.int .i64 3] _ 5 S1.out)
              have K5 := blkNown [(.slice A l.length c), .int .i64 (j1), .int .i64 (j2), .int .i64 (j3), .int .i64 (j4), .int .i64 (3), .int .i64 (j6), .int .i64 (j7), .int .i64 (j8)] _ _ 0 (blkN (g := w0.heap.size) (by omega) [.int .i64 3] _ 5 HK.out.2)
              clear c0 c1 c2 c3 c4 c5 c6 c7 c8 f0 f1 f2 f3 f4 f5 f6 f7 f8 g0 g1 g2 g3 g4 g5 g6 g7 g8 d0 d1 d2 d3 d4 d5 d6 d7 d8 HK
              change bodyPost _ _ _ _ _ (setN (setN w1 (w0.heap.size) 5 [.int .i64 3]) (w0.heap.size + 1) 0 [(.slice A l.length c), .int .i64 (j1), .int .i64 (j2), .int .i64 (j3), .int .i64 (j4), .int .i64 (3), .int .i64 (j6), .int .i64 (j7), .int .i64 (j8)])
              generalize hW7 : setN (setN w1 (w0.heap.size) 5 [.int .i64 3]) (w0.heap.size + 1) 0 [(.slice A l.length c), .int .i64 (j1), .int .i64 (j2), .int .i64 (j3), .int .i64 (j4), .int .i64 (3), .int .i64 (j6), .int .i64 (j7), .int .i64 (j8)] = W7 at K5 SE ⊢
              clear hW7
              obtain ⟨h0, h1, h2, h3, h4, h5, h6, h7, h8⟩ := Blk.job (v := (.slice A l.length c)) (j := (⟨l, j1, j2, j3, j4, 3, j6, j7, j8⟩ : JobD)) K5
              clear K5
              refine bodyPost_ret (v := .agg #[(.slice A l.length c), .int .i64 (j1), .int .i64 (j2), .int .i64 (j3), .int .i64 (j4), .int .i64 (3), .int .i64 (j6), .int .i64 (j7), .int .i64 (j8)]) (by simp [results, Tryz.results118, go_sem, h0, h1, h2, h3, h4, h5, h6, h7, h8]) rfl ⟨_, (⟨l, j1, j2, j3, j4, 3, j6, j7, j8⟩ : JobD), rfl, ⟨SE.own, SE.rdr.more (by omega), SE.gr, SE.lt⟩, by simpa using (by omega : l.length ≤ 8), ?_⟩
              refine ⟨?_, ?_, ?_, ?_, ?_, ?_, ?_, ?_⟩ <;> dsimp only <;> omega
          · go_wp2_with fail
            refine (num_k _ [-1, 7] (S1.out.bel (bel_alloc _ _)) (by omega) (lit_own _ [-1, 7] _ w.heap.size rfl (by omega) (by simp) (wf_lit (by simp))).ints (by simp) (lit_ne (by omega))).mono ?_
            rintro e w2 ⟨n, rfl, hn, hs, hg⟩
            have hn' : -9223372036854775808 ≤ n ∧ n ≤ 9223372036854775807 := by simp at hn; omega
            replace K3 := (K3.alloc _).grown hg (fun e => by injection e with e; omega)
            replace K4 := (K4.alloc _).grown hg (fun e => by injection e with e; omega)
            have zz := hg.size
            simp at zz
            have S2 := Lib.hid hs
            clear hs hg hn S1
            obtain ⟨c0, c1, c2, c3, c4, c5, c6, c7, c8⟩ := Blk.job (v := (.slice A l.length c)) (j := (⟨l, j1, j2, j3, j4, j5, j6, j7, j8⟩ : JobD)) K3
            obtain ⟨f0, f1, f2, f3, f4, f5, f6, f7, f8⟩ := K3.free
            obtain ⟨g0, g1, g2, g3, g4, g5, g6, g7, g8⟩ := K4.free
            obtain ⟨d0, d1, d2, d3, d4, d5, d6, d7, d8⟩ := Blk.job (v := .slice none 0 0) (j := zeroJ) K4
            have HK := Lib.hid (And.intro K3 K4)
            clear K3 K4
            go_wp2
            have SE := St.setN (b := w0.heap.size + 1) (by omega) HV.out.2 [(.slice A l.length c), .int .i64 (j1), .int .i64 (j2), .int .i64 (j3), .int .i64 (n), .int .i64 (j5), .int .i64 (j6), .int .i64 (j7), .int .i64 (j8)] _ 0 (St.setN (b := w0.heap.size) (by omega) HV.out.1 [.int .i64 n] _ 4 S2.out)
            have K5 := blkNown [(.slice A l.length c), .int .i64 (j1), .int .i64 (j2), .int .i64 (j3), .int .i64 (n), .int .i64 (j5), .int .i64 (j6), .int .i64 (j7), .int .i64 (j8)] _ _ 0 (blkN (g := w0.heap.size) (by omega) [.int .i64 n] _ 4 HK.out.2)
            clear c0 c1 c2 c3 c4 c5 c6 c7 c8 f0 f1 f2 f3 f4 f5 f6 f7 f8 g0 g1 g2 g3 g4 g5 g6 g7 g8 d0 d1 d2 d3 d4 d5 d6 d7 d8 HK
            change bodyPost _ _ _ _ _ (setN (setN w2 (w0.heap.size) 4 [.int .i64 n]) (w0.heap.size + 1) 0 [(.slice A l.length c), .int .i64 (j1), .int .i64 (j2), .int .i64 (j3), .int .i64 (n), .int .i64 (j5), .int .i64 (j6), .int .i64 (j7), .int .i64 (j8)])
            generalize hW7 : setN (setN w2 (w0.heap.size) 4 [.int .i64 n]) (w0.heap.size + 1) 0 [(.slice A l.length c), .int .i64 (j1), .int .i64 (j2), .int .i64 (j3), .int .i64 (n), .int .i64 (j5), .int .i64 (j6), .int .i64 (j7), .int .i64 (j8)] = W7 at K5 SE ⊢
            clear hW7
            obtain ⟨h0, h1, h2, h3, h4, h5, h6, h7, h8⟩ := Blk.job (v := (.slice A l.length c)) (j := (⟨l, j1, j2, j3, n, j5, j6, j7, j8⟩ : JobD)) K5
            clear K5
            refine bodyPost_ret (v := .agg #[(.slice A l.length c), .int .i64 (j1), .int .i64 (j2), .int .i64 (j3), .int .i64 (n), .int .i64 (j5), .int .i64 (j6), .int .i64 (j7), .int .i64 (j8)]) (by simp [results, Tryz.results118, go_sem, h0, h1, h2, h3, h4, h5, h6, h7, h8]) rfl ⟨_, (⟨l, j1, j2, j3, n, j5, j6, j7, j8⟩ : JobD), rfl, ⟨SE.own, SE.rdr.more (by omega), SE.gr, SE.lt⟩, by simpa using (by omega : l.length ≤ 8), ?_⟩
            refine ⟨?_, ?_, ?_, ?_, ?_, ?_, ?_, ?_⟩ <;> dsimp only <;> omega
        · go_wp2_with fail
          refine (num_k _ [0, 1, 2, 3, 13] (S1.out.bel (bel_alloc _ _)) (by omega) (lit_own _ [0, 1, 2, 3, 13] _ w.heap.size rfl (by omega) (by simp) (wf_lit (by simp))).ints (by simp) (lit_ne (by omega))).mono ?_
          rintro e w2 ⟨n, rfl, hn, hs, hg⟩
          have hn' : -9223372036854775808 ≤ n ∧ n ≤ 9223372036854775807 := by simp at hn; omega
          replace K3 := (K3.alloc _).grown hg (fun e => by injection e with e; omega)
          replace K4 := (K4.alloc _).grown hg (fun e => by injection e with e; omega)
          have zz := hg.size
          simp at zz
          have S2 := Lib.hid hs
          clear hs hg hn S1
          obtain ⟨c0, c1, c2, c3, c4, c5, c6, c7, c8⟩ := Blk.job (v := (.slice A l.length c)) (j := (⟨l, j1, j2, j3, j4, j5, j6, j7, j8⟩ : JobD)) K3
          obtain ⟨f0, f1, f2, f3, f4, f5, f6, f7, f8⟩ := K3.free
          obtain ⟨g0, g1, g2, g3, g4, g5, g6, g7, g8⟩ := K4.free
          obtain ⟨d0, d1, d2, d3, d4, d5, d6, d7, d8⟩ := Blk.job (v := .slice none 0 0) (j := zeroJ) K4
          have HK := Lib.hid (And.intro K3 K4)
          clear K3 K4
          go_wp2
          have SE := St.setN (b := w0.heap.size + 1) (by omega) HV.out.2 [(.slice A l.length c), .int .i64 (j1), .int .i64 (j2), .int .i64 (n), .int .i64 (j4), .int .i64 (j5), .int .i64 (j6), .int .i64 (j7), .int .i64 (j8)] _ 0 (St.setN (b := w0.heap.size) (by omega) HV.out.1 [.int .i64 n] _ 3 S2.out)
          have K5 := blkNown [(.slice A l.length c), .int .i64 (j1), .int .i64 (j2), .int .i64 (n), .int .i64 (j4), .int .i64 (j5), .int .i64 (j6), .int .i64 (j7), .int .i64 (j8)] _ _ 0 (blkN (g := w0.heap.size) (by omega) [.int .i64 n] _ 3 HK.out.2)
          clear c0 c1 c2 c3 c4 c5 c6 c7 c8 f0 f1 f2 f3 f4 f5 f6 f7 f8 g0 g1 g2 g3 g4 g5 g6 g7 g8 d0 d1 d2 d3 d4 d5 d6 d7 d8 HK
          change bodyPost _ _ _ _ _ (setN (setN w2 (w0.heap.size) 3 [.int .i64 n]) (w0.heap.size + 1) 0 [(.slice A l.length c), .int .i64 (j1), .int .i64 (j2), .int .i64 (n), .int .i64 (j4), .int .i64 (j5), .int .i64 (j6), .int .i64 (j7), .int .i64 (j8)])
          generalize hW7 : setN (setN w2 (w0.heap.size) 3 [.int .i64 n]) (w0.heap.size + 1) 0 [(.slice A l.length c), .int .i64 (j1), .int .i64 (j2), .int .i64 (n), .int .i64 (j4), .int .i64 (j5), .int .i64 (j6), .int .i64 (j7), .int .i64 (j8)] = W7 at K5 SE ⊢
          clear hW7
          obtain ⟨h0, h1, h2, h3, h4, h5, h6, h7, h8⟩ := Blk.job (v := (.slice A l.length c)) (j := (⟨l, j1, j2, n, j4, j5, j6, j7, j8⟩ : JobD)) K5
          clear K5
          refine bodyPost_ret (v := .agg #[(.slice A l.length c), .int .i64 (j1), .int .i64 (j2), .int .i64 (n), .int .i64 (j4), .int .i64 (j5), .int .i64 (j6), .int .i64 (j7), .int .i64 (j8)]) (by simp [results, Tryz.results118, go_sem, h0, h1, h2, h3, h4, h5, h6, h7, h8]) rfl ⟨_, (⟨l, j1, j2, n, j4, j5, j6, j7, j8⟩ : JobD), rfl, ⟨SE.own, SE.rdr.more (by omega), SE.gr, SE.lt⟩, by simpa using (by omega : l.length ≤ 8), ?_⟩
          refine ⟨?_, ?_, ?_, ?_, ?_, ?_, ?_, ?_⟩ <;> dsimp only <;> omega
      · go_wp2_with fail
        refine (num_k _ [0, 60, 61, -1] (S1.out.bel (bel_alloc _ _)) (by omega) (lit_own _ [0, 60, 61, -1] _ w.heap.size rfl (by omega) (by simp) (wf_lit (by simp))).ints (by simp) (lit_ne (by omega))).mono ?_
        rintro e w2 ⟨n, rfl, hn, hs, hg⟩
        have hn' : -9223372036854775808 ≤ n ∧ n ≤ 9223372036854775807 := by simp at hn; omega
        replace K3 := (K3.alloc _).grown hg (fun e => by injection e with e; omega)
        replace K4 := (K4.alloc _).grown hg (fun e => by injection e with e; omega)
        have zz := hg.size
        simp at zz
        have S2 := Lib.hid hs
        clear hs hg hn S1
        obtain ⟨c0, c1, c2, c3, c4, c5, c6, c7, c8⟩ := Blk.job (v := (.slice A l.length c)) (j := (⟨l, j1, j2, j3, j4, j5, j6, j7, j8⟩ : JobD)) K3
        obtain ⟨f0, f1, f2, f3, f4, f5, f6, f7, f8⟩ := K3.free
        obtain ⟨g0, g1, g2, g3, g4, g5, g6, g7, g8⟩ := K4.free
        obtain ⟨d0, d1, d2, d3, d4, d5, d6, d7, d8⟩ := Blk.job (v := .slice none 0 0) (j := zeroJ) K4
        have HK := Lib.hid (And.intro K3 K4)
        clear K3 K4
        go_wp2
        have SE := St.setN (b := w0.heap.size + 1) (by omega) HV.out.2 [(.slice A l.length c), .int .i64 (j1), .int .i64 (n), .int .i64 (j3), .int .i64 (j4), .int .i64 (j5), .int .i64 (j6), .int .i64 (j7), .int .i64 (j8)] _ 0 (St.setN (b := w0.heap.size) (by omega) HV.out.1 [.int .i64 n] _ 2 S2.out)
        have K5 := blkNown [(.slice A l.length c), .int .i64 (j1), .int .i64 (n), .int .i64 (j3), .int .i64 (j4), .int .i64 (j5), .int .i64 (j6), .int .i64 (j7), .int .i64 (j8)] _ _ 0 (blkN (g := w0.heap.size) (by omega) [.int .i64 n] _ 2 HK.out.2)
        clear c0 c1 c2 c3 c4 c5 c6 c7 c8 f0 f1 f2 f3 f4 f5 f6 f7 f8 g0 g1 g2 g3 g4 g5 g6 g7 g8 d0 d1 d2 d3 d4 d5 d6 d7 d8 HK
        change bodyPost _ _ _ _ _ (setN (setN w2 (w0.heap.size) 2 [.int .i64 n]) (w0.heap.size + 1) 0 [(.slice A l.length c), .int .i64 (j1), .int .i64 (n), .int .i64 (j3), .int .i64 (j4), .int .i64 (j5), .int .i64 (j6), .int .i64 (j7), .int .i64 (j8)])
        generalize hW7 : setN (setN w2 (w0.heap.size) 2 [.int .i64 n]) (w0.heap.size + 1) 0 [(.slice A l.length c), .int .i64 (j1), .int .i64 (n), .int .i64 (j3), .int .i64 (j4), .int .i64 (j5), .int .i64 (j6), .int .i64 (j7), .int .i64 (j8)] = W7 at K5 SE ⊢
        clear hW7
        obtain ⟨h0, h1, h2, h3, h4, h5, h6, h7, h8⟩ := Blk.job (v := (.slice A l.length c)) (j := (⟨l, j1, n, j3, j4, j5, j6, j7, j8⟩ : JobD)) K5
        clear K5
        refine bodyPost_ret (v := .agg #[(.slice A l.length c), .int .i64 (j1), .int .i64 (n), .int .i64 (j3), .int .i64 (j4), .int .i64 (j5), .int .i64 (j6), .int .i64 (j7), .int .i64 (j8)]) (by simp [results, Tryz.results118, go_sem, h0, h1, h2, h3, h4, h5, h6, h7, h8]) rfl ⟨_, (⟨l, j1, n, j3, j4, j5, j6, j7, j8⟩ : JobD), rfl, ⟨SE.own, SE.rdr.more (by omega), SE.gr, SE.lt⟩, by simpa using (by omega : l.length ≤ 8), ?_⟩
        refine ⟨?_, ?_, ?_, ?_, ?_, ?_, ?_, ?_⟩ <;> dsimp only <;> omega
    · go_wp2_with fail
      refine (num_k _ [-201, 199, 200, 9223372036854775807] (S1.out.bel (bel_alloc _ _)) (by omega) (lit_own _ [-201, 199, 200, 9223372036854775807] _ w.heap.size rfl (by omega) (by simp) (wf_lit (by simp))).ints (by simp) (lit_ne (by omega))).mono ?_
      rintro e w2 ⟨n, rfl, hn, hs, hg⟩
      have hn' : -9223372036854775808 ≤ n ∧ n ≤ 9223372036854775807 := by simp at hn; omega
      replace K3 := (K3.alloc _).grown hg (fun e => by injection e with e; omega)
      replace K4 := (K4.alloc _).grown hg (fun e => by injection e with e; omega)
      have zz := hg.size
      simp at zz
      have S2 := Lib.hid hs
      clear hs hg hn S1
      obtain ⟨c0, c1, c2, c3, c4, c5, c6, c7, c8⟩ := Blk.job (v := (.slice A l.length c)) (j := (⟨l, j1, j2, j3, j4, j5, j6, j7, j8⟩ : JobD)) K3
      obtain ⟨f0, f1, f2, f3, f4, f5, f6, f7, f8⟩ := K3.free
      obtain ⟨g0, g1, g2, g3, g4, g5, g6, g7, g8⟩ := K4.free
      obtain ⟨d0, d1, d2, d3, d4, d5, d6, d7, d8⟩ := Blk.job (v := .slice none 0 0) (j := zeroJ) K4
      have HK := Lib.hid (And.intro K3 K4)
      clear K3 K4
      go_wp2
      have SE := St.setN (b := w0.heap.size + 1) (by omega) HV.out.2 [(.slice A l.length c), .int .i64 (n), .int .i64 (j2), .int .i64 (j3), .int .i64 (j4), .int .i64 (j5), .int .i64 (j6), .int .i64 (j7), .int .i64 (j8)] _ 0 (St.setN (b := w0.heap.size) (by omega) HV.out.1 [.int .i64 n] _ 1 S2.out)
      have K5 := blkNown [(.slice A l.length c), .int .i64 (n), .int .i64 (j2), .int .i64 (j3), .int .i64 (j4), .int .i64 (j5), .int .i64 (j6), .int .i64 (j7), .int .i64 (j8)] _ _ 0 (blkN (g := w0.heap.size) (by omega) [.int .i64 n] _ 1 HK.out.2)
      clear c0 c1 c2 c3 c4 c5 c6 c7 c8 f0 f1 f2 f3 f4 f5 f6 f7 f8 g0 g1 g2 g3 g4 g5 g6 g7 g8 d0 d1 d2 d3 d4 d5 d6 d7 d8 HK
      change bodyPost _ _ _ _ _ (setN (setN w2 (w0.heap.size) 1 [.int .i64 n]) (w0.heap.size + 1) 0 [(.slice A l.length c), .int .i64 (n), .int .i64 (j2), .int .i64 (j3), .int .i64 (j4), .int .i64 (j5), .int .i64 (j6), .int .i64 (j7), .int .i64 (j8)])
      generalize hW7 : setN (setN w2 (w0.heap.size) 1 [.int .i64 n]) (w0.heap.size + 1) 0 [(.slice A l.length c), .int .i64 (n), .int .i64 (j2), .int .i64 (j3), .int .i64 (j4), .int .i64 (j5), .int .i64 (j6), .int .i64 (j7), .int .i64 (j8)] = W7 at K5 SE ⊢
      clear hW7
      obtain ⟨h0, h1, h2, h3, h4, h5, h6, h7, h8⟩ := Blk.job (v := (.slice A l.length c)) (j := (⟨l, n, j2, j3, j4, j5, j6, j7, j8⟩ : JobD)) K5
      clear K5
      refine bodyPost_ret (v := .agg #[(.slice A l.length c), .int .i64 (n), .int .i64 (j2), .int .i64 (j3), .int .i64 (j4), .int .i64 (j5), .int .i64 (j6), .int .i64 (j7), .int .i64 (j8)]) (by simp [results, Tryz.results118, go_sem, h0, h1, h2, h3, h4, h5, h6, h7, h8]) rfl ⟨_, (⟨l, n, j2, j3, j4, j5, j6, j7, j8⟩ : JobD), rfl, ⟨SE.own, SE.rdr.more (by omega), SE.gr, SE.lt⟩, by simpa using (by omega : l.length ≤ 8), ?_⟩
      refine ⟨?_, ?_, ?_, ?_, ?_, ?_, ?_, ?_⟩ <;> dsimp only <;> omega
  · obtain ⟨a0, -⟩ := Blk.job (v := (.slice A l.length c)) (j := ⟨l, j1, j2, j3, j4, j5, j6, j7, j8⟩) K3
    go_wp2_with fail
    clear a0
    refine (l2Bad_any g _ w _ _ l S1.out (by omega) (by omega) (by omega)).mono ?_
    rintro e w2 ⟨v2, l2, rfl, hs, l8, hk⟩
    obtain ⟨k3, n3⟩ := hk.2 _ _ _ K3 (by omega) (fun e => HV.out.1 _ e rfl)
    obtain ⟨k4, n4⟩ := hk.2 _ _ _ K4 (by omega) (fun e => HV.out.2 _ e rfl)
    replace K3 := k3
    replace K4 := k4
    obtain ⟨A2, cc2, rfl, -, -, -⟩ := hs.own.ints.open_
    have S2 := Lib.hid hs
    have zz := hk.1
    have HV2 := Lib.hid (show (∀ k, (Value.slice A2 l2.length cc2).ownBlock = some k → k ≠ w0.heap.size) ∧ (∀ k, (Value.slice A2 l2.length cc2).ownBlock = some k → k ≠ w0.heap.size + 1) from ⟨fun k hk e => n3 (by rw [hk, e]), fun k hk e => n4 (by rw [hk, e])⟩)
    clear k3 k4 hs hk n3 n4 S1 HV
    obtain ⟨c0, c1, c2, c3, c4, c5, c6, c7, c8⟩ := Blk.job (v := (.slice A l.length c)) (j := (⟨l, j1, j2, j3, j4, j5, j6, j7, j8⟩ : JobD)) K3
    obtain ⟨f0, f1, f2, f3, f4, f5, f6, f7, f8⟩ := K3.free
    obtain ⟨g0, g1, g2, g3, g4, g5, g6, g7, g8⟩ := K4.free
    obtain ⟨d0, d1, d2, d3, d4, d5, d6, d7, d8⟩ := Blk.job (v := .slice none 0 0) (j := zeroJ) K4
    have HK := Lib.hid (And.intro K3 K4)
    clear K3 K4
    go_wp2
    have SE := St.setN (b := w0.heap.size + 1) (by omega) HV2.out.2 [(.slice A2 l2.length cc2), .int .i64 (j1), .int .i64 (j2), .int .i64 (j3), .int .i64 (j4), .int .i64 (j5), .int .i64 (j6), .int .i64 (j7), .int .i64 (j8)] _ 0 (St.setN (b := w0.heap.size) (by omega) HV2.out.1 [(.slice A2 l2.length cc2)] _ 0 S2.out)
    have K5 := blkNown [(.slice A2 l2.length cc2), .int .i64 (j1), .int .i64 (j2), .int .i64 (j3), .int .i64 (j4), .int .i64 (j5), .int .i64 (j6), .int .i64 (j7), .int .i64 (j8)] _ _ 0 (blkN (g := w0.heap.size) (by omega) [(.slice A2 l2.length cc2)] _ 0 HK.out.2)
    clear c0 c1 c2 c3 c4 c5 c6 c7 c8 f0 f1 f2 f3 f4 f5 f6 f7 f8 g0 g1 g2 g3 g4 g5 g6 g7 g8 d0 d1 d2 d3 d4 d5 d6 d7 d8 HK
    change bodyPost _ _ _ _ _ (setN (setN w2 (w0.heap.size) 0 [(.slice A2 l2.length cc2)]) (w0.heap.size + 1) 0 [(.slice A2 l2.length cc2), .int .i64 (j1), .int .i64 (j2), .int .i64 (j3), .int .i64 (j4), .int .i64 (j5), .int .i64 (j6), .int .i64 (j7), .int .i64 (j8)])
    generalize hW7 : setN (setN w2 (w0.heap.size) 0 [(.slice A2 l2.length cc2)]) (w0.heap.size + 1) 0 [(.slice A2 l2.length cc2), .int .i64 (j1), .int .i64 (j2), .int .i64 (j3), .int .i64 (j4), .int .i64 (j5), .int .i64 (j6), .int .i64 (j7), .int .i64 (j8)] = W7 at K5 SE ⊢
    clear hW7
    obtain ⟨h0, h1, h2, h3, h4, h5, h6, h7, h8⟩ := Blk.job (v := (.slice A2 l2.length cc2)) (j := (⟨l2, j1, j2, j3, j4, j5, j6, j7, j8⟩ : JobD)) K5
    clear K5
    refine bodyPost_ret (v := .agg #[(.slice A2 l2.length cc2), .int .i64 (j1), .int .i64 (j2), .int .i64 (j3), .int .i64 (j4), .int .i64 (j5), .int .i64 (j6), .int .i64 (j7), .int .i64 (j8)]) (by simp [results, Tryz.results118, go_sem, h0, h1, h2, h3, h4, h5, h6, h7, h8]) rfl ⟨_, (⟨l2, j1, j2, j3, j4, j5, j6, j7, j8⟩ : JobD), rfl, ⟨SE.own, SE.rdr.more (by omega), SE.gr, SE.lt⟩, by simpa using l8, ?_⟩
    refine ⟨?_, ?_, ?_, ?_, ?_, ?_, ?_, ?_⟩ <;> dsimp only <;> omega

/-- A drawn job. -/
def DrawnJobD (w : World) (e : Ending) (w' : World) : Prop :=
  ∃ v j, e = .returned (jobV v j) ∧ Own w' w.heap.size v j.poly ∧ j.poly.length ≤ 8 ∧ j.In ∧ Below w.heap.size w w'
set_option maxHeartbeats 2000000 in
theorem drawJobValid_any (v : Value) (code : List Int) (w : World) (hv : Bytes w v code) :
    Calls Tryz.prog 48 #[v] w (DrawnJobD w) := by
  have HV := Lib.hid hv
  have K4 := Blk.new w 27 (jobC (.slice none 0 0) zeroJ)
  clear hv
  go_enter Tryz.func48, Tryz.ntmps48
  go_wp2_with fail
  change Calls _ _ _ (w.alloc (.cells (jobC (.slice none 0 0) zeroJ).toArray 27)) _
  generalize hW : w.alloc (.cells (jobC (.slice none 0 0) zeroJ).toArray 27) = W at *
  have hwz : W.heap.size = w.heap.size + 1 := by rw [← hW]; simp
  have hbW : Below w.heap.size w W := by rw [← hW]; exact bel_alloc w _
  clear hW
  refine (l9Open_any v code _ (HV.out.bel hbW)).mono ?_
  rintro e w1 ⟨g, rfl, hg, hr1, hb1⟩
  have lg1 := hr1.lt
  have z1 := hb1.size
  replace K4 := K4.below hb1 K4.lt
  have H1 := Lib.hid (And.intro hr1 (bel_trans hbW hb1))
  clear hr1 hb1 hbW HV
  have K1 := K4
  go_wp2_with fail
  refine (l8Some_any g 0 _ H1.out.1 (by omega)).mono ?_
  rintro e w2 ⟨vj, j, rfl, hs2, l16, hj⟩
  replace K4 := K4.grown hs2.gr (fun e => by injection e with e; omega)
  have S2 := Lib.hid hs2
  have HJ := Lib.hid hj
  have z2 := hs2.gr.size
  clear hs2 hj
  go_wp2_with fail
  refine (l8Bad_any g _ w1 _ _ _ S2.out HJ.out l16 (by omega)).mono ?_
  rintro e w3 ⟨vk, k, rfl, hs3, l8, hk⟩
  obtain ⟨l, j1, j2, j3, j4, j5, j6, j7, j8⟩ := k
  have K5 := K1.grown hs3.gr (fun e => by injection e with e; omega)
  dsimp only at hs3 l8
  have S3 := Lib.hid (And.intro hs3.own (And.intro l8 (And.intro hk (H1.out.2.trans (grown_below (B := w.heap.size) hs3.gr (by omega) (by omega))))))
  obtain ⟨A, c, rfl, -, -, -⟩ := hs3.own.ints.open_
  have hbb : w.heap.size < w1.heap.size := by omega
  clear K4 K1 S2 HJ hs3 hk l8
  obtain ⟨f0, f1, f2, f3, f4, f5, f6, f7, f8⟩ := K5.free
  obtain ⟨d0, d1, d2, d3, d4, d5, d6, d7, d8⟩ := Blk.job (v := .slice none 0 0) (j := zeroJ) K5
  have HK := Lib.hid K5
  clear K5
  unfold jobV
  go_wp2
  clear f0 f1 f2 f3 f4 f5 f6 f7 f8 d0 d1 d2 d3 d4 d5 d6 d7 d8
  have BE := belN (B := w.heap.size) (g := w.heap.size) (Nat.le_refl _) [.slice A l.length c, .int .i64 (j1), .int .i64 (j2), .int .i64 (j3), .int .i64 (j4), .int .i64 (j5), .int .i64 (j6), .int .i64 (j7), .int .i64 (j8)] _ 0 S3.out.2.2.2
  have K5 := blkNown [.slice A l.length c, .int .i64 (j1), .int .i64 (j2), .int .i64 (j3), .int .i64 (j4), .int .i64 (j5), .int .i64 (j6), .int .i64 (j7), .int .i64 (j8)] _ _ 0 HK.out
  have SE := (ownN (g := w.heap.size) hbb [.slice A l.length c, .int .i64 (j1), .int .i64 (j2), .int .i64 (j3), .int .i64 (j4), .int .i64 (j5), .int .i64 (j6), .int .i64 (j7), .int .i64 (j8)] _ 0 S3.out.1).lower (base' := w.heap.size) (by omega)
  change bodyPost _ _ _ _ _ (setN w3 (w.heap.size) 0 [.slice A l.length c, .int .i64 (j1), .int .i64 (j2), .int .i64 (j3), .int .i64 (j4), .int .i64 (j5), .int .i64 (j6), .int .i64 (j7), .int .i64 (j8)])
  generalize hW7 : setN w3 (w.heap.size) 0 [.slice A l.length c, .int .i64 (j1), .int .i64 (j2), .int .i64 (j3), .int .i64 (j4), .int .i64 (j5), .int .i64 (j6), .int .i64 (j7), .int .i64 (j8)] = W7 at K5 SE BE ⊢
  clear hW7
  obtain ⟨h0, h1, h2, h3, h4, h5, h6, h7, h8⟩ := Blk.job (v := .slice A l.length c) (j := ⟨l, j1, j2, j3, j4, j5, j6, j7, j8⟩) K5
  refine bodyPost_ret (v := .agg #[.slice A l.length c, .int .i64 (j1), .int .i64 (j2), .int .i64 (j3), .int .i64 (j4), .int .i64 (j5), .int .i64 (j6), .int .i64 (j7), .int .i64 (j8)]) (by simp [results, Tryz.results48, go_sem, h0, h1, h2, h3, h4, h5, h6, h7, h8]) rfl ⟨_, ⟨l, j1, j2, j3, j4, j5, j6, j7, j8⟩, rfl, SE, S3.out.2.1, S3.out.2.2.1, BE⟩

end Go.Proofs.YtpniljcnknknoaaGreatDoor
