/-
  Jobs parsed: ParseJob (impl; printed by gen_pjm.py).
-/
import Derived.Test.YtdmadaebeooaaaaGreatDoorPjL
namespace Go.Proofs.YtdmadaebeooaaaaGreatDoor
open Go.RowKit
set_option linter.unusedVariables false
set_option linter.unusedSimpArgs false
set_option maxRecDepth 100000
attribute [local go_sem ↓] Go.wp_at_zero Go.wp_at_succ

theorem row3' {w : World} {base c : Nat} {A : Option Addr} {l : List Int} (h : Own w base (.slice A l.length c) l) (hl : l.length = 3) : ∃ b, A = some ⟨b, 0, none⟩ ∧ 3 ≤ c ∧
    (w.cell? ⟨b, 0, none⟩ = some (.int .i64 (at_ l 0)) ∧ w.cell? ⟨b, 1, none⟩ = some (.int .i64 (at_ l 1)) ∧ w.cell? ⟨b, 2, none⟩ = some (.int .i64 (at_ l 2))) := by
  obtain ⟨b, c2, e, h1, h2, h3, h4⟩ := row3 h hl
  injection e with e1 e2 e3
  subst e3
  exact ⟨b, e1, h3, h4⟩
theorem row2' {w : World} {base c : Nat} {A : Option Addr} {l : List Int} (h : Own w base (.slice A l.length c) l) (hl : l.length = 2) : ∃ b, A = some ⟨b, 0, none⟩ ∧ 2 ≤ c ∧
    (w.cell? ⟨b, 0, none⟩ = some (.int .i64 (at_ l 0)) ∧ w.cell? ⟨b, 1, none⟩ = some (.int .i64 (at_ l 1))) := by
  obtain ⟨b, c2, e, h1, h2, h3, h4⟩ := row2 h hl
  injection e with e1 e2 e3
  subst e3
  exact ⟨b, e1, h3, h4⟩
theorem spL_sm (t : ByteArray) : Sm (spL t) := by
  unfold spL
  split
  · exact numsV_sm t
  · intro x hx; simp at hx
theorem spL_bd (t : ByteArray) (i : Nat) : -9223372036854775808 ≤ at_ (spL t) i ∧ at_ (spL t) i ≤ 9223372036854775807 := by
  have := sm_at (spL_sm t) i
  omega

set_option maxHeartbeats 8000000 in
theorem implPJ_any (t : ByteArray) (w : World) (ht : t.size ≤ 1048576) (hg : Glb w) :
    Calls Tryz.prog 13 #[.string t] w fun e w' => JobE w' w.heap.size (spR t) e ∧ Below w.heap.size w w' := by
  have K0 := Blk.new w 32 (jobC (.slice none 0 0) zeroJ)
  have B0 := bel_alloc w (.cells (jobC (.slice none 0 0) zeroJ).toArray 32)
  have HG := Lib.hid hg
  clear hg
  go_enter Tryz.func13, Tryz.ntmps13
  go_wp2_with fail
  change Calls _ _ _ (w.alloc (.cells (jobC (.slice none 0 0) zeroJ).toArray 32)) _
  generalize hW : w.alloc (.cells (jobC (.slice none 0 0) zeroJ).toArray 32) = w1 at *
  have hz1 : w1.heap.size = w.heap.size + 1 := by rw [← hW]; simp
  clear hW
  refine (split_any t 59 _ ht (HG.out.bel B0)).mono ?_
  rintro e w2 ⟨A, rfl, o, b⟩
  have hz21 : w.heap.size + 1 ≤ w2.heap.size := by rw [← hz1]; exact b.size
  replace K0 := K0.below b K0.lt
  have HK := Lib.hid K0
  have HB := Lib.hid (bel_trans B0 b)
  have HP := Lib.hid o.strs
  have hcl := cutS_le 59 t
  obtain ⟨ls, hls⟩ : ∃ ls, cutS 59 t = ls := ⟨_, rfl⟩
  have HLS := Lib.hid hls
  rw [hls] at HP hcl
  rw [hls]
  clear B0 o b hls K0
  by_cases hlen : ls.length = 4
  · have HLN := Lib.hid (show (cutS 59 t).length = 4 by rw [HLS.out]; exact hlen)
    have g0 : (sat ls 0).size ≤ 1048576 := by rw [← HLS.out]; exact grp_size ht HLN.out (i := 0) (by omega)
    have g1 : (sat ls 1).size ≤ 1048576 := by rw [← HLS.out]; exact grp_size ht HLN.out (i := 1) (by omega)
    have g2 : (sat ls 2).size ≤ 1048576 := by rw [← HLS.out]; exact grp_size ht HLN.out (i := 2) (by omega)
    have g3 : (sat ls 3).size ≤ 1048576 := by rw [← HLS.out]; exact grp_size ht HLN.out (i := 3) (by omega)
    obtain ⟨b, o, rfl, hbb, p0, p1, p2, p3⟩ := parts4 HP.out hlen
    rw [hlen] at HP ⊢
    have HJ := Lib.hid (show imJ t = ⟨ppL (sat ls 0), at_ (spL (sat ls 1)) 0, at_ (spL (sat ls 1)) 1, at_ (spL (sat ls 1)) 2, at_ (spL (sat ls 2)) 0, at_ (spL (sat ls 2)) 1, at_ (spL (sat ls 3)) 0, at_ (spL (sat ls 3)) 1, at_ (spL (sat ls 3)) 2⟩ by unfold imJ grp; rw [HLS.out])
    have HI := Lib.hid (show ImOk t ↔ (cutS 59 t).length = 4 ∧ ppOk (sat ls 0) = true ∧ numsOk (sat ls 1) = true ∧ numsOk (sat ls 2) = true ∧ numsOk (sat ls 3) = true ∧ (spL (sat ls 1)).length = 3 ∧ (spL (sat ls 2)).length = 2 ∧ (spL (sat ls 3)).length = 3 ∧ jobOk (imJ t) = true by unfold ImOk grp; rw [HLS.out])
    obtain ⟨G0, hG0⟩ : ∃ G, sat ls 0 = G := ⟨_, rfl⟩
    obtain ⟨G1, hG1⟩ : ∃ G, sat ls 1 = G := ⟨_, rfl⟩
    obtain ⟨G2, hG2⟩ : ∃ G, sat ls 2 = G := ⟨_, rfl⟩
    obtain ⟨G3, hG3⟩ : ∃ G, sat ls 3 = G := ⟨_, rfl⟩
    rw [hG0] at g0 p0 HJ HI
    rw [hG1] at g1 p1 HJ HI
    rw [hG2] at g2 p2 HJ HI
    rw [hG3] at g3 p3 HJ HI
    clear hG0 hG1 hG2 hG3 hlen HLS HP hcl
    go_wp2_with fail
    refine (implPP_any G0 _ g0 (HG.out.bel HB.out)).mono ?_
    rintro e w3 ⟨r0, rfl, o0, b3⟩
    replace HK := Lib.hid (HK.out.below b3 HK.out.lt)
    replace HB := Lib.hid (bel_trans HB.out b3)
    replace p1 := (b3.cell hbb).trans p1
    replace p2 := (b3.cell hbb).trans p2
    replace p3 := (b3.cell hbb).trans p3
    replace hbb := Nat.lt_of_lt_of_le hbb b3.size
    clear b3 p0
    go_wp2_with fail
    refine (splitNum_any G1 _ g1 (HG.out.bel HB.out)).mono ?_
    rintro e w4 ⟨r1, rfl, o1, b4⟩
    replace HK := Lib.hid (HK.out.below b4 HK.out.lt)
    replace HB := Lib.hid (bel_trans HB.out b4)
    replace p2 := (b4.cell hbb).trans p2
    replace p3 := (b4.cell hbb).trans p3
    replace hbb := Nat.lt_of_lt_of_le hbb b4.size
    replace o0 := o0.bel b4
    clear b4 p1
    go_wp2_with fail
    refine (splitNum_any G2 _ g2 (HG.out.bel HB.out)).mono ?_
    rintro e w5 ⟨r2, rfl, o2, b5⟩
    replace HK := Lib.hid (HK.out.below b5 HK.out.lt)
    replace HB := Lib.hid (bel_trans HB.out b5)
    replace p3 := (b5.cell hbb).trans p3
    replace hbb := Nat.lt_of_lt_of_le hbb b5.size
    replace o0 := o0.bel b5
    replace o1 := o1.bel b5
    clear b5 p2
    go_wp2_with fail
    refine (splitNum_any G3 _ g3 (HG.out.bel HB.out)).mono ?_
    rintro e w6 ⟨r3, rfl, o3, b6⟩
    replace HK := Lib.hid (HK.out.below b6 HK.out.lt)
    replace HB := Lib.hid (bel_trans HB.out b6)
    have O0 := Lib.hid ((o0.bel b6).lower hz21)
    have O1 := Lib.hid (o1.bel b6)
    have O2 := Lib.hid (o2.bel b6)
    have O3 := Lib.hid o3
    clear b6 p3 o0 o1 o2 o3 hbb
    obtain ⟨A0, c0, rfl, -, -, -⟩ := O0.out.ints.open_
    obtain ⟨A1, c1, rfl, -, -, -⟩ := O1.out.ints.open_
    obtain ⟨A2, c2, rfl, -, -, -⟩ := O2.out.ints.open_
    obtain ⟨A3, c3, rfl, -, -, -⟩ := O3.out.ints.open_
    obtain ⟨L1, hL1⟩ : ∃ L, spL G1 = L := ⟨_, rfl⟩
    obtain ⟨L2, hL2⟩ : ∃ L, spL G2 = L := ⟨_, rfl⟩
    obtain ⟨L3, hL3⟩ : ∃ L, spL G3 = L := ⟨_, rfl⟩
    have d1 := spL_bd G1
    have d2 := spL_bd G2
    have d3 := spL_bd G3
    rw [hL1] at O1 HJ HI d1
    rw [hL2] at O2 HJ HI d2
    rw [hL3] at O3 HJ HI d3
    have hJin : (imJ t).In := by
      rw [HJ.out]
      constructor
      exact d1 0
      exact d1 1
      exact d1 2
      exact d2 0
      exact d2 1
      exact d3 0
      exact d3 1
      exact d3 2
    have HJI := Lib.hid hJin
    rw [hL1, hL2, hL3]
    clear hL1 hL2 hL3 d1 d2 d3 hJin
    obtain ⟨q0, hq0⟩ : ∃ q, ppOk G0 = q := ⟨_, rfl⟩
    obtain ⟨q1, hq1⟩ : ∃ q, numsOk G1 = q := ⟨_, rfl⟩
    obtain ⟨q2, hq2⟩ : ∃ q, numsOk G2 = q := ⟨_, rfl⟩
    obtain ⟨q3, hq3⟩ : ∃ q, numsOk G3 = q := ⟨_, rfl⟩
    rw [hq0, hq1, hq2] at HI ⊢
    rw [hq3] at HI ⊢
    clear hq0 hq1 hq2 hq3
    cases q0
    · have HR := Lib.hid (spR_bad (t := t) fun hh => by have h := HI.out.1 hh; exact Bool.noConfusion h.2.1)
      obtain ⟨c0', c1', c2', c3', c4', c5', c6', c7', c8'⟩ := HK.out.job
      obtain ⟨f0, f1, f2, f3, f4, f5, f6, f7, f8⟩ := HK.out.free
      go_wp2_with fail
      have KE := blkNown [.slice none 0 0, .int .i64 0, .int .i64 0, .int .i64 0, .int .i64 0, .int .i64 0, .int .i64 0, .int .i64 0, .int .i64 0] _ _ 0 HK.out
      have BE := belN (g := w.heap.size) (Nat.le_refl _) [.slice none 0 0, .int .i64 0, .int .i64 0, .int .i64 0, .int .i64 0, .int .i64 0, .int .i64 0, .int .i64 0, .int .i64 0] _ 0 HB.out
      clear c0' c1' c2' c3' c4' c5' c6' c7' c8' f0 f1 f2 f3 f4 f5 f6 f7 f8 
      change bodyPost _ _ _ _ _ (setN w6 w.heap.size 0 [.slice none 0 0, .int .i64 0, .int .i64 0, .int .i64 0, .int .i64 0, .int .i64 0, .int .i64 0, .int .i64 0, .int .i64 0])
      generalize hW7 : setN w6 w.heap.size 0 [.slice none 0 0, .int .i64 0, .int .i64 0, .int .i64 0, .int .i64 0, .int .i64 0, .int .i64 0, .int .i64 0, .int .i64 0] = W7 at KE BE ⊢
      clear hW7
      obtain ⟨h0, h1, h2, h3, h4, h5, h6, h7, h8⟩ := Blk.job (v := .slice none 0 0) (j := zeroJ) KE
      refine bodyPost_ret (v := .tuple #[jobV (.slice none 0 0) zeroJ, .bool false]) (by simp [jobV, results, Tryz.results13, go_sem, h0, h1, h2, h3, h4, h5, h6, h7, h8]) rfl ⟨⟨_, by rw [HR.out], by rw [HR.out]; exact Own.nil_ _ _, by rw [HR.out]; exact zeroJ_in⟩, BE⟩
    · skip
      cases q1
      · have HR := Lib.hid (spR_bad (t := t) fun hh => by have h := HI.out.1 hh; exact Bool.noConfusion h.2.2.1)
        obtain ⟨c0', c1', c2', c3', c4', c5', c6', c7', c8'⟩ := HK.out.job
        obtain ⟨f0, f1, f2, f3, f4, f5, f6, f7, f8⟩ := HK.out.free
        go_wp2_with fail
        have KE := blkNown [.slice none 0 0, .int .i64 0, .int .i64 0, .int .i64 0, .int .i64 0, .int .i64 0, .int .i64 0, .int .i64 0, .int .i64 0] _ _ 0 HK.out
        have BE := belN (g := w.heap.size) (Nat.le_refl _) [.slice none 0 0, .int .i64 0, .int .i64 0, .int .i64 0, .int .i64 0, .int .i64 0, .int .i64 0, .int .i64 0, .int .i64 0] _ 0 HB.out
        clear c0' c1' c2' c3' c4' c5' c6' c7' c8' f0 f1 f2 f3 f4 f5 f6 f7 f8 
        change bodyPost _ _ _ _ _ (setN w6 w.heap.size 0 [.slice none 0 0, .int .i64 0, .int .i64 0, .int .i64 0, .int .i64 0, .int .i64 0, .int .i64 0, .int .i64 0, .int .i64 0])
        generalize hW7 : setN w6 w.heap.size 0 [.slice none 0 0, .int .i64 0, .int .i64 0, .int .i64 0, .int .i64 0, .int .i64 0, .int .i64 0, .int .i64 0, .int .i64 0] = W7 at KE BE ⊢
        clear hW7
        obtain ⟨h0, h1, h2, h3, h4, h5, h6, h7, h8⟩ := Blk.job (v := .slice none 0 0) (j := zeroJ) KE
        refine bodyPost_ret (v := .tuple #[jobV (.slice none 0 0) zeroJ, .bool false]) (by simp [jobV, results, Tryz.results13, go_sem, h0, h1, h2, h3, h4, h5, h6, h7, h8]) rfl ⟨⟨_, by rw [HR.out], by rw [HR.out]; exact Own.nil_ _ _, by rw [HR.out]; exact zeroJ_in⟩, BE⟩
      · skip
        cases q2
        · have HR := Lib.hid (spR_bad (t := t) fun hh => by have h := HI.out.1 hh; exact Bool.noConfusion h.2.2.2.1)
          obtain ⟨c0', c1', c2', c3', c4', c5', c6', c7', c8'⟩ := HK.out.job
          obtain ⟨f0, f1, f2, f3, f4, f5, f6, f7, f8⟩ := HK.out.free
          go_wp2_with fail
          have KE := blkNown [.slice none 0 0, .int .i64 0, .int .i64 0, .int .i64 0, .int .i64 0, .int .i64 0, .int .i64 0, .int .i64 0, .int .i64 0] _ _ 0 HK.out
          have BE := belN (g := w.heap.size) (Nat.le_refl _) [.slice none 0 0, .int .i64 0, .int .i64 0, .int .i64 0, .int .i64 0, .int .i64 0, .int .i64 0, .int .i64 0, .int .i64 0] _ 0 HB.out
          clear c0' c1' c2' c3' c4' c5' c6' c7' c8' f0 f1 f2 f3 f4 f5 f6 f7 f8 
          change bodyPost _ _ _ _ _ (setN w6 w.heap.size 0 [.slice none 0 0, .int .i64 0, .int .i64 0, .int .i64 0, .int .i64 0, .int .i64 0, .int .i64 0, .int .i64 0, .int .i64 0])
          generalize hW7 : setN w6 w.heap.size 0 [.slice none 0 0, .int .i64 0, .int .i64 0, .int .i64 0, .int .i64 0, .int .i64 0, .int .i64 0, .int .i64 0, .int .i64 0] = W7 at KE BE ⊢
          clear hW7
          obtain ⟨h0, h1, h2, h3, h4, h5, h6, h7, h8⟩ := Blk.job (v := .slice none 0 0) (j := zeroJ) KE
          refine bodyPost_ret (v := .tuple #[jobV (.slice none 0 0) zeroJ, .bool false]) (by simp [jobV, results, Tryz.results13, go_sem, h0, h1, h2, h3, h4, h5, h6, h7, h8]) rfl ⟨⟨_, by rw [HR.out], by rw [HR.out]; exact Own.nil_ _ _, by rw [HR.out]; exact zeroJ_in⟩, BE⟩
        · skip
          cases q3
          · have HR := Lib.hid (spR_bad (t := t) fun hh => by have h := HI.out.1 hh; exact Bool.noConfusion h.2.2.2.2.1)
            obtain ⟨c0', c1', c2', c3', c4', c5', c6', c7', c8'⟩ := HK.out.job
            obtain ⟨f0, f1, f2, f3, f4, f5, f6, f7, f8⟩ := HK.out.free
            go_wp2_with fail
            have KE := blkNown [.slice none 0 0, .int .i64 0, .int .i64 0, .int .i64 0, .int .i64 0, .int .i64 0, .int .i64 0, .int .i64 0, .int .i64 0] _ _ 0 HK.out
            have BE := belN (g := w.heap.size) (Nat.le_refl _) [.slice none 0 0, .int .i64 0, .int .i64 0, .int .i64 0, .int .i64 0, .int .i64 0, .int .i64 0, .int .i64 0, .int .i64 0] _ 0 HB.out
            clear c0' c1' c2' c3' c4' c5' c6' c7' c8' f0 f1 f2 f3 f4 f5 f6 f7 f8 
            change bodyPost _ _ _ _ _ (setN w6 w.heap.size 0 [.slice none 0 0, .int .i64 0, .int .i64 0, .int .i64 0, .int .i64 0, .int .i64 0, .int .i64 0, .int .i64 0, .int .i64 0])
            generalize hW7 : setN w6 w.heap.size 0 [.slice none 0 0, .int .i64 0, .int .i64 0, .int .i64 0, .int .i64 0, .int .i64 0, .int .i64 0, .int .i64 0, .int .i64 0] = W7 at KE BE ⊢
            clear hW7
            obtain ⟨h0, h1, h2, h3, h4, h5, h6, h7, h8⟩ := Blk.job (v := .slice none 0 0) (j := zeroJ) KE
            refine bodyPost_ret (v := .tuple #[jobV (.slice none 0 0) zeroJ, .bool false]) (by simp [jobV, results, Tryz.results13, go_sem, h0, h1, h2, h3, h4, h5, h6, h7, h8]) rfl ⟨⟨_, by rw [HR.out], by rw [HR.out]; exact Own.nil_ _ _, by rw [HR.out]; exact zeroJ_in⟩, BE⟩
          · skip
            by_cases hn0 : L1.length = 3
            case neg =>
              have HR := Lib.hid (spR_bad (t := t) fun hh => by have h := HI.out.1 hh; exact hn0 h.2.2.2.2.2.1)
              have hb0 : ((L1.length : Int) == 3) = false := by simp; omega
              have hi0 : ¬ (L1.length : Int) = 3 := by omega
              obtain ⟨c0', c1', c2', c3', c4', c5', c6', c7', c8'⟩ := HK.out.job
              obtain ⟨f0, f1, f2, f3, f4, f5, f6, f7, f8⟩ := HK.out.free
              go_wp2_with fail
              have KE := blkNown [.slice none 0 0, .int .i64 0, .int .i64 0, .int .i64 0, .int .i64 0, .int .i64 0, .int .i64 0, .int .i64 0, .int .i64 0] _ _ 0 HK.out
              have BE := belN (g := w.heap.size) (Nat.le_refl _) [.slice none 0 0, .int .i64 0, .int .i64 0, .int .i64 0, .int .i64 0, .int .i64 0, .int .i64 0, .int .i64 0, .int .i64 0] _ 0 HB.out
              clear c0' c1' c2' c3' c4' c5' c6' c7' c8' f0 f1 f2 f3 f4 f5 f6 f7 f8 
              change bodyPost _ _ _ _ _ (setN w6 w.heap.size 0 [.slice none 0 0, .int .i64 0, .int .i64 0, .int .i64 0, .int .i64 0, .int .i64 0, .int .i64 0, .int .i64 0, .int .i64 0])
              generalize hW7 : setN w6 w.heap.size 0 [.slice none 0 0, .int .i64 0, .int .i64 0, .int .i64 0, .int .i64 0, .int .i64 0, .int .i64 0, .int .i64 0, .int .i64 0] = W7 at KE BE ⊢
              clear hW7
              obtain ⟨h0, h1, h2, h3, h4, h5, h6, h7, h8⟩ := Blk.job (v := .slice none 0 0) (j := zeroJ) KE
              refine bodyPost_ret (v := .tuple #[jobV (.slice none 0 0) zeroJ, .bool false]) (by simp [jobV, results, Tryz.results13, go_sem, h0, h1, h2, h3, h4, h5, h6, h7, h8]) rfl ⟨⟨_, by rw [HR.out], by rw [HR.out]; exact Own.nil_ _ _, by rw [HR.out]; exact zeroJ_in⟩, BE⟩
            obtain ⟨n1, rfl, v1, z1⟩ := row3' O1.out hn0
            rw [hn0]
            have HN0 := Lib.hid hn0
            clear hn0
            by_cases hn1 : L2.length = 2
            case neg =>
              have HR := Lib.hid (spR_bad (t := t) fun hh => by have h := HI.out.1 hh; exact hn1 h.2.2.2.2.2.2.1)
              have hb1 : ((L2.length : Int) == 2) = false := by simp; omega
              have hi1 : ¬ (L2.length : Int) = 2 := by omega
              obtain ⟨c0', c1', c2', c3', c4', c5', c6', c7', c8'⟩ := HK.out.job
              obtain ⟨f0, f1, f2, f3, f4, f5, f6, f7, f8⟩ := HK.out.free
              go_wp2_with fail
              have KE := blkNown [.slice none 0 0, .int .i64 0, .int .i64 0, .int .i64 0, .int .i64 0, .int .i64 0, .int .i64 0, .int .i64 0, .int .i64 0] _ _ 0 HK.out
              have BE := belN (g := w.heap.size) (Nat.le_refl _) [.slice none 0 0, .int .i64 0, .int .i64 0, .int .i64 0, .int .i64 0, .int .i64 0, .int .i64 0, .int .i64 0, .int .i64 0] _ 0 HB.out
              clear c0' c1' c2' c3' c4' c5' c6' c7' c8' f0 f1 f2 f3 f4 f5 f6 f7 f8 
              change bodyPost _ _ _ _ _ (setN w6 w.heap.size 0 [.slice none 0 0, .int .i64 0, .int .i64 0, .int .i64 0, .int .i64 0, .int .i64 0, .int .i64 0, .int .i64 0, .int .i64 0])
              generalize hW7 : setN w6 w.heap.size 0 [.slice none 0 0, .int .i64 0, .int .i64 0, .int .i64 0, .int .i64 0, .int .i64 0, .int .i64 0, .int .i64 0, .int .i64 0] = W7 at KE BE ⊢
              clear hW7
              obtain ⟨h0, h1, h2, h3, h4, h5, h6, h7, h8⟩ := Blk.job (v := .slice none 0 0) (j := zeroJ) KE
              refine bodyPost_ret (v := .tuple #[jobV (.slice none 0 0) zeroJ, .bool false]) (by simp [jobV, results, Tryz.results13, go_sem, h0, h1, h2, h3, h4, h5, h6, h7, h8]) rfl ⟨⟨_, by rw [HR.out], by rw [HR.out]; exact Own.nil_ _ _, by rw [HR.out]; exact zeroJ_in⟩, BE⟩
            obtain ⟨n2, rfl, v2, z2⟩ := row2' O2.out hn1
            rw [hn1]
            have HN1 := Lib.hid hn1
            clear hn1
            by_cases hn2 : L3.length = 3
            case neg =>
              have HR := Lib.hid (spR_bad (t := t) fun hh => by have h := HI.out.1 hh; exact hn2 h.2.2.2.2.2.2.2.1)
              have hb2 : ((L3.length : Int) == 3) = false := by simp; omega
              have hi2 : ¬ (L3.length : Int) = 3 := by omega
              obtain ⟨c0', c1', c2', c3', c4', c5', c6', c7', c8'⟩ := HK.out.job
              obtain ⟨f0, f1, f2, f3, f4, f5, f6, f7, f8⟩ := HK.out.free
              go_wp2_with fail
              have KE := blkNown [.slice none 0 0, .int .i64 0, .int .i64 0, .int .i64 0, .int .i64 0, .int .i64 0, .int .i64 0, .int .i64 0, .int .i64 0] _ _ 0 HK.out
              have BE := belN (g := w.heap.size) (Nat.le_refl _) [.slice none 0 0, .int .i64 0, .int .i64 0, .int .i64 0, .int .i64 0, .int .i64 0, .int .i64 0, .int .i64 0, .int .i64 0] _ 0 HB.out
              clear c0' c1' c2' c3' c4' c5' c6' c7' c8' f0 f1 f2 f3 f4 f5 f6 f7 f8 
              change bodyPost _ _ _ _ _ (setN w6 w.heap.size 0 [.slice none 0 0, .int .i64 0, .int .i64 0, .int .i64 0, .int .i64 0, .int .i64 0, .int .i64 0, .int .i64 0, .int .i64 0])
              generalize hW7 : setN w6 w.heap.size 0 [.slice none 0 0, .int .i64 0, .int .i64 0, .int .i64 0, .int .i64 0, .int .i64 0, .int .i64 0, .int .i64 0, .int .i64 0] = W7 at KE BE ⊢
              clear hW7
              obtain ⟨h0, h1, h2, h3, h4, h5, h6, h7, h8⟩ := Blk.job (v := .slice none 0 0) (j := zeroJ) KE
              refine bodyPost_ret (v := .tuple #[jobV (.slice none 0 0) zeroJ, .bool false]) (by simp [jobV, results, Tryz.results13, go_sem, h0, h1, h2, h3, h4, h5, h6, h7, h8]) rfl ⟨⟨_, by rw [HR.out], by rw [HR.out]; exact Own.nil_ _ _, by rw [HR.out]; exact zeroJ_in⟩, BE⟩
            obtain ⟨n3, rfl, v3, z3⟩ := row3' O3.out hn2
            rw [hn2]
            have HN2 := Lib.hid hn2
            clear hn2
            obtain ⟨i1, i2, i3⟩ := z1
            obtain ⟨i4, i5⟩ := z2
            obtain ⟨i6, i7, i8⟩ := z3
            obtain ⟨J, hJ⟩ : ∃ J, J = imJ t := ⟨_, rfl⟩
            have HSJ := Lib.hid hJ
            rw [← hJ] at HJI HI
            rw [HJ.out] at hJ
            have e1 : J.fr = at_ L1 0 := by rw [hJ]
            have e2 : J.ct = at_ L1 1 := by rw [hJ]
            have e3 : J.wd = at_ L1 2 := by rw [hJ]
            have e4 : J.dg = at_ L2 0 := by rw [hJ]
            have e5 : J.wy = at_ L2 1 := by rw [hJ]
            have e6 : J.rw = at_ L3 0 := by rw [hJ]
            have e7 : J.ac = at_ L3 1 := by rw [hJ]
            have e8 : J.wi = at_ L3 2 := by rw [hJ]
            have e0 : J.poly = ppL G0 := by rw [hJ]
            rw [← e1] at i1
            rw [← e2] at i2
            rw [← e3] at i3
            rw [← e4] at i4
            rw [← e5] at i5
            rw [← e6] at i6
            rw [← e7] at i7
            rw [← e8] at i8
            replace O0 := Lib.hid (show Own w6 (w.heap.size + 1) (.slice A0 J.poly.length c0) J.poly by rw [e0]; exact O0.out)
            rw [← e0]
            clear hJ HJ e0 e1 e2 e3 e4 e5 e6 e7 e8 v1 v2 v3 O1 O2 O3
            go_wp2_with fail
            go_region_held3 (fun w' => w'.cell? ⟨n1, 0, none⟩ = some (.int .i64 J.fr) ∧ w'.cell? ⟨n1, 1, none⟩ = some (.int .i64 J.ct) ∧ w'.cell? ⟨n1, 2, none⟩ = some (.int .i64 J.wd) ∧ w'.cell? ⟨n2, 0, none⟩ = some (.int .i64 J.dg) ∧ w'.cell? ⟨n2, 1, none⟩ = some (.int .i64 J.wy) ∧ w'.cell? ⟨n3, 0, none⟩ = some (.int .i64 J.rw) ∧ w'.cell? ⟨n3, 1, none⟩ = some (.int .i64 J.ac) ∧ w'.cell? ⟨n3, 2, none⟩ = some (.int .i64 J.wi)) (first | exact ⟨i1, i2, i3, i4, i5, i6, i7, i8⟩ | go_keep) (first | fail)
            rename_i hHeld
            clear hHeld i1 i2 i3 i4 i5 i6 i7 i8
            have bA : Below w6.heap.size w6 (w6.alloc (.cells (jobC (.slice A0 J.poly.length c0) J).toArray 32)).drew := (bel_alloc w6 (.cells (jobC (.slice A0 J.poly.length c0) J).toArray 32)).drew
            have KJ : Blk (w6.alloc (.cells (jobC (.slice A0 J.poly.length c0) J).toArray 32)).drew w6.heap.size 32 (jobC (.slice A0 J.poly.length c0) J) := Blk.new w6 32 (jobC (.slice A0 J.poly.length c0) J)
            replace HK := Lib.hid (HK.out.below bA HK.out.lt)
            replace HB := Lib.hid (bel_trans HB.out bA)
            replace O0 := Lib.hid (O0.out.bel bA)
            have HKJ := Lib.hid KJ
            clear bA KJ
            obtain ⟨a0, a1, a2, a3, a4, a5, a6, a7, a8⟩ := HKJ.out.job
            go_wp2_with fail
            change Calls _ _ #[jobV (.slice A0 J.poly.length c0) J] (w6.alloc (.cells (jobC (.slice A0 J.poly.length c0) J).toArray 32)).drew _
            clear a0 a1 a2 a3 a4 a5 a6 a7 a8
            generalize hW : (w6.alloc (.cells (jobC (.slice A0 J.poly.length c0) J).toArray 32)).drew = wa at HK HB O0 HKJ ⊢
            clear hW
            refine (implJob_any _ J _ O0.out.ints HJI.out).mono ?_
            rintro e w7 ⟨rfl, b7⟩
            replace HK := Lib.hid (HK.out.below b7 HK.out.lt)
            replace HKJ := Lib.hid (HKJ.out.below b7 HKJ.out.lt)
            replace HB := Lib.hid (bel_trans HB.out b7)
            replace O0 := Lib.hid (O0.out.bel b7)
            clear b7
            cases hq : jobOk J
            · have HR := Lib.hid (spR_bad (t := t) fun hh => by have h := HI.out.1 hh; rw [hq] at h; exact Bool.noConfusion h.2.2.2.2.2.2.2.2)
              clear hq
              obtain ⟨c0', c1', c2', c3', c4', c5', c6', c7', c8'⟩ := HK.out.job
              obtain ⟨f0, f1, f2, f3, f4, f5, f6, f7, f8⟩ := HK.out.free
              go_wp2_with fail
              have KE := blkNown [.slice none 0 0, .int .i64 0, .int .i64 0, .int .i64 0, .int .i64 0, .int .i64 0, .int .i64 0, .int .i64 0, .int .i64 0] _ _ 0 HK.out
              have BE := belN (g := w.heap.size) (Nat.le_refl _) [.slice none 0 0, .int .i64 0, .int .i64 0, .int .i64 0, .int .i64 0, .int .i64 0, .int .i64 0, .int .i64 0, .int .i64 0] _ 0 HB.out
              clear c0' c1' c2' c3' c4' c5' c6' c7' c8' f0 f1 f2 f3 f4 f5 f6 f7 f8 
              change bodyPost _ _ _ _ _ (setN w7 w.heap.size 0 [.slice none 0 0, .int .i64 0, .int .i64 0, .int .i64 0, .int .i64 0, .int .i64 0, .int .i64 0, .int .i64 0, .int .i64 0])
              generalize hW7 : setN w7 w.heap.size 0 [.slice none 0 0, .int .i64 0, .int .i64 0, .int .i64 0, .int .i64 0, .int .i64 0, .int .i64 0, .int .i64 0, .int .i64 0] = W7 at KE BE ⊢
              clear hW7
              obtain ⟨h0, h1, h2, h3, h4, h5, h6, h7, h8⟩ := Blk.job (v := .slice none 0 0) (j := zeroJ) KE
              refine bodyPost_ret (v := .tuple #[jobV (.slice none 0 0) zeroJ, .bool false]) (by simp [jobV, results, Tryz.results13, go_sem, h0, h1, h2, h3, h4, h5, h6, h7, h8]) rfl ⟨⟨_, by rw [HR.out], by rw [HR.out]; exact Own.nil_ _ _, by rw [HR.out]; exact zeroJ_in⟩, BE⟩
            · have HR := Lib.hid (show spR t = (J, true) by rw [spR_good (HI.out.2 ⟨HLN.out, by first | rfl | trivial, by first | rfl | trivial, by first | rfl | trivial, by first | rfl | trivial, HN0.out, HN1.out, HN2.out, hq⟩), HSJ.out])
              clear hq
              obtain ⟨c0', c1', c2', c3', c4', c5', c6', c7', c8'⟩ := HK.out.job
              obtain ⟨f0, f1, f2, f3, f4, f5, f6, f7, f8⟩ := HK.out.free
              obtain ⟨a0, a1, a2, a3, a4, a5, a6, a7, a8⟩ := HKJ.out.job
              go_wp2_with fail
              have KE := blkNown [.slice A0 J.poly.length c0, .int .i64 J.fr, .int .i64 J.ct, .int .i64 J.wd, .int .i64 J.dg, .int .i64 J.wy, .int .i64 J.rw, .int .i64 J.ac, .int .i64 J.wi] _ _ 0 HK.out
              have BE := belN (g := w.heap.size) (Nat.le_refl _) [.slice A0 J.poly.length c0, .int .i64 J.fr, .int .i64 J.ct, .int .i64 J.wd, .int .i64 J.dg, .int .i64 J.wy, .int .i64 J.rw, .int .i64 J.ac, .int .i64 J.wi] _ 0 HB.out
              have OE := ownN (g := w.heap.size) (Nat.lt_succ_self _) [.slice A0 J.poly.length c0, .int .i64 J.fr, .int .i64 J.ct, .int .i64 J.wd, .int .i64 J.dg, .int .i64 J.wy, .int .i64 J.rw, .int .i64 J.ac, .int .i64 J.wi] _ 0 O0.out
              clear c0' c1' c2' c3' c4' c5' c6' c7' c8' f0 f1 f2 f3 f4 f5 f6 f7 f8 a0 a1 a2 a3 a4 a5 a6 a7 a8
              change bodyPost _ _ _ _ _ (setN w7 w.heap.size 0 [.slice A0 J.poly.length c0, .int .i64 J.fr, .int .i64 J.ct, .int .i64 J.wd, .int .i64 J.dg, .int .i64 J.wy, .int .i64 J.rw, .int .i64 J.ac, .int .i64 J.wi])
              generalize hW7 : setN w7 w.heap.size 0 [.slice A0 J.poly.length c0, .int .i64 J.fr, .int .i64 J.ct, .int .i64 J.wd, .int .i64 J.dg, .int .i64 J.wy, .int .i64 J.rw, .int .i64 J.ac, .int .i64 J.wi] = W7 at KE BE OE ⊢
              clear hW7
              obtain ⟨h0, h1, h2, h3, h4, h5, h6, h7, h8⟩ := Blk.job (v := .slice A0 J.poly.length c0) (j := J) KE
              refine bodyPost_ret (v := .tuple #[jobV (.slice A0 J.poly.length c0) J, .bool true]) (by simp [jobV, results, Tryz.results13, go_sem, h0, h1, h2, h3, h4, h5, h6, h7, h8]) rfl ⟨⟨_, by rw [HR.out], by rw [HR.out]; exact OE.lower (Nat.le_succ _), by rw [HR.out]; exact HJI.out⟩, BE⟩
  · have hlq : ((ls.length : Int) == 4) = false := by simp; omega
    have hli : ¬ (ls.length : Int) = 4 := by omega
    have HR := Lib.hid (spR_no (t := t) fun h => hlen (by rw [← HLS.out]; exact h.1))
    obtain ⟨c0', c1', c2', c3', c4', c5', c6', c7', c8'⟩ := HK.out.job
    obtain ⟨f0, f1, f2, f3, f4, f5, f6, f7, f8⟩ := HK.out.free
    go_wp2_with fail
    have KE := blkNown [.slice none 0 0, .int .i64 0, .int .i64 0, .int .i64 0, .int .i64 0, .int .i64 0, .int .i64 0, .int .i64 0, .int .i64 0] _ _ 0 HK.out
    have BE := belN (g := w.heap.size) (Nat.le_refl _) [.slice none 0 0, .int .i64 0, .int .i64 0, .int .i64 0, .int .i64 0, .int .i64 0, .int .i64 0, .int .i64 0, .int .i64 0] _ 0 HB.out
    clear c0' c1' c2' c3' c4' c5' c6' c7' c8' f0 f1 f2 f3 f4 f5 f6 f7 f8 
    change bodyPost _ _ _ _ _ (setN w2 w.heap.size 0 [.slice none 0 0, .int .i64 0, .int .i64 0, .int .i64 0, .int .i64 0, .int .i64 0, .int .i64 0, .int .i64 0, .int .i64 0])
    generalize hW7 : setN w2 w.heap.size 0 [.slice none 0 0, .int .i64 0, .int .i64 0, .int .i64 0, .int .i64 0, .int .i64 0, .int .i64 0, .int .i64 0, .int .i64 0] = W7 at KE BE ⊢
    clear hW7
    obtain ⟨h0, h1, h2, h3, h4, h5, h6, h7, h8⟩ := Blk.job (v := .slice none 0 0) (j := zeroJ) KE
    refine bodyPost_ret (v := .tuple #[jobV (.slice none 0 0) zeroJ, .bool false]) (by simp [jobV, results, Tryz.results13, go_sem, h0, h1, h2, h3, h4, h5, h6, h7, h8]) rfl ⟨⟨_, by rw [HR.out], by rw [HR.out]; exact Own.nil_ _ _, by rw [HR.out]; exact zeroJ_in⟩, BE⟩
end Go.Proofs.YtdmadaebeooaaaaGreatDoor
