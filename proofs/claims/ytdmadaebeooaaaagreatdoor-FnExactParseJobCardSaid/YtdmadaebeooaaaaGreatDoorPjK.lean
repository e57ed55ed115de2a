/-
  Jobs parsed: ParseJob (spec).
-/
import Derived.Test.YtdmadaebeooaaaaGreatDoorPjF
import Derived.Test.YtdmadaebeooaaaaGreatDoorPjH
namespace Go.Proofs.YtdmadaebeooaaaaGreatDoor
open Go.RowKit
set_option linter.unusedVariables false
set_option linter.unusedSimpArgs false
set_option maxRecDepth 100000
attribute [local go_sem ↓] Go.wp_at_zero Go.wp_at_succ

/-- The groups of a text, and the job that the reference reads from them. -/
def grp (t : ByteArray) (i : Nat) : ByteArray := sat (cutS 59 t) i
def spJ (t : ByteArray) : JobD := ⟨spP (grp t 0), at_ (eight (grp t 1) 3) 0, at_ (eight (grp t 1) 3) 1, at_ (eight (grp t 1) 3) 2, at_ (eight (grp t 2) 2) 0, at_ (eight (grp t 2) 2) 1, at_ (eight (grp t 3) 3) 0, at_ (eight (grp t 3) 3) 1, at_ (eight (grp t 3) 3) 2⟩
open Classical in
/-- What the reference's ParseJob returns. -/
noncomputable def spR (t : ByteArray) : JobD × Bool := if (cutS 59 t).length = 4 ∧ fmtJ (spJ t) = t then (spJ t, true) else (zeroJ, false)
theorem spR_yes {t : ByteArray} (h : (cutS 59 t).length = 4) (h2 : fmtJ (spJ t) = t) : spR t = (spJ t, true) := by unfold spR; rw [if_pos ⟨h, h2⟩]
theorem spR_no {t : ByteArray} (h : ¬ ((cutS 59 t).length = 4 ∧ fmtJ (spJ t) = t)) : spR t = (zeroJ, false) := by unfold spR; rw [if_neg h]
theorem grp_size {t : ByteArray} (ht : t.size ≤ 1048576) (h : (cutS 59 t).length = 4) {i : Nat} (hi : i < 4) : (grp t i).size ≤ 1048576 := Nat.le_trans (cutS_mem_size (c := 59) (s := t) (sat_mem _ i (by omega))) ht
/-- What ParseJob returns, as a value of its own. -/
def JobE (w : World) (base : Nat) (R : JobD × Bool) (e : Ending) : Prop := ∃ v, e = .returned (.tuple #[jobV v R.1, .bool R.2]) ∧ Own w base v R.1.poly ∧ R.1.In
theorem zeroJ_in : zeroJ.In := by constructor <;> (unfold zeroJ; simp)

theorem sm_at {l : List Int} (h : Sm l) (i : Nat) : -100000000000000000 < at_ l i ∧ at_ l i < 100000000000000000 := by
  unfold at_
  rw [List.getD_eq_getElem?_getD]
  cases hq : l[i]? with
  | none => simp
  | some x => exact h x (List.mem_of_getElem? hq)
theorem eight_sm (t : ByteArray) (n : Nat) : Sm (eight t n) := by
  unfold eight
  split
  · exact numsV_sm t
  · intro x hx
    obtain ⟨_, _, rfl⟩ := List.mem_map.1 hx
    omega
theorem eight_bd (t : ByteArray) (n i : Nat) : -9223372036854775808 ≤ at_ (eight t n) i ∧ at_ (eight t n) i ≤ 9223372036854775807 := by
  have := sm_at (eight_sm t n) i
  omega
theorem parts4 {w : World} {A : Option Addr} {c : Nat} {ls : List ByteArray} (h : Strs w (.slice A ls.length c) ls) (hl : ls.length = 4) : ∃ b o, A = some ⟨b, o, none⟩ ∧ b < w.heap.size ∧
    (w.cell? ⟨b, o, none⟩ = some (.string (sat ls 0)) ∧ w.cell? ⟨b, o + 1, none⟩ = some (.string (sat ls 1)) ∧ w.cell? ⟨b, o + 2, none⟩ = some (.string (sat ls 2)) ∧ w.cell? ⟨b, o + 3, none⟩ = some (.string (sat ls 3))) := by
  obtain ⟨A6, c6, e6, -, -, hrd⟩ := h.open_
  injection e6 with e1 e2 e3
  subst e1
  obtain ⟨b, o, e, hb, hc⟩ := hrd.strs (by omega)
  exact ⟨b, o, e, hb, hc 0 (by omega), hc 1 (by omega), hc 2 (by omega), hc 3 (by omega)⟩
theorem row3 {w : World} {base : Nat} {v : Value} {l : List Int} (h : Own w base v l) (hl : l.length = 3) : ∃ b c, v = .slice (some ⟨b, 0, none⟩) 3 c ∧ base ≤ b ∧ b < w.heap.size ∧ 3 ≤ c ∧
    (w.cell? ⟨b, 0, none⟩ = some (.int .i64 (at_ l 0)) ∧ w.cell? ⟨b, 1, none⟩ = some (.int .i64 (at_ l 1)) ∧ w.cell? ⟨b, 2, none⟩ = some (.int .i64 (at_ l 2))) := by
  obtain ⟨b, c, rfl, h1, h2, h3, h4, hc⟩ := h.openN (by omega)
  rw [hl] at h3 ⊢
  exact ⟨b, c, rfl, h1, h2, h3, (hc 0 (by omega)).1, (hc 1 (by omega)).1, (hc 2 (by omega)).1⟩
theorem row2 {w : World} {base : Nat} {v : Value} {l : List Int} (h : Own w base v l) (hl : l.length = 2) : ∃ b c, v = .slice (some ⟨b, 0, none⟩) 2 c ∧ base ≤ b ∧ b < w.heap.size ∧ 2 ≤ c ∧
    (w.cell? ⟨b, 0, none⟩ = some (.int .i64 (at_ l 0)) ∧ w.cell? ⟨b, 1, none⟩ = some (.int .i64 (at_ l 1))) := by
  obtain ⟨b, c, rfl, h1, h2, h3, h4, hc⟩ := h.openN (by omega)
  rw [hl] at h3 ⊢
  exact ⟨b, c, rfl, h1, h2, h3, (hc 0 (by omega)).1, (hc 1 (by omega)).1⟩
theorem cells3 {w w' : World} {b : Nat} {x y z : Value} (h : w.cell? ⟨b, 0, none⟩ = some x ∧ w.cell? ⟨b, 1, none⟩ = some y ∧ w.cell? ⟨b, 2, none⟩ = some z) (hl : b < w.heap.size) (hb : Below w.heap.size w w') : w'.cell? ⟨b, 0, none⟩ = some x ∧ w'.cell? ⟨b, 1, none⟩ = some y ∧ w'.cell? ⟨b, 2, none⟩ = some z :=
  ⟨(hb.cell hl).trans h.1, (hb.cell hl).trans h.2.1, (hb.cell hl).trans h.2.2⟩
theorem cells2 {w w' : World} {b : Nat} {x y : Value} (h : w.cell? ⟨b, 0, none⟩ = some x ∧ w.cell? ⟨b, 1, none⟩ = some y) (hl : b < w.heap.size) (hb : Below w.heap.size w w') : w'.cell? ⟨b, 0, none⟩ = some x ∧ w'.cell? ⟨b, 1, none⟩ = some y :=
  ⟨(hb.cell hl).trans h.1, (hb.cell hl).trans h.2⟩
set_option maxHeartbeats 8000000 in
theorem specPJ_any (t : ByteArray) (w : World) (ht : t.size ≤ 1048576) :
    Calls Tryz.prog 12 #[.string t] w fun e w' => JobE w' w.heap.size (spR t) e ∧ Below w.heap.size w w' := by
  have K0 := Blk.new w 32 (jobC (.slice none 0 0) zeroJ)
  have B0 := bel_alloc w (.cells (jobC (.slice none 0 0) zeroJ).toArray 32)
  go_enter Tryz.func12, Tryz.ntmps12
  go_wp2_with fail
  change Calls _ _ _ (w.alloc (.cells (jobC (.slice none 0 0) zeroJ).toArray 32)) _
  generalize hW : w.alloc (.cells (jobC (.slice none 0 0) zeroJ).toArray 32) = w1 at *
  have hz1 : w1.heap.size = w.heap.size + 1 := by rw [← hW]; simp
  clear hW
  refine (l9Cut_any t 59 _ ht).mono ?_
  rintro e w2 ⟨r, rfl, o, b⟩
  have hz21 : w.heap.size + 1 ≤ w2.heap.size := by rw [← hz1]; exact b.size
  replace K0 := K0.below b K0.lt
  have HB := Lib.hid (bel_trans B0 b)
  have HP := Lib.hid o.strs
  have hcl := cutS_le 59 t
  obtain ⟨ls, hls⟩ : ∃ ls, cutS 59 t = ls := ⟨_, rfl⟩
  have HLS := Lib.hid hls
  rw [hls] at HP hcl
  obtain ⟨A, c, rfl, hlc, -, -⟩ := HP.out.open_
  clear B0 o b hls
  by_cases hlen : ls.length = 4
  · have HLN := Lib.hid (show (cutS 59 t).length = 4 by rw [HLS.out]; exact hlen)
    have g0 : (sat ls 0).size ≤ 1048576 := by rw [← HLS.out]; exact grp_size ht HLN.out (i := 0) (by omega)
    have g1 : (sat ls 1).size ≤ 1048576 := by rw [← HLS.out]; exact grp_size ht HLN.out (i := 1) (by omega)
    have g2 : (sat ls 2).size ≤ 1048576 := by rw [← HLS.out]; exact grp_size ht HLN.out (i := 2) (by omega)
    have g3 : (sat ls 3).size ≤ 1048576 := by rw [← HLS.out]; exact grp_size ht HLN.out (i := 3) (by omega)
    obtain ⟨b, o, rfl, hbb, p0, p1, p2, p3⟩ := parts4 HP.out hlen
    rw [hlen] at HP hlc ⊢
    have HJ := Lib.hid (show spJ t = ⟨spP (sat ls 0), at_ (eight (sat ls 1) 3) 0, at_ (eight (sat ls 1) 3) 1, at_ (eight (sat ls 1) 3) 2, at_ (eight (sat ls 2) 2) 0, at_ (eight (sat ls 2) 2) 1, at_ (eight (sat ls 3) 3) 0, at_ (eight (sat ls 3) 3) 1, at_ (eight (sat ls 3) 3) 2⟩ by unfold spJ grp; rw [HLS.out])
    obtain ⟨G0, hG0⟩ : ∃ G, sat ls 0 = G := ⟨_, rfl⟩
    obtain ⟨G1, hG1⟩ : ∃ G, sat ls 1 = G := ⟨_, rfl⟩
    obtain ⟨G2, hG2⟩ : ∃ G, sat ls 2 = G := ⟨_, rfl⟩
    obtain ⟨G3, hG3⟩ : ∃ G, sat ls 3 = G := ⟨_, rfl⟩
    rw [hG0] at g0 p0 HJ
    rw [hG1] at g1 p1 HJ
    rw [hG2] at g2 p2 HJ
    rw [hG3] at g3 p3 HJ
    have hl1 := eight_len G1 3
    have hl2 := eight_len G2 2
    have hl3 := eight_len G3 3
    clear hG0 hG1 hG2 hG3 hlen HLS HP hcl
    go_wp2_with fail
    refine (specPP_any G0 _ g0).mono ?_
    rintro e w3 ⟨r0, x0, rfl, o0, b3⟩
    replace K0 := K0.below b3 K0.lt
    replace HB := Lib.hid (bel_trans HB.out b3)
    replace p1 := (b3.cell hbb).trans p1
    replace p2 := (b3.cell hbb).trans p2
    replace p3 := (b3.cell hbb).trans p3
    replace hbb := Nat.lt_of_lt_of_le hbb b3.size
    clear b3 p0
    go_wp2_with fail
    refine (l8Numbers_any G1 3 _ g1 (by omega)).mono ?_
    rintro e w4 ⟨r1, x1, rfl, o1, b4⟩
    replace K0 := K0.below b4 K0.lt
    replace HB := Lib.hid (bel_trans HB.out b4)
    replace p2 := (b4.cell hbb).trans p2
    replace p3 := (b4.cell hbb).trans p3
    replace hbb := Nat.lt_of_lt_of_le hbb b4.size
    replace o0 := o0.bel b4
    obtain ⟨n1, m1, rfl, y1, u1, v1, q1⟩ := row3 o1 hl1
    clear b4 p1 o1
    go_wp2_with fail
    refine (l8Numbers_any G2 2 _ g2 (by omega)).mono ?_
    rintro e w5 ⟨r2, x2, rfl, o2, b5⟩
    replace K0 := K0.below b5 K0.lt
    replace HB := Lib.hid (bel_trans HB.out b5)
    replace p3 := (b5.cell hbb).trans p3
    replace hbb := Nat.lt_of_lt_of_le hbb b5.size
    replace o0 := o0.bel b5
    replace q1 := cells3 q1 u1 b5
    replace u1 := Nat.lt_of_lt_of_le u1 b5.size
    obtain ⟨n2, m2, rfl, y2, u2, v2, q2⟩ := row2 o2 hl2
    clear b5 p2 o2
    go_wp2_with fail
    refine (l8Numbers_any G3 3 _ g3 (by omega)).mono ?_
    rintro e w6 ⟨r3, x3, rfl, o3, b6⟩
    replace K0 := K0.below b6 K0.lt
    replace HB := Lib.hid (bel_trans HB.out b6)
    replace o0 := o0.bel b6
    replace q1 := cells3 q1 u1 b6
    replace u1 := Nat.lt_of_lt_of_le u1 b6.size
    replace q2 := cells2 q2 u2 b6
    replace u2 := Nat.lt_of_lt_of_le u2 b6.size
    obtain ⟨n3, m3, rfl, y3, u3, v3, q3⟩ := row3 o3 hl3
    clear b6 p3 o3
    obtain ⟨A0, c0, rfl, -, -, -⟩ := o0.ints.open_
    have O0 := Lib.hid (o0.lower hz21)
    obtain ⟨i1, i2, i3⟩ := q1
    obtain ⟨i4, i5⟩ := q2
    obtain ⟨i6, i7, i8⟩ := q3
    clear o0
    obtain ⟨J, hJ⟩ : ∃ J, J = spJ t := ⟨_, rfl⟩
    have hJin : J.In := by
      rw [hJ, HJ.out]
      constructor <;> exact eight_bd _ _ _
    rw [HJ.out] at hJ
    have e1 : J.fr = at_ (eight G1 3) 0 := by rw [hJ]
    have e2 : J.ct = at_ (eight G1 3) 1 := by rw [hJ]
    have e3 : J.wd = at_ (eight G1 3) 2 := by rw [hJ]
    have e4 : J.dg = at_ (eight G2 2) 0 := by rw [hJ]
    have e5 : J.wy = at_ (eight G2 2) 1 := by rw [hJ]
    have e6 : J.rw = at_ (eight G3 3) 0 := by rw [hJ]
    have e7 : J.ac = at_ (eight G3 3) 1 := by rw [hJ]
    have e8 : J.wi = at_ (eight G3 3) 2 := by rw [hJ]
    have e0 : J.poly = spP G0 := by rw [hJ]
    have HSJ := Lib.hid (show spJ t = J by rw [HJ.out, hJ])
    have hz6 : w.heap.size + 1 ≤ w2.heap.size := hz21
    have HJI := Lib.hid hJin
    rw [← e1] at i1
    rw [← e2] at i2
    rw [← e3] at i3
    rw [← e4] at i4
    rw [← e5] at i5
    rw [← e6] at i6
    rw [← e7] at i7
    rw [← e8] at i8
    replace O0 := Lib.hid (show Own w6 (w.heap.size + 1) (.slice A0 J.poly.length c0) J.poly by rw [e0]; exact O0.out)
    rw [← e0]
    have HK := Lib.hid K0
    clear K0 hJ HJ e0 e1 e2 e3 e4 e5 e6 e7 e8 hJin hl1 hl2 hl3 y1 y2 y3 v1 v2 v3 hlc hz6
    go_wp2_with fail
    go_region_held3 (fun w' => w'.cell? ⟨n1, 0, none⟩ = some (.int .i64 J.fr) ∧ w'.cell? ⟨n1, 1, none⟩ = some (.int .i64 J.ct) ∧ w'.cell? ⟨n1, 2, none⟩ = some (.int .i64 J.wd) ∧ w'.cell? ⟨n2, 0, none⟩ = some (.int .i64 J.dg) ∧ w'.cell? ⟨n2, 1, none⟩ = some (.int .i64 J.wy) ∧ w'.cell? ⟨n3, 0, none⟩ = some (.int .i64 J.rw) ∧ w'.cell? ⟨n3, 1, none⟩ = some (.int .i64 J.ac) ∧ w'.cell? ⟨n3, 2, none⟩ = some (.int .i64 J.wi)) (first | exact ⟨i1, i2, i3, i4, i5, i6, i7, i8⟩ | go_keep) (first | fail)
    rename_i hHeld
    clear hHeld i1 i2 i3 i4 i5 i6 i7 i8
    have bA : Below w6.heap.size w6 (w6.alloc (.cells (jobC (.slice A0 J.poly.length c0) J).toArray 32)).drew := (bel_alloc w6 (.cells (jobC (.slice A0 J.poly.length c0) J).toArray 32)).drew
    have KJ : Blk (w6.alloc (.cells (jobC (.slice A0 J.poly.length c0) J).toArray 32)).drew w6.heap.size 32 (jobC (.slice A0 J.poly.length c0) J) := Blk.new w6 32 (jobC (.slice A0 J.poly.length c0) J)
    replace HK := Lib.hid (HK.out.below bA HK.out.lt)
    replace HB := Lib.hid (bel_trans HB.out bA)
    replace O0 := Lib.hid (O0.out.bel bA)
    have HKJ := Lib.hid KJ
    have HKJ2 := KJ
    clear bA KJ
    obtain ⟨a0, a1, a2, a3, a4, a5, a6, a7, a8⟩ := HKJ2.job
    clear HKJ2
    go_wp2_with fail
    change Calls _ _ #[jobV (.slice A0 J.poly.length c0) J] (w6.alloc (.cells (jobC (.slice A0 J.poly.length c0) J).toArray 32)).drew _
    clear a0 a1 a2 a3 a4 a5 a6 a7 a8
    generalize hW : (w6.alloc (.cells (jobC (.slice A0 J.poly.length c0) J).toArray 32)).drew = wa at HK HB O0 HKJ ⊢
    clear hW
    refine (specFmt_any _ J _ O0.out.ints HJI.out).mono ?_
    rintro e w7 ⟨rfl, b7⟩
    replace HK := Lib.hid (HK.out.below b7 HK.out.lt)
    replace HKJ := Lib.hid (HKJ.out.below b7 HKJ.out.lt)
    replace HB := Lib.hid (bel_trans HB.out b7)
    replace O0 := Lib.hid (O0.out.bel b7)
    clear b7
    obtain ⟨T, hT⟩ : ∃ T, fmtJ J = T := ⟨_, rfl⟩
    rw [hT]
    replace hT := Lib.hid hT
    obtain ⟨c0', c1, c2, c3, c4, c5, c6, c7, c8⟩ := HK.out.job
    obtain ⟨f0, f1, f2, f3, f4, f5, f6, f7, f8⟩ := HK.out.free
    by_cases hq : T = t
    · have he : (!T.toList == t.toList) = false := by rw [hq]; simp
      have HR := Lib.hid (show spR t = (J, true) by rw [spR_yes HLN.out (by rw [HSJ.out, hT.out, hq]), HSJ.out])
      clear hq
      obtain ⟨a0, a1, a2, a3, a4, a5, a6, a7, a8⟩ := HKJ.out.job
      go_wp2_with fail
      have KE := blkNown [.slice A0 J.poly.length c0, .int .i64 J.fr, .int .i64 J.ct, .int .i64 J.wd, .int .i64 J.dg, .int .i64 J.wy, .int .i64 J.rw, .int .i64 J.ac, .int .i64 J.wi] _ _ 0 HK.out
      have BE := belN (g := w.heap.size) (Nat.le_refl _) [.slice A0 J.poly.length c0, .int .i64 J.fr, .int .i64 J.ct, .int .i64 J.wd, .int .i64 J.dg, .int .i64 J.wy, .int .i64 J.rw, .int .i64 J.ac, .int .i64 J.wi] _ 0 HB.out
      have OE := ownN (g := w.heap.size) (Nat.lt_succ_self _) [.slice A0 J.poly.length c0, .int .i64 J.fr, .int .i64 J.ct, .int .i64 J.wd, .int .i64 J.dg, .int .i64 J.wy, .int .i64 J.rw, .int .i64 J.ac, .int .i64 J.wi] _ 0 O0.out
      clear c0' c1 c2 c3 c4 c5 c6 c7 c8 f0 f1 f2 f3 f4 f5 f6 f7 f8 a0 a1 a2 a3 a4 a5 a6 a7 a8
      change bodyPost _ _ _ _ _ (setN w7 w.heap.size 0 [.slice A0 J.poly.length c0, .int .i64 J.fr, .int .i64 J.ct, .int .i64 J.wd, .int .i64 J.dg, .int .i64 J.wy, .int .i64 J.rw, .int .i64 J.ac, .int .i64 J.wi])
      generalize hW7 : setN w7 w.heap.size 0 [.slice A0 J.poly.length c0, .int .i64 J.fr, .int .i64 J.ct, .int .i64 J.wd, .int .i64 J.dg, .int .i64 J.wy, .int .i64 J.rw, .int .i64 J.ac, .int .i64 J.wi] = W7 at KE BE OE ⊢
      clear hW7
      obtain ⟨h0, h1, h2, h3, h4, h5, h6, h7, h8⟩ := Blk.job (v := .slice A0 J.poly.length c0) (j := J) KE
      refine bodyPost_ret (v := .tuple #[jobV (.slice A0 J.poly.length c0) J, .bool true]) (by simp [jobV, results, Tryz.results12, go_sem, h0, h1, h2, h3, h4, h5, h6, h7, h8]) rfl ⟨⟨_, by rw [HR.out], by rw [HR.out]; exact OE.lower (Nat.le_succ _), by rw [HR.out]; exact HJI.out⟩, BE⟩
    · have he := bne_of hq
      have HR := Lib.hid (spR_no (t := t) fun h => hq (by rw [← h.2, HSJ.out, hT.out]))
      clear hq
      go_wp2_with fail
      have KE := blkNown [.slice none 0 0, .int .i64 0, .int .i64 0, .int .i64 0, .int .i64 0, .int .i64 0, .int .i64 0, .int .i64 0, .int .i64 0] _ _ 0 HK.out
      have BE := belN (g := w.heap.size) (Nat.le_refl _) [.slice none 0 0, .int .i64 0, .int .i64 0, .int .i64 0, .int .i64 0, .int .i64 0, .int .i64 0, .int .i64 0, .int .i64 0] _ 0 HB.out
      clear c0' c1 c2 c3 c4 c5 c6 c7 c8 f0 f1 f2 f3 f4 f5 f6 f7 f8 
      change bodyPost _ _ _ _ _ (setN w7 w.heap.size 0 [.slice none 0 0, .int .i64 0, .int .i64 0, .int .i64 0, .int .i64 0, .int .i64 0, .int .i64 0, .int .i64 0, .int .i64 0])
      generalize hW7 : setN w7 w.heap.size 0 [.slice none 0 0, .int .i64 0, .int .i64 0, .int .i64 0, .int .i64 0, .int .i64 0, .int .i64 0, .int .i64 0, .int .i64 0] = W7 at KE BE ⊢
      clear hW7
      obtain ⟨h0, h1, h2, h3, h4, h5, h6, h7, h8⟩ := Blk.job (v := .slice none 0 0) (j := zeroJ) KE
      refine bodyPost_ret (v := .tuple #[jobV (.slice none 0 0) zeroJ, .bool false]) (by simp [jobV, results, Tryz.results12, go_sem, h0, h1, h2, h3, h4, h5, h6, h7, h8]) rfl ⟨⟨_, by rw [HR.out], by rw [HR.out]; exact Own.nil_ _ _, by rw [HR.out]; exact zeroJ_in⟩, BE⟩
  · have hlq : ((ls.length : Int) == 4) = false := by simp; omega
    have hli : ¬ (ls.length : Int) = 4 := by omega
    have HR := Lib.hid (spR_no (t := t) fun h => hlen (by rw [← HLS.out]; exact h.1))
    have HK := Lib.hid K0
    obtain ⟨c0, c1, c2, c3, c4, c5, c6, c7, c8⟩ := K0.job
    obtain ⟨f0, f1, f2, f3, f4, f5, f6, f7, f8⟩ := K0.free
    clear K0
    go_wp2_with fail
    have KE := blkNown [.slice none 0 0, .int .i64 0, .int .i64 0, .int .i64 0, .int .i64 0, .int .i64 0, .int .i64 0, .int .i64 0, .int .i64 0] _ _ 0 HK.out
    have BE := belN (g := w.heap.size) (Nat.le_refl _) [.slice none 0 0, .int .i64 0, .int .i64 0, .int .i64 0, .int .i64 0, .int .i64 0, .int .i64 0, .int .i64 0, .int .i64 0] _ 0 HB.out
    clear c0 c1 c2 c3 c4 c5 c6 c7 c8 f0 f1 f2 f3 f4 f5 f6 f7 f8
    change bodyPost _ _ _ _ _ (setN w2 w.heap.size 0 [.slice none 0 0, .int .i64 0, .int .i64 0, .int .i64 0, .int .i64 0, .int .i64 0, .int .i64 0, .int .i64 0, .int .i64 0])
    generalize hW7 : setN w2 w.heap.size 0 [.slice none 0 0, .int .i64 0, .int .i64 0, .int .i64 0, .int .i64 0, .int .i64 0, .int .i64 0, .int .i64 0, .int .i64 0] = W7 at KE BE ⊢
    clear hW7
    obtain ⟨h0, h1, h2, h3, h4, h5, h6, h7, h8⟩ := Blk.job (v := .slice none 0 0) (j := zeroJ) KE
    refine bodyPost_ret (v := .tuple #[jobV (.slice none 0 0) zeroJ, .bool false]) (by simp [jobV, results, Tryz.results12, go_sem, h0, h1, h2, h3, h4, h5, h6, h7, h8]) rfl ⟨⟨_, by rw [HR.out], by rw [HR.out]; exact Own.nil_ _ _, by rw [HR.out]; exact zeroJ_in⟩, BE⟩
end Go.Proofs.YtdmadaebeooaaaaGreatDoor
