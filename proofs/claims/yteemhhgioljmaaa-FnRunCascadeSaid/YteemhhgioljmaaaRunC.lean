/-
  Contracts of RunCascade, both.
-/
import Derived.Test.YteemhhgioljmaaaRun
namespace Go.Proofs.Yteemhhgioljmaaa
open Go.RowKit
set_option linter.unusedVariables false
set_option linter.unusedSimpArgs false
set_option maxRecDepth 100000
attribute [local go_sem ↓] Go.wp_at_zero Go.wp_at_succ

def rcOk (a b : List ByteArray) (n : Int) : Bool := joinOk a b && inB n 0 60
def rcL (a b : List ByteArray) (n : Int) : List Int := if rcOk a b n = true then runS (b ++ a) n.toNat else []
theorem rcOk_j {a b : List ByteArray} {n : Int} (h : joinOk a b = false) : rcOk a b n = false := by simp [rcOk, h]
theorem rcOk_n {a b : List ByteArray} {n : Int} (h : inB n 0 60 = false) : rcOk a b n = false := by simp [rcOk, h]
theorem rcL_no {a b : List ByteArray} {n : Int} (h : rcOk a b n = false) : rcL a b n = [] := by simp [rcL, h]
theorem rcL_yes {a b : List ByteArray} {n : Nat} (h : rcOk a b n = true) : rcL a b n = runS (b ++ a) n := by simp [rcL, h]
theorem rc_run {a b : List ByteArray} {n : Int} (h : joinOk a b = true) : runL (b ++ a) n = rcL a b n ∧ runOk (b ++ a) n = rcOk a b n := by
  simp [runL, rcL, runOk, rcOk, h, engOk_append h]
theorem rcL_len {a b : List ByteArray} {n : Int} : (rcL a b n).length ≤ 60 := by
  cases h : rcOk a b n
  · rw [rcL_no h]; simp
  · have := inB_true.1 (by simp [rcOk] at h; exact h.2 : inB n 0 60 = true)
    unfold rcL; rw [if_pos h, runS_length]; omega
def rcR (a b : List ByteArray) (j : Nat) : Int := sg (sat (cascN a b j).2 0)
theorem rc_gen {a b : List ByteArray} (h : joinOk a b = true) (n : Nat) : gen (rcR a b) n = runS (b ++ a) n := by
  unfold runS gen
  apply List.map_congr_left
  intro j _
  unfold rcR
  rw [cascN_result h]

set_option maxHeartbeats 2000000 in
theorem specRunC_any (u v : Value) (a b : List ByteArray) (n : Int) (w : World) (hu : Strs w u a) (hv : Strs w v b) (hn : -9223372036854775808 ≤ n ∧ n ≤ 9223372036854775807) :
    Calls Try.prog 73 #[.agg #[u], .agg #[v], .int .i64 n] w (IntsB w (rcL a b n) (rcOk a b n)) := by
  have HU := Lib.hid hu
  have HV := Lib.hid hv
  obtain ⟨A, c, rfl, -, -, -⟩ := hu.open_
  obtain ⟨B, d, rfl, -, -, -⟩ := hv.open_
  clear hu hv
  have B0 := Lib.hid (show Below w.heap.size w ((w.alloc (.cells #[.slice A a.length c] 29)).alloc (.cells #[.slice B b.length d] 29)) from (bel_alloc w _).alloc (by simp) _)
  have K0 := (Blk.new' w 29 (.slice A a.length c) w.heap.size rfl).alloc (.cells #[.slice B b.length d] 29)
  have K1 := Blk.new' (w.alloc (.cells #[.slice A a.length c] 29)) 29 (.slice B b.length d) (w.heap.size + 1) (by simp)
  obtain ⟨c0, -⟩ := K0.one
  obtain ⟨c1, -⟩ := K1.one
  go_enter Try.func73, Try.ntmps73
  go_wp2_with fail
  clear c0 c1
  generalize hW : (w.alloc (.cells #[.slice A a.length c] 29)).alloc (.cells #[.slice B b.length d] 29) = W at *
  clear hW
  refine (l7Shape_any _ _ a b _ (HU.out.bel B0.out) (HV.out.bel B0.out)).mono ?_
  rintro e w2 ⟨rfl, hb⟩
  replace K0 := K0.below hb K0.lt
  replace K1 := K1.below hb K1.lt
  have HB := Lib.hid (bel_trans B0.out hb)
  have hz := HB.out.size
  clear hb
  obtain ⟨c0, -⟩ := K0.one
  obtain ⟨c1, -⟩ := K1.one
  cases hj : joinOk a b
  · have HN := Lib.hid (And.intro (rcOk_j (n := n) hj) (rcL_no (rcOk_j (n := n) hj)))
    go_wp2
    go_ret2
    refine ⟨_, by rw [HN.out.1]; rfl, ?_, bel_trans HB.out (bel_alloc w2 _)⟩
    rw [HN.out.2]; exact Own.empty w2 w.heap.size hz
  · have HY := Lib.hid (rc_run (n := n) hj)
    obtain ⟨ea, eb, -, -⟩ := joinOk_true.1 hj
    obtain ⟨a1, a7, -⟩ := engOk_iff.1 ea
    obtain ⟨b1, b7, -⟩ := engOk_iff.1 eb
    go_wp2_with fail
    refine (l7Join_any _ _ a b _ (HU.out.bel HB.out) (HV.out.bel HB.out) ⟨a1, a7⟩ ⟨b1, b7⟩).mono ?_
    rintro e w3 ⟨r, rfl, ho, hb4⟩
    have HO := Lib.hid (And.intro ho (bel_trans HB.out hb4))
    have HS := Lib.hid (And.intro ho.strs hb4.size)
    obtain ⟨A3, d3, rfl, -, -, -⟩ := ho.strs.open_
    clear ho hb4
    simp only [List.length_append] at HO HS ⊢
    go_wp2_with fail
    refine (specRun_any _ (b ++ a) n _ HS.out.1 hn).mono ?_
    rintro e w4 ⟨r, rfl, ho, hb5⟩
    have HF := Lib.hid (And.intro (ho.lower (base' := w.heap.size) HO.out.2.size) (bel_trans HO.out.2 hb5))
    obtain ⟨A5, d5, rfl, -, -, -⟩ := ho.ints.open_
    clear ho hb5
    go_wp2
    go_ret2
    exact ⟨_, by rw [HY.out.2]; rfl, by rw [← HY.out.1]; exact HF.out.1, HF.out.2⟩

set_option maxHeartbeats 4000000 in
theorem implRunC_any (u v : Value) (a b : List ByteArray) (n : Int) (w : World) (hu : Strs w u a) (hv : Strs w v b) (hn : -9223372036854775808 ≤ n ∧ n ≤ 9223372036854775807) :
    Calls Try.prog 72 #[.agg #[u], .agg #[v], .int .i64 n] w (IntsB w (rcL a b n) (rcOk a b n)) := by
  have HU := Lib.hid hu
  have HV := Lib.hid hv
  have HOF := Lib.hid (And.intro hu.off hv.off)
  obtain ⟨A, c, rfl, -, -, -⟩ := hu.open_
  obtain ⟨B, d, rfl, -, -, -⟩ := hv.open_
  clear hu hv
  have B0 := Lib.hid (show Below w.heap.size w ((w.alloc (.cells #[.slice A a.length c] 29)).alloc (.cells #[.slice B b.length d] 29)) from (bel_alloc w _).alloc (by simp) _)
  have K0 := (Blk.new' w 29 (.slice A a.length c) w.heap.size rfl).alloc (.cells #[.slice B b.length d] 29)
  have K1 := Blk.new' (w.alloc (.cells #[.slice A a.length c] 29)) 29 (.slice B b.length d) (w.heap.size + 1) (by simp)
  obtain ⟨c0, -⟩ := K0.one
  obtain ⟨c1, -⟩ := K1.one
  go_enter Try.func72, Try.ntmps72
  go_wp2_with fail
  clear c0 c1
  generalize hW : (w.alloc (.cells #[.slice A a.length c] 29)).alloc (.cells #[.slice B b.length d] 29) = W at *
  clear hW
  refine (canCouple_any _ _ a b _ (HU.out.bel B0.out) (HV.out.bel B0.out)).mono ?_
  rintro e w2 ⟨rfl, hb⟩
  have k1 := K1.lt
  have hbz := hb.size
  replace K0 := K0.below hb K0.lt
  replace K1 := K1.below hb K1.lt
  have HB := Lib.hid (bel_trans B0.out hb)
  have hz := HB.out.size
  clear hb
  cases hj : joinOk a b
  · have HN := Lib.hid (And.intro (rcOk_j (n := n) hj) (rcL_no (rcOk_j (n := n) hj)))
    go_wp2_with fail
    go_ret2
    exact ⟨_, by rw [HN.out.1]; rfl, by rw [HN.out.2]; exact Own.nil_ _ _, HB.out⟩
  · cases hc : inB n 0 60
    · have HN := Lib.hid (And.intro (rcOk_n (a := a) (b := b) hc) (rcL_no (rcOk_n (a := a) (b := b) hc)))
      go_wp2_with (go_at_call 75; refine (countValid_any _ _).mono ?_; rintro e w' ⟨rfl, rfl⟩)
      go_ret2
      exact ⟨_, by rw [HN.out.1]; rfl, by rw [HN.out.2]; exact Own.nil_ _ _, HB.out⟩
    · have hn2 := inB_true.1 hc
      obtain ⟨n, rfl⟩ : ∃ k : Nat, n = k := ⟨n.toNat, by omega⟩
      have n60 : n ≤ 60 := by omega
      have hrc : rcOk a b n = true := by simp [rcOk, hj, hc]
      have HY := Lib.hid (And.intro hrc (And.intro (rcL_yes hrc) (And.intro hj (rc_gen hj n))))
      have hmk := fun W => Try.mkInts n (by omega) W
      have HS0 := Lib.hid (And.intro (HU.out.bel HB.out) (HV.out.bel HB.out))
      clear hrc hn2 hn hj
      have KK := Lib.hid (And.intro K0 K1)
      clear K0 K1
      go_wp2_with (go_at_call 75; refine (countValid_any _ _).mono ?_; rintro e w' ⟨rfl, rfl⟩)
      go_loopw [23] (fun i wr => ∃ (k : Nat) (cs : List Value) (x y : Value), k ≤ n ∧ i = .int .i64 k ∧ Blk wr w2.heap.size 3 cs ∧ cs.length = n ∧ (∀ j, j < k → cs[j]? = some (.int .i64 (rcR a b j))) ∧
          Blk wr w.heap.size 29 [x] ∧ Blk wr (w.heap.size + 1) 29 [y] ∧ Strs wr x (cascN a b k).1 ∧ Strs wr y (cascN a b k).2 ∧
          Off x (cascN a b k).1 (fun j => j ≠ w.heap.size ∧ j ≠ w.heap.size + 1 ∧ j ≠ w2.heap.size) ∧ Off y (cascN a b k).2 (fun j => j ≠ w.heap.size ∧ j ≠ w.heap.size + 1 ∧ j ≠ w2.heap.size) ∧ Below w.heap.size w wr)
        (fun i _ => n - (intOf i).toNat)
      case atStart =>
        refine ⟨0, _, _, _, Nat.zero_le _, rfl, Blk.new w2 _ _, reps_length _ _, fun j hj => absurd hj (by omega), KK.out.1.alloc _, KK.out.2.alloc _, HS0.out.1.bel (bel_alloc w2 _), HS0.out.2.bel (bel_alloc w2 _), ?_, ?_, bel_trans HB.out (bel_alloc w2 _)⟩
        · exact HOF.out.1.mono fun j hj => by omega
        · exact HOF.out.2.mono fun j hj => by omega
      case round =>
        clear KK HS0
        obtain ⟨k, cs, x, y, hk, rfl, hblk, hcl, hcs, K0, K1, hx, hy, ox, oy, hbel⟩ := hrel
        have hok := cascN_ok HY.out.2.2.1 k
        obtain ⟨ea, eb, -, -⟩ := joinOk_true.1 hok
        obtain ⟨t1, t7, hcol⟩ := engOk_iff.1 eb
        have E0 := (hcol 0 (by omega)).1
        obtain ⟨Ax, cx, rfl, -, -, -⟩ := hx.open_
        obtain ⟨Ay, cy, rfl, -, -, hrd⟩ := hy.open_
        obtain ⟨bb, ob, rfl, hbb, hcell⟩ := hrd.strs (by omega)
        have ca := hcell 0 (by omega)
        rw [Nat.add_zero] at ca
        have H := Lib.hid (And.intro hcl (And.intro hcs (And.intro hbel (And.intro hx (And.intro hy (And.intro ox (And.intro oy hok)))))))
        clear hcl hcs hbel hx hy ox oy hok hcell hrd hcol ea eb
        have hsz := H.out.2.2.1.size
        by_cases hlt : k < n
        · obtain ⟨e0, -⟩ := K0.one
          obtain ⟨e1, -⟩ := K1.one
          have hcw : wr.cell? ⟨w2.heap.size, k, none⟩ = some (cs[k]'(by rw [H.out.1]; exact hlt)) := by rw [hblk.cell]; exact List.getElem?_eq_getElem _
          have hfw := hblk.frozen k
          have e0' : (wr.setCell ⟨w2.heap.size, k, none⟩ (.int .i64 (sg (sat (cascN a b k).2 0)))).cell? ⟨w.heap.size, 0, none⟩ = _ := (World.cell?_setCell_other _ _ _ _ (by intro e; injection e with q; omega)).trans e0
          have e1' : (wr.setCell ⟨w2.heap.size, k, none⟩ (.int .i64 (sg (sat (cascN a b k).2 0)))).cell? ⟨w.heap.size + 1, 0, none⟩ = _ := (World.cell?_setCell_other _ _ _ _ (by intro e; injection e with q; omega)).trans e1
          go_wp2_with (go_at_call 80; refine (signed_any _ _ (by assumption)).mono ?_; rintro e w' ⟨rfl, rfl⟩)
          have Kg := hblk.set_ k (.int .i64 (sg (sat (cascN a b k).2 0)))
          replace K0 := K0.far (p := ⟨w2.heap.size, k, none⟩) (by show w.heap.size ≠ w2.heap.size; omega) (.int .i64 (sg (sat (cascN a b k).2 0)))
          replace K1 := K1.far (p := ⟨w2.heap.size, k, none⟩) (by show w.heap.size + 1 ≠ w2.heap.size; omega) (.int .i64 (sg (sat (cascN a b k).2 0)))
          have sx := H.out.2.2.2.1.setFar ⟨w2.heap.size, k, none⟩ (.int .i64 (sg (sat (cascN a b k).2 0))) (H.out.2.2.2.2.2.1.mono fun j hj => by show w2.heap.size ≠ j; omega)
          have sy := H.out.2.2.2.2.1.setFar ⟨w2.heap.size, k, none⟩ (.int .i64 (sg (sat (cascN a b k).2 0))) (H.out.2.2.2.2.2.2.1.mono fun j hj => by show w2.heap.size ≠ j; omega)
          have hB5 := H.out.2.2.1.setCell (p := ⟨w2.heap.size, k, none⟩) (by show w.heap.size ≤ w2.heap.size; omega) (.int .i64 (sg (sat (cascN a b k).2 0)))
          clear e0 e1 e0' e1' ca hcw hfw hblk
          generalize hW5 : wr.setCell ⟨w2.heap.size, k, none⟩ (.int .i64 (sg (sat (cascN a b k).2 0))) = W5 at *
          clear hW5
          refine (implCasc_any _ _ (cascN a b k).1 (cascN a b k).2 _ sx sy).mono ?_
          rintro e w6 ⟨r, s, rfl, oa, ob2, dxy, hb6⟩
          have hyes := cAB_yes H.out.2.2.2.2.2.2.2
          rw [hyes.1] at oa
          rw [hyes.2] at ob2
          have kg := Kg.lt
          have k15 := K1.lt
          replace K0 := K0.below hb6 K0.lt
          replace K1 := K1.below hb6 K1.lt
          replace Kg := Kg.below hb6 Kg.lt
          have HQ := Lib.hid (And.intro oa (And.intro ob2 (And.intro hb6 (And.intro sx (And.intro sy hB5)))))
          obtain ⟨A6, c6, rfl, -, -, -⟩ := oa.strs.open_
          obtain ⟨B6, d6, rfl, -, -, -⟩ := ob2.strs.open_
          clear oa ob2 dxy hb6 hyes sx sy hB5
          obtain ⟨e0, f0⟩ := K0.one
          obtain ⟨e1, f1⟩ := K1.one
          have e1' : (w6.setCell ⟨w.heap.size, 0, none⟩ (.slice A6 (turnS (cascN a b k).1).length c6)).cell? ⟨w.heap.size + 1, 0, none⟩ = _ := (World.cell?_setCell_other _ _ _ _ (by intro e; injection e with q; omega)).trans e1
          go_wp2_with fail
          go_roundw
          case rel =>
            have p0 : w.heap.size < W5.heap.size := by omega
            refine ⟨k + 1, _, .slice A6 (turnS (cascN a b k).1).length c6, .slice B6 (cascB (cascN a b k).1 (cascN a b k).2).length d6, by omega, by go_num, (Kg.far (by show w2.heap.size ≠ w.heap.size; omega) _).far (by show w2.heap.size ≠ w.heap.size + 1; omega) _, by rw [List.length_set]; exact H.out.1, fun j hj => ?_, (K0.set_ 0 _).far (by show w.heap.size ≠ w.heap.size + 1; omega) _, (K1.far (by show w.heap.size + 1 ≠ w.heap.size; omega) _).set_ 0 _, ((HQ.out.1.setCell _ _ (by show w.heap.size < W5.heap.size; omega)).setCell _ _ (by show w.heap.size + 1 < W5.heap.size; omega)).strs, ((HQ.out.2.1.setCell _ _ (by show w.heap.size < W5.heap.size; omega)).setCell _ _ (by show w.heap.size + 1 < W5.heap.size; omega)).strs, ?_, ?_, ((bel_trans HQ.out.2.2.2.2.2 HQ.out.2.2.1).setCell (by show w.heap.size ≤ w.heap.size; omega) _).setCell (by show w.heap.size ≤ w.heap.size + 1; omega) _⟩
            · by_cases e : j = k
              · subst e; rw [List.getElem?_set_self (by rw [H.out.1]; omega)]; rfl
              · rw [List.getElem?_set_ne (by omega)]; exact H.out.2.1 j (by omega)
            · exact HQ.out.1.off.mono fun j hj => by omega
            · exact HQ.out.2.1.off.mono fun j hj => by omega
          case measure => simp [intOf]; omega
        · have : k = n := by omega
          subst this
          go_wp2_with fail
          go_ret2
          refine ⟨_, by rw [HY.out.1]; rfl, ?_, H.out.2.2.1⟩
          rw [HY.out.2.1, ← HY.out.2.2.2]
          refine own_gen hz hblk H.out.1 (by omega) H.out.2.1 (fun j hj => ?_)
          have hc2 := sg_bd (((engOk_iff.1 (joinOk_true.1 (cascN_ok HY.out.2.2.1 j)).2.1).2.2 0 (engOk_iff.1 (joinOk_true.1 (cascN_ok HY.out.2.2.1 j)).2.1).1).1)
          unfold rcR
          omega

end Go.Proofs.Yteemhhgioljmaaa
