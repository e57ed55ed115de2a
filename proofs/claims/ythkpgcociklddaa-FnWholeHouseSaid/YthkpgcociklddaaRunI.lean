/-
  Contracts of impl.TurnWhole, resultsOf, impl.RunEngine.
-/
import Derived.Test.YthkpgcociklddaaRun
namespace Go.Proofs.Ythkpgcociklddaa
open Go.RowKit
set_option linter.unusedVariables false
set_option linter.unusedSimpArgs false
set_option maxRecDepth 100000
attribute [local go_sem ↓] Go.wp_at_zero Go.wp_at_succ

def turnW (l : List ByteArray) : List ByteArray := if engOk l = true then turnS l else []
theorem turnW_yes {l : List ByteArray} (h : engOk l = true) : turnW l = turnS l := by simp [turnW, h]
theorem turnW_no {l : List ByteArray} (h : engOk l = false) : turnW l = [] := by simp [turnW, h]

set_option maxHeartbeats 2000000 in
theorem turnWhole_any (v : Value) (l : List ByteArray) (w : World) (hv : Strs w v l) :
    Calls Try.prog 68 #[.agg #[v]] w (EngB w (turnW l) (engOk l)) := by
  have HV := Lib.hid hv
  obtain ⟨A, c, rfl, -, -, -⟩ := hv.open_
  clear hv
  have B0 := Lib.hid (show Below w.heap.size w ((w.alloc (.cells #[.slice A l.length c] 28)).alloc (.cells #[.slice none 0 0] 28)) from (bel_alloc w _).alloc (by simp) _)
  have K0 := (Blk.new' w 28 (.slice A l.length c) w.heap.size rfl).alloc (.cells #[.slice none 0 0] 28)
  have K2 := Blk.new' (w.alloc (.cells #[.slice A l.length c] 28)) 28 (.slice none 0 0) (w.heap.size + 1) (by simp)
  obtain ⟨c0, -⟩ := K0.one
  go_enter Try.func68, Try.ntmps68
  go_wp2_with fail
  clear c0
  generalize hW : (w.alloc (.cells #[.slice A l.length c] 28)).alloc (.cells #[.slice none 0 0] 28) = W at *
  clear hW
  refine (implEng_any _ l _ (HV.out.bel B0.out)).mono ?_
  rintro e w2 ⟨rfl, hb⟩
  replace K0 := K0.below hb K0.lt
  replace K2 := K2.below hb K2.lt
  have HB := Lib.hid (bel_trans B0.out hb)
  have hz := HB.out.size
  clear hb
  obtain ⟨c0, -⟩ := K0.one
  obtain ⟨c2, f2⟩ := K2.one
  cases he : engOk l
  · have HN := Lib.hid (turnW_no he)
    go_wp2
    refine bodyPost_ret (v := .tuple #[.agg #[.slice none 0 0], .bool false]) (by simp [results, Try.results68, go_sem, c2]) rfl ⟨.slice none 0 0, by rw [he], ?_, ?_⟩
    · rw [HN.out]; exact OwnS.nil_ _ _
    · exact HB.out.setCell (by simp) _
  · have HY := Lib.hid (And.intro (turnW_yes he) he)
    clear he
    go_wp2_with fail
    refine (turnedOnce_any _ l _ (HV.out.bel HB.out) HY.out.2).mono ?_
    rintro e w3 ⟨r, rfl, ho, hb3⟩
    have k2 := K2.lt
    replace K2 := K2.below hb3 K2.lt
    have HO := Lib.hid (And.intro (ho.lower (base' := w.heap.size + 1 + 1) (by omega)) (bel_trans HB.out hb3))
    obtain ⟨A3, d3, rfl, -, -, -⟩ := ho.strs.open_
    clear ho hb3 c2 f2
    obtain ⟨c2, f2⟩ := K2.one
    generalize hp : (turnS l).length = p at *
    clear hp
    go_wp2
    refine bodyPost_ret (v := .tuple #[.agg #[.slice A3 p d3], .bool true]) (by simp [results, Try.results68, go_sem, c2]) rfl ⟨_, by rw [HY.out.2], ?_, ?_⟩
    · rw [HY.out.1]; exact (HO.out.1.setCell _ _ (by simp)).lower (by omega)
    · exact HO.out.2.setCell (by simp) _

set_option maxHeartbeats 4000000 in
theorem resultsOf_any (u : Value) (l : List ByteArray) (n : Int) (w : World) (hu : Strs w u l) (hn : -9223372036854775808 ≤ n ∧ n ≤ 9223372036854775807) :
    Calls Try.prog 33 #[.agg #[u], .int .i64 n, .func (Fn.func 68) #[] #[]] w (IntsB w (runL l n) (runOk l n)) := by
  have HU := Lib.hid hu
  have HOF := Lib.hid hu.off
  obtain ⟨A, c, rfl, -, -, -⟩ := hu.open_
  clear hu
  have B0 := Lib.hid (show Below w.heap.size w (w.alloc (.cells #[.slice A l.length c] 28)) from bel_alloc w _)
  have K0 := Blk.new' w 28 (.slice A l.length c) w.heap.size rfl
  obtain ⟨c0, -⟩ := K0.one
  go_enter Try.func33, Try.ntmps33
  go_wp2_with fail
  clear c0
  generalize hW : w.alloc (.cells #[.slice A l.length c] 28) = W at *
  clear hW
  refine (implEng_any _ l _ (HU.out.bel B0.out)).mono ?_
  rintro e w2 ⟨rfl, hb⟩
  have k0 := K0.lt
  have hbz := hb.size
  replace K0 := K0.below hb K0.lt
  have HB := Lib.hid (bel_trans B0.out hb)
  have hz := HB.out.size
  clear hb
  cases he : engOk l
  · have HN := Lib.hid (And.intro (runOk_e (n := n) he) (runL_no (runOk_e (n := n) he)))
    go_wp2_with fail
    go_ret2
    exact ⟨_, by rw [HN.out.1]; rfl, by rw [HN.out.2]; exact Own.nil_ _ _, HB.out⟩
  · cases hc : inB n 0 60
    · have HN := Lib.hid (And.intro (runOk_n (l := l) hc) (runL_no (runOk_n (l := l) hc)))
      have hc' := inB_false.1 hc
      by_cases hlo : n < 0
      · go_wp2_with fail
        go_ret2
        exact ⟨_, by rw [HN.out.1]; rfl, by rw [HN.out.2]; exact Own.nil_ _ _, HB.out⟩
      · have hhi : 60 < n := by omega
        go_wp2_with fail
        go_ret2
        exact ⟨_, by rw [HN.out.1]; rfl, by rw [HN.out.2]; exact Own.nil_ _ _, HB.out⟩
    · have hn2 := inB_true.1 hc
      obtain ⟨n, rfl⟩ : ∃ k : Nat, n = k := ⟨n.toNat, by omega⟩
      have n60 : n ≤ 60 := by omega
      have hrc : runOk l n = true := by simp [runOk, he, hc]
      have HY := Lib.hid (And.intro hrc (And.intro (runL_yes hrc) he))
      have hmk := fun W => Try.mkInts n (by omega) W
      have HS0 := Lib.hid (And.intro (HU.out.bel HB.out) K0)
      have hlo : ¬ ((n : Int) < 0) := by omega
      have hhi : ¬ (60 < (n : Int)) := by omega
      clear hrc hn2 hn he hc K0
      go_wp2_with fail
      go_loopw [25] (fun i wr => ∃ (k : Nat) (cs : List Value) (x : Value), k ≤ n ∧ i = .int .i64 k ∧ Blk wr w2.heap.size 3 cs ∧ cs.length = n ∧ (∀ j, j < k → cs[j]? = some (.int .i64 (sg (sat (turnN l j) 0)))) ∧
          Blk wr w.heap.size 28 [x] ∧ Strs wr x (turnN l k) ∧ Off x (turnN l k) (fun j => j ≠ w.heap.size ∧ j ≠ w2.heap.size) ∧ Below w.heap.size w wr)
        (fun i _ => n - (intOf i).toNat)
      case atStart =>
        refine ⟨0, _, _, Nat.zero_le _, rfl, Blk.new w2 _ _, reps_length _ _, fun j hj => absurd hj (by omega), HS0.out.2.alloc _, HS0.out.1.bel (bel_alloc w2 _), ?_, bel_trans HB.out (bel_alloc w2 _)⟩
        exact HOF.out.mono fun j hj => by omega
      case round =>
        clear HS0
        obtain ⟨k, cs, x, hk, rfl, hblk, hcl, hcs, K0, hx, ox, hbel⟩ := hrel
        have E0 := eng0 HY.out.2.2 k
        obtain ⟨t1, t7, -⟩ := engOk_iff.1 (turnN_ok HY.out.2.2 k)
        obtain ⟨Ax, cx, rfl, -, -, hrd⟩ := hx.open_
        obtain ⟨bb, ob, rfl, hbb, hcell⟩ := hrd.strs (by omega)
        have ca := hcell 0 (by omega)
        rw [Nat.add_zero] at ca
        have H := Lib.hid (And.intro hcl (And.intro hcs (And.intro hbel (And.intro hx ox))))
        clear hcl hcs hbel hx ox hcell hrd
        have hsz := H.out.2.2.1.size
        by_cases hlt : k < n
        · obtain ⟨e0, -⟩ := K0.one
          have hcw : wr.cell? ⟨w2.heap.size, k, none⟩ = some (cs[k]'(by rw [H.out.1]; exact hlt)) := by rw [hblk.cell]; exact List.getElem?_eq_getElem _
          have hfw := hblk.frozen k
          have e0' : (wr.setCell ⟨w2.heap.size, k, none⟩ (.int .i64 (sg (sat (turnN l k) 0)))).cell? ⟨w.heap.size, 0, none⟩ = _ := (World.cell?_setCell_other _ _ _ _ (by intro e; injection e with q; omega)).trans e0
          go_wp2_with (go_at_call 47; refine (signed_any _ _ (by assumption)).mono ?_; rintro e w' ⟨rfl, rfl⟩)
          have Kg := hblk.set_ k (.int .i64 (sg (sat (turnN l k) 0)))
          replace K0 := K0.far (p := ⟨w2.heap.size, k, none⟩) (by show w.heap.size ≠ w2.heap.size; omega) (.int .i64 (sg (sat (turnN l k) 0)))
          have sx := H.out.2.2.2.1.setFar ⟨w2.heap.size, k, none⟩ (.int .i64 (sg (sat (turnN l k) 0))) (H.out.2.2.2.2.mono fun j hj => by show w2.heap.size ≠ j; omega)
          have hB5 := H.out.2.2.1.setCell (p := ⟨w2.heap.size, k, none⟩) (by show w.heap.size ≤ w2.heap.size; omega) (.int .i64 (sg (sat (turnN l k) 0)))
          clear e0 e0' ca hcw hfw hblk
          generalize hW5 : wr.setCell ⟨w2.heap.size, k, none⟩ (.int .i64 (sg (sat (turnN l k) 0))) = W5 at *
          clear hW5
          refine (turnWhole_any _ (turnN l k) _ sx).mono ?_
          rintro e w6 ⟨r, rfl, oa, hb6⟩
          rw [turnW_yes (turnN_ok HY.out.2.2 k)] at oa
          have kg := Kg.lt
          have k05 := K0.lt
          replace K0 := K0.below hb6 K0.lt
          replace Kg := Kg.below hb6 Kg.lt
          have HQ := Lib.hid (And.intro oa (bel_trans hB5 hb6))
          obtain ⟨A6, c6, rfl, -, -, -⟩ := oa.strs.open_
          clear oa hb6 sx hB5
          obtain ⟨e0, f0⟩ := K0.one
          go_wp2_with fail
          go_roundw
          case rel =>
            refine ⟨k + 1, _, .slice A6 (turnS (turnN l k)).length c6, by omega, by go_num, Kg.far (by show w2.heap.size ≠ w.heap.size; omega) _, by rw [List.length_set]; exact H.out.1, fun j hj => ?_, K0.set_ 0 _, (HQ.out.1.setCell _ _ (by show w.heap.size < W5.heap.size; omega)).strs, ?_, HQ.out.2.setCell (by show w.heap.size ≤ w.heap.size; omega) _⟩
            · by_cases e : j = k
              · subst e; rw [List.getElem?_set_self (by rw [H.out.1]; omega)]
              · rw [List.getElem?_set_ne (by omega)]; exact H.out.2.1 j (by omega)
            · exact HQ.out.1.off.mono fun j hj => by omega
          case measure => simp [intOf]; omega
        · have : k = n := by omega
          subst this
          go_wp2_with fail
          go_ret2
          refine ⟨_, by rw [HY.out.1]; rfl, ?_, H.out.2.2.1⟩
          rw [HY.out.2.1]
          refine own_gen hz hblk H.out.1 (by omega) H.out.2.1 (fun j hj => ?_)
          have hc2 := sg_bd (eng0 HY.out.2.2 j)
          omega

set_option maxHeartbeats 2000000 in
theorem implRun_any (u : Value) (l : List ByteArray) (n : Int) (w : World) (hu : Strs w u l) (hn : -9223372036854775808 ≤ n ∧ n ≤ 9223372036854775807) :
    Calls Try.prog 38 #[.agg #[u], .int .i64 n] w (IntsB w (runL l n) (runOk l n)) := by
  have HU := Lib.hid hu
  obtain ⟨A, c, rfl, -, -, -⟩ := hu.open_
  clear hu
  go_enter Try.func38, Try.ntmps38
  go_wp2_with fail
  refine (resultsOf_any _ l n _ (HU.out.bel (bel_alloc w _)) hn).mono ?_
  rintro e w2 ⟨r, rfl, ho, hb⟩
  have HF := Lib.hid (And.intro (ho.lower (base' := w.heap.size) (by simp)) (bel_trans (bel_alloc w (.cells #[.slice A l.length c] 28)) hb))
  obtain ⟨A3, d3, rfl, -, -, -⟩ := ho.ints.open_
  clear ho hb
  go_wp2
  go_ret2
  exact ⟨_, rfl, HF.out.1, HF.out.2⟩

end Go.Proofs.Ythkpgcociklddaa
