/-
  The law FnRunCascade, walked (made by gen_rcf.py).
-/
import Derived.Test.YteemhhgioljmaaaTwoD
import Derived.Test.YteemhhgioljmaaaJoinB
import Derived.Test.YteemhhgioljmaaaResult
import Derived.Test.YteemhhgioljmaaaRunC
import Derived.Test.YteemhhgioljmaaaRunI
import Derived.Test.YteemhhgioljmaaaInter
import Derived.Test.YteemhhgioljmaaaEngBox
namespace Go.Proofs.Yteemhhgioljmaaa
open Go.RowKit
set_option linter.unusedVariables false
set_option linter.unusedSimpArgs false
set_option maxRecDepth 100000
attribute [local go_sem ↓] Go.wp_at_zero Go.wp_at_succ

theorem runJ_any (v : Value) (a b : List ByteArray) (n : Int) (w : World) (hj : joinOk a b = true) (hv : Strs w v (joinE a b)) (hn : -9223372036854775808 ≤ n ∧ n ≤ 9223372036854775807) :
    Calls Try.prog 25 #[.agg #[v], .int .i64 n] w (IntsB w (rcL a b n) (rcOk a b n)) := by
  rw [joinE_yes hj] at hv
  have h := implRun_any v (b ++ a) n w hv hn
  rw [(rc_run hj).1, (rc_run hj).2] at h
  exact h
/-- The two engines after k turns. -/
def cnA (a b : List ByteArray) (k : Nat) : List ByteArray := (cascN a b k).1
def cnB (a b : List ByteArray) (k : Nat) : List ByteArray := (cascN a b k).2
theorem cn_ok {a b : List ByteArray} (h : joinOk a b = true) (k : Nat) : joinOk (cnA a b k) (cnB a b k) = true := cascN_ok h k
theorem cascK_any (u v : Value) (a b : List ByteArray) (k : Nat) (w : World) (hj : joinOk a b = true) (hu : Strs w u (cnA a b k)) (hv : Strs w v (cnB a b k)) :
    Calls Try.prog 59 #[.agg #[u], .agg #[v]] w (TwoEng w (cnA a b (k + 1)) (cnB a b (k + 1)) true) := by
  have h := implCasc_any u v _ _ w hu hv
  have hk := cn_ok hj k
  rw [(cAB_yes hk).1, (cAB_yes hk).2, hk] at h
  exact h
theorem rc_at {a b : List ByteArray} {n : Int} (h : rcOk a b n = true) {k : Nat} (hk : k < (rcL a b n).length) : at_ (rcL a b n) k = sg (sat (cnB a b k) 0) := by
  have hj : joinOk a b = true := by simp [rcOk] at h; exact h.1
  have hin := inB_true.1 (by simp [rcOk] at h; exact h.2 : inB n 0 60 = true)
  obtain ⟨m, rfl⟩ : ∃ m : Nat, n = m := ⟨n.toNat, by omega⟩
  rw [rcL_yes h, runS_length] at hk
  rw [rcL_yes h, ← rc_gen hj, at_gen hk]
  rfl

set_option maxHeartbeats 8000000 in
theorem lawRunCascadeF (v : Value) (code : List Int) (w : World) (hv : Bytes w v code) :
    Calls Try.prog 14 #[v] w fun e w' => e = .returned (.bool true) ∧ Below w.heap.size w w' := by
  have HV := Lib.hid hv
  obtain ⟨A_c, c_c, rfl, -, -, -⟩ := hv.open_
  clear hv
  by_cases hbig : (1048576 : Int) < (code.length : Int)
  · go_enter Try.func14, Try.ntmps14
    go_wp2
    go_ret
    exact ⟨rfl, Below.refl _ _⟩
  · have HB := Lib.hid (Below.refl w.heap.size w)
    go_enter Try.func14, Try.ntmps14
    go_wp2_with fail
    refine (drawRunC_any _ code _ HV.out).mono ?_
    rintro e x1 ⟨r_a, r_b, a, b, n, rfl, o_a, o_b, a8, b8, hn, b0⟩
    clear HV
    have OA := Lib.hid o_a
    have OB := Lib.hid o_b
    replace HB := Lib.hid (bel_trans HB.out b0)
    clear b0
    have R_a := Lib.hid o_a.strs
    obtain ⟨A_a, c_a, rfl, -, -, -⟩ := o_a.strs.open_
    clear o_a
    have R_b := Lib.hid o_b.strs
    obtain ⟨A_b, c_b, rfl, -, -, -⟩ := o_b.strs.open_
    clear o_b
    have zb := HB.out.size
    have PA := Lib.hid (fun k hk => (OA.out.lt k hk))
    have PB := Lib.hid (fun k hk => (OB.out.lt k hk))
    have hn2 : -9223372036854775808 ≤ n ∧ n ≤ 9223372036854775807 := by omega
    clear hn
    have ba : Below x1.heap.size x1 (((x1).alloc (.cells #[Value.slice A_a (a).length c_a] 29)).alloc (.cells #[Value.slice A_b (b).length c_b] 29)) := (bel_alloc x1 _).alloc (by simp <;> omega) _
    replace OA := Lib.hid (OA.out.bel ba)
    replace OB := Lib.hid (OB.out.bel ba)
    replace R_a := Lib.hid (R_a.out.bel ba)
    replace R_b := Lib.hid (R_b.out.bel ba)
    replace HB := Lib.hid (bel_trans HB.out ba)
    clear ba
    have K_p3 := (Blk.new' (x1) 29 (Value.slice A_a (a).length c_a) (x1.heap.size) (by simp)).alloc (.cells #[Value.slice A_b (b).length c_b] 29)
    have K_p4 := Blk.new' ((x1).alloc (.cells #[Value.slice A_a (a).length c_a] 29)) 29 (Value.slice A_b (b).length c_b) (x1.heap.size + 1) (by simp)
    obtain ⟨e_p3, f_p3⟩ := K_p3.one
    obtain ⟨e_p4, f_p4⟩ := K_p4.one
    go_wp2_with fail
    clear e_p3 f_p3 e_p4 f_p4
    generalize hW : ((x1).alloc (.cells #[Value.slice A_a (a).length c_a] 29)).alloc (.cells #[Value.slice A_b (b).length c_b] 29) = x2 at *
    clear hW
    have k4a := K_p4.lt
    refine (implRunC_any _ _ a b n _ R_a.out R_b.out hn2).mono ?_
    rintro e x3 ⟨r_l, rfl, o_l, b0⟩
    have OL0 := Lib.hid o_l
    replace OA := Lib.hid (OA.out.bel b0)
    replace OB := Lib.hid (OB.out.bel b0)
    replace K_p3 := K_p3.below b0 K_p3.lt
    replace K_p4 := K_p4.below b0 K_p4.lt
    replace R_a := Lib.hid (R_a.out.bel b0)
    replace R_b := Lib.hid (R_b.out.bel b0)
    replace HB := Lib.hid (bel_trans HB.out b0)
    clear b0
    have R_l := Lib.hid o_l.ints
    obtain ⟨A_l, c_l, rfl, -, -, -⟩ := o_l.ints.open_
    clear o_l
    obtain ⟨e_p3, f_p3⟩ := K_p3.one
    obtain ⟨e_p4, f_p4⟩ := K_p4.one
    go_wp2_with fail
    clear e_p3 f_p3 e_p4 f_p4
    refine (specRunC_any _ _ a b n _ R_a.out R_b.out hn2).mono ?_
    rintro e x4 ⟨r_m, rfl, o_m, b0⟩
    replace OA := Lib.hid (OA.out.bel b0)
    replace OB := Lib.hid (OB.out.bel b0)
    replace OL0 := Lib.hid (OL0.out.bel b0)
    replace K_p3 := K_p3.below b0 K_p3.lt
    replace K_p4 := K_p4.below b0 K_p4.lt
    replace R_a := Lib.hid (R_a.out.bel b0)
    replace R_b := Lib.hid (R_b.out.bel b0)
    replace R_l := Lib.hid (R_l.out.bel b0)
    replace HB := Lib.hid (bel_trans HB.out b0)
    clear b0
    have R_m := Lib.hid o_m.ints
    obtain ⟨A_m, c_m, rfl, -, -, -⟩ := o_m.ints.open_
    clear o_m
    have he := eqL_self (rcL a b n)
    obtain ⟨e_p3, f_p3⟩ := K_p3.one
    obtain ⟨e_p4, f_p4⟩ := K_p4.one
    go_wp2_with fail
    clear e_p3 f_p3 e_p4 f_p4
    refine (deInts_any _ _ _ _ _ R_l.out R_m.out).mono ?_
    rw [he]
    rintro e x5 ⟨rfl, b0⟩
    replace OA := Lib.hid (OA.out.bel b0)
    replace OB := Lib.hid (OB.out.bel b0)
    replace OL0 := Lib.hid (OL0.out.bel b0)
    replace K_p3 := K_p3.below b0 K_p3.lt
    replace K_p4 := K_p4.below b0 K_p4.lt
    replace R_a := Lib.hid (R_a.out.bel b0)
    replace R_b := Lib.hid (R_b.out.bel b0)
    replace R_l := Lib.hid (R_l.out.bel b0)
    replace R_m := Lib.hid (R_m.out.bel b0)
    replace HB := Lib.hid (bel_trans HB.out b0)
    clear b0
    cases hok : rcOk a b n
    · skip
      obtain ⟨e_p3, f_p3⟩ := K_p3.one
      obtain ⟨e_p4, f_p4⟩ := K_p4.one
      go_wp2_with fail
      clear e_p3 f_p3 e_p4 f_p4
      refine (deInts_any _ _ _ _ _ R_l.out R_m.out).mono ?_
      rw [he]
      rintro e x6 ⟨rfl, b0⟩
      replace OA := Lib.hid (OA.out.bel b0)
      replace OB := Lib.hid (OB.out.bel b0)
      replace OL0 := Lib.hid (OL0.out.bel b0)
      replace K_p3 := K_p3.below b0 K_p3.lt
      replace K_p4 := K_p4.below b0 K_p4.lt
      replace R_a := Lib.hid (R_a.out.bel b0)
      replace R_b := Lib.hid (R_b.out.bel b0)
      replace R_l := Lib.hid (R_l.out.bel b0)
      replace R_m := Lib.hid (R_m.out.bel b0)
      replace HB := Lib.hid (bel_trans HB.out b0)
      clear b0
      obtain ⟨e_p3, f_p3⟩ := K_p3.one
      obtain ⟨e_p4, f_p4⟩ := K_p4.one
      go_wp2
      go_ret
      exact ⟨rfl, HB.out⟩
    · skip
      have HOK := Lib.hid hok
      have HJ : Hid (joinOk a b = true) := Lib.hid (by have h := hok; simp [rcOk] at h; exact h.1)
      clear R_m
      obtain ⟨e_p3, f_p3⟩ := K_p3.one
      obtain ⟨e_p4, f_p4⟩ := K_p4.one
      go_wp2_with fail
      clear e_p3 f_p3 e_p4 f_p4
      refine (implJoin_any _ _ a b _ R_a.out R_b.out).mono ?_
      rintro e x7 ⟨r_e, rfl, o_e, b0⟩
      replace OA := Lib.hid (OA.out.bel b0)
      replace OB := Lib.hid (OB.out.bel b0)
      replace OL0 := Lib.hid (OL0.out.bel b0)
      replace K_p3 := K_p3.below b0 K_p3.lt
      replace K_p4 := K_p4.below b0 K_p4.lt
      replace R_a := Lib.hid (R_a.out.bel b0)
      replace R_b := Lib.hid (R_b.out.bel b0)
      replace R_l := Lib.hid (R_l.out.bel b0)
      replace HB := Lib.hid (bel_trans HB.out b0)
      clear b0
      have R_e := Lib.hid o_e.strs
      obtain ⟨A_e, c_e, rfl, -, -, -⟩ := o_e.strs.open_
      clear o_e
      have ba : Below x7.heap.size x7 ((x7).alloc (.cells #[Value.slice A_e (joinE a b).length c_e] 29)) := bel_alloc x7 _
      replace OA := Lib.hid (OA.out.bel ba)
      replace OB := Lib.hid (OB.out.bel ba)
      replace OL0 := Lib.hid (OL0.out.bel ba)
      replace K_p3 := K_p3.below ba K_p3.lt
      replace K_p4 := K_p4.below ba K_p4.lt
      replace R_a := Lib.hid (R_a.out.bel ba)
      replace R_b := Lib.hid (R_b.out.bel ba)
      replace R_l := Lib.hid (R_l.out.bel ba)
      replace R_e := Lib.hid (R_e.out.bel ba)
      replace HB := Lib.hid (bel_trans HB.out ba)
      clear ba
      have K_p10 := Blk.new' (x7) 29 (Value.slice A_e (joinE a b).length c_e) (x7.heap.size) (by simp)
      obtain ⟨e_p3, f_p3⟩ := K_p3.one
      obtain ⟨e_p4, f_p4⟩ := K_p4.one
      obtain ⟨e_p10, f_p10⟩ := K_p10.one
      go_wp2_with fail
      clear e_p3 f_p3 e_p4 f_p4 e_p10 f_p10
      generalize hW : (x7).alloc (.cells #[Value.slice A_e (joinE a b).length c_e] 29) = x8 at *
      clear hW
      have k4b := K_p4.lt
      refine (runJ_any _ a b n _ HJ.out R_e.out hn2).mono ?_
      rintro e x9 ⟨r_q, rfl, o_q, b0⟩
      have OQ0 := Lib.hid o_q
      replace OA := Lib.hid (OA.out.bel b0)
      replace OB := Lib.hid (OB.out.bel b0)
      replace OL0 := Lib.hid (OL0.out.bel b0)
      replace K_p3 := K_p3.below b0 K_p3.lt
      replace K_p4 := K_p4.below b0 K_p4.lt
      replace K_p10 := K_p10.below b0 K_p10.lt
      replace R_a := Lib.hid (R_a.out.bel b0)
      replace R_b := Lib.hid (R_b.out.bel b0)
      replace R_l := Lib.hid (R_l.out.bel b0)
      replace R_e := Lib.hid (R_e.out.bel b0)
      replace HB := Lib.hid (bel_trans HB.out b0)
      clear b0
      have R_q := Lib.hid o_q.ints
      obtain ⟨A_q, c_q, rfl, -, -, -⟩ := o_q.ints.open_
      clear o_q
      obtain ⟨e_p3, f_p3⟩ := K_p3.one
      obtain ⟨e_p4, f_p4⟩ := K_p4.one
      obtain ⟨e_p10, f_p10⟩ := K_p10.one
      rw [hok]
      go_wp2_with fail
      clear e_p3 f_p3 e_p4 f_p4 e_p10 f_p10
      have N3 := K_p3.lt
      have N4 := K_p4.lt
      obtain ⟨b3, hb3⟩ : ∃ b3, b3 = x1.heap.size := ⟨_, rfl⟩
      have hwb : w.heap.size ≤ b3 := by omega
      have KL : Hid (∀ k, (Value.slice A_l (rcL a b n).length c_l).ownBlock = some k → k ≠ b3 ∧ k ≠ b3 + 1) := Lib.hid (fun k hk => by have := (OL0.out.lt k hk).1; omega)
      have KQ : Hid (∀ k, (Value.slice A_q (rcL a b n).length c_q).ownBlock = some k → k ≠ b3 ∧ k ≠ b3 + 1) := Lib.hid (fun k hk => by have := (OQ0.out.lt k hk).1; omega)
      have KA : Hid (∀ k, (Value.slice A_a a.length c_a).ownBlock = some k → k ≠ b3 ∧ k ≠ b3 + 1) := Lib.hid (fun k hk => by have := (PA.out k hk).2; omega)
      have KB : Hid (∀ k, (Value.slice A_b b.length c_b).ownBlock = some k → k ≠ b3 ∧ k ≠ b3 + 1) := Lib.hid (fun k hk => by have := (PB.out k hk).2; omega)
      rw [← hb3] at K_p3 K_p4 ⊢
      have HOL := Lib.hid (OL0.out.lower (base' := w.heap.size) (by omega))
      have HOQ := Lib.hid (OQ0.out.lower (base' := w.heap.size) (by omega))
      clear hb3
      go_loopw [14] (fun i wr => ∃ (k : Nat) (va vb : Value), k ≤ (rcL a b n).length ∧ i = .int .i64 k ∧ Blk wr b3 29 [va] ∧ Blk wr (b3 + 1) 29 [vb] ∧ OwnS wr w.heap.size va (cnA a b k) ∧ OwnS wr w.heap.size vb (cnB a b k) ∧ (∀ k, va.ownBlock = some k → k ≠ b3 ∧ k ≠ b3 + 1) ∧ (∀ k, vb.ownBlock = some k → k ≠ b3 ∧ k ≠ b3 + 1) ∧ Own wr w.heap.size (Value.slice A_l (rcL a b n).length c_l) (rcL a b n) ∧ Own wr w.heap.size (Value.slice A_q (rcL a b n).length c_q) (rcL a b n) ∧ Below w.heap.size w wr)
        (fun i _ => (rcL a b n).length - (intOf i).toNat)
      case atStart => exact ⟨0, _, _, Nat.zero_le _, rfl, K_p3, K_p4, OA.out, OB.out, KA.out, KB.out, HOL.out, HOQ.out, HB.out⟩
      case round =>
        clear K_p3 K_p4 OA OB OL0 OQ0 HOL HOQ HB KA KB R_a R_b R_l R_q R_e K_p10 PA PB
        obtain ⟨k, va, vb, hk, rfl, K3, K4, oa, ob, na, nb, ol, oq, hb⟩ := hrel
        have hz := hb.size
        have h60 : (rcL a b n).length ≤ 60 := rcL_len
        by_cases hlt : k < (rcL a b n).length
        · have HJK := Lib.hid (joinOk_true.1 (cn_ok HJ.out k)).2.1
          have hat := rc_at HOK.out hlt
          obtain ⟨A', cc', e', -, -, hrd⟩ := ol.ints.open_
          injection e' with q1 q2 q3
          subst q1 q3
          obtain ⟨bl, of, rfl, hbl, hcell⟩ := hrd.ints (by omega)
          have hcl := hcell k hlt
          rw [hat] at hcl
          have RA := Lib.hid oa.strs
          have RB := Lib.hid ob.strs
          have SS := Lib.hid (And.intro oa (And.intro ob (And.intro ol (And.intro oq hb))))
          have NN := Lib.hid (And.intro na nb)
          obtain ⟨A1, c1, rfl, -, -, -⟩ := oa.strs.open_
          obtain ⟨A2, c2, rfl, -, -, -⟩ := ob.strs.open_
          have p1 : (k : Int) < ((rcL a b n).length : Int) := by omega
          have p3 : (0 : Int) ≤ (k : Int) := by omega
          clear hrd hcell hat q2 oa ob ol oq hb na nb
          obtain ⟨e3, f3⟩ := K3.one
          obtain ⟨e4, f4⟩ := K4.one
          go_wp2_with fail
          clear e3 f3 e4 f4
          refine (resultOf_any _ _ _ RB.out HJK.out).mono ?_
          rintro e w2 ⟨rfl, b2⟩
          replace K3 := K3.below b2 K3.lt
          replace K4 := K4.below b2 K4.lt
          replace hcl := (b2.cell (by exact hbl)).trans hcl
          replace RA := Lib.hid (RA.out.bel b2)
          replace RB := Lib.hid (RB.out.bel b2)
          replace SS := Lib.hid (And.intro (SS.out.1.bel b2) (And.intro (SS.out.2.1.bel b2) (And.intro (SS.out.2.2.1.bel b2) (And.intro (SS.out.2.2.2.1.bel b2) (bel_trans SS.out.2.2.2.2 b2)))))
          clear b2
          obtain ⟨e3, f3⟩ := K3.one
          obtain ⟨e4, f4⟩ := K4.one
          go_wp2_with fail
          clear e3 f3 e4 f4 hcl
          refine (cascK_any _ _ a b k _ HJ.out RA.out RB.out).mono ?_
          rintro e w3 ⟨r, s, rfl, o1, o2, -, b3'⟩
          have k4 := K4.lt
          have hz2 := SS.out.2.2.2.2.size
          replace K3 := K3.below b3' K3.lt
          replace K4 := K4.below b3' K4.lt
          replace SS := Lib.hid (And.intro (SS.out.2.2.1.bel b3') (And.intro (SS.out.2.2.2.1.bel b3') (bel_trans SS.out.2.2.2.2 b3')))
          have n1 : Hid (∀ k, r.ownBlock = some k → k ≠ b3 ∧ k ≠ b3 + 1) := Lib.hid (fun k hk => by have := (o1.lt k hk).1; omega)
          have n2 : Hid (∀ k, s.ownBlock = some k → k ≠ b3 ∧ k ≠ b3 + 1) := Lib.hid (fun k hk => by have := (o2.lt k hk).1; omega)
          have O1 := Lib.hid (o1.lower (base' := w.heap.size) hz2)
          have O2 := Lib.hid (o2.lower (base' := w.heap.size) hz2)
          obtain ⟨A5, c5, rfl, -, -, -⟩ := o1.strs.open_
          obtain ⟨A6, c6, rfl, -, -, -⟩ := o2.strs.open_
          clear o1 o2 b3' RA RB NN
          have g1 : w3.grownBy (w3.setCell ⟨b3, 0, none⟩ (Value.slice A5 (cnA a b (k + 1)).length c5)) (some b3) := only_setCell (World.grownBy.refl w3 (some b3)) (.inl rfl) _
          have g2 : (w3.setCell ⟨b3, 0, none⟩ (Value.slice A5 (cnA a b (k + 1)).length c5)).grownBy ((w3.setCell ⟨b3, 0, none⟩ (Value.slice A5 (cnA a b (k + 1)).length c5)).setCell ⟨b3 + 1, 0, none⟩ (Value.slice A6 (cnB a b (k + 1)).length c6)) (some (b3 + 1)) := only_setCell (World.grownBy.refl _ (some (b3 + 1))) (.inl rfl) _
          have F3 : Blk ((w3.setCell ⟨b3, 0, none⟩ (Value.slice A5 (cnA a b (k + 1)).length c5)).setCell ⟨b3 + 1, 0, none⟩ (Value.slice A6 (cnB a b (k + 1)).length c6)) b3 29 [Value.slice A5 (cnA a b (k + 1)).length c5] := (K3.set_ 0 _).far (p := ⟨b3 + 1, 0, none⟩) (by show b3 ≠ b3 + 1; omega) _
          have F4 : Blk ((w3.setCell ⟨b3, 0, none⟩ (Value.slice A5 (cnA a b (k + 1)).length c5)).setCell ⟨b3 + 1, 0, none⟩ (Value.slice A6 (cnB a b (k + 1)).length c6)) (b3 + 1) 29 [Value.slice A6 (cnB a b (k + 1)).length c6] := (K4.far (p := ⟨b3, 0, none⟩) (by show b3 + 1 ≠ b3; omega) _).set_ 0 _
          have FF := Lib.hid (And.intro F3 (And.intro F4 (And.intro ((O1.out.awayRow g1 (fun k hk => (n1.out k hk).1)).awayRow g2 (fun k hk => (n1.out k hk).2)) (And.intro ((O2.out.awayRow g1 (fun k hk => (n2.out k hk).1)).awayRow g2 (fun k hk => (n2.out k hk).2)) (And.intro ((SS.out.1.awayRow g1 (fun k hk => (KL.out k hk).1)).awayRow g2 (fun k hk => (KL.out k hk).2)) (And.intro ((SS.out.2.1.awayRow g1 (fun k hk => (KQ.out k hk).1)).awayRow g2 (fun k hk => (KQ.out k hk).2)) ((SS.out.2.2.setCell (p := ⟨b3, 0, none⟩) hwb (Value.slice A5 (cnA a b (k + 1)).length c5)).setCell (p := ⟨b3 + 1, 0, none⟩) (by show w.heap.size ≤ b3 + 1; omega) (Value.slice A6 (cnB a b (k + 1)).length c6))))))))
          obtain ⟨e3, f3⟩ := K3.one
          obtain ⟨e4, f4⟩ := K4.one
          clear g1 g2 F3 F4 K3 K4
          go_wp2
          go_roundw
          case rel => exact ⟨k + 1, _, _, by omega, by go_num, FF.out.1, FF.out.2.1, FF.out.2.2.1, FF.out.2.2.2.1, n1.out, n2.out, FF.out.2.2.2.2.1, FF.out.2.2.2.2.2.1, FF.out.2.2.2.2.2.2⟩
          case measure => simp [intOf]; omega
        · have RL := Lib.hid ol.ints
          have RQ := Lib.hid oq.ints
          have HB2 := Lib.hid hb
          clear ol oq hb oa ob na nb K3 K4
          go_wp2_with fail
          refine (deInts_any _ _ _ _ _ RQ.out RL.out).mono ?_
          rw [he]
          rintro e w2 ⟨rfl, b2⟩
          replace HB2 := Lib.hid (bel_trans HB2.out b2)
          clear b2
          go_wp2
          go_ret
          exact ⟨rfl, HB2.out⟩

end Go.Proofs.Yteemhhgioljmaaa
