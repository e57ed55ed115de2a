/-
  The law FnRunParts, walked.
-/
import Derived.Test.YteemhhgioljmaaaLstC
import Derived.Test.YteemhhgioljmaaaParts
import Derived.Test.YteemhhgioljmaaaInter
import Derived.Deep.RegionHeld3
namespace Go.Proofs.Yteemhhgioljmaaa
open Go.RowKit
set_option linter.unusedVariables false
set_option linter.unusedSimpArgs false
set_option maxRecDepth 100000
attribute [local go_sem ↓] Go.wp_at_zero Go.wp_at_succ

theorem parts_pre (ls : List (List ByteArray)) (sz : List Int) {i : Nat} : ∀ n, i ≤ n → ∃ t, partsTo ls sz n = partsTo ls sz i ++ t
  | 0, h => ⟨[], by rw [show i = 0 by omega]; rfl⟩
  | n + 1, h => by
    by_cases e : i = n + 1
    · exact ⟨[], by rw [e, List.append_nil]⟩
    · obtain ⟨t, ht⟩ := parts_pre ls sz n (show i ≤ n by omega)
      exact ⟨t ++ runL (eat ls n) (at_ sz n), by rw [partsTo_succ, ht, List.append_assoc]⟩
theorem parts_mid (ls : List (List ByteArray)) (sz : List Int) {i n : Nat} (h : i < n) :
    (partsTo ls sz i).length + (runL (eat ls i) (at_ sz i)).length ≤ (partsTo ls sz n).length ∧ ((partsTo ls sz n).drop (partsTo ls sz i).length).take (runL (eat ls i) (at_ sz i)).length = runL (eat ls i) (at_ sz i) := by
  obtain ⟨t, ht⟩ := parts_pre ls sz (i := i + 1) n h
  rw [ht, partsTo_succ, List.append_assoc]
  refine ⟨by simp only [List.length_append]; omega, ?_⟩
  rw [List.drop_left, List.take_left]
/-- b[lo:lo+n] of a slice that reads as numbers. -/
theorem Ints.mid {w : World} {b o c : Nat} {l : List Int} (h : Ints w (.slice (some ⟨b, o, none⟩) l.length c) l) {lo n : Nat} (hn : lo + n ≤ l.length) : Ints w (.slice (some ⟨b, o + lo, none⟩) n (c - lo)) ((l.drop lo).take n) := by
  obtain ⟨A', c', e, h1, h2, h3⟩ := h.open_
  injection e with e1 _ e3
  subst e1 e3
  have hl : ((l.drop lo).take n).length = n := by rw [List.length_take, List.length_drop]; omega
  refine ⟨⟨some ⟨b, o + lo, none⟩, c - lo, by rw [iv_length, hl], by rw [iv_length, hl]; omega, by unfold maxLen; omega, fun h0 => ?_⟩, fun x hx => h.2 x (List.mem_of_mem_drop (List.mem_of_mem_take hx))⟩
  rw [iv_length, hl] at h0
  obtain ⟨b', o', e', hb, hc⟩ := h3 (by rw [iv_length]; omega)
  injection e' with e'
  injection e' with e1 e2
  subst e1 e2
  refine ⟨b, o + lo, rfl, hb, fun k u hu => ?_⟩
  have hk : k < n := by
    rcases Nat.lt_or_ge k n with q | q
    · exact q
    · rw [List.getElem?_eq_none (by rw [iv_length, hl]; exact q)] at hu; cases hu
  rw [Nat.add_assoc]
  refine hc (lo + k) u ?_
  rw [← hu, iv, iv, List.map_take, List.map_drop, List.getElem?_take, if_pos hk, List.getElem?_drop]

theorem ints_zero {w : World} {A : Option Addr} {l : List Int} (h : l.length = 0) : Ints w (.slice A l.length 0) l := by
  obtain rfl := List.eq_nil_of_length_eq_zero h
  exact ⟨⟨A, 0, rfl, Nat.le_refl _, Nat.zero_le _, fun h => absurd h (by simp [iv])⟩, fun _ h => by simp at h⟩

set_option maxHeartbeats 8000000 in
theorem lawRunPartsF (v : Value) (code : List Int) (w : World) (hv : Bytes w v code) :
    Calls Try.prog 4 #[v] w fun e w' => e = .returned (.bool true) ∧ Below w.heap.size w w' := by
  have HV := Lib.hid hv
  obtain ⟨A_c, c_c, rfl, -, hc1, -⟩ := hv.open_
  clear hv
  by_cases hbig : (1048576 : Int) < (code.length : Int)
  · go_enter Try.func4, Try.ntmps4
    go_wp2
    go_ret
    exact ⟨rfl, Below.refl _ _⟩
  · go_enter Try.func4, Try.ntmps4
    go_wp2_with fail
    refine (drawParts_any _ code _ HV.out).mono ?_
    rintro e w0 ⟨vl, ls, vs, sz, rfl, hs, hl, hz, hzl, b⟩
    have HS := Lib.hid hs
    have HZ := Lib.hid hz
    have HB := Lib.hid b
    have HE := Lib.hid (eqL_self (rpL ls sz))
    clear b
    obtain ⟨A, cc, xs, rfl, hlc, hc, hrd, hst⟩ := hs.open_
    obtain ⟨Az, cz, rfl, -, -, -⟩ := hz.open_
    clear hs hrd hst hz
    go_wp2_with fail
    refine (implParts_any _ _ ls sz _ HS.out HZ.out (by omega)).mono ?_
    rintro e w1 ⟨r1, rfl, o1, b⟩
    replace HS := Lib.hid (HS.out.bel b)
    replace HZ := Lib.hid (HZ.out.bel b)
    replace HB := Lib.hid (bel_trans HB.out b)
    have O1 := Lib.hid o1
    obtain ⟨A1, c1, rfl, -, -, -⟩ := o1.ints.open_
    clear b o1
    go_wp2_with fail
    refine (specParts_any _ _ ls sz _ HS.out HZ.out (by omega)).mono ?_
    rintro e w2 ⟨r2, rfl, o2, b⟩
    replace HS := Lib.hid (HS.out.bel b)
    replace HZ := Lib.hid (HZ.out.bel b)
    replace HB := Lib.hid (bel_trans HB.out b)
    replace O1 := Lib.hid (O1.out.bel b)
    have O2 := Lib.hid o2.ints
    obtain ⟨A2, c2, rfl, -, -, -⟩ := o2.ints.open_
    clear b o2
    cases hok : rpOk ls sz
    all_goals
      go_wp2_with fail
      refine (deInts_any _ _ _ _ _ O1.out.ints O2.out).mono ?_
      rw [HE.out]
      rintro e w3 ⟨rfl, b⟩
      replace HS := Lib.hid (HS.out.bel b)
      replace HZ := Lib.hid (HZ.out.bel b)
      replace HB := Lib.hid (bel_trans HB.out b)
      replace O1 := Lib.hid (O1.out.bel b)
      replace O2 := Lib.hid (O2.out.bel b)
      clear b
    · go_wp2_with fail
      refine (deInts_any _ _ _ _ _ O1.out.ints O2.out).mono ?_
      rw [HE.out]
      rintro e w4 ⟨rfl, b⟩
      replace HB := Lib.hid (bel_trans HB.out b)
      clear b
      go_wp2
      go_ret
      exact ⟨rfl, HB.out⟩
    · have hok' := hok
      simp only [rpOk, Bool.and_eq_true, decide_eq_true_eq] at hok'
      obtain ⟨⟨ha, hi⟩, hll⟩ := hok'
      obtain ⟨q1, q10, hall⟩ := allOk_true.1 ha
      obtain ⟨-, hsz, -⟩ := sizesOk_true.1 hi
      have h600 : (partsTo ls sz ls.length).length ≤ 600 := by rw [← (rp_yes ha hi hll).2]; exact rpL_len ls sz
      obtain ⟨lr, n, hlr, hln, h600, hmid, hend⟩ : ∃ (lr : List Int) (n : Nat), rpL ls sz = lr ∧ lr.length = n ∧ n ≤ 600 ∧ (∀ k, k < ls.length → (partsTo ls sz k).length + (runL (eat ls k) (at_ sz k)).length ≤ n ∧ (lr.drop (partsTo ls sz k).length).take (runL (eat ls k) (at_ sz k)).length = runL (eat ls k) (at_ sz k)) ∧ (partsTo ls sz ls.length).length = n :=
        ⟨_, _, (rp_yes ha hi hll).2, rfl, h600, fun k hk => parts_mid ls sz hk, rfl⟩
      rw [hlr, hln] at O1 ⊢
      have HA := Lib.hid (And.intro hall (And.intro hsz (And.intro hmid (And.intro hend hll))))
      have HN := Lib.hid hln
      clear hok ha hi hall HE hlr O2 hsz hmid hend hll hln
      go_wp2_with fail
      go_loopw [9, 10] (fun a i wr => ∃ k : Nat, k ≤ ls.length ∧ i = .int .i64 k ∧ a = .int .i64 ((partsTo ls sz k).length : Nat) ∧ Below w3.heap.size w3 wr) (fun _ i _ => ls.length - (intOf i).toNat)
      case atStart => exact ⟨0, Nat.zero_le _, rfl, rfl, Below.refl _ _⟩
      case round =>
        obtain ⟨k, hk, rfl, rfl, hb⟩ := hrel
        have hz := hb.size
        by_cases hlt : k < ls.length
        · have hll := HA.out.2.2.2.2
          obtain ⟨hm1, hm2⟩ := HA.out.2.2.1 k hlt
          have hps := partsTo_succ ls sz k
          have hpl : (partsTo ls sz (k + 1)).length = (partsTo ls sz k).length + (runL (eat ls k) (at_ sz k)).length := by rw [hps, List.length_append]
          have HP := Lib.hid (And.intro hm2 hpl)
          have hq := HA.out.2.1 k (by omega)
          have hrk : runOk (eat ls k) (at_ sz k) = true := by simp [runOk, HA.out.1 k hlt, inB_true.2 hq]
          obtain ⟨A', cc', xs', e', -, -, hrd, hst⟩ := HS.out.open_
          injection e' with e1 e2 e3
          subst e1 e3
          obtain ⟨b, o, rfl, hbb, hcell⟩ := hrd (by omega)
          have hs := hst k hlt
          obtain ⟨Ai, ci, hxi, -, -, -⟩ := hs.open_
          have d1 := hcell k hlt
          rw [hxi] at d1 hs
          have ck : wr.cell? ⟨b, o + k, none⟩ = _ := (hb.cell (by exact hbb)).trans d1
          have HSI := Lib.hid (hs.bel hb)
          obtain ⟨Az', cz', e', -, -, hrdz⟩ := HZ.out.open_
          injection e' with e1 e2' e3
          subst e1 e3
          obtain ⟨bz, oz, rfl, hbz, hcellz⟩ := hrdz.ints (by omega)
          have ckz : wr.cell? ⟨bz, oz + k, none⟩ = some (.int .i64 (at_ sz k)) := (hb.cell (by exact hbz)).trans (hcellz k (by omega))
          have tok1 : True := trivial
          have hbr : b < wr.heap.size := by omega
          have hbzr : bz < wr.heap.size := by omega
          have p4 : k < sz.length := by omega
          have HBW := Lib.hid hb
          have HRK := Lib.hid hrk
          clear hll
          clear hb hcell hs hxi d1 hrd hst hrdz hcellz e2 e2' hm2 hps hpl hrk
          generalize hpa : (partsTo ls sz k).length = a at *
          obtain ⟨pl, hpl⟩ : ∃ pl, pl = runL (eat ls k) (at_ sz k) := ⟨_, rfl⟩
          rw [← hpl] at HP hm1
          have HPL := Lib.hid hpl
          clear hpl
          go_wp2_with fail
          go_region_held3 (fun w' => w'.cell? ⟨b, o + k, none⟩ = some (.slice Ai (eat ls k).length ci) ∧ w'.cell? ⟨bz, oz + k, none⟩ = some (.int .i64 (at_ sz k))) (first | exact ⟨ck, ckz⟩ | exact ⟨(B5.out.cell (by exact hbr)).trans ck, (B5.out.cell (by exact hbzr)).trans ckz⟩ | go_keep) (first
            | ((try go_simp); go_at_call 25; have _t := tok1; go_loud (refine (implRun_any _ (eat ls k) (at_ sz k) _ (by first | exact HSI.out | exact HSI.out.bel ((Below.refl _ _).drew)) (by omega)).mono ?_; rw [HRK.out, ← HPL.out]; rintro e w5 ⟨r5, rfl, o5, b5⟩; have B5 := Lib.hid (show Below wr.heap.size wr w5 from (by first | exact b5 | exact bel_trans ((Below.refl _ _).drew) b5)); have O5 := Lib.hid o5.ints; obtain ⟨A5, c5, rfl, -, -, -⟩ := o5.ints.open_; clear tok1 b5 o5; (try dsimp only)))
            | fail)
          all_goals
            clear ck ckz
            have z5 := B5.out.size
            have HX := Lib.hid (bel_trans HBW.out B5.out)
            have O6 := Lib.hid (O1.out.bel HX.out)
            rcases O6.out.form with ⟨hn1, hn2⟩ | ⟨b1, cap1, cs1, hf1, -, -, hf2, hf3, -, -⟩
            · have hln : n = 0 := by rw [← HN.out, hn2]; rfl
              obtain rfl : a = 0 := by omega
              obtain rfl : pl = [] := List.eq_nil_of_length_eq_zero (by omega)
              injection hn1 with y1 y2 y3
              subst y1 y3 hln
              clear hm1 y2 hn2
              go_wp2_with fail
              refine (deInts_any _ _ [] [] _ (Ints.nil_ _) O5.out).mono ?_
              rintro e w7 ⟨rfl, b7⟩
              have HY := Lib.hid (bel_trans HX.out b7)
              have HPO := Lib.hid HP.out.2
              clear b7
              rw [show eqL ([] : List Int) [] = true from eqL_self _]
              go_wp2
              go_roundw
              case rel => exact ⟨k + 1, by omega, by go_num, by rw [HPO.out]; go_num, HY.out⟩
              case measure => simp [intOf]; omega
            · injection hf1 with y1 y2 y3
              subst y1 y3 y2
              have hmid0 := O6.out.ints.mid hm1
              rw [Nat.zero_add, HP.out.1] at hmid0
              have hmid := Lib.hid hmid0
              have HPO := Lib.hid HP.out.2
              clear hmid0
              by_cases hac : a = c1
              all_goals
                (try subst hac)
                go_wp2_with fail
                refine (deInts_any _ _ pl pl _ (by first | exact hmid.out | exact ints_zero (by omega)) O5.out).mono ?_
                rw [show eqL pl pl = true from eqL_self _]
                rintro e w7 ⟨rfl, b7⟩
                have HY := Lib.hid (bel_trans HX.out b7)
                clear b7
                go_wp2
                go_roundw
                case rel => exact ⟨k + 1, by omega, by go_num, by rw [HPO.out]; go_num, HY.out⟩
                case measure => simp [intOf]; omega
        · have hkl : k = ls.length := by omega
          subst hkl
          have HX := Lib.hid (bel_trans HB.out hb)
          clear hb
          rw [HA.out.2.2.2.1]
          go_wp2
          go_ret
          exact ⟨rfl, HX.out⟩

end Go.Proofs.Yteemhhgioljmaaa
