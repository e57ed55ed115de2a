/-
  The law FnRunSteps, walked.
-/
import Derived.Test.YteemhhgioljmaaaLstC
import Derived.Test.YteemhhgioljmaaaEngsE
import Derived.Test.YteemhhgioljmaaaResult
import Derived.Test.YteemhhgioljmaaaInter
import Derived.Deep.RegionHeld3
namespace Go.Proofs.Yteemhhgioljmaaa
open Go.RowKit
set_option linter.unusedVariables false
set_option linter.unusedSimpArgs false
set_option maxRecDepth 100000
attribute [local go_sem ↓] Go.wp_at_zero Go.wp_at_succ

set_option maxHeartbeats 8000000 in
theorem lawRunStepsF (v : Value) (code : List Int) (w : World) (hv : Bytes w v code) :
    Calls Try.prog 5 #[v] w fun e w' => e = .returned (.bool true) ∧ Below w.heap.size w w' := by
  have HV := Lib.hid hv
  obtain ⟨A_c, c_c, rfl, -, hc1, -⟩ := hv.open_
  clear hv
  by_cases hbig : (1048576 : Int) < (code.length : Int)
  · go_enter Try.func5, Try.ntmps5
    go_wp2
    go_ret
    exact ⟨rfl, Below.refl _ _⟩
  · go_enter Try.func5, Try.ntmps5
    go_wp2_with fail
    refine (drawSteps_any _ code _ HV.out).mono ?_
    rintro e w0 ⟨vl, ls, c, rfl, hs, hl, n1, n2, b⟩
    have HS := Lib.hid hs
    have HB := Lib.hid b
    have HE := Lib.hid (eqL_self (rsL ls c))
    clear b
    obtain ⟨A, cc, xs, rfl, hlc, hc, hrd, hst⟩ := hs.open_
    clear hs hrd hst
    go_wp2_with fail
    refine (implSteps_any _ ls c _ HS.out).mono ?_
    rintro e w1 ⟨r1, rfl, o1, b⟩
    replace HS := Lib.hid (HS.out.bel b)
    replace HB := Lib.hid (bel_trans HB.out b)
    have O1 := Lib.hid o1.ints
    obtain ⟨A1, c1, rfl, -, -, -⟩ := o1.ints.open_
    clear b o1
    go_wp2_with fail
    refine (specSteps_any _ ls c _ HS.out).mono ?_
    rintro e w2 ⟨r2, rfl, o2, b⟩
    replace HS := Lib.hid (HS.out.bel b)
    replace HB := Lib.hid (bel_trans HB.out b)
    replace O1 := Lib.hid (O1.out.bel b)
    have O2 := Lib.hid o2.ints
    obtain ⟨A2, c2, rfl, -, -, -⟩ := o2.ints.open_
    clear b o2
    cases hok : rsOk ls c
    all_goals
      go_wp2_with fail
      refine (deInts_any _ _ _ _ _ O1.out O2.out).mono ?_
      rw [HE.out]
      rintro e w3 ⟨rfl, b⟩
      replace HS := Lib.hid (HS.out.bel b)
      replace HB := Lib.hid (bel_trans HB.out b)
      replace O1 := Lib.hid (O1.out.bel b)
      replace O2 := Lib.hid (O2.out.bel b)
      clear b
    · go_wp2_with fail
      refine (deInts_any _ _ _ _ _ O1.out O2.out).mono ?_
      rw [HE.out]
      rintro e w4 ⟨rfl, b⟩
      replace HB := Lib.hid (bel_trans HB.out b)
      clear b
      go_wp2
      go_ret
      exact ⟨rfl, HB.out⟩
    · have hok' := hok
      simp only [rsOk, Bool.and_eq_true] at hok'
      obtain ⟨ha, hi⟩ := hok'
      have hi' := inB_true.1 hi
      obtain ⟨c, rfl⟩ : ∃ k : Nat, c = k := ⟨c.toNat, by omega⟩
      obtain ⟨q1, q10, hall⟩ := allOk_true.1 ha
      obtain ⟨lr, hlr, hlen, hat⟩ : ∃ lr : List Int, rsL ls (c : Int) = lr ∧ lr.length = c ∧ ∀ i, i < c → at_ lr i = stepV ls i :=
        ⟨_, (rs_yes ha hi).2, gen_length _ _, fun i hi => at_gen hi⟩
      rw [hlr] at O1 ⊢
      subst hlen
      have HA := Lib.hid (And.intro hall hat)
      clear hok ha hi hall HE hlr hat O2
      go_wp2_with fail
      go_loopw [9] (fun i wr => ∃ k : Nat, k ≤ lr.length ∧ i = .int .i64 k ∧ Below w3.heap.size w3 wr) (fun i _ => lr.length - (intOf i).toNat)
      case atStart => exact ⟨0, Nat.zero_le _, rfl, Below.refl _ _⟩
      case round =>
        obtain ⟨k, hk, rfl, hb⟩ := hrel
        have hz := hb.size
        by_cases hlt : k < lr.length
        · have hmod : k % ls.length < ls.length := Nat.mod_lt _ (by omega)
          have hdiv : k / ls.length ≤ k := Nat.div_le_self _ _
          obtain ⟨m, hm⟩ : ∃ m, m = k % ls.length := ⟨_, rfl⟩
          obtain ⟨q, hq⟩ : ∃ q, q = k / ls.length := ⟨_, rfl⟩
          have hsv : at_ lr k = sg (sat (turnN (eat ls m) q) 0) := by rw [HA.out.2 k hlt, hm, hq]; rfl
          rw [← hm] at hmod
          rw [← hq] at hdiv
          obtain ⟨A', cc', xs', e', -, -, hrd, hst⟩ := HS.out.open_
          injection e' with e1 e2 e3
          subst e1 e3
          obtain ⟨b, o, rfl, hbb, hcell⟩ := hrd (by omega)
          have hs := hst m hmod
          obtain ⟨Ai, ci, hxi, -, -, -⟩ := hs.open_
          have d1 := hcell m hmod
          rw [hxi] at d1 hs
          have ck : wr.cell? ⟨b, o + m, none⟩ = _ := (hb.cell (by exact hbb)).trans d1
          have HSI := Lib.hid (hs.bel hb)
          obtain ⟨A', c1', e', -, -, hrd1⟩ := O1.out.open_
          injection e' with e1 e2 e3
          subst e1 e3
          obtain ⟨b1, o1, rfl, hb1, hcell1⟩ := hrd1.ints (by omega)
          have D2 := Lib.hid (And.intro (hcell1 k hlt) hsv)
          have hok := HA.out.1 m hmod
          have r1 : (k : Int).tmod (ls.length : Int) = (m : Int) := by rw [hm, Int.tmod_eq_emod_of_nonneg (by omega)]; rfl
          have r2 : (k : Int).tdiv (ls.length : Int) = (q : Int) := by rw [hq, Int.tdiv_eq_ediv_of_nonneg (by omega)]; rfl
          have r4 : IntKind.i64.wrap (q : Int) = (q : Int) := by rw [IntWalk.i64_in] <;> omega
          have r5 : IntKind.i64.wrap (m : Int) = (m : Int) := by rw [IntWalk.i64_in] <;> omega
          have r6 : ¬ (ls.length : Int) = 0 := by omega
          have r7 : ¬ ls.length = 0 := by omega
          have r8 : ((ls.length : Int) == 0) = false := by simp [r7]
          have r9 : ¬ ls = [] := by intro e; rw [e] at q1; simp at q1
          have r10 : ls.isEmpty = false := by simp [r9]
          have p2 : (m : Int) < (ls.length : Int) := by omega
          have p3 : (0 : Int) ≤ (m : Int) := by omega
          have tok1 : True := trivial
          have tok2 : True := trivial
          have hbr : b < wr.heap.size := by omega
          have hq300 : q ≤ 300 := by omega
          have HOK := Lib.hid (And.intro hok (turnN_ok hok q))
          have HBW := Lib.hid hb
          clear hm hq hb hcell hs hxi d1 hrd hst hrd1 hcell1 hsv hok e2
          go_wp2_with fail
          go_region_held3 (fun w' => w'.cell? ⟨b, o + m, none⟩ = some (.slice Ai (eat ls m).length ci)) (first | exact ck | exact (B5.out.cell (by exact hbr)).trans ck | exact (B6.out.cell (by exact hbr)).trans ck | go_keep) (first
            | ((try go_simp); go_at_call 29; have _t := tok1; go_loud (refine (deTurned_any _ (eat ls m) q _ (by first | exact HSI.out | exact HSI.out.bel ((Below.refl _ _).drew)) HOK.out.1 hq300).mono ?_; rintro e w5 ⟨r5, rfl, o5, b5⟩; have B5 := Lib.hid (show Below wr.heap.size wr w5 from (by first | exact b5 | exact bel_trans ((Below.refl _ _).drew) b5)); have O5 := Lib.hid o5.strs; obtain ⟨A5, c5, rfl, -, -, -⟩ := o5.strs.open_; clear tok1 b5 o5; (try dsimp only)))
            | ((try go_simp); go_at_call 28; have _t := tok2; go_loud (refine (resultOf_any _ (turnN (eat ls m) q) _ (by first | exact O5.out | exact O5.out.bel ((Below.refl _ _).drew)) HOK.out.2).mono ?_; rintro e w6 ⟨rfl, b6⟩; have B6 := Lib.hid (show Below wr.heap.size wr w6 from (by first | exact bel_trans B5.out b6 | exact bel_trans B5.out (bel_trans ((Below.refl _ _).drew) b6))); clear tok2 b6; (try dsimp only)))
            | fail)
          all_goals
            clear ck r1 r2 r4 r5 r6 r7 r8 r9 r10
            have z6 := B6.out.size
            have c6 : w6.cell? ⟨b1, o1 + k, none⟩ = some (.int .i64 (sg (sat (turnN (eat ls m) q) 0))) := by rw [← D2.out.2]; exact ((bel_trans HBW.out B6.out).cell (by exact hb1)).trans D2.out.1
            have HX := Lib.hid (bel_trans HBW.out B6.out)
            go_wp2
            go_roundw
            case rel => exact ⟨k + 1, by omega, by go_num, HX.out⟩
            case measure => simp [intOf]; omega
        · have hkl : k = lr.length := by omega
          subst hkl
          have HX := Lib.hid (bel_trans HB.out hb)
          clear hb
          go_wp2
          go_ret
          exact ⟨rfl, HX.out⟩

end Go.Proofs.Yteemhhgioljmaaa
