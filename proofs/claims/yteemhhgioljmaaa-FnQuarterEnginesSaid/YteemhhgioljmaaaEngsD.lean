/-
  The contract of impl.RunSteps.
-/
import Derived.Test.YteemhhgioljmaaaEngsC
namespace Go.Proofs.Yteemhhgioljmaaa
open Go.RowKit
set_option linter.unusedVariables false
set_option linter.unusedSimpArgs false
set_option maxRecDepth 100000
attribute [local go_sem ↓] Go.wp_at_zero Go.wp_at_succ

/-- A row of one's own with at least n cells, of which the first ones are those of xs. -/
def RowE (w : World) (base : Nat) (v : Value) (n : Nat) (xs : List Value) : Prop :=
  ∃ g cap cur, v = .slice (some ⟨g, 0, none⟩) n cap ∧ base ≤ g ∧ Blk w g 29 cur ∧ n ≤ cap ∧ cap ≤ 9223372036854775807 ∧ cur.length = cap ∧ ∀ i, i < n → xat cur i = xat xs i

/-- 'append([]Engine{}, x...)' -/
theorem app_engs {ops : Array Oper} {rest : List Oper} {o : Oper} {a : Act} {Q : Exit → Act → World → Prop} {w : World} (hgd : o.guard = none) (s x : Operand)
    (ho : o.op = .call { callee := .builtin .append, args := #[s, x], argTypes := #[34, 34] })
    (base g0 : Nat) (hs : a.eval s = .slice (some ⟨g0, 0, none⟩) 0 0) (hown : w.ownsRow base 29 1 (.slice (some ⟨g0, 0, none⟩) 0 0) 0 []) (b f n c : Nat) (xs : List Value) (hx : a.eval x = .slice (some ⟨b, f, none⟩) n c)
    (h1 : 1 ≤ n) (hl : n ≤ 1048576) (hcell : ∀ i, i < n → w.cell? ⟨b, f + i, none⟩ = some (xat xs i)) (hone : ∀ i, i < n → (xat xs i).oneCell' = true) (hbase : base ≤ w.heap.size)
    (h : ∀ v' w', RowE w' base v' n xs → w.grownBy w' (some g0) → wpList Try.prog ops Q rest (a.put o.dst v') w') : wpList Try.prog ops Q (o :: rest) a w := by
  obtain ⟨i0, hi, hz0, hz1, hz2⟩ := info_parts Try.infoEng
  have hyl : ((List.range n).map (xat xs)).length = n := by simp
  have hys : ∀ i, i < n → ((List.range n).map (xat xs))[i]? = some (xat xs i) := fun i hi => by simp [hi]
  refine wpList_append_own_at (P := Try.prog) w hgd s x 34 ho base 29 i0 _ 1 24 Try.underlying34 hi hz0 hz1 hz2 rfl (by omega) _ 0 [] hs hown ⟨b, f, none⟩ n c ((List.range n).map (xat xs)) hx (by rw [hyl]; omega) ?_ ?_ (by unfold maxLen; omega) (by omega) hbase ?_
  · intro j u hj
    have hjn : j < n := by
      rcases Nat.lt_or_ge j n with q | q
      · exact q
      · rw [List.getElem?_eq_none (by rw [hyl]; exact q)] at hj; cases hj
    rw [hys j hjn] at hj
    injection hj with hj
    subst hj
    rw [Addr.add_lit]
    exact hcell j hjn
  · intro u hu
    simp only [List.mem_map, List.mem_range] at hu
    obtain ⟨i, hi, rfl⟩ := hu
    exact hone i hi
  · intro v' w' h2 h3 _ _
    refine h v' w' ?_ h3
    rw [Nat.zero_add, List.nil_append] at h2
    rcases h2.2 with ⟨_, hn⟩ | ⟨g, cap, cur, rfl, hg, hh, hnc, hcm, hsz, ht⟩
    · omega
    · refine ⟨g, cap, cur.toList, rfl, hg, hh, hnc, by unfold maxLen at hcm; omega, by simpa using hsz, fun i hi => ?_⟩
      have e := hys i hi
      rw [← ht, List.getElem?_take, if_pos (by omega)] at e
      simp [xat, List.getD, e]

set_option maxHeartbeats 1000000 in
theorem cloneE_any (v : Value) (ls : List (List ByteArray)) (w : World) (hv : Engs w v ls) (h1 : 1 ≤ ls.length) (hl : ls.length ≤ 1048576) :
    Calls Try.prog 79 #[v] w fun x w' => ∃ r xs, x = .returned r ∧ RowE w' w.heap.size r ls.length xs ∧ (∀ i, i < ls.length → Strs w (xat xs i) (eat ls i)) ∧ Below w.heap.size w w' := by
  obtain ⟨A, c, xs, rfl, hlc, hc, hrd, hst⟩ := hv.open_
  obtain ⟨b, o, rfl, hb, hcell⟩ := hrd (by omega)
  have HC := Lib.hid (And.intro hcell hst)
  have hq := fun W => Lib.run_eql_slice_nil (P := Try.prog) W 34 29 (some ⟨b, o, none⟩) ls.length c 0 0 Try.underlying34
  have OE := Lib.hid (show (w.alloc (.cells #[] 29)).ownsRow w.heap.size 29 1 (.slice (some ⟨w.heap.size, 0, none⟩) 0 0) 0 [] from
    World.ownsRow_made w #[] 0 (Nat.le_refl _) (by unfold maxLen; omega) rfl)
  clear hv hrd hst hcell
  go_enter Try.func79, Try.ntmps79
  go_wp2_with (at_builtin; go_must (refine app_engs rfl _ _ (by rfl) w.heap.size w.heap.size (by rfl) OE.out b o ls.length c xs (by rfl) h1 hl (fun i hi => ((bel_alloc w _).cell (by exact hb)).trans (HC.out.1 i hi)) (fun i hi => by obtain ⟨Ai, ci, e, -⟩ := (HC.out.2 i hi).open_; rw [e]; rfl) (by simp) ?_; intro v1 w1 ho hg))
  go_ret
  exact ⟨_, xs, rfl, ho, HC.out.2, (bel_alloc w _).trans (below_own (v := .slice (some ⟨w.heap.size, 0, none⟩) 0 0) hg (by simp) (fun k hk => by injection hk with hk; simp at hk; omega))⟩

/-- How often engine i has turned ahead of step k, of n engines in turns. -/
def trn (n i k : Nat) : Nat := if i < k % n then k / n + 1 else k / n
theorem trn_zero (n i : Nat) : trn n i 0 = 0 := by unfold trn; rw [Nat.zero_mod, Nat.zero_div, if_neg (by omega)]
theorem trn_at {n k : Nat} : trn n (k % n) k = k / n := by unfold trn; rw [if_neg (by omega)]
theorem trn_succ {n i k : Nat} (hi : i < n) : trn n i (k + 1) = if i = k % n then trn n i k + 1 else trn n i k := by
  obtain ⟨q, hq⟩ : ∃ q, q = k / n := ⟨_, rfl⟩
  obtain ⟨r, hr⟩ : ∃ r, r = k % n := ⟨_, rfl⟩
  have hrn : r < n := by rw [hr]; exact Nat.mod_lt _ (by omega)
  have hk : k = n * q + r := by rw [hq, hr]; exact (Nat.div_add_mod k n).symm
  unfold trn
  rw [← hq, ← hr]
  by_cases h : r + 1 < n
  · have h1 : (k + 1) / n = q := by rw [hk, Nat.add_assoc, Nat.mul_add_div (by omega), Nat.div_eq_of_lt h]; rfl
    have h2 : (k + 1) % n = r + 1 := by rw [hk, Nat.add_assoc, Nat.mul_add_mod, Nat.mod_eq_of_lt h]
    rw [h1, h2]
    by_cases e : i = r
    · rw [if_pos e, if_pos (by omega), if_neg (by omega)]
    · rw [if_neg e]
      by_cases e2 : i < r
      · rw [if_pos e2, if_pos (by omega)]
      · rw [if_neg e2, if_neg (by omega)]
  · have hn : r + 1 = n := by omega
    have h1 : (k + 1) / n = q + 1 := by rw [hk, Nat.add_assoc, hn, Nat.mul_add_div (by omega), Nat.div_self (by omega)]
    have h2 : (k + 1) % n = 0 := by rw [hk, Nat.add_assoc, hn, Nat.mul_add_mod, Nat.mod_self]
    rw [h1, h2, if_neg (by omega)]
    by_cases e : i = r
    · rw [if_pos e, if_neg (by omega)]
    · rw [if_neg e, if_pos (by omega)]
theorem trn_le (n i k : Nat) (h : k ≤ 60) : trn n i k ≤ 61 := by
  unfold trn
  have := Nat.div_le_self k n
  split <;> omega

set_option maxHeartbeats 4000000 in
theorem implSteps_any (v : Value) (ls : List (List ByteArray)) (c : Int) (w : World) (hv : Engs w v ls) :
    Calls Try.prog 20 #[v, .int .i64 c] w (IntsQ w (rsL ls c) (rsOk ls c)) := by
  have HV := Lib.hid hv
  obtain ⟨A, cc, xs0, rfl, -, -, -, -⟩ := hv.open_
  clear hv
  go_enter Try.func20, Try.ntmps20
  go_wp2_with fail
  refine (enginesValid_any _ ls _ HV.out).mono ?_
  rintro e w1 ⟨rfl, b1⟩
  have B1 := Lib.hid b1
  clear b1
  cases ha : allOk ls
  · have HN := Lib.hid (rs_no (c := c) (.inl ha))
    go_wp2_with (go_at_call 75; refine (countValid_any _ _).mono ?_; rintro e w' ⟨rfl, rfl⟩)
    all_goals
      go_ret2
      exact ⟨_, by rw [HN.out.1]; rfl, by rw [HN.out.2]; exact Own.nil_ _ _, B1.out⟩
  · cases hi : inB c 0 60
    · have HN := Lib.hid (rs_no (ls := ls) (.inr hi))
      go_wp2_with (go_at_call 75; refine (countValid_any _ _).mono ?_; rintro e w' ⟨rfl, rfl⟩)
      go_ret2
      exact ⟨_, by rw [HN.out.1]; rfl, by rw [HN.out.2]; exact Own.nil_ _ _, B1.out⟩
    · have hi' := inB_true.1 hi
      obtain ⟨c, rfl⟩ : ∃ k : Nat, c = k := ⟨c.toNat, by omega⟩
      have HN := Lib.hid (rs_yes ha hi)
      obtain ⟨n1, n10, hok⟩ := allOk_true.1 ha
      have HA := Lib.hid (And.intro hok ha)
      go_wp2_with fail
      refine (countValid_any _ _).mono ?_
      rintro e w2 ⟨rfl, rfl⟩
      rw [hi]
      clear hi ha hok
      go_wp2_with fail
      refine (cloneE_any _ ls _ (HV.out.bel B1.out) n1 (by omega)).mono ?_
      rintro e w2 ⟨r, xs, rfl, ⟨ge, cap, cur0, rfl, hge, hblk0, hnc, hcm, hcl0, hxx⟩, hst, b2⟩
      have B2 := Lib.hid (bel_trans B1.out b2)
      have gelt := hblk0.lt
      have z1 := B1.out.size
      have HX := Lib.hid (And.intro hxx (And.intro (fun i hi => (hst i hi).bel b2) (fun i hi => (hst i hi).off)))
      have HK0 := Lib.hid hblk0
      have hmk := fun W => Try.mkInts c (by omega) W
      clear hxx hst b2 hblk0
      go_wp2_with fail
      go_loopw [24] (fun i wr => ∃ (k : Nat) (cs cur : List Value), k ≤ c ∧ i = .int .i64 k ∧ Blk wr w2.heap.size 3 cs ∧ cs.length = c ∧ (∀ j, j < k → cs[j]? = some (.int .i64 (stepV ls j))) ∧ Blk wr ge 29 cur ∧ cur.length = cap ∧
          (∀ i, i < ls.length → Strs wr (xat cur i) (turnN (eat ls i) (trn ls.length i k)) ∧ Off (xat cur i) (turnN (eat ls i) (trn ls.length i k)) (fun b => b ≠ ge ∧ b ≠ w2.heap.size)) ∧ Below w.heap.size w wr)
        (fun i _ => c - (intOf i).toNat)
      case atStart =>
        refine ⟨0, _, cur0, Nat.zero_le _, rfl, Blk.new _ _ _, reps_length _ _, fun j hj => absurd hj (by omega), HK0.out.alloc _, hcl0, fun i hi => ?_, bel_trans B2.out (bel_alloc _ _)⟩
        rw [trn_zero, HX.out.1 i hi]
        exact ⟨(HX.out.2.1 i hi).bel (bel_alloc _ _), (HX.out.2.2 i hi).mono fun q hq => ⟨by omega, by omega⟩⟩
      case round =>
        clear HX HK0
        obtain ⟨k, cs, cur, hk, rfl, hblk, hcl, hcs, KE, hcl2, hrows, hbel⟩ := hrel
        have HO := Lib.hid (And.intro hcl (And.intro hcs (And.intro hrows (And.intro hbel hcl2))))
        have hz := hbel.size
        clear hcl hcs hbel
        by_cases hlt : k < c
        · have hmod : k % ls.length < ls.length := Nat.mod_lt _ (by omega)
          obtain ⟨m, hm⟩ : ∃ m, m = k % ls.length := ⟨_, rfl⟩
          rw [← hm] at hmod
          have htr : trn ls.length m k = k / ls.length := by rw [hm]; exact trn_at
          have htl := trn_le ls.length m k (by omega)
          obtain ⟨hs, hoff⟩ := hrows m hmod
          have hekm := turnN_ok (HA.out.1 m hmod) (trn ls.length m k)
          have hco := eng0 (HA.out.1 m hmod) (trn ls.length m k)
          have hpos := (engOk_iff.1 hekm).1
          have hsv : stepV ls k = sg (sat (turnN (eat ls m) (trn ls.length m k)) 0) := by rw [stepV, htr, hm]
          have hsb := sg_bd hco
          obtain ⟨Am, cm, hxm, -, -, hrdm⟩ := hs.open_
          obtain ⟨bm, om, rfl, hbm, hcellm⟩ := hrdm.strs hpos
          have ca := hcellm 0 hpos
          rw [Nat.add_zero] at ca
          have hbo := hoff
          rw [hxm] at hs hoff
          have ck : wr.cell? ⟨ge, m, none⟩ = some (.slice (some ⟨bm, om, none⟩) (turnN (eat ls m) (trn ls.length m k)).length cm) := by rw [KE.cell, ← hxm]; exact xat_get (by rw [hcl2]; omega)
          have cw : wr.cell? ⟨w2.heap.size, k, none⟩ = some (cs[k]'(by rw [HO.out.1]; exact hlt)) := by rw [hblk.cell]; exact List.getElem?_eq_getElem _
          have hfw := hblk.frozen k
          have r1 : (k : Int) % (ls.length : Int) = (m : Int) := by rw [hm]; rfl
          have r6 : ¬ (ls.length : Int) = 0 := by omega
          have r7 : ¬ ls.length = 0 := by omega
          have r8 : ((ls.length : Int) == 0) = false := by simp [r7]
          have p2 : (m : Int) < (ls.length : Int) := by omega
          have p3 : (0 : Int) ≤ (m : Int) := by omega
          have hl1 : (0 : Int) < ((turnN (eat ls m) (trn ls.length m k)).length : Int) := by omega
          have HM := Lib.hid (And.intro hm (And.intro hsv (And.intro hs hoff)))
          have hkl := KE.lt
          have hbl := hblk.lt
          clear hm htr hcellm hrdm hs hoff hbo hxm hsv hrows
          have KEh := Lib.hid KE
          have KRh := Lib.hid hblk
          clear KE hblk
          go_wp2_with fail
          refine (signed_any _ _ hco).mono ?_
          rintro e w3 ⟨rfl, rfl⟩
          have KR := KRh.out.set_ k (.int .i64 (sg (sat (turnN (eat ls m) (trn ls.length m k)) 0)))
          have KE := KEh.out.far (p := ⟨w2.heap.size, k, none⟩) (by show ge ≠ w2.heap.size; omega) (.int .i64 (sg (sat (turnN (eat ls m) (trn ls.length m k)) 0)))
          have sx := Lib.hid (HM.out.2.2.1.setFar ⟨w2.heap.size, k, none⟩ (.int .i64 (sg (sat (turnN (eat ls m) (trn ls.length m k)) 0))) (HM.out.2.2.2.mono fun j hj => by show w2.heap.size ≠ j; omega))
          have hB5 := Lib.hid (HO.out.2.2.2.1.setCell (p := ⟨w2.heap.size, k, none⟩) (by show w.heap.size ≤ w2.heap.size; have := B2.out.size; omega) (.int .i64 (sg (sat (turnN (eat ls m) (trn ls.length m k)) 0))))
          have hrow5 := Lib.hid (fun i hi => (HO.out.2.2.1 i hi).1.setFar ⟨w2.heap.size, k, none⟩ (.int .i64 (sg (sat (turnN (eat ls m) (trn ls.length m k)) 0))) ((HO.out.2.2.1 i hi).2.mono fun j hj => by show w2.heap.size ≠ j; omega))
          have ck5 : (wr.setCell ⟨w2.heap.size, k, none⟩ (.int .i64 (sg (sat (turnN (eat ls m) (trn ls.length m k)) 0)))).cell? ⟨ge, m, none⟩ = some (.slice (some ⟨bm, om, none⟩) (turnN (eat ls m) (trn ls.length m k)).length cm) := (World.cell?_setCell_other _ _ _ _ (by intro e; injection e with q; omega)).trans ck
          have z5 : (wr.setCell ⟨w2.heap.size, k, none⟩ (.int .i64 (sg (sat (turnN (eat ls m) (trn ls.length m k)) 0)))).heap.size = wr.heap.size := by simp
          go_wp2_with fail
          clear ca ck ck5 cw hfw
          generalize hW5 : wr.setCell ⟨w2.heap.size, k, none⟩ (.int .i64 (sg (sat (turnN (eat ls m) (trn ls.length m k)) 0))) = W5 at *
          clear hW5
          refine (turnWhole_any _ (turnN (eat ls m) (trn ls.length m k)) _ sx.out).mono ?_
          rintro e w6 ⟨r, rfl, oa, hb6⟩
          rw [turnW_yes hekm] at oa
          have keL := KE.lt
          have krL := KR.lt
          replace KE := KE.below hb6 KE.lt
          replace KR := KR.below hb6 KR.lt
          have HQ := Lib.hid (And.intro oa (And.intro (bel_trans hB5.out hb6) (fun i hi => (hrow5.out i hi).bel hb6)))
          obtain ⟨A6, c6, rfl, -, -, -⟩ := oa.strs.open_
          clear oa hb6 sx hB5 hrow5
          clear r1 r6 r7 r8
          have ce : w6.cell? ⟨ge, m, none⟩ = some (cur[m]'(by rw [HO.out.2.2.2.2]; omega)) := by rw [KE.cell]; exact List.getElem?_eq_getElem _
          have fe := KE.frozen m
          go_wp2_with fail
          go_roundw
          case rel =>
            refine ⟨k + 1, _, cur.set m (.slice A6 (turnS (turnN (eat ls m) (trn ls.length m k))).length c6), by omega, by go_num, KR.far (by show w2.heap.size ≠ ge; omega) _, by rw [List.length_set]; exact HO.out.1, fun j hj => ?_, KE.set_ m _, by rw [List.length_set]; exact HO.out.2.2.2.2, fun i hi => ?_, HQ.out.2.1.setCell (by show w.heap.size ≤ ge; omega) _⟩
            · by_cases e : j = k
              · subst e; rw [List.getElem?_set_self (by rw [HO.out.1]; omega), HM.out.2.1]
              · rw [List.getElem?_set_ne (by omega)]; exact HO.out.2.1 j (by omega)
            · rw [xat_set (by rw [HO.out.2.2.2.2]; omega), trn_succ hi, ← HM.out.1]
              by_cases e : i = m
              · subst e
                rw [if_pos rfl, if_pos rfl, turnN_succ]
                exact ⟨(HQ.out.1.setCell _ _ (by show ge < W5.heap.size; omega)).strs, HQ.out.1.off.mono fun j hj => by omega⟩
              · rw [if_neg e, if_neg e]
                exact ⟨(HQ.out.2.2 i hi).setFar _ _ ((HO.out.2.2.1 i hi).2.mono fun j hj => by show ge ≠ j; omega), (HO.out.2.2.1 i hi).2⟩
          case measure => simp [intOf]; omega
        · have hkc : k = c := by omega
          subst hkc
          have OW := Lib.hid (own_gen (f := stepV ls) (show w.heap.size ≤ w2.heap.size from B2.out.size) hblk HO.out.1 (by omega) HO.out.2.1 (fun j hj => by have := stepV_bd HA.out.2 j; omega))
          clear hblk KE hrows
          go_wp2
          go_ret2
          exact ⟨_, by rw [HN.out.1]; rfl, by rw [HN.out.2]; exact OW.out, HO.out.2.2.2.1⟩

end Go.Proofs.Yteemhhgioljmaaa
