/-
  Contracts of RunSteps (both).
-/
import Derived.Test.YteemhhgioljmaaaEngsB
import Derived.Test.YteemhhgioljmaaaRunI
import Derived.Test.YteemhhgioljmaaaShiftC
namespace Go.Proofs.Yteemhhgioljmaaa
open Go.RowKit
set_option linter.unusedVariables false
set_option linter.unusedSimpArgs false
set_option maxRecDepth 100000
attribute [local go_sem ↓] Go.wp_at_zero Go.wp_at_succ

def stepV (ls : List (List ByteArray)) (j : Nat) : Int := sg (sat (turnN (eat ls (j % ls.length)) (j / ls.length)) 0)
def stepsL (ls : List (List ByteArray)) (n : Nat) : List Int := gen (stepV ls) n
theorem stepsL_length (ls : List (List ByteArray)) (n : Nat) : (stepsL ls n).length = n := gen_length _ _
theorem stepsL_succ (ls : List (List ByteArray)) (n : Nat) : stepsL ls (n + 1) = stepsL ls n ++ [stepV ls n] := gen_succ _ _
def rsOk (ls : List (List ByteArray)) (c : Int) : Bool := allOk ls && inB c 0 60
def rsL (ls : List (List ByteArray)) (c : Int) : List Int := if rsOk ls c = true then stepsL ls c.toNat else []
theorem rs_no {ls : List (List ByteArray)} {c : Int} (h : allOk ls = false ∨ inB c 0 60 = false) : rsOk ls c = false ∧ rsL ls c = [] := by
  have : rsOk ls c = false := by rcases h with h | h <;> simp [rsOk, h]
  exact ⟨this, by simp [rsL, this]⟩
theorem rs_yes {ls : List (List ByteArray)} {c : Nat} (h1 : allOk ls = true) (h2 : inB (c : Int) 0 60 = true) : rsOk ls c = true ∧ rsL ls c = stepsL ls c := by
  have : rsOk ls c = true := by simp [rsOk, h1, h2]
  exact ⟨this, by simp [rsL, this]⟩
theorem rsL_len (ls : List (List ByteArray)) (c : Int) : (rsL ls c).length ≤ 60 := by
  unfold rsL
  split
  · rename_i h
    simp only [rsOk, Bool.and_eq_true] at h
    have := inB_true.1 h.2
    rw [stepsL_length]; omega
  · simp
theorem stepV_bd {ls : List (List ByteArray)} (h : allOk ls = true) (j : Nat) : -1000000000000 ≤ stepV ls j ∧ stepV ls j ≤ 1000000000000 := by
  obtain ⟨h1, h2, h3⟩ := allOk_true.1 h
  exact sg_bd (eng0 (h3 _ (Nat.mod_lt _ (by omega))) _)

set_option maxHeartbeats 4000000 in
theorem specSteps_any (v : Value) (ls : List (List ByteArray)) (c : Int) (w : World) (hv : Engs w v ls) :
    Calls Try.prog 27 #[v, .int .i64 c] w (IntsQ w (rsL ls c) (rsOk ls c)) := by
  have HV := Lib.hid hv
  obtain ⟨A, cc, xs, rfl, hlc, hc, hrd, hst⟩ := hv.open_
  have HR := Lib.hid (And.intro hrd hst)
  have OE := Lib.hid (And.intro (Own.empty w w.heap.size (Nat.le_refl _)) (bel_alloc w (.cells #[] 3)))
  clear hv hrd hst
  go_enter Try.func27, Try.ntmps27
  go_wp2_with fail
  refine (l7All_any _ ls _ (HV.out.bel OE.out.2)).mono ?_
  rintro e w1 ⟨rfl, b1⟩
  replace OE := Lib.hid (And.intro (OE.out.1.bel b1) (bel_trans OE.out.2 b1))
  clear b1
  cases ha : allOk ls
  · have HN := Lib.hid (rs_no (c := c) (.inl ha))
    go_wp2_with (go_at_call 91; refine (l1In_any _ _ _ _).mono ?_; rintro e w' ⟨rfl, rfl⟩)
    all_goals
      go_ret2
      exact ⟨_, by rw [HN.out.1]; rfl, by rw [HN.out.2]; exact OE.out.1, OE.out.2⟩
  · cases hi : inB c 0 60
    · have HN := Lib.hid (rs_no (ls := ls) (.inr hi))
      go_wp2_with (go_at_call 91; refine (l1In_any _ _ _ _).mono ?_; rintro e w' ⟨rfl, rfl⟩)
      go_ret2
      exact ⟨_, by rw [HN.out.1]; rfl, by rw [HN.out.2]; exact OE.out.1, OE.out.2⟩
    · have hi' := inB_true.1 hi
      obtain ⟨c, rfl⟩ : ∃ k : Nat, c = k := ⟨c.toNat, by omega⟩
      have HN := Lib.hid (rs_yes ha hi)
      obtain ⟨n1, n10, hok⟩ := allOk_true.1 ha
      have HA := Lib.hid (And.intro hok ha)
      go_wp2_with fail
      refine (l1In_any _ _ _ _).mono ?_
      rintro e w2 ⟨rfl, rfl⟩
      rw [hi]
      clear hi ha hok
      go_wp2_with fail
      go_loopw [6, 7] (fun r i wr => ∃ k : Nat, k ≤ c ∧ i = .int .i64 k ∧ Own wr w.heap.size r (stepsL ls k) ∧ Below w.heap.size w wr) (fun _ i _ => c - (intOf i).toNat)
      case atStart => exact ⟨0, Nat.zero_le _, rfl, OE.out.1, OE.out.2⟩
      case round =>
        clear OE
        obtain ⟨k, hk, rfl, ho, hb⟩ := hrel
        have HO := Lib.hid (And.intro ho hb)
        have hz := hb.size
        clear ho
        by_cases hlt : k < c
        · have hmod : k % ls.length < ls.length := Nat.mod_lt _ (by omega)
          have hdiv : k / ls.length ≤ k := Nat.div_le_self _ _
          obtain ⟨m, hm⟩ : ∃ m, m = k % ls.length := ⟨_, rfl⟩
          obtain ⟨q, hq⟩ : ∃ q, q = k / ls.length := ⟨_, rfl⟩
          rw [← hm] at hmod
          rw [← hq] at hdiv
          obtain ⟨b, o, rfl, hbb, hcell⟩ := HR.out.1 (by omega)
          have hs := HR.out.2 m hmod
          obtain ⟨Ai, ci, hxi, -, -, -⟩ := hs.open_
          have d1 := hcell m hmod
          rw [hxi] at d1 hs
          have ck : wr.cell? ⟨b, o + m, none⟩ = _ := (hb.cell (by exact hbb)).trans d1
          have HS := Lib.hid (hs.bel hb)
          have D1 := Lib.hid d1
          have HMQ := Lib.hid (And.intro hm hq)
          have r1 : (k : Int).tmod (ls.length : Int) = (m : Int) := by rw [hm, Int.tmod_eq_emod_of_nonneg (by omega)]; rfl
          have r2 : (k : Int).tdiv (ls.length : Int) = (q : Int) := by rw [hq, Int.tdiv_eq_ediv_of_nonneg (by omega)]; rfl
          have r4 : IntKind.i64.wrap (q : Int) = (q : Int) := by rw [IntWalk.i64_in] <;> omega
          have r5 : IntKind.i64.wrap (m : Int) = (m : Int) := by rw [IntWalk.i64_in] <;> omega
          have r6 : ¬ (ls.length : Int) = 0 := by omega
          have r7 : ¬ ls.length = 0 := by omega
          have r8 : ((ls.length : Int) == 0) = false := by simp [r7]
          have r9 : ¬ ls = [] := by intro e; rw [e] at n1; simp at n1
          have r10 : ls.isEmpty = false := by simp [r9]
          have p2 : (m : Int) < (ls.length : Int) := by omega
          have p3 : (0 : Int) ≤ (m : Int) := by omega
          have tok1 : True := trivial
          have hbr : b < wr.heap.size := by omega
          clear hm hq hb hcell hs hxi d1
          go_wp2_with fail
          have hT := turnN_length (eat ls m) q
          have hok := HA.out.1 m hmod
          have HTK := Lib.hid (And.intro hT hok)
          have hq300 : q ≤ 300 := by omega
          have hsA : wr.heap.size < (wr.alloc (.cells #[Value.slice none 0 0] 29)).heap.size := by simp
          clear hT hok
          go_region_held3 (fun w' => w'.cell? ⟨b, o + m, none⟩ = some (.slice Ai (eat ls m).length ci)) (first | exact ck | exact (B5.out.cell (by exact hbr)).trans ck | exact ((bel_alloc _ _).cell (by exact hbr)).trans ck | exact (World.cell?_setCell_other _ _ _ _ (by intro e; injection e with q1; omega)).trans ((B5.out.cell (by exact hbr)).trans ck) | exact (World.cell?_setCell_other _ _ _ _ (by intro e; injection e with q1; simp at q1; omega)).trans (((bel_alloc _ _).cell (by show b < w5.heap.size; omega)).trans ((B5.out.cell (by exact hbr)).trans ck)) | exact ((bel_alloc _ _).cell (by show b < w5.heap.size; omega)).trans ((B5.out.cell (by exact hbr)).trans ck) | go_keep) (first
            | ((try go_simp); go_at_call 92; have _t := tok1; refine (l3Many_any _ (eat ls m) q _ (by first | exact HS.out.bel (bel_alloc _ _) | exact HS.out.bel ((bel_alloc _ _).drew) | exact HS.out.bel (((Below.refl _ _).drew).alloc (Nat.le_refl _) _) | fail) HTK.out.2 hq300).mono ?_; rintro e w5 ⟨r, rfl, o5, b5⟩; have K5 : Blk w5 wr.heap.size 29 [Value.slice none 0 0] := (b5.block _ hsA).trans (heap_alloc_new wr _); obtain ⟨bs, hbs, o5⟩ : ∃ bs, wr.heap.size < bs ∧ OwnS w5 bs r (turnN (eat ls m) q) := ⟨_, hsA, o5⟩; have B5 := Lib.hid (show Below wr.heap.size wr w5 from (by first | exact bel_trans (bel_alloc _ _) b5 | exact bel_trans ((bel_alloc _ _).drew) b5 | exact bel_trans (((Below.refl _ _).drew).alloc (Nat.le_refl _) _) b5 | fail)); have z5 := B5.out.size; have O5 := Lib.hid o5; obtain ⟨A5, c5, rfl, -, -, -⟩ := o5.strs.open_; (try obtain ⟨e5, f5⟩ := K5.one); clear tok1 b5 o5; (try dsimp only))
            | ((try go_simp); go_at_call 92; have _t := tok1; refine (l3Many_any _ (eat ls m) q _ (by first | exact HS.out | exact HS.out.bel ((Below.refl _ _).drew) | fail) HTK.out.2 hq300).mono ?_; rintro e w5 ⟨r, rfl, o5, b5⟩; obtain ⟨bs, hbs, o5⟩ : ∃ bs, wr.heap.size ≤ bs ∧ OwnS w5 bs r (turnN (eat ls m) q) := ⟨_, Nat.le_refl _, o5⟩; have B5 := Lib.hid (show Below wr.heap.size wr w5 from (by first | exact b5 | exact bel_trans ((Below.refl _ _).drew) b5 | fail)); have z5 := B5.out.size; have O5 := Lib.hid o5; obtain ⟨A5, c5, rfl, -, -, -⟩ := o5.strs.open_; (try obtain ⟨e5, f5⟩ := K5.one); clear tok1 b5 o5; (try dsimp only))
            | fail)
          all_goals
            clear ck r1 r2 r4 r5 r6 r7 r8 r9 r10
            first
              | (have K6 := K5.set_ 0 (.slice A5 (turnN (eat ls m) q).length c5); have O6 := Lib.hid (O5.out.setCell ⟨wr.heap.size, 0, none⟩ (.slice A5 (turnN (eat ls m) q).length c5) hbs); have B6 := Lib.hid (B5.out.setCell (p := ⟨wr.heap.size, 0, none⟩) (Nat.le_refl _) (.slice A5 (turnN (eat ls m) q).length c5)); (try clear e5 f5); generalize hW6 : w5.setCell ⟨wr.heap.size, 0, none⟩ (.slice A5 (turnN (eat ls m) q).length c5) = W6 at *)
              | (have K6 := Blk.new' w5 29 (.slice A5 (turnN (eat ls m) q).length c5) w5.heap.size rfl; have O6 := Lib.hid (O5.out.bel (bel_alloc w5 (.cells #[.slice A5 (turnN (eat ls m) q).length c5] 29))); have B6 := Lib.hid (bel_trans B5.out (bel_alloc w5 (.cells #[.slice A5 (turnN (eat ls m) q).length c5] 29))); generalize hW6 : w5.alloc (.cells #[.slice A5 (turnN (eat ls m) q).length c5] 29) = W6 at *)
            clear hW6
            have hpos : 0 < (turnN (eat ls m) q).length := by rw [HTK.out.1]; exact (engOk_iff.1 HTK.out.2).1
            have hco := eng0 HTK.out.2 q
            obtain ⟨A', c', e', -, -, hrd6⟩ := O6.out.strs.open_
            injection e' with e1 e2 e3
            subst e1 e3
            obtain ⟨b6, o6, rfl, hb6, hcell6⟩ := hrd6.strs hpos
            have ca := hcell6 0 hpos
            rw [Nat.add_zero] at ca
            obtain ⟨e6, f6⟩ := K6.one
            have hl1 : (0 : Int) < ((turnN (eat ls m) q).length : Int) := by omega
            have hsb := sg_bd hco
            have hz6 := B6.out.size
            have OR := Lib.hid (And.intro (HO.out.1.bel B6.out) (bel_trans HO.out.2 B6.out))
            have HV6 := Lib.hid (show stepsL ls (k + 1) = stepsL ls k ++ [sg (sat (turnN (eat ls m) q) 0)] by rw [stepsL_succ, stepV, ← HMQ.out.1, ← HMQ.out.2])
            clear hcell6 hrd6 e2 O6 B6 K6
            go_wp2_with fail
            refine (l1Signed_any _ _ hco).mono ?_
            rintro e w7 ⟨rfl, rfl⟩
            clear ca e6 f6
            go_wp2_with (at_builtin; go_must (refine app_int rfl (.tmp 36) (.tmp 42) (by rfl) w.heap.size _ (stepsL ls k) (by rfl) (by exact OR.out.1.bel (bel_alloc _ _)) _ _ (sg (sat (turnN (eat ls m) q) 0)) (by rfl) (by exact new_cell _ _ _) (by omega) (by rw [stepsL_length]; omega) (by simp; omega) ?_; intro v1 w8 ho hg _))
            go_roundw
            case rel => exact ⟨k + 1, by omega, by go_num, by rw [HV6.out]; exact ho, app_bel (bel_trans OR.out.2 (bel_alloc _ _)) (OR.out.1.bel (bel_alloc _ _)) hg⟩
            case measure => simp [intOf]; omega
        · have hkc : k = c := by omega
          subst hkc
          clear hb
          go_wp2
          go_ret2
          exact ⟨_, by rw [HN.out.1]; rfl, by rw [HN.out.2]; exact HO.out.1, HO.out.2⟩

end Go.Proofs.Yteemhhgioljmaaa
