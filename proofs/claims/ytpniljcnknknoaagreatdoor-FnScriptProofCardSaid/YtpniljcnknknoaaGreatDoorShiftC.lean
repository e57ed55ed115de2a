/-
  Contracts of ShiftPoly, StepPoly, ValuesOf (both).
-/
import Derived.Test.YtpniljcnknknoaaGreatDoorShiftB
import Derived.WalkSpells
namespace Go.Proofs.YtpniljcnknknoaaGreatDoor
open Go.RowKit
set_option linter.unusedVariables false
set_option linter.unusedSimpArgs false
set_option maxRecDepth 100000

theorem Ints.dropN {w : World} {b o c : Nat} {l : List Int} (h : Ints w (.slice (some ⟨b, o, none⟩) l.length c) l) {n : Nat} (hn : n ≤ l.length) : Ints w (.slice (some ⟨b, o + n, none⟩) (l.length - n) (c - n)) (l.drop n) := by
  obtain ⟨A', c', e, h1, h2, h3⟩ := h.open_
  injection e with e1 _ e3
  subst e1 e3
  have hl : (l.drop n).length = l.length - n := List.length_drop
  refine ⟨⟨some ⟨b, o + n, none⟩, c - n, by rw [iv_length, hl], by rw [iv_length, hl]; omega, by unfold maxLen; omega, fun h0 => ?_⟩, fun x hx => h.2 x (List.mem_of_mem_drop hx)⟩
  rw [iv_length, hl] at h0
  obtain ⟨b', o', e, hb, hc⟩ := h3 (by rw [iv_length]; omega)
  injection e with e
  injection e with e1 e2
  subst e1 e2
  refine ⟨b, o + n, rfl, hb, fun k u hu => ?_⟩
  rw [show o + n + k = o + (n + k) by omega]
  refine hc (n + k) u ?_
  rw [← hu, iv, iv, List.map_drop, List.getElem?_drop]

/-- Numbers of one's own and a bool. -/
def IntsQ (w : World) (l : List Int) (q : Bool) (e : Ending) (w' : World) : Prop :=
  ∃ r, e = .returned (.tuple #[r, .bool q]) ∧ Own w' w.heap.size r l ∧ Below w.heap.size w w'
def chkL (l : List Int) : List Int := if polyOk l = true then l else []
def chkV (l : List Int) (v : Value) : Value := if polyOk l = true then v else .slice none 0 0
theorem Own.chk {w : World} {base : Nat} {v : Value} {l : List Int} (h : Own w base v l) : Own w base (chkV l v) (chkL l) := by
  unfold chkV chkL
  split
  · exact h
  · exact Own.nil_ _ _
theorem chkL_yes {l : List Int} (h : polyOk l = true) : chkL l = l := by simp [chkL, h]
theorem chkL_no {l : List Int} (h : polyOk l = false) : chkL l = [] := by simp [chkL, h]
theorem chkV_yes {l : List Int} {v : Value} (h : polyOk l = true) : chkV l v = v := by simp [chkV, h]
theorem chkV_no {l : List Int} {v : Value} (h : polyOk l = false) : chkV l v = .slice none 0 0 := by simp [chkV, h]

set_option maxHeartbeats 400000 in
theorem checked_any (v : Value) (l : List Int) (w : World) (hv : Ints w v l) :
    Calls Tryz.prog 148 #[v] w fun e w' => e = .returned (.tuple #[chkV l v, .bool (polyOk l)]) ∧ w = w' := by
  have HV := Lib.hid hv
  obtain ⟨A, c, rfl, -, -, -⟩ := hv.open_
  clear hv
  cases hq : polyOk l
  · have HN := Lib.hid (chkV_no (v := .slice A l.length c) hq)
    go_enter Tryz.func148, Tryz.ntmps148
    go_wp2_with (go_at_call 59; refine (implPoly_any _ _ _ HV.out).mono ?_; rintro e w' ⟨rfl, rfl⟩)
    go_ret2
    exact ⟨by rw [HN.out]; rfl, rfl⟩
  · have HN := Lib.hid (chkV_yes (v := .slice A l.length c) hq)
    go_enter Tryz.func148, Tryz.ntmps148
    go_wp2_with (go_at_call 59; refine (implPoly_any _ _ _ HV.out).mono ?_; rintro e w' ⟨rfl, rfl⟩)
    go_ret2
    exact ⟨by rw [HN.out]; rfl, rfl⟩

set_option maxHeartbeats 1000000 in
theorem l2Result_any (v : Value) (l : List Int) (w : World) (hv : Ints w v l) (hl : l.length ≤ 1048576) :
    Calls Tryz.prog 151 #[v] w (IntsQ w (chkL (diffsI l)) (polyOk (diffsI l))) := by
  go_enter Tryz.func151, Tryz.ntmps151
  go_wp2_with fail
  refine (l2Diffs_any v l _ hv hl).mono ?_
  rintro e w1 ⟨r, rfl, o1, b1⟩
  have H1 := Lib.hid (And.intro o1 b1)
  obtain ⟨A, c, rfl, -, -, -⟩ := o1.ints.open_
  clear o1 b1
  go_wp2_with fail
  refine (specPoly_any _ _ _ H1.out.1.ints).mono ?_
  rintro e w2 ⟨rfl, rfl⟩
  cases hq : polyOk (diffsI l)
  · have HN := Lib.hid (chkL_no hq)
    have OE := Lib.hid (Own.empty w1 w.heap.size H1.out.2.size)
    go_wp2
    go_ret2
    exact ⟨_, by rw [hq]; rfl, by rw [HN.out]; exact OE.out, bel_trans H1.out.2 (bel_alloc _ _)⟩
  · have HN := Lib.hid (chkL_yes hq)
    go_wp2
    go_ret2
    exact ⟨_, by rw [hq]; rfl, by rw [HN.out]; exact H1.out.1, H1.out.2⟩

-- ShiftPoly
def argOk (p : List Int) (n : Int) : Bool := polyOk p && inB n (-200) 200
theorem argOk_true {p : List Int} {n : Int} : argOk p n = true ↔ polyOk p = true ∧ -200 ≤ n ∧ n ≤ 200 := by
  simp [argOk, inB]
def shiftOk (p : List Int) (n : Int) : Bool := argOk p n && polyOk (shiftI p n)
def shiftL (p : List Int) (n : Int) : List Int := if argOk p n = true then chkL (shiftI p n) else []
theorem argOk_p {p : List Int} {n : Int} (h : polyOk p = false) : argOk p n = false := by simp [argOk, h]
theorem argOk_n {p : List Int} {n : Int} (h : inB n (-200) 200 = false) : argOk p n = false := by simp [argOk, h]
theorem argOk_yes {p : List Int} {n : Int} (h : polyOk p = true) (k : inB n (-200) 200 = true) : argOk p n = true := by simp [argOk, h, k]
theorem shift_no {p : List Int} {n : Int} (h : argOk p n = false) : shiftOk p n = false ∧ shiftL p n = [] := by simp [shiftOk, shiftL, h]
theorem shift_yes {p : List Int} {n : Int} (h : argOk p n = true) : shiftOk p n = polyOk (shiftI p n) ∧ shiftL p n = chkL (shiftI p n) := by simp [shiftOk, shiftL, h]

set_option maxHeartbeats 1000000 in
theorem specShift_any (v : Value) (p : List Int) (n : Int) (w : World) (hv : Ints w v p) (hn : -9223372036854775808 ≤ n ∧ n ≤ 9223372036854775807) :
    Calls Tryz.prog 81 #[v, .int .i64 n] w (IntsQ w (shiftL p n) (shiftOk p n)) := by
  have HV := Lib.hid hv
  obtain ⟨A, c, rfl, -, -, -⟩ := hv.open_
  have OE := Lib.hid (Own.empty w w.heap.size (Nat.le_refl _))
  clear hv
  cases hq : polyOk p
  · have HN := Lib.hid (shift_no (argOk_p (n := n) hq))
    go_enter Tryz.func81, Tryz.ntmps81
    go_wp2_with fail
    refine (specPoly_any _ _ _ HV.out).mono ?_
    rintro e w2 ⟨rfl, rfl⟩
    rw [hq]
    go_wp2_with (go_at_call 150; refine (l2Argument_any _ _).mono ?_; rintro e w' ⟨rfl, rfl⟩)
    all_goals
      go_ret2
      exact ⟨_, by rw [HN.out.1]; rfl, by rw [HN.out.2]; exact OE.out, bel_alloc _ _⟩
  · cases hi : inB n (-200) 200
    · have HN := Lib.hid (shift_no (argOk_n (p := p) hi))
      go_enter Tryz.func81, Tryz.ntmps81
      go_wp2_with fail
      refine (specPoly_any _ _ _ HV.out).mono ?_
      rintro e w2 ⟨rfl, rfl⟩
      rw [hq]
      go_wp2_with (go_at_call 150; refine (l2Argument_any _ _).mono ?_; rintro e w' ⟨rfl, rfl⟩)
      go_ret2
      exact ⟨_, by rw [HN.out.1]; rfl, by rw [HN.out.2]; exact OE.out, bel_alloc _ _⟩
    · have hi' := inB_true.1 hi
      obtain ⟨p1, p7, -⟩ := polyOk_true.1 hq
      have HD := Lib.hid (diffs_vals hq hi'.1 hi'.2)
      have HN := Lib.hid (shift_yes (argOk_yes hq hi))
      go_enter Tryz.func81, Tryz.ntmps81
      go_wp2_with fail
      refine (specPoly_any _ _ _ HV.out).mono ?_
      rintro e w2 ⟨rfl, rfl⟩
      rw [hq]
      go_wp2_with fail
      refine (l2Argument_any _ _).mono ?_
      rintro e w2 ⟨rfl, rfl⟩
      rw [hi]
      have HQ := Lib.hid (And.intro hq hi)
      clear hq hi
      go_wp2_with fail
      refine (l2Values_any _ p n 1 p.length _ HV.out (by omega) (by omega) (by omega) (by omega)).mono ?_
      rintro e w1 ⟨r, rfl, o1, b1⟩
      have H1 := Lib.hid (And.intro o1 b1)
      clear o1 b1
      go_wp2_with fail
      refine (l2Result_any _ _ _ H1.out.1.ints (by rw [valsI, gen_length]; omega)).mono ?_
      rintro e w2 ⟨r2, rfl, o2, b2⟩
      rw [HD.out] at o2 ⊢
      have H2 := Lib.hid (And.intro (o2.lower H1.out.2.size) (bel_trans H1.out.2 b2))
      clear o2 b2
      go_wp2
      go_ret2
      exact ⟨_, by rw [HN.out.1]; rfl, by rw [HN.out.2]; exact H2.out.1, H2.out.2⟩

set_option maxHeartbeats 2000000 in
theorem implShift_any (v : Value) (p : List Int) (n : Int) (w : World) (hv : Ints w v p) (hn : -9223372036854775808 ≤ n ∧ n ≤ 9223372036854775807) :
    Calls Tryz.prog 80 #[v, .int .i64 n] w (IntsQ w (shiftL p n) (shiftOk p n)) := by
  have HV := Lib.hid hv
  obtain ⟨A, c, rfl, hpc, hc, hrd⟩ := hv.open_
  clear hv
  cases hq : polyOk p
  · have HN := Lib.hid (shift_no (argOk_p (n := n) hq))
    go_enter Tryz.func80, Tryz.ntmps80
    go_wp2_with fail
    refine (implPoly_any _ _ _ HV.out).mono ?_
    rintro e w2 ⟨rfl, rfl⟩
    rw [hq]
    go_wp2_with (go_at_call 110; refine (within_any _ _ _ (by omega) (by omega)).mono ?_; rintro e w' ⟨rfl, rfl⟩)
    all_goals
      go_ret2
      exact ⟨_, by rw [HN.out.1]; rfl, by rw [HN.out.2]; exact Own.nil_ _ _, Below.refl _ _⟩
  · cases hi : inB n (-200) 200
    · have HN := Lib.hid (shift_no (argOk_n (p := p) hi))
      go_enter Tryz.func80, Tryz.ntmps80
      go_wp2_with fail
      refine (implPoly_any _ _ _ HV.out).mono ?_
      rintro e w2 ⟨rfl, rfl⟩
      rw [hq]
      go_wp2_with (go_at_call 110; refine (within_any _ _ _ (by omega) (by omega)).mono ?_; rintro e w' ⟨rfl, rfl⟩)
      go_ret2
      exact ⟨_, by rw [HN.out.1]; rfl, by rw [HN.out.2]; exact Own.nil_ _ _, Below.refl _ _⟩
    · have hi' := inB_true.1 hi
      obtain ⟨p1, p7, -⟩ := polyOk_true.1 hq
      have HN := Lib.hid (shift_yes (argOk_yes hq hi))
      have hmk := fun W => Tryz.mkInts p.length (by omega) W
      obtain ⟨b, o, rfl, hb, -⟩ := hrd.ints (by omega)
      clear hrd
      go_enter Tryz.func80, Tryz.ntmps80
      go_wp2_with fail
      refine (implPoly_any _ _ _ HV.out).mono ?_
      rintro e w2 ⟨rfl, rfl⟩
      rw [hq]
      go_wp2_with fail
      refine (within_any _ _ _ (by omega) (by omega)).mono ?_
      rintro e w2 ⟨rfl, rfl⟩
      rw [hi]
      have HQ := Lib.hid (And.intro hq hi)
      clear hq hi
      go_wp2_with fail
      go_loopw [21] (fun i wr => ∃ (k : Nat) (cs : List Value), k ≤ p.length ∧ i = .int .i64 k ∧ Blk wr w.heap.size 3 cs ∧ cs.length = p.length ∧ (∀ j, j < k → cs[j]? = some (.int .i64 (evalI (p.drop j) n))) ∧ Below w.heap.size w wr)
        (fun i _ => p.length - (intOf i).toNat)
      case atStart => exact ⟨0, _, Nat.zero_le _, rfl, Blk.new _ _ _, reps_length _ _, fun j hj => absurd hj (by omega), (Below.refl _ _).alloc (Nat.le_refl _) _⟩
      case round =>
        obtain ⟨k, cs, hk, rfl, hblk, hcl, hcs, hbel⟩ := hrel
        have HO := Lib.hid (And.intro hcl (And.intro hcs hbel))
        have hz := hbel.size
        clear hcl hcs
        by_cases hlt : k < p.length
        · have c3 : wr.cell? ⟨w.heap.size, k, none⟩ = some (cs[k]'(by rw [HO.out.1]; exact hlt)) := by rw [hblk.cell]; exact List.getElem?_eq_getElem _
          have hfw := hblk.frozen k
          have SA := Lib.hid ((HV.out.bel hbel).dropN (Nat.le_of_lt hlt))
          have hnc : ¬ c = k := by omega
          have p2 : (k : Int) < (p.length : Int) := by omega
          have p3 : (0 : Int) ≤ (k : Int) := by omega
          clear hbel
          go_wp2_with fail
          refine (valueAt_any _ (p.drop k) n _ SA.out hn (by rw [List.length_drop]; omega)).mono ?_
          rintro e w3 ⟨rfl, rfl⟩
          go_wp2
          go_roundw
          case rel => exact ⟨k + 1, _, by omega, by go_num, hblk.set_ k _, by rw [List.length_set]; exact HO.out.1, fun j hj => by
            by_cases e : j = k
            · subst e; rw [List.getElem?_set_self (by rw [HO.out.1]; exact hlt)]
            · rw [List.getElem?_set_ne (by omega)]; exact HO.out.2.1 j (by omega), HO.out.2.2.setCell (Nat.le_refl _) _⟩
          case measure => simp [intOf]; omega
        · have hnl : k = p.length := by omega
          subst hnl
          have OW := Lib.hid (own_gen (f := fun j => evalI (p.drop j) n) (Nat.le_refl w.heap.size) hblk HO.out.1 (by omega) HO.out.2.1 (fun j hj => evalTo_bd _ _ _))
          clear hbel
          go_wp2_with fail
          refine (checked_any _ (shiftI p n) _ OW.out.ints).mono ?_
          rintro e w3 ⟨rfl, rfl⟩
          go_wp2
          go_ret2
          exact ⟨_, by rw [HN.out.1]; rfl, by rw [HN.out.2]; exact OW.out.chk, HO.out.2.2⟩

-- ValuesOf
def valOk (p : List Int) (a c : Int) : Bool := argOk p a && inB c 0 60 && decide (a + c - 1 ≤ 200)
def valL (p : List Int) (a c : Int) : List Int := if valOk p a c = true then gen (fun i => evalI p (a + (i : Int))) c.toNat else []
theorem valOk_true {p : List Int} {a c : Int} : valOk p a c = true ↔ polyOk p = true ∧ (-200 ≤ a ∧ a ≤ 200) ∧ (0 ≤ c ∧ c ≤ 60) ∧ a + c - 1 ≤ 200 := by
  simp [valOk, argOk, inB, and_assoc]
theorem val_no {p : List Int} {a c : Int} (h : ¬ (polyOk p = true ∧ (-200 ≤ a ∧ a ≤ 200) ∧ (0 ≤ c ∧ c ≤ 60) ∧ a + c - 1 ≤ 200)) : valOk p a c = false ∧ valL p a c = [] := by
  have : valOk p a c = false := by rw [Bool.eq_false_iff]; exact fun e => h (valOk_true.1 e)
  exact ⟨this, by simp [valL, this]⟩
theorem val_yes {p : List Int} {a : Int} {c : Nat} (h : valOk p a c = true) : valL p a c = gen (fun i => evalI p (a + (i : Int))) c := by simp [valL, h]

set_option maxHeartbeats 2000000 in
theorem specValues_any (v : Value) (p : List Int) (a c : Int) (w : World) (hv : Ints w v p) (ha : -9223372036854775808 ≤ a ∧ a ≤ 9223372036854775807) (hc : -9223372036854775808 ≤ c ∧ c ≤ 9223372036854775807) :
    Calls Tryz.prog 178 #[v, .int .i64 a, .int .i64 c] w (IntsQ w (valL p a c) (valOk p a c)) := by
  have HV := Lib.hid hv
  obtain ⟨A, cc, rfl, -, -, -⟩ := hv.open_
  have OE := Lib.hid (Own.empty w w.heap.size (Nat.le_refl _))
  clear hv
  cases hq : polyOk p
  · have HN := Lib.hid (val_no (p := p) (a := a) (c := c) (by rw [hq]; simp))
    go_enter Tryz.func178, Tryz.ntmps178
    go_wp2_with fail
    refine (specPoly_any _ _ _ HV.out).mono ?_
    rintro e w2 ⟨rfl, rfl⟩
    rw [hq]
    go_wp2
    all_goals
      go_ret2
      exact ⟨_, by rw [HN.out.1]; rfl, by rw [HN.out.2]; exact OE.out, bel_alloc _ _⟩
  · cases hi : inB a (-200) 200
    · have HN := Lib.hid (val_no (p := p) (a := a) (c := c) (by have := inB_false.1 hi; omega))
      go_enter Tryz.func178, Tryz.ntmps178
      go_wp2_with fail
      refine (specPoly_any _ _ _ HV.out).mono ?_
      rintro e w2 ⟨rfl, rfl⟩
      rw [hq]
      go_wp2_with (go_at_call 150; refine (l2Argument_any _ _).mono ?_; rintro e w' ⟨rfl, rfl⟩)
      go_ret2
      exact ⟨_, by rw [HN.out.1]; rfl, by rw [HN.out.2]; exact OE.out, bel_alloc _ _⟩
    · have hi' := inB_true.1 hi
      cases hj : inB c 0 60
      · have HN := Lib.hid (val_no (p := p) (a := a) (c := c) (by have := inB_false.1 hj; omega))
        go_enter Tryz.func178, Tryz.ntmps178
        go_wp2_with fail
        refine (specPoly_any _ _ _ HV.out).mono ?_
        rintro e w2 ⟨rfl, rfl⟩
        rw [hq]
        go_wp2_with fail
        refine (l2Argument_any _ _).mono ?_
        rintro e w2 ⟨rfl, rfl⟩
        rw [hi]
        go_wp2_with (go_at_call 138; refine (l1In_any _ _ _ _).mono ?_; rintro e w' ⟨rfl, rfl⟩)
        go_ret2
        exact ⟨_, by rw [HN.out.1]; rfl, by rw [HN.out.2]; exact OE.out, bel_alloc _ _⟩
      · have hj' := inB_true.1 hj
        obtain ⟨p1, p7, -⟩ := polyOk_true.1 hq
        by_cases hs : 200 < a + c - 1
        · have HN := Lib.hid (val_no (p := p) (a := a) (c := c) (by omega))
          go_enter Tryz.func178, Tryz.ntmps178
          go_wp2_with fail
          refine (specPoly_any _ _ _ HV.out).mono ?_
          rintro e w2 ⟨rfl, rfl⟩
          rw [hq]
          go_wp2_with fail
          refine (l2Argument_any _ _).mono ?_
          rintro e w2 ⟨rfl, rfl⟩
          rw [hi]
          go_wp2_with (go_at_call 138; refine (l1In_any _ _ _ _).mono ?_; rintro e w' ⟨rfl, rfl⟩)
          go_ret2
          exact ⟨_, by rw [HN.out.1]; rfl, by rw [HN.out.2]; exact OE.out, bel_alloc _ _⟩
        · obtain ⟨c, rfl⟩ : ∃ k : Nat, c = k := ⟨c.toNat, by omega⟩
          have hok : valOk p a c = true := valOk_true.2 ⟨hq, hi', hj', by omega⟩
          have HN := Lib.hid (And.intro hok (And.intro (val_yes hok) (valsI_one p hi'.1 (show a + (c : Int) ≤ 300 by omega))))
          clear hok
          go_enter Tryz.func178, Tryz.ntmps178
          go_wp2_with fail
          refine (specPoly_any _ _ _ HV.out).mono ?_
          rintro e w2 ⟨rfl, rfl⟩
          rw [hq]
          go_wp2_with fail
          refine (l2Argument_any _ _).mono ?_
          rintro e w2 ⟨rfl, rfl⟩
          rw [hi]
          go_wp2_with fail
          refine (l1In_any _ _ _ _).mono ?_
          rintro e w2 ⟨rfl, rfl⟩
          rw [hj]
          have HQ := Lib.hid (And.intro hq (And.intro hi hj))
          clear hq hi hj
          go_wp2_with fail
          refine (l2Values_any _ p a 1 c _ HV.out (by omega) (by omega) (by omega) (by omega)).mono ?_
          rintro e w1 ⟨r, rfl, o1, b1⟩
          rw [HN.out.2.2] at o1
          have H1 := Lib.hid (And.intro o1 b1)
          clear o1 b1
          go_wp2
          go_ret2
          exact ⟨_, by rw [HN.out.1]; rfl, by rw [HN.out.2.1]; exact H1.out.1, H1.out.2⟩

set_option maxHeartbeats 2000000 in
theorem implValues_any (v : Value) (p : List Int) (a c : Int) (w : World) (hv : Ints w v p) (ha : -9223372036854775808 ≤ a ∧ a ≤ 9223372036854775807) (hc : -9223372036854775808 ≤ c ∧ c ≤ 9223372036854775807) :
    Calls Tryz.prog 51 #[v, .int .i64 a, .int .i64 c] w (IntsQ w (valL p a c) (valOk p a c)) := by
  have HV := Lib.hid hv
  obtain ⟨A, cc, rfl, -, -, -⟩ := hv.open_
  clear hv
  cases hq : polyOk p
  · have HN := Lib.hid (val_no (p := p) (a := a) (c := c) (by rw [hq]; simp))
    go_enter Tryz.func51, Tryz.ntmps51
    go_wp2_with fail
    refine (implPoly_any _ _ _ HV.out).mono ?_
    rintro e w2 ⟨rfl, rfl⟩
    rw [hq]
    go_wp2
    all_goals
      go_ret2
      exact ⟨_, by rw [HN.out.1]; rfl, by rw [HN.out.2]; exact Own.nil_ _ _, Below.refl _ _⟩
  · cases hi : inB a (-200) 200
    · have HN := Lib.hid (val_no (p := p) (a := a) (c := c) (by have := inB_false.1 hi; omega))
      go_enter Tryz.func51, Tryz.ntmps51
      go_wp2_with fail
      refine (implPoly_any _ _ _ HV.out).mono ?_
      rintro e w2 ⟨rfl, rfl⟩
      rw [hq]
      go_wp2_with (go_at_call 110; refine (within_any _ _ _ (by omega) (by omega)).mono ?_; rintro e w' ⟨rfl, rfl⟩)
      go_ret2
      exact ⟨_, by rw [HN.out.1]; rfl, by rw [HN.out.2]; exact Own.nil_ _ _, Below.refl _ _⟩
    · have hi' := inB_true.1 hi
      by_cases hlo : c < 0
      · have HN := Lib.hid (val_no (p := p) (a := a) (c := c) (by omega))
        go_enter Tryz.func51, Tryz.ntmps51
        go_wp2_with fail
        refine (implPoly_any _ _ _ HV.out).mono ?_
        rintro e w2 ⟨rfl, rfl⟩
        rw [hq]
        go_wp2_with fail
        refine (within_any _ _ _ (by omega) (by omega)).mono ?_
        rintro e w2 ⟨rfl, rfl⟩
        rw [hi]
        go_wp2
        go_ret2
        exact ⟨_, by rw [HN.out.1]; rfl, by rw [HN.out.2]; exact Own.nil_ _ _, Below.refl _ _⟩
      · by_cases hhi : 60 < c
        · have HN := Lib.hid (val_no (p := p) (a := a) (c := c) (by omega))
          go_enter Tryz.func51, Tryz.ntmps51
          go_wp2_with fail
          refine (implPoly_any _ _ _ HV.out).mono ?_
          rintro e w2 ⟨rfl, rfl⟩
          rw [hq]
          go_wp2_with fail
          refine (within_any _ _ _ (by omega) (by omega)).mono ?_
          rintro e w2 ⟨rfl, rfl⟩
          rw [hi]
          go_wp2
          go_ret2
          exact ⟨_, by rw [HN.out.1]; rfl, by rw [HN.out.2]; exact Own.nil_ _ _, Below.refl _ _⟩
        · obtain ⟨p1, p7, -⟩ := polyOk_true.1 hq
          by_cases hs : 200 < a + c - 1
          · have HN := Lib.hid (val_no (p := p) (a := a) (c := c) (by omega))
            go_enter Tryz.func51, Tryz.ntmps51
            go_wp2_with fail
            refine (implPoly_any _ _ _ HV.out).mono ?_
            rintro e w2 ⟨rfl, rfl⟩
            rw [hq]
            go_wp2_with fail
            refine (within_any _ _ _ (by omega) (by omega)).mono ?_
            rintro e w2 ⟨rfl, rfl⟩
            rw [hi]
            go_wp2
            go_ret2
            exact ⟨_, by rw [HN.out.1]; rfl, by rw [HN.out.2]; exact Own.nil_ _ _, Below.refl _ _⟩
          · obtain ⟨c, rfl⟩ : ∃ k : Nat, c = k := ⟨c.toNat, by omega⟩
            have hok : valOk p a c = true := valOk_true.2 ⟨hq, hi', by omega, by omega⟩
            have HN := Lib.hid (And.intro hok (val_yes hok))
            have hmk := fun W => Tryz.mkInts c (by omega) W
            clear hok
            go_enter Tryz.func51, Tryz.ntmps51
            go_wp2_with fail
            refine (implPoly_any _ _ _ HV.out).mono ?_
            rintro e w2 ⟨rfl, rfl⟩
            rw [hq]
            go_wp2_with fail
            refine (within_any _ _ _ (by omega) (by omega)).mono ?_
            rintro e w2 ⟨rfl, rfl⟩
            rw [hi]
            have HQ := Lib.hid (And.intro hq hi)
            clear hq hi
            go_wp2_with fail
            go_loopw [35] (fun i wr => ∃ (k : Nat) (cs : List Value), k ≤ c ∧ i = .int .i64 k ∧ Blk wr w.heap.size 3 cs ∧ cs.length = c ∧ (∀ j, j < k → cs[j]? = some (.int .i64 (evalI p (a + (j : Int))))) ∧ Below w.heap.size w wr)
              (fun i _ => c - (intOf i).toNat)
            case atStart => exact ⟨0, _, Nat.zero_le _, rfl, Blk.new _ _ _, reps_length _ _, fun j hj => absurd hj (by omega), (Below.refl _ _).alloc (Nat.le_refl _) _⟩
            case round =>
              obtain ⟨k, cs, hk, rfl, hblk, hcl, hcs, hbel⟩ := hrel
              have HO := Lib.hid (And.intro hcl (And.intro hcs hbel))
              have hz := hbel.size
              clear hcl hcs
              by_cases hlt : k < c
              · have c3 : wr.cell? ⟨w.heap.size, k, none⟩ = some (cs[k]'(by rw [HO.out.1]; exact hlt)) := by rw [hblk.cell]; exact List.getElem?_eq_getElem _
                have hfw := hblk.frozen k
                have SA := Lib.hid (HV.out.bel hbel)
                clear hbel
                go_wp2_with fail
                refine (valueAt_any _ p (a + (k : Int)) _ SA.out (by omega) (by omega)).mono ?_
                rintro e w3 ⟨rfl, rfl⟩
                go_wp2
                go_roundw
                case rel => exact ⟨k + 1, _, by omega, by go_num, hblk.set_ k _, by rw [List.length_set]; exact HO.out.1, fun j hj => by
                  by_cases e : j = k
                  · subst e; rw [List.getElem?_set_self (by rw [HO.out.1]; exact hlt)]
                  · rw [List.getElem?_set_ne (by omega)]; exact HO.out.2.1 j (by omega), HO.out.2.2.setCell (Nat.le_refl _) _⟩
                case measure => simp [intOf]; omega
              · have hnl : k = c := by omega
                subst hnl
                have OW := Lib.hid (own_gen (f := fun j => evalI p (a + (j : Int))) (Nat.le_refl w.heap.size) hblk HO.out.1 (by omega) HO.out.2.1 (fun j hj => evalTo_bd _ _ _))
                clear hbel
                go_wp2
                go_ret2
                exact ⟨_, by rw [HN.out.1]; rfl, by rw [HN.out.2]; exact OW.out, HO.out.2.2⟩

-- StepPoly
def stepsI (p : List Int) (m : Int) : List Int := diffsI (valsI p 0 m p.length)
def stepArg (p : List Int) (m : Int) : Bool := polyOk p && inB m 1 10
def stepOk (p : List Int) (m : Int) : Bool := stepArg p m && polyOk (stepsI p m)
def stepL (p : List Int) (m : Int) : List Int := if stepArg p m = true then chkL (stepsI p m) else []
theorem stepArg_no {p : List Int} {m : Int} (h : ¬ (polyOk p = true ∧ 1 ≤ m ∧ m ≤ 10)) : stepOk p m = false ∧ stepL p m = [] := by
  have : stepArg p m = false := by
    rw [Bool.eq_false_iff]; intro e
    simp [stepArg, inB] at e; exact h e
  simp [stepOk, stepL, this]
theorem stepArg_yes {p : List Int} {m : Int} (h : polyOk p = true) (k : 1 ≤ m ∧ m ≤ 10) : stepOk p m = polyOk (stepsI p m) ∧ stepL p m = chkL (stepsI p m) := by
  have : stepArg p m = true := by simp [stepArg, inB, h, k]
  simp [stepOk, stepL, this]
theorem valsI_zero (p : List Int) {m : Int} {c : Nat} (hm : 1 ≤ m ∧ m ≤ 10) (hc : c ≤ 7) : valsI p 0 m c = gen (fun i => evalI p (m * (i : Int))) c := by
  apply list_ext
  · unfold valsI; rw [gen_length, gen_length]
  · intro j hj
    unfold valsI at hj ⊢
    rw [gen_length] at hj
    have h := mul_bd (a := m) (b := (j : Int)) (A := 10) (B := 7) (by omega) (by omega) (by omega) (by omega)
    rw [at_gen hj, at_gen hj, Int.zero_add, IntWalk.wrap64_in (m * (j : Int)) (by omega), IntWalk.wrap64_in _ (by omega)]



end Go.Proofs.YtpniljcnknknoaaGreatDoor
