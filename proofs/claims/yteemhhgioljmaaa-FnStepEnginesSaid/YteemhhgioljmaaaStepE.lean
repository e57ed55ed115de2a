/-
  Contracts of StepEngines (both).
-/
import Derived.Test.YteemhhgioljmaaaPartE
namespace Go.Proofs.Yteemhhgioljmaaa
open Go.RowKit
set_option linter.unusedVariables false
set_option linter.unusedSimpArgs false
set_option maxRecDepth 100000
attribute [local go_sem ↓] Go.wp_at_zero Go.wp_at_succ

def seS (p : List Int) (a : Int) (i : Nat) : List Int := shiftL p (wrap64 (a + (i : Int)))
def seP (p : List Int) (a m : Int) (i : Nat) : List Int := stepL (seS p a i) m
def seOkAt (p : List Int) (a m k : Int) (i : Nat) : Bool := shiftOk p (wrap64 (a + (i : Int))) && stepOk (seS p a i) m && setOk (seP p a m i) 0 k
def seE (p : List Int) (a m k : Int) (i : Nat) : List ByteArray := setE (seP p a m i) 0 k
def seOk (p : List Int) (a m k : Int) : Bool := inB m 1 10 && allAt (seOkAt p a m k) m.toNat
def seL (p : List Int) (a m k : Int) : List (List ByteArray) := if seOk p a m k = true then genE (seE p a m k) m.toNat else []
theorem se_no {p : List Int} {a m k : Int} (h : inB m 1 10 = false ∨ ∃ i, i < m.toNat ∧ seOkAt p a m k i = false) : seOk p a m k = false ∧ seL p a m k = [] := by
  have : seOk p a m k = false := by
    rcases h with h | ⟨i, hi, h⟩
    · simp [seOk, h]
    · simp [seOk, allAt_no hi h]
  exact ⟨this, by simp [seL, this]⟩
theorem se_yes {p : List Int} {a k : Int} {m : Nat} (h1 : inB (m : Int) 1 10 = true) (h2 : ∀ i, i < m → seOkAt p a m k i = true) : seOk p a m k = true ∧ seL p a m k = genE (seE p a m k) m := by
  have : seOk p a m k = true := by simp [seOk, h1, allAt_true.2 h2]
  exact ⟨this, by simp [seL, this]⟩
theorem seL_bd (p : List Int) (a m k : Int) : (seL p a m k).length ≤ 10 ∧ (∀ i, i < (seL p a m k).length → (eat (seL p a m k) i).length ≤ 7) ∧ tot_ (seL p a m k) ≤ 70 := by
  unfold seL
  split
  · rename_i h
    simp only [seOk, Bool.and_eq_true] at h
    have h10 := inB_true.1 h.1
    refine ⟨by rw [genE_length]; omega, fun i hi => ?_, ?_⟩
    · rw [genE_length] at hi
      rw [eat_genE hi]; exact setE_len _ _ _
    · have := genE_tot (f := seE p a m k) (n := m.toNat) (fun i _ => setE_len _ _ _) m.toNat (Nat.le_refl _)
      unfold tot_
      rw [genE_length]
      omega
  · exact ⟨by simp, fun i hi => absurd hi (by simp), by show (0 : Nat) ≤ 70; omega⟩
theorem seOkAt_1 {p : List Int} {a m k : Int} {i : Nat} (h : shiftOk p (wrap64 (a + (i : Int))) = false) : seOkAt p a m k i = false := by simp [seOkAt, h]
theorem seOkAt_2 {p : List Int} {a m k : Int} {i : Nat} (h : stepOk (seS p a i) m = false) : seOkAt p a m k i = false := by simp [seOkAt, h]
theorem seOkAt_3 {p : List Int} {a m k : Int} {i : Nat} (h : setOk (seP p a m i) 0 k = false) : seOkAt p a m k i = false := by simp [seOkAt, h]
theorem seOkAt_y {p : List Int} {a m k : Int} {i : Nat} (h1 : shiftOk p (wrap64 (a + (i : Int))) = true) (h2 : stepOk (seS p a i) m = true) (h3 : setOk (seP p a m i) 0 k = true) : seOkAt p a m k i = true := by simp [seOkAt, h1, h2, h3]

set_option maxHeartbeats 4000000 in
theorem implSE_any (v : Value) (p : List Int) (a m k : Int) (w : World) (hv : Ints w v p) (ha : -9223372036854775808 ≤ a ∧ a ≤ 9223372036854775807) (hm : -9223372036854775808 ≤ m ∧ m ≤ 9223372036854775807) :
    Calls Try.prog 43 #[v, .int .i64 a, .int .i64 m, .int .i64 k] w (EngsO w (seL p a m k) (seOk p a m k)) := by
  have HV := Lib.hid hv
  obtain ⟨A, c, rfl, -, -, -⟩ := hv.open_
  clear hv
  by_cases hlo : m < 1
  · have HN := Lib.hid (se_no (p := p) (a := a) (k := k) (.inl (inB_false.2 (show ¬ (1 ≤ m ∧ m ≤ 10) by omega))))
    go_enter Try.func43, Try.ntmps43
    go_wp2
    go_ret2
    exact ⟨_, by rw [HN.out.1]; rfl, by rw [HN.out.2]; exact .inl ⟨rfl, rfl⟩, Below.refl _ _⟩
  · by_cases hhi : 10 < m
    · have HN := Lib.hid (se_no (p := p) (a := a) (k := k) (.inl (inB_false.2 (show ¬ (1 ≤ m ∧ m ≤ 10) by omega))))
      go_enter Try.func43, Try.ntmps43
      go_wp2
      go_ret2
      exact ⟨_, by rw [HN.out.1]; rfl, by rw [HN.out.2]; exact .inl ⟨rfl, rfl⟩, Below.refl _ _⟩
    · obtain ⟨m, rfl⟩ : ∃ n : Nat, m = n := ⟨m.toNat, by omega⟩
      have HM := Lib.hid (inB_true.2 (show (1 : Int) ≤ (m : Int) ∧ (m : Int) ≤ 10 by omega))
      have hmk := fun W => Try.mkEngs m (by omega) W
      go_enter Try.func43, Try.ntmps43
      go_wp2_with fail
      go_loopw [25] (fun i wr => ∃ (j : Nat) (cs : List Value), j ≤ m ∧ i = .int .i64 j ∧ Blk wr w.heap.size 29 cs ∧ cs.length = m ∧ Rows_ wr (w.heap.size + 1) j cs (genE (seE p a m k) m) ∧ (∀ i, i < j → seOkAt p a m k i = true) ∧ Below w.heap.size w wr ∧ w.heap.size + 1 ≤ wr.heap.size)
        (fun i _ => m - (intOf i).toNat)
      case atStart => exact ⟨0, _, Nat.zero_le _, rfl, Blk.new _ _ _, reps_length _ _, Rows_.zero _ _ _ _, fun i hi => absurd hi (by omega), bel_alloc _ _, by simp⟩
      case round =>
        obtain ⟨j, cs, hj, rfl, hblk, hcl, hrows, hall, hbel, hz1⟩ := hrel
        have HO := Lib.hid (And.intro hcl (And.intro hrows (And.intro hall hbel)))
        clear hcl hrows hall hbel
        by_cases hlt : j < m
        · have HK := Lib.hid hblk
          have hbl := hblk.lt
          clear hblk
          go_wp2_with fail
          refine (implShift_any _ p (wrap64 (a + (j : Int))) _ (HV.out.bel HO.out.2.2.2) (wrap64_bd _)).mono ?_
          rintro e w3 ⟨r3, rfl, o3, b3⟩
          have O3 := Lib.hid o3.ints
          have B3 := Lib.hid b3
          clear o3 b3
          cases h1 : shiftOk p (wrap64 (a + (j : Int)))
          · have HN := Lib.hid (se_no (p := p) (a := a) (m := (m : Int)) (k := k) (.inr ⟨j, by simpa using hlt, seOkAt_1 h1⟩))
            go_wp2
            go_ret2
            exact ⟨_, by rw [HN.out.1]; rfl, by rw [HN.out.2]; exact .inl ⟨rfl, rfl⟩, bel_trans HO.out.2.2.2 B3.out⟩
          · have H1 := Lib.hid h1
            clear h1
            go_wp2_with fail
            refine (implStep_any _ (seS p a j) m _ O3.out (by omega)).mono ?_
            rintro e w4 ⟨r4, rfl, o4, b4⟩
            have O4 := Lib.hid o4.ints
            have B4 := Lib.hid (bel_trans B3.out b4)
            clear o4 b4
            cases h2 : stepOk (seS p a j) m
            · have HN := Lib.hid (se_no (p := p) (a := a) (m := (m : Int)) (k := k) (.inr ⟨j, by simpa using hlt, seOkAt_2 h2⟩))
              go_wp2
              go_ret2
              exact ⟨_, by rw [HN.out.1]; rfl, by rw [HN.out.2]; exact .inl ⟨rfl, rfl⟩, bel_trans HO.out.2.2.2 B4.out⟩
            · have H2 := Lib.hid h2
              clear h2
              go_wp2_with fail
              refine (implSetUp_any _ (seP p a m j) 0 k _ O4.out (by omega)).mono ?_
              rintro e w5 ⟨r, rfl, o5, b5⟩
              have b5' := bel_trans B4.out b5
              have hz4 := B4.out.size
              have z5 := b5'.size
              have hblk := HK.out.below b5' hbl
              have R5 := Lib.hid (HO.out.2.1.add b5' (by rw [HO.out.1]; exact hlt) (o5.lower hz4) (eat_genE (f := seE p a m k) hlt) hz1)
              have B5 := Lib.hid (bel_trans HO.out.2.2.2 b5')
              obtain ⟨A5, c5, rfl, -, -, -⟩ := o5.strs.open_
              clear o5 b5 b5'
              have c3 : w5.cell? ⟨w.heap.size, j, none⟩ = some (cs[j]'(by rw [HO.out.1]; exact hlt)) := by rw [hblk.cell]; exact List.getElem?_eq_getElem _
              have hfw := hblk.frozen j
              cases h3 : setOk (seP p a m j) 0 k
              · have HN := Lib.hid (se_no (p := p) (a := a) (m := (m : Int)) (k := k) (.inr ⟨j, by simpa using hlt, seOkAt_3 h3⟩))
                go_wp2
                go_ret2
                exact ⟨_, by rw [HN.out.1]; rfl, by rw [HN.out.2]; exact .inl ⟨rfl, rfl⟩, B5.out.setCell (Nat.le_refl _) _⟩
              · have HSO := Lib.hid (seOkAt_y H1.out H2.out h3)
                clear h3
                go_wp2
                go_roundw
                case rel => exact ⟨j + 1, _, by omega, by go_num, hblk.set_ j _, by rw [List.length_set]; exact HO.out.1, R5.out.setCell _ _ (by show w.heap.size < w.heap.size + 1; omega), toSucc HO.out.2.2.1 HSO.out, B5.out.setCell (Nat.le_refl _) _, by simp; omega⟩
                case measure => simp [intOf]; omega
        · have hkl : j = m := by omega
          subst hkl
          have HN := Lib.hid (se_yes HM.out HO.out.2.2.1)
          have OW := Lib.hid (show OwnE wr w.heap.size wr.heap.size (.slice (some ⟨w.heap.size, 0, none⟩) j j) (genE (seE p a j k) j) by
            have := Rows_.own (ls := genE (seE p a j k) j) (by rw [genE_length]; exact HO.out.2.1) hblk (by rw [genE_length]; exact HO.out.1) (by rw [genE_length]; omega)
            rw [genE_length] at this; exact this)
          go_wp2
          go_ret2
          exact ⟨_, by rw [HN.out.1]; rfl, by rw [HN.out.2]; exact OW.out, HO.out.2.2.2⟩

set_option maxHeartbeats 4000000 in
theorem rawSE_any (v : Value) (p : List Int) (a m k : Int) (w : World) (hv : Ints w v p) (ha : -9223372036854775808 ≤ a ∧ a ≤ 9223372036854775807) (hm : -9223372036854775808 ≤ m ∧ m ≤ 9223372036854775807) :
    Calls Try.prog 107 #[v, .int .i64 a, .int .i64 m, .int .i64 k] w (EngsR w (seL p a m k) (seOk p a m k)) := by
  have HV := Lib.hid hv
  obtain ⟨A, c, rfl, -, -, -⟩ := hv.open_
  have OE := Lib.hid (And.intro (EngsX.empty w w.heap.size (Nat.le_refl _)) (bel_alloc w (.cells #[] 29)))
  clear hv
  cases hi : inB m 1 10
  · have HN := Lib.hid (se_no (p := p) (a := a) (k := k) (.inl hi))
    go_enter Try.func107, Try.ntmps107
    go_wp2_with (go_at_call 91; refine (l1In_any _ _ _ _).mono ?_; rintro e w' ⟨rfl, rfl⟩)
    go_ret2
    exact ⟨_, by rw [HN.out.1]; rfl, by rw [HN.out.2]; exact OE.out.1.engs, OE.out.2⟩
  · have hi' := inB_true.1 hi
    obtain ⟨m, rfl⟩ : ∃ n : Nat, m = n := ⟨m.toNat, by omega⟩
    have HM := Lib.hid hi
    go_enter Try.func107, Try.ntmps107
    go_wp2_with fail
    refine (l1In_any _ _ _ _).mono ?_
    rintro e w1 ⟨rfl, rfl⟩
    rw [hi]
    clear hi
    go_wp2_with fail
    go_loopw [10, 11] (fun r i wr => ∃ j : Nat, j ≤ m ∧ i = .int .i64 j ∧ EngsX wr w.heap.size r (genE (seE p a m k) j) ∧ (∀ i, i < j → seOkAt p a m k i = true) ∧ Below w.heap.size w wr)
      (fun _ i _ => m - (intOf i).toNat)
    case atStart => exact ⟨0, Nat.zero_le _, rfl, OE.out.1, fun i hi => absurd hi (by omega), OE.out.2⟩
    case round =>
      clear OE
      obtain ⟨j, hj, rfl, hown, hall, hbel⟩ := hrel
      have HO := Lib.hid (And.intro hown (And.intro hall hbel))
      have hz := hbel.size
      clear hown hall hbel
      by_cases hlt : j < m
      · go_wp2_with fail
        refine (specShift_any _ p (wrap64 (a + (j : Int))) _ (HV.out.bel HO.out.2.2) (wrap64_bd _)).mono ?_
        rintro e w3 ⟨r3, rfl, o3, b3⟩
        have O3 := Lib.hid o3.ints
        have B3 := Lib.hid b3
        clear o3 b3
        go_wp2_with fail
        refine (specStep_any _ (seS p a j) m _ O3.out (by omega)).mono ?_
        rintro e w4 ⟨r4, rfl, o4, b4⟩
        have O4 := Lib.hid o4.ints
        have B4 := Lib.hid (bel_trans B3.out b4)
        clear o4 b4
        go_wp2_with fail
        refine (specSetUp_any _ (seP p a m j) 0 k _ O4.out (by omega)).mono ?_
        rintro e w5 ⟨r, rfl, o5, b5⟩
        obtain ⟨A5, c5, rfl, -, -, -⟩ := o5.strs.open_
        obtain ⟨q, hq⟩ : ∃ q, q = (setE (seP p a m j) 0 k).length := ⟨_, rfl⟩
        rw [← hq] at o5 ⊢
        have hbx := bel_alloc w5 (.cells #[.slice A5 q c5] 29)
        have z4 := B4.out.size
        have z5 := b5.size
        have zz : w.heap.size ≤ w5.heap.size := by omega
        have O5 := Lib.hid (o5.bel hbx)
        have HQ := Lib.hid hq
        have hoff := Lib.hid (O5.out.off.mono (R := fun b => u10.ownBlock ≠ some b) (fun b hb2 e => by have := (HO.out.1.lt b e).2; omega))
        have B5 := Lib.hid (bel_trans (bel_trans B4.out b5) hbx)
        have OR := Lib.hid (And.intro (HO.out.1.bel B5.out) (bel_trans HO.out.2.2 B5.out))
        have KB := Blk.new' w5 29 (.slice A5 q c5) w5.heap.size rfl
        have OE := Lib.hid (And.intro (EngsX.empty (w5.alloc (.cells #[.slice A5 q c5] 29)) w.heap.size OR.out.2.size) (bel_trans OR.out.2 (bel_alloc (w5.alloc (.cells #[.slice A5 q c5] 29)) (.cells #[] 29))))
        clear o5 b5 hbx hq
        cases h1 : shiftOk p (wrap64 (a + (j : Int)))
        · have HN := Lib.hid (se_no (p := p) (a := a) (m := (m : Int)) (k := k) (.inr ⟨j, by simpa using hlt, seOkAt_1 h1⟩))
          go_wp2
          all_goals
            go_ret2
            exact ⟨_, by rw [HN.out.1]; rfl, by rw [HN.out.2]; simpa using OE.out.1.engs, OE.out.2⟩
        · cases h2 : stepOk (seS p a j) m
          · have HN := Lib.hid (se_no (p := p) (a := a) (m := (m : Int)) (k := k) (.inr ⟨j, by simpa using hlt, seOkAt_2 h2⟩))
            go_wp2
            all_goals
              go_ret2
              exact ⟨_, by rw [HN.out.1]; rfl, by rw [HN.out.2]; simpa using OE.out.1.engs, OE.out.2⟩
          · cases h3 : setOk (seP p a m j) 0 k
            · have HN := Lib.hid (se_no (p := p) (a := a) (m := (m : Int)) (k := k) (.inr ⟨j, by simpa using hlt, seOkAt_3 h3⟩))
              go_wp2
              all_goals
                go_ret2
                exact ⟨_, by rw [HN.out.1]; rfl, by rw [HN.out.2]; simpa using OE.out.1.engs, OE.out.2⟩
            · have HSO := Lib.hid (seOkAt_y h1 h2 h3)
              obtain ⟨e1, -⟩ := KB.one
              have hgs := Lib.hid (genE_succ (seE p a m k) j)
              clear h1 h2 h3 KB OE
              go_wp2_with (at_builtin; go_must (refine app_eng rfl (.tmp 59) (.tmp 61) (by rfl) w.heap.size _ (genE (seE p a m k) j) (by rfl) (by exact OR.out.1.bel (bel_alloc _ _)) _ _ (.slice A5 q c5) (setE (seP p a m j) 0 k) (by rfl) (by first | exact new_cell _ _ _ | (simp; done) | (rw [show w5.heap.size + 1 = (w5.alloc (.cells #[.slice A5 q c5] 29)).heap.size by simp]; exact new_cell _ _ _)) (by exact O5.out.strs.bel (bel_alloc _ _)) (by exact hoff.out) (by rw [genE_length]; omega) (by simp; omega) ?_; intro v1 w8 ho hg _; have HF := Lib.hid (And.intro ho (app_belX (bel_trans OR.out.2 (bel_alloc _ _)) (OR.out.1.bel (bel_alloc _ _)) hg)); clear ho hg))
              go_roundw
              case rel => exact ⟨j + 1, by omega, by go_num, by rw [hgs.out]; exact HF.out.1, toSucc HO.out.2.1 HSO.out, HF.out.2⟩
              case measure => simp [intOf]; omega
      · have hkl : j = m := by omega
        subst hkl
        have HN := Lib.hid (se_yes HM.out HO.out.2.1)
        go_wp2
        go_ret2
        exact ⟨_, by rw [HN.out.1]; rfl, by rw [HN.out.2]; exact HO.out.1.engs, HO.out.2.2⟩

set_option maxHeartbeats 1000000 in
theorem specSE_any (v : Value) (p : List Int) (a m k : Int) (w : World) (hv : Ints w v p) (ha : -9223372036854775808 ≤ a ∧ a ≤ 9223372036854775807) (hm : -9223372036854775808 ≤ m ∧ m ≤ 9223372036854775807) :
    Calls Try.prog 44 #[v, .int .i64 a, .int .i64 m, .int .i64 k] w (EngsR w (seL p a m k) (seOk p a m k)) := by
  go_enter Try.func44, Try.ntmps44
  go_wp2_with fail
  refine (rawSE_any v p a m k _ hv ha hm).mono ?_
  rintro e w1 ⟨r, rfl, o1, b1⟩
  have H1 := Lib.hid (And.intro o1 b1)
  have hbd := seL_bd p a m k
  clear o1 b1
  go_wp2_with fail
  refine (l9OwnList_any _ (seL p a m k) _ H1.out.1 (by omega) (fun i hi => by have := hbd.2.1 i hi; omega)).mono ?_
  rintro e w2 ⟨r2, rfl, o2, b2⟩
  have H2 := Lib.hid (And.intro o2 (bel_trans H1.out.2 b2))
  clear o2 b2
  go_wp2
  go_ret2
  exact ⟨_, rfl, H2.out.1, H2.out.2⟩

end Go.Proofs.Yteemhhgioljmaaa
