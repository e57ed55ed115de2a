/-
  Contracts of SetUp and CapacityOf (both).
-/
import Derived.Test.YtpniljcnknknoaaGreatDoorShiftC
import Derived.Test.YtpniljcnknknoaaGreatDoorJoinB
namespace Go.Proofs.YtpniljcnknknoaaGreatDoor
open Go.RowKit
set_option linter.unusedVariables false
set_option linter.unusedSimpArgs false
set_option maxRecDepth 100000
attribute [local go_sem ↓] Go.wp_at_zero Go.wp_at_succ

/-- Numbers that columns of a width stand for, and the columns. -/
def colsOk (l : List Int) (k : Int) : Bool := l.all fun d => colOfOk d k
def colsTo (l : List Int) (k : Int) (m : Nat) : List ByteArray := genS (fun i => colOfS (at_ l i) k) m
theorem colsTo_length (l : List Int) (k : Int) (m : Nat) : (colsTo l k m).length = m := genS_length _ _
theorem colsTo_succ (l : List Int) (k : Int) (m : Nat) : colsTo l k (m + 1) = colsTo l k m ++ [colOfS (at_ l m) k] := genS_succ _ _
theorem colOfS_size (d k : Int) : (colOfS d k).size ≤ 12 := by
  unfold colOfS
  split
  · rename_i h
    have hw : inB k 1 12 = true := by
      cases hq : inB k 1 12
      · rw [colOfOk_out d hq] at h; cases h
      · rfl
    have := inB_true.1 hw
    rw [colOf_size]; omega
  · exact Nat.zero_le _
def setOk (p : List Int) (n k : Int) : Bool := shiftOk p n && colsOk (shiftL p n) k
def setE (p : List Int) (n k : Int) : List ByteArray := if setOk p n k = true then colsTo (shiftL p n) k (shiftL p n).length else []
theorem set_no {p : List Int} {n k : Int} (h : setOk p n k = false) : setE p n k = [] := by simp [setE, h]
theorem set_yes {p : List Int} {n k : Int} (h : setOk p n k = true) : setE p n k = colsTo (shiftL p n) k (shiftL p n).length := by simp [setE, h]
theorem setOk_s {p : List Int} {n k : Int} (h : shiftOk p n = false) : setOk p n k = false := by simp [setOk, h]
theorem setOk_at {p : List Int} {n k : Int} {j : Nat} (hj : j < (shiftL p n).length) (h : colOfOk (at_ (shiftL p n) j) k = false) : setOk p n k = false := by
  have : colsOk (shiftL p n) k = false := allNot (p := fun d => colOfOk d k) hj h
  simp [setOk, this]
theorem setOk_yes {p : List Int} {n k : Int} (hs : shiftOk p n = true) (h : ∀ j, j < (shiftL p n).length → colOfOk (at_ (shiftL p n) j) k = true) : setOk p n k = true := by
  have : colsOk (shiftL p n) k = true := allTo (p := fun d => colOfOk d k) h
  simp [setOk, this, hs]
theorem setOk_w {p : List Int} {n k : Int} (h : inB k 1 12 = false) (hs : 0 < (shiftL p n).length) : setOk p n k = false := setOk_at hs (colOfOk_out _ h)
theorem shiftL_len {p : List Int} {n : Int} : (shiftL p n).length ≤ 7 ∧ (shiftOk p n = true → 1 ≤ (shiftL p n).length) := by
  by_cases h : argOk p n = true
  · rw [(shift_yes h).1, (shift_yes h).2]
    cases hq : polyOk (shiftI p n)
    · rw [chkL_no hq]; exact ⟨by simp, fun e => by cases e⟩
    · rw [chkL_yes hq]
      obtain ⟨h1, h7, -⟩ := polyOk_true.1 hq
      exact ⟨h7, fun _ => h1⟩
  · have h' : argOk p n = false := by rw [Bool.eq_false_iff]; exact h
    rw [(shift_no h').1, (shift_no h').2]; exact ⟨by simp, fun e => by cases e⟩
set_option maxHeartbeats 4000000 in
theorem implSetUp_any (v : Value) (p : List Int) (n k : Int) (w : World) (hv : Ints w v p) (hn : -9223372036854775808 ≤ n ∧ n ≤ 9223372036854775807) :
    Calls Tryz.prog 24 #[v, .int .i64 n, .int .i64 k] w (EngB w (setE p n k) (setOk p n k)) := by
  have HV := Lib.hid hv
  obtain ⟨A, c, rfl, -, -, -⟩ := hv.open_
  clear hv
  have B0 := Lib.hid (bel_alloc w (.cells #[.slice none 0 0] 48))
  have K0 := Blk.new' w 48 (.slice none 0 0) w.heap.size rfl
  go_enter Tryz.func24, Tryz.ntmps24
  go_wp2_with fail
  generalize hW : w.alloc (.cells #[.slice none 0 0] 48) = W at *
  have hwz : W.heap.size = w.heap.size + 1 := by rw [← hW]; simp
  clear hW
  refine (implShift_any _ p n _ (HV.out.bel B0.out) hn).mono ?_
  rintro e w2 ⟨r, rfl, o1, b1⟩
  have k0 := K0.lt
  have hz2 := b1.size
  replace K0 := K0.below b1 K0.lt
  have H1 := Lib.hid (And.intro o1 (bel_trans B0.out b1))
  have LL := Lib.hid (shiftL_len (p := p) (n := n))
  obtain ⟨A1, c1, rfl, hlc, hc1, hrd⟩ := o1.ints.open_
  clear o1 b1
  obtain ⟨e0, f0⟩ := K0.one
  cases hs : shiftOk p n
  · have HN := Lib.hid (And.intro (setOk_s (k := k) hs) (set_no (setOk_s (k := k) hs)))
    go_wp2
    refine bodyPost_ret (v := .tuple #[.agg #[.slice none 0 0], .bool false]) (by simp [results, Tryz.results24, go_sem, e0]) rfl ⟨.slice none 0 0, by rw [HN.out.1], ?_, ?_⟩
    · rw [HN.out.2]; exact OwnS.nil_ _ _
    · exact H1.out.2.setCell (by simp) _
  · have HS := Lib.hid hs
    have l7 := LL.out.1
    obtain ⟨m, hm⟩ : ∃ m, m = (shiftL p n).length := ⟨_, rfl⟩
    rw [← hm] at hlc l7 ⊢
    have hmk := fun W => Tryz.mkStrs m (by omega) W
    have HM := Lib.hid hm
    have HR := Lib.hid hrd
    clear hm hs hrd
    go_wp2_with fail
    go_loopw [27] (fun i wr => ∃ (j : Nat) (cs : List Value), j ≤ m ∧ i = .int .i64 j ∧ Blk wr w2.heap.size 9 cs ∧ cs.length = m ∧ (∀ a, a < j → cs[a]? = some (.string (colOfS (at_ (shiftL p n) a) k)) ∧ colOfOk (at_ (shiftL p n) a) k = true) ∧ Blk wr w.heap.size 48 [.slice none 0 0] ∧ Below w2.heap.size w2 wr)
      (fun i _ => m - (intOf i).toNat)
    case atStart => exact ⟨0, _, Nat.zero_le _, rfl, Blk.new _ _ _, reps_length _ _, fun a ha => absurd ha (by omega), K0.alloc _, bel_alloc _ _⟩
    case round =>
      clear K0 e0 f0
      obtain ⟨j, cs, hj, rfl, hblk, hcl, hcs, K0, hbel⟩ := hrel
      have HO := Lib.hid (And.intro hcl (And.intro hcs hbel))
      have hz := hbel.size
      clear hcl hcs
      by_cases hlt : j < m
      · obtain ⟨b, o, rfl, hb, hcell⟩ := HR.out.ints (by rw [← HM.out]; omega)
        have ck : wr.cell? ⟨b, o + j, none⟩ = some (.int .i64 (at_ (shiftL p n) j)) := (hbel.cell (by exact hb)).trans (hcell j (by rw [← HM.out]; exact hlt))
        have hwf := H1.out.1.ints.2.at (shiftL p n) j
        clear hbel hcell
        go_wp2_with fail
        refine (implColOf_any (at_ (shiftL p n) j) k _ hwf).mono ?_
        rintro e w4 ⟨rfl, b4⟩
        have k0' := K0.lt
        replace K0 := K0.below b4 K0.lt
        replace hblk := hblk.below b4 hblk.lt
        have H4 := Lib.hid (bel_trans HO.out.2.2 b4)
        clear b4 ck
        obtain ⟨e0, f0⟩ := K0.one
        have c3 : w4.cell? ⟨w2.heap.size, j, none⟩ = some (cs[j]'(by rw [HO.out.1]; exact hlt)) := by rw [hblk.cell]; exact List.getElem?_eq_getElem _
        have hfw := hblk.frozen j
        have Kg := hblk.set_ j (.string (colOfS (at_ (shiftL p n) j) k))
        have Kf := K0.far (p := ⟨w2.heap.size, j, none⟩) (by show w.heap.size ≠ w2.heap.size; omega) (.string (colOfS (at_ (shiftL p n) j) k))
        have e0' : (w4.setCell ⟨w2.heap.size, j, none⟩ (.string (colOfS (at_ (shiftL p n) j) k))).cell? ⟨w.heap.size, 0, none⟩ = some (.slice none 0 0) := Kf.one.1
        have HB := Lib.hid (H4.out.setCell (p := ⟨w2.heap.size, j, none⟩) (Nat.le_refl _) (.string (colOfS (at_ (shiftL p n) j) k)))
        cases hco : colOfOk (at_ (shiftL p n) j) k
        · have hno := setOk_at (p := p) (n := n) (k := k) (j := j) (by rw [← HM.out]; exact hlt) hco
          have HN := Lib.hid (And.intro hno (set_no hno))
          clear hno
          go_wp2
          refine bodyPost_ret (v := .tuple #[.agg #[.slice none 0 0], .bool false]) (by simp [results, Tryz.results24, go_sem, e0, e0']) rfl ⟨.slice none 0 0, by rw [HN.out.1], ?_, ?_⟩
          · rw [HN.out.2]; exact OwnS.nil_ _ _
          · exact (bel_trans H1.out.2 HB.out).setCell (by simp) _
        · have HCO := Lib.hid hco
          clear hco
          go_wp2
          go_roundw
          case rel => exact ⟨j + 1, _, by omega, by go_num, Kg, by rw [List.length_set]; exact HO.out.1, fun a ha => by
            by_cases e : a = j
            · subst e; exact ⟨by rw [List.getElem?_set_self (by rw [HO.out.1]; exact hlt)], HCO.out⟩
            · rw [List.getElem?_set_ne (by omega)]; exact HO.out.2.1 a (by omega), Kf, HB.out⟩
          case measure => simp [intOf]; omega
      · have hnl : j = m := by omega
        subst hnl
        have hyes := setOk_yes (k := k) HS.out (fun a ha => (HO.out.2.1 a (by rw [← HM.out] at ha; exact ha)).2)
        have HN := Lib.hid (And.intro hyes (set_yes hyes))
        have OW := Lib.hid (own_genS (f := fun a => colOfS (at_ (shiftL p n) a) k) (show w.heap.size + 1 ≤ w2.heap.size by omega) hblk HO.out.1 (by omega) (fun a ha => (HO.out.2.1 a ha).1) (fun a ha => by have := colOfS_size (at_ (shiftL p n) a) k; omega))
        obtain ⟨e0, f0⟩ := K0.one
        clear hbel hyes
        go_wp2
        refine bodyPost_ret (v := .tuple #[.agg #[.slice (some ⟨w2.heap.size, 0, none⟩) j j], .bool true]) (by simp [results, Tryz.results24, go_sem, e0]) rfl ⟨_, by rw [HN.out.1], ?_, ?_⟩
        · rw [HN.out.2, ← HM.out]; exact (OW.out.setCell _ _ (by simp)).lower (by omega)
        · exact (bel_trans H1.out.2 HO.out.2.2).setCell (by simp) _

set_option maxHeartbeats 4000000 in
theorem specSetUp_any (v : Value) (p : List Int) (n k : Int) (w : World) (hv : Ints w v p) (hn : -9223372036854775808 ≤ n ∧ n ≤ 9223372036854775807) :
    Calls Tryz.prog 25 #[v, .int .i64 n, .int .i64 k] w (EngB w (setE p n k) (setOk p n k)) := by
  have HV := Lib.hid hv
  obtain ⟨A, c, rfl, -, -, -⟩ := hv.open_
  clear hv
  have B0 := Lib.hid (bel_alloc w (.cells #[.slice none 0 0] 48))
  have K0 := Blk.new' w 48 (.slice none 0 0) w.heap.size rfl
  go_enter Tryz.func25, Tryz.ntmps25
  go_wp2_with fail
  generalize hW : w.alloc (.cells #[.slice none 0 0] 48) = W at *
  have hwz : W.heap.size = w.heap.size + 1 := by rw [← hW]; simp
  clear hW
  refine (specShift_any _ p n _ (HV.out.bel B0.out) hn).mono ?_
  rintro e w2 ⟨r, rfl, o1, b1⟩
  have k0 := K0.lt
  have hz2 := b1.size
  replace K0 := K0.below b1 K0.lt
  have H1 := Lib.hid (And.intro o1 (bel_trans B0.out b1))
  have LL := Lib.hid (shiftL_len (p := p) (n := n))
  obtain ⟨A1, c1, rfl, hlc, hc1, hrd⟩ := o1.ints.open_
  clear o1 b1
  obtain ⟨e0, f0⟩ := K0.one
  cases hs : shiftOk p n
  · have HN := Lib.hid (And.intro (setOk_s (k := k) hs) (set_no (setOk_s (k := k) hs)))
    go_wp2
    refine bodyPost_ret (v := .tuple #[.agg #[.slice none 0 0], .bool false]) (by simp [results, Tryz.results25, go_sem, e0]) rfl ⟨.slice none 0 0, by rw [HN.out.1], ?_, ?_⟩
    · rw [HN.out.2]; exact OwnS.nil_ _ _
    · exact H1.out.2.setCell (by simp) _
  · have HS := Lib.hid hs
    clear hs
    cases hw : inB k 1 12
    · have hno := setOk_w (p := p) (n := n) hw (LL.out.2 HS.out)
      have HN := Lib.hid (And.intro hno (set_no hno))
      clear hno
      go_wp2_with (go_at_call 82; refine (l1Width_any _ _).mono ?_; rintro e w' ⟨rfl, rfl⟩)
      refine bodyPost_ret (v := .tuple #[.agg #[.slice none 0 0], .bool false]) (by simp [results, Tryz.results25, go_sem, e0]) rfl ⟨.slice none 0 0, by rw [HN.out.1], ?_, ?_⟩
      · rw [HN.out.2]; exact OwnS.nil_ _ _
      · exact H1.out.2.setCell (by simp) _
    · have l7 := LL.out.1
      obtain ⟨m, hm⟩ : ∃ m, m = (shiftL p n).length := ⟨_, rfl⟩
      rw [← hm] at hlc l7 ⊢
      have HM := Lib.hid hm
      have HR := Lib.hid hrd
      clear hm hrd
      go_wp2_with fail
      refine (l1Width_any _ _).mono ?_
      rintro e w3 ⟨rfl, rfl⟩
      rw [hw]
      clear hw e0 f0
      have KE := (Blk.new' w2 48 (.slice none 0 0) w2.heap.size rfl)
      have hbE := bel_alloc w2 (.cells #[.slice none 0 0] 48)
      have zE : (w2.alloc (.cells #[.slice none 0 0] 48)).heap.size = w2.heap.size + 1 := by simp
      replace K0 := K0.alloc (.cells #[.slice none 0 0] 48)
      go_wp2_with fail
      generalize hW3 : w2.alloc (.cells #[.slice none 0 0] 48) = W3 at *
      clear hW3
      go_loopw [11] (fun i wr => ∃ (j : Nat) (x : Value), j ≤ m ∧ i = .int .i64 j ∧ OwnS wr (w2.heap.size + 1) x (colsTo (shiftL p n) k j) ∧ (∀ a, a < j → colOfOk (at_ (shiftL p n) a) k = true) ∧ Blk wr w2.heap.size 48 [x] ∧ Blk wr w.heap.size 48 [.slice none 0 0] ∧ Below w2.heap.size w2 wr ∧ W3.heap.size ≤ wr.heap.size)
        (fun i _ => m - (intOf i).toNat)
      case atStart => exact ⟨0, .slice none 0 0, Nat.zero_le _, rfl, OwnS.nil_ _ _, fun a ha => absurd ha (by omega), KE, K0, hbE, Nat.le_refl _⟩
      case round =>
        clear K0 KE hbE
        obtain ⟨j, x, hj, rfl, hox, hall, KE, K0, hbel, hz3⟩ := hrel
        have HO := Lib.hid (And.intro hox (And.intro hall hbel))
        obtain ⟨Ax, cx, rfl, -, -, -⟩ := hox.strs.open_
        have hz := hbel.size
        clear hox hall
        have hxl := Lib.hid (colsTo_length (shiftL p n) k j)
        by_cases hlt : j < m
        · obtain ⟨b, o, rfl, hb, hcell⟩ := HR.out.ints (by rw [← HM.out]; omega)
          have ck : wr.cell? ⟨b, o + j, none⟩ = some (.int .i64 (at_ (shiftL p n) j)) := (hbel.cell (by exact hb)).trans (hcell j (by rw [← HM.out]; exact hlt))
          have hwf := H1.out.1.ints.2.at (shiftL p n) j
          clear hbel hcell
          go_wp2_with fail
          refine (specColOf_any (at_ (shiftL p n) j) k _ hwf).mono ?_
          rintro e w4 ⟨rfl, b4⟩
          have z4 := b4.size
          have k0' := K0.lt
          have kE' := KE.lt
          replace K0 := K0.below b4 K0.lt
          replace KE := KE.below b4 KE.lt
          have H4 := Lib.hid (And.intro (HO.out.1.bel b4) (bel_trans HO.out.2.2 b4))
          clear b4 ck
          obtain ⟨e0, f0⟩ := K0.one
          obtain ⟨e1, f1⟩ := KE.one
          cases hco : colOfOk (at_ (shiftL p n) j) k
          · have hno := setOk_at (p := p) (n := n) (k := k) (j := j) (by rw [← HM.out]; exact hlt) hco
            have HN := Lib.hid (And.intro hno (set_no hno))
            clear hno
            go_wp2
            refine bodyPost_ret (v := .tuple #[.agg #[.slice none 0 0], .bool false]) (by simp [results, Tryz.results25, go_sem, e0]) rfl ⟨.slice none 0 0, by rw [HN.out.1], ?_, ?_⟩
            · rw [HN.out.2]; exact OwnS.nil_ _ _
            · exact (bel_trans H1.out.2 H4.out.2).setCell (by simp) _
          · have HCO := Lib.hid hco
            have hsz := colOfS_size (at_ (shiftL p n) j) k
            obtain ⟨cc, hcc⟩ : ∃ cc, cc = colOfS (at_ (shiftL p n) j) k := ⟨_, rfl⟩
            rw [← hcc] at hsz ⊢
            have HCC := Lib.hid hcc
            clear hco hcc
            go_wp2_with (at_builtin; go_must (refine app_str rfl (.tmp 48) (.tmp 50) (by rfl) (w2.heap.size + 1) _ (colsTo (shiftL p n) k j) (by rfl) (by exact H4.out.1.bel (bel_alloc _ _)) _ _ cc (by rfl) (by exact new_cell _ _ _) (by omega) (by rw [hxl.out]; omega) (by simp; omega) ?_; intro v5 w5 ho5 hg5 hat5; have hox := H4.out.1; have K0' := (K0.alloc (.cells #[.string cc] 9)).grown hg5 (fun e => by have := (hox.lt _ e.symm).1; omega); have KE' := (KE.alloc (.cells #[.string cc] 9)).grown hg5 (fun e => by have := (hox.lt _ e.symm).1; omega); have B5 := (bel_trans H4.out.2 (bel_alloc w4 (.cells #[.string cc] 9))).trans (below_own (base := w2.heap.size) hg5 (by simp; omega) (fun q hq => by have := (hox.lt q hq).1; omega)); have z5 := hg5.size; simp at z5; clear hox; obtain ⟨A5, c5, hv5, -, -, -⟩ := ho5.strs.open_; rw [show (colsTo (shiftL p n) k j ++ [cc]).length = j + 1 by rw [List.length_append, hxl.out]; rfl] at hv5; subst hv5; have H5 := Lib.hid (And.intro ho5 B5); clear ho5 B5 hg5 hat5 K0 KE e0 f0 e1 f1; obtain ⟨e1', f1'⟩ := KE'.one))
            go_roundw
            case rel =>
              refine ⟨j + 1, .slice A5 (j + 1) c5, by omega, by go_num, ?_, fun a ha => ?_, KE'.set_ 0 _, K0'.far (by show w.heap.size ≠ w2.heap.size; omega) _, H5.out.2.setCell (by show w2.heap.size ≤ w2.heap.size; omega) _, by simp; omega⟩
              · rw [colsTo_succ, ← HCC.out]; exact H5.out.1.setCell _ _ (by show w2.heap.size < w2.heap.size + 1; omega)
              · by_cases e : a = j
                · subst e; exact HCO.out
                · exact HO.out.2.1 a (by omega)
            case measure => simp [intOf]; omega
        · have hnl : j = m := by omega
          subst hnl
          have hyes := setOk_yes (k := k) HS.out (fun a ha => HO.out.2.1 a (by rw [← HM.out] at ha; exact ha))
          have HN := Lib.hid (And.intro hyes (set_yes hyes))
          obtain ⟨e0, f0⟩ := K0.one
          obtain ⟨e1, f1⟩ := KE.one
          clear hbel hyes
          go_wp2
          refine bodyPost_ret (v := .tuple #[.agg #[.slice Ax (colsTo (shiftL p n) k j).length cx], .bool true]) (by simp [results, Tryz.results25, go_sem, e0]) rfl ⟨_, by rw [HN.out.1], ?_, ?_⟩
          · rw [HN.out.2, ← HM.out]; exact (HO.out.1.setCell _ _ (by simp; omega)).lower (by omega)
          · exact (bel_trans H1.out.2 HO.out.2.2).setCell (by simp) _

-- CapacityOf
/-- the index of the first number that has no column. -/
def firstBad (l : List Int) (k : Int) : Nat := (l.takeWhile fun d => colOfOk d k).length
theorem firstBad_at {l : List Int} {k : Int} {j : Nat} (hj : j < l.length) (ha : ∀ a, a < j → colOfOk (at_ l a) k = true) (h : colOfOk (at_ l j) k = false) : firstBad l k = j := by
  unfold firstBad
  induction l generalizing j with
  | nil => simp at hj
  | cons x l ih =>
    cases j with
    | zero =>
      have h' : colOfOk x k = false := h
      simp [h']
    | succ j =>
      have h0 : colOfOk x k = true := ha 0 (by omega)
      rw [List.takeWhile_cons, if_pos h0, List.length_cons, ih (j := j) (by simpa using hj) (fun a hh => ha (a + 1) (by omega)) h]
theorem firstBad_all {l : List Int} {k : Int} (ha : ∀ a, a < l.length → colOfOk (at_ l a) k = true) : firstBad l k = l.length := by
  unfold firstBad
  induction l with
  | nil => rfl
  | cons x l ih =>
    have h0 : colOfOk x k = true := ha 0 (by simp)
    rw [List.takeWhile_cons, if_pos h0, List.length_cons, List.length_cons, ih (fun a hh => ha (a + 1) (by simpa using hh))]
def capI (p : List Int) (a k c : Int) : Int := if (valOk p a c && inB k 1 12) = true then (firstBad (valL p a c) k : Int) else -1
theorem cap_no {p : List Int} {a k c : Int} (h : valOk p a c = false ∨ inB k 1 12 = false) : capI p a k c = -1 := by
  unfold capI
  rw [if_neg]
  rcases h with h | h <;> simp [h]
theorem cap_yes {p : List Int} {a k c : Int} (h : valOk p a c = true) (h2 : inB k 1 12 = true) : capI p a k c = (firstBad (valL p a c) k : Int) := by simp [capI, h, h2]
theorem valL_len (p : List Int) (a c : Int) : (valL p a c).length ≤ 60 := by
  unfold valL
  split
  · rename_i h
    have := valOk_true.1 h
    rw [gen_length]; omega
  · simp

set_option maxHeartbeats 2000000 in
theorem implCap_any (v : Value) (p : List Int) (a k c : Int) (w : World) (hv : Ints w v p) (ha : -9223372036854775808 ≤ a ∧ a ≤ 9223372036854775807) (hc : -9223372036854775808 ≤ c ∧ c ≤ 9223372036854775807) :
    Calls Tryz.prog 122 #[v, .int .i64 a, .int .i64 k, .int .i64 c] w fun e w' => e = .returned (.int .i64 (capI p a k c)) ∧ Below w.heap.size w w' := by
  go_enter Tryz.func122, Tryz.ntmps122
  go_wp2_with fail
  refine (implValues_any v p a c _ hv ha hc).mono ?_
  rintro e w2 ⟨r, rfl, o1, b1⟩
  have H1 := Lib.hid (And.intro o1 b1)
  have l60 := valL_len p a c
  obtain ⟨A1, c1, rfl, hlc, hc1, hrd⟩ := o1.ints.open_
  clear o1 b1
  cases hs : valOk p a c
  · have HN := Lib.hid (cap_no (k := k) (.inl hs))
    go_wp2_with (go_at_call 142; refine (widthValid_any _ _).mono ?_; rintro e w' ⟨rfl, rfl⟩)
    go_ret
    exact ⟨by rw [HN.out]; rfl, H1.out.2⟩
  · cases hw : inB k 1 12
    · have HN := Lib.hid (cap_no (p := p) (a := a) (c := c) (.inr hw))
      go_wp2_with (go_at_call 142; refine (widthValid_any _ _).mono ?_; rintro e w' ⟨rfl, rfl⟩)
      go_ret
      exact ⟨by rw [HN.out]; rfl, H1.out.2⟩
    · have HN := Lib.hid (cap_yes hs hw)
      go_wp2_with fail
      refine (widthValid_any _ _).mono ?_
      rintro e w3 ⟨rfl, rfl⟩
      rw [hw]
      obtain ⟨m, hm⟩ : ∃ m, m = (valL p a c).length := ⟨_, rfl⟩
      rw [← hm] at hlc l60 ⊢
      have HM := Lib.hid hm
      have HR := Lib.hid hrd
      clear hm hrd hs hw
      go_wp2_with fail
      go_loopw [31] (fun i wr => ∃ j : Nat, j ≤ m ∧ i = .int .i64 j ∧ (∀ q, q < j → colOfOk (at_ (valL p a c) q) k = true) ∧ Below w2.heap.size w2 wr) (fun i _ => m - (intOf i).toNat)
      case atStart => exact ⟨0, Nat.zero_le _, rfl, fun q hq => absurd hq (by omega), Below.refl _ _⟩
      case round =>
        obtain ⟨j, hj, rfl, hall, hbel⟩ := hrel
        have HO := Lib.hid (And.intro hall hbel)
        clear hall
        by_cases hlt : j < m
        · obtain ⟨b, o, rfl, hb, hcell⟩ := HR.out.ints (by rw [← HM.out]; omega)
          have ck : wr.cell? ⟨b, o + j, none⟩ = some (.int .i64 (at_ (valL p a c) j)) := (hbel.cell (by exact hb)).trans (hcell j (by rw [← HM.out]; exact hlt))
          have hwf := H1.out.1.ints.2.at (valL p a c) j
          clear hbel hcell
          go_wp2_with fail
          refine (implColOf_any (at_ (valL p a c) j) k _ hwf).mono ?_
          rintro e w4 ⟨rfl, b4⟩
          have H4 := Lib.hid (bel_trans HO.out.2 b4)
          clear b4 ck
          cases hco : colOfOk (at_ (valL p a c) j) k
          · have HF := Lib.hid (firstBad_at (by rw [← HM.out]; exact hlt) HO.out.1 hco)
            go_wp2
            go_ret
            exact ⟨by rw [HN.out, HF.out]; rfl, bel_trans H1.out.2 H4.out⟩
          · have HCO := Lib.hid hco
            clear hco
            go_wp2
            go_roundw
            case rel => exact ⟨j + 1, by omega, by go_num, toSucc HO.out.1 HCO.out, H4.out⟩
            case measure => simp [intOf]; omega
        · have hnl : j = m := by omega
          subst hnl
          have HF := Lib.hid (firstBad_all (fun q hq => HO.out.1 q (by rw [← HM.out] at hq; exact hq)))
          clear hbel
          go_wp2
          go_ret
          exact ⟨by rw [HN.out, HF.out, ← HM.out]; rfl, bel_trans H1.out.2 HO.out.2⟩

set_option maxHeartbeats 2000000 in
theorem specCap_any (v : Value) (p : List Int) (a k c : Int) (w : World) (hv : Ints w v p) (ha : -9223372036854775808 ≤ a ∧ a ≤ 9223372036854775807) (hc : -9223372036854775808 ≤ c ∧ c ≤ 9223372036854775807) :
    Calls Tryz.prog 177 #[v, .int .i64 a, .int .i64 k, .int .i64 c] w fun e w' => e = .returned (.int .i64 (capI p a k c)) ∧ Below w.heap.size w w' := by
  go_enter Tryz.func177, Tryz.ntmps177
  go_wp2_with fail
  refine (specValues_any v p a c _ hv ha hc).mono ?_
  rintro e w2 ⟨r, rfl, o1, b1⟩
  have H1 := Lib.hid (And.intro o1 b1)
  have l60 := valL_len p a c
  obtain ⟨A1, c1, rfl, hlc, hc1, hrd⟩ := o1.ints.open_
  clear o1 b1
  cases hs : valOk p a c
  · have HN := Lib.hid (cap_no (k := k) (.inl hs))
    go_wp2_with (go_at_call 82; refine (l1Width_any _ _).mono ?_; rintro e w' ⟨rfl, rfl⟩)
    go_ret
    exact ⟨by rw [HN.out]; rfl, H1.out.2⟩
  · cases hw : inB k 1 12
    · have HN := Lib.hid (cap_no (p := p) (a := a) (c := c) (.inr hw))
      go_wp2_with (go_at_call 82; refine (l1Width_any _ _).mono ?_; rintro e w' ⟨rfl, rfl⟩)
      go_ret
      exact ⟨by rw [HN.out]; rfl, H1.out.2⟩
    · have HN := Lib.hid (cap_yes hs hw)
      have hw' := inB_true.1 hw
      go_wp2_with fail
      refine (l1Width_any _ _).mono ?_
      rintro e w3 ⟨rfl, rfl⟩
      rw [hw]
      obtain ⟨k, rfl⟩ : ∃ q : Nat, k = q := ⟨k.toNat, by omega⟩
      obtain ⟨m, hm⟩ : ∃ m, m = (valL p a c).length := ⟨_, rfl⟩
      rw [← hm] at hlc l60 ⊢
      have HM := Lib.hid hm
      have HR := Lib.hid hrd
      clear hm hrd hs hw
      go_wp2_with fail
      go_loopw [11] (fun i wr => ∃ j : Nat, j ≤ m ∧ i = .int .i64 j ∧ (∀ q, q < j → colOfOk (at_ (valL p a c) q) k = true) ∧ Below w2.heap.size w2 wr) (fun i _ => m - (intOf i).toNat)
      case atStart => exact ⟨0, Nat.zero_le _, rfl, fun q hq => absurd hq (by omega), Below.refl _ _⟩
      case round =>
        obtain ⟨j, hj, rfl, hall, hbel⟩ := hrel
        have HO := Lib.hid (And.intro hall hbel)
        clear hall
        by_cases hlt : j < m
        · obtain ⟨b, o, rfl, hb, hcell⟩ := HR.out.ints (by rw [← HM.out]; omega)
          have ck : wr.cell? ⟨b, o + j, none⟩ = some (.int .i64 (at_ (valL p a c) j)) := (hbel.cell (by exact hb)).trans (hcell j (by rw [← HM.out]; exact hlt))
          have p2 : (j : Int) < (m : Int) := by omega
          have p3 : (0 : Int) ≤ (j : Int) := by omega
          have HE := Lib.hid (colOfOk_nat (at_ (valL p a c) j) (show 1 ≤ k ∧ k ≤ 12 by omega))
          clear hbel hcell
          cases hco : fits (at_ (valL p a c) j) k
          · have HF := Lib.hid (firstBad_at (by rw [← HM.out]; exact hlt) HO.out.1 (HE.out.trans hco))
            go_wp2_with (go_at_call 153; refine (l1Fits_any _ k _ (by omega)).mono ?_; rintro e w' ⟨rfl, rfl⟩)
            go_ret
            exact ⟨by rw [HN.out, HF.out]; rfl, bel_trans H1.out.2 HO.out.2⟩
          · have HCO := Lib.hid hco
            go_wp2_with (go_at_call 153; refine (l1Fits_any _ k _ (by omega)).mono ?_; rintro e w' ⟨rfl, rfl⟩)
            go_roundw
            case rel => exact ⟨j + 1, by omega, by go_num, toSucc HO.out.1 (HE.out.trans HCO.out), HO.out.2⟩
            case measure => simp [intOf]; omega
        · have hnl : j = m := by omega
          subst hnl
          have HF := Lib.hid (firstBad_all (fun q hq => HO.out.1 q (by rw [← HM.out] at hq; exact hq)))
          have p2 : ¬ (j : Int) < (j : Int) := by omega
          clear hbel
          go_wp2
          go_ret
          exact ⟨by rw [HN.out, HF.out, ← HM.out]; rfl, bel_trans H1.out.2 HO.out.2⟩

end Go.Proofs.YtpniljcnknknoaaGreatDoor
