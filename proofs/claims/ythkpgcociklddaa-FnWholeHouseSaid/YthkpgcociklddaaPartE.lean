/-
  Contracts of PartEngines (both).
-/
import Derived.Test.YthkpgcociklddaaEngsF
import Derived.Test.YthkpgcociklddaaParts
namespace Go.Proofs.Ythkpgcociklddaa
open Go.RowKit
set_option linter.unusedVariables false
set_option linter.unusedSimpArgs false
set_option maxRecDepth 100000
attribute [local go_sem ↓] Go.wp_at_zero Go.wp_at_succ

/-- Engines of one's own and a bool; engines and a bool. -/
def EngsO (w : World) (ls : List (List ByteArray)) (q : Bool) (e : Ending) (w' : World) : Prop :=
  ∃ r, e = .returned (.tuple #[r, .bool q]) ∧ OwnE w' w.heap.size w'.heap.size r ls ∧ Below w.heap.size w w'
def EngsR (w : World) (ls : List (List ByteArray)) (q : Bool) (e : Ending) (w' : World) : Prop :=
  ∃ r, e = .returned (.tuple #[r, .bool q]) ∧ Engs w' r ls ∧ Below w.heap.size w w'
def allAt (f : Nat → Bool) (n : Nat) : Bool := (List.range n).all f
theorem allAt_true {f : Nat → Bool} {n : Nat} : allAt f n = true ↔ ∀ i, i < n → f i = true := by simp [allAt]
theorem allAt_no {f : Nat → Bool} {n i : Nat} (hi : i < n) (h : f i = false) : allAt f n = false := by
  rw [Bool.eq_false_iff]; intro e; rw [allAt_true.1 e i hi] at h; cases h
theorem genE_succ (f : Nat → List ByteArray) (n : Nat) : genE f (n + 1) = genE f n ++ [f n] := by simp [genE, List.range_succ]
theorem setE_len (p : List Int) (n k : Int) : (setE p n k).length ≤ 7 := by
  unfold setE
  split
  · rw [colsTo_length]; exact shiftL_len.1
  · simp

def peOk (p : List Int) (a : Int) (sz : List Int) (k : Int) : Bool := sizesOk sz && inB a (-200) 200 && allAt (fun i => setOk p (a + sumTo sz i) k) sz.length
def peL (p : List Int) (a : Int) (sz : List Int) (k : Int) : List (List ByteArray) := if peOk p a sz k = true then genE (fun i => setE p (a + sumTo sz i) k) sz.length else []
theorem pe_no {p : List Int} {a : Int} {sz : List Int} {k : Int} (h : sizesOk sz = false ∨ inB a (-200) 200 = false ∨ ∃ i, i < sz.length ∧ setOk p (a + sumTo sz i) k = false) : peOk p a sz k = false ∧ peL p a sz k = [] := by
  have : peOk p a sz k = false := by
    rcases h with h | h | ⟨i, hi, h⟩
    · simp [peOk, h]
    · simp [peOk, h]
    · simp [peOk, allAt_no (f := fun i => setOk p (a + sumTo sz i) k) hi h]
  exact ⟨this, by simp [peL, this]⟩
theorem pe_yes {p : List Int} {a : Int} {sz : List Int} {k : Int} (h1 : sizesOk sz = true) (h2 : inB a (-200) 200 = true) (h3 : ∀ i, i < sz.length → setOk p (a + sumTo sz i) k = true) :
    peOk p a sz k = true ∧ peL p a sz k = genE (fun i => setE p (a + sumTo sz i) k) sz.length := by
  have : peOk p a sz k = true := by simp [peOk, h1, h2, allAt_true.2 h3]
  exact ⟨this, by simp [peL, this]⟩
theorem genE_tot {f : Nat → List ByteArray} {n : Nat} (h : ∀ i, i < n → (f i).length ≤ 7) : ∀ i, i ≤ n → pre (genE f n) i ≤ 7 * i
  | 0 => fun _ => Nat.le_refl _
  | i + 1 => fun hi => by
    have h1 := genE_tot h i (by omega)
    rw [pre_succ, eat_genE (by omega)]
    have := h i (by omega)
    omega
theorem peL_bd (p : List Int) (a : Int) (sz : List Int) (k : Int) : (peL p a sz k).length ≤ 10 ∧ (∀ i, i < (peL p a sz k).length → (eat (peL p a sz k) i).length ≤ 7) ∧ tot_ (peL p a sz k) ≤ 70 := by
  unfold peL
  split
  · rename_i h
    simp only [peOk, Bool.and_eq_true] at h
    have h10 := (sizesOk_true.1 h.1.1).1.2
    refine ⟨by rw [genE_length]; exact h10, fun i hi => ?_, ?_⟩
    · rw [genE_length] at hi
      rw [eat_genE hi]; exact setE_len _ _ _
    · have := genE_tot (f := fun i => setE p (a + sumTo sz i) k) (n := sz.length) (fun i _ => setE_len _ _ _) sz.length (Nat.le_refl _)
      unfold tot_
      rw [genE_length]
      omega
  · exact ⟨by simp, fun i hi => absurd hi (by simp), by show (0 : Nat) ≤ 70; omega⟩

set_option maxHeartbeats 4000000 in
theorem implPE_any (v u : Value) (p : List Int) (a : Int) (sz : List Int) (k : Int) (w : World) (hv : Ints w v p) (hu : Ints w u sz) (hl : sz.length ≤ 1048576) (ha : -9223372036854775808 ≤ a ∧ a ≤ 9223372036854775807) :
    Calls Try.prog 12 #[v, .int .i64 a, u, .int .i64 k] w (EngsO w (peL p a sz k) (peOk p a sz k)) := by
  have HV := Lib.hid (And.intro hv hu)
  obtain ⟨A, c, rfl, -, -, -⟩ := hv.open_
  obtain ⟨B, d, rfl, hsc, hd, hrd⟩ := hu.open_
  have HR := Lib.hid hrd
  clear hv hu hrd
  cases hs : sizesOk sz
  · have HN := Lib.hid (pe_no (p := p) (a := a) (k := k) (.inl hs))
    go_enter Try.func12, Try.ntmps12
    go_wp2_with fail
    refine (sizesValid_any _ sz _ HV.out.2 hl).mono ?_
    rintro e w1 ⟨rfl, rfl⟩
    rw [hs]
    go_wp2
    all_goals
      go_ret2
      exact ⟨_, by rw [HN.out.1]; rfl, by rw [HN.out.2]; exact .inl ⟨rfl, rfl⟩, Below.refl _ _⟩
  · cases hi : inB a (-200) 200
    · have HN := Lib.hid (pe_no (p := p) (sz := sz) (k := k) (.inr (.inl hi)))
      go_enter Try.func12, Try.ntmps12
      go_wp2_with fail
      refine (sizesValid_any _ sz _ HV.out.2 hl).mono ?_
      rintro e w1 ⟨rfl, rfl⟩
      rw [hs]
      go_wp2_with (go_at_call 31; refine (within_any _ _ _ (by omega) (by omega)).mono ?_; rintro e w' ⟨rfl, rfl⟩)
      go_ret2
      exact ⟨_, by rw [HN.out.1]; rfl, by rw [HN.out.2]; exact .inl ⟨rfl, rfl⟩, Below.refl _ _⟩
    · obtain ⟨⟨s1, s10⟩, hsz, -⟩ := sizesOk_true.1 hs
      have hi' := inB_true.1 hi
      have HS := Lib.hid (And.intro hsz (And.intro hs hi))
      have hmk := fun W => Try.mkEngs sz.length hl W
      go_enter Try.func12, Try.ntmps12
      go_wp2_with fail
      refine (sizesValid_any _ sz _ HV.out.2 hl).mono ?_
      rintro e w1 ⟨rfl, rfl⟩
      rw [hs]
      go_wp2_with fail
      refine (within_any _ _ _ (by omega) (by omega)).mono ?_
      rintro e w1 ⟨rfl, rfl⟩
      rw [hi]
      clear hs hi hsz
      go_wp2_with fail
      go_loopw [1, 28] (fun f i wr => ∃ (j : Nat) (cs : List Value), j ≤ sz.length ∧ i = .int .i64 j ∧ f = .int .i64 (a + sumTo sz j) ∧ Blk wr w.heap.size 28 cs ∧ cs.length = sz.length ∧ Rows_ wr (w.heap.size + 1) j cs (genE (fun i => setE p (a + sumTo sz i) k) sz.length) ∧ (∀ i, i < j → setOk p (a + sumTo sz i) k = true) ∧ Below w.heap.size w wr ∧ w.heap.size + 1 ≤ wr.heap.size)
        (fun _ i _ => sz.length - (intOf i).toNat)
      case atStart => exact ⟨0, _, Nat.zero_le _, rfl, by show _ = Value.int .i64 (a + 0); rw [Int.add_zero], Blk.new _ _ _, reps_length _ _, Rows_.zero _ _ _ _, fun i hi => absurd hi (by omega), bel_alloc _ _, by simp⟩
      case round =>
        obtain ⟨j, cs, hj, rfl, rfl, hblk, hcl, hrows, hall, hbel, hz1⟩ := hrel
        have HO := Lib.hid (And.intro hcl (And.intro hrows (And.intro hall hbel)))
        have hsb := sumTo_bd j (fun i hi => HS.out.1 i (by omega))
        clear hcl hrows hall
        by_cases hlt : j < sz.length
        · obtain ⟨b, o, rfl, hbb, hcell⟩ := HR.out.ints (by omega)
          have ck : wr.cell? ⟨b, o + j, none⟩ = some (.int .i64 (at_ sz j)) := (hbel.cell (by exact hbb)).trans (hcell j hlt)
          have hzj := HS.out.1 j hlt
          have hss := Lib.hid (sumTo_succ sz j)
          clear hbel hcell
          go_wp2_with fail
          refine (implSetUp_any _ p (a + sumTo sz j) k _ (HV.out.1.bel HO.out.2.2.2) (by omega)).mono ?_
          rintro e w5 ⟨r, rfl, o5, b5⟩
          obtain ⟨A5, c5, rfl, -, -, -⟩ := o5.strs.open_
          cases hso : setOk p (a + sumTo sz j) k
          · have HN := Lib.hid (pe_no (p := p) (a := a) (sz := sz) (k := k) (.inr (.inr ⟨j, hlt, hso⟩)))
            have HB := Lib.hid (bel_trans (bel_trans HO.out.2.2.2 b5) (bel_alloc w5 (.cells #[.slice A5 (setE p (a + sumTo sz j) k).length c5] 28)))
            clear ck b5 o5
            go_wp2
            go_ret2
            exact ⟨_, by rw [HN.out.1]; rfl, by rw [HN.out.2]; exact .inl ⟨rfl, rfl⟩, HB.out⟩
          · have HSO := Lib.hid hso
            have z5 := b5.size
            have hbx := bel_alloc w5 (.cells #[.slice A5 (setE p (a + sumTo sz j) k).length c5] 28)
            replace hblk := (hblk.below b5 hblk.lt).alloc (.cells #[.slice A5 (setE p (a + sumTo sz j) k).length c5] 28)
            have R5 := Lib.hid ((HO.out.2.1.add b5 (by rw [HO.out.1]; exact hlt) o5 (eat_genE hlt) hz1).bel hbx)
            have B5 := Lib.hid (bel_trans (bel_trans HO.out.2.2.2 b5) hbx)
            clear ck b5 o5 hso hbx
            have c3 : (w5.alloc (.cells #[.slice A5 (setE p (a + sumTo sz j) k).length c5] 28)).cell? ⟨w.heap.size, j, none⟩ = some (cs[j]'(by rw [HO.out.1]; exact hlt)) := by rw [hblk.cell]; exact List.getElem?_eq_getElem _
            have hfw := hblk.frozen j
            go_wp2
            go_roundw
            case rel => exact ⟨j + 1, _, by omega, by go_num, by rw [hss.out, ← Int.add_assoc], hblk.set_ j _, by rw [List.length_set]; exact HO.out.1, R5.out.setCell _ _ (by show w.heap.size < w.heap.size + 1; omega), toSucc HO.out.2.2.1 HSO.out, B5.out.setCell (Nat.le_refl _) _, by simp; omega⟩
            case measure => simp [intOf]; omega
        · have hkl : j = sz.length := by omega
          subst hkl
          have HN := Lib.hid (pe_yes HS.out.2.1 HS.out.2.2 HO.out.2.2.1)
          have OW := Lib.hid (show OwnE wr w.heap.size wr.heap.size (.slice (some ⟨w.heap.size, 0, none⟩) sz.length sz.length) (genE (fun i => setE p (a + sumTo sz i) k) sz.length) by
            have := Rows_.own (ls := genE (fun i => setE p (a + sumTo sz i) k) sz.length) (by rw [genE_length]; exact HO.out.2.1) hblk (by rw [genE_length]; exact HO.out.1) (by rw [genE_length]; exact hl)
            rw [genE_length] at this; exact this)
          clear hbel
          go_wp2
          go_ret2
          exact ⟨_, by rw [HN.out.1]; rfl, by rw [HN.out.2]; exact OW.out, HO.out.2.2.2⟩



end Go.Proofs.Ythkpgcociklddaa
