/-
  Contracts of RunParts (both).
-/
import Derived.Test.YthkpgcociklddaaEngsE
namespace Go.Proofs.Ythkpgcociklddaa
open Go.RowKit
set_option linter.unusedVariables false
set_option linter.unusedSimpArgs false
set_option maxRecDepth 100000
attribute [local go_sem ↓] Go.wp_at_zero Go.wp_at_succ

def sumTo (l : List Int) : Nat → Int
  | 0 => 0
  | k + 1 => sumTo l k + at_ l k
theorem sumTo_succ (l : List Int) (k : Nat) : sumTo l (k + 1) = sumTo l k + at_ l k := rfl
/-- 1 to 10 sizes of parts. -/
def sizesOk (l : List Int) : Bool := inB (l.length : Int) 1 10 && l.all (fun t => inB t 0 60) && decide (sumTo l l.length ≤ 60)
theorem sizesOk_true {l : List Int} : sizesOk l = true ↔ (1 ≤ l.length ∧ l.length ≤ 10) ∧ (∀ k, k < l.length → 0 ≤ at_ l k ∧ at_ l k ≤ 60) ∧ sumTo l l.length ≤ 60 := by
  unfold sizesOk
  rw [Bool.and_eq_true, Bool.and_eq_true, inB_true, List.all_eq_true, decide_eq_true_eq]
  constructor
  · rintro ⟨⟨h1, h2⟩, h3⟩
    exact ⟨by omega, fun k hk => inB_true.1 (h2 _ (at_mem l k hk)), h3⟩
  · rintro ⟨h1, h2, h3⟩
    refine ⟨⟨by omega, fun x hx => ?_⟩, h3⟩
    obtain ⟨k, hk, rfl⟩ := List.getElem_of_mem hx
    have := h2 k hk
    rw [at_eq l k hk] at this
    exact inB_true.2 this
theorem sumTo_mono {l : List Int} (h : ∀ k, k < l.length → 0 ≤ at_ l k) {i j : Nat} (hij : i ≤ j) (hj : j ≤ l.length) : sumTo l i ≤ sumTo l j := by
  induction j with
  | zero => rw [show i = 0 by omega]; exact Int.le_refl _
  | succ j ih =>
    rcases Nat.lt_or_ge i (j + 1) with h1 | h1
    · have := ih (by omega) (by omega)
      have h2 := h j (by omega)
      rw [sumTo_succ]; omega
    · rw [show i = j + 1 by omega]; exact Int.le_refl _
theorem sizesOk_no {l : List Int} (h : ¬ ((1 ≤ l.length ∧ l.length ≤ 10) ∧ (∀ k, k < l.length → 0 ≤ at_ l k ∧ at_ l k ≤ 60) ∧ sumTo l l.length ≤ 60)) : sizesOk l = false := by
  rw [Bool.eq_false_iff]; exact fun e => h (sizesOk_true.1 e)
theorem sumTo_bd {l : List Int} : ∀ k, (∀ i, i < k → 0 ≤ at_ l i ∧ at_ l i ≤ 60) → 0 ≤ sumTo l k ∧ sumTo l k ≤ 60 * (k : Int)
  | 0 => fun _ => ⟨Int.le_refl _, by show (0 : Int) ≤ _; omega⟩
  | k + 1 => fun h => by
    have h1 := sumTo_bd k (fun i hi => h i (by omega))
    have h2 := h k (by omega)
    rw [sumTo_succ]; omega
/-- What a size that is too great says. -/
theorem sizesOk_over {l : List Int} {k : Nat} (hk : k < l.length) (h : at_ l k < 0 ∨ 60 - sumTo l k < at_ l k) : sizesOk l = false := by
  refine sizesOk_no fun ⟨h1, h2, h3⟩ => ?_
  have h4 := h2 k hk
  have h5 := sumTo_mono (fun i hi => (h2 i hi).1) (show k + 1 ≤ l.length by omega) (Nat.le_refl _)
  rw [sumTo_succ] at h5
  omega


set_option maxHeartbeats 2000000 in
theorem sizesValid_any (v : Value) (l : List Int) (w : World) (hv : Ints w v l) (hl : l.length ≤ 1048576) :
    Calls Try.prog 36 #[v] w fun e w' => e = .returned (.bool (sizesOk l)) ∧ w = w' := by
  obtain ⟨A, c, rfl, hlc, hc, hrd⟩ := hv.open_
  by_cases h1 : (l.length : Int) < 1
  · have HN := Lib.hid (sizesOk_no (l := l) (by omega))
    go_enter Try.func36, Try.ntmps36
    go_wp2
    go_ret
    exact ⟨ret_bool HN.out.symm, rfl⟩
  · by_cases h10 : 10 < (l.length : Int)
    · have HN := Lib.hid (sizesOk_no (l := l) (by omega))
      go_enter Try.func36, Try.ntmps36
      go_wp2
      go_ret
      exact ⟨ret_bool HN.out.symm, rfl⟩
    · go_enter Try.func36, Try.ntmps36
      go_wp2_with fail
      go_loop [3, 16] (fun s i => ∃ k : Nat, k ≤ l.length ∧ i = .int .i64 k ∧ s = .int .i64 (sumTo l k) ∧ (∀ j, j < k → inB (at_ l j) 0 60 = true) ∧ sumTo l k ≤ 60) (fun _ i => l.length - (intOf i).toNat)
      case atStart => exact ⟨0, Nat.zero_le _, rfl, rfl, fun j hj => absurd hj (by omega), by show (0 : Int) ≤ 60; omega⟩
      case round =>
        obtain ⟨k, hk, rfl, rfl, hall, h60⟩ := hrel
        have HA := Lib.hid hall
        have hsb := sumTo_bd k (fun i hi => inB_true.1 (hall i hi))
        clear hall
        by_cases hlt : k < l.length
        · obtain ⟨b, o, rfl, hb, hcell⟩ := hrd.ints (by omega)
          have hck := hcell k hlt
          have hss := Lib.hid (sumTo_succ l k)
          have hwf := hv.2.at l k
          clear hcell
          by_cases hneg : at_ l k < 0
          · have HN := Lib.hid (sizesOk_over hlt (.inl hneg))
            go_wp2
            go_ret
            exact ⟨ret_bool HN.out.symm, rfl⟩
          · by_cases hov : 60 - sumTo l k < at_ l k
            · have HN := Lib.hid (sizesOk_over hlt (.inr hov))
              go_wp2
              go_ret
              exact ⟨ret_bool HN.out.symm, rfl⟩
            · have HQ := Lib.hid (inB_true.2 (show 0 ≤ at_ l k ∧ at_ l k ≤ 60 by omega))
              go_wp2
              go_round
              case rel => exact ⟨k + 1, by omega, by go_num, by rw [hss.out], toSucc HA.out HQ.out, by rw [hss.out]; omega⟩
              case measure => simp [intOf]; omega
        · have hkl : k = l.length := by omega
          subst hkl
          have HN := Lib.hid (sizesOk_true.2 (show (1 ≤ l.length ∧ l.length ≤ 10) ∧ _ ∧ _ from ⟨by omega, fun k hk => inB_true.1 (HA.out k hk), h60⟩))
          go_wp2
          go_ret
          exact ⟨ret_bool HN.out.symm, rfl⟩

/-- The results of the first parts. -/
def partsTo (ls : List (List ByteArray)) (sz : List Int) : Nat → List Int
  | 0 => []
  | k + 1 => partsTo ls sz k ++ runL (eat ls k) (at_ sz k)
theorem partsTo_succ (ls : List (List ByteArray)) (sz : List Int) (k : Nat) : partsTo ls sz (k + 1) = partsTo ls sz k ++ runL (eat ls k) (at_ sz k) := rfl
theorem runL_len (l : List ByteArray) (n : Int) : (runL l n).length ≤ 60 := by
  unfold runL
  split
  · rename_i h
    simp only [runOk, Bool.and_eq_true] at h
    have := inB_true.1 h.2
    rw [runS_length]; omega
  · simp
theorem partsTo_len (ls : List (List ByteArray)) (sz : List Int) : ∀ k, (partsTo ls sz k).length ≤ 60 * k
  | 0 => by simp [partsTo]
  | k + 1 => by
    have h1 := partsTo_len ls sz k
    have h2 := runL_len (eat ls k) (at_ sz k)
    rw [partsTo_succ, List.length_append]; omega
def rpOk (ls : List (List ByteArray)) (sz : List Int) : Bool := allOk ls && sizesOk sz && decide (ls.length = sz.length)
def rpL (ls : List (List ByteArray)) (sz : List Int) : List Int := if rpOk ls sz = true then partsTo ls sz ls.length else []
theorem rp_no {ls : List (List ByteArray)} {sz : List Int} (h : allOk ls = false ∨ sizesOk sz = false ∨ ls.length ≠ sz.length) : rpOk ls sz = false ∧ rpL ls sz = [] := by
  have : rpOk ls sz = false := by rcases h with h | h | h <;> simp [rpOk, h]
  exact ⟨this, by simp [rpL, this]⟩
theorem rp_yes {ls : List (List ByteArray)} {sz : List Int} (h1 : allOk ls = true) (h2 : sizesOk sz = true) (h3 : ls.length = sz.length) : rpOk ls sz = true ∧ rpL ls sz = partsTo ls sz ls.length := by
  have : rpOk ls sz = true := by simp [rpOk, h1, h2, h3]
  exact ⟨this, by simp [rpL, this]⟩
theorem rpL_len (ls : List (List ByteArray)) (sz : List Int) : (rpL ls sz).length ≤ 600 := by
  unfold rpL
  split
  · rename_i h
    simp only [rpOk, Bool.and_eq_true] at h
    have := (allOk_true.1 h.1.1).2.1
    have := partsTo_len ls sz ls.length
    omega
  · simp


set_option maxHeartbeats 4000000 in
theorem implParts_any (v u : Value) (ls : List (List ByteArray)) (sz : List Int) (w : World) (hv : Engs w v ls) (hu : Ints w u sz) (hl : sz.length ≤ 1048576) :
    Calls Try.prog 13 #[v, u] w (IntsQ w (rpL ls sz) (rpOk ls sz)) := by
  have HV := Lib.hid (And.intro hv hu)
  obtain ⟨A, cc, xs, rfl, hlc, hc, hrd, hst⟩ := hv.open_
  obtain ⟨B, dd, rfl, -, hd, hrd2⟩ := hu.open_
  have HR := Lib.hid (And.intro hrd (And.intro hst hrd2))
  clear hv hu hrd hst hrd2
  go_enter Try.func13, Try.ntmps13
  go_wp2_with fail
  refine (enginesValid_any _ ls _ HV.out.1).mono ?_
  rintro e w1 ⟨rfl, b1⟩
  have OE := Lib.hid b1
  clear b1
  cases ha : allOk ls
  · have HN := Lib.hid (rp_no (sz := sz) (.inl ha))
    go_wp2
    all_goals
      go_ret2
      exact ⟨_, by rw [HN.out.1]; rfl, by rw [HN.out.2]; exact Own.nil_ _ _, OE.out⟩
  · cases hi : sizesOk sz
    · have HN := Lib.hid (rp_no (ls := ls) (.inr (.inl hi)))
      go_wp2_with (go_at_call 36; refine (sizesValid_any _ sz _ (HV.out.2.bel OE.out) hl).mono ?_; rintro e w' ⟨rfl, rfl⟩)
      go_ret2
      exact ⟨_, by rw [HN.out.1]; rfl, by rw [HN.out.2]; exact Own.nil_ _ _, OE.out⟩
    · by_cases hlen : ls.length = sz.length
      · have HN := Lib.hid (rp_yes ha hi hlen)
        obtain ⟨n1, n10, hok⟩ := allOk_true.1 ha
        obtain ⟨-, hsz, -⟩ := sizesOk_true.1 hi
        have hne : ((ls.length : Int) != (sz.length : Int)) = false := by simp [hlen]
        have HA := Lib.hid (And.intro hok (And.intro hsz hlen))
        go_wp2_with fail
        refine (sizesValid_any _ sz _ (HV.out.2.bel OE.out) hl).mono ?_
        rintro e w2 ⟨rfl, rfl⟩
        rw [hi]
        clear hi ha hok hlen hsz
        go_wp2_with fail
        clear hne
        go_loopw [6, 28] (fun r i wr => ∃ k : Nat, k ≤ ls.length ∧ i = .int .i64 k ∧ Own wr w.heap.size r (partsTo ls sz k) ∧ Below w.heap.size w wr) (fun _ i _ => ls.length - (intOf i).toNat)
        case atStart => exact ⟨0, Nat.zero_le _, rfl, Own.nil_ _ _, OE.out⟩
        case round =>
          clear OE
          obtain ⟨k, hk, rfl, ho, hb⟩ := hrel
          have HO := Lib.hid (And.intro ho hb)
          have hz := hb.size
          clear ho
          by_cases hlt : k < ls.length
          · have hltz : k < sz.length := by have := HA.out.2.2; omega
            obtain ⟨b, o, rfl, hbb, hcell⟩ := HR.out.1 (by omega)
            obtain ⟨b2, o2, rfl, hbb2, hcell2⟩ := HR.out.2.2.ints (by omega)
            have hs := HR.out.2.1 k hlt
            obtain ⟨Ai, ci, hxi, -, -, -⟩ := hs.open_
            have d1 := hcell k hlt
            have d2 := hcell2 k hltz
            rw [hxi] at d1 hs
            have ck : wr.cell? ⟨b, o + k, none⟩ = _ := (hb.cell (by exact hbb)).trans d1
            have ck2 : wr.cell? ⟨b2, o2 + k, none⟩ = _ := (hb.cell (by exact hbb2)).trans d2
            have HS := Lib.hid (hs.bel hb)
            have hszk := HA.out.2.1 k hltz
            have p1 : (k : Int) < (ls.length : Int) := by omega
            have p2 : (k : Int) < (sz.length : Int) := by omega
            have p3 : (0 : Int) ≤ (k : Int) := by omega
            have hbr2 : b2 < wr.heap.size := by omega
            have tok1 : True := trivial
            clear hb hcell hcell2 hs hxi d1 d2
            have KB := Blk.new' wr 28 (.slice Ai (eat ls k).length ci) wr.heap.size rfl
            have bB := bel_alloc wr (.cells #[.slice Ai (eat ls k).length ci] 28)
            go_wp2_with fail
            have ck2b := (bB.cell (p := ⟨b2, o2 + k, none⟩) (by exact hbr2)).trans ck2
            have HSB := Lib.hid (HS.out.bel bB)
            have BB := Lib.hid bB
            have zB := bB.size
            have kbl := KB.lt
            clear ck ck2 bB
            generalize hWB : wr.alloc (.cells #[.slice Ai (eat ls k).length ci] 28) = WB at *
            clear hWB
            obtain ⟨e1, -⟩ := KB.one
            go_region_held3 (fun w' => w'.cell? ⟨wr.heap.size, 0, none⟩ = some (.slice Ai (eat ls k).length ci) ∧ w'.cell? ⟨b2, o2 + k, none⟩ = some (.int .i64 (at_ sz k))) (first | exact ⟨e1, ck2b⟩ | exact ⟨(B5.out.cell (by exact kbl)).trans e1, (B5.out.cell (by show b2 < WB.heap.size; omega)).trans ck2b⟩ | go_keep) (first
              | ((try go_simp); go_at_call 38; have _t := tok1; go_loud (refine (implRun_any _ (eat ls k) (at_ sz k) _ (by first | exact HSB.out | exact HSB.out.bel ((Below.refl _ _).drew) | fail) (by omega)).mono ?_; rintro e w5 ⟨r, rfl, o5, b5⟩; have B5 := Lib.hid (show Below WB.heap.size WB w5 from (by first | exact b5 | exact bel_trans ((Below.refl _ _).drew) b5 | fail)); have O5 := Lib.hid o5.ints; obtain ⟨A5, c5, rfl, -, -, -⟩ := o5.ints.open_; clear tok1 b5 o5; (try dsimp only)))
              | fail)
            all_goals
              clear e1 ck2b
              have OR := Lib.hid (And.intro ((HO.out.1.bel BB.out).bel B5.out) (bel_trans (bel_trans HO.out.2 BB.out) B5.out))
              have hz5 := OR.out.2.size
              have hpl := partsTo_len ls sz k
              have hrl := runL_len (eat ls k) (at_ sz k)
              have HPS := Lib.hid (partsTo_succ ls sz k)
              go_wp2_with (at_builtin; go_must (refine app_ints rfl (.tmp 42) (.tmp 43) (by rfl) w.heap.size _ _ (partsTo ls sz k) (runL (eat ls k) (at_ sz k)) (by rfl) (by exact OR.out.1) (by rfl) (by exact O5.out) (by omega) (by omega) ?_; intro v1 w8 ho hg _))
              go_roundw
              case rel => exact ⟨k + 1, by omega, by go_num, by rw [HPS.out]; exact ho, app_bel OR.out.2 OR.out.1 hg⟩
              case measure => simp [intOf]; omega
          · have hkc : k = ls.length := by omega
            have HKC := Lib.hid hkc
            have hge : ¬ k < sz.length := by have := HA.out.2.2; omega
            clear hb hkc
            go_wp2
            go_ret2
            exact ⟨_, by rw [HN.out.1]; rfl, by rw [HN.out.2, ← HKC.out]; exact HO.out.1, HO.out.2⟩
      · have hne : ((ls.length : Int) != (sz.length : Int)) = true := by simp; omega
        have HN := Lib.hid (rp_no (ls := ls) (sz := sz) (.inr (.inr hlen)))
        go_wp2_with (go_at_call 36; refine (sizesValid_any _ sz _ (HV.out.2.bel OE.out) hl).mono ?_; rintro e w' ⟨rfl, rfl⟩)
        go_ret2
        exact ⟨_, by rw [HN.out.1]; rfl, by rw [HN.out.2]; exact Own.nil_ _ _, OE.out⟩

end Go.Proofs.Ythkpgcociklddaa
