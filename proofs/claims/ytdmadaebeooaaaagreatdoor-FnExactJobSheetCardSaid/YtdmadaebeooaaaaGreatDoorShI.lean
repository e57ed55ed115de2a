/-
  Sheets: pageExists, entriesOfPage (impl).
-/
import Derived.Test.YtdmadaebeooaaaaGreatDoorShM
namespace Go.Proofs.YtdmadaebeooaaaaGreatDoor
open Go.RowKit
set_option linter.unusedVariables false
set_option linter.unusedSimpArgs false
set_option maxRecDepth 100000
attribute [local go_sem ↓] Go.wp_at_zero Go.wp_at_succ

set_option maxHeartbeats 2000000 in
theorem pgEx_any (R A W M p : Nat) (v : Value) (l : List Int) (w : World) (hv : Ints w v l) (h1 : 1 ≤ R ∧ R ≤ 20) (h2 : 1 ≤ A ∧ A ≤ 6) (h3 : 1 ≤ W ∧ W ≤ 12) (hl : l.length ≤ 60) (hM : R * A = M) (ht : tableOk l = true) (hp : p < pgN l M) :
    Calls Tryz.prog 103 #[.agg #[.int .i64 R, .int .i64 A, .int .i64 W], v, .int .i64 p] w fun e w' => e = .returned (.bool true) ∧ Below w.heap.size w w' := by
  have HV := Lib.hid hv
  have HM := Lib.hid hM
  have hlay := layOk_nat h1 h2 h3
  have hM0 : 0 < M := by rw [← hM]; exact Nat.mul_pos h1.1 h2.1
  have hq60 : pgN l M ≤ 60 := Nat.le_trans (pgN_le hM0) hl
  obtain ⟨q0, hq0⟩ : ∃ q, pgN l M = q := ⟨_, rfl⟩
  rw [hq0] at hp hq60
  have HQ := Lib.hid hq0
  obtain ⟨B, cp, rfl, hlc, hc, hrd⟩ := hv.open_
  have K1 := Blk.new w 30 [.int .i64 R, .int .i64 A, .int .i64 W]
  have B1 := bel_alloc w (.cells #[.int .i64 R, .int .i64 A, .int .i64 W] 30)
  obtain ⟨a0, a1, a2⟩ := K1.lay
  clear hv hrd hM hq0
  go_enter Tryz.func103, Tryz.ntmps103
  go_wp2_with fail
  refine (implLay_any R A W _).mono ?_
  rintro e w2 ⟨rfl, b2⟩
  rw [hlay]
  replace K1 := K1.below b2 K1.lt
  have HB := Lib.hid (bel_trans B1 b2)
  clear a0 a1 a2 b2 B1
  obtain ⟨a0, a1, a2⟩ := K1.lay
  go_wp2_with fail
  refine (implTable_any _ l _ (HV.out.bel HB.out)).mono ?_
  rintro e w3 ⟨rfl, rfl⟩
  rw [ht]
  go_wp2_with fail
  refine (implPN_any R A W l _ h1 h2 h3 hl).mono ?_
  rw [HM.out, HQ.out]
  rintro e w4 ⟨rfl, b4⟩
  have HB4 := Lib.hid (bel_trans HB.out b4)
  clear a0 a1 a2 b4
  go_wp2
  go_ret
  exact ⟨rfl, HB4.out⟩
theorem Ints.midP {w : World} {b o c : Nat} {l : List Int} (h : Ints w (.slice (some ⟨b, o, none⟩) l.length c) l) {lo n : Nat} (hn : lo + n ≤ l.length) : Ints w (.slice (some ⟨b, o + lo, none⟩) n (c - lo)) ((l.drop lo).take n) := by
  obtain ⟨A', c', e, h1, h2, h3⟩ := h.open_
  injection e with e1 _ e3
  subst e1 e3
  have hl : ((l.drop lo).take n).length = n := by rw [List.length_take, List.length_drop]; omega
  refine ⟨⟨some ⟨b, o + lo, none⟩, c - lo, by rw [iv_length, hl], by rw [iv_length, hl]; omega, by unfold maxLen; omega, fun h0 => ?_⟩, fun x hx => h.2 x (List.mem_of_mem_drop (List.mem_of_mem_take hx))⟩
  rw [iv_length, hl] at h0
  obtain ⟨b', o', e', hb, hc⟩ := h3 (by rw [iv_length]; omega)
  injection e' with e'
  injection e' with e1 e2
  subst e1 e2
  refine ⟨b, o + lo, rfl, hb, fun k u hu => ?_⟩
  have hk : k < n := by
    rcases Nat.lt_or_ge k n with q | q
    · exact q
    · rw [List.getElem?_eq_none (by rw [iv_length, hl]; exact q)] at hu; cases hu
  rw [Nat.add_assoc]
  refine hc (lo + k) u ?_
  rw [← hu, iv, iv, List.map_take, List.map_drop, List.getElem?_take, if_pos hk, List.getElem?_drop]

theorem entr_nat {P M L : Nat} (hp : P < L) (hl : L ≤ 60) (hM : M ≤ 120) (h0 : 0 < M) : ∃ hi, min (P + M) L = hi ∧ hi ≤ L ∧ P < hi ∧ P + M ≤ 180 ∧ min ((P : Int) + (M : Int)) (L : Int) = (hi : Int) := ⟨_, rfl, by omega, by omega, by omega, by omega⟩
theorem pgE_mid (l : List Int) (M p : Nat) : pgE l M p = (l.drop (p * M)).take (min (p * M + M) l.length - p * M) := by
  unfold pgE
  rcases Nat.le_total (p * M + M) l.length with h | h
  · rw [Nat.min_eq_left h, Nat.add_sub_cancel_left]
  · rw [Nat.min_eq_right h, List.take_of_length_le (by simp; omega), List.take_of_length_le (by simp)]

set_option maxHeartbeats 2000000 in
theorem entries_any (R A W M p : Nat) (v : Value) (l : List Int) (w : World) (hv : Ints w v l) (h1 : 1 ≤ R ∧ R ≤ 20) (h2 : 1 ≤ A ∧ A ≤ 6) (h3 : 1 ≤ W ∧ W ≤ 12) (hl : l.length ≤ 60) (hM : R * A = M) (hp : p < pgN l M) :
    Calls Tryz.prog 104 #[.agg #[.int .i64 R, .int .i64 A, .int .i64 W], v, .int .i64 p] w fun e w' => ∃ r, e = .returned r ∧ (∀ w0, Ints w0 v l → Ints w0 r (pgE l M p)) ∧ Below w.heap.size w w' := by
  have HV := Lib.hid hv
  have HM := Lib.hid hM
  have hM0 : 0 < M := by rw [← hM]; exact Nat.mul_pos h1.1 h2.1
  have hM1 : M ≤ 120 := by rw [← hM]; exact mul_le_RA h1.2 h2.2
  have hw1 := Lib.hid (wrapMul hM (Nat.le_trans hM1 (by decide)))
  have hp0 := (pgN_iff p hM0).2 hp
  obtain ⟨P, hP⟩ : ∃ P, p * M = P := ⟨_, rfl⟩
  rw [hP] at hp0
  obtain ⟨hi, hhi, hh1, hh2, hPM, hmin⟩ := entr_nat hp0 hl hM1 hM0
  have hw2 := wrapMul hP (Nat.le_trans (Nat.le_add_right _ _) (Nat.le_trans hPM (by decide)))
  have hw3 : wrap64 ((P : Int) + (M : Int)) = (P : Int) + (M : Int) := by
    have e : (P : Int) + (M : Int) = ((P + M : Nat) : Int) := by push_cast; rfl
    rw [e]
    exact IntWalk.wrap64_in _ (by clear hw2 hw1; omega)
  obtain ⟨B, cp, rfl, hlc, hc, hrd⟩ := hv.open_
  obtain ⟨b, o, rfl, hbb, -⟩ := hrd.ints (Nat.lt_of_le_of_lt (Nat.zero_le _) hp0)
  have RI := Lib.hid (show ∀ w0, Ints w0 (.slice (some ⟨b, o, none⟩) l.length cp) l → Ints w0 (.slice (some ⟨b, o + P, none⟩) (hi - P) (cp - P)) (pgE l M p) by
    intro w0 h0
    rw [pgE_mid, hP, hhi]; exact h0.midP (by rw [Nat.add_sub_cancel' (Nat.le_of_lt hh2)]; exact hh1))
  have K1 := Blk.new w 30 [.int .i64 R, .int .i64 A, .int .i64 W]
  have B1 := bel_alloc w (.cells #[.int .i64 R, .int .i64 A, .int .i64 W] 30)
  obtain ⟨a0, a1, a2⟩ := K1.lay
  have HH := Lib.hid hhi
  have HPP := Lib.hid hP
  have HHp := Lib.hid hp
  clear hv hrd hM hp hP hhi
  go_enter Tryz.func104, Tryz.ntmps104
  go_wp2_with fail
  refine (places_any R A W M _ hw1.out).mono ?_
  rintro e w2 ⟨rfl, b2⟩
  replace K1 := K1.below b2 K1.lt
  have HB := Lib.hid (bel_trans B1 b2)
  clear a0 a1 a2 b2 B1
  obtain ⟨a0, a1, a2⟩ := K1.lay
  go_wp2_with fail
  refine (places_any R A W M _ hw1.out).mono ?_
  rintro e w3 ⟨rfl, b3⟩
  have HB3 := Lib.hid (bel_trans HB.out b3)
  clear a0 a1 a2 b3
  go_wp2
  go_ret
  exact ⟨_, rfl, RI.out, HB3.out⟩
end Go.Proofs.YtdmadaebeooaaaaGreatDoor
