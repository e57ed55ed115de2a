/-
  Contracts of powers of ten, columns' numbers, sums of columns.
-/
import Derived.Test.YtpniljcnknknoaaGreatDoorColPlain
import Derived.Test.YtpniljcnknknoaaGreatDoorMark
namespace Go.Proofs.YtpniljcnknknoaaGreatDoor
open Go.RowKit
set_option linter.unusedVariables false
set_option maxRecDepth 100000
attribute [local go_sem ↓] Go.wp_at_zero Go.wp_at_succ

set_option maxHeartbeats 1000000 in
theorem power_any (k : Nat) (w : World) (hk : k ≤ 12) :
    Calls Tryz.prog 140 #[.int .i64 k] w fun e w' => e = .returned (.int .i64 (ten k)) ∧ w = w' := by
  go_enter Tryz.func140, Tryz.ntmps140
  go_wp2
  go_loop [3, 5] (fun p i => ∃ j : Nat, j ≤ k ∧ i = .int .i64 j ∧ p = .int .i64 (ten j)) (fun _ i => k - (intOf i).toNat)
  case atStart => exact ⟨0, Nat.zero_le _, rfl, rfl⟩
  case round =>
    obtain ⟨j, hj, rfl, rfl⟩ := hrel
    have hb := ten_le (show j ≤ 12 by omega)
    have hs := Lib.hid (ten_succ j)
    by_cases hlt : j < k
    · go_wp2
      go_round
      case rel => exact ⟨j + 1, by omega, by go_num, by rw [hs.out]; go_num⟩
      case measure => simp [intOf]; omega
    · have : j = k := by omega
      subst this
      go_wp2
      go_ret
      exact ⟨rfl, rfl⟩
set_option maxHeartbeats 1000000 in
theorem l1Ten_any (k : Nat) (w : World) (hk : k ≤ 12) :
    Calls Tryz.prog 214 #[.int .i64 k] w fun e w' => e = .returned (.int .i64 (ten k)) ∧ w = w' := by
  go_enter Tryz.func214, Tryz.ntmps214
  go_wp2
  go_loop [3, 4] (fun p i => ∃ j : Nat, j ≤ k ∧ i = .int .i64 j ∧ p = .int .i64 (ten j)) (fun _ i => k - (intOf i).toNat)
  case atStart => exact ⟨0, Nat.zero_le _, rfl, rfl⟩
  case round =>
    obtain ⟨j, hj, rfl, rfl⟩ := hrel
    have hb := ten_le (show j ≤ 12 by omega)
    have hs := Lib.hid (ten_succ j)
    by_cases hlt : j < k
    · go_wp2
      go_round
      case rel => exact ⟨j + 1, by omega, by go_num, by rw [hs.out]; go_num⟩
      case measure => simp [intOf]; omega
    · have : j = k := by omega
      subst this
      go_wp2
      go_ret
      exact ⟨rfl, rfl⟩

theorem tmod_md (n : Int) {M : Nat} (hM : 1 ≤ M) : (n.tmod M = (md n M : Int)) ∨ (n.tmod M = (md n M : Int) - M ∧ (md n M : Int) - M < 0) := by
  have hc := md_cast n hM
  have hl := md_lt n hM
  rcases Int.le_total 0 n with h | h
  · left; rw [hc, Int.tmod_eq_emod_of_nonneg h]
  · by_cases h0 : n % (M : Int) = 0
    · left
      rw [hc, h0]
      exact Int.tmod_eq_zero_of_dvd (Int.dvd_of_emod_eq_zero h0)
    · right
      refine ⟨?_, by omega⟩
      rw [hc, Int.tmod_eq_emod, if_neg]
      · simp
      · rintro (h1 | h1)
        · have : n = 0 := by omega
          subst this; simp at h0
        · exact h0 (Int.emod_eq_zero_of_dvd h1)

set_option maxHeartbeats 1000000 in
theorem modulo_any (n : Int) (M : Nat) (w : World) (hM : 1 ≤ M ∧ M ≤ 1000000000000) :
    Calls Tryz.prog 141 #[.int .i64 n, .int .i64 M] w fun e w' => e = .returned (.int .i64 (md n M)) ∧ w = w' := by
  have hl := md_lt n hM.1
  have h0 : ((M : Nat) : Int) ≠ 0 := by omega
  rcases tmod_md n hM.1 with ht | ⟨ht, hneg⟩
  · have hn : ¬ ((md n M : Nat) : Int) < 0 := by omega
    go_enter Tryz.func141, Tryz.ntmps141
    go_wp2
    go_ret
    exact ⟨rfl, rfl⟩
  · go_enter Tryz.func141, Tryz.ntmps141
    go_wp2
    go_ret
    exact ⟨by go_num, rfl⟩

set_option maxHeartbeats 1000000 in
theorem valueOf_any (s : ByteArray) (w : World) (hs : colOk s = true) :
    Calls Tryz.prog 211 #[.string s] w fun e w' => e = .returned (.int .i64 (cv s)) ∧ w = w' := by
  have hsz := colOk_true hs
  obtain ⟨s1, s2, hd⟩ := hsz
  have HD := Lib.hid hd
  clear hd
  have s3 : s.size ≤ 9223372036854775807 := by omega
  go_enter Tryz.func211, Tryz.ntmps211
  go_wp2_with (go_at_call 210; refine (implCol_any _ _ (by assumption)).mono ?_; rintro e w' ⟨rfl, rfl⟩)
  go_loop [3, 10] (fun v i => ∃ k : Nat, k ≤ s.size ∧ i = .int .i64 k ∧ v = .int .i64 (cvN s k)) (fun _ i => s.size - (intOf i).toNat)
  case atStart => exact ⟨0, Nat.zero_le _, rfl, rfl⟩
  case round =>
    obtain ⟨k, hk, rfl, rfl⟩ := hrel
    have HB := Lib.hid (And.intro (cvN_lt hs k hk) (ten_le (show k ≤ 12 by omega)))
    have hb : cvN s k < 1000000000000 := by have := HB.out; omega
    by_cases hlt : k < s.size
    · have h1 := HD.out k hlt
      rw [bat_eq hlt] at h1
      have HS := Lib.hid (show cvN s (k + 1) = cvN s k * 10 + (((s[k].toNat : Nat) : Int) - 48).toNat by rw [cvN_succ, bat_eq hlt])
      go_wp2
      go_round
      case rel => exact ⟨k + 1, by omega, by go_num, by rw [HS.out]; go_num⟩
      case measure => simp [intOf]; omega
    · have hks : k = s.size := by omega
      subst hks
      go_wp2
      go_ret
      exact ⟨rfl, rfl⟩

theorem Tryz.infoU8 : (Tryz.prog.info? 5).map (fun i => (i.zero, i.size, i.bytes)) = some (some (.int .u8 0), 1, 1) := by kernel_rfl
theorem Tryz.mkBytes (n : Nat) (hn : n ≤ 17592186044416) (W : World) : (Instr.makeSlice 22 (.int .i64 (n : Int)) (.int .i64 (n : Int))).run Tryz.prog W =
    .ok (.slice (some ⟨W.heap.size, 0, none⟩) n n) (W.alloc (.cells (reps n (.int .u8 0)).toArray 5)) :=
  mk_row 22 5 _ 1 Tryz.underlying22 Tryz.infoU8 rfl n (by omega) (by omega) W
theorem Tryz.convBlk (W : World) (g n : Nat) (cs : List Value) (xs : List Int) (hb : Blk W g 5 cs) (hn : xs.length = n) (hcs : ∀ j, j < n → cs[j]? = some (.int .u8 (at_ xs j))) :
    (convert 22 9 (.slice (some ⟨g, 0, none⟩) n n)).run Tryz.prog W = .ok (.string (strOfNums xs)) W :=
  run_convert_bytes_arg (P := Tryz.prog) _ 22 5 Tryz.underlying22 Tryz.underlying5 g 0 n n xs hn (fun i hi => by
    rw [Nat.zero_add, hb.cell, hcs i hi]; rfl) 9 Tryz.underlying9

set_option maxHeartbeats 1000000 in
theorem show_any (v n : Nat) (w : World) (hv : v < 1000000000000) (hn : n ≤ 12) :
    Calls Tryz.prog 143 #[.int .i64 v, .int .i64 n] w fun e w' => e = .returned (.string (col v n)) ∧ Below w.heap.size w w' := by
  have hmk := fun W => Tryz.mkBytes n (by omega) W
  go_enter Tryz.func143, Tryz.ntmps143
  go_wp2
  go_loopw [0, 6] (fun x i wr => ∃ (k : Nat) (cs : List Value), k ≤ n ∧ i = .int .i64 ((k : Int) - 1) ∧ x = .int .i64 ((v / ten (n - k) : Nat) : Int) ∧ Blk wr w.heap.size 5 cs ∧ cs.length = n ∧ (∀ j, k ≤ j → j < n → cs[j]? = some (.int .u8 (wheel v n j))) ∧ Below w.heap.size w wr)
    (fun _ i _ => (intOf i + 1).toNat)
  case atStart => exact ⟨n, _, Nat.le_refl _, rfl, by rw [Nat.sub_self, ten_zero, Nat.div_one], Blk.new _ _ _, reps_length _ _, fun j h1 h2 => absurd h1 (by omega), bel_alloc w _⟩
  case round =>
    obtain ⟨k, cs, hk, rfl, rfl, hblk, hcl, hcs, hbel⟩ := hrel
    have H := Lib.hid (And.intro hcl (And.intro hcs hbel))
    clear hcl hcs hbel
    by_cases hk0 : k = 0
    · subst hk0
      have hcv := Tryz.convBlk wr w.heap.size n cs (gen (wheel v n) n) hblk (gen_length _ _) (fun j hj => by rw [at_gen hj]; exact H.out.2.1 j (Nat.zero_le _) hj)
      go_wp2
      go_ret
      exact ⟨rfl, H.out.2.2⟩
    · obtain ⟨k, rfl⟩ : ∃ j, k = j + 1 := ⟨k - 1, by omega⟩
      have hq : v / ten (n - (k + 1)) < 1000000000000 := Nat.lt_of_le_of_lt (Nat.div_le_self _ _) hv
      have HQ := Lib.hid (show v / ten (n - k) = v / ten (n - (k + 1)) / 10 by
        rw [show n - k = n - (k + 1) + 1 by omega, ten_succ, Nat.div_div_eq_div_mul])
      have HWh := Lib.hid (show wheel v n k = 48 + ((v / ten (n - (k + 1)) % 10 : Nat) : Int) by
        unfold wheel; rw [show n - 1 - k = n - (k + 1) by omega])
      generalize hx : v / ten (n - (k + 1)) = x at *
      have HX := Lib.hid hx
      clear hx
      have hcw : wr.cell? ⟨w.heap.size, k, none⟩ = some (cs[k]'(by rw [H.out.1]; omega)) := by rw [hblk.cell]; exact List.getElem?_eq_getElem _
      have hfw := hblk.frozen k
      go_wp2
      go_roundw
      case rel =>
        refine ⟨k, _, by omega, by go_num, by rw [HQ.out]; go_num, hblk.set_ k _, by rw [List.length_set]; exact H.out.1, fun j h1 h2 => ?_, H.out.2.2.setCell (Nat.le_refl _) _⟩
        by_cases e : j = k
        · subst e; rw [List.getElem?_set_self (by rw [H.out.1]; omega), HWh.out]; go_num
        · rw [List.getElem?_set_ne (by omega)]; exact H.out.2.1 j (by omega) h2
      case measure => simp [intOf] <;> omega

theorem half_cast (k : Nat) : ((ten k : Nat) : Int) / 2 = (half k : Nat) := by unfold half; omega
theorem half_neg {k : Nat} (h : 1 ≤ k) : (-((ten k : Nat) : Int)).tdiv 2 = -((half k : Nat) : Int) := by
  rw [ten_half h, Int.neg_tdiv]
  congr 1
  push_cast
  exact Int.mul_tdiv_cancel_left _ (by decide)
def colOfOk (n width : Int) : Bool := inB width 1 12 && fits n width.toNat
def colOfS (n width : Int) : ByteArray := if colOfOk n width = true then colOf n width.toNat else ⟨#[]⟩
theorem colOfOk_nat (n : Int) {k : Nat} (h : 1 ≤ k ∧ k ≤ 12) : colOfOk n k = fits n k := by
  have : inB (k : Int) 1 12 = true := inB_true.2 (by omega)
  simp [colOfOk, this]
theorem colOfOk_out (n : Int) {k : Int} (h : inB k 1 12 = false) : colOfOk n k = false := by simp [colOfOk, h]
theorem colOfS_no {n k : Int} (h : colOfOk n k = false) : colOfS n k = ⟨#[]⟩ := by simp [colOfS, h]
theorem colOfS_yes {n : Int} {k : Nat} (h : colOfOk n k = true) : colOfS n k = col (md n (ten k)) k := by simp [colOfS, h, colOf]

set_option maxHeartbeats 1000000 in
theorem implColOf_any (n width : Int) (w : World) (hn : -9223372036854775808 ≤ n ∧ n ≤ 9223372036854775807) :
    Calls Tryz.prog 73 #[.int .i64 n, .int .i64 width] w fun e w' => e = .returned (.tuple #[.string (colOfS n width), .bool (colOfOk n width)]) ∧ Below w.heap.size w w' := by
  cases hw : inB width 1 12
  · have h := Lib.hid (And.intro (colOfOk_out n hw) (colOfS_no (colOfOk_out n hw)))
    go_enter Tryz.func73, Tryz.ntmps73
    go_wp2_with (go_at_call 142; refine (widthValid_any _ _).mono ?_; rintro e w' ⟨rfl, rfl⟩)
    go_ret2
    exact ⟨by rw [h.out.1, h.out.2]; rfl, Below.refl _ _⟩
  · have hw' := inB_true.1 hw
    obtain ⟨k, rfl⟩ : ∃ k : Nat, width = k := ⟨width.toNat, by omega⟩
    have hk1 : 1 ≤ k := by omega
    have hk : k ≤ 12 := by omega
    have hT := ten_le hk
    have hT1 := ten_pos k
    have hh := half_cast k
    have hh2 := half_neg hk1
    have hhb : half k ≤ 1000000000000 := by unfold half; omega
    have hlt := Lib.hid (md_lt n hT1)
    have hm : md n (ten k) < 1000000000000 := by have := hlt.out; omega
    cases hf : fits n k
    · have h := Lib.hid (And.intro ((colOfOk_nat n ⟨hk1, hk⟩).trans hf) (colOfS_no ((colOfOk_nat n ⟨hk1, hk⟩).trans hf)))
      have hf' := inB_false.1 hf
      by_cases h1 : n < -(half k : Int)
      · go_enter Tryz.func73, Tryz.ntmps73
        go_wp2_with (first | (go_at_call 142; refine (widthValid_any _ _).mono ?_; rintro e w' ⟨rfl, rfl⟩) | (go_at_call 140; refine (power_any k _ hk).mono ?_; rintro e w' ⟨rfl, rfl⟩))
        go_ret2
        exact ⟨by rw [h.out.1, h.out.2]; rfl, Below.refl _ _⟩
      · have h2 : (half k : Int) ≤ n := by omega
        go_enter Tryz.func73, Tryz.ntmps73
        go_wp2_with (first | (go_at_call 142; refine (widthValid_any _ _).mono ?_; rintro e w' ⟨rfl, rfl⟩) | (go_at_call 140; refine (power_any k _ hk).mono ?_; rintro e w' ⟨rfl, rfl⟩))
        go_ret2
        exact ⟨by rw [h.out.1, h.out.2]; rfl, Below.refl _ _⟩
    · have h := Lib.hid (And.intro ((colOfOk_nat n ⟨hk1, hk⟩).trans hf) (colOfS_yes ((colOfOk_nat n ⟨hk1, hk⟩).trans hf)))
      have hf' := inB_true.1 hf
      have h1 : ¬ n < -(half k : Int) := by omega
      have h2 : ¬ (half k : Int) ≤ n := by omega
      go_enter Tryz.func73, Tryz.ntmps73
      go_wp2_with (first | (go_at_call 142; refine (widthValid_any _ _).mono ?_; rintro e w' ⟨rfl, rfl⟩) | (go_at_call 140; refine (power_any k _ hk).mono ?_; rintro e w' ⟨rfl, rfl⟩) | (go_at_call 141; refine (modulo_any n (ten k) _ ⟨hT1, hT⟩).mono ?_; rintro e w' ⟨rfl, rfl⟩))
      refine (show_any (md n (ten k)) k _ hm hk).mono ?_
      rintro e w' ⟨rfl, hb⟩
      go_wp2
      go_ret2
      exact ⟨by rw [h.out.1, h.out.2]; rfl, hb⟩

theorem tmod_back {q T : Nat} (h : q < T) : (((q : Nat) : Int) + (T : Int)).tmod T = q ∧ ((q : Nat) : Int).tmod T = q := by
  rw [Int.tmod_eq_emod_of_nonneg (by omega), Int.tmod_eq_emod_of_nonneg (by omega)]
  constructor
  · rw [Int.add_emod_right]; exact Int.emod_eq_of_lt (by omega) (by omega)
  · exact Int.emod_eq_of_lt (by omega) (by omega)

set_option maxHeartbeats 2000000 in
theorem l1Show_any (n : Int) (k : Nat) (w : World) (hn : -9223372036854775808 ≤ n ∧ n ≤ 9223372036854775807) (hk : 1 ≤ k ∧ k ≤ 12) :
    Calls Tryz.prog 154 #[.int .i64 n, .int .i64 k] w fun e w' => e = .returned (.string (col (md n (ten k)) k)) ∧ Below w.heap.size w w' := by
  have hmk := fun W => Tryz.mkBytes k (by omega) W
  have hT := ten_le hk.2
  have hT1 := ten_pos k
  have hlt := md_lt n hT1
  obtain ⟨e1, e2⟩ := tmod_back hlt
  have e3 : (((md n (ten k) : Nat) : Int) - (ten k : Int) + (ten k : Int)).tmod (ten k) = md n (ten k) := by rw [Int.sub_add_cancel]; exact e2
  have hT0 : ((ten k : Nat) : Int) ≠ 0 := by omega
  have hv : md n (ten k) < 1000000000000 := by omega
  have HE := Lib.hid (And.intro e1 (And.intro e2 e3))
  clear e1 e2 e3
  have fin : ∀ (W : World), Below w.heap.size w W → ∀ (v : Nat), v < 1000000000000 → True := fun _ _ _ _ => trivial
  rcases tmod_md n hT1 with ht | ⟨ht, hneg⟩
  all_goals
    obtain ⟨e1, e2, e3⟩ := HE.out
    go_enter Tryz.func154, Tryz.ntmps154
    go_wp2_with fail
    go_quiet ((go_at_call 214; first | exact quiet_left (l1Ten_any k _ hk.2) | exact quiet_add_left (l1Ten_any k _ hk.2)))
    go_wp2_with fail
    clear e1 e2 e3
    generalize hmdv : md n (ten k) = v at *
    go_loopw [0, 6] (fun x i wr => ∃ (j : Nat) (cs : List Value), j ≤ k ∧ i = .int .i64 ((j : Int) - 1) ∧ x = .int .i64 ((v / ten (k - j) : Nat) : Int) ∧ Blk wr w.heap.size 5 cs ∧ cs.length = k ∧ (∀ i, j ≤ i → i < k → cs[i]? = some (.int .u8 (wheel v k i))) ∧ Below w.heap.size w wr)
      (fun _ i _ => (intOf i + 1).toNat)
    case atStart => exact ⟨k, _, Nat.le_refl _, rfl, by rw [Nat.sub_self, ten_zero, Nat.div_one], Blk.new (w.drewN _) _ _, reps_length _ _, fun j h1 h2 => absurd h1 (by omega), (below_drewN (Below.refl _ _) _).alloc (Nat.le_refl _) _⟩
    case round =>
      obtain ⟨j, cs, hj, rfl, rfl, hblk, hcl, hcs, hbel⟩ := hrel
      have H := Lib.hid (And.intro hcl (And.intro hcs hbel))
      clear hcl hcs hbel
      by_cases hk0 : j = 0
      · subst hk0
        have hcv := Tryz.convBlk wr w.heap.size k cs (gen (wheel v k) k) hblk (gen_length _ _) (fun j hj => by rw [at_gen hj]; exact H.out.2.1 j (Nat.zero_le _) hj)
        go_wp2
        go_ret
        exact ⟨by rw [hmdv]; rfl, H.out.2.2⟩
      · obtain ⟨j, rfl⟩ : ∃ i, j = i + 1 := ⟨j - 1, by omega⟩
        have hq : v / ten (k - (j + 1)) < 1000000000000 := Nat.lt_of_le_of_lt (Nat.div_le_self _ _) hv
        have HQ := Lib.hid (show v / ten (k - j) = v / ten (k - (j + 1)) / 10 by
          rw [show k - j = k - (j + 1) + 1 by omega, ten_succ, Nat.div_div_eq_div_mul])
        have HWh := Lib.hid (show wheel v k j = 48 + ((v / ten (k - (j + 1)) % 10 : Nat) : Int) by
          unfold wheel; rw [show k - 1 - j = k - (j + 1) by omega])
        generalize hx : v / ten (k - (j + 1)) = x at *
        have HX := Lib.hid hx
        clear hx
        have hcw : wr.cell? ⟨w.heap.size, j, none⟩ = some (cs[j]'(by rw [H.out.1]; omega)) := by rw [hblk.cell]; exact List.getElem?_eq_getElem _
        have hfw := hblk.frozen j
        go_wp2
        go_roundw
        case rel =>
          refine ⟨j, _, by omega, by go_num, by rw [HQ.out]; go_num, hblk.set_ j _, by rw [List.length_set]; exact H.out.1, fun i h1 h2 => ?_, H.out.2.2.setCell (Nat.le_refl _) _⟩
          by_cases e : i = j
          · subst e; rw [List.getElem?_set_self (by rw [H.out.1]; omega), HWh.out]; go_num
          · rw [List.getElem?_set_ne (by omega)]; exact H.out.2.1 i (by omega) h2
        case measure => simp [intOf] <;> omega

set_option maxHeartbeats 1000000 in
theorem l1Fits_any (n : Int) (k : Nat) (w : World) (hk : k ≤ 12) :
    Calls Tryz.prog 153 #[.int .i64 n, .int .i64 k] w fun e w' => e = .returned (.bool (fits n k)) ∧ w = w' := by
  have hT := ten_le hk
  have hh := half_cast k
  have hhb : half k ≤ 1000000000000 := by unfold half; omega
  cases hf : fits n k
  · have hf' := inB_false.1 hf
    by_cases h1 : n < -(half k : Int)
    · go_enter Tryz.func153, Tryz.ntmps153
      go_wp2_with ((go_at_call 214; refine (l1Ten_any k _ hk).mono ?_; rintro e w' ⟨rfl, rfl⟩))
      go_ret
      exact ⟨rfl, rfl⟩
    · have h2 : (half k : Int) ≤ n := by omega
      go_enter Tryz.func153, Tryz.ntmps153
      go_wp2_with ((go_at_call 214; refine (l1Ten_any k _ hk).mono ?_; rintro e w' ⟨rfl, rfl⟩))
      go_ret
      exact ⟨ret_bool (by simp; omega), rfl⟩
  · have hf' := inB_true.1 hf
    have h1 : -(half k : Int) ≤ n := by omega
    have h2 : n < (half k : Int) := by omega
    go_enter Tryz.func153, Tryz.ntmps153
    go_wp2_with ((go_at_call 214; refine (l1Ten_any k _ hk).mono ?_; rintro e w' ⟨rfl, rfl⟩))
    go_ret
    exact ⟨rfl, rfl⟩

set_option maxHeartbeats 1000000 in
theorem specColOf_any (n width : Int) (w : World) (hn : -9223372036854775808 ≤ n ∧ n ≤ 9223372036854775807) :
    Calls Tryz.prog 83 #[.int .i64 n, .int .i64 width] w fun e w' => e = .returned (.tuple #[.string (colOfS n width), .bool (colOfOk n width)]) ∧ Below w.heap.size w w' := by
  cases hw : inB width 1 12
  · have h := Lib.hid (And.intro (colOfOk_out n hw) (colOfS_no (colOfOk_out n hw)))
    go_enter Tryz.func83, Tryz.ntmps83
    go_wp2_with (go_at_call 82; refine (l1Width_any _ _).mono ?_; rintro e w' ⟨rfl, rfl⟩)
    go_ret2
    exact ⟨by rw [h.out.1, h.out.2]; rfl, Below.refl _ _⟩
  · have hw' := inB_true.1 hw
    obtain ⟨k, rfl⟩ : ∃ k : Nat, width = k := ⟨width.toNat, by omega⟩
    have hk1 : 1 ≤ k := by omega
    have hk : k ≤ 12 := by omega
    cases hf : fits n k
    · have h := Lib.hid (And.intro ((colOfOk_nat n ⟨hk1, hk⟩).trans hf) (colOfS_no ((colOfOk_nat n ⟨hk1, hk⟩).trans hf)))
      go_enter Tryz.func83, Tryz.ntmps83
      go_wp2_with (first | (go_at_call 82; refine (l1Width_any _ _).mono ?_; rintro e w' ⟨rfl, rfl⟩) | (go_at_call 153; refine (l1Fits_any _ k _ hk).mono ?_; rintro e w' ⟨rfl, rfl⟩))
      go_ret2
      exact ⟨by rw [h.out.1, h.out.2]; rfl, Below.refl _ _⟩
    · have h := Lib.hid (And.intro ((colOfOk_nat n ⟨hk1, hk⟩).trans hf) (colOfS_yes ((colOfOk_nat n ⟨hk1, hk⟩).trans hf)))
      go_enter Tryz.func83, Tryz.ntmps83
      go_wp2_with (first | (go_at_call 82; refine (l1Width_any _ _).mono ?_; rintro e w' ⟨rfl, rfl⟩) | (go_at_call 153; refine (l1Fits_any _ k _ hk).mono ?_; rintro e w' ⟨rfl, rfl⟩))
      refine (l1Show_any n k _ hn ⟨hk1, hk⟩).mono ?_
      rintro e w' ⟨rfl, hb⟩
      go_wp2
      go_ret2
      exact ⟨by rw [h.out.1, h.out.2]; rfl, hb⟩

set_option maxHeartbeats 1000000 in
theorem implAdd_any (s t : ByteArray) (w : World) (hs : colOk s = true) (ht : colOk t = true) (he : s.size = t.size) :
    Calls Tryz.prog 215 #[.string s, .string t] w fun e w' => e = .returned (.tuple #[.string (addC s t), .bool true]) ∧ Below w.heap.size w w' := by
  have ha := alikeC_true.2 ⟨hs, ht, he⟩
  have s3 : s.size ≤ 9223372036854775807 := by have := colOk_true hs; omega
  have t3 : t.size ≤ 9223372036854775807 := by have := colOk_true ht; omega
  have k12 := (colOk_true hs).2.1
  have c1 := cv_le hs
  have c2 := cv_le ht
  have hT := ten_le k12
  have hT1 := ten_pos s.size
  have hm : (cv s + cv t) % ten s.size < 1000000000000 := by have := Nat.mod_lt (cv s + cv t) (show 0 < ten s.size by omega); omega
  have hmd := md_nat (cv s + cv t) (ten s.size)
  have HE := Lib.hid he
  clear he
  go_enter Tryz.func215, Tryz.ntmps215
  go_wp2_with (first | (go_at_call 158; refine (implAlike_any _ _ _ (by assumption) (by assumption)).mono ?_; rintro e w' ⟨rfl, rfl⟩) | (go_at_call 211; refine (valueOf_any _ _ (by assumption)).mono ?_; rintro e w' ⟨rfl, rfl⟩) | (go_at_call 140; refine (power_any s.size _ k12).mono ?_; rintro e w' ⟨rfl, rfl⟩))
  refine (modulo_any ((cv s + cv t : Nat) : Int) (ten s.size) _ ⟨hT1, hT⟩).mono ?_
  rintro e w' ⟨rfl, rfl⟩
  rw [hmd]
  go_wp2_with fail
  refine (show_any _ s.size _ hm k12).mono ?_
  rintro e w' ⟨rfl, hb⟩
  go_wp2
  go_ret2
  exact ⟨rfl, hb⟩
set_option maxHeartbeats 1000000 in
theorem signedOf_any (s : ByteArray) (w : World) (hs : colOk s = true) :
    Calls Tryz.prog 144 #[.string s] w fun e w' => e = .returned (.tuple #[.int .i64 (sg s), .bool true]) ∧ w = w' := by
  have s3 : s.size ≤ 9223372036854775807 := by have := colOk_true hs; omega
  have k12 := (colOk_true hs).2.1
  have c1 := cv_le hs
  have hT := ten_le k12
  have hh := half_cast s.size
  have hhb : half s.size ≤ 1000000000000 := by unfold half; omega
  by_cases h : half s.size ≤ cv s
  · have hs' := Lib.hid (sg_hi h)
    go_enter Tryz.func144, Tryz.ntmps144
    go_wp2_with (first | (go_at_call 210; refine (implCol_any _ _ (by assumption)).mono ?_; rintro e w' ⟨rfl, rfl⟩) | (go_at_call 211; refine (valueOf_any _ _ (by assumption)).mono ?_; rintro e w' ⟨rfl, rfl⟩) | (go_at_call 140; refine (power_any s.size _ k12).mono ?_; rintro e w' ⟨rfl, rfl⟩))
    go_ret2
    exact ⟨by rw [hs'.out]; rfl, rfl⟩
  · have hs' := Lib.hid (sg_lo h)
    go_enter Tryz.func144, Tryz.ntmps144
    go_wp2_with (first | (go_at_call 210; refine (implCol_any _ _ (by assumption)).mono ?_; rintro e w' ⟨rfl, rfl⟩) | (go_at_call 211; refine (valueOf_any _ _ (by assumption)).mono ?_; rintro e w' ⟨rfl, rfl⟩) | (go_at_call 140; refine (power_any s.size _ k12).mono ?_; rintro e w' ⟨rfl, rfl⟩))
    go_ret2
    exact ⟨by rw [hs'.out]; rfl, rfl⟩
set_option maxHeartbeats 1000000 in
theorem signed_any (s : ByteArray) (w : World) (hs : colOk s = true) :
    Calls Tryz.prog 155 #[.string s] w fun e w' => e = .returned (.int .i64 (sg s)) ∧ w = w' := by
  go_enter Tryz.func155, Tryz.ntmps155
  go_wp2_with ((go_at_call 144; refine (signedOf_any s _ hs).mono ?_; rintro e w' ⟨rfl, rfl⟩))
  go_ret
  exact ⟨rfl, rfl⟩

end Go.Proofs.YtpniljcnknknoaaGreatDoor
