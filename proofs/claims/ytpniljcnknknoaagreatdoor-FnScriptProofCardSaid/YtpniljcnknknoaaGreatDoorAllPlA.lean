import Derived.Test.YtpniljcnknknoaaGreatDoorPolyPlain
import Derived.Test.YtpniljcnknknoaaGreatDoorShiftC
import Derived.Deep.DrawnRows
import Derived.Test.YtpniljcnknknoaaGreatDoorSlices
/-
  Runs of a table, plainly: the least degree, the polynomial with the entries, and what fewer entries do to both.
-/
namespace Go.Proofs.YtpniljcnknknoaaGreatDoor
open Go.RowKit
set_option linter.unusedVariables false
set_option linter.unusedSimpArgs false

/-- All numbers are 0. -/
def zeroL (l : List Int) : Bool := l.all fun t => inB t 0 0
theorem zeroL_iff {l : List Int} : zeroL l = true ↔ ∀ k, k < l.length → at_ l k = 0 := by
  unfold zeroL
  rw [List.all_eq_true]
  constructor
  · intro h k hk
    have := inB_true.1 (h _ (at_mem l k hk))
    omega
  · intro h x hx
    obtain ⟨k, hk, rfl⟩ := List.getElem_of_mem hx
    rw [← at_eq l k hk, h k hk]
    rfl
theorem zeroL_nil {l : List Int} (h : l.length = 0) : zeroL l = true := zeroL_iff.2 fun k hk => by omega
/-- How often differences are to be taken until they are all 0: 8 if seven times do not do. -/
def degN (l : List Int) : Nat := ((List.range 8).takeWhile fun j => !zeroL (rowI l j)).length
theorem takeWhile_range {p : Nat → Bool} {n j : Nat} (hj : j ≤ n) (ha : ∀ i, i < j → p i = true) (hn : j = n ∨ p j = false) : ((List.range n).takeWhile p).length = j := by
  induction n generalizing j p with
  | zero => simp; omega
  | succ n ih =>
    rw [List.range_succ_eq_map]
    cases j with
    | zero =>
      rcases hn with h | h
      · omega
      · simp [h]
    | succ j =>
      have h0 := ha 0 (by omega)
      rw [List.takeWhile_cons, h0]
      simp only [if_true, List.length_cons]
      rw [List.takeWhile_map, List.length_map]
      congr 1
      refine ih (p := p ∘ Nat.succ) (by omega) (fun i hi => ha (i + 1) (by omega)) ?_
      rcases hn with h | h
      · exact .inl (by omega)
      · exact .inr h
theorem takeWhile_spec (p : Nat → Bool) (n : Nat) : ((List.range n).takeWhile p).length ≤ n ∧ (∀ i, i < ((List.range n).takeWhile p).length → p i = true) ∧ (((List.range n).takeWhile p).length = n ∨ p ((List.range n).takeWhile p).length = false) := by
  have key : ∃ j, j ≤ n ∧ (∀ i, i < j → p i = true) ∧ (j = n ∨ p j = false) := by
    induction n with
    | zero => exact ⟨0, by omega, fun i hi => by omega, .inl rfl⟩
    | succ n ih =>
      obtain ⟨j, h1, h2, h3⟩ := ih
      rcases h3 with h3 | h3
      · subst h3
        cases hp : p j with
        | false => exact ⟨j, by omega, h2, .inr hp⟩
        | true => exact ⟨j + 1, by omega, fun i hi => by
            rcases Nat.lt_or_ge i j with h | h
            · exact h2 i h
            · obtain rfl : i = j := by omega
              exact hp, .inl rfl⟩
      · exact ⟨j, by omega, h2, .inr h3⟩
  obtain ⟨j, h1, h2, h3⟩ := key
  rw [takeWhile_range h1 h2 h3]
  exact ⟨h1, h2, h3⟩
theorem degN_le (l : List Int) : degN l ≤ 8 := (takeWhile_spec _ 8).1
theorem degN_at {l : List Int} {j : Nat} (hj : j < 8) (ha : ∀ i, i < j → zeroL (rowI l i) = false) (h : zeroL (rowI l j) = true) : degN l = j :=
  takeWhile_range (by omega) (fun i hi => by simp [ha i hi]) (.inr (by simp [h]))
theorem degN_no {l : List Int} (ha : ∀ i, i < 8 → zeroL (rowI l i) = false) : degN l = 8 :=
  takeWhile_range (Nat.le_refl _) (fun i hi => by simp [ha i hi]) (.inl rfl)
theorem degN_before {l : List Int} {i : Nat} (h : i < degN l) : zeroL (rowI l i) = false := by
  have := (takeWhile_spec (fun j => !zeroL (rowI l j)) 8).2.1 i h
  simpa using this
theorem degN_zero {l : List Int} (h : degN l < 8) : zeroL (rowI l (degN l)) = true := by
  rcases (takeWhile_spec (fun j => !zeroL (rowI l j)) 8).2.2 with h2 | h2
  · have : degN l = 8 := h2
    omega
  · have : (!zeroL (rowI l (degN l))) = false := h2
    simpa using this
theorem degN_upto {l : List Int} {j : Nat} (h : zeroL (rowI l j) = true) : degN l ≤ j := by
  rcases Nat.lt_or_ge j (degN l) with h2 | h2
  · rw [degN_before h2] at h; cases h
  · exact h2
theorem degN_len (l : List Int) : degN l ≤ l.length := by
  rcases Nat.lt_or_ge l.length (degN l) with h | h
  · have := degN_before h
    rw [zeroL_nil (by rw [rowI_length]; omega)] at this
    cases this
  · exact h
/-- The least degree: -2 for what is no table. -/
def degI (l : List Int) : Int := if tableOk l = true then (degN l : Int) - 1 else -2
theorem degI_yes {l : List Int} (h : tableOk l = true) : degI l = (degN l : Int) - 1 := by simp [degI, h]
theorem degI_no {l : List Int} (h : tableOk l = false) : degI l = -2 := by simp [degI, h]
/-- The polynomial with a table: its numbers, and whether there is one. -/
def itD (l : List Int) : List Int := diffsI (l.take (max (degN l) 1))
def itOk (l : List Int) : Bool := (tableOk l && decide (degN l ≤ 7)) && polyOk (itD l)
def itL (l : List Int) : List Int := if itOk l = true then itD l else []
/-- A run of a degree. -/
def rnOk (l : List Int) (d : Int) : Bool := decide (degI l ≤ d) && itOk l
def rnL (l : List Int) (d : Int) : List Int := if rnOk l d = true then itD l else []
theorem rnL_yes {l : List Int} {d : Int} (h : rnOk l d = true) : rnL l d = itD l := by simp [rnL, h]
theorem rnL_no {l : List Int} {d : Int} (h : rnOk l d = false) : rnL l d = [] := by simp [rnL, h]
theorem rnL_it {l : List Int} {d : Int} (h : degI l ≤ d) : rnOk l d = itOk l ∧ rnL l d = itL l := by simp [rnL, itL, rnOk, h]
theorem rn_far {l : List Int} {d : Int} (h : ¬ degI l ≤ d) : rnOk l d = false ∧ rnL l d = [] := by simp [rnL, rnOk, h]
theorem itD_len (l : List Int) : (itD l).length ≤ 60 ∨ 60 < l.length := by
  unfold itD
  rw [diffsI_length, List.length_take]
  omega
theorem itL_len (l : List Int) : (itL l).length ≤ 8 := by
  unfold itL
  split
  · unfold itD
    rw [diffsI_length, List.length_take]
    have := degN_le l
    omega
  · simp
/-- A small table. -/
def smOk (l : List Int) : Bool := tableOk l && l.all fun t => inB t (-1500) 1500
theorem smOk_iff {l : List Int} : smOk l = true ↔ 1 ≤ l.length ∧ l.length ≤ 60 ∧ ∀ k, k < l.length → -1500 ≤ at_ l k ∧ at_ l k ≤ 1500 := by
  unfold smOk tableOk
  rw [Bool.and_eq_true, Bool.and_eq_true, inB_true, List.all_eq_true, List.all_eq_true]
  constructor
  · rintro ⟨⟨h1, -⟩, h2⟩
    exact ⟨by omega, by omega, fun k hk => inB_true.1 (h2 _ (at_mem l k hk))⟩
  · rintro ⟨h1, h2, h3⟩
    have h4 : ∀ x ∈ l, -1500 ≤ x ∧ x ≤ 1500 := by
      intro x hx
      obtain ⟨k, hk, rfl⟩ := List.getElem_of_mem hx
      have := h3 k hk
      rwa [at_eq l k hk] at this
    exact ⟨⟨by omega, fun x hx => inB_true.2 (by have := h4 x hx; omega)⟩, fun x hx => inB_true.2 (h4 x hx)⟩
theorem at_take' {l : List Int} {m k : Nat} (h : k < m) : at_ (l.take m) k = at_ l k := by
  unfold at_
  simp only [List.getD, List.getElem?_take]
  rw [if_pos h]
/-- The differences of the first entries are the first differences. -/
theorem row_take (l : List Int) (m : Nat) : ∀ j, rowI (l.take m) j = (rowI l j).take (m - j)
  | 0 => by simp [rowI]
  | j + 1 => by
    rw [rowI, row_take l m j]
    apply list_ext
    · rw [nextI_length, List.length_take, List.length_take, rowI_length, rowI_length]; omega
    · intro k hk
      rw [nextI_length, List.length_take, rowI_length] at hk
      rw [at_take' (by omega)]
      unfold nextI
      rw [at_gen (by rw [List.length_take, rowI_length]; omega), at_take' (by omega), at_take' (by omega), rowI]
      unfold nextI
      rw [at_gen (by rw [rowI_length]; omega)]
theorem pow_small {j : Nat} (h : j ≤ 6) : 0 ≤ (2 : Int) ^ j ∧ (2 : Int) ^ j ≤ 64 := by
  have : j = 0 ∨ j = 1 ∨ j = 2 ∨ j = 3 ∨ j = 4 ∨ j = 5 ∨ j = 6 := by omega
  rcases this with rfl | rfl | rfl | rfl | rfl | rfl | rfl <;> decide
theorem row_bd {l : List Int} {B : Int} (hB : 0 ≤ B ∧ B ≤ 1000000000) (h : ∀ k, k < l.length → -B ≤ at_ l k ∧ at_ l k ≤ B) : ∀ j, j ≤ 7 → ∀ k, k < (rowI l j).length → -(B * (2 : Int) ^ j) ≤ at_ (rowI l j) k ∧ at_ (rowI l j) k ≤ B * (2 : Int) ^ j
  | 0, _, k, hk => by have := h k hk; simpa [rowI] using this
  | j + 1, hj, k, hk => by
    rw [rowI_length] at hk
    have h1 := row_bd hB h j (by omega) k (by rw [rowI_length]; omega)
    have h2 := row_bd hB h j (by omega) (k + 1) (by rw [rowI_length]; omega)
    have hp : B * (2 : Int) ^ (j + 1) = 2 * (B * 2 ^ j) := by rw [Int.pow_succ, Int.mul_comm _ 2, Int.mul_left_comm]
    obtain ⟨q0, q1⟩ := pow_small (j := j) (by omega)
    have hb : B * (2 : Int) ^ j ≤ 1000000000 * 64 := Int.mul_le_mul hB.2 q1 q0 (by omega)
    have h0 : 0 ≤ B * (2 : Int) ^ j := Int.mul_nonneg hB.1 q0
    rw [rowI]
    unfold nextI
    rw [at_gen (by rw [rowI_length]; omega), hp, IntWalk.wrap64_in _ (by omega)]
    omega
/-- A difference, without a wrap. -/
theorem row_step {l : List Int} {B : Int} (hB : 0 ≤ B ∧ B ≤ 1000000000) (h : ∀ k, k < l.length → -B ≤ at_ l k ∧ at_ l k ≤ B) {j : Nat} (hj : j < 7) {k : Nat} (hk : k + (j + 1) < l.length) : at_ (rowI l (j + 1)) k = at_ (rowI l j) (k + 1) - at_ (rowI l j) k := by
  have h1 := row_bd hB h j (by omega) k (by rw [rowI_length]; omega)
  have h2 := row_bd hB h j (by omega) (k + 1) (by rw [rowI_length]; omega)
  obtain ⟨q0, q1⟩ := pow_small (j := j) (by omega)
  have hb : B * (2 : Int) ^ j ≤ 1000000000 * 64 := Int.mul_le_mul hB.2 q1 q0 (by omega)
  have h0 : 0 ≤ B * (2 : Int) ^ j := Int.mul_nonneg hB.1 q0
  rw [rowI]
  unfold nextI
  rw [at_gen (by rw [rowI_length]; omega), IntWalk.wrap64_in _ (by omega)]
theorem itD_ok {l : List Int} (h : smOk l = true) (hd : degN l ≤ 7) : polyOk (itD l) = true := by
  obtain ⟨h1, h2, h3⟩ := smOk_iff.1 h
  have hl := degN_len l
  refine polyOk_true.2 ⟨?_, ?_, fun k hk => ?_⟩
  · unfold itD; rw [diffsI_length, List.length_take]; omega
  · unfold itD; rw [diffsI_length, List.length_take]; omega
  · unfold itD at hk ⊢
    rw [diffsI_length] at hk
    unfold diffsI diffsTo
    rw [at_gen hk]
    have hlen := hk
    rw [List.length_take] at hk
    have := row_bd (l := l.take (max (degN l) 1)) (B := 1500) (by omega) (fun i hi => by
      rw [List.length_take] at hi
      rw [at_take' (by omega)]
      exact h3 i (by omega)) k (by omega) 0 (by rw [rowI_length]; omega)
    obtain ⟨q0, q1⟩ := pow_small (j := k) (by omega)
    omega
theorem smOk_table {l : List Int} (h : smOk l = true) : tableOk l = true := by
  unfold smOk at h
  rw [Bool.and_eq_true] at h
  exact h.1
theorem rnOk_small {l : List Int} {d : Int} (h : smOk l = true) (h0 : 0 ≤ d) (h6 : d ≤ 6) : rnOk l d = decide ((degN l : Int) ≤ d + 1) := by
  have ht := smOk_table h
  unfold rnOk itOk
  rw [degI_yes ht, ht]
  by_cases hd : (degN l : Int) ≤ d + 1
  · have h7 : degN l ≤ 7 := by omega
    rw [itD_ok h h7]
    simp [hd, h7]
    omega
  · have : ¬ (degN l : Int) - 1 ≤ d := by omega
    simp [hd, this]
theorem smOk_take {l : List Int} (h : smOk l = true) {m : Nat} (hm : 1 ≤ m) : smOk (l.take m) = true := by
  obtain ⟨h1, h2, h3⟩ := smOk_iff.1 h
  refine smOk_iff.2 ⟨by rw [List.length_take]; omega, by rw [List.length_take]; omega, fun k hk => ?_⟩
  rw [List.length_take] at hk
  rw [at_take' (by omega)]
  exact h3 k (by omega)
theorem at_dropI (l : List Int) (i k : Nat) : at_ (l.drop i) k = at_ l (i + k) := by
  unfold at_
  simp only [List.getD, List.getElem?_drop]
theorem smOk_drop {l : List Int} (h : smOk l = true) {i : Nat} (hi : i < l.length) : smOk (l.drop i) = true := by
  obtain ⟨h1, h2, h3⟩ := smOk_iff.1 h
  refine smOk_iff.2 ⟨by rw [List.length_drop]; omega, by rw [List.length_drop]; omega, fun k hk => ?_⟩
  rw [List.length_drop] at hk
  rw [at_dropI]
  exact h3 _ (by omega)
/-- Fewer entries of a run are a run. -/
theorem rn_fewer {l : List Int} {d : Int} (h : smOk l = true) (h0 : 0 ≤ d) (h6 : d ≤ 6) (hr : rnOk l d = true) {m : Nat} (hm : 1 ≤ m) : rnOk (l.take m) d = true := by
  rw [rnOk_small h h0 h6] at hr
  rw [rnOk_small (smOk_take h hm) h0 h6]
  have hr := of_decide_eq_true hr
  refine decide_eq_true ?_
  have hz := degN_zero (l := l) (by omega)
  have : degN (l.take m) ≤ degN l := degN_upto (by
    rw [row_take]
    refine zeroL_iff.2 fun k hk => ?_
    rw [List.length_take] at hk
    rw [at_take' (by omega)]
    exact zeroL_iff.1 hz k (by omega))
  omega
theorem rn_one {l : List Int} {d : Int} (h : smOk l = true) (h0 : 0 ≤ d) (h6 : d ≤ 6) : rnOk (l.take 1) d = true := by
  rw [rnOk_small (smOk_take h (Nat.le_refl _)) h0 h6]
  refine decide_eq_true ?_
  have := degN_len (l.take 1)
  rw [List.length_take] at this
  omega
/-- How many entries from the first on have a run. -/
def lgN (l : List Int) (d : Int) : Nat := ((List.range l.length).takeWhile fun n => rnOk (l.take (n + 1)) d).length
theorem lgN_le (l : List Int) (d : Int) : lgN l d ≤ l.length := (takeWhile_spec _ _).1
theorem lgN_up {l : List Int} {d : Int} {n : Nat} (hn : n ≤ l.length) (ha : ∀ i, i < n → rnOk (l.take (i + 1)) d = true) (h : n = l.length ∨ rnOk (l.take (n + 1)) d = false) : lgN l d = n := takeWhile_range hn ha h
theorem lgN_in {l : List Int} {d : Int} {n : Nat} (h1 : 1 ≤ n) (hn : n ≤ lgN l d) : rnOk (l.take n) d = true := by
  have := (takeWhile_spec (fun n => rnOk (l.take (n + 1)) d) l.length).2.1 (n - 1) (by have : lgN l d = ((List.range l.length).takeWhile fun n => rnOk (l.take (n + 1)) d).length := rfl; omega)
  rwa [show n - 1 + 1 = n by omega] at this
theorem lgN_pos {l : List Int} {d : Int} (h : smOk l = true) (h0 : 0 ≤ d) (h6 : d ≤ 6) : 1 ≤ lgN l d := by
  rcases Nat.eq_zero_or_pos (lgN l d) with h1 | h1
  · rcases (takeWhile_spec (fun n => rnOk (l.take (n + 1)) d) l.length).2.2 with h2 | h2
    · have : lgN l d = l.length := h2
      have := (smOk_iff.1 h).1
      omega
    · have h3 : rnOk (l.take (lgN l d + 1)) d = false := h2
      rw [h1, rn_one h h0 h6] at h3
      cases h3
  · exact h1
/-- From above: the greatest number of entries that have a run. -/
theorem lgN_down {l : List Int} {d : Int} (h : smOk l = true) (h0 : 0 ≤ d) (h6 : d ≤ 6) {n : Nat} (hn : n ≤ l.length) (h1 : 1 ≤ n) (hr : rnOk (l.take n) d = true) (hno : ∀ m, n < m → m ≤ l.length → rnOk (l.take m) d = false) : lgN l d = n := by
  refine lgN_up hn (fun i hi => ?_) ?_
  · have := rn_fewer (smOk_take h h1) h0 h6 hr (m := i + 1) (by omega)
    rwa [List.take_take, Nat.min_eq_left (by omega)] at this
  · rcases Nat.lt_or_ge n l.length with h2 | h2
    · exact .inr (hno _ (by omega) (by omega))
    · exact .inl (by omega)
theorem lgN_over {l : List Int} {d : Int} (h : smOk l = true) (h0 : 0 ≤ d) (h6 : d ≤ 6) {n : Nat} (hn : lgN l d < n) (hl : n ≤ l.length) : rnOk (l.take n) d = false := by
  cases hr : rnOk (l.take n) d with
  | false => rfl
  | true =>
    exfalso
    rcases (takeWhile_spec (fun n => rnOk (l.take (n + 1)) d) l.length).2.2 with h2 | h2
    · have : lgN l d = l.length := h2
      omega
    · have h3 : rnOk (l.take (lgN l d + 1)) d = false := h2
      have := rn_fewer (smOk_take h (by omega : 1 ≤ n)) h0 h6 hr (m := lgN l d + 1) (by omega)
      rw [List.take_take, Nat.min_eq_left (by omega), h3] at this
      cases this
end Go.Proofs.YtpniljcnknknoaaGreatDoor

/-
  LeastDegree, Interpolate and runs: the contracts of both sides.
-/
namespace Go.Proofs.YtpniljcnknknoaaGreatDoor
open Go.RowKit
set_option linter.unusedVariables false
set_option linter.unusedSimpArgs false
set_option maxRecDepth 100000
attribute [local go_sem ↓] Go.wp_at_zero Go.wp_at_succ

set_option maxHeartbeats 400000 in
theorem implZero_any (v : Value) (l : List Int) (w : World) (hv : Ints w v l) :
    Calls Tryz.prog 106 #[v] w fun e w' => e = .returned (.bool (zeroL l)) ∧ w = w' := by
  have HV := Lib.hid hv
  obtain ⟨A, c, rfl, hlc, hc, hrd⟩ := hv.open_
  clear hv hrd
  go_enter Tryz.func106, Tryz.ntmps106
  go_wp2_with fail
  refine (allWithin_any _ l 0 _ HV.out (by omega) (by omega)).mono ?_
  rintro e w' ⟨rfl, rfl⟩
  go_wp2
  go_ret
  exact ⟨rfl, rfl⟩
set_option maxHeartbeats 400000 in
theorem specZero_any (v : Value) (l : List Int) (w : World) (hv : Ints w v l) :
    Calls Tryz.prog 171 #[v] w fun e w' => e = .returned (.bool (zeroL l)) ∧ w = w' := by
  obtain ⟨A, c, rfl, hlc, hc, hrd⟩ := hv.open_
  go_enter Tryz.func171, Tryz.ntmps171
  go_wp2
  go_loop [3] (fun i => ∃ k : Nat, k ≤ l.length ∧ i = .int .i64 k ∧ ∀ j, j < k → at_ l j = 0) (fun i => l.length - (intOf i).toNat)
  case atStart => exact ⟨0, Nat.zero_le _, rfl, fun j hj => absurd hj (by omega)⟩
  case round =>
    obtain ⟨k, hk, rfl, hall⟩ := hrel
    have HA := Lib.hid hall
    clear hall
    by_cases hlt : k < l.length
    · obtain ⟨bb, o, rfl, hb, hcell⟩ := hrd.ints (by omega)
      have hck := hcell k hlt
      clear hcell
      by_cases hz : at_ l k = 0
      · have HZ := Lib.hid hz
        have hz1 : (at_ l k != 0) = false := by simp [hz]
        clear hz
        go_wp2
        go_round
        case rel => exact ⟨k + 1, by omega, by go_num, toSucc HA.out HZ.out⟩
        case measure => simp [intOf]; omega
      · have hz1 : (at_ l k != 0) = true := by simp [hz]
        have HZ := Lib.hid (show zeroL l = false by
          cases hq : zeroL l with
          | false => rfl
          | true => exact absurd (zeroL_iff.1 hq k hlt) hz)
        clear hz
        go_wp2
        go_ret
        exact ⟨ret_bool HZ.out.symm, rfl⟩
    · have HZ := Lib.hid (show zeroL l = true from zeroL_iff.2 (fun j hj => HA.out j (by omega)))
      go_wp2
      go_ret
      exact ⟨ret_bool HZ.out.symm, rfl⟩
set_option maxHeartbeats 2000000 in
theorem implDeg_any (v : Value) (l : List Int) (w : World) (hv : Ints w v l) (hl : l.length ≤ 1048576) :
    Calls Tryz.prog 45 #[v] w fun e w' => e = .returned (.int .i64 (degI l)) ∧ Below w.heap.size w w' := by
  have HV := Lib.hid hv
  obtain ⟨A, c, rfl, hlc, hc, -⟩ := hv.open_
  clear hv
  go_enter Tryz.func45, Tryz.ntmps45
  cases ht : tableOk l
  · have HD := Lib.hid (degI_no ht)
    go_wp2_with (go_at_call 31; refine (implTable_any _ _ _ HV.out).mono ?_; rintro e w' ⟨rfl, rfl⟩)
    go_ret
    exact ⟨by rw [HD.out]; rfl, Below.refl _ _⟩
  · have HD := Lib.hid (degI_yes ht)
    go_wp2_with (go_at_call 31; refine (implTable_any _ _ _ HV.out).mono ?_; rintro e w' ⟨rfl, rfl⟩)
    go_loopw [3, 4] (fun s k wr => ∃ j : Nat, j ≤ 8 ∧ k = .int .i64 ((j : Int) - 1) ∧ Ints wr s (rowI l j) ∧ (∀ i, i < j → zeroL (rowI l i) = false) ∧ Below w.heap.size w wr) (fun _ k _ => 8 - (intOf k + 1).toNat)
    case atStart => exact ⟨0, by omega, rfl, HV.out, fun i hi => absurd hi (by omega), Below.refl _ _⟩
    case round =>
      obtain ⟨j, hj, rfl, hi, hno, hb⟩ := hrel
      have H := Lib.hid (And.intro hi (And.intro hno hb))
      have hrl := rowI_length l j
      have HRL := Lib.hid (show (rowI l j).length ≤ 1048576 by omega)
      obtain ⟨A1, c1, rfl, -, -, -⟩ := hi.open_
      clear hi hno hb hrl
      by_cases hlt : j < 8
      · have p1 : (j : Int) - 1 ≤ 6 := by omega
        cases hz : zeroL (rowI l j)
        · go_wp2_with fail
          refine (implZero_any _ _ _ H.out.1).mono ?_
          rw [hz]
          rintro e w' ⟨rfl, rfl⟩
          go_wp2_with fail
          refine (neighbors_any _ _ _ H.out.1 HRL.out).mono ?_
          rintro e w2 ⟨r, rfl, o2, b2⟩
          have HI := Lib.hid o2.ints
          have HB := Lib.hid (bel_trans H.out.2.2 b2)
          have hz' := Lib.hid hz
          clear o2 b2 hz
          go_wp2
          go_roundw
          case rel => exact ⟨j + 1, hlt, by go_num, HI.out, toSucc H.out.2.1 hz'.out, HB.out⟩
          case measure => simp [intOf]; omega
        · go_wp2_with fail
          refine (implZero_any _ _ _ H.out.1).mono ?_
          rw [hz]
          rintro e w' ⟨rfl, rfl⟩
          have hd := Lib.hid (degN_at hlt H.out.2.1 hz)
          clear hz
          go_wp2
          go_ret
          exact ⟨by rw [HD.out, hd.out]; rfl, H.out.2.2⟩
      · have p1 : ¬ (j : Int) - 1 ≤ 6 := by omega
        obtain rfl : j = 8 := by omega
        have hd := Lib.hid (degN_no H.out.2.1)
        go_wp2
        go_ret
        exact ⟨by rw [HD.out, hd.out]; rfl, H.out.2.2⟩
set_option maxHeartbeats 2000000 in
theorem specDeg_any (v : Value) (l : List Int) (w : World) (hv : Ints w v l) (hl : l.length ≤ 1048576) :
    Calls Tryz.prog 218 #[v] w fun e w' => e = .returned (.int .i64 (degI l)) ∧ Below w.heap.size w w' := by
  have HV := Lib.hid hv
  obtain ⟨A, c, rfl, hlc, hc, -⟩ := hv.open_
  clear hv
  go_enter Tryz.func218, Tryz.ntmps218
  cases ht : tableOk l
  · have HD := Lib.hid (degI_no ht)
    go_wp2_with (go_at_call 68; refine (specTable_any _ _ _ HV.out).mono ?_; rintro e w' ⟨rfl, rfl⟩)
    go_ret
    exact ⟨by rw [HD.out]; rfl, Below.refl _ _⟩
  · have HD := Lib.hid (degI_yes ht)
    go_wp2_with (go_at_call 68; refine (specTable_any _ _ _ HV.out).mono ?_; rintro e w' ⟨rfl, rfl⟩)
    go_loopw [3, 4] (fun s k wr => ∃ j : Nat, j ≤ 7 ∧ k = .int .i64 ((j : Int) - 1) ∧ Ints wr s (rowI l j) ∧ (∀ i, i < j → zeroL (rowI l i) = false) ∧ Below w.heap.size w wr) (fun _ k _ => 8 - (intOf k + 1).toNat)
    case atStart => exact ⟨0, by omega, rfl, HV.out, fun i hi => absurd hi (by omega), Below.refl _ _⟩
    case round =>
      obtain ⟨j, hj, rfl, hi, hno, hb⟩ := hrel
      have H := Lib.hid (And.intro hi (And.intro hno hb))
      have hrl := rowI_length l j
      have HRL := Lib.hid (show (rowI l j).length ≤ 1048576 by omega)
      obtain ⟨A1, c1, rfl, -, -, -⟩ := hi.open_
      clear hi hno hb hrl
      by_cases hlt : j < 7
      · have p1 : (j : Int) - 1 < 6 := by omega
        cases hz : zeroL (rowI l j)
        · go_wp2_with fail
          refine (specZero_any _ _ _ H.out.1).mono ?_
          rw [hz]
          rintro e w' ⟨rfl, rfl⟩
          go_wp2_with fail
          refine (l2Next_any _ _ _ H.out.1 HRL.out).mono ?_
          rintro e w2 ⟨r, rfl, o2, b2⟩
          have HI := Lib.hid o2.ints
          have HB := Lib.hid (bel_trans H.out.2.2 b2)
          have hz' := Lib.hid hz
          clear o2 b2 hz
          go_wp2
          go_roundw
          case rel => exact ⟨j + 1, hlt, by go_num, HI.out, toSucc H.out.2.1 hz'.out, HB.out⟩
          case measure => simp [intOf]; omega
        · go_wp2_with fail
          refine (specZero_any _ _ _ H.out.1).mono ?_
          rw [hz]
          rintro e w' ⟨rfl, rfl⟩
          have hd := Lib.hid (degN_at (by omega) H.out.2.1 hz)
          clear hz
          go_wp2
          go_ret
          exact ⟨by rw [HD.out, hd.out]; rfl, H.out.2.2⟩
      · have p1 : ¬ (j : Int) - 1 < 6 := by omega
        obtain rfl : j = 7 := by omega
        cases hz : zeroL (rowI l 7)
        · go_wp2_with fail
          refine (specZero_any _ _ _ H.out.1).mono ?_
          rw [hz]
          rintro e w' ⟨rfl, rfl⟩
          have hd := Lib.hid (degN_no (toSucc H.out.2.1 hz))
          clear hz
          go_wp2
          go_ret
          exact ⟨by rw [HD.out, hd.out]; rfl, H.out.2.2⟩
        · go_wp2_with fail
          refine (specZero_any _ _ _ H.out.1).mono ?_
          rw [hz]
          rintro e w' ⟨rfl, rfl⟩
          have hd := Lib.hid (degN_at (by omega) H.out.2.1 hz)
          clear hz
          go_wp2
          go_ret
          exact ⟨by rw [HD.out, hd.out]; rfl, H.out.2.2⟩
end Go.Proofs.YtpniljcnknknoaaGreatDoor

/-
  Interpolate and runs: the contracts of both sides.
-/
namespace Go.Proofs.YtpniljcnknknoaaGreatDoor
open Go.RowKit
set_option linter.unusedVariables false
set_option linter.unusedSimpArgs false
set_option maxRecDepth 100000
attribute [local go_sem ↓] Go.wp_at_zero Go.wp_at_succ

theorem it_no1 {l : List Int} (h : tableOk l = false) : itOk l = false ∧ itL l = [] := by simp [itOk, itL, h]
theorem it_no2 {l : List Int} (h : ¬ degN l ≤ 7) : itOk l = false ∧ itL l = [] := by simp [itOk, itL, h]
theorem it_yes {l : List Int} (ht : tableOk l = true) (hd : degN l ≤ 7) : itOk l = polyOk (itD l) ∧ itL l = chkL (itD l) := by
  have : itOk l = polyOk (itD l) := by simp [itOk, ht, hd]
  refine ⟨this, ?_⟩
  unfold itL chkL
  rw [this]
theorem Ints.takeN {w : World} {b o c : Nat} {l : List Int} (h : Ints w (.slice (some ⟨b, o, none⟩) l.length c) l) {n : Nat} (hn : n ≤ l.length) : Ints w (.slice (some ⟨b, o, none⟩) n c) (l.take n) := by
  obtain ⟨⟨A, c', e, h1, h2, h3⟩, hwf⟩ := h
  injection e with e1 e2 e3
  subst e1 e3
  have hl : (l.take n).length = n := by rw [List.length_take]; omega
  rw [iv_length] at h1
  refine ⟨⟨some ⟨b, o, none⟩, c, by rw [iv_length, hl], by rw [iv_length, hl]; omega, h2, fun hp => ?_⟩, fun x hx => hwf x (List.mem_of_mem_take hx)⟩
  rw [iv_length, hl] at hp
  obtain ⟨b2, o2, e, hlt, hc⟩ := h3 (by rw [iv_length]; omega)
  injection e with e
  injection e with e1 e2
  subst e1 e2
  refine ⟨b, o, rfl, hlt, fun k u hu => hc k u ?_⟩
  rw [← hu]
  have hk : k < n := by
    rcases Nat.lt_or_ge k n with q | q
    · exact q
    · rw [List.getElem?_eq_none (by rw [iv_length, hl]; exact q)] at hu; cases hu
  rw [iv_get _ k (by omega), iv_get _ k (by omega), at_take' hk]
set_option maxHeartbeats 2000000 in
theorem implIt_any (v : Value) (l : List Int) (w : World) (hv : Ints w v l) (hl : l.length ≤ 1048576) :
    Calls Tryz.prog 161 #[v] w (IntsQ w (itL l) (itOk l)) := by
  have HV := Lib.hid hv
  obtain ⟨A, c, rfl, hlc, hc, hrd⟩ := hv.open_
  have HR := Lib.hid hrd
  clear hv hrd
  go_enter Tryz.func161, Tryz.ntmps161
  go_wp2_with fail
  refine (implDeg_any _ l _ HV.out hl).mono ?_
  rintro e w2 ⟨rfl, b2⟩
  have HB := Lib.hid b2
  clear b2
  cases ht : tableOk l
  · have HN := Lib.hid (it_no1 ht)
    rw [degI_no ht]
    go_wp2
    go_ret2
    exact ⟨_, by rw [HN.out.1]; rfl, by rw [HN.out.2]; exact Own.nil_ _ _, HB.out⟩
  · rw [degI_yes ht]
    have hle := degN_len l
    have h1 := (tableOk_true ht).1
    obtain ⟨D, hD⟩ : ∃ D, degN l = D := ⟨_, rfl⟩
    rw [hD] at hle ⊢
    have q1 : (((D : Int) - 1) == -2) = false := by rw [beq_eq_false_iff_ne]; omega
    by_cases h7 : D ≤ 7
    · have q2 : ¬ (D : Int) - 1 > 6 := by omega
      have HY := Lib.hid (it_yes ht (by omega))
      obtain ⟨b, o, rfl, hb, hcell⟩ := HR.out.ints (by omega)
      clear hcell
      rcases Nat.eq_zero_or_pos D with h0 | h0
      · subst h0
        have HT := Lib.hid (show Ints w2 (.slice (some ⟨b, o, none⟩) 1 c) (l.take 1) from Ints.takeN (HV.out.bel HB.out) h1)
        have HE := Lib.hid (show itD l = diffsI (l.take 1) by unfold itD; rw [hD]; rfl)
        have HL := Lib.hid (show (l.take 1).length ≤ 1048576 by rw [List.length_take]; omega)
        have q4 : (1 : Int) ≤ (c : Int) := by omega
        rw [show (((0 : Nat) : Int) - 1) = -1 from rfl] at q1 q2 ⊢
        clear hD hle
        go_wp2_with fail
        refine (firstDiff_any _ _ _ HT.out HL.out).mono ?_
        rintro e w3 ⟨r, rfl, o3, b3⟩
        have HO := Lib.hid o3
        have HB3 := Lib.hid (bel_trans HB.out b3)
        obtain ⟨A3, c3, rfl, -, -, -⟩ := o3.ints.open_
        clear o3 b3
        go_wp2_with fail
        refine (checked_any _ _ _ HO.out.ints).mono ?_
        rintro e w4 ⟨rfl, rfl⟩
        go_wp2
        go_ret2
        exact ⟨_, by rw [HY.out.1, HE.out]; rfl, by rw [HY.out.2, HE.out]; exact (HO.out.lower HB.out.size).chk, HB3.out⟩
      · obtain ⟨k, rfl⟩ : ∃ k, D = k + 1 := ⟨D - 1, by omega⟩
        have hkl : k + 1 ≤ l.length := by omega
        have HT := Lib.hid (show Ints w2 (.slice (some ⟨b, o, none⟩) (k + 1) c) (l.take (k + 1)) from Ints.takeN (HV.out.bel HB.out) hkl)
        have HE := Lib.hid (show itD l = diffsI (l.take (k + 1)) by unfold itD; rw [hD, Nat.max_eq_left (by omega)])
        have HL := Lib.hid (show (l.take (k + 1)).length ≤ 1048576 by rw [List.length_take]; omega)
        have q4 : (k : Int) + 1 ≤ (c : Int) := by omega
        have q5 : (0 : Int) ≤ (k : Int) + 1 := by omega
        have q6 : ((k : Int) + 1).toNat = k + 1 := by omega
        have q7 : IntKind.i64.wrap ((k : Int) + 1) = (k : Int) + 1 := by rw [IntWalk.i64_in] <;> omega
        have q8 : ¬ (k : Int) < 0 := by omega
        have q9 : ¬ (k : Int) > 6 := by omega
        rw [show (((k + 1 : Nat) : Int) - 1) = (k : Int) from by omega] at q1 ⊢
        clear hD hle q2
        go_wp2_with fail
        refine (firstDiff_any _ _ _ HT.out HL.out).mono ?_
        rintro e w3 ⟨r, rfl, o3, b3⟩
        have HO := Lib.hid o3
        have HB3 := Lib.hid (bel_trans HB.out b3)
        obtain ⟨A3, c3, rfl, -, -, -⟩ := o3.ints.open_
        clear o3 b3
        go_wp2_with fail
        refine (checked_any _ _ _ HO.out.ints).mono ?_
        rintro e w4 ⟨rfl, rfl⟩
        go_wp2
        go_ret2
        exact ⟨_, by rw [HY.out.1, HE.out]; rfl, by rw [HY.out.2, HE.out]; exact (HO.out.lower HB.out.size).chk, HB3.out⟩
    · have HN := Lib.hid (it_no2 (l := l) (by omega))
      have q2 : (D : Int) - 1 > 6 := by omega
      clear hD
      go_wp2
      go_ret2
      exact ⟨_, by rw [HN.out.1]; rfl, by rw [HN.out.2]; exact Own.nil_ _ _, HB.out⟩
set_option maxHeartbeats 2000000 in
theorem specIt_any (v : Value) (l : List Int) (w : World) (hv : Ints w v l) (hl : l.length ≤ 1048576) :
    Calls Tryz.prog 219 #[v] w (IntsQ w (itL l) (itOk l)) := by
  have HV := Lib.hid hv
  obtain ⟨A, c, rfl, hlc, hc, hrd⟩ := hv.open_
  have HR := Lib.hid hrd
  clear hv hrd
  go_enter Tryz.func219, Tryz.ntmps219
  go_wp2_with fail
  refine (specDeg_any _ l _ HV.out hl).mono ?_
  rintro e w2 ⟨rfl, b2⟩
  have HB := Lib.hid b2
  clear b2
  cases ht : tableOk l
  · have HN := Lib.hid (it_no1 ht)
    rw [degI_no ht]
    have OE := Lib.hid (Own.empty w2 w.heap.size HB.out.size)
    go_wp2_with fail
    refine (l1In_any _ _ _ _).mono ?_
    rintro e w3 ⟨rfl, rfl⟩
    rw [show inB (-2) (-1) 6 = false from rfl]
    go_wp2
    go_ret2
    exact ⟨_, by rw [HN.out.1]; rfl, by rw [HN.out.2]; exact OE.out, bel_trans HB.out (bel_alloc _ _)⟩
  · rw [degI_yes ht]
    have hle := degN_len l
    have h1 := (tableOk_true ht).1
    obtain ⟨D, hD⟩ : ∃ D, degN l = D := ⟨_, rfl⟩
    rw [hD] at hle ⊢
    have OE := Lib.hid (Own.empty w2 w.heap.size HB.out.size)
    go_wp2_with fail
    refine (l1In_any _ _ _ _).mono ?_
    rintro e w3 ⟨rfl, rfl⟩
    by_cases h7 : D ≤ 7
    · have HY := Lib.hid (it_yes ht (by omega))
      obtain ⟨b, o, rfl, hb, hcell⟩ := HR.out.ints (by omega)
      clear hcell
      rw [show inB ((D : Int) - 1) (-1) 6 = true from inB_true.2 (by omega)]
      rcases Nat.eq_zero_or_pos D with h0 | h0
      · subst h0
        have HT := Lib.hid (show Ints w2 (.slice (some ⟨b, o, none⟩) 1 c) (l.take 1) from Ints.takeN (HV.out.bel HB.out) h1)
        have HE := Lib.hid (show itD l = diffsI (l.take 1) by unfold itD; rw [hD]; rfl)
        have HL := Lib.hid (show (l.take 1).length ≤ 1048576 by rw [List.length_take]; omega)
        have q4 : (1 : Int) ≤ (c : Int) := by omega
        rw [show (((0 : Nat) : Int) - 1) = -1 from rfl] at ⊢
        clear hD hle
        go_wp2_with fail
        refine (l2Result_any _ _ _ HT.out HL.out).mono ?_
        rintro e w3 ⟨r, rfl, o3, b3⟩
        have HO := Lib.hid (o3.lower HB.out.size)
        have HB3 := Lib.hid (bel_trans HB.out b3)
        obtain ⟨A3, c3, rfl, -, -, -⟩ := o3.ints.open_
        clear o3 b3
        go_wp2
        go_ret2
        exact ⟨_, by rw [HY.out.1, HE.out]; rfl, by rw [HY.out.2, HE.out]; exact HO.out, HB3.out⟩
      · obtain ⟨k, rfl⟩ : ∃ k, D = k + 1 := ⟨D - 1, by omega⟩
        have hkl : k + 1 ≤ l.length := by omega
        have HT := Lib.hid (show Ints w2 (.slice (some ⟨b, o, none⟩) (k + 1) c) (l.take (k + 1)) from Ints.takeN (HV.out.bel HB.out) hkl)
        have HE := Lib.hid (show itD l = diffsI (l.take (k + 1)) by unfold itD; rw [hD, Nat.max_eq_left (by omega)])
        have HL := Lib.hid (show (l.take (k + 1)).length ≤ 1048576 by rw [List.length_take]; omega)
        have q4 : (k : Int) + 1 ≤ (c : Int) := by omega
        have q5 : (0 : Int) ≤ (k : Int) + 1 := by omega
        have q6 : ((k : Int) + 1).toNat = k + 1 := by omega
        have q7 : IntKind.i64.wrap ((k : Int) + 1) = (k : Int) + 1 := by rw [IntWalk.i64_in] <;> omega
        have q8 : ¬ (k : Int) + 1 < 1 := by omega
        rw [show (((k + 1 : Nat) : Int) - 1) = (k : Int) from by omega] at ⊢
        clear hD hle
        go_wp2_with fail
        refine (l2Result_any _ _ _ HT.out HL.out).mono ?_
        rintro e w3 ⟨r, rfl, o3, b3⟩
        have HO := Lib.hid (o3.lower HB.out.size)
        have HB3 := Lib.hid (bel_trans HB.out b3)
        obtain ⟨A3, c3, rfl, -, -, -⟩ := o3.ints.open_
        clear o3 b3
        go_wp2
        go_ret2
        exact ⟨_, by rw [HY.out.1, HE.out]; rfl, by rw [HY.out.2, HE.out]; exact HO.out, HB3.out⟩
    · have HN := Lib.hid (it_no2 (l := l) (by omega))
      rw [show inB ((D : Int) - 1) (-1) 6 = false from inB_false.2 (by omega)]
      clear hD
      go_wp2
      go_ret2
      exact ⟨_, by rw [HN.out.1]; rfl, by rw [HN.out.2]; exact OE.out, bel_trans HB.out (bel_alloc _ _)⟩
set_option maxHeartbeats 2000000 in
theorem runOf_any (v : Value) (l : List Int) (d : Int) (w : World) (hv : Ints w v l) (hl : l.length ≤ 1048576) (hd : 0 ≤ d) :
    Calls Tryz.prog 96 #[v, .int .i64 d] w (IntsQ w (rnL l d) (rnOk l d)) := by
  have HV := Lib.hid hv
  obtain ⟨A, c, rfl, -, -, -⟩ := hv.open_
  clear hv
  go_enter Tryz.func96, Tryz.ntmps96
  go_wp2_with fail
  refine (implDeg_any _ l _ HV.out hl).mono ?_
  rintro e w2 ⟨rfl, b2⟩
  have HB := Lib.hid b2
  clear b2
  cases ht : tableOk l
  · have HN := Lib.hid (show rnOk l d = false ∧ rnL l d = [] by simp [rnOk, rnL, it_no1 ht])
    rw [degI_no ht]
    go_wp2
    go_ret2
    exact ⟨_, by rw [HN.out.1]; rfl, by rw [HN.out.2]; exact Own.nil_ _ _, HB.out⟩
  · have hdg := degI_yes ht
    obtain ⟨D, hD⟩ : ∃ D, degI l = D := ⟨_, rfl⟩
    rw [hD] at hdg ⊢
    have q1 : (D == -2) = false := by rw [beq_eq_false_iff_ne]; omega
    clear hdg
    by_cases h7 : D ≤ d
    · have HY := Lib.hid (rnL_it (l := l) (d := d) (by omega))
      have q2 : ¬ D > d := by omega
      clear hD
      go_wp2_with fail
      refine (implIt_any _ l _ (HV.out.bel HB.out) hl).mono ?_
      rintro e w3 ⟨r, rfl, o3, b3⟩
      have HO := Lib.hid (o3.lower HB.out.size)
      have HB3 := Lib.hid (bel_trans HB.out b3)
      obtain ⟨A3, c3, rfl, -, -, -⟩ := o3.ints.open_
      clear o3 b3
      go_wp2
      go_ret2
      exact ⟨_, by rw [HY.out.1]; rfl, by rw [HY.out.2]; exact HO.out, HB3.out⟩
    · have HN := Lib.hid (rn_far (l := l) (d := d) (by omega))
      have q2 : D > d := by omega
      clear hD
      go_wp2
      go_ret2
      exact ⟨_, by rw [HN.out.1]; rfl, by rw [HN.out.2]; exact Own.nil_ _ _, HB.out⟩
set_option maxHeartbeats 2000000 in
theorem specRun5_any (v : Value) (l : List Int) (d : Int) (w : World) (hv : Ints w v l) (hl : l.length ≤ 1048576) :
    Calls Tryz.prog 166 #[v, .int .i64 d] w (IntsQ w (rnL l d) (rnOk l d)) := by
  have HV := Lib.hid hv
  obtain ⟨A, c, rfl, -, -, -⟩ := hv.open_
  clear hv
  go_enter Tryz.func166, Tryz.ntmps166
  go_wp2_with fail
  refine (specDeg_any _ l _ HV.out hl).mono ?_
  rintro e w2 ⟨rfl, b2⟩
  have HB := Lib.hid b2
  clear b2
  have OE := Lib.hid (Own.empty w2 w.heap.size HB.out.size)
  obtain ⟨D, hD⟩ : ∃ D, degI l = D := ⟨_, rfl⟩
  rw [hD]
  by_cases h7 : D ≤ d
  · have HY := Lib.hid (rnL_it (l := l) (d := d) (by omega))
    have q2 : ¬ D > d := by omega
    clear hD
    go_wp2_with fail
    refine (specIt_any _ l _ (HV.out.bel HB.out) hl).mono ?_
    rintro e w3 ⟨r, rfl, o3, b3⟩
    have HO := Lib.hid (o3.lower HB.out.size)
    have HB3 := Lib.hid (bel_trans HB.out b3)
    obtain ⟨A3, c3, rfl, -, -, -⟩ := o3.ints.open_
    clear o3 b3
    go_wp2
    go_ret2
    exact ⟨_, by rw [HY.out.1]; rfl, by rw [HY.out.2]; exact HO.out, HB3.out⟩
  · have HN := Lib.hid (rn_far (l := l) (d := d) (by omega))
    have q2 : D > d := by omega
    clear hD
    go_wp2
    go_ret2
    exact ⟨_, by rw [HN.out.1]; rfl, by rw [HN.out.2]; exact OE.out, bel_trans HB.out (bel_alloc _ _)⟩
end Go.Proofs.YtpniljcnknknoaaGreatDoor

/-
  The cheapest plan, plainly: least costs from each place on, and the longest segment that has the least cost, found in two ways.
-/
namespace Go.Proofs.YtpniljcnknknoaaGreatDoor
open Go.RowKit
set_option linter.unusedVariables false
set_option linter.unusedSimpArgs false

/-- The least of 2^40 and f 1 .. f n. -/
def msF (f : Nat → Int) : Nat → Int
  | 0 => 1099511627776
  | n + 1 => min (msF f n) (f (n + 1))
/-- From N down: the least so far, and the greatest place that has it; place 0 ahead of the first. -/
def selF (f : Nat → Int) (N : Nat) : Nat → Int × Nat
  | 0 => (0, 0)
  | q + 1 => if (selF f N q).2 = 0 ∨ f (N - q) < (selF f N q).1 then (f (N - q), N - q) else selF f N q
theorem selF_take {f : Nat → Int} {N q : Nat} (h : (selF f N q).2 = 0 ∨ f (N - q) < (selF f N q).1) : selF f N (q + 1) = (f (N - q), N - q) := by simp [selF, h]
theorem selF_keep {f : Nat → Int} {N q : Nat} (h : ¬ ((selF f N q).2 = 0 ∨ f (N - q) < (selF f N q).1)) : selF f N (q + 1) = selF f N q := by
  rw [selF, if_neg h]
theorem sel_spec (f : Nat → Int) (N : Nat) : ∀ q, q + 1 ≤ N → N - (q + 1) < (selF f N (q + 1)).2 ∧ (selF f N (q + 1)).2 ≤ N ∧ f (selF f N (q + 1)).2 = (selF f N (q + 1)).1 ∧
    (∀ i, N - (q + 1) < i → i ≤ N → (selF f N (q + 1)).1 ≤ f i) ∧ (∀ i, (selF f N (q + 1)).2 < i → i ≤ N → (selF f N (q + 1)).1 < f i)
  | 0, h => by
    have e : selF f N 1 = (f N, N) := by simp [selF]
    rw [e]
    refine ⟨by show N - 1 < N; omega, Nat.le_refl _, rfl, fun i h1 h2 => ?_, fun i h1 h2 => ?_⟩
    · obtain rfl : i = N := by omega
      exact Int.le_refl _
    · have : N < i := h1
      omega
  | q + 1, h => by
    obtain ⟨h1, h2, h3, h4, h5⟩ := sel_spec f N q (by omega)
    by_cases hc : (selF f N (q + 1)).2 = 0 ∨ f (N - (q + 1)) < (selF f N (q + 1)).1
    · rcases hc with hc | hc
      · omega
      · rw [selF_take (.inr hc)]
        refine ⟨by show N - (q + 1 + 1) < N - (q + 1); omega, by show N - (q + 1) ≤ N; omega, rfl, fun i k1 k2 => ?_, fun i k1 k2 => ?_⟩
        · show f (N - (q + 1)) ≤ f i
          by_cases e : i = N - (q + 1)
          · rw [e]; exact Int.le_refl _
          · have := h4 i (by omega) k2
            omega
        · show f (N - (q + 1)) < f i
          have k3 : N - (q + 1) < i := k1
          have := h4 i k3 k2
          omega
    · rw [selF_keep hc]
      have hc2 : ¬ f (N - (q + 1)) < (selF f N (q + 1)).1 := fun e => hc (.inr e)
      refine ⟨by omega, h2, h3, fun i k1 k2 => ?_, h5⟩
      by_cases e : i = N - (q + 1)
      · rw [e]; omega
      · exact h4 i (by omega) k2
theorem ms_le (f : Nat → Int) : ∀ n i, 1 ≤ i → i ≤ n → msF f n ≤ f i
  | 0, i, h1, h2 => by omega
  | n + 1, i, h1, h2 => by
    rw [msF]
    by_cases e : i = n + 1
    · rw [e]; exact Int.min_le_right _ _
    · exact Int.le_trans (Int.min_le_left _ _) (ms_le f n i h1 (by omega))
theorem ms_is (f : Nat → Int) : ∀ n, msF f n = 1099511627776 ∨ ∃ i, 1 ≤ i ∧ i ≤ n ∧ msF f n = f i
  | 0 => .inl rfl
  | n + 1 => by
    rw [msF]
    rcases Int.le_total (msF f n) (f (n + 1)) with h | h
    · rw [Int.min_eq_left h]
      rcases ms_is f n with h2 | ⟨i, h2, h3, h4⟩
      · exact .inl h2
      · exact .inr ⟨i, h2, by omega, h4⟩
    · rw [Int.min_eq_right h]
      exact .inr ⟨n + 1, by omega, Nat.le_refl _, rfl⟩
theorem ms_bd {f : Nat → Int} {n : Nat} {B : Int} (hB : B < 1099511627776) (h1 : 1 ≤ n) (h : ∀ i, 1 ≤ i → i ≤ n → 0 ≤ f i ∧ f i ≤ B) : 0 ≤ msF f n ∧ msF f n ≤ B := by
  have k := ms_le f n 1 (Nat.le_refl _) h1
  have := h 1 (Nat.le_refl _) h1
  rcases ms_is f n with h2 | ⟨i, h2, h3, h4⟩
  · omega
  · have := h i h2 h3
    omega
/-- Both ways find the same. -/
theorem ms_sel {f : Nat → Int} {N : Nat} (h1 : 1 ≤ N) (h : ∀ i, 1 ≤ i → i ≤ N → f i < 1099511627776) : msF f N = (selF f N N).1 := by
  obtain ⟨q, rfl⟩ : ∃ q, N = q + 1 := ⟨N - 1, by omega⟩
  obtain ⟨k1, k2, k3, k4, k5⟩ := sel_spec f (q + 1) q (Nat.le_refl _)
  have a := ms_le f (q + 1) (selF f (q + 1) (q + 1)).2 (by omega) k2
  rcases ms_is f (q + 1) with h2 | ⟨i, h2, h3, h4⟩
  · have := h (selF f (q + 1) (q + 1)).2 (by omega) k2
    omega
  · have := k4 i (by omega) h3
    omega
/-- The first place from N down that has the least cost. -/
theorem sel_first {f : Nat → Int} {N n : Nat} (h1 : 1 ≤ N) (hn1 : 1 ≤ n) (hn : n ≤ N) (he : f n = (selF f N N).1) (hno : ∀ i, n < i → i ≤ N → f i ≠ (selF f N N).1) : n = (selF f N N).2 := by
  obtain ⟨q, rfl⟩ : ∃ q, N = q + 1 := ⟨N - 1, by omega⟩
  obtain ⟨k1, k2, k3, k4, k5⟩ := sel_spec f (q + 1) q (Nat.le_refl _)
  rcases Nat.lt_trichotomy n (selF f (q + 1) (q + 1)).2 with h | h | h
  · exact absurd k3 (hno _ h k2)
  · exact h
  · have := k5 n h hn
    omega
/-- What the first n entries cost, with the least cost behind them. -/
def cfF (l : List Int) (s c : Int) (B : List Int) (n : Nat) : Int := s + c * ((itD (l.take n)).length : Int) + at_ B (n - 1)
/-- The least costs of the last k entries, of the last k - 1, .., of none. -/
def csL (v : List Int) (d s c : Int) : Nat → List Int
  | 0 => [0]
  | k + 1 => msF (cfF (v.drop (v.length - (k + 1))) s c (csL v d s c k)) (lgN (v.drop (v.length - (k + 1))) d) :: csL v d s c k
theorem csL_len (v : List Int) (d s c : Int) : ∀ k, (csL v d s c k).length = k + 1
  | 0 => rfl
  | k + 1 => by simp [csL, csL_len v d s c k]
theorem cost_bd {s c : Int} {n : Nat} (h0 : 0 ≤ s) (h1 : s ≤ 1000) (h2 : 0 ≤ c) (h3 : c ≤ 1000) (hn : n ≤ 7) : 0 ≤ s + c * (n : Int) ∧ s + c * (n : Int) ≤ 8000 ∧ 0 ≤ c * (n : Int) ∧ c * (n : Int) ≤ 7000 := by
  have a : c * (n : Int) ≤ 1000 * 7 := Int.mul_le_mul h3 (by omega) (by omega) (by omega)
  have b : 0 ≤ c * (n : Int) := Int.mul_nonneg h2 (by omega)
  omega
theorem itD7 {l : List Int} {d : Int} (hr : rnOk l d = true) : 1 ≤ (itD l).length ∧ (itD l).length ≤ 7 := by
  unfold rnOk itOk at hr
  rw [Bool.and_eq_true, Bool.and_eq_true] at hr
  obtain ⟨h1, h2, -⟩ := polyOk_true.1 hr.2.2
  exact ⟨h1, h2⟩
theorem csL_bd {v : List Int} {d s c : Int} (hv : smOk v = true) (hd0 : 0 ≤ d) (hd6 : d ≤ 6) (h0 : 0 ≤ s) (h1 : s ≤ 1000) (h2 : 0 ≤ c) (h3 : c ≤ 1000) : ∀ k, k ≤ v.length → ∀ i, i < k + 1 → 0 ≤ at_ (csL v d s c k) i ∧ at_ (csL v d s c k) i ≤ 8000 * (k : Int)
  | 0, _, i, hi => by
    obtain rfl : i = 0 := by omega
    exact ⟨Int.le_refl _, Int.le_refl _⟩
  | k + 1, hk, i, hi => by
    have ih := csL_bd hv hd0 hd6 h0 h1 h2 h3 k (by omega)
    have h60 := (smOk_iff.1 hv).2.1
    rw [csL]
    cases i with
    | succ i =>
      have := ih i (by omega)
      have e : at_ (msF (cfF (v.drop (v.length - (k + 1))) s c (csL v d s c k)) (lgN (v.drop (v.length - (k + 1))) d) :: csL v d s c k) (i + 1) = at_ (csL v d s c k) i := rfl
      rw [e]
      omega
    | zero =>
      have hs := smOk_drop hv (i := v.length - (k + 1)) (by omega)
      have hp := lgN_pos hs hd0 hd6
      have hl := lgN_le (v.drop (v.length - (k + 1))) d
      rw [List.length_drop] at hl
      refine ms_bd (B := 8000 * ((k + 1 : Nat) : Int)) (by omega) hp fun j j1 j2 => ?_
      have a := itD7 (lgN_in j1 j2)
      have b := cost_bd (n := (itD ((v.drop (v.length - (k + 1))).take j)).length) h0 h1 h2 h3 a.2
      have e := ih (j - 1) (by omega)
      unfold cfF
      omega
/-- The costs from place i + 1 on, and the costs of segments from place i on. -/
def cfA (v : List Int) (d s c : Int) (i : Nat) : Nat → Int := cfF (v.drop i) s c (csL v d s c (v.length - (i + 1)))
theorem cfA_bd {v : List Int} {d s c : Int} (hv : smOk v = true) (hd0 : 0 ≤ d) (hd6 : d ≤ 6) (h0 : 0 ≤ s) (h1 : s ≤ 1000) (h2 : 0 ≤ c) (h3 : c ≤ 1000) {i j : Nat} (hi : i < v.length) (j1 : 1 ≤ j) (j2 : j ≤ v.length - i) (hr : rnOk ((v.drop i).take j) d = true) :
    0 ≤ cfA v d s c i j ∧ cfA v d s c i j ≤ 480000 := by
  have h60 := (smOk_iff.1 hv).2.1
  have a := itD7 hr
  have b := cost_bd (n := (itD ((v.drop i).take j)).length) h0 h1 h2 h3 a.2
  have e := csL_bd hv hd0 hd6 h0 h1 h2 h3 (v.length - (i + 1)) (by omega) (j - 1) (by omega)
  unfold cfA cfF
  omega
theorem csL_at {v : List Int} {d s c : Int} {i : Nat} (hi : i < v.length) : csL v d s c (v.length - i) = msF (cfA v d s c i) (lgN (v.drop i) d) :: csL v d s c (v.length - (i + 1)) := by
  rw [show v.length - i = (v.length - (i + 1)) + 1 by omega, csL, show v.length - (v.length - (i + 1) + 1) = i by omega]
  rfl
/-- The least cost from a place on, wherever the list begins. -/
theorem csL_tail (v : List Int) (d s c : Int) : ∀ k j m, j + m = k → at_ (csL v d s c k) j = at_ (csL v d s c m) 0
  | 0, j, m, h => by
    obtain rfl : j = 0 := by omega
    obtain rfl : m = 0 := by omega
    rfl
  | k + 1, 0, m, h => by
    obtain rfl : m = k + 1 := by omega
    rfl
  | k + 1, j + 1, m, h => by
    have e : at_ (csL v d s c (k + 1)) (j + 1) = at_ (csL v d s c k) j := rfl
    rw [e]
    exact csL_tail v d s c k j m (by omega)
/-- The length of the segment that begins at place i. -/
def chN (v : List Int) (d s c : Int) (i : Nat) : Nat := (selF (cfA v d s c i) (lgN (v.drop i) d) (lgN (v.drop i) d)).2
theorem chN_in {v : List Int} {d s c : Int} (hv : smOk v = true) (hd0 : 0 ≤ d) (hd6 : d ≤ 6) {i : Nat} (hi : i < v.length) : 1 ≤ chN v d s c i ∧ chN v d s c i ≤ lgN (v.drop i) d ∧ lgN (v.drop i) d ≤ v.length - i := by
  have hp := lgN_pos (smOk_drop hv hi) hd0 hd6
  have hl := lgN_le (v.drop i) d
  rw [List.length_drop] at hl
  obtain ⟨q, hq⟩ : ∃ q, lgN (v.drop i) d = q + 1 := ⟨lgN (v.drop i) d - 1, by omega⟩
  obtain ⟨k1, k2, -⟩ := sel_spec (cfA v d s c i) (q + 1) q (Nat.le_refl _)
  unfold chN
  rw [hq]
  omega
theorem ch_ms {v : List Int} {d s c : Int} (hv : smOk v = true) (hd0 : 0 ≤ d) (hd6 : d ≤ 6) (h0 : 0 ≤ s) (h1 : s ≤ 1000) (h2 : 0 ≤ c) (h3 : c ≤ 1000) {i : Nat} (hi : i < v.length) :
    at_ (csL v d s c (v.length - i)) 0 = (selF (cfA v d s c i) (lgN (v.drop i) d) (lgN (v.drop i) d)).1 := by
  have hs := smOk_drop hv hi
  have hl := lgN_le (v.drop i) d
  rw [List.length_drop] at hl
  rw [csL_at hi]
  refine ms_sel (lgN_pos hs hd0 hd6) fun j j1 j2 => ?_
  have := cfA_bd (s := s) (c := c) hv hd0 hd6 h0 h1 h2 h3 hi j1 (by omega) (lgN_in j1 j2)
  omega
/-- Segments one behind the other: from place i on, of g i entries each. -/
def sgF (v : List Int) (g : Nat → Nat) : Nat → Nat → List (Nat × List Int)
  | 0, _ => []
  | f + 1, i => if i < v.length then (g i, itD ((v.drop i).take (g i))) :: sgF v g f (i + g i) else []
def sgL (v : List Int) (g : Nat → Nat) (i : Nat) : List (Nat × List Int) := sgF v g (v.length - i) i
theorem sgF_fuel {v : List Int} {g : Nat → Nat} (hg : ∀ i, i < v.length → 1 ≤ g i) : ∀ f i, v.length - i ≤ f → sgF v g f i = sgF v g (v.length - i) i
  | 0, i, h => by rw [show v.length - i = 0 by omega]
  | f + 1, i, h => by
    by_cases hi : i < v.length
    · obtain ⟨m, hm⟩ : ∃ m, v.length - i = m + 1 := ⟨v.length - i - 1, by omega⟩
      rw [hm, sgF, sgF, if_pos hi, if_pos hi]
      have := hg i hi
      rw [sgF_fuel hg f (i + g i) (by omega), sgF_fuel hg m (i + g i) (by omega)]
    · rw [show v.length - i = 0 by omega]
      simp [sgF, hi]
theorem sgL_at {v : List Int} {g : Nat → Nat} (hg : ∀ i, i < v.length → 1 ≤ g i) {i : Nat} (hi : i < v.length) : sgL v g i = (g i, itD ((v.drop i).take (g i))) :: sgL v g (i + g i) := by
  unfold sgL
  obtain ⟨m, hm⟩ : ∃ m, v.length - i = m + 1 := ⟨v.length - i - 1, by omega⟩
  have := hg i hi
  rw [hm, sgF, if_pos hi, sgF_fuel hg m (i + g i) (by omega)]
theorem sgL_end {v : List Int} {g : Nat → Nat} {i : Nat} (hi : v.length ≤ i) : sgL v g i = [] := by
  unfold sgL
  rw [show v.length - i = 0 by omega]
  rfl
/-- The cheapest plan and the plan by longest runs. -/
def chL (v : List Int) (d s c : Int) : List (Nat × List Int) := sgL v (chN v d s c) 0
def grL (v : List Int) (d : Int) : List (Nat × List Int) := sgL v (fun i => lgN (v.drop i) d) 0
end Go.Proofs.YtpniljcnknknoaaGreatDoor

/-
  Small tables, degrees, and how long the first run is: the contracts of both sides.
-/
namespace Go.Proofs.YtpniljcnknknoaaGreatDoor
open Go.RowKit
set_option linter.unusedVariables false
set_option linter.unusedSimpArgs false
set_option maxRecDepth 100000
attribute [local go_sem ↓] Go.wp_at_zero Go.wp_at_succ

set_option maxHeartbeats 1000000 in
theorem implSmall_any (v : Value) (l : List Int) (w : World) (hv : Ints w v l) :
    Calls Tryz.prog 93 #[v] w fun e w' => e = .returned (.bool (smOk l)) ∧ w = w' := by
  have HV := Lib.hid hv
  obtain ⟨A, c, rfl, -, -, -⟩ := hv.open_
  have hs : smOk l = (tableOk l && l.all fun t => inB t (-1500) 1500) := rfl
  rw [hs]
  clear hv hs
  go_enter Tryz.func93, Tryz.ntmps93
  cases ht : tableOk l
  · go_wp2_with (go_at_call 31; refine (implTable_any _ _ _ HV.out).mono ?_; rintro e w' ⟨rfl, rfl⟩)
    go_ret
    exact ⟨rfl, rfl⟩
  · go_wp2_with (first
      | (go_at_call 31; refine (implTable_any _ _ _ HV.out).mono ?_; rintro e w' ⟨rfl, rfl⟩)
      | (go_at_call 89; refine (allWithin_any _ l 1500 _ HV.out (by omega) (by omega)).mono ?_; rintro e w' ⟨rfl, rfl⟩))
    go_ret
    exact ⟨rfl, rfl⟩
set_option maxHeartbeats 1000000 in
theorem degV_any (d : Int) (w : World) :
    Calls Tryz.prog 94 #[.int .i64 d] w fun e w' => e = .returned (.bool (inB d 0 6)) ∧ w = w' := by
  go_enter Tryz.func94, Tryz.ntmps94
  go_wp2
  all_goals (go_ret; refine ⟨?_, rfl⟩; first | (simp_all [inB]; done) | (simp_all [inB]; omega))
set_option maxHeartbeats 1000000 in
theorem l4Deg_any (d : Int) (w : World) :
    Calls Tryz.prog 108 #[.int .i64 d] w fun e w' => e = .returned (.bool (inB d 0 6)) ∧ w = w' := by
  go_enter Tryz.func108, Tryz.ntmps108
  go_wp2_with fail
  refine (l1In_any _ _ _ _).mono ?_
  rintro e w' ⟨rfl, rfl⟩
  go_wp2
  go_ret
  exact ⟨rfl, rfl⟩
set_option maxHeartbeats 1000000 in
theorem specSmall_any (v : Value) (l : List Int) (w : World) (hv : Ints w v l) :
    Calls Tryz.prog 162 #[v] w fun e w' => e = .returned (.bool (smOk l)) ∧ w = w' := by
  have HV := Lib.hid hv
  obtain ⟨A, c, rfl, hlc, hc, hrd⟩ := hv.open_
  clear hv
  go_enter Tryz.func162, Tryz.ntmps162
  go_wp2
  go_loop [3] (fun i => ∃ k : Nat, k ≤ l.length ∧ i = .int .i64 k ∧ ∀ j, j < k → inB (at_ l j) (-1500) 1500 = true) (fun i => l.length - (intOf i).toNat)
  case atStart => exact ⟨0, Nat.zero_le _, rfl, fun j hj => absurd hj (by omega)⟩
  case round =>
    obtain ⟨k, hk, rfl, hall⟩ := hrel
    have HA := Lib.hid hall
    clear hall
    by_cases hlt : k < l.length
    · obtain ⟨bb, o, rfl, hb, hcell⟩ := hrd.ints (by omega)
      have hck := hcell k hlt
      clear hcell
      go_wp2_with (go_at_call 138; refine (l1In_any _ _ _ _).mono ?_; rintro e w' ⟨rfl, rfl⟩)
      · have h : (!inB (at_ l k) (-1500) 1500) = true := by assumption
        have HZ := Lib.hid (show smOk l = false by
          have := allNot (p := fun t => inB t (-1500) 1500) hlt (by simpa using h)
          unfold smOk
          rw [this, Bool.and_false])
        go_ret
        exact ⟨ret_bool HZ.out.symm, rfl⟩
      · have h : (!inB (at_ l k) (-1500) 1500) = false := by assumption
        go_round
        case rel => exact ⟨k + 1, by omega, by go_num, toSucc HA.out (by simpa using h)⟩
        case measure => simp [intOf]; omega
    · have HZ := Lib.hid (show smOk l = tableOk l by
        have := allTo (p := fun t => inB t (-1500) 1500) (fun j hj => HA.out j (by omega))
        unfold smOk
        rw [this, Bool.and_true])
      go_wp2_with fail
      refine (specTable_any _ _ _ HV.out).mono ?_
      rintro e w' ⟨rfl, rfl⟩
      go_wp2
      go_ret
      exact ⟨ret_bool HZ.out.symm, rfl⟩
set_option maxHeartbeats 1000000 in
theorem l5Cost_any (s c : Int) (w : World) :
    Calls Tryz.prog 163 #[.int .i64 s, .int .i64 c] w fun e w' => e = .returned (.bool (inB s 0 1000 && inB c 0 1000)) ∧ w = w' := by
  go_enter Tryz.func163, Tryz.ntmps163
  cases hs : inB s 0 1000
  · go_wp2_with (go_at_call 138; refine (l1In_any _ _ _ _).mono ?_; rintro e w' ⟨rfl, rfl⟩)
    go_ret
    exact ⟨rfl, rfl⟩
  · go_wp2_with (go_at_call 138; refine (l1In_any _ _ _ _).mono ?_; rintro e w' ⟨rfl, rfl⟩)
    go_ret
    exact ⟨rfl, rfl⟩
set_option maxHeartbeats 2000000 in
theorem specLong_any (v : Value) (l : List Int) (d : Int) (w : World) (hv : Ints w v l) (hl : l.length ≤ 1000000) :
    Calls Tryz.prog 165 #[v, .int .i64 d] w fun e w' => e = .returned (.int .i64 (lgN l d : Nat)) ∧ Below w.heap.size w w' := by
  have HV := Lib.hid hv
  obtain ⟨A, c, rfl, hlc, hc, hrd⟩ := hv.open_
  have HR := Lib.hid hrd
  clear hv hrd
  go_enter Tryz.func165, Tryz.ntmps165
  go_wp2
  go_loopw [5] (fun i wr => ∃ n : Nat, n ≤ l.length ∧ i = .int .i64 n ∧ (∀ j, j < n → rnOk (l.take (j + 1)) d = true) ∧ Below w.heap.size w wr) (fun i _ => l.length - (intOf i).toNat)
  case atStart => exact ⟨0, Nat.zero_le _, rfl, fun j hj => absurd hj (by omega), Below.refl _ _⟩
  case round =>
    obtain ⟨n, hn, rfl, hall, hb⟩ := hrel
    have H := Lib.hid (And.intro hall hb)
    clear hall hb
    by_cases hlt : n < l.length
    · obtain ⟨b, o, rfl, hbb, hcell⟩ := HR.out.ints (by omega)
      have HT := Lib.hid (show Ints wr (.slice (some ⟨b, o, none⟩) (n + 1) c) (l.take (n + 1)) from Ints.takeN (HV.out.bel H.out.2) hlt)
      have HL := Lib.hid (show (l.take (n + 1)).length ≤ 1048576 by rw [List.length_take]; omega)
      have q4 : (n : Int) + 1 ≤ (c : Int) := by omega
      have q5 : (0 : Int) ≤ (n : Int) + 1 := by omega
      have q6 : ((n : Int) + 1).toNat = n + 1 := by omega
      have q7 : IntKind.i64.wrap ((n : Int) + 1) = (n : Int) + 1 := by rw [IntWalk.i64_in] <;> omega
      clear hcell
      go_wp2_with fail
      refine (specRun5_any _ _ d _ HT.out HL.out).mono ?_
      rintro e w3 ⟨r, rfl, o3, b3⟩
      obtain ⟨A3, c3, rfl, -, -, -⟩ := o3.ints.open_
      have HB3 := Lib.hid (bel_trans H.out.2 b3)
      clear o3 b3
      cases hr : rnOk (l.take (n + 1)) d
      · have HZ := Lib.hid (lgN_up hn H.out.1 (.inr hr))
        clear hr
        go_wp2
        go_ret
        exact ⟨by rw [HZ.out]; rfl, HB3.out⟩
      · have HZ := Lib.hid (toSucc H.out.1 hr)
        clear hr
        go_wp2
        go_roundw
        case rel => exact ⟨n + 1, hlt, by go_num, HZ.out, HB3.out⟩
        case measure => simp [intOf]; omega
    · have HZ := Lib.hid (lgN_up hn H.out.1 (.inl (by omega)))
      go_wp2
      go_ret
      exact ⟨by rw [HZ.out]; rfl, H.out.2⟩
theorem Ints.midN {w : World} {b o c : Nat} {l : List Int} (h : Ints w (.slice (some ⟨b, o, none⟩) l.length c) l) {lo n : Nat} (hn : lo + n ≤ l.length) : Ints w (.slice (some ⟨b, o + lo, none⟩) n (c - lo)) ((l.drop lo).take n) := by
  have hd := h.dropN (n := lo) (by omega)
  have e : (l.drop lo).length = l.length - lo := List.length_drop ..
  rw [← e] at hd
  exact hd.takeN (by rw [e]; omega)
/-- What LongestRun returns. -/
def lrI (l : List Int) (from_ d : Int) : Int := if (smOk l && inB d 0 6) && inB from_ 0 l.length then (lgN (l.drop from_.toNat) d : Nat) else -1
set_option maxHeartbeats 2000000 in
theorem implLong_any (v : Value) (l : List Int) (i : Nat) (d : Int) (w : World) (hv : Ints w v l) (hs : smOk l = true) (hd : inB d 0 6 = true) (hi : i < l.length) :
    Calls Tryz.prog 100 #[v, .int .i64 i, .int .i64 d] w fun e w' => e = .returned (.int .i64 (lgN (l.drop i) d : Nat)) ∧ Below w.heap.size w w' := by
  have HV := Lib.hid hv
  have HS := Lib.hid hs
  have HD := Lib.hid hd
  obtain ⟨A, c, rfl, hlc, hc, hrd⟩ := hv.open_
  obtain ⟨b, o, rfl, hbb, hcell⟩ := hrd.ints (by omega)
  obtain ⟨l1, l60, -⟩ := smOk_iff.1 hs
  have hd' := inB_true.1 hd
  obtain ⟨m, hm⟩ : ∃ m, l.length - i = m := ⟨_, rfl⟩
  have hmI : (l.length : Int) - (i : Int) = (m : Int) := by omega
  have q0 : decide ((i : Int) < 0) = false := decide_eq_false (by omega)
  have q1 : decide ((l.length : Int) < (i : Int)) = false := decide_eq_false (by omega)
  have q00 : decide (l.length < i) = false := decide_eq_false (by omega)
  clear hv hrd hcell hs hd
  go_enter Tryz.func100, Tryz.ntmps100
  go_wp2_with (first
    | (go_at_call 93; refine (implSmall_any _ _ _ HV.out).mono ?_; rw [HS.out]; rintro e w' ⟨rfl, rfl⟩)
    | (go_at_call 94; refine (degV_any _ _).mono ?_; rw [HD.out]; rintro e w' ⟨rfl, rfl⟩))
  go_loopw [7] (fun t wr => ∃ n : Nat, n ≤ m ∧ t = .int .i64 n ∧ (∀ j, n < j → j ≤ m → rnOk ((l.drop i).take j) d = false) ∧ Below w.heap.size w wr) (fun t _ => (intOf t).toNat)
  case atStart => exact ⟨m, Nat.le_refl _, rfl, fun j h1 h2 => absurd h1 (by omega), Below.refl _ _⟩
  case round =>
    obtain ⟨n, hn, rfl, hall, hb⟩ := hrel
    have H := Lib.hid (And.intro hall hb)
    clear hall hb
    have hdl : (l.drop i).length = m := by rw [List.length_drop]; exact hm
    by_cases hn0 : n = 0
    · exfalso
      have := H.out.1 1 (by omega) (by omega)
      rw [rn_one (smOk_drop HS.out hi) hd'.1 hd'.2] at this
      cases this
    · have HT := Lib.hid (show Ints wr (.slice (some ⟨b, o + i, none⟩) n (c - i)) ((l.drop i).take n) from Ints.midN (HV.out.bel H.out.2) (by omega))
      have HL := Lib.hid (show ((l.drop i).take n).length ≤ 1048576 by rw [List.length_take]; omega)
      have q3 : (n : Int) > 0 := by omega
      have q4 : (i : Int) + (n : Int) ≤ (c : Int) := by omega
      have q5 : (0 : Int) ≤ (i : Int) + (n : Int) := by omega
      have q6 : ((i : Int) + (n : Int)).toNat = i + n := by omega
      have q7 : IntKind.i64.wrap ((i : Int) + (n : Int)) = (i : Int) + (n : Int) := by rw [IntWalk.i64_in] <;> omega
      have q8 : (i : Int) ≤ (i : Int) + (n : Int) := by omega
      have q9 : i + n - i = n := by omega
      have q10 : ¬ c = i := by omega
      have q11 : (0 : Int) ≤ (i : Int) := by omega
      have HDL := Lib.hid hdl
      clear hdl
      go_wp2_with fail
      refine (runOf_any _ ((l.drop i).take n) d _ HT.out HL.out hd'.1).mono ?_
      rintro e w3 ⟨r, rfl, o3, b3⟩
      obtain ⟨A3, c3, rfl, -, -, -⟩ := o3.ints.open_
      have HB3 := Lib.hid (bel_trans H.out.2 b3)
      clear o3 b3
      cases hr : rnOk ((l.drop i).take n) d
      · have HZ := Lib.hid (show ∀ j, n - 1 < j → j ≤ m → rnOk ((l.drop i).take j) d = false from fun j h1 h2 => by
          by_cases e : j = n
          · rw [e]; exact hr
          · exact H.out.1 j (by omega) h2)
        clear hr
        go_wp2
        go_roundw
        case rel => exact ⟨n - 1, by omega, by go_num, HZ.out, HB3.out⟩
        case measure => simp [intOf]; omega
      · have HZ := Lib.hid (lgN_down (smOk_drop HS.out hi) hd'.1 hd'.2 (by rw [HDL.out]; exact hn) (by omega) hr (fun j h1 h2 => H.out.1 j h1 (by rw [HDL.out] at h2; exact h2)))
        clear hr
        go_wp2
        go_ret
        exact ⟨by rw [HZ.out]; rfl, HB3.out⟩
end Go.Proofs.YtpniljcnknknoaaGreatDoor

/-
  Slices of segments: two cells each, a count and a polynomial of its own.
-/
namespace Go.Proofs.YtpniljcnknknoaaGreatDoor
open Go.RowKit
set_option linter.unusedVariables false
set_option linter.unusedSimpArgs false
set_option maxRecDepth 100000

def sgn (ps : List (Nat × List Int)) (k : Nat) : Nat := (ps.getD k (0, [])).1
def sgp (ps : List (Nat × List Int)) (k : Nat) : List Int := (ps.getD k (0, [])).2
def sgu (us : List Value) (k : Nat) : Value := us.getD k (.slice none 0 0)
/-- The cells of segments. -/
def sgC : List (Nat × List Int) → List Value → List Value
  | p :: ps, u :: us => .int .i64 (p.1 : Int) :: u :: sgC ps us
  | _, _ => []
theorem sgC_len : ∀ {ps : List (Nat × List Int)} {us : List Value}, us.length = ps.length → (sgC ps us).length = ps.length * 2
  | [], [], _ => rfl
  | [], _ :: _, h => by simp at h
  | _ :: _, [], h => by simp at h
  | p :: ps, u :: us, h => by
    have ih := sgC_len (ps := ps) (us := us) (by simpa using h)
    simp only [sgC, List.length_cons, ih, Nat.succ_mul]
theorem sgC_at : ∀ {ps : List (Nat × List Int)} {us : List Value} {k : Nat}, us.length = ps.length → k < ps.length → (sgC ps us)[k * 2]? = some (.int .i64 (sgn ps k : Int)) ∧ (sgC ps us)[k * 2 + 1]? = some (sgu us k)
  | [], _, k, _, hk => by simp at hk
  | _ :: _, [], k, h, _ => by simp at h
  | p :: ps, u :: us, 0, h, hk => by simp [sgC, sgn, sgu]
  | p :: ps, u :: us, k + 1, h, hk => by
    have ih := sgC_at (ps := ps) (us := us) (k := k) (by simpa using h) (by simpa using hk)
    have e : (k + 1) * 2 = k * 2 + 1 + 1 := by omega
    simp only [sgC, e, List.getElem?_cons_succ]
    simpa [sgn, sgu] using ih
theorem sgC_app {ps : List (Nat × List Int)} {us : List Value} (h : us.length = ps.length) (n : Nat) (p : List Int) (u : Value) : sgC (ps ++ [(n, p)]) (us ++ [u]) = sgC ps us ++ [.int .i64 (n : Int), u] := by
  induction ps generalizing us with
  | nil => cases us with
    | nil => rfl
    | cons _ _ => simp at h
  | cons q ps ih => cases us with
    | nil => simp at h
    | cons u us => simp only [List.cons_append, sgC, ih (us := us) (by simpa using h)]
theorem sg_app_at {ps : List (Nat × List Int)} {us : List Value} (h : us.length = ps.length) (n : Nat) (p : List Int) (u : Value) (k : Nat) (hk : k < ps.length + 1) :
    (k < ps.length ∧ sgu (us ++ [u]) k = sgu us k ∧ sgp (ps ++ [(n, p)]) k = sgp ps k) ∨ (sgu (us ++ [u]) k = u ∧ sgp (ps ++ [(n, p)]) k = p) := by
  rcases Nat.lt_or_ge k ps.length with h1 | h1
  · refine .inl ⟨h1, ?_, ?_⟩
    · unfold sgu; simp only [List.getD]; rw [List.getElem?_append_left (by omega)]
    · unfold sgp; simp only [List.getD]; rw [List.getElem?_append_left (by omega)]
  · obtain rfl : k = ps.length := by omega
    refine .inr ⟨?_, ?_⟩
    · unfold sgu; simp [List.getD, ← h]
    · unfold sgp; simp [List.getD]
/-- v reads as the segments ps. -/
def SegR (w : World) (v : Value) (ps : List (Nat × List Int)) : Prop :=
  ∃ (us : List Value) (A : Option Addr) (c : Nat), us.length = ps.length ∧ v = .slice A ps.length c ∧ ps.length ≤ c ∧ c ≤ 9223372036854775807 ∧
    (0 < ps.length → ∃ b o, A = some ⟨b, o, none⟩ ∧ b < w.heap.size ∧ ∀ k, k < ps.length → w.cell? ⟨b, o + k * 2, none⟩ = some (.int .i64 (sgn ps k : Int)) ∧ w.cell? ⟨b, o + k * 2 + 1, none⟩ = some (sgu us k)) ∧
    ∀ k, k < ps.length → Ints w (sgu us k) (sgp ps k)
theorem SegR.bel {w w' : World} {v : Value} {ps : List (Nat × List Int)} (h : SegR w v ps) (hb : Below w.heap.size w w') : SegR w' v ps := by
  obtain ⟨us, A, c, h1, h2, h3, h4, h5, h6⟩ := h
  refine ⟨us, A, c, h1, h2, h3, h4, fun hn => ?_, fun k hk => (h6 k hk).bel hb⟩
  obtain ⟨b, o, e, hlt, hc⟩ := h5 hn
  exact ⟨b, o, e, Nat.lt_of_lt_of_le hlt hb.size, fun k hk => ⟨(hb.cell hlt).trans (hc k hk).1, (hb.cell hlt).trans (hc k hk).2⟩⟩
/-- v, made by the call, reads as ps and may grow. -/
def SegO (w : World) (base : Nat) (v : Value) (ps : List (Nat × List Int)) : Prop :=
  ∃ us : List Value, us.length = ps.length ∧ w.ownsRow base 118 2 v ps.length (sgC ps us) ∧ ps.length ≤ 1048576 ∧ ∀ k, k < ps.length → Own w 0 (sgu us k) (sgp ps k)
theorem SegO.read {w : World} {base : Nat} {v : Value} {ps : List (Nat × List Int)} (h : SegO w base v ps) : SegR w v ps := by
  obtain ⟨us, h1, h2, h3, h4⟩ := h
  rcases h2.2 with ⟨rfl, hn⟩ | ⟨g, cap, cur, rfl, hg, hh, hnc, hcm, hs, ht⟩
  · have : ps = [] := List.eq_nil_of_length_eq_zero hn
    subst this
    exact ⟨us, none, 0, h1, rfl, Nat.le_refl _, Nat.zero_le _, fun h => absurd h (by simp), fun k hk => absurd hk (by simp)⟩
  · have hlt : g < w.heap.size := (Array.getElem?_eq_some_iff.1 hh).1
    have hcl := h2.cells (g := g) rfl
    refine ⟨us, some ⟨g, 0, none⟩, cap, h1, rfl, hnc, by unfold maxLen at hcm; omega, fun hn => ⟨g, 0, rfl, hlt, fun k hk => ?_⟩, fun k hk => (h4 k hk).ints⟩
    obtain ⟨e1, e2⟩ := sgC_at h1 hk
    have a1 := hcl _ _ e1
    have a2 := hcl _ _ e2
    have f : ∀ j, (⟨g, 0, none⟩ : Addr).add j = ⟨g, 0 + j, none⟩ := fun j => by unfold Addr.add; split <;> simp_all
    rw [f] at a1 a2
    exact ⟨a1, by rw [Nat.add_assoc]; exact a2⟩
theorem SegO.lt {w : World} {base : Nat} {v : Value} {ps : List (Nat × List Int)} (h : SegO w base v ps) : ∀ k, v.ownBlock = some k → base ≤ k ∧ k < w.heap.size := by
  obtain ⟨us, h1, h2, h3, h4⟩ := h
  exact h2.lt
theorem SegO.bel {w w' : World} {base : Nat} {v : Value} {ps : List (Nat × List Int)} (h : SegO w base v ps) (hb : Below w.heap.size w w') : SegO w' base v ps := by
  obtain ⟨us, h1, h2, h3, h4⟩ := h
  exact ⟨us, h1, h2.kept (row := none) ⟨hb.os, hb.tape, hb.output, hb.size, fun i hi _ => hb.block i hi⟩ (by cases v.ownBlock <;> simp), h3, fun k hk => (h4 k hk).bel hb⟩
theorem SegO.nil_ (w : World) (base : Nat) : SegO w base (.slice none 0 0) [] := ⟨[], rfl, World.ownsRow_nil _ _ _ _, by simp, fun k hk => absurd hk (by simp)⟩
theorem SegO.lower {w : World} {base base' : Nat} {v : Value} {ps : List (Nat × List Int)} (h : SegO w base v ps) (hb : base' ≤ base) : SegO w base' v ps := by
  obtain ⟨us, h1, h2, h3, h4⟩ := h
  refine ⟨us, h1, ⟨h2.1, ?_⟩, h3, h4⟩
  rcases h2.2 with q | ⟨g1, cap, cur, q1, q2, q3⟩
  · exact .inl q
  · exact .inr ⟨g1, cap, cur, q1, by omega, q3⟩
theorem Tryz.infoSeg : (Tryz.prog.info? 118).map (fun i => (i.zero, i.size, i.bytes)) = some (some (.agg #[.int .i64 0, .slice none 0 0]), 2, 32) := by kernel_rfl
theorem seg_parts {P : Program} {e : TypeId} {z : Value} {s b : Nat} (h : (P.info? e).map (fun i => (i.zero, i.size, i.bytes)) = some (some z, s, b)) : ∃ i, P.info? e = some i ∧ i.zero = some z ∧ i.size = s ∧ i.bytes = b := by
  cases hi : P.info? e with
  | none => rw [hi] at h; cases h
  | some i =>
    rw [hi] at h
    injection h with h
    injection h with h1 h
    injection h with h2 h3
    exact ⟨i, rfl, h1, h2, h3⟩
/-- A polynomial is no block of segments. -/
theorem own_not_seg {w : World} {base : Nat} {v u : Value} {n : Nat} {xs : List Value} {l : List Int} (hv : w.ownsRow base 118 2 v n xs) (hu : Own w 0 u l) : ∀ k, u.ownBlock = some k → v.ownBlock ≠ some k := by
  intro k hk e
  rcases hv.2 with ⟨rfl, -⟩ | ⟨g, cap, cur, rfl, -, hh, -⟩
  · cases e
  · injection e with e
    subst e
    rcases hu.1.2 with ⟨rfl, -⟩ | ⟨g2, cap2, cur2, rfl, -, hh2, -⟩
    · cases hk
    · injection hk with hk
      subst hk
      rw [hh] at hh2
      injection hh2 with hh2
      injection hh2 with _ hh2
      exact absurd hh2 (by decide)
/-- 'plan = append(plan, s)' -/
theorem app_seg {ops : Array Oper} {rest : List Oper} {o : Oper} {a : Act} {Q : Exit → Act → World → Prop} {w : World} (hgd : o.guard = none) (s x : Operand)
    (ho : o.op = .call { callee := .builtin .append, args := #[s, x], argTypes := #[60, 60] })
    (base : Nat) (v : Value) (ps : List (Nat × List Int)) (hs : a.eval s = v) (hown : SegO w base v ps) (g c n : Nat) (p : List Int) (u : Value) (hx : a.eval x = .slice (some ⟨g, 0, none⟩) 1 c)
    (hcell : Blk w g 118 [.int .i64 (n : Int), u]) (hu : Own w 0 u p) (hl : ps.length + 1 ≤ 1048576) (hbase : base ≤ w.heap.size)
    (h : ∀ v' w', SegO w' base v' (ps ++ [(n, p)]) → w.grownBy w' v.ownBlock → (v'.ownBlock = v.ownBlock ∨ v'.ownBlock = some w.heap.size) → wpList Tryz.prog ops Q rest (a.put o.dst v') w') : wpList Tryz.prog ops Q (o :: rest) a w := by
  obtain ⟨i0, hi, hz0, hz1, hz2⟩ := seg_parts Tryz.infoSeg
  obtain ⟨us, k1, k2, k3, k4⟩ := hown
  refine wpList_append_own_at (P := Tryz.prog) w hgd s x 60 ho base 118 i0 _ 2 32 Tryz.underlying60 hi hz0 hz1 hz2 rfl (by omega) v ps.length (sgC ps us) hs k2 ⟨g, 0, none⟩ 1 c [.int .i64 (n : Int), u] hx rfl ?_ ?_ (by unfold maxLen; omega) (by omega) hbase ?_
  · intro j z hj
    have f : (⟨g, 0, none⟩ : Addr).add j = ⟨g, j, none⟩ := by unfold Addr.add; split <;> simp_all
    rw [f, hcell.cell]
    exact hj
  · intro z hz
    have ho2 : u.oneCell' = true := by
      rcases hu.1.2 with ⟨rfl, -⟩ | ⟨g2, cap2, cur2, rfl, -⟩ <;> rfl
    simp at hz
    rcases hz with rfl | rfl
    · rfl
    · exact ho2
  · intro v' w' h1 h2 _ h4
    refine h v' w' ⟨us ++ [u], by simp [k1], ?_, by simp; omega, fun k hk => ?_⟩ h2 h4
    · rw [sgC_app k1, List.length_append]; exact h1
    · rw [List.length_append] at hk
      rcases sg_app_at k1 n p u k (by simpa using hk) with ⟨q1, q2, q3⟩ | ⟨q2, q3⟩
      · rw [q2, q3]
        exact (k4 k q1).apart h2 (fun q hq => own_not_seg k2 (k4 k q1) q hq)
      · rw [q2, q3]
        exact hu.apart h2 (fun q hq => own_not_seg k2 hu q hq)
end Go.Proofs.YtpniljcnknknoaaGreatDoor

/-
  SegmentOf and GreedyPlan.
-/
namespace Go.Proofs.YtpniljcnknknoaaGreatDoor
open Go.RowKit
set_option linter.unusedVariables false
set_option linter.unusedSimpArgs false
set_option maxRecDepth 100000
attribute [local go_sem ↓] Go.wp_at_zero Go.wp_at_succ

theorem Own.putCell {w : World} {base : Nat} {v : Value} {l : List Int} (h : Own w base v l) (p : Addr) (u : Value) (hp : p.block < base) : Own (w.setCell p u) base v l :=
  h.far (row := some p.block) (only_setCell (World.grownBy.refl w (some p.block)) (.inl rfl) u) (fun k hk => by injection hk with hk; omega)
theorem Blk.two {w : World} {g : Nat} {t : TypeId} {a b : Value} (h : Blk w g t [a, b]) : w.cell? ⟨g, 0, none⟩ = some a ∧ w.cell? ⟨g, 1, none⟩ = some b ∧ w.frozen? ⟨g, 0, none⟩ = false ∧ w.frozen? ⟨g, 1, none⟩ = false :=
  ⟨by rw [h.cell]; rfl, by rw [h.cell]; rfl, h.frozen 0, h.frozen 1⟩
theorem Blk.newG (w : World) (t : TypeId) (cs : List Value) (g : Nat) (hg : g = w.heap.size) : Blk (w.alloc (.cells cs.toArray t)) g t cs := by subst hg; exact Blk.new w t cs
def seg0 : List Value := [.int .i64 0, .slice none 0 0]
set_option maxHeartbeats 2000000 in
theorem segOf_any (v : Value) (l : List Int) (i n : Nat) (d : Int) (w : World) (hv : Ints w v l) (hs : smOk l = true) (hd : inB d 0 6 = true) (hi : i < l.length) (hn : 1 ≤ n ∧ n ≤ l.length - i) (hr : rnOk ((l.drop i).take n) d = true) :
    Calls Tryz.prog 99 #[v, .int .i64 i, .int .i64 n, .int .i64 d] w fun e w' => ∃ r, e = .returned (.tuple #[.agg #[.int .i64 n, r], .bool true]) ∧ Own w' w.heap.size r (itD ((l.drop i).take n)) ∧ Below w.heap.size w w' := by
  have HV := Lib.hid hv
  have HS := Lib.hid hs
  have HD := Lib.hid hd
  have HR := Lib.hid hr
  obtain ⟨A, c, rfl, hlc, hc, hrd⟩ := hv.open_
  obtain ⟨b, o, rfl, hbb, hcell⟩ := hrd.ints (by omega)
  obtain ⟨l1, l60, -⟩ := smOk_iff.1 hs
  have hd' := inB_true.1 hd
  have K0 := Blk.new w 118 [.int .i64 0, .slice none 0 0]
  have B0 := Lib.hid (bel_alloc w (.cells #[.int .i64 0, .slice none 0 0] 118))
  have hmI : (n : Int) ≤ (l.length : Int) - (i : Int) := by omega
  have q0 : decide ((i : Int) < 0) = false := decide_eq_false (by omega)
  have q1 : decide ((l.length : Int) ≤ (i : Int)) = false := decide_eq_false (by omega)
  have q00 : decide (l.length ≤ i) = false := decide_eq_false (by omega)
  have q2 : decide ((n : Int) < 1) = false := decide_eq_false (by omega)
  have q3 : decide ((l.length : Int) - (i : Int) < (n : Int)) = false := decide_eq_false (by omega)
  have q4 : (i : Int) + (n : Int) ≤ (c : Int) := by omega
  have q5 : (0 : Int) ≤ (i : Int) + (n : Int) := by omega
  have q6 : ((i : Int) + (n : Int)).toNat = i + n := by omega
  have q7 : IntKind.i64.wrap ((i : Int) + (n : Int)) = (i : Int) + (n : Int) := by rw [IntWalk.i64_in] <;> omega
  have q8 : (i : Int) ≤ (i : Int) + (n : Int) := by omega
  have q9 : i + n - i = n := by omega
  have q10 : ¬ c = i := by omega
  have q11 : (0 : Int) ≤ (i : Int) := by omega
  clear hv hrd hcell hs hd hr
  go_enter Tryz.func99, Tryz.ntmps99
  go_wp2_with fail
  have HT := Lib.hid (show Ints (w.alloc (.cells #[.int .i64 0, .slice none 0 0] 118)) (.slice (some ⟨b, o + i, none⟩) n (c - i)) ((l.drop i).take n) from Ints.midN (HV.out.bel B0.out) (by omega))
  refine (implSmall_any _ _ _ (HV.out.bel B0.out)).mono ?_
  rw [HS.out]
  rintro e w' ⟨rfl, rfl⟩
  go_wp2_with (go_at_call 94; refine (degV_any _ _).mono ?_; rw [HD.out]; rintro e w' ⟨rfl, rfl⟩)
  have HL := Lib.hid (show ((l.drop i).take n).length ≤ 1048576 by rw [List.length_take]; omega)
  refine (runOf_any _ ((l.drop i).take n) d _ HT.out HL.out hd'.1).mono ?_
  rw [HR.out, rnL_yes HR.out]
  rintro e w3 ⟨r, rfl, o3, b3⟩
  obtain ⟨A3, c3, rfl, -, -, -⟩ := o3.ints.open_
  have K3 := Lib.hid (K0.below b3 K0.lt)
  have HO := Lib.hid o3
  have HB3 := Lib.hid (bel_trans B0.out b3)
  have hz := b3.size
  clear o3 b3 K0
  obtain ⟨x0, x1, x2, x3⟩ := K3.out.two
  go_wp2
  clear x0 x1 x2 x3
  have K4 : Blk ((w3.setCell ⟨w.heap.size, 0, none⟩ (.int .i64 n)).setCell ⟨w.heap.size, 1, none⟩ (.slice A3 (itD ((l.drop i).take n)).length c3)) w.heap.size 118 [.int .i64 n, .slice A3 (itD ((l.drop i).take n)).length c3] := (K3.out.set_ 0 (.int .i64 n)).set_ 1 (.slice A3 (itD ((l.drop i).take n)).length c3)
  obtain ⟨x0, x1, -, -⟩ := K4.two
  refine bodyPost_ret (v := .tuple #[.agg #[.int .i64 n, .slice A3 (itD ((l.drop i).take n)).length c3], .bool true]) (by simp [results, Tryz.results99, go_sem, x0, x1]) rfl ⟨_, rfl, ((HO.out.putCell ⟨w.heap.size, 0, none⟩ _ (by simp)).putCell ⟨w.heap.size, 1, none⟩ _ (by simp)).lower (base' := w.heap.size) (by simp), (HB3.out.setCell (p := ⟨w.heap.size, 0, none⟩) (Nat.le_refl _) _).setCell (p := ⟨w.heap.size, 1, none⟩) (Nat.le_refl _) _⟩
/-- A plan and whether there is one. -/
def SegQ (w : World) (ps : List (Nat × List Int)) (q : Bool) (e : Ending) (w' : World) : Prop := ∃ r, e = .returned (.tuple #[r, .bool q]) ∧ SegO w' w.heap.size r ps ∧ Below w.heap.size w w'
def grOk (l : List Int) (d : Int) : Bool := smOk l && inB d 0 6
def grP (l : List Int) (d : Int) : List (Nat × List Int) := if grOk l d = true then grL l d else []
theorem app_belG {w0 w w' : World} {v : Value} {ps : List (Nat × List Int)} (hb : Below w0.heap.size w0 w) (hown : SegO w w0.heap.size v ps) (hg : w.grownBy w' v.ownBlock) : Below w0.heap.size w0 w' :=
  hb.trans ((below_own hg hb.size fun k hk => (hown.lt k hk).1))
set_option maxHeartbeats 2000000 in
theorem greedyPlan_any (v : Value) (l : List Int) (d : Int) (w : World) (hv : Ints w v l) :
    Calls Tryz.prog 37 #[v, .int .i64 d] w (SegQ w (grP l d) (grOk l d)) := by
  have HV := Lib.hid hv
  obtain ⟨A, c, rfl, hlc, hc, -⟩ := hv.open_
  clear hv
  go_enter Tryz.func37, Tryz.ntmps37
  cases hs : smOk l
  · have HN := Lib.hid (show grOk l d = false ∧ grP l d = [] by simp [grOk, grP, hs])
    go_wp2_with (go_at_call 93; refine (implSmall_any _ _ _ HV.out).mono ?_; rw [hs]; rintro e w' ⟨rfl, rfl⟩)
    go_ret2
    exact ⟨_, by rw [HN.out.1]; rfl, by rw [HN.out.2]; exact SegO.nil_ _ _, Below.refl _ _⟩
  · cases hd : inB d 0 6
    · have HN := Lib.hid (show grOk l d = false ∧ grP l d = [] by simp [grOk, grP, hd])
      go_wp2_with (first
        | (go_at_call 93; refine (implSmall_any _ _ _ HV.out).mono ?_; rw [hs]; rintro e w' ⟨rfl, rfl⟩)
        | (go_at_call 94; refine (degV_any _ _).mono ?_; rw [hd]; rintro e w' ⟨rfl, rfl⟩))
      go_ret2
      exact ⟨_, by rw [HN.out.1]; rfl, by rw [HN.out.2]; exact SegO.nil_ _ _, Below.refl _ _⟩
    · have HN := Lib.hid (show grOk l d = true ∧ grP l d = grL l d by simp [grOk, grP, hs, hd])
      have HS := Lib.hid hs
      have HD := Lib.hid hd
      obtain ⟨l1, l60, -⟩ := smOk_iff.1 hs
      have hd' := inB_true.1 hd
      have HP := Lib.hid (show ∀ i, i < l.length → 1 ≤ lgN (l.drop i) d from fun i hi => lgN_pos (smOk_drop hs hi) hd'.1 hd'.2)
      go_wp2_with (first
        | (go_at_call 93; refine (implSmall_any _ _ _ HV.out).mono ?_; rw [hs]; rintro e w' ⟨rfl, rfl⟩)
        | (go_at_call 94; refine (degV_any _ _).mono ?_; rw [hd]; rintro e w' ⟨rfl, rfl⟩))
      clear hs hd
      go_loopw [6, 7] (fun s t wr => ∃ (i : Nat) (ps : List (Nat × List Int)), i ≤ l.length ∧ t = .int .i64 i ∧ SegO wr w.heap.size s ps ∧ ps.length ≤ i ∧ ps ++ sgL l (fun i => lgN (l.drop i) d) i = grL l d ∧ Below w.heap.size w wr) (fun _ t _ => l.length - (intOf t).toNat)
      case atStart => exact ⟨0, [], Nat.zero_le _, rfl, SegO.nil_ _ _, Nat.le_refl _, rfl, Below.refl _ _⟩
      case round =>
        obtain ⟨i, ps, hi, rfl, ho, hp, he, hb⟩ := hrel
        have H := Lib.hid (And.intro ho (And.intro hp (And.intro he hb)))
        clear ho hp he hb
        by_cases hlt : i < l.length
        · have h1 := HP.out i hlt
          have h2 := lgN_le (l.drop i) d
          rw [List.length_drop] at h2
          have HE := Lib.hid (sgL_at HP.out hlt)
          have HRn := Lib.hid (lgN_in (l := l.drop i) (d := d) h1 (Nat.le_refl _))
          obtain ⟨n, hn⟩ : ∃ n, lgN (l.drop i) d = n := ⟨_, rfl⟩
          rw [hn] at h1 h2 HE HRn
          have HNn := Lib.hid hn
          clear hn
          go_wp2_with fail
          refine (implLong_any _ l i d _ (HV.out.bel H.out.2.2.2) HS.out HD.out hlt).mono ?_
          rw [HNn.out]
          rintro e w2 ⟨rfl, b2⟩
          have HB2 := Lib.hid (bel_trans H.out.2.2.2 b2)
          have HO2 := Lib.hid (H.out.1.bel b2)
          clear b2
          go_wp2_with fail
          refine (segOf_any _ l i n d _ (HV.out.bel HB2.out) HS.out HD.out hlt ⟨h1, h2⟩ HRn.out).mono ?_
          rintro e w3 ⟨r, rfl, o3, b3⟩
          obtain ⟨X, hX⟩ : ∃ X, itD ((l.drop i).take n) = X := ⟨_, rfl⟩
          rw [hX] at o3 HE
          clear hX
          obtain ⟨A3, c3, rfl, -, -, -⟩ := o3.ints.open_
          have HB3 := Lib.hid (bel_trans HB2.out b3)
          have HO3 := Lib.hid (HO2.out.bel b3)
          have HX := Lib.hid o3
          clear o3 b3
          have K4 := Blk.new w3 118 [.int .i64 n, .slice A3 X.length c3]
          have BX := Lib.hid (show Below w3.heap.size w3 ((w3.alloc (.cells #[.int .i64 n, .slice A3 X.length c3] 118)).alloc (.cells #[.int .i64 n, .slice A3 X.length c3] 118)) from (bel_alloc w3 _).alloc (by simp) _)
          have hlp : ps.length + 1 ≤ 1048576 := by have := H.out.2.1; omega
          go_wp2_with (at_builtin; go_must (refine app_seg rfl (.tmp 35) (.tmp 37) (by rfl) w.heap.size _ ps (by rfl) (by exact HO3.out.bel BX.out) _ _ n X (.slice A3 X.length c3) (by rfl) (by exact Blk.newG _ _ [.int .i64 n, .slice A3 X.length c3] _ (by simp)) (by exact (HX.out.lower (Nat.zero_le _)).bel BX.out) hlp (by have := HB3.out.size; have := BX.out.size; omega) ?_; intro v4 w4 ho4 hg4 hat4; have K5 := (K4.alloc (.cells #[.int .i64 n, .slice A3 X.length c3] 118)).grown hg4 (fun e => by have := (HO3.out.lt _ e.symm).2; omega); obtain ⟨y0, y1, -, -⟩ := K5.two; clear K4 K5))
          have HB4 := Lib.hid (app_belG (w0 := w) (bel_trans HB3.out BX.out) (HO3.out.bel BX.out) hg4)
          have hps : (ps ++ [(n, X)]).length ≤ i + n := by rw [List.length_append]; have := H.out.2.1; simp; omega
          have HEQ := Lib.hid (show (ps ++ [(n, X)]) ++ sgL l (fun i => lgN (l.drop i) d) (i + n) = grL l d by have := H.out.2.2.1; rw [HE.out] at this; rw [← this]; simp)
          go_roundw
          case rel => exact ⟨i + n, ps ++ [(n, X)], by omega, by go_num, ho4, hps, HEQ.out, HB4.out⟩
          case measure => simp [intOf]; omega
        · obtain rfl : i = l.length := by omega
          have HE := Lib.hid (show ps = grL l d by have := H.out.2.2.1; rwa [sgL_end (Nat.le_refl _), List.append_nil] at this)
          go_wp2
          go_ret2
          exact ⟨_, by rw [HN.out.1]; rfl, by rw [HN.out.2, ← HE.out]; exact H.out.1, H.out.2.2.2⟩
end Go.Proofs.YtpniljcnknknoaaGreatDoor
