/-
  Columns as numbers, turns of engines: plain words and laws, no program in sight.
-/
import Derived.Test.YtpniljcnknknoaaGreatDoorSplit
import Derived.Laws.BytesArg
namespace Go.Proofs.YtpniljcnknknoaaGreatDoor
open Go.RowKit
set_option linter.unusedVariables false

/-- Ten to the power of k: closed to the walk's simp. -/
def ten (k : Nat) : Nat := 10 ^ k
theorem ten_zero : ten 0 = 1 := rfl
theorem ten_succ (k : Nat) : ten (k + 1) = ten k * 10 := by simp [ten, Nat.pow_succ]
theorem ten_pos (k : Nat) : 1 ≤ ten k := Nat.one_le_pow _ _ (by decide)
theorem ten_mono {j k : Nat} (h : j ≤ k) : ten j ≤ ten k := Nat.pow_le_pow_right (by decide) h
theorem ten_le {k : Nat} (h : k ≤ 12) : ten k ≤ 1000000000000 := by
  have := ten_mono h
  have e : ten 12 = 1000000000000 := by decide
  omega
def half (k : Nat) : Nat := ten k / 2
theorem ten_half {k : Nat} (h : 1 ≤ k) : ten k = 2 * half k := by
  obtain ⟨j, rfl⟩ : ∃ j, k = j + 1 := ⟨k - 1, by omega⟩
  have := ten_succ j
  unfold half
  omega

/-- n modulo m, as a natural number. -/
def md (n : Int) (m : Nat) : Nat := (n % (m : Int)).toNat
theorem md_cast (n : Int) {m : Nat} (h : 1 ≤ m) : ((md n m : Nat) : Int) = n % (m : Int) := by
  have := Int.emod_nonneg n (b := (m : Int)) (by omega)
  unfold md; omega
theorem md_lt (n : Int) {m : Nat} (h : 1 ≤ m) : md n m < m := by
  have := Int.emod_lt_of_pos n (b := (m : Int)) (by omega)
  have := md_cast n h
  omega
theorem md_nat (x m : Nat) : md (x : Int) m = x % m := by
  unfold md
  rw [← Int.natCast_emod]; rfl

/-- wheel j of n wheels that show v. -/
def wheel (v n j : Nat) : Int := 48 + ((v / ten (n - 1 - j) % 10 : Nat) : Int)
theorem wheel_bd (v n j : Nat) : 48 ≤ wheel v n j ∧ wheel v n j ≤ 57 := by
  unfold wheel; omega
def col (v n : Nat) : ByteArray := strOfNums (gen (wheel v n) n)
theorem col_size (v n : Nat) : (col v n).size = n := by rw [col, strOfNums_size, gen_length]
theorem bat_strOfNums {xs : List Int} {j : Nat} (hj : j < xs.length) (h : 0 ≤ at_ xs j ∧ at_ xs j ≤ 255) : bat (strOfNums xs) j = at_ xs j := by
  have hs : j < (strOfNums xs).size := by rw [strOfNums_size]; exact hj
  rw [bat_eq hs]
  have e : (strOfNums xs)[j] = UInt8.ofNat (at_ xs j).toNat := by
    rw [ByteArray.getElem_eq_getElem_data, at_eq xs j hj]
    simp [strOfNums]
  rw [e]
  have : (at_ xs j).toNat < 256 := by omega
  have e2 : (UInt8.ofNat (at_ xs j).toNat).toNat = (at_ xs j).toNat := by simp; omega
  rw [e2]; omega
theorem bat_col {v n j : Nat} (h : j < n) : bat (col v n) j = wheel v n j := by
  have hb := wheel_bd v n j
  rw [col, bat_strOfNums (by rw [gen_length]; exact h) (by rw [at_gen h]; omega), at_gen h]
theorem colOk_col (v : Nat) {n : Nat} (h1 : 1 ≤ n) (h2 : n ≤ 12) : colOk (col v n) = true :=
  colOk_mk (by rw [col_size]; exact h1) (by rw [col_size]; exact h2) fun j hj => by
    rw [col_size] at hj
    rw [bat_col hj]
    exact wheel_bd v n j
/-- what the first k wheels show. -/
def cvN (s : ByteArray) : Nat → Nat
  | 0 => 0
  | k + 1 => cvN s k * 10 + (bat s k - 48).toNat
def cv (s : ByteArray) : Nat := cvN s s.size
theorem cvN_zero (s : ByteArray) : cvN s 0 = 0 := rfl
theorem cvN_succ (s : ByteArray) (k : Nat) : cvN s (k + 1) = cvN s k * 10 + (bat s k - 48).toNat := rfl
theorem cvN_lt {s : ByteArray} (h : colOk s = true) : ∀ k, k ≤ s.size → cvN s k < ten k := by
  intro k
  induction k with
  | zero => intro _; exact Nat.one_pos
  | succ k ih =>
    intro hk
    have := ih (by omega)
    have := (colOk_true h).2.2 k (by omega)
    rw [cvN_succ, ten_succ]
    omega
theorem cv_lt {s : ByteArray} (h : colOk s = true) : cv s < ten s.size := cvN_lt h _ (Nat.le_refl _)
theorem cv_le {s : ByteArray} (h : colOk s = true) : cv s < 1000000000000 := by
  have := cv_lt h
  have := ten_le (colOk_true h).2.1
  omega
theorem cv_col {v n : Nat} (h : v < ten n) : cv (col v n) = v := by
  have key : ∀ k, k ≤ n → cvN (col v n) k = v / ten (n - k) := by
    intro k
    induction k with
    | zero => intro _; rw [cvN_zero, Nat.sub_zero, Nat.div_eq_of_lt h]
    | succ k ih =>
      intro hk
      rw [cvN_succ, ih (by omega), bat_col (by omega), wheel]
      have e1 : n - k = (n - (k + 1)) + 1 := by omega
      have e2 : n - 1 - k = n - (k + 1) := by omega
      rw [e2, e1, ten_succ, ← Nat.div_div_eq_div_mul]
      have : ((48 : Int) + ((v / ten (n - (k + 1)) % 10 : Nat) : Int) - 48).toNat = v / ten (n - (k + 1)) % 10 := by omega
      rw [this]
      omega
  have := key n (Nat.le_refl _)
  rw [Nat.sub_self, ten_zero, Nat.div_one] at this
  rw [cv, col_size, this]

/-- the number that a column stands for. -/
def sg (s : ByteArray) : Int := if half s.size ≤ cv s then (cv s : Int) - (ten s.size : Int) else (cv s : Int)
theorem sg_hi {s : ByteArray} (h : half s.size ≤ cv s) : sg s = (cv s : Int) - (ten s.size : Int) := by simp [sg, h]
theorem sg_lo {s : ByteArray} (h : ¬ half s.size ≤ cv s) : sg s = (cv s : Int) := by simp [sg, h]
theorem sg_bd {s : ByteArray} (h : colOk s = true) : -1000000000000 ≤ sg s ∧ sg s ≤ 1000000000000 := by
  have := cv_lt h
  have := cv_le h
  have := ten_le (colOk_true h).2.1
  unfold sg
  split <;> omega
/-- a number fits a width. -/
def fits (n : Int) (k : Nat) : Bool := inB n (-(half k : Int)) ((half k : Int) - 1)
def colOf (n : Int) (k : Nat) : ByteArray := col (md n (ten k)) k
theorem colOf_size (n : Int) (k : Nat) : (colOf n k).size = k := col_size _ _
theorem colOk_colOf (n : Int) {k : Nat} (h1 : 1 ≤ k) (h2 : k ≤ 12) : colOk (colOf n k) = true := colOk_col _ h1 h2
/-- the sum of two columns. -/
def addC (a b : ByteArray) : ByteArray := col ((cv a + cv b) % ten a.size) a.size
theorem addC_size (a b : ByteArray) : (addC a b).size = a.size := col_size _ _
theorem addC_ok {a b : ByteArray} (h : colOk a = true) : colOk (addC a b) = true := by
  have := colOk_true h
  exact colOk_col _ this.1 this.2.1

/-- a turn. -/
def turnS (l : List ByteArray) : List ByteArray := genS (fun i => if i + 1 < l.length then addC (sat l i) (sat l (i + 1)) else sat l i) l.length
theorem turnS_length (l : List ByteArray) : (turnS l).length = l.length := genS_length _ _
theorem turnS_at {l : List ByteArray} {i : Nat} (h : i < l.length) : sat (turnS l) i = if i + 1 < l.length then addC (sat l i) (sat l (i + 1)) else sat l i := at_genS h
theorem turnS_size {l : List ByteArray} {i : Nat} (h : i < l.length) : (sat (turnS l) i).size = (sat l i).size := by
  rw [turnS_at h]; split
  · exact addC_size _ _
  · rfl
theorem engOk_iff {l : List ByteArray} : engOk l = true ↔ 1 ≤ l.length ∧ l.length ≤ 7 ∧ ∀ k, k < l.length → colOk (sat l k) = true ∧ (sat l k).size = (sat l 0).size := by
  rw [engOk_true]
  constructor
  · rintro ⟨a, b, c⟩
    exact ⟨a, b, fun k hk => ⟨(alikeC_true.1 (c k hk)).2.1, (alikeC_true.1 (c k hk)).2.2.symm⟩⟩
  · rintro ⟨a, b, c⟩
    exact ⟨a, b, fun k hk => alikeC_true.2 ⟨(c 0 (by omega)).1, (c k hk).1, (c k hk).2.symm⟩⟩
theorem engOk_turn {l : List ByteArray} (h : engOk l = true) : engOk (turnS l) = true := by
  obtain ⟨h1, h2, h3⟩ := engOk_iff.1 h
  refine engOk_iff.2 ⟨by rw [turnS_length]; exact h1, by rw [turnS_length]; exact h2, fun k hk => ?_⟩
  rw [turnS_length] at hk
  refine ⟨?_, by rw [turnS_size hk, turnS_size (by omega)]; exact (h3 k hk).2⟩
  rw [turnS_at hk]
  split
  · exact addC_ok (h3 k hk).1
  · exact (h3 k hk).1
/-- n turns. -/
def turnN (l : List ByteArray) : Nat → List ByteArray
  | 0 => l
  | n + 1 => turnS (turnN l n)
theorem turnN_zero (l : List ByteArray) : turnN l 0 = l := rfl
theorem turnN_succ (l : List ByteArray) (n : Nat) : turnN l (n + 1) = turnS (turnN l n) := rfl
theorem turnN_length (l : List ByteArray) (n : Nat) : (turnN l n).length = l.length := by
  induction n with
  | zero => rfl
  | succ n ih => rw [turnN_succ, turnS_length, ih]
theorem turnN_ok {l : List ByteArray} (h : engOk l = true) (n : Nat) : engOk (turnN l n) = true := by
  induction n with
  | zero => exact h
  | succ n ih => exact engOk_turn ih
theorem turnN_size {l : List ByteArray} (h : 0 < l.length) (n : Nat) : (sat (turnN l n) 0).size = (sat l 0).size := by
  induction n with
  | zero => rfl
  | succ n ih => rw [turnN_succ, turnS_size (by rw [turnN_length]; exact h), ih]
theorem eng_wf {l : List ByteArray} (h : engOk l = true) : WfS l := by
  obtain ⟨h1, h2, h3⟩ := engOk_iff.1 h
  intro s hs
  obtain ⟨k, hk, rfl⟩ := List.getElem_of_mem hs
  rw [← sat_eq l k hk]
  have := colOk_true (h3 k hk).1
  omega
/-- the results of an engine. -/
def runS (l : List ByteArray) (n : Nat) : List Int := gen (fun i => sg (sat (turnN l i) 0)) n

theorem sat_append_lo {a b : List ByteArray} {i : Nat} (h : i < a.length) : sat (a ++ b) i = sat a i := by
  rw [sat_eq _ i (by rw [List.length_append]; omega), sat_eq _ i h, List.getElem_append_left h]
theorem sat_append_hi {a b : List ByteArray} {i : Nat} (h : i < b.length) : sat (a ++ b) (a.length + i) = sat b i := by
  rw [sat_eq _ _ (by rw [List.length_append]; omega), sat_eq _ i h, List.getElem_append_right (by omega)]
  congr 1; omega

/-- two engines may be coupled. -/
def joinOk (a b : List ByteArray) : Bool := engOk a && engOk b && decide ((sat a 0).size = (sat b 0).size) && decide (a.length + b.length ≤ 7)
theorem joinOk_true {a b : List ByteArray} : joinOk a b = true ↔ engOk a = true ∧ engOk b = true ∧ (sat a 0).size = (sat b 0).size ∧ a.length + b.length ≤ 7 := by
  simp only [joinOk, Bool.and_eq_true, decide_eq_true_eq, and_assoc]
def joinE (a b : List ByteArray) : List ByteArray := if joinOk a b = true then b ++ a else []
theorem joinE_yes {a b : List ByteArray} (h : joinOk a b = true) : joinE a b = b ++ a := by simp [joinE, h]
theorem joinE_no {a b : List ByteArray} (h : joinOk a b = false) : joinE a b = [] := by simp [joinE, h]
theorem engOk_append {a b : List ByteArray} (h : joinOk a b = true) : engOk (b ++ a) = true := by
  obtain ⟨ha, hb, hs, hl⟩ := joinOk_true.1 h
  obtain ⟨a1, a2, a3⟩ := engOk_iff.1 ha
  obtain ⟨b1, b2, b3⟩ := engOk_iff.1 hb
  refine engOk_iff.2 ⟨by rw [List.length_append]; omega, by rw [List.length_append]; omega, fun k hk => ?_⟩
  rw [List.length_append] at hk
  rw [sat_append_lo (i := 0) (by omega)]
  by_cases hkb : k < b.length
  · rw [sat_append_lo hkb]; exact b3 k hkb
  · obtain ⟨j, rfl⟩ : ∃ j, k = b.length + j := ⟨k - b.length, by omega⟩
    rw [sat_append_hi (by omega)]
    have := a3 j (by omega)
    exact ⟨this.1, by rw [this.2, hs]⟩
/-- the second one of two coupled engines, turned. -/
def cascB (a b : List ByteArray) : List ByteArray := genS (fun i => if i + 1 < b.length then addC (sat b i) (sat b (i + 1)) else addC (sat b i) (sat a 0)) b.length
theorem cascB_length (a b : List ByteArray) : (cascB a b).length = b.length := genS_length _ _
theorem casc_join {a b : List ByteArray} (ha : 1 ≤ a.length) : turnS (b ++ a) = cascB a b ++ turnS a := by
  apply slist_ext
  · rw [turnS_length, List.length_append, List.length_append, cascB_length, turnS_length]
  · intro j hj
    rw [turnS_length, List.length_append] at hj
    rw [turnS_at (by rw [List.length_append]; exact hj), List.length_append]
    by_cases hb : j < b.length
    · rw [sat_append_lo (a := cascB a b) (by rw [cascB_length]; exact hb), cascB, at_genS hb, sat_append_lo hb, if_pos (by omega)]
      by_cases h1 : j + 1 < b.length
      · rw [if_pos h1, sat_append_lo h1]
      · have e : j + 1 = b.length + 0 := by omega
        rw [if_neg h1, e, sat_append_hi (by omega)]
    · obtain ⟨i, rfl⟩ : ∃ i, j = b.length + i := ⟨j - b.length, by omega⟩
      have e : sat (cascB a b ++ turnS a) (b.length + i) = sat (turnS a) i := by
        have := sat_append_hi (a := cascB a b) (b := turnS a) (i := i) (by rw [turnS_length]; omega)
        rwa [cascB_length] at this
      rw [e, turnS_at (by omega), sat_append_hi (by omega)]
      by_cases h1 : i + 1 < a.length
      · rw [if_pos (by omega), if_pos h1, show b.length + i + 1 = b.length + (i + 1) by omega, sat_append_hi h1]
      · rw [if_neg (by omega), if_neg h1]
theorem casc_split {a b : List ByteArray} (ha : 1 ≤ a.length) : (turnS (b ++ a)).take b.length = cascB a b ∧ (turnS (b ++ a)).drop b.length = turnS a := by
  rw [casc_join ha]
  have h := cascB_length a b
  constructor
  · rw [← h, List.take_left]
  · rw [← h, List.drop_left]
theorem joinOk_turn {a b : List ByteArray} (h : joinOk a b = true) : joinOk (turnS a) (cascB a b) = true := by
  obtain ⟨ha, hb, hs, hl⟩ := joinOk_true.1 h
  obtain ⟨a1, a2, a3⟩ := engOk_iff.1 ha
  obtain ⟨b1, b2, b3⟩ := engOk_iff.1 hb
  refine joinOk_true.2 ⟨engOk_turn ha, ?_, ?_, by rw [turnS_length, cascB_length]; exact hl⟩
  · refine engOk_iff.2 ⟨by rw [cascB_length]; exact b1, by rw [cascB_length]; exact b2, fun k hk => ?_⟩
    rw [cascB_length] at hk
    have hsz : ∀ j, j < b.length → (sat (cascB a b) j).size = (sat b j).size := fun j hj => by
      rw [cascB, at_genS hj]; split <;> exact addC_size _ _
    refine ⟨?_, by rw [hsz k hk, hsz 0 (by omega)]; exact (b3 k hk).2⟩
    rw [cascB, at_genS hk]
    split <;> exact addC_ok (b3 k hk).1
  · rw [turnS_size (by omega), cascB, at_genS (by omega)]
    split <;> rw [addC_size] <;> exact hs
/-- two coupled engines after n turns. -/
def cascN (a b : List ByteArray) : Nat → List ByteArray × List ByteArray
  | 0 => (a, b)
  | n + 1 => (turnS (cascN a b n).1, cascB (cascN a b n).1 (cascN a b n).2)
theorem cascN_ok {a b : List ByteArray} (h : joinOk a b = true) (n : Nat) : joinOk (cascN a b n).1 (cascN a b n).2 = true := by
  induction n with
  | zero => exact h
  | succ n ih => exact joinOk_turn ih
theorem cascN_join {a b : List ByteArray} (h : joinOk a b = true) (n : Nat) : (cascN a b n).2 ++ (cascN a b n).1 = turnN (b ++ a) n := by
  induction n with
  | zero => rfl
  | succ n ih =>
    rw [turnN_succ, ← ih, casc_join (engOk_iff.1 (joinOk_true.1 (cascN_ok h n)).1).1]
    rfl
theorem cascN_result {a b : List ByteArray} (h : joinOk a b = true) (n : Nat) : sat (cascN a b n).2 0 = sat (turnN (b ++ a) n) 0 := by
  rw [← cascN_join h n, sat_append_lo (engOk_iff.1 (joinOk_true.1 (cascN_ok h n)).2.1).1]

/-- an engine of sums. -/
def sumOk (e : List ByteArray) (start : Int) : Bool := engOk e && decide (e.length ≤ 6) && fits start (sat e 0).size
theorem sumOk_true {e : List ByteArray} {start : Int} : sumOk e start = true ↔ engOk e = true ∧ e.length ≤ 6 ∧ fits start (sat e 0).size = true := by
  simp only [sumOk, Bool.and_eq_true, decide_eq_true_eq, and_assoc]
def sumE (e : List ByteArray) (start : Int) : List ByteArray := if sumOk e start = true then [colOf start (sat e 0).size] ++ e else []
theorem sumE_yes {e : List ByteArray} {start : Int} (h : sumOk e start = true) : sumE e start = [colOf start (sat e 0).size] ++ e := by simp [sumE, h]
theorem sumE_no {e : List ByteArray} {start : Int} (h : sumOk e start = false) : sumE e start = [] := by simp [sumE, h]
theorem sum_joinOk {e : List ByteArray} {start : Int} (h : sumOk e start = true) : joinOk e [colOf start (sat e 0).size] = true := by
  obtain ⟨h1, h2, h3⟩ := sumOk_true.1 h
  obtain ⟨e1, e2, e3⟩ := engOk_iff.1 h1
  have hc := colOk_true (e3 0 (by omega)).1
  have s0 : sat [colOf start (sat e 0).size] 0 = colOf start (sat e 0).size := rfl
  refine joinOk_true.2 ⟨h1, engOk_iff.2 ⟨by simp, by simp, fun k hk => ?_⟩, by rw [s0, colOf_size], by simp; omega⟩
  have : k = 0 := by simp at hk; omega
  subst this
  exact ⟨by rw [s0]; exact colOk_colOf _ hc.1 hc.2.1, rfl⟩

end Go.Proofs.YtpniljcnknknoaaGreatDoor
