import Derived.Test.YtpniljcnknknoaaGreatDoorAllPlA
/-
  A single error of a table, plainly: what it does to differences, and that no other place explains it.
-/
namespace Go.Proofs.YtpniljcnknknoaaGreatDoor
open Go.RowKit
set_option linter.unusedVariables false
set_option linter.unusedSimpArgs false

/-- What an error of 1 does to differences: binomials with signs. -/
def unitI (o k : Nat) : Int := if k % 2 = 1 then -(chooseI (o : Int) k) else chooseI (o : Int) k
/-- What an error of a at place p does to the difference j of order o. -/
def effI (o p : Nat) (a : Int) (j : Nat) : Int := if p ≤ j + o ∧ j ≤ p then a * unitI o (j + o - p) else 0
def pasAll : Bool := (List.range 7).all fun o => (List.range 8).all fun k => decide (k ≤ o + 1 → unitI (o + 1) k = (if k ≤ o then unitI o k else 0) - (if 1 ≤ k then unitI o (k - 1) else 0))
theorem pasAll_true : pasAll = true := by decide +kernel
theorem pas {o k : Nat} (ho : o ≤ 6) (hk : k ≤ o + 1) : unitI (o + 1) k = (if k ≤ o then unitI o k else 0) - (if 1 ≤ k then unitI o (k - 1) else 0) := by
  have h := pasAll_true
  unfold pasAll at h
  rw [List.all_eq_true] at h
  have h2 := h o (List.mem_range.2 (by omega))
  rw [List.all_eq_true] at h2
  have h3 := h2 k (List.mem_range.2 (by omega))
  exact of_decide_eq_true h3 hk
def unitAll : Bool := (List.range 8).all fun o => (List.range 8).all fun k => decide (k ≤ o → unitI o k ≠ 0 ∧ -35 ≤ unitI o k ∧ unitI o k ≤ 35)
theorem unitAll_true : unitAll = true := by decide +kernel
theorem unit_ne {o k : Nat} (ho : o ≤ 7) (hk : k ≤ o) : unitI o k ≠ 0 ∧ -35 ≤ unitI o k ∧ unitI o k ≤ 35 := by
  have h := unitAll_true
  unfold unitAll at h
  rw [List.all_eq_true] at h
  have h2 := h o (List.mem_range.2 (by omega))
  rw [List.all_eq_true] at h2
  have h3 := h2 k (List.mem_range.2 (by omega))
  exact of_decide_eq_true h3 hk
def crossAll : Bool := (List.range 8).all fun o => (List.range 8).all fun p => (List.range 8).all fun q => decide (1 ≤ q → q < p → p ≤ o → unitI o (o - p) * unitI o (o - (q - 1)) ≠ unitI o (o - q) * unitI o (o - (p - 1)))
theorem crossAll_true : crossAll = true := by decide +kernel
theorem cross {o p q : Nat} (ho : o ≤ 7) (h1 : 1 ≤ q) (h2 : q < p) (h3 : p ≤ o) : unitI o (o - p) * unitI o (o - (q - 1)) ≠ unitI o (o - q) * unitI o (o - (p - 1)) := by
  have h := crossAll_true
  unfold crossAll at h
  rw [List.all_eq_true] at h
  have k2 := h o (List.mem_range.2 (by omega))
  rw [List.all_eq_true] at k2
  have k3 := k2 p (List.mem_range.2 (by omega))
  rw [List.all_eq_true] at k3
  exact of_decide_eq_true (k3 q (List.mem_range.2 (by omega))) h1 h2 h3
theorem eff_step (o p : Nat) (a : Int) (j : Nat) (ho : o ≤ 6) : effI (o + 1) p a j = effI o p a (j + 1) - effI o p a j := by
  unfold effI
  by_cases h : p ≤ j + (o + 1) ∧ j ≤ p
  · rw [if_pos h, pas ho (by omega), Int.mul_sub]
    congr 1
    · by_cases h1 : p ≤ j + 1 + o ∧ j + 1 ≤ p
      · rw [if_pos h1, if_pos (by omega), show j + (o + 1) - p = j + 1 + o - p by omega]
      · rw [if_neg h1, if_neg (by omega), Int.mul_zero]
    · by_cases h1 : p ≤ j + o ∧ j ≤ p
      · rw [if_pos h1, if_pos (by omega), show j + (o + 1) - p - 1 = j + o - p by omega]
      · rw [if_neg h1, if_neg (by omega), Int.mul_zero]
  · rw [if_neg h, if_neg (by omega), if_neg (by omega)]
    rfl
/-- An error and differences. -/
theorem err_row {l : List Int} {p : Nat} {a : Int} (hp : p < l.length) (hl : ∀ k, k < l.length → -1000000000 ≤ at_ l k ∧ at_ l k ≤ 1000000000) (hx : -1000000000 ≤ at_ l p + a ∧ at_ l p + a ≤ 1000000000) :
    ∀ o, o ≤ 7 → ∀ j, j + o < l.length → at_ (rowI (l.set p (at_ l p + a)) o) j = at_ (rowI l o) j + effI o p a j
  | 0, _, j, hj => by
    unfold effI
    rw [rowI, rowI]
    have e : at_ (l.set p (at_ l p + a)) j = if j = p then at_ l p + a else at_ l j := by
      unfold at_
      simp only [List.getD, List.getElem?_set]
      by_cases h : j = p
      · subst h; simp [hp]
      · rw [if_neg (fun e => h e.symm), if_neg h]
    rw [e]
    by_cases h : j = p
    · subst h
      rw [if_pos rfl, if_pos (by omega), show j + 0 - j = 0 by omega]
      have : unitI 0 0 = 1 := by decide
      rw [this, Int.mul_one]
    · rw [if_neg h, if_neg (by omega), Int.add_zero]
  | o + 1, ho, j, hj => by
    have h1 := err_row hp hl hx o (by omega) j (by omega)
    have h2 := err_row hp hl hx o (by omega) (j + 1) (by omega)
    have hx2 : ∀ k, k < (l.set p (at_ l p + a)).length → -1000000000 ≤ at_ (l.set p (at_ l p + a)) k ∧ at_ (l.set p (at_ l p + a)) k ≤ 1000000000 := by
      intro k hk
      rw [List.length_set] at hk
      have e : at_ (l.set p (at_ l p + a)) k = if k = p then at_ l p + a else at_ l k := by
        unfold at_
        simp only [List.getD, List.getElem?_set]
        by_cases h : k = p
        · subst h; simp [hp]
        · rw [if_neg (fun e => h e.symm), if_neg h]
      rw [e]
      split
      · exact hx
      · exact hl k hk
    rw [row_step (by omega) hx2 (by omega) (by rw [List.length_set]; omega), row_step (by omega) hl (by omega) (by omega), h1, h2, eff_step o p a j (by omega)]
    omega
/-- The amount that would explain the first difference that an error of place p changes. -/
def amtI (D : List Int) (o p : Nat) : Int := (at_ D (p - o)).tdiv (unitI o (o - p))
/-- An error of that amount explains all differences. -/
def exOk (D : List Int) (o p : Nat) : Bool := decide (∀ j, j < D.length → effI o p (amtI D o p) j = at_ D j)
theorem exOk_iff {D : List Int} {o p : Nat} : exOk D o p = true ↔ ∀ j, j < D.length → effI o p (amtI D o p) j = at_ D j := by unfold exOk; exact decide_eq_true_iff
/-- The search for an error: the place, the amount, the code. -/
def fdP (D : List Int) (o n : Nat) : Nat := ((List.range n).takeWhile fun p => !exOk D o p).length
def fdD (l : List Int) (d : Int) : List Int := rowI l (d + 1).toNat
def fdV (l : List Int) (d : Int) : Bool := (tableOk l && inB d 0 6) && decide (d + 3 ≤ (l.length : Int))
def fdAt (l : List Int) (d : Int) : Nat := fdP (fdD l d) (d + 1).toNat l.length
def fdC (l : List Int) (d : Int) : Int := if fdV l d = false then 3 else if zeroL (fdD l d) = true then 0 else if fdAt l d = l.length then 2 else 1
theorem fd_at {D : List Int} {o n p : Nat} (hp : p < n) (hb : ∀ q, q < p → exOk D o q = false) (h : exOk D o p = true) : fdP D o n = p :=
  takeWhile_range (by omega) (fun q hq => by simp [hb q hq]) (.inr (by simp [h]))
theorem fd_no {D : List Int} {o n : Nat} (hb : ∀ q, q < n → exOk D o q = false) : fdP D o n = n := takeWhile_range (Nat.le_refl _) (fun q hq => by simp [hb q hq]) (.inl rfl)
/-- The differences of an error are explained by it. -/
theorem ex_self {D : List Int} {o p : Nat} {a : Int} (ho : o ≤ 7) (h0 : 1 ≤ D.length) (hp : p < D.length + o) (hD : ∀ j, j < D.length → at_ D j = effI o p a j) : amtI D o p = a ∧ exOk D o p = true := by
  have ha : amtI D o p = a := by
    unfold amtI
    rw [hD _ (by omega)]
    unfold effI
    rw [if_pos (by omega), show p - o + o - p = o - p by omega]
    exact Int.mul_tdiv_cancel _ (unit_ne ho (by omega)).1
  exact ⟨ha, exOk_iff.2 fun j hj => by rw [ha, hD j hj]⟩
/-- No earlier place explains them. -/
theorem ex_not {D : List Int} {o p q : Nat} {a : Int} (ho : 1 ≤ o) (ho7 : o ≤ 7) (h2 : 2 ≤ D.length) (hp : p < D.length + o) (hq : q < p) (ha : a ≠ 0) (hD : ∀ j, j < D.length → at_ D j = effI o p a j) : exOk D o q = false := by
  cases he : exOk D o q with
  | false => rfl
  | true =>
    exfalso
    have h := exOk_iff.1 he
    obtain ⟨b, hb⟩ : ∃ b, amtI D o q = b := ⟨_, rfl⟩
    rw [hb] at h
    have key : ∀ j, j < D.length → effI o q b j = effI o p a j := fun j hj => (h j hj).trans (hD j hj)
    have nz : ∀ j, p ≤ j + o → j ≤ p → effI o p a j ≠ 0 := fun j h1 h2 => by
      unfold effI
      rw [if_pos ⟨h1, h2⟩]
      exact fun e => (Int.mul_eq_zero.1 e).elim ha (unit_ne ho7 (by omega)).1
    have hz : ∀ j, ¬ (q ≤ j + o ∧ j ≤ q) → effI o q b j = 0 := fun j h1 => by unfold effI; rw [if_neg h1]
    have b0 : b ≠ 0 := by
      intro e
      have k := key (p - o) (by omega)
      rw [e] at k
      have : effI o q 0 (p - o) = 0 := by unfold effI; split <;> simp
      exact nz (p - o) (by omega) (by omega) (by rw [← k, this])
    have nzq : ∀ j, q ≤ j + o → j ≤ q → effI o q b j ≠ 0 := fun j h1 h2 => by
      unfold effI
      rw [if_pos ⟨h1, h2⟩]
      exact fun e => (Int.mul_eq_zero.1 e).elim b0 (unit_ne ho7 (by omega)).1
    have hzp : ∀ j, ¬ (p ≤ j + o ∧ j ≤ p) → effI o p a j = 0 := fun j h1 => by unfold effI; rw [if_neg h1]
    have hpo : p ≤ o := by
      rcases Nat.lt_or_ge o p with h1 | h1
      · exfalso
        have k := key (p - o - 1) (by omega)
        rw [hzp _ (by omega)] at k
        rcases Nat.lt_or_ge q (p - o - 1) with h3 | h3
        · have k2 := key (p - o) (by omega)
          rw [hz _ (by omega)] at k2
          exact nz _ (by omega) (by omega) k2.symm
        · exact nzq _ (by omega) h3 k
      · exact h1
    have hqm : D.length ≤ q + 1 := by
      rcases Nat.lt_or_ge (q + 1) D.length with h1 | h1
      · exfalso
        have k := key (q + 1) h1
        rw [hz _ (by omega)] at k
        exact nz (q + 1) (by omega) (by omega) k.symm
      · exact h1
    have k0 := key 0 (by omega)
    have k1 := key 1 (by omega)
    unfold effI at k0 k1
    rw [if_pos (by omega), if_pos (by omega)] at k0 k1
    rw [show 0 + o - q = o - q by omega, show 0 + o - p = o - p by omega] at k0
    rw [show 1 + o - q = o - (q - 1) by omega, show 1 + o - p = o - (p - 1) by omega] at k1
    have c := cross ho7 (by omega : 1 ≤ q) hq hpo
    apply c
    have e1 : (b * unitI o (o - q)) * (a * unitI o (o - (p - 1))) = (a * unitI o (o - p)) * (b * unitI o (o - (q - 1))) := by rw [k0, k1]
    have e2 : (a * b) * (unitI o (o - p) * unitI o (o - (q - 1))) = (a * b) * (unitI o (o - q) * unitI o (o - (p - 1))) := by
      have x1 : (a * b) * (unitI o (o - p) * unitI o (o - (q - 1))) = (a * unitI o (o - p)) * (b * unitI o (o - (q - 1))) := by ac_rfl
      have x2 : (a * b) * (unitI o (o - q) * unitI o (o - (p - 1))) = (b * unitI o (o - q)) * (a * unitI o (o - (p - 1))) := by ac_rfl
      rw [x1, x2, e1]
    exact Int.eq_of_mul_eq_mul_left (fun e => (Int.mul_eq_zero.1 e).elim ha b0) e2
/-- A clean table with one error: the search finds it. -/
def cleanOk (l : List Int) (d : Int) : Bool := (tableOk l && inB d 0 6) && zeroL (fdD l d)
theorem find_one {l : List Int} {d a : Int} {p : Nat} (hc : cleanOk l d = true) (h3 : d + 3 ≤ (l.length : Int)) (hp : p < l.length) (ha : a ≠ 0) (hx : tableOk (l.set p (at_ l p + a)) = true) :
    fdC (l.set p (at_ l p + a)) d = 1 ∧ fdAt (l.set p (at_ l p + a)) d = p ∧ amtI (fdD (l.set p (at_ l p + a)) d) (d + 1).toNat p = a := by
  unfold cleanOk at hc
  rw [Bool.and_eq_true, Bool.and_eq_true] at hc
  obtain ⟨⟨ht, hd⟩, hz⟩ := hc
  have hd := inB_true.1 hd
  have t1 := (tableOk_true ht).2.2
  have t2 := (tableOk_true hx).2.2 p (by rw [List.length_set]; exact hp)
  have ex : at_ (l.set p (at_ l p + a)) p = at_ l p + a := by
    unfold at_
    simp [List.getD, hp]
  rw [ex] at t2
  obtain ⟨o, ho⟩ : ∃ o, (d + 1).toNat = o := ⟨_, rfl⟩
  unfold fdD at hz
  rw [ho] at hz
  have hD : ∀ j, j < (rowI (l.set p (at_ l p + a)) o).length → at_ (rowI (l.set p (at_ l p + a)) o) j = effI o p a j := by
    intro j hj
    rw [rowI_length, List.length_set] at hj
    rw [err_row hp t1 t2 o (by omega) j (by omega), zeroL_iff.1 hz j (by rw [rowI_length]; omega), Int.zero_add]
  have hlen : (rowI (l.set p (at_ l p + a)) o).length = l.length - o := by rw [rowI_length, List.length_set]
  obtain ⟨e1, e2⟩ := ex_self (by omega) (by omega) (by omega) hD
  have hat : fdAt (l.set p (at_ l p + a)) d = p := by
    unfold fdAt fdD
    rw [ho, List.length_set]
    exact fd_at hp (fun q hq => ex_not (by omega) (by omega) (by omega) (by omega) hq ha hD) e2
  refine ⟨?_, hat, by unfold fdD; rw [ho]; exact e1⟩
  have hv : fdV (l.set p (at_ l p + a)) d = true := by
    unfold fdV
    rw [hx, List.length_set, inB_true.2 (by omega)]
    simp [h3]
  have hnz : zeroL (fdD (l.set p (at_ l p + a)) d) = false := by
    cases hq : zeroL (fdD (l.set p (at_ l p + a)) d) with
    | false => rfl
    | true =>
      exfalso
      unfold fdD at hq
      rw [ho] at hq
      have k1 := zeroL_iff.1 hq (p - o) (by omega)
      rw [hD _ (by omega)] at k1
      unfold effI at k1
      rw [if_pos (by omega)] at k1
      exact (Int.mul_eq_zero.1 k1).elim ha (unit_ne (by omega) (by omega)).1
  unfold fdC
  rw [hv, hnz, hat, List.length_set, if_neg (by simp), if_neg (by simp), if_neg (by omega)]
end Go.Proofs.YtpniljcnknknoaaGreatDoor

/-
  The search for an error, plainly: its bounds, and that both ways of it are one.
-/
namespace Go.Proofs.YtpniljcnknknoaaGreatDoor
open Go.RowKit
set_option linter.unusedVariables false
set_option linter.unusedSimpArgs false

def BdD (D : List Int) : Prop := ∀ j, j < D.length → -128000000000 ≤ at_ D j ∧ at_ D j ≤ 128000000000
theorem pow_128 {j : Nat} (h : j ≤ 7) : 0 ≤ (2 : Int) ^ j ∧ (2 : Int) ^ j ≤ 128 := by
  have : j = 0 ∨ j = 1 ∨ j = 2 ∨ j = 3 ∨ j = 4 ∨ j = 5 ∨ j = 6 ∨ j = 7 := by omega
  rcases this with rfl | rfl | rfl | rfl | rfl | rfl | rfl | rfl <;> decide
theorem diff_bd {l : List Int} (h : tableOk l = true) {o : Nat} (ho : o ≤ 7) : BdD (rowI l o) := by
  intro j hj
  have h1 := row_bd (l := l) (B := 1000000000) (by omega) (fun k hk => (tableOk_true h).2.2 k hk) o ho j hj
  obtain ⟨q0, q1⟩ := pow_128 ho
  omega
theorem bd_any {D : List Int} (h : BdD D) (j : Nat) : -128000000000 ≤ at_ D j ∧ at_ D j ≤ 128000000000 := by
  rcases Nat.lt_or_ge j D.length with h1 | h1
  · exact h j h1
  · have : at_ D j = 0 := by simp [at_, List.getD, List.getElem?_eq_none h1]
    omega
theorem tdiv_bd {a b B : Int} (h : -B ≤ a ∧ a ≤ B) : -B ≤ a.tdiv b ∧ a.tdiv b ≤ B := by
  have := Int.natAbs_tdiv_le_natAbs a b
  omega
theorem amt_bd {D : List Int} (h : BdD D) (o p : Nat) : -128000000000 ≤ amtI D o p ∧ amtI D o p ≤ 128000000000 := tdiv_bd (bd_any h _)
theorem eff_bd {D : List Int} (h : BdD D) {o : Nat} (ho : o ≤ 7) (p j : Nat) {a : Int} (ha : -128000000000 ≤ a ∧ a ≤ 128000000000) : -5000000000000 ≤ effI o p a j ∧ effI o p a j ≤ 5000000000000 := by
  unfold effI
  split
  · rename_i hc
    have hu := (unit_ne (o := o) (k := j + o - p) ho (by omega)).2
    have := mul_bd (A := 128000000000) (B := 35) ha.1 ha.2 hu.1 hu.2
    omega
  · omega
/-- What an error of 1 changes, as the reference reckons it. -/
def sgI (n : Nat) : Int := if n % 2 = 0 then 1 else -1
def coI (o p j : Nat) : Int := if p < j ∨ j + o < p then 0 else sgI (j + o - p) * chooseI (o : Int) (p - j)
def symAll : Bool := (List.range 8).all fun o => (List.range 8).all fun k => decide (k ≤ o → sgI (o - k) * chooseI (o : Int) k = unitI o (o - k))
theorem symAll_true : symAll = true := by decide +kernel
theorem sym {o k : Nat} (ho : o ≤ 7) (hk : k ≤ o) : sgI (o - k) * chooseI (o : Int) k = unitI o (o - k) := by
  have h := symAll_true
  unfold symAll at h
  rw [List.all_eq_true] at h
  have h2 := h o (List.mem_range.2 (by omega))
  rw [List.all_eq_true] at h2
  exact of_decide_eq_true (h2 k (List.mem_range.2 (by omega))) hk
theorem co_in {o p j : Nat} (ho : o ≤ 7) (h : p ≤ j + o ∧ j ≤ p) : coI o p j = unitI o (j + o - p) := by
  unfold coI
  rw [if_neg (by omega)]
  have := sym (o := o) (k := p - j) ho (by omega)
  rw [show o - (p - j) = j + o - p by omega] at this
  exact this
theorem co_out {o p j : Nat} (h : ¬ (p ≤ j + o ∧ j ≤ p)) : coI o p j = 0 := by
  unfold coI
  rw [if_pos (by omega)]
theorem co_eff {o p j : Nat} (ho : o ≤ 7) (a : Int) : a * coI o p j = effI o p a j := by
  unfold effI
  by_cases h : p ≤ j + o ∧ j ≤ p
  · rw [if_pos h, co_in ho h]
  · rw [if_neg h, co_out h, Int.mul_zero]
theorem co_bd {o p j : Nat} (ho : o ≤ 7) : -35 ≤ coI o p j ∧ coI o p j ≤ 35 := by
  by_cases h : p ≤ j + o ∧ j ≤ p
  · rw [co_in ho h]; exact (unit_ne ho (by omega)).2
  · rw [co_out h]; omega
theorem co_zero {o p j : Nat} (ho : o ≤ 7) : coI o p j = 0 ↔ ¬ (p ≤ j + o ∧ j ≤ p) := by
  constructor
  · intro h h2
    rw [co_in ho h2] at h
    exact (unit_ne ho (by omega)).1 h
  · exact co_out
/-- The amount that the reference guesses. -/
def gsI (D : List Int) (o p : Nat) : Int := if (at_ D (p - o)).tmod (unitI o (o - p)) ≠ 0 then 0 else amtI D o p
def xpOk (D : List Int) (o p : Nat) (a : Int) : Bool := decide (∀ j, j < D.length → at_ D j = a * coI o p j)
theorem xpOk_iff {D : List Int} {o p : Nat} {a : Int} : xpOk D o p a = true ↔ ∀ j, j < D.length → at_ D j = a * coI o p j := by unfold xpOk; exact decide_eq_true_iff
theorem gs_bd {D : List Int} (h : BdD D) (o p : Nat) : -128000000000 ≤ gsI D o p ∧ gsI D o p ≤ 128000000000 := by
  unfold gsI
  split
  · omega
  · exact amt_bd h o p
theorem gs_found {D : List Int} {o p : Nat} (ho : o ≤ 7) (h0 : gsI D o p ≠ 0) (h : xpOk D o p (gsI D o p) = true) : exOk D o p = true ∧ gsI D o p = amtI D o p := by
  have e : gsI D o p = amtI D o p := by
    unfold gsI at h0 ⊢
    split
    · rename_i h1
      rw [if_pos h1] at h0
      exact absurd rfl h0
    · rfl
  refine ⟨exOk_iff.2 fun j hj => ?_, e⟩
  have := xpOk_iff.1 h j hj
  rw [e, co_eff ho] at this
  exact this.symm
theorem gs_lost {D : List Int} {o p : Nat} (ho : o ≤ 7) (hz : zeroL D = false) (hp : p - o < D.length) (h : gsI D o p = 0 ∨ xpOk D o p (gsI D o p) = false) : exOk D o p = false := by
  cases hq : exOk D o p with
  | false => rfl
  | true =>
    exfalso
    have h1 := exOk_iff.1 hq
    have h2 : at_ D (p - o) = amtI D o p * coI o p (p - o) := by rw [co_eff ho, h1 _ hp]
    by_cases hc : p ≤ p - o + o ∧ p - o ≤ p
    · rw [co_in ho hc, show p - o + o - p = o - p by omega] at h2
      have h3 : (at_ D (p - o)).tmod (unitI o (o - p)) = 0 := by rw [h2]; exact Int.mul_tmod_left _ _
      have e : gsI D o p = amtI D o p := by unfold gsI; rw [if_neg (fun h => h h3)]
      rcases h with h | h
      · have : zeroL D = true := zeroL_iff.2 fun k hk => by
          have := h1 k hk
          rw [← e, h, ← co_eff ho, Int.zero_mul] at this
          exact this.symm
        rw [this] at hz
        cases hz
      · rw [e] at h
        have : xpOk D o p (amtI D o p) = true := xpOk_iff.2 fun k hk => by rw [co_eff ho, h1 k hk]
        rw [this] at h
        cases h
    · omega
/-- What the search tells: the place, the amount, the code. -/
def fdA (l : List Int) (d : Int) : Int := if fdC l d = 1 then (fdAt l d : Int) else 0
def fdM (l : List Int) (d : Int) : Int := if fdC l d = 1 then amtI (fdD l d) (d + 1).toNat (fdAt l d) else 0
theorem fd_no_v {l : List Int} {d : Int} (h : fdV l d = false) : fdC l d = 3 ∧ fdA l d = 0 ∧ fdM l d = 0 := by
  have : fdC l d = 3 := by unfold fdC; rw [if_pos h]
  exact ⟨this, by unfold fdA; rw [this]; rfl, by unfold fdM; rw [this]; rfl⟩
theorem fd_clean {l : List Int} {d : Int} (h : fdV l d = true) (hz : zeroL (fdD l d) = true) : fdC l d = 0 ∧ fdA l d = 0 ∧ fdM l d = 0 := by
  have : fdC l d = 0 := by unfold fdC; rw [if_neg (by rw [h]; simp), if_pos hz]
  exact ⟨this, by unfold fdA; rw [this]; rfl, by unfold fdM; rw [this]; rfl⟩
theorem fd_one {l : List Int} {d : Int} {p : Nat} (h : fdV l d = true) (hz : zeroL (fdD l d) = false) (hp : p < l.length) (hb : ∀ q, q < p → exOk (fdD l d) (d + 1).toNat q = false) (hx : exOk (fdD l d) (d + 1).toNat p = true) : fdC l d = 1 ∧ fdA l d = (p : Int) ∧ fdM l d = amtI (fdD l d) (d + 1).toNat p := by
  have e : fdAt l d = p := fd_at hp hb hx
  have : fdC l d = 1 := by unfold fdC; rw [if_neg (by rw [h]; simp), if_neg (by rw [hz]; simp), e, if_neg (by omega)]
  exact ⟨this, by unfold fdA; rw [if_pos this, e], by unfold fdM; rw [if_pos this, e]⟩
theorem fd_many {l : List Int} {d : Int} (h : fdV l d = true) (hz : zeroL (fdD l d) = false) (hb : ∀ q, q < l.length → exOk (fdD l d) (d + 1).toNat q = false) : fdC l d = 2 ∧ fdA l d = 0 ∧ fdM l d = 0 := by
  have e : fdAt l d = l.length := fd_no hb
  have : fdC l d = 2 := by unfold fdC; rw [if_neg (by rw [h]; simp), if_neg (by rw [hz]; simp), e, if_pos rfl]
  exact ⟨this, by unfold fdA; rw [this]; rfl, by unfold fdM; rw [this]; rfl⟩
theorem fdV_true {l : List Int} {d : Int} (h : fdV l d = true) : tableOk l = true ∧ (0 ≤ d ∧ d ≤ 6) ∧ d + 3 ≤ (l.length : Int) := by
  unfold fdV at h
  rw [Bool.and_eq_true, Bool.and_eq_true] at h
  exact ⟨h.1.1, inB_true.1 h.1.2, of_decide_eq_true h.2⟩
theorem fdC_cases (l : List Int) (d : Int) : fdC l d = 0 ∨ fdC l d = 1 ∨ fdC l d = 2 ∨ fdC l d = 3 := by
  unfold fdC
  split
  · simp
  · split
    · simp
    · split <;> simp
theorem fd_at_lt {l : List Int} {d : Int} (h : fdC l d = 1) : fdAt l d < l.length ∧ fdV l d = true := by
  unfold fdC at h
  cases hv : fdV l d
  · rw [hv] at h; simp at h
  · rw [hv, if_neg (by simp)] at h
    split at h
    · simp at h
    · split at h
      · simp at h
      · rename_i h2
        have : fdAt l d ≤ l.length := (takeWhile_spec (fun p => !exOk (fdD l d) (d + 1).toNat p) l.length).1
        exact ⟨by omega, rfl⟩
/-- The corrected table. -/
def crOk (l : List Int) (d : Int) : Bool := decide (fdC l d = 0 ∨ fdC l d = 1)
def crL (l : List Int) (d : Int) : List Int := if fdC l d = 0 then l else if fdC l d = 1 then l.set (fdAt l d) (at_ l (fdAt l d) - fdM l d) else []
theorem fdM_bd (l : List Int) (d : Int) : -128000000000 ≤ fdM l d ∧ fdM l d ≤ 128000000000 := by
  unfold fdM
  split
  · rename_i h
    obtain ⟨ht, hd, -⟩ := fdV_true (fd_at_lt h).2
    exact amt_bd (diff_bd ht (by omega)) _ _
  · omega
end Go.Proofs.YtpniljcnknknoaaGreatDoor

/-
  FindError and CorrectTable (impl): the differences of a table and what explains them.
-/
namespace Go.Proofs.YtpniljcnknknoaaGreatDoor
open Go.RowKit
set_option linter.unusedVariables false
set_option linter.unusedSimpArgs false
set_option maxRecDepth 100000
attribute [local go_sem ↓] Go.wp_at_zero Go.wp_at_succ

set_option maxHeartbeats 1000000 in
theorem diffs_any (v : Value) (l : List Int) (t : Nat) (w : World) (hv : Ints w v l) (hl : l.length ≤ 1048576) (ht : t ≤ 8) :
    Calls Tryz.prog 107 #[v, .int .i64 t] w (IntsR w (rowI l t)) := by
  have HV := Lib.hid hv
  obtain ⟨A, c, rfl, -, -, -⟩ := hv.open_
  clear hv
  go_enter Tryz.func107, Tryz.ntmps107
  go_wp2_with fail
  refine (clone_any _ l _ HV.out hl).mono ?_
  rintro e w1 ⟨r1, rfl, o1, b1⟩
  have HO := Lib.hid o1
  have HB := Lib.hid b1
  clear o1 b1
  go_wp2_with fail
  go_loopw [5, 9] (fun s i wr => ∃ k : Nat, k ≤ t ∧ i = .int .i64 k ∧ Own wr w.heap.size s (rowI l k) ∧ Below w.heap.size w wr) (fun _ i _ => t - (intOf i).toNat)
  case atStart => exact ⟨0, Nat.zero_le _, rfl, HO.out, HB.out⟩
  case round =>
    obtain ⟨k, hk, rfl, ho, hb⟩ := hrel
    have H := Lib.hid (And.intro ho hb)
    have hz := hb.size
    have hrl := rowI_length l k
    obtain ⟨A1, c1, rfl, -, -, -⟩ := ho.ints.open_
    have HR := Lib.hid (show (rowI l k).length ≤ 1048576 by omega)
    clear ho hb hrl
    by_cases hlt : k < t
    · go_wp2_with fail
      refine (neighbors_any _ _ _ H.out.1.ints HR.out).mono ?_
      rintro e w2 ⟨r, rfl, o2, b2⟩
      have HI := Lib.hid (show Own w2 w.heap.size r (nextI (rowI l k)) from o2.lower hz)
      have HB2 := Lib.hid (bel_trans H.out.2 b2)
      clear o2 b2
      go_wp2
      go_roundw
      case rel => exact ⟨k + 1, hlt, by go_num, HI.out, HB2.out⟩
      case measure => simp [intOf]; omega
    · obtain rfl : k = t := by omega
      go_wp2
      go_ret
      exact ⟨_, rfl, H.out.1, H.out.2⟩
set_option maxHeartbeats 2000000 in
theorem pattern_any (o : Nat) (w : World) (ho : o ≤ 7) :
    Calls Tryz.prog 282 #[.int .i64 o, .int .i64 1] w (IntsR w (gen (unitI o) (o + 1))) := by
  have hmk : ∀ W, (Instr.makeSlice 23 (.int .i64 ((o : Int) + 1)) (.int .i64 ((o : Int) + 1))).run Tryz.prog W = .ok (.slice (some ⟨W.heap.size, 0, none⟩) (o + 1) (o + 1)) (W.alloc (.cells (reps (o + 1) (.int .i64 0)).toArray 3)) := fun W => by
    have := Tryz.mkInts (o + 1) (by omega) W
    rwa [show (((o + 1 : Nat) : Int)) = (o : Int) + 1 by omega] at this
  go_enter Tryz.func282, Tryz.ntmps282
  go_wp2
  go_loopw [12] (fun i wr => ∃ (k : Nat) (cs : List Value), k ≤ o + 1 ∧ i = .int .i64 k ∧ Blk wr w.heap.size 3 cs ∧ cs.length = o + 1 ∧ (∀ j, j < k → cs[j]? = some (.int .i64 (unitI o j))) ∧ Below w.heap.size w wr)
    (fun i _ => o + 1 - (intOf i).toNat)
  case atStart => exact ⟨0, _, Nat.zero_le _, rfl, Blk.new _ _ _, reps_length _ _, fun j hj => absurd hj (by omega), (Below.refl _ _).alloc (Nat.le_refl _) _⟩
  case round =>
    obtain ⟨k, cs, hk, rfl, hblk, hcl, hcs, hbel⟩ := hrel
    have H := Lib.hid (And.intro hcl (And.intro hcs hbel))
    have hz := hbel.size
    clear hcs hbel
    by_cases hlt : k < o + 1
    · have hck : wr.cell? ⟨w.heap.size, k, none⟩ = some (cs[k]'(by omega)) := by rw [hblk.cell]; exact List.getElem?_eq_getElem _
      have hfw := hblk.frozen k
      have hkc : k < cs.length := by omega
      have hub := unit_ne ho (show k ≤ o by omega)
      have p3 : (0 : Int) ≤ (k : Int) := by omega
      have p4 : (k : Int) < (o : Int) + 1 := by omega
      have HCH := Lib.hid (choose_any (o : Int) k wr (by omega) (by omega))
      have HU := Lib.hid (show unitI o k = if k % 2 = 1 then -(chooseI (o : Int) k) else chooseI (o : Int) k from rfl)
      obtain ⟨C, hC⟩ : ∃ C, chooseI (o : Int) k = C := ⟨_, rfl⟩
      have hCb : -35 ≤ C ∧ C ≤ 35 := by
        have := HU.out
        rw [hC] at this
        rw [this] at hub
        split at hub <;> omega
      rw [hC] at HCH HU
      clear hub hC
      have HB := Lib.hid hblk
      go_wp2_with fail
      refine HCH.out.mono ?_
      rintro e w2 ⟨rfl, rfl⟩
      have K1 := hblk.set_ k (.int .i64 C)
      have c1 : (wr.setCell ⟨w.heap.size, k, none⟩ (.int .i64 C)).cell? ⟨w.heap.size, k, none⟩ = some (.int .i64 C) := by rw [K1.cell, List.getElem?_set_self hkc]
      have f1 := K1.frozen k
      have B1 := Lib.hid (H.out.2.2.setCell (p := ⟨w.heap.size, k, none⟩) (Nat.le_refl _) (.int .i64 C))
      by_cases hodd : k % 2 = 1
      · have m1 : (k : Int) % 2 = 1 := by omega
        have m2 : (k : Int).tmod 2 = 1 := by rw [show (k : Int).tmod 2 = ((k % 2 : Nat) : Int) from rfl, hodd]; rfl
        have HUE := Lib.hid (show unitI o k = -C by rw [HU.out, if_pos hodd])
        clear hblk
        go_wp2
        go_roundw
        case rel => exact ⟨k + 1, _, by omega, by go_num, K1.set_ k _, by rw [List.length_set, List.length_set]; exact H.out.1, by
          intro j hj
          by_cases e : j = k
          · subst e
            rw [List.getElem?_set_self (by rw [List.length_set]; exact hkc), HUE.out]
          · rw [List.getElem?_set_ne (by omega), List.getElem?_set_ne (by omega)]
            exact H.out.2.1 j (by omega), B1.out.setCell (p := ⟨w.heap.size, k, none⟩) (Nat.le_refl _) _⟩
        case measure => simp [intOf]; omega
      · have m1 : (k : Int) % 2 = 0 := by omega
        have m2 : (k : Int).tmod 2 = 0 := by rw [show (k : Int).tmod 2 = ((k % 2 : Nat) : Int) from rfl, show k % 2 = 0 by omega]; rfl
        have HUE := Lib.hid (show unitI o k = C by rw [HU.out, if_neg hodd])
        clear hblk
        go_wp2
        go_roundw
        case rel => exact ⟨k + 1, _, by omega, by go_num, K1, by rw [List.length_set]; exact H.out.1, by
          intro j hj
          by_cases e : j = k
          · subst e
            rw [List.getElem?_set_self hkc, HUE.out]
          · rw [List.getElem?_set_ne (by omega)]
            exact H.out.2.1 j (by omega), B1.out⟩
        case measure => simp [intOf]; omega
    · obtain rfl : k = o + 1 := by omega
      have HI := Lib.hid (show cs = iv (gen (unitI o) (o + 1)) from isIv (by rw [gen_length]; exact hcl) (fun j hj => by rw [gen_length] at hj; rw [at_gen hj]; exact H.out.2.1 j hj))
      have HO := Lib.hid (show Own wr w.heap.size (.slice (some ⟨w.heap.size, 0, none⟩) (o + 1) (o + 1)) (gen (unitI o) (o + 1)) from by
        have h := hblk.own (Nat.le_refl _) hcl (by unfold maxLen; omega)
        rw [HI.out] at h
        refine ⟨by rw [gen_length]; exact h, wf_gen (fun j hj => ?_), by rw [gen_length]; unfold maxLen; omega⟩
        have := (unit_ne ho (show j ≤ o by omega)).2
        omega)
      go_wp2
      go_ret
      exact ⟨_, rfl, HO.out, H.out.2.2⟩
def exM (D : List Int) (o p : Nat) : Int := if exOk D o p = true then amtI D o p else 0
theorem exM_no {D : List Int} {o p : Nat} (h : exOk D o p = false) : exM D o p = 0 := by unfold exM; rw [h]; rfl
theorem exM_yes {D : List Int} {o p : Nat} (h : exOk D o p = true) : exM D o p = amtI D o p := by unfold exM; rw [h]; rfl
set_option maxHeartbeats 4000000 in
theorem errAt_any (v : Value) (D : List Int) (o p : Nat) (w : World) (hv : Ints w v D) (hb : BdD D) (ho : 1 ≤ o ∧ o ≤ 7) (h1 : 1 ≤ D.length) (hp : p < D.length + o) (h60 : D.length ≤ 60) :
    Calls Tryz.prog 266 #[v, .int .i64 o, .int .i64 p] w fun e w' => e = .returned (.tuple #[.int .i64 (exM D o p), .bool (exOk D o p)]) ∧ Below w.heap.size w w' := by
  have HV := Lib.hid hv
  have HBD := Lib.hid hb
  obtain ⟨A, c, rfl, hlc, hc, hrd⟩ := hv.open_
  obtain ⟨b, q, rfl, hbb, hcell⟩ := hrd.ints (by omega)
  have HC := Lib.hid hcell
  clear hv hrd hcell hb
  go_enter Tryz.func266, Tryz.ntmps266
  go_wp2_with fail
  refine (pattern_any o _ ho.2).mono ?_
  rintro e w1 ⟨r, rfl, o1, b1⟩
  have HO := Lib.hid o1
  have HB := Lib.hid b1
  obtain ⟨g, cap, cs, e1, hg, hblk, hle, hcap, hcl, hcs⟩ := o1.form.resolve_left (by rintro ⟨-, h⟩; exact absurd (congrArg List.length h) (by rw [gen_length]; simp))
  rw [gen_length] at e1 hle hcs
  subst e1
  have HP := Lib.hid (show ∀ k, k < o + 1 → w1.cell? ⟨g, k, none⟩ = some (.int .i64 (unitI o k)) from fun k hk => by rw [hblk.cell, hcs k hk, at_gen hk])
  clear o1 b1 hblk hcs hcl cs
  have hT := bd_any HBD.out (p - o)
  have x1 : w1.cell? ⟨b, q + (p - o), none⟩ = some (.int .i64 (at_ D (p - o))) := (HB.out.cell hbb).trans (HC.out (p - o) (by omega))
  have x2 : w1.cell? ⟨g, o - p, none⟩ = some (.int .i64 (unitI o (o - p))) := HP.out (o - p) (by omega)
  have hu := unit_ne ho.2 (show o - p ≤ o by omega)
  have HAM := Lib.hid (show amtI D o p = (at_ D (p - o)).tdiv (unitI o (o - p)) from rfl)
  have hab := amt_bd HBD.out o p
  have HEB := Lib.hid (fun j => eff_bd HBD.out ho.2 p j hab)
  have HEX := Lib.hid (exOk_iff (D := D) (o := o) (p := p))
  obtain ⟨f, hf⟩ : ∃ f : Nat, p - o = f := ⟨_, rfl⟩
  obtain ⟨u, hu2⟩ : ∃ u : Nat, o - p = u := ⟨_, rfl⟩
  obtain ⟨T, hT2⟩ : ∃ T, at_ D (p - o) = T := ⟨_, rfl⟩
  obtain ⟨U, hU⟩ : ∃ U, unitI o (o - p) = U := ⟨_, rfl⟩
  obtain ⟨a, ha⟩ : ∃ a, amtI D o p = a := ⟨_, rfl⟩
  obtain ⟨F, hF⟩ : ∃ F : Int, (p : Int) - (o : Int) = F := ⟨_, rfl⟩
  have hFf : (F.toNat = f ∧ (-F).toNat = u) ∧ f < D.length ∧ u ≤ o := by omega
  have HF := Lib.hid hF
  rw [hT2] at x1 hT HAM
  rw [hU] at x2 hu HAM
  rw [hf] at x1
  rw [hu2] at x2
  rw [ha] at HAM hab HEB HEX
  have HA := Lib.hid ha
  rw [← hFf.1.1] at x1
  rw [← hFf.1.2] at x2
  clear hf hu2 hT2 hU ha
  have hFi : F < (D.length : Int) ∧ -F < (o : Int) + 1 := by omega
  have HFf := Lib.hid hFf
  clear hFf
  have p5 : ¬ U = 0 := hu.1
  have p6 : (U == 0) = false := by simp [hu.1]
  have p7 : T.tdiv U = a := HAM.out.symm
  by_cases hpo : 0 < F
  case' pos =>
    have p1 : (0 : Int) ≤ F := by omega
    have p2 : F < (D.length : Int) := by omega
    have p4 : (0 : Int) < (o : Int) + 1 := by omega
    rw [show (-F).toNat = 0 by omega] at x2
    go_wp2_with fail
    go_quiet (fail)
  case' neg =>
    have p2 : (0 : Int) < (D.length : Int) := by omega
    have p3 : (0 : Int) ≤ -F := by omega
    have p4 : -F < (o : Int) + 1 := by omega
    have p8 : 0 < D.length := by omega
    rw [show F.toNat = 0 by omega, Nat.add_zero] at x1
    go_wp2_with fail
    go_quiet (fail)
  all_goals
    clear x1 x2 p2 p4 p5 p6 p7 hT hu HAM
    go_wp2
    go_loopw [36] (fun i wr => ∃ j : Nat, j ≤ D.length ∧ i = .int .i64 j ∧ (∀ k, k < j → effI o p a k = at_ D k) ∧ Below w1.heap.size w1 wr) (fun i _ => D.length - (intOf i).toNat)
    case atStart => exact ⟨0, Nat.zero_le _, rfl, fun k hk => absurd hk (by omega), below_drewN (Below.refl _ _) _⟩
    case round =>
      obtain ⟨j, hj, rfl, hall, hbl⟩ := hrel
      have H := Lib.hid (And.intro hall hbl)
      clear hall hbl
      by_cases hlt : j < D.length
      · have hck := (H.out.2.cell (Nat.lt_of_lt_of_le hbb HB.out.size)).trans ((HB.out.cell hbb).trans (HC.out j hlt))
        have hXb := HBD.out j hlt
        have hEb := HEB.out j
        have HBAD := Lib.hid (show effI o p a j ≠ at_ D j → exOk D o p = false from fun hne => by
          rw [Bool.eq_false_iff]
          intro h
          exact hne (HEX.out.1 h j hlt))
        have HGOOD := Lib.hid (fun h : effI o p a j = at_ D j => toSucc (q := fun k => effI o p a k = at_ D k) H.out.1 h)
        have HE := Lib.hid (show effI o p a j = if p ≤ j + o ∧ j ≤ p then a * unitI o (j + o - p) else 0 from rfl)
        obtain ⟨E, hE⟩ : ∃ E, effI o p a j = E := ⟨_, rfl⟩
        obtain ⟨X, hX⟩ : ∃ X, at_ D j = X := ⟨_, rfl⟩
        rw [hE] at hEb HBAD HGOOD HE
        rw [hX] at hck hXb HBAD HGOOD
        clear hE hX
        by_cases hin : p ≤ j + o ∧ j ≤ p
        · have tk : True := trivial
          have t1 : (0 : Int) ≤ (j : Int) - F := by omega
          have t1' : F ≤ (j : Int) := by omega
          have t2 : (j : Int) - F ≤ (o : Int) := by omega
          have t3 : (j : Int) - F < (o : Int) + 1 := by omega
          have hu := H.out.2.cell (p := ⟨g, j + o - p, none⟩) (by have := (HO.out.lt g rfl).2; exact this)
          rw [HP.out (j + o - p) (by omega), show j + o - p = ((j : Int) - F).toNat by omega] at hu
          have hv := HE.out
          rw [if_pos hin, show j + o - p = ((j : Int) - F).toNat by omega] at hv
          obtain ⟨V, hV⟩ : ∃ V, unitI o ((j : Int) - F).toNat = V := ⟨_, rfl⟩
          rw [hV] at hu hv
          have t4 : a * V = E := hv.symm
          clear hV hv
          by_cases hne : E = X
          · have HG := Lib.hid (HGOOD.out hne)
            have z1 : (E != X) = false := by simp [hne]
            clear hne
            go_wp2
            go_roundw
            case rel => exact ⟨j + 1, hlt, by go_num, HG.out, H.out.2⟩
            case measure => simp [intOf]; omega
          · have HG := Lib.hid (HBAD.out hne)
            have z1 : (E != X) = true := by simp [hne]
            clear hne
            go_wp2
            go_ret2
            exact ⟨by rw [exM_no HG.out, HG.out]; rfl, HB.out.trans (H.out.2.mono HB.out.size)⟩
        · have tk : True := trivial
          have hv : E = 0 := by rw [HE.out, if_neg hin]
          subst hv
          by_cases hlow : (j : Int) - F < 0
          · have t1 : ¬ (0 : Int) ≤ (j : Int) - F := by omega
            have t1' : ¬ F ≤ (j : Int) := by omega
            by_cases hne : (0 : Int) = X
            · have HG := Lib.hid (HGOOD.out hne)
              have z1 : ((0 : Int) != X) = false := by simp [← hne]
              clear hne
              go_wp2
              go_roundw
              case rel => exact ⟨j + 1, hlt, by go_num, HG.out, H.out.2⟩
              case measure => simp [intOf]; omega
            · have HG := Lib.hid (HBAD.out hne)
              have z1 : ((0 : Int) != X) = true := by simp [hne]
              clear hne
              go_wp2
              go_ret2
              exact ⟨by rw [exM_no HG.out, HG.out]; rfl, HB.out.trans (H.out.2.mono HB.out.size)⟩
          · have t1 : (0 : Int) ≤ (j : Int) - F := by omega
            have t1' : F ≤ (j : Int) := by omega
            have t2 : ¬ (j : Int) - F ≤ (o : Int) := by omega
            by_cases hne : (0 : Int) = X
            · have HG := Lib.hid (HGOOD.out hne)
              have z1 : ((0 : Int) != X) = false := by simp [← hne]
              clear hne
              go_wp2
              go_roundw
              case rel => exact ⟨j + 1, hlt, by go_num, HG.out, H.out.2⟩
              case measure => simp [intOf]; omega
            · have HG := Lib.hid (HBAD.out hne)
              have z1 : ((0 : Int) != X) = true := by simp [hne]
              clear hne
              go_wp2
              go_ret2
              exact ⟨by rw [exM_no HG.out, HG.out]; rfl, HB.out.trans (H.out.2.mono HB.out.size)⟩
      · obtain rfl : j = D.length := by omega
        have HG := Lib.hid (show exOk D o p = true from HEX.out.2 H.out.1)
        go_wp2
        go_ret2
        exact ⟨by rw [exM_yes HG.out, HG.out, HA.out]; rfl, HB.out.trans (H.out.2.mono HB.out.size)⟩
end Go.Proofs.YtpniljcnknknoaaGreatDoor

/-
  FindError and CorrectTable (impl).
-/
namespace Go.Proofs.YtpniljcnknknoaaGreatDoor
open Go.RowKit
set_option linter.unusedVariables false
set_option linter.unusedSimpArgs false
set_option maxRecDepth 100000
attribute [local go_sem ↓] Go.wp_at_zero Go.wp_at_succ

/-- What a search returns. -/
def FdE (l : List Int) (d : Int) (e : Ending) : Prop := e = .returned (.tuple #[.int .i64 (fdA l d), .int .i64 (fdM l d), .int .i64 (fdC l d)])
theorem FdE.of {l : List Int} {d a m c : Int} (h : fdC l d = c ∧ fdA l d = a ∧ fdM l d = m) : FdE l d (.returned (.tuple #[.int .i64 a, .int .i64 m, .int .i64 c])) := by
  obtain ⟨h1, h2, h3⟩ := h
  unfold FdE
  rw [h1, h2, h3]
set_option maxHeartbeats 4000000 in
theorem implFind_any (v : Value) (l : List Int) (d : Int) (w : World) (hv : Ints w v l) (hd : -9223372036854775808 ≤ d ∧ d ≤ 9223372036854775807) :
    Calls Tryz.prog 237 #[v, .int .i64 d] w fun e w' => FdE l d e ∧ Below w.heap.size w w' := by
  have HV := Lib.hid hv
  obtain ⟨A, c, rfl, hlc, hc, -⟩ := hv.open_
  clear hv
  go_enter Tryz.func237, Tryz.ntmps237
  cases ht : tableOk l
  · have HN := Lib.hid (FdE.of (fd_no_v (l := l) (d := d) (by unfold fdV; rw [ht]; rfl)))
    go_wp2_with (first
      | (go_at_call 31; refine (implTable_any _ _ _ HV.out).mono ?_; rw [ht]; rintro e w' ⟨rfl, rfl⟩))
    refine bodyPost_ret (v := .tuple #[.int .i64 0, .int .i64 0, .int .i64 3]) (by simp [results, Tryz.results237, go_sem]) rfl ⟨HN.out, Below.refl _ _⟩
  · cases hdg : inB d 0 6
    · have HN := Lib.hid (FdE.of (fd_no_v (l := l) (d := d) (by unfold fdV; rw [ht, hdg]; rfl)))
      go_wp2_with (first
        | (go_at_call 31; refine (implTable_any _ _ _ HV.out).mono ?_; rw [ht]; rintro e w' ⟨rfl, rfl⟩)
        | (go_at_call 94; refine (degV_any _ _).mono ?_; rw [hdg]; rintro e w' ⟨rfl, rfl⟩))
      refine bodyPost_ret (v := .tuple #[.int .i64 0, .int .i64 0, .int .i64 3]) (by simp [results, Tryz.results237, go_sem]) rfl ⟨HN.out, Below.refl _ _⟩
    · have hd' := inB_true.1 hdg
      by_cases h3 : (l.length : Int) < d + 3
      · have HN := Lib.hid (FdE.of (fd_no_v (l := l) (d := d) (by
          unfold fdV
          rw [ht, hdg, decide_eq_false (by omega)]
          rfl)))
        go_wp2_with (first
          | (go_at_call 31; refine (implTable_any _ _ _ HV.out).mono ?_; rw [ht]; rintro e w' ⟨rfl, rfl⟩)
          | (go_at_call 94; refine (degV_any _ _).mono ?_; rw [hdg]; rintro e w' ⟨rfl, rfl⟩))
        refine bodyPost_ret (v := .tuple #[.int .i64 0, .int .i64 0, .int .i64 3]) (by simp [results, Tryz.results237, go_sem]) rfl ⟨HN.out, Below.refl _ _⟩
      · have HVV := Lib.hid (show fdV l d = true by unfold fdV; rw [ht, hdg, decide_eq_true (by omega)]; rfl)
        have HT := Lib.hid ht
        obtain ⟨t1, t60, -⟩ := tableOk_true ht
        obtain ⟨o, rfl⟩ : ∃ o : Nat, d = o := ⟨d.toNat, by omega⟩
        have HDD := Lib.hid (show fdD l (o : Int) = rowI l (o + 1) from rfl)
        have HOO := Lib.hid (show ((o : Int) + 1).toNat = o + 1 by omega)
        have hrl := rowI_length l (o + 1)
        have HLB := Lib.hid (diff_bd (l := l) ht (o := o + 1) (by omega))
        have HDF := Lib.hid (show ∀ w v, Ints w v l → Calls Tryz.prog 107 #[v, .int .i64 ((o : Int) + 1)] w (IntsR w (rowI l (o + 1))) from fun w v h => by
          have := diffs_any v l (o + 1) w h (by omega) (by omega)
          rwa [show ((o + 1 : Nat) : Int) = (o : Int) + 1 by omega] at this)
        obtain ⟨D, hD⟩ : ∃ D, rowI l (o + 1) = D := ⟨_, rfl⟩
        rw [hD] at hrl HLB HDF HDD
        have HER := Lib.hid (show ∀ w v (p : Nat), Ints w v D → p < l.length → Calls Tryz.prog 266 #[v, .int .i64 ((o : Int) + 1), .int .i64 p] w fun e w' => e = .returned (.tuple #[.int .i64 (exM D (o + 1) p), .bool (exOk D (o + 1) p)]) ∧ Below w.heap.size w w' from fun w v p h hp => by
          have := errAt_any v D (o + 1) p w h HLB.out (by omega) (by omega) (by omega) (by omega)
          rwa [show ((o + 1 : Nat) : Int) = (o : Int) + 1 by omega] at this)
        clear hD hrl
        clear hd
        go_wp2_with (first
          | (go_at_call 31; refine (implTable_any _ _ _ HV.out).mono ?_; rw [ht]; rintro e w' ⟨rfl, rfl⟩)
          | (go_at_call 94; refine (degV_any _ _).mono ?_; rw [hdg]; rintro e w' ⟨rfl, rfl⟩))
        refine (HDF.out _ _ HV.out).mono ?_
        rintro e w2 ⟨r, rfl, o2, b2⟩
        have HO := Lib.hid o2.ints
        have HB := Lib.hid b2
        obtain ⟨A2, c2, rfl, -, -, -⟩ := o2.ints.open_
        clear o2 b2
        cases hz : zeroL D
        · have HZ := Lib.hid hz
          go_wp2_with fail
          refine (implZero_any _ _ _ HO.out).mono ?_
          rw [hz]
          rintro e w3 ⟨rfl, rfl⟩
          go_wp2
          go_loopw [34] (fun i wr => ∃ k : Nat, k ≤ l.length ∧ i = .int .i64 k ∧ (∀ q, q < k → exOk D (o + 1) q = false) ∧ Below w.heap.size w wr ∧ Below w2.heap.size w2 wr) (fun i _ => l.length - (intOf i).toNat)
          case atStart => exact ⟨0, Nat.zero_le _, rfl, fun q hq => absurd hq (by omega), HB.out, Below.refl _ _⟩
          case round =>
            obtain ⟨k, hk, rfl, hall, hbl, hbl2⟩ := hrel
            have H := Lib.hid (And.intro hall (And.intro hbl hbl2))
            clear hall hbl hbl2 hz
            by_cases hlt : k < l.length
            · go_wp2_with fail
              refine (HER.out _ _ k (HO.out.bel H.out.2.2) hlt).mono ?_
              rintro e w4 ⟨rfl, b4⟩
              have HB4 := Lib.hid (bel_trans H.out.2.1 b4)
              have HB5 := Lib.hid (bel_trans H.out.2.2 b4)
              clear b4
              cases hx : exOk D (o + 1) k
              · have HALL := Lib.hid (toSucc (q := fun q => exOk D (o + 1) q = false) H.out.1 hx)
                clear hx
                go_wp2
                go_roundw
                case rel => exact ⟨k + 1, hlt, by go_num, HALL.out, HB4.out, HB5.out⟩
                case measure => simp [intOf]; omega
              · have HF := Lib.hid (FdE.of (show fdC l (o : Int) = 1 ∧ fdA l (o : Int) = (k : Int) ∧ fdM l (o : Int) = exM D (o + 1) k from by
                  rw [exM_yes hx]
                  have := fd_one (l := l) (d := (o : Int)) (p := k) HVV.out (by rw [HDD.out]; exact HZ.out) hlt (by rw [HDD.out, HOO.out]; exact H.out.1) (by rw [HDD.out, HOO.out]; exact hx)
                  rwa [HDD.out, HOO.out] at this))
                obtain ⟨m, hm⟩ : ∃ m, exM D (o + 1) k = m := ⟨_, rfl⟩
                rw [hm] at HF ⊢
                clear hx hm
                go_wp2
                refine bodyPost_ret (v := .tuple #[.int .i64 k, .int .i64 m, .int .i64 1]) (by simp [results, Tryz.results237, go_sem]) rfl ⟨HF.out, HB4.out⟩
            · obtain rfl : k = l.length := by omega
              have HF := Lib.hid (FdE.of (fd_many (l := l) (d := (o : Int)) HVV.out (by rw [HDD.out]; exact HZ.out) (by rw [HDD.out, HOO.out]; exact H.out.1)))
              go_wp2
              refine bodyPost_ret (v := .tuple #[.int .i64 0, .int .i64 0, .int .i64 2]) (by simp [results, Tryz.results237, go_sem]) rfl ⟨HF.out, H.out.2.1⟩
        · have HF := Lib.hid (FdE.of (fd_clean (l := l) (d := (o : Int)) HVV.out (by rw [HDD.out]; exact hz)))
          go_wp2_with fail
          refine (implZero_any _ _ _ HO.out).mono ?_
          rw [hz]
          rintro e w3 ⟨rfl, rfl⟩
          go_wp2
          refine bodyPost_ret (v := .tuple #[.int .i64 0, .int .i64 0, .int .i64 0]) (by simp [results, Tryz.results237, go_sem]) rfl ⟨HF.out, HB.out⟩
theorem cr_bad {l : List Int} {d : Int} (h : fdC l d = 2 ∨ fdC l d = 3) : crOk l d = false ∧ crL l d = [] := by
  rcases h with h | h
  · exact ⟨by unfold crOk; rw [h]; rfl, by unfold crL; rw [h]; rfl⟩
  · exact ⟨by unfold crOk; rw [h]; rfl, by unfold crL; rw [h]; rfl⟩
theorem cr_clean {l : List Int} {d : Int} (h : fdC l d = 0) : crOk l d = true ∧ crL l d = l := ⟨by unfold crOk; rw [h]; rfl, by unfold crL; rw [h]; rfl⟩
theorem cr_one {l : List Int} {d : Int} (h : fdC l d = 1) : crOk l d = true ∧ crL l d = l.set (fdAt l d) (at_ l (fdAt l d) - fdM l d) := ⟨by unfold crOk; rw [h]; rfl, by unfold crL; rw [h]; rfl⟩
theorem fdA_one {l : List Int} {d : Int} (h : fdC l d = 1) : fdA l d = (fdAt l d : Int) := by unfold fdA; rw [if_pos h]
theorem fdA_not {l : List Int} {d : Int} (h : fdC l d ≠ 1) : fdA l d = 0 ∧ fdM l d = 0 := ⟨by unfold fdA; rw [if_neg h], by unfold fdM; rw [if_neg h]⟩
theorem fd_valid {l : List Int} {d : Int} (h : fdC l d ≠ 3) : fdV l d = true := by
  cases hv : fdV l d with
  | true => rfl
  | false => exact absurd (fd_no_v hv).1 h
set_option maxHeartbeats 4000000 in
theorem implCorr_any (v : Value) (l : List Int) (d : Int) (w : World) (hv : Ints w v l) (hd : -9223372036854775808 ≤ d ∧ d ≤ 9223372036854775807) :
    Calls Tryz.prog 198 #[v, .int .i64 d] w (IntsQ w (crL l d) (crOk l d)) := by
  have HV := Lib.hid hv
  obtain ⟨A, c, rfl, hlc, hc, -⟩ := hv.open_
  have HF := Lib.hid (implFind_any _ l d w hv hd)
  have HT := Lib.hid (fun h => (tableOk_true (fdV_true (fd_valid (l := l) (d := d) h)).1))
  have HM := Lib.hid (fdM_bd l d)
  clear hv hd
  go_enter Tryz.func198, Tryz.ntmps198
  rcases fdC_cases l d with hq | hq | hq | hq
  · have HN := Lib.hid (cr_clean hq)
    have hl := (HT.out (by rw [hq]; decide)).2.1
    have HA := Lib.hid (fdA_not (l := l) (d := d) (by rw [hq]; decide))
    go_wp2_with fail
    refine HF.out.mono ?_
    unfold FdE
    rw [hq, HA.out.1, HA.out.2]
    rintro e w1 ⟨rfl, b1⟩
    have HB := Lib.hid b1
    clear b1
    go_wp2_with fail
    refine (clone_any _ l _ (HV.out.bel HB.out) (by omega)).mono ?_
    rintro e w2 ⟨r, rfl, o2, b2⟩
    have HO := Lib.hid (o2.lower HB.out.size)
    have HB2 := Lib.hid (bel_trans HB.out b2)
    clear o2 b2
    go_wp2
    go_ret2
    exact ⟨_, by rw [HN.out.1]; rfl, by rw [HN.out.2]; exact HO.out, HB2.out⟩
  · have HN := Lib.hid (cr_one hq)
    have hlt := (fd_at_lt hq).1
    have ht := HT.out (by rw [hq]; decide)
    have hl := ht.2.1
    have hX := ht.2.2 _ hlt
    have HA := Lib.hid (fdA_one hq)
    have hm := HM.out
    obtain ⟨k, hk⟩ : ∃ k, fdAt l d = k := ⟨_, rfl⟩
    obtain ⟨M, hM⟩ : ∃ M, fdM l d = M := ⟨_, rfl⟩
    rw [hk] at HA hlt hX
    rw [hk, hM] at HN
    rw [hM] at hm
    go_wp2_with fail
    refine HF.out.mono ?_
    unfold FdE
    rw [hq, HA.out, hM]
    rintro e w1 ⟨rfl, b1⟩
    have HB := Lib.hid b1
    clear b1 hM hk hq ht
    go_wp2_with fail
    refine (clone_any _ l _ (HV.out.bel HB.out) (by omega)).mono ?_
    rintro e w2 ⟨r, rfl, o2, b2⟩
    obtain ⟨g, cap, rfl, hg1, hg2, -, -, hcell⟩ := o2.openN (by omega)
    obtain ⟨x1, x2⟩ := hcell k hlt
    have HO := Lib.hid (o2.lower HB.out.size)
    have HB2 := Lib.hid (bel_trans HB.out b2)
    have hg3 : w.heap.size ≤ g := Nat.le_trans HB.out.size hg1
    clear o2 b2 hcell
    have HS := Lib.hid (HO.out.set_ k (at_ l k - M) hlt (by omega))
    have HB3 := Lib.hid (HB2.out.setCell (p := ⟨g, k, none⟩) hg3 (.int .i64 (at_ l k - M)))
    obtain ⟨X, hXX⟩ : ∃ X, at_ l k = X := ⟨_, rfl⟩
    rw [hXX] at x1 hX HS HB3 HN
    clear hXX
    go_wp2
    go_ret2
    exact ⟨_, by rw [HN.out.1]; rfl, by rw [HN.out.2]; first | exact HS.out | (have := HS.out; rw [List.length_set] at this; exact this), HB3.out⟩
  all_goals
    have HN := Lib.hid (cr_bad (l := l) (d := d) (by first | exact .inl hq | exact .inr hq))
    have HA := Lib.hid (fdA_not (l := l) (d := d) (by rw [hq]; decide))
    go_wp2_with fail
    refine HF.out.mono ?_
    unfold FdE
    rw [hq, HA.out.1, HA.out.2]
    rintro e w1 ⟨rfl, b1⟩
    have HB := Lib.hid b1
    clear b1
    go_wp2
    go_ret2
    exact ⟨_, by rw [HN.out.1]; rfl, by rw [HN.out.2]; exact Own.nil_ _ _, HB.out⟩
end Go.Proofs.YtpniljcnknknoaaGreatDoor

/-
  CleanTable of both sides, PutError (impl).
-/
namespace Go.Proofs.YtpniljcnknknoaaGreatDoor
open Go.RowKit
set_option linter.unusedVariables false
set_option linter.unusedSimpArgs false
set_option maxRecDepth 100000
attribute [local go_sem ↓] Go.wp_at_zero Go.wp_at_succ

theorem clean_tab {l : List Int} {d : Int} (h : tableOk l = false) : cleanOk l d = false := by unfold cleanOk; rw [h]; rfl
theorem clean_deg {l : List Int} {d : Int} (h : inB d 0 6 = false) : cleanOk l d = false := by unfold cleanOk; rw [h]; simp
theorem clean_row {l : List Int} {o : Nat} (h1 : tableOk l = true) (h2 : inB (o : Int) 0 6 = true) : cleanOk l (o : Int) = zeroL (rowI l (o + 1)) := by
  unfold cleanOk
  rw [h1, h2]
  rfl
set_option maxHeartbeats 2000000 in
theorem implClean_any (v : Value) (l : List Int) (d : Int) (w : World) (hv : Ints w v l) :
    Calls Tryz.prog 40 #[v, .int .i64 d] w fun e w' => e = .returned (.bool (cleanOk l d)) ∧ Below w.heap.size w w' := by
  have HV := Lib.hid hv
  obtain ⟨A, c, rfl, hlc, hc, -⟩ := hv.open_
  clear hv
  go_enter Tryz.func40, Tryz.ntmps40
  cases ht : tableOk l
  · have HN := Lib.hid (clean_tab (d := d) ht)
    go_wp2_with fail
    refine (implTable_any _ l _ HV.out).mono ?_
    rw [ht]
    rintro e w1 ⟨rfl, rfl⟩
    go_wp2
    go_ret
    exact ⟨by rw [HN.out]; rfl, Below.refl _ _⟩
  · cases hdg : inB d 0 6
    · have HN := Lib.hid (clean_deg (l := l) hdg)
      go_wp2_with fail
      refine (implTable_any _ l _ HV.out).mono ?_
      rw [ht]
      rintro e w1 ⟨rfl, rfl⟩
      go_wp2_with fail
      refine (degV_any _ _).mono ?_
      rw [hdg]
      rintro e w1 ⟨rfl, rfl⟩
      go_wp2
      go_ret
      exact ⟨by rw [HN.out]; rfl, Below.refl _ _⟩
    · have hd' := inB_true.1 hdg
      have l60 := (tableOk_true ht).2.1
      obtain ⟨o, rfl⟩ : ∃ o : Nat, d = o := ⟨d.toNat, by omega⟩
      have HN := Lib.hid (clean_row ht hdg)
      have HDF := Lib.hid (show ∀ w v, Ints w v l → Calls Tryz.prog 107 #[v, .int .i64 ((o : Int) + 1)] w (IntsR w (rowI l (o + 1))) from fun w v h => by
        have := diffs_any v l (o + 1) w h (by omega) (by omega)
        rwa [show ((o + 1 : Nat) : Int) = (o : Int) + 1 by omega] at this)
      obtain ⟨D, hD⟩ : ∃ D, rowI l (o + 1) = D := ⟨_, rfl⟩
      rw [hD] at HN HDF
      clear hD
      go_wp2_with fail
      refine (implTable_any _ l _ HV.out).mono ?_
      rw [ht]
      rintro e w1 ⟨rfl, rfl⟩
      go_wp2_with fail
      refine (degV_any _ _).mono ?_
      rw [hdg]
      rintro e w1 ⟨rfl, rfl⟩
      go_wp2_with fail
      refine (HDF.out _ _ HV.out).mono ?_
      rintro e w2 ⟨r, rfl, o2, b2⟩
      have HO := Lib.hid o2.ints
      have HB := Lib.hid b2
      obtain ⟨A2, c2, rfl, -, -, -⟩ := o2.ints.open_
      clear o2 b2
      go_wp2_with fail
      refine (implZero_any _ _ _ HO.out).mono ?_
      rintro e w3 ⟨rfl, rfl⟩
      go_wp2
      go_ret
      exact ⟨by rw [HN.out]; rfl, HB.out⟩
/-- Numbers that can be read. -/
def IntsI (w : World) (l : List Int) (e : Ending) (w' : World) : Prop := ∃ r, e = .returned r ∧ Ints w' r l ∧ Below w.heap.size w w'
set_option maxHeartbeats 1000000 in
theorem l4Row_any (v : Value) (l : List Int) (t : Nat) (w : World) (hv : Ints w v l) (hl : l.length ≤ 1048576) (ht : t ≤ 8) :
    Calls Tryz.prog 172 #[v, .int .i64 t] w (IntsI w (rowI l t)) := by
  have HV := Lib.hid hv
  obtain ⟨A, c, rfl, -, -, -⟩ := hv.open_
  clear hv
  go_enter Tryz.func172, Tryz.ntmps172
  go_wp2
  go_loopw [5, 6] (fun s i wr => ∃ k : Nat, k ≤ t ∧ i = .int .i64 k ∧ Ints wr s (rowI l k) ∧ Below w.heap.size w wr) (fun _ i _ => t - (intOf i).toNat)
  case atStart => exact ⟨0, Nat.zero_le _, rfl, HV.out, Below.refl _ _⟩
  case round =>
    obtain ⟨k, hk, rfl, ho, hb⟩ := hrel
    have H := Lib.hid (And.intro ho hb)
    have hrl := rowI_length l k
    obtain ⟨A1, c1, rfl, -, -, -⟩ := ho.open_
    have HR := Lib.hid (show (rowI l k).length ≤ 1048576 by omega)
    clear ho hb hrl
    by_cases hlt : k < t
    · go_wp2_with fail
      refine (l2Next_any _ _ _ H.out.1 HR.out).mono ?_
      rintro e w2 ⟨r, rfl, o2, b2⟩
      have HI := Lib.hid (show Ints w2 r (nextI (rowI l k)) from o2.ints)
      have HB2 := Lib.hid (bel_trans H.out.2 b2)
      clear o2 b2
      go_wp2
      go_roundw
      case rel => exact ⟨k + 1, hlt, by go_num, HI.out, HB2.out⟩
      case measure => simp [intOf]; omega
    · obtain rfl : k = t := by omega
      go_wp2
      go_ret
      exact ⟨_, rfl, H.out.1, H.out.2⟩
set_option maxHeartbeats 1000000 in
theorem l4Clean_any (v : Value) (l : List Int) (o : Nat) (w : World) (hv : Ints w v l) (hl : l.length ≤ 1048576) (ho : o ≤ 6) :
    Calls Tryz.prog 109 #[v, .int .i64 o] w fun e w' => e = .returned (.bool (zeroL (rowI l (o + 1)))) ∧ Below w.heap.size w w' := by
  have HV := Lib.hid hv
  obtain ⟨A, c, rfl, -, -, -⟩ := hv.open_
  have HDF := Lib.hid (show ∀ w v, Ints w v l → Calls Tryz.prog 172 #[v, .int .i64 ((o : Int) + 1)] w (IntsI w (rowI l (o + 1))) from fun w v h => by
    have := l4Row_any v l (o + 1) w h (by omega) (by omega)
    rwa [show ((o + 1 : Nat) : Int) = (o : Int) + 1 by omega] at this)
  clear hv
  obtain ⟨D, hD⟩ : ∃ D, rowI l (o + 1) = D := ⟨_, rfl⟩
  rw [hD] at HDF ⊢
  clear hD
  go_enter Tryz.func109, Tryz.ntmps109
  go_wp2_with fail
  refine (HDF.out _ _ HV.out).mono ?_
  rintro e w2 ⟨r, rfl, o2, b2⟩
  have HO := Lib.hid o2
  have HB := Lib.hid b2
  obtain ⟨A2, c2, rfl, -, -, -⟩ := o2.open_
  clear o2 b2
  go_wp2_with fail
  refine (specZero_any _ _ _ HO.out).mono ?_
  rintro e w3 ⟨rfl, rfl⟩
  go_wp2
  go_ret
  exact ⟨rfl, HB.out⟩
set_option maxHeartbeats 400000 in
theorem l4Degree_any (d : Int) (w : World) :
    Calls Tryz.prog 108 #[.int .i64 d] w fun e w' => e = .returned (.bool (inB d 0 6)) ∧ w = w' := by
  go_enter Tryz.func108, Tryz.ntmps108
  go_wp2_with fail
  refine (l1In_any _ _ _ _).mono ?_
  rintro e w' ⟨rfl, rfl⟩
  go_wp2
  go_ret
  exact ⟨rfl, rfl⟩
set_option maxHeartbeats 2000000 in
theorem specClean_any (v : Value) (l : List Int) (d : Int) (w : World) (hv : Ints w v l) :
    Calls Tryz.prog 41 #[v, .int .i64 d] w fun e w' => e = .returned (.bool (cleanOk l d)) ∧ Below w.heap.size w w' := by
  have HV := Lib.hid hv
  obtain ⟨A, c, rfl, hlc, hc, -⟩ := hv.open_
  clear hv
  go_enter Tryz.func41, Tryz.ntmps41
  cases ht : tableOk l
  · have HN := Lib.hid (clean_tab (d := d) ht)
    go_wp2_with fail
    refine (specTable_any _ l _ HV.out).mono ?_
    rw [ht]
    rintro e w1 ⟨rfl, rfl⟩
    go_wp2
    go_ret
    exact ⟨by rw [HN.out]; rfl, Below.refl _ _⟩
  · cases hdg : inB d 0 6
    · have HN := Lib.hid (clean_deg (l := l) hdg)
      go_wp2_with fail
      refine (specTable_any _ l _ HV.out).mono ?_
      rw [ht]
      rintro e w1 ⟨rfl, rfl⟩
      go_wp2_with fail
      refine (l4Degree_any _ _).mono ?_
      rw [hdg]
      rintro e w1 ⟨rfl, rfl⟩
      go_wp2
      go_ret
      exact ⟨by rw [HN.out]; rfl, Below.refl _ _⟩
    · have hd' := inB_true.1 hdg
      have l60 := (tableOk_true ht).2.1
      obtain ⟨o, rfl⟩ : ∃ o : Nat, d = o := ⟨d.toNat, by omega⟩
      have HN := Lib.hid (clean_row ht hdg)
      go_wp2_with fail
      refine (specTable_any _ l _ HV.out).mono ?_
      rw [ht]
      rintro e w1 ⟨rfl, rfl⟩
      go_wp2_with fail
      refine (l4Degree_any _ _).mono ?_
      rw [hdg]
      rintro e w1 ⟨rfl, rfl⟩
      go_wp2_with fail
      refine (l4Clean_any _ l o _ HV.out (by omega) (by omega)).mono ?_
      rintro e w2 ⟨rfl, b2⟩
      have HB := Lib.hid b2
      clear b2
      go_wp2
      go_ret
      exact ⟨by rw [HN.out]; rfl, HB.out⟩
/-- A table with an error, or none. -/
def ptlOk (l : List Int) (k : Nat) (m : Int) : Bool := inB (at_ l k + m) (-1000000000) 1000000000
def ptL (l : List Int) (k : Nat) (m : Int) : List Int := if ptlOk l k m = true then l.set k (at_ l k + m) else []
theorem ptL_yes {l : List Int} {k : Nat} {m : Int} (h : ptlOk l k m = true) : ptL l k m = l.set k (at_ l k + m) := by unfold ptL; rw [if_pos h]
theorem ptL_no {l : List Int} {k : Nat} {m : Int} (h : ptlOk l k m = false) : ptL l k m = [] := by unfold ptL; rw [h]; rfl
set_option maxHeartbeats 4000000 in
theorem implPut_any (v : Value) (l : List Int) (k : Nat) (m : Int) (w : World) (hv : Ints w v l) (ht : tableOk l = true) (hk : k < l.length) (hm : 1 ≤ m ∧ m ≤ 9) :
    Calls Tryz.prog 42 #[v, .int .i64 k, .int .i64 m] w (IntsQ w (ptL l k m) (ptlOk l k m)) := by
  have HV := Lib.hid hv
  have hT := tableOk_true ht
  have l60 := hT.2.1
  have hX := hT.2.2 k hk
  obtain ⟨A, c, rfl, hlc, hc, hrd⟩ := hv.open_
  obtain ⟨b, q, rfl, hbb, hcell⟩ := hrd.ints (by omega)
  have x0 := hcell k hk
  have p1 : (k : Int) < (l.length : Int) := by omega
  have p3 : (0 : Int) ≤ (k : Int) := by omega
  have hw1 : inB m (-1000000000) 1000000000 = true := inB_true.2 (by omega)
  have HY := Lib.hid (fun h => ptL_yes (l := l) (k := k) (m := m) h)
  have HN := Lib.hid (fun h => ptL_no (l := l) (k := k) (m := m) h)
  have HP := Lib.hid (show ptlOk l k m = inB (at_ l k + m) (-1000000000) 1000000000 from rfl)
  obtain ⟨X, hXX⟩ : ∃ X, at_ l k = X := ⟨_, rfl⟩
  have HX := Lib.hid hXX
  rw [hXX] at x0 hX HP HY
  clear hXX hv hrd hcell hT
  go_enter Tryz.func42, Tryz.ntmps42
  go_wp2_with fail
  refine (implTable_any _ l _ HV.out).mono ?_
  rw [ht]
  rintro e w1 ⟨rfl, rfl⟩
  clear ht
  go_wp2_with fail
  refine (within_any m 1000000000 _ (by omega) (by omega)).mono ?_
  rw [hw1]
  rintro e w1 ⟨rfl, rfl⟩
  cases hw2 : inB (X + m) (-1000000000) 1000000000
  · have HW2 := Lib.hid (show ptlOk l k m = false by rw [HP.out, hw2])
    go_wp2_with fail
    refine (within_any (X + m) 1000000000 _ (by omega) (by omega)).mono ?_
    rw [hw2]
    rintro e w1 ⟨rfl, rfl⟩
    go_wp2
    go_ret2
    exact ⟨_, by rw [HW2.out]; rfl, by rw [HN.out HW2.out]; exact Own.nil_ _ _, Below.refl _ _⟩
  · have HW2 := Lib.hid (show ptlOk l k m = true by rw [HP.out, hw2])
    go_wp2_with fail
    refine (within_any (X + m) 1000000000 _ (by omega) (by omega)).mono ?_
    rw [hw2]
    rintro e w1 ⟨rfl, rfl⟩
    go_wp2_with fail
    refine (clone_any _ l _ HV.out (by omega)).mono ?_
    rintro e w2 ⟨r, rfl, o2, b2⟩
    obtain ⟨g, cap, rfl, hg1, hg2, -, -, hcell⟩ := o2.openN (by omega)
    obtain ⟨x1, x2⟩ := hcell k hk
    have HS := Lib.hid (o2.set_ k (X + m) hk (by omega))
    have HB3 := Lib.hid (b2.setCell (p := ⟨g, k, none⟩) hg1 (.int .i64 (X + m)))
    rw [HX.out] at x1
    clear o2 b2 hcell
    go_wp2
    go_ret2
    exact ⟨_, by rw [HW2.out]; rfl, by rw [HY.out HW2.out]; exact HS.out, HB3.out⟩
end Go.Proofs.YtpniljcnknknoaaGreatDoor

/-
  Slices of errata: three cells each.
-/
namespace Go.Proofs.YtpniljcnknknoaaGreatDoor
open Go.RowKit
set_option linter.unusedVariables false
set_option linter.unusedSimpArgs false
set_option maxRecDepth 100000

/-- An erratum: the place, what is wrong, what is right. -/
abbrev Etm := Int × Int × Int
def etAt (es : List Etm) (k : Nat) : Etm := es.getD k (0, 0, 0)
theorem etAt_eq {es : List Etm} {k : Nat} (h : k < es.length) : etAt es k = es[k] := by simp [etAt, List.getD, h]
/-- Numbers of an erratum are Go's. -/
def etIn (x : Etm) : Prop := (-9223372036854775808 ≤ x.1 ∧ x.1 ≤ 9223372036854775807) ∧ (-9223372036854775808 ≤ x.2.1 ∧ x.2.1 ≤ 9223372036854775807) ∧ (-9223372036854775808 ≤ x.2.2 ∧ x.2.2 ≤ 9223372036854775807)
/-- The cells of errata. -/
def etC : List Etm → List Value
  | x :: es => .int .i64 x.1 :: .int .i64 x.2.1 :: .int .i64 x.2.2 :: etC es
  | [] => []
theorem etC_len : ∀ {es : List Etm}, (etC es).length = es.length * 3
  | [] => rfl
  | x :: es => by
    have ih := etC_len (es := es)
    simp only [etC, List.length_cons, ih]
    omega
theorem etC_at : ∀ {es : List Etm} {k : Nat}, k < es.length → (etC es)[k * 3]? = some (.int .i64 (etAt es k).1) ∧ (etC es)[k * 3 + 1]? = some (.int .i64 (etAt es k).2.1) ∧ (etC es)[k * 3 + 2]? = some (.int .i64 (etAt es k).2.2)
  | [], k, hk => by simp at hk
  | x :: es, 0, hk => by simp [etC, etAt]
  | x :: es, k + 1, hk => by
    have ih := etC_at (es := es) (k := k) (by simpa using hk)
    have e : (k + 1) * 3 = k * 3 + 1 + 1 + 1 := by omega
    simp only [etC, e, List.getElem?_cons_succ]
    simpa [etAt] using ih
theorem etC_app (es : List Etm) (x : Etm) : etC (es ++ [x]) = etC es ++ [.int .i64 x.1, .int .i64 x.2.1, .int .i64 x.2.2] := by
  induction es with
  | nil => rfl
  | cons y es ih => simp only [List.cons_append, etC, ih]
/-- v reads as the errata es. -/
def EtR (w : World) (v : Value) (es : List Etm) : Prop :=
  ∃ (A : Option Addr) (c : Nat), v = .slice A es.length c ∧ es.length ≤ c ∧ c ≤ 9223372036854775807 ∧
    (0 < es.length → ∃ b o, A = some ⟨b, o, none⟩ ∧ b < w.heap.size ∧ ∀ k, k < es.length → w.cell? ⟨b, o + k * 3, none⟩ = some (.int .i64 (etAt es k).1) ∧ w.cell? ⟨b, o + k * 3 + 1, none⟩ = some (.int .i64 (etAt es k).2.1) ∧ w.cell? ⟨b, o + k * 3 + 2, none⟩ = some (.int .i64 (etAt es k).2.2)) ∧
    ∀ k, k < es.length → etIn (etAt es k)
theorem EtR.bel {w w' : World} {v : Value} {es : List Etm} (h : EtR w v es) (hb : Below w.heap.size w w') : EtR w' v es := by
  obtain ⟨A, c, h2, h3, h4, h5, h6⟩ := h
  refine ⟨A, c, h2, h3, h4, fun hn => ?_, h6⟩
  obtain ⟨b, o, e, hlt, hc⟩ := h5 hn
  exact ⟨b, o, e, Nat.lt_of_lt_of_le hlt hb.size, fun k hk => ⟨(hb.cell hlt).trans (hc k hk).1, (hb.cell hlt).trans (hc k hk).2.1, (hb.cell hlt).trans (hc k hk).2.2⟩⟩
/-- v, made by the call, reads as es and may grow. -/
def EtO (w : World) (base : Nat) (v : Value) (es : List Etm) : Prop :=
  w.ownsRow base 127 3 v es.length (etC es) ∧ es.length ≤ 1048576 ∧ ∀ k, k < es.length → etIn (etAt es k)
theorem EtO.read {w : World} {base : Nat} {v : Value} {es : List Etm} (h : EtO w base v es) : EtR w v es := by
  obtain ⟨h2, h3, h4⟩ := h
  rcases h2.2 with ⟨rfl, hn⟩ | ⟨g, cap, cur, rfl, hg, hh, hnc, hcm, hs, ht⟩
  · have : es = [] := List.eq_nil_of_length_eq_zero hn
    subst this
    exact ⟨none, 0, rfl, Nat.le_refl _, Nat.zero_le _, fun h => absurd h (by simp), fun k hk => absurd hk (by simp)⟩
  · have hlt : g < w.heap.size := (Array.getElem?_eq_some_iff.1 hh).1
    have hcl := h2.cells (g := g) rfl
    refine ⟨some ⟨g, 0, none⟩, cap, rfl, hnc, by unfold maxLen at hcm; omega, fun hn => ⟨g, 0, rfl, hlt, fun k hk => ?_⟩, h4⟩
    obtain ⟨e1, e2, e3⟩ := etC_at hk
    have a1 := hcl _ _ e1
    have a2 := hcl _ _ e2
    have a3 := hcl _ _ e3
    have f : ∀ j, (⟨g, 0, none⟩ : Addr).add j = ⟨g, 0 + j, none⟩ := fun j => by unfold Addr.add; split <;> simp_all
    rw [f] at a1 a2 a3
    exact ⟨a1, by rw [Nat.add_assoc]; exact a2, by rw [Nat.add_assoc]; exact a3⟩
theorem EtO.lt {w : World} {base : Nat} {v : Value} {es : List Etm} (h : EtO w base v es) : ∀ k, v.ownBlock = some k → base ≤ k ∧ k < w.heap.size := h.1.lt
theorem EtO.bel {w w' : World} {base : Nat} {v : Value} {es : List Etm} (h : EtO w base v es) (hb : Below w.heap.size w w') : EtO w' base v es :=
  ⟨h.1.kept (row := none) ⟨hb.os, hb.tape, hb.output, hb.size, fun i hi _ => hb.block i hi⟩ (by cases v.ownBlock <;> simp), h.2⟩
theorem EtO.nil_ (w : World) (base : Nat) : EtO w base (.slice none 0 0) [] := ⟨World.ownsRow_nil _ _ _ _, by simp, fun k hk => absurd hk (by simp)⟩
theorem EtO.lower {w : World} {base base' : Nat} {v : Value} {es : List Etm} (h : EtO w base v es) (hb : base' ≤ base) : EtO w base' v es := by
  obtain ⟨h2, h3, h4⟩ := h
  refine ⟨⟨h2.1, ?_⟩, h3, h4⟩
  rcases h2.2 with q | ⟨g1, cap, cur, q1, q2, q3⟩
  · exact .inl q
  · exact .inr ⟨g1, cap, cur, q1, by omega, q3⟩
theorem EtO.empty (w : World) (base : Nat) (hb : base ≤ w.heap.size) : EtO (w.alloc (.cells #[] 127)) base (.slice (some ⟨w.heap.size, 0, none⟩) 0 0) [] := by
  refine ⟨⟨rfl, .inr ⟨w.heap.size, 0, #[], rfl, hb, ?_, Nat.le_refl _, by unfold maxLen; omega, rfl, rfl⟩⟩, by simp, fun k hk => absurd hk (by simp)⟩
  exact Blk.new w 127 []
theorem Tryz.infoEt : (Tryz.prog.info? 127).map (fun i => (i.zero, i.size, i.bytes)) = some (some (.agg #[.int .i64 0, .int .i64 0, .int .i64 0]), 3, 24) := by kernel_rfl
/-- 'list = append(list, erratum)' -/
theorem app_et {ops : Array Oper} {rest : List Oper} {o : Oper} {a : Act} {Q : Exit → Act → World → Prop} {w : World} (hgd : o.guard = none) (s x : Operand)
    (ho : o.op = .call { callee := .builtin .append, args := #[s, x], argTypes := #[69, 69] })
    (base : Nat) (v : Value) (es : List Etm) (hs : a.eval s = v) (hown : EtO w base v es) (g c : Nat) (y : Etm) (hx : a.eval x = .slice (some ⟨g, 0, none⟩) 1 c)
    (hcell : Blk w g 127 [.int .i64 y.1, .int .i64 y.2.1, .int .i64 y.2.2]) (hy : etIn y) (hl : es.length + 1 ≤ 1048576) (hbase : base ≤ w.heap.size)
    (h : ∀ v' w', EtO w' base v' (es ++ [y]) → w.grownBy w' v.ownBlock → (v'.ownBlock = v.ownBlock ∨ v'.ownBlock = some w.heap.size) → wpList Tryz.prog ops Q rest (a.put o.dst v') w') : wpList Tryz.prog ops Q (o :: rest) a w := by
  obtain ⟨i0, hi, hz0, hz1, hz2⟩ := seg_parts Tryz.infoEt
  obtain ⟨k2, k3, k4⟩ := hown
  refine wpList_append_own_at (P := Tryz.prog) w hgd s x 69 ho base 127 i0 _ 3 24 Tryz.underlying69 hi hz0 hz1 hz2 rfl (by omega) v es.length (etC es) hs k2 ⟨g, 0, none⟩ 1 c [.int .i64 y.1, .int .i64 y.2.1, .int .i64 y.2.2] hx rfl ?_ ?_ (by unfold maxLen; omega) (by omega) hbase ?_
  · intro j z hj
    have f : (⟨g, 0, none⟩ : Addr).add j = ⟨g, j, none⟩ := by unfold Addr.add; split <;> simp_all
    rw [f, hcell.cell]
    exact hj
  · intro z hz
    simp at hz
    rcases hz with rfl | rfl | rfl <;> rfl
  · intro v' w' h1 h2 _ h4
    refine h v' w' ⟨?_, by simp; omega, fun k hk => ?_⟩ h2 h4
    · rw [etC_app, List.length_append]; exact h1
    · rw [List.length_append, List.length_singleton] at hk
      rcases Nat.lt_or_ge k es.length with q | q
      · have : etAt (es ++ [y]) k = etAt es k := by unfold etAt; simp only [List.getD]; rw [List.getElem?_append_left q]
        rw [this]; exact k4 k q
      · obtain rfl : k = es.length := by omega
        have : etAt (es ++ [y]) es.length = y := by unfold etAt; simp [List.getD]
        rw [this]; exact hy
theorem app_etG {w0 w w' : World} {v : Value} {es : List Etm} (hb : Below w0.heap.size w0 w) (hown : EtO w w0.heap.size v es) (hg : w.grownBy w' v.ownBlock) : Below w0.heap.size w0 w' :=
  hb.trans ((below_own hg hb.size fun k hk => (hown.lt k hk).1))
theorem EtO.open_ {w : World} {base : Nat} {v : Value} {es : List Etm} (h : EtO w base v es) : ∃ A c, v = .slice A es.length c := by
  obtain ⟨A, c, h1, -⟩ := h.read
  exact ⟨A, c, h1⟩
/-- 'append(list, erratum)' as a step of a region that draws. -/
theorem step_app_et {ops : Array Oper} {o : Oper} {a : Act} {K : Act → World → Prop} {Q : Exit → Act → World → Prop} {E : Prop} {w : World} (hgd : o.guard = none) (s x : Operand)
    (ho : o.op = .call { callee := .builtin .append, args := #[s, x], argTypes := #[69, 69] })
    (base : Nat) (v : Value) (es : List Etm) (hs : a.eval s = v) (hown : EtO w base v es) (g c : Nat) (y : Etm) (hx : a.eval x = .slice (some ⟨g, 0, none⟩) 1 c)
    (hcell : Blk w g 127 [.int .i64 y.1, .int .i64 y.2.1, .int .i64 y.2.2]) (hy : etIn y) (hl : es.length + 1 ≤ 1048576) (hbase : base ≤ w.heap.size)
    (h : ∀ A c' w', EtO w' base (.slice A (es.length + 1) c') (es ++ [y]) → w.grownBy w' v.ownBlock → K (a.put o.dst (.slice A (es.length + 1) c')) w') :
    if Region.wanted o (yielded ops a.tmps) = true then Oper.wp Tryz.prog o a w K Q else E := by
  have hw : Region.wanted o (yielded ops a.tmps) = true := by simp [Region.wanted, hgd]
  rw [if_pos hw]
  obtain ⟨i0, hi, hz0, hz1, hz2⟩ := seg_parts Tryz.infoEt
  obtain ⟨k2, k3, k4⟩ := hown
  obtain ⟨v', w', hrun, h2, h3, _, h5⟩ := run_append_own_at (P := Tryz.prog) w base 69 o.type 127 i0 _ 3 24 Tryz.underlying69 hi hz0 hz1 hz2 rfl (by omega) v es.length (etC es) k2 ⟨g, 0, none⟩ 1 c [.int .i64 y.1, .int .i64 y.2.1, .int .i64 y.2.2] rfl (by
    intro j u hj
    have f : (⟨g, 0, none⟩ : Addr).add j = ⟨g, j, none⟩ := by unfold Addr.add; split <;> simp_all
    rw [f, hcell.cell]
    exact hj) (by intro z hz; simp at hz; rcases hz with rfl | rfl | rfl <;> rfl) (by unfold maxLen; omega) (by omega) hbase
  have ho' : EtO w' base v' (es ++ [y]) := by
    refine ⟨?_, by simp; omega, fun k hk => ?_⟩
    · rw [etC_app, List.length_append]; exact h2
    · rw [List.length_append, List.length_singleton] at hk
      rcases Nat.lt_or_ge k es.length with q | q
      · have : etAt (es ++ [y]) k = etAt es k := by unfold etAt; simp only [List.getD]; rw [List.getElem?_append_left q]
        rw [this]; exact k4 k q
      · obtain rfl : k = es.length := by omega
        have : etAt (es ++ [y]) es.length = y := by unfold etAt; simp [List.getD]
        rw [this]; exact hy
  obtain ⟨A', c', hv⟩ := ho'.open_
  rw [show (es ++ [y]).length = es.length + 1 by simp] at hv
  subst hv
  unfold Oper.wp execOp
  simp only [ho, resolve, invoke, builtin, Sem.run_bind, Sem.run_pure, Result.andThen_ok, List.map_toArray, List.map_cons, List.map_nil, hs, hx, hrun]
  exact h _ _ w' ho' h3
end Go.Proofs.YtpniljcnknknoaaGreatDoor
