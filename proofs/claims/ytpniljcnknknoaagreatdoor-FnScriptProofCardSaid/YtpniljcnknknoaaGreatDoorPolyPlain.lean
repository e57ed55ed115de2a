/-
  Values and differences of polynomials, plainly.
-/
import Derived.Test.YtpniljcnknknoaaGreatDoorPoly
import Derived.Test.YtpniljcnknknoaaGreatDoorTable
import Derived.IntWalk
namespace Go.Proofs.YtpniljcnknknoaaGreatDoor
open Go.RowKit
set_option linter.unusedVariables false
set_option linter.unusedSimpArgs false

/-- The law of binomials and their bound at an argument. -/
def binAt (n : Int) : Bool := (List.range 7).all fun k =>
  (chooseI (n + 1) (k + 1) == chooseI n k + chooseI n (k + 1)) && (Nat.ble (chooseI n k).natAbs 100000000000)
def binAll : Bool := (List.range 407).all fun m => binAt ((m : Int) - 200)
theorem binAll_true : binAll = true := by decide +kernel
theorem bin_at {n : Int} (h0 : -200 ≤ n) (h1 : n ≤ 206) {k : Nat} (hk : k < 7) : chooseI (n + 1) (k + 1) = chooseI n k + chooseI n (k + 1) ∧ -100000000000 ≤ chooseI n k ∧ chooseI n k ≤ 100000000000 := by
  have h := binAll_true
  unfold binAll at h
  rw [List.all_eq_true] at h
  have h2 := h (n + 200).toNat (List.mem_range.2 (by omega))
  rw [show (((n + 200).toNat : Nat) : Int) - 200 = n by omega] at h2
  unfold binAt at h2
  rw [List.all_eq_true] at h2
  have h3 := h2 k (List.mem_range.2 hk)
  rw [Bool.and_eq_true] at h3
  have h4 := Nat.le_of_ble_eq_true h3.2
  exact ⟨by simpa using h3.1, by omega, by omega⟩

def polyOk (p : List Int) : Bool := lenAll p 7 100000
theorem polyOk_true {p : List Int} : polyOk p = true ↔ 1 ≤ p.length ∧ p.length ≤ 7 ∧ ∀ k, k < p.length → -100000 ≤ at_ p k ∧ at_ p k ≤ 100000 := by
  unfold polyOk lenAll
  rw [Bool.and_eq_true, inB_true, List.all_eq_true]
  constructor
  · rintro ⟨h1, h2⟩
    exact ⟨by omega, by omega, fun k hk => inB_true.1 (h2 _ (at_mem p k hk))⟩
  · rintro ⟨h1, h2, h3⟩
    refine ⟨by omega, fun x hx => ?_⟩
    obtain ⟨k, hk, rfl⟩ := List.getElem_of_mem hx
    have := h3 k hk
    rw [at_eq p k hk] at this
    exact inB_true.2 this

/-- The value without wraps. -/
def evE (p : List Int) (n : Int) : Nat → Int
  | 0 => 0
  | k + 1 => evE p n k + at_ p k * chooseI n k
theorem mul_bd {a b A B : Int} (h1 : -A ≤ a) (h2 : a ≤ A) (h3 : -B ≤ b) (h4 : b ≤ B) : -(A * B) ≤ a * b ∧ a * b ≤ A * B := by
  have hA : 0 ≤ A := by omega
  have hB : 0 ≤ B := by omega
  have ha : (a.natAbs : Int) ≤ A := by omega
  have hb : (b.natAbs : Int) ≤ B := by omega
  have h : ((a * b).natAbs : Int) ≤ A * B := by
    rw [Int.natAbs_mul, Int.natCast_mul]
    exact Int.mul_le_mul ha hb (by omega) hA
  omega
theorem evE_bd {p : List Int} (hp : ∀ k, k < p.length → -100000 ≤ at_ p k ∧ at_ p k ≤ 100000) {n : Int} (h0 : -200 ≤ n) (h1 : n ≤ 206) :
    ∀ k, k ≤ p.length → k ≤ 7 → -(10000000000000000 * (k : Int)) ≤ evE p n k ∧ evE p n k ≤ 10000000000000000 * (k : Int) := by
  intro k
  induction k with
  | zero => intro _ _; simp [evE]
  | succ k ih =>
    intro hk h7
    have := ih (by omega) (by omega)
    have hb := (bin_at h0 h1 (show k < 7 by omega)).2
    have ha := hp k (by omega)
    have hm := mul_bd (A := 100000) (B := 100000000000) ha.1 ha.2 hb.1 hb.2
    simp only [evE]
    omega
theorem evalTo_eq {p : List Int} (hp : ∀ k, k < p.length → -100000 ≤ at_ p k ∧ at_ p k ≤ 100000) {n : Int} (h0 : -200 ≤ n) (h1 : n ≤ 206) :
    ∀ k, k ≤ p.length → k ≤ 7 → evalTo p n k = evE p n k := by
  intro k
  induction k with
  | zero => intro _ _; rfl
  | succ k ih =>
    intro hk h7
    have hb := (bin_at h0 h1 (show k < 7 by omega)).2
    have ha := hp k (by omega)
    have hm := mul_bd (A := 100000) (B := 100000000000) ha.1 ha.2 hb.1 hb.2
    have he := evE_bd hp h0 h1 k (by omega) (by omega)
    simp only [evalTo, evE]
    rw [ih (by omega) (by omega), IntWalk.wrap64_in (at_ p k * chooseI n k) (by omega), IntWalk.wrap64_in _ (by omega)]
theorem at_drop1 (p : List Int) (k : Nat) : at_ (p.drop 1) k = at_ p (k + 1) := by
  simp [at_, List.getD]
theorem at_drop (p : List Int) (i k : Nat) : at_ (p.drop i) k = at_ p (i + k) := by
  simp [at_, List.getD, List.getElem?_drop]
/-- The difference of two neighboring values is the value of the differences. -/
theorem evE_step (p : List Int) {n : Int} (h0 : -200 ≤ n) (h1 : n ≤ 205) : ∀ k, k < 7 → evE p (n + 1) (k + 1) - evE p n (k + 1) = evE (p.drop 1) n k := by
  intro k
  induction k with
  | zero => intro _; simp [evE, chooseI]
  | succ k ih =>
    intro hk
    have h := ih (by omega)
    have hb := (bin_at h0 (show n ≤ 206 by omega) (show k < 7 by omega)).1
    have e1 : evE p (n + 1) (k + 1 + 1) = evE p (n + 1) (k + 1) + at_ p (k + 1) * chooseI (n + 1) (k + 1) := rfl
    have e2 : evE p n (k + 1 + 1) = evE p n (k + 1) + at_ p (k + 1) * chooseI n (k + 1) := rfl
    have e3 : evE (p.drop 1) n (k + 1) = evE (p.drop 1) n k + at_ (p.drop 1) k * chooseI n k := rfl
    rw [e1, e2, e3, at_drop1, hb, Int.mul_add, ← h]
    omega
theorem poly_drop {p : List Int} (hp : ∀ k, k < p.length → -100000 ≤ at_ p k ∧ at_ p k ≤ 100000) (i : Nat) : ∀ k, k < (p.drop i).length → -100000 ≤ at_ (p.drop i) k ∧ at_ (p.drop i) k ≤ 100000 := by
  intro k hk
  rw [at_drop]
  exact hp _ (by rw [List.length_drop] at hk; omega)
theorem eval_bd {p : List Int} (hp : ∀ k, k < p.length → -100000 ≤ at_ p k ∧ at_ p k ≤ 100000) (h7 : p.length ≤ 7) {n : Int} (h0 : -200 ≤ n) (h1 : n ≤ 206) :
    -70000000000000000 ≤ evalI p n ∧ evalI p n ≤ 70000000000000000 := by
  unfold evalI
  rw [evalTo_eq hp h0 h1 _ (Nat.le_refl _) h7]
  have := evE_bd hp h0 h1 p.length (Nat.le_refl _) h7
  omega
theorem eval_step {p : List Int} (hp : ∀ k, k < p.length → -100000 ≤ at_ p k ∧ at_ p k ≤ 100000) (h7 : p.length ≤ 7) {n : Int} (h0 : -200 ≤ n) (h1 : n ≤ 205) :
    wrap64 (evalI p (n + 1) - evalI p n) = evalI (p.drop 1) n := by
  have b1 := eval_bd hp h7 h0 (show n ≤ 206 by omega)
  have b2 := eval_bd hp h7 (show -200 ≤ n + 1 by omega) (show n + 1 ≤ 206 by omega)
  rw [IntWalk.wrap64_in _ (by omega)]
  unfold evalI
  rw [evalTo_eq hp h0 (by omega) _ (Nat.le_refl _) h7, evalTo_eq hp (by omega) (by omega) _ (Nat.le_refl _) h7, evalTo_eq (poly_drop hp 1) h0 (by omega) _ (Nat.le_refl _) (by rw [List.length_drop]; omega), List.length_drop]
  rcases Nat.eq_zero_or_pos p.length with e | e
  · rw [e]; rfl
  · have := evE_step p h0 h1 (p.length - 1) (by omega)
    rw [show p.length - 1 + 1 = p.length by omega] at this
    exact this

/-- The differences of neighboring numbers, with Go's wraps. -/
def nextI (l : List Int) : List Int := gen (fun i => wrap64 (at_ l (i + 1) - at_ l i)) (l.length - 1)
theorem nextI_length (l : List Int) : (nextI l).length = l.length - 1 := gen_length _ _
def rowI (l : List Int) : Nat → List Int
  | 0 => l
  | j + 1 => nextI (rowI l j)
theorem rowI_length (l : List Int) (j : Nat) : (rowI l j).length = l.length - j := by
  induction j with
  | zero => rfl
  | succ j ih => rw [rowI, nextI_length, ih]; omega
def diffsTo (l : List Int) (k : Nat) : List Int := gen (fun j => at_ (rowI l j) 0) k
def diffsI (l : List Int) : List Int := diffsTo l l.length
theorem diffsI_length (l : List Int) : (diffsI l).length = l.length := gen_length _ _

theorem nextI_gen (f : Nat → Int) (c : Nat) : nextI (gen f c) = gen (fun i => wrap64 (f (i + 1) - f i)) (c - 1) := by
  apply list_ext
  · rw [nextI_length, gen_length, gen_length]
  · intro j hj
    rw [nextI_length, gen_length] at hj
    unfold nextI
    rw [gen_length, at_gen hj, at_gen hj, at_gen (by omega), at_gen (by omega)]
theorem valsI_one (p : List Int) {n : Int} {c : Nat} (h0 : -200 ≤ n) (h1 : n + (c : Int) ≤ 300) : valsI p n 1 c = gen (fun i => evalI p (n + (i : Int))) c := by
  apply list_ext
  · unfold valsI; rw [gen_length, gen_length]
  · intro j hj
    unfold valsI at hj ⊢
    rw [gen_length] at hj
    rw [at_gen hj, at_gen hj, Int.one_mul, IntWalk.wrap64_in (j : Int) (by omega), IntWalk.wrap64_in _ (by omega)]
theorem row_vals {p : List Int} (hp : ∀ k, k < p.length → -100000 ≤ at_ p k ∧ at_ p k ≤ 100000) (h7 : p.length ≤ 7) {n : Int} {c : Nat} (h0 : -200 ≤ n) (h1 : n + (c : Int) ≤ 207) :
    ∀ j, rowI (gen (fun i => evalI p (n + (i : Int))) c) j = gen (fun i => evalI (p.drop j) (n + (i : Int))) (c - j) := by
  intro j
  induction j with
  | zero => rfl
  | succ j ih =>
    rw [rowI, ih, nextI_gen]
    apply list_ext
    · rw [gen_length, gen_length]; omega
    · intro i hi
      rw [gen_length] at hi
      rw [at_gen hi, at_gen (by omega)]
      have := eval_step (poly_drop hp j) (by rw [List.length_drop]; omega) (n := n + (i : Int)) (by omega) (by omega)
      rw [List.drop_drop] at this
      rw [← this, show n + ((i + 1 : Nat) : Int) = n + (i : Int) + 1 by omega]
/-- The differences at another argument. -/
def shiftI (p : List Int) (n : Int) : List Int := gen (fun k => evalI (p.drop k) n) p.length
theorem shiftI_length (p : List Int) (n : Int) : (shiftI p n).length = p.length := gen_length _ _
theorem diffs_vals {p : List Int} (hp : polyOk p = true) {n : Int} (h0 : -200 ≤ n) (h1 : n ≤ 200) : diffsI (valsI p n 1 p.length) = shiftI p n := by
  obtain ⟨p1, p7, hb⟩ := polyOk_true.1 hp
  rw [valsI_one p h0 (by omega)]
  unfold diffsI
  rw [gen_length]
  apply list_ext
  · rw [shiftI_length]; exact gen_length _ _
  · intro j hj
    unfold diffsTo at hj ⊢
    rw [gen_length] at hj
    rw [shiftI, at_gen hj, at_gen hj, row_vals hb p7 h0 (by omega), at_gen (by omega)]
    simp

end Go.Proofs.YtpniljcnknknoaaGreatDoor
