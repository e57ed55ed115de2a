/-
  Contracts of ProductOf and the law FnExactProductOf.
-/
import Derived.Test.YteemhhgioljmaaaInts
import Derived.Test.YteemhhgioljmaaaTable
namespace Go.Proofs.Yteemhhgioljmaaa
open Go.RowKit
set_option linter.unusedVariables false

def entOk (l : List Int) (n : Int) : Bool := decide (0 ≤ n) && decide (n < (l.length : Int))
def entV (l : List Int) (n : Int) : Int := if entOk l n = true then at_ l n.toNat else 0
theorem entOk_true {l : List Int} {n : Int} : entOk l n = true ↔ 0 ≤ n ∧ n < (l.length : Int) := by simp [entOk]
/-- the greater one of x - y and y - x. -/
def absd (x y : Int) : Int := if x ≤ y then y - x else x - y
def prodOk (l : List Int) (x y : Int) : Bool := tableOk l && inB x 0 59 && inB y 0 59 && decide (x + y < (l.length : Int))
def prodV (l : List Int) (x y : Int) : Int := if prodOk l x y = true then at_ l (x + y).toNat - at_ l (absd x y).toNat else 0
theorem prod_no {l : List Int} {x y : Int} (h : ¬ (tableOk l = true ∧ inB x 0 59 = true ∧ inB y 0 59 = true ∧ x + y < (l.length : Int))) : prodV l x y = 0 ∧ prodOk l x y = false := by
  have e : prodOk l x y = false := by
    rw [Bool.eq_false_iff]
    intro e
    simp only [prodOk, Bool.and_eq_true, decide_eq_true_eq] at e
    exact h ⟨e.1.1.1, e.1.1.2, e.1.2, e.2⟩
  exact ⟨by simp [prodV, e], e⟩
theorem prod_yes {l : List Int} {x y : Int} (h1 : tableOk l = true) (h2 : inB x 0 59 = true) (h3 : inB y 0 59 = true) (h4 : x + y < (l.length : Int)) :
    prodV l x y = at_ l (x + y).toNat - at_ l (absd x y).toNat ∧ prodOk l x y = true := by
  have e : prodOk l x y = true := by simp [prodOk, h1, h2, h3, h4]
  exact ⟨by simp [prodV, e], e⟩

theorem ret_ib {a b : Int} {p q : Bool} (h : a = b ∧ p = q) : Ending.returned (.tuple #[.int .i64 a, .bool p]) = .returned (.tuple #[.int .i64 b, .bool q]) := by rw [h.1, h.2]

theorem entV_ok {l : List Int} {n : Int} (ht : tableOk l = true) (h0 : 0 ≤ n) (h1 : n < (l.length : Int)) : entOk l n = true ∧ entV l n = at_ l n.toNat ∧ -1000000000 ≤ entV l n ∧ entV l n ≤ 1000000000 := by
  have e := entOk_true.2 ⟨h0, h1⟩
  have ev : entV l n = at_ l n.toNat := by simp [entV, e]
  obtain ⟨_, _, t3⟩ := tableOk_true ht
  have := t3 n.toNat (by omega)
  exact ⟨e, ev, by omega, by omega⟩

end Go.Proofs.Yteemhhgioljmaaa
