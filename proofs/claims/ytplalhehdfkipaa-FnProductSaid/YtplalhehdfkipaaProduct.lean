/-
  Contracts of ProductOf and the law FnExactProductOf.
-/
import Derived.Test.YtplalhehdfkipaaInts
import Derived.Test.YtplalhehdfkipaaTable
namespace Go.Proofs.Ytplalhehdfkipaa
open Go.RowKit
set_option linter.unusedVariables false

set_option maxHeartbeats 400000 in
theorem l7Entry_yes (v : Value) (l : List Int) (n : Int) (w : World) (hv : Ints w v l) (h0 : 0 ≤ n) (h1 : n < (l.length : Int)) :
    Calls Try.prog 54 #[v, .int .i64 n] w fun e w' => e = .returned (.tuple #[.int .i64 (at_ l n.toNat), .bool true]) ∧ w = w' := by
  obtain ⟨A, c, rfl, hlc, hc, hrd⟩ := hv.open_
  obtain ⟨b, o, rfl, hb, hcell⟩ := hrd.ints (by omega)
  have hck := hcell n.toNat (by omega)
  clear hcell
  go_enter Try.func54, Try.ntmps54
  go_wp2
  go_ret2
  exact ⟨rfl, rfl⟩

set_option maxHeartbeats 400000 in
theorem l7Entry_no (v : Value) (l : List Int) (n : Int) (w : World) (hv : Ints w v l) (h : ¬ (0 ≤ n ∧ n < (l.length : Int))) :
    Calls Try.prog 54 #[v, .int .i64 n] w fun e w' => e = .returned (.tuple #[.int .i64 0, .bool false]) ∧ w = w' := by
  obtain ⟨A, c, rfl, hlc, hc, hrd⟩ := hv.open_
  by_cases h0 : n < 0
  · go_enter Try.func54, Try.ntmps54
    go_wp2
    go_ret2
    exact ⟨rfl, rfl⟩
  · have h1 : (l.length : Int) ≤ n := by omega
    go_enter Try.func54, Try.ntmps54
    go_wp2
    go_ret2
    exact ⟨rfl, rfl⟩

def entOk (l : List Int) (n : Int) : Bool := decide (0 ≤ n) && decide (n < (l.length : Int))
def entV (l : List Int) (n : Int) : Int := if entOk l n = true then at_ l n.toNat else 0
theorem entOk_true {l : List Int} {n : Int} : entOk l n = true ↔ 0 ≤ n ∧ n < (l.length : Int) := by simp [entOk]
theorem l7Entry_any (v : Value) (l : List Int) (n : Int) (w : World) (hv : Ints w v l) :
    Calls Try.prog 54 #[v, .int .i64 n] w fun e w' => e = .returned (.tuple #[.int .i64 (entV l n), .bool (entOk l n)]) ∧ w = w' := by
  by_cases h : 0 ≤ n ∧ n < (l.length : Int)
  · have e := entOk_true.2 h
    rw [show entV l n = at_ l n.toNat from by simp [entV, e], e]
    exact l7Entry_yes v l n w hv h.1 h.2
  · have e : entOk l n = false := by rw [Bool.eq_false_iff]; exact fun e => h (entOk_true.1 e)
    rw [show entV l n = 0 from by simp [entV, e], e]
    exact l7Entry_no v l n w hv h

/-- the greater one of x - y and y - x. -/
def absd (x y : Int) : Int := if x ≤ y then y - x else x - y
def prodOk (l : List Int) (x y : Int) : Bool := tableOk l && inB x 0 59 && inB y 0 59 && decide (x + y < (l.length : Int))
def prodV (l : List Int) (x y : Int) : Int := if prodOk l x y = true then at_ l (x + y).toNat - at_ l (absd x y).toNat else 0
theorem prod_no {l : List Int} {x y : Int} (h : ¬ (tableOk l = true ∧ inB x 0 59 = true ∧ inB y 0 59 = true ∧ x + y < (l.length : Int))) : prodV l x y = 0 ∧ prodOk l x y = false := by
  have e : prodOk l x y = false := by
    rw [Bool.eq_false_iff]
    intro e
    simp only [prodOk, Bool.and_eq_true, decide_eq_true_eq] at e
    exact h ⟨e.1.1.1, e.1.1.2, e.1.2, e.2⟩
  exact ⟨by simp [prodV, e], e⟩
theorem prod_yes {l : List Int} {x y : Int} (h1 : tableOk l = true) (h2 : inB x 0 59 = true) (h3 : inB y 0 59 = true) (h4 : x + y < (l.length : Int)) :
    prodV l x y = at_ l (x + y).toNat - at_ l (absd x y).toNat ∧ prodOk l x y = true := by
  have e : prodOk l x y = true := by simp [prodOk, h1, h2, h3, h4]
  exact ⟨by simp [prodV, e], e⟩

theorem ret_ib {a b : Int} {p q : Bool} (h : a = b ∧ p = q) : Ending.returned (.tuple #[.int .i64 a, .bool p]) = .returned (.tuple #[.int .i64 b, .bool q]) := by rw [h.1, h.2]

theorem entV_ok {l : List Int} {n : Int} (ht : tableOk l = true) (h0 : 0 ≤ n) (h1 : n < (l.length : Int)) : entOk l n = true ∧ entV l n = at_ l n.toNat ∧ -1000000000 ≤ entV l n ∧ entV l n ≤ 1000000000 := by
  have e := entOk_true.2 ⟨h0, h1⟩
  have ev : entV l n = at_ l n.toNat := by simp [entV, e]
  obtain ⟨_, _, t3⟩ := tableOk_true ht
  have := t3 n.toNat (by omega)
  exact ⟨e, ev, by omega, by omega⟩

set_option maxHeartbeats 400000 in
theorem specProduct_any (v : Value) (l : List Int) (x y : Int) (w : World) (hv : Ints w v l) :
    Calls Try.prog 19 #[v, .int .i64 x, .int .i64 y] w fun e w' => e = .returned (.tuple #[.int .i64 (prodV l x y), .bool (prodOk l x y)]) ∧ w = w' := by
  by_cases h : tableOk l = true ∧ inB x 0 59 = true ∧ inB y 0 59 = true
  · obtain ⟨h1, h2, h3⟩ := h
    have hx' := inB_true.1 h2
    have hy' := inB_true.1 h3
    by_cases h4 : x + y < (l.length : Int)
    · obtain ⟨e1, v1, b1, b1'⟩ := entV_ok h1 (n := x + y) (by omega) h4
      obtain ⟨p1, p2⟩ := prod_yes h1 h2 h3 h4
      by_cases hxy : x - y < y - x
      · obtain ⟨e2, v2, b2, b2'⟩ := entV_ok h1 (n := y - x) (by omega) (by omega)
        have HV := Lib.hid (show entV l (x + y) - entV l (y - x) = prodV l x y ∧ true = prodOk l x y from ⟨by rw [v1, v2, p1, absd, if_pos (by omega)], p2.symm⟩)
        clear v1 v2 p1 p2
        go_enter Try.func19, Try.ntmps19
        go_wp2_with (first | (go_at_call 53; refine (specTable_any _ _ _ hv).mono ?_; rintro e w' ⟨rfl, rfl⟩) | (go_at_call 51; refine (l1In_any _ _ _ _).mono ?_; rintro e w' ⟨rfl, rfl⟩) | (go_at_call 54; refine (l7Entry_any _ _ _ _ hv).mono ?_; rintro e w' ⟨rfl, rfl⟩))
        go_ret2
        exact ⟨ret_ib HV.out, rfl⟩
      · obtain ⟨e2, v2, b2, b2'⟩ := entV_ok h1 (n := x - y) (by omega) (by omega)
        have HV := Lib.hid (show entV l (x + y) - entV l (x - y) = prodV l x y ∧ true = prodOk l x y from ⟨by
          rw [v1, v2, p1, absd]
          split
          · rw [show x - y = 0 from by omega, show y - x = 0 from by omega]
          · rfl, p2.symm⟩)
        clear v1 v2 p1 p2
        go_enter Try.func19, Try.ntmps19
        go_wp2_with (first | (go_at_call 53; refine (specTable_any _ _ _ hv).mono ?_; rintro e w' ⟨rfl, rfl⟩) | (go_at_call 51; refine (l1In_any _ _ _ _).mono ?_; rintro e w' ⟨rfl, rfl⟩) | (go_at_call 54; refine (l7Entry_any _ _ _ _ hv).mono ?_; rintro e w' ⟨rfl, rfl⟩))
        go_ret2
        exact ⟨ret_ib HV.out, rfl⟩
    · have e1 : entOk l (x + y) = false := by rw [Bool.eq_false_iff]; exact fun e => h4 (entOk_true.1 e).2
      have HP := Lib.hid (prod_no (fun h => h4 h.2.2.2) : prodV l x y = 0 ∧ prodOk l x y = false)
      by_cases hxy : x - y < y - x
      all_goals
        go_enter Try.func19, Try.ntmps19
        go_wp2_with (first | (go_at_call 53; refine (specTable_any _ _ _ hv).mono ?_; rintro e w' ⟨rfl, rfl⟩) | (go_at_call 51; refine (l1In_any _ _ _ _).mono ?_; rintro e w' ⟨rfl, rfl⟩) | (go_at_call 54; refine (l7Entry_any _ _ _ _ hv).mono ?_; rintro e w' ⟨rfl, rfl⟩))
        go_ret2
        exact ⟨ret_ib ⟨HP.out.1.symm, HP.out.2.symm⟩, rfl⟩
  · have HP := Lib.hid (prod_no (fun k => h ⟨k.1, k.2.1, k.2.2.1⟩) : prodV l x y = 0 ∧ prodOk l x y = false)
    go_enter Try.func19, Try.ntmps19
    go_wp2_with (first | (go_at_call 53; refine (specTable_any _ _ _ hv).mono ?_; rintro e w' ⟨rfl, rfl⟩) | (go_at_call 51; refine (l1In_any _ _ _ _).mono ?_; rintro e w' ⟨rfl, rfl⟩) | (go_at_call 54; refine (l7Entry_any _ _ _ _ hv).mono ?_; rintro e w' ⟨rfl, rfl⟩))
    all_goals first
      | (exfalso; simp_all; done)
      | (go_ret2; exact ⟨ret_ib ⟨HP.out.1.symm, HP.out.2.symm⟩, rfl⟩)

set_option maxHeartbeats 400000 in
theorem implProduct_any (v : Value) (l : List Int) (x y : Int) (w : World) (hv : Ints w v l) :
    Calls Try.prog 20 #[v, .int .i64 x, .int .i64 y] w fun e w' => e = .returned (.tuple #[.int .i64 (prodV l x y), .bool (prodOk l x y)]) ∧ Below w.heap.size w w' := by
  have hv' := Lib.hid hv
  obtain ⟨A, c, rfl, hlc, hc, hrd⟩ := hv.open_
  by_cases h : tableOk l = true ∧ inB x 0 59 = true ∧ inB y 0 59 = true ∧ x + y < (l.length : Int)
  · obtain ⟨h1, h2, h3, h4⟩ := h
    have hx' := inB_true.1 h2
    have hy' := inB_true.1 h3
    obtain ⟨p1, p2⟩ := prod_yes h1 h2 h3 h4
    obtain ⟨b, o, rfl, hb, hcell⟩ := hrd.ints (by omega)
    obtain ⟨_, v1, b1, b1'⟩ := entV_ok h1 (n := x + y) (by omega) h4
    have c1 := hcell (x + y).toNat (by omega)
    have q1 : (x : Int) + y < (l.length : Int) := h4
    have q0 : (0 : Int) ≤ x + y := by omega
    by_cases hxy : x - y < y - x
    · obtain ⟨_, v2, b2, b2'⟩ := entV_ok h1 (n := y - x) (by omega) (by omega)
      have c2 := hcell (y - x).toNat (by omega)
      rw [← v1] at c1
      rw [← v2] at c2
      have q2 : (0 : Int) ≤ y - x := by omega
      have q3 : y - x < (l.length : Int) := by omega
      have HV := Lib.hid (show entV l (x + y) - entV l (y - x) = prodV l x y ∧ true = prodOk l x y from ⟨by rw [v1, v2, p1, absd, if_pos (by omega)], p2.symm⟩)
      clear v1 v2 p1 p2 hcell
      go_enter Try.func20, Try.ntmps20
      go_wp2_with (go_at_call 55; refine (implTable_any _ _ _ hv'.out).mono ?_; rintro e w' ⟨rfl, rfl⟩)
      go_quiet (fail)
      go_wp2
      go_ret2
      exact ⟨ret_ib HV.out, below_drewN (Below.refl _ _) _⟩
    · obtain ⟨_, v2, b2, b2'⟩ := entV_ok h1 (n := x - y) (by omega) (by omega)
      have c2 := hcell (x - y).toNat (by omega)
      rw [← v1] at c1
      rw [← v2] at c2
      have q2 : (0 : Int) ≤ x - y := by omega
      have q3 : x - y < (l.length : Int) := by omega
      have HV := Lib.hid (show entV l (x + y) - entV l (x - y) = prodV l x y ∧ true = prodOk l x y from ⟨by
          rw [v1, v2, p1, absd]
          split
          · rw [show x - y = 0 from by omega, show y - x = 0 from by omega]
          · rfl, p2.symm⟩)
      clear v1 v2 p1 p2 hcell
      go_enter Try.func20, Try.ntmps20
      go_wp2_with (go_at_call 55; refine (implTable_any _ _ _ hv'.out).mono ?_; rintro e w' ⟨rfl, rfl⟩)
      go_quiet (fail)
      go_wp2
      go_ret2
      exact ⟨ret_ib HV.out, below_drewN (Below.refl _ _) _⟩
  · have HP := Lib.hid (prod_no h)
    go_enter Try.func20, Try.ntmps20
    go_wp2_with (go_at_call 55; refine (implTable_any _ _ _ hv'.out).mono ?_; rintro e w' ⟨rfl, rfl⟩)
    all_goals first
      | (go_ret2; exact ⟨ret_ib ⟨HP.out.1.symm, HP.out.2.symm⟩, Below.refl _ _⟩)
      | (exfalso; simp_all [inB]; done)

set_option maxHeartbeats 400000 in
theorem lawProduct (v : Value) (l : List Int) (x y : Int) (w : World) (hv : Ints w v l) (hx : -9223372036854775808 ≤ x ∧ x ≤ 9223372036854775807) (hy : -9223372036854775808 ≤ y ∧ y ≤ 9223372036854775807) :
    Calls Try.prog 4 #[v, .int .i64 x, .int .i64 y] w fun e w' => e = .returned (.bool true) ∧ Below w.heap.size w w' := by
  obtain ⟨A, c, rfl, hlc, hc, hrd⟩ := hv.open_
  by_cases hbig : (1048576 : Int) < (l.length : Int)
  · go_enter Try.func4, Try.ntmps4
    go_wp2
    go_ret
    exact ⟨rfl, Below.refl _ _⟩
  · go_enter Try.func4, Try.ntmps4
    go_wp2_with fail
    refine (toIntS_any _ _ _ hv (by omega)).mono ?_; rintro e w1 ⟨v1, rfl, o1, b1⟩
    go_wp2_with fail
    refine (specProduct_any _ _ _ _ _ o1.ints).mono ?_; rintro e w1 ⟨rfl, rfl⟩
    go_wp2_with fail
    refine (toIntS_any _ _ _ (hv.bel b1) (by omega)).mono ?_; rintro e w2 ⟨v2, rfl, o2, b2⟩
    go_wp2_with fail
    refine (implProduct_any _ _ _ _ _ o2.ints).mono ?_; rintro e w3 ⟨rfl, b3⟩
    go_wp2_with fail
    refine (toIntS_any _ _ _ (((hv.bel b1).bel b2).bel b3) (by omega)).mono ?_; rintro e w4 ⟨v3, rfl, o3, b4⟩
    go_wp2_with fail
    refine (eqIntS_any _ _ _ _ _ ((o2.ints.bel b3).bel b4) o3.ints).mono ?_; rintro e w5 ⟨rfl, b5⟩
    have he := eqL_self l
    go_wp2
    go_ret
    exact ⟨rfl, bel_trans (bel_trans (bel_trans (bel_trans b1 b2) b3) b4) b5⟩

end Go.Proofs.Ytplalhehdfkipaa
