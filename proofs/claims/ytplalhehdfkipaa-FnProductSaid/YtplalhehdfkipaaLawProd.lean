/-
  The law FnProduct, walked.
-/
import Derived.Test.YtplalhehdfkipaaQuarter
namespace Go.Proofs.Ytplalhehdfkipaa
open Go.RowKit
set_option linter.unusedVariables false

theorem prodOk_swap (l : List Int) (x y : Int) : prodOk l y x = prodOk l x y := by
  unfold prodOk
  rw [Int.add_comm y x]
  cases tableOk l <;> cases inB x 0 59 <;> cases inB y 0 59 <;> rfl
theorem absd_swap (x y : Int) : absd y x = absd x y := by
  unfold absd
  split <;> split <;> omega
theorem prodV_swap (l : List Int) (x y : Int) : prodV l y x = prodV l x y := by
  unfold prodV
  rw [prodOk_swap, absd_swap, Int.add_comm y x]

/-- x and y have the same remainder by two as their sum and their difference: the two quarter squares lie x times y apart. -/
theorem quarters (x d : Nat) : ((x + (x + d)) * (x + (x + d)) / 4 : Nat) = d * d / 4 + x * (x + d) := by
  have e : (x + (x + d)) * (x + (x + d)) = d * d + 4 * (x * (x + d)) := by
    have h : ∀ a b : Int, (a + (a + b)) * (a + (a + b)) = b * b + 4 * (a * (a + b)) := fun a b => by
      simp only [Int.add_mul, Int.mul_add]
      rw [Int.mul_comm b a]
      omega
    have := h x d
    exact_mod_cast this
  rw [e]
  omega
theorem qprod {n : Nat} {x y : Int} (hx : 0 ≤ x) (hy : 0 ≤ y) (h : x + y < (n : Int)) : at_ (qtab n) (x + y).toNat - at_ (qtab n) (absd x y).toNat = x * y := by
  have key : ∀ a d : Nat, a + (a + d) < n → qsq (a + (a + d)) - qsq d = (a : Int) * ((a : Int) + d) := fun a d _ => by
    unfold qsq
    rw [quarters]
    simp
    omega
  rcases Int.le_total x y with q | q
  · obtain ⟨a, rfl⟩ : ∃ a : Nat, x = a := ⟨x.toNat, by omega⟩
    obtain ⟨d, rfl⟩ : ∃ d : Nat, y = a + d := ⟨(y - a).toNat, by omega⟩
    have e1 : ((a : Int) + (a + d)).toNat = a + (a + d) := by omega
    have e2 : (absd a (a + d)).toNat = d := by rw [absd]; split <;> omega
    rw [e1, e2, qtab_at (by omega), qtab_at (by omega), key a d (by omega)]
  · obtain ⟨a, rfl⟩ : ∃ a : Nat, y = a := ⟨y.toNat, by omega⟩
    obtain ⟨d, rfl⟩ : ∃ d : Nat, x = a + d := ⟨(x - a).toNat, by omega⟩
    have e1 : ((a : Int) + d + a).toNat = a + (a + d) := by omega
    have e2 : (absd (a + d) a).toNat = d := by rw [absd]; split <;> omega
    rw [e1, e2, qtab_at (by omega), qtab_at (by omega), key a d (by omega), Int.mul_comm]
theorem qtab_ok {n : Nat} (h0 : 1 ≤ n) (h1 : n ≤ 60) : tableOk (qtab n) = true := by
  have h : (qtab n).all (fun t => inB t (-1000000000) 1000000000) = true := by
    rw [List.all_eq_true]
    intro t ht
    simp [qtab, gen] at ht
    obtain ⟨j, hj, rfl⟩ := ht
    have := qsq_bd (k := j) (by omega)
    exact inB_true.2 (by omega)
  rw [tableOk, h, qtab_len, inB_true.2 (by omega)]
  rfl
theorem prod_exact {l : List Int} {x y : Int} (h : prodOk l x y = true) :
    prodOk (qtab l.length) x y = true ∧ prodV (qtab l.length) x y = x * y ∧ 0 ≤ x ∧ x < 60 ∧ 0 ≤ y ∧ y < 60 := by
  have h' := h
  simp only [prodOk, Bool.and_eq_true, decide_eq_true_eq] at h'
  obtain ⟨⟨⟨h1, h2⟩, h3⟩, h4⟩ := h'
  have t := tableOk_true h1
  have hx := inB_true.1 h2
  have hy := inB_true.1 h3
  have k := prod_yes (l := qtab l.length) (qtab_ok t.1 t.2.1) h2 h3 (by rw [qtab_len]; exact h4)
  exact ⟨k.2, by rw [k.1, qprod hx.1 hy.1 h4], by omega⟩

set_option maxHeartbeats 2000000 in
set_option maxRecDepth 100000 in
theorem lawProd (v : Value) (code : List Int) (w : World) (hv : Bytes w v code) :
    Calls Try.prog 10 #[v] w fun e w' => e = .returned (.bool true) ∧ Below w.heap.size w w' := by
  have HV := Lib.hid hv
  obtain ⟨A, c, rfl, hlc, hc, hrd⟩ := hv.open_
  clear hrd hv
  by_cases hbig : (1048576 : Int) < (code.length : Int)
  · go_enter Try.func10, Try.ntmps10
    go_wp2
    go_ret
    exact ⟨rfl, Below.refl _ _⟩
  · go_enter Try.func10, Try.ntmps10
    go_wp2_with fail
    refine (drawProductOf_any _ _ _ HV.out).mono ?_; rintro e w1 ⟨va, l, x, y, rfl, ha, la, hx, hy, b1⟩
    have H1 := Lib.hid (And.intro ha b1)
    obtain ⟨A1, c1, rfl, hlc1, hc1, hrd1⟩ := ha.open_
    clear ha b1 hrd1
    go_wp2_with fail
    refine (implProduct_any _ _ _ _ _ H1.out.1).mono ?_; rintro e w2 ⟨rfl, b2⟩
    have H2 := Lib.hid (And.intro (H1.out.1.bel b2) (bel_trans H1.out.2 b2))
    clear b2
    go_wp2_with fail
    refine (specProduct_any _ _ _ _ _ H2.out.1).mono ?_; rintro e w3 ⟨rfl, rfl⟩
    have H3 := H2
    clear H1 H2
    cases hok : prodOk l x y
    · go_wp2
      go_ret
      exact ⟨ret_bool (by simp), H3.out.2⟩
    · obtain ⟨k1, k2, x0, x1, y0, y1⟩ := prod_exact hok
      have hs1 := prodOk_swap l x y
      have hs2 := Lib.hid (prodV_swap l x y)
      have K := Lib.hid k2
      have hq : l.length ≤ 60 := la
      have hpb := prod_bd x0 x1 y0 y1
      rw [hok] at hs1
      clear k2
      go_wp2_with fail
      refine (implProduct_any _ _ _ _ _ H3.out.1).mono ?_
      rw [hs2.out]
      rintro e w4 ⟨rfl, b4⟩
      have H4 := Lib.hid (And.intro (H3.out.1.bel b4) (bel_trans H3.out.2 b4))
      clear b4
      go_wp2_with fail
      refine (implQuarter_any l.length _ (by omega)).mono ?_
      rw [if_pos hq]
      rintro e w5 ⟨r5, rfl, o5, b5⟩
      have H5 := Lib.hid (And.intro o5 (bel_trans H4.out.2 b5))
      clear o5 b5
      go_wp2_with fail
      refine (implProduct_any _ _ _ _ _ H5.out.1.ints).mono ?_
      rw [K.out]
      rintro e w6 ⟨rfl, b6⟩
      go_wp2
      go_ret
      exact ⟨ret_bool (by simp), bel_trans H5.out.2 b6⟩

end Go.Proofs.Ytplalhehdfkipaa
