/-
  Sums of results modulo the size of the columns: plain laws, no program in sight.
-/
import Derived.Test.YteemhhgioljmaaaTotal
namespace Go.Proofs.Yteemhhgioljmaaa
open Go.RowKit
set_option linter.unusedVariables false

/-- x and y are alike modulo T. -/
def Cg (T : Nat) (x y : Int) : Prop := (T : Int) ∣ x - y
theorem Cg.refl (T : Nat) (x : Int) : Cg T x x := ⟨0, by simp⟩
theorem Cg.symm {T : Nat} {x y : Int} (h : Cg T x y) : Cg T y x := by
  obtain ⟨q, hq⟩ := h
  exact ⟨-q, by rw [Int.mul_neg, ← hq]; omega⟩
theorem Cg.trans {T : Nat} {x y z : Int} (h : Cg T x y) (k : Cg T y z) : Cg T x z := by
  obtain ⟨p, hp⟩ := h
  obtain ⟨q, hq⟩ := k
  exact ⟨p + q, by rw [Int.mul_add, ← hp, ← hq]; omega⟩
theorem Cg.add {T : Nat} {x y z t : Int} (h : Cg T x y) (k : Cg T z t) : Cg T (x + z) (y + t) := by
  obtain ⟨p, hp⟩ := h
  obtain ⟨q, hq⟩ := k
  exact ⟨p + q, by rw [Int.mul_add, ← hp, ← hq]; omega⟩
theorem Cg.sub {T : Nat} {x y z t : Int} (h : Cg T x y) (k : Cg T z t) : Cg T (x - z) (y - t) := by
  obtain ⟨p, hp⟩ := h
  obtain ⟨q, hq⟩ := k
  exact ⟨p - q, by rw [Int.mul_sub, ← hp, ← hq]; omega⟩
theorem Cg.tmod {T : Nat} {x : Int} (h : Cg T x 0) : x.tmod T = 0 := by
  obtain ⟨q, hq⟩ := h
  exact Int.tmod_eq_zero_of_dvd ⟨q, by rw [← hq]; omega⟩
theorem cg_mod (x T : Nat) : Cg T ((x % T : Nat) : Int) x := by
  refine ⟨-((x / T : Nat) : Int), ?_⟩
  have h := Nat.div_add_mod x T
  have h2 : ((T * (x / T) + x % T : Nat) : Int) = x := by rw [h]
  rw [Int.natCast_add, Int.natCast_mul] at h2
  rw [Int.mul_neg]
  omega
theorem cg_md (s : Int) {T : Nat} (hT : 1 ≤ T) : Cg T (md s T) s := by
  refine ⟨-(s / (T : Int)), ?_⟩
  rw [md_cast s hT, Int.emod_def, Int.mul_neg]
  omega
theorem cg_sg (s : ByteArray) : Cg (ten s.size) (sg s) (cv s) := by
  unfold sg
  split
  · exact ⟨-1, by omega⟩
  · exact Cg.refl _ _

/-- the first column of an engine of sums, after n turns. -/
def colN (e : List ByteArray) (s : Int) : Nat → ByteArray
  | 0 => colOf s (sat e 0).size
  | n + 1 => addC (colN e s n) (sat (turnN e n) 0)
theorem colN_size (e : List ByteArray) (s : Int) (n : Nat) : (colN e s n).size = (sat e 0).size := by
  induction n with
  | zero => exact colOf_size _ _
  | succ n ih => rw [show colN e s (n + 1) = addC (colN e s n) (sat (turnN e n) 0) from rfl, addC_size, ih]
theorem sum_turn {e : List ByteArray} (s : Int) (he : 1 ≤ e.length) (n : Nat) : turnN ([colOf s (sat e 0).size] ++ e) n = [colN e s n] ++ turnN e n := by
  induction n with
  | zero => rfl
  | succ n ih =>
    rw [turnN_succ, ih, casc_join (by rw [turnN_length]; exact he)]
    rfl
/-- the sum of n results. -/
def resS (e : List ByteArray) : Nat → Int
  | 0 => 0
  | n + 1 => resS e n + sg (sat (turnN e n) 0)
theorem cv_colN {e : List ByteArray} (s : Int) (he : 1 ≤ e.length) (n : Nat) : Cg (ten (sat e 0).size) (cv (colN e s n)) (s + resS e n) := by
  induction n with
  | zero =>
    have h1 : cv (colOf s (sat e 0).size) = md s (ten (sat e 0).size) := cv_col (md_lt _ (ten_pos _))
    show Cg _ ((cv (colOf s (sat e 0).size) : Nat) : Int) (s + 0)
    rw [h1, Int.add_zero]
    exact cg_md s (ten_pos _)
  | succ n ih =>
    have h1 : cv (colN e s (n + 1)) = (cv (colN e s n) + cv (sat (turnN e n) 0)) % ten (sat e 0).size := by
      show cv (addC _ _) = _
      unfold addC
      rw [colN_size]
      exact cv_col (Nat.mod_lt _ (by have := ten_pos (sat e 0).size; omega))
    rw [h1]
    refine (cg_mod _ _).trans ?_
    have h2 := cg_sg (sat (turnN e n) 0)
    rw [turnN_size (by omega)] at h2
    rw [Int.natCast_add, show resS e (n + 1) = resS e n + sg (sat (turnN e n) 0) from rfl, ← Int.add_assoc]
    exact ih.add h2.symm
/-- what an engine of sums shows. -/
theorem sum_shows {e : List ByteArray} {s : Int} (h : sumOk e s = true) (n : Nat) : Cg (ten (sat e 0).size) (sg (sat (turnN (sumE e s) n) 0)) (s + resS e n) := by
  have he := (engOk_iff.1 (sumOk_true.1 h).1).1
  rw [sumE_yes h, sum_turn s he]
  have h0 : sat ([colN e s n] ++ turnN e n) 0 = colN e s n := rfl
  rw [h0]
  have h1 := cg_sg (colN e s n)
  rw [colN_size] at h1
  exact h1.trans (cv_colN s he n)
theorem turnN_add (e : List ByteArray) (k n : Nat) : turnN (turnN e k) n = turnN e (k + n) := by
  induction n with
  | zero => rfl
  | succ n ih => rw [turnN_succ, ih]; rfl
theorem resS_add (e : List ByteArray) (k n : Nat) : resS e (k + n) = resS e k + resS (turnN e k) n := by
  induction n with
  | zero => show resS e k = resS e k + 0; omega
  | succ n ih =>
    show resS e (k + n) + sg (sat (turnN e (k + n)) 0) = resS e k + (resS (turnN e k) n + sg (sat (turnN (turnN e k) n) 0))
    rw [ih, turnN_add]; omega
theorem sumOk_turn {e : List ByteArray} {s : Int} (h : sumOk e s = true) (k : Nat) : sumOk (turnN e k) s = true := by
  obtain ⟨h1, h2, h3⟩ := sumOk_true.1 h
  exact sumOk_true.2 ⟨turnN_ok h1 k, by rw [turnN_length]; exact h2, by rw [turnN_size (by have := (engOk_iff.1 h1).1; omega)]; exact h3⟩
/-- The law FnTotal. -/
theorem total_law {e : List ByteArray} {count k : Nat} (h : totOk e count = true) (hk : k ≤ count) :
    totOk e k = true ∧ totOk (turnN e k) (count - k : Nat) = true ∧ (tot e k + tot (turnN e k) (count - k : Nat) - tot e count).tmod (ten (sat e 0).size) = 0 := by
  obtain ⟨hs, hn⟩ := totOk_true.1 h
  have hn' := inB_true.1 hn
  have e1 : totOk e k = true := totOk_true.2 ⟨hs, inB_true.2 (by omega)⟩
  have e2 : totOk (turnN e k) (count - k : Nat) = true := totOk_true.2 ⟨sumOk_turn hs k, inB_true.2 (by omega)⟩
  refine ⟨e1, e2, Cg.tmod ?_⟩
  rw [tot_yes h, tot_yes e1, tot_yes e2]
  have a1 := sum_shows hs count
  have a2 := sum_shows hs k
  have a3 := sum_shows (sumOk_turn hs k) (count - k)
  rw [turnN_size (by have := (engOk_iff.1 (sumOk_true.1 hs).1).1; omega)] at a3
  have hr := resS_add e k (count - k)
  rw [show k + (count - k) = count by omega] at hr
  have a4 := (a2.add a3).sub a1
  have e0 : (0 + resS e k + (0 + resS (turnN e k) (count - k)) - (0 + resS e count)) = 0 := by rw [hr]; omega
  rw [e0] at a4
  exact a4

end Go.Proofs.Yteemhhgioljmaaa
