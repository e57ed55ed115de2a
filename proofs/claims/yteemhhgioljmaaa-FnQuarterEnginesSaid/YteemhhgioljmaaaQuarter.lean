/-
  Quarter squares: their tables in both packages, the reader that draws a table and two numbers, and the law FnProduct walked.
-/
import Derived.Test.YteemhhgioljmaaaProduct
import Derived.Test.YteemhhgioljmaaaDrawB
import Derived.Test.YteemhhgioljmaaaInter
import Derived.OwnWalk
namespace Go.Proofs.Yteemhhgioljmaaa
open Go.RowKit
set_option linter.unusedVariables false
set_option maxRecDepth 100000

def qsq (j : Nat) : Int := ((j * j / 4 : Nat) : Int)
def qtab (n : Nat) : List Int := gen qsq n
theorem qtab_len (n : Nat) : (qtab n).length = n := gen_length _ _
theorem sq_bd {k : Nat} (h : k < 60) : 0 ≤ (k : Int) * k ∧ (k : Int) * k ≤ 3600 := by
  have := prod_bd (a := (k : Int)) (b := (k : Int)) (A := 60) (B := 60) (by omega) (by omega) (by omega) (by omega)
  omega
theorem sq_div (k : Nat) : ((k : Int) * k).tdiv 4 = qsq k := by
  rw [Int.tdiv_eq_ediv_of_nonneg (Int.mul_nonneg (by omega) (by omega)), qsq]
  simp
theorem qsq_bd {k : Nat} (h : k < 60) : 0 ≤ qsq k ∧ qsq k ≤ 900 := by
  have h1 := sq_bd h
  rw [← sq_div, Int.tdiv_eq_ediv_of_nonneg h1.1]
  omega
theorem qtab_at {n k : Nat} (h : k < n) : at_ (qtab n) k = qsq k := by rw [qtab]; exact at_gen h

set_option maxHeartbeats 1000000 in
theorem implSquare_any (k : Nat) (w : World) (hk : k < 60) :
    Calls Try.prog 21 #[.int .i64 k] w fun e w' => e = .returned (.int .i64 (qsq k)) ∧ w = w' := by
  have hb := sq_bd hk
  go_enter Try.func21, Try.ntmps21
  go_wp2
  go_ret
  exact ⟨by first | rfl | rw [← sq_div], rfl⟩

set_option maxHeartbeats 1000000 in
theorem implCount_any (n : Int) (w : World) :
    Calls Try.prog 75 #[.int .i64 n] w fun e w' => e = .returned (.bool (inB n 0 60)) ∧ w = w' := by
  by_cases h0 : 0 ≤ n
  · by_cases h1 : n ≤ 60
    · have H := Lib.hid (show inB n 0 60 = true from inB_true.2 ⟨h0, h1⟩)
      go_enter Try.func75, Try.ntmps75
      go_wp2
      go_ret
      exact ⟨ret_bool H.out.symm, rfl⟩
    · have H := Lib.hid (show inB n 0 60 = false from inB_false.2 (by omega))
      go_enter Try.func75, Try.ntmps75
      go_wp2
      go_ret
      exact ⟨ret_bool H.out.symm, rfl⟩
  · have H := Lib.hid (show inB n 0 60 = false from inB_false.2 (by omega))
    go_enter Try.func75, Try.ntmps75
    go_wp2
    go_ret
    exact ⟨ret_bool H.out.symm, rfl⟩

set_option maxHeartbeats 1000000 in
theorem implQuarter_any (n : Nat) (w : World) (hn : n ≤ 1000000) :
    Calls Try.prog 16 #[.int .i64 n] w fun e w' => ∃ r, e = .returned r ∧ Own w' w.heap.size r (if n ≤ 60 then qtab n else []) ∧ Below w.heap.size w w' := by
  by_cases h : n ≤ 60
  · have hin : inB (n : Int) 0 60 = true := inB_true.2 (by omega)
    have hmk := fun W => Try.mkInts n (by omega) W
    rw [if_pos h]
    go_enter Try.func16, Try.ntmps16
    go_wp2_with (go_at_call 75; refine (implCount_any _ _).mono ?_; rintro e w' ⟨rfl, rfl⟩)
    go_loopw [12] (fun i wr => ∃ (k : Nat) (cs : List Value), k ≤ n ∧ i = .int .i64 k ∧ Blk wr w.heap.size 3 cs ∧ cs.length = n ∧ (∀ j, j < k → cs[j]? = some (.int .i64 (at_ (qtab n) j))) ∧ Below w.heap.size w wr)
      (fun i _ => n - (intOf i).toNat)
    case atStart => exact ⟨0, _, Nat.zero_le _, rfl, Blk.new _ _ _, reps_length _ _, fun j hj => absurd hj (by omega), (Below.refl _ _).alloc (Nat.le_refl _) _⟩
    case round =>
      obtain ⟨k, cs, hk, rfl, hblk, hcl, hcs, hbel⟩ := hrel
      have H := Lib.hid (And.intro hcl (And.intro hcs hbel))
      have hz := hbel.size
      by_cases hlt : k < n
      · have hcw : wr.cell? ⟨w.heap.size, k, none⟩ = some (cs[k]'(by rw [H.out.1]; exact hlt)) := by rw [hblk.cell]; exact List.getElem?_eq_getElem _
        have hfw := hblk.frozen k
        have hq := qsq_bd (k := k) (by omega)
        clear hcl hcs hbel hmk
        go_wp2_with (go_at_call 21; refine (implSquare_any k _ (by omega)).mono ?_; rintro e w' ⟨rfl, rfl⟩)
        go_roundw
        case rel => exact ⟨k + 1, _, by omega, by go_num, hblk.set_ k _, by rw [List.length_set]; exact H.out.1, by rw [← qtab_at hlt]; exact setTo (l := qtab n) (by rw [qtab_len]; exact H.out.1) (by rw [qtab_len]; exact hlt) H.out.2.1, H.out.2.2.setCell (Nat.le_refl _) _⟩
        case measure => simp [intOf]; omega
      · clear hcl hcs hbel hmk
        go_wp2
        go_ret
        have hkn : k = n := by omega
        subst hkn
        have e : (qtab k).length = k := qtab_len k
        refine ⟨_, rfl, ?_, H.out.2.2⟩
        have := Own.mk' (l := qtab k) (cap := k) (base := w.heap.size) (Nat.le_refl _) hblk (by rw [e]; exact Nat.le_refl _) (by omega) H.out.1 (fun j hj => H.out.2.1 j (by rw [e] at hj; exact hj)) (wf_gen fun j hj => by have := qsq_bd (k := j) (by omega); omega)
        rw [e] at this
        exact this
  · have hin : inB (n : Int) 0 60 = false := inB_false.2 (by omega)
    rw [if_neg h]
    go_enter Try.func16, Try.ntmps16
    go_wp2_with (go_at_call 75; refine (implCount_any _ _).mono ?_; rintro e w' ⟨rfl, rfl⟩)
    go_ret
    exact ⟨_, rfl, Own.nil_ _ _, Below.refl _ _⟩

set_option maxHeartbeats 1000000 in
theorem specQuarter_any (n : Nat) (w : World) (hn : n ≤ 60) :
    Calls Try.prog 18 #[.int .i64 n] w fun e w' => ∃ r, e = .returned r ∧ Own w' w.heap.size r (qtab n) ∧ Below w.heap.size w w' := by
  have OE := Lib.hid (Own.empty w w.heap.size (Nat.le_refl _))
  go_enter Try.func18, Try.ntmps18
  go_wp2
  go_loopw [3, 4] (fun r i wr => ∃ k : Nat, k ≤ n ∧ i = .int .i64 k ∧ Own wr w.heap.size r (qtab k) ∧ Below w.heap.size w wr) (fun _ i _ => n - (intOf i).toNat)
  case atStart => exact ⟨0, Nat.zero_le _, rfl, OE.out, bel_alloc _ _⟩
  case round =>
    obtain ⟨k, hk, rfl, ho, hbel⟩ := hrel
    have H := Lib.hid (And.intro ho hbel)
    have hz := hbel.size
    clear ho hbel OE
    by_cases hlt : k < n
    · have hq := sq_bd (k := k) (by omega)
      go_wp2_with (at_builtin; refine app_int rfl (.tmp 15) (.tmp 20) (by rfl) w.heap.size u3 _ (by rfl) (by exact H.out.1.bel (bel_alloc _ _)) _ _ (qsq k) (by rfl) (by rw [← sq_div]; exact new_cell _ _ _) (by have := qsq_bd (k := k) (by omega); omega) (by rw [qtab_len]; omega) (by simp; omega) ?_; intro v5 w5 ho hg _)
      have H2 := Lib.hid (And.intro (own_step ho rfl rfl) (app_bel (H.out.2.alloc hz _) (H.out.1.bel (bel_alloc _ _)) hg))
      go_roundw
      case rel => exact ⟨k + 1, by omega, by go_num, H2.out.1, H2.out.2⟩
      case measure => simp [intOf]; omega
    · have hkn : k = n := by omega
      subst hkn
      go_wp2
      go_ret
      exact ⟨_, rfl, H.out.1, H.out.2⟩

/-- A drawn table and two numbers. -/
def DrawnProd (w : World) (e : Ending) (w' : World) : Prop :=
  ∃ v l x y, e = .returned (.tuple #[v, .int .i64 x, .int .i64 y]) ∧ Ints w' v l ∧ l.length ≤ 60 ∧ (-1 ≤ x ∧ x ≤ 9223372036854775807) ∧ (0 ≤ y ∧ y < 30) ∧ Below w.heap.size w w'


end Go.Proofs.Yteemhhgioljmaaa
