/-
  Quarter squares: their tables in both packages, the reader that draws a table and two numbers, and the law FnProduct walked.
-/
import Derived.Test.YtplalhehdfkipaaProduct
import Derived.Test.YtplalhehdfkipaaDrawB
import Derived.Test.YtplalhehdfkipaaInter
import Derived.OwnWalk
namespace Go.Proofs.Ytplalhehdfkipaa
open Go.RowKit
set_option linter.unusedVariables false

def qsq (j : Nat) : Int := ((j * j / 4 : Nat) : Int)
def qtab (n : Nat) : List Int := gen qsq n
theorem qtab_len (n : Nat) : (qtab n).length = n := gen_length _ _
theorem sq_bd {k : Nat} (h : k < 60) : 0 ≤ (k : Int) * k ∧ (k : Int) * k ≤ 3600 := by
  have := prod_bd (a := (k : Int)) (b := (k : Int)) (A := 60) (B := 60) (by omega) (by omega) (by omega) (by omega)
  omega
theorem sq_div (k : Nat) : ((k : Int) * k).tdiv 4 = qsq k := by
  rw [Int.tdiv_eq_ediv_of_nonneg (Int.mul_nonneg (by omega) (by omega)), qsq]
  simp
theorem qsq_bd {k : Nat} (h : k < 60) : 0 ≤ qsq k ∧ qsq k ≤ 900 := by
  have h1 := sq_bd h
  rw [← sq_div, Int.tdiv_eq_ediv_of_nonneg h1.1]
  omega
theorem qtab_at {n k : Nat} (h : k < n) : at_ (qtab n) k = qsq k := by rw [qtab]; exact at_gen h

set_option maxHeartbeats 1000000 in
theorem implSquare_any (k : Nat) (w : World) (hk : k < 60) :
    Calls Try.prog 72 #[.int .i64 k] w fun e w' => e = .returned (.int .i64 (qsq k)) ∧ w = w' := by
  have hb := sq_bd hk
  go_enter Try.func72, Try.ntmps72
  go_wp2
  go_ret
  exact ⟨by first | rfl | rw [← sq_div], rfl⟩

set_option maxHeartbeats 1000000 in
theorem implCount_any (n : Int) (w : World) :
    Calls Try.prog 71 #[.int .i64 n] w fun e w' => e = .returned (.bool (inB n 0 60)) ∧ w = w' := by
  by_cases h0 : 0 ≤ n
  · by_cases h1 : n ≤ 60
    · have H := Lib.hid (show inB n 0 60 = true from inB_true.2 ⟨h0, h1⟩)
      go_enter Try.func71, Try.ntmps71
      go_wp2
      go_ret
      exact ⟨ret_bool H.out.symm, rfl⟩
    · have H := Lib.hid (show inB n 0 60 = false from inB_false.2 (by omega))
      go_enter Try.func71, Try.ntmps71
      go_wp2
      go_ret
      exact ⟨ret_bool H.out.symm, rfl⟩
  · have H := Lib.hid (show inB n 0 60 = false from inB_false.2 (by omega))
    go_enter Try.func71, Try.ntmps71
    go_wp2
    go_ret
    exact ⟨ret_bool H.out.symm, rfl⟩

set_option maxHeartbeats 1000000 in
theorem implQuarter_any (n : Nat) (w : World) (hn : n ≤ 1000000) :
    Calls Try.prog 37 #[.int .i64 n] w fun e w' => ∃ r, e = .returned r ∧ Own w' w.heap.size r (if n ≤ 60 then qtab n else []) ∧ Below w.heap.size w w' := by
  by_cases h : n ≤ 60
  · have hin : inB (n : Int) 0 60 = true := inB_true.2 (by omega)
    have hmk := fun W => Try.mkInts n (by omega) W
    rw [if_pos h]
    go_enter Try.func37, Try.ntmps37
    go_wp2_with (go_at_call 71; refine (implCount_any _ _).mono ?_; rintro e w' ⟨rfl, rfl⟩)
    go_loopw [12] (fun i wr => ∃ (k : Nat) (cs : List Value), k ≤ n ∧ i = .int .i64 k ∧ Blk wr w.heap.size 3 cs ∧ cs.length = n ∧ (∀ j, j < k → cs[j]? = some (.int .i64 (at_ (qtab n) j))) ∧ Below w.heap.size w wr)
      (fun i _ => n - (intOf i).toNat)
    case atStart => exact ⟨0, _, Nat.zero_le _, rfl, Blk.new _ _ _, reps_length _ _, fun j hj => absurd hj (by omega), (Below.refl _ _).alloc (Nat.le_refl _) _⟩
    case round =>
      obtain ⟨k, cs, hk, rfl, hblk, hcl, hcs, hbel⟩ := hrel
      have H := Lib.hid (And.intro hcl (And.intro hcs hbel))
      have hz := hbel.size
      by_cases hlt : k < n
      · have hcw : wr.cell? ⟨w.heap.size, k, none⟩ = some (cs[k]'(by rw [H.out.1]; exact hlt)) := by rw [hblk.cell]; exact List.getElem?_eq_getElem _
        have hfw := hblk.frozen k
        have hq := qsq_bd (k := k) (by omega)
        clear hcl hcs hbel hmk
        go_wp2_with (go_at_call 72; refine (implSquare_any k _ (by omega)).mono ?_; rintro e w' ⟨rfl, rfl⟩)
        go_roundw
        case rel => exact ⟨k + 1, _, by omega, by go_num, hblk.set_ k _, by rw [List.length_set]; exact H.out.1, by rw [← qtab_at hlt]; exact setTo (l := qtab n) (by rw [qtab_len]; exact H.out.1) (by rw [qtab_len]; exact hlt) H.out.2.1, H.out.2.2.setCell (Nat.le_refl _) _⟩
        case measure => simp [intOf]; omega
      · clear hcl hcs hbel hmk
        go_wp2
        go_ret
        have hkn : k = n := by omega
        subst hkn
        have e : (qtab k).length = k := qtab_len k
        refine ⟨_, rfl, ?_, H.out.2.2⟩
        have := Own.mk' (l := qtab k) (cap := k) (base := w.heap.size) (Nat.le_refl _) hblk (by rw [e]; exact Nat.le_refl _) (by omega) H.out.1 (fun j hj => H.out.2.1 j (by rw [e] at hj; exact hj)) (wf_gen fun j hj => by have := qsq_bd (k := j) (by omega); omega)
        rw [e] at this
        exact this
  · have hin : inB (n : Int) 0 60 = false := inB_false.2 (by omega)
    rw [if_neg h]
    go_enter Try.func37, Try.ntmps37
    go_wp2_with (go_at_call 71; refine (implCount_any _ _).mono ?_; rintro e w' ⟨rfl, rfl⟩)
    go_ret
    exact ⟨_, rfl, Own.nil_ _ _, Below.refl _ _⟩

set_option maxHeartbeats 1000000 in
theorem specQuarter_any (n : Nat) (w : World) (hn : n ≤ 60) :
    Calls Try.prog 69 #[.int .i64 n] w fun e w' => ∃ r, e = .returned r ∧ Own w' w.heap.size r (qtab n) ∧ Below w.heap.size w w' := by
  have OE := Lib.hid (Own.empty w w.heap.size (Nat.le_refl _))
  go_enter Try.func69, Try.ntmps69
  go_wp2
  go_loopw [3, 4] (fun r i wr => ∃ k : Nat, k ≤ n ∧ i = .int .i64 k ∧ Own wr w.heap.size r (qtab k) ∧ Below w.heap.size w wr) (fun _ i _ => n - (intOf i).toNat)
  case atStart => exact ⟨0, Nat.zero_le _, rfl, OE.out, bel_alloc _ _⟩
  case round =>
    obtain ⟨k, hk, rfl, ho, hbel⟩ := hrel
    have H := Lib.hid (And.intro ho hbel)
    have hz := hbel.size
    clear ho hbel OE
    by_cases hlt : k < n
    · have hq := sq_bd (k := k) (by omega)
      go_wp2_with (at_builtin; refine app_int rfl (.tmp 15) (.tmp 20) (by rfl) w.heap.size u3 _ (by rfl) (by exact H.out.1.bel (bel_alloc _ _)) _ _ (qsq k) (by rfl) (by rw [← sq_div]; exact new_cell _ _ _) (by have := qsq_bd (k := k) (by omega); omega) (by rw [qtab_len]; omega) (by simp; omega) ?_; intro v5 w5 ho hg _)
      have H2 := Lib.hid (And.intro (own_step ho rfl rfl) (app_bel (H.out.2.alloc hz _) (H.out.1.bel (bel_alloc _ _)) hg))
      go_roundw
      case rel => exact ⟨k + 1, by omega, by go_num, H2.out.1, H2.out.2⟩
      case measure => simp [intOf]; omega
    · have hkn : k = n := by omega
      subst hkn
      go_wp2
      go_ret
      exact ⟨_, rfl, H.out.1, H.out.2⟩

/-- A drawn table and two numbers. -/
def DrawnProd (w : World) (e : Ending) (w' : World) : Prop :=
  ∃ v l x y, e = .returned (.tuple #[v, .int .i64 x, .int .i64 y]) ∧ Ints w' v l ∧ l.length ≤ 60 ∧ (-1 ≤ x ∧ x ≤ 9223372036854775807) ∧ (0 ≤ y ∧ y < 30) ∧ Below w.heap.size w w'

set_option maxHeartbeats 2000000 in
theorem drawProductOf_any (v : Value) (code : List Int) (w : World) (hv : Bytes w v code) :
    Calls Try.prog 36 #[v] w (DrawnProd w) := by
  go_enter Try.func36, Try.ntmps36
  go_wp2_with fail
  refine (l9Open_any v code w hv).mono ?_
  rintro e w1 ⟨g, rfl, hg, hr1, hb1⟩
  have z1 := hb1.size
  have l1 := hr1.lt
  have H1 := Lib.hid (And.intro (show St w1 g 0 (.slice none 0 0) [] w1 from ⟨Own.nil_ _ _, hr1, World.grownBy.refl _ _, l1⟩) hb1)
  clear hr1 hb1
  go_wp2_with fail
  refine (pick_st 30 H1.out.1 (by omega) (by omega)).mono ?_
  rintro e w2 ⟨x, rfl, xa, xb, hs2⟩
  have S2 := Lib.hid hs2
  clear hs2
  go_wp2_with fail
  refine (pick_st 30 S2.out (by omega) (by omega)).mono ?_
  rintro e w3 ⟨y, rfl, ya, yb, hs3⟩
  have S3 := Lib.hid hs3
  have z3 := hs3.gr.size
  clear hs3 S2
  go_wp2_with fail
  refine (specQuarter_any 60 _ (by omega)).mono ?_
  rintro e w4 ⟨vt, rfl, ho4, b4⟩
  have S4 := Lib.hid (show St w1 g _ vt (qtab 60) w4 from ⟨ho4.lower z3, S3.out.rdr.bel b4, only_below S3.out.gr b4, l1⟩)
  clear ho4 b4 S3
  have BL := fun (w' : World) (h : w1.grownBy w' (some g)) => H1.out.2.trans (grown_below (B := w.heap.size) h (by omega) z1)
  have HB := Lib.hid BL
  clear BL
  go_wp2_with fail
  refine (pick_st 12 S4.out (by omega) (by omega)).mono ?_
  rintro e w5 ⟨q, rfl, qa, qb, hs5⟩
  have S5 := Lib.hid hs5
  have z5 := hs5.gr.size
  clear hs5 S4
  cases q0 : (q == 0)
  · cases q1 : (q == 1)
    · cases q2 : (q == 2)
      · go_wp2
        go_ret3
        exact ⟨_, _, x, y, rfl, S5.out.own.ints, by rw [qtab_len]; omega, by omega, by omega, HB.out _ S5.out.gr⟩
      · obtain ⟨A5, c5, rfl, hlc5, hc5, hrd5⟩ := S5.out.own.ints.open_
        have e5 := qtab_len 60
        clear hrd5
        go_wp2_with fail
        refine (pick_st 60 S5.out (by omega) (by omega)).mono ?_
        rintro e w6 ⟨k, rfl, ka, kb, hs6⟩
        obtain ⟨k, rfl⟩ : ∃ n : Nat, k = n := ⟨k.toNat, by omega⟩
        have S6 := Lib.hid hs6
        clear hs6 S5
        go_wp2
        go_ret3
        exact ⟨_, (qtab 60).take k, x, y, rfl, S6.out.own.ints.take (by omega), by rw [List.length_take]; omega, by omega, by omega, HB.out _ S6.out.gr⟩
    · go_wp2_with fail
      refine (l6Entries_any g _ _ S5.out.rdr (by omega)).mono ?_
      rintro e w6 ⟨va, a, rfl, ho6, ha1, ha2, hr6, hg6⟩
      have H6 := Lib.hid (And.intro ho6.ints (HB.out _ (grown_trans S5.out.gr hg6 (fun j hj => .inl (by injection hj with hj; exact hj.symm)))))
      clear ho6 hr6 hg6
      go_wp2
      go_ret3
      exact ⟨_, a, x, y, rfl, H6.out.1, by omega, by omega, by omega, H6.out.2⟩
  · go_wp2_with fail
    refine (num_st _ [-1, 59, 60, 9223372036854775807] (S5.out.bel (bel_alloc _ _)) (by omega) (lit_own _ [-1, 59, 60, 9223372036854775807] _ w1.heap.size rfl (by omega) (by simp) (wf_lit (by simp))).ints (by simp) (lit_ne (by omega))).mono ?_
    rintro e w6 ⟨n, rfl, hn, hs6⟩
    have hn' : -1 ≤ n ∧ n ≤ 9223372036854775807 := by simp at hn; omega
    have S6 := Lib.hid hs6
    clear hn hs6 S5
    go_wp2
    go_ret3
    exact ⟨_, _, n, y, rfl, S6.out.own.ints, by rw [qtab_len]; omega, by omega, by omega, HB.out _ S6.out.gr⟩

end Go.Proofs.Ytplalhehdfkipaa
