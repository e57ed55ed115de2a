/-
  Quarter squares: tables of any count, the drawn count, and the engines that print them.
-/
import Derived.Test.YteemhhgioljmaaaQuarter
import Derived.Test.YteemhhgioljmaaaSetPlain
import Derived.Test.YteemhhgioljmaaaEngsD
namespace Go.Proofs.Yteemhhgioljmaaa
open Go.RowKit
set_option linter.unusedVariables false
set_option linter.unusedSimpArgs false
set_option maxRecDepth 100000

def qT (n : Int) : List Int := if inB n 0 60 = true then qtab n.toNat else []
theorem qT_no {n : Int} (h : inB n 0 60 = false) : qT n = [] := by simp [qT, h]
theorem qT_yes {n : Nat} (h : inB (n : Int) 0 60 = true) : qT n = qtab n := by simp [qT, h]

set_option maxHeartbeats 1000000 in
theorem implQT_any (n : Int) (w : World) :
    Calls Try.prog 16 #[.int .i64 n] w fun e w' => ∃ r, e = .returned r ∧ Own w' w.heap.size r (qT n) ∧ Below w.heap.size w w' := by
  cases hin : inB n 0 60
  · rw [qT_no hin]
    go_enter Try.func16, Try.ntmps16
    go_wp2_with (go_at_call 75; refine (implCount_any _ _).mono ?_; rintro e w' ⟨rfl, rfl⟩)
    go_ret
    exact ⟨_, rfl, Own.nil_ _ _, Below.refl _ _⟩
  · have h := inB_true.1 hin
    obtain ⟨m, rfl⟩ : ∃ m : Nat, n = m := ⟨n.toNat, by omega⟩
    have := implQuarter_any m w (by omega)
    rw [if_pos (by omega)] at this
    rw [qT_yes hin]
    exact this

set_option maxHeartbeats 1000000 in
theorem specQT_any (n : Int) (w : World) (hn : -9223372036854775808 ≤ n ∧ n ≤ 9223372036854775807) :
    Calls Try.prog 18 #[.int .i64 n] w fun e w' => ∃ r, e = .returned r ∧ Own w' w.heap.size r (qT n) ∧ Below w.heap.size w w' := by
  cases hin : inB n 0 60
  · rw [qT_no hin]
    have h := inB_false.1 hin
    clear hin
    have OE := Lib.hid (Own.empty w w.heap.size (Nat.le_refl _))
    by_cases h0 : n < 0
    · go_enter Try.func18, Try.ntmps18
      go_wp2
      go_loop [3, 4] (fun r i => r = .slice (some ⟨w.heap.size, 0, none⟩) 0 0 ∧ i = .int .i64 0) (fun _ _ => 0)
      case atStart => exact ⟨rfl, rfl⟩
      case round =>
        obtain ⟨rfl, rfl⟩ := hrel
        go_wp2
        go_ret
        exact ⟨_, rfl, OE.out, bel_alloc _ _⟩
    · have h1 : 60 < n := by omega
      go_enter Try.func18, Try.ntmps18
      go_wp2
      go_loop [3, 4] (fun r i => r = .slice (some ⟨w.heap.size, 0, none⟩) 0 0 ∧ i = .int .i64 0) (fun _ _ => 0)
      case atStart => exact ⟨rfl, rfl⟩
      case round =>
        obtain ⟨rfl, rfl⟩ := hrel
        go_wp2
        go_ret
        exact ⟨_, rfl, OE.out, bel_alloc _ _⟩
  · have h := inB_true.1 hin
    obtain ⟨m, rfl⟩ : ∃ m : Nat, n = m := ⟨n.toNat, by omega⟩
    rw [qT_yes hin]
    exact specQuarter_any m w (by omega)

set_option maxHeartbeats 1000000 in
theorem drawQS_any (v : Value) (code : List Int) (w : World) (hv : Bytes w v code) :
    Calls Try.prog 74 #[v] w fun e w' => ∃ n : Int, e = .returned (.int .i64 n) ∧ (-1 ≤ n ∧ n ≤ 9223372036854775807) ∧ Below w.heap.size w w' := by
  go_enter Try.func74, Try.ntmps74
  go_wp2_with fail
  refine (l9Open_any v code w hv).mono ?_
  rintro e w1 ⟨g, rfl, hg, hr1, hb1⟩
  have z1 := hb1.size
  have l1 := hr1.lt
  have H1 := Lib.hid (And.intro (show St w1 g 0 (.slice none 0 0) [] w1 from ⟨Own.nil_ _ _, hr1, World.grownBy.refl _ _, l1⟩) hb1)
  have BL := fun (w' : World) (h : w1.grownBy w' (some g)) => hb1.trans (grown_below (B := w.heap.size) h (by omega) z1)
  have HB := Lib.hid BL
  clear hr1 hb1 BL
  go_wp2_with fail
  refine (pick_st 8 H1.out.1 (by omega) (by omega)).mono ?_
  rintro e w2 ⟨q, rfl, qa, qb, hs2⟩
  have S2 := Lib.hid hs2
  have z2 := hs2.gr.size
  clear hs2
  cases q0 : (q == 0)
  · go_wp2_with fail
    refine (pick_st 60 S2.out (by omega) (by omega)).mono ?_
    rintro e w3 ⟨x, rfl, xa, xb, hs3⟩
    have S3 := Lib.hid hs3
    clear hs3
    go_wp2
    go_ret
    exact ⟨x, rfl, by omega, HB.out _ S3.out.gr⟩
  · go_wp2_with fail
    refine (num_st _ [-1, 59, 60, 9223372036854775807] (S2.out.bel (bel_alloc _ _)) (by omega) (lit_own _ [-1, 59, 60, 9223372036854775807] _ w1.heap.size rfl (by omega) (by simp) (wf_lit (by simp))).ints (by simp) (lit_ne (by omega))).mono ?_
    rintro e w6 ⟨n, rfl, hn, hs6⟩
    have hn' : -1 ≤ n ∧ n ≤ 9223372036854775807 := by simp at hn; omega
    have S6 := Lib.hid hs6
    clear hn hs6
    go_wp2
    go_ret
    exact ⟨n, rfl, hn', HB.out _ S6.out.gr⟩

set_option maxHeartbeats 1000000 in
theorem drawQT_any (v : Value) (code : List Int) (w : World) (hv : Bytes w v code) :
    Calls Try.prog 15 #[v] w fun e w' => ∃ n : Int, e = .returned (.int .i64 n) ∧ (-9223372036854775808 ≤ n ∧ n ≤ 9223372036854775807) ∧ Below w.heap.size w w' := by
  have HV := Lib.hid hv
  obtain ⟨A, c, rfl, hl1, hl2, -⟩ := hv.open_
  clear hv
  go_enter Try.func15, Try.ntmps15
  go_wp2_with fail
  refine (drawQS_any _ code _ HV.out).mono ?_
  rintro e w1 ⟨n, rfl, hn, b⟩
  have HB := Lib.hid b
  clear b
  go_wp2
  go_ret
  exact ⟨_, rfl, by rw [← IntWalk.i64_left]; exact wrap_bd _, HB.out⟩

/-- The engine of squares and the one of products of neighbors. -/
def qA : List ByteArray := setE [0, 1, 2] 0 6
def qB : List ByteArray := setE [0, 2, 2] 0 6
theorem qA_ok : setOk [0, 1, 2] 0 6 = true := by decide +kernel
theorem qB_ok : setOk [0, 2, 2] 0 6 = true := by decide +kernel
def qAll : Bool := (List.range 30).all fun i => fits (evalI [0, 1, 2] (0 + (i : Int))) 6 && (evalI [0, 1, 2] (0 + (i : Int)) == qsq (2 * i)) && fits (evalI [0, 2, 2] (0 + (i : Int))) 6 && (evalI [0, 2, 2] (0 + (i : Int)) == qsq (2 * i + 1))
theorem qAll_true : qAll = true := by decide +kernel
theorem q_at {i : Nat} (h : i < 30) : fits (evalI [0, 1, 2] (0 + (i : Int))) 6 = true ∧ evalI [0, 1, 2] (0 + (i : Int)) = qsq (2 * i) ∧ fits (evalI [0, 2, 2] (0 + (i : Int))) 6 = true ∧ evalI [0, 2, 2] (0 + (i : Int)) = qsq (2 * i + 1) := by
  have := qAll_true
  unfold qAll at this
  rw [List.all_eq_true] at this
  have h2 := this i (List.mem_range.2 h)
  simp only [Bool.and_eq_true, beq_iff_eq] at h2
  obtain ⟨⟨⟨a, b⟩, c⟩, d⟩ := h2
  exact ⟨a, b, c, d⟩
theorem q_step {j : Nat} (h : j < 60) : stepV [qA, qB] j = qsq j := by
  have e := q_at (i := j / 2) (by omega)
  unfold stepV
  show sg (sat (turnN (eat [qA, qB] (j % 2)) (j / 2)) 0) = qsq j
  rcases Nat.mod_two_eq_zero_or_one j with m | m
  · rw [m, show eat [qA, qB] 0 = qA from rfl, qA, set_shows qA_ok (by omega) e.1, e.2.1]
    congr 1; omega
  · rw [m, show eat [qA, qB] 1 = qB from rfl, qB, set_shows qB_ok (by omega) e.2.2.1, e.2.2.2]
    congr 1; omega
theorem q_all_ok : allOk [qA, qB] = true := by
  refine allOk_true.2 ⟨by simp, by simp, fun i hi => ?_⟩
  match i, hi with
  | 0, _ => exact setE_ok qA_ok
  | 1, _ => exact setE_ok qB_ok
theorem q_run {n : Nat} (h : inB (n : Int) 0 60 = true) : rsOk [qA, qB] n = true ∧ rsL [qA, qB] n = qtab n := by
  obtain ⟨a, b⟩ := rs_yes q_all_ok h
  refine ⟨a, b.trans (list_ext (by rw [stepsL_length, qtab_len]) fun j hj => ?_)⟩
  rw [stepsL_length] at hj
  have := inB_true.1 h
  rw [qtab_at hj, stepsL, at_gen hj, q_step (by omega)]
theorem qA_any (w : World) (v : Value) (hv : Ints w v [0, 1, 2]) : Calls Try.prog 19 #[v, .int .i64 0, .int .i64 6] w (EngB w qA true) := by
  have h := implSetUp_any v [0, 1, 2] 0 6 w hv (by omega)
  rw [qA_ok] at h
  exact h
theorem qB_any (w : World) (v : Value) (hv : Ints w v [0, 2, 2]) : Calls Try.prog 19 #[v, .int .i64 0, .int .i64 6] w (EngB w qB true) := by
  have h := implSetUp_any v [0, 2, 2] 0 6 w hv (by omega)
  rw [qB_ok] at h
  exact h
/-- A literal of two engines. -/
theorem Engs.two {w : World} {T : TypeId} {A B : Option Addr} {a b : List ByteArray} {c d g : Nat} (hA : Strs w (.slice A a.length c) a) (hB : Strs w (.slice B b.length d) b)
    (hb : Blk w g T [.slice A a.length c, .slice B b.length d]) : Engs w (.slice (some ⟨g, 0, none⟩) 2 2) [a, b] := by
  refine ⟨[.slice A a.length c, .slice B b.length d], ⟨some ⟨g, 0, none⟩, 2, rfl, Nat.le_refl _, by unfold maxLen; omega, fun _ => ⟨g, 0, rfl, hb.lt, fun i v hi => ?_⟩⟩, rfl, fun i hi => ?_⟩
  · rw [Nat.zero_add, hb.cell]; exact hi
  · match i, hi with
    | 0, _ => exact hA
    | 1, _ => exact hB

end Go.Proofs.Yteemhhgioljmaaa
