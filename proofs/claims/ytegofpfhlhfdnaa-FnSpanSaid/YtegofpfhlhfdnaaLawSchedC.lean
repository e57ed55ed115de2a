/-
  The law FnLeastSpan, walked.
-/
import Derived.Test.YtegofpfhlhfdnaaLawSchedA
namespace Go.Proofs.Ytegofpfhlhfdnaa
open Go.RowKit
set_option linter.unusedVariables false
set_option maxRecDepth 100000

def backF (t : List Int) (j : Nat) : Int := at_ t (t.length - 1 - j)
theorem turned_gen (t : List Int) : gen (backF t) t.length = turnedL t := rfl
theorem back_at {t : List Int} {j : Nat} (h : j < t.length) : at_ (turnedL t) j = backF t j := at_turned h
theorem own_next {w : World} {base : Nat} {v : Value} {f : Nat → Int} {n : Nat} {z : Int} (h : Own w base v (gen f n ++ [z])) (hz : z = f n) : Own w base v (gen f (n + 1)) := by
  rw [gen_succ, ← hz]; exact h
theorem sum_bd {t : List Int} (ht : ∀ k, 0 ≤ at_ t k ∧ at_ t k ≤ 1000) : ∀ n, 0 ≤ sumTo (at_ t) n ∧ sumTo (at_ t) n ≤ 1000 * (n : Int)
  | 0 => by simp [sumTo]
  | n + 1 => by
    have := sum_bd ht n
    have := ht n
    rw [sumTo]
    omega
theorem Ints.open3 {w : World} {A : Option Addr} {c : Nat} {l : List Int} (h : Ints w (.slice A l.length c) l) (hl : 0 < l.length) :
    ∃ b o, A = some ⟨b, o, none⟩ ∧ b < w.heap.size ∧ ∀ k, k < l.length → w.cell? ⟨b, o + k, none⟩ = some (.int .i64 (at_ l k)) := by
  obtain ⟨A', c', e, h1, h2, h3⟩ := h.open_
  injection e with e1 _ _
  subst e1
  exact h3.ints hl
theorem schedOk_false {t : List Int} {e : Int} (h : schedOk t e = false) : leastSpan t e = -1 := least_no h

set_option maxHeartbeats 1500000 in
theorem lawLeast (v : Value) (code : List Int) (w : World) (hv : Bytes w v code) :
    Calls Try.prog 4 #[v] w fun e w' => e = .returned (.bool true) ∧ Below w.heap.size w w' := by
  have HV := Lib.hid hv
  obtain ⟨A, c, rfl, hlc, hc, hrd⟩ := hv.open_
  clear hrd hv
  by_cases hbig : (1048576 : Int) < (code.length : Int)
  · go_enter Try.func4, Try.ntmps4
    go_wp2
    go_ret
    exact ⟨rfl, Below.refl _ _⟩
  · go_enter Try.func4, Try.ntmps4
    go_wp2_with fail
    refine (drawLeast_any _ _ _ HV.out).mono ?_; rintro e w1 ⟨va, t, n, rfl, ha, la, n0, n1, b1⟩
    have H1 := Lib.hid (And.intro ha b1)
    obtain ⟨A1, c1, rfl, hlc1, hc1, hrd1⟩ := ha.open_
    clear ha b1 hrd1
    cases hs : schedOk t n
    · have EN := Lib.hid (least_no hs)
      go_wp2_with fail
      refine (implLeast_any _ _ _ _ H1.out.1 (by omega)).mono ?_
      rw [EN.out]
      rintro e w2 ⟨rfl, b2⟩
      have H2 := Lib.hid (And.intro (H1.out.1.bel b2) (bel_trans H1.out.2 b2))
      clear b2
      go_wp2_with fail
      refine (specLeast_any _ _ _ _ H2.out.1 (by omega)).mono ?_
      rw [EN.out]
      rintro e w3 ⟨rfl, b3⟩
      have H3 := Lib.hid (And.intro (H2.out.1.bel b3) (bel_trans H2.out.2 b3))
      clear b3
      go_wp2_with fail
      refine (specLeast_any _ _ _ _ H3.out.1 (by omega)).mono ?_
      rw [EN.out]
      rintro e w4 ⟨rfl, b4⟩
      go_wp2
      go_ret
      exact ⟨rfl, bel_trans H3.out.2 b4⟩
    · obtain ⟨k, rfl⟩ : ∃ k : Nat, n = k := ⟨n.toNat, by have := (schedOk_true hs).2.1; omega⟩
      obtain ⟨m, f, e1, e2, e3, p1, p2, p3, p4, p5, p6, p7⟩ := least_law hs
      obtain ⟨h8, k1, k3, ht⟩ := schedOk_true hs
      obtain ⟨_, _, _, hu⟩ := schedOk_true (sched_turned hs)
      have HU := Lib.hid hu
      have HT := Lib.hid ht
      have E1 := Lib.hid e1
      have E2 := Lib.hid e2
      have E3 := Lib.hid e3
      have P := Lib.hid (And.intro p3 (And.intro p4 (And.intro p5 (And.intro p6 p7))))
      clear e1 e2 e3 hs hu ht p3 p4 p5 p6 p7
      go_wp2_with fail
      refine (implLeast_any _ _ _ _ H1.out.1 (by omega)).mono ?_
      rw [E1.out]
      rintro e w2 ⟨rfl, b2⟩
      have H2 := Lib.hid (And.intro (H1.out.1.bel b2) (bel_trans H1.out.2 b2))
      clear b2
      go_wp2_with fail
      refine (specLeast_any _ _ _ _ H2.out.1 (by omega)).mono ?_
      rw [E1.out]
      rintro e w3 ⟨rfl, b3⟩
      have H3 := Lib.hid (And.intro (H2.out.1.bel b3) (bel_trans H2.out.2 b3))
      have hz3 := (bel_trans H2.out.2 b3).size
      clear b3 H2 H1
      have OE := Lib.hid (Own.empty w3 w3.heap.size (Nat.le_refl _))
      go_wp2_with fail
      go_loopw [6, 7, 8, 9] (fun a b r i wr => ∃ j r' : Nat, j + r' = t.length ∧ i = .int .i64 ((r' : Int) - 1) ∧ a = .int .i64 (sumTo (at_ (turnedL t)) j) ∧ b = .int .i64 (maxTo (turnedL t) j) ∧ Own wr w3.heap.size r (gen (backF t) j) ∧ Below w3.heap.size w3 wr)
        (fun _ _ _ i _ => (intOf i + 1).toNat)
      case atStart => exact ⟨0, t.length, by omega, by go_num, rfl, rfl, OE.out, bel_alloc _ _⟩
      case round =>
        obtain ⟨j, r', hj, rfl, rfl, rfl, ho, hb⟩ := hrel
        have H7 := Lib.hid (And.intro ho hb)
        have hz7 := hb.size
        have q1 := sum_bd HU.out j
        have q2 := maxTo_bd (B := 1000) (by omega) (fun i => (HU.out i).2) j
        have HJ := Lib.hid hj
        have hj8 : j ≤ 8 := by omega
        clear ho hb OE
        by_cases hlt : r' = 0
        · have hjt : j = t.length := by omega
          subst hjt
          subst hlt
          clear hj
          have hT : gen (backF t) t.length = turnedL t := rfl
          rw [hT] at H7
          obtain ⟨S, hS⟩ : ∃ S, S = tsum (turnedL t) := ⟨_, rfl⟩
          obtain ⟨X, hX⟩ : ∃ X, X = tmax (turnedL t) := ⟨_, rfl⟩
          have eS : sumTo (at_ (turnedL t)) t.length = S := by rw [hS, tsum, turnedL_length]
          have eX : maxTo (turnedL t) t.length = X := by rw [hX, tmax, turnedL_length]
          obtain ⟨c1', c2', c3', c4', c5'⟩ := P.out
          rw [← hS] at c2' c3' c4' c5'
          rw [← hX] at c1' c4'
          rw [eS] at q1 ⊢
          rw [eX] at q2 ⊢
          clear hS hX eS eX hT hj8 P
          have qk : 0 ≤ m * (k : Int) ∧ m * (k : Int) ≤ 24000 ∧ 0 ≤ ((k : Int) - 1) * X ∧ ((k : Int) - 1) * X ≤ 2000 := by
            have hk : k = 1 ∨ k = 2 ∨ k = 3 := by omega
            rcases hk with rfl | rfl | rfl <;> simp <;> omega
          have hz9 := bel_trans H3.out.2 H7.out.2
          have H9 := Lib.hid (And.intro (H3.out.1.bel H7.out.2) (And.intro H7.out.1 hz9))
          clear hz9 H3 H7
          go_wp2_with fail
          refine (implLeast_any _ _ _ _ H9.out.1 (by omega)).mono ?_
          rw [E3.out]
          rintro e wa ⟨rfl, ba⟩
          have HA := Lib.hid (And.intro (H9.out.1.bel ba) (And.intro (H9.out.2.1.bel ba) (bel_trans H9.out.2.2 ba)))
          clear ba H9
          go_wp2_with fail
          refine (implLeast_any _ _ _ _ HA.out.2.1.ints (by omega)).mono ?_
          rw [E2.out]
          rintro e wb ⟨rfl, bb⟩
          have HB := Lib.hid (bel_trans HA.out.2.2 bb)
          clear bb HA
          rcases c5' with rfl | ⟨f1, f2⟩
          · go_wp2
            go_ret
            exact ⟨ret_bool (by first | rfl | simp_all), HB.out⟩
          · by_cases hf1 : f = -1
            · subst hf1
              go_wp2
              go_ret
              exact ⟨ret_bool (by first | rfl | simp_all), HB.out⟩
            · go_wp2
              go_ret
              exact ⟨ret_bool (by first | rfl | simp_all), HB.out⟩
        · obtain ⟨r', rfl⟩ : ∃ i, r' = i + 1 := ⟨r' - 1, by omega⟩
          have hi : (((r' + 1 : Nat) : Int) - 1) = (r' : Int) := by omega
          have hback : backF t j = at_ t r' := by rw [backF]; congr 1; omega
          obtain ⟨b, o, rfl, hb, hcell⟩ := H3.out.1.open3 (by omega)
          have hck : wr.cell? ⟨b, o + r', none⟩ = some (.int .i64 (at_ t r')) := ((H7.out.2).cell (by exact hb)).trans (hcell _ (by omega))
          have hbf : 0 ≤ at_ t r' ∧ at_ t r' ≤ 1000 := HT.out _
          have hs1 : sumTo (at_ (turnedL t)) (j + 1) = sumTo (at_ (turnedL t)) j + at_ t r' := by rw [sumTo, back_at (by omega), hback]
          have hs2 : maxTo (turnedL t) (j + 1) = if maxTo (turnedL t) j < at_ t r' then at_ t r' else maxTo (turnedL t) j := by rw [maxTo, back_at (by omega), hback]
          have HH := Lib.hid (And.intro hback (And.intro hs1 hs2))
          have hr1 : r' < t.length := by omega
          rw [hi]
          clear hcell hback hs1 hs2 hi hj
          by_cases hmax : maxTo (turnedL t) j < at_ t r'
          all_goals
            go_wp2_with (at_builtin; refine app_int rfl (.tmp 56) (.tmp 61) (by rfl) w3.heap.size u8 _ (by rfl) (by exact H7.out.1.bel (bel_alloc _ _)) _ _ (at_ t r') (by rfl) (by exact new_cell _ _ _) (by omega) (by rw [gen_length]; have := HJ.out; omega) (by simp; omega) ?_; intro v5 w5 ho hg _)
            have H8 := Lib.hid (And.intro (own_next ho HH.out.1.symm) (app_bel (H7.out.2.alloc hz7 _) (H7.out.1.bel (bel_alloc _ _)) hg))
            clear ho hg
            go_roundw
            case rel => exact ⟨j + 1, r', by have := HJ.out; omega, by go_num, by rw [HH.out.2.1], by rw [HH.out.2.2]; first | rw [if_pos hmax] | rw [if_neg hmax] | (split <;> omega), H8.out.1, H8.out.2⟩
            case measure => simp [intOf]

end Go.Proofs.Ytegofpfhlhfdnaa
