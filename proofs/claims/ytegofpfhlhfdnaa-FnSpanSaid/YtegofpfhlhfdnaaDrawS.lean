/-
  What the laws of the schedules draw: times, a number of engines, a schedule.
-/
import Derived.Test.YtegofpfhlhfdnaaDrawB
namespace Go.Proofs.Ytegofpfhlhfdnaa
open Go.RowKit
set_option linter.unusedVariables false
set_option maxRecDepth 100000

set_option maxHeartbeats 4000000 in
set_option maxRecDepth 100000 in
theorem l8Times_any (g K : Nat) (w : World) (hr : Rdr w g K) (hK : K ≤ 100000000) :
    Calls Try.prog 63 #[.pointer (some ⟨g, 0, none⟩)] w (DrawnInts g (K + 20) w 0 10) := by
  have hgw := hr.lt
  have S0 := Lib.hid (show St w g K (.slice (some ⟨w.heap.size, 0, none⟩) 0 0) [] (w.alloc (.cells #[] 3)) from
    ⟨Own.empty w w.heap.size (Nat.le_refl _), hr.bel (bel_alloc _ _), only_alloc (World.grownBy.refl w _) _, hgw⟩)
  clear hr
  go_enter Try.func63, Try.ntmps63
  go_wp2_with fail
  refine (num_st _ [4, 5, 3, 6, 2, 0] (S0.out.bel (bel_alloc _ _)) (by omega) (lit_own _ [4, 5, 3, 6, 2, 0] (w.heap.size + 1) 0 (by simp) (by omega) (by simp) (wf_lit (by simp))).ints (by simp) (lit_ne (by omega))).mono ?_
  rintro e w1 ⟨m, rfl, hm, hs1⟩
  obtain ⟨m, rfl⟩ : ∃ n : Nat, m = n := ⟨m.toNat, by simp at hm; omega⟩
  have sb : m ≤ 6 := by simp at hm; omega
  have S1 := Lib.hid hs1
  clear hm hs1 S0
  go_wp2_with fail
  go_loopw [3, 4] (fun r n wr => ∃ (k K' : Nat) (l : List Int), n = .int .i64 k ∧ l.length + k = m ∧ K' + k ≤ K + 8 ∧ St w g K' r l wr)
    (fun _ n _ => (intOf n).toNat)
  case atStart => exact ⟨m, K + 1, [], by go_num, by simp, by omega, S1.out⟩
  case round =>
    obtain ⟨k, K', l, rfl, hlk, hK', hst⟩ := hrel
    have zr := hst.gr.size
    have S3 := Lib.hid hst
    clear S1 hst
    by_cases hk0 : k = 0
    · subst hk0
      go_wp2_with fail
      refine (pick_st 20 S3.out (by omega) (by omega)).mono ?_
      rintro e w3 ⟨q, rfl, qa, qb, hs4⟩
      have S4 := Lib.hid hs4
      have z4 := hs4.gr.size
      clear hs4 S3
      cases q0 : (q == 0)
      · cases q1 : (q == 1)
        · go_wp2
          go_ret
          exact ⟨_, l, rfl, S4.out.own, by omega, by omega, S4.out.rdr.more (by omega), S4.out.gr⟩
        · go_wp2_with fail
          go_loopw [3] (fun r wr => ∃ l' : List Int, l'.length ≤ 9 ∧ St w g (K' + 1) r l' wr) (fun r _ => match r with | .slice _ n _ => 10 - n | _ => 0)
          case atStart => exact ⟨l, by omega, S4.out⟩
          case round =>
            obtain ⟨l', hl', hst⟩ := hrel
            have S5 := Lib.hid hst
            have zo := hst.gr.size
            obtain ⟨A5, c5, rfl, hlc5, hc5, hrd5⟩ := hst.own.ints.open_
            clear hst hrd5 S4
            by_cases h9 : (l'.length : Int) < 9
            · go_wp2_with (at_builtin; refine app_int rfl (.tmp 33) (.tmp 34) (by rfl) w.heap.size _ l' (by rfl) (by exact S5.out.own.bel (bel_alloc _ _)) _ _ 1 (by rfl) (by exact new_cell _ _ _) (by omega) (by omega) (by simp; omega) ?_; intro v4 w4 ho hg _)
              have S6 := Lib.hid ((S5.out.bel (bel_alloc _ _)).app ho hg)
              obtain ⟨A6, c6, rfl, hlc6, hc6, hrd6⟩ := ho.ints.open_
              clear ho hg hrd6 S5
              go_roundw
              case rel => exact ⟨_, by simp; omega, S6.out⟩
              case measure => simp; omega
            · go_wp2
              go_ret
              exact ⟨_, l', rfl, S5.out.own, by omega, by omega, S5.out.rdr.more (by omega), S5.out.gr⟩
      · go_wp2_with fail
        refine (num_st _ [-1, 1000, 1001, 9223372036854775807] (S4.out.bel (bel_alloc _ _)) (by omega) (lit_own _ [-1, 1000, 1001, 9223372036854775807] _ w.heap.size rfl (by omega) (by simp) (wf_lit (by simp))).ints (by simp) (lit_ne (by omega))).mono ?_
        rintro e w5 ⟨n, rfl, hn, hs5⟩
        have hn' : -1 ≤ n ∧ n ≤ 9223372036854775807 := by simp at hn; omega
        have S5 := Lib.hid hs5
        have z5 := hs5.gr.size
        clear hn hs5 S4
        go_wp2_with (at_builtin; refine app_int rfl (.tmp 22) (.tmp 26) (by rfl) w.heap.size _ _ (by rfl) (by exact S5.out.own.bel (bel_alloc _ _)) _ _ _ (by rfl) (by exact new_cell _ _ _) (by omega) (by omega) (by simp; omega) ?_; intro v4 w4 ho hg _)
        have S6 := Lib.hid ((S5.out.bel (bel_alloc _ _)).app ho hg)
        clear ho hg S5
        go_ret
        exact ⟨_, _, rfl, S6.out.own, by simp, by simp; omega, S6.out.rdr.more (by omega), S6.out.gr⟩
    · obtain ⟨k, rfl⟩ : ∃ j, k = j + 1 := ⟨k - 1, by omega⟩
      go_wp2_with fail
      refine (pick_st 20 S3.out (by omega) (by omega)).mono ?_
      rintro e1 w3 ⟨m1, rfl, a1, b1, hs4⟩
      have S4 := Lib.hid hs4
      have z4 := hs4.gr.size
      clear hs4 S3
      go_wp2_with (at_builtin; refine app_int rfl (.tmp 13) (.tmp 16) (by rfl) w.heap.size u3 _ (by rfl) (by exact S4.out.own.bel (bel_alloc _ _)) _ _ _ (by rfl) (by exact new_cell _ _ _) (by omega) (by omega) (by simp; omega) ?_; intro v5 w5 ho hg _)
      have S6 := Lib.hid ((S4.out.bel (bel_alloc _ _)).app ho hg)
      clear ho hg S4
      go_roundw
      case rel => exact ⟨k, K' + 1, _, by go_num, by simp; omega, by omega, S6.out⟩
      case measure => simp [intOf]

/-- A drawn number between two bounds, behind a list that is being held. -/
def DrawnSt (w : World) (g K' : Nat) (v : Value) (l : List Int) (lo hi : Int) (e : Ending) (w' : World) : Prop :=
  ∃ m : Int, e = .returned (.int .i64 m) ∧ lo ≤ m ∧ m ≤ hi ∧ St w g K' v l w'

set_option maxHeartbeats 2000000 in
theorem l8Number_any (g K : Nat) (w w0 : World) (v : Value) (l : List Int) (hst : St w g K v l w0) (hK : K ≤ 100000000) :
    Calls Try.prog 64 #[.pointer (some ⟨g, 0, none⟩)] w0 (DrawnSt w g (K + 2) v l (-1) 4) := by
  have S0 := Lib.hid hst
  have hgw := hst.lt
  have z0 := hst.gr.size
  clear hst
  go_enter Try.func64, Try.ntmps64
  go_wp2_with fail
  refine (pick_st 12 S0.out (by omega) (by omega)).mono ?_
  rintro e w1 ⟨q, rfl, qa, qb, hs1⟩
  have S1 := Lib.hid hs1
  have z1 := hs1.gr.size
  clear hs1 S0
  cases q0 : (q == 0)
  · go_wp2_with fail
    refine (pick_st 3 S1.out (by omega) (by omega)).mono ?_
    rintro e w2 ⟨n, rfl, na, nb, hs2⟩
    have S2 := Lib.hid hs2
    clear hs2 S1
    go_wp2
    go_ret
    exact ⟨_, by go_num, by omega, by omega, S2.out⟩
  · go_wp2_with fail
    refine (num_st _ [0, 4, -1] (S1.out.bel (bel_alloc _ _)) (by omega) (lit_own _ [0, 4, -1] _ w.heap.size rfl (by omega) (by simp) (wf_lit (by simp))).ints (by simp) (lit_ne (by omega))).mono ?_
    rintro e w2 ⟨n, rfl, hn, hs2⟩
    have hn' : -1 ≤ n ∧ n ≤ 4 := by simp at hn; omega
    have S2 := Lib.hid hs2
    clear hs2 S1 hn
    go_wp2
    go_ret
    exact ⟨n, rfl, by omega, by omega, S2.out⟩

/-- Drawn times and a number of engines. -/
def DrawnJob (w : World) (e : Ending) (w' : World) : Prop :=
  ∃ v l n, e = .returned (.tuple #[v, .int .i64 n]) ∧ Ints w' v l ∧ l.length ≤ 10 ∧ -1 ≤ n ∧ n ≤ 4 ∧ Below w.heap.size w w'

set_option maxHeartbeats 1000000 in
theorem drawGreedy_any (v : Value) (code : List Int) (w : World) (hv : Bytes w v code) :
    Calls Try.prog 21 #[v] w (DrawnJob w) := by
  go_enter Try.func21, Try.ntmps21
  go_wp2_with fail
  refine (l9Open_any v code w hv).mono ?_
  rintro e w1 ⟨g, rfl, hg, hr1, hb1⟩
  have z1 := hb1.size
  have l1 := hr1.lt
  have H1 := Lib.hid (And.intro hr1 hb1)
  clear hr1 hb1
  go_wp2_with fail
  refine (l8Times_any g 0 _ H1.out.1 (by omega)).mono ?_
  rintro e w2 ⟨vt, t, rfl, ho2, ht1, ht2, hr2, hg2⟩
  have S2 := Lib.hid (show St w1 g (0 + 20) vt t w2 from ⟨ho2, hr2, hg2, l1⟩)
  clear ho2 hr2 hg2
  go_wp2_with fail
  refine (l8Number_any g _ _ _ _ _ S2.out (by omega)).mono ?_
  rintro e w3 ⟨n, rfl, na, nb, hs3⟩
  have S3 := Lib.hid hs3
  clear hs3 S2
  go_wp2
  go_ret2
  exact ⟨_, t, n, rfl, S3.out.own.ints, by omega, na, nb, H1.out.2.trans (grown_below (B := w.heap.size) S3.out.gr (by omega) z1)⟩

theorem drawLeast_any (v : Value) (code : List Int) (w : World) (hv : Bytes w v code) :
    Calls Try.prog 19 #[v] w (DrawnJob w) := by
  go_enter Try.func19, Try.ntmps19
  go_wp2_with fail
  refine (drawGreedy_any v code w hv).mono ?_
  rintro e w1 ⟨vt, t, n, rfl, hi, ht, na, nb, hb⟩
  have H := Lib.hid (And.intro hi hb)
  clear hi hb
  go_wp2
  go_ret2
  exact ⟨_, t, n, rfl, H.out.1, ht, na, nb, H.out.2⟩
theorem drawBest_any (v : Value) (code : List Int) (w : World) (hv : Bytes w v code) :
    Calls Try.prog 32 #[v] w (DrawnJob w) := by
  go_enter Try.func32, Try.ntmps32
  go_wp2_with fail
  refine (drawGreedy_any v code w hv).mono ?_
  rintro e w1 ⟨vt, t, n, rfl, hi, ht, na, nb, hb⟩
  have H := Lib.hid (And.intro hi hb)
  clear hi hb
  go_wp2
  go_ret2
  exact ⟨_, t, n, rfl, H.out.1, ht, na, nb, H.out.2⟩

end Go.Proofs.Ytegofpfhlhfdnaa
