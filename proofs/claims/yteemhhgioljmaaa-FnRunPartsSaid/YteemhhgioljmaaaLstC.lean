/-
  Drawn sizes; the arguments of RunSteps and RunParts.
-/
import Derived.Test.YteemhhgioljmaaaLstB
namespace Go.Proofs.Yteemhhgioljmaaa
open Go.RowKit
set_option linter.unusedVariables false
set_option linter.unusedSimpArgs false
set_option maxRecDepth 100000
attribute [local go_sem ↓] Go.wp_at_zero Go.wp_at_succ

/-- Drawn sizes. -/
def DrawnSizes (w : World) (g K' n : Nat) (e : Ending) (w' : World) : Prop :=
  ∃ v l, e = .returned v ∧ Own w' w.heap.size v l ∧ l.length = n ∧ Rdr w' g K' ∧ w.grownBy w' (some g)
set_option maxHeartbeats 4000000 in
theorem l7Numbers_any (g K n : Nat) (w : World) (hr : Rdr w g K) (hK : K ≤ 1000000) (hn : n ≤ 20) :
    Calls Try.prog 84 #[.pointer (some ⟨g, 0, none⟩), .int .i64 n] w (DrawnSizes w g (K + 30) n) := by
  have hgw := hr.lt
  have S0 := Lib.hid (show St w g K (.slice (some ⟨w.heap.size, 0, none⟩) 0 0) [] (w.alloc (.cells #[] 3)) from
    ⟨Own.empty w w.heap.size (Nat.le_refl _), hr.bel (bel_alloc _ _), only_alloc (World.grownBy.refl w _) _, hgw⟩)
  clear hr
  go_enter Try.func84, Try.ntmps84
  go_wp2_with fail
  go_loopw [5, 6] (fun r i wr => ∃ (k : Nat) (l : List Int), i = .int .i64 k ∧ k ≤ n ∧ l.length = k ∧ St w g (K + k) r l wr)
    (fun _ i _ => n - (intOf i).toNat)
  case atStart => exact ⟨0, [], rfl, Nat.zero_le _, rfl, S0.out⟩
  case round =>
    obtain ⟨k, l, rfl, hk, hlk, hst⟩ := hrel
    have zr := hst.gr.size
    have S3 := Lib.hid hst
    clear S0
    by_cases hlt : k < n
    · clear hst
      go_wp2_with fail
      refine (pick_st 8 S3.out (by omega) (by omega)).mono ?_
      rintro e1 w3 ⟨m1, rfl, a1, b1, hs4⟩
      have S4 := Lib.hid hs4
      have z4 := hs4.gr.size
      clear hs4 S3
      go_wp2_with (at_builtin; refine app_int rfl (.tmp 13) (.tmp 16) (by rfl) w.heap.size _ _ (by rfl) (by exact S4.out.own.bel (bel_alloc _ _)) _ _ _ (by rfl) (by exact new_cell _ _ _) (by omega) (by omega) (by simp; omega) ?_; intro v5 w5 ho hg _)
      have S6 := Lib.hid ((S4.out.bel (bel_alloc _ _)).app ho hg)
      clear ho hg S4
      go_roundw
      case rel => exact ⟨k + 1, _, by go_num, by omega, by simp; omega, S6.out⟩
      case measure => simp [intOf]; omega
    · have hkn : k = n := by omega
      subst hkn
      subst hlk
      by_cases h0 : l.length = 0
      · obtain ⟨A5, c5, rfl, hlc5, hc5, hrd5⟩ := hst.own.ints.open_
        clear hst hrd5
        go_wp2
        go_ret
        exact ⟨_, l, rfl, S3.out.own, rfl, S3.out.rdr.more (by omega), S3.out.gr⟩
      · obtain ⟨b, cap, rfl, hbb, hbw, hlc, hcap, hcells⟩ := hst.own.openN (by omega)
        clear hst hcells
        go_wp2_with fail
        refine (pick_st 16 S3.out (by omega) (by omega)).mono ?_
        rintro e1 w3 ⟨q, rfl, a1, b1, hs4⟩
        have S4 := Lib.hid hs4
        have z4 := hs4.gr.size
        clear hs4 S3
        cases q0 : (q == 0)
        · go_wp2
          go_ret
          exact ⟨_, l, rfl, S4.out.own, rfl, S4.out.rdr.more (by omega), S4.out.gr⟩
        · go_wp2_with fail
          refine (num_st _ [-1, 60, 61, 9223372036854775807] (S4.out.bel (bel_alloc _ _)) (by omega) (lit_own _ [-1, 60, 61, 9223372036854775807] _ w.heap.size rfl (by omega) (by simp) (wf_lit (by simp))).ints (by simp) (lit_ne (by omega))).mono ?_
          rintro e w5 ⟨n5, rfl, hn5, hs5⟩
          have hn' : -1 ≤ n5 ∧ n5 ≤ 9223372036854775807 := by simp at hn5; omega
          obtain ⟨b', cap', ev, _, _, _, _, hcells⟩ := hs5.own.openN (by omega)
          injection ev with ev1 ev2 ev3
          injection ev1 with ev1
          injection ev1 with ev1
          subst ev1
          obtain ⟨hc, hf⟩ := hcells 0 (by omega)
          have S5 := Lib.hid hs5
          clear hn5 hs5 S4 hcells ev2 ev3
          go_wp2
          go_ret
          have S7 := S5.out.set_ 0 n5 (by omega) (by omega)
          exact ⟨_, _, rfl, S7.own, by rw [List.length_set], S7.rdr.more (by omega), S7.gr⟩

/-- A drawn list of engines and a count. -/
def DrawnSteps (w : World) (e : Ending) (w' : World) : Prop :=
  ∃ v ls n, e = .returned (.tuple #[v, .int .i64 n]) ∧ Engs w' v ls ∧ ls.length ≤ 11 ∧ -1 ≤ n ∧ n ≤ 9223372036854775807 ∧ Below w.heap.size w w'
set_option maxHeartbeats 1000000 in
theorem drawSteps_any (v : Value) (code : List Int) (w : World) (hv : Bytes w v code) :
    Calls Try.prog 26 #[v] w (DrawnSteps w) := by
  go_enter Try.func26, Try.ntmps26
  go_wp2_with fail
  refine (l9Open_any v code w hv).mono ?_
  rintro e w1 ⟨g, rfl, hg, hr1, hb1⟩
  have z1 := hb1.size
  have H1 := Lib.hid (And.intro hr1 hb1)
  clear hr1 hb1
  go_wp2_with fail
  refine (l7List_any g 0 _ H1.out.1 (by omega)).mono ?_
  rintro e w2 ⟨vl, ls, rfl, hs2, hl, h7⟩
  have S2 := Lib.hid hs2
  clear hs2
  go_wp2_with fail
  refine (l7Count_any g _ (.slice none 0 0) [] w1 _ ⟨OwnS.nil_ _ _, S2.out.rdr, S2.out.gr, S2.out.lt⟩ (by omega)).mono ?_
  rintro e w3 ⟨n, rfl, n1, n2, hs3, hg3⟩
  have S3 := Lib.hid (S2.out.grown hg3 hs3.rdr)
  clear hs3 hg3
  go_wp2
  go_ret2
  exact ⟨_, ls, n, rfl, S3.out.own.engs, hl, n1, n2, H1.out.2.trans (grown_below (B := w.heap.size) S3.out.gr (by omega) z1)⟩

/-- A drawn list of engines and sizes. -/
def DrawnParts (w : World) (e : Ending) (w' : World) : Prop :=
  ∃ v ls u sz, e = .returned (.tuple #[v, u]) ∧ Engs w' v ls ∧ ls.length ≤ 11 ∧ Ints w' u sz ∧ sz.length ≤ 12 ∧ Below w.heap.size w w'
set_option maxHeartbeats 2000000 in
theorem drawParts_any (v : Value) (code : List Int) (w : World) (hv : Bytes w v code) :
    Calls Try.prog 22 #[v] w (DrawnParts w) := by
  go_enter Try.func22, Try.ntmps22
  go_wp2_with fail
  refine (l9Open_any v code w hv).mono ?_
  rintro e w1 ⟨g, rfl, hg, hr1, hb1⟩
  have z1 := hb1.size
  have H1 := Lib.hid (And.intro hr1 hb1)
  clear hr1 hb1
  go_wp2_with fail
  refine (l7List_any g 0 _ H1.out.1 (by omega)).mono ?_
  rintro e w2 ⟨vl, ls, rfl, hs2, hl, h7⟩
  have S2 := Lib.hid hs2
  obtain ⟨A2, c2, xs2, rfl, -, -, -, -⟩ := hs2.own.engs.open_
  clear hs2
  go_wp2_with fail
  refine (pick_any g _ 12 _ S2.out.rdr (by omega) (by omega)).mono ?_
  rintro e w3 ⟨q, rfl, -, -, hr3, hg3⟩
  have S3 := Lib.hid (S2.out.grown hg3 hr3)
  clear hr3 hg3 S2
  have fin : ∀ m : Nat, m ≤ 12 → ∀ e w4, DrawnSizes w3 g (0 + 1210 + 1 + 30) m e w4 → ∃ u sz, e = .returned u ∧ Engs w4 (.slice A2 ls.length c2) ls ∧ Ints w4 u sz ∧ sz.length ≤ 12 ∧ Below w.heap.size w w4 := by
    rintro m hm e w4 ⟨u, sz, rfl, ho, hlm, hr4, hg4⟩
    have S4 := S3.out.grown hg4 hr4
    exact ⟨u, sz, rfl, S4.own.engs, ho.ints, by omega, H1.out.2.trans (grown_below (B := w.heap.size) S4.gr (by omega) z1)⟩
  have FN := Lib.hid fin
  clear fin
  cases q0 : (q == 0)
  · go_wp2_with fail
    refine (l7Numbers_any g _ ls.length _ S3.out.rdr (by omega) (by omega)).mono ?_
    intro e w4 hd
    obtain ⟨u, sz, rfl, h1, h2, h3, h4⟩ := FN.out _ (by omega) _ _ hd
    have H := Lib.hid (And.intro h1 (And.intro h2 (And.intro h3 h4)))
    clear h1 h2 h3 h4 hd
    go_wp2
    go_ret2
    exact ⟨_, ls, u, sz, rfl, H.out.1, hl, H.out.2.1, H.out.2.2.1, H.out.2.2.2⟩
  · go_wp2_with fail
    rw [show (ls.length : Int) + 1 = ((ls.length + 1 : Nat) : Int) by omega]
    refine (l7Numbers_any g _ (ls.length + 1) _ S3.out.rdr (by omega) (by omega)).mono ?_
    intro e w4 hd
    obtain ⟨u, sz, rfl, h1, h2, h3, h4⟩ := FN.out _ (by omega) _ _ hd
    have H := Lib.hid (And.intro h1 (And.intro h2 (And.intro h3 h4)))
    clear h1 h2 h3 h4 hd
    go_wp2
    go_ret2
    exact ⟨_, ls, u, sz, rfl, H.out.1, hl, H.out.2.1, H.out.2.2.1, H.out.2.2.2⟩

end Go.Proofs.Yteemhhgioljmaaa
