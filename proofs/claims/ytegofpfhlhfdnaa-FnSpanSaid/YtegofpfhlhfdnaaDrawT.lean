/-
  What the law FnSpan draws: times, a list of names, a number of engines.
-/
import Derived.Test.YtegofpfhlhfdnaaDrawS
import Derived.OwnWalk
namespace Go.Proofs.Ytegofpfhlhfdnaa
open Go.RowKit
set_option linter.unusedVariables false
set_option maxRecDepth 100000

/-- Drawn times, names and a number of engines. -/
def DrawnSpan (w : World) (e : Ending) (w' : World) : Prop :=
  ∃ v u l m n, e = .returned (.tuple #[v, u, .int .i64 n]) ∧ Ints w' v l ∧ Ints w' u m ∧ l.length ≤ 10 ∧ m.length ≤ 11 ∧ -1 ≤ n ∧ n ≤ 4 ∧ Below w.heap.size w w'

set_option maxHeartbeats 2000000 in
theorem drawSpan_any (v : Value) (code : List Int) (w : World) (hv : Bytes w v code) :
    Calls Try.prog 15 #[v] w (DrawnSpan w) := by
  go_enter Try.func15, Try.ntmps15
  go_wp2_with fail
  refine (l9Open_any v code w hv).mono ?_
  rintro e w1 ⟨g, rfl, hg, hr1, hb1⟩
  have z1 := hb1.size
  have l1 := hr1.lt
  have H1 := Lib.hid (And.intro hr1 hb1)
  clear hr1 hb1
  go_wp2_with fail
  refine (l8Times_any g 0 _ H1.out.1 (by omega)).mono ?_
  rintro e w2 ⟨vt, t, rfl, ho2, ht1, ht2, hr2, hg2⟩
  have S2 := Lib.hid (show St w1 g (0 + 20) vt t w2 from ⟨ho2, hr2, hg2, l1⟩)
  clear ho2 hr2 hg2
  go_wp2_with fail
  refine (l8Number_any g _ _ _ _ _ S2.out (by omega)).mono ?_
  rintro e w3 ⟨n, rfl, na, nb, hs3⟩
  have S3 := Lib.hid hs3
  have z3 := hs3.gr.size
  have T3 := Lib.hid (show Own w3 w1.heap.size vt t from hs3.own)
  obtain ⟨A1, c1, rfl, hlc1, hc1, hrd1⟩ := hs3.own.ints.open_
  clear hs3 S2 hrd1
  have F3 := Lib.hid (show St w3 g 22 (.slice (some ⟨w3.heap.size, 0, none⟩) 0 0) [] (w3.alloc (.cells #[] 3)) from
    ⟨Own.empty w3 w3.heap.size (Nat.le_refl _), (S3.out.rdr.bel (bel_alloc _ _)).more (by omega), only_alloc (World.grownBy.refl w3 _) _, Nat.lt_of_lt_of_le l1 z3⟩)
  have FN := Lib.hid (fun (w' : World) (h : w3.grownBy w' (some g)) => show Ints w' (.slice A1 t.length c1) t ∧ Below w.heap.size w w' from
    ⟨(T3.out.far h (fun k hk => by injection hk with hk; omega)).ints, H1.out.2.trans ((grown_below (B := w.heap.size) S3.out.gr (by omega) z1).trans (grown_below (B := w.heap.size) h (by omega) (by omega)))⟩)
  clear T3 S3 H1
  have hmx : (1 : Int) ≤ (if n < 1 then 1 else n) ∧ (if n < 1 then 1 else n) ≤ (4 : Int) := by split <;> omega
  go_wp2_with fail
  go_loopw [8, 9] (fun r i wr => ∃ (j : Nat) (l : List Int), j ≤ t.length ∧ i = .int .i64 j ∧ l.length = j ∧ St w3 g (22 + j) r l wr) (fun _ i _ => t.length - (intOf i).toNat)
  case atStart => exact ⟨0, [], Nat.zero_le _, rfl, rfl, F3.out⟩
  case round =>
    obtain ⟨j, l, hj, rfl, hl, hst⟩ := hrel
    have S5 := Lib.hid hst
    have HL := Lib.hid hl
    have z5 := hst.gr.size
    clear hst hl F3
    by_cases hlt : j < t.length
    · by_cases hn1 : n < 1
      all_goals
        go_wp2_with fail
        refine (pick_st _ S5.out (by omega) (by omega)).mono ?_
        rintro e w4 ⟨x, rfl, xa, xb, hs6⟩
        have S6 := Lib.hid hs6
        have z6 := hs6.gr.size
        clear hs6 S5
        go_wp2_with (at_builtin; refine app_int rfl (.tmp 23) (.tmp 28) (by rfl) w3.heap.size u8 _ (by rfl) (by exact S6.out.own.bel (bel_alloc _ _)) _ _ x (by rfl) (by exact new_cell _ _ _) (by omega) (by have := HL.out; omega) (by simp; omega) ?_; intro v5 w5 ho hg _)
        have S7 := Lib.hid ((S6.out.bel (bel_alloc _ _)).app ho hg)
        clear ho hg S6
        go_roundw
        case rel => exact ⟨j + 1, _, by omega, by go_num, by simp; exact HL.out, S7.out⟩
        case measure => simp [intOf]; omega
    · have hjt : j = t.length := by omega
      subst hjt
      by_cases hl0 : t.length = 0
      · obtain ⟨B1, d1, hu8, hld1, hd1, hrd8⟩ := S5.out.own.ints.open_
        have hll := HL.out
        subst hu8
        clear hrd8
        obtain rfl : t = [] := List.eq_nil_of_length_eq_zero hl0
        obtain rfl : l = [] := List.eq_nil_of_length_eq_zero hll
        clear hl0 hll HL
        go_wp2_with fail
        refine (pick_st 16 S5.out (by omega) (by omega)).mono ?_
        rintro e w5 ⟨y, rfl, ya, yb, hs7⟩
        have S7 := Lib.hid hs7
        have z7 := hs7.gr.size
        clear hs7 S5
        cases y0 : (y == 0)
        · go_wp2
          go_ret3
          exact ⟨_, _, [], [], n, rfl, (FN.out _ S7.out.gr).1, S7.out.own.ints, by simp, by simp, na, nb, (FN.out _ S7.out.gr).2⟩
        · go_wp2_with (at_builtin; refine app_int rfl (.tmp 47) (.tmp 48) (by rfl) w3.heap.size _ [] (by rfl) (by exact S7.out.own.bel (bel_alloc _ _)) _ _ 0 (by rfl) (by exact new_cell _ _ _) (by omega) (by omega) (by simp; omega) ?_; intro v5 w6 ho hg _)
          have S8 := Lib.hid ((S7.out.bel (bel_alloc _ _)).app ho hg)
          clear ho hg S7
          go_ret3
          exact ⟨_, _, [], _, n, rfl, (FN.out _ S8.out.gr).1, S8.out.own.ints, by simp, by simp, na, nb, (FN.out _ S8.out.gr).2⟩
      · have hll := HL.out
        obtain ⟨b, cap, hu8, hbb, hbw, hlc, hcap, hcells⟩ := S5.out.own.openN (by omega)
        subst hu8
        rw [hll] at S5 ⊢
        clear hcells
        go_wp2_with fail
        refine (pick_st 12 S5.out (by omega) (by omega)).mono ?_
        rintro e w5 ⟨y, rfl, ya, yb, hs7⟩
        have S7 := Lib.hid hs7
        have z7 := hs7.gr.size
        clear hs7 S5
        cases y0 : (y == 0)
        · go_wp2_with fail
          refine (pick_st 16 S7.out (by omega) (by omega)).mono ?_
          rintro e w6 ⟨q, rfl, qa, qb, hs8⟩
          have S8 := Lib.hid hs8
          have z8 := hs8.gr.size
          clear hs8 S7
          cases q0 : (q == 0)
          · go_wp2
            go_ret3
            exact ⟨_, _, t, l, n, rfl, (FN.out _ S8.out.gr).1, by have := S8.out.own.ints; exact this, ht2, by omega, na, nb, (FN.out _ S8.out.gr).2⟩
          · go_wp2_with (at_builtin; refine app_int rfl (.tmp 47) (.tmp 48) (by rfl) w3.heap.size _ l (by rfl) (by exact S8.out.own.bel (bel_alloc _ _)) _ _ 0 (by rfl) (by exact new_cell _ _ _) (by omega) (by omega) (by simp; omega) ?_; intro v5 w7 ho hg _)
            have S9 := Lib.hid ((S8.out.bel (bel_alloc _ _)).app ho hg)
            clear ho hg S8
            go_ret3
            exact ⟨_, _, t, _, n, rfl, (FN.out _ S9.out.gr).1, S9.out.own.ints, ht2, by simp; omega, na, nb, (FN.out _ S9.out.gr).2⟩
        · go_wp2_with fail
          refine (num_st _ [-1, n, 9223372036854775807] (S7.out.bel (bel_alloc _ _)) (by omega) (lit_own _ [-1, n, 9223372036854775807] _ w3.heap.size rfl (by omega) (by simp) (wf_lit (by simp; omega))).ints (by simp) (lit_ne (by omega))).mono ?_
          rintro e w6 ⟨x, rfl, hx, hs8⟩
          have hx' : -1 ≤ x ∧ x ≤ 9223372036854775807 := by simp at hx; omega
          obtain ⟨b', cap', ev, _, _, _, _, hcells⟩ := hs8.own.openN (by omega)
          injection ev with ev1 ev2 ev3
          injection ev1 with ev1
          injection ev1 with ev1
          subst ev1
          obtain ⟨hc, hf⟩ := hcells 0 (by omega)
          have S8 := Lib.hid hs8
          clear hs8 S7 hcells ev2 ev3 hx
          go_wp2_with fail
          have S9 := Lib.hid (S8.out.set_ 0 x (by omega) (by omega))
          have z9 := S9.out.gr.size
          clear S8
          refine (pick_st 16 S9.out (by omega) (by omega)).mono ?_
          rintro e w7 ⟨q, rfl, qa, qb, hs10⟩
          have S10 := Lib.hid hs10
          have z10 := hs10.gr.size
          clear hs10 S9
          cases q0 : (q == 0)
          · go_wp2
            go_ret3
            exact ⟨_, _, t, _, n, rfl, (FN.out _ S10.out.gr).1, S10.out.own.ints, ht2, by rw [List.length_set]; omega, na, nb, (FN.out _ S10.out.gr).2⟩
          · go_wp2_with (at_builtin; refine app_int rfl (.tmp 47) (.tmp 48) (by rfl) w3.heap.size _ _ (by rfl) (by exact S10.out.own.bel (bel_alloc _ _)) _ _ 0 (by rfl) (by exact new_cell _ _ _) (by omega) (by rw [List.length_set]; omega) (by simp; omega) ?_; intro v5 w8 ho hg _)
            have S11 := Lib.hid ((S10.out.bel (bel_alloc _ _)).app ho hg)
            clear ho hg S10
            go_ret3
            exact ⟨_, _, t, _, n, rfl, (FN.out _ S11.out.gr).1, S11.out.own.ints, ht2, by simp; omega, na, nb, (FN.out _ S11.out.gr).2⟩

end Go.Proofs.Ytegofpfhlhfdnaa
