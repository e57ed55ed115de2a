import Derived.Test.YtpniljcnknknoaaGreatDoorDrawC
import Derived.Test.YtpniljcnknknoaaGreatDoorJdA
import Derived.Test.YtpniljcnknknoaaGreatDoorAllPlA
/-
  A drawn table, sometimes turned into none: as XDrawC has it, with the row's own block.
-/
namespace Go.Proofs.YtpniljcnknknoaaGreatDoor
open Go.RowKit
set_option linter.unusedVariables false
set_option linter.unusedSimpArgs false

/-- A drawn list in a row made since w. -/
def DrawnOwn (g : Nat) (w : World) (hi : Nat) (e : Ending) (w' : World) : Prop :=
  ∃ v l, e = .returned v ∧ Own w' w.heap.size v l ∧ l.length ≤ hi ∧ w.grownBy w' (some g)
set_option maxHeartbeats 4000000 in
set_option maxRecDepth 100000 in
theorem badTableN_any (g K : Nat) (w w0 : World) (v : Value) (l : List Int) (hst : St w g K v l w0) (hl1 : 1 ≤ l.length) (hl2 : l.length ≤ 60) (hK : K ≤ 100000000) :
    Calls Tryz.prog 104 #[.pointer (some ⟨g, 0, none⟩), v] w0 (DrawnOwn g w 61) := by
  have S1 := Lib.hid hst
  have hgw := hst.lt
  have zw := hst.gr.size
  obtain ⟨b, cap, rfl, hbb, hbw, hlc, hcap, hcells⟩ := hst.own.openN (by omega)
  clear hcells hst
  go_enter Tryz.func104, Tryz.ntmps104
  go_wp2_with fail
  refine (pick_k _ S1.out (by omega) (by omega)).mono ?_
  rintro e w2 ⟨m, rfl, ma, mb, hs2, hg2⟩
  obtain ⟨m, rfl⟩ : ∃ n : Nat, m = n := ⟨m.toNat, by omega⟩
  have S2 := Lib.hid hs2
  have K2 := Lib.hid (Keeps.grown (.slice (some ⟨b, 0, none⟩) l.length cap) hg2)
  clear hs2 S1 hg2
  go_wp2_with fail
  refine (pick_k 40 S2.out (by omega) (by omega)).mono ?_
  rintro e w3 ⟨q, rfl, qa, qb, hs3, hg3⟩
  have S3 := Lib.hid hs3
  have z3 := hs3.gr.size
  have K3 := Lib.hid (K2.out.trans (Keeps.grown _ hg3))
  clear hs3 S2 hg3 K2
  cases q0 : (q == 0)
  · cases q1 : (q == 1)
    · cases q2 : (q == 2)
      · go_wp2
        go_ret
        exact ⟨_, l, rfl, S3.out.own, by omega, S3.out.gr⟩
      · go_wp2_with fail
        refine (num_k _ [30, 31, 60, 61] (S3.out.bel (bel_alloc _ _)) (by omega) (lit_own _ [30, 31, 60, 61] _ w.heap.size rfl (by omega) (by simp) (wf_lit (by simp))).ints (by simp) (lit_ne (by omega))).mono ?_
        rintro e w4 ⟨n, rfl, hn, hs4, hg4⟩
        have K4 := Lib.hid (K3.out.trans ((Keeps.below _ (bel_alloc _ _)).trans (Keeps.grown _ hg4)))
        clear hg4
        obtain ⟨n, rfl⟩ : ∃ k : Nat, n = k := ⟨n.toNat, by simp at hn; omega⟩
        have hn' : n ≤ 61 := by simp at hn; omega
        have z4 := hs4.gr.size
        have S4 := Lib.hid hs4
        have hmk := fun W => Tryz.mkInts n (by omega) W
        clear hn hs4 S3
        go_wp2
        go_ret
        exact ⟨_, List.replicate n 0, rfl, zeros_own w4 w.heap.size n z4 hn', by simp; omega, only_alloc S4.out.gr _⟩
    · go_wp2
      go_ret
      exact ⟨_, _, rfl, S3.out.nil_.own, by simp, S3.out.gr⟩
  · go_wp2_with fail
    refine (num_k _ [1000000000, 1000000001, -1000000001, 9223372036854775807] (S3.out.bel (bel_alloc _ _)) (by omega) (lit_own _ [1000000000, 1000000001, -1000000001, 9223372036854775807] _ w.heap.size rfl (by omega) (by simp) (wf_lit (by simp))).ints (by simp) (lit_ne (by omega))).mono ?_
    rintro e w4 ⟨n, rfl, hn, hs4, hg4⟩
    have K4 := Lib.hid (K3.out.trans ((Keeps.below _ (bel_alloc _ _)).trans (Keeps.grown _ hg4)))
    clear hg4
    have hn' : -1000000001 ≤ n ∧ n ≤ 9223372036854775807 := by simp at hn; omega
    obtain ⟨b', cap', ev, _, _, _, _, hcells⟩ := hs4.own.openN (by omega)
    injection ev with ev1 ev2 ev3
    injection ev1 with ev1
    injection ev1 with ev1
    subst ev1
    obtain ⟨hc, hf⟩ := hcells m (by omega)
    have S4 := Lib.hid hs4
    clear hn hs4 S3 hcells ev2 ev3
    go_wp2
    go_ret
    have S7 := S4.out.set_ m n (by omega) (by omega)
    exact ⟨_, _, rfl, S7.own, by rw [List.length_set]; omega, S7.gr⟩
end Go.Proofs.YtpniljcnknknoaaGreatDoor

/-
  Drawn tables, degrees and costs: DrawCheapestPlan.
-/
namespace Go.Proofs.YtpniljcnknknoaaGreatDoor
open Go.RowKit
set_option linter.unusedVariables false
set_option linter.unusedSimpArgs false
set_option maxRecDepth 100000
attribute [local go_sem ↓] Go.wp_at_zero Go.wp_at_succ

set_option maxHeartbeats 4000000 in
theorem l5Table_any (g K : Nat) (w : World) (hr : Rdr w g K) (hK : K ≤ 100000000) :
    Calls Tryz.prog 160 #[.pointer (some ⟨g, 0, none⟩)] w (DrawnInts g (K + 100) w 1 21) := by
  have hgw := hr.lt
  have S0 := Lib.hid (show St w g K (.slice (some ⟨w.heap.size, 0, none⟩) 0 0) [] (w.alloc (.cells #[] 3)) from
    ⟨Own.empty w w.heap.size (Nat.le_refl _), hr.bel (bel_alloc _ _), only_alloc (World.grownBy.refl w _) _, hgw⟩)
  clear hr
  go_enter Tryz.func160, Tryz.ntmps160
  go_wp2_with fail
  refine (pick_st 3 S0.out (by omega) (by omega)).mono ?_
  rintro e w1 ⟨M, rfl, Ma, Mb, hs1⟩
  obtain ⟨M, rfl⟩ : ∃ n : Nat, M = n := ⟨M.toNat, by omega⟩
  have S1 := Lib.hid hs1
  clear hs1 S0
  go_wp2_with fail
  go_loopw [3, 4] (fun r n wr => ∃ (k K' : Nat) (l : List Int), n = .int .i64 k ∧ k ≤ M + 1 ∧ (M + 1 - k) ≤ l.length ∧ l.length ≤ 7 * (M + 1 - k) ∧ K' ≤ K + 1 + 7 * (M + 1 - k) ∧ St w g K' r l wr)
    (fun _ n _ => (intOf n).toNat)
  case atStart => exact ⟨M + 1, K + 1, [], by go_num, Nat.le_refl _, by simp, by simp, by omega, S1.out⟩
  case round =>
    obtain ⟨k, K', l, rfl, hk, hl1, hl2, hK', hst⟩ := hrel
    have zr := hst.gr.size
    have S2 := Lib.hid hst
    clear S1 hst
    by_cases hk0 : k = 0
    · subst hk0
      have hl3 : 1 ≤ l.length ∧ l.length ≤ 21 := by omega
      obtain ⟨b, cap, rfl, hbb, hbw, hlc, hcap, hcells⟩ := S2.out.own.openN (by omega)
      clear hcells
      go_wp2_with fail
      refine (pick_st 4 S2.out (by omega) (by omega)).mono ?_
      rintro e w3 ⟨q, rfl, qa, qb, hs3⟩
      have S3 := Lib.hid hs3
      clear hs3 S2
      cases q0 : (q == 0)
      · go_wp2
        go_ret
        exact ⟨_, l, rfl, S3.out.own, by omega, by omega, S3.out.rdr.more (by omega), S3.out.gr⟩
      · go_wp2_with fail
        refine (pick_st _ S3.out (by omega) (by omega)).mono ?_
        rintro e w5 ⟨x, rfl, xa, xb, hs5⟩
        obtain ⟨x, rfl⟩ : ∃ n : Nat, x = n := ⟨x.toNat, by omega⟩
        have S5 := Lib.hid hs5
        clear hs5 S3
        go_wp2_with fail
        refine (pick_st 40 S5.out (by omega) (by omega)).mono ?_
        rintro e w6 ⟨y, rfl, ya, yb, hs6⟩
        obtain ⟨b', cap', ev, _, _, _, _, hcells⟩ := hs6.own.openN (by omega)
        injection ev with ev1 ev2 ev3
        injection ev1 with ev1
        injection ev1 with ev1
        subst ev1
        obtain ⟨hc, hf⟩ := hcells x (by omega)
        have S6 := Lib.hid hs6
        clear hs6 S5 hcells ev2 ev3
        go_wp2
        go_ret
        have S7 := S6.out.set_ x y (by omega) (by omega)
        exact ⟨_, _, rfl, S7.own, by rw [List.length_set]; omega, by rw [List.length_set]; omega, S7.rdr.more (by omega), S7.gr⟩
    · obtain ⟨k, rfl⟩ : ∃ j, k = j + 1 := ⟨k - 1, by omega⟩
      go_wp2_with fail
      refine (pick_st 80 S2.out (by omega) (by omega)).mono ?_
      rintro e w3 ⟨x, rfl, xa, xb, hs3⟩
      have S3 := Lib.hid hs3
      have z3 := hs3.gr.size
      have P3 := Lib.hid (show St w3 g (K' + 1) (.slice (some ⟨w3.heap.size, 0, none⟩) 1 1) [x - 40] (w3.alloc (.cells #[.int .i64 (x - 40)] 3)) from
        ⟨lit_own w3 [x - 40] w3.heap.size w3.heap.size rfl (Nat.le_refl _) (by simp) (wf_lit (by simp; omega)), hs3.rdr.bel (bel_alloc _ _), only_alloc (World.grownBy.refl w3 _) _, by have := hs3.rdr.lt; exact this⟩)
      clear hs3 S2
      go_wp2_with fail
      refine (pick_st 4 P3.out (by omega) (by omega)).mono ?_
      rintro e w4 ⟨m, rfl, ma, mb, hs4⟩
      obtain ⟨m, rfl⟩ : ∃ n : Nat, m = n := ⟨m.toNat, by omega⟩
      have P4 := Lib.hid hs4
      clear hs4 P3
      go_wp2_with fail
      go_loopw [5, 6] (fun pv n wr2 => ∃ (j K2 : Nat) (p : List Int), n = .int .i64 j ∧ j ≤ 3 ∧ 1 ≤ p.length ∧ p.length + j ≤ 4 ∧ K2 + j ≤ K' + 5 ∧ St w3 g K2 pv p wr2)
        (fun _ n _ => (intOf n).toNat)
      case atStart => exact ⟨m, K' + 2, [x - 40], rfl, by omega, by simp, by simp; omega, by omega, P4.out⟩
      case round =>
        obtain ⟨j, K2, p, rfl, hj, hp1, hp2, hK2, hst⟩ := hrel
        have zr2 := hst.gr.size
        have P5 := Lib.hid hst
        clear P4 hst
        by_cases hj0 : j = 0
        · subst hj0
          have S5 := Lib.hid (S3.out.grown P5.out.gr P5.out.rdr)
          go_wp2_with fail
          refine (pick_k 7 S5.out (by omega) (by omega)).mono ?_
          rintro e w6 ⟨q, rfl, qa, qb, hs6, hg6⟩
          obtain ⟨q, rfl⟩ : ∃ n : Nat, q = n := ⟨q.toNat, by omega⟩
          have S6 := Lib.hid hs6
          have z6 := hs6.gr.size
          have PI := Lib.hid ((P5.out.own.far hg6 (fun k hk => by injection hk with hk; omega)).ints)
          have hgz := hg6.size
          clear hs6 hg6 S5 P5
          go_wp2_with fail
          first
            | rw [show (1 : Int) + (q : Int) = ((q + 1 : Nat) : Int) by omega]
            | rw [show (q : Int) + 1 = ((q + 1 : Nat) : Int) by omega]
          refine (l2Values_any _ p 0 1 (q + 1) _ PI.out (by omega) (by omega) (by omega) (by omega)).mono ?_
          rintro e w7 ⟨vo, rfl, ho7, hb7⟩
          have hlen : (valsI p 0 1 (q + 1)).length = q + 1 := by rw [valsI, gen_length]
          obtain ⟨L, hL⟩ : ∃ L, valsI p 0 1 (q + 1) = L := ⟨_, rfl⟩
          rw [hL] at ho7 hlen
          have S7 := Lib.hid (S6.out.bel hb7)
          have HI7 := Lib.hid ho7.ints
          have HLN := Lib.hid hlen
          have z7 := hb7.size
          have hll : l.length + L.length ≤ 1099511627776 := by omega
          clear hL ho7 hb7 hlen
          go_wp2_with (at_builtin; go_must (refine app_ints rfl (.tmp 31) (.tmp 36) (by rfl) w.heap.size u3 _ l L (by rfl) (by exact S7.out.own) (by rfl) (by exact HI7.out) hll (by omega) ?_); intro v8 w8 ho8 hg8 _; have S8 := Lib.hid (S7.out.app ho8 hg8); have hlen8 : (l ++ L).length = l.length + (q + 1) := (by rw [List.length_append, HLN.out]); clear ho8 hg8)
          have HL8 := Lib.hid hlen8
          clear hlen8 hll
          go_roundw
          case rel => exact ⟨k, K2 + 1, _, by go_num, by omega, by rw [HL8.out]; omega, by rw [HL8.out]; omega, by omega, S8.out⟩
          case measure => first | (simp [intOf]; done) | (simp [intOf]; omega)
        · obtain ⟨j, rfl⟩ : ∃ i, j = i + 1 := ⟨j - 1, by omega⟩
          go_wp2_with fail
          refine (pick_st 24 P5.out (by omega) (by omega)).mono ?_
          rintro e w6 ⟨y, rfl, ya, yb, hs6⟩
          have P6 := Lib.hid hs6
          have z6 := hs6.gr.size
          clear hs6 P5
          go_wp2_with (at_builtin; refine app_int rfl (.tmp 25) (.tmp 29) (by rfl) w3.heap.size u5 p (by rfl) (by exact P6.out.own.bel (bel_alloc _ _)) _ _ (y - 12) (by rfl) (by exact new_cell _ _ _) (by omega) (by omega) (by simp; omega) ?_; intro v7 w7 ho hg _)
          have P7 := Lib.hid ((P6.out.bel (bel_alloc _ _)).app ho hg)
          clear ho hg P6
          go_wp2
          go_roundw
          case rel => exact ⟨j, K2 + 1, _, by go_num, by omega, by simp, by simp; omega, by omega, P7.out⟩
          case measure => simp [intOf]
set_option maxHeartbeats 4000000 in
set_option maxRecDepth 100000 in
theorem badTableR_any (g K : Nat) (w w0 : World) (v : Value) (l : List Int) (hst : St w g K v l w0) (hl1 : 1 ≤ l.length) (hl2 : l.length ≤ 60) (hK : K ≤ 100000000) :
    Calls Tryz.prog 104 #[.pointer (some ⟨g, 0, none⟩), v] w0 (DrawnInts g (K + 10) w 0 61) := by
  have S1 := Lib.hid hst
  have hgw := hst.lt
  have zw := hst.gr.size
  obtain ⟨b, cap, rfl, hbb, hbw, hlc, hcap, hcells⟩ := hst.own.openN (by omega)
  clear hcells hst
  go_enter Tryz.func104, Tryz.ntmps104
  go_wp2_with fail
  refine (pick_k _ S1.out (by omega) (by omega)).mono ?_
  rintro e w2 ⟨m, rfl, ma, mb, hs2, hg2⟩
  obtain ⟨m, rfl⟩ : ∃ n : Nat, m = n := ⟨m.toNat, by omega⟩
  have S2 := Lib.hid hs2
  have K2 := Lib.hid (Keeps.grown (.slice (some ⟨b, 0, none⟩) l.length cap) hg2)
  clear hs2 S1 hg2
  go_wp2_with fail
  refine (pick_k 40 S2.out (by omega) (by omega)).mono ?_
  rintro e w3 ⟨q, rfl, qa, qb, hs3, hg3⟩
  have S3 := Lib.hid hs3
  have z3 := hs3.gr.size
  have K3 := Lib.hid (K2.out.trans (Keeps.grown _ hg3))
  clear hs3 S2 hg3 K2
  cases q0 : (q == 0)
  · cases q1 : (q == 1)
    · cases q2 : (q == 2)
      · go_wp2
        go_ret
        exact ⟨_, l, rfl, S3.out.own, by omega, by omega, S3.out.rdr.more (by omega), S3.out.gr⟩
      · go_wp2_with fail
        refine (num_k _ [30, 31, 60, 61] (S3.out.bel (bel_alloc _ _)) (by omega) (lit_own _ [30, 31, 60, 61] _ w.heap.size rfl (by omega) (by simp) (wf_lit (by simp))).ints (by simp) (lit_ne (by omega))).mono ?_
        rintro e w4 ⟨n, rfl, hn, hs4, hg4⟩
        have K4 := Lib.hid (K3.out.trans ((Keeps.below _ (bel_alloc _ _)).trans (Keeps.grown _ hg4)))
        clear hg4
        obtain ⟨n, rfl⟩ : ∃ k : Nat, n = k := ⟨n.toNat, by simp at hn; omega⟩
        have hn' : n ≤ 61 := by simp at hn; omega
        have z4 := hs4.gr.size
        have S4 := Lib.hid hs4
        have hmk := fun W => Tryz.mkInts n (by omega) W
        clear hn hs4 S3
        go_wp2
        go_ret
        exact ⟨_, List.replicate n 0, rfl, zeros_own w4 w.heap.size n z4 hn', by omega, by simp; omega, (S4.out.rdr.bel (bel_alloc _ _)).more (by omega), only_alloc S4.out.gr _⟩
    · go_wp2
      go_ret
      exact ⟨_, _, rfl, S3.out.nil_.own, by omega, by simp, S3.out.rdr.more (by omega), S3.out.gr⟩
  · go_wp2_with fail
    refine (num_k _ [1000000000, 1000000001, -1000000001, 9223372036854775807] (S3.out.bel (bel_alloc _ _)) (by omega) (lit_own _ [1000000000, 1000000001, -1000000001, 9223372036854775807] _ w.heap.size rfl (by omega) (by simp) (wf_lit (by simp))).ints (by simp) (lit_ne (by omega))).mono ?_
    rintro e w4 ⟨n, rfl, hn, hs4, hg4⟩
    have K4 := Lib.hid (K3.out.trans ((Keeps.below _ (bel_alloc _ _)).trans (Keeps.grown _ hg4)))
    clear hg4
    have hn' : -1000000001 ≤ n ∧ n ≤ 9223372036854775807 := by simp at hn; omega
    obtain ⟨b', cap', ev, _, _, _, _, hcells⟩ := hs4.own.openN (by omega)
    injection ev with ev1 ev2 ev3
    injection ev1 with ev1
    injection ev1 with ev1
    subst ev1
    obtain ⟨hc, hf⟩ := hcells m (by omega)
    have S4 := Lib.hid hs4
    clear hn hs4 S3 hcells ev2 ev3
    go_wp2
    go_ret
    have S7 := S4.out.set_ m n (by omega) (by omega)
    exact ⟨_, _, rfl, S7.own, by omega, by rw [List.length_set]; omega, S7.rdr.more (by omega), S7.gr⟩
/-- A drawn table and a drawn degree. -/
def DrawnSome (g K' : Nat) (w : World) (e : Ending) (w' : World) : Prop :=
  ∃ v l d, e = .returned (.tuple #[v, .int .i64 d]) ∧ Own w' w.heap.size v l ∧ l.length ≤ 61 ∧ (-1 ≤ d ∧ d ≤ 7) ∧ Rdr w' g K' ∧ w.grownBy w' (some g)
set_option maxHeartbeats 4000000 in
theorem l5Some_any (g K : Nat) (w : World) (hr : Rdr w g K) (hK : K ≤ 10000000) :
    Calls Tryz.prog 91 #[.pointer (some ⟨g, 0, none⟩)] w (DrawnSome g (K + 200) w) := by
  have hgw := hr.lt
  go_enter Tryz.func91, Tryz.ntmps91
  go_wp2_with fail
  refine (l5Table_any g K _ hr (by omega)).mono ?_
  rintro e w1 ⟨v, l, rfl, ho1, hl1, hl2, hr1, hg1⟩
  have S1 := Lib.hid (show St w g (K + 100) v l w1 from ⟨ho1, hr1, hg1, hgw⟩)
  clear ho1 hr1 hg1 hr
  obtain ⟨b, cap, rfl, hbb, hbw, hlc, hcap, hcells⟩ := S1.out.own.openN (by omega)
  clear hcells
  go_wp2_with fail
  refine (pick_st 4 S1.out (by omega) (by omega)).mono ?_
  rintro e w2 ⟨d, rfl, da, db, hs2⟩
  have S2 := Lib.hid hs2
  clear hs2 S1
  go_wp2_with fail
  refine (pick_st 16 S2.out (by omega) (by omega)).mono ?_
  rintro e w3 ⟨q, rfl, qa, qb, hs3⟩
  have S3 := Lib.hid hs3
  have z3 := hs3.gr.size
  clear hs3 S2
  cases q0 : (q == 0)
  · have HD := Lib.hid (show -1 ≤ d ∧ d ≤ 7 by omega)
    go_wp2_with fail
    refine (pick_st 24 S3.out (by omega) (by omega)).mono ?_
    rintro e w5 ⟨q2, rfl, q2a, q2b, hs5⟩
    have S5 := Lib.hid hs5
    have z5 := hs5.gr.size
    clear hs5 S3
    cases q20 : (q2 == 0)
    · go_wp2_with fail
      refine (badTableR_any g _ w _ _ l S5.out (by omega) (by omega) (by omega)).mono ?_
      rintro e w6 ⟨v6, l6, rfl, o6, -, hl6, r6, g6⟩
      have HO6 := Lib.hid o6
      have HR6 := Lib.hid r6
      have HG6 := Lib.hid g6
      obtain ⟨A6, c6, rfl, -, -, -⟩ := o6.ints.open_
      clear o6 r6 g6
      go_wp2
      go_ret2
      exact ⟨_, l6, _, rfl, HO6.out, hl6, HD.out, HR6.out.more (by omega), HG6.out⟩
    · go_wp2_with fail
      refine (pick_st _ S5.out (by omega) (by omega)).mono ?_
      rintro e w6 ⟨x, rfl, xa, xb, hs6⟩
      obtain ⟨x, rfl⟩ : ∃ n : Nat, x = n := ⟨x.toNat, by omega⟩
      have S6 := Lib.hid hs6
      have z6 := hs6.gr.size
      clear hs6 S5
      go_wp2_with fail
      refine (num_st _ [1500, 1501, -1500, -1501] (S6.out.bel (bel_alloc _ _)) (by omega) (lit_own _ [1500, 1501, -1500, -1501] _ w.heap.size rfl (by omega) (by simp) (wf_lit (by simp))).ints (by simp) (lit_ne (by omega))).mono ?_
      rintro e w7 ⟨y, rfl, hy, hs7⟩
      have yb : -1501 ≤ y ∧ y ≤ 1501 := by simp at hy; omega
      obtain ⟨b', cap', ev, _, _, _, _, hcells⟩ := hs7.own.openN (by omega)
      injection ev with ev1 ev2 ev3
      injection ev1 with ev1
      injection ev1 with ev1
      subst ev1
      obtain ⟨hc, hf⟩ := hcells x (by omega)
      have S7 := Lib.hid hs7
      have S8 := Lib.hid (hs7.set_ x y (by omega) (by omega))
      have hl8 : (l.set x y).length = l.length := List.length_set
      have HL8 := Lib.hid hl8
      clear hs7 S6 hcells ev2 ev3 hy hl8
      go_wp2_with fail
      refine (badTableR_any g _ w _ _ (l.set x y) S8.out (by rw [HL8.out]; omega) (by rw [HL8.out]; omega) (by omega)).mono ?_
      rintro e w9 ⟨v9, l9, rfl, o9, -, hl9, r9, g9⟩
      have HO6 := Lib.hid o9
      have HR6 := Lib.hid r9
      have HG6 := Lib.hid g9
      obtain ⟨A6, c6, rfl, -, -, -⟩ := o9.ints.open_
      clear o9 r9 g9 hc hf
      go_wp2
      go_ret2
      exact ⟨_, l9, _, rfl, HO6.out, hl9, HD.out, HR6.out.more (by omega), HG6.out⟩
  · go_wp2_with fail
    refine (num_st _ [-1, 7, 6] (S3.out.bel (bel_alloc _ _)) (by omega) (lit_own _ [-1, 7, 6] _ w.heap.size rfl (by omega) (by simp) (wf_lit (by simp))).ints (by simp) (lit_ne (by omega))).mono ?_
    rintro e w4 ⟨d2, rfl, hd2, hs4⟩
    have HD := Lib.hid (show -1 ≤ d2 ∧ d2 ≤ 7 by simp at hd2; omega)
    have S4 := Lib.hid hs4
    have z4 := hs4.gr.size
    clear hs4 S3 hd2
    go_wp2_with fail
    refine (pick_st 24 S4.out (by omega) (by omega)).mono ?_
    rintro e w5 ⟨q2, rfl, q2a, q2b, hs5⟩
    have S5 := Lib.hid hs5
    have z5 := hs5.gr.size
    clear hs5 S4
    cases q20 : (q2 == 0)
    · go_wp2_with fail
      refine (badTableR_any g _ w _ _ l S5.out (by omega) (by omega) (by omega)).mono ?_
      rintro e w6 ⟨v6, l6, rfl, o6, -, hl6, r6, g6⟩
      have HO6 := Lib.hid o6
      have HR6 := Lib.hid r6
      have HG6 := Lib.hid g6
      obtain ⟨A6, c6, rfl, -, -, -⟩ := o6.ints.open_
      clear o6 r6 g6
      go_wp2
      go_ret2
      exact ⟨_, l6, _, rfl, HO6.out, hl6, HD.out, HR6.out.more (by omega), HG6.out⟩
    · go_wp2_with fail
      refine (pick_st _ S5.out (by omega) (by omega)).mono ?_
      rintro e w6 ⟨x, rfl, xa, xb, hs6⟩
      obtain ⟨x, rfl⟩ : ∃ n : Nat, x = n := ⟨x.toNat, by omega⟩
      have S6 := Lib.hid hs6
      have z6 := hs6.gr.size
      clear hs6 S5
      go_wp2_with fail
      refine (num_st _ [1500, 1501, -1500, -1501] (S6.out.bel (bel_alloc _ _)) (by omega) (lit_own _ [1500, 1501, -1500, -1501] _ w.heap.size rfl (by omega) (by simp) (wf_lit (by simp))).ints (by simp) (lit_ne (by omega))).mono ?_
      rintro e w7 ⟨y, rfl, hy, hs7⟩
      have yb : -1501 ≤ y ∧ y ≤ 1501 := by simp at hy; omega
      obtain ⟨b', cap', ev, _, _, _, _, hcells⟩ := hs7.own.openN (by omega)
      injection ev with ev1 ev2 ev3
      injection ev1 with ev1
      injection ev1 with ev1
      subst ev1
      obtain ⟨hc, hf⟩ := hcells x (by omega)
      have S7 := Lib.hid hs7
      have S8 := Lib.hid (hs7.set_ x y (by omega) (by omega))
      have hl8 : (l.set x y).length = l.length := List.length_set
      have HL8 := Lib.hid hl8
      clear hs7 S6 hcells ev2 ev3 hy hl8
      go_wp2_with fail
      refine (badTableR_any g _ w _ _ (l.set x y) S8.out (by rw [HL8.out]; omega) (by rw [HL8.out]; omega) (by omega)).mono ?_
      rintro e w9 ⟨v9, l9, rfl, o9, -, hl9, r9, g9⟩
      have HO6 := Lib.hid o9
      have HR6 := Lib.hid r9
      have HG6 := Lib.hid g9
      obtain ⟨A6, c6, rfl, -, -, -⟩ := o9.ints.open_
      clear o9 r9 g9 hc hf
      go_wp2
      go_ret2
      exact ⟨_, l9, _, rfl, HO6.out, hl9, HD.out, HR6.out.more (by omega), HG6.out⟩
set_option maxHeartbeats 4000000 in
theorem l5Costs_any (g K : Nat) (w : World) (hr : Rdr w g K) (hK : K ≤ 10000000) :
    Calls Tryz.prog 92 #[.pointer (some ⟨g, 0, none⟩)] w fun e w' => ∃ s c : Int, e = .returned (.tuple #[.int .i64 s, .int .i64 c]) ∧ (-1 ≤ s ∧ s ≤ 1001) ∧ (0 ≤ c ∧ c ≤ 1001) ∧ w.grownBy w' (some g) := by
  have hgw := hr.lt
  have S0 := Lib.hid (show St w g K (.slice none 0 0) [] w from ⟨Own.nil_ _ _, hr, World.grownBy.refl w _, hgw⟩)
  clear hr
  go_enter Tryz.func92, Tryz.ntmps92
  go_wp2_with fail
  refine (pick_st 16 S0.out (by omega) (by omega)).mono ?_
  rintro e w1 ⟨q, rfl, qa, qb, hs1⟩
  have S1 := Lib.hid hs1
  have z1 := hs1.gr.size
  clear hs1 S0
  cases q0 : (q == 0)
  · go_wp2_with fail
    refine (num_st _ [5, 1, 0, 20, 3] (S1.out.bel (bel_alloc _ _)) (by omega) (lit_own _ [5, 1, 0, 20, 3] _ w.heap.size rfl (by omega) (by simp) (wf_lit (by simp))).ints (by simp) (lit_ne (by omega))).mono ?_
    rintro e w2 ⟨x, rfl, hx, hs2⟩
    have xb : 0 ≤ x ∧ x ≤ 20 := by simp at hx; omega
    have S2 := Lib.hid hs2
    have z2 := hs2.gr.size
    clear hs2 S1 hx
    go_wp2_with fail
    refine (num_st _ [1, 0, 2, 7] (S2.out.bel (bel_alloc _ _)) (by omega) (lit_own _ [1, 0, 2, 7] _ w.heap.size rfl (by omega) (by simp) (wf_lit (by simp))).ints (by simp) (lit_ne (by omega))).mono ?_
    rintro e w3 ⟨y, rfl, hy, hs3⟩
    have yb : 0 ≤ y ∧ y ≤ 7 := by simp at hy; omega
    have S3 := Lib.hid hs3
    clear hs3 S2 hy
    go_wp2
    go_ret2
    exact ⟨x, y, rfl, by omega, by omega, S3.out.gr⟩
  · go_wp2_with fail
    refine (num_st _ [-1, 1000, 1001] (S1.out.bel (bel_alloc _ _)) (by omega) (lit_own _ [-1, 1000, 1001] _ w.heap.size rfl (by omega) (by simp) (wf_lit (by simp))).ints (by simp) (lit_ne (by omega))).mono ?_
    rintro e w2 ⟨x, rfl, hx, hs2⟩
    have xb : -1 ≤ x ∧ x ≤ 1001 := by simp at hx; omega
    have S2 := Lib.hid hs2
    have z2 := hs2.gr.size
    clear hs2 S1 hx
    go_wp2_with fail
    refine (num_st _ [0, 1000, 1001] (S2.out.bel (bel_alloc _ _)) (by omega) (lit_own _ [0, 1000, 1001] _ w.heap.size rfl (by omega) (by simp) (wf_lit (by simp))).ints (by simp) (lit_ne (by omega))).mono ?_
    rintro e w3 ⟨y, rfl, hy, hs3⟩
    have yb : 0 ≤ y ∧ y ≤ 1001 := by simp at hy; omega
    have S3 := Lib.hid hs3
    clear hs3 S2 hy
    go_wp2
    go_ret2
    exact ⟨x, y, rfl, by omega, by omega, S3.out.gr⟩
/-- The arguments of CheapestPlan. -/
def DrawnCheap (w : World) (e : Ending) (w' : World) : Prop :=
  ∃ v l d s c, e = .returned (.tuple #[v, .int .i64 d, .int .i64 s, .int .i64 c]) ∧ Own w' w.heap.size v l ∧ l.length ≤ 61 ∧ (-1 ≤ d ∧ d ≤ 7) ∧ (-1 ≤ s ∧ s ≤ 1001) ∧ (0 ≤ c ∧ c ≤ 1001) ∧ Below w.heap.size w w'
set_option maxHeartbeats 2000000 in
theorem drawCheap_any (v : Value) (code : List Int) (w : World) (hv : Bytes w v code) :
    Calls Tryz.prog 33 #[v] w (DrawnCheap w) := by
  have HV := Lib.hid hv
  obtain ⟨A0, c0, rfl, -, -, -⟩ := hv.open_
  clear hv
  go_enter Tryz.func33, Tryz.ntmps33
  go_wp2_with fail
  refine (l9Open_any _ code _ HV.out).mono ?_
  rintro e w1 ⟨g, rfl, hg, hr1, hb1⟩
  have lg1 := hr1.lt
  have z1 := hb1.size
  have HR := Lib.hid hr1
  have HB := Lib.hid hb1
  clear hr1 hb1
  go_wp2_with fail
  refine (l5Some_any g 0 _ HR.out (by omega)).mono ?_
  rintro e w2 ⟨v2, l2, d2, rfl, o2, hl2, hd2, r2, g2⟩
  have HO := Lib.hid o2
  have HR2 := Lib.hid r2
  have HB2 := Lib.hid (HB.out.trans (grown_below (B := w.heap.size) g2 (by omega) (by omega)))
  obtain ⟨A2, c2, rfl, -, -, -⟩ := o2.ints.open_
  clear o2 r2 g2
  go_wp2_with fail
  refine (l5Costs_any g _ _ HR2.out (by omega)).mono ?_
  rintro e w3 ⟨s3, c3, rfl, hs3, hc3, g3⟩
  have z2 := HB2.out.size
  have HO3 := Lib.hid (HO.out.far g3 (fun k hk => by injection hk with hk; omega))
  have HB3 := Lib.hid (HB2.out.trans (grown_below (B := w.heap.size) g3 (by omega) (by omega)))
  clear g3
  go_wp2
  refine bodyPost_ret (v := .tuple #[.slice A2 l2.length c2, .int .i64 d2, .int .i64 s3, .int .i64 c3]) (by simp [results, Tryz.results33, go_sem]) rfl ⟨_, l2, d2, s3, c3, rfl, HO3.out.lower (by omega), hl2, hd2, hs3, hc3, HB3.out⟩
end Go.Proofs.YtpniljcnknknoaaGreatDoor

/-
  Drawn tables with a degree: DrawCleanTable.
-/
namespace Go.Proofs.YtpniljcnknknoaaGreatDoor
open Go.RowKit
set_option linter.unusedVariables false
set_option linter.unusedSimpArgs false
set_option maxRecDepth 100000
attribute [local go_sem ↓] Go.wp_at_zero Go.wp_at_succ

set_option maxHeartbeats 2000000 in
theorem l2Trim_any (v : Value) (l : List Int) (w : World) (hv : Ints w v l) (h1 : 1 ≤ l.length) (h2 : l.length ≤ 60) :
    Calls Tryz.prog 221 #[v] w fun e w' => ∃ r n, e = .returned r ∧ 1 ≤ n ∧ n ≤ l.length ∧ Own w' w.heap.size r (l.take n) ∧ Below w.heap.size w w' := by
  have HV := Lib.hid hv
  obtain ⟨A, c, rfl, hlc, hc, hrd⟩ := hv.open_
  obtain ⟨b, o, rfl, hbb, hcell⟩ := hrd.ints (by omega)
  have HC := Lib.hid hcell
  have OE := Lib.hid (Own.empty w w.heap.size (Nat.le_refl _))
  clear hv hrd hcell
  go_enter Tryz.func221, Tryz.ntmps221
  go_wp2
  go_loop [3] (fun i => ∃ k : Nat, k < l.length ∧ i = .int .i64 ((k : Int) + 1)) (fun i => (intOf i).toNat)
  case atStart => exact ⟨l.length - 1, by omega, by rw [show ((l.length - 1 : Nat) : Int) + 1 = (l.length : Int) by omega]⟩
  case round =>
    obtain ⟨k, hk, rfl⟩ := hrel
    have x0 := HC.out k hk
    by_cases hz : 1 ≤ k ∧ at_ l k = 0
    · rw [hz.2] at x0
      have hk1 := hz.1
      obtain ⟨j, rfl⟩ : ∃ j, k = j + 1 := ⟨k - 1, by omega⟩
      have p1 : (1 : Int) < ((j + 1 : Nat) : Int) + 1 := by omega
      have p2 : ((j + 1 : Nat) : Int) < (l.length : Int) := by omega
      clear hz
      go_wp2
      go_round
      case rel => exact ⟨j, by omega, by go_num⟩
      case measure => simp [intOf]; omega
    · by_cases hk1 : 1 ≤ k
      · have hne : (at_ l k == 0) = false := by
          rw [beq_eq_false_iff_ne]
          exact fun e => hz ⟨hk1, e⟩
        have p1 : (1 : Int) < (k : Int) + 1 := by omega
        have p2 : (k : Int) < (l.length : Int) := by omega
        clear hz
        have HT := Lib.hid (HV.out.takeN (n := k + 1) (by omega))
        have hlt2 : (l.take (k + 1)).length = k + 1 := by rw [List.length_take]; omega
        obtain ⟨L, hL⟩ : ∃ L, l.take (k + 1) = L := ⟨_, rfl⟩
        rw [hL] at HT hlt2
        have HL := Lib.hid (And.intro hL hlt2)
        have hll : ([] : List Int).length + L.length ≤ 1099511627776 := by simp; omega
        have q4 : (k : Int) + 1 ≤ (c : Int) := by omega
        have q5 : (0 : Int) ≤ (k : Int) + 1 := by omega
        have q6 : ((k : Int) + 1).toNat = k + 1 := by omega
        have HT2 := Lib.hid (show Ints w (.slice (some ⟨b, o, none⟩) L.length c) L by rw [hlt2]; exact HT.out)
        clear hL hlt2
        go_wp2_with (at_builtin; go_must (refine app_ints rfl (.tmp 18) (.tmp 21) (by rfl) w.heap.size _ _ [] L (by rfl) OE.out (by rfl) (by exact HT.out.bel (bel_alloc _ _)) hll (by simp) ?_; intro v4 w4 ho4 hg4 _))
        have HO4 := Lib.hid ho4
        have HB4 := Lib.hid (app_bel (bel_alloc w _) OE.out hg4)
        clear ho4 hg4
        go_ret
        exact ⟨_, rfl, k + 1, by omega, by omega, by rw [HL.out.1]; exact HO4.out, HB4.out⟩
      · obtain rfl : k = 0 := by omega
        have p1 : ¬ (1 : Int) < ((0 : Nat) : Int) + 1 := by omega
        clear hz x0
        have HT := Lib.hid (HV.out.takeN (n := 1) (by omega))
        have hlt2 : (l.take (1)).length = 1 := by rw [List.length_take]; omega
        obtain ⟨L, hL⟩ : ∃ L, l.take (1) = L := ⟨_, rfl⟩
        rw [hL] at HT hlt2
        have HL := Lib.hid (And.intro hL hlt2)
        have hll : ([] : List Int).length + L.length ≤ 1099511627776 := by simp; omega
        have q4 : (1 : Int) ≤ (c : Int) := by omega
        have q5 : (0 : Int) ≤ (1 : Int) := by omega
        have q6 : ((1 : Int)).toNat = 1 := by omega
        have HT2 := Lib.hid (show Ints w (.slice (some ⟨b, o, none⟩) L.length c) L by rw [hlt2]; exact HT.out)
        clear hL hlt2
        go_wp2_with (at_builtin; go_must (refine app_ints rfl (.tmp 18) (.tmp 21) (by rfl) w.heap.size _ _ [] L (by rfl) OE.out (by rfl) (by exact HT.out.bel (bel_alloc _ _)) hll (by simp) ?_; intro v4 w4 ho4 hg4 _))
        have HO4 := Lib.hid ho4
        have HB4 := Lib.hid (app_bel (bel_alloc w _) OE.out hg4)
        clear ho4 hg4
        go_ret
        exact ⟨_, rfl, 1, by omega, by omega, by rw [HL.out.1]; exact HO4.out, HB4.out⟩
set_option maxHeartbeats 2000000 in
theorem degOf_any (v : Value) (l : List Int) (w : World) (hv : Ints w v l) (h1 : 1 ≤ l.length) (h2 : l.length ≤ 60) :
    Calls Tryz.prog 170 #[v] w fun e w' => ∃ d : Int, e = .returned (.int .i64 d) ∧ -2 ≤ d ∧ d ≤ 6 ∧ Below w.heap.size w w' := by
  have HV := Lib.hid hv
  obtain ⟨A, c, rfl, hlc, hc, -⟩ := hv.open_
  clear hv
  go_enter Tryz.func170, Tryz.ntmps170
  cases hq : polyOk l
  · go_wp2_with fail
    refine (specPoly_any _ l _ HV.out).mono ?_
    rw [hq]
    rintro e w1 ⟨rfl, rfl⟩
    go_wp2
    go_ret
    exact ⟨-2, rfl, by decide, by decide, Below.refl _ _⟩
  · have h7 := (polyOk_true.1 hq).2.1
    go_wp2_with fail
    refine (specPoly_any _ l _ HV.out).mono ?_
    rw [hq]
    rintro e w1 ⟨rfl, rfl⟩
    clear hq
    go_wp2_with fail
    refine (l2Trim_any _ l _ HV.out h1 h2).mono ?_
    rintro e w2 ⟨r, n, rfl, hn1, hn2, o2, b2⟩
    have hlen : (l.take n).length = n := by rw [List.length_take]; omega
    obtain ⟨L, hL⟩ : ∃ L, l.take n = L := ⟨_, rfl⟩
    rw [hL] at o2 hlen
    obtain ⟨g, cap, rfl, hg1, hg2, -, -, hcell⟩ := o2.openN (by omega)
    obtain ⟨x0, -⟩ := hcell 0 (by omega)
    have HB := Lib.hid b2
    have hLn : 1 ≤ L.length ∧ L.length ≤ 7 := by omega
    clear o2 b2 hcell hL hlen
    by_cases hl1 : L.length = 1
    · rw [hl1]
      have q : (((1 : Nat) : Int) == 1) = true := by decide
      clear hLn
      cases hz : (at_ L 0 == 0)
      · go_wp2
        go_ret
        exact ⟨0, rfl, by decide, by decide, HB.out⟩
      · go_wp2
        go_ret
        exact ⟨-1, rfl, by decide, by decide, HB.out⟩
    · have q : ((L.length : Int) == 1) = false := by rw [beq_eq_false_iff_ne]; omega
      clear hl1
      go_wp2
      go_ret
      exact ⟨(L.length : Int) - 1, rfl, by omega, by omega, HB.out⟩
/-- A drawn table and its degree. -/
def DrawnTab (g K' : Nat) (w : World) (e : Ending) (w' : World) : Prop :=
  ∃ v l d, e = .returned (.tuple #[v, .int .i64 d]) ∧ Own w' w.heap.size v l ∧ (3 ≤ l.length ∧ l.length ≤ 18) ∧ (0 ≤ d ∧ d ≤ 6) ∧ Rdr w' g K' ∧ w.grownBy w' (some g)
set_option maxHeartbeats 2000000 in
theorem l4Table_any (g K : Nat) (w : World) (hr : Rdr w g K) (hK : K ≤ 10000000) :
    Calls Tryz.prog 103 #[.pointer (some ⟨g, 0, none⟩)] w (DrawnTab g (K + 30) w) := by
  have hgw := hr.lt
  go_enter Tryz.func103, Tryz.ntmps103
  go_wp2_with fail
  refine (l2Some_any g K _ hr (by omega)).mono ?_
  rintro e w1 ⟨v, p, rfl, ho1, hp1, hp2, hr1, hg1⟩
  have S1 := Lib.hid (show St w g (K + 20) v p w1 from ⟨ho1, hr1, hg1, hgw⟩)
  obtain ⟨A, c, rfl, -, -, -⟩ := ho1.ints.open_
  clear ho1 hr1 hg1 hr
  go_wp2_with fail
  refine (degOf_any _ p _ S1.out.own.ints hp1 (by omega)).mono ?_
  rintro e w2 ⟨d, rfl, hd1, hd2, b2⟩
  have S2 := Lib.hid (S1.out.bel b2)
  clear b2 S1
  by_cases hneg : d < 0
  · go_wp2_with fail
    refine (pick_st 10 S2.out (by omega) (by omega)).mono ?_
    rintro e w3 ⟨m, rfl, ma, mb, hs3⟩
    obtain ⟨m, rfl⟩ : ∃ n : Nat, m = n := ⟨m.toNat, by omega⟩
    have S3 := Lib.hid hs3
    have z3 := hs3.gr.size
    clear hs3 S2
    go_wp2_with fail
    first
      | rw [show (3 : Int) + (m : Int) = ((3 + m : Nat) : Int) by omega]
      | rw [show (0 : Int) + 3 + (m : Int) = ((3 + m : Nat) : Int) by omega]
    refine (l2Values_any _ p 0 1 (3 + m) _ S3.out.own.ints (by omega) (by omega) (by omega) (by omega)).mono ?_
    rintro e w4 ⟨vo, rfl, o4, b4⟩
    have hlen : (valsI p 0 1 (3 + m)).length = 3 + m := by rw [valsI, gen_length]
    obtain ⟨L, hL⟩ : ∃ L, valsI p 0 1 (3 + m) = L := ⟨_, rfl⟩
    rw [hL] at o4 hlen
    have HO := Lib.hid (o4.lower (base' := w.heap.size) z3)
    have HR := Lib.hid (S3.out.rdr.bel b4)
    have HG := Lib.hid (only_below S3.out.gr b4)
    have HLN := Lib.hid hlen
    clear hL o4 b4 hlen
    go_wp2
    go_ret2
    exact ⟨_, L, _, rfl, HO.out, by rw [HLN.out]; omega, by omega, HR.out.more (by omega), HG.out⟩
  · obtain ⟨D, rfl⟩ : ∃ D : Nat, d = D := ⟨d.toNat, by omega⟩
    have hD : D ≤ 6 := by omega
    go_wp2_with fail
    refine (pick_st 10 S2.out (by omega) (by omega)).mono ?_
    rintro e w3 ⟨m, rfl, ma, mb, hs3⟩
    obtain ⟨m, rfl⟩ : ∃ n : Nat, m = n := ⟨m.toNat, by omega⟩
    have S3 := Lib.hid hs3
    have z3 := hs3.gr.size
    clear hs3 S2
    go_wp2_with fail
    first
      | rw [show (D : Int) + 3 + (m : Int) = ((D + 3 + m : Nat) : Int) by omega]
      | rw [show (3 : Int) + (m : Int) = ((3 + m : Nat) : Int) by omega]
    refine (l2Values_any _ p 0 1 (D + 3 + m) _ S3.out.own.ints (by omega) (by omega) (by omega) (by omega)).mono ?_
    rintro e w4 ⟨vo, rfl, o4, b4⟩
    have hlen : (valsI p 0 1 (D + 3 + m)).length = D + 3 + m := by rw [valsI, gen_length]
    obtain ⟨L, hL⟩ : ∃ L, valsI p 0 1 (D + 3 + m) = L := ⟨_, rfl⟩
    rw [hL] at o4 hlen
    have HO := Lib.hid (o4.lower (base' := w.heap.size) z3)
    have HR := Lib.hid (S3.out.rdr.bel b4)
    have HG := Lib.hid (only_below S3.out.gr b4)
    have HLN := Lib.hid hlen
    clear hL o4 b4 hlen
    go_wp2
    go_ret2
    exact ⟨_, L, _, rfl, HO.out, by rw [HLN.out]; omega, by omega, HR.out.more (by omega), HG.out⟩
set_option maxHeartbeats 2000000 in
theorem l4Off_any (d : Int) {w W : World} {g K : Nat} {v : Value} {l : List Int} (hst : St w g K v l W) (hz : w.heap.size ≤ W.heap.size) (hK : K ≤ 100000000) (hd : 0 ≤ d ∧ d ≤ 6) :
    Calls Tryz.prog 105 #[.pointer (some ⟨g, 0, none⟩), .int .i64 d] W fun e W' => ∃ d' : Int, e = .returned (.int .i64 d') ∧ (-1 ≤ d' ∧ d' ≤ 7) ∧ St w g (K + 2) v l W' := by
  have S1 := Lib.hid hst
  have hgw := hst.lt
  clear hst
  go_enter Tryz.func105, Tryz.ntmps105
  go_wp2_with fail
  refine (pick_st 12 S1.out (by omega) (by omega)).mono ?_
  rintro e w2 ⟨q, rfl, qa, qb, hs2⟩
  have S2 := Lib.hid hs2
  have z2 := hs2.gr.size
  clear hs2 S1
  cases q0 : (q == 0)
  · cases q1 : (q == 1)
    · go_wp2
      go_ret
      exact ⟨d, rfl, by omega, ⟨S2.out.own, S2.out.rdr.more (by omega), S2.out.gr, S2.out.lt⟩⟩
    · go_wp2
      go_ret
      exact ⟨d + 1, rfl, by omega, ⟨S2.out.own, S2.out.rdr.more (by omega), S2.out.gr, S2.out.lt⟩⟩
  · go_wp2_with fail
    refine (num_st _ [-1, 7, 6, 0] (S2.out.bel (bel_alloc _ _)) (by omega) (lit_own _ [-1, 7, 6, 0] _ w.heap.size rfl (by omega) (by simp) (wf_lit (by simp))).ints (by simp) (lit_ne (by omega))).mono ?_
    rintro e w4 ⟨n, rfl, hn, hs4⟩
    have hn' : -1 ≤ n ∧ n ≤ 7 := by simp at hn; omega
    have S4 := Lib.hid hs4
    clear hn hs4 S2
    go_wp2
    go_ret
    exact ⟨n, rfl, hn', ⟨S4.out.own, S4.out.rdr.more (by omega), S4.out.gr, S4.out.lt⟩⟩
/-- A drawn table and a drawn degree, made since w. -/
def DrawnClean (w : World) (e : Ending) (w' : World) : Prop :=
  ∃ v l d, e = .returned (.tuple #[v, .int .i64 d]) ∧ Own w' w.heap.size v l ∧ l.length ≤ 61 ∧ (-1 ≤ d ∧ d ≤ 7) ∧ Below w.heap.size w w'
set_option maxHeartbeats 4000000 in
theorem drawClean_any (v : Value) (code : List Int) (w : World) (hv : Bytes w v code) :
    Calls Tryz.prog 39 #[v] w (DrawnClean w) := by
  have HV := Lib.hid hv
  obtain ⟨A, c, rfl, -, -, -⟩ := hv.open_
  clear hv
  go_enter Tryz.func39, Tryz.ntmps39
  go_wp2_with fail
  refine (l9Open_any _ code w HV.out).mono ?_
  rintro e w1 ⟨g, rfl, hg, hr1, hb1⟩
  have z1 := hb1.size
  have l1 := hr1.lt
  have HB1 := Lib.hid hb1
  have HR1 := Lib.hid hr1
  clear hr1 hb1
  go_wp2_with fail
  refine (l4Table_any g 0 _ HR1.out (by omega)).mono ?_
  rintro e w2 ⟨vt, t, d, rfl, ho2, hl2, hd, hr2, hg2⟩
  have S2 := Lib.hid (show St w1 g (0 + 30) vt t w2 from ⟨ho2, hr2, hg2, l1⟩)
  obtain ⟨b, cap, rfl, hbb, hbw, hlc, hcap, hcells⟩ := ho2.openN (by omega)
  clear ho2 hr2 hg2 hcells
  go_wp2_with fail
  refine (pick_st 3 S2.out (by omega) (by omega)).mono ?_
  rintro e w3 ⟨q, rfl, qa, qb, hs3⟩
  have S3 := Lib.hid hs3
  have z3 := hs3.gr.size
  clear hs3 S2
  have HEND := Lib.hid (show ∀ w', w1.grownBy w' (some g) → Below w.heap.size w w' from fun w' h => HB1.out.grown h z1 (fun k e => by injection e with e; omega))
  cases q0 : (q == 0)
  · go_wp2_with fail
    refine (badTableR_any g _ w1 _ _ t S3.out (by omega) (by omega) (by omega)).mono ?_
    rintro e w6 ⟨v6, l6, rfl, o6, -, hl6, r6, g6⟩
    have S6 := Lib.hid (show St w1 g _ v6 l6 w6 from ⟨o6, r6, g6, l1⟩)
    have z6 := g6.size
    obtain ⟨A6, c6, rfl, -, -, -⟩ := o6.ints.open_
    clear o6 r6 g6 S3
    go_wp2_with fail
    refine (l4Off_any d S6.out z6 (by omega) hd).mono ?_
    rintro e w7 ⟨d7, rfl, hd7, hs7⟩
    have S7 := Lib.hid hs7
    clear hs7 S6
    go_wp2
    go_ret2
    exact ⟨_, l6, _, rfl, S7.out.own.lower z1, hl6, hd7, HEND.out _ S7.out.gr⟩
  · go_wp2_with fail
    refine (pick_st _ S3.out (by omega) (by omega)).mono ?_
    rintro e w4 ⟨x, rfl, xa, xb, hs4⟩
    obtain ⟨x, rfl⟩ : ∃ n : Nat, x = n := ⟨x.toNat, by omega⟩
    have S4 := Lib.hid hs4
    have z4 := hs4.gr.size
    clear hs4 S3
    go_wp2_with fail
    refine (pick_st 50 S4.out (by omega) (by omega)).mono ?_
    rintro e w5 ⟨y, rfl, ya, yb, hs5⟩
    obtain ⟨b', cap', ev, _, _, _, _, hcells⟩ := hs5.own.openN (by omega)
    injection ev with ev1 ev2 ev3
    injection ev1 with ev1
    injection ev1 with ev1
    subst ev1
    obtain ⟨hc, hf⟩ := hcells x (by omega)
    have S5 := Lib.hid (hs5.set_ x y (by omega) (by omega))
    have hl8 : (t.set x y).length = t.length := List.length_set
    have HL8 := Lib.hid hl8
    clear hs5 S4 hcells ev2 ev3 hl8
    go_wp2_with fail
    refine (badTableR_any g _ w1 _ _ (t.set x y) S5.out (by rw [HL8.out]; omega) (by rw [HL8.out]; omega) (by omega)).mono ?_
    rintro e w6 ⟨v6, l6, rfl, o6, -, hl6, r6, g6⟩
    have S6 := Lib.hid (show St w1 g _ v6 l6 w6 from ⟨o6, r6, g6, l1⟩)
    have z6 := g6.size
    obtain ⟨A6, c6, rfl, -, -, -⟩ := o6.ints.open_
    clear o6 r6 g6 S5 hc hf
    go_wp2_with fail
    refine (l4Off_any d S6.out z6 (by omega) hd).mono ?_
    rintro e w7 ⟨d7, rfl, hd7, hs7⟩
    have S7 := Lib.hid hs7
    clear hs7 S6
    go_wp2
    go_ret2
    exact ⟨_, l6, _, rfl, S7.out.own.lower z1, hl6, hd7, HEND.out _ S7.out.gr⟩
end Go.Proofs.YtpniljcnknknoaaGreatDoor
