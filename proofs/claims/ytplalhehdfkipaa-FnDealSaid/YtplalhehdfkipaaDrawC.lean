/-
  Drawn tables that may break the rules, and the two readers that draw them.
-/
import Derived.Test.YtplalhehdfkipaaDrawB
namespace Go.Proofs.Ytplalhehdfkipaa
open Go.RowKit
set_option linter.unusedVariables false

/-- A drawn list which is only read. -/
def DrawnRead (g : Nat) (w : World) (hi : Nat) (e : Ending) (w' : World) : Prop :=
  ∃ v l, e = .returned v ∧ Ints w' v l ∧ l.length ≤ hi ∧ w.grownBy w' (some g)

theorem zeros_own (W : World) (base n : Nat) (hb : base ≤ W.heap.size) (hn : n ≤ 61) :
    Own (W.alloc (.cells (reps n (.int .i64 0)).toArray 3)) base (.slice (some ⟨W.heap.size, 0, none⟩) n n) (List.replicate n 0) := by
  have hl : (List.replicate n (0 : Int)).length = n := List.length_replicate
  have := Own.mk' (base := base) (cap := n) (cs := reps n (.int .i64 0)) (l := List.replicate n 0) hb (Blk.new W 3 _) (by rw [hl]; exact Nat.le_refl _) (by omega) (reps_length _ _) (fun j hj => by
    rw [hl] at hj
    rw [reps_get _ hj]
    simp [at_, hj]) (fun x hx => by rw [List.eq_of_mem_replicate hx]; omega)
  rw [hl] at this
  exact this
set_option maxHeartbeats 4000000 in
set_option maxRecDepth 100000 in
theorem l2BadTable_any (g K : Nat) (w w0 : World) (v : Value) (l : List Int) (hst : St w g K v l w0) (hl1 : 1 ≤ l.length) (hl2 : l.length ≤ 60) (hK : K ≤ 100000000) :
    Calls Try.prog 87 #[.pointer (some ⟨g, 0, none⟩), v] w0 (DrawnRead g w 61) := by
  have S1 := Lib.hid hst
  have hgw := hst.lt
  have zw := hst.gr.size
  obtain ⟨b, cap, rfl, hbb, hbw, hlc, hcap, hcells⟩ := hst.own.openN (by omega)
  clear hcells hst
  go_enter Try.func87, Try.ntmps87
  go_wp2_with fail
  refine (pick_st _ S1.out (by omega) (by omega)).mono ?_
  rintro e w2 ⟨m, rfl, ma, mb, hs2⟩
  obtain ⟨m, rfl⟩ : ∃ n : Nat, m = n := ⟨m.toNat, by omega⟩
  have S2 := Lib.hid hs2
  clear hs2 S1
  go_wp2_with fail
  refine (pick_st 40 S2.out (by omega) (by omega)).mono ?_
  rintro e w3 ⟨q, rfl, qa, qb, hs3⟩
  have S3 := Lib.hid hs3
  have z3 := hs3.gr.size
  clear hs3 S2
  cases q0 : (q == 0)
  · cases q1 : (q == 1)
    · cases q2 : (q == 2)
      · go_wp2
        go_ret
        exact ⟨_, l, rfl, S3.out.own.ints, by omega, S3.out.gr⟩
      · go_wp2_with fail
        refine (num_st _ [30, 31, 60, 61] (S3.out.bel (bel_alloc _ _)) (by omega) (lit_own _ [30, 31, 60, 61] _ w.heap.size rfl (by omega) (by simp) (wf_lit (by simp))).ints (by simp) (lit_ne (by omega))).mono ?_
        rintro e w4 ⟨n, rfl, hn, hs4⟩
        obtain ⟨n, rfl⟩ : ∃ k : Nat, n = k := ⟨n.toNat, by simp at hn; omega⟩
        have hn' : n ≤ 61 := by simp at hn; omega
        have z4 := hs4.gr.size
        have S4 := Lib.hid hs4
        have hmk := fun W => Try.mkInts n (by omega) W
        clear hn hs4 S3
        go_wp2
        go_ret
        exact ⟨_, List.replicate n 0, rfl, (zeros_own w4 w.heap.size n z4 hn').ints, by simp; omega, only_alloc S4.out.gr _⟩
    · go_wp2
      go_ret
      exact ⟨_, _, rfl, S3.out.own.ints.take (Nat.zero_le _), by simp, S3.out.gr⟩
  · go_wp2_with fail
    refine (num_st _ [1000000000, 1000000001, -1000000001, 9223372036854775807] (S3.out.bel (bel_alloc _ _)) (by omega) (lit_own _ [1000000000, 1000000001, -1000000001, 9223372036854775807] _ w.heap.size rfl (by omega) (by simp) (wf_lit (by simp))).ints (by simp) (lit_ne (by omega))).mono ?_
    rintro e w4 ⟨n, rfl, hn, hs4⟩
    have hn' : -1000000001 ≤ n ∧ n ≤ 9223372036854775807 := by simp at hn; omega
    obtain ⟨b', cap', ev, _, _, _, _, hcells⟩ := hs4.own.openN (by omega)
    injection ev with ev1 ev2 ev3
    injection ev1 with ev1
    injection ev1 with ev1
    subst ev1
    obtain ⟨hc, hf⟩ := hcells m (by omega)
    have S4 := Lib.hid hs4
    clear hn hs4 S3 hcells ev2 ev3
    go_wp2
    go_ret
    have S7 := S4.out.set_ m n (by omega) (by omega)
    exact ⟨_, _, rfl, S7.own.ints, by rw [List.length_set]; omega, S7.gr⟩

/-- A drawn list. -/
def DrawnOne (w : World) (hi : Nat) (e : Ending) (w' : World) : Prop :=
  ∃ v l, e = .returned v ∧ Ints w' v l ∧ l.length ≤ hi ∧ Below w.heap.size w w'

set_option maxHeartbeats 2000000 in
theorem drawTableValid_any (v : Value) (code : List Int) (w : World) (hv : Bytes w v code) :
    Calls Try.prog 73 #[v] w (DrawnOne w 61) := by
  go_enter Try.func73, Try.ntmps73
  go_wp2_with fail
  refine (l9Open_any v code w hv).mono ?_
  rintro e w1 ⟨g, rfl, hg, hr1, hb1⟩
  have z1 := hb1.size
  have H1 := Lib.hid (And.intro hr1 hb1)
  have l1 := hr1.lt
  clear hr1 hb1
  go_wp2_with fail
  refine (l2Table_any g 0 _ H1.out.1 (by omega)).mono ?_
  rintro e w2 ⟨va, a, rfl, ho2, ha1, ha2, hr2, hg2⟩
  have b2 := grown_below (B := w.heap.size) hg2 (by omega) z1
  have H2 := Lib.hid (And.intro (show St w1 g (0 + 50) va a w2 from ⟨ho2, hr2, hg2, l1⟩) H1.out.2)
  clear ho2 hr2 hg2 b2 H1
  go_wp2_with fail
  refine (l2BadTable_any g _ _ _ _ _ H2.out.1 (by omega) (by omega) (by omega)).mono ?_
  rintro e w3 ⟨vb, l, rfl, hi3, hl3, hg3⟩
  have b3 := grown_below (B := w.heap.size) hg3 (by omega) (by omega)
  have H3 := Lib.hid (And.intro hi3 (H2.out.2.trans b3))
  clear hi3 hg3 b3 H2
  go_wp2
  go_ret
  exact ⟨_, l, rfl, H3.out.1, by omega, H3.out.2⟩

theorem drawDealTable_any (v : Value) (code : List Int) (w : World) (hv : Bytes w v code) :
    Calls Try.prog 38 #[v] w (DrawnOne w 61) := by
  go_enter Try.func38, Try.ntmps38
  go_wp2_with fail
  refine (drawTableValid_any v code w hv).mono ?_
  rintro e w3 ⟨vb, l, rfl, hi3, hl3, b3⟩
  go_wp2
  go_ret
  exact ⟨_, l, rfl, hi3, by omega, b3⟩

end Go.Proofs.Ytplalhehdfkipaa
