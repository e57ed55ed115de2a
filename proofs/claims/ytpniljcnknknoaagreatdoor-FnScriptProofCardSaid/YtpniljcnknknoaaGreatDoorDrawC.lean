/-
  Drawn tables that may break the rules, and the two readers that draw them.
-/
import Derived.Test.YtpniljcnknknoaaGreatDoorDrawB
namespace Go.Proofs.YtpniljcnknknoaaGreatDoor
open Go.RowKit
set_option linter.unusedVariables false
set_option maxRecDepth 100000

/-- A drawn list which is only read. -/
def DrawnRead (g : Nat) (u : Value) (w w0 : World) (hi : Nat) (e : Ending) (w' : World) : Prop :=
  ∃ v l, e = .returned v ∧ Ints w' v l ∧ l.length ≤ hi ∧ w.grownBy w' (some g) ∧ Keeps g u w0 w'
theorem pick_k {w : World} {g K : Nat} {v : Value} {l : List Int} {W : World} (n : Int) (h : St w g K v l W) (hK : K ≤ 1000000000) (hn : 1 ≤ n ∧ n ≤ 9223372036854775807) :
    Calls Tryz.prog 78 #[.pointer (some ⟨g, 0, none⟩), .int .i64 n] W (fun e W' => ∃ m : Int, e = .returned (.int .i64 m) ∧ 0 ≤ m ∧ m < n ∧ St w g (K + 1) v l W' ∧ W.grownBy W' (some g)) :=
  (pick_any g K n W h.rdr hK (by omega)).mono fun e W' ⟨m, he, hm, _, hr, hg⟩ => ⟨m, he, (hm hn.1).1, (hm hn.1).2, h.grown hg hr, hg⟩
theorem num_k {w : World} {g K : Nat} {v : Value} {l : List Int} {W : World} (u : Value) (m : List Int) (h : St w g K v l W) (hK : K ≤ 1000000000) (hu : Ints W u m) (hm : 0 < m.length) (hne : ∀ a n c, u = .slice (some a) n c → 0 < m.length → a.block ≠ g) :
    Calls Tryz.prog 135 #[.pointer (some ⟨g, 0, none⟩), u] W (fun e W' => ∃ x : Int, e = .returned (.int .i64 x) ∧ x ∈ m ∧ St w g (K + 1) v l W' ∧ W.grownBy W' (some g)) :=
  (num_any g K u m W h.rdr hK hu hm hne).mono fun e W' ⟨x, he, hx, hr, hg⟩ => ⟨x, he, hx, h.grown hg hr, hg⟩

theorem zeros_own (W : World) (base n : Nat) (hb : base ≤ W.heap.size) (hn : n ≤ 61) :
    Own (W.alloc (.cells (reps n (.int .i64 0)).toArray 3)) base (.slice (some ⟨W.heap.size, 0, none⟩) n n) (List.replicate n 0) := by
  have hl : (List.replicate n (0 : Int)).length = n := List.length_replicate
  have := Own.mk' (base := base) (cap := n) (cs := reps n (.int .i64 0)) (l := List.replicate n 0) hb (Blk.new W 3 _) (by rw [hl]; exact Nat.le_refl _) (by omega) (reps_length _ _) (fun j hj => by
    rw [hl] at hj
    rw [reps_get _ hj]
    simp [at_, hj]) (fun x hx => by rw [List.eq_of_mem_replicate hx]; omega)
  rw [hl] at this
  exact this
set_option maxHeartbeats 4000000 in
set_option maxRecDepth 100000 in
theorem l2BadTable_any (g K : Nat) (w w0 : World) (v : Value) (l : List Int) (hst : St w g K v l w0) (hl1 : 1 ≤ l.length) (hl2 : l.length ≤ 60) (hK : K ≤ 100000000) :
    Calls Tryz.prog 104 #[.pointer (some ⟨g, 0, none⟩), v] w0 (DrawnRead g v w w0 61) := by
  have S1 := Lib.hid hst
  have hgw := hst.lt
  have zw := hst.gr.size
  obtain ⟨b, cap, rfl, hbb, hbw, hlc, hcap, hcells⟩ := hst.own.openN (by omega)
  clear hcells hst
  go_enter Tryz.func104, Tryz.ntmps104
  go_wp2_with fail
  refine (pick_k _ S1.out (by omega) (by omega)).mono ?_
  rintro e w2 ⟨m, rfl, ma, mb, hs2, hg2⟩
  obtain ⟨m, rfl⟩ : ∃ n : Nat, m = n := ⟨m.toNat, by omega⟩
  have S2 := Lib.hid hs2
  have K2 := Lib.hid (Keeps.grown (.slice (some ⟨b, 0, none⟩) l.length cap) hg2)
  clear hs2 S1 hg2
  go_wp2_with fail
  refine (pick_k 40 S2.out (by omega) (by omega)).mono ?_
  rintro e w3 ⟨q, rfl, qa, qb, hs3, hg3⟩
  have S3 := Lib.hid hs3
  have z3 := hs3.gr.size
  have K3 := Lib.hid (K2.out.trans (Keeps.grown _ hg3))
  clear hs3 S2 hg3 K2
  cases q0 : (q == 0)
  · cases q1 : (q == 1)
    · cases q2 : (q == 2)
      · go_wp2
        go_ret
        exact ⟨_, l, rfl, S3.out.own.ints, by omega, S3.out.gr, K3.out⟩
      · go_wp2_with fail
        refine (num_k _ [30, 31, 60, 61] (S3.out.bel (bel_alloc _ _)) (by omega) (lit_own _ [30, 31, 60, 61] _ w.heap.size rfl (by omega) (by simp) (wf_lit (by simp))).ints (by simp) (lit_ne (by omega))).mono ?_
        rintro e w4 ⟨n, rfl, hn, hs4, hg4⟩
        have K4 := Lib.hid (K3.out.trans ((Keeps.below _ (bel_alloc _ _)).trans (Keeps.grown _ hg4)))
        clear hg4
        obtain ⟨n, rfl⟩ : ∃ k : Nat, n = k := ⟨n.toNat, by simp at hn; omega⟩
        have hn' : n ≤ 61 := by simp at hn; omega
        have z4 := hs4.gr.size
        have S4 := Lib.hid hs4
        have hmk := fun W => Tryz.mkInts n (by omega) W
        clear hn hs4 S3
        go_wp2
        go_ret
        exact ⟨_, List.replicate n 0, rfl, (zeros_own w4 w.heap.size n z4 hn').ints, by simp; omega, only_alloc S4.out.gr _, K4.out.trans (Keeps.below _ (bel_alloc _ _))⟩
    · go_wp2
      go_ret
      exact ⟨_, _, rfl, S3.out.own.ints.take (Nat.zero_le _), by simp, S3.out.gr, K3.out⟩
  · go_wp2_with fail
    refine (num_k _ [1000000000, 1000000001, -1000000001, 9223372036854775807] (S3.out.bel (bel_alloc _ _)) (by omega) (lit_own _ [1000000000, 1000000001, -1000000001, 9223372036854775807] _ w.heap.size rfl (by omega) (by simp) (wf_lit (by simp))).ints (by simp) (lit_ne (by omega))).mono ?_
    rintro e w4 ⟨n, rfl, hn, hs4, hg4⟩
    have K4 := Lib.hid (K3.out.trans ((Keeps.below _ (bel_alloc _ _)).trans (Keeps.grown _ hg4)))
    clear hg4
    have hn' : -1000000001 ≤ n ∧ n ≤ 9223372036854775807 := by simp at hn; omega
    obtain ⟨b', cap', ev, _, _, _, _, hcells⟩ := hs4.own.openN (by omega)
    injection ev with ev1 ev2 ev3
    injection ev1 with ev1
    injection ev1 with ev1
    subst ev1
    obtain ⟨hc, hf⟩ := hcells m (by omega)
    have S4 := Lib.hid hs4
    clear hn hs4 S3 hcells ev2 ev3
    go_wp2
    go_ret
    have S7 := S4.out.set_ m n (by omega) (by omega)
    exact ⟨_, _, rfl, S7.own.ints, by rw [List.length_set]; omega, S7.gr, K4.out.trans (Keeps.set_ _ rfl _)⟩

/-- A drawn list. -/
def DrawnOne (w : World) (hi : Nat) (e : Ending) (w' : World) : Prop :=
  ∃ v l, e = .returned v ∧ Ints w' v l ∧ l.length ≤ hi ∧ Below w.heap.size w w'



end Go.Proofs.YtpniljcnknknoaaGreatDoor
