/-
  Drawn tables that may break the rules, and the two readers that draw them.
-/
import Derived.Test.YtdmadaebeooaaaaGreatDoorDrawB
namespace Go.Proofs.YtdmadaebeooaaaaGreatDoor
open Go.RowKit
set_option linter.unusedVariables false
set_option maxRecDepth 100000

/-- A drawn list which is only read. -/
def DrawnRead (g : Nat) (u : Value) (w w0 : World) (hi : Nat) (e : Ending) (w' : World) : Prop :=
  ∃ v l, e = .returned v ∧ Ints w' v l ∧ l.length ≤ hi ∧ w.grownBy w' (some g) ∧ Keeps g u w0 w'
theorem pick_k {w : World} {g K : Nat} {v : Value} {l : List Int} {W : World} (n : Int) (h : St w g K v l W) (hK : K ≤ 1000000000) (hn : 1 ≤ n ∧ n ≤ 9223372036854775807) :
    Calls Tryz.prog 55 #[.pointer (some ⟨g, 0, none⟩), .int .i64 n] W (fun e W' => ∃ m : Int, e = .returned (.int .i64 m) ∧ 0 ≤ m ∧ m < n ∧ St w g (K + 1) v l W' ∧ W.grownBy W' (some g)) :=
  (pick_any g K n W h.rdr hK (by omega)).mono fun e W' ⟨m, he, hm, _, hr, hg⟩ => ⟨m, he, (hm hn.1).1, (hm hn.1).2, h.grown hg hr, hg⟩
theorem num_k {w : World} {g K : Nat} {v : Value} {l : List Int} {W : World} (u : Value) (m : List Int) (h : St w g K v l W) (hK : K ≤ 1000000000) (hu : Ints W u m) (hm : 0 < m.length) (hne : ∀ a n c, u = .slice (some a) n c → 0 < m.length → a.block ≠ g) :
    Calls Tryz.prog 113 #[.pointer (some ⟨g, 0, none⟩), u] W (fun e W' => ∃ x : Int, e = .returned (.int .i64 x) ∧ x ∈ m ∧ St w g (K + 1) v l W' ∧ W.grownBy W' (some g)) :=
  (num_any g K u m W h.rdr hK hu hm hne).mono fun e W' ⟨x, he, hx, hr, hg⟩ => ⟨x, he, hx, h.grown hg hr, hg⟩

theorem zeros_own (W : World) (base n : Nat) (hb : base ≤ W.heap.size) (hn : n ≤ 61) :
    Own (W.alloc (.cells (reps n (.int .i64 0)).toArray 3)) base (.slice (some ⟨W.heap.size, 0, none⟩) n n) (List.replicate n 0) := by
  have hl : (List.replicate n (0 : Int)).length = n := List.length_replicate
  have := Own.mk' (base := base) (cap := n) (cs := reps n (.int .i64 0)) (l := List.replicate n 0) hb (Blk.new W 3 _) (by rw [hl]; exact Nat.le_refl _) (by omega) (reps_length _ _) (fun j hj => by
    rw [hl] at hj
    rw [reps_get _ hj]
    simp [at_, hj]) (fun x hx => by rw [List.eq_of_mem_replicate hx]; omega)
  rw [hl] at this
  exact this

/-- A drawn list. -/
def DrawnOne (w : World) (hi : Nat) (e : Ending) (w' : World) : Prop :=
  ∃ v l, e = .returned v ∧ Ints w' v l ∧ l.length ≤ hi ∧ Below w.heap.size w w'



end Go.Proofs.YtdmadaebeooaaaaGreatDoor
