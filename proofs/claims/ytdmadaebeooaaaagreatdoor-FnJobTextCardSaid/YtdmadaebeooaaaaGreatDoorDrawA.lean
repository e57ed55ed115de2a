/-
  Drawn lists: l6Entries and the arguments of Interleave.
-/
import Derived.Test.YtdmadaebeooaaaaGreatDoorDraw
import Derived.Test.YtdmadaebeooaaaaGreatDoorSlices
import Derived.Deep.RegionLaw
import Derived.Deep.RegionWith
import Derived.Deep.DrawnRows
namespace Go.Proofs.YtdmadaebeooaaaaGreatDoor
open Go.RowKit
set_option linter.unusedVariables false
set_option maxRecDepth 100000
attribute [local go_sem ↓] Go.wp_at_zero Go.wp_at_succ

theorem step_app_int {ops : Array Oper} {o : Oper} {a : Act} {K : Act → World → Prop} {Q : Exit → Act → World → Prop} {E : Prop} {w : World} (hgd : o.guard = none) (s x : Operand)
    (ho : o.op = .call { callee := .builtin .append, args := #[s, x], argTypes := #[22, 22] })
    (base : Nat) (v : Value) (l : List Int) (hs : a.eval s = v) (hown : Own w base v l) (g c : Nat) (z : Int) (hx : a.eval x = .slice (some ⟨g, 0, none⟩) 1 c)
    (hcell : w.cell? ⟨g, 0, none⟩ = some (.int .i64 z)) (hz : -9223372036854775808 ≤ z ∧ z ≤ 9223372036854775807) (hl : l.length + 1 ≤ 1099511627776) (hbase : base ≤ w.heap.size)
    (h : ∀ v' w', Own w' base v' (l ++ [z]) → w.grownBy w' v.ownBlock → (v'.ownBlock = v.ownBlock ∨ v'.ownBlock = some w.heap.size) → K (a.put o.dst v') w') :
    if Region.wanted o (yielded ops a.tmps) = true then Oper.wp Tryz.prog o a w K Q else E := by
  have hw : Region.wanted o (yielded ops a.tmps) = true := by simp [Region.wanted, hgd]
  rw [if_pos hw]
  obtain ⟨i0, hi, hz0, hz1, hz2⟩ := info_parts Tryz.infoInt
  obtain ⟨v', w', hrun, h2, h3, _, h5⟩ := run_append_own_at (P := Tryz.prog) w base 22 o.type 3 i0 _ 1 8 Tryz.underlying22 hi hz0 hz1 hz2 rfl (by omega) v l.length (iv l) hown.1 ⟨g, 0, none⟩ 1 c [.int .i64 z] rfl (by
    intro j u hj
    match j, hj with
    | 0, hj => simp at hj; subst hj; simpa [Addr.add] using hcell) (by intro u hu; simp at hu; subst hu; rfl) (by unfold maxLen; omega) (by omega) hbase
  unfold Oper.wp execOp
  simp only [ho, resolve, invoke, builtin, Sem.run_bind, Sem.run_pure, Result.andThen_ok, List.map_toArray, List.map_cons, List.map_nil, hs, hx, hrun]
  refine h v' w' ⟨?_, ?_, by unfold maxLen; simp; omega⟩ h3 h5
  · rw [iv_append, List.length_append]; exact h2
  · intro n hn
    rcases List.mem_append.1 hn with hn | hn
    · exact hown.2.1 n hn
    · simp at hn; subst hn; exact hz

theorem grown_trans {a w w' : World} {g : Nat} {row : Option Nat} (h : a.grownBy w (some g)) (k : w.grownBy w' row) (hr : ∀ j, row = some j → j = g ∨ a.heap.size ≤ j) : a.grownBy w' (some g) :=
  ⟨k.os.trans h.os, k.tape.trans h.tape, k.output.trans h.output, Nat.le_trans h.size k.size, fun i hi hne => (k.block i (Nat.lt_of_lt_of_le hi h.size) (fun e => by
    rcases hr i e.symm with q | q
    · exact hne (by rw [q])
    · omega)).trans (h.block i hi hne)⟩
theorem grown_own {a w w' : World} {g : Nat} {v : Value} {l : List Int} (h : a.grownBy w (some g)) (k : w.grownBy w' v.ownBlock) (ho : Own w a.heap.size v l) : a.grownBy w' (some g) :=
  grown_trans h k fun j hj => .inr (ho.lt j hj).1
theorem grown_below {a w : World} {g B : Nat} (h : a.grownBy w (some g)) (hg : B ≤ g) (hB : B ≤ a.heap.size) : Below B a w := (Below.refl B a).grown h hB (fun k hk => by injection hk with hk; omega)

/-- Where a loop of draws stands: it has gathered l in v; the reader is K on. -/
structure St (w : World) (g K : Nat) (v : Value) (l : List Int) (W : World) : Prop where
  own : Own W w.heap.size v l
  rdr : Rdr W g K
  gr : w.grownBy W (some g)
  lt : g < w.heap.size
theorem St.bel {w : World} {g K : Nat} {v : Value} {l : List Int} {W W' : World} (h : St w g K v l W) (hb : Below W.heap.size W W') : St w g K v l W' :=
  ⟨h.own.bel hb, h.rdr.bel hb, only_below h.gr hb, h.lt⟩
theorem St.grown {w : World} {g K K' : Nat} {v : Value} {l : List Int} {W W' : World} (h : St w g K v l W) (hb : W.grownBy W' (some g)) (hr : Rdr W' g K') : St w g K' v l W' :=
  ⟨h.own.far hb (fun k hk => by injection hk with hk; have := h.lt; omega), hr, grown_trans h.gr hb (fun j hj => .inl (by injection hj with hj; exact hj.symm)), h.lt⟩
theorem St.app {w : World} {g K : Nat} {v v' : Value} {l l' : List Int} {W W' : World} (h : St w g K v l W) (ho : Own W' w.heap.size v' l') (hb : W.grownBy W' v.ownBlock) : St w g K v' l' W' :=
  ⟨ho, h.rdr.grown hb (fun k hk => by
    have h1 := (h.own.lt k hk).1
    have := h.lt
    omega), grown_own h.gr hb h.own, h.lt⟩
theorem pick_st {w : World} {g K : Nat} {v : Value} {l : List Int} {W : World} (n : Int) (h : St w g K v l W) (hK : K ≤ 1000000000) (hn : 1 ≤ n ∧ n ≤ 9223372036854775807) :
    Calls Tryz.prog 55 #[.pointer (some ⟨g, 0, none⟩), .int .i64 n] W (fun e W' => ∃ m : Int, e = .returned (.int .i64 m) ∧ 0 ≤ m ∧ m < n ∧ St w g (K + 1) v l W') :=
  (pick_any g K n W h.rdr hK (by omega)).mono fun e W' ⟨m, he, hm, _, hr, hg⟩ => ⟨m, he, (hm hn.1).1, (hm hn.1).2, h.grown hg hr⟩
theorem wrap_bd (x : Int) : -9223372036854775808 ≤ IntKind.i64.wrap x ∧ IntKind.i64.wrap x ≤ 9223372036854775807 := by
  rw [IntKind.wrap_i64]; omega
theorem prod_bd {a b A B : Int} (h0 : 0 ≤ a) (h1 : a < A) (k0 : 0 ≤ b) (k1 : b < B) : 0 ≤ a * b ∧ a * b ≤ A * B :=
  ⟨Int.mul_nonneg h0 k0, Int.mul_le_mul (by omega) (by omega) k0 (by omega)⟩

/-- A list of drawn numbers: behind it the reader is at most K' on. -/
def DrawnInts (g K' : Nat) (w : World) (lo hi : Nat) (e : Ending) (w' : World) : Prop :=
  ∃ v l, e = .returned v ∧ Own w' w.heap.size v l ∧ lo ≤ l.length ∧ l.length ≤ hi ∧ Rdr w' g K' ∧ w.grownBy w' (some g)

/-- b[:n] of a slice that reads as numbers. -/
theorem Ints.take {w : World} {A : Option Addr} {c : Nat} {l : List Int} (h : Ints w (.slice A l.length c) l) {n : Nat} (hn : n ≤ l.length) : Ints w (.slice A n c) (l.take n) := by
  obtain ⟨A', c', e, h1, h2, h3⟩ := h.open_
  injection e with e1 _ e3
  subst e1 e3
  have hl : (l.take n).length = n := by rw [List.length_take]; omega
  refine ⟨⟨A, c, by rw [iv_length, hl], by rw [iv_length, hl]; omega, by unfold maxLen; omega, fun h0 => ?_⟩, fun x hx => h.2 x (List.mem_of_mem_take hx)⟩
  rw [iv_length, hl] at h0
  obtain ⟨b, o, e, hb, hc⟩ := h3 (by rw [iv_length]; omega)
  refine ⟨b, o, e, hb, fun k u hu => hc k u ?_⟩
  rw [← hu, iv, iv, List.map_take, List.getElem?_take]
  by_cases hk : k < n
  · rw [if_pos hk]
  · rw [List.getElem?_eq_none (by rw [iv_length, hl]; omega)] at hu; cases hu

/-- Two drawn lists. -/
def DrawnTwo (w : World) (na nb : Nat) (e : Ending) (w' : World) : Prop :=
  ∃ va vb a b, e = .returned (.tuple #[va, vb]) ∧ Ints w' va a ∧ Ints w' vb b ∧ a.length ≤ na ∧ b.length ≤ nb ∧ Below w.heap.size w w'

end Go.Proofs.YtdmadaebeooaaaaGreatDoor
