/-
  Contracts of slices.Clone and of an append of a whole slice of numbers.
-/
import Derived.Test.YtpniljcnknknoaaGreatDoorInts
namespace Go.Proofs.YtpniljcnknknoaaGreatDoor
open Go.RowKit
set_option linter.unusedVariables false
set_option maxRecDepth 100000

theorem run_append_of_nil {P : Program} (w : World) (base : Nat) (t ty e : TypeId) (i : TypeInfo) (size : Nat) (ht : P.underlying t = some (.slice e)) (hi : P.info? e = some i)
    (v : Value) (n : Nat) (xs : List Value) (hown : w.ownsRow base e size v n xs) (c : Nat) : (Builtin.append_ #[t, t] ty #[v, .slice none 0 c]).run P w = .ok v w := by
  rcases hown.2 with ⟨rfl, rfl⟩ | ⟨g, cap, cur, rfl, _, _, hnc, _⟩
  · simp [Builtin.append_, run_underlying ht, sizeOf, typeInfo, hi, Builtin.lenOf, Builtin.firstCells]
  · simp [Builtin.append_, run_underlying ht, sizeOf, typeInfo, hi, Builtin.lenOf, Builtin.firstCells, hnc, storeCells]

/-- 'out = append(out, xs...)' -/
theorem app_ints {ops : Array Oper} {rest : List Oper} {o : Oper} {a : Act} {Q : Exit → Act → World → Prop} {w : World} (hgd : o.guard = none) (s x : Operand)
    (ho : o.op = .call { callee := .builtin .append, args := #[s, x], argTypes := #[23, 23] })
    (base : Nat) (v u : Value) (l m : List Int) (hs : a.eval s = v) (hown : Own w base v l) (hx : a.eval x = u) (hm : Ints w u m)
    (hl : l.length + m.length ≤ 1099511627776) (hbase : base ≤ w.heap.size)
    (h : ∀ v' w', Own w' base v' (l ++ m) → w.grownBy w' v.ownBlock → (v'.ownBlock = v.ownBlock ∨ v'.ownBlock = some w.heap.size) → wpList Tryz.prog ops Q rest (a.put o.dst v') w') : wpList Tryz.prog ops Q (o :: rest) a w := by
  obtain ⟨i0, hi, hz0, hz1, hz2⟩ := info_parts Tryz.infoInt
  obtain ⟨A, c, rfl, hlc, hc, hrd⟩ := hm.open_
  have hwf : Wf (l ++ m) := by
    intro n hn
    rcases List.mem_append.1 hn with hn | hn
    · exact hown.2.1 n hn
    · exact hm.2 n hn
  rcases A with _ | ad
  · have hm0 : m = [] := by
      rcases Nat.eq_zero_or_pos m.length with h0 | h0
      · exact List.eq_nil_of_length_eq_zero h0
      · obtain ⟨b, o, e, _⟩ := hrd.ints h0
        cases e
    subst hm0
    refine wpList_plain hgd fun K hK => ?_
    have hrun := run_append_of_nil (P := Tryz.prog) w base 23 o.type 3 i0 1 Tryz.underlying23 hi v l.length (iv l) hown.1 c
    unfold Oper.wp execOp
    simp only [ho, resolve, invoke, builtin, Sem.run_bind, Sem.run_pure, Result.andThen_ok, List.map_toArray, List.map_cons, List.map_nil, hs, hx, List.length_nil, hrun]
    exact hK _ _ (h v w (by rw [List.append_nil]; exact hown) (World.grownBy.refl w _) (.inl rfl))
  · refine wpList_append_own_at (P := Tryz.prog) w hgd s x 23 ho base 3 i0 _ 1 8 Tryz.underlying23 hi hz0 hz1 hz2 rfl (by omega) v l.length (iv l) hs hown.1 ad m.length c (iv m) hx (by rw [iv_length]; omega) ?_ ?_ (by unfold maxLen; omega) (by omega) hbase ?_
    · intro j u hj
      have hjm : j < m.length := by
        rcases Nat.lt_or_ge j m.length with q | q
        · exact q
        · rw [List.getElem?_eq_none (by rw [iv_length]; exact q)] at hj; cases hj
      obtain ⟨b, o, e, _, hcell⟩ := hrd.ints (by omega)
      injection e with e
      subst e
      rw [iv_get m j hjm] at hj
      injection hj with hj
      rw [show (⟨b, o, none⟩ : Addr).add j = ⟨b, o + j, none⟩ from by unfold Addr.add; split <;> simp_all, ← hj]
      exact hcell j hjm
    · intro u hu
      simp [iv] at hu
      obtain ⟨n, _, rfl⟩ := hu
      rfl
    · intro v' w' h1 h2 _ h4
      refine h v' w' ⟨?_, hwf, by unfold maxLen; simp; omega⟩ h2 h4
      rw [iv_append, List.length_append]; exact h1

set_option maxHeartbeats 400000 in
theorem clone_any (v : Value) (l : List Int) (w : World) (hv : Ints w v l) (hl : l.length ≤ 1048576) :
    Calls Tryz.prog 111 #[v] w fun x w' => ∃ r, x = .returned r ∧ Own w' w.heap.size r l ∧ Below w.heap.size w w' := by
  have hv' := Lib.hid hv
  obtain ⟨A, c, rfl, hlc, hc, hrd⟩ := hv.open_
  have hq := fun W => Lib.run_eql_slice_nil (P := Tryz.prog) W 23 3 A l.length c 0 0 Tryz.underlying23
  rcases A with _ | ad
  · have hl0 : l = [] := by
      rcases Nat.eq_zero_or_pos l.length with h0 | h0
      · exact List.eq_nil_of_length_eq_zero h0
      · obtain ⟨b, o, e, _⟩ := hrd.ints h0
        cases e
    subst hl0
    simp only [List.length_nil] at hq
    go_enter Tryz.func111, Tryz.ntmps111
    go_wp2
    go_ret
    exact ⟨_, rfl, Own.nil_ _ _, Below.refl _ _⟩
  · have OE := Lib.hid (Own.empty w w.heap.size (Nat.le_refl _))
    go_enter Tryz.func111, Tryz.ntmps111
    go_wp2_with (at_builtin; go_must (refine app_ints rfl _ _ (by rfl) w.heap.size _ _ [] l (by rfl) (by exact OE.out) (by rfl) (by exact hv'.out.bel (bel_alloc _ _)) (by simp only [List.length_nil]; omega) (by simp) ?_); intro v1 w1 ho hg _)
    go_ret
    exact ⟨_, rfl, ho, app_bel (bel_alloc _ _) OE.out hg⟩

theorem Own.lower {w : World} {base base' : Nat} {v : Value} {l : List Int} (h : Own w base v l) (hb : base' ≤ base) : Own w base' v l := by
  refine ⟨⟨h.1.1, ?_⟩, h.2⟩
  rcases h.1.2 with q | ⟨g1, cap, cur, q1, q2, q3⟩
  · exact .inl q
  · exact .inr ⟨g1, cap, cur, q1, by omega, q3⟩
theorem at_set {l : List Int} {j : Nat} {z : Int} (i : Nat) (hj : j < l.length) : at_ (l.set j z) i = if i = j then z else at_ l i := by
  unfold at_
  simp only [List.getD, List.getElem?_set]
  by_cases e : i = j
  · subst e; simp [hj]
  · rw [if_neg (fun h => e h.symm), if_neg e]
theorem wf_set {l : List Int} {j : Nat} {z : Int} (h : Wf l) (hz : -9223372036854775808 ≤ z ∧ z ≤ 9223372036854775807) : Wf (l.set j z) := by
  intro n hn
  rcases List.mem_or_eq_of_mem_set hn with h1 | h1
  · exact h n h1
  · rw [h1]; exact hz
/-- 'v[j] = z' -/
theorem Own.set_ {w : World} {base b n cap : Nat} {l : List Int} (h : Own w base (.slice (some ⟨b, 0, none⟩) n cap) l) (j : Nat) (z : Int) (hj : j < l.length) (hz : -9223372036854775808 ≤ z ∧ z ≤ 9223372036854775807) :
    Own (w.setCell ⟨b, j, none⟩ (.int .i64 z)) base (.slice (some ⟨b, 0, none⟩) n cap) (l.set j z) := by
  rcases h.form with ⟨e, _⟩ | ⟨g1, cap1, cs, e, hg, hblk, h1, h2, h3, h4⟩
  · cases e
  · injection e with e1 e2 e3
    injection e1 with e1
    injection e1 with e1
    subst e1 e2 e3
    have := Own.mk' (l := l.set j z) (cs := cs.set j (.int .i64 z)) hg (hblk.set_ j (.int .i64 z)) (by rw [List.length_set]; exact h1) h2 (by rw [List.length_set]; exact h3) (fun i hi => by
      rw [List.length_set] at hi
      rw [at_set i hj]
      by_cases q : i = j
      · subst q; rw [List.getElem?_set_self (by omega), if_pos rfl]
      · rw [List.getElem?_set_ne (by omega), if_neg q]; exact h4 i hi) (wf_set h.2.1 hz)
    rwa [List.length_set] at this
/-- A slice of the call's own that is not empty: its block, a cell of it, and that it may be written. -/
theorem Own.openN {w : World} {base : Nat} {v : Value} {l : List Int} (h : Own w base v l) (hl : 0 < l.length) :
    ∃ b cap, v = .slice (some ⟨b, 0, none⟩) l.length cap ∧ base ≤ b ∧ b < w.heap.size ∧ l.length ≤ cap ∧ cap ≤ 9223372036854775807 ∧ ∀ j, j < l.length → w.cell? ⟨b, j, none⟩ = some (.int .i64 (at_ l j)) ∧ w.frozen? ⟨b, j, none⟩ = false := by
  rcases h.form with ⟨_, e⟩ | ⟨b, cap, cs, e, hg, hblk, h1, h2, h3, h4⟩
  · subst e; simp at hl
  · exact ⟨b, cap, e, hg, hblk.lt, h1, h2, fun j hj => ⟨by rw [hblk.cell]; exact h4 j hj, hblk.frozen j⟩⟩
/-- Two slices of the call's own never share a block. -/
def Diff (v u : Value) : Prop := ∀ k, v.ownBlock = some k → u.ownBlock ≠ some k
theorem Diff.symm {v u : Value} (h : Diff v u) : Diff u v := fun k h1 h2 => h k h2 h1

end Go.Proofs.YtpniljcnknknoaaGreatDoor
