/-
  Contracts of the laws' own helpers on slices of numbers.
-/
import Derived.Test.YtpniljcnknknoaaGreatDoorChecked
import Derived.Test.YtpniljcnknknoaaGreatDoorBase
namespace Go.Proofs.YtpniljcnknknoaaGreatDoor
open Go.RowKit
set_option linter.unusedVariables false

/-- v, made by the call (its block is not below base), reads as l and may be written. -/
def Own (w : World) (base : Nat) (v : Value) (l : List Int) : Prop := w.ownsRow base 3 1 v l.length (iv l) ∧ Wf l ∧ l.length ≤ maxLen
theorem Own.ints {w : World} {base : Nat} {v : Value} {l : List Int} (h : Own w base v l) : Ints w v l := ⟨Sl.own h.1 h.2.2, h.2.1⟩

theorem Tryz.infoInt : (Tryz.prog.info? 3).map (fun i => (i.zero, i.size, i.bytes)) = some (some (.int .i64 0), 1, 8) := by kernel_rfl
theorem Tryz.mkInts (n : Nat) (hn : n ≤ 35184372088832) (W : World) : (Instr.makeSlice 23 (.int .i64 (n : Int)) (.int .i64 (n : Int))).run Tryz.prog W =
    .ok (.slice (some ⟨W.heap.size, 0, none⟩) n n) (W.alloc (.cells (reps n (.int .i64 0)).toArray 3)) :=
  mk_row 23 3 _ 8 Tryz.underlying23 Tryz.infoInt rfl n (by omega) (by omega) W

theorem Own.form {w : World} {base : Nat} {v : Value} {l : List Int} (h : Own w base v l) : (v = .slice none 0 0 ∧ l = []) ∨
    ∃ g cap cs, v = .slice (some ⟨g, 0, none⟩) l.length cap ∧ base ≤ g ∧ Blk w g 3 cs ∧ l.length ≤ cap ∧ cap ≤ 9223372036854775807 ∧ cs.length = cap ∧ ∀ j, j < l.length → cs[j]? = some (.int .i64 (at_ l j)) := by
  obtain ⟨⟨hl, h⟩, _, _⟩ := h
  rcases h with ⟨rfl, hn⟩ | ⟨g, cap, cur, rfl, hg, hh, hnc, hcm, hs, ht⟩
  · exact .inl ⟨rfl, List.eq_nil_of_length_eq_zero hn⟩
  · refine .inr ⟨g, cap, cur.toList, rfl, hg, hh, hnc, by unfold maxLen at hcm; omega, by simpa using hs, fun j hj => ?_⟩
    rw [← iv_get l j hj, ← ht, List.getElem?_take, if_pos (by omega)]
theorem Own.mk' {w : World} {base g cap : Nat} {cs : List Value} {l : List Int} (hg : base ≤ g) (hb : Blk w g 3 cs) (hl : l.length ≤ cap) (hc : cap ≤ 9223372036854775807) (hs : cs.length = cap)
    (hcs : ∀ j, j < l.length → cs[j]? = some (.int .i64 (at_ l j))) (hwf : Wf l) : Own w base (.slice (some ⟨g, 0, none⟩) l.length cap) l := by
  refine ⟨⟨by rw [iv_length]; omega, .inr ⟨g, cap, cs.toArray, rfl, hg, hb, hl, by unfold maxLen; omega, by simpa using hs, ?_⟩⟩, hwf, by unfold maxLen; omega⟩
  refine isIv (by simp; omega) fun j hj => ?_
  simp only [List.getElem?_take]
  rw [if_pos (by omega)]
  exact hcs j hj
theorem Own.lt {w : World} {base : Nat} {v : Value} {l : List Int} (h : Own w base v l) : ∀ k, v.ownBlock = some k → base ≤ k ∧ k < w.heap.size := h.1.lt
theorem Own.bel {w w' : World} {base : Nat} {v : Value} {l : List Int} (h : Own w base v l) (hb : Below w.heap.size w w') : Own w' base v l :=
  ⟨h.1.kept (row := none) ⟨hb.os, hb.tape, hb.output, hb.size, fun i hi _ => hb.block i hi⟩ (by cases v.ownBlock <;> simp), h.2⟩
theorem Own.far {w w' : World} {base : Nat} {v : Value} {l : List Int} {row : Option Nat} (h : Own w base v l) (hb : w.grownBy w' row) (hr : ∀ k, row = some k → k < base) : Own w' base v l :=
  ⟨h.1.kept hb (by
    cases hv : v.ownBlock with
    | none => exact .inl rfl
    | some k => exact .inr fun e => by have := (h.1.lt k hv).1; have := hr k e.symm; omega), h.2⟩
/-- A reading of a slice whose block lies below the one that was written. -/
theorem Ints.far {w w' : World} {v : Value} {l : List Int} {row : Option Nat} {B : Nat} (h : Ints w v l) (hb : w.grownBy w' row) (hB : ∀ k, row = some k → B ≤ k)
    (hv : ∀ a n c, v = .slice (some a) n c → 0 < l.length → a.block < B) : Ints w' v l := by
  obtain ⟨⟨A, c, rfl, h1, h2, h3⟩, hwf⟩ := h
  refine ⟨⟨A, c, rfl, h1, h2, fun hn => ?_⟩, hwf⟩
  obtain ⟨b, o, rfl, hlt, hc⟩ := h3 hn
  have hbB := hv _ _ _ rfl (by rw [iv_length] at hn; exact hn)
  exact ⟨b, o, rfl, Nat.lt_of_lt_of_le hlt hb.size, fun k u hu => hb.cell (hc k u hu) (fun e => by have := hB b e.symm; simp at hbB; omega)⟩

theorem Own.nil_ (w : World) (base : Nat) : Own w base (.slice none 0 0) [] := ⟨World.ownsRow_nil _ _ _ _, fun _ h => by simp at h, by simp⟩
/-- 'out = append(out, x)': one number behind the others. -/
theorem app_int {ops : Array Oper} {rest : List Oper} {o : Oper} {a : Act} {Q : Exit → Act → World → Prop} {w : World} (hgd : o.guard = none) (s x : Operand)
    (ho : o.op = .call { callee := .builtin .append, args := #[s, x], argTypes := #[23, 23] })
    (base : Nat) (v : Value) (l : List Int) (hs : a.eval s = v) (hown : Own w base v l) (g c : Nat) (z : Int) (hx : a.eval x = .slice (some ⟨g, 0, none⟩) 1 c)
    (hcell : w.cell? ⟨g, 0, none⟩ = some (.int .i64 z)) (hz : -9223372036854775808 ≤ z ∧ z ≤ 9223372036854775807) (hl : l.length + 1 ≤ 1099511627776) (hbase : base ≤ w.heap.size)
    (h : ∀ v' w', Own w' base v' (l ++ [z]) → w.grownBy w' v.ownBlock → (v'.ownBlock = v.ownBlock ∨ v'.ownBlock = some w.heap.size) → wpList Tryz.prog ops Q rest (a.put o.dst v') w') : wpList Tryz.prog ops Q (o :: rest) a w := by
  obtain ⟨i0, hi, hz0, hz1, hz2⟩ := info_parts Tryz.infoInt
  refine wpList_append_own_at (P := Tryz.prog) w hgd s x 23 ho base 3 i0 _ 1 8 Tryz.underlying23 hi hz0 hz1 hz2 rfl (by omega) v l.length (iv l) hs hown.1 ⟨g, 0, none⟩ 1 c [.int .i64 z] hx rfl ?_ ?_ (by unfold maxLen; omega) (by omega) hbase ?_
  · intro j u hj
    match j, hj with
    | 0, hj => simp at hj; subst hj; simpa [Addr.add] using hcell
  · intro u hu; simp at hu; subst hu; rfl
  · intro v' w' h1 h2 _ h4
    refine h v' w' ⟨?_, ?_, by unfold maxLen; simp; omega⟩ h2 h4
    · rw [iv_append, List.length_append]; exact h1
    · intro n hn
      rcases List.mem_append.1 hn with hn | hn
      · exact hown.2.1 n hn
      · simp at hn; subst hn; exact hz

theorem bel_alloc (w : World) (o : Obj) : Below w.heap.size w (w.alloc o) := (Below.refl _ _).alloc (Nat.le_refl _) o
/-- '[]int{}' -/
theorem Own.empty (w : World) (base : Nat) (hb : base ≤ w.heap.size) : Own (w.alloc (.cells #[] 3)) base (.slice (some ⟨w.heap.size, 0, none⟩) 0 0) [] :=
  Own.mk' (cs := []) (l := []) hb (Blk.new w 3 []) (Nat.le_refl _) (by omega) rfl (fun j hj => absurd hj (by simp)) (fun _ h => by simp at h)
/-- What an append leaves, said of the world in which the call began. -/
theorem app_bel {w0 w w' : World} {v : Value} {l : List Int} (hb : Below w0.heap.size w0 w) (hown : Own w w0.heap.size v l) (hg : w.grownBy w' v.ownBlock) : Below w0.heap.size w0 w' :=
  hb.trans ((below_own hg hb.size fun k hk => (hown.lt k hk).1))

theorem new_cell (w : World) (t : TypeId) (u : Value) : (w.alloc (.cells #[u] t)).cell? ⟨w.heap.size, 0, none⟩ = some u := by
  exact (Blk.new w t [u]).cell 0

theorem grown_of_below {w w' : World} (h : Below w.heap.size w w') : w.grownBy w' none := ⟨h.os, h.tape, h.output, h.size, fun i hi _ => h.block i hi⟩
theorem Own.apart {w w' : World} {base : Nat} {v u : Value} {l : List Int} (h : Own w base v l) (hb : w.grownBy w' u.ownBlock) (hne : ∀ k, v.ownBlock = some k → u.ownBlock ≠ some k) : Own w' base v l :=
  ⟨h.1.kept hb (by
    cases hv : v.ownBlock with
    | none => exact .inl rfl
    | some k => exact .inr fun e => hne k hv e.symm), h.2⟩
theorem mark_bel {w0 w w' : World} {u : Value} (hb : Below w0.heap.size w0 w) (hg : w.grownBy w' u.ownBlock) (hu : ∀ k, u.ownBlock = some k → w0.heap.size ≤ k) : Below w0.heap.size w0 w' :=
  hb.trans (below_own hg hb.size hu)
theorem Ints.low {w : World} {v : Value} {l : List Int} (h : Ints w v l) : ∀ a n c, v = .slice (some a) n c → 0 < l.length → a.block < w.heap.size := by
  obtain ⟨⟨A, c, rfl, h1, h2, h3⟩, hwf⟩ := h
  intro a n c' e hl
  injection e with e1
  obtain ⟨b, o, hA, hlt, _⟩ := h3 (by rw [iv_length]; exact hl)
  rw [e1] at hA
  injection hA with hA
  rw [hA]; exact hlt

theorem own_gen {w : World} {base g n : Nat} {cs : List Value} {f : Nat → Int} (hg : base ≤ g) (hb : Blk w g 3 cs) (hl : cs.length = n) (hn : n ≤ 9223372036854775807) (hcs : ∀ j, j < n → cs[j]? = some (.int .i64 (f j)))
    (hwf : ∀ j, j < n → -9223372036854775808 ≤ f j ∧ f j ≤ 9223372036854775807) : Own w base (.slice (some ⟨g, 0, none⟩) n n) (gen f n) := by
  have := Own.mk' (l := gen f n) hg hb (by rw [gen_length]; exact Nat.le_refl n) hn hl (fun j hj => by rw [gen_length] at hj; rw [at_gen hj]; exact hcs j hj) (wf_gen hwf)
  rwa [gen_length] at this

end Go.Proofs.YtpniljcnknknoaaGreatDoor
