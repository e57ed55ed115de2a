/-
  Drawn lists of engines, counts and sizes.
-/
import Derived.Test.YteemhhgioljmaaaDrawG
import Derived.Test.YteemhhgioljmaaaDrawC
import Derived.Test.YteemhhgioljmaaaEngsF
import Derived.Test.YteemhhgioljmaaaTotDraw
namespace Go.Proofs.Yteemhhgioljmaaa
open Go.RowKit
set_option linter.unusedVariables false
set_option linter.unusedSimpArgs false
set_option maxRecDepth 100000
attribute [local go_sem ↓] Go.wp_at_zero Go.wp_at_succ

/-- A growing list whose blocks, and those of its engines, lie at base or above. -/
def EngsZ (w : World) (base : Nat) (v : Value) (ls : List (List ByteArray)) : Prop :=
  ∃ xs, w.ownsRow base 29 1 v ls.length xs ∧ xs.length = ls.length ∧ ls.length ≤ 1048576 ∧ ∀ i, i < ls.length → Strs w (xat xs i) (eat ls i) ∧ Off (xat xs i) (eat ls i) (fun b => v.ownBlock ≠ some b ∧ base ≤ b)
theorem EngsZ.engs {w : World} {base : Nat} {v : Value} {ls : List (List ByteArray)} (h : EngsZ w base v ls) : Engs w v ls := by
  obtain ⟨xs, h1, h2, h3, h4⟩ := h
  exact ⟨xs, Sl.own h1 (by unfold maxLen; omega), h2, fun i hi => (h4 i hi).1⟩
theorem EngsZ.lt {w : World} {base : Nat} {v : Value} {ls : List (List ByteArray)} (h : EngsZ w base v ls) : ∀ k, v.ownBlock = some k → base ≤ k ∧ k < w.heap.size := by
  obtain ⟨xs, h1, _⟩ := h; exact h1.lt
theorem EngsZ.bel {w w' : World} {base : Nat} {v : Value} {ls : List (List ByteArray)} (h : EngsZ w base v ls) (hb : Below w.heap.size w w') : EngsZ w' base v ls := by
  obtain ⟨xs, h1, h2, h3, h4⟩ := h
  exact ⟨xs, h1.kept (row := none) ⟨hb.os, hb.tape, hb.output, hb.size, fun i hi _ => hb.block i hi⟩ (by cases v.ownBlock <;> simp), h2, h3, fun i hi => ⟨(h4 i hi).1.bel hb, (h4 i hi).2⟩⟩
theorem EngsZ.far {w w' : World} {base : Nat} {v : Value} {ls : List (List ByteArray)} {row : Option Nat} (h : EngsZ w base v ls) (hb : w.grownBy w' row) (hr : ∀ k, row = some k → k < base) : EngsZ w' base v ls := by
  obtain ⟨xs, h1, h2, h3, h4⟩ := h
  exact ⟨xs, h1.kept hb (by
    cases hv : v.ownBlock with
    | none => exact .inl rfl
    | some k => exact .inr fun e => by have := (h1.lt k hv).1; have := hr k e.symm; omega), h2, h3, fun i hi => ⟨(h4 i hi).1.rowFar hb ((h4 i hi).2.mono fun b hb2 e => by have := hr b e.symm; omega), (h4 i hi).2⟩⟩
theorem EngsZ.empty (w : World) (base : Nat) (hb : base ≤ w.heap.size) : EngsZ (w.alloc (.cells #[] 29)) base (.slice (some ⟨w.heap.size, 0, none⟩) 0 0) [] :=
  ⟨[], World.ownsRow_made w #[] 0 hb (by unfold maxLen; omega) rfl, rfl, by simp, fun i h => absurd h (by simp)⟩

/-- 'out = append(out, e)'. -/
theorem app_engZ {ops : Array Oper} {rest : List Oper} {o : Oper} {a : Act} {Q : Exit → Act → World → Prop} {w : World} (hgd : o.guard = none) (s x : Operand)
    (ho : o.op = .call { callee := .builtin .append, args := #[s, x], argTypes := #[34, 34] })
    (base : Nat) (v : Value) (ls : List (List ByteArray)) (hs : a.eval s = v) (hown : EngsZ w base v ls) (g c : Nat) (z : Value) (l : List ByteArray) (hx : a.eval x = .slice (some ⟨g, 0, none⟩) 1 c)
    (hcell : w.cell? ⟨g, 0, none⟩ = some z) (hz : Strs w z l) (hzo : Off z l (fun b => v.ownBlock ≠ some b ∧ base ≤ b)) (hl : ls.length + 1 ≤ 1048576) (hbase : base ≤ w.heap.size)
    (h : ∀ v' w', EngsZ w' base v' (ls ++ [l]) → w.grownBy w' v.ownBlock → (v'.ownBlock = v.ownBlock ∨ v'.ownBlock = some w.heap.size) → wpList Try.prog ops Q rest (a.put o.dst v') w') : wpList Try.prog ops Q (o :: rest) a w := by
  obtain ⟨i0, hi, hz0, hz1, hz2⟩ := info_parts Try.infoEng
  obtain ⟨xs, h1, h2, h3, h4⟩ := hown
  obtain ⟨Az, cz, rfl, -, -, -⟩ := hz.open_
  refine wpList_append_own_at (P := Try.prog) w hgd s x 34 ho base 29 i0 _ 1 24 Try.underlying34 hi hz0 hz1 hz2 rfl (by omega) v ls.length xs hs h1 ⟨g, 0, none⟩ 1 c [.slice Az l.length cz] hx rfl ?_ ?_ (by unfold maxLen; omega) (by omega) hbase ?_
  · intro j u hj
    match j, hj with
    | 0, hj => simp at hj; subst hj; simpa [Addr.add] using hcell
  · intro u hu; simp at hu; subst hu; rfl
  · intro v' w' q1 q2 _ q4
    refine h v' w' ⟨xs ++ [.slice Az l.length cz], by rw [List.length_append]; exact q1, by simp [h2], by simp; omega, fun i hi => ?_⟩ q2 q4
    have offT : ∀ {x : Value} {m : List ByteArray}, Strs w x m → Off x m (fun b => v.ownBlock ≠ some b ∧ base ≤ b) → Strs w' x m ∧ Off x m (fun b => v'.ownBlock ≠ some b ∧ base ≤ b) := by
      intro x m hx ho
      refine ⟨hx.rowFar q2 (ho.mono fun b hb e => hb.1 e.symm), ?_⟩
      intro a' n' c' e' hl'
      have p1 := ho a' n' c' e' hl'
      have p2 := hx.low a' n' c' e' hl'
      rcases q4 with q | q
      · rw [q]; exact p1
      · rw [q]; exact ⟨by intro e2; injection e2 with e2; omega, p1.2⟩
    simp at hi
    by_cases e : i < ls.length
    · rw [eat_append_lo e, xat_append_lo (by omega)]
      exact offT (h4 i e).1 (h4 i e).2
    · have e' : i = ls.length := by omega
      subst e'
      rw [eat_append_hi]
      have := xat_append_hi (a := xs) (b := .slice Az l.length cz)
      rw [h2] at this
      rw [this]
      exact offT hz hzo

/-- Where drawing a list of engines stands. -/
structure StZ (w : World) (g K : Nat) (v : Value) (ls : List (List ByteArray)) (W : World) : Prop where
  own : EngsZ W w.heap.size v ls
  rdr : Rdr W g K
  gr : w.grownBy W (some g)
  lt : g < w.heap.size
theorem StZ.bel {w : World} {g K : Nat} {v : Value} {l : List (List ByteArray)} {W W' : World} (h : StZ w g K v l W) (hb : Below W.heap.size W W') : StZ w g K v l W' :=
  ⟨h.own.bel hb, h.rdr.bel hb, only_below h.gr hb, h.lt⟩
theorem StZ.grown {w : World} {g K K' : Nat} {v : Value} {l : List (List ByteArray)} {W W' : World} (h : StZ w g K v l W) (hb : W.grownBy W' (some g)) (hr : Rdr W' g K') : StZ w g K' v l W' :=
  ⟨h.own.far hb (fun k hk => by injection hk with hk; have := h.lt; omega), hr, grown_trans h.gr hb (fun j hj => .inl (by injection hj with hj; exact hj.symm)), h.lt⟩
theorem StZ.app {w : World} {g K : Nat} {v v' : Value} {l l' : List (List ByteArray)} {W W' : World} (h : StZ w g K v l W) (ho : EngsZ W' w.heap.size v' l') (hb : W.grownBy W' v.ownBlock) : StZ w g K v' l' W' :=
  ⟨ho, h.rdr.grown hb (fun k hk => by have h1 := (h.own.lt k hk).1; have := h.lt; omega), grown_trans h.gr hb (fun j hj => .inr (h.own.lt j hj).1), h.lt⟩

end Go.Proofs.Yteemhhgioljmaaa
