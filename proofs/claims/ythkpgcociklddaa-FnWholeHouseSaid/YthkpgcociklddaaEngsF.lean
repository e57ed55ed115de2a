/-
  Lists of engines that grow; copies of them.
-/
import Derived.Test.YthkpgcociklddaaEngsE
import Derived.Test.YthkpgcociklddaaSetUp
namespace Go.Proofs.Ythkpgcociklddaa
open Go.RowKit
set_option linter.unusedVariables false
set_option linter.unusedSimpArgs false
set_option maxRecDepth 100000
attribute [local go_sem ↓] Go.wp_at_zero Go.wp_at_succ

/-- A growing list: a row of one's own whose engines' columns lie apart from it. -/
def EngsX (w : World) (base : Nat) (v : Value) (ls : List (List ByteArray)) : Prop :=
  ∃ xs, w.ownsRow base 28 1 v ls.length xs ∧ xs.length = ls.length ∧ ls.length ≤ 1048576 ∧ ∀ i, i < ls.length → Strs w (xat xs i) (eat ls i) ∧ Off (xat xs i) (eat ls i) (fun b => v.ownBlock ≠ some b)
theorem EngsX.engs {w : World} {base : Nat} {v : Value} {ls : List (List ByteArray)} (h : EngsX w base v ls) : Engs w v ls := by
  obtain ⟨xs, h1, h2, h3, h4⟩ := h
  exact ⟨xs, Sl.own h1 (by unfold maxLen; omega), h2, fun i hi => (h4 i hi).1⟩
theorem EngsX.lt {w : World} {base : Nat} {v : Value} {ls : List (List ByteArray)} (h : EngsX w base v ls) : ∀ k, v.ownBlock = some k → base ≤ k ∧ k < w.heap.size := by
  obtain ⟨xs, h1, _⟩ := h; exact h1.lt
theorem EngsX.bel {w w' : World} {base : Nat} {v : Value} {ls : List (List ByteArray)} (h : EngsX w base v ls) (hb : Below w.heap.size w w') : EngsX w' base v ls := by
  obtain ⟨xs, h1, h2, h3, h4⟩ := h
  exact ⟨xs, h1.kept (row := none) ⟨hb.os, hb.tape, hb.output, hb.size, fun i hi _ => hb.block i hi⟩ (by cases v.ownBlock <;> simp), h2, h3, fun i hi => ⟨(h4 i hi).1.bel hb, (h4 i hi).2⟩⟩
theorem EngsX.nil_ (w : World) (base : Nat) : EngsX w base (.slice none 0 0) [] := ⟨[], World.ownsRow_nil _ _ _ _, rfl, by simp, fun i h => absurd h (by simp)⟩
theorem EngsX.empty (w : World) (base : Nat) (hb : base ≤ w.heap.size) : EngsX (w.alloc (.cells #[] 28)) base (.slice (some ⟨w.heap.size, 0, none⟩) 0 0) [] :=
  ⟨[], World.ownsRow_made w #[] 0 hb (by unfold maxLen; omega) rfl, rfl, by simp, fun i h => absurd h (by simp)⟩
theorem eat_append_lo {a b : List (List ByteArray)} {i : Nat} (h : i < a.length) : eat (a ++ b) i = eat a i := by
  simp [eat, List.getD, List.getElem?_append_left h]
theorem eat_append_hi {a : List (List ByteArray)} {b : List ByteArray} : eat (a ++ [b]) a.length = b := by simp [eat, List.getD]
theorem xat_append_lo {a b : List Value} {i : Nat} (h : i < a.length) : xat (a ++ b) i = xat a i := by
  simp [xat, List.getD, List.getElem?_append_left h]
theorem xat_append_hi {a : List Value} {b : Value} : xat (a ++ [b]) a.length = b := by simp [xat, List.getD]

/-- 'out = append(out, e)': one engine behind the others. -/
theorem app_eng {ops : Array Oper} {rest : List Oper} {o : Oper} {a : Act} {Q : Exit → Act → World → Prop} {w : World} (hgd : o.guard = none) (s x : Operand)
    (ho : o.op = .call { callee := .builtin .append, args := #[s, x], argTypes := #[37, 37] })
    (base : Nat) (v : Value) (ls : List (List ByteArray)) (hs : a.eval s = v) (hown : EngsX w base v ls) (g c : Nat) (z : Value) (l : List ByteArray) (hx : a.eval x = .slice (some ⟨g, 0, none⟩) 1 c)
    (hcell : w.cell? ⟨g, 0, none⟩ = some z) (hz : Strs w z l) (hzo : Off z l (fun b => v.ownBlock ≠ some b)) (hl : ls.length + 1 ≤ 1048576) (hbase : base ≤ w.heap.size)
    (h : ∀ v' w', EngsX w' base v' (ls ++ [l]) → w.grownBy w' v.ownBlock → (v'.ownBlock = v.ownBlock ∨ v'.ownBlock = some w.heap.size) → wpList Try.prog ops Q rest (a.put o.dst v') w') : wpList Try.prog ops Q (o :: rest) a w := by
  obtain ⟨i0, hi, hz0, hz1, hz2⟩ := info_parts Try.infoEng
  obtain ⟨xs, h1, h2, h3, h4⟩ := hown
  obtain ⟨Az, cz, rfl, -, -, -⟩ := hz.open_
  refine wpList_append_own_at (P := Try.prog) w hgd s x 37 ho base 28 i0 _ 1 24 Try.underlying37 hi hz0 hz1 hz2 rfl (by omega) v ls.length xs hs h1 ⟨g, 0, none⟩ 1 c [.slice Az l.length cz] hx rfl ?_ ?_ (by unfold maxLen; omega) (by omega) hbase ?_
  · intro j u hj
    match j, hj with
    | 0, hj => simp at hj; subst hj; simpa [Addr.add] using hcell
  · intro u hu; simp at hu; subst hu; rfl
  · intro v' w' q1 q2 _ q4
    refine h v' w' ⟨xs ++ [.slice Az l.length cz], by rw [List.length_append]; exact q1, by simp [h2], by simp; omega, fun i hi => ?_⟩ q2 q4
    have offT : ∀ {x : Value} {m : List ByteArray}, Strs w x m → Off x m (fun b => v.ownBlock ≠ some b) → Strs w' x m ∧ Off x m (fun b => v'.ownBlock ≠ some b) := by
      intro x m hx ho
      refine ⟨hx.rowFar q2 (ho.mono fun b hb e => hb e.symm), ?_⟩
      intro a' n' c' e' hl'
      have p1 := ho a' n' c' e' hl'
      have p2 := hx.low a' n' c' e' hl'
      rcases q4 with q | q
      · rw [q]; exact p1
      · rw [q]; intro e2; injection e2 with e2; omega
    simp at hi
    by_cases e : i < ls.length
    · rw [eat_append_lo e, xat_append_lo (by omega)]
      exact offT (h4 i e).1 (h4 i e).2
    · have e' : i = ls.length := by omega
      subst e'
      rw [eat_append_hi]
      have := xat_append_hi (a := xs) (b := .slice Az l.length cz)
      rw [h2] at this
      rw [this]
      exact offT hz hzo
/-- What such an append leaves, said of the world in which the call began. -/
theorem app_belX {w0 w w' : World} {v : Value} {ls : List (List ByteArray)} (hb : Below w0.heap.size w0 w) (hown : EngsX w w0.heap.size v ls) (hg : w.grownBy w' v.ownBlock) : Below w0.heap.size w0 w' :=
  hb.trans (below_own hg hb.size fun k hk => (hown.lt k hk).1)



end Go.Proofs.Ythkpgcociklddaa
