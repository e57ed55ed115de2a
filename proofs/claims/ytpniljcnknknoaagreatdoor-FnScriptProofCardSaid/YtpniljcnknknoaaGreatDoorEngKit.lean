/-
  Contracts of what the laws do with engines: copies, comparison, marks.
-/
import Derived.Test.YtpniljcnknknoaaGreatDoorMark
namespace Go.Proofs.YtpniljcnknknoaaGreatDoor
open Go.RowKit
set_option linter.unusedVariables false
set_option maxRecDepth 100000

/-- A block of one value. -/
theorem Blk.one {w : World} {g : Nat} {t : TypeId} {v : Value} (h : Blk w g t [v]) : w.cell? ⟨g, 0, none⟩ = some v ∧ w.frozen? ⟨g, 0, none⟩ = false := ⟨by rw [h.cell]; rfl, h.frozen 0⟩
theorem Blk.new' (w : World) (t : TypeId) (v : Value) (g : Nat) (hg : g = w.heap.size) : Blk (w.alloc (.cells #[v] t)) g t [v] := by subst hg; exact Blk.new w t [v]

theorem OwnS.lower {w : World} {base base' : Nat} {v : Value} {l : List ByteArray} (h : OwnS w base v l) (hb : base' ≤ base) : OwnS w base' v l := by
  refine ⟨⟨h.1.1, ?_⟩, h.2⟩
  rcases h.1.2 with q | ⟨g1, cap, cur, q1, q2, q3⟩
  · exact .inl q
  · exact .inr ⟨g1, cap, cur, q1, by omega, q3⟩
theorem OwnS.setCell {w : World} {base : Nat} {v : Value} {l : List ByteArray} (h : OwnS w base v l) (p : Addr) (u : Value) (hp : p.block < base) : OwnS (w.setCell p u) base v l :=
  h.far (row := some p.block) (only_setCell (World.grownBy.refl w (some p.block)) (.inl rfl) u) (fun k hk => by injection hk with hk; omega)





end Go.Proofs.YtpniljcnknknoaaGreatDoor
