/-
  Contracts of RunEngine (spec) and RunCascade (both).
-/
import Derived.Test.YthkpgcociklddaaCasc
import Derived.Test.YthkpgcociklddaaJoinB
import Derived.Test.YthkpgcociklddaaTotal
namespace Go.Proofs.Ythkpgcociklddaa
open Go.RowKit
set_option linter.unusedVariables false
set_option linter.unusedSimpArgs false
set_option maxRecDepth 100000
attribute [local go_sem ↓] Go.wp_at_zero Go.wp_at_succ

/-- the block of a slice that is not empty. -/
def Off (x : Value) (l : List ByteArray) (Q : Nat → Prop) : Prop := ∀ a n c, x = .slice (some a) n c → 0 < l.length → Q a.block
theorem Off.mono {x : Value} {l : List ByteArray} {Q R : Nat → Prop} (h : Off x l Q) (hk : ∀ k, Q k → R k) : Off x l R := fun a n c e hl => hk _ (h a n c e hl)
theorem Strs.off {w : World} {x : Value} {l : List ByteArray} (h : Strs w x l) : Off x l (fun k => k < w.heap.size) := h.low
theorem OwnS.off {w : World} {base : Nat} {x : Value} {l : List ByteArray} (h : OwnS w base x l) : Off x l (fun k => base ≤ k) := by
  intro a n c e hl
  rcases h.form with ⟨rfl, _⟩ | ⟨g, cap, cs, rfl, hg, _⟩
  · cases e
  · injection e with e1; injection e1 with e1; rw [← e1]; exact hg
theorem Strs.setFar {w : World} {x : Value} {l : List ByteArray} (h : Strs w x l) (p : Addr) (u : Value) (hp : Off x l (fun k => p.block ≠ k)) : Strs (w.setCell p u) x l := by
  obtain ⟨⟨A, c, rfl, h1, h2, h3⟩, hwf⟩ := h
  refine ⟨⟨A, c, rfl, h1, h2, fun hn => ?_⟩, hwf⟩
  obtain ⟨b, o, rfl, hlt, hc⟩ := h3 hn
  have hb := hp _ _ _ rfl (by rw [sv_length] at hn; exact hn)
  exact ⟨b, o, rfl, by simpa using hlt, fun k u hu => (World.cell?_setCell_far _ _ _ _ (by simpa using hb)).trans (hc k u hu)⟩
theorem Strs.rowFar {w w' : World} {x : Value} {l : List ByteArray} {row : Option Nat} (h : Strs w x l) (hg : w.grownBy w' row) (hx : Off x l (fun k => some k ≠ row)) : Strs w' x l := by
  obtain ⟨⟨A, c, rfl, h1, h2, h3⟩, hwf⟩ := h
  refine ⟨⟨A, c, rfl, h1, h2, fun hn => ?_⟩, hwf⟩
  obtain ⟨b, o, rfl, hlt, hc⟩ := h3 hn
  have hb := hx _ _ _ rfl (by rw [sv_length] at hn; exact hn)
  exact ⟨b, o, rfl, Nat.lt_of_lt_of_le hlt hg.size, fun k u hu => hg.cell (hc k u hu) (fun e => hb e)⟩
theorem Own.setCell {w : World} {base : Nat} {v : Value} {l : List Int} (h : Own w base v l) (p : Addr) (u : Value) (hp : p.block < base) : Own (w.setCell p u) base v l :=
  h.far (row := some p.block) (only_setCell (World.grownBy.refl w (some p.block)) (.inl rfl) u) (fun k hk => by injection hk with hk; omega)
theorem runS_succ (l : List ByteArray) (n : Nat) : runS l (n + 1) = runS l n ++ [sg (sat (turnN l n) 0)] := gen_succ _ _
theorem runS_length (l : List ByteArray) (n : Nat) : (runS l n).length = n := gen_length _ _
/-- Numbers of one's own and a bool. -/
def IntsB (w : World) (l : List Int) (q : Bool) (e : Ending) (w' : World) : Prop :=
  ∃ r, e = .returned (.tuple #[r, .bool q]) ∧ Own w' w.heap.size r l ∧ Below w.heap.size w w'
def runOk (l : List ByteArray) (n : Int) : Bool := engOk l && inB n 0 60
def runL (l : List ByteArray) (n : Int) : List Int := if runOk l n = true then runS l n.toNat else []
theorem runOk_e {l : List ByteArray} {n : Int} (h : engOk l = false) : runOk l n = false := by simp [runOk, h]
theorem runOk_n {l : List ByteArray} {n : Int} (h : inB n 0 60 = false) : runOk l n = false := by simp [runOk, h]
theorem runL_no {l : List ByteArray} {n : Int} (h : runOk l n = false) : runL l n = [] := by simp [runL, h]
theorem runL_yes {l : List ByteArray} {n : Nat} (h : runOk l n = true) : runL l n = runS l n := by simp [runL, h]
theorem eng0 {l : List ByteArray} (h : engOk l = true) (n : Nat) : colOk (sat (turnN l n) 0) = true := ((engOk_iff.1 (turnN_ok h n)).2.2 0 (engOk_iff.1 (turnN_ok h n)).1).1



end Go.Proofs.Ythkpgcociklddaa
