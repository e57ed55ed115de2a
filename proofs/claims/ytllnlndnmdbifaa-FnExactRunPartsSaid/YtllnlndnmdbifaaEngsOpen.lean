/-
  A list of engines that comes in, read.
-/
import Derived.Test.YtllnlndnmdbifaaEngs
import Derived.ProofKit
import Derived.OpenShut
import Derived.ShutString
import Derived.ChangeOld
import Derived.ChangeSame
import Derived.Deep.Slices
import Derived.Deep.Fields
import Derived.Lib.SmallJoins
import Derived.SliceStrings
namespace Go.Proofs.Ytllnlndnmdbifaa
open Go.ChangeShapes Go.WideShapes Go.ChangeAt Go.RowKit
set_option linter.unusedVariables false
set_option linter.unusedSimpArgs false
set_option maxRecDepth 100000

theorem Try.cellsE : Try.prog.cellsOf 24 = 1 := by kernel_rfl
theorem Try.cellsSS : Try.prog.cellsOf 22 = 1 := by kernel_rfl
section
variable {H : Type} {enc : TypeId × Value → H} {W : World} {base : Nat} {held : Bool}
theorem strs_open {n : Nat} {c : Value} {y : DataW H × List MemPlace} (h : DataW.trod enc Try.prog W base (fun _ => true) held n 22 [c] = some y) : ∃ l, Strs W c l := by
  rcases open_strings Try.underlying22 Try.underlying9 (by kernel_rfl) h with ⟨hcs, _⟩ | ⟨x, l, c, zs, hcs, _, hl, hm, hz, _, hcell, hwz⟩
  · simp at hcs
    subst hcs
    exact ⟨[], Strs.nil_ _⟩
  · simp at hcs
    subst hcs
    exact ⟨_, Strs.of_cells hl hm (by simpa using hz) hcell hwz⟩
theorem engs_open {r : Reach} {b0 : Nat} {v : Value} {d : DataW H} {p : List MemPlace} (hv : Value.okWide Try.prog W r b0 43 v) (h : DataW.Trod enc Try.prog W base (fun _ => true) held 43 v d p) :
    ∃ ls, Engs W v ls := by
  obtain ⟨A, len, cap, rfl⟩ := okWide_slice Try.underlying43 hv
  obtain ⟨fuel, hf⟩ := h
  rcases Go.Deep.open_slice Try.underlying43 hf with ⟨hcs, _⟩ | ⟨a, len', cap', m, n, D, Pl, hcs, hb, hl, hm, hmm, hx, hi⟩
  · simp [Value.cells] at hcs
    obtain ⟨rfl, rfl, rfl⟩ := hcs
    exact ⟨[], Engs.nil_ _⟩
  · simp [Value.cells] at hcs
    obtain ⟨rfl, rfl, rfl⟩ := hcs
    simp only [if_true] at hmm
    subst hmm
    have key : ∀ i, ∃ q : Value × List ByteArray, i < m → W.cell? (a.add i) = some q.1 ∧ Strs W q.1 q.2 := by
      intro i
      by_cases him : i < m
      · obtain ⟨cs', hc, ht'⟩ := hi i him
        rw [Try.cellsE] at hc
        obtain ⟨_, hcl, hat⟩ := World.cells?_some hc
        obtain ⟨c, rfl⟩ : ∃ c, cs' = [c] := List.length_eq_one_iff.1 hcl
        obtain ⟨y0, n', _, _, hf0⟩ := trod_struct1 Try.underlying24 ht'
        have hf1 : DataW.trod enc Try.prog W base (fun _ => true) held n' 22 (List.take (Try.prog.cellsOf 22) [c]) = some y0 := hf0
        rw [Try.cellsSS] at hf1
        obtain ⟨l, hl⟩ := strs_open hf1
        have h0 := hat 0 (by simp)
        rw [Go.Deep.add_add, Nat.mul_one, Nat.add_zero] at h0
        exact ⟨(c, l), fun _ => ⟨h0, hl⟩⟩
      · exact ⟨(.slice none 0 0, []), fun h => absurd h him⟩
    obtain ⟨f, hf2⟩ := Classical.axiomOfChoice key
    refine ⟨(List.range len).map (fun i => (f i).2), (List.range len).map (fun i => (f i).1), ⟨some a, m, by simp, by simp; exact hl, hm, fun hn => ?_⟩, by simp, fun i hi2 => ?_⟩
    · simp at hn
      have h0 := (hf2 0 (by omega)).1
      obtain ⟨b, off, spot⟩ := a
      have hspot : spot = Option.none := by simpa [Addr.add] using World.cell?_spot h0
      subst hspot
      refine ⟨b, off, rfl, by simpa [Addr.add] using World.block_lt_of_cell? W _ h0, fun k u hu => ?_⟩
      have hk : k < len := by
        rcases Nat.lt_or_ge k len with h | h
        · exact h
        · rw [List.getElem?_eq_none (by simp; exact h)] at hu; cases hu
      have hg := (hf2 k (by omega)).1
      rw [show (⟨b, off, Option.none⟩ : Addr).add k = ⟨b, off + k, Option.none⟩ from by unfold Addr.add; split <;> simp_all] at hg
      rw [hg, ← hu]
      simp [hk]
    · simp at hi2
      have := (hf2 i (by omega)).2
      simpa [xat, eat, List.getD, hi2] using this
end

end Go.Proofs.Ytllnlndnmdbifaa
