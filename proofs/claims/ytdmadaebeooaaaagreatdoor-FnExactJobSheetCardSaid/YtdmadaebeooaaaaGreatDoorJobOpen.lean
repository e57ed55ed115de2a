/-
  A job that comes in, read.
-/
import Derived.Test.YtdmadaebeooaaaaGreatDoorJob
import Derived.ProofKit
import Derived.OpenShut
import Derived.ShutString
import Derived.ChangeOld
import Derived.Lib.SmallJoins
import Derived.SliceStrings
namespace Go.Proofs.YtdmadaebeooaaaaGreatDoor
open Go.ChangeShapes Go.WideShapes Go.ChangeAt Go.RowKit
set_option linter.unusedVariables false
set_option linter.unusedSimpArgs false
set_option maxRecDepth 100000

theorem Tryz.cells1 : Tryz.prog.cellsOf 3 = 1 := by kernel_rfl
theorem Tryz.cellsS : Tryz.prog.cellsOf 22 = 1 := by kernel_rfl
theorem Tryz.cellsL : Tryz.prog.cellsOf 24 = 3 := by kernel_rfl
theorem Tryz.cellsJ : Tryz.prog.cellsOf 26 = 9 := by kernel_rfl
section
variable {H : Type} {enc : TypeId × Value → H} {W : World} {base : Nat} {held : Bool}
theorem int_open {n : Nat} {c : Value} {x : Option (DataW H × List MemPlace)} {y : DataW H × List MemPlace} (h : DataW.trod enc Tryz.prog W base (fun _ => true) held n 3 [c] = x) (hx : x = some y) : ∃ a : Int, c = .int .i64 a ∧ -9223372036854775808 ≤ a ∧ a ≤ 9223372036854775807 := by
  obtain ⟨a, ha, -, wa⟩ := DataW.trod_int Tryz.underlying3 (h.trans hx)
  simp at ha
  subst ha
  have := i64_of_wf wa
  exact ⟨a, rfl, this.1, this.2⟩
theorem lay_open {n : Nat} {c d e : Value} {x : Option (DataW H × List MemPlace)} {y : DataW H × List MemPlace} (h : DataW.trod enc Tryz.prog W base (fun _ => true) held n 24 [c, d, e] = x) (hx : x = some y) :
    (∃ a : Int, c = .int .i64 a ∧ -9223372036854775808 ≤ a ∧ a ≤ 9223372036854775807) ∧ (∃ a : Int, d = .int .i64 a ∧ -9223372036854775808 ≤ a ∧ a ≤ 9223372036854775807) ∧ (∃ a : Int, e = .int .i64 a ∧ -9223372036854775808 ≤ a ∧ a ≤ 9223372036854775807) := by
  obtain ⟨xs, m, _, hx', _, hlen, hg⟩ := DataW.trod_struct Tryz.underlying24 (h.trans hx)
  have hl : xs.length = 3 := hlen
  have g0 : DataW.trod enc Tryz.prog W base (fun _ => true) held m 3 (List.take (Tryz.prog.cellsOf 3) [c, d, e]) = xs[0]? := hg 0 _ rfl
  have g1 : DataW.trod enc Tryz.prog W base (fun _ => true) held m 3 (List.take (Tryz.prog.cellsOf 3) [d, e]) = xs[1]? := hg 1 _ rfl
  have g2 : DataW.trod enc Tryz.prog W base (fun _ => true) held m 3 (List.take (Tryz.prog.cellsOf 3) [e]) = xs[2]? := hg 2 _ rfl
  rw [Tryz.cells1] at g0 g1 g2
  exact ⟨int_open g0 (List.getElem?_eq_getElem (by omega)), int_open g1 (List.getElem?_eq_getElem (by omega)), int_open g2 (List.getElem?_eq_getElem (by omega))⟩
theorem ints_open {n : Nat} {c : Value} {x : Option (DataW H × List MemPlace)} {y : DataW H × List MemPlace} (h : DataW.trod enc Tryz.prog W base (fun _ => true) held n 22 [c] = x) (hx : x = some y) : ∃ l, Ints W c l := by
  rcases open_ints Tryz.underlying22 Tryz.underlying3 (by kernel_rfl) (h.trans hx) with ⟨hcs, _⟩ | ⟨x, l, c, zs, hcs, _, hl, hm, hz, _, hcell, hwz⟩
  · simp at hcs
    subst hcs
    exact ⟨[], Ints.nil_ _⟩
  · simp at hcs
    subst hcs
    exact ⟨_, Ints.of_cells hl hm (by simpa using hz) hcell hwz⟩
theorem nine {b : Array Value} (h : b.size = 9) : ∃ c0 c1 c2 c3 c4 c5 c6 c7 c8, b = #[c0, c1, c2, c3, c4, c5, c6, c7, c8] := by
  obtain ⟨l⟩ := b
  match l, h with
  | [c0, c1, c2, c3, c4, c5, c6, c7, c8], _ => exact ⟨c0, c1, c2, c3, c4, c5, c6, c7, c8, rfl⟩
theorem job_open {r : Reach} {b0 : Nat} {v : Value} {d : DataW H} {p : List MemPlace} (hv : Value.okWide Tryz.prog W r b0 26 v) (h : DataW.Trod enc Tryz.prog W base (fun _ => true) held 26 v d p) :
    ∃ u j, v = jobV u j ∧ Ints W u j.poly ∧ j.In := by
  obtain ⟨b, rfl, hz⟩ := okWide_struct Tryz.underlying26 hv
  obtain ⟨c0, c1, c2, c3, c4, c5, c6, c7, c8, rfl⟩ := nine (hz.trans Tryz.cellsJ)
  obtain ⟨fuel, hf⟩ := h
  obtain ⟨xs, m, _, hx', _, hlen, hg⟩ := DataW.trod_struct Tryz.underlying26 hf
  have hl : xs.length = 7 := hlen
  have g0 : DataW.trod enc Tryz.prog W base (fun _ => true) held m 22 (List.take (Tryz.prog.cellsOf 22) [c0, c1, c2, c3, c4, c5, c6, c7, c8]) = xs[0]? := hg 0 _ rfl
  have g1 : DataW.trod enc Tryz.prog W base (fun _ => true) held m 3 (List.take (Tryz.prog.cellsOf 3) [c1, c2, c3, c4, c5, c6, c7, c8]) = xs[1]? := hg 1 _ rfl
  have g2 : DataW.trod enc Tryz.prog W base (fun _ => true) held m 3 (List.take (Tryz.prog.cellsOf 3) [c2, c3, c4, c5, c6, c7, c8]) = xs[2]? := hg 2 _ rfl
  have g3 : DataW.trod enc Tryz.prog W base (fun _ => true) held m 3 (List.take (Tryz.prog.cellsOf 3) [c3, c4, c5, c6, c7, c8]) = xs[3]? := hg 3 _ rfl
  have g4 : DataW.trod enc Tryz.prog W base (fun _ => true) held m 3 (List.take (Tryz.prog.cellsOf 3) [c4, c5, c6, c7, c8]) = xs[4]? := hg 4 _ rfl
  have g5 : DataW.trod enc Tryz.prog W base (fun _ => true) held m 3 (List.take (Tryz.prog.cellsOf 3) [c5, c6, c7, c8]) = xs[5]? := hg 5 _ rfl
  have g6 : DataW.trod enc Tryz.prog W base (fun _ => true) held m 24 (List.take (Tryz.prog.cellsOf 24) [c6, c7, c8]) = xs[6]? := hg 6 _ rfl
  rw [Tryz.cells1] at g1 g2 g3 g4 g5
  rw [Tryz.cellsS] at g0
  rw [Tryz.cellsL] at g6
  obtain ⟨l, hl0⟩ := ints_open g0 (List.getElem?_eq_getElem (by omega))
  obtain ⟨a1, rfl, h1⟩ := int_open g1 (List.getElem?_eq_getElem (by omega))
  obtain ⟨a2, rfl, h2⟩ := int_open g2 (List.getElem?_eq_getElem (by omega))
  obtain ⟨a3, rfl, h3⟩ := int_open g3 (List.getElem?_eq_getElem (by omega))
  obtain ⟨a4, rfl, h4⟩ := int_open g4 (List.getElem?_eq_getElem (by omega))
  obtain ⟨a5, rfl, h5⟩ := int_open g5 (List.getElem?_eq_getElem (by omega))
  obtain ⟨⟨a6, rfl, h6⟩, ⟨a7, rfl, h7⟩, ⟨a8, rfl, h8⟩⟩ := lay_open g6 (List.getElem?_eq_getElem (by omega))
  exact ⟨c0, ⟨l, a1, a2, a3, a4, a5, a6, a7, a8⟩, rfl, hl0, ⟨h1, h2, h3, h4, h5, h6, h7, h8⟩⟩
end

end Go.Proofs.YtdmadaebeooaaaaGreatDoor
