/-
  Sheets: PrintTable (impl), over strings.Builder.
-/
import Derived.Test.YtdmadaebeooaaaaGreatDoorShK
namespace Go.Proofs.YtdmadaebeooaaaaGreatDoor
open Go.RowKit
set_option linter.unusedVariables false
set_option linter.unusedSimpArgs false
set_option maxRecDepth 100000
attribute [local go_sem ↓] Go.wp_at_zero Go.wp_at_succ

/-- A builder that holds a text. -/
def Bld (w : World) (b : Nat) (T : ByteArray) : Prop := Lib.IsBuilderF 87 5 b b (Lib.byteCells T.data.toList) w
theorem bldAt_bel {w w' : World} {B b : Nat} {p : Value} {bs : List Value} (h : Lib.BuilderAtF 87 5 B b p bs w) (hb : Below w.heap.size w w') : Lib.BuilderAtF 87 5 B b p bs w' := by
  have hlt := h.lt
  obtain ⟨hB, v, hh, hown, hne⟩ := h
  exact ⟨hB, v, (hb.block b hlt).trans hh, hown.kept (row := none) ⟨hb.os, hb.tape, hb.output, hb.size, fun i hi _ => hb.block i hi⟩ (by cases v.ownBlock <;> simp), hne⟩
theorem Bld.bel {w w' : World} {b : Nat} {T : ByteArray} (h : Bld w b T) (hb : Below w.heap.size w w') : Bld w' b T := h.elim (fun x => .inl (bldAt_bel x hb)) (fun x => .inr (bldAt_bel x hb))
theorem Bld.lt {w : World} {b : Nat} {T : ByteArray} (h : Bld w b T) : b < w.heap.size := h.elim (fun x => x.lt) (fun x => x.lt)
theorem cells_app (T s : ByteArray) : Lib.byteCells (T ++ s).data.toList = Lib.byteCells T.data.toList ++ Lib.byteCells s.data.toList := by
  rw [ByteArray.data_append, Array.toList_append]
  unfold Lib.byteCells
  exact List.map_append
theorem Bld.byte (b : Nat) (T : ByteArray) (w : World) (h : Bld w b T) (hl : T.size ≤ 100000000) :
    Calls Tryz.prog 70 #[.pointer (some ⟨b, 0, none⟩), .int .u8 10] w fun e w' => e = .returned .nilIface ∧ Bld w' b (T ++ ⟨#[10]⟩) ∧ Below b w w' ∧ Lib.OthersKept 5 (some b) w w' := by
  refine (wByte_any b b _ 10 w h (by rw [Lib.byteCells_length]; have : T.data.toList.length = T.size := rfl; omega) (Nat.le_of_lt h.lt)).mono ?_
  rintro e w' ⟨rfl, h1, h2, h3⟩
  refine ⟨rfl, .inr ?_, h2, h3⟩
  rw [cells_app]
  exact h1
theorem Bld.str (b : Nat) (T s : ByteArray) (w : World) (h : Bld w b T) (hl : T.size ≤ 100000000) (hs : s.size ≤ 100000000) :
    Calls Tryz.prog 71 #[.pointer (some ⟨b, 0, none⟩), .string s] w fun e w' => e = .returned (.tuple #[.int .i64 s.size, .nilIface]) ∧ Bld w' b (T ++ s) ∧ Below b w w' ∧ Lib.OthersKept 5 (some b) w w' := by
  refine (wStr_any b b _ s w h (by rw [Lib.byteCells_length]; have : T.data.toList.length = T.size := rfl; omega) (Nat.le_of_lt h.lt)).mono ?_
  rintro e w' ⟨rfl, h1, h2, h3⟩
  refine ⟨rfl, .inr ?_, h2, h3⟩
  rw [cells_app]
  exact h1
end Go.Proofs.YtdmadaebeooaaaaGreatDoor
