/-
  Rows beside a box that was made early.
-/
import Derived.Test.YtdmadaebeooaaaaGreatDoorEngLaw
namespace Go.Proofs.YtdmadaebeooaaaaGreatDoor
open Go.RowKit
set_option linter.unusedVariables false

theorem OwnS.awayRow {w w' : World} {base ab : Nat} {v : Value} {l : List ByteArray} (h : OwnS w base v l) (hb : w.grownBy w' (some ab)) (hne : ∀ k, v.ownBlock = some k → k ≠ ab) : OwnS w' base v l :=
  ⟨h.1.kept hb (by
    cases hv : v.ownBlock with
    | none => exact .inl rfl
    | some k => exact .inr fun e => hne k hv (by injection e)), h.2⟩
theorem Own.awayRow {w w' : World} {base ab : Nat} {v : Value} {l : List Int} (h : Own w base v l) (hb : w.grownBy w' (some ab)) (hne : ∀ k, v.ownBlock = some k → k ≠ ab) : Own w' base v l :=
  ⟨h.1.kept hb (by
    cases hv : v.ownBlock with
    | none => exact .inl rfl
    | some k => exact .inr fun e => hne k hv (by injection e)), h.2⟩

end Go.Proofs.YtdmadaebeooaaaaGreatDoor
