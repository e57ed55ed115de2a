/-
  The contract of impl.ResultOf.
-/
import Derived.Test.YteemhhgioljmaaaTotal
namespace Go.Proofs.Yteemhhgioljmaaa
open Go.RowKit
set_option linter.unusedVariables false
set_option linter.unusedSimpArgs false
set_option maxRecDepth 100000

set_option maxHeartbeats 1000000 in
theorem resultOf_any (u : Value) (l : List ByteArray) (w : World) (hu : Strs w u l) (ok : engOk l = true) :
    Calls Try.prog 28 #[.agg #[u]] w fun e w' => e = .returned (.tuple #[.int .i64 (sg (sat l 0)), .bool true]) ∧ Below w.heap.size w w' := by
  have HU := Lib.hid hu
  obtain ⟨A, c, rfl, -, -, hrd⟩ := hu.open_
  obtain ⟨l1, l7, hcol⟩ := engOk_iff.1 ok
  obtain ⟨b, o, rfl, hb, hcell⟩ := hrd.strs (by omega)
  have h0 := (hcol 0 (by omega)).1
  have ca := hcell 0 (by omega)
  rw [Nat.add_zero] at ca
  clear hu hrd hcell hcol
  have K0 := Blk.new' w 29 (.slice (some ⟨b, o, none⟩) l.length c) w.heap.size rfl
  have B0 := bel_alloc w (.cells #[.slice (some ⟨b, o, none⟩) l.length c] 29)
  obtain ⟨e0, -⟩ := K0.one
  go_enter Try.func28, Try.ntmps28
  go_wp2_with fail
  refine (implEng_any _ l _ (HU.out.bel B0)).mono ?_
  rintro e w2 ⟨rfl, hb2⟩
  rw [ok]
  replace K0 := K0.below hb2 K0.lt
  replace ca := ((bel_trans B0 hb2).cell (by exact hb)).trans ca
  have HB := Lib.hid (bel_trans B0 hb2)
  clear e0 B0 hb2
  obtain ⟨e0, -⟩ := K0.one
  go_wp2_with fail
  refine (signedOf_any _ _ h0).mono ?_
  rintro e w3 ⟨rfl, rfl⟩
  go_wp2
  go_ret2
  exact ⟨rfl, HB.out⟩

end Go.Proofs.Yteemhhgioljmaaa
