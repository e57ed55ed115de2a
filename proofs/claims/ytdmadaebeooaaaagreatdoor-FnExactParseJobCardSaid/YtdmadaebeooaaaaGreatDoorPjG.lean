/-
  Numbers parsed by the library's means: parseNumber (impl).
-/
import Derived.Test.YtdmadaebeooaaaaGreatDoorPjE
import Derived.Lib.AtoiErrMem
import Derived.Lib.AtoiBound
import Derived.WalkSpells
namespace Go.Proofs.YtdmadaebeooaaaaGreatDoor
open Go.RowKit
set_option linter.unusedVariables false
set_option linter.unusedSimpArgs false
set_option maxRecDepth 100000
attribute [local go_sem ↓] Go.wp_at_zero Go.wp_at_succ

/-- What the library's parsers want of the package-level variables: the table of powers, some bound of bytealg, the sentinel of a syntax error. -/
def Glb (w : World) : Prop := Tab w ∧ (∃ m : Int, w.cell? ⟨0, 0, none⟩ = some (.int .i64 m)) ∧ ∃ (tp : TypeId) (p : Value), w.cell? ⟨3, 0, none⟩ = some (.iface tp p)
theorem Glb.bel {w w' : World} (h : Glb w) (hb : Below w.heap.size w w') : Glb w' := by
  obtain ⟨h1, ⟨m, h2⟩, tp, p, h3⟩ := h
  exact ⟨h1.bel hb, ⟨m, (hb.cell (World.block_lt_of_cell? _ _ h2)).trans h2⟩, tp, p, (hb.cell (World.block_lt_of_cell? _ _ h3)).trans h3⟩
theorem trim_len (l : List UInt8) : l.length ≤ (Lib.trimPrefix l [45]).length + 1 := by
  unfold Lib.trimPrefix
  split
  · simp; omega
  · omega
theorem numT_long {s : ByteArray} (h : 17 < (Lib.trimPrefix s.data.toList [45]).length) : numT s = none := by
  apply numT_none
  intro n hn
  have := (numO_some hn).2
  omega
theorem numT_atoi_no {s : ByteArray} (h : Lib.atoi s.data.toList = none) : numT s = none := by unfold numT numO; rw [h]
theorem numT_atoi {s : ByteArray} {n : Int} (hl : (Lib.trimPrefix s.data.toList [45]).length ≤ 17) (h : Lib.atoi s.data.toList = some n) : numT s = if itoaS n = s then some n else none := by
  unfold numT numO
  rw [h]
  have e : (Lib.itoa n = s.data.toList ∧ (Lib.trimPrefix s.data.toList [45]).length ≤ 17) ↔ itoaS n = s := by
    constructor
    · rintro ⟨h1, -⟩
      unfold itoaS
      rw [h1]
    · intro h1
      refine ⟨?_, hl⟩
      rw [← h1]
      exact (data_baL _).symm
  simp only [e]
theorem atoi_size {s : ByteArray} (h : (Lib.trimPrefix s.data.toList [45]).length ≤ 17) : s.size ≤ 18 := by
  have := trim_len s.data.toList
  have e : s.data.toList.length = s.size := rfl
  omega
theorem bne_of2 {x y : ByteArray} (h : x ≠ y) : (!x.toList == y.toList) = true := by
  simp [ByteArray.toList_eq]
  intro e
  exact h (ByteArray.ext (by first | exact e | exact Array.toList_inj.1 e))
set_option maxHeartbeats 4000000 in
theorem parseNum_any (t : ByteArray) (w : World) (ht : t.size ≤ 1048576) (hg : Glb w) :
    Calls Tryz.prog 76 #[.string t] w fun e w' => NumE t e ∧ Below w.heap.size w w' := by
  have HG := Lib.hid hg
  clear hg
  obtain ⟨z, hz⟩ : ∃ z : ByteArray, (⟨(Lib.trimPrefix t.data.toList [45]).toArray⟩ : ByteArray) = z := ⟨_, rfl⟩
  have hzs : z.size = (Lib.trimPrefix t.data.toList [45]).length := by rw [← hz]; rfl
  have HZ := Lib.hid hzs
  have HZ0 := Lib.hid hz
  clear hz hzs
  go_enter Tryz.func76, Tryz.ntmps76
  go_wp2_with fail
  refine (Tryz.strings_TrimPrefix t ⟨#[45]⟩ w).mono ?_
  rintro e w2 ⟨rfl, rfl⟩
  rw [show (⟨#[45]⟩ : ByteArray).data.toList = [45] from rfl, HZ0.out]
  by_cases hl : 17 < z.size
  · have HN := Lib.hid (numT_long (s := t) (by rw [← HZ.out]; exact hl))
    have hli : (17 : Int) < (z.size : Int) := by omega
    go_wp2
    go_ret2
    exact ⟨NumE.bad HN.out, Below.refl _ _⟩
  · have hl17 : (Lib.trimPrefix t.data.toList [45]).length ≤ 17 := by rw [← HZ.out]; omega
    have h18 := atoi_size hl17
    have hli : ¬ (17 : Int) < (z.size : Int) := by omega
    have HL := Lib.hid hl17
    clear hl17
    cases ha : Lib.atoi t.data.toList with
    | none =>
      have HN := Lib.hid (numT_atoi_no ha)
      have HA := Lib.hid ha
      clear ha
      obtain ⟨tp, p, hv⟩ := HG.out.2.2
      have HV := Lib.hid hv
      clear hv
      go_wp2_with fail
      refine (Tryz.strconv_Atoi_err t h18 HA.out _ w2 HV.out (.inr ⟨_, _, rfl⟩)).mono ?_
      rintro e w3 ⟨N, rfl, -, -, b⟩
      go_wp2
      go_ret2
      exact ⟨NumE.bad HN.out, b⟩
    | some n =>
      have HN := Lib.hid (numT_atoi HL.out ha)
      have hbd := Lib.atoi_bound ha h18
      have HA := Lib.hid ha
      clear ha
      go_wp2_with fail
      refine (Tryz.strconv_Atoi t n h18 HA.out w2).mono ?_
      rintro e w3 ⟨rfl, tt, hw3⟩
      have b3 : Below w2.heap.size w2 w3 := by rw [hw3]; exact Lib.bytesWorld_below _ _ _
      have HB := Lib.hid b3
      clear b3 hw3
      go_wp2_with fail
      refine (itoa_any n _ ⟨by omega, by omega⟩ (HG.out.1.bel HB.out)).mono ?_
      rintro e w4 ⟨rfl, b4⟩
      have HB4 := Lib.hid (bel_trans HB.out b4)
      clear b4
      obtain ⟨T, hT⟩ : ∃ T, itoaS n = T := ⟨_, rfl⟩
      rw [hT] at HN ⊢
      clear hT
      by_cases hq : T = t
      · have HN2 := Lib.hid (show numT t = some n by rw [HN.out, if_pos hq])
        have he : (!T.toList == t.toList) = false := by rw [hq]; simp
        clear hq
        go_wp2
        go_ret2
        exact ⟨NumE.good HN2.out, HB4.out⟩
      · have HN2 := Lib.hid (show numT t = none by rw [HN.out, if_neg hq])
        have he := bne_of2 hq
        clear hq
        go_wp2
        go_ret2
        exact ⟨NumE.bad HN2.out, HB4.out⟩
end Go.Proofs.YtdmadaebeooaaaaGreatDoor
