/-
  Lists of numbers parsed by the library's means: splitNumbers, ParsePoly (impl).
-/
import Derived.Test.YtdmadaebeooaaaaGreatDoorPjG
namespace Go.Proofs.YtdmadaebeooaaaaGreatDoor
open Go.RowKit
set_option linter.unusedVariables false
set_option linter.unusedSimpArgs false
set_option maxRecDepth 100000
attribute [local go_sem ↓] Go.wp_at_zero Go.wp_at_succ

theorem cutS_wf (c : UInt8) (s : ByteArray) (hs : s.size ≤ 1048576) : WfS (cutS c s) := by
  intro x hx
  have := cutS_mem_size hx
  omega
theorem split_any (s : ByteArray) (c : UInt8) (w : World) (hs : s.size ≤ 1048576) (hg : Glb w) :
    Calls Tryz.prog 37 #[.string s, .string ⟨#[c]⟩] w fun e w' => ∃ A, e = .returned (.slice A (cutS c s).length (cutS c s).length) ∧ OwnS w' w.heap.size (.slice A (cutS c s).length (cutS c s).length) (cutS c s) ∧ Below w.heap.size w w' := by
  obtain ⟨m, hm⟩ := hg.2.1
  refine (Tryz.strings_Split s ⟨#[c]⟩ m w (by omega) hm (Nat.le_refl _)).mono ?_
  rintro e w' ⟨rfl, rfl⟩
  rw [cutS_split, ← cutS_len]
  have hl := cutS_le c s
  refine ⟨_, rfl, OwnS.mk' (cs := (cutS c s).map Value.string) (Nat.le_refl _) (Blk.new w 9 _) (Nat.le_refl _) (by omega) (by simp) (fun j hj => ?_) (cutS_wf c s hs), bel_alloc _ _⟩
  rw [List.getElem?_map, List.getElem?_eq_getElem hj, sat_eq _ _ hj]
  rfl
theorem grown_set (w : World) (b j : Nat) (u : Value) : w.grownBy (w.setCell ⟨b, j, none⟩ u) (some b) := only_setCell ⟨rfl, rfl, rfl, Nat.le_refl _, fun _ _ _ => rfl⟩ (.inl rfl) u
/-- What splitNumbers returns. -/
def spL (t : ByteArray) : List Int := if numsOk t = true then numsV t else []
theorem spL_yes {t : ByteArray} (h : numsOk t = true) : spL t = numsV t := by simp [spL, h]
theorem spL_no {t : ByteArray} (h : numsOk t = false) : spL t = [] := by simp [spL, h]
theorem numsV_at {ls : List ByteArray} {L : List Int} (hl : L.length = ls.length) (h : ∀ j, j < ls.length → at_ L j = numV (sat ls j)) : L = ls.map numV := by
  apply List.ext_getElem (by rw [hl, List.length_map])
  intro j h1 h2
  have := h j (by omega)
  rw [sat_eq ls j (by omega)] at this
  rw [List.getElem_map, ← this]
  unfold at_
  rw [List.getD_eq_getElem?_getD, List.getElem?_eq_getElem h1]
  rfl
set_option maxHeartbeats 4000000 in
theorem splitNum_any (t : ByteArray) (w : World) (ht : t.size ≤ 1048576) (hg : Glb w) :
    Calls Tryz.prog 39 #[.string t] w fun e w' => ∃ r, e = .returned (.tuple #[r, .bool (numsOk t)]) ∧ Own w' w.heap.size r (spL t) ∧ Below w.heap.size w w' := by
  have HG := Lib.hid hg
  go_enter Tryz.func39, Tryz.ntmps39
  go_wp2_with fail
  refine (split_any t 32 _ ht hg).mono ?_
  rintro e w2 ⟨A, rfl, o, b⟩
  have HB := Lib.hid b
  have hcl := cutS_le 32 t
  obtain ⟨ls, hls⟩ : ∃ ls, cutS 32 t = ls := ⟨_, rfl⟩
  have HLS := Lib.hid hls
  rw [hls] at o hcl
  rw [hls]
  have HP := Lib.hid o
  have hmk := fun W => Tryz.mkInts ls.length (by omega) W
  have OZ := Own.zeros w2 ls.length (by omega)
  have BZ := bel_trans b (bel_alloc w2 (.cells (reps ls.length (.int .i64 0)).toArray 3))
  have HPZ := o.bel (bel_alloc w2 (.cells (reps ls.length (.int .i64 0)).toArray 3))
  have hz2 := b.size
  clear o b hls hg
  go_wp2_with fail
  generalize hW : w2.alloc (.cells (reps ls.length (.int .i64 0)).toArray 3) = w3 at *
  clear hW
  go_loopw [17] (fun i wr => ∃ (k : Nat) (L : List Int), k ≤ ls.length ∧ i = .int .i64 k ∧ okTo ls k ∧ L.length = ls.length ∧ (∀ j, j < k → at_ L j = numV (sat ls j)) ∧ Own wr w2.heap.size (.slice (some ⟨w2.heap.size, 0, none⟩) ls.length ls.length) L ∧ OwnS wr w.heap.size (.slice A ls.length ls.length) ls ∧ Below w.heap.size w wr) (fun i _ => ls.length - (intOf i).toNat)
  case atStart => exact ⟨0, _, Nat.zero_le _, rfl, fun j hj => absurd hj (Nat.not_lt_zero _), zerosL_len _, fun j hj => absurd hj (Nat.not_lt_zero _), OZ, HPZ, BZ⟩
  case round =>
    obtain ⟨k, L, hk, rfl, hok, hL, hat, hO, hP, hB⟩ := hrel
    have H := Lib.hid (And.intro hok (And.intro hat (And.intro hO (And.intro hP hB))))
    have HLL := Lib.hid hL
    have hz := hB.size
    clear hok hat hO hP hB hL OZ HPZ BZ
    by_cases hkl : k < ls.length
    · obtain ⟨A6, c6, e6, -, -, hrd⟩ := H.out.2.2.2.1.strs.open_
      cases e6
      obtain ⟨b, o, rfl, hbb, hcell⟩ := hrd.strs (Nat.lt_of_le_of_lt (Nat.zero_le _) hkl)
      have hck := hcell k hkl
      have hss : (sat ls k).size ≤ 1048576 := Nat.le_trans (cutS_mem_size (c := 32) (s := t) (by rw [HLS.out]; exact sat_mem ls k hkl)) ht
      have hbd := numV_bd (sat ls k)
      have HNO := Lib.hid (allT_no hkl)
      have HOS := Lib.hid (fun hq => okTo_succ H.out.1 hq)
      obtain ⟨Z, hZ⟩ : ∃ Z, sat ls k = Z := ⟨_, rfl⟩
      rw [hZ] at hck hss hbd HNO HOS
      replace hZ := Lib.hid hZ
      clear hcell hrd
      go_wp2_with fail
      refine (parseNum_any Z _ hss (HG.out.bel H.out.2.2.2.2)).mono ?_
      rintro e w4 ⟨he, b4⟩
      unfold NumE at he
      subst he
      have HB4 := Lib.hid (bel_trans H.out.2.2.2.2 b4)
      have HO4 := Lib.hid (H.out.2.2.1.bel b4)
      have HP4 := Lib.hid (H.out.2.2.2.1.bel b4)
      clear b4 hck
      obtain ⟨z, hz3⟩ : ∃ z, numV Z = z := ⟨_, rfl⟩
      rw [hz3] at hbd
      rw [hz3]
      replace hz3 := Lib.hid hz3
      cases hq : (numT Z).isSome
      · have HE := Lib.hid (show numsOk t = false from by
          have := HNO.out hq
          unfold numsOk
          rw [HLS.out]
          exact Bool.eq_false_iff.2 this)
        go_wp2
        go_ret2
        exact ⟨_, by rw [HE.out]; rfl, by rw [spL_no HE.out]; exact Own.nil_ _ _, HB4.out⟩
      · have HQ := Lib.hid (HOS.out hq)
        obtain ⟨g9, c9, e9, -, -, -, -, h9⟩ := HO4.out.openN (by rw [HLL.out]; omega)
        injection e9 with e1 e2 e3
        injection e1 with e1
        injection e1 with e1
        subst e1
        clear e2 e3
        obtain ⟨f0, f1⟩ := h9 k (by rw [HLL.out]; exact hkl)
        have hne := Lib.hid (show ∀ q, (Value.slice (some ⟨b, o, none⟩) ls.length ls.length).ownBlock = some q → (Value.slice (some ⟨w2.heap.size, 0, none⟩) ls.length ls.length).ownBlock ≠ some q from fun q hq e => by
          have h1 := (HP.out.lt q hq).2
          have h2 : w2.heap.size = q := Option.some.inj e
          omega)
        clear h9
        go_wp2
        go_roundw
        case rel =>
          refine ⟨k + 1, L.set k z, hkl, by go_num, HQ.out, by rw [List.length_set]; exact HLL.out, fun j hj => ?_, HO4.out.set_ k z (by rw [HLL.out]; exact hkl) ⟨by omega, by omega⟩, HP4.out.apart (u := .slice (some ⟨w2.heap.size, 0, none⟩) ls.length ls.length) (grown_set _ _ _ _) hne.out, HB4.out.setCell hz2 _⟩
          rw [at_set j (by rw [HLL.out]; exact hkl)]
          by_cases e : j = k
          · rw [if_pos e, e, hZ.out, hz3.out]
          · rw [if_neg e]; exact H.out.2.1 j (by omega)
        case measure => simp [intOf]; omega
    · have hke : k = ls.length := by omega
      subst hke
      have HE := Lib.hid (show numsOk t = true by unfold numsOk; rw [HLS.out]; exact okTo_all H.out.1)
      have HV := Lib.hid (show numsV t = L by unfold numsV; rw [HLS.out]; exact (numsV_at HLL.out H.out.2.1).symm)
      go_wp2
      go_ret2
      exact ⟨_, by rw [HE.out]; rfl, by rw [spL_yes HE.out, HV.out]; exact H.out.2.2.1.lower hz2, H.out.2.2.2.2⟩
/-- What ParsePoly returns. -/
def ppL (t : ByteArray) : List Int := chkL (spL t)
def ppOk (t : ByteArray) : Bool := numsOk t && polyOk (spL t)
set_option maxHeartbeats 1000000 in
theorem implPP_any (t : ByteArray) (w : World) (ht : t.size ≤ 1048576) (hg : Glb w) :
    Calls Tryz.prog 38 #[.string t] w fun e w' => ∃ r, e = .returned (.tuple #[r, .bool (ppOk t)]) ∧ Own w' w.heap.size r (ppL t) ∧ Below w.heap.size w w' := by
  go_enter Tryz.func38, Tryz.ntmps38
  go_wp2_with fail
  refine (splitNum_any t w ht hg).mono ?_
  rintro e w2 ⟨r, rfl, o, b⟩
  have HO := Lib.hid o
  have HB := Lib.hid b
  obtain ⟨A, c, rfl, -, -, -⟩ := o.ints.open_
  clear o b
  cases hq : numsOk t
  · have HE := Lib.hid (show ppOk t = false by unfold ppOk; rw [hq]; rfl)
    have HL := Lib.hid (show ppL t = [] by unfold ppL; rw [spL_no hq]; rfl)
    go_wp2
    go_ret2
    exact ⟨_, by rw [HE.out]; rfl, by rw [HL.out]; exact Own.nil_ _ _, HB.out⟩
  · have HE := Lib.hid (show ppOk t = polyOk (spL t) by unfold ppOk; rw [hq]; rfl)
    go_wp2_with fail
    refine (checked_any _ (spL t) _ HO.out.ints).mono ?_
    rintro e w3 ⟨rfl, rfl⟩
    have HC := Lib.hid HO.out.chk
    obtain ⟨v, hv⟩ : ∃ v, chkV (spL t) (.slice A (spL t).length c) = v := ⟨_, rfl⟩
    rw [hv] at HC ⊢
    clear hv
    go_wp2
    go_ret2
    exact ⟨_, by rw [HE.out]; rfl, HC.out, HB.out⟩
end Go.Proofs.YtdmadaebeooaaaaGreatDoor
