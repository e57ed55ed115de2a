/-
  Lists of numbers parsed: l8Numbers, ParsePoly (spec).
-/
import Derived.Test.YtdmadaebeooaaaaGreatDoorPjD
import Derived.Test.YtdmadaebeooaaaaGreatDoorShiftC
namespace Go.Proofs.YtdmadaebeooaaaaGreatDoor
open Go.RowKit
set_option linter.unusedVariables false
set_option linter.unusedSimpArgs false
set_option maxRecDepth 100000
attribute [local go_sem ↓] Go.wp_at_zero Go.wp_at_succ

theorem sat_mem' {l : List ByteArray} {j : Nat} (h : j < l.length) : sat l j ∈ l := sat_mem l j h
/-- n zeros. -/
def zerosL (n : Nat) : List Int := (List.range n).map fun _ => 0
theorem zerosL_len (n : Nat) : (zerosL n).length = n := by simp [zerosL]
theorem zerosL_at (n j : Nat) : at_ (zerosL n) j = 0 := by
  unfold at_ zerosL
  simp [List.getD]
  cases h : (List.range n)[j]? <;> simp
theorem zerosL_wf (n : Nat) : Wf (zerosL n) := by
  intro x hx
  obtain ⟨_, _, rfl⟩ := List.mem_map.1 hx
  omega
theorem Own.zeros (w : World) (n : Nat) (hn : n ≤ 1048577) : Own (w.alloc (.cells (reps n (.int .i64 0)).toArray 3)) w.heap.size (.slice (some ⟨w.heap.size, 0, none⟩) n n) (zerosL n) := by
  have := Own.mk' (cs := reps n (.int .i64 0)) (l := zerosL n) (base := w.heap.size) (cap := n) (Nat.le_refl _) (Blk.new w 3 _) (by rw [zerosL_len]; exact Nat.le_refl _) (by omega) (reps_length _ _) (fun j hj => by rw [zerosL_len] at hj; rw [zerosL_at]; exact reps_get _ hj) (zerosL_wf n)
  rw [zerosL_len] at this
  exact this
def numsTo (l : List ByteArray) (k : Nat) : List Int := (l.take k).map numV
theorem numsTo_succ {l : List ByteArray} {k : Nat} (h : k < l.length) : numsTo l (k + 1) = numsTo l k ++ [numV (sat l k)] := by
  unfold numsTo
  rw [List.take_succ_eq_append_getElem h, List.map_append, sat_eq l k h]
  rfl
theorem numsTo_len {l : List ByteArray} {k : Nat} (h : k ≤ l.length) : (numsTo l k).length = k := by unfold numsTo; rw [List.length_map, List.length_take, Nat.min_eq_left h]
theorem numsTo_all {l : List ByteArray} {k : Nat} (h : l.length ≤ k) : numsTo l k = l.map numV := by unfold numsTo; rw [List.take_of_length_le h]
theorem allT_no {l : List ByteArray} {k : Nat} (h : k < l.length) (hq : (numT (sat l k)).isSome = false) : ¬ allT l = true := by
  intro ha
  have := List.all_eq_true.1 ha _ (sat_mem l k h)
  rw [hq] at this
  exact Bool.noConfusion this
def okTo (l : List ByteArray) (k : Nat) : Prop := ∀ j, j < k → (numT (sat l j)).isSome = true
theorem okTo_succ {l : List ByteArray} {k : Nat} (h : okTo l k) (hk : (numT (sat l k)).isSome = true) : okTo l (k + 1) := by
  intro j hj
  rcases Nat.lt_or_ge j k with h' | h'
  · exact h j h'
  · obtain rfl : j = k := by omega
    exact hk
theorem okTo_all {l : List ByteArray} (h : okTo l l.length) : allT l = true := by
  apply List.all_eq_true.2
  intro x hx
  obtain ⟨j, hj, rfl⟩ := List.getElem_of_mem hx
  have := h j hj
  rw [sat_eq l j hj] at this
  exact this
/-- What l8Numbers returns: n numbers. -/
def eight (t : ByteArray) (n : Nat) : List Int := if (cutS 32 t).length = n ∧ numsOk t = true then numsV t else zerosL n
theorem eight_yes {t : ByteArray} {n : Nat} (h : (cutS 32 t).length = n) (h2 : numsOk t = true) : eight t n = numsV t := by simp [eight, h, h2]
theorem eight_no {t : ByteArray} {n : Nat} (h : ¬ ((cutS 32 t).length = n ∧ numsOk t = true)) : eight t n = zerosL n := by unfold eight; rw [if_neg h]
theorem eight_len (t : ByteArray) (n : Nat) : (eight t n).length = n := by
  unfold eight
  split
  · rename_i h
    unfold numsV
    rw [List.length_map]
    exact h.1
  · exact zerosL_len n
set_option maxHeartbeats 4000000 in
theorem l8Numbers_any (t : ByteArray) (n : Nat) (w : World) (ht : t.size ≤ 1048576) (hn : n ≤ 10) :
    Calls Tryz.prog 36 #[.string t, .int .i64 n] w fun e w' => ∃ r b, e = .returned (.tuple #[r, .bool b]) ∧ Own w' w.heap.size r (eight t n) ∧ Below w.heap.size w w' := by
  have hmk := fun W => Tryz.mkInts n (by omega) W
  have O0 := Own.empty w w.heap.size (Nat.le_refl _)
  have B0 := bel_alloc w (.cells #[] 3)
  go_enter Tryz.func36, Tryz.ntmps36
  go_wp2_with fail
  refine (l9Cut_any t 32 _ ht).mono ?_
  rintro e w2 ⟨r, rfl, o, b⟩
  have HO := Lib.hid (O0.bel b)
  have HB := Lib.hid (bel_trans B0 b)
  have HP := Lib.hid o
  have hcl := cutS_le 32 t
  obtain ⟨ls, hls⟩ : ∃ ls, cutS 32 t = ls := ⟨_, rfl⟩
  have HLS := Lib.hid hls
  rw [hls] at HP hcl
  obtain ⟨A, c, rfl, hlc, -, -⟩ := HP.out.strs.open_
  have HDF := Lib.hid (show ∀ q, (Value.slice A ls.length c).ownBlock = some q → (Value.slice (some ⟨w.heap.size, 0, none⟩) 0 0).ownBlock ≠ some q from fun q h e => by
    have := (HP.out.lt q h).1
    simp [Value.ownBlock] at e this
    omega)
  clear O0 B0 o b hls
  by_cases hlen : ls.length = n
  · have hlq : ((ls.length : Int) == (n : Int)) = true := by simp [hlen]
    have hli : (ls.length : Int) = (n : Int) := by omega
    have HLN := Lib.hid hlen
    clear hlen
    go_wp2_with fail
    go_loopw [6, 8] (fun v i wr => ∃ k : Nat, k ≤ n ∧ i = .int .i64 k ∧ okTo ls k ∧ Own wr w.heap.size v (numsTo ls k) ∧ (OwnS wr (w.heap.size + 1) (.slice A ls.length c) ls ∧ ∀ q, (Value.slice A ls.length c).ownBlock = some q → v.ownBlock ≠ some q) ∧ Below w.heap.size w wr) (fun _ i _ => n - (intOf i).toNat)
    case atStart => exact ⟨0, Nat.zero_le _, rfl, fun j hj => absurd hj (Nat.not_lt_zero _), HO.out, ⟨by simpa using HP.out, HDF.out⟩, HB.out⟩
    case round =>
      obtain ⟨k, hk, rfl, hok, hO, hb, hB⟩ := hrel
      have H := Lib.hid (And.intro hok (And.intro hO (And.intro hb hB)))
      have hz := hB.size
      clear hok hO hb hB HO
      by_cases hkn : k < n
      · have hkl : k < ls.length := by rw [HLN.out]; exact hkn
        obtain ⟨A6, c6, e6, -, -, hrd⟩ := H.out.2.2.1.1.strs.open_
        cases e6
        obtain ⟨b, o, rfl, hbb, hcell⟩ := hrd.strs (Nat.lt_of_le_of_lt (Nat.zero_le _) hkl)
        have hck := hcell k hkl
        have hss : (sat ls k).size ≤ 1048576 := Nat.le_trans (cutS_mem_size (c := 32) (s := t) (by rw [HLS.out]; exact sat_mem ls k hkl)) ht
        have hbd := numV_bd (sat ls k)
        have HTS := Lib.hid (numsTo_succ hkl)
        have HNO := Lib.hid (allT_no hkl)
        have HOS := Lib.hid (fun hq => okTo_succ H.out.1 hq)
        have hlT := numsTo_len (l := ls) (k := k) (by rw [HLN.out]; exact hk)
        obtain ⟨L, hL⟩ : ∃ L, numsTo ls k = L := ⟨_, rfl⟩
        have HO := Lib.hid (show Own wr w.heap.size _ L by rw [← hL]; exact H.out.2.1)
        obtain ⟨Z, hZ⟩ : ∃ Z, sat ls k = Z := ⟨_, rfl⟩
        rw [hZ] at hck hss hbd HTS HNO HOS
        rw [hL] at hlT HTS
        clear hcell hrd hL hZ
        go_wp2_with fail
        refine (l9Num_any Z _ hss).mono ?_
        rintro e w3 ⟨he, rfl⟩
        unfold NumE at he
        subst he
        obtain ⟨z, hz2⟩ : ∃ z, numV Z = z := ⟨_, rfl⟩
        rw [hz2] at HTS hbd
        rw [hz2]
        cases hq : (numT Z).isSome
        · have HE := Lib.hid (show eight t n = zerosL n from eight_no fun h => HNO.out hq (by have h2 := h.2; unfold numsOk at h2; rw [HLS.out] at h2; exact h2))
          have OZ := Own.zeros w3 n (by omega)
          clear hz2
          go_wp2
          go_ret2
          exact ⟨_, _, rfl, by rw [HE.out]; exact OZ.lower hz, H.out.2.2.2.trans ((bel_alloc _ _).mono hz)⟩
        · have HQ := Lib.hid (HOS.out hq)
          clear hz2
          go_wp2_with (at_builtin; go_must (refine app_int rfl (.tmp 37) (.tmp 39) (by rfl) w.heap.size _ L (by rfl) (by exact HO.out.bel (bel_alloc _ _)) _ _ z (by rfl) (by exact new_cell _ _ _) (by omega) (by omega) (by simp; omega) ?_; intro v6 w6 ho6 hg6 hat6; have B6 := (H.out.2.2.2.alloc hz (.cells #[.int .i64 z] 3)).trans (below_own (base := w.heap.size) hg6 (by simp; omega) (fun q hq => by have := (HO.out.lt q hq).1; omega)); have P6 := (H.out.2.2.1.1.bel (bel_alloc w3 (.cells #[.int .i64 z] 3))).apart hg6 H.out.2.2.1.2))
          go_roundw
          case rel =>
            refine ⟨k + 1, hkn, by go_num, HQ.out, by rw [HTS.out]; exact ho6, ⟨P6, fun q hq => ?_⟩, B6⟩
            rcases hat6 with h6 | h6
            · rw [h6]; exact H.out.2.2.1.2 q hq
            · rw [h6]
              intro e
              have e2 := Option.some.inj e
              have := (H.out.2.2.1.1.lt q hq).2
              rw [World.size_alloc] at e2
              omega
          case measure => simp [intOf]; omega
      · have hkn : k = n := by omega
        subst hkn
        have HE := Lib.hid (show numsTo ls k = eight t k by
          rw [eight_yes (by rw [HLS.out]; exact HLN.out) (by unfold numsOk; rw [HLS.out]; exact okTo_all (by rw [HLN.out]; exact H.out.1)), numsTo_all (by rw [HLN.out]; exact Nat.le_refl _)]
          unfold numsV
          rw [HLS.out])
        go_wp2
        go_ret2
        exact ⟨_, _, rfl, by rw [← HE.out]; exact H.out.2.1, H.out.2.2.2⟩
  · have HE := Lib.hid (show eight t n = zerosL n from eight_no fun h => hlen (by rw [HLS.out] at h; exact h.1))
    have hlq : ((ls.length : Int) == (n : Int)) = false := by simp; omega
    have hli : ¬ (ls.length : Int) = (n : Int) := by omega
    have OZ := Own.zeros w2 n (by omega)
    have hz := HB.out.size
    go_wp2
    go_ret2
    exact ⟨_, _, rfl, by rw [HE.out]; exact OZ.lower hz, HB.out.trans ((bel_alloc _ _).mono hz)⟩
end Go.Proofs.YtdmadaebeooaaaaGreatDoor
