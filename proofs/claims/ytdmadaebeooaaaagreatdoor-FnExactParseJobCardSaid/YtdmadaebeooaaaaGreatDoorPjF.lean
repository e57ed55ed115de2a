/-
  Polynomials parsed: ParsePoly (spec).
-/
import Derived.Test.YtdmadaebeooaaaaGreatDoorPjE
import Derived.Test.YtdmadaebeooaaaaGreatDoorFmtS
namespace Go.Proofs.YtdmadaebeooaaaaGreatDoor
open Go.RowKit
set_option linter.unusedVariables false
set_option linter.unusedSimpArgs false
set_option maxRecDepth 100000
attribute [local go_sem ↓] Go.wp_at_zero Go.wp_at_succ

/-- What the reference's ParsePoly returns. -/
def spP (t : ByteArray) : List Int := if polyS (numsTo (cutS 32 t) 8) = t then numsTo (cutS 32 t) 8 else []
theorem spP_yes {t : ByteArray} (h : polyS (numsTo (cutS 32 t) 8) = t) : spP t = numsTo (cutS 32 t) 8 := by unfold spP; rw [if_pos h]
theorem spP_no {t : ByteArray} (h : ¬ polyS (numsTo (cutS 32 t) 8) = t) : spP t = [] := by unfold spP; rw [if_neg h]
theorem numsTo_cap {l : List ByteArray} {k : Nat} (h : k = l.length) : numsTo l k = numsTo l 8 ∨ 8 < k := by
  rcases Nat.lt_or_ge 8 k with h' | h'
  · exact Or.inr h'
  · left
    unfold numsTo
    rw [List.take_of_length_le (by omega), List.take_of_length_le (by omega)]
theorem bne_of {x y : ByteArray} (h : x ≠ y) : (!x.toList == y.toList) = true := by
  simp [ByteArray.toList_eq]
  intro e
  exact h (ByteArray.ext (by first | exact e | exact Array.toList_inj.1 e))
set_option maxHeartbeats 4000000 in
theorem specPP_any (t : ByteArray) (w : World) (ht : t.size ≤ 1048576) :
    Calls Tryz.prog 35 #[.string t] w fun e w' => ∃ r b, e = .returned (.tuple #[r, .bool b]) ∧ Own w' w.heap.size r (spP t) ∧ Below w.heap.size w w' := by
  have O0 := Own.empty w w.heap.size (Nat.le_refl _)
  have B0 := bel_alloc w (.cells #[] 3)
  go_enter Tryz.func35, Tryz.ntmps35
  go_wp2_with fail
  refine (l9Cut_any t 32 _ ht).mono ?_
  rintro e w2 ⟨r, rfl, o, b⟩
  have HO := Lib.hid (O0.bel b)
  have HB := Lib.hid (bel_trans B0 b)
  have HP := Lib.hid o
  have hcl := cutS_le 32 t
  obtain ⟨ls, hls⟩ : ∃ ls, cutS 32 t = ls := ⟨_, rfl⟩
  have HLS := Lib.hid hls
  rw [hls] at HP hcl
  obtain ⟨A, c, rfl, hlc, -, -⟩ := HP.out.strs.open_
  have HDF := Lib.hid (show ∀ q, (Value.slice A ls.length c).ownBlock = some q → (Value.slice (some ⟨w.heap.size, 0, none⟩) 0 0).ownBlock ≠ some q from fun q h e => by
    have := (HP.out.lt q h).1
    simp [Value.ownBlock] at e this
    omega)
  clear O0 B0 o b hls
  go_wp2_with fail
  go_loopw [4, 6] (fun v i wr => ∃ k : Nat, k ≤ 8 ∧ k ≤ ls.length ∧ i = .int .i64 k ∧ Own wr w.heap.size v (numsTo ls k) ∧ (OwnS wr (w.heap.size + 1) (.slice A ls.length c) ls ∧ ∀ q, (Value.slice A ls.length c).ownBlock = some q → v.ownBlock ≠ some q) ∧ Below w.heap.size w wr) (fun _ i _ => 8 - (intOf i).toNat)
  case atStart => exact ⟨0, Nat.zero_le _, Nat.zero_le _, rfl, HO.out, ⟨by simpa using HP.out, HDF.out⟩, HB.out⟩
  case round =>
    obtain ⟨k, hk8, hk, rfl, hO, hb, hB⟩ := hrel
    have H := Lib.hid (And.intro hO (And.intro hb hB))
    have hz := hB.size
    clear hO hb hB HO
    by_cases hkl : k < ls.length ∧ k ≤ 7
    · have hkl7 := hkl.2
      have hkl := hkl.1
      have hi1 : (k : Int) < (ls.length : Int) := by omega
      have hi2 : (k : Int) ≤ 7 := by omega
      obtain ⟨A6, c6, e6, -, -, hrd⟩ := H.out.2.1.1.strs.open_
      cases e6
      obtain ⟨b, o, rfl, hbb, hcell⟩ := hrd.strs (Nat.lt_of_le_of_lt (Nat.zero_le _) hkl)
      have hck := hcell k hkl
      have hss : (sat ls k).size ≤ 1048576 := Nat.le_trans (cutS_mem_size (c := 32) (s := t) (by rw [HLS.out]; exact sat_mem ls k hkl)) ht
      have hbd := numV_bd (sat ls k)
      have HTS := Lib.hid (numsTo_succ hkl)
      have hlT := numsTo_len (l := ls) (k := k) hk
      obtain ⟨L, hL⟩ : ∃ L, numsTo ls k = L := ⟨_, rfl⟩
      have HO := Lib.hid (show Own wr w.heap.size _ L by rw [← hL]; exact H.out.1)
      obtain ⟨Z, hZ⟩ : ∃ Z, sat ls k = Z := ⟨_, rfl⟩
      rw [hZ] at hck hss hbd HTS
      rw [hL] at hlT HTS
      clear hcell hrd hL hZ
      go_wp2_with fail
      refine (l9Num_any Z _ hss).mono ?_
      rintro e w3 ⟨he, rfl⟩
      unfold NumE at he
      subst he
      obtain ⟨z, hz2⟩ : ∃ z, numV Z = z := ⟨_, rfl⟩
      obtain ⟨q, hq⟩ : ∃ q, (numT Z).isSome = q := ⟨_, rfl⟩
      rw [hz2] at HTS hbd
      rw [hz2, hq]
      clear hz2 hq
      go_wp2_with (at_builtin; go_must (refine app_int rfl (.tmp 30) (.tmp 32) (by rfl) w.heap.size _ L (by rfl) (by exact HO.out.bel (bel_alloc _ _)) _ _ z (by rfl) (by exact new_cell _ _ _) (by omega) (by omega) (by simp; omega) ?_; intro v6 w6 ho6 hg6 hat6; have B6 := (H.out.2.2.alloc hz (.cells #[.int .i64 z] 3)).trans (below_own (base := w.heap.size) hg6 (by simp; omega) (fun q hq => by have := (HO.out.lt q hq).1; omega)); have P6 := (H.out.2.1.1.bel (bel_alloc w3 (.cells #[.int .i64 z] 3))).apart hg6 H.out.2.1.2))
      go_roundw
      case rel =>
        refine ⟨k + 1, by omega, hkl, by go_num, by rw [HTS.out]; exact ho6, ⟨P6, fun q hq => ?_⟩, B6⟩
        rcases hat6 with h6 | h6
        · rw [h6]; exact H.out.2.1.2 q hq
        · rw [h6]
          intro e
          have e2 := Option.some.inj e
          have := (H.out.2.1.1.lt q hq).2
          rw [World.size_alloc] at e2
          omega
      case measure => simp [intOf]; omega
    · have HE := Lib.hid (show numsTo ls k = numsTo ls 8 by
        rcases Nat.lt_or_ge k ls.length with h | h
        · obtain rfl : k = 8 := by
            rcases Nat.lt_or_ge k 8 with h' | h'
            · exact absurd ⟨h, by omega⟩ hkl
            · omega
          rfl
        · rcases numsTo_cap (l := ls) (k := k) (by omega) with h' | h'
          · exact h'
          · omega)
      have hdt : (decide ((k : Int) < (ls.length : Int)) && decide ((k : Int) ≤ 7)) = false := by
        rw [← Bool.not_eq_true, Bool.and_eq_true, decide_eq_true_iff, decide_eq_true_iff]
        intro h
        exact hkl ⟨by omega, by omega⟩
      have hi1 : (k : Int) < (ls.length : Int) → ¬ (k : Int) ≤ 7 := fun h h2 => hkl ⟨by omega, by omega⟩
      have HI := Lib.hid hi1
      have HOE := Lib.hid (show Own wr w.heap.size _ (numsTo ls 8) by rw [← HE.out]; exact H.out.1)
      have hlen8 : (numsTo ls 8).length = k := by rw [← HE.out]; exact numsTo_len hk
      have HSP := Lib.hid (show spP t = if polyS (numsTo ls 8) = t then numsTo ls 8 else [] by unfold spP; rw [HLS.out])
      obtain ⟨L, hL⟩ : ∃ L, numsTo ls 8 = L := ⟨_, rfl⟩
      rw [hL] at HOE HSP hlen8
      clear hi1 hL
      obtain ⟨A7, c7, rfl, -, -, -⟩ := HOE.out.ints.open_
      clear hlen8
      by_cases hx : (k : Int) < (ls.length : Int)
      · have hx2 : ¬ (k : Int) ≤ 7 := HI.out hx
        clear hkl hdt
        go_wp2_with fail
        refine (specFP_any _ L _ HOE.out.ints).mono ?_
        rintro e w3 ⟨rfl, b3⟩
        have HB3 := Lib.hid (bel_trans H.out.2.2 b3)
        have HO3 := Lib.hid (HOE.out.bel b3)
        have hz3 := HB3.out.size
        have OE := Own.empty w3 w.heap.size hz3
        clear b3
        obtain ⟨T, hT⟩ : ∃ T, polyS L = T := ⟨_, rfl⟩
        rw [hT] at HSP ⊢
        clear hT
        by_cases hq : T = t
        · subst hq
          have he : (!T.toList == T.toList) = false := by simp
          have HN := Lib.hid (show spP T = L by rw [HSP.out, if_pos rfl])
          go_wp2
          go_ret2
          exact ⟨_, _, rfl, by rw [HN.out]; exact HO3.out, HB3.out⟩
        · have he : (!T.toList == t.toList) = true := bne_of hq
          have HN := Lib.hid (show spP t = [] by rw [HSP.out, if_neg hq])
          go_wp2
          go_ret2
          exact ⟨_, _, rfl, by rw [HN.out]; exact OE, HB3.out.trans ((bel_alloc _ _).mono hz3)⟩
      · clear hkl hdt
        go_wp2_with fail
        refine (specFP_any _ L _ HOE.out.ints).mono ?_
        rintro e w3 ⟨rfl, b3⟩
        have HB3 := Lib.hid (bel_trans H.out.2.2 b3)
        have HO3 := Lib.hid (HOE.out.bel b3)
        have hz3 := HB3.out.size
        have OE := Own.empty w3 w.heap.size hz3
        clear b3
        obtain ⟨T, hT⟩ : ∃ T, polyS L = T := ⟨_, rfl⟩
        rw [hT] at HSP ⊢
        clear hT
        by_cases hq : T = t
        · subst hq
          have he : (!T.toList == T.toList) = false := by simp
          have HN := Lib.hid (show spP T = L by rw [HSP.out, if_pos rfl])
          go_wp2
          go_ret2
          exact ⟨_, _, rfl, by rw [HN.out]; exact HO3.out, HB3.out⟩
        · have he : (!T.toList == t.toList) = true := bne_of hq
          have HN := Lib.hid (show spP t = [] by rw [HSP.out, if_neg hq])
          go_wp2
          go_ret2
          exact ⟨_, _, rfl, by rw [HN.out]; exact OE, HB3.out.trans ((bel_alloc _ _).mono hz3)⟩
end Go.Proofs.YtdmadaebeooaaaaGreatDoor
