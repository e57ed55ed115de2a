import Derived.Test.YtdmadaebeooaaaaGreatDoorPjE
import Derived.Test.YtdmadaebeooaaaaGreatDoorFmtS
import Derived.Lib.AtoiErrMem
import Derived.Lib.AtoiBound
import Derived.WalkSpells
import Derived.Test.YtdmadaebeooaaaaGreatDoorJobB
import Derived.Test.YtdmadaebeooaaaaGreatDoorFmt
import Derived.Test.YtdmadaebeooaaaaGreatDoorJdB
import Derived.Test.YtdmadaebeooaaaaGreatDoorInter
import Derived.Test.YtdmadaebeooaaaaGreatDoorDrawE
/-
  Polynomials parsed: ParsePoly (spec).
-/
namespace Go.Proofs.YtdmadaebeooaaaaGreatDoor
open Go.RowKit
set_option linter.unusedVariables false
set_option linter.unusedSimpArgs false
set_option maxRecDepth 100000
attribute [local go_sem ↓] Go.wp_at_zero Go.wp_at_succ

/-- What the reference's ParsePoly returns. -/
def spP (t : ByteArray) : List Int := if polyS (numsTo (cutS 32 t) 8) = t then numsTo (cutS 32 t) 8 else []
theorem spP_yes {t : ByteArray} (h : polyS (numsTo (cutS 32 t) 8) = t) : spP t = numsTo (cutS 32 t) 8 := by unfold spP; rw [if_pos h]
theorem spP_no {t : ByteArray} (h : ¬ polyS (numsTo (cutS 32 t) 8) = t) : spP t = [] := by unfold spP; rw [if_neg h]
theorem numsTo_cap {l : List ByteArray} {k : Nat} (h : k = l.length) : numsTo l k = numsTo l 8 ∨ 8 < k := by
  rcases Nat.lt_or_ge 8 k with h' | h'
  · exact Or.inr h'
  · left
    unfold numsTo
    rw [List.take_of_length_le (by omega), List.take_of_length_le (by omega)]
theorem bne_of {x y : ByteArray} (h : x ≠ y) : (!x.toList == y.toList) = true := by
  simp [ByteArray.toList_eq]
  intro e
  exact h (ByteArray.ext (by first | exact e | exact Array.toList_inj.1 e))
set_option maxHeartbeats 4000000 in
theorem specPP_any (t : ByteArray) (w : World) (ht : t.size ≤ 1048576) :
    Calls Tryz.prog 35 #[.string t] w fun e w' => ∃ r b, e = .returned (.tuple #[r, .bool b]) ∧ Own w' w.heap.size r (spP t) ∧ Below w.heap.size w w' := by
  have O0 := Own.empty w w.heap.size (Nat.le_refl _)
  have B0 := bel_alloc w (.cells #[] 3)
  go_enter Tryz.func35, Tryz.ntmps35
  go_wp2_with fail
  refine (l9Cut_any t 32 _ ht).mono ?_
  rintro e w2 ⟨r, rfl, o, b⟩
  have HO := Lib.hid (O0.bel b)
  have HB := Lib.hid (bel_trans B0 b)
  have HP := Lib.hid o
  have hcl := cutS_le 32 t
  obtain ⟨ls, hls⟩ : ∃ ls, cutS 32 t = ls := ⟨_, rfl⟩
  have HLS := Lib.hid hls
  rw [hls] at HP hcl
  obtain ⟨A, c, rfl, hlc, -, -⟩ := HP.out.strs.open_
  have HDF := Lib.hid (show ∀ q, (Value.slice A ls.length c).ownBlock = some q → (Value.slice (some ⟨w.heap.size, 0, none⟩) 0 0).ownBlock ≠ some q from fun q h e => by
    have := (HP.out.lt q h).1
    simp [Value.ownBlock] at e this
    omega)
  clear O0 B0 o b hls
  go_wp2_with fail
  go_loopw [4, 6] (fun v i wr => ∃ k : Nat, k ≤ 8 ∧ k ≤ ls.length ∧ i = .int .i64 k ∧ Own wr w.heap.size v (numsTo ls k) ∧ (OwnS wr (w.heap.size + 1) (.slice A ls.length c) ls ∧ ∀ q, (Value.slice A ls.length c).ownBlock = some q → v.ownBlock ≠ some q) ∧ Below w.heap.size w wr) (fun _ i _ => 8 - (intOf i).toNat)
  case atStart => exact ⟨0, Nat.zero_le _, Nat.zero_le _, rfl, HO.out, ⟨by simpa using HP.out, HDF.out⟩, HB.out⟩
  case round =>
    obtain ⟨k, hk8, hk, rfl, hO, hb, hB⟩ := hrel
    have H := Lib.hid (And.intro hO (And.intro hb hB))
    have hz := hB.size
    clear hO hb hB HO
    by_cases hkl : k < ls.length ∧ k ≤ 7
    · have hkl7 := hkl.2
      have hkl := hkl.1
      have hi1 : (k : Int) < (ls.length : Int) := by omega
      have hi2 : (k : Int) ≤ 7 := by omega
      obtain ⟨A6, c6, e6, -, -, hrd⟩ := H.out.2.1.1.strs.open_
      cases e6
      obtain ⟨b, o, rfl, hbb, hcell⟩ := hrd.strs (Nat.lt_of_le_of_lt (Nat.zero_le _) hkl)
      have hck := hcell k hkl
      have hss : (sat ls k).size ≤ 1048576 := Nat.le_trans (cutS_mem_size (c := 32) (s := t) (by rw [HLS.out]; exact sat_mem ls k hkl)) ht
      have hbd := numV_bd (sat ls k)
      have HTS := Lib.hid (numsTo_succ hkl)
      have hlT := numsTo_len (l := ls) (k := k) hk
      obtain ⟨L, hL⟩ : ∃ L, numsTo ls k = L := ⟨_, rfl⟩
      have HO := Lib.hid (show Own wr w.heap.size _ L by rw [← hL]; exact H.out.1)
      obtain ⟨Z, hZ⟩ : ∃ Z, sat ls k = Z := ⟨_, rfl⟩
      rw [hZ] at hck hss hbd HTS
      rw [hL] at hlT HTS
      clear hcell hrd hL hZ
      go_wp2_with fail
      refine (l9Num_any Z _ hss).mono ?_
      rintro e w3 ⟨he, rfl⟩
      unfold NumE at he
      subst he
      obtain ⟨z, hz2⟩ : ∃ z, numV Z = z := ⟨_, rfl⟩
      obtain ⟨q, hq⟩ : ∃ q, (numT Z).isSome = q := ⟨_, rfl⟩
      rw [hz2] at HTS hbd
      rw [hz2, hq]
      clear hz2 hq
      go_wp2_with (at_builtin; go_must (refine app_int rfl (.tmp 30) (.tmp 32) (by rfl) w.heap.size _ L (by rfl) (by exact HO.out.bel (bel_alloc _ _)) _ _ z (by rfl) (by exact new_cell _ _ _) (by omega) (by omega) (by simp; omega) ?_; intro v6 w6 ho6 hg6 hat6; have B6 := (H.out.2.2.alloc hz (.cells #[.int .i64 z] 3)).trans (below_own (base := w.heap.size) hg6 (by simp; omega) (fun q hq => by have := (HO.out.lt q hq).1; omega)); have P6 := (H.out.2.1.1.bel (bel_alloc w3 (.cells #[.int .i64 z] 3))).apart hg6 H.out.2.1.2))
      go_roundw
      case rel =>
        refine ⟨k + 1, by omega, hkl, by go_num, by rw [HTS.out]; exact ho6, ⟨P6, fun q hq => ?_⟩, B6⟩
        rcases hat6 with h6 | h6
        · rw [h6]; exact H.out.2.1.2 q hq
        · rw [h6]
          intro e
          have e2 := Option.some.inj e
          have := (H.out.2.1.1.lt q hq).2
          rw [World.size_alloc] at e2
          omega
      case measure => simp [intOf]; omega
    · have HE := Lib.hid (show numsTo ls k = numsTo ls 8 by
        rcases Nat.lt_or_ge k ls.length with h | h
        · obtain rfl : k = 8 := by
            rcases Nat.lt_or_ge k 8 with h' | h'
            · exact absurd ⟨h, by omega⟩ hkl
            · omega
          rfl
        · rcases numsTo_cap (l := ls) (k := k) (by omega) with h' | h'
          · exact h'
          · omega)
      have hdt : (decide ((k : Int) < (ls.length : Int)) && decide ((k : Int) ≤ 7)) = false := by
        rw [← Bool.not_eq_true, Bool.and_eq_true, decide_eq_true_iff, decide_eq_true_iff]
        intro h
        exact hkl ⟨by omega, by omega⟩
      have hi1 : (k : Int) < (ls.length : Int) → ¬ (k : Int) ≤ 7 := fun h h2 => hkl ⟨by omega, by omega⟩
      have HI := Lib.hid hi1
      have HOE := Lib.hid (show Own wr w.heap.size _ (numsTo ls 8) by rw [← HE.out]; exact H.out.1)
      have hlen8 : (numsTo ls 8).length = k := by rw [← HE.out]; exact numsTo_len hk
      have HSP := Lib.hid (show spP t = if polyS (numsTo ls 8) = t then numsTo ls 8 else [] by unfold spP; rw [HLS.out])
      obtain ⟨L, hL⟩ : ∃ L, numsTo ls 8 = L := ⟨_, rfl⟩
      rw [hL] at HOE HSP hlen8
      clear hi1 hL
      obtain ⟨A7, c7, rfl, -, -, -⟩ := HOE.out.ints.open_
      clear hlen8
      by_cases hx : (k : Int) < (ls.length : Int)
      · have hx2 : ¬ (k : Int) ≤ 7 := HI.out hx
        clear hkl hdt
        go_wp2_with fail
        refine (specFP_any _ L _ HOE.out.ints).mono ?_
        rintro e w3 ⟨rfl, b3⟩
        have HB3 := Lib.hid (bel_trans H.out.2.2 b3)
        have HO3 := Lib.hid (HOE.out.bel b3)
        have hz3 := HB3.out.size
        have OE := Own.empty w3 w.heap.size hz3
        clear b3
        obtain ⟨T, hT⟩ : ∃ T, polyS L = T := ⟨_, rfl⟩
        rw [hT] at HSP ⊢
        clear hT
        by_cases hq : T = t
        · subst hq
          have he : (!T.toList == T.toList) = false := by simp
          have HN := Lib.hid (show spP T = L by rw [HSP.out, if_pos rfl])
          go_wp2
          go_ret2
          exact ⟨_, _, rfl, by rw [HN.out]; exact HO3.out, HB3.out⟩
        · have he : (!T.toList == t.toList) = true := bne_of hq
          have HN := Lib.hid (show spP t = [] by rw [HSP.out, if_neg hq])
          go_wp2
          go_ret2
          exact ⟨_, _, rfl, by rw [HN.out]; exact OE, HB3.out.trans ((bel_alloc _ _).mono hz3)⟩
      · clear hkl hdt
        go_wp2_with fail
        refine (specFP_any _ L _ HOE.out.ints).mono ?_
        rintro e w3 ⟨rfl, b3⟩
        have HB3 := Lib.hid (bel_trans H.out.2.2 b3)
        have HO3 := Lib.hid (HOE.out.bel b3)
        have hz3 := HB3.out.size
        have OE := Own.empty w3 w.heap.size hz3
        clear b3
        obtain ⟨T, hT⟩ : ∃ T, polyS L = T := ⟨_, rfl⟩
        rw [hT] at HSP ⊢
        clear hT
        by_cases hq : T = t
        · subst hq
          have he : (!T.toList == T.toList) = false := by simp
          have HN := Lib.hid (show spP T = L by rw [HSP.out, if_pos rfl])
          go_wp2
          go_ret2
          exact ⟨_, _, rfl, by rw [HN.out]; exact HO3.out, HB3.out⟩
        · have he : (!T.toList == t.toList) = true := bne_of hq
          have HN := Lib.hid (show spP t = [] by rw [HSP.out, if_neg hq])
          go_wp2
          go_ret2
          exact ⟨_, _, rfl, by rw [HN.out]; exact OE, HB3.out.trans ((bel_alloc _ _).mono hz3)⟩
end Go.Proofs.YtdmadaebeooaaaaGreatDoor

/-
  Numbers parsed by the library's means: parseNumber (impl).
-/
namespace Go.Proofs.YtdmadaebeooaaaaGreatDoor
open Go.RowKit
set_option linter.unusedVariables false
set_option linter.unusedSimpArgs false
set_option maxRecDepth 100000
attribute [local go_sem ↓] Go.wp_at_zero Go.wp_at_succ

/-- What the library's parsers want of the package-level variables: the table of powers, some bound of bytealg, the sentinel of a syntax error. -/
def Glb (w : World) : Prop := Tab w ∧ (∃ m : Int, w.cell? ⟨0, 0, none⟩ = some (.int .i64 m)) ∧ ∃ (tp : TypeId) (p : Value), w.cell? ⟨3, 0, none⟩ = some (.iface tp p)
theorem Glb.bel {w w' : World} (h : Glb w) (hb : Below w.heap.size w w') : Glb w' := by
  obtain ⟨h1, ⟨m, h2⟩, tp, p, h3⟩ := h
  exact ⟨h1.bel hb, ⟨m, (hb.cell (World.block_lt_of_cell? _ _ h2)).trans h2⟩, tp, p, (hb.cell (World.block_lt_of_cell? _ _ h3)).trans h3⟩
theorem trim_len (l : List UInt8) : l.length ≤ (Lib.trimPrefix l [45]).length + 1 := by
  unfold Lib.trimPrefix
  split
  · simp; omega
  · omega
theorem numT_long {s : ByteArray} (h : 17 < (Lib.trimPrefix s.data.toList [45]).length) : numT s = none := by
  apply numT_none
  intro n hn
  have := (numO_some hn).2
  omega
theorem numT_atoi_no {s : ByteArray} (h : Lib.atoi s.data.toList = none) : numT s = none := by unfold numT numO; rw [h]
theorem numT_atoi {s : ByteArray} {n : Int} (hl : (Lib.trimPrefix s.data.toList [45]).length ≤ 17) (h : Lib.atoi s.data.toList = some n) : numT s = if itoaS n = s then some n else none := by
  unfold numT numO
  rw [h]
  have e : (Lib.itoa n = s.data.toList ∧ (Lib.trimPrefix s.data.toList [45]).length ≤ 17) ↔ itoaS n = s := by
    constructor
    · rintro ⟨h1, -⟩
      unfold itoaS
      rw [h1]
    · intro h1
      refine ⟨?_, hl⟩
      rw [← h1]
      exact (data_baL _).symm
  simp only [e]
theorem atoi_size {s : ByteArray} (h : (Lib.trimPrefix s.data.toList [45]).length ≤ 17) : s.size ≤ 18 := by
  have := trim_len s.data.toList
  have e : s.data.toList.length = s.size := rfl
  omega
theorem bne_of2 {x y : ByteArray} (h : x ≠ y) : (!x.toList == y.toList) = true := by
  simp [ByteArray.toList_eq]
  intro e
  exact h (ByteArray.ext (by first | exact e | exact Array.toList_inj.1 e))
set_option maxHeartbeats 4000000 in
theorem parseNum_any (t : ByteArray) (w : World) (ht : t.size ≤ 1048576) (hg : Glb w) :
    Calls Tryz.prog 76 #[.string t] w fun e w' => NumE t e ∧ Below w.heap.size w w' := by
  have HG := Lib.hid hg
  clear hg
  obtain ⟨z, hz⟩ : ∃ z : ByteArray, (⟨(Lib.trimPrefix t.data.toList [45]).toArray⟩ : ByteArray) = z := ⟨_, rfl⟩
  have hzs : z.size = (Lib.trimPrefix t.data.toList [45]).length := by rw [← hz]; rfl
  have HZ := Lib.hid hzs
  have HZ0 := Lib.hid hz
  clear hz hzs
  go_enter Tryz.func76, Tryz.ntmps76
  go_wp2_with fail
  refine (Tryz.strings_TrimPrefix t ⟨#[45]⟩ w).mono ?_
  rintro e w2 ⟨rfl, rfl⟩
  rw [show (⟨#[45]⟩ : ByteArray).data.toList = [45] from rfl, HZ0.out]
  by_cases hl : 17 < z.size
  · have HN := Lib.hid (numT_long (s := t) (by rw [← HZ.out]; exact hl))
    have hli : (17 : Int) < (z.size : Int) := by omega
    go_wp2
    go_ret2
    exact ⟨NumE.bad HN.out, Below.refl _ _⟩
  · have hl17 : (Lib.trimPrefix t.data.toList [45]).length ≤ 17 := by rw [← HZ.out]; omega
    have h18 := atoi_size hl17
    have hli : ¬ (17 : Int) < (z.size : Int) := by omega
    have HL := Lib.hid hl17
    clear hl17
    cases ha : Lib.atoi t.data.toList with
    | none =>
      have HN := Lib.hid (numT_atoi_no ha)
      have HA := Lib.hid ha
      clear ha
      obtain ⟨tp, p, hv⟩ := HG.out.2.2
      have HV := Lib.hid hv
      clear hv
      go_wp2_with fail
      refine (Tryz.strconv_Atoi_err t h18 HA.out _ w2 HV.out (.inr ⟨_, _, rfl⟩)).mono ?_
      rintro e w3 ⟨N, rfl, -, -, b⟩
      go_wp2
      go_ret2
      exact ⟨NumE.bad HN.out, b⟩
    | some n =>
      have HN := Lib.hid (numT_atoi HL.out ha)
      have hbd := Lib.atoi_bound ha h18
      have HA := Lib.hid ha
      clear ha
      go_wp2_with fail
      refine (Tryz.strconv_Atoi t n h18 HA.out w2).mono ?_
      rintro e w3 ⟨rfl, tt, hw3⟩
      have b3 : Below w2.heap.size w2 w3 := by rw [hw3]; exact Lib.bytesWorld_below _ _ _
      have HB := Lib.hid b3
      clear b3 hw3
      go_wp2_with fail
      refine (itoa_any n _ ⟨by omega, by omega⟩ (HG.out.1.bel HB.out)).mono ?_
      rintro e w4 ⟨rfl, b4⟩
      have HB4 := Lib.hid (bel_trans HB.out b4)
      clear b4
      obtain ⟨T, hT⟩ : ∃ T, itoaS n = T := ⟨_, rfl⟩
      rw [hT] at HN ⊢
      clear hT
      by_cases hq : T = t
      · have HN2 := Lib.hid (show numT t = some n by rw [HN.out, if_pos hq])
        have he : (!T.toList == t.toList) = false := by rw [hq]; simp
        clear hq
        go_wp2
        go_ret2
        exact ⟨NumE.good HN2.out, HB4.out⟩
      · have HN2 := Lib.hid (show numT t = none by rw [HN.out, if_neg hq])
        have he := bne_of2 hq
        clear hq
        go_wp2
        go_ret2
        exact ⟨NumE.bad HN2.out, HB4.out⟩
end Go.Proofs.YtdmadaebeooaaaaGreatDoor

/-
  Lists of numbers parsed by the library's means: splitNumbers, ParsePoly (impl).
-/
namespace Go.Proofs.YtdmadaebeooaaaaGreatDoor
open Go.RowKit
set_option linter.unusedVariables false
set_option linter.unusedSimpArgs false
set_option maxRecDepth 100000
attribute [local go_sem ↓] Go.wp_at_zero Go.wp_at_succ

theorem cutS_wf (c : UInt8) (s : ByteArray) (hs : s.size ≤ 1048576) : WfS (cutS c s) := by
  intro x hx
  have := cutS_mem_size hx
  omega
theorem split_any (s : ByteArray) (c : UInt8) (w : World) (hs : s.size ≤ 1048576) (hg : Glb w) :
    Calls Tryz.prog 37 #[.string s, .string ⟨#[c]⟩] w fun e w' => ∃ A, e = .returned (.slice A (cutS c s).length (cutS c s).length) ∧ OwnS w' w.heap.size (.slice A (cutS c s).length (cutS c s).length) (cutS c s) ∧ Below w.heap.size w w' := by
  obtain ⟨m, hm⟩ := hg.2.1
  refine (Tryz.strings_Split s ⟨#[c]⟩ m w (by omega) hm (Nat.le_refl _)).mono ?_
  rintro e w' ⟨rfl, rfl⟩
  rw [cutS_split, ← cutS_len]
  have hl := cutS_le c s
  refine ⟨_, rfl, OwnS.mk' (cs := (cutS c s).map Value.string) (Nat.le_refl _) (Blk.new w 9 _) (Nat.le_refl _) (by omega) (by simp) (fun j hj => ?_) (cutS_wf c s hs), bel_alloc _ _⟩
  rw [List.getElem?_map, List.getElem?_eq_getElem hj, sat_eq _ _ hj]
  rfl
theorem grown_set (w : World) (b j : Nat) (u : Value) : w.grownBy (w.setCell ⟨b, j, none⟩ u) (some b) := only_setCell ⟨rfl, rfl, rfl, Nat.le_refl _, fun _ _ _ => rfl⟩ (.inl rfl) u
/-- What splitNumbers returns. -/
def spL (t : ByteArray) : List Int := if numsOk t = true then numsV t else []
theorem spL_yes {t : ByteArray} (h : numsOk t = true) : spL t = numsV t := by simp [spL, h]
theorem spL_no {t : ByteArray} (h : numsOk t = false) : spL t = [] := by simp [spL, h]
theorem numsV_at {ls : List ByteArray} {L : List Int} (hl : L.length = ls.length) (h : ∀ j, j < ls.length → at_ L j = numV (sat ls j)) : L = ls.map numV := by
  apply List.ext_getElem (by rw [hl, List.length_map])
  intro j h1 h2
  have := h j (by omega)
  rw [sat_eq ls j (by omega)] at this
  rw [List.getElem_map, ← this]
  unfold at_
  rw [List.getD_eq_getElem?_getD, List.getElem?_eq_getElem h1]
  rfl
set_option maxHeartbeats 4000000 in
theorem splitNum_any (t : ByteArray) (w : World) (ht : t.size ≤ 1048576) (hg : Glb w) :
    Calls Tryz.prog 39 #[.string t] w fun e w' => ∃ r, e = .returned (.tuple #[r, .bool (numsOk t)]) ∧ Own w' w.heap.size r (spL t) ∧ Below w.heap.size w w' := by
  have HG := Lib.hid hg
  go_enter Tryz.func39, Tryz.ntmps39
  go_wp2_with fail
  refine (split_any t 32 _ ht hg).mono ?_
  rintro e w2 ⟨A, rfl, o, b⟩
  have HB := Lib.hid b
  have hcl := cutS_le 32 t
  obtain ⟨ls, hls⟩ : ∃ ls, cutS 32 t = ls := ⟨_, rfl⟩
  have HLS := Lib.hid hls
  rw [hls] at o hcl
  rw [hls]
  have HP := Lib.hid o
  have hmk := fun W => Tryz.mkInts ls.length (by omega) W
  have OZ := Own.zeros w2 ls.length (by omega)
  have BZ := bel_trans b (bel_alloc w2 (.cells (reps ls.length (.int .i64 0)).toArray 3))
  have HPZ := o.bel (bel_alloc w2 (.cells (reps ls.length (.int .i64 0)).toArray 3))
  have hz2 := b.size
  clear o b hls hg
  go_wp2_with fail
  generalize hW : w2.alloc (.cells (reps ls.length (.int .i64 0)).toArray 3) = w3 at *
  clear hW
  go_loopw [17] (fun i wr => ∃ (k : Nat) (L : List Int), k ≤ ls.length ∧ i = .int .i64 k ∧ okTo ls k ∧ L.length = ls.length ∧ (∀ j, j < k → at_ L j = numV (sat ls j)) ∧ Own wr w2.heap.size (.slice (some ⟨w2.heap.size, 0, none⟩) ls.length ls.length) L ∧ OwnS wr w.heap.size (.slice A ls.length ls.length) ls ∧ Below w.heap.size w wr) (fun i _ => ls.length - (intOf i).toNat)
  case atStart => exact ⟨0, _, Nat.zero_le _, rfl, fun j hj => absurd hj (Nat.not_lt_zero _), zerosL_len _, fun j hj => absurd hj (Nat.not_lt_zero _), OZ, HPZ, BZ⟩
  case round =>
    obtain ⟨k, L, hk, rfl, hok, hL, hat, hO, hP, hB⟩ := hrel
    have H := Lib.hid (And.intro hok (And.intro hat (And.intro hO (And.intro hP hB))))
    have HLL := Lib.hid hL
    have hz := hB.size
    clear hok hat hO hP hB hL OZ HPZ BZ
    by_cases hkl : k < ls.length
    · obtain ⟨A6, c6, e6, -, -, hrd⟩ := H.out.2.2.2.1.strs.open_
      cases e6
      obtain ⟨b, o, rfl, hbb, hcell⟩ := hrd.strs (Nat.lt_of_le_of_lt (Nat.zero_le _) hkl)
      have hck := hcell k hkl
      have hss : (sat ls k).size ≤ 1048576 := Nat.le_trans (cutS_mem_size (c := 32) (s := t) (by rw [HLS.out]; exact sat_mem ls k hkl)) ht
      have hbd := numV_bd (sat ls k)
      have HNO := Lib.hid (allT_no hkl)
      have HOS := Lib.hid (fun hq => okTo_succ H.out.1 hq)
      obtain ⟨Z, hZ⟩ : ∃ Z, sat ls k = Z := ⟨_, rfl⟩
      rw [hZ] at hck hss hbd HNO HOS
      replace hZ := Lib.hid hZ
      clear hcell hrd
      go_wp2_with fail
      refine (parseNum_any Z _ hss (HG.out.bel H.out.2.2.2.2)).mono ?_
      rintro e w4 ⟨he, b4⟩
      unfold NumE at he
      subst he
      have HB4 := Lib.hid (bel_trans H.out.2.2.2.2 b4)
      have HO4 := Lib.hid (H.out.2.2.1.bel b4)
      have HP4 := Lib.hid (H.out.2.2.2.1.bel b4)
      clear b4 hck
      obtain ⟨z, hz3⟩ : ∃ z, numV Z = z := ⟨_, rfl⟩
      rw [hz3] at hbd
      rw [hz3]
      replace hz3 := Lib.hid hz3
      cases hq : (numT Z).isSome
      · have HE := Lib.hid (show numsOk t = false from by
          have := HNO.out hq
          unfold numsOk
          rw [HLS.out]
          exact Bool.eq_false_iff.2 this)
        go_wp2
        go_ret2
        exact ⟨_, by rw [HE.out]; rfl, by rw [spL_no HE.out]; exact Own.nil_ _ _, HB4.out⟩
      · have HQ := Lib.hid (HOS.out hq)
        obtain ⟨g9, c9, e9, -, -, -, -, h9⟩ := HO4.out.openN (by rw [HLL.out]; omega)
        injection e9 with e1 e2 e3
        injection e1 with e1
        injection e1 with e1
        subst e1
        clear e2 e3
        obtain ⟨f0, f1⟩ := h9 k (by rw [HLL.out]; exact hkl)
        have hne := Lib.hid (show ∀ q, (Value.slice (some ⟨b, o, none⟩) ls.length ls.length).ownBlock = some q → (Value.slice (some ⟨w2.heap.size, 0, none⟩) ls.length ls.length).ownBlock ≠ some q from fun q hq e => by
          have h1 := (HP.out.lt q hq).2
          have h2 : w2.heap.size = q := Option.some.inj e
          omega)
        clear h9
        go_wp2
        go_roundw
        case rel =>
          refine ⟨k + 1, L.set k z, hkl, by go_num, HQ.out, by rw [List.length_set]; exact HLL.out, fun j hj => ?_, HO4.out.set_ k z (by rw [HLL.out]; exact hkl) ⟨by omega, by omega⟩, HP4.out.apart (u := .slice (some ⟨w2.heap.size, 0, none⟩) ls.length ls.length) (grown_set _ _ _ _) hne.out, HB4.out.setCell hz2 _⟩
          rw [at_set j (by rw [HLL.out]; exact hkl)]
          by_cases e : j = k
          · rw [if_pos e, e, hZ.out, hz3.out]
          · rw [if_neg e]; exact H.out.2.1 j (by omega)
        case measure => simp [intOf]; omega
    · have hke : k = ls.length := by omega
      subst hke
      have HE := Lib.hid (show numsOk t = true by unfold numsOk; rw [HLS.out]; exact okTo_all H.out.1)
      have HV := Lib.hid (show numsV t = L by unfold numsV; rw [HLS.out]; exact (numsV_at HLL.out H.out.2.1).symm)
      go_wp2
      go_ret2
      exact ⟨_, by rw [HE.out]; rfl, by rw [spL_yes HE.out, HV.out]; exact H.out.2.2.1.lower hz2, H.out.2.2.2.2⟩
/-- What ParsePoly returns. -/
def ppL (t : ByteArray) : List Int := chkL (spL t)
def ppOk (t : ByteArray) : Bool := numsOk t && polyOk (spL t)
set_option maxHeartbeats 1000000 in
theorem implPP_any (t : ByteArray) (w : World) (ht : t.size ≤ 1048576) (hg : Glb w) :
    Calls Tryz.prog 38 #[.string t] w fun e w' => ∃ r, e = .returned (.tuple #[r, .bool (ppOk t)]) ∧ Own w' w.heap.size r (ppL t) ∧ Below w.heap.size w w' := by
  go_enter Tryz.func38, Tryz.ntmps38
  go_wp2_with fail
  refine (splitNum_any t w ht hg).mono ?_
  rintro e w2 ⟨r, rfl, o, b⟩
  have HO := Lib.hid o
  have HB := Lib.hid b
  obtain ⟨A, c, rfl, -, -, -⟩ := o.ints.open_
  clear o b
  cases hq : numsOk t
  · have HE := Lib.hid (show ppOk t = false by unfold ppOk; rw [hq]; rfl)
    have HL := Lib.hid (show ppL t = [] by unfold ppL; rw [spL_no hq]; rfl)
    go_wp2
    go_ret2
    exact ⟨_, by rw [HE.out]; rfl, by rw [HL.out]; exact Own.nil_ _ _, HB.out⟩
  · have HE := Lib.hid (show ppOk t = polyOk (spL t) by unfold ppOk; rw [hq]; rfl)
    go_wp2_with fail
    refine (checked_any _ (spL t) _ HO.out.ints).mono ?_
    rintro e w3 ⟨rfl, rfl⟩
    have HC := Lib.hid HO.out.chk
    obtain ⟨v, hv⟩ : ∃ v, chkV (spL t) (.slice A (spL t).length c) = v := ⟨_, rfl⟩
    rw [hv] at HC ⊢
    clear hv
    go_wp2
    go_ret2
    exact ⟨_, by rw [HE.out]; rfl, HC.out, HB.out⟩
end Go.Proofs.YtdmadaebeooaaaaGreatDoor

/-
  Jobs parsed: ParseJob (spec).
-/
namespace Go.Proofs.YtdmadaebeooaaaaGreatDoor
open Go.RowKit
set_option linter.unusedVariables false
set_option linter.unusedSimpArgs false
set_option maxRecDepth 100000
attribute [local go_sem ↓] Go.wp_at_zero Go.wp_at_succ

/-- The groups of a text, and the job that the reference reads from them. -/
def grp (t : ByteArray) (i : Nat) : ByteArray := sat (cutS 59 t) i
def spJ (t : ByteArray) : JobD := ⟨spP (grp t 0), at_ (eight (grp t 1) 3) 0, at_ (eight (grp t 1) 3) 1, at_ (eight (grp t 1) 3) 2, at_ (eight (grp t 2) 2) 0, at_ (eight (grp t 2) 2) 1, at_ (eight (grp t 3) 3) 0, at_ (eight (grp t 3) 3) 1, at_ (eight (grp t 3) 3) 2⟩
open Classical in
/-- What the reference's ParseJob returns. -/
noncomputable def spR (t : ByteArray) : JobD × Bool := if (cutS 59 t).length = 4 ∧ fmtJ (spJ t) = t then (spJ t, true) else (zeroJ, false)
theorem spR_yes {t : ByteArray} (h : (cutS 59 t).length = 4) (h2 : fmtJ (spJ t) = t) : spR t = (spJ t, true) := by unfold spR; rw [if_pos ⟨h, h2⟩]
theorem spR_no {t : ByteArray} (h : ¬ ((cutS 59 t).length = 4 ∧ fmtJ (spJ t) = t)) : spR t = (zeroJ, false) := by unfold spR; rw [if_neg h]
theorem grp_size {t : ByteArray} (ht : t.size ≤ 1048576) (h : (cutS 59 t).length = 4) {i : Nat} (hi : i < 4) : (grp t i).size ≤ 1048576 := Nat.le_trans (cutS_mem_size (c := 59) (s := t) (sat_mem _ i (by omega))) ht
/-- What ParseJob returns, as a value of its own. -/
def JobE (w : World) (base : Nat) (R : JobD × Bool) (e : Ending) : Prop := ∃ v, e = .returned (.tuple #[jobV v R.1, .bool R.2]) ∧ Own w base v R.1.poly ∧ R.1.In
theorem zeroJ_in : zeroJ.In := by constructor <;> (unfold zeroJ; simp)

theorem sm_at {l : List Int} (h : Sm l) (i : Nat) : -100000000000000000 < at_ l i ∧ at_ l i < 100000000000000000 := by
  unfold at_
  rw [List.getD_eq_getElem?_getD]
  cases hq : l[i]? with
  | none => simp
  | some x => exact h x (List.mem_of_getElem? hq)
theorem eight_sm (t : ByteArray) (n : Nat) : Sm (eight t n) := by
  unfold eight
  split
  · exact numsV_sm t
  · intro x hx
    obtain ⟨_, _, rfl⟩ := List.mem_map.1 hx
    omega
theorem eight_bd (t : ByteArray) (n i : Nat) : -9223372036854775808 ≤ at_ (eight t n) i ∧ at_ (eight t n) i ≤ 9223372036854775807 := by
  have := sm_at (eight_sm t n) i
  omega
theorem parts4 {w : World} {A : Option Addr} {c : Nat} {ls : List ByteArray} (h : Strs w (.slice A ls.length c) ls) (hl : ls.length = 4) : ∃ b o, A = some ⟨b, o, none⟩ ∧ b < w.heap.size ∧
    (w.cell? ⟨b, o, none⟩ = some (.string (sat ls 0)) ∧ w.cell? ⟨b, o + 1, none⟩ = some (.string (sat ls 1)) ∧ w.cell? ⟨b, o + 2, none⟩ = some (.string (sat ls 2)) ∧ w.cell? ⟨b, o + 3, none⟩ = some (.string (sat ls 3))) := by
  obtain ⟨A6, c6, e6, -, -, hrd⟩ := h.open_
  injection e6 with e1 e2 e3
  subst e1
  obtain ⟨b, o, e, hb, hc⟩ := hrd.strs (by omega)
  exact ⟨b, o, e, hb, hc 0 (by omega), hc 1 (by omega), hc 2 (by omega), hc 3 (by omega)⟩
theorem row3 {w : World} {base : Nat} {v : Value} {l : List Int} (h : Own w base v l) (hl : l.length = 3) : ∃ b c, v = .slice (some ⟨b, 0, none⟩) 3 c ∧ base ≤ b ∧ b < w.heap.size ∧ 3 ≤ c ∧
    (w.cell? ⟨b, 0, none⟩ = some (.int .i64 (at_ l 0)) ∧ w.cell? ⟨b, 1, none⟩ = some (.int .i64 (at_ l 1)) ∧ w.cell? ⟨b, 2, none⟩ = some (.int .i64 (at_ l 2))) := by
  obtain ⟨b, c, rfl, h1, h2, h3, h4, hc⟩ := h.openN (by omega)
  rw [hl] at h3 ⊢
  exact ⟨b, c, rfl, h1, h2, h3, (hc 0 (by omega)).1, (hc 1 (by omega)).1, (hc 2 (by omega)).1⟩
theorem row2 {w : World} {base : Nat} {v : Value} {l : List Int} (h : Own w base v l) (hl : l.length = 2) : ∃ b c, v = .slice (some ⟨b, 0, none⟩) 2 c ∧ base ≤ b ∧ b < w.heap.size ∧ 2 ≤ c ∧
    (w.cell? ⟨b, 0, none⟩ = some (.int .i64 (at_ l 0)) ∧ w.cell? ⟨b, 1, none⟩ = some (.int .i64 (at_ l 1))) := by
  obtain ⟨b, c, rfl, h1, h2, h3, h4, hc⟩ := h.openN (by omega)
  rw [hl] at h3 ⊢
  exact ⟨b, c, rfl, h1, h2, h3, (hc 0 (by omega)).1, (hc 1 (by omega)).1⟩
theorem cells3 {w w' : World} {b : Nat} {x y z : Value} (h : w.cell? ⟨b, 0, none⟩ = some x ∧ w.cell? ⟨b, 1, none⟩ = some y ∧ w.cell? ⟨b, 2, none⟩ = some z) (hl : b < w.heap.size) (hb : Below w.heap.size w w') : w'.cell? ⟨b, 0, none⟩ = some x ∧ w'.cell? ⟨b, 1, none⟩ = some y ∧ w'.cell? ⟨b, 2, none⟩ = some z :=
  ⟨(hb.cell hl).trans h.1, (hb.cell hl).trans h.2.1, (hb.cell hl).trans h.2.2⟩
theorem cells2 {w w' : World} {b : Nat} {x y : Value} (h : w.cell? ⟨b, 0, none⟩ = some x ∧ w.cell? ⟨b, 1, none⟩ = some y) (hl : b < w.heap.size) (hb : Below w.heap.size w w') : w'.cell? ⟨b, 0, none⟩ = some x ∧ w'.cell? ⟨b, 1, none⟩ = some y :=
  ⟨(hb.cell hl).trans h.1, (hb.cell hl).trans h.2⟩
set_option maxHeartbeats 8000000 in
theorem specPJ_any (t : ByteArray) (w : World) (ht : t.size ≤ 1048576) :
    Calls Tryz.prog 12 #[.string t] w fun e w' => JobE w' w.heap.size (spR t) e ∧ Below w.heap.size w w' := by
  have K0 := Blk.new w 32 (jobC (.slice none 0 0) zeroJ)
  have B0 := bel_alloc w (.cells (jobC (.slice none 0 0) zeroJ).toArray 32)
  go_enter Tryz.func12, Tryz.ntmps12
  go_wp2_with fail
  change Calls _ _ _ (w.alloc (.cells (jobC (.slice none 0 0) zeroJ).toArray 32)) _
  generalize hW : w.alloc (.cells (jobC (.slice none 0 0) zeroJ).toArray 32) = w1 at *
  have hz1 : w1.heap.size = w.heap.size + 1 := by rw [← hW]; simp
  clear hW
  refine (l9Cut_any t 59 _ ht).mono ?_
  rintro e w2 ⟨r, rfl, o, b⟩
  have hz21 : w.heap.size + 1 ≤ w2.heap.size := by rw [← hz1]; exact b.size
  replace K0 := K0.below b K0.lt
  have HB := Lib.hid (bel_trans B0 b)
  have HP := Lib.hid o.strs
  have hcl := cutS_le 59 t
  obtain ⟨ls, hls⟩ : ∃ ls, cutS 59 t = ls := ⟨_, rfl⟩
  have HLS := Lib.hid hls
  rw [hls] at HP hcl
  obtain ⟨A, c, rfl, hlc, -, -⟩ := HP.out.open_
  clear B0 o b hls
  by_cases hlen : ls.length = 4
  · have HLN := Lib.hid (show (cutS 59 t).length = 4 by rw [HLS.out]; exact hlen)
    have g0 : (sat ls 0).size ≤ 1048576 := by rw [← HLS.out]; exact grp_size ht HLN.out (i := 0) (by omega)
    have g1 : (sat ls 1).size ≤ 1048576 := by rw [← HLS.out]; exact grp_size ht HLN.out (i := 1) (by omega)
    have g2 : (sat ls 2).size ≤ 1048576 := by rw [← HLS.out]; exact grp_size ht HLN.out (i := 2) (by omega)
    have g3 : (sat ls 3).size ≤ 1048576 := by rw [← HLS.out]; exact grp_size ht HLN.out (i := 3) (by omega)
    obtain ⟨b, o, rfl, hbb, p0, p1, p2, p3⟩ := parts4 HP.out hlen
    rw [hlen] at HP hlc ⊢
    have HJ := Lib.hid (show spJ t = ⟨spP (sat ls 0), at_ (eight (sat ls 1) 3) 0, at_ (eight (sat ls 1) 3) 1, at_ (eight (sat ls 1) 3) 2, at_ (eight (sat ls 2) 2) 0, at_ (eight (sat ls 2) 2) 1, at_ (eight (sat ls 3) 3) 0, at_ (eight (sat ls 3) 3) 1, at_ (eight (sat ls 3) 3) 2⟩ by unfold spJ grp; rw [HLS.out])
    obtain ⟨G0, hG0⟩ : ∃ G, sat ls 0 = G := ⟨_, rfl⟩
    obtain ⟨G1, hG1⟩ : ∃ G, sat ls 1 = G := ⟨_, rfl⟩
    obtain ⟨G2, hG2⟩ : ∃ G, sat ls 2 = G := ⟨_, rfl⟩
    obtain ⟨G3, hG3⟩ : ∃ G, sat ls 3 = G := ⟨_, rfl⟩
    rw [hG0] at g0 p0 HJ
    rw [hG1] at g1 p1 HJ
    rw [hG2] at g2 p2 HJ
    rw [hG3] at g3 p3 HJ
    have hl1 := eight_len G1 3
    have hl2 := eight_len G2 2
    have hl3 := eight_len G3 3
    clear hG0 hG1 hG2 hG3 hlen HLS HP hcl
    go_wp2_with fail
    refine (specPP_any G0 _ g0).mono ?_
    rintro e w3 ⟨r0, x0, rfl, o0, b3⟩
    replace K0 := K0.below b3 K0.lt
    replace HB := Lib.hid (bel_trans HB.out b3)
    replace p1 := (b3.cell hbb).trans p1
    replace p2 := (b3.cell hbb).trans p2
    replace p3 := (b3.cell hbb).trans p3
    replace hbb := Nat.lt_of_lt_of_le hbb b3.size
    clear b3 p0
    go_wp2_with fail
    refine (l8Numbers_any G1 3 _ g1 (by omega)).mono ?_
    rintro e w4 ⟨r1, x1, rfl, o1, b4⟩
    replace K0 := K0.below b4 K0.lt
    replace HB := Lib.hid (bel_trans HB.out b4)
    replace p2 := (b4.cell hbb).trans p2
    replace p3 := (b4.cell hbb).trans p3
    replace hbb := Nat.lt_of_lt_of_le hbb b4.size
    replace o0 := o0.bel b4
    obtain ⟨n1, m1, rfl, y1, u1, v1, q1⟩ := row3 o1 hl1
    clear b4 p1 o1
    go_wp2_with fail
    refine (l8Numbers_any G2 2 _ g2 (by omega)).mono ?_
    rintro e w5 ⟨r2, x2, rfl, o2, b5⟩
    replace K0 := K0.below b5 K0.lt
    replace HB := Lib.hid (bel_trans HB.out b5)
    replace p3 := (b5.cell hbb).trans p3
    replace hbb := Nat.lt_of_lt_of_le hbb b5.size
    replace o0 := o0.bel b5
    replace q1 := cells3 q1 u1 b5
    replace u1 := Nat.lt_of_lt_of_le u1 b5.size
    obtain ⟨n2, m2, rfl, y2, u2, v2, q2⟩ := row2 o2 hl2
    clear b5 p2 o2
    go_wp2_with fail
    refine (l8Numbers_any G3 3 _ g3 (by omega)).mono ?_
    rintro e w6 ⟨r3, x3, rfl, o3, b6⟩
    replace K0 := K0.below b6 K0.lt
    replace HB := Lib.hid (bel_trans HB.out b6)
    replace o0 := o0.bel b6
    replace q1 := cells3 q1 u1 b6
    replace u1 := Nat.lt_of_lt_of_le u1 b6.size
    replace q2 := cells2 q2 u2 b6
    replace u2 := Nat.lt_of_lt_of_le u2 b6.size
    obtain ⟨n3, m3, rfl, y3, u3, v3, q3⟩ := row3 o3 hl3
    clear b6 p3 o3
    obtain ⟨A0, c0, rfl, -, -, -⟩ := o0.ints.open_
    have O0 := Lib.hid (o0.lower hz21)
    obtain ⟨i1, i2, i3⟩ := q1
    obtain ⟨i4, i5⟩ := q2
    obtain ⟨i6, i7, i8⟩ := q3
    clear o0
    obtain ⟨J, hJ⟩ : ∃ J, J = spJ t := ⟨_, rfl⟩
    have hJin : J.In := by
      rw [hJ, HJ.out]
      constructor <;> exact eight_bd _ _ _
    rw [HJ.out] at hJ
    have e1 : J.fr = at_ (eight G1 3) 0 := by rw [hJ]
    have e2 : J.ct = at_ (eight G1 3) 1 := by rw [hJ]
    have e3 : J.wd = at_ (eight G1 3) 2 := by rw [hJ]
    have e4 : J.dg = at_ (eight G2 2) 0 := by rw [hJ]
    have e5 : J.wy = at_ (eight G2 2) 1 := by rw [hJ]
    have e6 : J.rw = at_ (eight G3 3) 0 := by rw [hJ]
    have e7 : J.ac = at_ (eight G3 3) 1 := by rw [hJ]
    have e8 : J.wi = at_ (eight G3 3) 2 := by rw [hJ]
    have e0 : J.poly = spP G0 := by rw [hJ]
    have HSJ := Lib.hid (show spJ t = J by rw [HJ.out, hJ])
    have hz6 : w.heap.size + 1 ≤ w2.heap.size := hz21
    have HJI := Lib.hid hJin
    rw [← e1] at i1
    rw [← e2] at i2
    rw [← e3] at i3
    rw [← e4] at i4
    rw [← e5] at i5
    rw [← e6] at i6
    rw [← e7] at i7
    rw [← e8] at i8
    replace O0 := Lib.hid (show Own w6 (w.heap.size + 1) (.slice A0 J.poly.length c0) J.poly by rw [e0]; exact O0.out)
    rw [← e0]
    have HK := Lib.hid K0
    clear K0 hJ HJ e0 e1 e2 e3 e4 e5 e6 e7 e8 hJin hl1 hl2 hl3 y1 y2 y3 v1 v2 v3 hlc hz6
    go_wp2_with fail
    go_region_held3 (fun w' => w'.cell? ⟨n1, 0, none⟩ = some (.int .i64 J.fr) ∧ w'.cell? ⟨n1, 1, none⟩ = some (.int .i64 J.ct) ∧ w'.cell? ⟨n1, 2, none⟩ = some (.int .i64 J.wd) ∧ w'.cell? ⟨n2, 0, none⟩ = some (.int .i64 J.dg) ∧ w'.cell? ⟨n2, 1, none⟩ = some (.int .i64 J.wy) ∧ w'.cell? ⟨n3, 0, none⟩ = some (.int .i64 J.rw) ∧ w'.cell? ⟨n3, 1, none⟩ = some (.int .i64 J.ac) ∧ w'.cell? ⟨n3, 2, none⟩ = some (.int .i64 J.wi)) (first | exact ⟨i1, i2, i3, i4, i5, i6, i7, i8⟩ | go_keep) (first | fail)
    rename_i hHeld
    clear hHeld i1 i2 i3 i4 i5 i6 i7 i8
    have bA : Below w6.heap.size w6 (w6.alloc (.cells (jobC (.slice A0 J.poly.length c0) J).toArray 32)).drew := (bel_alloc w6 (.cells (jobC (.slice A0 J.poly.length c0) J).toArray 32)).drew
    have KJ : Blk (w6.alloc (.cells (jobC (.slice A0 J.poly.length c0) J).toArray 32)).drew w6.heap.size 32 (jobC (.slice A0 J.poly.length c0) J) := Blk.new w6 32 (jobC (.slice A0 J.poly.length c0) J)
    replace HK := Lib.hid (HK.out.below bA HK.out.lt)
    replace HB := Lib.hid (bel_trans HB.out bA)
    replace O0 := Lib.hid (O0.out.bel bA)
    have HKJ := Lib.hid KJ
    have HKJ2 := KJ
    clear bA KJ
    obtain ⟨a0, a1, a2, a3, a4, a5, a6, a7, a8⟩ := HKJ2.job
    clear HKJ2
    go_wp2_with fail
    change Calls _ _ #[jobV (.slice A0 J.poly.length c0) J] (w6.alloc (.cells (jobC (.slice A0 J.poly.length c0) J).toArray 32)).drew _
    clear a0 a1 a2 a3 a4 a5 a6 a7 a8
    generalize hW : (w6.alloc (.cells (jobC (.slice A0 J.poly.length c0) J).toArray 32)).drew = wa at HK HB O0 HKJ ⊢
    clear hW
    refine (specFmt_any _ J _ O0.out.ints HJI.out).mono ?_
    rintro e w7 ⟨rfl, b7⟩
    replace HK := Lib.hid (HK.out.below b7 HK.out.lt)
    replace HKJ := Lib.hid (HKJ.out.below b7 HKJ.out.lt)
    replace HB := Lib.hid (bel_trans HB.out b7)
    replace O0 := Lib.hid (O0.out.bel b7)
    clear b7
    obtain ⟨T, hT⟩ : ∃ T, fmtJ J = T := ⟨_, rfl⟩
    rw [hT]
    replace hT := Lib.hid hT
    obtain ⟨c0', c1, c2, c3, c4, c5, c6, c7, c8⟩ := HK.out.job
    obtain ⟨f0, f1, f2, f3, f4, f5, f6, f7, f8⟩ := HK.out.free
    by_cases hq : T = t
    · have he : (!T.toList == t.toList) = false := by rw [hq]; simp
      have HR := Lib.hid (show spR t = (J, true) by rw [spR_yes HLN.out (by rw [HSJ.out, hT.out, hq]), HSJ.out])
      clear hq
      obtain ⟨a0, a1, a2, a3, a4, a5, a6, a7, a8⟩ := HKJ.out.job
      go_wp2_with fail
      have KE := blkNown [.slice A0 J.poly.length c0, .int .i64 J.fr, .int .i64 J.ct, .int .i64 J.wd, .int .i64 J.dg, .int .i64 J.wy, .int .i64 J.rw, .int .i64 J.ac, .int .i64 J.wi] _ _ 0 HK.out
      have BE := belN (g := w.heap.size) (Nat.le_refl _) [.slice A0 J.poly.length c0, .int .i64 J.fr, .int .i64 J.ct, .int .i64 J.wd, .int .i64 J.dg, .int .i64 J.wy, .int .i64 J.rw, .int .i64 J.ac, .int .i64 J.wi] _ 0 HB.out
      have OE := ownN (g := w.heap.size) (Nat.lt_succ_self _) [.slice A0 J.poly.length c0, .int .i64 J.fr, .int .i64 J.ct, .int .i64 J.wd, .int .i64 J.dg, .int .i64 J.wy, .int .i64 J.rw, .int .i64 J.ac, .int .i64 J.wi] _ 0 O0.out
      clear c0' c1 c2 c3 c4 c5 c6 c7 c8 f0 f1 f2 f3 f4 f5 f6 f7 f8 a0 a1 a2 a3 a4 a5 a6 a7 a8
      change bodyPost _ _ _ _ _ (setN w7 w.heap.size 0 [.slice A0 J.poly.length c0, .int .i64 J.fr, .int .i64 J.ct, .int .i64 J.wd, .int .i64 J.dg, .int .i64 J.wy, .int .i64 J.rw, .int .i64 J.ac, .int .i64 J.wi])
      generalize hW7 : setN w7 w.heap.size 0 [.slice A0 J.poly.length c0, .int .i64 J.fr, .int .i64 J.ct, .int .i64 J.wd, .int .i64 J.dg, .int .i64 J.wy, .int .i64 J.rw, .int .i64 J.ac, .int .i64 J.wi] = W7 at KE BE OE ⊢
      clear hW7
      obtain ⟨h0, h1, h2, h3, h4, h5, h6, h7, h8⟩ := Blk.job (v := .slice A0 J.poly.length c0) (j := J) KE
      refine bodyPost_ret (v := .tuple #[jobV (.slice A0 J.poly.length c0) J, .bool true]) (by simp [jobV, results, Tryz.results12, go_sem, h0, h1, h2, h3, h4, h5, h6, h7, h8]) rfl ⟨⟨_, by rw [HR.out], by rw [HR.out]; exact OE.lower (Nat.le_succ _), by rw [HR.out]; exact HJI.out⟩, BE⟩
    · have he := bne_of hq
      have HR := Lib.hid (spR_no (t := t) fun h => hq (by rw [← h.2, HSJ.out, hT.out]))
      clear hq
      go_wp2_with fail
      have KE := blkNown [.slice none 0 0, .int .i64 0, .int .i64 0, .int .i64 0, .int .i64 0, .int .i64 0, .int .i64 0, .int .i64 0, .int .i64 0] _ _ 0 HK.out
      have BE := belN (g := w.heap.size) (Nat.le_refl _) [.slice none 0 0, .int .i64 0, .int .i64 0, .int .i64 0, .int .i64 0, .int .i64 0, .int .i64 0, .int .i64 0, .int .i64 0] _ 0 HB.out
      clear c0' c1 c2 c3 c4 c5 c6 c7 c8 f0 f1 f2 f3 f4 f5 f6 f7 f8 
      change bodyPost _ _ _ _ _ (setN w7 w.heap.size 0 [.slice none 0 0, .int .i64 0, .int .i64 0, .int .i64 0, .int .i64 0, .int .i64 0, .int .i64 0, .int .i64 0, .int .i64 0])
      generalize hW7 : setN w7 w.heap.size 0 [.slice none 0 0, .int .i64 0, .int .i64 0, .int .i64 0, .int .i64 0, .int .i64 0, .int .i64 0, .int .i64 0, .int .i64 0] = W7 at KE BE ⊢
      clear hW7
      obtain ⟨h0, h1, h2, h3, h4, h5, h6, h7, h8⟩ := Blk.job (v := .slice none 0 0) (j := zeroJ) KE
      refine bodyPost_ret (v := .tuple #[jobV (.slice none 0 0) zeroJ, .bool false]) (by simp [jobV, results, Tryz.results12, go_sem, h0, h1, h2, h3, h4, h5, h6, h7, h8]) rfl ⟨⟨_, by rw [HR.out], by rw [HR.out]; exact Own.nil_ _ _, by rw [HR.out]; exact zeroJ_in⟩, BE⟩
  · have hlq : ((ls.length : Int) == 4) = false := by simp; omega
    have hli : ¬ (ls.length : Int) = 4 := by omega
    have HR := Lib.hid (spR_no (t := t) fun h => hlen (by rw [← HLS.out]; exact h.1))
    have HK := Lib.hid K0
    obtain ⟨c0, c1, c2, c3, c4, c5, c6, c7, c8⟩ := K0.job
    obtain ⟨f0, f1, f2, f3, f4, f5, f6, f7, f8⟩ := K0.free
    clear K0
    go_wp2_with fail
    have KE := blkNown [.slice none 0 0, .int .i64 0, .int .i64 0, .int .i64 0, .int .i64 0, .int .i64 0, .int .i64 0, .int .i64 0, .int .i64 0] _ _ 0 HK.out
    have BE := belN (g := w.heap.size) (Nat.le_refl _) [.slice none 0 0, .int .i64 0, .int .i64 0, .int .i64 0, .int .i64 0, .int .i64 0, .int .i64 0, .int .i64 0, .int .i64 0] _ 0 HB.out
    clear c0 c1 c2 c3 c4 c5 c6 c7 c8 f0 f1 f2 f3 f4 f5 f6 f7 f8
    change bodyPost _ _ _ _ _ (setN w2 w.heap.size 0 [.slice none 0 0, .int .i64 0, .int .i64 0, .int .i64 0, .int .i64 0, .int .i64 0, .int .i64 0, .int .i64 0, .int .i64 0])
    generalize hW7 : setN w2 w.heap.size 0 [.slice none 0 0, .int .i64 0, .int .i64 0, .int .i64 0, .int .i64 0, .int .i64 0, .int .i64 0, .int .i64 0, .int .i64 0] = W7 at KE BE ⊢
    clear hW7
    obtain ⟨h0, h1, h2, h3, h4, h5, h6, h7, h8⟩ := Blk.job (v := .slice none 0 0) (j := zeroJ) KE
    refine bodyPost_ret (v := .tuple #[jobV (.slice none 0 0) zeroJ, .bool false]) (by simp [jobV, results, Tryz.results12, go_sem, h0, h1, h2, h3, h4, h5, h6, h7, h8]) rfl ⟨⟨_, by rw [HR.out], by rw [HR.out]; exact Own.nil_ _ _, by rw [HR.out]; exact zeroJ_in⟩, BE⟩
end Go.Proofs.YtdmadaebeooaaaaGreatDoor

/-
  Jobs parsed: both packages agree, plainly.
-/
namespace Go.Proofs.YtdmadaebeooaaaaGreatDoor
open Go.RowKit
set_option linter.unusedVariables false
set_option linter.unusedSimpArgs false
set_option maxRecDepth 100000

def imJ (t : ByteArray) : JobD := ⟨ppL (grp t 0), at_ (spL (grp t 1)) 0, at_ (spL (grp t 1)) 1, at_ (spL (grp t 1)) 2, at_ (spL (grp t 2)) 0, at_ (spL (grp t 2)) 1, at_ (spL (grp t 3)) 0, at_ (spL (grp t 3)) 1, at_ (spL (grp t 3)) 2⟩
def ImOk (t : ByteArray) : Prop := (cutS 59 t).length = 4 ∧ ppOk (grp t 0) = true ∧ numsOk (grp t 1) = true ∧ numsOk (grp t 2) = true ∧ numsOk (grp t 3) = true ∧ (spL (grp t 1)).length = 3 ∧ (spL (grp t 2)).length = 2 ∧ (spL (grp t 3)).length = 3 ∧ jobOk (imJ t) = true
theorem list4 {l : List ByteArray} (h : l.length = 4) : l = [sat l 0, sat l 1, sat l 2, sat l 3] := by
  match l, h with
  | [a, b, c, d], _ => rfl
theorem list3i {l : List Int} (h : l.length = 3) : [at_ l 0, at_ l 1, at_ l 2] = l := by
  match l, h with
  | [a, b, c], _ => rfl
theorem list2i {l : List Int} (h : l.length = 2) : [at_ l 0, at_ l 1] = l := by
  match l, h with
  | [a, b], _ => rfl
theorem cut_len_nums (g : ByteArray) : (cutS 32 g).length = (numsV g).length := by unfold numsV; rw [List.length_map]
theorem eight_spL {g : ByteArray} {n : Nat} (h : numsOk g = true) (hl : (spL g).length = n) : eight g n = spL g := by
  rw [spL_yes h] at hl ⊢
  exact eight_yes (by rw [cut_len_nums]; exact hl) h
theorem spP_ppL {g : ByteArray} (h : ppOk g = true) : spP g = ppL g ∧ polyS (ppL g) = g := by
  unfold ppOk at h
  rw [Bool.and_eq_true] at h
  have h1 := spL_yes h.1
  rw [h1] at h
  have h7 := poly_len h.2
  have e : ppL g = numsV g := by unfold ppL; rw [h1, chkL_yes h.2]
  have h8 : numsTo (cutS 32 g) 8 = numsV g := numsTo_all (by rw [cut_len_nums]; omega)
  have hp : polyS (numsV g) = g := by rw [polyS_yes h.2, numsS_numsV h.1]
  rw [e]
  exact ⟨by rw [spP_yes (by rw [h8]; exact hp), h8], hp⟩
/-- What is parsed is what the reference parses. -/
theorem im_sp {t : ByteArray} (h : ImOk t) : imJ t = spJ t ∧ fmtJ (spJ t) = t := by
  obtain ⟨h4, hp, o1, o2, o3, l1, l2, l3, hj⟩ := h
  obtain ⟨e0, f0⟩ := spP_ppL hp
  have e : imJ t = spJ t := by
    unfold imJ spJ
    rw [eight_spL o1 l1, eight_spL o2 l2, eight_spL o3 l3, e0]
  refine ⟨e, ?_⟩
  rw [← e, fmt_yes hj, ← join_four]
  have r1 : gr1 (imJ t) = grp t 1 := by
    show numsS [at_ (spL (grp t 1)) 0, at_ (spL (grp t 1)) 1, at_ (spL (grp t 1)) 2] = _
    rw [list3i l1, spL_yes o1, numsS_numsV o1]
  have r2 : gr2 (imJ t) = grp t 2 := by
    show numsS [at_ (spL (grp t 2)) 0, at_ (spL (grp t 2)) 1] = _
    rw [list2i l2, spL_yes o2, numsS_numsV o2]
  have r3 : gr3 (imJ t) = grp t 3 := by
    show numsS [at_ (spL (grp t 3)) 0, at_ (spL (grp t 3)) 1, at_ (spL (grp t 3)) 2] = _
    rw [list3i l3, spL_yes o3, numsS_numsV o3]
  rw [r1, r2, r3, show polyS (imJ t).poly = grp t 0 from f0]
  have := joinS_cut 59 t
  rw [list4 h4] at this
  exact this
theorem job_sm {j : JobD} (hj : j.In) (h : jobOk j = true) : Sm j.poly ∧ Sm [j.fr, j.ct, j.wd] ∧ Sm [j.dg, j.wy] ∧ Sm [j.rw, j.ac, j.wi] := by
  obtain ⟨h1, h2, h3, h4, h5⟩ := jobOk_true.1 h
  obtain ⟨hk1, hk2, -, -⟩ := set_raw h1
  obtain ⟨hp0, hn⟩ := argOk_true.1 hk1
  obtain ⟨p1, p7, hp⟩ := polyOk_true.1 hp0
  have hc := capI_bd j.poly j.fr j.wd j.ct
  rw [h3] at hc
  simp [wayOk, inB] at h4
  simp [layOk, inB] at h5
  refine ⟨fun n hn => ?_, fun n hn => ?_, fun n hn => ?_, fun n hn => ?_⟩
  · obtain ⟨k, hk, rfl⟩ := List.getElem_of_mem hn
    have := hp k hk
    unfold at_ at this
    rw [List.getD_eq_getElem?_getD, List.getElem?_eq_getElem hk] at this
    simp at this
    omega
  · simp at hn
    rcases hn with rfl | rfl | rfl <;> omega
  · simp at hn
    rcases hn with rfl | rfl <;> omega
  · simp at hn
    rcases hn with rfl | rfl | rfl <;> omega
theorem sp_im {t : ByteArray} (h4 : (cutS 59 t).length = 4) (h : fmtJ (spJ t) = t) : ImOk t := by
  obtain ⟨j, hj⟩ : ∃ j, j = spJ t := ⟨_, rfl⟩
  have hin : j.In := by rw [hj]; constructor <;> exact eight_bd _ _ _
  rw [← hj] at h
  have hok : jobOk j = true := by
    cases hq : jobOk j
    · rw [fmt_no hq] at h
      rw [← h] at h4
      exact absurd h4 (by decide)
    · rfl
  have hpo := job_poly hok
  obtain ⟨s0, s1, s2, s3⟩ := job_sm hin hok
  have hp1 : j.poly ≠ [] := fun e => by have := (polyOk_true.1 hpo).1; rw [e] at this; simp at this
  rw [fmt_yes hok, polyS_yes hpo, ← join_four] at h
  have hc : cutS 59 t = [numsS j.poly, gr1 j, gr2 j, gr3 j] := by
    rw [← h]
    apply cutS_join
    intro p hp
    simp at hp
    rcases hp with rfl | rfl | rfl | rfl <;> exact numsS_no (by decide) (by decide) (by decide) _
  have g0 : grp t 0 = numsS j.poly := by unfold grp; rw [hc]; rfl
  have g1 : grp t 1 = gr1 j := by unfold grp; rw [hc]; rfl
  have g2 : grp t 2 = gr2 j := by unfold grp; rw [hc]; rfl
  have g3 : grp t 3 = gr3 j := by unfold grp; rw [hc]; rfl
  obtain ⟨a0, b0⟩ := numsOk_of hp1 s0
  obtain ⟨a1, b1⟩ := numsOk_of (by simp) s1
  obtain ⟨a2, b2⟩ := numsOk_of (by simp) s2
  obtain ⟨a3, b3⟩ := numsOk_of (by simp) s3
  have l0 : spL (grp t 0) = j.poly := by rw [g0, spL_yes a0, b0]
  have l1 : spL (grp t 1) = [j.fr, j.ct, j.wd] := by rw [g1]; unfold gr1; rw [spL_yes a1, b1]
  have l2 : spL (grp t 2) = [j.dg, j.wy] := by rw [g2]; unfold gr2; rw [spL_yes a2, b2]
  have l3 : spL (grp t 3) = [j.rw, j.ac, j.wi] := by rw [g3]; unfold gr3; rw [spL_yes a3, b3]
  have hi : imJ t = j := by
    unfold imJ ppL
    rw [l0, l1, l2, l3, chkL_yes hpo]
    rfl
  refine ⟨h4, ?_, ?_, ?_, ?_, ?_, ?_, ?_, ?_⟩
  · unfold ppOk
    rw [l0, hpo, g0, a0]
    rfl
  · rw [g1]; exact a1
  · rw [g2]; exact a2
  · rw [g3]; exact a3
  · rw [l1]; rfl
  · rw [l2]; rfl
  · rw [l3]; rfl
  · rw [hi]; exact hok
theorem spR_good {t : ByteArray} (h : ImOk t) : spR t = (imJ t, true) := by rw [spR_yes h.1 (im_sp h).2, (im_sp h).1]
theorem spR_bad {t : ByteArray} (h : ¬ ImOk t) : spR t = (zeroJ, false) := spR_no fun x => h (sp_im x.1 x.2)
end Go.Proofs.YtdmadaebeooaaaaGreatDoor

/-
  Jobs parsed: ParseJob (impl; printed by gen_pjm.py).
-/
namespace Go.Proofs.YtdmadaebeooaaaaGreatDoor
open Go.RowKit
set_option linter.unusedVariables false
set_option linter.unusedSimpArgs false
set_option maxRecDepth 100000
attribute [local go_sem ↓] Go.wp_at_zero Go.wp_at_succ

theorem row3' {w : World} {base c : Nat} {A : Option Addr} {l : List Int} (h : Own w base (.slice A l.length c) l) (hl : l.length = 3) : ∃ b, A = some ⟨b, 0, none⟩ ∧ 3 ≤ c ∧
    (w.cell? ⟨b, 0, none⟩ = some (.int .i64 (at_ l 0)) ∧ w.cell? ⟨b, 1, none⟩ = some (.int .i64 (at_ l 1)) ∧ w.cell? ⟨b, 2, none⟩ = some (.int .i64 (at_ l 2))) := by
  obtain ⟨b, c2, e, h1, h2, h3, h4⟩ := row3 h hl
  injection e with e1 e2 e3
  subst e3
  exact ⟨b, e1, h3, h4⟩
theorem row2' {w : World} {base c : Nat} {A : Option Addr} {l : List Int} (h : Own w base (.slice A l.length c) l) (hl : l.length = 2) : ∃ b, A = some ⟨b, 0, none⟩ ∧ 2 ≤ c ∧
    (w.cell? ⟨b, 0, none⟩ = some (.int .i64 (at_ l 0)) ∧ w.cell? ⟨b, 1, none⟩ = some (.int .i64 (at_ l 1))) := by
  obtain ⟨b, c2, e, h1, h2, h3, h4⟩ := row2 h hl
  injection e with e1 e2 e3
  subst e3
  exact ⟨b, e1, h3, h4⟩
theorem spL_sm (t : ByteArray) : Sm (spL t) := by
  unfold spL
  split
  · exact numsV_sm t
  · intro x hx; simp at hx
theorem spL_bd (t : ByteArray) (i : Nat) : -9223372036854775808 ≤ at_ (spL t) i ∧ at_ (spL t) i ≤ 9223372036854775807 := by
  have := sm_at (spL_sm t) i
  omega

set_option maxHeartbeats 8000000 in
theorem implPJ_any (t : ByteArray) (w : World) (ht : t.size ≤ 1048576) (hg : Glb w) :
    Calls Tryz.prog 13 #[.string t] w fun e w' => JobE w' w.heap.size (spR t) e ∧ Below w.heap.size w w' := by
  have K0 := Blk.new w 32 (jobC (.slice none 0 0) zeroJ)
  have B0 := bel_alloc w (.cells (jobC (.slice none 0 0) zeroJ).toArray 32)
  have HG := Lib.hid hg
  clear hg
  go_enter Tryz.func13, Tryz.ntmps13
  go_wp2_with fail
  change Calls _ _ _ (w.alloc (.cells (jobC (.slice none 0 0) zeroJ).toArray 32)) _
  generalize hW : w.alloc (.cells (jobC (.slice none 0 0) zeroJ).toArray 32) = w1 at *
  have hz1 : w1.heap.size = w.heap.size + 1 := by rw [← hW]; simp
  clear hW
  refine (split_any t 59 _ ht (HG.out.bel B0)).mono ?_
  rintro e w2 ⟨A, rfl, o, b⟩
  have hz21 : w.heap.size + 1 ≤ w2.heap.size := by rw [← hz1]; exact b.size
  replace K0 := K0.below b K0.lt
  have HK := Lib.hid K0
  have HB := Lib.hid (bel_trans B0 b)
  have HP := Lib.hid o.strs
  have hcl := cutS_le 59 t
  obtain ⟨ls, hls⟩ : ∃ ls, cutS 59 t = ls := ⟨_, rfl⟩
  have HLS := Lib.hid hls
  rw [hls] at HP hcl
  rw [hls]
  clear B0 o b hls K0
  by_cases hlen : ls.length = 4
  · have HLN := Lib.hid (show (cutS 59 t).length = 4 by rw [HLS.out]; exact hlen)
    have g0 : (sat ls 0).size ≤ 1048576 := by rw [← HLS.out]; exact grp_size ht HLN.out (i := 0) (by omega)
    have g1 : (sat ls 1).size ≤ 1048576 := by rw [← HLS.out]; exact grp_size ht HLN.out (i := 1) (by omega)
    have g2 : (sat ls 2).size ≤ 1048576 := by rw [← HLS.out]; exact grp_size ht HLN.out (i := 2) (by omega)
    have g3 : (sat ls 3).size ≤ 1048576 := by rw [← HLS.out]; exact grp_size ht HLN.out (i := 3) (by omega)
    obtain ⟨b, o, rfl, hbb, p0, p1, p2, p3⟩ := parts4 HP.out hlen
    rw [hlen] at HP ⊢
    have HJ := Lib.hid (show imJ t = ⟨ppL (sat ls 0), at_ (spL (sat ls 1)) 0, at_ (spL (sat ls 1)) 1, at_ (spL (sat ls 1)) 2, at_ (spL (sat ls 2)) 0, at_ (spL (sat ls 2)) 1, at_ (spL (sat ls 3)) 0, at_ (spL (sat ls 3)) 1, at_ (spL (sat ls 3)) 2⟩ by unfold imJ grp; rw [HLS.out])
    have HI := Lib.hid (show ImOk t ↔ (cutS 59 t).length = 4 ∧ ppOk (sat ls 0) = true ∧ numsOk (sat ls 1) = true ∧ numsOk (sat ls 2) = true ∧ numsOk (sat ls 3) = true ∧ (spL (sat ls 1)).length = 3 ∧ (spL (sat ls 2)).length = 2 ∧ (spL (sat ls 3)).length = 3 ∧ jobOk (imJ t) = true by unfold ImOk grp; rw [HLS.out])
    obtain ⟨G0, hG0⟩ : ∃ G, sat ls 0 = G := ⟨_, rfl⟩
    obtain ⟨G1, hG1⟩ : ∃ G, sat ls 1 = G := ⟨_, rfl⟩
    obtain ⟨G2, hG2⟩ : ∃ G, sat ls 2 = G := ⟨_, rfl⟩
    obtain ⟨G3, hG3⟩ : ∃ G, sat ls 3 = G := ⟨_, rfl⟩
    rw [hG0] at g0 p0 HJ HI
    rw [hG1] at g1 p1 HJ HI
    rw [hG2] at g2 p2 HJ HI
    rw [hG3] at g3 p3 HJ HI
    clear hG0 hG1 hG2 hG3 hlen HLS HP hcl
    go_wp2_with fail
    refine (implPP_any G0 _ g0 (HG.out.bel HB.out)).mono ?_
    rintro e w3 ⟨r0, rfl, o0, b3⟩
    replace HK := Lib.hid (HK.out.below b3 HK.out.lt)
    replace HB := Lib.hid (bel_trans HB.out b3)
    replace p1 := (b3.cell hbb).trans p1
    replace p2 := (b3.cell hbb).trans p2
    replace p3 := (b3.cell hbb).trans p3
    replace hbb := Nat.lt_of_lt_of_le hbb b3.size
    clear b3 p0
    go_wp2_with fail
    refine (splitNum_any G1 _ g1 (HG.out.bel HB.out)).mono ?_
    rintro e w4 ⟨r1, rfl, o1, b4⟩
    replace HK := Lib.hid (HK.out.below b4 HK.out.lt)
    replace HB := Lib.hid (bel_trans HB.out b4)
    replace p2 := (b4.cell hbb).trans p2
    replace p3 := (b4.cell hbb).trans p3
    replace hbb := Nat.lt_of_lt_of_le hbb b4.size
    replace o0 := o0.bel b4
    clear b4 p1
    go_wp2_with fail
    refine (splitNum_any G2 _ g2 (HG.out.bel HB.out)).mono ?_
    rintro e w5 ⟨r2, rfl, o2, b5⟩
    replace HK := Lib.hid (HK.out.below b5 HK.out.lt)
    replace HB := Lib.hid (bel_trans HB.out b5)
    replace p3 := (b5.cell hbb).trans p3
    replace hbb := Nat.lt_of_lt_of_le hbb b5.size
    replace o0 := o0.bel b5
    replace o1 := o1.bel b5
    clear b5 p2
    go_wp2_with fail
    refine (splitNum_any G3 _ g3 (HG.out.bel HB.out)).mono ?_
    rintro e w6 ⟨r3, rfl, o3, b6⟩
    replace HK := Lib.hid (HK.out.below b6 HK.out.lt)
    replace HB := Lib.hid (bel_trans HB.out b6)
    have O0 := Lib.hid ((o0.bel b6).lower hz21)
    have O1 := Lib.hid (o1.bel b6)
    have O2 := Lib.hid (o2.bel b6)
    have O3 := Lib.hid o3
    clear b6 p3 o0 o1 o2 o3 hbb
    obtain ⟨A0, c0, rfl, -, -, -⟩ := O0.out.ints.open_
    obtain ⟨A1, c1, rfl, -, -, -⟩ := O1.out.ints.open_
    obtain ⟨A2, c2, rfl, -, -, -⟩ := O2.out.ints.open_
    obtain ⟨A3, c3, rfl, -, -, -⟩ := O3.out.ints.open_
    obtain ⟨L1, hL1⟩ : ∃ L, spL G1 = L := ⟨_, rfl⟩
    obtain ⟨L2, hL2⟩ : ∃ L, spL G2 = L := ⟨_, rfl⟩
    obtain ⟨L3, hL3⟩ : ∃ L, spL G3 = L := ⟨_, rfl⟩
    have d1 := spL_bd G1
    have d2 := spL_bd G2
    have d3 := spL_bd G3
    rw [hL1] at O1 HJ HI d1
    rw [hL2] at O2 HJ HI d2
    rw [hL3] at O3 HJ HI d3
    have hJin : (imJ t).In := by
      rw [HJ.out]
      constructor
      exact d1 0
      exact d1 1
      exact d1 2
      exact d2 0
      exact d2 1
      exact d3 0
      exact d3 1
      exact d3 2
    have HJI := Lib.hid hJin
    rw [hL1, hL2, hL3]
    clear hL1 hL2 hL3 d1 d2 d3 hJin
    obtain ⟨q0, hq0⟩ : ∃ q, ppOk G0 = q := ⟨_, rfl⟩
    obtain ⟨q1, hq1⟩ : ∃ q, numsOk G1 = q := ⟨_, rfl⟩
    obtain ⟨q2, hq2⟩ : ∃ q, numsOk G2 = q := ⟨_, rfl⟩
    obtain ⟨q3, hq3⟩ : ∃ q, numsOk G3 = q := ⟨_, rfl⟩
    rw [hq0, hq1, hq2] at HI ⊢
    rw [hq3] at HI ⊢
    clear hq0 hq1 hq2 hq3
    cases q0
    · have HR := Lib.hid (spR_bad (t := t) fun hh => by have h := HI.out.1 hh; exact Bool.noConfusion h.2.1)
      obtain ⟨c0', c1', c2', c3', c4', c5', c6', c7', c8'⟩ := HK.out.job
      obtain ⟨f0, f1, f2, f3, f4, f5, f6, f7, f8⟩ := HK.out.free
      go_wp2_with fail
      have KE := blkNown [.slice none 0 0, .int .i64 0, .int .i64 0, .int .i64 0, .int .i64 0, .int .i64 0, .int .i64 0, .int .i64 0, .int .i64 0] _ _ 0 HK.out
      have BE := belN (g := w.heap.size) (Nat.le_refl _) [.slice none 0 0, .int .i64 0, .int .i64 0, .int .i64 0, .int .i64 0, .int .i64 0, .int .i64 0, .int .i64 0, .int .i64 0] _ 0 HB.out
      clear c0' c1' c2' c3' c4' c5' c6' c7' c8' f0 f1 f2 f3 f4 f5 f6 f7 f8 
      change bodyPost _ _ _ _ _ (setN w6 w.heap.size 0 [.slice none 0 0, .int .i64 0, .int .i64 0, .int .i64 0, .int .i64 0, .int .i64 0, .int .i64 0, .int .i64 0, .int .i64 0])
      generalize hW7 : setN w6 w.heap.size 0 [.slice none 0 0, .int .i64 0, .int .i64 0, .int .i64 0, .int .i64 0, .int .i64 0, .int .i64 0, .int .i64 0, .int .i64 0] = W7 at KE BE ⊢
      clear hW7
      obtain ⟨h0, h1, h2, h3, h4, h5, h6, h7, h8⟩ := Blk.job (v := .slice none 0 0) (j := zeroJ) KE
      refine bodyPost_ret (v := .tuple #[jobV (.slice none 0 0) zeroJ, .bool false]) (by simp [jobV, results, Tryz.results13, go_sem, h0, h1, h2, h3, h4, h5, h6, h7, h8]) rfl ⟨⟨_, by rw [HR.out], by rw [HR.out]; exact Own.nil_ _ _, by rw [HR.out]; exact zeroJ_in⟩, BE⟩
    · skip
      cases q1
      · have HR := Lib.hid (spR_bad (t := t) fun hh => by have h := HI.out.1 hh; exact Bool.noConfusion h.2.2.1)
        obtain ⟨c0', c1', c2', c3', c4', c5', c6', c7', c8'⟩ := HK.out.job
        obtain ⟨f0, f1, f2, f3, f4, f5, f6, f7, f8⟩ := HK.out.free
        go_wp2_with fail
        have KE := blkNown [.slice none 0 0, .int .i64 0, .int .i64 0, .int .i64 0, .int .i64 0, .int .i64 0, .int .i64 0, .int .i64 0, .int .i64 0] _ _ 0 HK.out
        have BE := belN (g := w.heap.size) (Nat.le_refl _) [.slice none 0 0, .int .i64 0, .int .i64 0, .int .i64 0, .int .i64 0, .int .i64 0, .int .i64 0, .int .i64 0, .int .i64 0] _ 0 HB.out
        clear c0' c1' c2' c3' c4' c5' c6' c7' c8' f0 f1 f2 f3 f4 f5 f6 f7 f8 
        change bodyPost _ _ _ _ _ (setN w6 w.heap.size 0 [.slice none 0 0, .int .i64 0, .int .i64 0, .int .i64 0, .int .i64 0, .int .i64 0, .int .i64 0, .int .i64 0, .int .i64 0])
        generalize hW7 : setN w6 w.heap.size 0 [.slice none 0 0, .int .i64 0, .int .i64 0, .int .i64 0, .int .i64 0, .int .i64 0, .int .i64 0, .int .i64 0, .int .i64 0] = W7 at KE BE ⊢
        clear hW7
        obtain ⟨h0, h1, h2, h3, h4, h5, h6, h7, h8⟩ := Blk.job (v := .slice none 0 0) (j := zeroJ) KE
        refine bodyPost_ret (v := .tuple #[jobV (.slice none 0 0) zeroJ, .bool false]) (by simp [jobV, results, Tryz.results13, go_sem, h0, h1, h2, h3, h4, h5, h6, h7, h8]) rfl ⟨⟨_, by rw [HR.out], by rw [HR.out]; exact Own.nil_ _ _, by rw [HR.out]; exact zeroJ_in⟩, BE⟩
      · skip
        cases q2
        · have HR := Lib.hid (spR_bad (t := t) fun hh => by have h := HI.out.1 hh; exact Bool.noConfusion h.2.2.2.1)
          obtain ⟨c0', c1', c2', c3', c4', c5', c6', c7', c8'⟩ := HK.out.job
          obtain ⟨f0, f1, f2, f3, f4, f5, f6, f7, f8⟩ := HK.out.free
          go_wp2_with fail
          have KE := blkNown [.slice none 0 0, .int .i64 0, .int .i64 0, .int .i64 0, .int .i64 0, .int .i64 0, .int .i64 0, .int .i64 0, .int .i64 0] _ _ 0 HK.out
          have BE := belN (g := w.heap.size) (Nat.le_refl _) [.slice none 0 0, .int .i64 0, .int .i64 0, .int .i64 0, .int .i64 0, .int .i64 0, .int .i64 0, .int .i64 0, .int .i64 0] _ 0 HB.out
          clear c0' c1' c2' c3' c4' c5' c6' c7' c8' f0 f1 f2 f3 f4 f5 f6 f7 f8 
          change bodyPost _ _ _ _ _ (setN w6 w.heap.size 0 [.slice none 0 0, .int .i64 0, .int .i64 0, .int .i64 0, .int .i64 0, .int .i64 0, .int .i64 0, .int .i64 0, .int .i64 0])
          generalize hW7 : setN w6 w.heap.size 0 [.slice none 0 0, .int .i64 0, .int .i64 0, .int .i64 0, .int .i64 0, .int .i64 0, .int .i64 0, .int .i64 0, .int .i64 0] = W7 at KE BE ⊢
          clear hW7
          obtain ⟨h0, h1, h2, h3, h4, h5, h6, h7, h8⟩ := Blk.job (v := .slice none 0 0) (j := zeroJ) KE
          refine bodyPost_ret (v := .tuple #[jobV (.slice none 0 0) zeroJ, .bool false]) (by simp [jobV, results, Tryz.results13, go_sem, h0, h1, h2, h3, h4, h5, h6, h7, h8]) rfl ⟨⟨_, by rw [HR.out], by rw [HR.out]; exact Own.nil_ _ _, by rw [HR.out]; exact zeroJ_in⟩, BE⟩
        · skip
          cases q3
          · have HR := Lib.hid (spR_bad (t := t) fun hh => by have h := HI.out.1 hh; exact Bool.noConfusion h.2.2.2.2.1)
            obtain ⟨c0', c1', c2', c3', c4', c5', c6', c7', c8'⟩ := HK.out.job
            obtain ⟨f0, f1, f2, f3, f4, f5, f6, f7, f8⟩ := HK.out.free
            go_wp2_with fail
            have KE := blkNown [.slice none 0 0, .int .i64 0, .int .i64 0, .int .i64 0, .int .i64 0, .int .i64 0, .int .i64 0, .int .i64 0, .int .i64 0] _ _ 0 HK.out
            have BE := belN (g := w.heap.size) (Nat.le_refl _) [.slice none 0 0, .int .i64 0, .int .i64 0, .int .i64 0, .int .i64 0, .int .i64 0, .int .i64 0, .int .i64 0, .int .i64 0] _ 0 HB.out
            clear c0' c1' c2' c3' c4' c5' c6' c7' c8' f0 f1 f2 f3 f4 f5 f6 f7 f8 
            change bodyPost _ _ _ _ _ (setN w6 w.heap.size 0 [.slice none 0 0, .int .i64 0, .int .i64 0, .int .i64 0, .int .i64 0, .int .i64 0, .int .i64 0, .int .i64 0, .int .i64 0])
            generalize hW7 : setN w6 w.heap.size 0 [.slice none 0 0, .int .i64 0, .int .i64 0, .int .i64 0, .int .i64 0, .int .i64 0, .int .i64 0, .int .i64 0, .int .i64 0] = W7 at KE BE ⊢
            clear hW7
            obtain ⟨h0, h1, h2, h3, h4, h5, h6, h7, h8⟩ := Blk.job (v := .slice none 0 0) (j := zeroJ) KE
            refine bodyPost_ret (v := .tuple #[jobV (.slice none 0 0) zeroJ, .bool false]) (by simp [jobV, results, Tryz.results13, go_sem, h0, h1, h2, h3, h4, h5, h6, h7, h8]) rfl ⟨⟨_, by rw [HR.out], by rw [HR.out]; exact Own.nil_ _ _, by rw [HR.out]; exact zeroJ_in⟩, BE⟩
          · skip
            by_cases hn0 : L1.length = 3
            case neg =>
              have HR := Lib.hid (spR_bad (t := t) fun hh => by have h := HI.out.1 hh; exact hn0 h.2.2.2.2.2.1)
              have hb0 : ((L1.length : Int) == 3) = false := by simp; omega
              have hi0 : ¬ (L1.length : Int) = 3 := by omega
              obtain ⟨c0', c1', c2', c3', c4', c5', c6', c7', c8'⟩ := HK.out.job
              obtain ⟨f0, f1, f2, f3, f4, f5, f6, f7, f8⟩ := HK.out.free
              go_wp2_with fail
              have KE := blkNown [.slice none 0 0, .int .i64 0, .int .i64 0, .int .i64 0, .int .i64 0, .int .i64 0, .int .i64 0, .int .i64 0, .int .i64 0] _ _ 0 HK.out
              have BE := belN (g := w.heap.size) (Nat.le_refl _) [.slice none 0 0, .int .i64 0, .int .i64 0, .int .i64 0, .int .i64 0, .int .i64 0, .int .i64 0, .int .i64 0, .int .i64 0] _ 0 HB.out
              clear c0' c1' c2' c3' c4' c5' c6' c7' c8' f0 f1 f2 f3 f4 f5 f6 f7 f8 
              change bodyPost _ _ _ _ _ (setN w6 w.heap.size 0 [.slice none 0 0, .int .i64 0, .int .i64 0, .int .i64 0, .int .i64 0, .int .i64 0, .int .i64 0, .int .i64 0, .int .i64 0])
              generalize hW7 : setN w6 w.heap.size 0 [.slice none 0 0, .int .i64 0, .int .i64 0, .int .i64 0, .int .i64 0, .int .i64 0, .int .i64 0, .int .i64 0, .int .i64 0] = W7 at KE BE ⊢
              clear hW7
              obtain ⟨h0, h1, h2, h3, h4, h5, h6, h7, h8⟩ := Blk.job (v := .slice none 0 0) (j := zeroJ) KE
              refine bodyPost_ret (v := .tuple #[jobV (.slice none 0 0) zeroJ, .bool false]) (by simp [jobV, results, Tryz.results13, go_sem, h0, h1, h2, h3, h4, h5, h6, h7, h8]) rfl ⟨⟨_, by rw [HR.out], by rw [HR.out]; exact Own.nil_ _ _, by rw [HR.out]; exact zeroJ_in⟩, BE⟩
            obtain ⟨n1, rfl, v1, z1⟩ := row3' O1.out hn0
            rw [hn0]
            have HN0 := Lib.hid hn0
            clear hn0
            by_cases hn1 : L2.length = 2
            case neg =>
              have HR := Lib.hid (spR_bad (t := t) fun hh => by have h := HI.out.1 hh; exact hn1 h.2.2.2.2.2.2.1)
              have hb1 : ((L2.length : Int) == 2) = false := by simp; omega
              have hi1 : ¬ (L2.length : Int) = 2 := by omega
              obtain ⟨c0', c1', c2', c3', c4', c5', c6', c7', c8'⟩ := HK.out.job
              obtain ⟨f0, f1, f2, f3, f4, f5, f6, f7, f8⟩ := HK.out.free
              go_wp2_with fail
              have KE := blkNown [.slice none 0 0, .int .i64 0, .int .i64 0, .int .i64 0, .int .i64 0, .int .i64 0, .int .i64 0, .int .i64 0, .int .i64 0] _ _ 0 HK.out
              have BE := belN (g := w.heap.size) (Nat.le_refl _) [.slice none 0 0, .int .i64 0, .int .i64 0, .int .i64 0, .int .i64 0, .int .i64 0, .int .i64 0, .int .i64 0, .int .i64 0] _ 0 HB.out
              clear c0' c1' c2' c3' c4' c5' c6' c7' c8' f0 f1 f2 f3 f4 f5 f6 f7 f8 
              change bodyPost _ _ _ _ _ (setN w6 w.heap.size 0 [.slice none 0 0, .int .i64 0, .int .i64 0, .int .i64 0, .int .i64 0, .int .i64 0, .int .i64 0, .int .i64 0, .int .i64 0])
              generalize hW7 : setN w6 w.heap.size 0 [.slice none 0 0, .int .i64 0, .int .i64 0, .int .i64 0, .int .i64 0, .int .i64 0, .int .i64 0, .int .i64 0, .int .i64 0] = W7 at KE BE ⊢
              clear hW7
              obtain ⟨h0, h1, h2, h3, h4, h5, h6, h7, h8⟩ := Blk.job (v := .slice none 0 0) (j := zeroJ) KE
              refine bodyPost_ret (v := .tuple #[jobV (.slice none 0 0) zeroJ, .bool false]) (by simp [jobV, results, Tryz.results13, go_sem, h0, h1, h2, h3, h4, h5, h6, h7, h8]) rfl ⟨⟨_, by rw [HR.out], by rw [HR.out]; exact Own.nil_ _ _, by rw [HR.out]; exact zeroJ_in⟩, BE⟩
            obtain ⟨n2, rfl, v2, z2⟩ := row2' O2.out hn1
            rw [hn1]
            have HN1 := Lib.hid hn1
            clear hn1
            by_cases hn2 : L3.length = 3
            case neg =>
              have HR := Lib.hid (spR_bad (t := t) fun hh => by have h := HI.out.1 hh; exact hn2 h.2.2.2.2.2.2.2.1)
              have hb2 : ((L3.length : Int) == 3) = false := by simp; omega
              have hi2 : ¬ (L3.length : Int) = 3 := by omega
              obtain ⟨c0', c1', c2', c3', c4', c5', c6', c7', c8'⟩ := HK.out.job
              obtain ⟨f0, f1, f2, f3, f4, f5, f6, f7, f8⟩ := HK.out.free
              go_wp2_with fail
              have KE := blkNown [.slice none 0 0, .int .i64 0, .int .i64 0, .int .i64 0, .int .i64 0, .int .i64 0, .int .i64 0, .int .i64 0, .int .i64 0] _ _ 0 HK.out
              have BE := belN (g := w.heap.size) (Nat.le_refl _) [.slice none 0 0, .int .i64 0, .int .i64 0, .int .i64 0, .int .i64 0, .int .i64 0, .int .i64 0, .int .i64 0, .int .i64 0] _ 0 HB.out
              clear c0' c1' c2' c3' c4' c5' c6' c7' c8' f0 f1 f2 f3 f4 f5 f6 f7 f8 
              change bodyPost _ _ _ _ _ (setN w6 w.heap.size 0 [.slice none 0 0, .int .i64 0, .int .i64 0, .int .i64 0, .int .i64 0, .int .i64 0, .int .i64 0, .int .i64 0, .int .i64 0])
              generalize hW7 : setN w6 w.heap.size 0 [.slice none 0 0, .int .i64 0, .int .i64 0, .int .i64 0, .int .i64 0, .int .i64 0, .int .i64 0, .int .i64 0, .int .i64 0] = W7 at KE BE ⊢
              clear hW7
              obtain ⟨h0, h1, h2, h3, h4, h5, h6, h7, h8⟩ := Blk.job (v := .slice none 0 0) (j := zeroJ) KE
              refine bodyPost_ret (v := .tuple #[jobV (.slice none 0 0) zeroJ, .bool false]) (by simp [jobV, results, Tryz.results13, go_sem, h0, h1, h2, h3, h4, h5, h6, h7, h8]) rfl ⟨⟨_, by rw [HR.out], by rw [HR.out]; exact Own.nil_ _ _, by rw [HR.out]; exact zeroJ_in⟩, BE⟩
            obtain ⟨n3, rfl, v3, z3⟩ := row3' O3.out hn2
            rw [hn2]
            have HN2 := Lib.hid hn2
            clear hn2
            obtain ⟨i1, i2, i3⟩ := z1
            obtain ⟨i4, i5⟩ := z2
            obtain ⟨i6, i7, i8⟩ := z3
            obtain ⟨J, hJ⟩ : ∃ J, J = imJ t := ⟨_, rfl⟩
            have HSJ := Lib.hid hJ
            rw [← hJ] at HJI HI
            rw [HJ.out] at hJ
            have e1 : J.fr = at_ L1 0 := by rw [hJ]
            have e2 : J.ct = at_ L1 1 := by rw [hJ]
            have e3 : J.wd = at_ L1 2 := by rw [hJ]
            have e4 : J.dg = at_ L2 0 := by rw [hJ]
            have e5 : J.wy = at_ L2 1 := by rw [hJ]
            have e6 : J.rw = at_ L3 0 := by rw [hJ]
            have e7 : J.ac = at_ L3 1 := by rw [hJ]
            have e8 : J.wi = at_ L3 2 := by rw [hJ]
            have e0 : J.poly = ppL G0 := by rw [hJ]
            rw [← e1] at i1
            rw [← e2] at i2
            rw [← e3] at i3
            rw [← e4] at i4
            rw [← e5] at i5
            rw [← e6] at i6
            rw [← e7] at i7
            rw [← e8] at i8
            replace O0 := Lib.hid (show Own w6 (w.heap.size + 1) (.slice A0 J.poly.length c0) J.poly by rw [e0]; exact O0.out)
            rw [← e0]
            clear hJ HJ e0 e1 e2 e3 e4 e5 e6 e7 e8 v1 v2 v3 O1 O2 O3
            go_wp2_with fail
            go_region_held3 (fun w' => w'.cell? ⟨n1, 0, none⟩ = some (.int .i64 J.fr) ∧ w'.cell? ⟨n1, 1, none⟩ = some (.int .i64 J.ct) ∧ w'.cell? ⟨n1, 2, none⟩ = some (.int .i64 J.wd) ∧ w'.cell? ⟨n2, 0, none⟩ = some (.int .i64 J.dg) ∧ w'.cell? ⟨n2, 1, none⟩ = some (.int .i64 J.wy) ∧ w'.cell? ⟨n3, 0, none⟩ = some (.int .i64 J.rw) ∧ w'.cell? ⟨n3, 1, none⟩ = some (.int .i64 J.ac) ∧ w'.cell? ⟨n3, 2, none⟩ = some (.int .i64 J.wi)) (first | exact ⟨i1, i2, i3, i4, i5, i6, i7, i8⟩ | go_keep) (first | fail)
            rename_i hHeld
            clear hHeld i1 i2 i3 i4 i5 i6 i7 i8
            have bA : Below w6.heap.size w6 (w6.alloc (.cells (jobC (.slice A0 J.poly.length c0) J).toArray 32)).drew := (bel_alloc w6 (.cells (jobC (.slice A0 J.poly.length c0) J).toArray 32)).drew
            have KJ : Blk (w6.alloc (.cells (jobC (.slice A0 J.poly.length c0) J).toArray 32)).drew w6.heap.size 32 (jobC (.slice A0 J.poly.length c0) J) := Blk.new w6 32 (jobC (.slice A0 J.poly.length c0) J)
            replace HK := Lib.hid (HK.out.below bA HK.out.lt)
            replace HB := Lib.hid (bel_trans HB.out bA)
            replace O0 := Lib.hid (O0.out.bel bA)
            have HKJ := Lib.hid KJ
            clear bA KJ
            obtain ⟨a0, a1, a2, a3, a4, a5, a6, a7, a8⟩ := HKJ.out.job
            go_wp2_with fail
            change Calls _ _ #[jobV (.slice A0 J.poly.length c0) J] (w6.alloc (.cells (jobC (.slice A0 J.poly.length c0) J).toArray 32)).drew _
            clear a0 a1 a2 a3 a4 a5 a6 a7 a8
            generalize hW : (w6.alloc (.cells (jobC (.slice A0 J.poly.length c0) J).toArray 32)).drew = wa at HK HB O0 HKJ ⊢
            clear hW
            refine (implJob_any _ J _ O0.out.ints HJI.out).mono ?_
            rintro e w7 ⟨rfl, b7⟩
            replace HK := Lib.hid (HK.out.below b7 HK.out.lt)
            replace HKJ := Lib.hid (HKJ.out.below b7 HKJ.out.lt)
            replace HB := Lib.hid (bel_trans HB.out b7)
            replace O0 := Lib.hid (O0.out.bel b7)
            clear b7
            cases hq : jobOk J
            · have HR := Lib.hid (spR_bad (t := t) fun hh => by have h := HI.out.1 hh; rw [hq] at h; exact Bool.noConfusion h.2.2.2.2.2.2.2.2)
              clear hq
              obtain ⟨c0', c1', c2', c3', c4', c5', c6', c7', c8'⟩ := HK.out.job
              obtain ⟨f0, f1, f2, f3, f4, f5, f6, f7, f8⟩ := HK.out.free
              go_wp2_with fail
              have KE := blkNown [.slice none 0 0, .int .i64 0, .int .i64 0, .int .i64 0, .int .i64 0, .int .i64 0, .int .i64 0, .int .i64 0, .int .i64 0] _ _ 0 HK.out
              have BE := belN (g := w.heap.size) (Nat.le_refl _) [.slice none 0 0, .int .i64 0, .int .i64 0, .int .i64 0, .int .i64 0, .int .i64 0, .int .i64 0, .int .i64 0, .int .i64 0] _ 0 HB.out
              clear c0' c1' c2' c3' c4' c5' c6' c7' c8' f0 f1 f2 f3 f4 f5 f6 f7 f8 
              change bodyPost _ _ _ _ _ (setN w7 w.heap.size 0 [.slice none 0 0, .int .i64 0, .int .i64 0, .int .i64 0, .int .i64 0, .int .i64 0, .int .i64 0, .int .i64 0, .int .i64 0])
              generalize hW7 : setN w7 w.heap.size 0 [.slice none 0 0, .int .i64 0, .int .i64 0, .int .i64 0, .int .i64 0, .int .i64 0, .int .i64 0, .int .i64 0, .int .i64 0] = W7 at KE BE ⊢
              clear hW7
              obtain ⟨h0, h1, h2, h3, h4, h5, h6, h7, h8⟩ := Blk.job (v := .slice none 0 0) (j := zeroJ) KE
              refine bodyPost_ret (v := .tuple #[jobV (.slice none 0 0) zeroJ, .bool false]) (by simp [jobV, results, Tryz.results13, go_sem, h0, h1, h2, h3, h4, h5, h6, h7, h8]) rfl ⟨⟨_, by rw [HR.out], by rw [HR.out]; exact Own.nil_ _ _, by rw [HR.out]; exact zeroJ_in⟩, BE⟩
            · have HR := Lib.hid (show spR t = (J, true) by rw [spR_good (HI.out.2 ⟨HLN.out, by first | rfl | trivial, by first | rfl | trivial, by first | rfl | trivial, by first | rfl | trivial, HN0.out, HN1.out, HN2.out, hq⟩), HSJ.out])
              clear hq
              obtain ⟨c0', c1', c2', c3', c4', c5', c6', c7', c8'⟩ := HK.out.job
              obtain ⟨f0, f1, f2, f3, f4, f5, f6, f7, f8⟩ := HK.out.free
              obtain ⟨a0, a1, a2, a3, a4, a5, a6, a7, a8⟩ := HKJ.out.job
              go_wp2_with fail
              have KE := blkNown [.slice A0 J.poly.length c0, .int .i64 J.fr, .int .i64 J.ct, .int .i64 J.wd, .int .i64 J.dg, .int .i64 J.wy, .int .i64 J.rw, .int .i64 J.ac, .int .i64 J.wi] _ _ 0 HK.out
              have BE := belN (g := w.heap.size) (Nat.le_refl _) [.slice A0 J.poly.length c0, .int .i64 J.fr, .int .i64 J.ct, .int .i64 J.wd, .int .i64 J.dg, .int .i64 J.wy, .int .i64 J.rw, .int .i64 J.ac, .int .i64 J.wi] _ 0 HB.out
              have OE := ownN (g := w.heap.size) (Nat.lt_succ_self _) [.slice A0 J.poly.length c0, .int .i64 J.fr, .int .i64 J.ct, .int .i64 J.wd, .int .i64 J.dg, .int .i64 J.wy, .int .i64 J.rw, .int .i64 J.ac, .int .i64 J.wi] _ 0 O0.out
              clear c0' c1' c2' c3' c4' c5' c6' c7' c8' f0 f1 f2 f3 f4 f5 f6 f7 f8 a0 a1 a2 a3 a4 a5 a6 a7 a8
              change bodyPost _ _ _ _ _ (setN w7 w.heap.size 0 [.slice A0 J.poly.length c0, .int .i64 J.fr, .int .i64 J.ct, .int .i64 J.wd, .int .i64 J.dg, .int .i64 J.wy, .int .i64 J.rw, .int .i64 J.ac, .int .i64 J.wi])
              generalize hW7 : setN w7 w.heap.size 0 [.slice A0 J.poly.length c0, .int .i64 J.fr, .int .i64 J.ct, .int .i64 J.wd, .int .i64 J.dg, .int .i64 J.wy, .int .i64 J.rw, .int .i64 J.ac, .int .i64 J.wi] = W7 at KE BE OE ⊢
              clear hW7
              obtain ⟨h0, h1, h2, h3, h4, h5, h6, h7, h8⟩ := Blk.job (v := .slice A0 J.poly.length c0) (j := J) KE
              refine bodyPost_ret (v := .tuple #[jobV (.slice A0 J.poly.length c0) J, .bool true]) (by simp [jobV, results, Tryz.results13, go_sem, h0, h1, h2, h3, h4, h5, h6, h7, h8]) rfl ⟨⟨_, by rw [HR.out], by rw [HR.out]; exact OE.lower (Nat.le_succ _), by rw [HR.out]; exact HJI.out⟩, BE⟩
  · have hlq : ((ls.length : Int) == 4) = false := by simp; omega
    have hli : ¬ (ls.length : Int) = 4 := by omega
    have HR := Lib.hid (spR_no (t := t) fun h => hlen (by rw [← HLS.out]; exact h.1))
    obtain ⟨c0', c1', c2', c3', c4', c5', c6', c7', c8'⟩ := HK.out.job
    obtain ⟨f0, f1, f2, f3, f4, f5, f6, f7, f8⟩ := HK.out.free
    go_wp2_with fail
    have KE := blkNown [.slice none 0 0, .int .i64 0, .int .i64 0, .int .i64 0, .int .i64 0, .int .i64 0, .int .i64 0, .int .i64 0, .int .i64 0] _ _ 0 HK.out
    have BE := belN (g := w.heap.size) (Nat.le_refl _) [.slice none 0 0, .int .i64 0, .int .i64 0, .int .i64 0, .int .i64 0, .int .i64 0, .int .i64 0, .int .i64 0, .int .i64 0] _ 0 HB.out
    clear c0' c1' c2' c3' c4' c5' c6' c7' c8' f0 f1 f2 f3 f4 f5 f6 f7 f8 
    change bodyPost _ _ _ _ _ (setN w2 w.heap.size 0 [.slice none 0 0, .int .i64 0, .int .i64 0, .int .i64 0, .int .i64 0, .int .i64 0, .int .i64 0, .int .i64 0, .int .i64 0])
    generalize hW7 : setN w2 w.heap.size 0 [.slice none 0 0, .int .i64 0, .int .i64 0, .int .i64 0, .int .i64 0, .int .i64 0, .int .i64 0, .int .i64 0, .int .i64 0] = W7 at KE BE ⊢
    clear hW7
    obtain ⟨h0, h1, h2, h3, h4, h5, h6, h7, h8⟩ := Blk.job (v := .slice none 0 0) (j := zeroJ) KE
    refine bodyPost_ret (v := .tuple #[jobV (.slice none 0 0) zeroJ, .bool false]) (by simp [jobV, results, Tryz.results13, go_sem, h0, h1, h2, h3, h4, h5, h6, h7, h8]) rfl ⟨⟨_, by rw [HR.out], by rw [HR.out]; exact Own.nil_ _ _, by rw [HR.out]; exact zeroJ_in⟩, BE⟩
end Go.Proofs.YtdmadaebeooaaaaGreatDoor

/-
  The contract of impl.FormatJob (made by gen_fmt.py).
-/
namespace Go.Proofs.YtdmadaebeooaaaaGreatDoor
open Go.RowKit
set_option linter.unusedVariables false
set_option linter.unusedSimpArgs false
set_option maxRecDepth 100000
attribute [local go_sem ↓] Go.wp_at_zero Go.wp_at_succ

set_option maxHeartbeats 8000000 in
theorem implFmt_any (v : Value) (j : JobD) (w : World) (hv : Ints w v j.poly) (hj : j.In) (ht : Tab w) :
    Calls Tryz.prog 17 #[jobV v j] w fun e w' => e = .returned (.string (fmtJ j)) ∧ Below w.heap.size w w' := by
  have HV := Lib.hid hv
  have HJ := Lib.hid hj
  have HT := Lib.hid ht
  obtain ⟨A, c, rfl, -, hc, -⟩ := hv.open_
  clear hv ht
  have B0 : Below w.heap.size w (w.alloc (.cells (jobC (.slice A j.poly.length c) j).toArray 32)) := bel_alloc w _
  have K1 := Blk.new w 32 (jobC (.slice A j.poly.length c) j)
  unfold jobV
  go_enter Tryz.func17, Tryz.ntmps17
  go_wp2_with fail
  change Calls _ _ #[jobV (.slice A j.poly.length c) j] (w.alloc (.cells (jobC (.slice A j.poly.length c) j).toArray 32)) _
  generalize hW : w.alloc (.cells (jobC (.slice A j.poly.length c) j).toArray 32) = W at K1 B0 ⊢
  clear hW
  refine (implJob_any _ j _ (HV.out.bel B0) hj).mono ?_
  rintro e w2 ⟨rfl, b1⟩
  have HB := Lib.hid (bel_trans B0 b1)
  have K2 := K1.below b1 K1.lt
  clear b1 B0 K1 hj
  cases hq : jobOk j
  · have HN := Lib.hid (fmt_no hq)
    go_wp2
    go_ret
    exact ⟨by rw [HN.out]; rfl, HB.out⟩
  · have HN := Lib.hid (fmt_yes hq)
    have HP := Lib.hid (HV.out.bel HB.out)
    have HT2 := Lib.hid (HT.out.bel HB.out)
    have HWF := Lib.hid (job_wf HJ.out)
    obtain ⟨z0, z1, z2, z3⟩ := fmt_sizes HV.out.2 HJ.out hq
    have hsemi : semi.size = 1 := rfl
    obtain ⟨a0, a1, a2, a3, a4, a5, a6, a7, a8⟩ := K2.job
    have hl2 := K2.lt
    clear hq HV HT
    go_wp2_with fail
    refine cut_by (P := ?Pq_2_9_10_15_16_26_27_28) ?hkq_2_9_10_15_16_26_27_28 (fun keyq_2_9_10_15_16_26_27_28 => ?mainq_2_9_10_15_16_26_27_28)
    case mainq_2_9_10_15_16_26_27_28 =>
      replace keyq_2_9_10_15_16_26_27_28 := Lib.hid keyq_2_9_10_15_16_26_27_28
      refine cut_by (P := ?Pq_2_9_10_15_16_26_27) ?hkq_2_9_10_15_16_26_27 (fun keyq_2_9_10_15_16_26_27 => ?mainq_2_9_10_15_16_26_27)
      case mainq_2_9_10_15_16_26_27 =>
        replace keyq_2_9_10_15_16_26_27 := Lib.hid keyq_2_9_10_15_16_26_27
        refine cut_by (P := ?Pq_2_9_10_15_16_26) ?hkq_2_9_10_15_16_26 (fun keyq_2_9_10_15_16_26 => ?mainq_2_9_10_15_16_26)
        case mainq_2_9_10_15_16_26 =>
          replace keyq_2_9_10_15_16_26 := Lib.hid keyq_2_9_10_15_16_26
          refine cut_by (P := ?Pq_2_9_10_15_26) ?hkq_2_9_10_15_26 (fun keyq_2_9_10_15_26 => ?mainq_2_9_10_15_26)
          case mainq_2_9_10_15_26 =>
            replace keyq_2_9_10_15_26 := Lib.hid keyq_2_9_10_15_26
            refine cut_by (P := ?Pq_2_9_10_15_16) ?hkq_2_9_10_15_16 (fun keyq_2_9_10_15_16 => ?mainq_2_9_10_15_16)
            case mainq_2_9_10_15_16 =>
              replace keyq_2_9_10_15_16 := Lib.hid keyq_2_9_10_15_16
              refine cut_by (P := ?Pq_2_9_15_26) ?hkq_2_9_15_26 (fun keyq_2_9_15_26 => ?mainq_2_9_15_26)
              case mainq_2_9_15_26 =>
                replace keyq_2_9_15_26 := Lib.hid keyq_2_9_15_26
                refine cut_by (P := ?Pq_2_9_10_26) ?hkq_2_9_10_26 (fun keyq_2_9_10_26 => ?mainq_2_9_10_26)
                case mainq_2_9_10_26 =>
                  replace keyq_2_9_10_26 := Lib.hid keyq_2_9_10_26
                  refine cut_by (P := ?Pq_2_9_10_15) ?hkq_2_9_10_15 (fun keyq_2_9_10_15 => ?mainq_2_9_10_15)
                  case mainq_2_9_10_15 =>
                    replace keyq_2_9_10_15 := Lib.hid keyq_2_9_10_15
                    refine cut_by (P := ?Pq_9_15_26) ?hkq_9_15_26 (fun keyq_9_15_26 => ?mainq_9_15_26)
                    case mainq_9_15_26 =>
                      replace keyq_9_15_26 := Lib.hid keyq_9_15_26
                      refine cut_by (P := ?Pq_2_15_26) ?hkq_2_15_26 (fun keyq_2_15_26 => ?mainq_2_15_26)
                      case mainq_2_15_26 =>
                        replace keyq_2_15_26 := Lib.hid keyq_2_15_26
                        refine cut_by (P := ?Pq_2_9_26) ?hkq_2_9_26 (fun keyq_2_9_26 => ?mainq_2_9_26)
                        case mainq_2_9_26 =>
                          replace keyq_2_9_26 := Lib.hid keyq_2_9_26
                          refine cut_by (P := ?Pq_2_9_15) ?hkq_2_9_15 (fun keyq_2_9_15 => ?mainq_2_9_15)
                          case mainq_2_9_15 =>
                            replace keyq_2_9_15 := Lib.hid keyq_2_9_15
                            refine cut_by (P := ?Pq_2_9_10) ?hkq_2_9_10 (fun keyq_2_9_10 => ?mainq_2_9_10)
                            case mainq_2_9_10 =>
                              replace keyq_2_9_10 := Lib.hid keyq_2_9_10
                              refine cut_by (P := ?Pq_15_26) ?hkq_15_26 (fun keyq_15_26 => ?mainq_15_26)
                              case mainq_15_26 =>
                                replace keyq_15_26 := Lib.hid keyq_15_26
                                refine cut_by (P := ?Pq_9_26) ?hkq_9_26 (fun keyq_9_26 => ?mainq_9_26)
                                case mainq_9_26 =>
                                  replace keyq_9_26 := Lib.hid keyq_9_26
                                  refine cut_by (P := ?Pq_9_15) ?hkq_9_15 (fun keyq_9_15 => ?mainq_9_15)
                                  case mainq_9_15 =>
                                    replace keyq_9_15 := Lib.hid keyq_9_15
                                    refine cut_by (P := ?Pq_2_26) ?hkq_2_26 (fun keyq_2_26 => ?mainq_2_26)
                                    case mainq_2_26 =>
                                      replace keyq_2_26 := Lib.hid keyq_2_26
                                      refine cut_by (P := ?Pq_2_15) ?hkq_2_15 (fun keyq_2_15 => ?mainq_2_15)
                                      case mainq_2_15 =>
                                        replace keyq_2_15 := Lib.hid keyq_2_15
                                        refine cut_by (P := ?Pq_2_9) ?hkq_2_9 (fun keyq_2_9 => ?mainq_2_9)
                                        case mainq_2_9 =>
                                          replace keyq_2_9 := Lib.hid keyq_2_9
                                          refine cut_by (P := ?Pq_26) ?hkq_26 (fun keyq_26 => ?mainq_26)
                                          case mainq_26 =>
                                            replace keyq_26 := Lib.hid keyq_26
                                            refine cut_by (P := ?Pq_15) ?hkq_15 (fun keyq_15 => ?mainq_15)
                                            case mainq_15 =>
                                              replace keyq_15 := Lib.hid keyq_15
                                              refine cut_by (P := ?Pq_9) ?hkq_9 (fun keyq_9 => ?mainq_9)
                                              case mainq_9 =>
                                                replace keyq_9 := Lib.hid keyq_9
                                                refine cut_by (P := ?Pq_2) ?hkq_2 (fun keyq_2 => ?mainq_2)
                                                case mainq_2 =>
                                                  replace keyq_2 := Lib.hid keyq_2
                                                  refine wp_region_held_drew (S := (fun w' => w'.cell? ⟨w.heap.size, 0, none⟩ = some (.slice A j.poly.length c) ∧ w'.cell? ⟨w.heap.size, 1, none⟩ = some (.int .i64 j.fr) ∧ w'.cell? ⟨w.heap.size, 2, none⟩ = some (.int .i64 j.ct) ∧ w'.cell? ⟨w.heap.size, 3, none⟩ = some (.int .i64 j.wd) ∧ w'.cell? ⟨w.heap.size, 4, none⟩ = some (.int .i64 j.dg) ∧ w'.cell? ⟨w.heap.size, 5, none⟩ = some (.int .i64 j.wy) ∧ w'.cell? ⟨w.heap.size, 6, none⟩ = some (.int .i64 j.rw) ∧ w'.cell? ⟨w.heap.size, 7, none⟩ = some (.int .i64 j.ac) ∧ w'.cell? ⟨w.heap.size, 8, none⟩ = some (.int .i64 j.wi))) (by kernel_rfl) ?_ (fun hS => ?_)
                                                  · skip
                                                    exact ⟨a0, a1, a2, a3, a4, a5, a6, a7, a8⟩
                                                  have B : Below w2.heap.size w2 w2.drew := (Below.refl _ _).drew
                                                  generalize hW : w2.drew = wr at *
                                                  clear hW
                                                  refine wpAnyH_take (i := 0) (oi := { dst := some 7, op := Op.fieldAddr 32 (Operand.tmp 1) 0, type := 0, pos := "l8_desk.go:45", after := #[], guard := none }) (v := ?vq_1) rfl (by kernel_rfl) (by kernel_rfl) (by kernel_rfl) (fun _ _ _ h => h) (Or.inl ⟨by rfl, ?hyq_1⟩) hS ?restq_1
                                                  case hyq_1 => (intro w' hSw; (try dsimp only at hSw); go_simp; all_goals with_reducible rfl)
                                                  (try simp only [Act.put, List.setIfInBounds_toArray, List.set_cons_zero, List.set_cons_succ])
                                                  refine wpAnyH_take (i := 1) (oi := { dst := some 8, op := Op.load 22 (Operand.tmp 7), type := 22, pos := "l8_desk.go:45", after := #[{ on := 0, ground := Ground.data }], guard := none }) (v := ?vq_2) rfl (by kernel_rfl) (by kernel_rfl) (by kernel_rfl) (fun _ _ _ h => h) (Or.inl ⟨by rfl, ?hyq_2⟩) hS ?restq_2
                                                  case hyq_2 => (intro w' hSw; (try dsimp only at hSw); go_simp; all_goals with_reducible rfl)
                                                  (try simp only [Act.put, List.setIfInBounds_toArray, List.set_cons_zero, List.set_cons_succ])
                                                  refine wpAnyH_take (i := 3) (oi := { dst := some 10, op := Op.fieldAddr 32 (Operand.tmp 1) 1, type := 0, pos := "l8_desk.go:45", after := #[], guard := none }) (v := ?vq_3) rfl (by kernel_rfl) (by kernel_rfl) (by kernel_rfl) (fun _ _ _ h => h) (Or.inl ⟨by rfl, ?hyq_3⟩) hS ?restq_3
                                                  case hyq_3 => (intro w' hSw; (try dsimp only at hSw); go_simp; all_goals with_reducible rfl)
                                                  (try simp only [Act.put, List.setIfInBounds_toArray, List.set_cons_zero, List.set_cons_succ])
                                                  refine wpAnyH_take (i := 4) (oi := { dst := some 11, op := Op.load 3 (Operand.tmp 10), type := 3, pos := "l8_desk.go:45", after := #[{ on := 3, ground := Ground.data }], guard := none }) (v := ?vq_4) rfl (by kernel_rfl) (by kernel_rfl) (by kernel_rfl) (fun _ _ _ h => h) (Or.inl ⟨by rfl, ?hyq_4⟩) hS ?restq_4
                                                  case hyq_4 => (intro w' hSw; (try dsimp only at hSw); go_simp; all_goals with_reducible rfl)
                                                  (try simp only [Act.put, List.setIfInBounds_toArray, List.set_cons_zero, List.set_cons_succ])
                                                  refine wpAnyH_take (i := 5) (oi := { dst := some 12, op := Op.fieldAddr 32 (Operand.tmp 1) 2, type := 0, pos := "l8_desk.go:45", after := #[], guard := none }) (v := ?vq_5) rfl (by kernel_rfl) (by kernel_rfl) (by kernel_rfl) (fun _ _ _ h => h) (Or.inl ⟨by rfl, ?hyq_5⟩) hS ?restq_5
                                                  case hyq_5 => (intro w' hSw; (try dsimp only at hSw); go_simp; all_goals with_reducible rfl)
                                                  (try simp only [Act.put, List.setIfInBounds_toArray, List.set_cons_zero, List.set_cons_succ])
                                                  refine wpAnyH_take (i := 6) (oi := { dst := some 13, op := Op.load 3 (Operand.tmp 12), type := 3, pos := "l8_desk.go:45", after := #[{ on := 5, ground := Ground.data }], guard := none }) (v := ?vq_6) rfl (by kernel_rfl) (by kernel_rfl) (by kernel_rfl) (fun _ _ _ h => h) (Or.inl ⟨by rfl, ?hyq_6⟩) hS ?restq_6
                                                  case hyq_6 => (intro w' hSw; (try dsimp only at hSw); go_simp; all_goals with_reducible rfl)
                                                  (try simp only [Act.put, List.setIfInBounds_toArray, List.set_cons_zero, List.set_cons_succ])
                                                  refine wpAnyH_take (i := 7) (oi := { dst := some 14, op := Op.fieldAddr 32 (Operand.tmp 1) 3, type := 0, pos := "l8_desk.go:45", after := #[], guard := none }) (v := ?vq_7) rfl (by kernel_rfl) (by kernel_rfl) (by kernel_rfl) (fun _ _ _ h => h) (Or.inl ⟨by rfl, ?hyq_7⟩) hS ?restq_7
                                                  case hyq_7 => (intro w' hSw; (try dsimp only at hSw); go_simp; all_goals with_reducible rfl)
                                                  (try simp only [Act.put, List.setIfInBounds_toArray, List.set_cons_zero, List.set_cons_succ])
                                                  refine wpAnyH_take (i := 8) (oi := { dst := some 15, op := Op.load 3 (Operand.tmp 14), type := 3, pos := "l8_desk.go:45", after := #[{ on := 7, ground := Ground.data }], guard := none }) (v := ?vq_8) rfl (by kernel_rfl) (by kernel_rfl) (by kernel_rfl) (fun _ _ _ h => h) (Or.inl ⟨by rfl, ?hyq_8⟩) hS ?restq_8
                                                  case hyq_8 => (intro w' hSw; (try dsimp only at hSw); go_simp; all_goals with_reducible rfl)
                                                  (try simp only [Act.put, List.setIfInBounds_toArray, List.set_cons_zero, List.set_cons_succ])
                                                  refine wpAnyH_take (i := 11) (oi := { dst := some 18, op := Op.fieldAddr 32 (Operand.tmp 1) 4, type := 0, pos := "l8_desk.go:45", after := #[], guard := none }) (v := ?vq_9) rfl (by kernel_rfl) (by kernel_rfl) (by kernel_rfl) (fun _ _ _ h => h) (Or.inl ⟨by rfl, ?hyq_9⟩) hS ?restq_9
                                                  case hyq_9 => (intro w' hSw; (try dsimp only at hSw); go_simp; all_goals with_reducible rfl)
                                                  (try simp only [Act.put, List.setIfInBounds_toArray, List.set_cons_zero, List.set_cons_succ])
                                                  refine wpAnyH_take (i := 12) (oi := { dst := some 19, op := Op.load 3 (Operand.tmp 18), type := 3, pos := "l8_desk.go:45", after := #[{ on := 11, ground := Ground.data }], guard := none }) (v := ?vq_10) rfl (by kernel_rfl) (by kernel_rfl) (by kernel_rfl) (fun _ _ _ h => h) (Or.inl ⟨by rfl, ?hyq_10⟩) hS ?restq_10
                                                  case hyq_10 => (intro w' hSw; (try dsimp only at hSw); go_simp; all_goals with_reducible rfl)
                                                  (try simp only [Act.put, List.setIfInBounds_toArray, List.set_cons_zero, List.set_cons_succ])
                                                  refine wpAnyH_take (i := 13) (oi := { dst := some 20, op := Op.fieldAddr 32 (Operand.tmp 1) 5, type := 0, pos := "l8_desk.go:45", after := #[], guard := none }) (v := ?vq_11) rfl (by kernel_rfl) (by kernel_rfl) (by kernel_rfl) (fun _ _ _ h => h) (Or.inl ⟨by rfl, ?hyq_11⟩) hS ?restq_11
                                                  case hyq_11 => (intro w' hSw; (try dsimp only at hSw); go_simp; all_goals with_reducible rfl)
                                                  (try simp only [Act.put, List.setIfInBounds_toArray, List.set_cons_zero, List.set_cons_succ])
                                                  refine wpAnyH_take (i := 14) (oi := { dst := some 21, op := Op.load 3 (Operand.tmp 20), type := 3, pos := "l8_desk.go:45", after := #[{ on := 13, ground := Ground.data }], guard := none }) (v := ?vq_12) rfl (by kernel_rfl) (by kernel_rfl) (by kernel_rfl) (fun _ _ _ h => h) (Or.inl ⟨by rfl, ?hyq_12⟩) hS ?restq_12
                                                  case hyq_12 => (intro w' hSw; (try dsimp only at hSw); go_simp; all_goals with_reducible rfl)
                                                  (try simp only [Act.put, List.setIfInBounds_toArray, List.set_cons_zero, List.set_cons_succ])
                                                  refine wpAnyH_take (i := 17) (oi := { dst := some 24, op := Op.fieldAddr 32 (Operand.tmp 1) 6, type := 0, pos := "l8_desk.go:45", after := #[], guard := none }) (v := ?vq_13) rfl (by kernel_rfl) (by kernel_rfl) (by kernel_rfl) (fun _ _ _ h => h) (Or.inl ⟨by rfl, ?hyq_13⟩) hS ?restq_13
                                                  case hyq_13 => (intro w' hSw; (try dsimp only at hSw); go_simp; all_goals with_reducible rfl)
                                                  (try simp only [Act.put, List.setIfInBounds_toArray, List.set_cons_zero, List.set_cons_succ])
                                                  refine wpAnyH_take (i := 18) (oi := { dst := some 25, op := Op.fieldAddr 30 (Operand.tmp 24) 0, type := 0, pos := "l8_desk.go:45", after := #[{ on := 17, ground := Ground.data }], guard := none }) (v := ?vq_14) rfl (by kernel_rfl) (by kernel_rfl) (by kernel_rfl) (fun _ _ _ h => h) (Or.inl ⟨by rfl, ?hyq_14⟩) hS ?restq_14
                                                  case hyq_14 => (intro w' hSw; (try dsimp only at hSw); go_simp; all_goals with_reducible rfl)
                                                  (try simp only [Act.put, List.setIfInBounds_toArray, List.set_cons_zero, List.set_cons_succ])
                                                  refine wpAnyH_take (i := 19) (oi := { dst := some 26, op := Op.load 3 (Operand.tmp 25), type := 3, pos := "l8_desk.go:45", after := #[{ on := 18, ground := Ground.data }], guard := none }) (v := ?vq_15) rfl (by kernel_rfl) (by kernel_rfl) (by kernel_rfl) (fun _ _ _ h => h) (Or.inl ⟨by rfl, ?hyq_15⟩) hS ?restq_15
                                                  case hyq_15 => (intro w' hSw; (try dsimp only at hSw); go_simp; all_goals with_reducible rfl)
                                                  (try simp only [Act.put, List.setIfInBounds_toArray, List.set_cons_zero, List.set_cons_succ])
                                                  refine wpAnyH_take (i := 20) (oi := { dst := some 27, op := Op.fieldAddr 32 (Operand.tmp 1) 6, type := 0, pos := "l8_desk.go:45", after := #[], guard := none }) (v := ?vq_16) rfl (by kernel_rfl) (by kernel_rfl) (by kernel_rfl) (fun _ _ _ h => h) (Or.inl ⟨by rfl, ?hyq_16⟩) hS ?restq_16
                                                  case hyq_16 => (intro w' hSw; (try dsimp only at hSw); go_simp; all_goals with_reducible rfl)
                                                  (try simp only [Act.put, List.setIfInBounds_toArray, List.set_cons_zero, List.set_cons_succ])
                                                  refine wpAnyH_take (i := 21) (oi := { dst := some 28, op := Op.fieldAddr 30 (Operand.tmp 27) 1, type := 0, pos := "l8_desk.go:45", after := #[{ on := 20, ground := Ground.data }], guard := none }) (v := ?vq_17) rfl (by kernel_rfl) (by kernel_rfl) (by kernel_rfl) (fun _ _ _ h => h) (Or.inl ⟨by rfl, ?hyq_17⟩) hS ?restq_17
                                                  case hyq_17 => (intro w' hSw; (try dsimp only at hSw); go_simp; all_goals with_reducible rfl)
                                                  (try simp only [Act.put, List.setIfInBounds_toArray, List.set_cons_zero, List.set_cons_succ])
                                                  refine wpAnyH_take (i := 22) (oi := { dst := some 29, op := Op.load 3 (Operand.tmp 28), type := 3, pos := "l8_desk.go:45", after := #[{ on := 21, ground := Ground.data }], guard := none }) (v := ?vq_18) rfl (by kernel_rfl) (by kernel_rfl) (by kernel_rfl) (fun _ _ _ h => h) (Or.inl ⟨by rfl, ?hyq_18⟩) hS ?restq_18
                                                  case hyq_18 => (intro w' hSw; (try dsimp only at hSw); go_simp; all_goals with_reducible rfl)
                                                  (try simp only [Act.put, List.setIfInBounds_toArray, List.set_cons_zero, List.set_cons_succ])
                                                  refine wpAnyH_take (i := 23) (oi := { dst := some 30, op := Op.fieldAddr 32 (Operand.tmp 1) 6, type := 0, pos := "l8_desk.go:45", after := #[], guard := none }) (v := ?vq_19) rfl (by kernel_rfl) (by kernel_rfl) (by kernel_rfl) (fun _ _ _ h => h) (Or.inl ⟨by rfl, ?hyq_19⟩) hS ?restq_19
                                                  case hyq_19 => (intro w' hSw; (try dsimp only at hSw); go_simp; all_goals with_reducible rfl)
                                                  (try simp only [Act.put, List.setIfInBounds_toArray, List.set_cons_zero, List.set_cons_succ])
                                                  refine wpAnyH_take (i := 24) (oi := { dst := some 31, op := Op.fieldAddr 30 (Operand.tmp 30) 2, type := 0, pos := "l8_desk.go:45", after := #[{ on := 23, ground := Ground.data }], guard := none }) (v := ?vq_20) rfl (by kernel_rfl) (by kernel_rfl) (by kernel_rfl) (fun _ _ _ h => h) (Or.inl ⟨by rfl, ?hyq_20⟩) hS ?restq_20
                                                  case hyq_20 => (intro w' hSw; (try dsimp only at hSw); go_simp; all_goals with_reducible rfl)
                                                  (try simp only [Act.put, List.setIfInBounds_toArray, List.set_cons_zero, List.set_cons_succ])
                                                  refine wpAnyH_take (i := 25) (oi := { dst := some 32, op := Op.load 3 (Operand.tmp 31), type := 3, pos := "l8_desk.go:45", after := #[{ on := 24, ground := Ground.data }], guard := none }) (v := ?vq_21) rfl (by kernel_rfl) (by kernel_rfl) (by kernel_rfl) (fun _ _ _ h => h) (Or.inl ⟨by rfl, ?hyq_21⟩) hS ?restq_21
                                                  case hyq_21 => (intro w' hSw; (try dsimp only at hSw); go_simp; all_goals with_reducible rfl)
                                                  (try simp only [Act.put, List.setIfInBounds_toArray, List.set_cons_zero, List.set_cons_succ])
                                                  refine wpAnyH_listed (l' := #[true, true, false, true, true, true, true, true, true, false, false, true, true, true, true, false, false, true, true, true, true, true, true, true, true, true, false, false, false, false]) (by kernel_rfl) ?_
                                                  clear hS
                                                  refine wpAnyH_ready (rs := [2, 9, 15, 26]) (by kernel_rfl) (by simp) ?_
                                                  refine AllReadyH.cons (o := { dst := some 9, op := Op.call { callee := Callee.value (Operand.func 43), args := #[Operand.tmp 8], argTypes := #[22] }, type := 9, pos := "l8_desk.go:46", after := #[{ on := 1, ground := Ground.data }], guard := none }) rfl (fun K hK => ?_) ?_
                                                  · skip
                                                    (try go_simp)
                                                    go_at_call 43
                                                    refine (implFP_any _ j.poly _ (HP.out.bel B) (HT2.out.bel B)).mono ?_
                                                    rintro e wn ⟨rfl, b⟩
                                                    replace B := bel_trans B b
                                                    clear b
                                                    (try dsimp only)
                                                    refine hK.out _ _ (by first | exact ⟨(B.cell (by exact hl2)).trans a0, (B.cell (by exact hl2)).trans a1, (B.cell (by exact hl2)).trans a2, (B.cell (by exact hl2)).trans a3, (B.cell (by exact hl2)).trans a4, (B.cell (by exact hl2)).trans a5, (B.cell (by exact hl2)).trans a6, (B.cell (by exact hl2)).trans a7, (B.cell (by exact hl2)).trans a8⟩ | (dsimp only; exact ⟨(B.cell (by exact hl2)).trans a0, (B.cell (by exact hl2)).trans a1, (B.cell (by exact hl2)).trans a2, (B.cell (by exact hl2)).trans a3, (B.cell (by exact hl2)).trans a4, (B.cell (by exact hl2)).trans a5, (B.cell (by exact hl2)).trans a6, (B.cell (by exact hl2)).trans a7, (B.cell (by exact hl2)).trans a8⟩)) (fun hS => ?_)
                                                    clear hK K
                                                    (try simp only [Act.put, List.setIfInBounds_toArray, List.set_cons_zero, List.set_cons_succ])
                                                    refine wpAnyH_listed (l' := #[true, true, true, true, true, true, true, true, true, false, false, true, true, true, true, false, false, true, true, true, true, true, true, true, true, true, false, false, false, false]) (by kernel_rfl) ?_
                                                    clear hS
                                                    (try clear hwx)
                                                    revert B
                                                    revert wn
                                                    exact keyq_2.out
                                                  refine AllReadyH.cons (o := { dst := some 16, op := Op.buildSlice 22 3 #[(0, Operand.tmp 11), (1, Operand.tmp 13), (2, Operand.tmp 15)], type := 22, pos := "l8_desk.go:45", after := #[{ on := 4, ground := Ground.data }, { on := 6, ground := Ground.data }, { on := 8, ground := Ground.data }], guard := none }) rfl (fun K hK => ?_) ?_
                                                  · skip
                                                    go_simp
                                                    replace B : Below w2.heap.size w2 (wr.alloc (.cells #[Value.int .i64 j.fr, Value.int .i64 j.ct, Value.int .i64 j.wd] 3)) := bel_trans B (bel_alloc wr _)
                                                    have J9 : Hid (Ints (wr.alloc (.cells #[Value.int .i64 j.fr, Value.int .i64 j.ct, Value.int .i64 j.wd] 3)) (Value.slice (some ⟨wr.heap.size, 0, none⟩) 3 3) [j.fr, j.ct, j.wd]) := Lib.hid (lit_ints wr [j.fr, j.ct, j.wd] (by simp) HWF.out.1)
                                                    refine hK.out _ _ (by first | exact ⟨(B.cell (by exact hl2)).trans a0, (B.cell (by exact hl2)).trans a1, (B.cell (by exact hl2)).trans a2, (B.cell (by exact hl2)).trans a3, (B.cell (by exact hl2)).trans a4, (B.cell (by exact hl2)).trans a5, (B.cell (by exact hl2)).trans a6, (B.cell (by exact hl2)).trans a7, (B.cell (by exact hl2)).trans a8⟩ | (dsimp only; exact ⟨(B.cell (by exact hl2)).trans a0, (B.cell (by exact hl2)).trans a1, (B.cell (by exact hl2)).trans a2, (B.cell (by exact hl2)).trans a3, (B.cell (by exact hl2)).trans a4, (B.cell (by exact hl2)).trans a5, (B.cell (by exact hl2)).trans a6, (B.cell (by exact hl2)).trans a7, (B.cell (by exact hl2)).trans a8⟩)) (fun hS => ?_)
                                                    clear hK K
                                                    (try simp only [Act.put, List.setIfInBounds_toArray, List.set_cons_zero, List.set_cons_succ])
                                                    refine wpAnyH_listed (l' := #[true, true, false, true, true, true, true, true, true, true, false, true, true, true, true, false, false, true, true, true, true, true, true, true, true, true, false, false, false, false]) (by kernel_rfl) ?_
                                                    clear hS
                                                    (try clear hwx)
                                                    revert J9; revert B
                                                    generalize (wr.alloc (.cells #[Value.int .i64 j.fr, Value.int .i64 j.ct, Value.int .i64 j.wd] 3)) = wn
                                                    generalize wr.heap.size = b9
                                                    revert b9; revert wn
                                                    exact keyq_9.out
                                                  refine AllReadyH.cons (o := { dst := some 22, op := Op.buildSlice 22 2 #[(0, Operand.tmp 19), (1, Operand.tmp 21)], type := 22, pos := "l8_desk.go:45", after := #[{ on := 12, ground := Ground.data }, { on := 14, ground := Ground.data }], guard := none }) rfl (fun K hK => ?_) ?_
                                                  · skip
                                                    go_simp
                                                    replace B : Below w2.heap.size w2 (wr.alloc (.cells #[Value.int .i64 j.dg, Value.int .i64 j.wy] 3)) := bel_trans B (bel_alloc wr _)
                                                    have J15 : Hid (Ints (wr.alloc (.cells #[Value.int .i64 j.dg, Value.int .i64 j.wy] 3)) (Value.slice (some ⟨wr.heap.size, 0, none⟩) 2 2) [j.dg, j.wy]) := Lib.hid (lit_ints wr [j.dg, j.wy] (by simp) HWF.out.2.1)
                                                    refine hK.out _ _ (by first | exact ⟨(B.cell (by exact hl2)).trans a0, (B.cell (by exact hl2)).trans a1, (B.cell (by exact hl2)).trans a2, (B.cell (by exact hl2)).trans a3, (B.cell (by exact hl2)).trans a4, (B.cell (by exact hl2)).trans a5, (B.cell (by exact hl2)).trans a6, (B.cell (by exact hl2)).trans a7, (B.cell (by exact hl2)).trans a8⟩ | (dsimp only; exact ⟨(B.cell (by exact hl2)).trans a0, (B.cell (by exact hl2)).trans a1, (B.cell (by exact hl2)).trans a2, (B.cell (by exact hl2)).trans a3, (B.cell (by exact hl2)).trans a4, (B.cell (by exact hl2)).trans a5, (B.cell (by exact hl2)).trans a6, (B.cell (by exact hl2)).trans a7, (B.cell (by exact hl2)).trans a8⟩)) (fun hS => ?_)
                                                    clear hK K
                                                    (try simp only [Act.put, List.setIfInBounds_toArray, List.set_cons_zero, List.set_cons_succ])
                                                    refine wpAnyH_listed (l' := #[true, true, false, true, true, true, true, true, true, false, false, true, true, true, true, true, false, true, true, true, true, true, true, true, true, true, false, false, false, false]) (by kernel_rfl) ?_
                                                    clear hS
                                                    (try clear hwx)
                                                    revert J15; revert B
                                                    generalize (wr.alloc (.cells #[Value.int .i64 j.dg, Value.int .i64 j.wy] 3)) = wn
                                                    generalize wr.heap.size = b15
                                                    revert b15; revert wn
                                                    exact keyq_15.out
                                                  refine AllReadyH.cons (o := { dst := some 33, op := Op.buildSlice 22 3 #[(0, Operand.tmp 26), (1, Operand.tmp 29), (2, Operand.tmp 32)], type := 22, pos := "l8_desk.go:45", after := #[{ on := 19, ground := Ground.data }, { on := 22, ground := Ground.data }, { on := 25, ground := Ground.data }], guard := none }) rfl (fun K hK => ?_) ?_
                                                  · skip
                                                    go_simp
                                                    replace B : Below w2.heap.size w2 (wr.alloc (.cells #[Value.int .i64 j.rw, Value.int .i64 j.ac, Value.int .i64 j.wi] 3)) := bel_trans B (bel_alloc wr _)
                                                    have J26 : Hid (Ints (wr.alloc (.cells #[Value.int .i64 j.rw, Value.int .i64 j.ac, Value.int .i64 j.wi] 3)) (Value.slice (some ⟨wr.heap.size, 0, none⟩) 3 3) [j.rw, j.ac, j.wi]) := Lib.hid (lit_ints wr [j.rw, j.ac, j.wi] (by simp) HWF.out.2.2)
                                                    refine hK.out _ _ (by first | exact ⟨(B.cell (by exact hl2)).trans a0, (B.cell (by exact hl2)).trans a1, (B.cell (by exact hl2)).trans a2, (B.cell (by exact hl2)).trans a3, (B.cell (by exact hl2)).trans a4, (B.cell (by exact hl2)).trans a5, (B.cell (by exact hl2)).trans a6, (B.cell (by exact hl2)).trans a7, (B.cell (by exact hl2)).trans a8⟩ | (dsimp only; exact ⟨(B.cell (by exact hl2)).trans a0, (B.cell (by exact hl2)).trans a1, (B.cell (by exact hl2)).trans a2, (B.cell (by exact hl2)).trans a3, (B.cell (by exact hl2)).trans a4, (B.cell (by exact hl2)).trans a5, (B.cell (by exact hl2)).trans a6, (B.cell (by exact hl2)).trans a7, (B.cell (by exact hl2)).trans a8⟩)) (fun hS => ?_)
                                                    clear hK K
                                                    (try simp only [Act.put, List.setIfInBounds_toArray, List.set_cons_zero, List.set_cons_succ])
                                                    refine wpAnyH_listed (l' := #[true, true, false, true, true, true, true, true, true, false, false, true, true, true, true, false, false, true, true, true, true, true, true, true, true, true, true, false, false, false]) (by kernel_rfl) ?_
                                                    clear hS
                                                    (try clear hwx)
                                                    revert J26; revert B
                                                    generalize (wr.alloc (.cells #[Value.int .i64 j.rw, Value.int .i64 j.ac, Value.int .i64 j.wi] 3)) = wn
                                                    generalize wr.heap.size = b26
                                                    revert b26; revert wn
                                                    exact keyq_26.out
                                                  exact AllReadyH.nil
                                                case hkq_2 =>
                                                  intro wr B
                                                  refine wpAnyH_ready (rs := [9, 15, 26]) (by kernel_rfl) (by simp) ?_
                                                  refine AllReadyH.cons (o := { dst := some 16, op := Op.buildSlice 22 3 #[(0, Operand.tmp 11), (1, Operand.tmp 13), (2, Operand.tmp 15)], type := 22, pos := "l8_desk.go:45", after := #[{ on := 4, ground := Ground.data }, { on := 6, ground := Ground.data }, { on := 8, ground := Ground.data }], guard := none }) rfl (fun K hK => ?_) ?_
                                                  · skip
                                                    go_simp
                                                    replace B : Below w2.heap.size w2 (wr.alloc (.cells #[Value.int .i64 j.fr, Value.int .i64 j.ct, Value.int .i64 j.wd] 3)) := bel_trans B (bel_alloc wr _)
                                                    have J9 : Hid (Ints (wr.alloc (.cells #[Value.int .i64 j.fr, Value.int .i64 j.ct, Value.int .i64 j.wd] 3)) (Value.slice (some ⟨wr.heap.size, 0, none⟩) 3 3) [j.fr, j.ct, j.wd]) := Lib.hid (lit_ints wr [j.fr, j.ct, j.wd] (by simp) HWF.out.1)
                                                    refine hK.out _ _ (by first | exact ⟨(B.cell (by exact hl2)).trans a0, (B.cell (by exact hl2)).trans a1, (B.cell (by exact hl2)).trans a2, (B.cell (by exact hl2)).trans a3, (B.cell (by exact hl2)).trans a4, (B.cell (by exact hl2)).trans a5, (B.cell (by exact hl2)).trans a6, (B.cell (by exact hl2)).trans a7, (B.cell (by exact hl2)).trans a8⟩ | (dsimp only; exact ⟨(B.cell (by exact hl2)).trans a0, (B.cell (by exact hl2)).trans a1, (B.cell (by exact hl2)).trans a2, (B.cell (by exact hl2)).trans a3, (B.cell (by exact hl2)).trans a4, (B.cell (by exact hl2)).trans a5, (B.cell (by exact hl2)).trans a6, (B.cell (by exact hl2)).trans a7, (B.cell (by exact hl2)).trans a8⟩)) (fun hS => ?_)
                                                    clear hK K
                                                    (try simp only [Act.put, List.setIfInBounds_toArray, List.set_cons_zero, List.set_cons_succ])
                                                    refine wpAnyH_listed (l' := #[true, true, true, true, true, true, true, true, true, true, false, true, true, true, true, false, false, true, true, true, true, true, true, true, true, true, false, false, false, false]) (by kernel_rfl) ?_
                                                    clear hS
                                                    (try clear hwx)
                                                    revert J9; revert B
                                                    generalize (wr.alloc (.cells #[Value.int .i64 j.fr, Value.int .i64 j.ct, Value.int .i64 j.wd] 3)) = wn
                                                    generalize wr.heap.size = b9
                                                    revert b9; revert wn
                                                    exact keyq_2_9.out
                                                  refine AllReadyH.cons (o := { dst := some 22, op := Op.buildSlice 22 2 #[(0, Operand.tmp 19), (1, Operand.tmp 21)], type := 22, pos := "l8_desk.go:45", after := #[{ on := 12, ground := Ground.data }, { on := 14, ground := Ground.data }], guard := none }) rfl (fun K hK => ?_) ?_
                                                  · skip
                                                    go_simp
                                                    replace B : Below w2.heap.size w2 (wr.alloc (.cells #[Value.int .i64 j.dg, Value.int .i64 j.wy] 3)) := bel_trans B (bel_alloc wr _)
                                                    have J15 : Hid (Ints (wr.alloc (.cells #[Value.int .i64 j.dg, Value.int .i64 j.wy] 3)) (Value.slice (some ⟨wr.heap.size, 0, none⟩) 2 2) [j.dg, j.wy]) := Lib.hid (lit_ints wr [j.dg, j.wy] (by simp) HWF.out.2.1)
                                                    refine hK.out _ _ (by first | exact ⟨(B.cell (by exact hl2)).trans a0, (B.cell (by exact hl2)).trans a1, (B.cell (by exact hl2)).trans a2, (B.cell (by exact hl2)).trans a3, (B.cell (by exact hl2)).trans a4, (B.cell (by exact hl2)).trans a5, (B.cell (by exact hl2)).trans a6, (B.cell (by exact hl2)).trans a7, (B.cell (by exact hl2)).trans a8⟩ | (dsimp only; exact ⟨(B.cell (by exact hl2)).trans a0, (B.cell (by exact hl2)).trans a1, (B.cell (by exact hl2)).trans a2, (B.cell (by exact hl2)).trans a3, (B.cell (by exact hl2)).trans a4, (B.cell (by exact hl2)).trans a5, (B.cell (by exact hl2)).trans a6, (B.cell (by exact hl2)).trans a7, (B.cell (by exact hl2)).trans a8⟩)) (fun hS => ?_)
                                                    clear hK K
                                                    (try simp only [Act.put, List.setIfInBounds_toArray, List.set_cons_zero, List.set_cons_succ])
                                                    refine wpAnyH_listed (l' := #[true, true, true, true, true, true, true, true, true, false, false, true, true, true, true, true, false, true, true, true, true, true, true, true, true, true, false, false, false, false]) (by kernel_rfl) ?_
                                                    clear hS
                                                    (try clear hwx)
                                                    revert J15; revert B
                                                    generalize (wr.alloc (.cells #[Value.int .i64 j.dg, Value.int .i64 j.wy] 3)) = wn
                                                    generalize wr.heap.size = b15
                                                    revert b15; revert wn
                                                    exact keyq_2_15.out
                                                  refine AllReadyH.cons (o := { dst := some 33, op := Op.buildSlice 22 3 #[(0, Operand.tmp 26), (1, Operand.tmp 29), (2, Operand.tmp 32)], type := 22, pos := "l8_desk.go:45", after := #[{ on := 19, ground := Ground.data }, { on := 22, ground := Ground.data }, { on := 25, ground := Ground.data }], guard := none }) rfl (fun K hK => ?_) ?_
                                                  · skip
                                                    go_simp
                                                    replace B : Below w2.heap.size w2 (wr.alloc (.cells #[Value.int .i64 j.rw, Value.int .i64 j.ac, Value.int .i64 j.wi] 3)) := bel_trans B (bel_alloc wr _)
                                                    have J26 : Hid (Ints (wr.alloc (.cells #[Value.int .i64 j.rw, Value.int .i64 j.ac, Value.int .i64 j.wi] 3)) (Value.slice (some ⟨wr.heap.size, 0, none⟩) 3 3) [j.rw, j.ac, j.wi]) := Lib.hid (lit_ints wr [j.rw, j.ac, j.wi] (by simp) HWF.out.2.2)
                                                    refine hK.out _ _ (by first | exact ⟨(B.cell (by exact hl2)).trans a0, (B.cell (by exact hl2)).trans a1, (B.cell (by exact hl2)).trans a2, (B.cell (by exact hl2)).trans a3, (B.cell (by exact hl2)).trans a4, (B.cell (by exact hl2)).trans a5, (B.cell (by exact hl2)).trans a6, (B.cell (by exact hl2)).trans a7, (B.cell (by exact hl2)).trans a8⟩ | (dsimp only; exact ⟨(B.cell (by exact hl2)).trans a0, (B.cell (by exact hl2)).trans a1, (B.cell (by exact hl2)).trans a2, (B.cell (by exact hl2)).trans a3, (B.cell (by exact hl2)).trans a4, (B.cell (by exact hl2)).trans a5, (B.cell (by exact hl2)).trans a6, (B.cell (by exact hl2)).trans a7, (B.cell (by exact hl2)).trans a8⟩)) (fun hS => ?_)
                                                    clear hK K
                                                    (try simp only [Act.put, List.setIfInBounds_toArray, List.set_cons_zero, List.set_cons_succ])
                                                    refine wpAnyH_listed (l' := #[true, true, true, true, true, true, true, true, true, false, false, true, true, true, true, false, false, true, true, true, true, true, true, true, true, true, true, false, false, false]) (by kernel_rfl) ?_
                                                    clear hS
                                                    (try clear hwx)
                                                    revert J26; revert B
                                                    generalize (wr.alloc (.cells #[Value.int .i64 j.rw, Value.int .i64 j.ac, Value.int .i64 j.wi] 3)) = wn
                                                    generalize wr.heap.size = b26
                                                    revert b26; revert wn
                                                    exact keyq_2_26.out
                                                  exact AllReadyH.nil
                                              case hkq_9 =>
                                                intro wr b9 B J9
                                                refine wpAnyH_ready (rs := [2, 15, 26]) (by kernel_rfl) (by simp) ?_
                                                refine AllReadyH.cons (o := { dst := some 9, op := Op.call { callee := Callee.value (Operand.func 43), args := #[Operand.tmp 8], argTypes := #[22] }, type := 9, pos := "l8_desk.go:46", after := #[{ on := 1, ground := Ground.data }], guard := none }) rfl (fun K hK => ?_) ?_
                                                · skip
                                                  (try go_simp)
                                                  go_at_call 43
                                                  refine (implFP_any _ j.poly _ (HP.out.bel B) (HT2.out.bel B)).mono ?_
                                                  rintro e wn ⟨rfl, b⟩
                                                  replace J9 := Lib.hid (J9.out.bel b)
                                                  replace B := bel_trans B b
                                                  clear b
                                                  (try dsimp only)
                                                  refine hK.out _ _ (by first | exact ⟨(B.cell (by exact hl2)).trans a0, (B.cell (by exact hl2)).trans a1, (B.cell (by exact hl2)).trans a2, (B.cell (by exact hl2)).trans a3, (B.cell (by exact hl2)).trans a4, (B.cell (by exact hl2)).trans a5, (B.cell (by exact hl2)).trans a6, (B.cell (by exact hl2)).trans a7, (B.cell (by exact hl2)).trans a8⟩ | (dsimp only; exact ⟨(B.cell (by exact hl2)).trans a0, (B.cell (by exact hl2)).trans a1, (B.cell (by exact hl2)).trans a2, (B.cell (by exact hl2)).trans a3, (B.cell (by exact hl2)).trans a4, (B.cell (by exact hl2)).trans a5, (B.cell (by exact hl2)).trans a6, (B.cell (by exact hl2)).trans a7, (B.cell (by exact hl2)).trans a8⟩)) (fun hS => ?_)
                                                  clear hK K
                                                  (try simp only [Act.put, List.setIfInBounds_toArray, List.set_cons_zero, List.set_cons_succ])
                                                  refine wpAnyH_listed (l' := #[true, true, true, true, true, true, true, true, true, true, false, true, true, true, true, false, false, true, true, true, true, true, true, true, true, true, false, false, false, false]) (by kernel_rfl) ?_
                                                  clear hS
                                                  (try clear hwx)
                                                  revert J9; revert B
                                                  revert b9; revert wn
                                                  exact keyq_2_9.out
                                                refine AllReadyH.cons (o := { dst := some 22, op := Op.buildSlice 22 2 #[(0, Operand.tmp 19), (1, Operand.tmp 21)], type := 22, pos := "l8_desk.go:45", after := #[{ on := 12, ground := Ground.data }, { on := 14, ground := Ground.data }], guard := none }) rfl (fun K hK => ?_) ?_
                                                · skip
                                                  go_simp
                                                  replace J9 := Lib.hid (J9.out.bel (bel_alloc wr ((.cells #[Value.int .i64 j.dg, Value.int .i64 j.wy] 3))))
                                                  replace B : Below w2.heap.size w2 (wr.alloc (.cells #[Value.int .i64 j.dg, Value.int .i64 j.wy] 3)) := bel_trans B (bel_alloc wr _)
                                                  have J15 : Hid (Ints (wr.alloc (.cells #[Value.int .i64 j.dg, Value.int .i64 j.wy] 3)) (Value.slice (some ⟨wr.heap.size, 0, none⟩) 2 2) [j.dg, j.wy]) := Lib.hid (lit_ints wr [j.dg, j.wy] (by simp) HWF.out.2.1)
                                                  refine hK.out _ _ (by first | exact ⟨(B.cell (by exact hl2)).trans a0, (B.cell (by exact hl2)).trans a1, (B.cell (by exact hl2)).trans a2, (B.cell (by exact hl2)).trans a3, (B.cell (by exact hl2)).trans a4, (B.cell (by exact hl2)).trans a5, (B.cell (by exact hl2)).trans a6, (B.cell (by exact hl2)).trans a7, (B.cell (by exact hl2)).trans a8⟩ | (dsimp only; exact ⟨(B.cell (by exact hl2)).trans a0, (B.cell (by exact hl2)).trans a1, (B.cell (by exact hl2)).trans a2, (B.cell (by exact hl2)).trans a3, (B.cell (by exact hl2)).trans a4, (B.cell (by exact hl2)).trans a5, (B.cell (by exact hl2)).trans a6, (B.cell (by exact hl2)).trans a7, (B.cell (by exact hl2)).trans a8⟩)) (fun hS => ?_)
                                                  clear hK K
                                                  (try simp only [Act.put, List.setIfInBounds_toArray, List.set_cons_zero, List.set_cons_succ])
                                                  refine wpAnyH_listed (l' := #[true, true, false, true, true, true, true, true, true, true, false, true, true, true, true, true, false, true, true, true, true, true, true, true, true, true, false, false, false, false]) (by kernel_rfl) ?_
                                                  clear hS
                                                  (try clear hwx)
                                                  revert J15; revert J9; revert B
                                                  generalize (wr.alloc (.cells #[Value.int .i64 j.dg, Value.int .i64 j.wy] 3)) = wn
                                                  generalize wr.heap.size = b15
                                                  revert b15; revert b9; revert wn
                                                  exact keyq_9_15.out
                                                refine AllReadyH.cons (o := { dst := some 33, op := Op.buildSlice 22 3 #[(0, Operand.tmp 26), (1, Operand.tmp 29), (2, Operand.tmp 32)], type := 22, pos := "l8_desk.go:45", after := #[{ on := 19, ground := Ground.data }, { on := 22, ground := Ground.data }, { on := 25, ground := Ground.data }], guard := none }) rfl (fun K hK => ?_) ?_
                                                · skip
                                                  go_simp
                                                  replace J9 := Lib.hid (J9.out.bel (bel_alloc wr ((.cells #[Value.int .i64 j.rw, Value.int .i64 j.ac, Value.int .i64 j.wi] 3))))
                                                  replace B : Below w2.heap.size w2 (wr.alloc (.cells #[Value.int .i64 j.rw, Value.int .i64 j.ac, Value.int .i64 j.wi] 3)) := bel_trans B (bel_alloc wr _)
                                                  have J26 : Hid (Ints (wr.alloc (.cells #[Value.int .i64 j.rw, Value.int .i64 j.ac, Value.int .i64 j.wi] 3)) (Value.slice (some ⟨wr.heap.size, 0, none⟩) 3 3) [j.rw, j.ac, j.wi]) := Lib.hid (lit_ints wr [j.rw, j.ac, j.wi] (by simp) HWF.out.2.2)
                                                  refine hK.out _ _ (by first | exact ⟨(B.cell (by exact hl2)).trans a0, (B.cell (by exact hl2)).trans a1, (B.cell (by exact hl2)).trans a2, (B.cell (by exact hl2)).trans a3, (B.cell (by exact hl2)).trans a4, (B.cell (by exact hl2)).trans a5, (B.cell (by exact hl2)).trans a6, (B.cell (by exact hl2)).trans a7, (B.cell (by exact hl2)).trans a8⟩ | (dsimp only; exact ⟨(B.cell (by exact hl2)).trans a0, (B.cell (by exact hl2)).trans a1, (B.cell (by exact hl2)).trans a2, (B.cell (by exact hl2)).trans a3, (B.cell (by exact hl2)).trans a4, (B.cell (by exact hl2)).trans a5, (B.cell (by exact hl2)).trans a6, (B.cell (by exact hl2)).trans a7, (B.cell (by exact hl2)).trans a8⟩)) (fun hS => ?_)
                                                  clear hK K
                                                  (try simp only [Act.put, List.setIfInBounds_toArray, List.set_cons_zero, List.set_cons_succ])
                                                  refine wpAnyH_listed (l' := #[true, true, false, true, true, true, true, true, true, true, false, true, true, true, true, false, false, true, true, true, true, true, true, true, true, true, true, false, false, false]) (by kernel_rfl) ?_
                                                  clear hS
                                                  (try clear hwx)
                                                  revert J26; revert J9; revert B
                                                  generalize (wr.alloc (.cells #[Value.int .i64 j.rw, Value.int .i64 j.ac, Value.int .i64 j.wi] 3)) = wn
                                                  generalize wr.heap.size = b26
                                                  revert b26; revert b9; revert wn
                                                  exact keyq_9_26.out
                                                exact AllReadyH.nil
                                            case hkq_15 =>
                                              intro wr b15 B J15
                                              refine wpAnyH_ready (rs := [2, 9, 26]) (by kernel_rfl) (by simp) ?_
                                              refine AllReadyH.cons (o := { dst := some 9, op := Op.call { callee := Callee.value (Operand.func 43), args := #[Operand.tmp 8], argTypes := #[22] }, type := 9, pos := "l8_desk.go:46", after := #[{ on := 1, ground := Ground.data }], guard := none }) rfl (fun K hK => ?_) ?_
                                              · skip
                                                (try go_simp)
                                                go_at_call 43
                                                refine (implFP_any _ j.poly _ (HP.out.bel B) (HT2.out.bel B)).mono ?_
                                                rintro e wn ⟨rfl, b⟩
                                                replace J15 := Lib.hid (J15.out.bel b)
                                                replace B := bel_trans B b
                                                clear b
                                                (try dsimp only)
                                                refine hK.out _ _ (by first | exact ⟨(B.cell (by exact hl2)).trans a0, (B.cell (by exact hl2)).trans a1, (B.cell (by exact hl2)).trans a2, (B.cell (by exact hl2)).trans a3, (B.cell (by exact hl2)).trans a4, (B.cell (by exact hl2)).trans a5, (B.cell (by exact hl2)).trans a6, (B.cell (by exact hl2)).trans a7, (B.cell (by exact hl2)).trans a8⟩ | (dsimp only; exact ⟨(B.cell (by exact hl2)).trans a0, (B.cell (by exact hl2)).trans a1, (B.cell (by exact hl2)).trans a2, (B.cell (by exact hl2)).trans a3, (B.cell (by exact hl2)).trans a4, (B.cell (by exact hl2)).trans a5, (B.cell (by exact hl2)).trans a6, (B.cell (by exact hl2)).trans a7, (B.cell (by exact hl2)).trans a8⟩)) (fun hS => ?_)
                                                clear hK K
                                                (try simp only [Act.put, List.setIfInBounds_toArray, List.set_cons_zero, List.set_cons_succ])
                                                refine wpAnyH_listed (l' := #[true, true, true, true, true, true, true, true, true, false, false, true, true, true, true, true, false, true, true, true, true, true, true, true, true, true, false, false, false, false]) (by kernel_rfl) ?_
                                                clear hS
                                                (try clear hwx)
                                                revert J15; revert B
                                                revert b15; revert wn
                                                exact keyq_2_15.out
                                              refine AllReadyH.cons (o := { dst := some 16, op := Op.buildSlice 22 3 #[(0, Operand.tmp 11), (1, Operand.tmp 13), (2, Operand.tmp 15)], type := 22, pos := "l8_desk.go:45", after := #[{ on := 4, ground := Ground.data }, { on := 6, ground := Ground.data }, { on := 8, ground := Ground.data }], guard := none }) rfl (fun K hK => ?_) ?_
                                              · skip
                                                go_simp
                                                replace J15 := Lib.hid (J15.out.bel (bel_alloc wr ((.cells #[Value.int .i64 j.fr, Value.int .i64 j.ct, Value.int .i64 j.wd] 3))))
                                                replace B : Below w2.heap.size w2 (wr.alloc (.cells #[Value.int .i64 j.fr, Value.int .i64 j.ct, Value.int .i64 j.wd] 3)) := bel_trans B (bel_alloc wr _)
                                                have J9 : Hid (Ints (wr.alloc (.cells #[Value.int .i64 j.fr, Value.int .i64 j.ct, Value.int .i64 j.wd] 3)) (Value.slice (some ⟨wr.heap.size, 0, none⟩) 3 3) [j.fr, j.ct, j.wd]) := Lib.hid (lit_ints wr [j.fr, j.ct, j.wd] (by simp) HWF.out.1)
                                                refine hK.out _ _ (by first | exact ⟨(B.cell (by exact hl2)).trans a0, (B.cell (by exact hl2)).trans a1, (B.cell (by exact hl2)).trans a2, (B.cell (by exact hl2)).trans a3, (B.cell (by exact hl2)).trans a4, (B.cell (by exact hl2)).trans a5, (B.cell (by exact hl2)).trans a6, (B.cell (by exact hl2)).trans a7, (B.cell (by exact hl2)).trans a8⟩ | (dsimp only; exact ⟨(B.cell (by exact hl2)).trans a0, (B.cell (by exact hl2)).trans a1, (B.cell (by exact hl2)).trans a2, (B.cell (by exact hl2)).trans a3, (B.cell (by exact hl2)).trans a4, (B.cell (by exact hl2)).trans a5, (B.cell (by exact hl2)).trans a6, (B.cell (by exact hl2)).trans a7, (B.cell (by exact hl2)).trans a8⟩)) (fun hS => ?_)
                                                clear hK K
                                                (try simp only [Act.put, List.setIfInBounds_toArray, List.set_cons_zero, List.set_cons_succ])
                                                refine wpAnyH_listed (l' := #[true, true, false, true, true, true, true, true, true, true, false, true, true, true, true, true, false, true, true, true, true, true, true, true, true, true, false, false, false, false]) (by kernel_rfl) ?_
                                                clear hS
                                                (try clear hwx)
                                                revert J15; revert J9; revert B
                                                generalize (wr.alloc (.cells #[Value.int .i64 j.fr, Value.int .i64 j.ct, Value.int .i64 j.wd] 3)) = wn
                                                generalize wr.heap.size = b9
                                                revert b15; revert b9; revert wn
                                                exact keyq_9_15.out
                                              refine AllReadyH.cons (o := { dst := some 33, op := Op.buildSlice 22 3 #[(0, Operand.tmp 26), (1, Operand.tmp 29), (2, Operand.tmp 32)], type := 22, pos := "l8_desk.go:45", after := #[{ on := 19, ground := Ground.data }, { on := 22, ground := Ground.data }, { on := 25, ground := Ground.data }], guard := none }) rfl (fun K hK => ?_) ?_
                                              · skip
                                                go_simp
                                                replace J15 := Lib.hid (J15.out.bel (bel_alloc wr ((.cells #[Value.int .i64 j.rw, Value.int .i64 j.ac, Value.int .i64 j.wi] 3))))
                                                replace B : Below w2.heap.size w2 (wr.alloc (.cells #[Value.int .i64 j.rw, Value.int .i64 j.ac, Value.int .i64 j.wi] 3)) := bel_trans B (bel_alloc wr _)
                                                have J26 : Hid (Ints (wr.alloc (.cells #[Value.int .i64 j.rw, Value.int .i64 j.ac, Value.int .i64 j.wi] 3)) (Value.slice (some ⟨wr.heap.size, 0, none⟩) 3 3) [j.rw, j.ac, j.wi]) := Lib.hid (lit_ints wr [j.rw, j.ac, j.wi] (by simp) HWF.out.2.2)
                                                refine hK.out _ _ (by first | exact ⟨(B.cell (by exact hl2)).trans a0, (B.cell (by exact hl2)).trans a1, (B.cell (by exact hl2)).trans a2, (B.cell (by exact hl2)).trans a3, (B.cell (by exact hl2)).trans a4, (B.cell (by exact hl2)).trans a5, (B.cell (by exact hl2)).trans a6, (B.cell (by exact hl2)).trans a7, (B.cell (by exact hl2)).trans a8⟩ | (dsimp only; exact ⟨(B.cell (by exact hl2)).trans a0, (B.cell (by exact hl2)).trans a1, (B.cell (by exact hl2)).trans a2, (B.cell (by exact hl2)).trans a3, (B.cell (by exact hl2)).trans a4, (B.cell (by exact hl2)).trans a5, (B.cell (by exact hl2)).trans a6, (B.cell (by exact hl2)).trans a7, (B.cell (by exact hl2)).trans a8⟩)) (fun hS => ?_)
                                                clear hK K
                                                (try simp only [Act.put, List.setIfInBounds_toArray, List.set_cons_zero, List.set_cons_succ])
                                                refine wpAnyH_listed (l' := #[true, true, false, true, true, true, true, true, true, false, false, true, true, true, true, true, false, true, true, true, true, true, true, true, true, true, true, false, false, false]) (by kernel_rfl) ?_
                                                clear hS
                                                (try clear hwx)
                                                revert J26; revert J15; revert B
                                                generalize (wr.alloc (.cells #[Value.int .i64 j.rw, Value.int .i64 j.ac, Value.int .i64 j.wi] 3)) = wn
                                                generalize wr.heap.size = b26
                                                revert b26; revert b15; revert wn
                                                exact keyq_15_26.out
                                              exact AllReadyH.nil
                                          case hkq_26 =>
                                            intro wr b26 B J26
                                            refine wpAnyH_ready (rs := [2, 9, 15]) (by kernel_rfl) (by simp) ?_
                                            refine AllReadyH.cons (o := { dst := some 9, op := Op.call { callee := Callee.value (Operand.func 43), args := #[Operand.tmp 8], argTypes := #[22] }, type := 9, pos := "l8_desk.go:46", after := #[{ on := 1, ground := Ground.data }], guard := none }) rfl (fun K hK => ?_) ?_
                                            · skip
                                              (try go_simp)
                                              go_at_call 43
                                              refine (implFP_any _ j.poly _ (HP.out.bel B) (HT2.out.bel B)).mono ?_
                                              rintro e wn ⟨rfl, b⟩
                                              replace J26 := Lib.hid (J26.out.bel b)
                                              replace B := bel_trans B b
                                              clear b
                                              (try dsimp only)
                                              refine hK.out _ _ (by first | exact ⟨(B.cell (by exact hl2)).trans a0, (B.cell (by exact hl2)).trans a1, (B.cell (by exact hl2)).trans a2, (B.cell (by exact hl2)).trans a3, (B.cell (by exact hl2)).trans a4, (B.cell (by exact hl2)).trans a5, (B.cell (by exact hl2)).trans a6, (B.cell (by exact hl2)).trans a7, (B.cell (by exact hl2)).trans a8⟩ | (dsimp only; exact ⟨(B.cell (by exact hl2)).trans a0, (B.cell (by exact hl2)).trans a1, (B.cell (by exact hl2)).trans a2, (B.cell (by exact hl2)).trans a3, (B.cell (by exact hl2)).trans a4, (B.cell (by exact hl2)).trans a5, (B.cell (by exact hl2)).trans a6, (B.cell (by exact hl2)).trans a7, (B.cell (by exact hl2)).trans a8⟩)) (fun hS => ?_)
                                              clear hK K
                                              (try simp only [Act.put, List.setIfInBounds_toArray, List.set_cons_zero, List.set_cons_succ])
                                              refine wpAnyH_listed (l' := #[true, true, true, true, true, true, true, true, true, false, false, true, true, true, true, false, false, true, true, true, true, true, true, true, true, true, true, false, false, false]) (by kernel_rfl) ?_
                                              clear hS
                                              (try clear hwx)
                                              revert J26; revert B
                                              revert b26; revert wn
                                              exact keyq_2_26.out
                                            refine AllReadyH.cons (o := { dst := some 16, op := Op.buildSlice 22 3 #[(0, Operand.tmp 11), (1, Operand.tmp 13), (2, Operand.tmp 15)], type := 22, pos := "l8_desk.go:45", after := #[{ on := 4, ground := Ground.data }, { on := 6, ground := Ground.data }, { on := 8, ground := Ground.data }], guard := none }) rfl (fun K hK => ?_) ?_
                                            · skip
                                              go_simp
                                              replace J26 := Lib.hid (J26.out.bel (bel_alloc wr ((.cells #[Value.int .i64 j.fr, Value.int .i64 j.ct, Value.int .i64 j.wd] 3))))
                                              replace B : Below w2.heap.size w2 (wr.alloc (.cells #[Value.int .i64 j.fr, Value.int .i64 j.ct, Value.int .i64 j.wd] 3)) := bel_trans B (bel_alloc wr _)
                                              have J9 : Hid (Ints (wr.alloc (.cells #[Value.int .i64 j.fr, Value.int .i64 j.ct, Value.int .i64 j.wd] 3)) (Value.slice (some ⟨wr.heap.size, 0, none⟩) 3 3) [j.fr, j.ct, j.wd]) := Lib.hid (lit_ints wr [j.fr, j.ct, j.wd] (by simp) HWF.out.1)
                                              refine hK.out _ _ (by first | exact ⟨(B.cell (by exact hl2)).trans a0, (B.cell (by exact hl2)).trans a1, (B.cell (by exact hl2)).trans a2, (B.cell (by exact hl2)).trans a3, (B.cell (by exact hl2)).trans a4, (B.cell (by exact hl2)).trans a5, (B.cell (by exact hl2)).trans a6, (B.cell (by exact hl2)).trans a7, (B.cell (by exact hl2)).trans a8⟩ | (dsimp only; exact ⟨(B.cell (by exact hl2)).trans a0, (B.cell (by exact hl2)).trans a1, (B.cell (by exact hl2)).trans a2, (B.cell (by exact hl2)).trans a3, (B.cell (by exact hl2)).trans a4, (B.cell (by exact hl2)).trans a5, (B.cell (by exact hl2)).trans a6, (B.cell (by exact hl2)).trans a7, (B.cell (by exact hl2)).trans a8⟩)) (fun hS => ?_)
                                              clear hK K
                                              (try simp only [Act.put, List.setIfInBounds_toArray, List.set_cons_zero, List.set_cons_succ])
                                              refine wpAnyH_listed (l' := #[true, true, false, true, true, true, true, true, true, true, false, true, true, true, true, false, false, true, true, true, true, true, true, true, true, true, true, false, false, false]) (by kernel_rfl) ?_
                                              clear hS
                                              (try clear hwx)
                                              revert J26; revert J9; revert B
                                              generalize (wr.alloc (.cells #[Value.int .i64 j.fr, Value.int .i64 j.ct, Value.int .i64 j.wd] 3)) = wn
                                              generalize wr.heap.size = b9
                                              revert b26; revert b9; revert wn
                                              exact keyq_9_26.out
                                            refine AllReadyH.cons (o := { dst := some 22, op := Op.buildSlice 22 2 #[(0, Operand.tmp 19), (1, Operand.tmp 21)], type := 22, pos := "l8_desk.go:45", after := #[{ on := 12, ground := Ground.data }, { on := 14, ground := Ground.data }], guard := none }) rfl (fun K hK => ?_) ?_
                                            · skip
                                              go_simp
                                              replace J26 := Lib.hid (J26.out.bel (bel_alloc wr ((.cells #[Value.int .i64 j.dg, Value.int .i64 j.wy] 3))))
                                              replace B : Below w2.heap.size w2 (wr.alloc (.cells #[Value.int .i64 j.dg, Value.int .i64 j.wy] 3)) := bel_trans B (bel_alloc wr _)
                                              have J15 : Hid (Ints (wr.alloc (.cells #[Value.int .i64 j.dg, Value.int .i64 j.wy] 3)) (Value.slice (some ⟨wr.heap.size, 0, none⟩) 2 2) [j.dg, j.wy]) := Lib.hid (lit_ints wr [j.dg, j.wy] (by simp) HWF.out.2.1)
                                              refine hK.out _ _ (by first | exact ⟨(B.cell (by exact hl2)).trans a0, (B.cell (by exact hl2)).trans a1, (B.cell (by exact hl2)).trans a2, (B.cell (by exact hl2)).trans a3, (B.cell (by exact hl2)).trans a4, (B.cell (by exact hl2)).trans a5, (B.cell (by exact hl2)).trans a6, (B.cell (by exact hl2)).trans a7, (B.cell (by exact hl2)).trans a8⟩ | (dsimp only; exact ⟨(B.cell (by exact hl2)).trans a0, (B.cell (by exact hl2)).trans a1, (B.cell (by exact hl2)).trans a2, (B.cell (by exact hl2)).trans a3, (B.cell (by exact hl2)).trans a4, (B.cell (by exact hl2)).trans a5, (B.cell (by exact hl2)).trans a6, (B.cell (by exact hl2)).trans a7, (B.cell (by exact hl2)).trans a8⟩)) (fun hS => ?_)
                                              clear hK K
                                              (try simp only [Act.put, List.setIfInBounds_toArray, List.set_cons_zero, List.set_cons_succ])
                                              refine wpAnyH_listed (l' := #[true, true, false, true, true, true, true, true, true, false, false, true, true, true, true, true, false, true, true, true, true, true, true, true, true, true, true, false, false, false]) (by kernel_rfl) ?_
                                              clear hS
                                              (try clear hwx)
                                              revert J26; revert J15; revert B
                                              generalize (wr.alloc (.cells #[Value.int .i64 j.dg, Value.int .i64 j.wy] 3)) = wn
                                              generalize wr.heap.size = b15
                                              revert b26; revert b15; revert wn
                                              exact keyq_15_26.out
                                            exact AllReadyH.nil
                                        case hkq_2_9 =>
                                          intro wr b9 B J9
                                          refine wpAnyH_ready (rs := [10, 15, 26]) (by kernel_rfl) (by simp) ?_
                                          refine AllReadyH.cons (o := { dst := some 17, op := Op.call { callee := Callee.value (Operand.func 44), args := #[Operand.tmp 16], argTypes := #[22] }, type := 9, pos := "l8_desk.go:47", after := #[{ on := 9, ground := Ground.data }, { on := 2, ground := Ground.chain }], guard := none }) rfl (fun K hK => ?_) ?_
                                          · skip
                                            (try go_simp)
                                            go_at_call 44
                                            refine (show Calls _ _ _ _ (fun e w' => e = .returned (.string (gr1 j)) ∧ Below wr.heap.size wr w') from joinNumbers_any _ [j.fr, j.ct, j.wd] _ J9.out (by simp) (HT2.out.bel B)).mono ?_
                                            rintro e wn ⟨rfl, b⟩
                                            clear J9
                                            replace B := bel_trans B b
                                            clear b
                                            (try dsimp only)
                                            refine hK.out _ _ (by first | exact ⟨(B.cell (by exact hl2)).trans a0, (B.cell (by exact hl2)).trans a1, (B.cell (by exact hl2)).trans a2, (B.cell (by exact hl2)).trans a3, (B.cell (by exact hl2)).trans a4, (B.cell (by exact hl2)).trans a5, (B.cell (by exact hl2)).trans a6, (B.cell (by exact hl2)).trans a7, (B.cell (by exact hl2)).trans a8⟩ | (dsimp only; exact ⟨(B.cell (by exact hl2)).trans a0, (B.cell (by exact hl2)).trans a1, (B.cell (by exact hl2)).trans a2, (B.cell (by exact hl2)).trans a3, (B.cell (by exact hl2)).trans a4, (B.cell (by exact hl2)).trans a5, (B.cell (by exact hl2)).trans a6, (B.cell (by exact hl2)).trans a7, (B.cell (by exact hl2)).trans a8⟩)) (fun hS => ?_)
                                            clear hK K
                                            (try simp only [Act.put, List.setIfInBounds_toArray, List.set_cons_zero, List.set_cons_succ])
                                            refine wpAnyH_listed (l' := #[true, true, true, true, true, true, true, true, true, true, true, true, true, true, true, false, false, true, true, true, true, true, true, true, true, true, false, false, false, false]) (by kernel_rfl) ?_
                                            clear hS
                                            (try clear hwx)
                                            revert B
                                            revert b9; revert wn
                                            exact keyq_2_9_10.out
                                          refine AllReadyH.cons (o := { dst := some 22, op := Op.buildSlice 22 2 #[(0, Operand.tmp 19), (1, Operand.tmp 21)], type := 22, pos := "l8_desk.go:45", after := #[{ on := 12, ground := Ground.data }, { on := 14, ground := Ground.data }], guard := none }) rfl (fun K hK => ?_) ?_
                                          · skip
                                            go_simp
                                            replace J9 := Lib.hid (J9.out.bel (bel_alloc wr ((.cells #[Value.int .i64 j.dg, Value.int .i64 j.wy] 3))))
                                            replace B : Below w2.heap.size w2 (wr.alloc (.cells #[Value.int .i64 j.dg, Value.int .i64 j.wy] 3)) := bel_trans B (bel_alloc wr _)
                                            have J15 : Hid (Ints (wr.alloc (.cells #[Value.int .i64 j.dg, Value.int .i64 j.wy] 3)) (Value.slice (some ⟨wr.heap.size, 0, none⟩) 2 2) [j.dg, j.wy]) := Lib.hid (lit_ints wr [j.dg, j.wy] (by simp) HWF.out.2.1)
                                            refine hK.out _ _ (by first | exact ⟨(B.cell (by exact hl2)).trans a0, (B.cell (by exact hl2)).trans a1, (B.cell (by exact hl2)).trans a2, (B.cell (by exact hl2)).trans a3, (B.cell (by exact hl2)).trans a4, (B.cell (by exact hl2)).trans a5, (B.cell (by exact hl2)).trans a6, (B.cell (by exact hl2)).trans a7, (B.cell (by exact hl2)).trans a8⟩ | (dsimp only; exact ⟨(B.cell (by exact hl2)).trans a0, (B.cell (by exact hl2)).trans a1, (B.cell (by exact hl2)).trans a2, (B.cell (by exact hl2)).trans a3, (B.cell (by exact hl2)).trans a4, (B.cell (by exact hl2)).trans a5, (B.cell (by exact hl2)).trans a6, (B.cell (by exact hl2)).trans a7, (B.cell (by exact hl2)).trans a8⟩)) (fun hS => ?_)
                                            clear hK K
                                            (try simp only [Act.put, List.setIfInBounds_toArray, List.set_cons_zero, List.set_cons_succ])
                                            refine wpAnyH_listed (l' := #[true, true, true, true, true, true, true, true, true, true, false, true, true, true, true, true, false, true, true, true, true, true, true, true, true, true, false, false, false, false]) (by kernel_rfl) ?_
                                            clear hS
                                            (try clear hwx)
                                            revert J15; revert J9; revert B
                                            generalize (wr.alloc (.cells #[Value.int .i64 j.dg, Value.int .i64 j.wy] 3)) = wn
                                            generalize wr.heap.size = b15
                                            revert b15; revert b9; revert wn
                                            exact keyq_2_9_15.out
                                          refine AllReadyH.cons (o := { dst := some 33, op := Op.buildSlice 22 3 #[(0, Operand.tmp 26), (1, Operand.tmp 29), (2, Operand.tmp 32)], type := 22, pos := "l8_desk.go:45", after := #[{ on := 19, ground := Ground.data }, { on := 22, ground := Ground.data }, { on := 25, ground := Ground.data }], guard := none }) rfl (fun K hK => ?_) ?_
                                          · skip
                                            go_simp
                                            replace J9 := Lib.hid (J9.out.bel (bel_alloc wr ((.cells #[Value.int .i64 j.rw, Value.int .i64 j.ac, Value.int .i64 j.wi] 3))))
                                            replace B : Below w2.heap.size w2 (wr.alloc (.cells #[Value.int .i64 j.rw, Value.int .i64 j.ac, Value.int .i64 j.wi] 3)) := bel_trans B (bel_alloc wr _)
                                            have J26 : Hid (Ints (wr.alloc (.cells #[Value.int .i64 j.rw, Value.int .i64 j.ac, Value.int .i64 j.wi] 3)) (Value.slice (some ⟨wr.heap.size, 0, none⟩) 3 3) [j.rw, j.ac, j.wi]) := Lib.hid (lit_ints wr [j.rw, j.ac, j.wi] (by simp) HWF.out.2.2)
                                            refine hK.out _ _ (by first | exact ⟨(B.cell (by exact hl2)).trans a0, (B.cell (by exact hl2)).trans a1, (B.cell (by exact hl2)).trans a2, (B.cell (by exact hl2)).trans a3, (B.cell (by exact hl2)).trans a4, (B.cell (by exact hl2)).trans a5, (B.cell (by exact hl2)).trans a6, (B.cell (by exact hl2)).trans a7, (B.cell (by exact hl2)).trans a8⟩ | (dsimp only; exact ⟨(B.cell (by exact hl2)).trans a0, (B.cell (by exact hl2)).trans a1, (B.cell (by exact hl2)).trans a2, (B.cell (by exact hl2)).trans a3, (B.cell (by exact hl2)).trans a4, (B.cell (by exact hl2)).trans a5, (B.cell (by exact hl2)).trans a6, (B.cell (by exact hl2)).trans a7, (B.cell (by exact hl2)).trans a8⟩)) (fun hS => ?_)
                                            clear hK K
                                            (try simp only [Act.put, List.setIfInBounds_toArray, List.set_cons_zero, List.set_cons_succ])
                                            refine wpAnyH_listed (l' := #[true, true, true, true, true, true, true, true, true, true, false, true, true, true, true, false, false, true, true, true, true, true, true, true, true, true, true, false, false, false]) (by kernel_rfl) ?_
                                            clear hS
                                            (try clear hwx)
                                            revert J26; revert J9; revert B
                                            generalize (wr.alloc (.cells #[Value.int .i64 j.rw, Value.int .i64 j.ac, Value.int .i64 j.wi] 3)) = wn
                                            generalize wr.heap.size = b26
                                            revert b26; revert b9; revert wn
                                            exact keyq_2_9_26.out
                                          exact AllReadyH.nil
                                      case hkq_2_15 =>
                                        intro wr b15 B J15
                                        refine wpAnyH_ready (rs := [9, 26]) (by kernel_rfl) (by simp) ?_
                                        refine AllReadyH.cons (o := { dst := some 16, op := Op.buildSlice 22 3 #[(0, Operand.tmp 11), (1, Operand.tmp 13), (2, Operand.tmp 15)], type := 22, pos := "l8_desk.go:45", after := #[{ on := 4, ground := Ground.data }, { on := 6, ground := Ground.data }, { on := 8, ground := Ground.data }], guard := none }) rfl (fun K hK => ?_) ?_
                                        · skip
                                          go_simp
                                          replace J15 := Lib.hid (J15.out.bel (bel_alloc wr ((.cells #[Value.int .i64 j.fr, Value.int .i64 j.ct, Value.int .i64 j.wd] 3))))
                                          replace B : Below w2.heap.size w2 (wr.alloc (.cells #[Value.int .i64 j.fr, Value.int .i64 j.ct, Value.int .i64 j.wd] 3)) := bel_trans B (bel_alloc wr _)
                                          have J9 : Hid (Ints (wr.alloc (.cells #[Value.int .i64 j.fr, Value.int .i64 j.ct, Value.int .i64 j.wd] 3)) (Value.slice (some ⟨wr.heap.size, 0, none⟩) 3 3) [j.fr, j.ct, j.wd]) := Lib.hid (lit_ints wr [j.fr, j.ct, j.wd] (by simp) HWF.out.1)
                                          refine hK.out _ _ (by first | exact ⟨(B.cell (by exact hl2)).trans a0, (B.cell (by exact hl2)).trans a1, (B.cell (by exact hl2)).trans a2, (B.cell (by exact hl2)).trans a3, (B.cell (by exact hl2)).trans a4, (B.cell (by exact hl2)).trans a5, (B.cell (by exact hl2)).trans a6, (B.cell (by exact hl2)).trans a7, (B.cell (by exact hl2)).trans a8⟩ | (dsimp only; exact ⟨(B.cell (by exact hl2)).trans a0, (B.cell (by exact hl2)).trans a1, (B.cell (by exact hl2)).trans a2, (B.cell (by exact hl2)).trans a3, (B.cell (by exact hl2)).trans a4, (B.cell (by exact hl2)).trans a5, (B.cell (by exact hl2)).trans a6, (B.cell (by exact hl2)).trans a7, (B.cell (by exact hl2)).trans a8⟩)) (fun hS => ?_)
                                          clear hK K
                                          (try simp only [Act.put, List.setIfInBounds_toArray, List.set_cons_zero, List.set_cons_succ])
                                          refine wpAnyH_listed (l' := #[true, true, true, true, true, true, true, true, true, true, false, true, true, true, true, true, false, true, true, true, true, true, true, true, true, true, false, false, false, false]) (by kernel_rfl) ?_
                                          clear hS
                                          (try clear hwx)
                                          revert J15; revert J9; revert B
                                          generalize (wr.alloc (.cells #[Value.int .i64 j.fr, Value.int .i64 j.ct, Value.int .i64 j.wd] 3)) = wn
                                          generalize wr.heap.size = b9
                                          revert b15; revert b9; revert wn
                                          exact keyq_2_9_15.out
                                        refine AllReadyH.cons (o := { dst := some 33, op := Op.buildSlice 22 3 #[(0, Operand.tmp 26), (1, Operand.tmp 29), (2, Operand.tmp 32)], type := 22, pos := "l8_desk.go:45", after := #[{ on := 19, ground := Ground.data }, { on := 22, ground := Ground.data }, { on := 25, ground := Ground.data }], guard := none }) rfl (fun K hK => ?_) ?_
                                        · skip
                                          go_simp
                                          replace J15 := Lib.hid (J15.out.bel (bel_alloc wr ((.cells #[Value.int .i64 j.rw, Value.int .i64 j.ac, Value.int .i64 j.wi] 3))))
                                          replace B : Below w2.heap.size w2 (wr.alloc (.cells #[Value.int .i64 j.rw, Value.int .i64 j.ac, Value.int .i64 j.wi] 3)) := bel_trans B (bel_alloc wr _)
                                          have J26 : Hid (Ints (wr.alloc (.cells #[Value.int .i64 j.rw, Value.int .i64 j.ac, Value.int .i64 j.wi] 3)) (Value.slice (some ⟨wr.heap.size, 0, none⟩) 3 3) [j.rw, j.ac, j.wi]) := Lib.hid (lit_ints wr [j.rw, j.ac, j.wi] (by simp) HWF.out.2.2)
                                          refine hK.out _ _ (by first | exact ⟨(B.cell (by exact hl2)).trans a0, (B.cell (by exact hl2)).trans a1, (B.cell (by exact hl2)).trans a2, (B.cell (by exact hl2)).trans a3, (B.cell (by exact hl2)).trans a4, (B.cell (by exact hl2)).trans a5, (B.cell (by exact hl2)).trans a6, (B.cell (by exact hl2)).trans a7, (B.cell (by exact hl2)).trans a8⟩ | (dsimp only; exact ⟨(B.cell (by exact hl2)).trans a0, (B.cell (by exact hl2)).trans a1, (B.cell (by exact hl2)).trans a2, (B.cell (by exact hl2)).trans a3, (B.cell (by exact hl2)).trans a4, (B.cell (by exact hl2)).trans a5, (B.cell (by exact hl2)).trans a6, (B.cell (by exact hl2)).trans a7, (B.cell (by exact hl2)).trans a8⟩)) (fun hS => ?_)
                                          clear hK K
                                          (try simp only [Act.put, List.setIfInBounds_toArray, List.set_cons_zero, List.set_cons_succ])
                                          refine wpAnyH_listed (l' := #[true, true, true, true, true, true, true, true, true, false, false, true, true, true, true, true, false, true, true, true, true, true, true, true, true, true, true, false, false, false]) (by kernel_rfl) ?_
                                          clear hS
                                          (try clear hwx)
                                          revert J26; revert J15; revert B
                                          generalize (wr.alloc (.cells #[Value.int .i64 j.rw, Value.int .i64 j.ac, Value.int .i64 j.wi] 3)) = wn
                                          generalize wr.heap.size = b26
                                          revert b26; revert b15; revert wn
                                          exact keyq_2_15_26.out
                                        exact AllReadyH.nil
                                    case hkq_2_26 =>
                                      intro wr b26 B J26
                                      refine wpAnyH_ready (rs := [9, 15]) (by kernel_rfl) (by simp) ?_
                                      refine AllReadyH.cons (o := { dst := some 16, op := Op.buildSlice 22 3 #[(0, Operand.tmp 11), (1, Operand.tmp 13), (2, Operand.tmp 15)], type := 22, pos := "l8_desk.go:45", after := #[{ on := 4, ground := Ground.data }, { on := 6, ground := Ground.data }, { on := 8, ground := Ground.data }], guard := none }) rfl (fun K hK => ?_) ?_
                                      · skip
                                        go_simp
                                        replace J26 := Lib.hid (J26.out.bel (bel_alloc wr ((.cells #[Value.int .i64 j.fr, Value.int .i64 j.ct, Value.int .i64 j.wd] 3))))
                                        replace B : Below w2.heap.size w2 (wr.alloc (.cells #[Value.int .i64 j.fr, Value.int .i64 j.ct, Value.int .i64 j.wd] 3)) := bel_trans B (bel_alloc wr _)
                                        have J9 : Hid (Ints (wr.alloc (.cells #[Value.int .i64 j.fr, Value.int .i64 j.ct, Value.int .i64 j.wd] 3)) (Value.slice (some ⟨wr.heap.size, 0, none⟩) 3 3) [j.fr, j.ct, j.wd]) := Lib.hid (lit_ints wr [j.fr, j.ct, j.wd] (by simp) HWF.out.1)
                                        refine hK.out _ _ (by first | exact ⟨(B.cell (by exact hl2)).trans a0, (B.cell (by exact hl2)).trans a1, (B.cell (by exact hl2)).trans a2, (B.cell (by exact hl2)).trans a3, (B.cell (by exact hl2)).trans a4, (B.cell (by exact hl2)).trans a5, (B.cell (by exact hl2)).trans a6, (B.cell (by exact hl2)).trans a7, (B.cell (by exact hl2)).trans a8⟩ | (dsimp only; exact ⟨(B.cell (by exact hl2)).trans a0, (B.cell (by exact hl2)).trans a1, (B.cell (by exact hl2)).trans a2, (B.cell (by exact hl2)).trans a3, (B.cell (by exact hl2)).trans a4, (B.cell (by exact hl2)).trans a5, (B.cell (by exact hl2)).trans a6, (B.cell (by exact hl2)).trans a7, (B.cell (by exact hl2)).trans a8⟩)) (fun hS => ?_)
                                        clear hK K
                                        (try simp only [Act.put, List.setIfInBounds_toArray, List.set_cons_zero, List.set_cons_succ])
                                        refine wpAnyH_listed (l' := #[true, true, true, true, true, true, true, true, true, true, false, true, true, true, true, false, false, true, true, true, true, true, true, true, true, true, true, false, false, false]) (by kernel_rfl) ?_
                                        clear hS
                                        (try clear hwx)
                                        revert J26; revert J9; revert B
                                        generalize (wr.alloc (.cells #[Value.int .i64 j.fr, Value.int .i64 j.ct, Value.int .i64 j.wd] 3)) = wn
                                        generalize wr.heap.size = b9
                                        revert b26; revert b9; revert wn
                                        exact keyq_2_9_26.out
                                      refine AllReadyH.cons (o := { dst := some 22, op := Op.buildSlice 22 2 #[(0, Operand.tmp 19), (1, Operand.tmp 21)], type := 22, pos := "l8_desk.go:45", after := #[{ on := 12, ground := Ground.data }, { on := 14, ground := Ground.data }], guard := none }) rfl (fun K hK => ?_) ?_
                                      · skip
                                        go_simp
                                        replace J26 := Lib.hid (J26.out.bel (bel_alloc wr ((.cells #[Value.int .i64 j.dg, Value.int .i64 j.wy] 3))))
                                        replace B : Below w2.heap.size w2 (wr.alloc (.cells #[Value.int .i64 j.dg, Value.int .i64 j.wy] 3)) := bel_trans B (bel_alloc wr _)
                                        have J15 : Hid (Ints (wr.alloc (.cells #[Value.int .i64 j.dg, Value.int .i64 j.wy] 3)) (Value.slice (some ⟨wr.heap.size, 0, none⟩) 2 2) [j.dg, j.wy]) := Lib.hid (lit_ints wr [j.dg, j.wy] (by simp) HWF.out.2.1)
                                        refine hK.out _ _ (by first | exact ⟨(B.cell (by exact hl2)).trans a0, (B.cell (by exact hl2)).trans a1, (B.cell (by exact hl2)).trans a2, (B.cell (by exact hl2)).trans a3, (B.cell (by exact hl2)).trans a4, (B.cell (by exact hl2)).trans a5, (B.cell (by exact hl2)).trans a6, (B.cell (by exact hl2)).trans a7, (B.cell (by exact hl2)).trans a8⟩ | (dsimp only; exact ⟨(B.cell (by exact hl2)).trans a0, (B.cell (by exact hl2)).trans a1, (B.cell (by exact hl2)).trans a2, (B.cell (by exact hl2)).trans a3, (B.cell (by exact hl2)).trans a4, (B.cell (by exact hl2)).trans a5, (B.cell (by exact hl2)).trans a6, (B.cell (by exact hl2)).trans a7, (B.cell (by exact hl2)).trans a8⟩)) (fun hS => ?_)
                                        clear hK K
                                        (try simp only [Act.put, List.setIfInBounds_toArray, List.set_cons_zero, List.set_cons_succ])
                                        refine wpAnyH_listed (l' := #[true, true, true, true, true, true, true, true, true, false, false, true, true, true, true, true, false, true, true, true, true, true, true, true, true, true, true, false, false, false]) (by kernel_rfl) ?_
                                        clear hS
                                        (try clear hwx)
                                        revert J26; revert J15; revert B
                                        generalize (wr.alloc (.cells #[Value.int .i64 j.dg, Value.int .i64 j.wy] 3)) = wn
                                        generalize wr.heap.size = b15
                                        revert b26; revert b15; revert wn
                                        exact keyq_2_15_26.out
                                      exact AllReadyH.nil
                                  case hkq_9_15 =>
                                    intro wr b9 b15 B J9 J15
                                    refine wpAnyH_ready (rs := [2, 26]) (by kernel_rfl) (by simp) ?_
                                    refine AllReadyH.cons (o := { dst := some 9, op := Op.call { callee := Callee.value (Operand.func 43), args := #[Operand.tmp 8], argTypes := #[22] }, type := 9, pos := "l8_desk.go:46", after := #[{ on := 1, ground := Ground.data }], guard := none }) rfl (fun K hK => ?_) ?_
                                    · skip
                                      (try go_simp)
                                      go_at_call 43
                                      refine (implFP_any _ j.poly _ (HP.out.bel B) (HT2.out.bel B)).mono ?_
                                      rintro e wn ⟨rfl, b⟩
                                      replace J9 := Lib.hid (J9.out.bel b)
                                      replace J15 := Lib.hid (J15.out.bel b)
                                      replace B := bel_trans B b
                                      clear b
                                      (try dsimp only)
                                      refine hK.out _ _ (by first | exact ⟨(B.cell (by exact hl2)).trans a0, (B.cell (by exact hl2)).trans a1, (B.cell (by exact hl2)).trans a2, (B.cell (by exact hl2)).trans a3, (B.cell (by exact hl2)).trans a4, (B.cell (by exact hl2)).trans a5, (B.cell (by exact hl2)).trans a6, (B.cell (by exact hl2)).trans a7, (B.cell (by exact hl2)).trans a8⟩ | (dsimp only; exact ⟨(B.cell (by exact hl2)).trans a0, (B.cell (by exact hl2)).trans a1, (B.cell (by exact hl2)).trans a2, (B.cell (by exact hl2)).trans a3, (B.cell (by exact hl2)).trans a4, (B.cell (by exact hl2)).trans a5, (B.cell (by exact hl2)).trans a6, (B.cell (by exact hl2)).trans a7, (B.cell (by exact hl2)).trans a8⟩)) (fun hS => ?_)
                                      clear hK K
                                      (try simp only [Act.put, List.setIfInBounds_toArray, List.set_cons_zero, List.set_cons_succ])
                                      refine wpAnyH_listed (l' := #[true, true, true, true, true, true, true, true, true, true, false, true, true, true, true, true, false, true, true, true, true, true, true, true, true, true, false, false, false, false]) (by kernel_rfl) ?_
                                      clear hS
                                      (try clear hwx)
                                      revert J15; revert J9; revert B
                                      revert b15; revert b9; revert wn
                                      exact keyq_2_9_15.out
                                    refine AllReadyH.cons (o := { dst := some 33, op := Op.buildSlice 22 3 #[(0, Operand.tmp 26), (1, Operand.tmp 29), (2, Operand.tmp 32)], type := 22, pos := "l8_desk.go:45", after := #[{ on := 19, ground := Ground.data }, { on := 22, ground := Ground.data }, { on := 25, ground := Ground.data }], guard := none }) rfl (fun K hK => ?_) ?_
                                    · skip
                                      go_simp
                                      replace J9 := Lib.hid (J9.out.bel (bel_alloc wr ((.cells #[Value.int .i64 j.rw, Value.int .i64 j.ac, Value.int .i64 j.wi] 3))))
                                      replace J15 := Lib.hid (J15.out.bel (bel_alloc wr ((.cells #[Value.int .i64 j.rw, Value.int .i64 j.ac, Value.int .i64 j.wi] 3))))
                                      replace B : Below w2.heap.size w2 (wr.alloc (.cells #[Value.int .i64 j.rw, Value.int .i64 j.ac, Value.int .i64 j.wi] 3)) := bel_trans B (bel_alloc wr _)
                                      have J26 : Hid (Ints (wr.alloc (.cells #[Value.int .i64 j.rw, Value.int .i64 j.ac, Value.int .i64 j.wi] 3)) (Value.slice (some ⟨wr.heap.size, 0, none⟩) 3 3) [j.rw, j.ac, j.wi]) := Lib.hid (lit_ints wr [j.rw, j.ac, j.wi] (by simp) HWF.out.2.2)
                                      refine hK.out _ _ (by first | exact ⟨(B.cell (by exact hl2)).trans a0, (B.cell (by exact hl2)).trans a1, (B.cell (by exact hl2)).trans a2, (B.cell (by exact hl2)).trans a3, (B.cell (by exact hl2)).trans a4, (B.cell (by exact hl2)).trans a5, (B.cell (by exact hl2)).trans a6, (B.cell (by exact hl2)).trans a7, (B.cell (by exact hl2)).trans a8⟩ | (dsimp only; exact ⟨(B.cell (by exact hl2)).trans a0, (B.cell (by exact hl2)).trans a1, (B.cell (by exact hl2)).trans a2, (B.cell (by exact hl2)).trans a3, (B.cell (by exact hl2)).trans a4, (B.cell (by exact hl2)).trans a5, (B.cell (by exact hl2)).trans a6, (B.cell (by exact hl2)).trans a7, (B.cell (by exact hl2)).trans a8⟩)) (fun hS => ?_)
                                      clear hK K
                                      (try simp only [Act.put, List.setIfInBounds_toArray, List.set_cons_zero, List.set_cons_succ])
                                      refine wpAnyH_listed (l' := #[true, true, false, true, true, true, true, true, true, true, false, true, true, true, true, true, false, true, true, true, true, true, true, true, true, true, true, false, false, false]) (by kernel_rfl) ?_
                                      clear hS
                                      (try clear hwx)
                                      revert J26; revert J15; revert J9; revert B
                                      generalize (wr.alloc (.cells #[Value.int .i64 j.rw, Value.int .i64 j.ac, Value.int .i64 j.wi] 3)) = wn
                                      generalize wr.heap.size = b26
                                      revert b26; revert b15; revert b9; revert wn
                                      exact keyq_9_15_26.out
                                    exact AllReadyH.nil
                                case hkq_9_26 =>
                                  intro wr b9 b26 B J9 J26
                                  refine wpAnyH_ready (rs := [2, 15]) (by kernel_rfl) (by simp) ?_
                                  refine AllReadyH.cons (o := { dst := some 9, op := Op.call { callee := Callee.value (Operand.func 43), args := #[Operand.tmp 8], argTypes := #[22] }, type := 9, pos := "l8_desk.go:46", after := #[{ on := 1, ground := Ground.data }], guard := none }) rfl (fun K hK => ?_) ?_
                                  · skip
                                    (try go_simp)
                                    go_at_call 43
                                    refine (implFP_any _ j.poly _ (HP.out.bel B) (HT2.out.bel B)).mono ?_
                                    rintro e wn ⟨rfl, b⟩
                                    replace J9 := Lib.hid (J9.out.bel b)
                                    replace J26 := Lib.hid (J26.out.bel b)
                                    replace B := bel_trans B b
                                    clear b
                                    (try dsimp only)
                                    refine hK.out _ _ (by first | exact ⟨(B.cell (by exact hl2)).trans a0, (B.cell (by exact hl2)).trans a1, (B.cell (by exact hl2)).trans a2, (B.cell (by exact hl2)).trans a3, (B.cell (by exact hl2)).trans a4, (B.cell (by exact hl2)).trans a5, (B.cell (by exact hl2)).trans a6, (B.cell (by exact hl2)).trans a7, (B.cell (by exact hl2)).trans a8⟩ | (dsimp only; exact ⟨(B.cell (by exact hl2)).trans a0, (B.cell (by exact hl2)).trans a1, (B.cell (by exact hl2)).trans a2, (B.cell (by exact hl2)).trans a3, (B.cell (by exact hl2)).trans a4, (B.cell (by exact hl2)).trans a5, (B.cell (by exact hl2)).trans a6, (B.cell (by exact hl2)).trans a7, (B.cell (by exact hl2)).trans a8⟩)) (fun hS => ?_)
                                    clear hK K
                                    (try simp only [Act.put, List.setIfInBounds_toArray, List.set_cons_zero, List.set_cons_succ])
                                    refine wpAnyH_listed (l' := #[true, true, true, true, true, true, true, true, true, true, false, true, true, true, true, false, false, true, true, true, true, true, true, true, true, true, true, false, false, false]) (by kernel_rfl) ?_
                                    clear hS
                                    (try clear hwx)
                                    revert J26; revert J9; revert B
                                    revert b26; revert b9; revert wn
                                    exact keyq_2_9_26.out
                                  refine AllReadyH.cons (o := { dst := some 22, op := Op.buildSlice 22 2 #[(0, Operand.tmp 19), (1, Operand.tmp 21)], type := 22, pos := "l8_desk.go:45", after := #[{ on := 12, ground := Ground.data }, { on := 14, ground := Ground.data }], guard := none }) rfl (fun K hK => ?_) ?_
                                  · skip
                                    go_simp
                                    replace J9 := Lib.hid (J9.out.bel (bel_alloc wr ((.cells #[Value.int .i64 j.dg, Value.int .i64 j.wy] 3))))
                                    replace J26 := Lib.hid (J26.out.bel (bel_alloc wr ((.cells #[Value.int .i64 j.dg, Value.int .i64 j.wy] 3))))
                                    replace B : Below w2.heap.size w2 (wr.alloc (.cells #[Value.int .i64 j.dg, Value.int .i64 j.wy] 3)) := bel_trans B (bel_alloc wr _)
                                    have J15 : Hid (Ints (wr.alloc (.cells #[Value.int .i64 j.dg, Value.int .i64 j.wy] 3)) (Value.slice (some ⟨wr.heap.size, 0, none⟩) 2 2) [j.dg, j.wy]) := Lib.hid (lit_ints wr [j.dg, j.wy] (by simp) HWF.out.2.1)
                                    refine hK.out _ _ (by first | exact ⟨(B.cell (by exact hl2)).trans a0, (B.cell (by exact hl2)).trans a1, (B.cell (by exact hl2)).trans a2, (B.cell (by exact hl2)).trans a3, (B.cell (by exact hl2)).trans a4, (B.cell (by exact hl2)).trans a5, (B.cell (by exact hl2)).trans a6, (B.cell (by exact hl2)).trans a7, (B.cell (by exact hl2)).trans a8⟩ | (dsimp only; exact ⟨(B.cell (by exact hl2)).trans a0, (B.cell (by exact hl2)).trans a1, (B.cell (by exact hl2)).trans a2, (B.cell (by exact hl2)).trans a3, (B.cell (by exact hl2)).trans a4, (B.cell (by exact hl2)).trans a5, (B.cell (by exact hl2)).trans a6, (B.cell (by exact hl2)).trans a7, (B.cell (by exact hl2)).trans a8⟩)) (fun hS => ?_)
                                    clear hK K
                                    (try simp only [Act.put, List.setIfInBounds_toArray, List.set_cons_zero, List.set_cons_succ])
                                    refine wpAnyH_listed (l' := #[true, true, false, true, true, true, true, true, true, true, false, true, true, true, true, true, false, true, true, true, true, true, true, true, true, true, true, false, false, false]) (by kernel_rfl) ?_
                                    clear hS
                                    (try clear hwx)
                                    revert J26; revert J15; revert J9; revert B
                                    generalize (wr.alloc (.cells #[Value.int .i64 j.dg, Value.int .i64 j.wy] 3)) = wn
                                    generalize wr.heap.size = b15
                                    revert b26; revert b15; revert b9; revert wn
                                    exact keyq_9_15_26.out
                                  exact AllReadyH.nil
                              case hkq_15_26 =>
                                intro wr b15 b26 B J15 J26
                                refine wpAnyH_ready (rs := [2, 9]) (by kernel_rfl) (by simp) ?_
                                refine AllReadyH.cons (o := { dst := some 9, op := Op.call { callee := Callee.value (Operand.func 43), args := #[Operand.tmp 8], argTypes := #[22] }, type := 9, pos := "l8_desk.go:46", after := #[{ on := 1, ground := Ground.data }], guard := none }) rfl (fun K hK => ?_) ?_
                                · skip
                                  (try go_simp)
                                  go_at_call 43
                                  refine (implFP_any _ j.poly _ (HP.out.bel B) (HT2.out.bel B)).mono ?_
                                  rintro e wn ⟨rfl, b⟩
                                  replace J15 := Lib.hid (J15.out.bel b)
                                  replace J26 := Lib.hid (J26.out.bel b)
                                  replace B := bel_trans B b
                                  clear b
                                  (try dsimp only)
                                  refine hK.out _ _ (by first | exact ⟨(B.cell (by exact hl2)).trans a0, (B.cell (by exact hl2)).trans a1, (B.cell (by exact hl2)).trans a2, (B.cell (by exact hl2)).trans a3, (B.cell (by exact hl2)).trans a4, (B.cell (by exact hl2)).trans a5, (B.cell (by exact hl2)).trans a6, (B.cell (by exact hl2)).trans a7, (B.cell (by exact hl2)).trans a8⟩ | (dsimp only; exact ⟨(B.cell (by exact hl2)).trans a0, (B.cell (by exact hl2)).trans a1, (B.cell (by exact hl2)).trans a2, (B.cell (by exact hl2)).trans a3, (B.cell (by exact hl2)).trans a4, (B.cell (by exact hl2)).trans a5, (B.cell (by exact hl2)).trans a6, (B.cell (by exact hl2)).trans a7, (B.cell (by exact hl2)).trans a8⟩)) (fun hS => ?_)
                                  clear hK K
                                  (try simp only [Act.put, List.setIfInBounds_toArray, List.set_cons_zero, List.set_cons_succ])
                                  refine wpAnyH_listed (l' := #[true, true, true, true, true, true, true, true, true, false, false, true, true, true, true, true, false, true, true, true, true, true, true, true, true, true, true, false, false, false]) (by kernel_rfl) ?_
                                  clear hS
                                  (try clear hwx)
                                  revert J26; revert J15; revert B
                                  revert b26; revert b15; revert wn
                                  exact keyq_2_15_26.out
                                refine AllReadyH.cons (o := { dst := some 16, op := Op.buildSlice 22 3 #[(0, Operand.tmp 11), (1, Operand.tmp 13), (2, Operand.tmp 15)], type := 22, pos := "l8_desk.go:45", after := #[{ on := 4, ground := Ground.data }, { on := 6, ground := Ground.data }, { on := 8, ground := Ground.data }], guard := none }) rfl (fun K hK => ?_) ?_
                                · skip
                                  go_simp
                                  replace J15 := Lib.hid (J15.out.bel (bel_alloc wr ((.cells #[Value.int .i64 j.fr, Value.int .i64 j.ct, Value.int .i64 j.wd] 3))))
                                  replace J26 := Lib.hid (J26.out.bel (bel_alloc wr ((.cells #[Value.int .i64 j.fr, Value.int .i64 j.ct, Value.int .i64 j.wd] 3))))
                                  replace B : Below w2.heap.size w2 (wr.alloc (.cells #[Value.int .i64 j.fr, Value.int .i64 j.ct, Value.int .i64 j.wd] 3)) := bel_trans B (bel_alloc wr _)
                                  have J9 : Hid (Ints (wr.alloc (.cells #[Value.int .i64 j.fr, Value.int .i64 j.ct, Value.int .i64 j.wd] 3)) (Value.slice (some ⟨wr.heap.size, 0, none⟩) 3 3) [j.fr, j.ct, j.wd]) := Lib.hid (lit_ints wr [j.fr, j.ct, j.wd] (by simp) HWF.out.1)
                                  refine hK.out _ _ (by first | exact ⟨(B.cell (by exact hl2)).trans a0, (B.cell (by exact hl2)).trans a1, (B.cell (by exact hl2)).trans a2, (B.cell (by exact hl2)).trans a3, (B.cell (by exact hl2)).trans a4, (B.cell (by exact hl2)).trans a5, (B.cell (by exact hl2)).trans a6, (B.cell (by exact hl2)).trans a7, (B.cell (by exact hl2)).trans a8⟩ | (dsimp only; exact ⟨(B.cell (by exact hl2)).trans a0, (B.cell (by exact hl2)).trans a1, (B.cell (by exact hl2)).trans a2, (B.cell (by exact hl2)).trans a3, (B.cell (by exact hl2)).trans a4, (B.cell (by exact hl2)).trans a5, (B.cell (by exact hl2)).trans a6, (B.cell (by exact hl2)).trans a7, (B.cell (by exact hl2)).trans a8⟩)) (fun hS => ?_)
                                  clear hK K
                                  (try simp only [Act.put, List.setIfInBounds_toArray, List.set_cons_zero, List.set_cons_succ])
                                  refine wpAnyH_listed (l' := #[true, true, false, true, true, true, true, true, true, true, false, true, true, true, true, true, false, true, true, true, true, true, true, true, true, true, true, false, false, false]) (by kernel_rfl) ?_
                                  clear hS
                                  (try clear hwx)
                                  revert J26; revert J15; revert J9; revert B
                                  generalize (wr.alloc (.cells #[Value.int .i64 j.fr, Value.int .i64 j.ct, Value.int .i64 j.wd] 3)) = wn
                                  generalize wr.heap.size = b9
                                  revert b26; revert b15; revert b9; revert wn
                                  exact keyq_9_15_26.out
                                exact AllReadyH.nil
                            case hkq_2_9_10 =>
                              intro wr b9 B
                              refine wpAnyH_ready (rs := [15, 26]) (by kernel_rfl) (by simp) ?_
                              refine AllReadyH.cons (o := { dst := some 22, op := Op.buildSlice 22 2 #[(0, Operand.tmp 19), (1, Operand.tmp 21)], type := 22, pos := "l8_desk.go:45", after := #[{ on := 12, ground := Ground.data }, { on := 14, ground := Ground.data }], guard := none }) rfl (fun K hK => ?_) ?_
                              · skip
                                go_simp
                                replace B : Below w2.heap.size w2 (wr.alloc (.cells #[Value.int .i64 j.dg, Value.int .i64 j.wy] 3)) := bel_trans B (bel_alloc wr _)
                                have J15 : Hid (Ints (wr.alloc (.cells #[Value.int .i64 j.dg, Value.int .i64 j.wy] 3)) (Value.slice (some ⟨wr.heap.size, 0, none⟩) 2 2) [j.dg, j.wy]) := Lib.hid (lit_ints wr [j.dg, j.wy] (by simp) HWF.out.2.1)
                                refine hK.out _ _ (by first | exact ⟨(B.cell (by exact hl2)).trans a0, (B.cell (by exact hl2)).trans a1, (B.cell (by exact hl2)).trans a2, (B.cell (by exact hl2)).trans a3, (B.cell (by exact hl2)).trans a4, (B.cell (by exact hl2)).trans a5, (B.cell (by exact hl2)).trans a6, (B.cell (by exact hl2)).trans a7, (B.cell (by exact hl2)).trans a8⟩ | (dsimp only; exact ⟨(B.cell (by exact hl2)).trans a0, (B.cell (by exact hl2)).trans a1, (B.cell (by exact hl2)).trans a2, (B.cell (by exact hl2)).trans a3, (B.cell (by exact hl2)).trans a4, (B.cell (by exact hl2)).trans a5, (B.cell (by exact hl2)).trans a6, (B.cell (by exact hl2)).trans a7, (B.cell (by exact hl2)).trans a8⟩)) (fun hS => ?_)
                                clear hK K
                                (try simp only [Act.put, List.setIfInBounds_toArray, List.set_cons_zero, List.set_cons_succ])
                                refine wpAnyH_listed (l' := #[true, true, true, true, true, true, true, true, true, true, true, true, true, true, true, true, false, true, true, true, true, true, true, true, true, true, false, false, false, false]) (by kernel_rfl) ?_
                                clear hS
                                (try clear hwx)
                                revert J15; revert B
                                generalize (wr.alloc (.cells #[Value.int .i64 j.dg, Value.int .i64 j.wy] 3)) = wn
                                generalize wr.heap.size = b15
                                revert b15; revert b9; revert wn
                                exact keyq_2_9_10_15.out
                              refine AllReadyH.cons (o := { dst := some 33, op := Op.buildSlice 22 3 #[(0, Operand.tmp 26), (1, Operand.tmp 29), (2, Operand.tmp 32)], type := 22, pos := "l8_desk.go:45", after := #[{ on := 19, ground := Ground.data }, { on := 22, ground := Ground.data }, { on := 25, ground := Ground.data }], guard := none }) rfl (fun K hK => ?_) ?_
                              · skip
                                go_simp
                                replace B : Below w2.heap.size w2 (wr.alloc (.cells #[Value.int .i64 j.rw, Value.int .i64 j.ac, Value.int .i64 j.wi] 3)) := bel_trans B (bel_alloc wr _)
                                have J26 : Hid (Ints (wr.alloc (.cells #[Value.int .i64 j.rw, Value.int .i64 j.ac, Value.int .i64 j.wi] 3)) (Value.slice (some ⟨wr.heap.size, 0, none⟩) 3 3) [j.rw, j.ac, j.wi]) := Lib.hid (lit_ints wr [j.rw, j.ac, j.wi] (by simp) HWF.out.2.2)
                                refine hK.out _ _ (by first | exact ⟨(B.cell (by exact hl2)).trans a0, (B.cell (by exact hl2)).trans a1, (B.cell (by exact hl2)).trans a2, (B.cell (by exact hl2)).trans a3, (B.cell (by exact hl2)).trans a4, (B.cell (by exact hl2)).trans a5, (B.cell (by exact hl2)).trans a6, (B.cell (by exact hl2)).trans a7, (B.cell (by exact hl2)).trans a8⟩ | (dsimp only; exact ⟨(B.cell (by exact hl2)).trans a0, (B.cell (by exact hl2)).trans a1, (B.cell (by exact hl2)).trans a2, (B.cell (by exact hl2)).trans a3, (B.cell (by exact hl2)).trans a4, (B.cell (by exact hl2)).trans a5, (B.cell (by exact hl2)).trans a6, (B.cell (by exact hl2)).trans a7, (B.cell (by exact hl2)).trans a8⟩)) (fun hS => ?_)
                                clear hK K
                                (try simp only [Act.put, List.setIfInBounds_toArray, List.set_cons_zero, List.set_cons_succ])
                                refine wpAnyH_listed (l' := #[true, true, true, true, true, true, true, true, true, true, true, true, true, true, true, false, false, true, true, true, true, true, true, true, true, true, true, false, false, false]) (by kernel_rfl) ?_
                                clear hS
                                (try clear hwx)
                                revert J26; revert B
                                generalize (wr.alloc (.cells #[Value.int .i64 j.rw, Value.int .i64 j.ac, Value.int .i64 j.wi] 3)) = wn
                                generalize wr.heap.size = b26
                                revert b26; revert b9; revert wn
                                exact keyq_2_9_10_26.out
                              exact AllReadyH.nil
                          case hkq_2_9_15 =>
                            intro wr b9 b15 B J9 J15
                            refine wpAnyH_ready (rs := [10, 26]) (by kernel_rfl) (by simp) ?_
                            refine AllReadyH.cons (o := { dst := some 17, op := Op.call { callee := Callee.value (Operand.func 44), args := #[Operand.tmp 16], argTypes := #[22] }, type := 9, pos := "l8_desk.go:47", after := #[{ on := 9, ground := Ground.data }, { on := 2, ground := Ground.chain }], guard := none }) rfl (fun K hK => ?_) ?_
                            · skip
                              (try go_simp)
                              go_at_call 44
                              refine (show Calls _ _ _ _ (fun e w' => e = .returned (.string (gr1 j)) ∧ Below wr.heap.size wr w') from joinNumbers_any _ [j.fr, j.ct, j.wd] _ J9.out (by simp) (HT2.out.bel B)).mono ?_
                              rintro e wn ⟨rfl, b⟩
                              clear J9
                              replace J15 := Lib.hid (J15.out.bel b)
                              replace B := bel_trans B b
                              clear b
                              (try dsimp only)
                              refine hK.out _ _ (by first | exact ⟨(B.cell (by exact hl2)).trans a0, (B.cell (by exact hl2)).trans a1, (B.cell (by exact hl2)).trans a2, (B.cell (by exact hl2)).trans a3, (B.cell (by exact hl2)).trans a4, (B.cell (by exact hl2)).trans a5, (B.cell (by exact hl2)).trans a6, (B.cell (by exact hl2)).trans a7, (B.cell (by exact hl2)).trans a8⟩ | (dsimp only; exact ⟨(B.cell (by exact hl2)).trans a0, (B.cell (by exact hl2)).trans a1, (B.cell (by exact hl2)).trans a2, (B.cell (by exact hl2)).trans a3, (B.cell (by exact hl2)).trans a4, (B.cell (by exact hl2)).trans a5, (B.cell (by exact hl2)).trans a6, (B.cell (by exact hl2)).trans a7, (B.cell (by exact hl2)).trans a8⟩)) (fun hS => ?_)
                              clear hK K
                              (try simp only [Act.put, List.setIfInBounds_toArray, List.set_cons_zero, List.set_cons_succ])
                              refine wpAnyH_listed (l' := #[true, true, true, true, true, true, true, true, true, true, true, true, true, true, true, true, false, true, true, true, true, true, true, true, true, true, false, false, false, false]) (by kernel_rfl) ?_
                              clear hS
                              (try clear hwx)
                              revert J15; revert B
                              revert b15; revert b9; revert wn
                              exact keyq_2_9_10_15.out
                            refine AllReadyH.cons (o := { dst := some 33, op := Op.buildSlice 22 3 #[(0, Operand.tmp 26), (1, Operand.tmp 29), (2, Operand.tmp 32)], type := 22, pos := "l8_desk.go:45", after := #[{ on := 19, ground := Ground.data }, { on := 22, ground := Ground.data }, { on := 25, ground := Ground.data }], guard := none }) rfl (fun K hK => ?_) ?_
                            · skip
                              go_simp
                              replace J9 := Lib.hid (J9.out.bel (bel_alloc wr ((.cells #[Value.int .i64 j.rw, Value.int .i64 j.ac, Value.int .i64 j.wi] 3))))
                              replace J15 := Lib.hid (J15.out.bel (bel_alloc wr ((.cells #[Value.int .i64 j.rw, Value.int .i64 j.ac, Value.int .i64 j.wi] 3))))
                              replace B : Below w2.heap.size w2 (wr.alloc (.cells #[Value.int .i64 j.rw, Value.int .i64 j.ac, Value.int .i64 j.wi] 3)) := bel_trans B (bel_alloc wr _)
                              have J26 : Hid (Ints (wr.alloc (.cells #[Value.int .i64 j.rw, Value.int .i64 j.ac, Value.int .i64 j.wi] 3)) (Value.slice (some ⟨wr.heap.size, 0, none⟩) 3 3) [j.rw, j.ac, j.wi]) := Lib.hid (lit_ints wr [j.rw, j.ac, j.wi] (by simp) HWF.out.2.2)
                              refine hK.out _ _ (by first | exact ⟨(B.cell (by exact hl2)).trans a0, (B.cell (by exact hl2)).trans a1, (B.cell (by exact hl2)).trans a2, (B.cell (by exact hl2)).trans a3, (B.cell (by exact hl2)).trans a4, (B.cell (by exact hl2)).trans a5, (B.cell (by exact hl2)).trans a6, (B.cell (by exact hl2)).trans a7, (B.cell (by exact hl2)).trans a8⟩ | (dsimp only; exact ⟨(B.cell (by exact hl2)).trans a0, (B.cell (by exact hl2)).trans a1, (B.cell (by exact hl2)).trans a2, (B.cell (by exact hl2)).trans a3, (B.cell (by exact hl2)).trans a4, (B.cell (by exact hl2)).trans a5, (B.cell (by exact hl2)).trans a6, (B.cell (by exact hl2)).trans a7, (B.cell (by exact hl2)).trans a8⟩)) (fun hS => ?_)
                              clear hK K
                              (try simp only [Act.put, List.setIfInBounds_toArray, List.set_cons_zero, List.set_cons_succ])
                              refine wpAnyH_listed (l' := #[true, true, true, true, true, true, true, true, true, true, false, true, true, true, true, true, false, true, true, true, true, true, true, true, true, true, true, false, false, false]) (by kernel_rfl) ?_
                              clear hS
                              (try clear hwx)
                              revert J26; revert J15; revert J9; revert B
                              generalize (wr.alloc (.cells #[Value.int .i64 j.rw, Value.int .i64 j.ac, Value.int .i64 j.wi] 3)) = wn
                              generalize wr.heap.size = b26
                              revert b26; revert b15; revert b9; revert wn
                              exact keyq_2_9_15_26.out
                            exact AllReadyH.nil
                        case hkq_2_9_26 =>
                          intro wr b9 b26 B J9 J26
                          refine wpAnyH_ready (rs := [10, 15]) (by kernel_rfl) (by simp) ?_
                          refine AllReadyH.cons (o := { dst := some 17, op := Op.call { callee := Callee.value (Operand.func 44), args := #[Operand.tmp 16], argTypes := #[22] }, type := 9, pos := "l8_desk.go:47", after := #[{ on := 9, ground := Ground.data }, { on := 2, ground := Ground.chain }], guard := none }) rfl (fun K hK => ?_) ?_
                          · skip
                            (try go_simp)
                            go_at_call 44
                            refine (show Calls _ _ _ _ (fun e w' => e = .returned (.string (gr1 j)) ∧ Below wr.heap.size wr w') from joinNumbers_any _ [j.fr, j.ct, j.wd] _ J9.out (by simp) (HT2.out.bel B)).mono ?_
                            rintro e wn ⟨rfl, b⟩
                            clear J9
                            replace J26 := Lib.hid (J26.out.bel b)
                            replace B := bel_trans B b
                            clear b
                            (try dsimp only)
                            refine hK.out _ _ (by first | exact ⟨(B.cell (by exact hl2)).trans a0, (B.cell (by exact hl2)).trans a1, (B.cell (by exact hl2)).trans a2, (B.cell (by exact hl2)).trans a3, (B.cell (by exact hl2)).trans a4, (B.cell (by exact hl2)).trans a5, (B.cell (by exact hl2)).trans a6, (B.cell (by exact hl2)).trans a7, (B.cell (by exact hl2)).trans a8⟩ | (dsimp only; exact ⟨(B.cell (by exact hl2)).trans a0, (B.cell (by exact hl2)).trans a1, (B.cell (by exact hl2)).trans a2, (B.cell (by exact hl2)).trans a3, (B.cell (by exact hl2)).trans a4, (B.cell (by exact hl2)).trans a5, (B.cell (by exact hl2)).trans a6, (B.cell (by exact hl2)).trans a7, (B.cell (by exact hl2)).trans a8⟩)) (fun hS => ?_)
                            clear hK K
                            (try simp only [Act.put, List.setIfInBounds_toArray, List.set_cons_zero, List.set_cons_succ])
                            refine wpAnyH_listed (l' := #[true, true, true, true, true, true, true, true, true, true, true, true, true, true, true, false, false, true, true, true, true, true, true, true, true, true, true, false, false, false]) (by kernel_rfl) ?_
                            clear hS
                            (try clear hwx)
                            revert J26; revert B
                            revert b26; revert b9; revert wn
                            exact keyq_2_9_10_26.out
                          refine AllReadyH.cons (o := { dst := some 22, op := Op.buildSlice 22 2 #[(0, Operand.tmp 19), (1, Operand.tmp 21)], type := 22, pos := "l8_desk.go:45", after := #[{ on := 12, ground := Ground.data }, { on := 14, ground := Ground.data }], guard := none }) rfl (fun K hK => ?_) ?_
                          · skip
                            go_simp
                            replace J9 := Lib.hid (J9.out.bel (bel_alloc wr ((.cells #[Value.int .i64 j.dg, Value.int .i64 j.wy] 3))))
                            replace J26 := Lib.hid (J26.out.bel (bel_alloc wr ((.cells #[Value.int .i64 j.dg, Value.int .i64 j.wy] 3))))
                            replace B : Below w2.heap.size w2 (wr.alloc (.cells #[Value.int .i64 j.dg, Value.int .i64 j.wy] 3)) := bel_trans B (bel_alloc wr _)
                            have J15 : Hid (Ints (wr.alloc (.cells #[Value.int .i64 j.dg, Value.int .i64 j.wy] 3)) (Value.slice (some ⟨wr.heap.size, 0, none⟩) 2 2) [j.dg, j.wy]) := Lib.hid (lit_ints wr [j.dg, j.wy] (by simp) HWF.out.2.1)
                            refine hK.out _ _ (by first | exact ⟨(B.cell (by exact hl2)).trans a0, (B.cell (by exact hl2)).trans a1, (B.cell (by exact hl2)).trans a2, (B.cell (by exact hl2)).trans a3, (B.cell (by exact hl2)).trans a4, (B.cell (by exact hl2)).trans a5, (B.cell (by exact hl2)).trans a6, (B.cell (by exact hl2)).trans a7, (B.cell (by exact hl2)).trans a8⟩ | (dsimp only; exact ⟨(B.cell (by exact hl2)).trans a0, (B.cell (by exact hl2)).trans a1, (B.cell (by exact hl2)).trans a2, (B.cell (by exact hl2)).trans a3, (B.cell (by exact hl2)).trans a4, (B.cell (by exact hl2)).trans a5, (B.cell (by exact hl2)).trans a6, (B.cell (by exact hl2)).trans a7, (B.cell (by exact hl2)).trans a8⟩)) (fun hS => ?_)
                            clear hK K
                            (try simp only [Act.put, List.setIfInBounds_toArray, List.set_cons_zero, List.set_cons_succ])
                            refine wpAnyH_listed (l' := #[true, true, true, true, true, true, true, true, true, true, false, true, true, true, true, true, false, true, true, true, true, true, true, true, true, true, true, false, false, false]) (by kernel_rfl) ?_
                            clear hS
                            (try clear hwx)
                            revert J26; revert J15; revert J9; revert B
                            generalize (wr.alloc (.cells #[Value.int .i64 j.dg, Value.int .i64 j.wy] 3)) = wn
                            generalize wr.heap.size = b15
                            revert b26; revert b15; revert b9; revert wn
                            exact keyq_2_9_15_26.out
                          exact AllReadyH.nil
                      case hkq_2_15_26 =>
                        intro wr b15 b26 B J15 J26
                        refine wpAnyH_ready (rs := [9]) (by kernel_rfl) (by simp) ?_
                        refine AllReadyH.cons (o := { dst := some 16, op := Op.buildSlice 22 3 #[(0, Operand.tmp 11), (1, Operand.tmp 13), (2, Operand.tmp 15)], type := 22, pos := "l8_desk.go:45", after := #[{ on := 4, ground := Ground.data }, { on := 6, ground := Ground.data }, { on := 8, ground := Ground.data }], guard := none }) rfl (fun K hK => ?_) ?_
                        · skip
                          go_simp
                          replace J15 := Lib.hid (J15.out.bel (bel_alloc wr ((.cells #[Value.int .i64 j.fr, Value.int .i64 j.ct, Value.int .i64 j.wd] 3))))
                          replace J26 := Lib.hid (J26.out.bel (bel_alloc wr ((.cells #[Value.int .i64 j.fr, Value.int .i64 j.ct, Value.int .i64 j.wd] 3))))
                          replace B : Below w2.heap.size w2 (wr.alloc (.cells #[Value.int .i64 j.fr, Value.int .i64 j.ct, Value.int .i64 j.wd] 3)) := bel_trans B (bel_alloc wr _)
                          have J9 : Hid (Ints (wr.alloc (.cells #[Value.int .i64 j.fr, Value.int .i64 j.ct, Value.int .i64 j.wd] 3)) (Value.slice (some ⟨wr.heap.size, 0, none⟩) 3 3) [j.fr, j.ct, j.wd]) := Lib.hid (lit_ints wr [j.fr, j.ct, j.wd] (by simp) HWF.out.1)
                          refine hK.out _ _ (by first | exact ⟨(B.cell (by exact hl2)).trans a0, (B.cell (by exact hl2)).trans a1, (B.cell (by exact hl2)).trans a2, (B.cell (by exact hl2)).trans a3, (B.cell (by exact hl2)).trans a4, (B.cell (by exact hl2)).trans a5, (B.cell (by exact hl2)).trans a6, (B.cell (by exact hl2)).trans a7, (B.cell (by exact hl2)).trans a8⟩ | (dsimp only; exact ⟨(B.cell (by exact hl2)).trans a0, (B.cell (by exact hl2)).trans a1, (B.cell (by exact hl2)).trans a2, (B.cell (by exact hl2)).trans a3, (B.cell (by exact hl2)).trans a4, (B.cell (by exact hl2)).trans a5, (B.cell (by exact hl2)).trans a6, (B.cell (by exact hl2)).trans a7, (B.cell (by exact hl2)).trans a8⟩)) (fun hS => ?_)
                          clear hK K
                          (try simp only [Act.put, List.setIfInBounds_toArray, List.set_cons_zero, List.set_cons_succ])
                          refine wpAnyH_listed (l' := #[true, true, true, true, true, true, true, true, true, true, false, true, true, true, true, true, false, true, true, true, true, true, true, true, true, true, true, false, false, false]) (by kernel_rfl) ?_
                          clear hS
                          (try clear hwx)
                          revert J26; revert J15; revert J9; revert B
                          generalize (wr.alloc (.cells #[Value.int .i64 j.fr, Value.int .i64 j.ct, Value.int .i64 j.wd] 3)) = wn
                          generalize wr.heap.size = b9
                          revert b26; revert b15; revert b9; revert wn
                          exact keyq_2_9_15_26.out
                        exact AllReadyH.nil
                    case hkq_9_15_26 =>
                      intro wr b9 b15 b26 B J9 J15 J26
                      refine wpAnyH_ready (rs := [2]) (by kernel_rfl) (by simp) ?_
                      refine AllReadyH.cons (o := { dst := some 9, op := Op.call { callee := Callee.value (Operand.func 43), args := #[Operand.tmp 8], argTypes := #[22] }, type := 9, pos := "l8_desk.go:46", after := #[{ on := 1, ground := Ground.data }], guard := none }) rfl (fun K hK => ?_) ?_
                      · skip
                        (try go_simp)
                        go_at_call 43
                        refine (implFP_any _ j.poly _ (HP.out.bel B) (HT2.out.bel B)).mono ?_
                        rintro e wn ⟨rfl, b⟩
                        replace J9 := Lib.hid (J9.out.bel b)
                        replace J15 := Lib.hid (J15.out.bel b)
                        replace J26 := Lib.hid (J26.out.bel b)
                        replace B := bel_trans B b
                        clear b
                        (try dsimp only)
                        refine hK.out _ _ (by first | exact ⟨(B.cell (by exact hl2)).trans a0, (B.cell (by exact hl2)).trans a1, (B.cell (by exact hl2)).trans a2, (B.cell (by exact hl2)).trans a3, (B.cell (by exact hl2)).trans a4, (B.cell (by exact hl2)).trans a5, (B.cell (by exact hl2)).trans a6, (B.cell (by exact hl2)).trans a7, (B.cell (by exact hl2)).trans a8⟩ | (dsimp only; exact ⟨(B.cell (by exact hl2)).trans a0, (B.cell (by exact hl2)).trans a1, (B.cell (by exact hl2)).trans a2, (B.cell (by exact hl2)).trans a3, (B.cell (by exact hl2)).trans a4, (B.cell (by exact hl2)).trans a5, (B.cell (by exact hl2)).trans a6, (B.cell (by exact hl2)).trans a7, (B.cell (by exact hl2)).trans a8⟩)) (fun hS => ?_)
                        clear hK K
                        (try simp only [Act.put, List.setIfInBounds_toArray, List.set_cons_zero, List.set_cons_succ])
                        refine wpAnyH_listed (l' := #[true, true, true, true, true, true, true, true, true, true, false, true, true, true, true, true, false, true, true, true, true, true, true, true, true, true, true, false, false, false]) (by kernel_rfl) ?_
                        clear hS
                        (try clear hwx)
                        revert J26; revert J15; revert J9; revert B
                        revert b26; revert b15; revert b9; revert wn
                        exact keyq_2_9_15_26.out
                      exact AllReadyH.nil
                  case hkq_2_9_10_15 =>
                    intro wr b9 b15 B J15
                    refine wpAnyH_ready (rs := [16, 26]) (by kernel_rfl) (by simp) ?_
                    refine AllReadyH.cons (o := { dst := some 23, op := Op.call { callee := Callee.value (Operand.func 44), args := #[Operand.tmp 22], argTypes := #[22] }, type := 9, pos := "l8_desk.go:48", after := #[{ on := 15, ground := Ground.data }, { on := 10, ground := Ground.chain }], guard := none }) rfl (fun K hK => ?_) ?_
                    · skip
                      (try go_simp)
                      go_at_call 44
                      refine (show Calls _ _ _ _ (fun e w' => e = .returned (.string (gr2 j)) ∧ Below wr.heap.size wr w') from joinNumbers_any _ [j.dg, j.wy] _ J15.out (by simp) (HT2.out.bel B)).mono ?_
                      rintro e wn ⟨rfl, b⟩
                      clear J15
                      replace B := bel_trans B b
                      clear b
                      (try dsimp only)
                      refine hK.out _ _ (by first | exact ⟨(B.cell (by exact hl2)).trans a0, (B.cell (by exact hl2)).trans a1, (B.cell (by exact hl2)).trans a2, (B.cell (by exact hl2)).trans a3, (B.cell (by exact hl2)).trans a4, (B.cell (by exact hl2)).trans a5, (B.cell (by exact hl2)).trans a6, (B.cell (by exact hl2)).trans a7, (B.cell (by exact hl2)).trans a8⟩ | (dsimp only; exact ⟨(B.cell (by exact hl2)).trans a0, (B.cell (by exact hl2)).trans a1, (B.cell (by exact hl2)).trans a2, (B.cell (by exact hl2)).trans a3, (B.cell (by exact hl2)).trans a4, (B.cell (by exact hl2)).trans a5, (B.cell (by exact hl2)).trans a6, (B.cell (by exact hl2)).trans a7, (B.cell (by exact hl2)).trans a8⟩)) (fun hS => ?_)
                      clear hK K
                      (try simp only [Act.put, List.setIfInBounds_toArray, List.set_cons_zero, List.set_cons_succ])
                      refine wpAnyH_listed (l' := #[true, true, true, true, true, true, true, true, true, true, true, true, true, true, true, true, true, true, true, true, true, true, true, true, true, true, false, false, false, false]) (by kernel_rfl) ?_
                      clear hS
                      (try clear hwx)
                      revert B
                      revert b15; revert b9; revert wn
                      exact keyq_2_9_10_15_16.out
                    refine AllReadyH.cons (o := { dst := some 33, op := Op.buildSlice 22 3 #[(0, Operand.tmp 26), (1, Operand.tmp 29), (2, Operand.tmp 32)], type := 22, pos := "l8_desk.go:45", after := #[{ on := 19, ground := Ground.data }, { on := 22, ground := Ground.data }, { on := 25, ground := Ground.data }], guard := none }) rfl (fun K hK => ?_) ?_
                    · skip
                      go_simp
                      replace J15 := Lib.hid (J15.out.bel (bel_alloc wr ((.cells #[Value.int .i64 j.rw, Value.int .i64 j.ac, Value.int .i64 j.wi] 3))))
                      replace B : Below w2.heap.size w2 (wr.alloc (.cells #[Value.int .i64 j.rw, Value.int .i64 j.ac, Value.int .i64 j.wi] 3)) := bel_trans B (bel_alloc wr _)
                      have J26 : Hid (Ints (wr.alloc (.cells #[Value.int .i64 j.rw, Value.int .i64 j.ac, Value.int .i64 j.wi] 3)) (Value.slice (some ⟨wr.heap.size, 0, none⟩) 3 3) [j.rw, j.ac, j.wi]) := Lib.hid (lit_ints wr [j.rw, j.ac, j.wi] (by simp) HWF.out.2.2)
                      refine hK.out _ _ (by first | exact ⟨(B.cell (by exact hl2)).trans a0, (B.cell (by exact hl2)).trans a1, (B.cell (by exact hl2)).trans a2, (B.cell (by exact hl2)).trans a3, (B.cell (by exact hl2)).trans a4, (B.cell (by exact hl2)).trans a5, (B.cell (by exact hl2)).trans a6, (B.cell (by exact hl2)).trans a7, (B.cell (by exact hl2)).trans a8⟩ | (dsimp only; exact ⟨(B.cell (by exact hl2)).trans a0, (B.cell (by exact hl2)).trans a1, (B.cell (by exact hl2)).trans a2, (B.cell (by exact hl2)).trans a3, (B.cell (by exact hl2)).trans a4, (B.cell (by exact hl2)).trans a5, (B.cell (by exact hl2)).trans a6, (B.cell (by exact hl2)).trans a7, (B.cell (by exact hl2)).trans a8⟩)) (fun hS => ?_)
                      clear hK K
                      (try simp only [Act.put, List.setIfInBounds_toArray, List.set_cons_zero, List.set_cons_succ])
                      refine wpAnyH_listed (l' := #[true, true, true, true, true, true, true, true, true, true, true, true, true, true, true, true, false, true, true, true, true, true, true, true, true, true, true, false, false, false]) (by kernel_rfl) ?_
                      clear hS
                      (try clear hwx)
                      revert J26; revert J15; revert B
                      generalize (wr.alloc (.cells #[Value.int .i64 j.rw, Value.int .i64 j.ac, Value.int .i64 j.wi] 3)) = wn
                      generalize wr.heap.size = b26
                      revert b26; revert b15; revert b9; revert wn
                      exact keyq_2_9_10_15_26.out
                    exact AllReadyH.nil
                case hkq_2_9_10_26 =>
                  intro wr b9 b26 B J26
                  refine wpAnyH_ready (rs := [15]) (by kernel_rfl) (by simp) ?_
                  refine AllReadyH.cons (o := { dst := some 22, op := Op.buildSlice 22 2 #[(0, Operand.tmp 19), (1, Operand.tmp 21)], type := 22, pos := "l8_desk.go:45", after := #[{ on := 12, ground := Ground.data }, { on := 14, ground := Ground.data }], guard := none }) rfl (fun K hK => ?_) ?_
                  · skip
                    go_simp
                    replace J26 := Lib.hid (J26.out.bel (bel_alloc wr ((.cells #[Value.int .i64 j.dg, Value.int .i64 j.wy] 3))))
                    replace B : Below w2.heap.size w2 (wr.alloc (.cells #[Value.int .i64 j.dg, Value.int .i64 j.wy] 3)) := bel_trans B (bel_alloc wr _)
                    have J15 : Hid (Ints (wr.alloc (.cells #[Value.int .i64 j.dg, Value.int .i64 j.wy] 3)) (Value.slice (some ⟨wr.heap.size, 0, none⟩) 2 2) [j.dg, j.wy]) := Lib.hid (lit_ints wr [j.dg, j.wy] (by simp) HWF.out.2.1)
                    refine hK.out _ _ (by first | exact ⟨(B.cell (by exact hl2)).trans a0, (B.cell (by exact hl2)).trans a1, (B.cell (by exact hl2)).trans a2, (B.cell (by exact hl2)).trans a3, (B.cell (by exact hl2)).trans a4, (B.cell (by exact hl2)).trans a5, (B.cell (by exact hl2)).trans a6, (B.cell (by exact hl2)).trans a7, (B.cell (by exact hl2)).trans a8⟩ | (dsimp only; exact ⟨(B.cell (by exact hl2)).trans a0, (B.cell (by exact hl2)).trans a1, (B.cell (by exact hl2)).trans a2, (B.cell (by exact hl2)).trans a3, (B.cell (by exact hl2)).trans a4, (B.cell (by exact hl2)).trans a5, (B.cell (by exact hl2)).trans a6, (B.cell (by exact hl2)).trans a7, (B.cell (by exact hl2)).trans a8⟩)) (fun hS => ?_)
                    clear hK K
                    (try simp only [Act.put, List.setIfInBounds_toArray, List.set_cons_zero, List.set_cons_succ])
                    refine wpAnyH_listed (l' := #[true, true, true, true, true, true, true, true, true, true, true, true, true, true, true, true, false, true, true, true, true, true, true, true, true, true, true, false, false, false]) (by kernel_rfl) ?_
                    clear hS
                    (try clear hwx)
                    revert J26; revert J15; revert B
                    generalize (wr.alloc (.cells #[Value.int .i64 j.dg, Value.int .i64 j.wy] 3)) = wn
                    generalize wr.heap.size = b15
                    revert b26; revert b15; revert b9; revert wn
                    exact keyq_2_9_10_15_26.out
                  exact AllReadyH.nil
              case hkq_2_9_15_26 =>
                intro wr b9 b15 b26 B J9 J15 J26
                refine wpAnyH_ready (rs := [10]) (by kernel_rfl) (by simp) ?_
                refine AllReadyH.cons (o := { dst := some 17, op := Op.call { callee := Callee.value (Operand.func 44), args := #[Operand.tmp 16], argTypes := #[22] }, type := 9, pos := "l8_desk.go:47", after := #[{ on := 9, ground := Ground.data }, { on := 2, ground := Ground.chain }], guard := none }) rfl (fun K hK => ?_) ?_
                · skip
                  (try go_simp)
                  go_at_call 44
                  refine (show Calls _ _ _ _ (fun e w' => e = .returned (.string (gr1 j)) ∧ Below wr.heap.size wr w') from joinNumbers_any _ [j.fr, j.ct, j.wd] _ J9.out (by simp) (HT2.out.bel B)).mono ?_
                  rintro e wn ⟨rfl, b⟩
                  clear J9
                  replace J15 := Lib.hid (J15.out.bel b)
                  replace J26 := Lib.hid (J26.out.bel b)
                  replace B := bel_trans B b
                  clear b
                  (try dsimp only)
                  refine hK.out _ _ (by first | exact ⟨(B.cell (by exact hl2)).trans a0, (B.cell (by exact hl2)).trans a1, (B.cell (by exact hl2)).trans a2, (B.cell (by exact hl2)).trans a3, (B.cell (by exact hl2)).trans a4, (B.cell (by exact hl2)).trans a5, (B.cell (by exact hl2)).trans a6, (B.cell (by exact hl2)).trans a7, (B.cell (by exact hl2)).trans a8⟩ | (dsimp only; exact ⟨(B.cell (by exact hl2)).trans a0, (B.cell (by exact hl2)).trans a1, (B.cell (by exact hl2)).trans a2, (B.cell (by exact hl2)).trans a3, (B.cell (by exact hl2)).trans a4, (B.cell (by exact hl2)).trans a5, (B.cell (by exact hl2)).trans a6, (B.cell (by exact hl2)).trans a7, (B.cell (by exact hl2)).trans a8⟩)) (fun hS => ?_)
                  clear hK K
                  (try simp only [Act.put, List.setIfInBounds_toArray, List.set_cons_zero, List.set_cons_succ])
                  refine wpAnyH_listed (l' := #[true, true, true, true, true, true, true, true, true, true, true, true, true, true, true, true, false, true, true, true, true, true, true, true, true, true, true, false, false, false]) (by kernel_rfl) ?_
                  clear hS
                  (try clear hwx)
                  revert J26; revert J15; revert B
                  revert b26; revert b15; revert b9; revert wn
                  exact keyq_2_9_10_15_26.out
                exact AllReadyH.nil
            case hkq_2_9_10_15_16 =>
              intro wr b9 b15 B
              refine wpAnyH_ready (rs := [26]) (by kernel_rfl) (by simp) ?_
              refine AllReadyH.cons (o := { dst := some 33, op := Op.buildSlice 22 3 #[(0, Operand.tmp 26), (1, Operand.tmp 29), (2, Operand.tmp 32)], type := 22, pos := "l8_desk.go:45", after := #[{ on := 19, ground := Ground.data }, { on := 22, ground := Ground.data }, { on := 25, ground := Ground.data }], guard := none }) rfl (fun K hK => ?_) ?_
              · skip
                go_simp
                replace B : Below w2.heap.size w2 (wr.alloc (.cells #[Value.int .i64 j.rw, Value.int .i64 j.ac, Value.int .i64 j.wi] 3)) := bel_trans B (bel_alloc wr _)
                have J26 : Hid (Ints (wr.alloc (.cells #[Value.int .i64 j.rw, Value.int .i64 j.ac, Value.int .i64 j.wi] 3)) (Value.slice (some ⟨wr.heap.size, 0, none⟩) 3 3) [j.rw, j.ac, j.wi]) := Lib.hid (lit_ints wr [j.rw, j.ac, j.wi] (by simp) HWF.out.2.2)
                refine hK.out _ _ (by first | exact ⟨(B.cell (by exact hl2)).trans a0, (B.cell (by exact hl2)).trans a1, (B.cell (by exact hl2)).trans a2, (B.cell (by exact hl2)).trans a3, (B.cell (by exact hl2)).trans a4, (B.cell (by exact hl2)).trans a5, (B.cell (by exact hl2)).trans a6, (B.cell (by exact hl2)).trans a7, (B.cell (by exact hl2)).trans a8⟩ | (dsimp only; exact ⟨(B.cell (by exact hl2)).trans a0, (B.cell (by exact hl2)).trans a1, (B.cell (by exact hl2)).trans a2, (B.cell (by exact hl2)).trans a3, (B.cell (by exact hl2)).trans a4, (B.cell (by exact hl2)).trans a5, (B.cell (by exact hl2)).trans a6, (B.cell (by exact hl2)).trans a7, (B.cell (by exact hl2)).trans a8⟩)) (fun hS => ?_)
                clear hK K
                (try simp only [Act.put, List.setIfInBounds_toArray, List.set_cons_zero, List.set_cons_succ])
                refine wpAnyH_listed (l' := #[true, true, true, true, true, true, true, true, true, true, true, true, true, true, true, true, true, true, true, true, true, true, true, true, true, true, true, false, false, false]) (by kernel_rfl) ?_
                clear hS
                (try clear hwx)
                revert J26; revert B
                generalize (wr.alloc (.cells #[Value.int .i64 j.rw, Value.int .i64 j.ac, Value.int .i64 j.wi] 3)) = wn
                generalize wr.heap.size = b26
                revert b26; revert b15; revert b9; revert wn
                exact keyq_2_9_10_15_16_26.out
              exact AllReadyH.nil
          case hkq_2_9_10_15_26 =>
            intro wr b9 b15 b26 B J15 J26
            refine wpAnyH_ready (rs := [16]) (by kernel_rfl) (by simp) ?_
            refine AllReadyH.cons (o := { dst := some 23, op := Op.call { callee := Callee.value (Operand.func 44), args := #[Operand.tmp 22], argTypes := #[22] }, type := 9, pos := "l8_desk.go:48", after := #[{ on := 15, ground := Ground.data }, { on := 10, ground := Ground.chain }], guard := none }) rfl (fun K hK => ?_) ?_
            · skip
              (try go_simp)
              go_at_call 44
              refine (show Calls _ _ _ _ (fun e w' => e = .returned (.string (gr2 j)) ∧ Below wr.heap.size wr w') from joinNumbers_any _ [j.dg, j.wy] _ J15.out (by simp) (HT2.out.bel B)).mono ?_
              rintro e wn ⟨rfl, b⟩
              clear J15
              replace J26 := Lib.hid (J26.out.bel b)
              replace B := bel_trans B b
              clear b
              (try dsimp only)
              refine hK.out _ _ (by first | exact ⟨(B.cell (by exact hl2)).trans a0, (B.cell (by exact hl2)).trans a1, (B.cell (by exact hl2)).trans a2, (B.cell (by exact hl2)).trans a3, (B.cell (by exact hl2)).trans a4, (B.cell (by exact hl2)).trans a5, (B.cell (by exact hl2)).trans a6, (B.cell (by exact hl2)).trans a7, (B.cell (by exact hl2)).trans a8⟩ | (dsimp only; exact ⟨(B.cell (by exact hl2)).trans a0, (B.cell (by exact hl2)).trans a1, (B.cell (by exact hl2)).trans a2, (B.cell (by exact hl2)).trans a3, (B.cell (by exact hl2)).trans a4, (B.cell (by exact hl2)).trans a5, (B.cell (by exact hl2)).trans a6, (B.cell (by exact hl2)).trans a7, (B.cell (by exact hl2)).trans a8⟩)) (fun hS => ?_)
              clear hK K
              (try simp only [Act.put, List.setIfInBounds_toArray, List.set_cons_zero, List.set_cons_succ])
              refine wpAnyH_listed (l' := #[true, true, true, true, true, true, true, true, true, true, true, true, true, true, true, true, true, true, true, true, true, true, true, true, true, true, true, false, false, false]) (by kernel_rfl) ?_
              clear hS
              (try clear hwx)
              revert J26; revert B
              revert b26; revert b15; revert b9; revert wn
              exact keyq_2_9_10_15_16_26.out
            exact AllReadyH.nil
        case hkq_2_9_10_15_16_26 =>
          intro wr b9 b15 b26 B J26
          refine wpAnyH_ready (rs := [27]) (by kernel_rfl) (by simp) ?_
          refine AllReadyH.cons (o := { dst := some 34, op := Op.call { callee := Callee.value (Operand.func 44), args := #[Operand.tmp 33], argTypes := #[22] }, type := 9, pos := "l8_desk.go:49", after := #[{ on := 26, ground := Ground.data }, { on := 16, ground := Ground.chain }], guard := none }) rfl (fun K hK => ?_) ?_
          · skip
            (try go_simp)
            go_at_call 44
            refine (show Calls _ _ _ _ (fun e w' => e = .returned (.string (gr3 j)) ∧ Below wr.heap.size wr w') from joinNumbers_any _ [j.rw, j.ac, j.wi] _ J26.out (by simp) (HT2.out.bel B)).mono ?_
            rintro e wn ⟨rfl, b⟩
            clear J26
            replace B := bel_trans B b
            clear b
            (try dsimp only)
            refine hK.out _ _ (by first | exact ⟨(B.cell (by exact hl2)).trans a0, (B.cell (by exact hl2)).trans a1, (B.cell (by exact hl2)).trans a2, (B.cell (by exact hl2)).trans a3, (B.cell (by exact hl2)).trans a4, (B.cell (by exact hl2)).trans a5, (B.cell (by exact hl2)).trans a6, (B.cell (by exact hl2)).trans a7, (B.cell (by exact hl2)).trans a8⟩ | (dsimp only; exact ⟨(B.cell (by exact hl2)).trans a0, (B.cell (by exact hl2)).trans a1, (B.cell (by exact hl2)).trans a2, (B.cell (by exact hl2)).trans a3, (B.cell (by exact hl2)).trans a4, (B.cell (by exact hl2)).trans a5, (B.cell (by exact hl2)).trans a6, (B.cell (by exact hl2)).trans a7, (B.cell (by exact hl2)).trans a8⟩)) (fun hS => ?_)
            clear hK K
            (try simp only [Act.put, List.setIfInBounds_toArray, List.set_cons_zero, List.set_cons_succ])
            refine wpAnyH_listed (l' := #[true, true, true, true, true, true, true, true, true, true, true, true, true, true, true, true, true, true, true, true, true, true, true, true, true, true, true, true, false, false]) (by kernel_rfl) ?_
            clear hS
            (try clear hwx)
            revert B
            revert b26; revert b15; revert b9; revert wn
            exact keyq_2_9_10_15_16_26_27.out
          exact AllReadyH.nil
      case hkq_2_9_10_15_16_26_27 =>
        intro wr b9 b15 b26 B
        refine wpAnyH_ready (rs := [28]) (by kernel_rfl) (by simp) ?_
        refine AllReadyH.cons (o := { dst := some 35, op := Op.buildSlice 56 4 #[(0, Operand.tmp 9), (1, Operand.tmp 17), (2, Operand.tmp 23), (3, Operand.tmp 34)], type := 56, pos := "l8_desk.go:45", after := #[{ on := 2, ground := Ground.data }, { on := 10, ground := Ground.data }, { on := 16, ground := Ground.data }, { on := 27, ground := Ground.data }], guard := none }) rfl (fun K hK => ?_) ?_
        · skip
          go_simp
          replace B : Below w2.heap.size w2 (wr.alloc (.cells #[Value.string (polyS j.poly), Value.string (gr1 j), Value.string (gr2 j), Value.string (gr3 j)] 9)) := bel_trans B (bel_alloc wr _)
          have J28 : Hid (Strs (wr.alloc (.cells #[Value.string (polyS j.poly), Value.string (gr1 j), Value.string (gr2 j), Value.string (gr3 j)] 9)) (Value.slice (some ⟨wr.heap.size, 0, none⟩) 4 4) [polyS j.poly, gr1 j, gr2 j, gr3 j]) := Lib.hid (lit_texts wr [polyS j.poly, gr1 j, gr2 j, gr3 j] (by simp) (fun s hs => by simp at hs; rcases hs with rfl | rfl | rfl | rfl <;> omega))
          refine hK.out _ _ (by first | exact ⟨(B.cell (by exact hl2)).trans a0, (B.cell (by exact hl2)).trans a1, (B.cell (by exact hl2)).trans a2, (B.cell (by exact hl2)).trans a3, (B.cell (by exact hl2)).trans a4, (B.cell (by exact hl2)).trans a5, (B.cell (by exact hl2)).trans a6, (B.cell (by exact hl2)).trans a7, (B.cell (by exact hl2)).trans a8⟩ | (dsimp only; exact ⟨(B.cell (by exact hl2)).trans a0, (B.cell (by exact hl2)).trans a1, (B.cell (by exact hl2)).trans a2, (B.cell (by exact hl2)).trans a3, (B.cell (by exact hl2)).trans a4, (B.cell (by exact hl2)).trans a5, (B.cell (by exact hl2)).trans a6, (B.cell (by exact hl2)).trans a7, (B.cell (by exact hl2)).trans a8⟩)) (fun hS => ?_)
          clear hK K
          (try simp only [Act.put, List.setIfInBounds_toArray, List.set_cons_zero, List.set_cons_succ])
          refine wpAnyH_take (i := 29) (oi := { dst := some 3, op := Op.assign (Operand.tmp 35), type := 56, pos := "l8_desk.go:45", after := #[{ on := 28, ground := Ground.data }, { on := 27, ground := Ground.chain }, { on := 0, ground := Ground.phase }, { on := 1, ground := Ground.phase }, { on := 2, ground := Ground.phase }, { on := 3, ground := Ground.phase }, { on := 4, ground := Ground.phase }, { on := 5, ground := Ground.phase }, { on := 6, ground := Ground.phase }, { on := 7, ground := Ground.phase }, { on := 8, ground := Ground.phase }, { on := 9, ground := Ground.phase }, { on := 10, ground := Ground.phase }, { on := 11, ground := Ground.phase }, { on := 12, ground := Ground.phase }, { on := 13, ground := Ground.phase }, { on := 14, ground := Ground.phase }, { on := 15, ground := Ground.phase }, { on := 16, ground := Ground.phase }, { on := 17, ground := Ground.phase }, { on := 18, ground := Ground.phase }, { on := 19, ground := Ground.phase }, { on := 20, ground := Ground.phase }, { on := 21, ground := Ground.phase }, { on := 22, ground := Ground.phase }, { on := 23, ground := Ground.phase }, { on := 24, ground := Ground.phase }, { on := 25, ground := Ground.phase }, { on := 26, ground := Ground.phase }, { on := 27, ground := Ground.phase }, { on := 28, ground := Ground.phase }], guard := none }) (v := ?vq_22) rfl (by kernel_rfl) (by kernel_rfl) (by kernel_rfl) (fun _ _ _ h => h) (Or.inl ⟨by rfl, ?hyq_22⟩) hS ?restq_22
          case hyq_22 => (intro w' hSw; (try dsimp only at hSw); go_simp; all_goals with_reducible rfl)
          (try simp only [Act.put, List.setIfInBounds_toArray, List.set_cons_zero, List.set_cons_succ])
          refine wpAnyH_listed (l' := #[true, true, true, true, true, true, true, true, true, true, true, true, true, true, true, true, true, true, true, true, true, true, true, true, true, true, true, true, true, true]) (by kernel_rfl) ?_
          clear hS
          (try clear hwx)
          revert J28; revert B
          generalize (wr.alloc (.cells #[Value.string (polyS j.poly), Value.string (gr1 j), Value.string (gr2 j), Value.string (gr3 j)] 9)) = wn
          generalize wr.heap.size = b28
          revert b28; revert b26; revert b15; revert b9; revert wn
          exact keyq_2_9_10_15_16_26_27_28.out
        exact AllReadyH.nil
    intro w5 b9 b15 b26 b28 B J28
    refine wpAnyH_done (by kernel_rfl) ?_ _
    have HB5 := Lib.hid (bel_trans HB.out B)
    clear a0 a1 a2 a3 a4 a5 a6 a7 a8
    go_wp2_with fail
    refine (joins_any _ [polyS j.poly, gr1 j, gr2 j, gr3 j] ⟨#[59]⟩ _ J28.out (by simp) 154 (fun s hs => by simp at hs; rcases hs with rfl | rfl | rfl | rfl <;> omega) (by omega) (by decide)).mono ?_
    rintro e w6 ⟨rfl, b⟩
    have HB6 := Lib.hid (bel_trans HB5.out b)
    clear b
    go_wp2
    go_ret
    exact ⟨by rw [HN.out, ← join_four]; rfl, HB6.out⟩

end Go.Proofs.YtdmadaebeooaaaaGreatDoor

/-
  Jobs and their texts: DrawFormatJob, deJobs, the plain law (printed by gen_jta.py).
-/
namespace Go.Proofs.YtdmadaebeooaaaaGreatDoor
open Go.RowKit
set_option linter.unusedVariables false
set_option linter.unusedSimpArgs false
set_option maxRecDepth 100000
attribute [local go_sem ↓] Go.wp_at_zero Go.wp_at_succ

set_option maxHeartbeats 2000000 in
theorem drawFormatJob_any (v : Value) (code : List Int) (w : World) (hv : Bytes w v code) :
    Calls Tryz.prog 16 #[v] w (DrawnJobD w) := by
  have HV := Lib.hid hv
  have K4 := Blk.new w 32 (jobC (.slice none 0 0) zeroJ)
  clear hv
  go_enter Tryz.func16, Tryz.ntmps16
  go_wp2_with fail
  change Calls _ _ _ (w.alloc (.cells (jobC (.slice none 0 0) zeroJ).toArray 32)) _
  generalize hW : w.alloc (.cells (jobC (.slice none 0 0) zeroJ).toArray 32) = W at *
  have hwz : W.heap.size = w.heap.size + 1 := by rw [← hW]; simp
  have hbW : Below w.heap.size w W := by rw [← hW]; exact bel_alloc w _
  clear hW
  refine (drawJobValid_any v code _ (HV.out.bel hbW)).mono ?_
  rintro e w3 ⟨vk, k, rfl, hs3, l8, hk, hb⟩
  obtain ⟨l, j1, j2, j3, j4, j5, j6, j7, j8⟩ := k
  have K5 := K4.below hb K4.lt
  dsimp only at hs3 l8
  have S3 := Lib.hid (And.intro hs3 (And.intro l8 (And.intro hk (bel_trans hbW hb))))
  obtain ⟨A, c, rfl, -, -, -⟩ := hs3.ints.open_
  clear K4 hs3 hk l8 hb hbW HV
  obtain ⟨f0, f1, f2, f3, f4, f5, f6, f7, f8⟩ := K5.free
  obtain ⟨d0, d1, d2, d3, d4, d5, d6, d7, d8⟩ := Blk.job (v := .slice none 0 0) (j := zeroJ) K5
  have HK := Lib.hid K5
  clear K5
  unfold jobV
  go_wp2
  clear f0 f1 f2 f3 f4 f5 f6 f7 f8 d0 d1 d2 d3 d4 d5 d6 d7 d8
  have BE := belN (B := w.heap.size) (g := w.heap.size) (Nat.le_refl _) [.slice A l.length c, .int .i64 (j1), .int .i64 (j2), .int .i64 (j3), .int .i64 (j4), .int .i64 (j5), .int .i64 (j6), .int .i64 (j7), .int .i64 (j8)] _ 0 S3.out.2.2.2
  have K5 := blkNown [.slice A l.length c, .int .i64 (j1), .int .i64 (j2), .int .i64 (j3), .int .i64 (j4), .int .i64 (j5), .int .i64 (j6), .int .i64 (j7), .int .i64 (j8)] _ _ 0 HK.out
  have SE := (ownN (g := w.heap.size) (show w.heap.size < W.heap.size by omega) [.slice A l.length c, .int .i64 (j1), .int .i64 (j2), .int .i64 (j3), .int .i64 (j4), .int .i64 (j5), .int .i64 (j6), .int .i64 (j7), .int .i64 (j8)] _ 0 S3.out.1).lower (base' := w.heap.size) (by omega)
  change bodyPost _ _ _ _ _ (setN w3 (w.heap.size) 0 [.slice A l.length c, .int .i64 (j1), .int .i64 (j2), .int .i64 (j3), .int .i64 (j4), .int .i64 (j5), .int .i64 (j6), .int .i64 (j7), .int .i64 (j8)])
  generalize hW7 : setN w3 (w.heap.size) 0 [.slice A l.length c, .int .i64 (j1), .int .i64 (j2), .int .i64 (j3), .int .i64 (j4), .int .i64 (j5), .int .i64 (j6), .int .i64 (j7), .int .i64 (j8)] = W7 at K5 SE BE ⊢
  clear hW7
  obtain ⟨h0, h1, h2, h3, h4, h5, h6, h7, h8⟩ := Blk.job (v := .slice A l.length c) (j := ⟨l, j1, j2, j3, j4, j5, j6, j7, j8⟩) K5
  refine bodyPost_ret (v := .agg #[.slice A l.length c, .int .i64 (j1), .int .i64 (j2), .int .i64 (j3), .int .i64 (j4), .int .i64 (j5), .int .i64 (j6), .int .i64 (j7), .int .i64 (j8)]) (by simp [results, Tryz.results16, go_sem, h0, h1, h2, h3, h4, h5, h6, h7, h8]) rfl ⟨_, ⟨l, j1, j2, j3, j4, j5, j6, j7, j8⟩, rfl, SE, S3.out.2.1, S3.out.2.2.1, BE⟩

theorem im_of {j : JobD} {t : ByteArray} (hin : j.In) (hok : jobOk j = true) (h : fmtJ j = t) : ImOk t ∧ imJ t = j := by
  have hpo := job_poly hok
  obtain ⟨s0, s1, s2, s3⟩ := job_sm hin hok
  have hp1 : j.poly ≠ [] := fun e => by have := (polyOk_true.1 hpo).1; rw [e] at this; simp at this
  rw [fmt_yes hok, polyS_yes hpo, ← join_four] at h
  have hc : cutS 59 t = [numsS j.poly, gr1 j, gr2 j, gr3 j] := by
    rw [← h]
    apply cutS_join
    intro p hp
    simp at hp
    rcases hp with rfl | rfl | rfl | rfl <;> exact numsS_no (by decide) (by decide) (by decide) _
  have g0 : grp t 0 = numsS j.poly := by unfold grp; rw [hc]; rfl
  have g1 : grp t 1 = gr1 j := by unfold grp; rw [hc]; rfl
  have g2 : grp t 2 = gr2 j := by unfold grp; rw [hc]; rfl
  have g3 : grp t 3 = gr3 j := by unfold grp; rw [hc]; rfl
  obtain ⟨a0, b0⟩ := numsOk_of hp1 s0
  obtain ⟨a1, b1⟩ := numsOk_of (by simp) s1
  obtain ⟨a2, b2⟩ := numsOk_of (by simp) s2
  obtain ⟨a3, b3⟩ := numsOk_of (by simp) s3
  have l0 : spL (grp t 0) = j.poly := by rw [g0, spL_yes a0, b0]
  have l1 : spL (grp t 1) = [j.fr, j.ct, j.wd] := by rw [g1]; unfold gr1; rw [spL_yes a1, b1]
  have l2 : spL (grp t 2) = [j.dg, j.wy] := by rw [g2]; unfold gr2; rw [spL_yes a2, b2]
  have l3 : spL (grp t 3) = [j.rw, j.ac, j.wi] := by rw [g3]; unfold gr3; rw [spL_yes a3, b3]
  have hi : imJ t = j := by
    unfold imJ ppL
    rw [l0, l1, l2, l3, chkL_yes hpo]
    rfl
  refine ⟨⟨by rw [hc]; rfl, ?_, ?_, ?_, ?_, ?_, ?_, ?_, ?_⟩, hi⟩
  · unfold ppOk
    rw [l0, hpo, g0, a0]
    rfl
  · rw [g1]; exact a1
  · rw [g2]; exact a2
  · rw [g3]; exact a3
  · rw [l1]; rfl
  · rw [l2]; rfl
  · rw [l3]; rfl
  · rw [hi]; exact hok
/-- A valid job is parsed from its text. -/
theorem parse_fmt {j : JobD} (hin : j.In) (hok : jobOk j = true) : spR (fmtJ j) = (j, true) := by
  obtain ⟨h1, h2⟩ := im_of hin hok rfl
  rw [spR_good h1, h2]
/-- A text that is parsed is that of the parsed job. -/
theorem fmt_parse {t : ByteArray} {J : JobD} (h : spR t = (J, true)) : fmtJ J = t := by
  unfold spR at h
  split at h
  · rename_i hc
    rw [← (Prod.mk.inj h).1]
    exact hc.2
  · exact absurd (Prod.mk.inj h).2 (by simp)
theorem fmt_ne {j : JobD} (hin : j.In) (hok : jobOk j = true) : fmtJ j ≠ ⟨#[]⟩ := by
  intro e
  have h := (im_of hin hok rfl).1.1
  rw [e] at h
  exact absurd h (by decide)
theorem fmt_size {j : JobD} (hv : Wf j.poly) (hin : j.In) : (fmtJ j).size ≤ 400 := by
  cases hq : jobOk j
  · rw [fmt_no hq]; decide
  · obtain ⟨h1, h2, h3, h4⟩ := fmt_sizes hv hin hq
    rw [fmt_yes hq]
    simp only [ByteArray.size_append]
    have : semi.size = 1 := rfl
    omega
set_option maxHeartbeats 4000000 in
theorem deJobs_any (v u : Value) (j : JobD) (w : World) (hv : Ints w v j.poly) (hu : Ints w u j.poly) :
    Calls Tryz.prog 20 #[jobV v j, jobV u j] w fun e w' => e = .returned (.bool true) ∧ Below w.heap.size w w' := by
  have HV := Lib.hid (And.intro hv hu)
  obtain ⟨A, c, rfl, -, -, -⟩ := hv.open_
  obtain ⟨B, d, rfl, -, -, -⟩ := hu.open_
  clear hv hu
  have B0 : Below w.heap.size w ((w.alloc (.cells (jobC (.slice A j.poly.length c) j).toArray 32)).alloc (.cells (jobC (.slice B j.poly.length d) j).toArray 32)) := (bel_alloc w _).alloc (by simp) _
  have K1 := (Blk.new w 32 (jobC (.slice A j.poly.length c) j)).alloc (.cells (jobC (.slice B j.poly.length d) j).toArray 32)
  have K2 := Blk.new (w.alloc (.cells (jobC (.slice A j.poly.length c) j).toArray 32)) 32 (jobC (.slice B j.poly.length d) j)
  unfold jobV
  go_enter Tryz.func20, Tryz.ntmps20
  go_wp2_with fail
  change Calls _ _ _ ((w.alloc (.cells (jobC (.slice A j.poly.length c) j).toArray 32)).alloc (.cells (jobC (.slice B j.poly.length d) j).toArray 32)) _
  generalize hW : (w.alloc (.cells (jobC (.slice A j.poly.length c) j).toArray 32)).alloc (.cells (jobC (.slice B j.poly.length d) j).toArray 32) = W at K1 K2 B0 ⊢
  clear hW
  simp only [World.size_alloc] at K2
  refine (deInts_any _ _ j.poly j.poly W (HV.out.1.bel B0) (HV.out.2.bel B0)).mono ?_
  rw [eqL_self]
  rintro e w2 ⟨rfl, b⟩
  replace K1 := K1.below b K1.lt
  replace K2 := K2.below b K2.lt
  have HB := Lib.hid (bel_trans B0 b)
  clear B0 b
  obtain ⟨a0, a1, a2, a3, a4, a5, a6, a7, a8⟩ := K1.job
  obtain ⟨b0, b1, b2, b3, b4, b5, b6, b7, b8⟩ := K2.job
  go_wp2
  go_ret
  exact ⟨rfl, HB.out⟩
end Go.Proofs.YtdmadaebeooaaaaGreatDoor

/-
  Jobs and their texts: DrawParseJob.
-/
namespace Go.Proofs.YtdmadaebeooaaaaGreatDoor
open Go.RowKit
set_option linter.unusedVariables false
set_option linter.unusedSimpArgs false
set_option maxRecDepth 100000
attribute [local go_sem ↓] Go.wp_at_zero Go.wp_at_succ

theorem only_drew {a w : World} {g : Nat} (h : a.grownBy w (some g)) : a.grownBy w.drew (some g) := grown_trans h (grown_of_below ((Below.refl w.heap.size w).drew)) (fun j hj => by cases hj)
theorem lit_strsJ (w : World) (l : List ByteArray) (B base : Nat) (hB : w.heap.size = B) (hb : base ≤ B) (hl : l.length ≤ 1000) (hwf : WfS l) : OwnS (w.alloc (.cells (sv l).toArray 9)) base (.slice (some ⟨B, 0, none⟩) l.length l.length) l := by
  subst hB
  exact OwnS.mk' (cs := sv l) hb (Blk.new w _ _) (Nat.le_refl _) (by omega) (sv_length l) (fun j hj => sv_get l j hj) hwf
theorem pick2 {k N : Nat} {m7 : Int} (hm : 0 ≤ m7 ∧ m7 < 2) (hk : k < N) (hN : N ≤ 400) : ∃ q : Nat, IntKind.i64.wrap ((k : Int) + m7) = (q : Int) ∧ wrap64 ((k : Int) + m7) = (q : Int) ∧ (0 : Int) ≤ (q : Int) ∧ (q : Int) ≤ (N : Int) := by
  obtain ⟨q, hq⟩ : ∃ q : Nat, (k : Int) + m7 = (q : Int) := ⟨((k : Int) + m7).toNat, by omega⟩
  have h : wrap64 ((k : Int) + m7) = (q : Int) := by rw [hq]; exact IntWalk.wrap64_in _ (by omega)
  exact ⟨q, (IntWalk.i64_left _).trans h, h, by omega, by omega⟩
theorem cat2 {E s F : ByteArray} (h1 : E.size ≤ 400) (h2 : s.size ≤ 1) (h3 : F.size ≤ 400) : ¬ 9223372036854775807 < (E ++ s).size + F.size ∧ ¬ 9223372036854775807 < E.size + s.size + F.size ∧ (E ++ s ++ F).size ≤ 1000 := by
  simp only [ByteArray.size_append]
  omega
theorem cat1 {E s : ByteArray} (h1 : E.size ≤ 400) (h2 : s.size ≤ 1) : ¬ 9223372036854775807 < E.size + s.size := by omega
def sixS : List ByteArray := [⟨#[]⟩, ⟨#[48]⟩, ⟨#[32]⟩, ⟨#[45]⟩, ⟨#[59]⟩, ⟨#[49]⟩]
theorem six_str : ∀ s ∈ sixS, s.size ≤ 1 := by decide
set_option maxHeartbeats 8000000 in
theorem drawParseJob_any (v : Value) (code : List Int) (w : World) (hv : Bytes w v code) :
    Calls Tryz.prog 21 #[v] w fun e w' => ∃ s : ByteArray, e = .returned (.string s) ∧ s.size ≤ 1000 ∧ Below w.heap.size w w' := by
  go_enter Tryz.func21, Tryz.ntmps21
  go_wp2_with fail
  refine (l9Open_any v code _ hv).mono ?_
  rintro e w1 ⟨g, rfl, hg, hr1, hb1⟩
  have lg1 := hr1.lt
  have z1 := hb1.size
  have HR1 := Lib.hid hr1
  have HB1 := Lib.hid hb1
  clear hr1 hb1 hv
  go_wp2_with fail
  refine (l8Some_any g 0 _ HR1.out (by omega)).mono ?_
  rintro e w2 ⟨vj, j, rfl, hs2, l16, hj⟩
  have HS2 := Lib.hid hs2
  have HJ := Lib.hid hj
  obtain ⟨A, c, rfl, -, -, -⟩ := hs2.own.ints.open_
  have fz := fmt_size hs2.own.ints.2 hj
  clear hs2 hj
  unfold jobV
  go_wp2_with fail
  change Calls _ _ #[jobV (.slice A j.poly.length c) j] w2 _
  refine (specFmt_any _ j _ HS2.out.own.ints HJ.out).mono ?_
  rintro e w3 ⟨rfl, b3⟩
  have HR3 := Lib.hid (HS2.out.rdr.bel b3)
  have HG3 := Lib.hid (only_below HS2.out.gr b3)
  have lg3 := HR3.out.lt
  obtain ⟨T, hT⟩ : ∃ T, fmtJ j = T := ⟨_, rfl⟩
  rw [hT] at fz ⊢
  clear hT b3
  go_wp2_with fail
  refine (pick_any g _ 2 _ HR3.out (by omega) (by omega)).mono ?_
  rintro e w4 ⟨m, rfl, hm, -, hr4, hg4⟩
  have hm' := hm (by omega)
  have HR4 := Lib.hid hr4
  have HG4 := Lib.hid (grown_trans HG3.out hg4 (fun j hj => .inl (by injection hj with hj; exact hj.symm)))
  have lg4 := hr4.lt
  clear hm hr4 hg4
  by_cases hm0 : m = 0
  · subst hm0
    go_wp2
    go_ret
    exact ⟨_, rfl, by omega, HB1.out.trans (grown_below (B := w.heap.size) HG4.out hg z1)⟩
  · have hm1 : (m == 0) = false := by simpa using hm0
    cases he : T.toList.isEmpty
    · have hp : 0 < T.size := Nat.pos_of_ne_zero fun e => by
        have h := ByteArray.size_eq_zero_iff.1 e
        rw [h, ByteArray.toList_eq] at he
        exact absurd he (by decide)
      go_wp2_with fail
      refine (pick_any g _ (T.size : Int) _ HR4.out (by omega) (by omega)).mono ?_
      rintro e w5 ⟨kk, rfl, hk, -, hr5, hg5⟩
      have hk' := hk (by omega)
      obtain ⟨k, rfl⟩ : ∃ k : Nat, kk = k := ⟨kk.toNat, by omega⟩
      have HR5 := Lib.hid hr5
      have HG5 := Lib.hid (grown_trans HG4.out hg5 (fun j hj => .inl (by injection hj with hj; exact hj.symm)))
      have lg5 := hr5.lt
      have hk2 : k < T.size := by omega
      clear hk hr5 hg5 hk'
      have HL := Lib.hid ((lit_strsJ w5 sixS w5.heap.size 0 rfl (by omega) (by decide) (fun s hs => by have := six_str s hs; omega)).strs)
      have HRL := Lib.hid (HR5.out.bel (bel_alloc w5 (.cells (sv sixS).toArray 9)))
      have HGL := Lib.hid (only_alloc HG5.out (.cells (sv sixS).toArray 9))
      have hx1 : (T.extract 0 k).size ≤ 400 := by rw [ByteArray.size_extract]; omega
      have hx2 : ∀ a : Nat, (T.extract a T.size).size ≤ 400 := fun a => by rw [ByteArray.size_extract]; omega
      replace hx2 := Lib.hid hx2
      have hk3 : (0 : Int) ≤ (k : Int) := by omega
      have hk4 : (k : Int) ≤ (T.size : Int) := by omega
      obtain ⟨E, hE⟩ : ∃ E, T.extract 0 k = E := ⟨_, rfl⟩
      rw [hE] at hx1
      have tok1 : True := trivial
      have tok2 : True := trivial
      go_wp2_with fail
      go_region_held3 (fun w' => True) (first | trivial | go_keep) (first
        | ((try go_simp); go_at_call 56; have _t := tok1; go_loud (refine (of_any g (0 + 30 + 1 + 1) (.slice (some ⟨w5.heap.size, 0, none⟩) 6 6) sixS 1 _ (by first | exact HRL.out | exact HRL.out.bel ((Below.refl _ _).drew)) (by omega) (by first | exact HL.out | exact HL.out.bel ((Below.refl _ _).drew)) (by decide) (lit_ne (by omega)) six_str).mono ?_; rintro e w6 ⟨s6, rfl, -, hs6, hr6, hg6⟩; have HR6 := Lib.hid hr6; have HG6 := Lib.hid (grown_trans (by first | exact HGL.out | exact only_drew HGL.out) hg6 (fun j hj => .inl (by injection hj with hj; exact hj.symm))); have hcat6 := cat1 hx1 hs6; clear tok1 hr6 hg6; (try dsimp only)))
        | ((try go_simp); go_at_call 55; have _t := tok2; go_loud (refine (pick_any g _ 2 _ (by first | exact HR6.out | exact HR6.out.bel ((Below.refl _ _).drew)) (by omega) (by omega)).mono ?_; rintro e w7 ⟨m7, rfl, hm7, -, hr7, hg7⟩; have HG7 := Lib.hid (grown_trans (by first | exact HG6.out | exact only_drew HG6.out) hg7 (fun j hj => .inl (by injection hj with hj; exact hj.symm))); obtain ⟨q, hw1, hw2, hw3, hw4⟩ := pick2 (hm7 (by decide)) hk2 fz; obtain ⟨F, hF⟩ : ∃ F, T.extract q T.size = F := ⟨_, rfl⟩; have hx3 := hx2.out q; rw [hF] at hx3; obtain ⟨hcat7, hcat8, hxx⟩ := cat2 hx1 hs6 hx3; have HXX := Lib.hid hxx; clear hxx tok2 hm7 hr7 hg7; (try dsimp only)))
        | fail)
      all_goals
        go_wp2
        go_ret
        exact ⟨_, rfl, HXX.out, HB1.out.trans (grown_below (B := w.heap.size) HG7.out hg z1)⟩
    · go_wp2
      go_ret
      exact ⟨_, rfl, by omega, HB1.out.trans (grown_below (B := w.heap.size) HG4.out hg z1)⟩
end Go.Proofs.YtdmadaebeooaaaaGreatDoor

/-
  The law FnJobText, walked (printed by gen_lawjt.py).
-/
namespace Go.Proofs.YtdmadaebeooaaaaGreatDoor
open Go.RowKit
set_option linter.unusedVariables false
set_option linter.unusedSimpArgs false
set_option maxRecDepth 100000
attribute [local go_sem ↓] Go.wp_at_zero Go.wp_at_succ

theorem empty_of {T : ByteArray} (h : T = ⟨#[]⟩) : T.toList.isEmpty = true := by rw [h, ByteArray.toList_eq]; rfl
theorem empty_no {T : ByteArray} (h : T ≠ ⟨#[]⟩) : T.toList.isEmpty = false := by
  cases hq : T.toList.isEmpty
  · rfl
  · rw [ByteArray.toList_eq] at hq
    exact absurd (ByteArray.ext (Array.toList_inj.1 (by simpa using hq))) h
set_option maxHeartbeats 16000000 in
theorem lawJobText (v : Value) (code : List Int) (u : Value) (more : List Int) (w : World) (hv : Bytes w v code) (hu : Bytes w u more) (hg : Glb w) :
    Calls Tryz.prog 5 #[v, u] w fun e w' => e = .returned (.bool true) ∧ Below w.heap.size w w' := by
  have HV := Lib.hid hv
  have HM := Lib.hid hu
  have HG := Lib.hid hg
  obtain ⟨A_c, c_c, rfl, -, hc1, -⟩ := hv.open_
  obtain ⟨A_m, c_m, rfl, -, hc2, -⟩ := hu.open_
  clear hv hu hg
  go_enter Tryz.func5, Tryz.ntmps5
  by_cases hbig : (1048576 : Int) < (code.length : Int)
  · go_wp2
    go_ret
    exact ⟨rfl, Below.refl _ _⟩
  · by_cases hbig2 : (1048576 : Int) < (more.length : Int)
    · go_wp2
      go_ret
      exact ⟨rfl, Below.refl _ _⟩
    · go_wp2_with fail
      refine (drawFormatJob_any _ code _ HV.out).mono ?_
      rintro e w0 ⟨vp, j, rfl, hs, l8, hj, b⟩
      have HJ := Lib.hid hj
      obtain ⟨A, c, rfl, -, -, -⟩ := hs.ints.open_
      have ba : Below w0.heap.size w0 (w0.alloc (.cells #[.slice A j.poly.length c, .int .i64 j.fr, .int .i64 j.ct, .int .i64 j.wd, .int .i64 j.dg, .int .i64 j.wy, .int .i64 j.rw, .int .i64 j.ac, .int .i64 j.wi] 32)) := bel_alloc w0 _
      have O5 := Lib.hid (show Ints (w0.alloc (.cells #[.slice A j.poly.length c, .int .i64 j.fr, .int .i64 j.ct, .int .i64 j.wd, .int .i64 j.dg, .int .i64 j.wy, .int .i64 j.rw, .int .i64 j.ac, .int .i64 j.wi] 32)) (.slice A j.poly.length c) j.poly from hs.ints.bel ba)
      have HB := Lib.hid (bel_trans b ba)
      have K5 := Lib.hid (show Blk (w0.alloc (.cells #[.slice A j.poly.length c, .int .i64 j.fr, .int .i64 j.ct, .int .i64 j.wd, .int .i64 j.dg, .int .i64 j.wy, .int .i64 j.rw, .int .i64 j.ac, .int .i64 j.wi] 32)) w0.heap.size 32 (jobC (.slice A j.poly.length c) j) from Blk.new w0 32 (jobC (.slice A j.poly.length c) j))
      have fz := fmt_size hs.ints.2 hj
      clear hs b ba hj HV
      unfold jobV
      obtain ⟨a0, a1, a2, a3, a4, a5, a6, a7, a8⟩ := K5.out.job
      go_wp2_with fail
      clear a0 a1 a2 a3 a4 a5 a6 a7 a8
      generalize hW : (w0.alloc (.cells #[.slice A j.poly.length c, .int .i64 j.fr, .int .i64 j.ct, .int .i64 j.wd, .int .i64 j.dg, .int .i64 j.wy, .int .i64 j.rw, .int .i64 j.ac, .int .i64 j.wi] 32)) = w1 at K5 HB O5 ⊢
      clear hW
      change Calls _ _ #[(jobV (.slice A j.poly.length c) j)] w1 _
      refine (implFmt_any _ j _ O5.out HJ.out (HG.out.bel HB.out).1).mono ?_
      rintro e w2 ⟨rfl, b⟩
      replace HB := Lib.hid (bel_trans HB.out b)
      replace K5 := Lib.hid (K5.out.below b K5.out.lt)
      replace O5 := Lib.hid (O5.out.bel b)
      clear b
      obtain ⟨a0, a1, a2, a3, a4, a5, a6, a7, a8⟩ := K5.out.job
      go_wp2_with fail
      clear a0 a1 a2 a3 a4 a5 a6 a7 a8
      change Calls _ _ #[(jobV (.slice A j.poly.length c) j)] w2 _
      refine (specFmt_any _ j _ O5.out HJ.out).mono ?_
      rintro e w3 ⟨rfl, b⟩
      replace HB := Lib.hid (bel_trans HB.out b)
      replace K5 := Lib.hid (K5.out.below b K5.out.lt)
      replace O5 := Lib.hid (O5.out.bel b)
      clear b
      obtain ⟨T, hT⟩ : ∃ T, fmtJ j = T := ⟨_, rfl⟩
      rw [hT] at fz ⊢
      replace hT := Lib.hid hT
      have he : (!T.toList == T.toList) = false := by simp
      obtain ⟨a0, a1, a2, a3, a4, a5, a6, a7, a8⟩ := K5.out.job
      go_wp2_with fail
      clear a0 a1 a2 a3 a4 a5 a6 a7 a8
      change Calls _ _ #[(jobV (.slice A j.poly.length c) j)] w3 _
      refine (implJob_any _ j _ O5.out HJ.out).mono ?_
      rintro e w4 ⟨rfl, b⟩
      replace HB := Lib.hid (bel_trans HB.out b)
      replace K5 := Lib.hid (K5.out.below b K5.out.lt)
      replace O5 := Lib.hid (O5.out.bel b)
      clear b
      cases hq : jobOk j
      · have hem := empty_of (T := T) (by rw [← hT.out]; exact fmt_no hq)
        clear hq
        go_wp2_with fail
        refine (drawParseJob_any _ more _ (HM.out.bel HB.out)).mono ?_
        rintro e w10 ⟨X, rfl, hx, b⟩
        replace HB := Lib.hid (bel_trans HB.out b)
        clear b
        obtain ⟨J2, T2, hR⟩ : ∃ J T, spR X = (J, T) := ⟨_, _, rfl⟩
        replace hR := Lib.hid hR
        go_wp2_with fail
        refine (implPJ_any X _ (by omega) (HG.out.bel HB.out)).mono ?_
        rintro e w11 ⟨⟨v3, he3, o3, jin⟩, b⟩
        rw [hR.out] at he3 o3 jin
        subst he3
        obtain ⟨A3, c3, rfl, -, -, -⟩ := o3.ints.open_
        have bA : Below w11.heap.size w11 (w11.alloc (.cells #[.slice A3 J2.poly.length c3, .int .i64 J2.fr, .int .i64 J2.ct, .int .i64 J2.wd, .int .i64 J2.dg, .int .i64 J2.wy, .int .i64 J2.rw, .int .i64 J2.ac, .int .i64 J2.wi] 32)) := bel_alloc w11 _
        have bb := bel_trans b bA
        have K3 := Lib.hid (show Blk (w11.alloc (.cells #[.slice A3 J2.poly.length c3, .int .i64 J2.fr, .int .i64 J2.ct, .int .i64 J2.wd, .int .i64 J2.dg, .int .i64 J2.wy, .int .i64 J2.rw, .int .i64 J2.ac, .int .i64 J2.wi] 32)) w11.heap.size 32 (jobC (.slice A3 J2.poly.length c3) J2) from Blk.new w11 32 (jobC (.slice A3 J2.poly.length c3) J2))
        replace HB := Lib.hid (bel_trans HB.out bb)
        have O3 := Lib.hid (o3.ints.bel bA)
        have HJ2 := Lib.hid (show J2.In from jin)
        replace O3 := Lib.hid (show Ints (w11.alloc (.cells #[.slice A3 J2.poly.length c3, .int .i64 J2.fr, .int .i64 J2.ct, .int .i64 J2.wd, .int .i64 J2.dg, .int .i64 J2.wy, .int .i64 J2.rw, .int .i64 J2.ac, .int .i64 J2.wi] 32)) (.slice A3 J2.poly.length c3) J2.poly from O3.out)
        clear b bb bA o3 jin
        unfold jobV
        go_wp2_with fail
        generalize hW : (w11.alloc (.cells #[.slice A3 J2.poly.length c3, .int .i64 J2.fr, .int .i64 J2.ct, .int .i64 J2.wd, .int .i64 J2.dg, .int .i64 J2.wy, .int .i64 J2.rw, .int .i64 J2.ac, .int .i64 J2.wi] 32)) = w12 at K3 HB O3 ⊢
        clear hW
        refine (specPJ_any X _ (by omega)).mono ?_
        rintro e w13 ⟨⟨v4, he4, o4, jin⟩, b⟩
        rw [hR.out] at he4 o4 jin
        subst he4
        obtain ⟨A4, c4, rfl, -, -, -⟩ := o4.ints.open_
        have bA : Below w13.heap.size w13 (w13.alloc (.cells #[.slice A4 J2.poly.length c4, .int .i64 J2.fr, .int .i64 J2.ct, .int .i64 J2.wd, .int .i64 J2.dg, .int .i64 J2.wy, .int .i64 J2.rw, .int .i64 J2.ac, .int .i64 J2.wi] 32)) := bel_alloc w13 _
        have bb := bel_trans b bA
        have K4 := Lib.hid (show Blk (w13.alloc (.cells #[.slice A4 J2.poly.length c4, .int .i64 J2.fr, .int .i64 J2.ct, .int .i64 J2.wd, .int .i64 J2.dg, .int .i64 J2.wy, .int .i64 J2.rw, .int .i64 J2.ac, .int .i64 J2.wi] 32)) w13.heap.size 32 (jobC (.slice A4 J2.poly.length c4) J2) from Blk.new w13 32 (jobC (.slice A4 J2.poly.length c4) J2))
        replace HB := Lib.hid (bel_trans HB.out bb)
        replace K3 := Lib.hid (K3.out.below bb K3.out.lt)
        replace O3 := Lib.hid (O3.out.bel bb)
        have O4 := Lib.hid (show Ints (w13.alloc (.cells #[.slice A4 J2.poly.length c4, .int .i64 J2.fr, .int .i64 J2.ct, .int .i64 J2.wd, .int .i64 J2.dg, .int .i64 J2.wy, .int .i64 J2.rw, .int .i64 J2.ac, .int .i64 J2.wi] 32)) (.slice A4 J2.poly.length c4) J2.poly from o4.ints.bel bA)
        clear b bb bA o4 jin
        obtain ⟨a0, a1, a2, a3, a4, a5, a6, a7, a8⟩ := K3.out.job
        obtain ⟨d0, d1, d2, d3, d4, d5, d6, d7, d8⟩ := K4.out.job
        unfold jobV
        go_wp2_with fail
        clear a0 a1 a2 a3 a4 a5 a6 a7 a8 d0 d1 d2 d3 d4 d5 d6 d7 d8
        generalize hW : (w13.alloc (.cells #[.slice A4 J2.poly.length c4, .int .i64 J2.fr, .int .i64 J2.ct, .int .i64 J2.wd, .int .i64 J2.dg, .int .i64 J2.wy, .int .i64 J2.rw, .int .i64 J2.ac, .int .i64 J2.wi] 32)) = w14 at K3 K4 HB O3 O4 ⊢
        clear hW
        change Calls _ _ #[(jobV (.slice A3 J2.poly.length c3) J2), (jobV (.slice A4 J2.poly.length c4) J2)] w14 _
        refine (deJobs_any _ _ J2 _ O3.out O4.out).mono ?_
        rintro e w15 ⟨rfl, b⟩
        replace HB := Lib.hid (bel_trans HB.out b)
        replace K3 := Lib.hid (K3.out.below b K3.out.lt)
        replace O3 := Lib.hid (O3.out.bel b)
        clear b K4 O4
        cases T2
        · go_wp2
          go_ret
          exact ⟨rfl, HB.out⟩
        · have HF := Lib.hid (fmt_parse hR.out)
          have hxx : (X.toList == X.toList) = true := by simp
          obtain ⟨a0, a1, a2, a3, a4, a5, a6, a7, a8⟩ := K3.out.job
          go_wp2_with fail
          clear a0 a1 a2 a3 a4 a5 a6 a7 a8
          change Calls _ _ #[(jobV (.slice A3 J2.poly.length c3) J2)] w15 _
          refine (implFmt_any _ J2 _ O3.out HJ2.out (HG.out.bel HB.out).1).mono ?_
          rw [HF.out]
          rintro e w16 ⟨rfl, b⟩
          replace HB := Lib.hid (bel_trans HB.out b)
          clear b
          go_wp2
          go_ret
          exact ⟨rfl, HB.out⟩
      · have hem := empty_no (T := T) (by rw [← hT.out]; exact fmt_ne HJ.out hq)
        have HP := Lib.hid (show spR T = (j, true) by rw [← hT.out]; exact parse_fmt HJ.out hq)
        clear hq
        go_wp2_with fail
        refine (implPJ_any T _ (by omega) (HG.out.bel HB.out)).mono ?_
        rintro e w5 ⟨⟨v2, he2, o2, jin⟩, b⟩
        rw [HP.out] at he2 o2 jin
        subst he2
        obtain ⟨A2, c2, rfl, -, -, -⟩ := o2.ints.open_
        have bA : Below w5.heap.size w5 (w5.alloc (.cells #[.slice A2 j.poly.length c2, .int .i64 j.fr, .int .i64 j.ct, .int .i64 j.wd, .int .i64 j.dg, .int .i64 j.wy, .int .i64 j.rw, .int .i64 j.ac, .int .i64 j.wi] 32)) := bel_alloc w5 _
        have bb := bel_trans b bA
        have K2 := Lib.hid (show Blk (w5.alloc (.cells #[.slice A2 j.poly.length c2, .int .i64 j.fr, .int .i64 j.ct, .int .i64 j.wd, .int .i64 j.dg, .int .i64 j.wy, .int .i64 j.rw, .int .i64 j.ac, .int .i64 j.wi] 32)) w5.heap.size 32 (jobC (.slice A2 j.poly.length c2) j) from Blk.new w5 32 (jobC (.slice A2 j.poly.length c2) j))
        replace HB := Lib.hid (bel_trans HB.out bb)
        replace K5 := Lib.hid (K5.out.below bb K5.out.lt)
        replace O5 := Lib.hid (O5.out.bel bb)
        have O2 := Lib.hid (show Ints (w5.alloc (.cells #[.slice A2 j.poly.length c2, .int .i64 j.fr, .int .i64 j.ct, .int .i64 j.wd, .int .i64 j.dg, .int .i64 j.wy, .int .i64 j.rw, .int .i64 j.ac, .int .i64 j.wi] 32)) (.slice A2 j.poly.length c2) j.poly from o2.ints.bel bA)
        clear b bb bA o2 jin
        obtain ⟨a0, a1, a2, a3, a4, a5, a6, a7, a8⟩ := K5.out.job
        obtain ⟨d0, d1, d2, d3, d4, d5, d6, d7, d8⟩ := K2.out.job
        unfold jobV
        go_wp2_with fail
        clear a0 a1 a2 a3 a4 a5 a6 a7 a8 d0 d1 d2 d3 d4 d5 d6 d7 d8
        generalize hW : (w5.alloc (.cells #[.slice A2 j.poly.length c2, .int .i64 j.fr, .int .i64 j.ct, .int .i64 j.wd, .int .i64 j.dg, .int .i64 j.wy, .int .i64 j.rw, .int .i64 j.ac, .int .i64 j.wi] 32)) = w6 at K5 K2 HB O5 O2 ⊢
        clear hW
        change Calls _ _ #[(jobV (.slice A2 j.poly.length c2) j), (jobV (.slice A j.poly.length c) j)] w6 _
        refine (deJobs_any _ _ j _ O2.out O5.out).mono ?_
        rintro e w7 ⟨rfl, b⟩
        replace HB := Lib.hid (bel_trans HB.out b)
        clear b K2 O2 K5 O5
        go_wp2_with fail
        refine (drawParseJob_any _ more _ (HM.out.bel HB.out)).mono ?_
        rintro e w10 ⟨X, rfl, hx, b⟩
        replace HB := Lib.hid (bel_trans HB.out b)
        clear b
        obtain ⟨J2, T2, hR⟩ : ∃ J T, spR X = (J, T) := ⟨_, _, rfl⟩
        replace hR := Lib.hid hR
        go_wp2_with fail
        refine (implPJ_any X _ (by omega) (HG.out.bel HB.out)).mono ?_
        rintro e w11 ⟨⟨v3, he3, o3, jin⟩, b⟩
        rw [hR.out] at he3 o3 jin
        subst he3
        obtain ⟨A3, c3, rfl, -, -, -⟩ := o3.ints.open_
        have bA : Below w11.heap.size w11 (w11.alloc (.cells #[.slice A3 J2.poly.length c3, .int .i64 J2.fr, .int .i64 J2.ct, .int .i64 J2.wd, .int .i64 J2.dg, .int .i64 J2.wy, .int .i64 J2.rw, .int .i64 J2.ac, .int .i64 J2.wi] 32)) := bel_alloc w11 _
        have bb := bel_trans b bA
        have K3 := Lib.hid (show Blk (w11.alloc (.cells #[.slice A3 J2.poly.length c3, .int .i64 J2.fr, .int .i64 J2.ct, .int .i64 J2.wd, .int .i64 J2.dg, .int .i64 J2.wy, .int .i64 J2.rw, .int .i64 J2.ac, .int .i64 J2.wi] 32)) w11.heap.size 32 (jobC (.slice A3 J2.poly.length c3) J2) from Blk.new w11 32 (jobC (.slice A3 J2.poly.length c3) J2))
        replace HB := Lib.hid (bel_trans HB.out bb)
        have O3 := Lib.hid (o3.ints.bel bA)
        have HJ2 := Lib.hid (show J2.In from jin)
        replace O3 := Lib.hid (show Ints (w11.alloc (.cells #[.slice A3 J2.poly.length c3, .int .i64 J2.fr, .int .i64 J2.ct, .int .i64 J2.wd, .int .i64 J2.dg, .int .i64 J2.wy, .int .i64 J2.rw, .int .i64 J2.ac, .int .i64 J2.wi] 32)) (.slice A3 J2.poly.length c3) J2.poly from O3.out)
        clear b bb bA o3 jin
        unfold jobV
        go_wp2_with fail
        generalize hW : (w11.alloc (.cells #[.slice A3 J2.poly.length c3, .int .i64 J2.fr, .int .i64 J2.ct, .int .i64 J2.wd, .int .i64 J2.dg, .int .i64 J2.wy, .int .i64 J2.rw, .int .i64 J2.ac, .int .i64 J2.wi] 32)) = w12 at K3 HB O3 ⊢
        clear hW
        refine (specPJ_any X _ (by omega)).mono ?_
        rintro e w13 ⟨⟨v4, he4, o4, jin⟩, b⟩
        rw [hR.out] at he4 o4 jin
        subst he4
        obtain ⟨A4, c4, rfl, -, -, -⟩ := o4.ints.open_
        have bA : Below w13.heap.size w13 (w13.alloc (.cells #[.slice A4 J2.poly.length c4, .int .i64 J2.fr, .int .i64 J2.ct, .int .i64 J2.wd, .int .i64 J2.dg, .int .i64 J2.wy, .int .i64 J2.rw, .int .i64 J2.ac, .int .i64 J2.wi] 32)) := bel_alloc w13 _
        have bb := bel_trans b bA
        have K4 := Lib.hid (show Blk (w13.alloc (.cells #[.slice A4 J2.poly.length c4, .int .i64 J2.fr, .int .i64 J2.ct, .int .i64 J2.wd, .int .i64 J2.dg, .int .i64 J2.wy, .int .i64 J2.rw, .int .i64 J2.ac, .int .i64 J2.wi] 32)) w13.heap.size 32 (jobC (.slice A4 J2.poly.length c4) J2) from Blk.new w13 32 (jobC (.slice A4 J2.poly.length c4) J2))
        replace HB := Lib.hid (bel_trans HB.out bb)
        replace K3 := Lib.hid (K3.out.below bb K3.out.lt)
        replace O3 := Lib.hid (O3.out.bel bb)
        have O4 := Lib.hid (show Ints (w13.alloc (.cells #[.slice A4 J2.poly.length c4, .int .i64 J2.fr, .int .i64 J2.ct, .int .i64 J2.wd, .int .i64 J2.dg, .int .i64 J2.wy, .int .i64 J2.rw, .int .i64 J2.ac, .int .i64 J2.wi] 32)) (.slice A4 J2.poly.length c4) J2.poly from o4.ints.bel bA)
        clear b bb bA o4 jin
        obtain ⟨a0, a1, a2, a3, a4, a5, a6, a7, a8⟩ := K3.out.job
        obtain ⟨d0, d1, d2, d3, d4, d5, d6, d7, d8⟩ := K4.out.job
        unfold jobV
        go_wp2_with fail
        clear a0 a1 a2 a3 a4 a5 a6 a7 a8 d0 d1 d2 d3 d4 d5 d6 d7 d8
        generalize hW : (w13.alloc (.cells #[.slice A4 J2.poly.length c4, .int .i64 J2.fr, .int .i64 J2.ct, .int .i64 J2.wd, .int .i64 J2.dg, .int .i64 J2.wy, .int .i64 J2.rw, .int .i64 J2.ac, .int .i64 J2.wi] 32)) = w14 at K3 K4 HB O3 O4 ⊢
        clear hW
        change Calls _ _ #[(jobV (.slice A3 J2.poly.length c3) J2), (jobV (.slice A4 J2.poly.length c4) J2)] w14 _
        refine (deJobs_any _ _ J2 _ O3.out O4.out).mono ?_
        rintro e w15 ⟨rfl, b⟩
        replace HB := Lib.hid (bel_trans HB.out b)
        replace K3 := Lib.hid (K3.out.below b K3.out.lt)
        replace O3 := Lib.hid (O3.out.bel b)
        clear b K4 O4
        cases T2
        · go_wp2
          go_ret
          exact ⟨rfl, HB.out⟩
        · have HF := Lib.hid (fmt_parse hR.out)
          have hxx : (X.toList == X.toList) = true := by simp
          obtain ⟨a0, a1, a2, a3, a4, a5, a6, a7, a8⟩ := K3.out.job
          go_wp2_with fail
          clear a0 a1 a2 a3 a4 a5 a6 a7 a8
          change Calls _ _ #[(jobV (.slice A3 J2.poly.length c3) J2)] w15 _
          refine (implFmt_any _ J2 _ O3.out HJ2.out (HG.out.bel HB.out).1).mono ?_
          rw [HF.out]
          rintro e w16 ⟨rfl, b⟩
          replace HB := Lib.hid (bel_trans HB.out b)
          clear b
          go_wp2
          go_ret
          exact ⟨rfl, HB.out⟩
end Go.Proofs.YtdmadaebeooaaaaGreatDoor
