/-
  A text cut at a byte: l9Cut (spec).
-/
import Derived.Test.YtdmadaebeooaaaaGreatDoorPjJ
namespace Go.Proofs.YtdmadaebeooaaaaGreatDoor
open Go.RowKit
set_option linter.unusedVariables false
set_option linter.unusedSimpArgs false
set_option maxRecDepth 100000
attribute [local go_sem ↓] Go.wp_at_zero Go.wp_at_succ

/-- Bytes f to n of a text. -/
def mid (l : List UInt8) (f n : Nat) : List UInt8 := (l.drop f).take (n - f)
theorem mid_next {l : List UInt8} {f n : Nat} {b : UInt8} (hf : f ≤ n) (h : l[n]? = some b) : mid l f (n + 1) = mid l f n ++ [b] := by
  unfold mid
  rw [show n + 1 - f = (n - f) + 1 by omega, List.take_add_one, List.getElem?_drop, show f + (n - f) = n by omega, h]
  rfl
theorem mid_none (l : List UInt8) (n : Nat) : mid l n n = [] := by simp [mid]
theorem drop_at {l : List UInt8} {n : Nat} {b : UInt8} (h : l[n]? = some b) : l.drop n = b :: l.drop (n + 1) := by
  obtain ⟨hn, rfl⟩ := List.getElem?_eq_some_iff.1 h
  exact List.drop_eq_getElem_cons hn
theorem cut_step_hit {c : UInt8} {l : List UInt8} {f n : Nat} {P X : List (List UInt8)} (hf : f ≤ n) (h : l[n]? = some c) (hx : P ++ glue (mid l f n) (cutB c (l.drop n)) = X) : (P ++ [mid l f n]) ++ glue (mid l (n + 1) (n + 1)) (cutB c (l.drop (n + 1))) = X := by
  rw [drop_at h, cutB_hit] at hx
  rw [← hx, mid_none, glue_nil (cutB_ne c _)]
  simp [glue]
theorem cut_step_miss {b c : UInt8} {l : List UInt8} {f n : Nat} {P X : List (List UInt8)} (hf : f ≤ n) (h : l[n]? = some b) (hb : b ≠ c) (hx : P ++ glue (mid l f n) (cutB c (l.drop n)) = X) : P ++ glue (mid l f (n + 1)) (cutB c (l.drop (n + 1))) = X := by
  rw [drop_at h, cutB_miss hb, glue_glue, ← mid_next hf h] at hx
  exact hx
theorem cut_step_end {c : UInt8} {l : List UInt8} {f : Nat} {P X : List (List UInt8)} (hx : P ++ glue (mid l f l.length) (cutB c (l.drop l.length)) = X) : P ++ [mid l f l.length] = X := by
  rw [List.drop_length] at hx
  rw [← hx]
  simp [cutB, glue]
theorem mid_extract (s : ByteArray) (f n : Nat) : s.extract f n = baL (mid s.data.toList f n) := by
  apply ByteArray.ext
  apply Array.toList_inj.1
  unfold mid baL
  simp
theorem byte_at (s : ByteArray) (n : Nat) (h : n < s.size) : s.data.toList[n]? = some s[n] := by
  rw [List.getElem?_eq_getElem (by exact h)]
  rfl
/-- The pieces when the loop stands at byte n and the last piece begins at f. -/
def CutAt (c : UInt8) (s : ByteArray) (L : List ByteArray) (f n : Nat) : Prop := ∃ P : List (List UInt8), L = P.map baL ∧ P.length ≤ n ∧
  ((n ≤ s.size ∧ f ≤ n ∧ P ++ glue (mid s.data.toList f n) (cutB c (s.data.toList.drop n)) = cutB c s.data.toList) ∨ (n = s.size + 1 ∧ P = cutB c s.data.toList))

set_option maxHeartbeats 4000000 in
theorem l9Cut_any (s : ByteArray) (c : UInt8) (w : World) (hs : s.size ≤ 1048576) :
    Calls Tryz.prog 34 #[.string s, .int .u8 c.toNat] w fun e w' => ∃ r, e = .returned r ∧ OwnS w' w.heap.size r (cutS c s) ∧ Below w.heap.size w w' := by
  have O0 := OwnS.empty w w.heap.size (Nat.le_refl _)
  have B0 := bel_alloc w (.cells #[] 9)
  go_enter Tryz.func34, Tryz.ntmps34
  go_wp2_with fail
  generalize hW : w.alloc (.cells #[] 9) = w1 at *
  clear hW
  go_loopw [5, 6, 7] (fun v f i wr => ∃ (L : List ByteArray) (f0 n : Nat), CutAt c s L f0 n ∧ f = .int .i64 f0 ∧ i = .int .i64 n ∧ OwnS wr w.heap.size v L ∧ Below w.heap.size w wr) (fun _ _ i _ => s.size + 1 - (intOf i).toNat)
  case atStart => exact ⟨[], 0, 0, ⟨[], rfl, Nat.le_refl _, .inl ⟨Nat.zero_le _, Nat.le_refl _, by rw [mid_none]; simp [glue_nil (cutB_ne _ _)]⟩⟩, rfl, rfl, O0, B0⟩
  case round =>
    obtain ⟨L, f0, n, ⟨P, hLP, hPn, hC⟩, rfl, rfl, hO, hb⟩ := hrel
    have HO := Lib.hid hO
    have HB := Lib.hid hb
    have hz := hb.size
    have hLn : L.length ≤ n := by rw [hLP, List.length_map]; exact hPn
    clear hO hb O0 B0
    rcases hC with ⟨h1, h2, h3⟩ | ⟨h1, h2⟩
    · have H3 := Lib.hid h3
      clear h3
      have hxs : (s.extract f0 n).size ≤ 9223372036854775807 := by rw [ByteArray.size_extract]; omega
      have EX := Lib.hid (mid_extract s f0 n)
      by_cases hn : n < s.size
      · have hby := byte_at s n hn
        have HBY := Lib.hid hby
        clear hby
        have hne : ((n : Int) == (s.size : Int)) = false := by simp; omega
        have hni : ¬ (n : Int) = (s.size : Int) := by omega
        cases hq : ((s[n].toNat : Int) == (c.toNat : Int))
        · have HQ := Lib.hid (show s[n] ≠ c from fun e => by rw [e] at hq; simp at hq)
          go_wp2
          go_roundw
          case rel => exact ⟨L, f0, n + 1, ⟨P, hLP, by omega, .inl ⟨hn, by omega, cut_step_miss h2 HBY.out HQ.out H3.out⟩⟩, rfl, by go_num, HO.out, HB.out⟩
          case measure => simp [intOf]; omega
        · have HQ := Lib.hid (show s[n] = c from by have e : (s[n].toNat : Int) = (c.toNat : Int) := by simpa using hq
                                                    exact UInt8.toNat_inj.1 (by omega))
          go_wp2_with (at_builtin; go_must (refine app_str rfl (.tmp 26) (.tmp 31) (by rfl) w.heap.size _ L (by rfl) (by exact HO.out.bel (bel_alloc _ _)) _ _ (s.extract f0 n) (by rfl) (by exact new_cell _ _ _) hxs (by omega) (by simp; omega) ?_; intro v6 w6 ho6 hg6 hat6; have B6 := (HB.out.alloc hz (.cells #[.string (s.extract f0 n)] 9)).trans (below_own (base := w.heap.size) hg6 (by simp; omega) (fun q hq => by have := (HO.out.lt q hq).1; omega))))
          go_roundw
          case rel =>
            refine ⟨L ++ [s.extract f0 n], n + 1, n + 1, ⟨P ++ [mid s.data.toList f0 n], by rw [hLP, EX.out, List.map_append]; rfl, by simp; omega, .inl ⟨hn, Nat.le_refl _, cut_step_hit h2 ?_ H3.out⟩⟩, by go_num, by go_num, ho6, B6⟩
            rw [HBY.out, HQ.out]
          case measure => simp [intOf]; omega
      · have hns : n = s.size := by omega
        subst hns
        go_wp2_with (at_builtin; go_must (refine app_str rfl (.tmp 26) (.tmp 31) (by rfl) w.heap.size _ L (by rfl) (by exact HO.out.bel (bel_alloc _ _)) _ _ (s.extract f0 s.size) (by rfl) (by exact new_cell _ _ _) hxs (by omega) (by simp; omega) ?_; intro v6 w6 ho6 hg6 hat6; have B6 := (HB.out.alloc hz (.cells #[.string (s.extract f0 s.size)] 9)).trans (below_own (base := w.heap.size) hg6 (by simp; omega) (fun q hq => by have := (HO.out.lt q hq).1; omega))))
        go_roundw
        case rel =>
          refine ⟨L ++ [s.extract f0 s.size], s.size + 1, s.size + 1, ⟨P ++ [mid s.data.toList f0 s.size], by rw [hLP, EX.out, List.map_append]; rfl, by simp; omega, .inr ⟨rfl, ?_⟩⟩, by go_num, by go_num, ho6, B6⟩
          exact cut_step_end H3.out
        case measure => simp [intOf]
    · subst h1
      have HE := Lib.hid (show L = cutS c s by rw [hLP, h2]; rfl)
      go_wp2
      go_ret
      exact ⟨_, rfl, by rw [← HE.out]; exact HO.out, HB.out⟩
end Go.Proofs.YtdmadaebeooaaaaGreatDoor
