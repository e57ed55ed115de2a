/-
  Contracts of SumEngine, both.
-/
import Derived.Test.YthkpgcociklddaaJoinB
namespace Go.Proofs.Ythkpgcociklddaa
open Go.RowKit
set_option linter.unusedVariables false
set_option linter.unusedSimpArgs false
set_option maxRecDepth 100000
attribute [local go_sem ↓] Go.wp_at_zero Go.wp_at_succ

theorem sum_join {e : List ByteArray} {start : Int} (h1 : engOk e = true) (h2 : fits start (sat e 0).size = true) :
    joinE e [colOf start (sat e 0).size] = sumE e start ∧ joinOk e [colOf start (sat e 0).size] = sumOk e start := by
  by_cases h3 : e.length ≤ 6
  · have hs := sumOk_true.2 ⟨h1, h3, h2⟩
    rw [joinE_yes (sum_joinOk hs), sumE_yes hs, sum_joinOk hs, hs]
    exact ⟨rfl, rfl⟩
  · have hs : sumOk e start = false := by simp [sumOk, h3]
    have hj : joinOk e [colOf start (sat e 0).size] = false := joinOk_l (by simp; omega)
    rw [joinE_no hj, sumE_no hs, hj, hs]
    exact ⟨rfl, rfl⟩
theorem sumOk_e {e : List ByteArray} {start : Int} (h : engOk e = false) : sumOk e start = false := by simp [sumOk, h]
theorem sumOk_f {e : List ByteArray} {start : Int} (h : fits start (sat e 0).size = false) : sumOk e start = false := by simp [sumOk, h]
theorem sumOk_l {e : List ByteArray} {start : Int} (h : ¬ e.length ≤ 6) : sumOk e start = false := by simp [sumOk, h]
theorem one_str {w : World} {g : Nat} {c : ByteArray} (h : Blk w g 9 [.string c]) (hc : c.size ≤ 9223372036854775807) : Strs w (.slice (some ⟨g, 0, none⟩) 1 1) [c] :=
  (OwnS.mk' (base := 0) (cap := 1) (l := [c]) (Nat.zero_le _) h (Nat.le_refl _) (by omega) rfl (fun j hj => by
    obtain rfl : j = 0 := by simp at hj; omega
    rfl) (fun s hs => by simp at hs; rw [hs]; exact hc)).strs



end Go.Proofs.Ythkpgcociklddaa
