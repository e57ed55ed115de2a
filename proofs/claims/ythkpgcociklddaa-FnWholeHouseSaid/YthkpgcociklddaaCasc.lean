/-
  The contract of impl.CascadeTurn.
-/
import Derived.Test.YthkpgcociklddaaTurnS
import Derived.Test.YthkpgcociklddaaJoin
namespace Go.Proofs.Ythkpgcociklddaa
open Go.RowKit
set_option linter.unusedVariables false
set_option linter.unusedSimpArgs false
set_option maxRecDepth 100000
attribute [local go_sem ↓] Go.wp_at_zero Go.wp_at_succ

def cA (a b : List ByteArray) : List ByteArray := if joinOk a b = true then turnS a else []
def cB (a b : List ByteArray) : List ByteArray := if joinOk a b = true then cascB a b else []
theorem cAB_no {a b : List ByteArray} (h : joinOk a b = false) : cA a b = [] ∧ cB a b = [] := by simp [cA, cB, h]
theorem cAB_yes {a b : List ByteArray} (h : joinOk a b = true) : cA a b = turnS a ∧ cB a b = cascB a b := by simp [cA, cB, h]
theorem cA_len {a b : List ByteArray} : (cA a b).length ≤ a.length := by
  unfold cA; split
  · rw [turnS_length]; exact Nat.le_refl _
  · simp
theorem cB_len {a b : List ByteArray} : (cB a b).length ≤ b.length := by
  unfold cB; split
  · rw [cascB_length]; exact Nat.le_refl _
  · simp
theorem casc_set {a b : List ByteArray} {cs : List Value} {k : Nat} (hk : k + 1 = b.length) (hc : b.length ≤ cs.length) (h : ∀ j, j < b.length → cs[j]? = some (.string (sat (turnS b) j))) :
    ∀ j, j < b.length → (cs.set k (.string (addC (sat b k) (sat a 0))))[j]? = some (.string (sat (cascB a b) j)) := by
  intro j hj
  by_cases e : j = k
  · subst e
    rw [List.getElem?_set_self (by omega), cascB, at_genS hj, if_neg (by omega)]
  · rw [List.getElem?_set_ne (by omega), h j hj, cascB, at_genS hj, turnS_at hj, if_pos (by omega), if_pos (by omega)]
theorem own_casc {w : World} {base g cap : Nat} {cs : List Value} {a b : List ByteArray} (ok : joinOk a b = true) (hg : base ≤ g) (hb : Blk w g 9 cs) (hl : b.length ≤ cap) (hc : cap ≤ 9223372036854775807) (hs : cs.length = cap)
    (h : ∀ j, j < b.length → cs[j]? = some (.string (sat (cascB a b) j))) : OwnS w base (.slice (some ⟨g, 0, none⟩) b.length cap) (cascB a b) := by
  have := OwnS.mk' (l := cascB a b) hg hb (by rw [cascB_length]; exact hl) hc hs (fun j hj => by rw [cascB_length] at hj; exact h j hj) (eng_wf (joinOk_true.1 (joinOk_turn ok)).2.1)
  rwa [cascB_length] at this


end Go.Proofs.Ythkpgcociklddaa
