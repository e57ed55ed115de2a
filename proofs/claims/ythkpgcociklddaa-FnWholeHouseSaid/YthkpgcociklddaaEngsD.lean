/-
  The contract of impl.RunSteps.
-/
import Derived.Test.YthkpgcociklddaaEngsC
namespace Go.Proofs.Ythkpgcociklddaa
open Go.RowKit
set_option linter.unusedVariables false
set_option linter.unusedSimpArgs false
set_option maxRecDepth 100000
attribute [local go_sem ↓] Go.wp_at_zero Go.wp_at_succ

/-- A row of one's own with at least n cells, of which the first ones are those of xs. -/
def RowE (w : World) (base : Nat) (v : Value) (n : Nat) (xs : List Value) : Prop :=
  ∃ g cap cur, v = .slice (some ⟨g, 0, none⟩) n cap ∧ base ≤ g ∧ Blk w g 28 cur ∧ n ≤ cap ∧ cap ≤ 9223372036854775807 ∧ cur.length = cap ∧ ∀ i, i < n → xat cur i = xat xs i

/-- 'append([]Engine{}, x...)' -/
theorem app_engs {ops : Array Oper} {rest : List Oper} {o : Oper} {a : Act} {Q : Exit → Act → World → Prop} {w : World} (hgd : o.guard = none) (s x : Operand)
    (ho : o.op = .call { callee := .builtin .append, args := #[s, x], argTypes := #[37, 37] })
    (base g0 : Nat) (hs : a.eval s = .slice (some ⟨g0, 0, none⟩) 0 0) (hown : w.ownsRow base 28 1 (.slice (some ⟨g0, 0, none⟩) 0 0) 0 []) (b f n c : Nat) (xs : List Value) (hx : a.eval x = .slice (some ⟨b, f, none⟩) n c)
    (h1 : 1 ≤ n) (hl : n ≤ 1048576) (hcell : ∀ i, i < n → w.cell? ⟨b, f + i, none⟩ = some (xat xs i)) (hone : ∀ i, i < n → (xat xs i).oneCell' = true) (hbase : base ≤ w.heap.size)
    (h : ∀ v' w', RowE w' base v' n xs → w.grownBy w' (some g0) → wpList Try.prog ops Q rest (a.put o.dst v') w') : wpList Try.prog ops Q (o :: rest) a w := by
  obtain ⟨i0, hi, hz0, hz1, hz2⟩ := info_parts Try.infoEng
  have hyl : ((List.range n).map (xat xs)).length = n := by simp
  have hys : ∀ i, i < n → ((List.range n).map (xat xs))[i]? = some (xat xs i) := fun i hi => by simp [hi]
  refine wpList_append_own_at (P := Try.prog) w hgd s x 37 ho base 28 i0 _ 1 24 Try.underlying37 hi hz0 hz1 hz2 rfl (by omega) _ 0 [] hs hown ⟨b, f, none⟩ n c ((List.range n).map (xat xs)) hx (by rw [hyl]; omega) ?_ ?_ (by unfold maxLen; omega) (by omega) hbase ?_
  · intro j u hj
    have hjn : j < n := by
      rcases Nat.lt_or_ge j n with q | q
      · exact q
      · rw [List.getElem?_eq_none (by rw [hyl]; exact q)] at hj; cases hj
    rw [hys j hjn] at hj
    injection hj with hj
    subst hj
    rw [Addr.add_lit]
    exact hcell j hjn
  · intro u hu
    simp only [List.mem_map, List.mem_range] at hu
    obtain ⟨i, hi, rfl⟩ := hu
    exact hone i hi
  · intro v' w' h2 h3 _ _
    refine h v' w' ?_ h3
    rw [Nat.zero_add, List.nil_append] at h2
    rcases h2.2 with ⟨_, hn⟩ | ⟨g, cap, cur, rfl, hg, hh, hnc, hcm, hsz, ht⟩
    · omega
    · refine ⟨g, cap, cur.toList, rfl, hg, hh, hnc, by unfold maxLen at hcm; omega, by simpa using hsz, fun i hi => ?_⟩
      have e := hys i hi
      rw [← ht, List.getElem?_take, if_pos (by omega)] at e
      simp [xat, List.getD, e]


/-- How often engine i has turned ahead of step k, of n engines in turns. -/
def trn (n i k : Nat) : Nat := if i < k % n then k / n + 1 else k / n
theorem trn_zero (n i : Nat) : trn n i 0 = 0 := by unfold trn; rw [Nat.zero_mod, Nat.zero_div, if_neg (by omega)]
theorem trn_at {n k : Nat} : trn n (k % n) k = k / n := by unfold trn; rw [if_neg (by omega)]
theorem trn_succ {n i k : Nat} (hi : i < n) : trn n i (k + 1) = if i = k % n then trn n i k + 1 else trn n i k := by
  obtain ⟨q, hq⟩ : ∃ q, q = k / n := ⟨_, rfl⟩
  obtain ⟨r, hr⟩ : ∃ r, r = k % n := ⟨_, rfl⟩
  have hrn : r < n := by rw [hr]; exact Nat.mod_lt _ (by omega)
  have hk : k = n * q + r := by rw [hq, hr]; exact (Nat.div_add_mod k n).symm
  unfold trn
  rw [← hq, ← hr]
  by_cases h : r + 1 < n
  · have h1 : (k + 1) / n = q := by rw [hk, Nat.add_assoc, Nat.mul_add_div (by omega), Nat.div_eq_of_lt h]; rfl
    have h2 : (k + 1) % n = r + 1 := by rw [hk, Nat.add_assoc, Nat.mul_add_mod, Nat.mod_eq_of_lt h]
    rw [h1, h2]
    by_cases e : i = r
    · rw [if_pos e, if_pos (by omega), if_neg (by omega)]
    · rw [if_neg e]
      by_cases e2 : i < r
      · rw [if_pos e2, if_pos (by omega)]
      · rw [if_neg e2, if_neg (by omega)]
  · have hn : r + 1 = n := by omega
    have h1 : (k + 1) / n = q + 1 := by rw [hk, Nat.add_assoc, hn, Nat.mul_add_div (by omega), Nat.div_self (by omega)]
    have h2 : (k + 1) % n = 0 := by rw [hk, Nat.add_assoc, hn, Nat.mul_add_mod, Nat.mod_self]
    rw [h1, h2, if_neg (by omega)]
    by_cases e : i = r
    · rw [if_pos e, if_neg (by omega)]
    · rw [if_neg e, if_pos (by omega)]
theorem trn_le (n i k : Nat) (h : k ≤ 60) : trn n i k ≤ 61 := by
  unfold trn
  have := Nat.div_le_self k n
  split <;> omega


end Go.Proofs.Ythkpgcociklddaa
