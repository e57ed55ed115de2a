/-
  What the laws of schedules ask, in plain numbers.
-/
import Derived.Test.YtegofpfhlhfdnaaSchedPlain
namespace Go.Proofs.Ytegofpfhlhfdnaa
open Go.RowKit
set_option linter.unusedVariables false

theorem spanV_max {t g : List Int} {e : Int} (h : schedOk t e = true) (hg : g.length = t.length) (k : Nat) : spanV t g k ≤ 8000 := by
  obtain ⟨h1, h2, h3, h4⟩ := schedOk_true h
  exact (spanV_bd k h4 (by omega)).2
theorem least_yes {t : List Int} {k : Nat} (h : schedOk t k = true) : leastSpan t k = spanV t (best t k) k := by
  rw [leastSpan, if_pos h, Int.toNat_natCast]
theorem least_no {t : List Int} {e : Int} (h : schedOk t e = false) : leastSpan t e = -1 := by simp [leastSpan, h]
theorem greedy_ok {t : List Int} {k : Nat} (h : schedOk t k = true) : (greedy t k).length = t.length ∧ namesOk (greedy t k) k = true := by
  obtain ⟨h1, h2, h3, h4⟩ := schedOk_true h
  rw [greedy, if_pos h, Int.toNat_natCast]
  exact ⟨greedyTo_length _ _ _, greedyTo_names t (by omega) _⟩

/-- What the greedy law asks. -/
theorem greedy_law {t : List Int} {k : Nat} (h : schedOk t k = true) :
    ∃ s m : Int, spanOf t (greedy t k) k = s ∧ leastSpan t k = m ∧ (greedy t k).length = t.length ∧ 0 ≤ m ∧ m ≤ s ∧ s ≤ 8000 ∧ s * (k : Int) ≤ m * (2 * (k : Int) - 1) := by
  obtain ⟨h1, h2, h3, h4⟩ := schedOk_true h
  obtain ⟨g1, g2⟩ := greedy_ok h
  obtain ⟨b1, b2⟩ := best_ok h
  have hb := (best_min h).1 _ g2 g1
  have hg : spanV t (greedy t k) k * k ≤ tsum t + (k - 1 : Nat) * tmax t := by
    have := greedy_span (t := t) (k := k) (by omega) (fun i => (h4 i).1)
    rw [greedy, if_pos h, Int.toNat_natCast]
    exact this
  have hm := span_mul (by omega) b1 b2
  have hx := tmax_le (fun i => (h4 i).1) b1 b2
  refine ⟨_, _, spanOf_V h g1 g2, least_yes h, g1, span_nonneg _ _ _, hb, spanV_max h g1 k, ?_⟩
  have hk : k = 1 ∨ k = 2 ∨ k = 3 := by omega
  generalize spanV t (greedy t k) k = S at hb hg ⊢
  generalize spanV t (best t k) k = M at hb hm hx ⊢
  rcases hk with rfl | rfl | rfl <;> simp at hg hm ⊢ <;> omega

/-- What the law of the least span asks, said of the times turned round. -/
theorem least_law {t : List Int} {k : Nat} (h : schedOk t k = true) :
    ∃ m f : Int, leastSpan t k = m ∧ leastSpan (turnedL t) k = m ∧ leastSpan t ((k : Int) - 1) = f ∧ 0 ≤ m ∧ m ≤ 8000 ∧ tmax (turnedL t) ≤ m ∧ tsum (turnedL t) ≤ m * (k : Int) ∧ m ≤ tsum (turnedL t) ∧
      m * (k : Int) ≤ tsum (turnedL t) + ((k : Int) - 1) * tmax (turnedL t) ∧ (f = -1 ∨ m ≤ f ∧ f ≤ tsum (turnedL t)) := by
  obtain ⟨h1, h2, h3, h4⟩ := schedOk_true h
  have h' := sched_turned h
  obtain ⟨_, _, _, h4'⟩ := schedOk_true h'
  obtain ⟨b1, b2⟩ := best_ok h'
  obtain ⟨g1, g2⟩ := greedy_ok h'
  have ht := least_turned h
  have hb := (best_min h').1 _ g2 g1
  have hg : spanV (turnedL t) (greedy (turnedL t) k) k * k ≤ tsum (turnedL t) + (k - 1 : Nat) * tmax (turnedL t) := by
    have := greedy_span (t := turnedL t) (k := k) (by omega) (fun i => (h4' i).1)
    rw [greedy, if_pos h', Int.toNat_natCast]
    exact this
  have hm := span_mul (by omega) b1 b2
  have hx := tmax_le (fun i => (h4' i).1) b1 b2
  have hs := span_sum (e := k) (fun i => (h4' i).1) b1
  have h8 := spanV_max h' b1 k
  have h0 := span_nonneg (turnedL t) (best (turnedL t) k) k
  have hf : leastSpan t ((k : Int) - 1) = -1 ∨ spanV t (best t k) k ≤ leastSpan t ((k : Int) - 1) ∧ leastSpan t ((k : Int) - 1) ≤ tsum (turnedL t) := by
    cases q : schedOk t ((k : Int) - 1)
    · exact .inl (least_no q)
    · right
      obtain ⟨j, rfl⟩ : ∃ j, k = j + 1 := ⟨k - 1, by omega⟩
      rw [show ((j + 1 : Nat) : Int) - 1 = (j : Int) by omega] at q ⊢
      have h5 := least_more q h
      rw [least_yes q]
      refine ⟨h5, ?_⟩
      rw [← least_turned q]
      have hq := sched_turned q
      exact span_sum (fun i => (h4' i).1) (best_ok hq).1
  rw [← ht] at hf
  refine ⟨_, _, by rw [least_yes h, ← ht], least_yes h', rfl, h0, h8, hx, hm, hs, ?_, hf⟩
  have hk : k = 1 ∨ k = 2 ∨ k = 3 := by omega
  clear hf ht
  generalize spanV (turnedL t) (greedy (turnedL t) k) k = S at hb hg ⊢
  generalize spanV (turnedL t) (best (turnedL t) k) k = M at hb hm hx hs ⊢
  rcases hk with rfl | rfl | rfl <;> simp at hg hm ⊢ <;> omega

/-- What the law of the best schedule asks. -/
theorem best_law {t : List Int} {k : Nat} (h : schedOk t k = true) :
    ∃ m s : Int, spanOf t (best t k) k = m ∧ leastSpan t k = m ∧ spanOf t (greedy t k) k = s ∧ m ≤ s ∧ (∀ g, g.length = t.length → namesOk g k = true → m ≤ spanOf t g k) ∧ (best t k).length = t.length ∧ (0 < t.length → at_ (best t k) 0 = 0) := by
  obtain ⟨h1, h2, h3, h4⟩ := schedOk_true h
  obtain ⟨g1, g2⟩ := greedy_ok h
  obtain ⟨b1, b2⟩ := best_ok h
  exact ⟨_, _, spanOf_V h b1 b2, least_yes h, spanOf_V h g1 g2, (best_min h).1 _ g2 g1, fun g e1 e2 => by rw [spanOf_V h e1 e2]; exact (best_min h).1 _ e2 e1, b1, best_first h⟩

/-- What the law of spans asks. -/
theorem span_law {t g : List Int} {k : Nat} (h : schedOk t k = true) (hl : g.length = t.length) (hg : namesOk g k = true) :
    ∃ s m : Int, spanOf t g k = s ∧ leastSpan t k = m ∧ 0 ≤ s ∧ s ≤ 8000 ∧ m ≤ s ∧ (∀ j, j < k → load t g j t.length ≤ s) ∧ sumTo (fun j => load t g j t.length) k ≤ s * (k : Int) ∧ (s = 0 ∨ ∃ j, j < k ∧ load t g j t.length = s) := by
  obtain ⟨h1, h2, h3, h4⟩ := schedOk_true h
  refine ⟨_, _, spanOf_V h hl hg, least_yes h, span_nonneg _ _ _, spanV_max h hl k, (best_min h).1 _ hg hl, fun j hj => ?_, ?_, ?_⟩
  · rw [← hl]; exact span_ge hj
  · have := loads_sum (t := t) (g := g) (e := k) g.length (fun j hj => namesOk_at hg hj)
    rw [← hl, this, hl]
    exact span_mul (by omega) hl hg
  · rcases span_at t g k with q | ⟨j, hj, q⟩
    · exact .inl q
    · exact .inr ⟨j, hj, by rw [← hl]; exact q.symm⟩

end Go.Proofs.Ytegofpfhlhfdnaa
