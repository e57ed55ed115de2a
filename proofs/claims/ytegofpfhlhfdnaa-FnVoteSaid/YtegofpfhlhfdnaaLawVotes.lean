/-
  The laws FnFaulty and FnVote, walked.
-/
import Derived.Test.YtegofpfhlhfdnaaVoteB
import Derived.Test.YtegofpfhlhfdnaaDrawV
import Derived.Test.YtegofpfhlhfdnaaInter
namespace Go.Proofs.Ytegofpfhlhfdnaa
open Go.RowKit
set_option linter.unusedVariables false
set_option maxRecDepth 100000

theorem eqL_iff {l m : List Int} : eqL l m = true ↔ l = m := by simp [eqL]
theorem eqL_comm (l m : List Int) : eqL l m = eqL m l := by
  rw [Bool.eq_iff_iff, eqL_iff, eqL_iff, eq_comm]
theorem threeOk_iff {a b c : List Int} : threeOk a b c = true ↔ tableOk a = true ∧ tableOk b = true ∧ tableOk c = true ∧ a.length = b.length ∧ a.length = c.length := by
  simp only [threeOk, alikeOk, Bool.and_eq_true, decide_eq_true_eq]
  constructor
  · rintro ⟨⟨⟨h1, h2⟩, h3⟩, ⟨_, h4⟩, h5⟩
    exact ⟨h1, h2, h4, h3, h5⟩
  · rintro ⟨h1, h2, h4, h3, h5⟩
    exact ⟨⟨⟨h1, h2⟩, h3⟩, ⟨h1, h4⟩, h5⟩
theorem three_rot (a b c : List Int) : threeOk c a b = threeOk a b c := by
  rw [Bool.eq_iff_iff, threeOk_iff, threeOk_iff]
  constructor
  · rintro ⟨h1, h2, h3, h4, h5⟩; exact ⟨h2, h3, h1, by omega, by omega⟩
  · rintro ⟨h1, h2, h3, h4, h5⟩; exact ⟨h3, h1, h2, by omega, by omega⟩
theorem three_swap (a b c : List Int) : threeOk b a c = threeOk a b c := by
  rw [Bool.eq_iff_iff, threeOk_iff, threeOk_iff]
  constructor
  · rintro ⟨h1, h2, h3, h4, h5⟩; exact ⟨h2, h1, h3, by omega, by omega⟩
  · rintro ⟨h1, h2, h3, h4, h5⟩; exact ⟨h2, h1, h3, by omega, by omega⟩
theorem faulty_no {a b c : List Int} (h : threeOk a b c = false) : faulty a b c = -3 := by simp [faulty, h]

/-- What the law of the faulty one asks. -/
theorem faulty_law {a b c : List Int} (h : threeOk a b c = true) :
    (eqL a b = true ∧ eqL a c = true ∧ eqL b c = true ∧ faulty a b c = -1 ∧ faulty b c a = -1) ∨ (eqL a b = true ∧ eqL a c = false ∧ eqL b c = false ∧ faulty a b c = 2 ∧ faulty b c a = 1) ∨
    (eqL a b = false ∧ eqL a c = true ∧ eqL b c = false ∧ faulty a b c = 1 ∧ faulty b c a = 0) ∨ (eqL a b = false ∧ eqL a c = false ∧ eqL b c = true ∧ faulty a b c = 0 ∧ faulty b c a = 2) ∨
    (eqL a b = false ∧ eqL a c = false ∧ eqL b c = false ∧ faulty a b c = -2 ∧ faulty b c a = -2) := by
  have h1 := faulty_cases h
  have h2 := faulty_cases (a := b) (b := c) (c := a) (by rw [← three_rot b c a] ; exact h)
  rw [eqL_comm b a, eqL_comm c a] at h2
  rcases h1 with ⟨e1, e2, e3, f⟩ | ⟨e1, e2, e3, f⟩ | ⟨e1, e2, e3, f⟩ | ⟨e1, e2, e3, f⟩ | ⟨e1, e2, e3, f⟩ <;> rw [e1, e2, e3] at h2 <;> simp at h2 <;> simp [e1, e2, e3, f, h2]

theorem vok_rot (x y z : Int) : vok z x y = vok x y z := by
  rw [Bool.eq_iff_iff]; simp only [vok, Bool.or_eq_true, beq_iff_eq]; omega
theorem vok_swap (x y z : Int) : vok y x z = vok x y z := by
  rw [Bool.eq_iff_iff]; simp only [vok, Bool.or_eq_true, beq_iff_eq]; omega
theorem vpick_rot {x y z : Int} (h : vok x y z = true) : vpick z x y = vpick x y z := by
  simp only [vok, Bool.or_eq_true, beq_iff_eq] at h
  unfold vpick
  split <;> split <;> omega
theorem vpick_swap {x y z : Int} (h : vok x y z = true) : vpick y x z = vpick x y z := by
  simp only [vok, Bool.or_eq_true, beq_iff_eq] at h
  unfold vpick
  split <;> split <;> omega
theorem vAll_iff {a b c : List Int} : vAll a b c = true ↔ ∀ k, k < a.length → vok (at_ a k) (at_ b k) (at_ c k) = true := by
  simp [vAll]
theorem vote_perm {a b c a' b' c' : List Int} (h3 : threeOk a' b' c' = threeOk a b c) (hl : threeOk a b c = true → a'.length = a.length)
    (ho : ∀ k, vok (at_ a' k) (at_ b' k) (at_ c' k) = vok (at_ a k) (at_ b k) (at_ c k))
    (hp : ∀ k, vok (at_ a k) (at_ b k) (at_ c k) = true → vpick (at_ a' k) (at_ b' k) (at_ c' k) = vpick (at_ a k) (at_ b k) (at_ c k)) :
    voteOk a' b' c' = voteOk a b c ∧ voteR a' b' c' = voteR a b c := by
  have e : voteOk a' b' c' = voteOk a b c := by
    unfold voteOk
    rw [h3]
    cases h : threeOk a b c
    · rfl
    · have := hl h
      simp only [Bool.true_and]
      unfold vAll
      rw [this]
      congr 1
      funext k
      exact ho k
  refine ⟨e, ?_⟩
  unfold voteR
  rw [e]
  by_cases h : voteOk a b c = true
  · rw [if_pos h, if_pos h]
    simp only [voteOk, Bool.and_eq_true] at h
    have hlen := hl h.1
    refine list_ext (by rw [gen_length, gen_length, hlen]) fun j hj => ?_
    rw [gen_length] at hj
    rw [at_gen hj, at_gen (by omega)]
    exact hp j (vAll_iff.1 h.2 j (by omega))
  · rw [if_neg h, if_neg h]
theorem vote_rot (a b c : List Int) : voteOk c a b = voteOk a b c ∧ voteR c a b = voteR a b c :=
  vote_perm (three_rot a b c) (fun h => (threeOk_true h).2.2.2.2.symm) (fun k => vok_rot _ _ _) (fun k h => vpick_rot h)
theorem vote_swap (a b c : List Int) : voteOk b a c = voteOk a b c ∧ voteR b a c = voteR a b c :=
  vote_perm (three_swap a b c) (fun h => (threeOk_true h).2.2.2.1.symm) (fun k => vok_swap _ _ _) (fun k h => vpick_swap h)
theorem vote_first {a b c : List Int} (h : threeOk a b c = true) (he : a = b ∨ a = c) : voteOk a b c = true ∧ voteR a b c = a := by
  have hp : ∀ k, vok (at_ a k) (at_ b k) (at_ c k) = true ∧ vpick (at_ a k) (at_ b k) (at_ c k) = at_ a k := fun k => by
    rcases he with rfl | rfl <;> simp [vok, vpick]
  have e : voteOk a b c = true := by rw [voteOk, h, vAll_iff.2 fun k _ => (hp k).1]; rfl
  refine ⟨e, ?_⟩
  rw [voteR, if_pos e]
  refine list_ext (gen_length _ _) fun j hj => ?_
  rw [gen_length] at hj
  rw [at_gen hj]
  exact (hp j).2
/-- What the law of votes asks. -/
theorem vote_law (a b c : List Int) :
    ((faulty a b c = -1 ∨ faulty a b c = 1 ∨ faulty a b c = 2) ∧ voteOk a b c = true ∧ voteR a b c = a) ∨ (faulty a b c = 0 ∧ voteOk a b c = true ∧ voteR a b c = b) ∨ faulty a b c = -2 ∨ faulty a b c = -3 := by
  cases h : threeOk a b c
  · exact .inr (.inr (.inr (faulty_no h)))
  · rcases faulty_cases h with ⟨e1, e2, e3, f⟩ | ⟨e1, e2, e3, f⟩ | ⟨e1, e2, e3, f⟩ | ⟨e1, e2, e3, f⟩ | ⟨e1, e2, e3, f⟩
    · exact .inl ⟨.inl f, vote_first h (.inl (eqL_iff.1 e1))⟩
    · exact .inl ⟨.inr (.inr f), vote_first h (.inl (eqL_iff.1 e1))⟩
    · exact .inl ⟨.inr (.inl f), vote_first h (.inr (eqL_iff.1 e2))⟩
    · have hs := vote_swap a b c
      have := vote_first (a := b) (b := a) (c := c) (by rw [three_swap]; exact h) (.inr (eqL_iff.1 e3))
      rw [hs.1, hs.2] at this
      exact .inr (.inl ⟨f, this⟩)
    · exact .inr (.inr (.inl f))

set_option maxHeartbeats 1500000 in
theorem lawFaulty (v : Value) (code : List Int) (w : World) (hv : Bytes w v code) :
    Calls Try.prog 6 #[v] w fun e w' => e = .returned (.bool true) ∧ Below w.heap.size w w' := by
  have HV := Lib.hid hv
  obtain ⟨A, c, rfl, hlc, hc, hrd⟩ := hv.open_
  clear hrd hv
  by_cases hbig : (1048576 : Int) < (code.length : Int)
  · go_enter Try.func6, Try.ntmps6
    go_wp2
    go_ret
    exact ⟨rfl, Below.refl _ _⟩
  · go_enter Try.func6, Try.ntmps6
    go_wp2_with fail
    refine (drawFaulty_any _ _ _ HV.out).mono ?_; rintro e w1 ⟨va, vb, vc, l, m, n, rfl, h1, h2, h3, b1⟩
    have H1 := Lib.hid (And.intro h1 (And.intro h2 (And.intro h3 b1)))
    clear h1 h2 h3 b1
    cases h3 : threeOk l m n
    · have EN := Lib.hid (faulty_no h3)
      go_wp2_with fail
      refine (implFaulty_any _ _ _ _ _ _ _ H1.out.1 H1.out.2.1 H1.out.2.2.1).mono ?_
      rw [EN.out]
      rintro e w2 ⟨rfl, b2⟩
      have H2 := Lib.hid (And.intro (H1.out.1.bel b2) (And.intro (H1.out.2.1.bel b2) (And.intro (H1.out.2.2.1.bel b2) (bel_trans H1.out.2.2.2 b2))))
      clear b2
      go_wp2_with fail
      refine (specFaulty_any _ _ _ _ _ _ _ H2.out.1 H2.out.2.1 H2.out.2.2.1).mono ?_
      rw [EN.out]
      rintro e w3 ⟨rfl, b3⟩
      have H3 := Lib.hid (And.intro (H2.out.1.bel b3) (And.intro (H2.out.2.1.bel b3) (And.intro (H2.out.2.2.1.bel b3) (bel_trans H2.out.2.2.2 b3))))
      clear b3
      go_wp2_with fail
      refine (specFaulty_any _ _ _ _ _ _ _ H3.out.1 H3.out.2.1 H3.out.2.2.1).mono ?_
      rw [EN.out]
      rintro e w4 ⟨rfl, b4⟩
      go_wp2
      go_ret
      exact ⟨rfl, bel_trans H3.out.2.2.2 b4⟩
    · have HF := Lib.hid (faulty_law h3)
      rcases HF.out with ⟨e1, e2, e3, f1, f2⟩ | ⟨e1, e2, e3, f1, f2⟩ | ⟨e1, e2, e3, f1, f2⟩ | ⟨e1, e2, e3, f1, f2⟩ | ⟨e1, e2, e3, f1, f2⟩
      all_goals
        have F1 := Lib.hid f1
        have F2 := Lib.hid f2
        clear f1 f2 HF
        go_wp2_with fail
        refine (implFaulty_any _ _ _ _ _ _ _ H1.out.1 H1.out.2.1 H1.out.2.2.1).mono ?_
        rw [F1.out]
        rintro e w2 ⟨rfl, b2⟩
        have H2 := Lib.hid (And.intro (H1.out.1.bel b2) (And.intro (H1.out.2.1.bel b2) (And.intro (H1.out.2.2.1.bel b2) (bel_trans H1.out.2.2.2 b2))))
        clear b2
        go_wp2_with fail
        refine (specFaulty_any _ _ _ _ _ _ _ H2.out.1 H2.out.2.1 H2.out.2.2.1).mono ?_
        rw [F1.out]
        rintro e w3 ⟨rfl, b3⟩
        have H3 := Lib.hid (And.intro (H2.out.1.bel b3) (And.intro (H2.out.2.1.bel b3) (And.intro (H2.out.2.2.1.bel b3) (bel_trans H2.out.2.2.2 b3))))
        clear b3
        go_wp2_with fail
        refine (deInts_any _ _ _ _ _ H3.out.1 H3.out.2.1).mono ?_
        rw [e1]
        rintro e w4 ⟨rfl, b4⟩
        have H4 := Lib.hid (And.intro (H3.out.1.bel b4) (And.intro (H3.out.2.1.bel b4) (And.intro (H3.out.2.2.1.bel b4) (bel_trans H3.out.2.2.2 b4))))
        clear b4
        go_wp2_with fail
        refine (deInts_any _ _ _ _ _ H4.out.1 H4.out.2.2.1).mono ?_
        rw [e2]
        rintro e w5 ⟨rfl, b5⟩
        have H5 := Lib.hid (And.intro (H4.out.1.bel b5) (And.intro (H4.out.2.1.bel b5) (And.intro (H4.out.2.2.1.bel b5) (bel_trans H4.out.2.2.2 b5))))
        clear b5
        go_wp2_with fail
        refine (deInts_any _ _ _ _ _ H5.out.2.1 H5.out.2.2.1).mono ?_
        rw [e3]
        rintro e w6 ⟨rfl, b6⟩
        have H6 := Lib.hid (And.intro (H5.out.1.bel b6) (And.intro (H5.out.2.1.bel b6) (And.intro (H5.out.2.2.1.bel b6) (bel_trans H5.out.2.2.2 b6))))
        clear b6
        go_wp2_with fail
        refine (implFaulty_any _ _ _ _ _ _ _ H6.out.2.1 H6.out.2.2.1 H6.out.1).mono ?_
        rw [F2.out]
        rintro e w7 ⟨rfl, b7⟩
        go_wp2
        go_ret
        exact ⟨rfl, bel_trans H6.out.2.2.2 b7⟩

end Go.Proofs.Ytegofpfhlhfdnaa
