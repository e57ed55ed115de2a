/-
  Decimal numbers, parsed: the plain side.
-/
import Derived.Test.YtdmadaebeooaaaaGreatDoorPjP
namespace Go.Proofs.YtdmadaebeooaaaaGreatDoor
open Go.RowKit
set_option linter.unusedVariables false
set_option linter.unusedSimpArgs false
set_option maxRecDepth 100000

theorem decFrom_snoc (l : List UInt8) (b : UInt8) : ∀ acc : Nat, Lib.decFrom acc (l ++ [b]) = (Lib.decFrom acc l).bind fun n => (Lib.digitVal b).map fun d => n * 10 + d := by
  induction l with
  | nil => intro acc; simp [Lib.decFrom]; cases Lib.digitVal b <;> rfl
  | cons a r ih =>
    intro acc
    rw [List.cons_append]
    unfold Lib.decFrom
    cases Lib.digitVal a with
    | none => rfl
    | some d => exact ih _
theorem digit_char {d : Nat} (h : d < 10) : Lib.digitVal (UInt8.ofNat (48 + d)) = some d := by
  unfold Lib.digitVal
  have : (UInt8.ofNat (48 + d)).toNat = 48 + d := by simp; omega
  rw [this, if_pos (by omega)]
  simp
theorem dec_small {m : Nat} (h : m < 10) : Lib.decDigits m = [UInt8.ofNat (48 + m)] := Lib.decDigits_one h
theorem dec_big {m : Nat} (h : ¬ m < 10) : Lib.decDigits m = Lib.decDigits (m / 10) ++ [UInt8.ofNat (48 + m % 10)] := by rw [Lib.decDigits, dif_neg h]
theorem dec_ne (m : Nat) : Lib.decDigits m ≠ [] := by
  by_cases h : m < 10
  · rw [dec_small h]; simp
  · rw [dec_big h]; simp
theorem dec_from : ∀ m : Nat, Lib.decFrom 0 (Lib.decDigits m) = some m := by
  intro m
  induction m using Nat.strongRecOn with
  | _ m ih =>
    by_cases h : m < 10
    · rw [dec_small h]
      unfold Lib.decFrom
      rw [digit_char h]
      simp [Lib.decFrom]
    · rw [dec_big h, decFrom_snoc, ih (m / 10) (by omega), Option.bind_some, digit_char (Nat.mod_lt _ (by omega))]
      simp
      omega
theorem dec_head : ∀ m : Nat, m ≠ 0 → ∀ b, (Lib.decDigits m)[0]? = some b → b ≠ 48 := by
  intro m
  induction m using Nat.strongRecOn with
  | _ m ih =>
    intro h0 b hb
    by_cases h : m < 10
    · rw [dec_small h] at hb
      simp at hb
      subst hb
      intro e
      have := congrArg UInt8.toNat e
      simp at this
      omega
    · rw [dec_big h, List.getElem?_append_left (List.length_pos_iff.2 (dec_ne _))] at hb
      exact ih (m / 10) (by omega) (by omega) b hb
theorem digit_of {b : UInt8} {d : Nat} (h : Lib.digitVal b = some d) : d < 10 ∧ b = UInt8.ofNat (48 + d) := by
  obtain ⟨h1, h2, h3⟩ := Lib.digitVal_eq h
  refine ⟨by omega, ?_⟩
  apply UInt8.toNat_inj.1
  simp
  omega
/-- A row of digits without zeros ahead is the numeral of what it spells. -/
theorem dec_of_from : ∀ (l : List UInt8) (m : Nat), l ≠ [] → Lib.decFrom 0 l = some m → (l[0]? = some 48 → l.length = 1) → Lib.decDigits m = l := by
  suffices H : ∀ (k : Nat) (l : List UInt8), l.length ≤ k → ∀ m : Nat, l ≠ [] → Lib.decFrom 0 l = some m → (l[0]? = some 48 → l.length = 1) → Lib.decDigits m = l from fun l => H l.length l (Nat.le_refl _)
  intro k
  induction k with
  | zero => intro l hl m h; exact absurd (List.length_eq_zero_iff.1 (by omega)) h
  | succ k ih0 =>
    intro l hl m hne hm hz
    obtain ⟨p, b, rfl⟩ : ∃ p b, l = p ++ [b] := by
      rcases List.eq_nil_or_concat l with h | ⟨p, b, h⟩
      · exact absurd h hne
      · exact ⟨p, b, by simpa using h⟩
    have ih := ih0 p (by simp at hl; omega)
    clear ih0
    rw [decFrom_snoc] at hm
    cases hp : Lib.decFrom 0 p with
    | none => rw [hp] at hm; simp at hm
    | some n =>
      rw [hp, Option.bind_some] at hm
      cases hd : Lib.digitVal b with
      | none => rw [hd] at hm; simp at hm
      | some d =>
        rw [hd] at hm
        simp at hm
        obtain ⟨h1, h2⟩ := digit_of hd
        cases p with
        | nil =>
          simp [Lib.decFrom] at hp
          subst hp
          obtain rfl : m = d := by omega
          rw [dec_small h1, h2]
          rfl
        | cons a r =>
          have e := ih n (by simp) hp (fun h => by have := hz (by simpa using h); simp at this)
          have hn : n ≠ 0 := by
            intro h0
            subst h0
            rw [dec_small (by omega)] at e
            have := hz (by rw [← e]; rfl)
            simp at this
          have hb : ¬ m < 10 := by omega
          rw [dec_big hb, show m / 10 = n by omega, show m % 10 = d by omega, e, h2]
/-- The number that a text shows in its one canonical form of at most 17 digits. -/
def numO (t : List UInt8) : Option Int := match Lib.atoi t with
  | some n => if Lib.itoa n = t ∧ (Lib.trimPrefix t [45]).length ≤ 17 then some n else none
  | none => none
theorem numO_itoa {t : List UInt8} {n : Int} (h : numO t = some n) : Lib.itoa n = t := by
  unfold numO at h
  split at h
  · split at h
    · rename_i hc
      rw [← Option.some.inj h]
      exact hc.1
    · exact absurd h (by simp)
  · exact absurd h (by simp)
theorem trim_minus (r : List UInt8) : Lib.trimPrefix (45 :: r) [45] = r := by simp [Lib.trimPrefix, Lib.hasPrefix, List.isPrefixOf]
theorem trim_other {b : UInt8} (h : b ≠ 45) (r : List UInt8) : Lib.trimPrefix (b :: r) [45] = b :: r := by simp [Lib.trimPrefix, Lib.hasPrefix, List.isPrefixOf, Ne.symm h]
theorem dec_at (m : Nat) (k : Nat) (b : UInt8) (h : (Lib.decDigits m)[k]? = some b) : ∃ d, Lib.digitVal b = some d := Lib.digit_of_decFrom _ _ _ (dec_from m) k b h
theorem not_digit45 : Lib.digitVal 45 = none := by decide
theorem not_digit43 : Lib.digitVal 43 = none := by decide
theorem not_digit32 : Lib.digitVal 32 = none := by decide
theorem not_digit59 : Lib.digitVal 59 = none := by decide
theorem dec_len17 {m : Nat} (h : m < 100000000000000000) : (Lib.decDigits m).length ≤ 17 := by
  rw [Lib.decDigits_length]
  rcases Nat.lt_or_ge 17 (Lib.nDigits m) with h' | h'
  · have := Lib.nDigits_unique
    exfalso
    have hp : ∀ u : Nat, ∀ k : Nat, u < 10 ^ (k + 1) → Lib.nDigits u ≤ k + 1 := by
      intro u
      induction u using Nat.strongRecOn with
      | _ u ih =>
        intro k hk
        by_cases hu : u < 10
        · rw [Lib.nDigits_small hu]; omega
        · rw [Lib.nDigits_big hu]
          cases k with
          | zero => simp at hk; omega
          | succ k =>
            have := ih (u / 10) (by omega) k (by rw [Nat.pow_succ] at hk; omega)
            omega
    have := hp m 16 (by simpa using h)
    omega
  · exact h'
theorem dec_cons (m : Nat) : ∃ b r, Lib.decDigits m = b :: r ∧ b ≠ 45 ∧ b ≠ 43 := by
  cases h : Lib.decDigits m with
  | nil => exact absurd h (dec_ne m)
  | cons b r =>
    obtain ⟨d, hd⟩ := dec_at m 0 b (by rw [h]; rfl)
    refine ⟨b, r, rfl, ?_, ?_⟩
    · rintro rfl; rw [not_digit45] at hd; simp at hd
    · rintro rfl; rw [not_digit43] at hd; simp at hd
theorem atoi_dec (m : Nat) : Lib.decNat (Lib.decDigits m) = some m := by
  unfold Lib.decNat
  rw [dec_from m]
  have := dec_ne m
  cases h : Lib.decDigits m with
  | nil => exact absurd h this
  | cons _ _ => rfl
theorem atoi_itoa (n : Int) : Lib.atoi (Lib.itoa n) = some n := by
  by_cases h : n < 0
  · have e : Lib.itoa n = 45 :: Lib.decDigits n.natAbs := by unfold Lib.itoa; rw [if_pos h]
    rw [e]
    simp [Lib.atoi, atoi_dec]
    omega
  · have e : Lib.itoa n = Lib.decDigits n.toNat := by unfold Lib.itoa; rw [if_neg h]
    obtain ⟨b, r, hd, h1, h2⟩ := dec_cons n.toNat
    have ha := atoi_dec n.toNat
    rw [e]
    rw [hd] at ha ⊢
    simp [Lib.atoi, h1, h2, ha]
    omega
theorem numO_of {n : Int} (h0 : -100000000000000000 < n) (h1 : n < 100000000000000000) : numO (Lib.itoa n) = some n := by
  unfold numO
  rw [atoi_itoa]
  simp only
  rw [if_pos]
  refine ⟨trivial, ?_⟩
  by_cases h : n < 0
  · have e : Lib.itoa n = 45 :: Lib.decDigits n.natAbs := by unfold Lib.itoa; rw [if_pos h]
    rw [e, trim_minus]
    exact dec_len17 (by omega)
  · have e : Lib.itoa n = Lib.decDigits n.toNat := by unfold Lib.itoa; rw [if_neg h]
    obtain ⟨b, r, hd, h1', h2'⟩ := dec_cons n.toNat
    rw [e, hd, trim_other h1', ← hd]
    exact dec_len17 (by omega)
theorem itoa_no (c : UInt8) (hc : Lib.digitVal c = none) (h45 : c ≠ 45) (n : Int) : c ∉ Lib.itoa n := by
  have hdec : ∀ m : Nat, c ∉ Lib.decDigits m := by
    intro m hm
    obtain ⟨k, hk, he⟩ := List.getElem_of_mem hm
    obtain ⟨d, hd⟩ := dec_at m k c (by rw [List.getElem?_eq_getElem hk, he])
    rw [hc] at hd
    simp at hd
  unfold Lib.itoa
  split
  · intro h
    rcases List.mem_cons.1 h with h' | h'
    · exact h45 h'
    · exact hdec _ h'
  · exact hdec _
end Go.Proofs.YtdmadaebeooaaaaGreatDoor
