/-
  Schedules, plainly: the best one, its span, and bounds on spans: no program in sight.
-/
import Derived.Test.YtegofpfhlhfdnaaBest
import Derived.Test.YtegofpfhlhfdnaaGreedy
namespace Go.Proofs.Ytegofpfhlhfdnaa
open Go.RowKit
set_option linter.unusedVariables false
set_option maxRecDepth 100000

/-! ### the greatest of some numbers -/
theorem maxTo_ge {l : List Int} {j : Nat} : ∀ {n}, j < n → at_ l j ≤ maxTo l n
  | 0, h => absurd h (by omega)
  | n + 1, h => by
    rw [maxTo]
    by_cases e : j = n
    · subst e; split <;> omega
    · have := maxTo_ge (l := l) (j := j) (n := n) (by omega)
      split <;> omega
theorem maxTo_nonneg (l : List Int) : ∀ n, 0 ≤ maxTo l n
  | 0 => by simp [maxTo]
  | n + 1 => by
    have := maxTo_nonneg l n
    rw [maxTo]
    split <;> omega
theorem maxTo_le {l : List Int} {B : Int} (h0 : 0 ≤ B) : ∀ {n}, (∀ j, j < n → at_ l j ≤ B) → maxTo l n ≤ B
  | 0, _ => by simpa [maxTo] using h0
  | n + 1, h => by
    have := maxTo_le h0 (n := n) (fun j hj => h j (by omega))
    have := h n (by omega)
    rw [maxTo]
    split <;> omega
theorem maxTo_at (l : List Int) : ∀ n, maxTo l n = 0 ∨ ∃ j, j < n ∧ maxTo l n = at_ l j
  | 0 => .inl rfl
  | n + 1 => by
    rw [maxTo]
    split
    · exact .inr ⟨n, by omega, rfl⟩
    · rcases maxTo_at l n with h | ⟨j, hj, h⟩
      · exact .inl h
      · exact .inr ⟨j, by omega, h⟩
theorem span_ge {t g : List Int} {e j : Nat} (hj : j < e) : load t g j g.length ≤ spanV t g e := by
  have := maxTo_ge (l := loads t g e g.length) (j := j) (n := e) hj
  rw [at_loads hj] at this
  unfold spanV most
  rw [loads_length]; exact this
theorem span_nonneg (t g : List Int) (e : Nat) : 0 ≤ spanV t g e := maxTo_nonneg _ _
theorem span_le {t g : List Int} {e : Nat} {B : Int} (h0 : 0 ≤ B) (h : ∀ j, j < e → load t g j g.length ≤ B) : spanV t g e ≤ B := by
  unfold spanV most
  rw [loads_length]
  exact maxTo_le h0 fun j hj => by rw [at_loads hj]; exact h j hj
theorem span_at (t g : List Int) (e : Nat) : spanV t g e = 0 ∨ ∃ j, j < e ∧ spanV t g e = load t g j g.length := by
  unfold spanV most
  rw [loads_length]
  rcases maxTo_at (loads t g e g.length) e with h | ⟨j, hj, h⟩
  · exact .inl h
  · exact .inr ⟨j, hj, by rw [h, at_loads hj]⟩

/-! ### sums -/
def sumTo (f : Nat → Int) : Nat → Int
  | 0 => 0
  | n + 1 => sumTo f n + f n
theorem sumTo_congr {f g : Nat → Int} : ∀ n, (∀ j, j < n → f j = g j) → sumTo f n = sumTo g n
  | 0, _ => rfl
  | n + 1, h => by rw [sumTo, sumTo, sumTo_congr n (fun j hj => h j (by omega)), h n (by omega)]
theorem sumTo_add (f g : Nat → Int) : ∀ n, sumTo (fun j => f j + g j) n = sumTo f n + sumTo g n
  | 0 => rfl
  | n + 1 => by rw [sumTo, sumTo, sumTo, sumTo_add f g n]; omega
theorem sumTo_zero : ∀ n, sumTo (fun _ => 0) n = 0
  | 0 => rfl
  | n + 1 => by rw [sumTo, sumTo_zero n]; rfl
theorem sumTo_one {x : Int} {a : Int} : ∀ n : Nat, sumTo (fun j : Nat => if a = (j : Int) then x else 0) n = if 0 ≤ a ∧ a < n then x else 0
  | 0 => by rw [sumTo, if_neg (by omega)]
  | n + 1 => by
    rw [sumTo, sumTo_one n]
    by_cases h : a = (n : Int)
    · rw [if_pos h, if_neg (by omega), if_pos (by omega)]; omega
    · rw [if_neg h]
      by_cases q : 0 ≤ a ∧ a < n
      · rw [if_pos q, if_pos (by omega)]; omega
      · rw [if_neg q, if_neg (by omega)]; omega
theorem sumTo_le {f g : Nat → Int} : ∀ n, (∀ j, j < n → f j ≤ g j) → sumTo f n ≤ sumTo g n
  | 0, _ => by simp [sumTo]
  | n + 1, h => by
    have := sumTo_le n (fun j hj => h j (by omega))
    have := h n (by omega)
    rw [sumTo, sumTo]; omega
theorem sumTo_const (c : Int) : ∀ n : Nat, sumTo (fun _ => c) n = n * c
  | 0 => by simp [sumTo]
  | n + 1 => by rw [sumTo, sumTo_const c n, Int.natCast_add, Int.add_mul]; simp
theorem sumTo_nonneg {f : Nat → Int} : ∀ n, (∀ j, j < n → 0 ≤ f j) → 0 ≤ sumTo f n
  | 0, _ => by simp [sumTo]
  | n + 1, h => by
    have := sumTo_nonneg n (fun j hj => h j (by omega))
    have := h n (by omega)
    rw [sumTo]; omega
theorem sumTo_ge_one {f : Nat → Int} {j : Nat} : ∀ n, (∀ j, j < n → 0 ≤ f j) → j < n → f j ≤ sumTo f n
  | 0, _, h => absurd h (by omega)
  | n + 1, h, hj => by
    have h1 := sumTo_nonneg n (fun j hj => h j (by omega))
    have h2 := h n (by omega)
    rw [sumTo]
    by_cases e : j = n
    · subst e; omega
    · have := sumTo_ge_one n (fun j hj => h j (by omega)) (show j < n by omega)
      omega

theorem load_zero (t g : List Int) (e : Nat) : load t g e 0 = 0 := rfl
theorem load_succ (t g : List Int) (e n : Nat) : load t g e (n + 1) = load t g e n + if at_ g n = (e : Int) then at_ t n else 0 := rfl
/-- All loads together are all times. -/
theorem loads_sum {t g : List Int} {e : Nat} : ∀ n, (∀ j, j < n → 0 ≤ at_ g j ∧ at_ g j < e) → sumTo (fun k => load t g k n) e = sumTo (at_ t) n
  | 0, _ => sumTo_zero e
  | n + 1, h => by
    have ih := loads_sum (t := t) n (fun j hj => h j (by omega))
    have := h n (by omega)
    rw [sumTo_congr (g := fun k => load t g k n + if at_ g n = (k : Int) then at_ t n else 0) e (fun j _ => load_succ t g j n), sumTo_add, ih, sumTo_one, if_pos this, sumTo]
theorem load_eq_sum (t g : List Int) (e : Nat) : ∀ n, load t g e n = sumTo (fun j => if at_ g j = (e : Int) then at_ t j else 0) n
  | 0 => rfl
  | n + 1 => by rw [load, sumTo, load_eq_sum t g e n]
def tsum (t : List Int) : Int := sumTo (at_ t) t.length
section
variable {t g : List Int} {e : Nat}
theorem span_mul (he : 1 ≤ e) (hl : g.length = t.length) (hg : namesOk g e = true) : tsum t ≤ spanV t g e * e := by
  have h1 : sumTo (fun k => load t g k g.length) e ≤ sumTo (fun _ => spanV t g e) e := sumTo_le e fun j hj => span_ge hj
  rw [loads_sum g.length (fun j hj => namesOk_at hg hj), sumTo_const, hl] at h1
  rw [Int.mul_comm]; exact h1
theorem span_time (ht : ∀ k, 0 ≤ at_ t k) (hl : g.length = t.length) (hg : namesOk g e = true) {i : Nat} (hi : i < t.length) : at_ t i ≤ spanV t g e := by
  have hb := namesOk_at hg (show i < g.length by omega)
  have h1 := span_ge (t := t) (g := g) (e := e) (j := (at_ g i).toNat) (by omega)
  have h2 : at_ t i ≤ load t g (at_ g i).toNat g.length := by
    rw [load_eq_sum]
    have := sumTo_ge_one (f := fun j => if at_ g j = ((at_ g i).toNat : Int) then at_ t j else 0) (j := i) g.length (fun j _ => by have := ht j; split <;> omega) (by omega)
    rw [if_pos (by omega)] at this
    exact this
  omega
theorem load_le_sum (ht : ∀ k, 0 ≤ at_ t k) (e n : Nat) : load t g e n ≤ sumTo (at_ t) n := by
  rw [load_eq_sum]
  exact sumTo_le n fun j _ => by have := ht j; split <;> omega
theorem span_sum (ht : ∀ k, 0 ≤ at_ t k) (hl : g.length = t.length) : spanV t g e ≤ tsum t :=
  span_le (sumTo_nonneg _ fun j _ => ht j) fun j _ => by have := load_le_sum (g := g) ht j g.length; unfold tsum; rw [← hl]; exact this
end

/-! ### the order of schedules -/
theorem valTo_inj {g g' : List Int} {e : Nat} : ∀ n, (∀ j, j < n → 0 ≤ at_ g j ∧ at_ g j < e) → (∀ j, j < n → 0 ≤ at_ g' j ∧ at_ g' j < e) → valTo g e n = valTo g' e n → ∀ j, j < n → at_ g j = at_ g' j
  | 0, _, _, _ => fun j hj => absurd hj (by omega)
  | n + 1, h, h', hv => by
    rw [valTo, valTo] at hv
    have b := h n (by omega)
    have b' := h' n (by omega)
    have e1 : (at_ g n).toNat < e := by omega
    have e2 : (at_ g' n).toNat < e := by omega
    have m1 : (valTo g e n * e + (at_ g n).toNat) % e = (at_ g n).toNat := by rw [Nat.add_comm, Nat.add_mul_mod_self_right, Nat.mod_eq_of_lt e1]
    have m2 : (valTo g' e n * e + (at_ g' n).toNat) % e = (at_ g' n).toNat := by rw [Nat.add_comm, Nat.add_mul_mod_self_right, Nat.mod_eq_of_lt e2]
    have m3 : (at_ g n).toNat = (at_ g' n).toNat := by rw [← m1, ← m2, hv]
    have m4 : valTo g e n = valTo g' e n := by
      rw [m3] at hv
      exact Nat.eq_of_mul_eq_mul_right (show 0 < e by omega) (by omega)
    intro j hj
    by_cases q : j = n
    · subst q; omega
    · exact valTo_inj n (fun j hj => h j (by omega)) (fun j hj => h' j (by omega)) m4 j (by omega)
theorem val_inj {g g' : List Int} {e : Nat} (hg : namesOk g e = true) (hg' : namesOk g' e = true) (hl : g.length = g'.length) (hv : val g e = val g' e) : g = g' := by
  unfold val at hv
  rw [← hl] at hv
  exact list_ext hl (valTo_inj g.length (fun j hj => namesOk_at hg hj) (fun j hj => namesOk_at hg' (by omega)) hv)
theorem nextFrom_none {g : List Int} {e : Int} : ∀ n, nextFrom g e n = none → ∀ j, j < n → ¬ at_ g j + 1 < e
  | 0, _ => fun j hj => absurd hj (by omega)
  | n + 1, h => by
    rw [nextFrom] at h
    by_cases q : at_ g n + 1 < e
    · rw [if_pos q] at h; cases h
    · rw [if_neg q] at h
      intro j hj
      by_cases r : j = n
      · rw [r]; exact q
      · exact nextFrom_none n h j (by omega)
theorem valTo_last {g : List Int} {e : Nat} (he : 1 ≤ e) : ∀ n, (∀ j, j < n → at_ g j + 1 = e) → valTo g e n + 1 = e ^ n
  | 0, _ => rfl
  | n + 1, h => by
    have ih := valTo_last he n (fun j hj => h j (by omega))
    have := h n (by omega)
    rw [valTo, Nat.pow_succ, ← ih, Nat.add_mul]
    omega
theorem nextB_last {g : List Int} {e : Nat} (he : 1 ≤ e) (hg : namesOk g e = true) (h : nextB g e = false) : val g e + 1 = e ^ g.length := by
  unfold nextB at h
  have hn : next g e = none := by simpa using h
  have := nextFrom_none g.length hn
  exact valTo_last he g.length fun j hj => by have := this j hj; have := namesOk_at hg hj; omega

/-- b is the first of the best ones up to g. -/
structure BestTo (t : List Int) (e n : Nat) (g b : List Int) (s : Int) : Prop where
  gn : namesOk g e = true
  gl : g.length = n
  bn : namesOk b e = true
  bl : b.length = n
  sp : s = spanV t b e
  le : ∀ g', namesOk g' e = true → g'.length = n → val g' e ≤ val g e → s ≤ spanV t g' e
  lt : ∀ g', namesOk g' e = true → g'.length = n → val g' e < val b e → s < spanV t g' e
theorem bestN_best {t : List Int} {e n : Nat} (he : 1 ≤ e) : ∀ (m : Nat) (g b : List Int) (s : Int), BestTo t e n g b s → val g e + m = e ^ n →
    (∀ g', namesOk g' e = true → g'.length = n → spanV t (bestN t e m g b s) e ≤ spanV t g' e) ∧ ∀ g', namesOk g' e = true → g'.length = n → val g' e < val (bestN t e m g b s) e → spanV t (bestN t e m g b s) e < spanV t g' e
  | 0, g, b, s, h, hm => by
    have := val_lt he h.gn
    rw [h.gl] at this
    omega
  | m + 1, g, b, s, h, hm => by
    cases hb : nextB g e
    · rw [bestN_no hb]
      have hv := nextB_last he h.gn hb
      refine ⟨fun g' h1 h2 => ?_, fun g' h1 h2 h3 => ?_⟩
      · rw [← h.sp]
        refine h.le g' h1 h2 ?_
        have := val_lt he h1
        rw [h2] at this
        rw [h.gl] at hv
        omega
      · rw [← h.sp]; exact h.lt g' h1 h2 h3
    · obtain ⟨n1, n2, n3⟩ := nextB_some he h.gn hb
      have key : ∀ g', namesOk g' e = true → g'.length = n → val g' e ≤ val (nextL g e) e → g' = nextL g e ∨ val g' e ≤ val g e := by
        intro g' h1 h2 h3
        by_cases q : val g' e ≤ val g e
        · exact .inr q
        · exact .inl (val_inj h1 n1 (by rw [h2, n2, h.gl]) (by omega))
      by_cases q : spanV t (nextL g e) e < s
      · rw [bestN_lt hb q]
        refine bestN_best he m _ _ _ ⟨n1, by rw [n2, h.gl], n1, by rw [n2, h.gl], rfl, fun g' h1 h2 h3 => ?_, fun g' h1 h2 h3 => ?_⟩ (by omega)
        · rcases key g' h1 h2 h3 with rfl | h4
          · exact Int.le_refl _
          · have := h.le g' h1 h2 h4; omega
        · have := h.le g' h1 h2 (by omega); omega
      · rw [bestN_ge hb q]
        refine bestN_best he m _ _ _ ⟨n1, by rw [n2, h.gl], h.bn, h.bl, h.sp, fun g' h1 h2 h3 => ?_, h.lt⟩ (by omega)
        rcases key g' h1 h2 h3 with rfl | h4
        · omega
        · exact h.le g' h1 h2 h4
theorem best_min {t : List Int} {k : Nat} (h : schedOk t k = true) :
    (∀ g', namesOk g' k = true → g'.length = t.length → spanV t (best t k) k ≤ spanV t g' k) ∧ ∀ g', namesOk g' k = true → g'.length = t.length → val g' k < val (best t k) k → spanV t (best t k) k < spanV t g' k := by
  obtain ⟨_, e1, e3, _⟩ := schedOk_true h
  rw [best, if_pos h, Int.toNat_natCast]
  refine bestN_best (by omega) _ _ _ _ ⟨zeros_names _ (by omega), zeros_length _, zeros_names _ (by omega), zeros_length _, rfl, fun g' h1 h2 h3 => ?_, fun g' h1 h2 h3 => ?_⟩ (by rw [val_zeros]; omega)
  · rw [val_zeros] at h3
    have : g' = zeros t.length := val_inj h1 (zeros_names _ (by omega)) (by rw [h2, zeros_length]) (by rw [val_zeros]; omega)
    rw [this]; exact Int.le_refl _
  · rw [val_zeros] at h3; omega

/-! ### the best one begins with the first engine -/
def swap0 (a : Int) (x : Int) : Int := if x = 0 then a else if x = a then 0 else x
def relabel (a : Int) (g : List Int) : List Int := gen (fun j => swap0 a (at_ g j)) g.length
theorem swap0_iff {a j : Nat} {x : Int} : swap0 (a : Int) x = ((if j = 0 then a else if j = a then 0 else j : Nat) : Int) ↔ x = (j : Int) := by
  unfold swap0
  by_cases h3 : j = 0
  · rw [if_pos h3]
    by_cases h1 : x = 0
    · rw [if_pos h1]; omega
    · rw [if_neg h1]
      by_cases h2 : x = (a : Int)
      · rw [if_pos h2]; omega
      · rw [if_neg h2]; omega
  · rw [if_neg h3]
    by_cases h4 : j = a
    · rw [if_pos h4]
      by_cases h1 : x = 0
      · rw [if_pos h1]; omega
      · rw [if_neg h1]
        by_cases h2 : x = (a : Int)
        · rw [if_pos h2]; omega
        · rw [if_neg h2]; omega
    · rw [if_neg h4]
      by_cases h1 : x = 0
      · rw [if_pos h1]; omega
      · rw [if_neg h1]
        by_cases h2 : x = (a : Int)
        · rw [if_pos h2]; omega
        · rw [if_neg h2]
theorem load_relabel {t g : List Int} {a : Nat} (j : Nat) : ∀ n, n ≤ g.length → load t (relabel a g) (if j = 0 then a else if j = a then 0 else j) n = load t g j n
  | 0, _ => rfl
  | n + 1, hn => by
    rw [load, load, load_relabel j n (by omega), relabel, at_gen (by omega)]
    congr 1
    have this := swap0_iff (a := a) (j := j) (x := at_ g n)
    by_cases q : at_ g n = (j : Int)
    · rw [if_pos (this.2 q), if_pos q]
    · rw [if_neg (fun h => q (this.1 h)), if_neg q]
theorem best_first {t : List Int} {k : Nat} (h : schedOk t k = true) (hn : 0 < t.length) : at_ (best t k) 0 = 0 := by
  obtain ⟨_, e1, e3, _⟩ := schedOk_true h
  obtain ⟨l1, l2⟩ := best_ok h
  obtain ⟨m1, m2⟩ := best_min h
  have hb := namesOk_at l2 (k := 0) (by omega)
  by_cases q : at_ (best t k) 0 = 0
  · exact q
  · exfalso
    obtain ⟨a, ha⟩ : ∃ a : Nat, at_ (best t k) 0 = a := ⟨(at_ (best t k) 0).toNat, by omega⟩
    have hrn : namesOk (relabel a (best t k)) k = true := namesOk_mk fun j hj => by
      rw [relabel, gen_length] at hj
      rw [relabel, at_gen hj]
      have := namesOk_at l2 hj
      unfold swap0
      split
      · omega
      · split <;> omega
    have hrl : (relabel a (best t k)).length = t.length := by rw [relabel, gen_length, l1]
    have hsp : spanV t (relabel a (best t k)) k ≤ spanV t (best t k) k := by
      refine span_le (span_nonneg _ _ _) fun j hj => ?_
      have := load_relabel (t := t) (g := best t k) (a := a) (if j = 0 then a else if j = a then 0 else j) (best t k).length (Nat.le_refl _)
      rw [hrl, ← l1]
      have e2 : (if (if j = 0 then a else if j = a then 0 else j) = 0 then a else if (if j = 0 then a else if j = a then 0 else j) = a then 0 else (if j = 0 then a else if j = a then 0 else j)) = j := by
        by_cases h1 : j = 0
        · subst h1; simp
        · by_cases h2 : j = a
          · subst h2; simp [h1]
          · simp [h1, h2]
      rw [e2] at this
      rw [this]
      refine span_ge ?_
      split
      · omega
      · split <;> omega
    have hv : val (relabel a (best t k)) k < val (best t k) k := by
      have hlt : ∀ n, 1 ≤ n → n ≤ (best t k).length → valTo (relabel a (best t k)) k n < valTo (best t k) k n := by
        intro n
        induction n with
        | zero => intro h; omega
        | succ n ih =>
          intro _ h2
          by_cases h1 : n = 0
          · subst h1
            simp only [valTo]
            rw [relabel, at_gen (by omega), ha, swap0, if_neg (by omega), if_pos rfl]
            simp; omega
          · have := ih (by omega) (by omega)
            rw [valTo, valTo]
            have hb1 := namesOk_at hrn (k := n) (by rw [hrl, ← l1]; omega)
            have hb2 := namesOk_at l2 (k := n) (by omega)
            have : (valTo (relabel a (best t k)) k n + 1) * k ≤ valTo (best t k) k n * k := Nat.mul_le_mul_right k this
            rw [Nat.add_mul] at this
            omega
      unfold val
      rw [hrl, ← l1]
      exact hlt _ (by omega) (Nat.le_refl _)
    have := m2 _ hrn hrl hv
    omega

/-! ### turned around -/
def turnedL (t : List Int) : List Int := gen (fun j => at_ t (t.length - 1 - j)) t.length
theorem turnedL_length (t : List Int) : (turnedL t).length = t.length := gen_length _ _
theorem at_turned {t : List Int} {j : Nat} (h : j < t.length) : at_ (turnedL t) j = at_ t (t.length - 1 - j) := at_gen h
theorem turned_turned (t : List Int) : turnedL (turnedL t) = t := list_ext (by rw [turnedL_length, turnedL_length]) fun j hj => by
  rw [turnedL_length, turnedL_length] at hj
  rw [at_turned (by rw [turnedL_length]; exact hj), turnedL_length, at_turned (by omega)]
  congr 1
  omega
theorem sumTo_turn (f : Nat → Int) : ∀ n, sumTo (fun j => f (n - 1 - j)) n = sumTo f n := by
  have shift : ∀ (f : Nat → Int) (n : Nat), sumTo f (n + 1) = f 0 + sumTo (fun j => f (j + 1)) n := by
    intro f n
    induction n with
    | zero => simp [sumTo]
    | succ n ih => rw [sumTo, ih, sumTo]; omega
  intro n
  induction n with
  | zero => rfl
  | succ n ih =>
    rw [shift, sumTo]
    rw [sumTo_congr (g := fun j => f (n - 1 - j)) n (fun j hj => by congr 1; omega), ih]
    simp; omega
theorem load_turned {t g : List Int} (hl : g.length = t.length) (e : Nat) : load (turnedL t) (turnedL g) e t.length = load t g e t.length := by
  rw [load_eq_sum, load_eq_sum, ← sumTo_turn (fun j => if at_ g j = (e : Int) then at_ t j else 0) t.length]
  refine sumTo_congr _ fun j hj => ?_
  rw [at_turned hj, at_turned (by omega), hl]
theorem span_turned {t g : List Int} (hl : g.length = t.length) (e : Nat) : spanV (turnedL t) (turnedL g) e = spanV t g e := by
  have h1 : loads (turnedL t) (turnedL g) e (turnedL g).length = loads t g e g.length := list_ext (by rw [loads_length, loads_length]) fun j hj => by
    rw [loads_length] at hj
    rw [at_loads hj, at_loads hj, turnedL_length, hl, load_turned hl]
  unfold spanV
  rw [h1]
theorem names_turned {g : List Int} {e : Int} (h : namesOk g e = true) : namesOk (turnedL g) e = true := namesOk_mk fun j hj => by
  rw [turnedL_length] at hj
  rw [at_turned hj]
  exact namesOk_at h (by omega)
theorem timesOk_mk {t : List Int} (h1 : t.length ≤ 8) (h2 : ∀ k, k < t.length → 0 ≤ at_ t k ∧ at_ t k ≤ 1000) : timesOk t = true := by
  simp only [timesOk, Bool.and_eq_true, decide_eq_true_eq]
  exact ⟨h1, allTo (p := fun t => inB t 0 1000) fun j hj => inB_true.2 (h2 j hj)⟩
theorem timesOk_turned {t : List Int} (h : timesOk t = true) : timesOk (turnedL t) = true := by
  obtain ⟨h1, h2⟩ := timesOk_true h
  exact timesOk_mk (by rw [turnedL_length]; exact h1) fun j hj => by rw [turnedL_length] at hj; rw [at_turned hj]; exact h2 _
theorem sched_turned {t : List Int} {e : Int} (h : schedOk t e = true) : schedOk (turnedL t) e = true := by
  simp only [schedOk, Bool.and_eq_true] at h ⊢
  exact ⟨timesOk_turned h.1, h.2⟩
theorem least_turned {t : List Int} {k : Nat} (h : schedOk t k = true) : spanV (turnedL t) (best (turnedL t) k) k = spanV t (best t k) k := by
  have h' := sched_turned h
  obtain ⟨a1, a2⟩ := best_ok h
  obtain ⟨b1, b2⟩ := best_ok h'
  have c1 := (best_min h).1 (turnedL (best (turnedL t) k)) (names_turned b2) (by rw [turnedL_length, b1, turnedL_length])
  have c2 := (best_min h').1 (turnedL (best t k)) (names_turned a2) (by rw [turnedL_length, a1, turnedL_length])
  rw [span_turned a1] at c2
  have c3 := span_turned (t := turnedL t) (g := best (turnedL t) k) b1 k
  rw [turned_turned] at c3
  omega

/-! ### one engine fewer -/
theorem span_more {t g : List Int} {e : Nat} (hl : g.length = t.length) (hg : namesOk g e = true) : spanV t g (e + 1) ≤ spanV t g e := by
  refine span_le (span_nonneg _ _ _) fun j hj => ?_
  by_cases q : j < e
  · exact span_ge q
  · have : j = e := by omega
    subst this
    have hz : load t g j g.length = 0 := by
      rw [load_eq_sum, sumTo_congr (g := fun _ => 0) g.length (fun i hi => by have := namesOk_at hg hi; rw [if_neg (by omega)]), sumTo_zero]
    rw [hz]; exact span_nonneg _ _ _
theorem names_more {g : List Int} {e e' : Int} (h : namesOk g e = true) (he : e ≤ e') : namesOk g e' = true := namesOk_mk fun j hj => by have := namesOk_at h hj; omega
theorem least_more {t : List Int} {k : Nat} (h : schedOk t k = true) (h' : schedOk t (k + 1 : Nat) = true) : spanV t (best t (k + 1 : Nat)) (k + 1) ≤ spanV t (best t k) k := by
  obtain ⟨a1, a2⟩ := best_ok h
  have c1 := (best_min h').1 (best t k) (names_more a2 (by omega)) a1
  have c2 := span_more a1 a2
  omega

/-! ### the greedy schedule -/
theorem freeTo_min {l : List Int} : ∀ n j, j < n → at_ l (freeTo l n) ≤ at_ l j
  | 0, j, h => absurd h (by omega)
  | n + 1, j, h => by
    rw [freeTo]
    by_cases e : j = n
    · subst e; split <;> omega
    · have := freeTo_min (l := l) n j (by omega)
      split <;> omega
/-- The greatest time. -/
def tmax (t : List Int) : Int := maxTo t t.length
theorem greedy_bound {t : List Int} {k : Nat} (hk : 1 ≤ k) (ht : ∀ i, 0 ≤ at_ t i) : ∀ n, n ≤ t.length → ∀ j, j < k → load t (greedyTo t k n) j n * k ≤ sumTo (at_ t) n + (k - 1 : Nat) * tmax t
  | 0, _, j, hj => by
    have h0 : (0 : Int) ≤ tmax t := maxTo_nonneg _ _
    have : (0 : Int) ≤ (k - 1 : Nat) * tmax t := Int.mul_nonneg (by omega) h0
    simp [load, sumTo]; exact this
  | n + 1, hn, j, hj => by
    have ih := greedy_bound hk ht n (by omega) j hj
    have htn := ht n
    have htm : at_ t n ≤ tmax t := maxTo_ge (by omega)
    rw [L_next hk hj, at_L hj, sumTo]
    split
    · next e =>
      have h1 : sumTo (fun i => at_ (L_ t k n) j) k ≤ sumTo (fun i => load t (greedyTo t k n) i n) k := sumTo_le k fun i hi => by
        have := freeTo_min (l := L_ t k n) k i hi
        rw [← e, at_L hi] at this
        exact this
      have hgn : ∀ i, i < n → 0 ≤ at_ (greedyTo t k n) i ∧ at_ (greedyTo t k n) i < k := fun i hi => by rw [greedyTo_gen, at_gen hi]; exact gAt_bd t hk i
      rw [sumTo_const, loads_sum n hgn, at_L hj] at h1
      obtain ⟨m, rfl⟩ : ∃ m, k = m + 1 := ⟨k - 1, by omega⟩
      rw [Nat.add_sub_cancel]
      have h2 : (m : Int) * at_ t n ≤ (m : Int) * tmax t := Int.mul_le_mul_of_nonneg_left htm (by omega)
      rw [Int.natCast_add, Int.natCast_one, Int.add_mul] at h1
      rw [Int.natCast_add, Int.natCast_one]
      have e3 : (load t (greedyTo t (m + 1) n) j n + at_ t n) * ((m : Int) + 1) = ((m : Int) * load t (greedyTo t (m + 1) n) j n + load t (greedyTo t (m + 1) n) j n) + ((m : Int) * at_ t n + at_ t n) := by
        rw [Int.mul_add, Int.mul_one, Int.add_mul, Int.mul_comm (load t (greedyTo t (m + 1) n) j n), Int.mul_comm (at_ t n)]; omega
      rw [e3]
      omega
    · omega
theorem greedy_span {t : List Int} {k : Nat} (hk : 1 ≤ k) (ht : ∀ i, 0 ≤ at_ t i) : spanV t (greedyTo t k t.length) k * k ≤ tsum t + (k - 1 : Nat) * tmax t := by
  have h0 : (0 : Int) ≤ tmax t := maxTo_nonneg _ _
  have h00 : (0 : Int) ≤ (k - 1 : Nat) * tmax t := Int.mul_nonneg (by omega) h0
  have hs : 0 ≤ tsum t := sumTo_nonneg _ fun j _ => ht j
  rcases span_at t (greedyTo t k t.length) k with h | ⟨j, hj, h⟩
  · rw [h]; omega
  · rw [h, greedyTo_length]
    exact greedy_bound hk ht t.length (Nat.le_refl _) j hj
theorem tmax_le {t g : List Int} {e : Nat} (ht : ∀ k, 0 ≤ at_ t k) (hl : g.length = t.length) (hg : namesOk g e = true) : tmax t ≤ spanV t g e :=
  maxTo_le (span_nonneg _ _ _) fun j hj => span_time ht hl hg hj

end Go.Proofs.Ytegofpfhlhfdnaa
