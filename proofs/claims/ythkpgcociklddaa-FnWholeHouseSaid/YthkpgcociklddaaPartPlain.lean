/-
  Plain laws of parts: each part's engine is the first one after turns, and together they print what it prints.
-/
import Derived.Test.YthkpgcociklddaaSetPlain
import Derived.Test.YthkpgcociklddaaPartE
namespace Go.Proofs.Ythkpgcociklddaa
open Go.RowKit
set_option linter.unusedVariables false
set_option linter.unusedSimpArgs false

theorem turnN_plus (e : List ByteArray) (k n : Nat) : turnN (turnN e k) n = turnN e (k + n) := by
  induction n with
  | zero => rfl
  | succ n ih => rw [turnN_succ, ih]; rfl
theorem runS_plus (e : List ByteArray) (k n : Nat) : runS e (k + n) = runS e k ++ runS (turnN e k) n := by
  induction n with
  | zero => simp [runS, gen]
  | succ n ih =>
    rw [show k + (n + 1) = (k + n) + 1 by omega, runS_succ, runS_succ, ih, List.append_assoc, turnN_plus]
theorem peOk_true {p : List Int} {a : Int} {sz : List Int} {k : Int} (h : peOk p a sz k = true) : sizesOk sz = true ∧ (∀ i, i < sz.length → setOk p (a + sumTo sz i) k = true) ∧ peL p a sz k = genE (fun i => setE p (a + sumTo sz i) k) sz.length := by
  have h' := h
  simp only [peOk, Bool.and_eq_true] at h'
  exact ⟨h'.1.1, allAt_true.1 h'.2, by simp [peL, h]⟩
/-- The law's facts. -/
theorem part_law {p : List Int} {a : Int} {sz : List Int} {k : Int} (h : peOk p a sz k = true) :
    engOk (setE p a k) = true ∧ (∀ i, i < sz.length → eat (peL p a sz k) i = turnN (setE p a k) (sumTo sz i).toNat) ∧ (peL p a sz k).length = sz.length ∧
    rpOk (peL p a sz k) sz = true ∧ runOk (setE p a k) (sumTo sz sz.length) = true ∧ rpL (peL p a sz k) sz = runL (setE p a k) (sumTo sz sz.length) := by
  obtain ⟨hs, hset, hl⟩ := peOk_true h
  obtain ⟨⟨s1, s10⟩, hsz, hsum⟩ := sizesOk_true.1 hs
  have h0 : setOk p a k = true := by
    have := hset 0 (by omega)
    rw [show a + sumTo sz 0 = a by show a + 0 = a; omega] at this
    exact this
  have hlen : (peL p a sz k).length = sz.length := by rw [hl, genE_length]
  have hsb : ∀ i, i ≤ sz.length → 0 ≤ sumTo sz i ∧ sumTo sz i ≤ 60 := fun i hi => ⟨(sumTo_bd i (fun q hq => hsz q (by omega))).1, Int.le_trans (sumTo_mono (fun q hq => (hsz q hq).1) hi (Nat.le_refl _)) hsum⟩
  have ht : ∀ i, i < sz.length → eat (peL p a sz k) i = turnN (setE p a k) (sumTo sz i).toNat := by
    intro i hi
    have hsi := hset i hi
    have hb := hsb i (by omega)
    have e1 : (((sumTo sz i).toNat : Nat) : Int) = sumTo sz i := by omega
    have ha2 := (argOk_true.1 (set_raw hsi).1).2
    rw [hl, eat_genE hi, set_turns h0 (by omega), e1]
    exact (set_raw hsi).2.2.1
  have hall : allOk (peL p a sz k) = true := allOk_true.2 ⟨by omega, by omega, fun i hi => by rw [hlen] at hi; rw [ht i hi]; exact turnN_ok (setE_ok h0) _⟩
  have hrp := rp_yes hall hs hlen
  have hbt := hsb sz.length (Nat.le_refl _)
  have hro : runOk (setE p a k) (sumTo sz sz.length) = true := by simp [runOk, setE_ok h0, inB_true.2 hbt]
  refine ⟨setE_ok h0, ht, hlen, hrp.1, hro, ?_⟩
  have hrl : runL (setE p a k) (sumTo sz sz.length) = runS (setE p a k) (sumTo sz sz.length).toNat := by simp [runL, hro]
  rw [hrp.2, hrl, hlen]
  have key : ∀ i, i ≤ sz.length → partsTo (peL p a sz k) sz i = runS (setE p a k) (sumTo sz i).toNat := by
    intro i
    induction i with
    | zero => intro _; rfl
    | succ i ih =>
      intro hi
      have hb1 := hsb i (by omega)
      have hb2 := hsb (i + 1) hi
      have hz := hsz i (by omega)
      have hr : runL (eat (peL p a sz k) i) (at_ sz i) = runS (eat (peL p a sz k) i) (at_ sz i).toNat := by
        have : runOk (eat (peL p a sz k) i) (at_ sz i) = true := by
          rw [ht i (by omega)]
          simp [runOk, turnN_ok (setE_ok h0), inB_true.2 hz]
        simp [runL, this]
      rw [partsTo_succ, ih (by omega), hr, ht i (by omega), ← runS_plus]
      congr 1
      rw [sumTo_succ]
      omega
  exact key _ (Nat.le_refl _)

end Go.Proofs.Ythkpgcociklddaa
