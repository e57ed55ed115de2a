/-
  Engines of polynomials, plainly: a turn is the next argument.
-/
import Derived.Test.YtpniljcnknknoaaGreatDoorSetUp
namespace Go.Proofs.YtpniljcnknknoaaGreatDoor
open Go.RowKit
set_option linter.unusedVariables false
set_option linter.unusedSimpArgs false

theorem cv_colOf (x : Int) (k : Nat) : cv (colOf x k) = md x (ten k) := cv_col (md_lt x (ten_pos k))
/-- What a column shows is the number, if it fits. -/
theorem sg_colOf {x : Int} {k : Nat} (hk : 1 ≤ k) (h : fits x k = true) : sg (colOf x k) = x := by
  have hf := inB_true.1 h
  have hT := ten_half hk
  have hc := md_cast x (ten_pos k)
  have hl := md_lt x (ten_pos k)
  have hcv := cv_colOf x k
  have hs := colOf_size x k
  rcases Int.le_total 0 x with h0 | h0
  · have hm : x % ((ten k : Nat) : Int) = x := Int.emod_eq_of_lt h0 (by omega)
    rw [sg_lo (by rw [hs, hcv]; omega), hcv]; omega
  · by_cases hz : x = 0
    · subst hz
      have hm : (0 : Int) % ((ten k : Nat) : Int) = 0 := Int.zero_emod _
      rw [sg_lo (by rw [hs, hcv]; have := ten_pos k; omega), hcv]; omega
    · have hm : x % ((ten k : Nat) : Int) = x + (ten k : Nat) := by
        rw [← Int.add_emod_right]
        exact Int.emod_eq_of_lt (by omega) (by omega)
      rw [sg_hi (by rw [hs, hcv]; omega), hcv, hs]; omega
theorem md_add (a b : Int) {T : Nat} (hT : 1 ≤ T) : (md a T + md b T) % T = md (a + b) T := by
  have h1 := md_cast a hT
  have h2 := md_cast b hT
  have h3 := md_cast (a + b) hT
  have h4 : (((md a T + md b T) % T : Nat) : Int) = (((md a T : Nat) : Int) + ((md b T : Nat) : Int)) % (T : Int) := by
    rw [Int.natCast_emod, Int.natCast_add]
  rw [h1, h2, ← Int.add_emod, ← h3] at h4
  exact Int.ofNat.inj h4
theorem addC_colOf (a b : Int) (k : Nat) : addC (colOf a k) (colOf b k) = colOf (a + b) k := by
  unfold addC
  rw [colOf_size, cv_colOf, cv_colOf, md_add a b (ten_pos k)]
  rfl

/-- The engine of a polynomial at an argument, whatever fits. -/
def rawE (p : List Int) (n : Int) (k : Nat) : List ByteArray := genS (fun i => colOf (evalI (p.drop i) n) k) p.length
theorem rawE_length (p : List Int) (n : Int) (k : Nat) : (rawE p n k).length = p.length := genS_length _ _
theorem rawE_at {p : List Int} {n : Int} {k i : Nat} (h : i < p.length) : sat (rawE p n k) i = colOf (evalI (p.drop i) n) k := at_genS h
theorem eval_next {p : List Int} (hp : ∀ k, k < p.length → -100000 ≤ at_ p k ∧ at_ p k ≤ 100000) (h7 : p.length ≤ 7) {n : Int} (h0 : -200 ≤ n) (h1 : n ≤ 205) :
    evalI p (n + 1) = evalI p n + evalI (p.drop 1) n := by
  have b1 := eval_bd hp h7 h0 (show n ≤ 206 by omega)
  have b2 := eval_bd hp h7 (show -200 ≤ n + 1 by omega) (show n + 1 ≤ 206 by omega)
  have e := eval_step hp h7 h0 h1
  rw [IntWalk.wrap64_in _ (by omega)] at e
  omega
theorem turn_raw {p : List Int} (hp : ∀ k, k < p.length → -100000 ≤ at_ p k ∧ at_ p k ≤ 100000) (h7 : p.length ≤ 7) {n : Int} (h0 : -200 ≤ n) (h1 : n ≤ 205) (k : Nat) :
    turnS (rawE p n k) = rawE p (n + 1) k := by
  apply slist_ext
  · rw [turnS_length, rawE_length, rawE_length]
  · intro i hi
    rw [turnS_length, rawE_length] at hi
    have e := eval_next (poly_drop hp i) (by rw [List.length_drop]; omega) h0 h1
    rw [List.drop_drop] at e
    rw [turnS_at (by rw [rawE_length]; exact hi), rawE_length, rawE_at hi, rawE_at hi]
    by_cases h : i + 1 < p.length
    · rw [if_pos h, rawE_at h, addC_colOf, e]
    · rw [if_neg h, e]
      have hn : p.drop (i + 1) = [] := List.drop_eq_nil_of_le (by omega)
      rw [hn]
      show _ = colOf (evalI (List.drop i p) n + 0) k
      rw [Int.add_zero]
theorem turns_raw {p : List Int} (hp : ∀ k, k < p.length → -100000 ≤ at_ p k ∧ at_ p k ≤ 100000) (h7 : p.length ≤ 7) {n : Int} (h0 : -200 ≤ n) (k : Nat) :
    ∀ m : Nat, n + (m : Int) ≤ 206 → turnN (rawE p n k) m = rawE p (n + (m : Int)) k
  | 0 => fun _ => by rw [turnN_zero]; simp
  | m + 1 => fun h => by
    rw [turnN_succ, turns_raw hp h7 h0 k m (by omega), turn_raw hp h7 (by omega) (by omega)]
    congr 1
    omega
/-- What an engine that is set up is. -/
theorem set_raw {p : List Int} {n : Int} {k : Int} (h : setOk p n k = true) : argOk p n = true ∧ (1 ≤ k ∧ k ≤ 12) ∧ setE p n k = rawE p n k.toNat ∧ ∀ i, i < p.length → fits (evalI (p.drop i) n) k.toNat = true := by
  have hs : shiftOk p n = true := by
    cases hq : shiftOk p n
    · rw [setOk_s hq] at h; cases h
    · rfl
  have ha : argOk p n = true := by
    cases hq : argOk p n
    · rw [(shift_no hq).1] at hs; cases hs
    · rfl
  obtain ⟨e1, e2⟩ := shift_yes ha
  have hq : polyOk (shiftI p n) = true := by rw [← e1]; exact hs
  rw [chkL_yes hq] at e2
  have hw : 1 ≤ k ∧ k ≤ 12 := by
    cases hw : inB k 1 12
    · rw [setOk_w hw (shiftL_len.2 hs)] at h; cases h
    · exact inB_true.1 hw
  have hc : ∀ i, i < p.length → colOfOk (evalI (p.drop i) n) k = true := by
    intro i hi
    cases hco : colOfOk (evalI (p.drop i) n) k
    · have hl : i < (shiftL p n).length := by rw [e2, shiftI_length]; exact hi
      rw [setOk_at hl (by rw [e2, shiftI, at_gen hi]; exact hco)] at h; cases h
    · rfl
  have hkn : ((k.toNat : Nat) : Int) = k := by omega
  refine ⟨ha, hw, ?_, fun i hi => ?_⟩
  · rw [set_yes h]
    apply slist_ext
    · rw [colsTo_length, e2, shiftI_length, rawE_length]
    · intro i hi
      rw [colsTo_length, e2, shiftI_length] at hi
      rw [rawE_at hi]
      unfold colsTo
      rw [at_genS (by rw [e2, shiftI_length]; exact hi), e2, shiftI, at_gen hi]
      unfold colOfS
      rw [if_pos (hc i hi)]
  · have := hc i hi
    rw [← hkn, colOfOk_nat _ (by omega)] at this
    exact this
/-- What an engine that is set up shows after turns. -/
theorem set_turns {p : List Int} {n : Int} {k : Int} (h : setOk p n k = true) {m : Nat} (hm : n + (m : Int) ≤ 206) : turnN (setE p n k) m = rawE p (n + (m : Int)) k.toNat := by
  obtain ⟨ha, -, e, -⟩ := set_raw h
  obtain ⟨hp, h0, h1⟩ := argOk_true.1 ha
  obtain ⟨p1, p7, hb⟩ := polyOk_true.1 hp
  rw [e, turns_raw hb p7 h0 _ m hm]
theorem set_shows {p : List Int} {n : Int} {k : Int} (h : setOk p n k = true) {m : Nat} (hm : n + (m : Int) ≤ 206) (hf : fits (evalI p (n + (m : Int))) k.toNat = true) : sg (sat (turnN (setE p n k) m) 0) = evalI p (n + (m : Int)) := by
  obtain ⟨ha, hw, e, -⟩ := set_raw h
  obtain ⟨p1, -, -⟩ := polyOk_true.1 (argOk_true.1 ha).1
  rw [set_turns h hm, rawE_at (by omega), List.drop_zero]
  exact sg_colOf (by omega) hf
theorem setE_ok {p : List Int} {n : Int} {k : Int} (h : setOk p n k = true) : engOk (setE p n k) = true := by
  obtain ⟨ha, hw, e, -⟩ := set_raw h
  obtain ⟨p1, p7, -⟩ := polyOk_true.1 (argOk_true.1 ha).1
  rw [e]
  refine engOk_iff.2 ⟨by rw [rawE_length]; exact p1, by rw [rawE_length]; exact p7, fun i hi => ?_⟩
  rw [rawE_length] at hi
  rw [rawE_at hi, rawE_at (by omega)]
  exact ⟨colOk_colOf _ (by omega) (by omega), by rw [colOf_size, colOf_size]⟩

end Go.Proofs.YtpniljcnknknoaaGreatDoor
