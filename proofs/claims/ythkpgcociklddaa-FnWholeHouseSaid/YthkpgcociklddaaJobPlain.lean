/-
  Plain laws of jobs: the table is what the engine prints; a job of one value.
-/
import Derived.Test.YthkpgcociklddaaSetPlain
import Derived.Test.YthkpgcociklddaaJobTab
import Derived.Test.YthkpgcociklddaaRun
namespace Go.Proofs.Ythkpgcociklddaa
open Go.RowKit
set_option linter.unusedVariables false
set_option linter.unusedSimpArgs false

theorem firstBad_full {l : List Int} {k : Int} (h : firstBad l k = l.length) : ∀ a, a < l.length → colOfOk (at_ l a) k = true := by
  unfold firstBad at h
  induction l with
  | nil => intro a ha; simp at ha
  | cons x l ih =>
    rw [List.takeWhile_cons] at h
    by_cases hx : colOfOk x k = true
    · rw [if_pos hx] at h
      intro a ha
      cases a with
      | zero => exact hx
      | succ a => exact ih (by simpa using h) a (by simpa using ha)
    · rw [if_neg hx] at h
      simp at h
theorem job_vals {j : JobD} (h : jobOk j = true) : valOk j.poly j.fr j.ct = true ∧ (0 ≤ j.ct ∧ j.ct ≤ 60) ∧ jvL j = gen (fun i => evalI j.poly (j.fr + (i : Int))) j.ct.toNat ∧ ∀ i : Nat, (i : Int) < j.ct → colOfOk (evalI j.poly (j.fr + (i : Int))) j.wd = true := by
  have hv := jobOk_val h
  obtain ⟨hs, h1, hc, -, -⟩ := jobOk_true.1 h
  obtain ⟨hp, ha, hct, hsum⟩ := valOk_true.1 hv
  have hw := setOk_width hs
  have hl : jvL j = gen (fun i => evalI j.poly (j.fr + (i : Int))) j.ct.toNat := by simp [jvL, valL, hv]
  rw [cap_yes hv (inB_true.2 hw)] at hc
  have hlen : (valL j.poly j.fr j.ct).length = j.ct.toNat := by
    have : jvL j = valL j.poly j.fr j.ct := rfl
    rw [← this, hl, gen_length]
  have hf := firstBad_full (l := valL j.poly j.fr j.ct) (k := j.wd) (by omega)
  refine ⟨hv, hct, hl, fun i hi => ?_⟩
  have h2 := hf i (by omega)
  have h3 : valL j.poly j.fr j.ct = gen (fun i => evalI j.poly (j.fr + (i : Int))) j.ct.toNat := hl
  rw [h3, at_gen (by omega)] at h2
  exact h2
/-- The engine that is set up for a job prints the job's values. -/
theorem job_run {j : JobD} (h : jobOk j = true) : runOk (setE j.poly j.fr j.wd) j.ct = true ∧ runL (setE j.poly j.fr j.wd) j.ct = jvL j := by
  obtain ⟨hv, hct, hl, hf⟩ := job_vals h
  have hs := (jobOk_true.1 h).1
  have hw := setOk_width hs
  obtain ⟨hp, ha, -, hsum⟩ := valOk_true.1 hv
  have hok : runOk (setE j.poly j.fr j.wd) j.ct = true := by
    simp [runOk, setE_ok hs, inB_true.2 hct]
  refine ⟨hok, ?_⟩
  have e : runL (setE j.poly j.fr j.wd) j.ct = runS (setE j.poly j.fr j.wd) j.ct.toNat := by simp [runL, hok]
  rw [e, hl]
  apply list_ext
  · rw [runS_length, gen_length]
  · intro i hi
    rw [runS_length] at hi
    unfold runS
    rw [at_gen hi, at_gen hi]
    have h2 := hf i (by omega)
    have hkn : ((j.wd.toNat : Nat) : Int) = j.wd := by omega
    rw [← hkn, colOfOk_nat _ (by omega)] at h2
    exact set_shows hs (by omega) h2
/-- A job of one value. -/
theorem job_one {j : JobD} (h : jobOk j = true) : jobOk { j with ct := 1 } = true ∧ timeI { j with ct := 1 } = timeI j - j.ct + 1 := by
  obtain ⟨hv, hct, hl, hf⟩ := job_vals h
  obtain ⟨hs, h1, hc, h4, h5⟩ := jobOk_true.1 h
  have hw := setOk_width hs
  obtain ⟨hp, ha, -, hsum⟩ := valOk_true.1 hv
  have hv1 : valOk j.poly j.fr 1 = true := valOk_true.2 ⟨hp, ha, by omega, by omega⟩
  have hl1 : valL j.poly j.fr 1 = [evalI j.poly j.fr] := by
    have : valL j.poly j.fr 1 = gen (fun i => evalI j.poly (j.fr + (i : Int))) 1 := by simp [valL, hv1]
    rw [this]
    simp [gen]
  have h0 := hf 0 (by omega)
  have e0 : j.fr + ((0 : Nat) : Int) = j.fr := by omega
  rw [e0] at h0
  have hc1 : capI j.poly j.fr j.wd 1 = 1 := by
    rw [cap_yes hv1 (inB_true.2 hw), hl1, firstBad_all (fun a ha => by
      have : a = 0 := by simpa using ha
      subst this
      exact h0)]
    rfl
  have hj1 : jobOk { j with ct := 1 } = true := jobOk_true.2 ⟨hs, Int.le_refl _, hc1, h4, h5⟩
  refine ⟨hj1, ?_⟩
  rw [time_yes hj1, time_yes h]
  show (j.poly.length : Int) * j.wd + 1 = _
  omega

end Go.Proofs.Ythkpgcociklddaa
