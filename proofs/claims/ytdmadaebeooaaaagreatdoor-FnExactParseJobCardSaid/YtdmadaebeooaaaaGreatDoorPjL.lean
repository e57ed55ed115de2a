/-
  Jobs parsed: both packages agree, plainly.
-/
import Derived.Test.YtdmadaebeooaaaaGreatDoorPjK
import Derived.Test.YtdmadaebeooaaaaGreatDoorJobB
namespace Go.Proofs.YtdmadaebeooaaaaGreatDoor
open Go.RowKit
set_option linter.unusedVariables false
set_option linter.unusedSimpArgs false
set_option maxRecDepth 100000

def imJ (t : ByteArray) : JobD := ⟨ppL (grp t 0), at_ (spL (grp t 1)) 0, at_ (spL (grp t 1)) 1, at_ (spL (grp t 1)) 2, at_ (spL (grp t 2)) 0, at_ (spL (grp t 2)) 1, at_ (spL (grp t 3)) 0, at_ (spL (grp t 3)) 1, at_ (spL (grp t 3)) 2⟩
def ImOk (t : ByteArray) : Prop := (cutS 59 t).length = 4 ∧ ppOk (grp t 0) = true ∧ numsOk (grp t 1) = true ∧ numsOk (grp t 2) = true ∧ numsOk (grp t 3) = true ∧ (spL (grp t 1)).length = 3 ∧ (spL (grp t 2)).length = 2 ∧ (spL (grp t 3)).length = 3 ∧ jobOk (imJ t) = true
theorem list4 {l : List ByteArray} (h : l.length = 4) : l = [sat l 0, sat l 1, sat l 2, sat l 3] := by
  match l, h with
  | [a, b, c, d], _ => rfl
theorem list3i {l : List Int} (h : l.length = 3) : [at_ l 0, at_ l 1, at_ l 2] = l := by
  match l, h with
  | [a, b, c], _ => rfl
theorem list2i {l : List Int} (h : l.length = 2) : [at_ l 0, at_ l 1] = l := by
  match l, h with
  | [a, b], _ => rfl
theorem cut_len_nums (g : ByteArray) : (cutS 32 g).length = (numsV g).length := by unfold numsV; rw [List.length_map]
theorem eight_spL {g : ByteArray} {n : Nat} (h : numsOk g = true) (hl : (spL g).length = n) : eight g n = spL g := by
  rw [spL_yes h] at hl ⊢
  exact eight_yes (by rw [cut_len_nums]; exact hl) h
theorem spP_ppL {g : ByteArray} (h : ppOk g = true) : spP g = ppL g ∧ polyS (ppL g) = g := by
  unfold ppOk at h
  rw [Bool.and_eq_true] at h
  have h1 := spL_yes h.1
  rw [h1] at h
  have h7 := poly_len h.2
  have e : ppL g = numsV g := by unfold ppL; rw [h1, chkL_yes h.2]
  have h8 : numsTo (cutS 32 g) 8 = numsV g := numsTo_all (by rw [cut_len_nums]; omega)
  have hp : polyS (numsV g) = g := by rw [polyS_yes h.2, numsS_numsV h.1]
  rw [e]
  exact ⟨by rw [spP_yes (by rw [h8]; exact hp), h8], hp⟩
/-- What is parsed is what the reference parses. -/
theorem im_sp {t : ByteArray} (h : ImOk t) : imJ t = spJ t ∧ fmtJ (spJ t) = t := by
  obtain ⟨h4, hp, o1, o2, o3, l1, l2, l3, hj⟩ := h
  obtain ⟨e0, f0⟩ := spP_ppL hp
  have e : imJ t = spJ t := by
    unfold imJ spJ
    rw [eight_spL o1 l1, eight_spL o2 l2, eight_spL o3 l3, e0]
  refine ⟨e, ?_⟩
  rw [← e, fmt_yes hj, ← join_four]
  have r1 : gr1 (imJ t) = grp t 1 := by
    show numsS [at_ (spL (grp t 1)) 0, at_ (spL (grp t 1)) 1, at_ (spL (grp t 1)) 2] = _
    rw [list3i l1, spL_yes o1, numsS_numsV o1]
  have r2 : gr2 (imJ t) = grp t 2 := by
    show numsS [at_ (spL (grp t 2)) 0, at_ (spL (grp t 2)) 1] = _
    rw [list2i l2, spL_yes o2, numsS_numsV o2]
  have r3 : gr3 (imJ t) = grp t 3 := by
    show numsS [at_ (spL (grp t 3)) 0, at_ (spL (grp t 3)) 1, at_ (spL (grp t 3)) 2] = _
    rw [list3i l3, spL_yes o3, numsS_numsV o3]
  rw [r1, r2, r3, show polyS (imJ t).poly = grp t 0 from f0]
  have := joinS_cut 59 t
  rw [list4 h4] at this
  exact this
theorem job_sm {j : JobD} (hj : j.In) (h : jobOk j = true) : Sm j.poly ∧ Sm [j.fr, j.ct, j.wd] ∧ Sm [j.dg, j.wy] ∧ Sm [j.rw, j.ac, j.wi] := by
  obtain ⟨h1, h2, h3, h4, h5⟩ := jobOk_true.1 h
  obtain ⟨hk1, hk2, -, -⟩ := set_raw h1
  obtain ⟨hp0, hn⟩ := argOk_true.1 hk1
  obtain ⟨p1, p7, hp⟩ := polyOk_true.1 hp0
  have hc := capI_bd j.poly j.fr j.wd j.ct
  rw [h3] at hc
  simp [wayOk, inB] at h4
  simp [layOk, inB] at h5
  refine ⟨fun n hn => ?_, fun n hn => ?_, fun n hn => ?_, fun n hn => ?_⟩
  · obtain ⟨k, hk, rfl⟩ := List.getElem_of_mem hn
    have := hp k hk
    unfold at_ at this
    rw [List.getD_eq_getElem?_getD, List.getElem?_eq_getElem hk] at this
    simp at this
    omega
  · simp at hn
    rcases hn with rfl | rfl | rfl <;> omega
  · simp at hn
    rcases hn with rfl | rfl <;> omega
  · simp at hn
    rcases hn with rfl | rfl | rfl <;> omega
theorem sp_im {t : ByteArray} (h4 : (cutS 59 t).length = 4) (h : fmtJ (spJ t) = t) : ImOk t := by
  obtain ⟨j, hj⟩ : ∃ j, j = spJ t := ⟨_, rfl⟩
  have hin : j.In := by rw [hj]; constructor <;> exact eight_bd _ _ _
  rw [← hj] at h
  have hok : jobOk j = true := by
    cases hq : jobOk j
    · rw [fmt_no hq] at h
      rw [← h] at h4
      exact absurd h4 (by decide)
    · rfl
  have hpo := job_poly hok
  obtain ⟨s0, s1, s2, s3⟩ := job_sm hin hok
  have hp1 : j.poly ≠ [] := fun e => by have := (polyOk_true.1 hpo).1; rw [e] at this; simp at this
  rw [fmt_yes hok, polyS_yes hpo, ← join_four] at h
  have hc : cutS 59 t = [numsS j.poly, gr1 j, gr2 j, gr3 j] := by
    rw [← h]
    apply cutS_join
    intro p hp
    simp at hp
    rcases hp with rfl | rfl | rfl | rfl <;> exact numsS_no (by decide) (by decide) (by decide) _
  have g0 : grp t 0 = numsS j.poly := by unfold grp; rw [hc]; rfl
  have g1 : grp t 1 = gr1 j := by unfold grp; rw [hc]; rfl
  have g2 : grp t 2 = gr2 j := by unfold grp; rw [hc]; rfl
  have g3 : grp t 3 = gr3 j := by unfold grp; rw [hc]; rfl
  obtain ⟨a0, b0⟩ := numsOk_of hp1 s0
  obtain ⟨a1, b1⟩ := numsOk_of (by simp) s1
  obtain ⟨a2, b2⟩ := numsOk_of (by simp) s2
  obtain ⟨a3, b3⟩ := numsOk_of (by simp) s3
  have l0 : spL (grp t 0) = j.poly := by rw [g0, spL_yes a0, b0]
  have l1 : spL (grp t 1) = [j.fr, j.ct, j.wd] := by rw [g1]; unfold gr1; rw [spL_yes a1, b1]
  have l2 : spL (grp t 2) = [j.dg, j.wy] := by rw [g2]; unfold gr2; rw [spL_yes a2, b2]
  have l3 : spL (grp t 3) = [j.rw, j.ac, j.wi] := by rw [g3]; unfold gr3; rw [spL_yes a3, b3]
  have hi : imJ t = j := by
    unfold imJ ppL
    rw [l0, l1, l2, l3, chkL_yes hpo]
    rfl
  refine ⟨h4, ?_, ?_, ?_, ?_, ?_, ?_, ?_, ?_⟩
  · unfold ppOk
    rw [l0, hpo, g0, a0]
    rfl
  · rw [g1]; exact a1
  · rw [g2]; exact a2
  · rw [g3]; exact a3
  · rw [l1]; rfl
  · rw [l2]; rfl
  · rw [l3]; rfl
  · rw [hi]; exact hok
theorem spR_good {t : ByteArray} (h : ImOk t) : spR t = (imJ t, true) := by rw [spR_yes h.1 (im_sp h).2, (im_sp h).1]
theorem spR_bad {t : ByteArray} (h : ¬ ImOk t) : spR t = (zeroJ, false) := spR_no fun x => h (sp_im x.1 x.2)
end Go.Proofs.YtdmadaebeooaaaaGreatDoor
