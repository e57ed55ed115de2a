/-
  Texts of polynomials and of jobs, in both packages (made by gen_fmt.py).
-/
import Derived.Test.YtpniljcnknknoaaGreatDoorTxt
import Derived.Test.YtpniljcnknknoaaGreatDoorJobC
import Derived.Test.YtpniljcnknknoaaGreatDoorEngLaw
import Derived.Test.YtpniljcnknknoaaGreatDoorSetPlain
import Derived.Deep.RegionHeld3
namespace Go.Proofs.YtpniljcnknknoaaGreatDoor
open Go.RowKit
set_option linter.unusedVariables false
set_option linter.unusedSimpArgs false
set_option maxRecDepth 100000
attribute [local go_sem ↓] Go.wp_at_zero Go.wp_at_succ

theorem wpAnyH_listed {P : Program} {md : Region.Mode} {ops : Array Oper} {Q : Exit → Act → World → Prop} {S : World → Prop} {fuel : Nat} {l l' : Array Bool} {a : Act} {w : World} (h : l = l') (H : wpAnyH P md ops Q S fuel l' a w) : wpAnyH P md ops Q S fuel l a w := by rw [h]; exact H
theorem lit_ints (w : World) (l : List Int) (hl : l.length ≤ 1000) (hwf : Wf l) : Ints (w.alloc (.cells (iv l).toArray 3)) (.slice (some ⟨w.heap.size, 0, none⟩) l.length l.length) l :=
  ⟨Sl.own ((Blk.new w 3 (iv l)).own (Nat.le_refl _) (iv_length l) (by unfold maxLen; omega)) (by unfold maxLen; omega), hwf⟩
theorem lit_texts (w : World) (l : List ByteArray) (hl : l.length ≤ 1000) (hwf : WfS l) : Strs (w.alloc (.cells (sv l).toArray 9)) (.slice (some ⟨w.heap.size, 0, none⟩) l.length l.length) l :=
  ⟨Sl.own ((Blk.new w 9 (sv l)).own (Nat.le_refl _) (sv_length l) (by unfold maxLen; omega)) (by unfold maxLen; omega), hwf⟩
/-- The text of a polynomial. -/
def polyS (p : List Int) : ByteArray := if polyOk p = true then numsS p else ⟨#[]⟩
theorem polyS_no {p : List Int} (h : polyOk p = false) : polyS p = ⟨#[]⟩ := by simp [polyS, h]
theorem polyS_yes {p : List Int} (h : polyOk p = true) : polyS p = numsS p := by simp [polyS, h]
theorem poly_len {p : List Int} (h : polyOk p = true) : p.length ≤ 7 := (polyOk_true.1 h).2.1
set_option maxHeartbeats 1000000 in
theorem implFP_any (v : Value) (p : List Int) (w : World) (hv : Ints w v p) (ht : Tab w) :
    Calls Tryz.prog 15 #[v] w fun e w' => e = .returned (.string (polyS p)) ∧ Below w.heap.size w w' := by
  have HV := Lib.hid hv
  obtain ⟨A, c, rfl, -, -, -⟩ := hv.open_
  clear hv
  go_enter Tryz.func15, Tryz.ntmps15
  go_wp2_with fail
  refine (implPoly_any _ p _ HV.out).mono ?_
  rintro e w2 ⟨rfl, rfl⟩
  cases hp : polyOk p
  · have HN := Lib.hid (polyS_no hp)
    go_wp2
    go_ret
    exact ⟨by rw [HN.out]; rfl, Below.refl _ _⟩
  · have HN := Lib.hid (polyS_yes hp)
    have hl := poly_len hp
    go_wp2_with fail
    refine (joinNumbers_any _ p _ HV.out (by omega) ht).mono ?_
    rintro e w3 ⟨rfl, b⟩
    go_wp2
    go_ret
    exact ⟨by rw [HN.out]; rfl, b⟩

/-- The groups of a job's text, and the text. -/
def gr1 (j : JobD) : ByteArray := numsS [j.fr, j.ct, j.wd]
def gr2 (j : JobD) : ByteArray := numsS [j.dg, j.wy]
def gr3 (j : JobD) : ByteArray := numsS [j.rw, j.ac, j.wi]
def semi : ByteArray := ⟨#[59]⟩
def fmtJ (j : JobD) : ByteArray := if jobOk j = true then polyS j.poly ++ semi ++ gr1 j ++ semi ++ gr2 j ++ semi ++ gr3 j else ⟨#[]⟩
theorem fmt_no {j : JobD} (h : jobOk j = false) : fmtJ j = ⟨#[]⟩ := by simp [fmtJ, h]
theorem fmt_yes {j : JobD} (h : jobOk j = true) : fmtJ j = polyS j.poly ++ semi ++ gr1 j ++ semi ++ gr2 j ++ semi ++ gr3 j := by simp [fmtJ, h]
theorem join_four (a b c d : ByteArray) : joinS [a, b, c, d] semi = a ++ semi ++ b ++ semi ++ c ++ semi ++ d := by
  unfold joinS semi
  simp only [List.map_cons, List.map_nil]
  rw [Lib.join_cons]
  apply ByteArray.ext
  apply Array.toList_inj.1
  simp [Lib.joinTail]
theorem job_poly {j : JobD} (h : jobOk j = true) : polyOk j.poly = true := (argOk_true.1 (set_raw (jobOk_true.1 h).1).1).1
theorem fmt_sizes {j : JobD} (hv : Wf j.poly) (hj : j.In) (h : jobOk j = true) : (polyS j.poly).size ≤ 154 ∧ (gr1 j).size ≤ 66 ∧ (gr2 j).size ≤ 66 ∧ (gr3 j).size ≤ 66 := by
  have h0 := job_poly h
  have h7 := poly_len h0
  have w1 : Wf [j.fr, j.ct, j.wd] := fun x hx => by simp at hx; rcases hx with rfl | rfl | rfl; exact hj.fr; exact hj.ct; exact hj.wd
  have w2 : Wf [j.dg, j.wy] := fun x hx => by simp at hx; rcases hx with rfl | rfl; exact hj.dg; exact hj.wy
  have w3 : Wf [j.rw, j.ac, j.wi] := fun x hx => by simp at hx; rcases hx with rfl | rfl | rfl; exact hj.rw; exact hj.ac; exact hj.wi
  rw [polyS_yes h0]
  have s0 := numsS_size hv
  have s1 := numsS_size w1
  have s2 := numsS_size w2
  have s3 := numsS_size w3
  simp at s1 s2 s3
  exact ⟨by omega, s1, by unfold gr2; omega, s3⟩
theorem job_wf {j : JobD} (hj : j.In) : Wf [j.fr, j.ct, j.wd] ∧ Wf [j.dg, j.wy] ∧ Wf [j.rw, j.ac, j.wi] :=
  ⟨fun x hx => by simp at hx; rcases hx with rfl | rfl | rfl; exact hj.fr; exact hj.ct; exact hj.wd, fun x hx => by simp at hx; rcases hx with rfl | rfl; exact hj.dg; exact hj.wy, fun x hx => by simp at hx; rcases hx with rfl | rfl | rfl; exact hj.rw; exact hj.ac; exact hj.wi⟩

end Go.Proofs.YtpniljcnknknoaaGreatDoor
