/-
  Lists of engines: marks, and the tests.
-/
import Derived.Test.YthkpgcociklddaaEngs
namespace Go.Proofs.Ythkpgcociklddaa
open Go.RowKit
set_option linter.unusedVariables false
set_option linter.unusedSimpArgs false
set_option maxRecDepth 100000
attribute [local go_sem ↓] Go.wp_at_zero Go.wp_at_succ

/-- Marked engines. -/
def mrkE (k : Nat) (ls : List (List ByteArray)) : List (List ByteArray) := genE (fun i => marksS (k + pre ls i) (eat ls i).length) ls.length
theorem mrkE_length (k : Nat) (ls : List (List ByteArray)) : (mrkE k ls).length = ls.length := genE_length _ _
theorem mrkE_at {k i : Nat} {ls : List (List ByteArray)} (h : i < ls.length) : eat (mrkE k ls) i = marksS (k + pre ls i) (eat ls i).length := eat_genE h
theorem pre_succ (ls : List (List ByteArray)) (i : Nat) : pre ls (i + 1) = pre ls i + (eat ls i).length := rfl



/-- 1 to 10 valid engines. -/
def allOk (ls : List (List ByteArray)) : Bool := inB (ls.length : Int) 1 10 && ls.all engOk
theorem allOk_true {ls : List (List ByteArray)} : allOk ls = true ↔ 1 ≤ ls.length ∧ ls.length ≤ 10 ∧ ∀ i, i < ls.length → engOk (eat ls i) = true := by
  unfold allOk
  rw [Bool.and_eq_true, inB_true, List.all_eq_true]
  constructor
  · rintro ⟨h1, h2⟩
    refine ⟨by omega, by omega, fun i hi => h2 _ ?_⟩
    have : eat ls i = ls[i] := by simp [eat, List.getD, hi]
    rw [this]; exact List.getElem_mem hi
  · rintro ⟨h1, h2, h3⟩
    refine ⟨by omega, fun x hx => ?_⟩
    obtain ⟨i, hi, rfl⟩ := List.getElem_of_mem hx
    have := h3 i hi
    simpa [eat, List.getD, hi] using this
theorem allOk_len {ls : List (List ByteArray)} (h : ¬ (1 ≤ ls.length ∧ ls.length ≤ 10)) : allOk ls = false := by
  rw [Bool.eq_false_iff]; intro e; have := allOk_true.1 e; omega
theorem allOk_at {ls : List (List ByteArray)} {i : Nat} (hi : i < ls.length) (h : engOk (eat ls i) = false) : allOk ls = false := by
  rw [Bool.eq_false_iff]; intro e; rw [(allOk_true.1 e).2.2 i hi] at h; cases h


set_option maxHeartbeats 2000000 in
theorem enginesValid_any (v : Value) (ls : List (List ByteArray)) (w : World) (hv : Engs w v ls) :
    Calls Try.prog 37 #[v] w fun e w' => e = .returned (.bool (allOk ls)) ∧ Below w.heap.size w w' := by
  obtain ⟨A, c, xs, rfl, hlc, hc, hrd, hst⟩ := hv.open_
  have HR := Lib.hid (And.intro hrd hst)
  clear hv hrd hst
  by_cases h1 : (ls.length : Int) < 1
  · have HN := Lib.hid (allOk_len (ls := ls) (by omega))
    go_enter Try.func37, Try.ntmps37
    go_wp2
    go_ret
    exact ⟨ret_bool HN.out.symm, Below.refl _ _⟩
  · by_cases h10 : 10 < (ls.length : Int)
    · have HN := Lib.hid (allOk_len (ls := ls) (by omega))
      go_enter Try.func37, Try.ntmps37
      go_wp2
      go_ret
      exact ⟨ret_bool HN.out.symm, Below.refl _ _⟩
    · go_enter Try.func37, Try.ntmps37
      go_wp2_with fail
      go_loopw [15] (fun i wr => ∃ j : Nat, j ≤ ls.length ∧ i = .int .i64 j ∧ (∀ i, i < j → engOk (eat ls i) = true) ∧ Below w.heap.size w wr) (fun i _ => ls.length - (intOf i).toNat)
      case atStart => exact ⟨0, Nat.zero_le _, rfl, fun i hi => absurd hi (by omega), Below.refl _ _⟩
      case round =>
        obtain ⟨j, hj, rfl, hall, hb⟩ := hrel
        have HB := Lib.hid (And.intro hb hall)
        by_cases hlt : j < ls.length
        · obtain ⟨b, o, rfl, hbb, hcell⟩ := HR.out.1 (by omega)
          have hs := HR.out.2 j hlt
          obtain ⟨Ai, ci, hxi, -, -, -⟩ := hs.open_
          have ck : wr.cell? ⟨b, o + j, none⟩ = some (xat xs j) := (hb.cell (by exact hbb)).trans (hcell j hlt)
          rw [hxi] at ck hs
          have HS := Lib.hid (hs.bel hb)
          clear hb hcell hs hxi hall
          go_wp2_with fail
          refine (implEng_any _ (eat ls j) _ (HS.out.bel (bel_alloc _ _))).mono ?_
          rintro e w2 ⟨rfl, b2⟩
          have HB2 := Lib.hid (bel_trans (bel_trans HB.out.1 (bel_alloc _ _)) b2)
          clear b2 ck
          cases he : engOk (eat ls j)
          · have HN := Lib.hid (allOk_at hlt he)
            go_wp2
            go_ret
            exact ⟨ret_bool HN.out.symm, HB2.out⟩
          · have HE := Lib.hid he
            clear he
            go_wp2
            go_roundw
            case rel => exact ⟨j + 1, by omega, by go_num, toSucc HB.out.2 HE.out, HB2.out⟩
            case measure => simp [intOf]; omega
        · have hjl : j = ls.length := by omega
          subst hjl
          have HN := Lib.hid (allOk_true.2 (show 1 ≤ ls.length ∧ ls.length ≤ 10 ∧ _ from ⟨by omega, by omega, HB.out.2⟩))
          clear hb hall
          go_wp2
          go_ret
          exact ⟨ret_bool HN.out.symm, HB.out.1⟩

end Go.Proofs.Ythkpgcociklddaa
