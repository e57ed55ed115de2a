/-
  Contracts of TotalOf, both (made by gen_total.py).
-/
import Derived.Test.YthkpgcociklddaaTurnS
import Derived.Test.YthkpgcociklddaaSum
namespace Go.Proofs.Ythkpgcociklddaa
open Go.RowKit
set_option linter.unusedVariables false
set_option linter.unusedSimpArgs false
set_option maxRecDepth 100000
attribute [local go_sem ↓] Go.wp_at_zero Go.wp_at_succ

set_option maxHeartbeats 400000 in
theorem countValid_any (n : Int) (w : World) :
    Calls Try.prog 40 #[.int .i64 n] w fun e w' => e = .returned (.bool (inB n 0 60)) ∧ w = w' := by
  go_enter Try.func40, Try.ntmps40
  go_wp2
  all_goals (go_ret; refine ⟨?_, rfl⟩; simp_all [inB])
  all_goals omega

theorem Try.fieldEng (A : Option Addr) (n c : Nat) (W : World) : (Instr.field 28 (.agg #[.slice A n c]) 0).run Try.prog W = .ok (.slice A n c) W := by kernel_rfl

def totOk (l : List ByteArray) (n : Int) : Bool := sumOk l 0 && inB n 0 60
def tot (l : List ByteArray) (n : Int) : Int := if totOk l n = true then sg (sat (turnN (sumE l 0) n.toNat) 0) else 0
theorem totOk_true {l : List ByteArray} {n : Int} : totOk l n = true ↔ sumOk l 0 = true ∧ inB n 0 60 = true := by simp [totOk]
theorem tot_no {l : List ByteArray} {n : Int} (h : totOk l n = false) : tot l n = 0 := by simp [tot, h]
theorem tot_yes {l : List ByteArray} {n : Nat} (h : totOk l n = true) : tot l n = sg (sat (turnN (sumE l 0) n) 0) := by simp [tot, h]
theorem totOk_s {l : List ByteArray} {n : Int} (h : sumOk l 0 = false) : totOk l n = false := by simp [totOk, h]
theorem totOk_n {l : List ByteArray} {n : Int} (h : inB n 0 60 = false) : totOk l n = false := by simp [totOk, h]
theorem sumE_ok {l : List ByteArray} {s : Int} (h : sumOk l s = true) : engOk (sumE l s) = true := by
  rw [sumE_yes h]; exact engOk_append (sum_joinOk h)
theorem tot_bd (l : List ByteArray) (n : Int) : -9223372036854775808 ≤ tot l n ∧ tot l n ≤ 9223372036854775807 := by
  cases h : totOk l n
  · rw [tot_no h]; omega
  · unfold tot
    rw [if_pos h]
    have hs := (totOk_true.1 h).1
    have hl : 0 < (turnN (sumE l 0) n.toNat).length := (engOk_iff.1 (turnN_ok (sumE_ok hs) n.toNat)).1
    have := sg_bd ((engOk_iff.1 (turnN_ok (sumE_ok hs) n.toNat)).2.2 0 hl).1
    omega



end Go.Proofs.Ythkpgcociklddaa
