/-
  Contracts of TotalOf, both (made by gen_total.py).
-/
import Derived.Test.YtllnlndnmdbifaaTurnS
import Derived.Test.YtllnlndnmdbifaaSum
namespace Go.Proofs.Ytllnlndnmdbifaa
open Go.RowKit
set_option linter.unusedVariables false
set_option linter.unusedSimpArgs false
set_option maxRecDepth 100000
attribute [local go_sem ↓] Go.wp_at_zero Go.wp_at_succ

set_option maxHeartbeats 400000 in
theorem countValid_any (n : Int) (w : World) :
    Calls Try.prog 91 #[.int .i64 n] w fun e w' => e = .returned (.bool (inB n 0 60)) ∧ w = w' := by
  go_enter Try.func91, Try.ntmps91
  go_wp2
  all_goals (go_ret; refine ⟨?_, rfl⟩; simp_all [inB])
  all_goals omega

theorem Try.fieldEng (A : Option Addr) (n c : Nat) (W : World) : (Instr.field 26 (.agg #[.slice A n c]) 0).run Try.prog W = .ok (.slice A n c) W := by kernel_rfl

def totOk (l : List ByteArray) (n : Int) : Bool := sumOk l 0 && inB n 0 60
def tot (l : List ByteArray) (n : Int) : Int := if totOk l n = true then sg (sat (turnN (sumE l 0) n.toNat) 0) else 0
theorem totOk_true {l : List ByteArray} {n : Int} : totOk l n = true ↔ sumOk l 0 = true ∧ inB n 0 60 = true := by simp [totOk]
theorem tot_no {l : List ByteArray} {n : Int} (h : totOk l n = false) : tot l n = 0 := by simp [tot, h]
theorem tot_yes {l : List ByteArray} {n : Nat} (h : totOk l n = true) : tot l n = sg (sat (turnN (sumE l 0) n) 0) := by simp [tot, h]
theorem totOk_s {l : List ByteArray} {n : Int} (h : sumOk l 0 = false) : totOk l n = false := by simp [totOk, h]
theorem totOk_n {l : List ByteArray} {n : Int} (h : inB n 0 60 = false) : totOk l n = false := by simp [totOk, h]
theorem sumE_ok {l : List ByteArray} {s : Int} (h : sumOk l s = true) : engOk (sumE l s) = true := by
  rw [sumE_yes h]; exact engOk_append (sum_joinOk h)
theorem tot_bd (l : List ByteArray) (n : Int) : -9223372036854775808 ≤ tot l n ∧ tot l n ≤ 9223372036854775807 := by
  cases h : totOk l n
  · rw [tot_no h]; omega
  · unfold tot
    rw [if_pos h]
    have hs := (totOk_true.1 h).1
    have hl : 0 < (turnN (sumE l 0) n.toNat).length := (engOk_iff.1 (turnN_ok (sumE_ok hs) n.toNat)).1
    have := sg_bd ((engOk_iff.1 (turnN_ok (sumE_ok hs) n.toNat)).2.2 0 hl).1
    omega

set_option maxHeartbeats 2000000 in
theorem implTot_any (u : Value) (l : List ByteArray) (n : Int) (w : World) (hu : Strs w u l) (hn : -9223372036854775808 ≤ n ∧ n ≤ 9223372036854775807) :
    Calls Try.prog 57 #[.agg #[u], .int .i64 n] w fun e w' => e = .returned (.tuple #[.int .i64 (tot l n), .bool (totOk l n)]) ∧ Below w.heap.size w w' := by
  have HU := Lib.hid hu
  obtain ⟨A, c, rfl, -, -, -⟩ := hu.open_
  clear hu
  have B0 := Lib.hid (show Below w.heap.size w (w.alloc (.cells #[.slice A l.length c] 26)) from bel_alloc w _)
  have K0 := Blk.new' w 26 (.slice A l.length c) w.heap.size rfl
  obtain ⟨c0, -⟩ := K0.one
  go_enter Try.func57, Try.ntmps57
  go_wp2_with fail
  clear c0 K0
  generalize hW : w.alloc (.cells #[.slice A l.length c] 26) = W at *
  clear hW
  refine (implSum_any _ l 0 _ (HU.out.bel B0.out) (by omega)).mono ?_
  rintro e w2 ⟨r, rfl, ho, hb⟩
  obtain ⟨A2, c2, rfl, -, -, -⟩ := ho.strs.open_
  have ba : Below w2.heap.size w2 (w2.alloc (.cells #[.slice A2 (sumE l 0).length c2] 26)) := bel_alloc w2 _
  have K := Blk.new' w2 26 (.slice A2 (sumE l 0).length c2) _ rfl
  obtain ⟨e1, -⟩ := K.one
  have H := Lib.hid (And.intro (ho.bel ba).strs (bel_trans (bel_trans B0.out hb) ba))
  clear ho hb ba K
  cases hs : sumOk l 0
  · have HN := Lib.hid (And.intro (totOk_s (n := n) hs) (tot_no (totOk_s (n := n) hs)))
    go_wp2
    go_ret2
    exact ⟨by rw [HN.out.1, HN.out.2]; rfl, H.out.2⟩
  · cases hc : inB n 0 60
    · have HN := Lib.hid (And.intro (totOk_n (l := l) hc) (tot_no (totOk_n (l := l) hc)))
      go_wp2_with ((go_at_call 91; refine (countValid_any _ _).mono ?_; rintro e w' ⟨rfl, rfl⟩))
      go_ret2
      exact ⟨by rw [HN.out.1, HN.out.2]; rfl, H.out.2⟩
    · have hc' := inB_true.1 hc
      obtain ⟨k, rfl⟩ : ∃ k : Nat, n = k := ⟨n.toNat, by omega⟩
      have ht := totOk_true.2 ⟨hs, hc⟩
      have HY := Lib.hid (And.intro ht (tot_yes ht))
      have hok := sumE_ok hs
      have hT := engOk_iff.1 (turnN_ok hok k)
      have HT := Lib.hid hT
      have hlen := turnN_length (sumE l 0) k
      obtain ⟨t1, t7, -⟩ := hT
      generalize hse : sumE l 0 = se at *
      clear hse ht
      have Hok := Lib.hid hok
      clear hok
      go_wp2_with ((go_at_call 91; refine (countValid_any _ _).mono ?_; rintro e w' ⟨rfl, rfl⟩))
      generalize hW : w2.alloc (.cells #[.slice A2 se.length c2] 26) = W3 at *
      clear hW
      refine (turnedMany_any _ se k _ H.out.1 Hok.out (by omega)).mono ?_
      rintro e w4 ⟨r, rfl, ho, hb⟩
      have H4 := Lib.hid (bel_trans H.out.2 hb)
      obtain ⟨A5, c5, rfl, -, -, hrd⟩ := ho.strs.open_
      obtain ⟨b, o, rfl, hbb, hcell⟩ := hrd.strs (by omega)
      have ca := hcell 0 (by omega)
      rw [Nat.add_zero] at ca
      have hcol := (HT.out.2.2 0 (by omega)).1
      generalize hp : (turnN se k).length = p at *
      clear hp hcell hrd ho hb
      have hfe := Try.fieldEng
      go_wp2_with fail
      refine (signedOf_any (sat (turnN se k) 0) _ hcol).mono ?_
      rintro e w5 ⟨rfl, rfl⟩
      go_wp2
      go_ret2
      exact ⟨by rw [HY.out.1, HY.out.2]; rfl, H4.out⟩


end Go.Proofs.Ytllnlndnmdbifaa
