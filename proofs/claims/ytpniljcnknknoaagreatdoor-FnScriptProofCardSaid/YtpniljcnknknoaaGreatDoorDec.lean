/-
  Decimal texts of numbers, in both packages: l9Dec, l2Text, joinNumbers.
-/
import Derived.Test.YtpniljcnknknoaaGreatDoorMark
import Derived.Lib.ItoaNum
import Derived.Lib.ItoaMem
import Derived.Lib.ItoaLen
import Derived.Lib.Join
namespace Go.Proofs.YtpniljcnknknoaaGreatDoor
open Go.RowKit
set_option linter.unusedVariables false
set_option linter.unusedSimpArgs false
set_option maxRecDepth 100000

/-- The decimal text of a number. -/
def decS (u : Nat) : ByteArray := ⟨(Lib.decDigits u).toArray⟩
def itoaS (n : Int) : ByteArray := ⟨(Lib.itoa n).toArray⟩
theorem ba_app (a b : List UInt8) : (⟨a.toArray⟩ : ByteArray) ++ ⟨b.toArray⟩ = ⟨(a ++ b).toArray⟩ := by
  apply ByteArray.ext
  apply Array.toList_inj.1
  simp
theorem decS_small {j : Nat} (h : j < 10) : decS j = strOfNums [48 + (j : Int)] := by
  unfold decS strOfNums
  rw [Lib.decDigits_one h]
  have : ((48 + (j : Int)).toNat) = 48 + j := by omega
  simp [this]
theorem decS_step {j : Nat} (h : ¬ j < 10) : decS j = decS (j / 10) ++ strOfNums [48 + (j : Int) % 10] := by
  unfold decS strOfNums
  rw [Lib.decDigits, dif_neg h, ba_app]
  have : ((48 + (j : Int) % 10).toNat) = 48 + j % 10 := by omega
  simp [this]
theorem itoaS_nat (u : Nat) : itoaS (u : Int) = decS u := by unfold itoaS decS; rw [Lib.itoa_nonneg]
theorem itoaS_neg {u : Nat} (h : 1 ≤ u) : itoaS (-(u : Int)) = ⟨#[45]⟩ ++ decS u := by
  unfold itoaS decS
  rw [Lib.itoa_neg u h, show (⟨#[45]⟩ : ByteArray) = ⟨([45] : List UInt8).toArray⟩ from rfl, ba_app]
  rfl
theorem itoaS_size {n : Int} (h0 : -9223372036854775808 ≤ n) (h1 : n ≤ 9223372036854775807) : (itoaS n).size ≤ 21 := by
  have := Lib.itoa_length_le n h0 h1
  unfold itoaS
  simpa [ByteArray.size] using this
theorem itoaS_least : itoaS (-9223372036854775808) = ⟨#[45, 57, 50, 50, 51, 51, 55, 50, 48, 51, 54, 56, 53, 52, 55, 55, 53, 56, 48, 56]⟩ := by
  have e : (-9223372036854775808 : Int) = -((9223372036854775808 : Nat) : Int) := by omega
  rw [e, itoaS_neg (by omega)]
  have d : decS 9223372036854775808 = ⟨#[57, 50, 50, 51, 51, 55, 50, 48, 51, 54, 56, 53, 52, 55, 55, 53, 56, 48, 56]⟩ := by
    unfold decS
    simp [Lib.decDigits]
  rw [d]
  rfl

set_option maxHeartbeats 1000000 in
theorem dec_nat (k : Nat) (w : World) (hk : k ≤ 9223372036854775807) :
    Calls Tryz.prog 244 #[.int .i64 k] w fun e w' => e = .returned (.string (decS k)) ∧ Below w.heap.size w w' := by
  have hcv := Tryz.conv1
  have h1 : ¬ (k : Int) < -9223372036854775807 := by omega
  have h2 : ¬ (k : Int) < 0 := by omega
  go_enter Tryz.func244, Tryz.ntmps244
  go_wp2
  go_loopw [0, 3] (fun n s wr => ∃ (j : Nat) (t : ByteArray), n = .int .i64 j ∧ j ≤ k ∧ t.size + j ≤ k ∧ s = .string t ∧ decS j ++ t = decS k ∧ Below w.heap.size w wr) (fun n _ _ => (intOf n).toNat)
  case atStart => exact ⟨k, ByteArray.empty, rfl, Nat.le_refl _, by simp, rfl, by simp, Below.refl _ _⟩
  case round =>
    obtain ⟨j, t, rfl, hjk, hj, rfl, hd, hb⟩ := hrel
    have HD := Lib.hid (And.intro hd hb)
    have hz := hb.size
    clear hd hb h1 h2
    have hsz : (strOfNums [48 + (j : Int) % 10]).size = 1 := strOfNums_size _
    have hsz2 : (strOfNums [48 + (j : Int)]).size = 1 := strOfNums_size _
    have hts : t.size ≤ 21 := by
      have e := congrArg ByteArray.size HD.out.1
      rw [ByteArray.size_append] at e
      have := itoaS_size (n := (k : Int)) (by omega) (by omega)
      rw [itoaS_nat] at this
      omega
    have hcat : ¬ 9223372036854775807 < 1 + t.size := by omega
    by_cases hlt : j < 10
    · have hl : ¬ (9 : Int) < (j : Int) := by omega
      go_wp2
      go_ret
      refine ⟨?_, HD.out.2.alloc hz _⟩
      rw [← HD.out.1, decS_small hlt]
      rfl
    · have hl : (9 : Int) < (j : Int) := by omega
      go_wp2
      go_roundw
      case rel => exact ⟨j / 10, _, by go_num, by omega, by rw [ByteArray.size_append, strOfNums_size]; simp; omega, rfl, by rw [← ByteArray.append_assoc, ← decS_step hlt]; exact HD.out.1, HD.out.2.alloc hz _⟩
      case measure => simp [intOf]; omega
set_option maxHeartbeats 1000000 in
theorem l9Dec_any (n : Int) (w : World) (h0 : -9223372036854775808 ≤ n) (h1 : n ≤ 9223372036854775807) :
    Calls Tryz.prog 244 #[.int .i64 n] w fun e w' => e = .returned (.string (itoaS n)) ∧ Below w.heap.size w w' := by
  by_cases hn : n < 0
  · by_cases hm : n < -9223372036854775807
    · obtain rfl : n = -9223372036854775808 := by omega
      have HL := Lib.hid itoaS_least
      go_enter Tryz.func244, Tryz.ntmps244
      go_wp2
      go_ret
      exact ⟨by rw [HL.out]; rfl, Below.refl _ _⟩
    · obtain ⟨u, rfl⟩ : ∃ u : Nat, n = -(u : Int) := ⟨(-n).toNat, by omega⟩
      have hu : 1 ≤ u := by omega
      have HL := Lib.hid (itoaS_neg hu)
      go_enter Tryz.func244, Tryz.ntmps244
      go_wp2_with fail
      refine (dec_nat u _ (by omega)).mono ?_
      rintro e w2 ⟨rfl, b⟩
      have HB := Lib.hid b
      have hsz : (decS u).size ≤ 21 := by rw [← itoaS_nat]; exact itoaS_size (by omega) (by omega)
      have hcat : ¬ 9223372036854775807 < 1 + (decS u).size := by omega
      have hcat2 : ¬ 9223372036854775807 < (decS u).size + 1 := by omega
      clear b
      go_wp2
      go_ret
      exact ⟨by rw [HL.out]; rfl, HB.out⟩
  · obtain ⟨u, rfl⟩ : ∃ u : Nat, n = (u : Int) := ⟨n.toNat, by omega⟩
    rw [itoaS_nat]
    exact dec_nat u w (by omega)

end Go.Proofs.YtpniljcnknknoaaGreatDoor
