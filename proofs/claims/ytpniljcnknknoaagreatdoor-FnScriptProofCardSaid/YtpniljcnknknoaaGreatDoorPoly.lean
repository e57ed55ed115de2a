/-
  Contracts of binomials and of values of polynomials, with Go's wraps written out.
-/
import Derived.Test.YtpniljcnknknoaaGreatDoorInts
import Derived.Test.YtpniljcnknknoaaGreatDoorSlices
import Derived.Test.YtpniljcnknknoaaGreatDoorCol
namespace Go.Proofs.YtpniljcnknknoaaGreatDoor
open Go.RowKit
set_option linter.unusedVariables false
set_option maxRecDepth 100000

theorem wrap64_bd (x : Int) : -9223372036854775808 ≤ wrap64 x ∧ wrap64 x ≤ 9223372036854775807 := i64_of_wf (wrap64_wf x)
def chooseI (n : Int) : Nat → Int
  | 0 => 1
  | i + 1 => wrap64 ((wrap64 (chooseI n i * wrap64 (n - i))).tdiv ((i : Int) + 1))
theorem chooseI_bd (n : Int) (i : Nat) : -9223372036854775808 ≤ chooseI n i ∧ chooseI n i ≤ 9223372036854775807 := by
  cases i with
  | zero => simp [chooseI]
  | succ i => exact wrap64_bd _

set_option maxHeartbeats 1000000 in
theorem l2Choose_any (n : Int) (k : Nat) (w : World) (hn : -9223372036854775808 ≤ n ∧ n ≤ 9223372036854775807) (hk : k ≤ 1000000000) :
    Calls Tryz.prog 246 #[.int .i64 n, .int .i64 k] w fun e w' => e = .returned (.int .i64 (chooseI n k)) ∧ w = w' := by
  go_enter Tryz.func246, Tryz.ntmps246
  go_wp2
  go_loop [5, 6] (fun r i => ∃ j : Nat, j ≤ k ∧ i = .int .i64 j ∧ r = .int .i64 (chooseI n j)) (fun _ i => k - (intOf i).toNat)
  case atStart => exact ⟨0, Nat.zero_le _, rfl, rfl⟩
  case round =>
    obtain ⟨j, hj, rfl, rfl⟩ := hrel
    have hb := chooseI_bd n j
    by_cases hlt : j < k
    · go_wp2
      go_round
      case rel =>
        exact ⟨j + 1, by omega, by go_num, rfl⟩
      case measure => simp [intOf]; omega
    · have hjk : j = k := by omega
      subst hjk
      go_wp2
      go_ret
      exact ⟨rfl, rfl⟩

def evalTo (p : List Int) (n : Int) : Nat → Int
  | 0 => 0
  | k + 1 => wrap64 (evalTo p n k + wrap64 (at_ p k * chooseI n k))
def evalI (p : List Int) (n : Int) : Int := evalTo p n p.length
theorem evalTo_bd (p : List Int) (n : Int) (k : Nat) : -9223372036854775808 ≤ evalTo p n k ∧ evalTo p n k ≤ 9223372036854775807 := by
  cases k with
  | zero => simp [evalTo]
  | succ k => exact wrap64_bd _
def valsI (p : List Int) (a s : Int) (c : Nat) : List Int := gen (fun i => evalI p (wrap64 (a + wrap64 (s * i)))) c

set_option maxHeartbeats 1000000 in
theorem l2Eval_any (v : Value) (p : List Int) (n : Int) (w : World) (hv : Ints w v p) (hn : -9223372036854775808 ≤ n ∧ n ≤ 9223372036854775807) (hp : p.length ≤ 1000000000) :
    Calls Tryz.prog 213 #[v, .int .i64 n] w fun e w' => e = .returned (.int .i64 (evalI p n)) ∧ Below w.heap.size w w' := by
  obtain ⟨A, c, rfl, hlc, hc, hrd⟩ := hv.open_
  go_enter Tryz.func213, Tryz.ntmps213
  go_wp2
  go_loopw [5, 6] (fun r i wr => ∃ j : Nat, j ≤ p.length ∧ i = .int .i64 j ∧ r = .int .i64 (evalTo p n j) ∧ ∃ nd, wr = w.drewN nd) (fun _ i _ => p.length - (intOf i).toNat)
  case atStart => exact ⟨0, Nat.zero_le _, rfl, rfl, 0, rfl⟩
  case round =>
    obtain ⟨j, hj, rfl, rfl, nd, rfl⟩ := hrel
    have hb := evalTo_bd p n j
    by_cases hlt : j < p.length
    · obtain ⟨b, o, rfl, hb, hcell⟩ := hrd.ints (by omega)
      have hck := hcell j hlt
      have p1 : (j : Int) < (p.length : Int) := by omega
      have p3 : (0 : Int) ≤ (j : Int) := by omega
      clear hcell
      go_wp2
      go_quiet ((go_at_call 246; first | exact quiet_left (l2Choose_any _ _ _ (by omega) (by omega)) | exact quiet_add_left (l2Choose_any _ _ _ (by omega) (by omega))))
      go_wp2
      go_roundw
      case rel =>
        exact ⟨j + 1, by omega, by go_num, rfl, _, rfl⟩
      case measure => simp [intOf]; omega
    · have hjk : j = p.length := by omega
      subst hjk
      go_wp2
      go_ret
      exact ⟨rfl, below_drewN (Below.refl _ _) _⟩

set_option maxHeartbeats 1000000 in
theorem l2Values_any (v : Value) (p : List Int) (a s : Int) (c : Nat) (w : World) (hv : Ints w v p) (ha : -9223372036854775808 ≤ a ∧ a ≤ 9223372036854775807) (hs : -9223372036854775808 ≤ s ∧ s ≤ 9223372036854775807) (hp : p.length ≤ 1000000000) (hc : c ≤ 1000000000) :
    Calls Tryz.prog 152 #[v, .int .i64 a, .int .i64 s, .int .i64 c] w fun e w' => ∃ r, e = .returned r ∧ Own w' w.heap.size r (valsI p a s c) ∧ Below w.heap.size w w' := by
  have HV := Lib.hid hv
  have OE := Lib.hid (Own.empty w w.heap.size (Nat.le_refl _))
  clear hv
  go_enter Tryz.func152, Tryz.ntmps152
  go_wp2
  go_loopw [9, 10] (fun r i wr => ∃ j : Nat, j ≤ c ∧ i = .int .i64 j ∧ Own wr w.heap.size r (valsI p a s j) ∧ Below w.heap.size w wr) (fun _ i _ => c - (intOf i).toNat)
  case atStart => exact ⟨0, Nat.zero_le _, rfl, OE.out, bel_alloc _ _⟩
  case round =>
    obtain ⟨j, hj, rfl, ho, hb⟩ := hrel
    have HO := Lib.hid (And.intro ho hb)
    have hz := hb.size
    clear ho hb
    by_cases hlt : j < c
    · go_wp2_with fail
      refine (l2Eval_any _ p _ _ (HV.out.bel HO.out.2) (by first | exact wrap64_bd _ | omega) hp).mono ?_
      rintro e w1 ⟨rfl, b1⟩
      have z1 := b1.size
      have H1 := Lib.hid b1
      clear b1
      go_wp2_with (at_builtin; refine app_int rfl (.tmp 17) (.tmp 25) (by rfl) w.heap.size u9 _ (by rfl) (by exact (HO.out.1.bel H1.out).bel (bel_alloc _ _)) _ _ _ (by rfl) (by exact new_cell _ _ _) (evalTo_bd _ _ _) (by rw [valsI, gen_length]; omega) (by simp; omega) ?_; intro v1 w2 ho hg _)
      go_roundw
      case rel => exact ⟨j + 1, by omega, by go_num, by rw [valsI, gen_succ]; exact ho, app_bel (bel_trans (bel_trans HO.out.2 H1.out) (bel_alloc _ _)) ((HO.out.1.bel H1.out).bel (bel_alloc _ _)) hg⟩
      case measure => simp [intOf]; omega
    · have hjk : j = c := by omega
      subst hjk
      go_wp2
      go_ret
      exact ⟨_, rfl, HO.out.1, HO.out.2⟩

end Go.Proofs.YtpniljcnknknoaaGreatDoor
