/-
  Contracts of l3Turn, l3Many (spec), turnedMany (impl; turns forwards).
-/
import Derived.Test.YthkpgcociklddaaTurn
import Derived.LoopN
import Derived.Deep.RegionHeld3
namespace Go.Proofs.Ythkpgcociklddaa
open Go.RowKit
set_option linter.unusedVariables false
set_option linter.unusedSimpArgs false
set_option maxRecDepth 100000
attribute [local go_sem ↓] Go.wp_at_zero Go.wp_at_succ


set_option maxHeartbeats 2000000 in
theorem turnedMany_any (v : Value) (l : List ByteArray) (n : Nat) (w : World) (hv : Strs w v l) (ok : engOk l = true) (hn : n ≤ 300) :
    Calls Try.prog 67 #[v, .int .i64 n] w fun e w' => ∃ r, e = .returned r ∧ OwnS w' w.heap.size r (turnN l n) ∧ Below w.heap.size w w' := by
  have HV := Lib.hid hv
  obtain ⟨A, c, rfl, hlc, hc, hrd⟩ := hv.open_
  have l7 := (engOk_iff.1 ok).2.1
  have OK := Lib.hid ok
  clear hrd hv ok
  go_enter Try.func67, Try.ntmps67
  go_wp2_with fail
  refine (cloneS_any _ l _ HV.out (by omega)).mono ?_
  rintro e w1 ⟨r, rfl, ho, hb1⟩
  have H0 := Lib.hid (And.intro ho hb1)
  clear ho hb1
  go_wp2_with fail
  go_loopw [1, 5] (fun m x wr => ∃ (k : Nat), k ≤ n ∧ m = .int .i64 ((n : Int) - (k : Int)) ∧ OwnS wr w.heap.size x (turnN l k) ∧ Below w.heap.size w wr) (fun m _ _ => (intOf m).toNat)
  case atStart => exact ⟨0, by omega, by simp, H0.out.1, H0.out.2⟩
  case round =>
    clear H0
    obtain ⟨k, hk, rfl, hox, hbel⟩ := hrel
    have H := Lib.hid (And.intro hox hbel)
    clear hox hbel
    by_cases hlt : k < n
    · go_wp2_with fail
      refine (turnedOnce_any _ (turnN l k) _ H.out.1.strs (turnN_ok OK.out k)).mono ?_
      rintro e w2 ⟨r2, rfl, ho2, hb2⟩
      have H2 := Lib.hid (And.intro (ho2.lower (base' := w.heap.size) H.out.2.size) (bel_trans H.out.2 hb2))
      clear ho2 hb2
      go_wp2_with fail
      go_roundw
      case rel => exact ⟨k + 1, by omega, by go_num, H2.out.1, H2.out.2⟩
      case measure => simp [intOf]; omega
    · have : k = n := by omega
      subst this
      go_wp2_with fail
      refine wp_loop_rounds 1 ?_
      rw [rounds_succ]
      go_wp2_with fail
      go_ret
      exact ⟨_, rfl, H.out.1, H.out.2⟩


end Go.Proofs.Ythkpgcociklddaa
