/-
  The contract of laws.deSame: two engines have the same columns.
-/
import Derived.Test.YteemhhgioljmaaaEngLaw
namespace Go.Proofs.Yteemhhgioljmaaa
open Go.RowKit
set_option linter.unusedVariables false
set_option linter.unusedSimpArgs false
set_option maxRecDepth 100000

set_option maxHeartbeats 2000000 in
theorem deSame_any (u v : Value) (l m : List ByteArray) (w : World) (hu : Strs w u l) (hv : Strs w v m) :
    Calls Try.prog 41 #[.agg #[u], .agg #[v]] w fun e w' => e = .returned (.bool (eqS l m)) ∧ Below w.heap.size w w' := by
  have HU := Lib.hid hu
  have HV := Lib.hid hv
  obtain ⟨A, c, rfl, hlc, hc, hrd⟩ := hu.open_
  obtain ⟨B, d, rfl, hld, hd, hrd2⟩ := hv.open_
  clear hu hv
  have B0 := Lib.hid (show Below w.heap.size w ((w.alloc (.cells #[.slice A l.length c] 29)).alloc (.cells #[.slice B m.length d] 29)) from (bel_alloc w _).alloc (by simp) _)
  have K0 := (Blk.new' w 29 (.slice A l.length c) w.heap.size rfl).alloc (.cells #[.slice B m.length d] 29)
  have K1 := Blk.new' (w.alloc (.cells #[.slice A l.length c] 29)) 29 (.slice B m.length d) (w.heap.size + 1) (by simp)
  obtain ⟨e0, -⟩ := K0.one
  obtain ⟨e1, -⟩ := K1.one
  by_cases he : l.length = m.length
  · have h1 : ((l.length : Int) != (m.length : Int)) = false := by simp [he]
    have HE := Lib.hid he
    clear he
    go_enter Try.func41, Try.ntmps41
    go_wp2_with fail
    generalize hW : (w.alloc (.cells #[.slice A l.length c] 29)).alloc (.cells #[.slice B m.length d] 29) = W at *
    clear hW K0 K1
    go_loopw [5] (fun i wr => ∃ k : Nat, k ≤ l.length ∧ i = .int .i64 k ∧ (∀ j, j < k → sat l j = sat m j) ∧ ∃ n, wr = W.drewN n) (fun i _ => l.length - (intOf i).toNat)
    case atStart => exact ⟨0, Nat.zero_le _, rfl, fun j hj => absurd hj (by omega), 0, rfl⟩
    case round =>
      obtain ⟨k, hk, rfl, hall, nd, rfl⟩ := hrel
      have HA := Lib.hid hall
      clear hall
      by_cases hlt : k < l.length
      · have hltm : k < m.length := by have := HE.out; omega
        obtain ⟨b, o, rfl, hb, hcell⟩ := hrd.strs (by omega)
        obtain ⟨b2, o2, rfl, hb2, hcell2⟩ := hrd2.strs (by omega)
        have hck := (B0.out.cell (by exact hb)).trans (hcell k hlt)
        have hck2 := (B0.out.cell (by exact hb2)).trans (hcell2 k hltm)
        have p1 : (k : Int) < (l.length : Int) := by omega
        have p2 : (k : Int) < (m.length : Int) := by omega
        have p3 : (0 : Int) ≤ (k : Int) := by omega
        clear hcell hcell2
        go_wp2_with fail
        go_quiet (fail)
        go_wp2
        · have h : (!(sat l k).toList == (sat m k).toList) = true := by assumption
          go_ret
          exact ⟨ret_bool (eqS_false.2 (fun e => by rw [e] at h; simp at h)).symm, below_drewN (below_drewN B0.out _) _⟩
        · have h : (!(sat l k).toList == (sat m k).toList) = false := by assumption
          go_roundw
          case rel => exact ⟨k + 1, by omega, by go_num, toSucc HA.out (str_eq h), _, rfl⟩
          case measure => simp [intOf]; omega
      · go_wp2
        go_ret
        exact ⟨ret_bool (eqS_true.2 (slist_ext HE.out (fun j hj => HA.out j (by omega)))).symm, below_drewN B0.out _⟩
  · have h1 : ((l.length : Int) != (m.length : Int)) = true := by simp; omega
    go_enter Try.func41, Try.ntmps41
    go_wp2
    go_ret
    exact ⟨ret_bool (eqS_false.2 (fun h => he (by rw [h]))).symm, B0.out⟩

end Go.Proofs.Yteemhhgioljmaaa
