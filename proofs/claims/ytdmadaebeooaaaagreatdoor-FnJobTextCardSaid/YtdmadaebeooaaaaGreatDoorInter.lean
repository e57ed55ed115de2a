/-
  Contracts of Interleave and DealTable.
-/
import Derived.Test.YtdmadaebeooaaaaGreatDoorInts
namespace Go.Proofs.YtdmadaebeooaaaaGreatDoor
open Go.RowKit
set_option linter.unusedVariables false
set_option maxRecDepth 100000

set_option maxHeartbeats 400000 in
theorem deInts_any (v u : Value) (l m : List Int) (w : World) (hv : Ints w v l) (hu : Ints w u m) :
    Calls Tryz.prog 25 #[v, u] w fun e w' => e = .returned (.bool (eqL l m)) ∧ Below w.heap.size w w' := by
  obtain ⟨A, c, rfl, hlc, hc, hrd⟩ := hv.open_
  obtain ⟨B, d, rfl, hld, hd, hrd2⟩ := hu.open_
  by_cases he : l.length = m.length
  · have h1 : ((l.length : Int) != (m.length : Int)) = false := by simp [he]
    have HE := Lib.hid he
    clear he
    go_enter Tryz.func25, Tryz.ntmps25
    go_wp2
    go_loopw [5] (fun i wr => ∃ (k : Nat) , k ≤ l.length ∧ i = .int .i64 k ∧ (∀ j, j < k → at_ l j = at_ m j) ∧ ∃ n, wr = w.drewN n)
      (fun i _ => l.length - (intOf i).toNat)
    case atStart => exact ⟨0, Nat.zero_le _, rfl, fun j hj => absurd hj (by omega), 0, rfl⟩
    case round =>
      obtain ⟨k, hk, rfl, hall, nd, rfl⟩ := hrel
      have HA := Lib.hid hall
      clear hall
      by_cases hlt : k < l.length
      · have hltm : k < m.length := by have := HE.out; omega
        obtain ⟨b, o, rfl, hb, hcell⟩ := hrd.ints (by omega)
        obtain ⟨b2, o2, rfl, hb2, hcell2⟩ := hrd2.ints (by omega)
        have hck := hcell k hlt
        have hck2 := hcell2 k hltm
        have p1 : (k : Int) < (l.length : Int) := by omega
        have p2 : (k : Int) < (m.length : Int) := by omega
        have p3 : (0 : Int) ≤ (k : Int) := by omega
        clear hcell hcell2
        go_wp2
        go_quiet (fail)
        go_wp2
        · have h : (at_ l k != at_ m k) = true := by assumption
          go_ret
          exact ⟨ret_bool (eqL_false.2 (fun e => by rw [e] at h; simp at h)).symm, below_drewN (below_drewN (Below.refl _ _) _) _⟩
        · have h : (at_ l k != at_ m k) = false := by assumption
          go_roundw
          case rel => exact ⟨k + 1, by omega, by go_num, toSucc HA.out (by simpa using h), _, rfl⟩
          case measure => simp [intOf]; omega
      · go_wp2
        go_ret
        exact ⟨ret_bool (eqL_true.2 (list_ext HE.out (fun j hj => HA.out j (by omega)))).symm, below_drewN (Below.refl _ _) _⟩
  · have h1 : ((l.length : Int) != (m.length : Int)) = true := by simp; omega
    go_enter Tryz.func25, Tryz.ntmps25
    go_wp2
    go_ret
    exact ⟨ret_bool (eqL_false.2 (fun h => he (by rw [h]))).symm, Below.refl _ _⟩

def interF (a b : List Int) (j : Nat) : Int := if j % 2 = 0 then at_ a (j / 2) else at_ b (j / 2)
def interOk (a b : List Int) : Bool := decide ((a.length = b.length ∨ a.length = b.length + 1) ∧ a.length + b.length ≤ 60)
def inter (a b : List Int) : List Int := if interOk a b = true then gen (interF a b) (a.length + b.length) else []
theorem interOk_true {a b : List Int} : interOk a b = true ↔ (a.length = b.length ∨ a.length = b.length + 1) ∧ a.length + b.length ≤ 60 := by simp [interOk]
theorem inter_yes {a b : List Int} (h : interOk a b = true) : inter a b = gen (interF a b) (a.length + b.length) := by rw [inter, if_pos h]
theorem inter_no {a b : List Int} (h : ¬ interOk a b = true) : inter a b = [] := by rw [inter, if_neg h]
theorem interF_even (a b : List Int) (k : Nat) : interF a b (k + k) = at_ a k := by
  rw [interF, if_pos (by omega)]; congr 1; omega
theorem interF_odd (a b : List Int) (k : Nat) : interF a b (k + k + 1) = at_ b k := by
  rw [interF, if_neg (by omega)]; congr 1; omega
theorem own_step {w : World} {base : Nat} {v : Value} {f : Nat → Int} {n m : Nat} {z : Int} (h : Own w base v (gen f n ++ [z])) (hz : z = f n) (hm : m = n + 1) : Own w base v (gen f m) := by
  subst hm
  rw [gen_succ, ← hz]; exact h

end Go.Proofs.YtdmadaebeooaaaaGreatDoor
