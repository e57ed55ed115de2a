/-
  Contracts of the laws' own helpers on slices of numbers.
-/
import Derived.Test.YtplalhehdfkipaaChecked
import Derived.Test.YtplalhehdfkipaaBase
namespace Go.Proofs.Ytplalhehdfkipaa
open Go.RowKit
set_option linter.unusedVariables false

/-- v, made by the call (its block is not below base), reads as l and may be written. -/
def Own (w : World) (base : Nat) (v : Value) (l : List Int) : Prop := w.ownsRow base 3 1 v l.length (iv l) ∧ Wf l ∧ l.length ≤ maxLen
theorem Own.ints {w : World} {base : Nat} {v : Value} {l : List Int} (h : Own w base v l) : Ints w v l := ⟨Sl.own h.1 h.2.2, h.2.1⟩

theorem Try.infoInt : (Try.prog.info? 3).map (fun i => (i.zero, i.size, i.bytes)) = some (some (.int .i64 0), 1, 8) := by kernel_rfl
theorem Try.mkInts (n : Nat) (hn : n ≤ 35184372088832) (W : World) : (Instr.makeSlice 22 (.int .i64 (n : Int)) (.int .i64 (n : Int))).run Try.prog W =
    .ok (.slice (some ⟨W.heap.size, 0, none⟩) n n) (W.alloc (.cells (reps n (.int .i64 0)).toArray 3)) :=
  mk_row 22 3 _ 8 Try.underlying22 Try.infoInt rfl n (by omega) (by omega) W

set_option maxHeartbeats 400000 in
theorem toIntS_any (v : Value) (l : List Int) (w : World) (hv : Ints w v l) (hl : l.length ≤ 1048576) :
    Calls Try.prog 16 #[v] w fun e w' => ∃ v', e = .returned v' ∧ Own w' w.heap.size v' l ∧ Below w.heap.size w w' := by
  obtain ⟨A, c, rfl, hlc, hc, hrd⟩ := hv.open_
  have hmk := fun W => Try.mkInts l.length (by omega) W
  go_enter Try.func16, Try.ntmps16
  go_wp2
  go_loopw [4] (fun i wr => ∃ (k : Nat) (cs : List Value), k ≤ l.length ∧ i = .int .i64 k ∧ Blk wr w.heap.size 3 cs ∧ cs.length = l.length ∧ (∀ j, j < k → cs[j]? = some (.int .i64 (at_ l j))) ∧ Below w.heap.size w wr)
    (fun i _ => l.length - (intOf i).toNat)
  case atStart => exact ⟨0, _, Nat.zero_le _, rfl, Blk.new _ _ _, reps_length _ _, fun j hj => absurd hj (by omega), (Below.refl _ _).alloc (Nat.le_refl _) _⟩
  case round =>
    obtain ⟨k, cs, hk, rfl, hblk, hcl, hcs, hbel⟩ := hrel
    have H := Lib.hid (And.intro hcl (And.intro hcs hbel))
    clear hcl hcs
    have hz := hbel.size
    by_cases hlt : k < l.length
    · obtain ⟨b, o, rfl, hb, hcell⟩ := hrd.ints (by omega)
      have hck : wr.cell? ⟨b, o + k, none⟩ = some (.int .i64 (at_ l k)) := (hbel.cell (by exact hb)).trans (hcell k hlt)
      have hcw : wr.cell? ⟨w.heap.size, k, none⟩ = some (cs[k]'(by rw [H.out.1]; exact hlt)) := by rw [hblk.cell]; exact List.getElem?_eq_getElem _
      have hfw := hblk.frozen k
      clear hcell hbel
      go_wp2
      go_roundw
      case rel => exact ⟨k + 1, _, by omega, by go_num, hblk.set_ k _, by rw [List.length_set]; exact H.out.1, setTo H.out.1 hlt H.out.2.1, H.out.2.2.setCell (Nat.le_refl _) _⟩
      case measure => simp [intOf]; omega
    · go_wp2
      go_ret
      have e : cs = iv l := isIv H.out.1 (fun j hj => H.out.2.1 j (by omega))
      subst e
      exact ⟨_, rfl, ⟨hblk.own (Nat.le_refl _) H.out.1 (by unfold maxLen; omega), hv.2, by unfold maxLen; omega⟩, H.out.2.2⟩

set_option maxHeartbeats 400000 in
theorem eqIntS_any (v u : Value) (l m : List Int) (w : World) (hv : Ints w v l) (hu : Ints w u m) :
    Calls Try.prog 18 #[v, u] w fun e w' => e = .returned (.bool (eqL l m)) ∧ Below w.heap.size w w' := by
  obtain ⟨A, c, rfl, hlc, hc, hrd⟩ := hv.open_
  obtain ⟨B, d, rfl, hld, hd, hrd2⟩ := hu.open_
  by_cases he : l.length = m.length
  · have h1 : ((l.length : Int) != (m.length : Int)) = false := by simp [he]
    have HE := Lib.hid he
    clear he
    go_enter Try.func18, Try.ntmps18
    go_wp2
    go_loopw [5] (fun i wr => ∃ (k : Nat) , k ≤ l.length ∧ i = .int .i64 k ∧ (∀ j, j < k → at_ l j = at_ m j) ∧ ∃ n, wr = w.drewN n)
      (fun i _ => l.length - (intOf i).toNat)
    case atStart => exact ⟨0, Nat.zero_le _, rfl, fun j hj => absurd hj (by omega), 0, rfl⟩
    case round =>
      obtain ⟨k, hk, rfl, hall, nd, rfl⟩ := hrel
      have HA := Lib.hid hall
      clear hall
      by_cases hlt : k < l.length
      · have hltm : k < m.length := by have := HE.out; omega
        obtain ⟨b, o, rfl, hb, hcell⟩ := hrd.ints (by omega)
        obtain ⟨b2, o2, rfl, hb2, hcell2⟩ := hrd2.ints (by omega)
        have hck := hcell k hlt
        have hck2 := hcell2 k hltm
        have p1 : (k : Int) < (l.length : Int) := by omega
        have p2 : (k : Int) < (m.length : Int) := by omega
        have p3 : (0 : Int) ≤ (k : Int) := by omega
        clear hcell hcell2
        go_wp2
        go_quiet (fail)
        go_wp2
        · have h : (at_ l k != at_ m k) = true := by assumption
          go_ret
          exact ⟨ret_bool (eqL_false.2 (fun e => by rw [e] at h; simp at h)).symm, below_drewN (below_drewN (Below.refl _ _) _) _⟩
        · have h : (at_ l k != at_ m k) = false := by assumption
          go_roundw
          case rel => exact ⟨k + 1, by omega, by go_num, toSucc HA.out (by simpa using h), _, rfl⟩
          case measure => simp [intOf]; omega
      · go_wp2
        go_ret
        exact ⟨ret_bool (eqL_true.2 (list_ext HE.out (fun j hj => HA.out j (by omega)))).symm, below_drewN (Below.refl _ _) _⟩
  · have h1 : ((l.length : Int) != (m.length : Int)) = true := by simp; omega
    go_enter Try.func18, Try.ntmps18
    go_wp2
    go_ret
    exact ⟨ret_bool (eqL_false.2 (fun h => he (by rw [h]))).symm, Below.refl _ _⟩

end Go.Proofs.Ytplalhehdfkipaa
