/-
  Contracts of polynomials: tests, values, differences, ShiftPoly, StepPoly, ValuesOf (both).
-/
import Derived.Test.YtpniljcnknknoaaGreatDoorPolyPlain
import Derived.Test.YtpniljcnknknoaaGreatDoorTable
import Derived.StillTailTactics
namespace Go.Proofs.YtpniljcnknknoaaGreatDoor
open Go.RowKit
set_option linter.unusedVariables false
set_option linter.unusedSimpArgs false
set_option maxRecDepth 100000

/-- the block of a slice of numbers that is not empty. -/
def OffI (x : Value) (l : List Int) (Q : Nat → Prop) : Prop := ∀ a n c, x = .slice (some a) n c → 0 < l.length → Q a.block
theorem OffI.mono {x : Value} {l : List Int} {Q R : Nat → Prop} (h : OffI x l Q) (hk : ∀ k, Q k → R k) : OffI x l R := fun a n c e hl => hk _ (h a n c e hl)
theorem Ints.offI {w : World} {x : Value} {l : List Int} (h : Ints w x l) : OffI x l (fun k => k < w.heap.size) := h.low
theorem Own.offI {w : World} {base : Nat} {x : Value} {l : List Int} (h : Own w base x l) : OffI x l (fun k => base ≤ k) := by
  intro a n c e hl
  rcases h.form with ⟨rfl, _⟩ | ⟨g, cap, cs, rfl, hg, _⟩
  · cases e
  · injection e with e1; injection e1 with e1; rw [← e1]; exact hg
theorem Ints.rowFar {w w' : World} {x : Value} {l : List Int} {row : Option Nat} (h : Ints w x l) (hg : w.grownBy w' row) (hx : OffI x l (fun k => some k ≠ row)) : Ints w' x l := by
  obtain ⟨⟨A, c, rfl, h1, h2, h3⟩, hwf⟩ := h
  refine ⟨⟨A, c, rfl, h1, h2, fun hn => ?_⟩, hwf⟩
  obtain ⟨b, o, rfl, hlt, hc⟩ := h3 hn
  have hb := hx _ _ _ rfl (by rw [iv_length] at hn; exact hn)
  exact ⟨b, o, rfl, Nat.lt_of_lt_of_le hlt hg.size, fun k u hu => hg.cell (hc k u hu) (fun e => hb e)⟩
def slen (v : Value) : Nat := match v with | .slice _ n _ => n | _ => 0
theorem slen_slice (A : Option Addr) (n c : Nat) : slen (.slice A n c) = n := rfl
theorem Ints.slen {w : World} {x : Value} {l : List Int} (h : Ints w x l) : slen x = l.length := by
  obtain ⟨A, c, rfl, _⟩ := h.open_; rfl

set_option maxHeartbeats 400000 in
theorem implPoly_any (v : Value) (l : List Int) (w : World) (hv : Ints w v l) :
    Calls Tryz.prog 59 #[v] w fun e w' => e = .returned (.bool (polyOk l)) ∧ w = w' := by
  have hv' := Lib.hid hv
  obtain ⟨A, c, rfl, hlc, hc, hrd⟩ := hv.open_
  by_cases h1 : 1 ≤ l.length
  · by_cases h2 : l.length ≤ 7
    · have H : inB (l.length : Int) 1 7 = true := inB_true.2 (by omega)
      have HH := Lib.hid H
      clear H
      go_enter Tryz.func59, Tryz.ntmps59
      go_wp2_with (go_at_call 89; refine (allWithin_any _ _ _ _ hv'.out (by omega) (by omega)).mono ?_; rintro e w' ⟨rfl, rfl⟩)
      go_ret
      exact ⟨ret_bool (by rw [polyOk, lenAll, HH.out]; rfl), rfl⟩
    · have H : inB (l.length : Int) 1 7 = false := inB_false.2 (by omega)
      have HH := Lib.hid H
      clear H
      go_enter Tryz.func59, Tryz.ntmps59
      go_wp2
      go_ret
      exact ⟨ret_bool (by rw [polyOk, lenAll, HH.out]; rfl), rfl⟩
  · have H : inB (l.length : Int) 1 7 = false := inB_false.2 (by omega)
    have HH := Lib.hid H
    clear H
    go_enter Tryz.func59, Tryz.ntmps59
    go_wp2
    go_ret
    exact ⟨ret_bool (by rw [polyOk, lenAll, HH.out]; rfl), rfl⟩

set_option maxHeartbeats 400000 in
theorem specPoly_any (v : Value) (l : List Int) (w : World) (hv : Ints w v l) :
    Calls Tryz.prog 149 #[v] w fun e w' => e = .returned (.bool (polyOk l)) ∧ w = w' := by
  obtain ⟨A, c, rfl, hlc, hc, hrd⟩ := hv.open_
  go_enter Tryz.func149, Tryz.ntmps149
  go_wp2
  go_loop [3] (fun i => ∃ k : Nat, k ≤ l.length ∧ i = .int .i64 k ∧ ∀ j, j < k → inB (at_ l j) (-100000) 100000 = true) (fun i => l.length - (intOf i).toNat)
  case atStart => exact ⟨0, Nat.zero_le _, rfl, fun j hj => absurd hj (by omega)⟩
  case round =>
    obtain ⟨k, hk, rfl, hall⟩ := hrel
    have HA := Lib.hid hall
    clear hall
    by_cases hlt : k < l.length
    · obtain ⟨b, o, rfl, hb, hcell⟩ := hrd.ints (by omega)
      have hck := hcell k hlt
      clear hcell
      go_wp2_with (go_at_call 138; refine (l1In_any _ _ _ _).mono ?_; rintro e w' ⟨rfl, rfl⟩)
      · go_ret
        have h : (!inB (at_ l k) (-100000) 100000) = true := by assumption
        exact ⟨ret_bool (by rw [polyOk, lenAll, allNot (p := fun t => inB t (-100000) 100000) hlt (by simpa using h)]; simp), rfl⟩
      · have h : (!inB (at_ l k) (-100000) 100000) = false := by assumption
        go_round
        case rel => exact ⟨k + 1, by omega, by go_num, toSucc HA.out (by simpa using h)⟩
        case measure => simp [intOf]; omega
    · go_wp2_with (go_at_call 138; refine (l1In_any _ _ _ _).mono ?_; rintro e w' ⟨rfl, rfl⟩)
      go_ret
      exact ⟨ret_bool (by rw [polyOk, lenAll, allTo (p := fun t => inB t (-100000) 100000) (fun j hj => HA.out j (by omega))]; simp), rfl⟩

set_option maxHeartbeats 1000000 in
theorem choose_any (n : Int) (k : Nat) (w : World) (hn : -9223372036854775808 ≤ n ∧ n ≤ 9223372036854775807) (hk : k ≤ 1000000000) :
    Calls Tryz.prog 180 #[.int .i64 n, .int .i64 k] w fun e w' => e = .returned (.int .i64 (chooseI n k)) ∧ w = w' := by
  go_enter Tryz.func180, Tryz.ntmps180
  go_wp2
  go_loop [5, 8] (fun r i => ∃ j : Nat, j ≤ k ∧ i = .int .i64 j ∧ r = .int .i64 (chooseI n j)) (fun _ i => k - (intOf i).toNat)
  case atStart => exact ⟨0, Nat.zero_le _, rfl, rfl⟩
  case round =>
    obtain ⟨j, hj, rfl, rfl⟩ := hrel
    have hb := chooseI_bd n j
    by_cases hlt : j < k
    · go_wp2
      go_round
      case rel => exact ⟨j + 1, by omega, by go_num, rfl⟩
      case measure => simp [intOf]; omega
    · have hjk : j = k := by omega
      subst hjk
      go_wp2
      go_ret
      exact ⟨rfl, rfl⟩

set_option maxHeartbeats 1000000 in
theorem valueAt_any (v : Value) (p : List Int) (n : Int) (w : World) (hv : Ints w v p) (hn : -9223372036854775808 ≤ n ∧ n ≤ 9223372036854775807) (hp : p.length ≤ 1000000000) :
    Calls Tryz.prog 123 #[v, .int .i64 n] w fun e w' => e = .returned (.int .i64 (evalI p n)) ∧ w = w' := by
  obtain ⟨A, c, rfl, hlc, hc, hrd⟩ := hv.open_
  go_enter Tryz.func123, Tryz.ntmps123
  go_wp2
  go_loop [5, 10] (fun r i => ∃ j : Nat, j ≤ p.length ∧ i = .int .i64 j ∧ r = .int .i64 (evalTo p n j)) (fun _ i => p.length - (intOf i).toNat)
  case atStart => exact ⟨0, Nat.zero_le _, rfl, rfl⟩
  case round =>
    obtain ⟨j, hj, rfl, rfl⟩ := hrel
    have hb := evalTo_bd p n j
    by_cases hlt : j < p.length
    · obtain ⟨b, o, rfl, hb, hcell⟩ := hrd.ints (by omega)
      have hck := hcell j hlt
      clear hcell
      go_wp2_with (go_at_call 180; refine (choose_any _ _ _ (by omega) (by omega)).mono ?_; rintro e w' ⟨rfl, rfl⟩)
      go_round
      case rel => exact ⟨j + 1, by omega, by go_num, rfl⟩
      case measure => simp [intOf]; omega
    · have hjk : j = p.length := by omega
      subst hjk
      go_wp2
      go_ret
      exact ⟨rfl, rfl⟩

set_option maxHeartbeats 400000 in
theorem l2Argument_any (n : Int) (w : World) :
    Calls Tryz.prog 150 #[.int .i64 n] w fun e w' => e = .returned (.bool (inB n (-200) 200)) ∧ w = w' := by
  go_enter Tryz.func150, Tryz.ntmps150
  go_wp2_with (go_at_call 138; refine (l1In_any _ _ _ _).mono ?_; rintro e w' ⟨rfl, rfl⟩)
  go_ret
  exact ⟨rfl, rfl⟩

/-- Numbers of the call's own. -/
def IntsR (w : World) (l : List Int) (e : Ending) (w' : World) : Prop := ∃ r, e = .returned r ∧ Own w' w.heap.size r l ∧ Below w.heap.size w w'

theorem nextI_gen' (l : List Int) : nextI l = gen (fun i => wrap64 (at_ l (i + 1) - at_ l i)) (l.length - 1) := rfl

set_option maxHeartbeats 1000000 in
theorem neighbors_any (v : Value) (l : List Int) (w : World) (hv : Ints w v l) (hl : l.length ≤ 1048576) :
    Calls Tryz.prog 114 #[v] w (IntsR w (nextI l)) := by
  obtain ⟨A, c, rfl, hlc, hc, hrd⟩ := hv.open_
  by_cases h2 : l.length < 2
  · have HN := Lib.hid (show nextI l = [] by rw [nextI_gen', show l.length - 1 = 0 by omega]; rfl)
    go_enter Tryz.func114, Tryz.ntmps114
    go_wp2
    go_ret
    exact ⟨_, rfl, by rw [HN.out]; exact Own.nil_ _ _, Below.refl _ _⟩
  · obtain ⟨m, hm⟩ : ∃ m : Nat, m = l.length - 1 := ⟨_, rfl⟩
    have hm1 : l.length = m + 1 := by omega
    have hmI : (l.length : Int) - 1 = (m : Int) := by omega
    have hmk := fun W => Tryz.mkInts m (by omega) W
    rw [← hmI] at hmk
    have HM := Lib.hid (And.intro hm1 hm)
    clear hm hm1 hmI
    go_enter Tryz.func114, Tryz.ntmps114
    go_wp2
    go_loopw [14] (fun i wr => ∃ (k : Nat) (cs : List Value), k ≤ m ∧ i = .int .i64 k ∧ Blk wr w.heap.size 3 cs ∧ cs.length = m ∧ (∀ j, j < k → cs[j]? = some (.int .i64 (wrap64 (at_ l (j + 1) - at_ l j)))) ∧ Below w.heap.size w wr)
      (fun i _ => m - (intOf i).toNat)
    case atStart => exact ⟨0, _, Nat.zero_le _, rfl, Blk.new _ _ _, reps_length _ _, fun j hj => absurd hj (by omega), (Below.refl _ _).alloc (Nat.le_refl _) _⟩
    case round =>
      obtain ⟨k, cs, hk, rfl, hblk, hcl, hcs, hbel⟩ := hrel
      have HO := Lib.hid (And.intro hcl (And.intro hcs hbel))
      have hz := hbel.size
      clear hcl hcs
      have q1 := HM.out.1
      by_cases hlt : k < m
      · obtain ⟨b, o, rfl, hb, hcell⟩ := hrd.ints (by omega)
        have c1 : wr.cell? ⟨b, o + k, none⟩ = some (.int .i64 (at_ l k)) := (hbel.cell (by exact hb)).trans (hcell k (by omega))
        have c2 : wr.cell? ⟨b, o + (k + 1), none⟩ = some (.int .i64 (at_ l (k + 1))) := (hbel.cell (by exact hb)).trans (hcell (k + 1) (by omega))
        have c3 : wr.cell? ⟨w.heap.size, k, none⟩ = some (cs[k]'(by rw [HO.out.1]; exact hlt)) := by rw [hblk.cell]; exact List.getElem?_eq_getElem _
        have hfw := hblk.frozen k
        have p1 : (k : Int) < (l.length : Int) := by omega
        have p2 : (k : Int) + 1 < (l.length : Int) := by omega
        have p3 : (0 : Int) ≤ (k : Int) := by omega
        have p4 : (k : Int) < (m : Int) := by omega
        have w1 : IntKind.i64.wrap ((k : Int) + 1) = (k : Int) + 1 := by rw [IntWalk.i64_in] <;> omega
        have w2 : ((k : Int) + 1).toNat = k + 1 := by omega
        have w3 : (0 : Int) ≤ (k : Int) + 1 := by omega
        clear hcell hbel q1
        go_wp2
        go_still_tail 13, (by kernel_rfl)
        change wpList _ _ _ _ _ wr.drew
        go_wp2
        go_roundw
        case rel => exact ⟨k + 1, _, by omega, by go_num, hblk.set_ k _, by rw [List.length_set]; exact HO.out.1, fun j hj => by
          by_cases e : j = k
          · subst e; rw [List.getElem?_set_self (by rw [HO.out.1]; exact hlt)]
          · rw [List.getElem?_set_ne (by omega)]; exact HO.out.2.1 j (by omega), (HO.out.2.2.drew).setCell (Nat.le_refl _) _⟩
        case measure => simp [intOf]; omega
      · have hnl : k = m := by omega
        subst hnl
        clear q1
        go_wp2
        go_ret
        refine ⟨_, rfl, ?_, HO.out.2.2⟩
        rw [nextI_gen', ← HM.out.2]
        exact own_gen (Nat.le_refl _) hblk HO.out.1 (by have := HM.out.1; omega) HO.out.2.1 (fun j hj => wrap64_bd _)

end Go.Proofs.YtpniljcnknknoaaGreatDoor
