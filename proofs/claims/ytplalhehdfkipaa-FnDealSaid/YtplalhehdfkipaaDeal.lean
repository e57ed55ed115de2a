/-
  Contracts of DealTable.
-/
import Derived.Test.YtplalhehdfkipaaInterB
import Derived.Test.YtplalhehdfkipaaSlices
namespace Go.Proofs.Ytplalhehdfkipaa
open Go.RowKit
set_option linter.unusedVariables false

def evenF (l : List Int) (j : Nat) : Int := at_ l (2 * j)
def oddF (l : List Int) (j : Nat) : Int := at_ l (2 * j + 1)
def dealE (l : List Int) : List Int := if l.length ≤ 60 then gen (evenF l) ((l.length + 1) / 2) else []
def dealO (l : List Int) : List Int := if l.length ≤ 60 then gen (oddF l) (l.length / 2) else []
theorem deal_no {l : List Int} (h : ¬ l.length ≤ 60) : dealE l = [] ∧ dealO l = [] := by simp [dealE, dealO, h]
theorem deal_yes {l : List Int} (h : l.length ≤ 60) : dealE l = gen (evenF l) ((l.length + 1) / 2) ∧ dealO l = gen (oddF l) (l.length / 2) := by simp [dealE, dealO, h]
theorem even_beq {k : Nat} (h : k % 2 = 0) : ((k : Int) % 2 == 0) = true := by simp; omega
theorem odd_beq {k : Nat} (h : ¬ k % 2 = 0) : ((k : Int) % 2 == 0) = false := by simp; omega
theorem Diff.step {w : World} {base : Nat} {v v' u : Value} {l : List Int} (h : Diff v u) (hu : Own w base u l) (hat : v'.ownBlock = v.ownBlock ∨ v'.ownBlock = some w.heap.size) : Diff v' u := by
  intro k h1 h2
  rcases hat with e | e
  · exact h k (e ▸ h1) h2
  · rw [e] at h1
    injection h1 with h1
    have := (hu.lt k h2).2
    omega
theorem Diff.nilL (u : Value) : Diff (.slice none 0 0) u := fun k h => by simp [Value.ownBlock] at h

set_option maxHeartbeats 2000000 in
theorem implDeal_any (v : Value) (l : List Int) (w : World) (hv : Ints w v l) :
    Calls Try.prog 25 #[v] w fun e w' => ∃ r s, e = .returned (.tuple #[r, s]) ∧ Own w' w.heap.size r (dealE l) ∧ Own w' w.heap.size s (dealO l) ∧ Below w.heap.size w w' := by
  have HV := Lib.hid hv
  obtain ⟨A, c, rfl, hlc, hc, hrd⟩ := hv.open_
  have HR := Lib.hid hrd
  clear hrd hv
  by_cases h : l.length ≤ 60
  · have HY := Lib.hid (deal_yes h)
    go_enter Try.func25, Try.ntmps25
    go_wp2
    go_loopw [4, 5, 13] (fun r s i wr => ∃ k : Nat, k ≤ l.length ∧ i = .int .i64 k ∧ Own wr w.heap.size r (gen (evenF l) ((k + 1) / 2)) ∧ Own wr w.heap.size s (gen (oddF l) (k / 2)) ∧ Diff r s ∧ Below w.heap.size w wr)
      (fun _ _ i _ => l.length - (intOf i).toNat)
    case atStart => exact ⟨0, Nat.zero_le _, rfl, Own.nil_ _ _, Own.nil_ _ _, Diff.nilL _, Below.refl _ _⟩
    case round =>
      obtain ⟨k, hk, rfl, hr, hs, hd, hbel⟩ := hrel
      have hz := hbel.size
      by_cases hlt : k < l.length
      · obtain ⟨b, o, rfl, hb, hcell⟩ := HR.out.ints (by omega)
        have hck : wr.cell? ⟨b, o + k, none⟩ = some (.int .i64 (at_ l k)) := (hbel.cell (by exact hb)).trans (hcell k hlt)
        have HO := Lib.hid (And.intro hr (And.intro hs (And.intro hd hbel)))
        clear hr hs hd hbel hcell
        by_cases he : k % 2 = 0
        · have q := even_beq he
          have E := Lib.hid he
          clear he
          go_wp2_with (at_builtin; refine app_int rfl (.tmp 21) (.tmp 23) (by rfl) w.heap.size u4 _ (by rfl) (by exact HO.out.1.bel (bel_alloc _ _)) _ _ (at_ l k) (by rfl) (by exact new_cell _ _ _) (HV.out.2.at l k) (by rw [gen_length]; omega) (by simp; omega) ?_; intro v1 w1 ho hg hat)
          go_roundw
          case rel =>
            have e1 : (k + 1 + 1) / 2 = (k + 1) / 2 + 1 := by have := E.out; omega
            have e2 : (k + 1) / 2 = k / 2 := by have := E.out; omega
            exact ⟨k + 1, by omega, by go_num, own_step ho (by have := E.out; rw [evenF]; congr 1; omega) e1, by rw [e2]; exact (HO.out.2.1.bel (bel_alloc _ _)).apart hg HO.out.2.2.1.symm, HO.out.2.2.1.step (HO.out.2.1.bel (bel_alloc _ _)) hat, app_bel (bel_trans HO.out.2.2.2 (bel_alloc _ _)) (HO.out.1.bel (bel_alloc _ _)) hg⟩
          case measure => simp [intOf]; omega
        · have q := odd_beq he
          have E := Lib.hid he
          clear he
          go_wp2_with (at_builtin; refine app_int rfl (.tmp 25) (.tmp 27) (by rfl) w.heap.size u5 _ (by rfl) (by exact HO.out.2.1.bel (bel_alloc _ _)) _ _ (at_ l k) (by rfl) (by exact new_cell _ _ _) (HV.out.2.at l k) (by rw [gen_length]; omega) (by simp; omega) ?_; intro v1 w1 ho hg hat)
          go_roundw
          case rel =>
            have e1 : (k + 1) / 2 = k / 2 + 1 := by have := E.out; omega
            have e2 : (k + 1 + 1) / 2 = (k + 1) / 2 := by have := E.out; omega
            exact ⟨k + 1, by omega, by go_num, by rw [e2]; exact (HO.out.1.bel (bel_alloc _ _)).apart hg HO.out.2.2.1, own_step ho (by have := E.out; rw [oddF]; congr 1; omega) e1, (HO.out.2.2.1.symm.step (HO.out.1.bel (bel_alloc _ _)) hat).symm, app_bel (bel_trans HO.out.2.2.2 (bel_alloc _ _)) (HO.out.2.1.bel (bel_alloc _ _)) hg⟩
          case measure => simp [intOf]; omega
      · have hka : k = l.length := by omega
        rw [hka] at hr hs
        have HO := Lib.hid (And.intro hr (And.intro hs hbel))
        clear hr hs hd hbel hka
        go_wp2
        go_ret2
        rw [HY.out.1, HY.out.2]
        exact ⟨_, _, rfl, HO.out.1, HO.out.2.1, HO.out.2.2⟩
  · have HN := Lib.hid (deal_no h)
    go_enter Try.func25, Try.ntmps25
    go_wp2
    go_ret2
    rw [HN.out.1, HN.out.2]
    exact ⟨_, _, rfl, Own.nil_ _ _, Own.nil_ _ _, Below.refl _ _⟩

set_option maxHeartbeats 2000000 in
theorem specDeal_any (v : Value) (l : List Int) (w : World) (hv : Ints w v l) :
    Calls Try.prog 39 #[v] w fun e w' => ∃ r s, e = .returned (.tuple #[r, s]) ∧ Own w' w.heap.size r (dealE l) ∧ Own w' w.heap.size s (dealO l) ∧ Below w.heap.size w w' := by
  have HV := Lib.hid hv
  obtain ⟨A, c, rfl, hlc, hc, hrd⟩ := hv.open_
  have HR := Lib.hid hrd
  have OE1 := Lib.hid ((Own.empty w w.heap.size (Nat.le_refl _)).bel (bel_alloc _ (.cells #[] 3)))
  have OE2' := Own.empty (w.alloc (.cells #[] 3)) w.heap.size (by simp)
  rw [World.size_alloc] at OE2'
  have OE2 := Lib.hid OE2'
  clear hrd hv OE2'
  by_cases h : l.length ≤ 60
  · have HY := Lib.hid (deal_yes h)
    go_enter Try.func39, Try.ntmps39
    go_wp2
    go_loopw [4, 5, 6] (fun r s i wr => ∃ k : Nat, k ≤ l.length ∧ i = .int .i64 k ∧ Own wr w.heap.size r (gen (evenF l) ((k + 1) / 2)) ∧ Own wr w.heap.size s (gen (oddF l) (k / 2)) ∧ Diff r s ∧ Below w.heap.size w wr)
      (fun _ _ i _ => l.length - (intOf i).toNat)
    case atStart => exact ⟨0, Nat.zero_le _, rfl, OE1.out, OE2.out, fun k h1 h2 => by simp [Value.ownBlock] at h1 h2; omega, bel_trans (bel_alloc _ _) (bel_alloc _ _)⟩
    case round =>
      obtain ⟨k, hk, rfl, hr, hs, hd, hbel⟩ := hrel
      have hz := hbel.size
      by_cases hlt : k < l.length
      · obtain ⟨b, o, rfl, hb, hcell⟩ := HR.out.ints (by omega)
        have hck : wr.cell? ⟨b, o + k, none⟩ = some (.int .i64 (at_ l k)) := (hbel.cell (by exact hb)).trans (hcell k hlt)
        have HO := Lib.hid (And.intro hr (And.intro hs (And.intro hd hbel)))
        clear hr hs hd hbel hcell
        by_cases he : k % 2 = 0
        · have q := even_beq he
          have E := Lib.hid he
          clear he
          go_wp2_with (at_builtin; refine app_int rfl (.tmp 23) (.tmp 28) (by rfl) w.heap.size u4 _ (by rfl) (by exact HO.out.1.bel (bel_alloc _ _)) _ _ (at_ l k) (by rfl) (by exact new_cell _ _ _) (HV.out.2.at l k) (by rw [gen_length]; omega) (by simp; omega) ?_; intro v1 w1 ho hg hat)
          go_roundw
          case rel =>
            have e1 : (k + 1 + 1) / 2 = (k + 1) / 2 + 1 := by have := E.out; omega
            have e2 : (k + 1) / 2 = k / 2 := by have := E.out; omega
            exact ⟨k + 1, by omega, by go_num, own_step ho (by have := E.out; rw [evenF]; congr 1; omega) e1, by rw [e2]; exact (HO.out.2.1.bel (bel_alloc _ _)).apart hg HO.out.2.2.1.symm, HO.out.2.2.1.step (HO.out.2.1.bel (bel_alloc _ _)) hat, app_bel (bel_trans HO.out.2.2.2 (bel_alloc _ _)) (HO.out.1.bel (bel_alloc _ _)) hg⟩
          case measure => simp [intOf]; omega
        · have q := odd_beq he
          have E := Lib.hid he
          clear he
          go_wp2_with (at_builtin; refine app_int rfl (.tmp 30) (.tmp 35) (by rfl) w.heap.size u5 _ (by rfl) (by exact HO.out.2.1.bel (bel_alloc _ _)) _ _ (at_ l k) (by rfl) (by exact new_cell _ _ _) (HV.out.2.at l k) (by rw [gen_length]; omega) (by simp; omega) ?_; intro v1 w1 ho hg hat)
          go_roundw
          case rel =>
            have e1 : (k + 1) / 2 = k / 2 + 1 := by have := E.out; omega
            have e2 : (k + 1 + 1) / 2 = (k + 1) / 2 := by have := E.out; omega
            exact ⟨k + 1, by omega, by go_num, by rw [e2]; exact (HO.out.1.bel (bel_alloc _ _)).apart hg HO.out.2.2.1, own_step ho (by have := E.out; rw [oddF]; congr 1; omega) e1, (HO.out.2.2.1.symm.step (HO.out.1.bel (bel_alloc _ _)) hat).symm, app_bel (bel_trans HO.out.2.2.2 (bel_alloc _ _)) (HO.out.2.1.bel (bel_alloc _ _)) hg⟩
          case measure => simp [intOf]; omega
      · have hka : k = l.length := by omega
        rw [hka] at hr hs
        have HO := Lib.hid (And.intro hr (And.intro hs hbel))
        clear hr hs hd hbel hka
        go_wp2
        go_ret2
        rw [HY.out.1, HY.out.2]
        exact ⟨_, _, rfl, HO.out.1, HO.out.2.1, HO.out.2.2⟩
  · have HN := Lib.hid (deal_no h)
    go_enter Try.func39, Try.ntmps39
    go_wp2
    go_loopw [4, 5, 6] (fun r s i wr => r = .slice (some ⟨w.heap.size, 0, none⟩) 0 0 ∧ s = .slice (some ⟨w.heap.size + 1, 0, none⟩) 0 0 ∧ i = .int .i64 0 ∧ wr = (w.alloc (.cells #[] 3)).alloc (.cells #[] 3)) (fun _ _ _ _ => 0)
    case atStart => exact ⟨rfl, rfl, rfl, rfl⟩
    case round =>
      obtain ⟨rfl, rfl, rfl, rfl⟩ := hrel
      have h0 : (0 : Int) < (l.length : Int) := by omega
      have h6 : ¬ ((l.length : Int) ≤ 60) := by omega
      go_wp2
      go_ret2
      rw [HN.out.1, HN.out.2]
      exact ⟨_, _, rfl, OE1.out, OE2.out, bel_trans (bel_alloc _ _) (bel_alloc _ _)⟩

/-! ### the plain law -/
theorem deal_inter {a b : List Int} (h : interOk a b = true) : dealE (inter a b) = a ∧ dealO (inter a b) = b := by
  obtain ⟨h1, h2⟩ := interOk_true.1 h
  have hl : (inter a b).length = a.length + b.length := by rw [inter_yes h, gen_length]
  obtain ⟨d1, d2⟩ := deal_yes (l := inter a b) (by omega)
  rw [d1, d2]
  refine ⟨list_ext (by rw [gen_length, hl]; omega) fun j hj => ?_, list_ext (by rw [gen_length, hl]; omega) fun j hj => ?_⟩
  · rw [gen_length, hl] at hj
    rw [at_gen (by rw [hl]; exact hj), evenF, inter_yes h, at_gen (by omega), interF, if_pos (by omega)]
    congr 1; omega
  · rw [gen_length, hl] at hj
    rw [at_gen (by rw [hl]; exact hj), oddF, inter_yes h, at_gen (by omega), interF, if_neg (by omega)]
    congr 1; omega
theorem inter_deal {l : List Int} (h : l.length ≤ 60) : interOk (dealE l) (dealO l) = true ∧ inter (dealE l) (dealO l) = l ∧ ((dealE l).length = (dealO l).length ∨ (dealE l).length = (dealO l).length + 1) := by
  obtain ⟨d1, d2⟩ := deal_yes h
  have l1 : (dealE l).length = (l.length + 1) / 2 := by rw [d1, gen_length]
  have l2 : (dealO l).length = l.length / 2 := by rw [d2, gen_length]
  have ok : interOk (dealE l) (dealO l) = true := interOk_true.2 (by omega)
  refine ⟨ok, list_ext (by rw [inter_yes ok, gen_length]; omega) fun j hj => ?_, by omega⟩
  have hj' : j < l.length := by rw [inter_yes ok, gen_length] at hj; omega
  rw [inter_yes ok, at_gen (by omega), interF]
  split
  · rw [d1, at_gen (by omega), evenF]; congr 1; omega
  · rw [d2, at_gen (by omega), oddF]; congr 1; omega

end Go.Proofs.Ytplalhehdfkipaa
