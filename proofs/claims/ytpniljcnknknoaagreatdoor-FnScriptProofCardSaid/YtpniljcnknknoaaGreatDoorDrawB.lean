/-
  Drawn lists: l2Some, l2Table, l2BadTable.
-/
import Derived.Test.YtpniljcnknknoaaGreatDoorDrawA
import Derived.Test.YtpniljcnknknoaaGreatDoorPoly
namespace Go.Proofs.YtpniljcnknknoaaGreatDoor
open Go.RowKit
set_option linter.unusedVariables false
set_option maxRecDepth 100000

/-- A number drawn for a list, with its state. -/
theorem num_st {w : World} {g K : Nat} {v : Value} {l : List Int} {W : World} (u : Value) (m : List Int) (h : St w g K v l W) (hK : K ≤ 1000000000) (hu : Ints W u m) (hm : 0 < m.length) (hne : ∀ a n c, u = .slice (some a) n c → 0 < m.length → a.block ≠ g) :
    Calls Tryz.prog 135 #[.pointer (some ⟨g, 0, none⟩), u] W (fun e W' => ∃ x : Int, e = .returned (.int .i64 x) ∧ x ∈ m ∧ St w g (K + 1) v l W') :=
  (num_any g K u m W h.rdr hK hu hm hne).mono fun e W' ⟨x, he, hx, hr, hg⟩ => ⟨x, he, hx, h.grown hg hr⟩

set_option maxHeartbeats 4000000 in
set_option maxRecDepth 100000 in
theorem l2Some_any (g K : Nat) (w : World) (hr : Rdr w g K) (hK : K ≤ 100000000) :
    Calls Tryz.prog 146 #[.pointer (some ⟨g, 0, none⟩)] w (DrawnInts g (K + 20) w 1 6) := by
  have hgw := hr.lt
  have S0 := Lib.hid (show St w g K (.slice (some ⟨w.heap.size, 0, none⟩) 0 0) [] (w.alloc (.cells #[] 3)) from
    ⟨Own.empty w w.heap.size (Nat.le_refl _), hr.bel (bel_alloc _ _), only_alloc (World.grownBy.refl w _) _, hgw⟩)
  clear hr
  go_enter Tryz.func146, Tryz.ntmps146
  go_wp2_with fail
  refine (num_st _ [10, 100, 1000, 3] (S0.out.bel (bel_alloc _ _)) (by omega) (lit_own _ [10, 100, 1000, 3] (w.heap.size + 1) 0 (by simp) (by omega) (by simp) (wf_lit (by simp))).ints (by simp) (lit_ne (by omega))).mono ?_
  rintro e w1 ⟨sz, rfl, hsz, hs1⟩
  have sb : 3 ≤ sz ∧ sz ≤ 1000 := by simp at hsz; omega
  have S1 := Lib.hid hs1
  clear hsz hs1 S0
  go_wp2_with fail
  refine (pick_st 5 S1.out (by omega) (by omega)).mono ?_
  rintro e w2 ⟨m, rfl, ma, mb, hs2⟩
  obtain ⟨m, rfl⟩ : ∃ n : Nat, m = n := ⟨m.toNat, by omega⟩
  have S2 := Lib.hid hs2
  clear hs2 S1
  go_wp2_with fail
  go_loopw [3, 5] (fun r n wr => ∃ (k K' : Nat) (l : List Int), n = .int .i64 k ∧ k ≤ 5 ∧ l.length + k = m + 1 ∧ K' + 2 * k ≤ K + 12 ∧ St w g K' r l wr)
    (fun _ n _ => (intOf n).toNat)
  case atStart => exact ⟨m + 1, K + 2, [], by go_num, by omega, by simp, by omega, S2.out⟩
  case round =>
    obtain ⟨k, K', l, rfl, hk, hlk, hK', hst⟩ := hrel
    have zr := hst.gr.size
    have S3 := Lib.hid hst
    clear S2 hst
    by_cases hk0 : k = 0
    · subst hk0
      go_wp2_with fail
      refine (pick_st 5 S3.out (by omega) (by omega)).mono ?_
      rintro e w3 ⟨q, rfl, qa, qb, hs4⟩
      have S4 := Lib.hid hs4
      have z4 := hs4.gr.size
      clear hs4
      cases q0 : (q == 0)
      · go_wp2
        go_ret
        exact ⟨_, l, rfl, S4.out.own, by omega, by omega, S4.out.rdr.more (by omega), S4.out.gr⟩
      · go_wp2_with (at_builtin; refine app_int rfl (.tmp 34) (.tmp 35) (by rfl) w.heap.size u3 _ (by rfl) (by exact S4.out.own.bel (bel_alloc _ _)) _ _ 0 (by rfl) (by exact new_cell _ _ _) (by omega) (by omega) (by simp; omega) ?_; intro v4 w4 ho hg _)
        have S5 := Lib.hid ((S4.out.bel (bel_alloc _ _)).app ho hg)
        clear ho hg
        go_ret
        exact ⟨_, _, rfl, S5.out.own, by simp, by simp; omega, S5.out.rdr.more (by omega), S5.out.gr⟩
    · obtain ⟨k, rfl⟩ : ∃ j, k = j + 1 := ⟨k - 1, by omega⟩
      have hz0 : ¬ (2 * sz + 1 = 0) := by omega
      go_wp2_with fail
      refine (pick_st 256 S3.out (by omega) (by omega)).mono ?_
      rintro e1 w3 ⟨m1, rfl, a1, b1, hs4⟩
      have S4 := Lib.hid hs4
      clear hs4
      go_wp2_with fail
      refine (pick_st 256 S4.out (by omega) (by omega)).mono ?_
      rintro e1 w4 ⟨m2, rfl, a2, b2, hs5⟩
      have S5 := Lib.hid hs5
      have z5 := hs5.gr.size
      have pb := prod_bd a1 b1 a2 b2
      have q1 := Int.emod_nonneg (m1 * m2) (show (2 * sz + 1) ≠ 0 by omega)
      have q2 := Int.emod_lt_of_pos (m1 * m2) (show 0 < 2 * sz + 1 by omega)
      clear hs5 S4 S3
      go_wp2_with (at_builtin; refine app_int rfl (.tmp 17) (.tmp 29) (by rfl) w.heap.size u3 _ (by rfl) (by exact S5.out.own.bel (bel_alloc _ _)) _ _ _ (by rfl) (by exact new_cell _ _ _) (by omega) (by omega) (by simp; omega) ?_; intro v5 w5 ho hg _)
      have S6 := Lib.hid ((S5.out.bel (bel_alloc _ _)).app ho hg)
      clear ho hg S5
      go_wp2
      go_roundw
      case rel => exact ⟨k, K' + 2, _, by go_num, by omega, by simp; omega, by omega, S6.out⟩
      case measure => simp [intOf]

/-- Only the reader g and v's own row have been written. -/
def Keeps (g : Nat) (v : Value) (W W' : World) : Prop := W.heap.size ≤ W'.heap.size ∧ (∀ B u m, Own W B u m → g < B → Diff u v → Own W' B u m) ∧ ∀ B, B ≤ g → (∀ k, v.ownBlock = some k → B ≤ k) → B ≤ W.heap.size → Below B W W'
theorem Keeps.trans {g : Nat} {v : Value} {a b c : World} (h : Keeps g v a b) (k : Keeps g v b c) : Keeps g v a c :=
  ⟨Nat.le_trans h.1 k.1, fun B u m ho hB hd => k.2.1 B u m (h.2.1 B u m ho hB hd) hB hd, fun B h1 h2 h3 => (h.2.2 B h1 h2 h3).trans (k.2.2 B h1 h2 (Nat.le_trans h3 h.1))⟩
theorem Keeps.grown {g : Nat} {W W' : World} (v : Value) (h : W.grownBy W' (some g)) : Keeps g v W W' :=
  ⟨h.size, fun B u m ho hB _ => ho.far h (fun k hk => by injection hk with hk; omega), fun B h1 _ h3 => grown_below (a := W) h h1 h3⟩
theorem Keeps.below {g : Nat} {W W' : World} (v : Value) (h : Below W.heap.size W W') : Keeps g v W W' :=
  ⟨h.size, fun B u m ho _ _ => ho.bel h, fun B _ _ h3 => h.mono h3⟩
theorem Keeps.set_ {g b n cap : Nat} {W : World} (p : Addr) (hp : p.block = b) (x : Value) : Keeps g (.slice (some ⟨b, 0, none⟩) n cap) W (W.setCell p x) := by
  have hg : W.grownBy (W.setCell p x) (some b) := only_setCell (World.grownBy.refl W (some b)) (.inl hp) x
  exact ⟨hg.size, fun B u m ho _ hd => ho.apart (u := .slice (some ⟨b, 0, none⟩) n cap) hg hd, fun B _ h2 h3 => (Below.refl B W).setCell (by rw [hp]; exact h2 b rfl) x⟩
theorem St.set_ {w : World} {g K b n cap : Nat} {l : List Int} {W : World} (h : St w g K (.slice (some ⟨b, 0, none⟩) n cap) l W) (j : Nat) (z : Int) (hj : j < l.length) (hz : -9223372036854775808 ≤ z ∧ z ≤ 9223372036854775807) :
    St w g K (.slice (some ⟨b, 0, none⟩) n cap) (l.set j z) (W.setCell ⟨b, j, none⟩ (.int .i64 z)) := by
  have hb := (h.own.lt b rfl).1
  have := h.lt
  have hg : W.grownBy (W.setCell ⟨b, j, none⟩ (.int .i64 z)) (some b) := only_setCell (World.grownBy.refl W (some b)) (.inl rfl) _
  exact ⟨h.own.set_ j z hj hz, h.rdr.grown hg (fun k hk => by injection hk with hk; omega), grown_trans h.gr hg (fun k hk => .inr (by injection hk with hk; omega)), h.lt⟩


end Go.Proofs.YtpniljcnknknoaaGreatDoor
