/-
  Drawn columns: of, l9Many, l1Any, l1Some, l1Bad.
-/
import Derived.Test.YteemhhgioljmaaaDraw
import Derived.Test.YteemhhgioljmaaaDrawA
import Derived.Test.YteemhhgioljmaaaCols
import Derived.LoopN
namespace Go.Proofs.Yteemhhgioljmaaa
open Go.RowKit
set_option linter.unusedVariables false
set_option linter.unusedSimpArgs false
set_option maxRecDepth 100000
attribute [local go_sem ↓] Go.wp_at_zero Go.wp_at_succ

theorem bv_set (l : List Int) (k : Nat) (z : Int) : (bv l).set k (.int .u8 z) = bv (l.set k z) := by simp [bv, List.map_set]

/-- A drawn string of at most B bytes. -/
def DrawnStr (g K' : Nat) (w : World) (lo hi : Nat) (e : Ending) (w' : World) : Prop :=
  ∃ s : ByteArray, e = .returned (.string s) ∧ lo ≤ s.size ∧ s.size ≤ hi ∧ Rdr w' g K' ∧ w.grownBy w' (some g)

set_option maxHeartbeats 1000000 in
theorem of_any (g K : Nat) (v : Value) (l : List ByteArray) (B : Nat) (w : World) (hr : Rdr w g K) (hK : K ≤ 1000000000) (hv : Strs w v l) (hl : 0 < l.length) (hne : ∀ a n c, v = .slice (some a) n c → 0 < l.length → a.block ≠ g) (hB : ∀ s ∈ l, s.size ≤ B) :
    Calls Try.prog 191 #[.pointer (some ⟨g, 0, none⟩), v] w (DrawnStr g (K + 1) w 0 B) := by
  have hlen := hv.open_
  obtain ⟨A, c, rfl, hlc, hc, hrd⟩ := hlen
  obtain ⟨b, o, rfl, hb, hcell⟩ := hrd.strs hl
  have hbg := hne _ _ _ rfl hl
  have HC := Lib.hid hcell
  clear hcell hne
  go_enter Try.func191, Try.ntmps191
  go_wp2_with fail
  refine (pick_any g K _ _ hr hK (by omega)).mono ?_
  rintro e w1 ⟨m, rfl, hm, -, hr1, hg1⟩
  have hm' := hm (by omega)
  obtain ⟨n, rfl⟩ : ∃ n : Nat, m = n := ⟨m.toNat, by omega⟩
  have hcn : w1.cell? ⟨b, o + n, none⟩ = some (.string (sat l n)) := hg1.cell (HC.out n (by omega)) (fun e => by injection e with e; exact hbg e)
  have H := Lib.hid (And.intro hr1 hg1)
  clear hm hr1 hg1
  go_wp2
  go_ret
  exact ⟨_, rfl, Nat.zero_le _, hB _ (sat_mem l n (by omega)), H.out.1, H.out.2⟩

set_option maxHeartbeats 2000000 in
theorem l9Many_any (n : Int) (w : World) (hn : n = 12 ∨ n = 13) :
    Calls Try.prog 192 #[.string ⟨#[57]⟩, .int .i64 n] w fun e w' => ∃ s : ByteArray, e = .returned (.string s) ∧ s.size ≤ 16 ∧ w = w' := by
  rcases hn with rfl | rfl
  all_goals
    go_enter Try.func192, Try.ntmps192
    go_wp2_with fail
    refine wp_loop_rounds 5 ?_
    repeat any_goals (rw [rounds_succ]; go_wp2_with fail)
    go_ret
    exact ⟨_, rfl, by decide, rfl⟩

set_option maxHeartbeats 1000000 in
theorem l1Any_any (g K : Nat) (w : World) (hr : Rdr w g K) (hK : K ≤ 100000000) :
    Calls Try.prog 168 #[.pointer (some ⟨g, 0, none⟩)] w fun e w' => ∃ n : Nat, e = .returned (.int .i64 n) ∧ 1 ≤ n ∧ n ≤ 12 ∧ Rdr w' g (K + 1) ∧ w.grownBy w' (some g) := by
  have HR := Lib.hid hr
  have hgw := hr.lt
  clear hr
  go_enter Try.func168, Try.ntmps168
  go_wp2_with fail
  refine (num_any g K _ [4, 6, 1, 2, 3, 5, 8, 12] _ (HR.out.bel (bel_alloc _ _)) (by omega) (lit_own _ [4, 6, 1, 2, 3, 5, 8, 12] w.heap.size 0 rfl (by omega) (by simp) (wf_lit (by simp))).ints (by simp) (lit_ne (by omega))).mono ?_
  rintro e w1 ⟨m, rfl, hm, hr1, hg1⟩
  have hm' : 1 ≤ m ∧ m ≤ 12 := by simp at hm; omega
  obtain ⟨m, rfl⟩ : ∃ n : Nat, m = n := ⟨m.toNat, by omega⟩
  have H := Lib.hid (And.intro hr1 (grown_trans (only_alloc (World.grownBy.refl w (some g)) _) hg1 (fun j hj => .inl (by injection hj with hj; exact hj.symm))))
  clear hr1 hg1 hm
  go_wp2
  go_ret
  exact ⟨m, rfl, by omega, by omega, H.out.1, H.out.2⟩

set_option maxHeartbeats 4000000 in
theorem l1Some_any (g K n : Nat) (w : World) (hr : Rdr w g K) (hK : K ≤ 100000000) (hn : 1 ≤ n ∧ n ≤ 12) :
    Calls Try.prog 178 #[.pointer (some ⟨g, 0, none⟩), .int .i64 n] w (DrawnStr g (K + 30) w n n) := by
  have HR := Lib.hid hr
  have hgw := hr.lt
  have hmk := fun W => Try.mkBytes n (by omega) W
  clear hr
  go_enter Try.func178, Try.ntmps178
  go_wp2_with fail
  refine (pick_any g K _ _ (HR.out.bel (bel_alloc _ _)) (by omega) (by omega)).mono ?_
  rintro e w1 ⟨mo, rfl, hm, -, hr1, hg1⟩
  have hmo := hm (by omega)
  have kb := (Blk.new w 5 (reps n (.int .u8 0))).grown hg1 (fun e => by injection e with e; omega)
  have hrep : reps n (.int .u8 0) = bv (List.replicate n 0) := by simp [reps, bv]
  rw [hrep] at kb
  have H := Lib.hid (And.intro hr1 (And.intro (grown_trans (only_alloc (World.grownBy.refl w (some g)) _) hg1 (fun j hj => .inl (by injection hj with hj; exact hj.symm))) kb))
  clear hr1 hg1 hm kb hrep
  go_wp2_with fail
  go_loopw [7] (fun i wr => ∃ (k K' : Nat) (xs : List Int), k ≤ n ∧ i = .int .i64 k ∧ K' ≤ K + 1 + 2 * k ∧ Blk wr w.heap.size 5 (bv xs) ∧ xs.length = n ∧ (∀ x ∈ xs, 0 ≤ x ∧ x ≤ 255) ∧ Rdr wr g K' ∧ w.grownBy wr (some g))
    (fun i _ => n - (intOf i).toNat)
  case atStart => exact ⟨0, K + 1, List.replicate n 0, Nat.zero_le _, rfl, by omega, H.out.2.2, by simp, fun x hx => by simp at hx; omega, H.out.1, H.out.2.1⟩
  case round =>
    clear H
    obtain ⟨k, K', xs, hk, rfl, hK', hblk, hxl, hxs, hrd, hgr⟩ := hrel
    have H := Lib.hid (And.intro hxl (And.intro hxs (And.intro hrd hgr)))
    have hz := hgr.size
    clear hxl hxs hrd hgr
    by_cases hlt : k < n
    · go_wp2_with fail
      refine (pick_any g K' _ _ H.out.2.2.1 (by omega) (by omega)).mono ?_
      rintro e w2 ⟨m, rfl, hm, -, hr2, hg2⟩
      have hm' := hm (by omega)
      have hbl2 := hblk.grown hg2 (fun e => by injection e with e; omega)
      have hcw : w2.cell? ⟨w.heap.size, k, none⟩ = some (.int .u8 (at_ xs k)) := by rw [hbl2.cell]; exact bv_get xs k (by rw [H.out.1]; exact hlt)
      have hfw := hbl2.frozen k
      have hg3 := only_setCell (World.grownBy.refl w2 (some w.heap.size)) (p := ⟨w.heap.size, k, none⟩) (.inl rfl) (.int .u8 (48 + m))
      have hbl3 := hbl2.set_ k (.int .u8 (48 + m))
      rw [bv_set] at hbl3
      have H3 := Lib.hid (And.intro (hr2.grown hg3 (fun j hj => by injection hj with hj; omega)) (grown_trans (grown_trans H.out.2.2.2 hg2 (fun j hj => .inl (by injection hj with hj; exact hj.symm))) hg3 (fun j hj => .inr (by injection hj with hj; omega))))
      clear hr2 hg2 hm hblk hg3
      cases hmode : (mo == 0)
      · go_wp2
        go_roundw
        case rel => exact ⟨k + 1, K' + 1, xs.set k (48 + m), by omega, by go_num, by omega, hbl3, by rw [List.length_set]; exact H.out.1, fun x hx => by
          rcases List.mem_or_eq_of_mem_set hx with q | q
          · exact H.out.2.1 x q
          · omega, H3.out.1, H3.out.2⟩
        case measure => simp [intOf]; omega
      · go_wp2_with fail
        refine (pick_any g (K' + 1) _ _ H3.out.1 (by omega) (by omega)).mono ?_
        rintro e w4 ⟨m2, rfl, hm2, -, hr4, hg4⟩
        have hm2' := hm2 (by omega)
        have hbl4 := hbl3.grown hg4 (fun e => by injection e with e; omega)
        have hlen4 : (xs.set k (48 + m)).length = n := by rw [List.length_set]; exact H.out.1
        have hcw4 : w4.cell? ⟨w.heap.size, k, none⟩ = some (.int .u8 (at_ (xs.set k (48 + m)) k)) := by rw [hbl4.cell]; exact bv_get _ k (by rw [hlen4]; exact hlt)
        have hfw4 := hbl4.frozen k
        have H4 := Lib.hid (And.intro hr4 (grown_trans H3.out.2 hg4 (fun j hj => .inl (by injection hj with hj; exact hj.symm))))
        have HX := Lib.hid hlen4
        clear hr4 hg4 hm2 hcw hfw hlen4
        have hm4 : m2 = 0 ∨ m2 = 1 ∨ m2 = 2 ∨ m2 = 3 := by omega
        rcases hm4 with rfl | rfl | rfl | rfl
        all_goals
          go_wp2
          go_roundw
          case measure => simp [intOf]; omega
        iterate 2
          case rel => exact ⟨k + 1, K' + 2, (xs.set k (48 + m)).set k 48, by omega, by go_num, by omega, by rw [← bv_set]; exact hbl4.set_ k _, by rw [List.length_set]; exact HX.out, fun x hx => by
            rcases List.mem_or_eq_of_mem_set hx with q | q
            · rcases List.mem_or_eq_of_mem_set q with q | q
              · exact H.out.2.1 x q
              · omega
            · omega, H4.out.1.grown (only_setCell (World.grownBy.refl w4 (some w.heap.size)) (.inl rfl) _) (fun j hj => by injection hj with hj; omega), grown_trans H4.out.2 (only_setCell (World.grownBy.refl w4 (some w.heap.size)) (.inl rfl) _) (fun j hj => .inr (by injection hj with hj; omega))⟩
        iterate 2
          case rel => exact ⟨k + 1, K' + 2, (xs.set k (48 + m)).set k 57, by omega, by go_num, by omega, by rw [← bv_set]; exact hbl4.set_ k _, by rw [List.length_set]; exact HX.out, fun x hx => by
            rcases List.mem_or_eq_of_mem_set hx with q | q
            · rcases List.mem_or_eq_of_mem_set q with q | q
              · exact H.out.2.1 x q
              · omega
            · omega, H4.out.1.grown (only_setCell (World.grownBy.refl w4 (some w.heap.size)) (.inl rfl) _) (fun j hj => by injection hj with hj; omega), grown_trans H4.out.2 (only_setCell (World.grownBy.refl w4 (some w.heap.size)) (.inl rfl) _) (fun j hj => .inr (by injection hj with hj; omega))⟩
    · have hkn : k = n := by omega
      subst hkn
      have hcv := Try.convBlk wr w.heap.size k (bv xs) xs hblk H.out.1 (fun j hj => bv_get xs j (by rw [H.out.1]; exact hj))
      go_wp2
      go_ret
      exact ⟨_, rfl, by rw [strOfNums_size]; exact Nat.le_of_eq H.out.1.symm, by rw [strOfNums_size]; exact Nat.le_of_eq H.out.1, H.out.2.2.1.more (by omega), H.out.2.2.2⟩

theorem four_str : ∀ s ∈ ([⟨#[120]⟩, ⟨#[45]⟩, ⟨#[32]⟩, ⟨#[48]⟩] : List ByteArray), s.size ≤ 1 := fun s hs => by
  simp only [List.mem_cons, List.not_mem_nil, or_false] at hs
  rcases hs with rfl | rfl | rfl | rfl <;> decide
theorem lit_strs (w : World) (l : List ByteArray) (B base : Nat) (hB : w.heap.size = B) (hb : base ≤ B) (hl : l.length ≤ 1000) (hwf : WfS l) : OwnS (w.alloc (.cells (sv l).toArray 9)) base (.slice (some ⟨B, 0, none⟩) l.length l.length) l := by
  subst hB
  exact OwnS.mk' (cs := sv l) hb (Blk.new w _ _) (Nat.le_refl _) (by omega) (sv_length l) (fun j hj => sv_get l j hj) hwf

set_option maxHeartbeats 2000000 in
theorem l1Bad_any (g K : Nat) (c : ByteArray) (w : World) (hr : Rdr w g K) (hK : K ≤ 100000000) (hc : c.size ≤ 100) :
    Calls Try.prog 179 #[.pointer (some ⟨g, 0, none⟩), .string c] w (DrawnStr g (K + 2) w 0 (c.size + 16)) := by
  have hgw := hr.lt
  go_enter Try.func179, Try.ntmps179
  go_wp2_with fail
  refine (pick_any g K _ _ hr (by omega) (by omega)).mono ?_
  rintro e w1 ⟨m, rfl, hm, -, hr1, hg1⟩
  have hz1 := hg1.size
  have H1 := Lib.hid (And.intro hr1 hg1)
  clear hm hr1 hg1 hr
  cases m0 : (m == 0)
  · cases m1 : (m == 1)
    · cases m2 : (m == 2)
      · go_wp2
        go_ret
        exact ⟨c, rfl, Nat.zero_le _, by omega, H1.out.1.more (by omega), H1.out.2⟩
      · go_wp2_with fail
        refine (num_any g (K + 1) _ [12, 13] _ (H1.out.1.bel (bel_alloc _ _)) (by omega) (lit_own _ [12, 13] w1.heap.size 0 rfl (by omega) (by simp) (wf_lit (by simp))).ints (by simp) (lit_ne (by omega))).mono ?_
        rintro e w2 ⟨n, rfl, hn, hr2, hg2⟩
        have hn' : n = 12 ∨ n = 13 := by simpa using hn
        have H2 := Lib.hid (And.intro hr2 (grown_trans (only_alloc H1.out.2 _) hg2 (fun j hj => .inl (by injection hj with hj; exact hj.symm))))
        clear hr2 hg2 hn
        go_wp2_with fail
        refine (l9Many_any n _ hn').mono ?_
        rintro e w3 ⟨s, rfl, hs, rfl⟩
        go_wp2
        go_ret
        exact ⟨s, rfl, Nat.zero_le _, by omega, H2.out.1, H2.out.2⟩
    · go_wp2
      go_ret
      exact ⟨⟨#[]⟩, rfl, Nat.zero_le _, Nat.le_trans (show (⟨#[]⟩ : ByteArray).size ≤ 0 by decide) (Nat.zero_le _), H1.out.1.more (by omega), H1.out.2⟩
  · go_wp2_with fail
    refine (of_any g (K + 1) _ [⟨#[120]⟩, ⟨#[45]⟩, ⟨#[32]⟩, ⟨#[48]⟩] 1 _ (H1.out.1.bel (bel_alloc _ _)) (by omega) (lit_strs w1 [⟨#[120]⟩, ⟨#[45]⟩, ⟨#[32]⟩, ⟨#[48]⟩] w1.heap.size 0 rfl (by omega) (by decide) (fun s hs => by have := four_str s hs; omega)).strs (by decide) (lit_ne (by omega)) four_str).mono ?_
    rintro e w2 ⟨s, rfl, -, hs, hr2, hg2⟩
    have H2 := Lib.hid (And.intro hr2 (grown_trans (only_alloc H1.out.2 _) hg2 (fun j hj => .inl (by injection hj with hj; exact hj.symm))))
    clear hr2 hg2
    go_wp2
    go_ret
    exact ⟨c ++ s, rfl, Nat.zero_le _, by rw [ByteArray.size_append]; omega, H2.out.1, H2.out.2⟩

end Go.Proofs.Yteemhhgioljmaaa
