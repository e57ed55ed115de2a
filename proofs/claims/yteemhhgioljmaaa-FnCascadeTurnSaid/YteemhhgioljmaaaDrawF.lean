/-
  Drawn engines: l3Some, l3Bad, l3Open.
-/
import Derived.Test.YteemhhgioljmaaaDrawE
import Derived.Test.YteemhhgioljmaaaEngLaw
namespace Go.Proofs.Yteemhhgioljmaaa
open Go.RowKit
set_option linter.unusedVariables false
set_option linter.unusedSimpArgs false
set_option maxRecDepth 100000
attribute [local go_sem ↓] Go.wp_at_zero Go.wp_at_succ

theorem grown_ownS {a w w' : World} {g base : Nat} {v : Value} {l : List ByteArray} (h : a.grownBy w (some g)) (k : w.grownBy w' v.ownBlock) (ho : OwnS w base v l) (hb : a.heap.size ≤ base) : a.grownBy w' (some g) :=
  grown_trans h k fun j hj => .inr (by have := (ho.lt j hj).1; omega)
/-- A drawn engine: between lo and hi columns, none longer than B. -/
def DrawnEng (g K' : Nat) (w : World) (lo hi slo shi : Nat) (e : Ending) (w' : World) : Prop :=
  ∃ v l, e = .returned (.agg #[v]) ∧ OwnS w' w.heap.size v l ∧ lo ≤ l.length ∧ l.length ≤ hi ∧ (∀ s ∈ l, slo ≤ s.size ∧ s.size ≤ shi) ∧ Rdr w' g K' ∧ w.grownBy w' (some g)

set_option maxHeartbeats 4000000 in
theorem l3Some_any (g K : Nat) (w : World) (hr : Rdr w g K) (hK : K ≤ 10000000) :
    Calls Try.prog 144 #[.pointer (some ⟨g, 0, none⟩)] w (DrawnEng g (K + 300) w 1 7 1 12) := by
  have hgw := hr.lt
  have b0 : Below w.heap.size w ((w.alloc (.cells #[.slice none 0 0] 29)).alloc (.cells #[.slice none 0 0] 29)) := (bel_alloc w _).alloc (by simp) _
  have K0 := (Blk.new' w 29 (.slice none 0 0) w.heap.size rfl).alloc (.cells #[.slice none 0 0] 29)
  have K1 := Blk.new' (w.alloc (.cells #[.slice none 0 0] 29)) 29 (.slice none 0 0) (w.heap.size + 1) (by simp)
  have HR := Lib.hid (hr.bel b0)
  have HG := Lib.hid (only_alloc (only_alloc (World.grownBy.refl w (some g)) (.cells #[.slice none 0 0] 29)) (.cells #[.slice none 0 0] 29))
  clear hr b0
  go_enter Try.func144, Try.ntmps144
  go_wp2_with fail
  generalize hW : (w.alloc (.cells #[.slice none 0 0] 29)).alloc (.cells #[.slice none 0 0] 29) = W at *
  have hwz : w.heap.size + 2 ≤ W.heap.size := by rw [← hW]; simp
  clear hW
  refine (l1Any_any g K _ HR.out (by omega)).mono ?_
  rintro e w1 ⟨wd, rfl, wd1, wd2, hr1, hg1⟩
  replace K0 := K0.grown hg1 (fun e => by injection e with e; omega)
  replace K1 := K1.grown hg1 (fun e => by injection e with e; omega)
  have z1 := hg1.size
  have H1 := Lib.hid (And.intro hr1 (grown_trans HG.out hg1 (fun j hj => .inl (by injection hj with hj; exact hj.symm))))
  clear hr1 hg1 HR HG
  go_wp2_with fail
  refine (num_any g (K + 1) _ [3, 4, 1, 2, 5, 7] _ (H1.out.1.bel (bel_alloc _ _)) (by omega) (lit_own _ [3, 4, 1, 2, 5, 7] w1.heap.size 0 rfl (by omega) (by simp) (wf_lit (by simp))).ints (by simp) (lit_ne (by omega))).mono ?_
  rintro e w2 ⟨n, rfl, hn, hr2, hg2⟩
  have hn' : 1 ≤ n ∧ n ≤ 7 := by simp at hn; omega
  obtain ⟨n, rfl⟩ : ∃ k : Nat, n = k := ⟨n.toNat, by omega⟩
  replace K0 := (K0.alloc (.cells #[.int .i64 3, .int .i64 4, .int .i64 1, .int .i64 2, .int .i64 5, .int .i64 7] 3)).grown hg2 (fun e => by injection e with e; omega)
  replace K1 := (K1.alloc (.cells #[.int .i64 3, .int .i64 4, .int .i64 1, .int .i64 2, .int .i64 5, .int .i64 7] 3)).grown hg2 (fun e => by injection e with e; omega)
  have z2 := hg2.size
  simp at z2
  have H2 := Lib.hid (And.intro hr2 (grown_trans (only_alloc H1.out.2 _) hg2 (fun j hj => .inl (by injection hj with hj; exact hj.symm))))
  have HK := Lib.hid (And.intro K0 K1)
  clear hr2 hg2 hn H1 K0 K1
  go_wp2_with fail
  go_loopw [5, 6] (fun i c wr => ∃ (k K' : Nat) (x : Value) (l : List ByteArray), i = .int .i64 k ∧ l.length + k = n ∧ K' + 40 * k ≤ K + 290 ∧ Blk wr w.heap.size 29 [.slice none 0 0] ∧ Blk wr (w.heap.size + 1) 29 [x] ∧ OwnS wr (w.heap.size + 2) x l ∧ (∀ s ∈ l, 1 ≤ s.size ∧ s.size ≤ 12) ∧ Rdr wr g K' ∧ w.grownBy wr (some g))
    (fun i _ _ => (intOf i).toNat)
  case atStart => exact ⟨n, K + 2, .slice none 0 0, [], rfl, by simp, by omega, HK.out.1, HK.out.2, OwnS.nil_ _ _, fun s hs => by simp at hs, H2.out.1, H2.out.2⟩
  case round =>
    clear HK H2
    obtain ⟨k, K', x, l, rfl, hlk, hK', K0, K1, hox, hls, hrd, hgr⟩ := hrel
    have hzr := hgr.size
    have k1 := K1.lt
    obtain ⟨Ax, cx, rfl, -, -, -⟩ := hox.strs.open_
    have H := Lib.hid (And.intro hox (And.intro hls (And.intro hrd hgr)))
    have HL := Lib.hid hlk
    clear hox hls hrd hgr hlk
    by_cases hk0 : k = 0
    · subst hk0
      obtain ⟨e0, f0⟩ := K0.one
      obtain ⟨e1, f1⟩ := K1.one
      go_wp2
      have hl := HL.out
      refine bodyPost_ret (v := .agg #[.slice Ax l.length cx]) (by simp [results, Try.results144, go_sem, e0]) rfl ⟨_, l, rfl, (H.out.1.setCell _ _ (by simp)).lower (by omega), by omega, by omega, H.out.2.1, ?_, ?_⟩
      · exact (H.out.2.2.1.grown (only_setCell (World.grownBy.refl wr (some w.heap.size)) (p := ⟨w.heap.size, 0, none⟩) (.inl rfl) _) (fun j hj => by injection hj with hj; omega)).more (by omega)
      · exact grown_trans H.out.2.2.2 (only_setCell (World.grownBy.refl wr (some w.heap.size)) (p := ⟨w.heap.size, 0, none⟩) (.inl rfl) _) (fun j hj => .inr (by injection hj with hj; omega))
    · obtain ⟨k, rfl⟩ : ∃ j, k = j + 1 := ⟨k - 1, by omega⟩
      go_wp2_with fail
      refine (l1Some_any g K' wd _ H.out.2.2.1 (by omega) ⟨wd1, wd2⟩).mono ?_
      rintro e w3 ⟨s, rfl, s1, s2, hr3, hg3⟩
      replace K0 := K0.grown hg3 (fun e => by injection e with e; omega)
      replace K1 := K1.grown hg3 (fun e => by injection e with e; omega)
      have z3 := hg3.size
      have H3 := Lib.hid (And.intro (H.out.1.far hg3 (fun j hj => by injection hj with hj; omega)) (And.intro hr3 (grown_trans H.out.2.2.2 hg3 (fun j hj => .inl (by injection hj with hj; exact hj.symm)))))
      clear hr3 hg3
      go_wp2_with fail
      refine (pick_any g _ _ _ H3.out.2.1 (by omega) (by omega)).mono ?_
      rintro e w4 ⟨m, rfl, hm, -, hr4, hg4⟩
      have hm' := hm (by omega)
      replace K0 := K0.grown hg4 (fun e => by injection e with e; omega)
      replace K1 := K1.grown hg4 (fun e => by injection e with e; omega)
      have z4 := hg4.size
      have H4 := Lib.hid (And.intro (H3.out.1.far hg4 (fun j hj => by injection hj with hj; omega)) (And.intro hr4 (grown_trans H3.out.2.2 hg4 (fun j hj => .inl (by injection hj with hj; exact hj.symm)))))
      clear hr4 hg4 hm
      by_cases hm0 : 0 < m
      · go_wp2_with fail
        refine (pick_any g _ _ _ H4.out.2.1 (by omega) (by omega)).mono ?_
        rintro e w6 ⟨m2, rfl, hm2, -, hr6, hg6⟩
        have hm2' := hm2 (by omega)
        replace K0 := K0.grown hg6 (fun e => by injection e with e; omega)
        replace K1 := K1.grown hg6 (fun e => by injection e with e; omega)
        have z6 := hg6.size
        have H6 := Lib.hid (And.intro (H4.out.1.far hg6 (fun j hj => by injection hj with hj; omega)) (And.intro hr6 (grown_trans H4.out.2.2 hg6 (fun j hj => .inl (by injection hj with hj; exact hj.symm)))))
        clear hr6 hg6 hm2
        go_wp2_with fail
        refine (l1Show_any (m2 - 100) wd _ (by omega) ⟨wd1, wd2⟩).mono ?_
        rintro e w7 ⟨rfl, hb7⟩
        replace K0 := K0.below hb7 K0.lt
        replace K1 := K1.below hb7 K1.lt
        have z7 := hb7.size
        have H7 := Lib.hid (And.intro (H6.out.1.bel hb7) (And.intro (H6.out.2.1.bel hb7) (only_below H6.out.2.2 hb7)))
        have hcs : (col (md (m2 - 100) (ten wd)) wd).size = wd := col_size _ _
        generalize hcc : col (md (m2 - 100) (ten wd)) wd = cc at *
        clear hb7 hcc
        obtain ⟨e1, f1⟩ := K1.one
        have hll := HL.out
        go_wp2_with (at_builtin; refine app_str rfl (.tmp 29) (.tmp 31) (by rfl) (w.heap.size + 2) _ l (by rfl) (by exact H7.out.1.bel (bel_alloc _ _)) _ _ (cc) (by rfl) (by exact new_cell _ _ _) (by omega) (by omega) (by simp; omega) ?_; intro v5 w5 ho5 hg5 hat5; have hox := H7.out.1; have K0' := (K0.alloc (.cells #[.string (cc)] 9)).grown hg5 (fun e => by have := (hox.lt _ e.symm).1; omega); have K1' := (K1.alloc (.cells #[.string (cc)] 9)).grown hg5 (fun e => by have := (hox.lt _ e.symm).1; omega); have hr5 := (H7.out.2.1.bel (bel_alloc _ (.cells #[.string (cc)] 9))).grown hg5 (fun j hj => by have := (hox.lt j hj).1; omega); have hgr5 := grown_ownS (only_alloc H7.out.2.2 (.cells #[.string (cc)] 9)) hg5 (hox.bel (bel_alloc _ _)) (by omega); clear hox; obtain ⟨A5, c5, hv5, -, -, -⟩ := ho5.strs.open_; rw [show (l ++ [cc]).length = l.length + 1 by simp] at hv5; subst hv5; have H5 := Lib.hid (And.intro ho5 (And.intro hr5 hgr5)); clear ho5 hg5 hat5 hr5 hgr5 K0 K1 e1 f1; obtain ⟨e1', f1'⟩ := K1'.one)
        go_roundw
        case rel =>
          have hg6 := only_setCell (World.grownBy.refl w5 (some (w.heap.size + 1))) (p := ⟨w.heap.size + 1, 0, none⟩) (.inl rfl) (.slice A5 (l.length + 1) c5)
          exact ⟨k, _, .slice A5 (l.length + 1) c5, l ++ [cc], by go_num, by simp; omega, by show (K' + 30 + 1 + 1) + 40 * k ≤ K + 290; omega, K0'.far (by show w.heap.size ≠ w.heap.size + 1; omega) _, K1'.set_ 0 _, H5.out.1.setCell _ _ (by show w.heap.size + 1 < w.heap.size + 2; omega), fun s' hs' => by
            rcases List.mem_append.1 hs' with q | q
            · exact H.out.2.1 s' q
            · simp at q; rw [q]; omega, H5.out.2.1.grown hg6 (fun j hj => by injection hj with hj; omega), grown_trans H5.out.2.2 hg6 (fun j hj => .inr (by injection hj with hj; omega))⟩
        case measure => simp [intOf]
      · obtain ⟨e1, f1⟩ := K1.one
        have hll := HL.out
        go_wp2_with (at_builtin; refine app_str rfl (.tmp 29) (.tmp 31) (by rfl) (w.heap.size + 2) _ l (by rfl) (by exact H4.out.1.bel (bel_alloc _ _)) _ _ (s) (by rfl) (by exact new_cell _ _ _) (by omega) (by omega) (by simp; omega) ?_; intro v5 w5 ho5 hg5 hat5; have hox := H4.out.1; have K0' := (K0.alloc (.cells #[.string (s)] 9)).grown hg5 (fun e => by have := (hox.lt _ e.symm).1; omega); have K1' := (K1.alloc (.cells #[.string (s)] 9)).grown hg5 (fun e => by have := (hox.lt _ e.symm).1; omega); have hr5 := (H4.out.2.1.bel (bel_alloc _ (.cells #[.string (s)] 9))).grown hg5 (fun j hj => by have := (hox.lt j hj).1; omega); have hgr5 := grown_ownS (only_alloc H4.out.2.2 (.cells #[.string (s)] 9)) hg5 (hox.bel (bel_alloc _ _)) (by omega); clear hox; obtain ⟨A5, c5, hv5, -, -, -⟩ := ho5.strs.open_; rw [show (l ++ [s]).length = l.length + 1 by simp] at hv5; subst hv5; have H5 := Lib.hid (And.intro ho5 (And.intro hr5 hgr5)); clear ho5 hg5 hat5 hr5 hgr5 K0 K1 e1 f1; obtain ⟨e1', f1'⟩ := K1'.one)
        go_roundw
        case rel =>
          have hg6 := only_setCell (World.grownBy.refl w5 (some (w.heap.size + 1))) (p := ⟨w.heap.size + 1, 0, none⟩) (.inl rfl) (.slice A5 (l.length + 1) c5)
          exact ⟨k, _, .slice A5 (l.length + 1) c5, l ++ [s], by go_num, by simp; omega, by show (K' + 30 + 1) + 40 * k ≤ K + 290; omega, K0'.far (by show w.heap.size ≠ w.heap.size + 1; omega) _, K1'.set_ 0 _, H5.out.1.setCell _ _ (by show w.heap.size + 1 < w.heap.size + 2; omega), fun s' hs' => by
            rcases List.mem_append.1 hs' with q | q
            · exact H.out.2.1 s' q
            · simp at q; rw [q]; omega, H5.out.2.1.grown hg6 (fun j hj => by injection hj with hj; omega), grown_trans H5.out.2.2 hg6 (fun j hj => .inr (by injection hj with hj; omega))⟩
        case measure => simp [intOf]

end Go.Proofs.Yteemhhgioljmaaa
