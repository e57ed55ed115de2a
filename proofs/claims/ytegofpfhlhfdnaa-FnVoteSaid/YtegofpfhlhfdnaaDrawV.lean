/-
  What the laws of votes draw: three lists.
-/
import Derived.Test.YtegofpfhlhfdnaaDrawC
import Derived.OwnWalk
namespace Go.Proofs.Ytegofpfhlhfdnaa
open Go.RowKit
set_option linter.unusedVariables false
set_option maxRecDepth 100000

theorem Ints.drop1 {w : World} {b o c : Nat} {l : List Int} (h : Ints w (.slice (some ⟨b, o, none⟩) l.length c) l) (hn : 1 ≤ l.length) : Ints w (.slice (some ⟨b, o + 1, none⟩) (l.length - 1) (c - 1)) (l.drop 1) := by
  obtain ⟨A', c', e, h1, h2, h3⟩ := h.open_
  injection e with e1 _ e3
  subst e1 e3
  have hl : (l.drop 1).length = l.length - 1 := List.length_drop
  refine ⟨⟨some ⟨b, o + 1, none⟩, c - 1, by rw [iv_length, hl], by rw [iv_length, hl]; omega, by unfold maxLen; omega, fun h0 => ?_⟩, fun x hx => h.2 x (List.mem_of_mem_drop hx)⟩
  obtain ⟨b', o', e, hb, hc⟩ := h3 (by rw [iv_length]; omega)
  injection e with e
  injection e with e1 e2
  subst e1 e2
  refine ⟨b, o + 1, rfl, hb, fun k u hu => ?_⟩
  rw [show o + 1 + k = o + (k + 1) by omega]
  refine hc (k + 1) u ?_
  rw [← hu, iv, iv, List.map_drop, List.getElem?_drop]
  congr 1
  omega

theorem Ints.zero (w : World) (A : Option Addr) : Ints w (.slice A 0 0) [] := ⟨⟨A, 0, rfl, Nat.le_refl _, Nat.zero_le _, fun h => absurd h (by simp [iv])⟩, fun _ h => by simp at h⟩
/-- Three lists of one's own, side by side; the reader is K on. -/
structure Tri (w1 : World) (g K : Nat) (vt va vb : Value) (t a b : List Int) (W : World) : Prop where
  ot : Own W w1.heap.size vt t
  oa : Own W w1.heap.size va a
  ob : Own W w1.heap.size vb b
  ta : Diff vt va
  tb : Diff vt vb
  ab : Diff va vb
  rdr : Rdr W g K
  gr : w1.grownBy W (some g)
  lt : g < w1.heap.size
section
variable {w1 : World} {g K : Nat} {vt va vb : Value} {t a b : List Int} {W W' : World}
theorem Tri.grown {K' : Nat} (h : Tri w1 g K vt va vb t a b W) (hg : W.grownBy W' (some g)) (hr : Rdr W' g K') : Tri w1 g K' vt va vb t a b W' :=
  have hk : ∀ k, some g = some k → k < w1.heap.size := fun k hk => by injection hk with hk; have := h.lt; omega
  ⟨h.ot.far hg hk, h.oa.far hg hk, h.ob.far hg hk, h.ta, h.tb, h.ab, hr, grown_trans h.gr hg (fun j hj => .inl (by injection hj with hj; exact hj.symm)), h.lt⟩
theorem Tri.pick (n : Int) (h : Tri w1 g K vt va vb t a b W) (hK : K ≤ 1000000000) (hn : 1 ≤ n ∧ n ≤ 9223372036854775807) :
    Calls Try.prog 65 #[.pointer (some ⟨g, 0, none⟩), .int .i64 n] W (fun e W' => ∃ m : Int, e = .returned (.int .i64 m) ∧ 0 ≤ m ∧ m < n ∧ Tri w1 g (K + 1) vt va vb t a b W') :=
  (pick_any g K n W h.rdr hK (by omega)).mono fun e W' ⟨m, he, hm, _, hr, hg⟩ => ⟨m, he, (hm hn.1).1, (hm hn.1).2, h.grown hg hr⟩
theorem Tri.turn (h : Tri w1 g K vt va vb t a b W) : Tri w1 g K vt vb va t b a W := ⟨h.ot, h.ob, h.oa, h.tb, h.ta, h.ab.symm, h.rdr, h.gr, h.lt⟩
theorem Tri.setA {p n cap : Nat} (h : Tri w1 g K vt (.slice (some ⟨p, 0, none⟩) n cap) vb t a b W) (j : Nat) (z : Int) (hj : j < a.length) (hz : -9223372036854775808 ≤ z ∧ z ≤ 9223372036854775807) :
    Tri w1 g K vt (.slice (some ⟨p, 0, none⟩) n cap) vb t (a.set j z) b (W.setCell ⟨p, j, none⟩ (.int .i64 z)) := by
  have hb := (h.oa.lt p rfl).1
  have := h.lt
  have hg : W.grownBy (W.setCell ⟨p, j, none⟩ (.int .i64 z)) (some p) := only_setCell (World.grownBy.refl W (some p)) (.inl rfl) _
  exact ⟨h.ot.apart (u := .slice (some ⟨p, 0, none⟩) n cap) hg h.ta, h.oa.set_ j z hj hz, h.ob.apart (u := .slice (some ⟨p, 0, none⟩) n cap) hg h.ab.symm, h.ta, h.tb, h.ab,
    h.rdr.grown hg (fun k hk => by injection hk with hk; omega), grown_trans h.gr hg (fun k hk => .inr (by injection hk with hk; omega)), h.lt⟩
theorem Tri.bel (h : Tri w1 g K vt va vb t a b W) (hb : Below W.heap.size W W') : Tri w1 g K vt va vb t a b W' :=
  ⟨h.ot.bel hb, h.oa.bel hb, h.ob.bel hb, h.ta, h.tb, h.ab, h.rdr.bel hb, only_below h.gr hb, h.lt⟩
end

/-- Three drawn lists. -/
def DrawnThree (w : World) (e : Ending) (w' : World) : Prop :=
  ∃ v u x a b c, e = .returned (.tuple #[v, u, x]) ∧ Ints w' v a ∧ Ints w' u b ∧ Ints w' x c ∧ Below w.heap.size w w'

set_option maxHeartbeats 2000000 in
theorem drawVote_any (v : Value) (code : List Int) (w : World) (hv : Bytes w v code) :
    Calls Try.prog 29 #[v] w (DrawnThree w) := by
  go_enter Try.func29, Try.ntmps29
  go_wp2_with fail
  refine (l9Open_any v code w hv).mono ?_
  rintro e w1 ⟨g, rfl, hg, hr1, hb1⟩
  have z1 := hb1.size
  have l1 := hr1.lt
  have H1 := Lib.hid (And.intro hr1 hb1)
  clear hr1 hb1
  go_wp2_with fail
  refine (l2Table_any g 0 _ H1.out.1 (by omega)).mono ?_
  rintro e w2 ⟨vt, t, rfl, ho2, ht1, ht2, hr2, hg2⟩
  have z2 := hg2.size
  have T2 := Lib.hid (And.intro ho2 (And.intro hr2 hg2))
  obtain ⟨bt, ct, rfl, hbt, hbt2, hlt, hct, hcells⟩ := ho2.openN (by omega)
  clear ho2 hr2 hg2 hcells
  go_wp2_with (first
    | (at_builtin; refine app_ints rfl (.tmp 15) (.tmp 16) (by rfl) w2.heap.size _ _ [] t (by rfl) (by exact Own.empty w2 w2.heap.size (Nat.le_refl _)) (by rfl) (by exact T2.out.1.ints.bel (bel_alloc _ _)) (by simp; omega) (by simp) ?_; intro v3 w3 ho3 hg3 _; have b3 := Lib.hid (app_bel (bel_alloc w2 _) (Own.empty w2 w2.heap.size (Nat.le_refl _)) hg3); have O3 := Lib.hid ho3; have z3 := b3.out.size; clear ho3 hg3)
    | (at_builtin; refine app_ints rfl (.tmp 18) (.tmp 19) (by rfl) w3.heap.size _ _ [] t (by rfl) (by exact Own.empty w3 w3.heap.size (Nat.le_refl _)) (by rfl) (by exact (T2.out.1.ints.bel b3.out).bel (bel_alloc _ _)) (by simp; omega) (by simp) ?_; intro v4 w4 ho4 hg4 _; have b4 := Lib.hid (app_bel (bel_alloc w3 _) (Own.empty w3 w3.heap.size (Nat.le_refl _)) hg4); have O4 := Lib.hid ho4; have z4 := b4.out.size; clear ho4 hg4))
  have oa4 : Own w4 w2.heap.size v3 t := Own.bel (show Own w3 w2.heap.size v3 t from O3.out) b4.out
  have ob4 : Own w4 w3.heap.size v4 t := O4.out
  have ot4 : Own w4 w1.heap.size (.slice (some ⟨bt, 0, none⟩) t.length ct) t := (T2.out.1.bel b3.out).bel b4.out
  obtain ⟨pa, ca, rfl, hpa1, hpa2, hca, hca2, hcl⟩ := oa4.openN (by omega)
  obtain ⟨pb, cb, rfl, hpb1, hpb2, hcb, hcb2, hcl'⟩ := ob4.openN (by omega)
  have hpa3 : pa < w3.heap.size := ((show Own w3 w2.heap.size _ t from O3.out).lt pa rfl).2
  have S4 := Lib.hid (show Tri w1 g 50 (.slice (some ⟨bt, 0, none⟩) t.length ct) (.slice (some ⟨pa, 0, none⟩) t.length ca) (.slice (some ⟨pb, 0, none⟩) t.length cb) t t t w4 from
    ⟨ot4, oa4.lower z2, ob4.lower (by omega), fun k h1 h2 => by injection h1 with h1; injection h2 with h2; simp at h1 h2; omega, fun k h1 h2 => by injection h1 with h1; injection h2 with h2; simp at h1 h2; omega,
      fun k h1 h2 => by injection h1 with h1; injection h2 with h2; simp at h1 h2; omega, ((T2.out.2.1.bel b3.out).bel b4.out).more (by omega), only_below (only_below T2.out.2.2 b3.out) b4.out, l1⟩)
  clear oa4 ob4 ot4 hcl hcl' O3 O4 b3 b4 T2
  refine (S4.out.pick 3 (by omega) (by omega)).mono ?_
  rintro e w5 ⟨n, rfl, na, nb, hs5⟩
  obtain ⟨n, rfl⟩ : ∃ k : Nat, n = k := ⟨n.toNat, by omega⟩
  have S5 := Lib.hid hs5
  clear hs5 S4
  go_wp2_with fail
  go_loopw [9] (fun i wr => ∃ (k K' : Nat) (a : List Int), i = .int .i64 k ∧ k ≤ 2 ∧ a.length = t.length ∧ K' + 2 * k ≤ 60 ∧ Tri w1 g K' (.slice (some ⟨bt, 0, none⟩) t.length ct) (.slice (some ⟨pa, 0, none⟩) t.length ca) (.slice (some ⟨pb, 0, none⟩) t.length cb) t a t wr)
    (fun i _ => (intOf i).toNat)
  case atStart => exact ⟨n, 51, t, by go_num, by omega, rfl, by omega, S5.out⟩
  case round =>
    obtain ⟨k, K', a, rfl, hk, hal, hK', hst⟩ := hrel
    have S6 := Lib.hid hst
    have HA := Lib.hid hal
    have z6 := hst.gr.size
    clear hst hal S5
    by_cases hk0 : k = 0
    · subst hk0
      go_wp2_with fail
      refine (S6.out.pick 3 (by omega) (by omega)).mono ?_
      rintro e w7 ⟨n2, rfl, na2, nb2, hs7⟩
      obtain ⟨n2, rfl⟩ : ∃ k : Nat, n2 = k := ⟨n2.toNat, by omega⟩
      have S7 := Lib.hid hs7
      clear hs7 S6
      go_wp2_with fail
      go_loopw [10] (fun i wr => ∃ (k K' : Nat) (b : List Int), i = .int .i64 k ∧ k ≤ 2 ∧ b.length = t.length ∧ K' + 2 * k ≤ 70 ∧ Tri w1 g K' (.slice (some ⟨bt, 0, none⟩) t.length ct) (.slice (some ⟨pa, 0, none⟩) t.length ca) (.slice (some ⟨pb, 0, none⟩) t.length cb) t a b wr)
        (fun i _ => (intOf i).toNat)
      case atStart => exact ⟨n2, _, t, by go_num, by omega, rfl, by omega, S7.out⟩
      case round =>
        obtain ⟨k, K2, b, rfl, hk, hbl, hK2, hst⟩ := hrel
        have S8 := Lib.hid hst
        have HB := Lib.hid hbl
        have z8 := hst.gr.size
        clear hst hbl S7
        by_cases hk0 : k = 0
        · subst hk0
          go_wp2_with fail
          refine (S8.out.pick 12 (by omega) (by omega)).mono ?_
          rintro e w9 ⟨q, rfl, qa, qb, hs9⟩
          have S9 := Lib.hid hs9
          have BL := Lib.hid (fun (W : World) (h : w1.grownBy W (some g)) => H1.out.2.trans (grown_below (B := w.heap.size) h (by omega) z1))
          have z9 := hs9.gr.size
          clear hs9 S8
          cases q0 : (q == 0)
          · cases q1 : (q == 1)
            · cases q2 : (q == 2)
              · go_wp2_with fail
                have hst : St w1 g (K2 + 1) (.slice (some ⟨pa, 0, none⟩) t.length ca) a w9 := ⟨S9.out.oa, S9.out.rdr, S9.out.gr, S9.out.lt⟩
                refine (l2BadTable_any g _ _ _ _ _ hst (by have := HA.out; omega) (by have := HA.out; omega) (by omega)).mono ?_
                rintro e w10 ⟨vx, x, rfl, hx, hxl, hg10, hk10⟩
                have H10 := Lib.hid (And.intro hx (And.intro (hk10.2.1 _ _ _ S9.out.ot l1 S9.out.ta).ints (And.intro (hk10.2.1 _ _ _ S9.out.ob l1 S9.out.ab.symm).ints (BL.out _ hg10))))
                clear hx hg10 hk10 S9 hst
                go_wp2
                go_ret3
                exact ⟨_, _, _, t, x, b, rfl, H10.out.2.1, H10.out.1, H10.out.2.2.1, H10.out.2.2.2⟩
              · have hI := Lib.hid (And.intro (S9.out.ot.ints.drop1 ht1) (And.intro S9.out.oa.ints (And.intro S9.out.ob.ints (BL.out _ S9.out.gr))))
                clear S9
                by_cases hct1 : ct = 1
                · have ht : t.length - 1 = 0 := by omega
                  go_wp2
                  go_ret3
                  exact ⟨_, _, _, [], a, b, rfl, by first | exact Ints.zero _ _ | (rw [ht]; exact Ints.zero _ _), hI.out.2.1, hI.out.2.2.1, hI.out.2.2.2⟩
                · go_wp2
                  go_ret3
                  exact ⟨_, _, _, t.drop 1, a, b, rfl, hI.out.1, hI.out.2.1, hI.out.2.2.1, hI.out.2.2.2⟩
            · go_wp2
              go_ret3
              exact ⟨_, _, _, a, t, b, rfl, S9.out.oa.ints, S9.out.ot.ints, S9.out.ob.ints, BL.out _ S9.out.gr⟩
          · go_wp2
            go_ret3
            exact ⟨_, _, _, a, b, t, rfl, S9.out.oa.ints, S9.out.ob.ints, S9.out.ot.ints, BL.out _ S9.out.gr⟩
        · obtain ⟨k, rfl⟩ : ∃ j, k = j + 1 := ⟨k - 1, by omega⟩
          go_wp2_with fail
          refine (S8.out.pick _ (by omega) (by omega)).mono ?_
          rintro e w9 ⟨m, rfl, ma, mb, hs9⟩
          obtain ⟨m, rfl⟩ : ∃ k : Nat, m = k := ⟨m.toNat, by omega⟩
          have S9 := Lib.hid hs9
          clear hs9 S8
          go_wp2_with fail
          refine (S9.out.pick 5 (by omega) (by omega)).mono ?_
          rintro e w10 ⟨x, rfl, xa, xb, hs10⟩
          obtain ⟨b', cap', ev, _, _, _, _, hcells⟩ := hs10.ob.openN (by have := HB.out; omega)
          injection ev with ev1 ev2 ev3
          injection ev1 with ev1
          injection ev1 with ev1
          subst ev1
          obtain ⟨hc, hf⟩ := hcells m (by have := HB.out; omega)
          have S10 := Lib.hid hs10
          clear hs10 S9 hcells ev2 ev3
          go_wp2
          go_roundw
          case rel => exact ⟨k, K2 + 2, _, by go_num, by omega, by rw [List.length_set]; exact HB.out, by omega, (S10.out.turn.setA m x (by have := HB.out; omega) (by omega)).turn⟩
          case measure => simp [intOf]
    · obtain ⟨k, rfl⟩ : ∃ j, k = j + 1 := ⟨k - 1, by omega⟩
      go_wp2_with fail
      refine (S6.out.pick _ (by omega) (by omega)).mono ?_
      rintro e w9 ⟨m, rfl, ma, mb, hs9⟩
      obtain ⟨m, rfl⟩ : ∃ k : Nat, m = k := ⟨m.toNat, by omega⟩
      have S9 := Lib.hid hs9
      clear hs9 S6
      go_wp2_with fail
      refine (S9.out.pick 5 (by omega) (by omega)).mono ?_
      rintro e w10 ⟨x, rfl, xa, xb, hs10⟩
      obtain ⟨b', cap', ev, _, _, _, _, hcells⟩ := hs10.oa.openN (by have := HA.out; omega)
      injection ev with ev1 ev2 ev3
      injection ev1 with ev1
      injection ev1 with ev1
      subst ev1
      obtain ⟨hc, hf⟩ := hcells m (by have := HA.out; omega)
      have S10 := Lib.hid hs10
      clear hs10 S9 hcells ev2 ev3
      go_wp2
      go_roundw
      case rel => exact ⟨k, K' + 2, _, by go_num, by omega, by rw [List.length_set]; exact HA.out, by omega, S10.out.setA m x (by have := HA.out; omega) (by omega)⟩
      case measure => simp [intOf]

theorem drawFaulty_any (v : Value) (code : List Int) (w : World) (hv : Bytes w v code) :
    Calls Try.prog 26 #[v] w (DrawnThree w) := by
  go_enter Try.func26, Try.ntmps26
  go_wp2_with fail
  refine (drawVote_any v code w hv).mono ?_
  rintro e w1 ⟨v1, v2, v3, a, b, c, rfl, h1, h2, h3, hb⟩
  have H := Lib.hid (And.intro h1 (And.intro h2 (And.intro h3 hb)))
  clear h1 h2 h3 hb
  go_wp2
  go_ret3
  exact ⟨_, _, _, a, b, c, rfl, H.out.1, H.out.2.1, H.out.2.2.1, H.out.2.2.2⟩

end Go.Proofs.Ytegofpfhlhfdnaa
