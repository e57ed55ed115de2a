/-
  Drawn lists of engines: l7List.
-/
import Derived.Test.YteemhhgioljmaaaLst
namespace Go.Proofs.Yteemhhgioljmaaa
open Go.RowKit
set_option linter.unusedVariables false
set_option linter.unusedSimpArgs false
set_option maxRecDepth 100000
attribute [local go_sem ↓] Go.wp_at_zero Go.wp_at_succ

theorem EngsZ.row {w : World} {base : Nat} {v : Value} {ls : List (List ByteArray)} (h : EngsZ w base v ls) (hn : 0 < ls.length) :
    ∃ b cap cs, v = .slice (some ⟨b, 0, none⟩) ls.length cap ∧ base ≤ b ∧ Blk w b 29 cs ∧ ls.length ≤ cap ∧ cap ≤ 9223372036854775807 ∧ cs.length = cap ∧ ls.length ≤ 1048576 ∧
      ∀ i, i < ls.length → cs[i]? = some (xat cs i) ∧ Strs w (xat cs i) (eat ls i) ∧ Off (xat cs i) (eat ls i) (fun k => k ≠ b ∧ base ≤ k) := by
  obtain ⟨xs, ⟨hl, h⟩, h2, h3, h4⟩ := h
  rcases h with ⟨_, hz⟩ | ⟨g, cap, cur, rfl, hg, hh, hnc, hcm, hsz, ht⟩
  · omega
  · refine ⟨g, cap, cur.toList, rfl, hg, hh, hnc, by unfold maxLen at hcm; omega, by simpa using hsz, h3, fun i hi => ?_⟩
    have e : cur.toList[i]? = some (xat xs i) := by
      have e1 := xat_get (xs := xs) (i := i) (by omega)
      rw [← ht, List.getElem?_take, if_pos (by omega)] at e1
      rw [← ht]
      exact e1
    have e2 : xat cur.toList i = xat xs i := by simp only [xat, List.getD] at e ⊢; rw [e]; rfl
    rw [e2]
    refine ⟨e, (h4 i hi).1, (h4 i hi).2.mono fun k hk => ⟨fun q => hk.1 (by rw [q]; rfl), hk.2⟩⟩
theorem EngsZ.mk' {w : World} {base b cap : Nat} {cs : List Value} {ls : List (List ByteArray)} (hg : base ≤ b) (hb : Blk w b 29 cs) (hl : ls.length ≤ cap) (hc : cap ≤ 9223372036854775807) (hs : cs.length = cap) (hm : ls.length ≤ 1048576)
    (hcs : ∀ i, i < ls.length → Strs w (xat cs i) (eat ls i) ∧ Off (xat cs i) (eat ls i) (fun k => k ≠ b ∧ base ≤ k)) : EngsZ w base (.slice (some ⟨b, 0, none⟩) ls.length cap) ls := by
  have ht : (cs.take ls.length).length = ls.length := by rw [List.length_take]; omega
  have hx : ∀ i, i < ls.length → xat (cs.take ls.length) i = xat cs i := fun i hi => by simp only [xat, List.getD, List.getElem?_take, if_pos hi]
  refine ⟨cs.take ls.length, ⟨by rw [ht]; omega, .inr ⟨b, cap, cs.toArray, rfl, hg, hb, hl, by unfold maxLen; omega, by simpa using hs, ?_⟩⟩, ht, hm, fun i hi => ?_⟩
  · first | rfl | simp
  · rw [hx i hi]
    exact ⟨(hcs i hi).1, (hcs i hi).2.mono fun k hk => ⟨fun q => hk.1 (by injection q with q; exact q.symm), hk.2⟩⟩
theorem StZ.nil_ {w : World} {g K b n cap : Nat} {ls : List (List ByteArray)} {W : World} (h : StZ w g K (.slice (some ⟨b, 0, none⟩) n cap) ls W) (hn : 0 < ls.length) : StZ w g K (.slice (some ⟨b, 0, none⟩) 0 cap) [] W := by
  obtain ⟨b', cap', cs, e, h1, h2, h3, h4, h5, h6, h7⟩ := h.own.row hn
  injection e with e1 e2 e3
  injection e1 with e1
  injection e1 with e1
  subst e1 e3
  exact ⟨EngsZ.mk' (ls := []) h1 h2 (Nat.zero_le _) h4 h5 (by simp) (fun i hi => absurd hi (by simp)), h.rdr, h.gr, h.lt⟩
theorem StZ.set0 {w : World} {g K b n cap : Nat} {ls : List (List ByteArray)} {W : World} (h : StZ w g K (.slice (some ⟨b, 0, none⟩) n cap) ls W) (hn : 0 < ls.length) : StZ w g K (.slice (some ⟨b, 0, none⟩) n cap) (ls.set 0 []) (W.setCell ⟨b, 0, none⟩ (.slice none 0 0)) := by
  obtain ⟨b', cap', cs, e, h1, h2, h3, h4, h5, h6, h7⟩ := h.own.row hn
  injection e with e1 e2 e3
  injection e1 with e1
  injection e1 with e1
  subst e1 e2 e3
  have hg := only_setCell (World.grownBy.refl W (some b)) (p := ⟨b, 0, none⟩) (.inl rfl) (.slice none 0 0)
  have hll : (ls.set 0 []).length = ls.length := List.length_set
  have := h.lt
  refine ⟨?_, h.rdr.grown hg (fun k hk => by injection hk with hk; omega), grown_trans h.gr hg (fun j hj => .inr (by injection hj with hj; omega)), h.lt⟩
  have := EngsZ.mk' (ls := ls.set 0 []) h1 (h2.set_ 0 (.slice none 0 0)) (by rw [hll]; exact h3) h4 (by rw [List.length_set]; exact h5) (by rw [hll]; exact h6) (fun i hi => by
    rw [hll] at hi
    rw [xat_set (by omega)]
    by_cases e : i = 0
    · subst e
      rw [if_pos rfl]
      have : eat (ls.set 0 []) 0 = [] := by simp [eat, List.getD, hn]
      rw [this]
      exact ⟨Strs.nil_ _, fun a n c e hl => absurd hl (by simp)⟩
    · rw [if_neg e]
      have : eat (ls.set 0 []) i = eat ls i := by simp only [eat, List.getD]; rw [List.getElem?_set_ne (by omega)]
      rw [this]
      exact ⟨(h7 i hi).2.1.rowFar hg ((h7 i hi).2.2.mono fun k hk q => hk.1 (by injection q)), (h7 i hi).2.2⟩)
  rw [hll] at this
  exact this

/-- A drawn list of engines. -/
def DrawnEngs (w : World) (g K' : Nat) (e : Ending) (w' : World) : Prop :=
  ∃ v ls, e = .returned v ∧ StZ w g K' v ls w' ∧ ls.length ≤ 11 ∧ ∀ i, i < ls.length → (eat ls i).length ≤ 7
theorem all_app {ls : List (List ByteArray)} {l : List ByteArray} (h : ∀ i, i < ls.length → (eat ls i).length ≤ 7) (hl : l.length ≤ 7) : ∀ i, i < (ls ++ [l]).length → (eat (ls ++ [l]) i).length ≤ 7 := by
  intro i hi
  rw [List.length_append] at hi
  simp at hi
  by_cases e : i < ls.length
  · rw [eat_append_lo e]; exact h i e
  · have e' : i = ls.length := by omega
    subst e'
    rw [eat_append_hi]; exact hl

set_option maxHeartbeats 4000000 in
theorem l7List_any (g K : Nat) (w : World) (hr : Rdr w g K) (hK : K ≤ 100000) :
    Calls Try.prog 82 #[.pointer (some ⟨g, 0, none⟩)] w (DrawnEngs w g (K + 1210)) := by
  have hgw := hr.lt
  have S0 := Lib.hid (show StZ w g K (.slice (some ⟨w.heap.size, 0, none⟩) 0 0) [] (w.alloc (.cells #[] 29)) from
    ⟨EngsZ.empty w w.heap.size (Nat.le_refl _), hr.bel (bel_alloc _ _), only_alloc (World.grownBy.refl w _) _, hgw⟩)
  clear hr
  go_enter Try.func82, Try.ntmps82
  go_wp2_with fail
  refine (pick_any g K 4 _ S0.out.rdr (by omega) (by omega)).mono ?_
  rintro e w1 ⟨m, rfl, hm, -, hr1, hg1⟩
  replace hm := hm (by omega)
  obtain ⟨m, rfl⟩ : ∃ n : Nat, m = n := ⟨m.toNat, by omega⟩
  have S1 := Lib.hid (S0.out.grown hg1 hr1)
  clear hr1 hg1 S0
  go_wp2_with fail
  go_loopw [3, 4] (fun r n wr => ∃ (k K' : Nat) (ls : List (List ByteArray)), n = .int .i64 k ∧ k ≤ 4 ∧ ls.length + k = m + 1 ∧ K' + 300 * k ≤ K + 1201 ∧ StZ w g K' r ls wr ∧ ∀ i, i < ls.length → (eat ls i).length ≤ 7)
    (fun _ n _ => (intOf n).toNat)
  case atStart => exact ⟨m + 1, K + 1, [], by go_num, by omega, by simp, by omega, S1.out, fun i hi => absurd hi (by simp)⟩
  case round =>
    obtain ⟨k, K', ls, rfl, hk, hlk, hK', hst, h7⟩ := hrel
    have zr := hst.gr.size
    have S3 := Lib.hid hst
    have H7 := Lib.hid h7
    clear S1 hst h7
    by_cases hk0 : k = 0
    · subst hk0
      have hrow := S3.out.own.row (by omega)
      obtain ⟨b, cap, cs, rfl, hb1, hb2, hb3, hb4, hb5, hb6, -⟩ := hrow
      clear hb2
      go_wp2_with fail
      refine (pick_any g K' 24 _ S3.out.rdr (by omega) (by omega)).mono ?_
      rintro e w3 ⟨q, rfl, qab, -, hr4, hg4⟩
      replace qab := qab (by omega)
      have S4 := Lib.hid (S3.out.grown hg4 hr4)
      have z4 := S4.out.gr.size
      clear hr4 hg4 S3
      cases q0 : (q == 0)
      · cases q1 : (q == 1)
        · cases q2 : (q == 2)
          · go_wp2
            go_ret
            exact ⟨_, ls, rfl, ⟨S4.out.own, S4.out.rdr.more (by omega), S4.out.gr, S4.out.lt⟩, by omega, H7.out⟩
          · obtain ⟨b', cap', cs', e, -, hb2, -, -, -, -, h7'⟩ := S4.out.own.row (by omega)
            injection e with e1 e2 e3
            injection e1 with e1
            injection e1 with e1
            subst e1
            have c0 := (hb2.cell 0).trans (h7' 0 (by omega)).1
            have f0 := hb2.frozen 0
            clear hb2 h7' e2 e3
            go_wp2
            go_ret
            have S5 := S4.out.set0 (by omega)
            refine ⟨_, _, rfl, ⟨S5.own, S5.rdr.more (by omega), S5.gr, S5.lt⟩, by rw [List.length_set]; omega, fun i hi => ?_⟩
            rw [List.length_set] at hi
            by_cases e : i = 0
            · subst e
              have : eat (ls.set 0 []) 0 = [] := by simp [eat, List.getD, hi]
              rw [this]; simp
            · have : eat (ls.set 0 []) i = eat ls i := by simp only [eat, List.getD]; rw [List.getElem?_set_ne (by omega)]
              rw [this]; exact H7.out i hi
        · go_wp2_with fail
          go_loopw [3] (fun r wr => ∃ ls' : List (List ByteArray), 1 ≤ ls'.length ∧ ls'.length ≤ 11 ∧ StZ w g (K' + 1) r ls' wr ∧ ∀ i, i < ls'.length → (eat ls' i).length ≤ 7) (fun r _ => match r with | .slice _ n _ => 12 - n | _ => 0)
          case atStart => exact ⟨ls, by omega, by omega, S4.out, H7.out⟩
          case round =>
            obtain ⟨ls', hl1, hl11, hst, h7⟩ := hrel
            have S5 := Lib.hid hst
            have H7' := Lib.hid h7
            have zo := hst.gr.size
            obtain ⟨b', cap', cs', rfl, hb1', hb2, hb3', hb4', hb5', hb6', h7'⟩ := hst.own.row (by omega)
            obtain ⟨p1, p2, p3⟩ := h7' 0 (by omega)
            have c0 := (hb2.cell 0).trans p1
            clear hst h7 h7' S4 H7 p1
            by_cases h9 : (ls'.length : Int) < 11
            · obtain ⟨Ae, ce, he, -, -, -⟩ := p2.open_
              rw [he] at p2 p3 c0
              have P2 := Lib.hid p2
              have P3 := Lib.hid p3
              clear p2 p3 hb2
              go_wp2_with (at_builtin; go_must (refine app_engZ rfl (.tmp 29) (.tmp 33) (by rfl) w.heap.size _ ls' (by rfl) (by exact S5.out.own.bel (bel_alloc _ _)) _ _ (.slice Ae (eat ls' 0).length ce) (eat ls' 0) (by rfl) (by exact new_cell _ _ _) (by exact P2.out.bel (bel_alloc _ _)) (by exact P3.out.mono (fun k hk => ⟨fun q => hk.1 (by injection q with q; exact q.symm), hk.2⟩)) (by omega) (by simp; omega) ?_; intro v4 w4 ho hg _))
              have S6 := Lib.hid ((S5.out.bel (bel_alloc _ _)).app ho hg)
              have hl2 : (ls' ++ [eat ls' 0]).length = ls'.length + 1 := by simp
              obtain ⟨A6, c6, xs6, rfl, -, -, -, -⟩ := ho.engs.open_
              clear ho hg S5
              go_roundw
              case rel => exact ⟨_, by omega, by omega, S6.out, all_app H7'.out (H7'.out 0 (by omega))⟩
              case measure => simp; omega
            · clear p2 p3 hb2 c0
              go_wp2
              go_ret
              exact ⟨_, ls', rfl, ⟨S5.out.own, S5.out.rdr.more (by omega), S5.out.gr, S5.out.lt⟩, by omega, H7'.out⟩
      · go_wp2
        go_ret
        have S5 := S4.out.nil_ (by omega)
        exact ⟨_, [], rfl, ⟨S5.own, S5.rdr.more (by omega), S5.gr, S5.lt⟩, by simp, fun i hi => absurd hi (by simp)⟩
    · obtain ⟨k, rfl⟩ : ∃ j, k = j + 1 := ⟨k - 1, by omega⟩
      go_wp2_with fail
      refine (l3Some_any g K' _ S3.out.rdr (by omega)).mono ?_
      rintro e w5 ⟨v5, l5, rfl, ho5, h51, h57, -, hr5, hg5⟩
      have S5 := Lib.hid (S3.out.grown hg5 hr5)
      have z5 := hg5.size
      have OF := Lib.hid (ho5.off.mono (R := fun b => u3.ownBlock ≠ some b ∧ w.heap.size ≤ b) (fun b hb2 => ⟨fun e => by have := (S3.out.own.lt b e).2; omega, by omega⟩))
      obtain ⟨A5, c5, rfl, -, -, -⟩ := ho5.strs.open_
      have O5 := Lib.hid ho5.strs
      clear ho5 hr5 hg5 S3
      go_wp2_with (at_builtin; go_must (refine app_engZ rfl (.tmp 13) (.tmp 16) (by rfl) w.heap.size _ ls (by rfl) (by exact S5.out.own.bel (bel_alloc _ _)) _ _ (.slice A5 l5.length c5) l5 (by rfl) (by exact new_cell _ _ _) (by exact O5.out.bel (bel_alloc _ _)) (by exact OF.out) (by omega) (by simp; omega) ?_; intro v6 w6 ho hg _))
      have S6 := Lib.hid ((S5.out.bel (bel_alloc _ _)).app ho hg)
      have hl2 : (ls ++ [l5]).length = ls.length + 1 := by simp
      clear ho hg S5
      go_roundw
      case rel => exact ⟨k, K' + 300, _, by go_num, by omega, by omega, by omega, S6.out, all_app H7.out h57⟩
      case measure => simp [intOf]

end Go.Proofs.Yteemhhgioljmaaa
