/-
  Contracts of the reference's SplitEngine.
-/
import Derived.Test.YteemhhgioljmaaaSplit
import Derived.ArgAppend
namespace Go.Proofs.Yteemhhgioljmaaa
open Go.RowKit
set_option linter.unusedVariables false
set_option maxRecDepth 100000
attribute [local go_sem ↓] Go.wp_at_zero Go.wp_at_succ

/-- 'append([]string{}, x...)' as a step of a region that draws: the new list is the call's own. -/
theorem step_app_strs0 {ops : Array Oper} {o : Oper} {a : Act} {K : Act → World → Prop} {Q : Exit → Act → World → Prop} {E : Prop} {w : World} (hgd : o.guard = none) (s x : Operand)
    (ho : o.op = .call { callee := .builtin .append, args := #[s, x], argTypes := #[27, 27] })
    (g : Nat) (hs : a.eval s = .slice (some ⟨g, 0, none⟩) 0 0) (u : Value) (m : List ByteArray) (hx : a.eval x = u) (hm : Strs w u m) (h1 : 1 ≤ m.length) (hl : m.length ≤ 1048576)
    (h : ∀ A c w', OwnS w' w.heap.size (.slice A m.length c) m → m.length ≤ c → c ≤ 9223372036854775807 → Below w.heap.size w w' → K (a.put o.dst (.slice A m.length c)) w') :
    if Region.wanted o (yielded ops a.tmps) = true then Oper.wp Try.prog o a w K Q else E := by
  have hw : Region.wanted o (yielded ops a.tmps) = true := by simp [Region.wanted, hgd]
  rw [if_pos hw]
  obtain ⟨i0, hi, hz0, hz1, hz2⟩ := info_parts Try.infoStr
  have hwf := hm.2
  obtain ⟨A, c, rfl, hlc, hc, hrd⟩ := hm.open_
  obtain ⟨b, f, rfl, hb, hcell⟩ := hrd.strs (by omega)
  obtain ⟨v', w', hrun, h2, h3⟩ := run_append_arg_grows (P := Try.prog) w 27 o.type 9 i0 _ 1 16 Try.underlying27 hi hz0 hz1 hz2 rfl (by omega) ⟨g, 0, none⟩ 0 0 [] rfl (by intro j u hj; simp at hj) ⟨b, f, none⟩ m.length c (sv m) (by rw [sv_length]; omega) (by
    intro j u hj
    have hlt : j < m.length := by
      have := (List.getElem?_eq_some_iff.1 hj).1
      rw [sv_length] at this; exact this
    rw [sv_get m j hlt] at hj
    injection hj with hj
    subst hj
    rw [Addr.add_lit]
    exact hcell j hlt) (by omega) (by unfold maxLen; omega) (by omega)
  have h2' : OwnS w' w.heap.size v' m := ⟨by simpa using h2, hwf, by unfold maxLen; omega⟩
  obtain ⟨A', c', rfl, k1, k2, _⟩ := h2'.strs.open_
  unfold Oper.wp execOp
  simp only [ho, resolve, invoke, builtin, Sem.run_bind, Sem.run_pure, Result.andThen_ok, List.map_toArray, List.map_cons, List.map_nil, hs, hx, hrun]
  exact h A' c' w' h2' k1 k2 ⟨h3.os, h3.tape, h3.output, h3.size, fun i hi => h3.block i hi (by simp)⟩

set_option maxHeartbeats 1000000 in
theorem l3Copy_any (v : Value) (l : List ByteArray) (w : World) (hv : Strs w v l) (hl : l.length ≤ 1048576) :
    Calls Try.prog 147 #[.agg #[v]] w fun e w' => ∃ r, e = .returned (.agg #[r]) ∧ OwnS w' w.heap.size r l ∧ Below w.heap.size w w' := by
  have HV := Lib.hid hv
  obtain ⟨A, c, rfl, hlc, hc, hrd⟩ := hv.open_
  clear hv hrd
  have b0 := Lib.hid (show Below w.heap.size w (((w.alloc (.cells #[.slice A l.length c] 29)).alloc (.cells #[.slice none 0 0] 29)).alloc (.cells #[] 9)) from
    (((bel_alloc w _).alloc (by simp) _).alloc (by simp; omega) _))
  have kk := Lib.hid (((Blk.new' (w.alloc (.cells #[.slice A l.length c] 29)) 29 (.slice none 0 0) (w.heap.size + 1) (by simp)).alloc (.cells #[] 9)))
  have oe := Lib.hid (show OwnS (((w.alloc (.cells #[.slice A l.length c] 29)).alloc (.cells #[.slice none 0 0] 29)).alloc (.cells #[] 9)) (w.heap.size + 1 + 1) (.slice (some ⟨w.heap.size + 1 + 1, 0, none⟩) 0 0) [] by
    have := OwnS.empty ((w.alloc (.cells #[.slice A l.length c] 29)).alloc (.cells #[.slice none 0 0] 29)) (w.heap.size + 1 + 1) (by simp)
    simpa using this)
  go_enter Try.func147, Try.ntmps147
  go_wp2_with (at_builtin; refine app_strs rfl (.tmp 3) (.tmp 5) (by rfl) (w.heap.size + 1 + 1) _ _ [] l (by rfl) (by exact oe.out) (by rfl) (by exact HV.out.bel b0.out) (by simp; omega) (by simp) ?_; intro v3 w3 ho hg hat; replace ho : OwnS w3 (w.heap.size + 1 + 1) v3 l := ho; have k1 := kk.out.grown hg (fun e => by injection e with e; simp at e); obtain ⟨c1, f1⟩ := k1.one; have hb := below_own hg (show w.heap.size ≤ _ from b0.out.size) (fun k hk => by injection hk with hk; simp at hk; omega); obtain ⟨A3, c3, rfl, _, _, _⟩ := ho.strs.open_; have H := Lib.hid (And.intro ho (b0.out.trans hb)); clear ho hg hat hb kk oe b0)
  refine bodyPost_ret (v := .agg #[.slice A3 l.length c3]) (by simp [results, Try.results147, go_sem, c1]) rfl ⟨_, rfl, ?_, ?_⟩
  · exact (H.out.1.setCell _ _ (by simp)).lower (by omega)
  · exact H.out.2.setCell (by simp) _

/-- Two engines of one's own. -/
def PairEng (w : World) (a b : List ByteArray) (e : Ending) (w' : World) : Prop :=
  ∃ r s, e = .returned (.tuple #[.agg #[r], .agg #[s]]) ∧ OwnS w' w.heap.size r a ∧ OwnS w' w.heap.size s b ∧ (∀ k, r.ownBlock = some k → s.ownBlock ≠ some k) ∧ Below w.heap.size w w'

set_option maxHeartbeats 2000000 in
theorem l7Split_any (v : Value) (l : List ByteArray) (n : Nat) (w : World) (hv : Strs w v l) (hl : l.length ≤ 1000000) (n1 : 1 ≤ n) (n2 : n < l.length) :
    Calls Try.prog 131 #[.agg #[v], .int .i64 n] w (PairEng w (l.drop n) (l.take n)) := by
  have HV := Lib.hid hv
  obtain ⟨A, c, rfl, hlc, hc, hrd⟩ := hv.open_
  clear hv hrd
  have b0 := Lib.hid (show Below w.heap.size w (((w.alloc (.cells #[.slice A l.length c] 29)).alloc (.cells #[.slice none 0 0] 29)).alloc (.cells #[.slice none 0 0] 29)) from
    (((bel_alloc w _).alloc (by simp) _).alloc (by simp; omega) _))
  have kk := Lib.hid (And.intro (((Blk.new' (w.alloc (.cells #[.slice A l.length c] 29)) 29 (.slice none 0 0) (w.heap.size + 1) (by simp)).alloc (.cells #[.slice none 0 0] 29)))
    (Blk.new' ((w.alloc (.cells #[.slice A l.length c] 29)).alloc (.cells #[.slice none 0 0] 29)) 29 (.slice none 0 0) (w.heap.size + 1 + 1) (by simp)))
  go_enter Try.func131, Try.ntmps131
  go_wp2_with fail
  refine (l3Copy_any _ l _ (HV.out.bel b0.out) (by omega)).mono ?_
  rintro e w2 ⟨r, rfl, ho, hb⟩
  have K1 := kk.out.1.below hb kk.out.1.lt
  have K2 := kk.out.2.below hb kk.out.2.lt
  have hz := hb.size
  simp at hz
  have B2 := Lib.hid (bel_trans b0.out hb)
  obtain ⟨b, c3, rfl, hb1, hb2, hlc3, hc3⟩ : ∃ b c3, r = .slice (some ⟨b, 0, none⟩) l.length c3 ∧ w.heap.size + 1 + 1 + 1 ≤ b ∧ b < w2.heap.size ∧ l.length ≤ c3 ∧ c3 ≤ 9223372036854775807 := by
    rcases ho.form with ⟨_, rfl⟩ | ⟨g, cap, cs, rfl, hg, hblk, h1, h2, h3, h4⟩
    · simp at n2
    · exact ⟨g, cap, rfl, by simpa using hg, hblk.lt, h1, h2⟩
  have HO := Lib.hid ho.strs
  clear ho hb kk b0
  go_wp2_with fail
  obtain ⟨W3, hW3⟩ : ∃ W, W = w2.alloc (.cells #[.slice (some ⟨b, 0, none⟩) l.length c3] 29) := ⟨_, rfl⟩
  rw [← hW3]
  have bk0 : Blk W3 w2.heap.size 29 [.slice (some ⟨b, 0, none⟩) l.length c3] := by rw [hW3]; exact Blk.new' w2 _ _ _ rfl
  have bk1 : Blk W3 (w.heap.size + 1) 29 [.slice none 0 0] := by rw [hW3]; exact K1.alloc _
  have bk2 : Blk W3 (w.heap.size + 1 + 1) 29 [.slice none 0 0] := by rw [hW3]; exact K2.alloc _
  have hz3 : W3.heap.size = w2.heap.size + 1 := by rw [hW3]; simp
  have B3 := Lib.hid (show Below w.heap.size w W3 by rw [hW3]; exact bel_trans B2.out (bel_alloc w2 _))
  have HS := Lib.hid (show Strs W3 (.slice (some ⟨b, 0, none⟩) l.length c3) l by rw [hW3]; exact HO.out.bel (bel_alloc w2 _))
  clear hW3 HO K1 K2 HV B2
  have D1 : 1 ≤ (l.drop n).length ∧ (l.drop n).length ≤ 1048576 := by rw [List.length_drop]; omega
  have D2 : 1 ≤ (l.take n).length ∧ (l.take n).length ≤ 1048576 := by rw [List.length_take]; omega
  have SA := Lib.hid (HS.out.drop (Nat.le_of_lt n2))
  have SB := Lib.hid (HS.out.take (Nat.le_of_lt n2))
  rw [Nat.zero_add] at SA
  obtain ⟨c0, f0⟩ := bk0.one
  have hlt6 : w2.heap.size < W3.heap.size := by omega
  have hnc : ¬ c3 = n := by omega
  have hnle : n ≤ l.length := by omega
  have hnle2 : n ≤ c3 := by omega
  have ca : (W3.alloc (.cells #[] 9)).cell? ⟨w2.heap.size, 0, none⟩ = some (.slice (some ⟨b, 0, none⟩) l.length c3) := ((bel_alloc W3 _).cell (by simpa using hlt6)).trans c0
  have caa : ((W3.alloc (.cells #[] 9)).alloc (.cells #[] 9)).cell? ⟨w2.heap.size, 0, none⟩ = some (.slice (some ⟨b, 0, none⟩) l.length c3) := (((bel_alloc W3 _).alloc (by simp) _).cell (by simpa using hlt6)).trans c0
  have tok1 : True := trivial
  have tok2 : True := trivial
  clear HS
  go_region_law (first
    | (have _t := tok1; refine step_app_strs0 rfl (.tmp 9) (.tmp 13) (by rfl) _ (by rfl) _ (l.drop n) (by rfl) (SA.out.bel (by first | exact Below.refl _ _ | exact (Below.refl _ _).drew | exact bel_alloc _ _ | exact (bel_alloc _ _).drew | exact (bel_alloc _ _).alloc (by simp) _ | exact ((bel_alloc _ _).alloc (by simp) _).drew)) D1.1 D1.2 ?_; intro A1 d1 w5 o1 k1 k1' hb5; have B5 := bel_trans (show Below W3.heap.size W3 _ by first | exact Below.refl _ _ | exact (Below.refl _ _).drew | exact bel_alloc _ _ | exact (bel_alloc _ _).drew | exact (bel_alloc _ _).alloc (by simp) _ | exact ((bel_alloc _ _).alloc (by simp) _).drew) hb5; have S5 := B5.size; have bl0 := bk0.below B5 (by omega); have bl1 := bk1.below B5 (by omega); have bl2 := bk2.below B5 (by omega); obtain ⟨c0', f0'⟩ := bl0.one; have ca' : (w5.alloc (.cells #[] 9)).cell? ⟨w2.heap.size, 0, none⟩ = some (.slice (some ⟨b, 0, none⟩) l.length c3) := ((bel_alloc w5 _).cell (by simp; omega)).trans c0'; clear tok1)
    | (have _t := tok2; refine step_app_strs0 rfl (.tmp 16) (.tmp 20) (by rfl) _ (by rfl) _ (l.take n) (by rfl) ((SB.out.bel B5).bel (by first | exact Below.refl _ _ | exact (Below.refl _ _).drew | exact bel_alloc _ _ | exact (bel_alloc _ _).drew | exact (bel_alloc _ _).alloc (by simp) _ | exact ((bel_alloc _ _).alloc (by simp) _).drew)) D2.1 D2.2 ?_; intro A2 d2 w6 o2 k2 k2' hb6; have B6 := bel_trans (show Below w5.heap.size w5 _ by first | exact Below.refl _ _ | exact (Below.refl _ _).drew | exact bel_alloc _ _ | exact (bel_alloc _ _).drew | exact (bel_alloc _ _).alloc (by simp) _ | exact ((bel_alloc _ _).alloc (by simp) _).drew) hb6; have S6 := B6.size; have bm1 := bl1.below B6 (by omega); have bm2 := bl2.below B6 (by omega); obtain ⟨e1, g1⟩ := bm1.one; obtain ⟨e2, g2⟩ := bm2.one; clear tok2))
  all_goals
    have HF := Lib.hid (And.intro ((o1.lower (base' := w.heap.size + 1 + 1 + 1) (by first | omega | (simp; omega))).bel B6) (And.intro ((o2.lower (base' := w.heap.size + 1 + 1 + 1) (by first | omega | (simp; omega)))) (And.intro (bel_trans (bel_trans B3.out B5) B6) (And.intro o1.lt (o2.lower (base' := w5.heap.size) (by first | omega | (simp; done) | (simp; omega))).lt))))
    clear o1 o2 B5 B6 hb5 hb6
    go_wp2
    refine bodyPost_ret (v := .tuple #[.agg #[.slice A1 (l.drop n).length d1], .agg #[.slice A2 (l.take n).length d2]]) (by simp [results, Try.results131, go_sem, e1, e2, Nat.min_eq_left hnle]) rfl ⟨_, _, rfl, ?_, ?_, ?_, ?_⟩
    · exact ((HF.out.1.setCell _ _ (by simp <;> omega)).setCell _ _ (by simp <;> omega)).lower (by omega)
    · exact ((HF.out.2.1.setCell _ _ (by simp <;> omega)).setCell _ _ (by simp <;> omega)).lower (by omega)
    · exact fun k h1 h2 => by have q1 := (HF.out.2.2.2.1 k h1).2; have q2 := (HF.out.2.2.2.2 k h2).1; omega
    · exact (HF.out.2.2.1.setCell (by simp <;> omega) _).setCell (by simp <;> omega) _

end Go.Proofs.Yteemhhgioljmaaa
