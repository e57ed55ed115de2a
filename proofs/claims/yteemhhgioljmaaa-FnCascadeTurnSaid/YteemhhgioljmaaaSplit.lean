/-
  Contracts of SplitEngine.
-/
import Derived.Test.YteemhhgioljmaaaEngKit
namespace Go.Proofs.Yteemhhgioljmaaa
open Go.RowKit
set_option linter.unusedVariables false
set_option maxRecDepth 100000
attribute [local go_sem ↓] Go.wp_at_zero Go.wp_at_succ

theorem Strs.drop {w : World} {b o c : Nat} {l : List ByteArray} (h : Strs w (.slice (some ⟨b, o, none⟩) l.length c) l) {n : Nat} (hn : n ≤ l.length) : Strs w (.slice (some ⟨b, o + n, none⟩) (l.length - n) (c - n)) (l.drop n) := by
  obtain ⟨A', c', e, h1, h2, h3⟩ := h.open_
  injection e with e1 _ e3
  subst e1 e3
  have hl : (l.drop n).length = l.length - n := List.length_drop
  refine ⟨⟨some ⟨b, o + n, none⟩, c - n, by rw [sv_length, hl], by rw [sv_length, hl]; omega, by unfold maxLen; omega, fun h0 => ?_⟩, fun x hx => h.2 x (List.mem_of_mem_drop hx)⟩
  rw [sv_length, hl] at h0
  obtain ⟨b', o', e, hb, hc⟩ := h3 (by rw [sv_length]; omega)
  injection e with e
  injection e with e1 e2
  subst e1 e2
  refine ⟨b, o + n, rfl, hb, fun k u hu => ?_⟩
  rw [show o + n + k = o + (n + k) by omega]
  refine hc (n + k) u ?_
  rw [← hu, sv, sv, List.map_drop, List.getElem?_drop]
theorem Strs.take {w : World} {A : Option Addr} {c : Nat} {l : List ByteArray} (h : Strs w (.slice A l.length c) l) {n : Nat} (hn : n ≤ l.length) : Strs w (.slice A n c) (l.take n) := by
  obtain ⟨A', c', e, h1, h2, h3⟩ := h.open_
  injection e with e1 _ e3
  subst e1 e3
  have hl : (l.take n).length = n := by rw [List.length_take]; omega
  refine ⟨⟨A, c, by rw [sv_length, hl], by rw [sv_length, hl]; omega, by unfold maxLen; omega, fun h0 => ?_⟩, fun x hx => h.2 x (List.mem_of_mem_take hx)⟩
  rw [sv_length, hl] at h0
  obtain ⟨b, o, e, hb, hc⟩ := h3 (by rw [sv_length]; omega)
  refine ⟨b, o, e, hb, fun k u hu => hc k u ?_⟩
  rw [← hu, sv, sv, List.map_take, List.getElem?_take]
  by_cases hk : k < n
  · rw [if_pos hk]
  · rw [List.getElem?_eq_none (by first | (rw [sv_length, List.length_take]; omega) | (rw [List.length_take, List.length_map]; omega))] at hu; cases hu

def splitOk (l : List ByteArray) (n : Int) : Bool := engOk l && inB n 1 ((l.length : Int) - 1)
def splitA (l : List ByteArray) (n : Int) : List ByteArray := if splitOk l n = true then l.drop n.toNat else []
def splitB (l : List ByteArray) (n : Int) : List ByteArray := if splitOk l n = true then l.take n.toNat else []
theorem split_no {l : List ByteArray} {n : Int} (h : splitOk l n = false) : splitA l n = [] ∧ splitB l n = [] := by simp [splitA, splitB, h]
theorem split_yes {l : List ByteArray} {n : Int} (h : splitOk l n = true) : splitA l n = l.drop n.toNat ∧ splitB l n = l.take n.toNat := by simp [splitA, splitB, h]
/-- Two engines of one's own and a bool. -/
def TwoEng (w : World) (a b : List ByteArray) (q : Bool) (e : Ending) (w' : World) : Prop :=
  ∃ r s, e = .returned (.tuple #[.agg #[r], .agg #[s], .bool q]) ∧ OwnS w' w.heap.size r a ∧ OwnS w' w.heap.size s b ∧ (∀ k, r.ownBlock = some k → s.ownBlock ≠ some k) ∧ Below w.heap.size w w'

set_option maxHeartbeats 1000000 in
theorem implSplit_any (v : Value) (l : List ByteArray) (n : Int) (w : World) (hv : Strs w v l) (hn : -9223372036854775808 ≤ n ∧ n ≤ 9223372036854775807) :
    Calls Try.prog 66 #[.agg #[v], .int .i64 n] w (TwoEng w (splitA l n) (splitB l n) (splitOk l n)) := by
  have HV := Lib.hid hv
  obtain ⟨A, c, rfl, hlc, hc, hrd⟩ := hv.open_
  have HR := Lib.hid hrd
  clear hv hrd
  have b0 := Lib.hid (show Below w.heap.size w (((w.alloc (.cells #[.slice A l.length c] 29)).alloc (.cells #[.slice none 0 0] 29)).alloc (.cells #[.slice none 0 0] 29)) from
    (((bel_alloc w _).alloc (by simp) _).alloc (by simp; omega) _))
  have kk := Lib.hid (And.intro (((Blk.new' w 29 (.slice A l.length c) w.heap.size rfl).alloc (.cells #[.slice none 0 0] 29)).alloc (.cells #[.slice none 0 0] 29)) (And.intro (((Blk.new' (w.alloc (.cells #[.slice A l.length c] 29)) 29 (.slice none 0 0) (w.heap.size + 1) (by simp)).alloc (.cells #[.slice none 0 0] 29)))
    (Blk.new' ((w.alloc (.cells #[.slice A l.length c] 29)).alloc (.cells #[.slice none 0 0] 29)) 29 (.slice none 0 0) (w.heap.size + 1 + 1) (by simp))))
  go_enter Try.func66, Try.ntmps66
  go_wp2_with fail
  refine (implEng_any _ l _ (HV.out.bel b0.out)).mono ?_
  rintro e w2 ⟨rfl, hb⟩
  have K0 := kk.out.1.below hb kk.out.1.lt
  have K1 := kk.out.2.1.below hb kk.out.2.1.lt
  have K2 := kk.out.2.2.below hb kk.out.2.2.lt
  have hz := hb.size
  simp at hz
  have B2 := Lib.hid (bel_trans b0.out hb)
  clear hb kk b0
  cases hok : splitOk l n
  · have HN := Lib.hid (split_no hok)
    obtain ⟨c1, f1⟩ := K1.one
    obtain ⟨c2, f2⟩ := K2.one
    obtain ⟨c0, _⟩ := K0.one
    have hcase : engOk l = false ∨ n < 1 ∨ (l.length : Int) ≤ n := by
      cases h : engOk l
      · exact .inl rfl
      · have : inB n 1 ((l.length : Int) - 1) = false := by simpa [splitOk, h] using hok
        have := inB_false.1 this
        omega
    cases he : engOk l
    all_goals
      by_cases h1 : n < 1
      all_goals
        by_cases h2 : (l.length : Int) ≤ n
        all_goals
          first
          | (exfalso; rw [he] at hcase; simp at hcase; omega)
          | (go_wp2
             refine bodyPost_ret (v := .tuple #[.agg #[.slice none 0 0], .agg #[.slice none 0 0], .bool false]) (by simp [results, Try.results66, go_sem, c1, c2]) rfl ⟨.slice none 0 0, .slice none 0 0, by rw [hok], ?_, ?_, (fun k hk => by cases hk), ?_⟩
             · rw [HN.out.1]; exact OwnS.nil_ _ _
             · rw [HN.out.2]; exact OwnS.nil_ _ _
             · exact (B2.out.setCell (by simp) _).setCell (by simp; omega) _)
  · have HY := Lib.hid (split_yes hok)
    have hs : engOk l = true ∧ 1 ≤ n ∧ n ≤ (l.length : Int) - 1 := by
      simp only [splitOk, Bool.and_eq_true] at hok
      exact ⟨hok.1, inB_true.1 hok.2⟩
    obtain ⟨he, n1, n2⟩ := hs
    have l7 := (engOk_true.1 he).2.1
    obtain ⟨n, rfl⟩ : ∃ m : Nat, n = m := ⟨n.toNat, by omega⟩
    obtain ⟨b, o, rfl, hbb, _⟩ := HR.out.strs (by omega)
    have hnl : n < l.length := by omega
    have SA := Lib.hid ((HV.out.bel B2.out).drop (Nat.le_of_lt hnl))
    have SB := Lib.hid ((HV.out.bel B2.out).take (Nat.le_of_lt hnl))
    have D1 : (l.drop n).length ≤ 1048576 := by rw [List.length_drop]; omega
    have D2 : (l.take n).length ≤ 1048576 := by rw [List.length_take]; omega
    have bk0 : Blk w2.drew w.heap.size 29 [.slice (some ⟨b, o, none⟩) l.length c] := K0
    have bk1 : Blk w2.drew (w.heap.size + 1) 29 [.slice none 0 0] := K1
    have bk2 : Blk w2.drew (w.heap.size + 1 + 1) 29 [.slice none 0 0] := K2
    have hcap : ¬ c = n := by omega
    have hnle : n ≤ l.length := by omega
    have hnle2 : n ≤ c := by omega
    obtain ⟨c0, f0⟩ := bk0.one
    obtain ⟨c00, f00⟩ := K0.one
    clear K0 K1 K2
    have tok1 : True := trivial
    have tok2 : True := trivial
    have hz0 : w2.drew.heap.size = w2.heap.size := rfl
    go_wp2_with fail
    clear c00 f00
    go_region_law (first
      | (go_simp; go_at_call 120; have _t := tok1; go_loud (refine (cloneS_any _ (l.drop n) _ (SA.out.bel ((Below.refl _ _).drew)) D1).mono ?_; rintro e1 w3 ⟨r1, rfl, o1, b1⟩; obtain ⟨A1, c1, rfl, _, _, _⟩ := o1.strs.open_; have S3 := b1.size; have bl0 := bk0.below b1 (by rw [hz0]; omega); have bl1 := bk1.below b1 (by rw [hz0]; omega); have bl2 := bk2.below b1 (by rw [hz0]; omega); obtain ⟨c0', f0'⟩ := bl0.one; clear tok1))
      | (go_simp; go_at_call 120; have _t := tok2; refine (cloneS_any _ (l.take n) _ ((SB.out.bel ((Below.refl _ _).drew)).bel b1) D2).mono ?_; rintro e2 w4 ⟨r2, rfl, o2, b2⟩; obtain ⟨A2, c2, rfl, _, _, _⟩ := o2.strs.open_; have S4 := b2.size; have bm0 := bl0.below b2 (by have := hz0; omega); have bm1 := bl1.below b2 (by have := hz0; omega); have bm2 := bl2.below b2 (by have := hz0; omega); obtain ⟨d0, g0⟩ := bm0.one; obtain ⟨d1, g1⟩ := bm1.one; obtain ⟨d2, g2⟩ := bm2.one; clear tok2))
    all_goals
      have HF := Lib.hid (And.intro ((o1.bel b2).lower (base' := w.heap.size + 1 + 1 + 1) (by omega)) (And.intro (o2.lower (base' := w.heap.size + 1 + 1 + 1) (by omega)) (And.intro (bel_trans (bel_trans B2.out ((Below.refl _ _).drew)) (bel_trans b1 b2)) (And.intro o1.lt o2.lt))))
      clear o1 o2 b1 b2
      go_wp2
      refine bodyPost_ret (v := .tuple #[.agg #[.slice A1 (l.drop n).length c1], .agg #[.slice A2 (l.take n).length c2], .bool true]) (by simp [results, Try.results66, go_sem, d1, d2, Nat.min_eq_left hnle]) rfl ⟨_, _, by rw [hok], ?_, ?_, ?_, ?_⟩
      · rw [HY.out.1]; exact ((HF.out.1.setCell _ _ (by simp <;> omega)).setCell _ _ (by simp <;> omega)).lower (by omega)
      · rw [HY.out.2]; exact ((HF.out.2.1.setCell _ _ (by simp <;> omega)).setCell _ _ (by simp <;> omega)).lower (by omega)
      · exact fun k h1 h2 => by have q1 := (HF.out.2.2.2.1 k h1).2; have q2 := (HF.out.2.2.2.2 k h2).1; omega
      · exact (HF.out.2.2.1.setCell (by simp <;> omega) _).setCell (by simp <;> omega) _

end Go.Proofs.Yteemhhgioljmaaa
