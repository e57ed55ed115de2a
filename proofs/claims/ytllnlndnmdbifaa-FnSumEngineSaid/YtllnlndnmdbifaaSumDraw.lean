/-
  The drawn arguments of SumEngine.
-/
import Derived.Test.YtllnlndnmdbifaaDrawG
namespace Go.Proofs.Ytllnlndnmdbifaa
open Go.RowKit
set_option linter.unusedVariables false
set_option linter.unusedSimpArgs false
set_option maxRecDepth 100000
attribute [local go_sem ↓] Go.wp_at_zero Go.wp_at_succ

set_option maxHeartbeats 2000000 in
theorem drawSumE_any (v : Value) (code : List Int) (w : World) (hv : Bytes w v code) :
    Calls Try.prog 49 #[v] w (DrawnSplit w) := by
  have HV := Lib.hid hv
  have K2 := Blk.new' w 26 (.slice none 0 0) w.heap.size rfl
  go_enter Try.func49, Try.ntmps49
  go_wp2_with fail
  generalize hW : w.alloc (.cells #[.slice none 0 0] 26) = W at *
  have hwz : W.heap.size = w.heap.size + 1 := by rw [← hW]; simp
  have hbW : Below w.heap.size w W := by rw [← hW]; exact bel_alloc w _
  clear hW
  refine (l9Open_any v code _ (HV.out.bel hbW)).mono ?_
  rintro e w1 ⟨g, rfl, hg, hr1, hb1⟩
  have lg1 := hr1.lt
  have z1 := hb1.size
  replace K2 := K2.below hb1 K2.lt
  have H1 := Lib.hid (And.intro hr1 (bel_trans hbW hb1))
  clear hr1 hb1 hbW
  go_wp2_with fail
  refine (l3Open_any g 0 _ H1.out.1 (by omega)).mono ?_
  rintro e w2 ⟨ve, l, rfl, hs2, l8, hsz⟩
  replace K2 := K2.grown hs2.gr (fun e => by injection e with e; omega)
  have S2 := Lib.hid hs2
  obtain ⟨A2, c2, rfl, -, -, -⟩ := hs2.own.strs.open_
  have z2 := hs2.gr.size
  have k2 := K2.lt
  have K5 := Blk.new' w2 26 (.slice A2 l.length c2) _ rfl
  replace K2 := K2.alloc (.cells #[.slice A2 l.length c2] 26)
  have S3 := Lib.hid (hs2.bel (bel_alloc w2 (.cells #[.slice A2 l.length c2] 26)))
  clear hs2 hsz S2
  go_wp2_with fail
  generalize hW3 : w2.alloc (.cells #[.slice A2 l.length c2] 26) = W3 at *
  clear hW3
  have k5 := K5.lt
  obtain ⟨e2, f2⟩ := K2.one
  obtain ⟨e5, f5⟩ := K5.one
  have fin : ∀ (w5 : World) (K' : Nat), StS w1 g K' (.slice A2 l.length c2) l w5 → Blk w5 w.heap.size 26 [.slice none 0 0] →
      Strs (w5.setCell ⟨w.heap.size, 0, none⟩ (.slice A2 l.length c2)) (.slice A2 l.length c2) l ∧ Below w.heap.size w (w5.setCell ⟨w.heap.size, 0, none⟩ (.slice A2 l.length c2)) := fun w5 K' hs _ =>
    ⟨(hs.own.setCell _ _ (by show w.heap.size < w1.heap.size; omega)).strs, (H1.out.2.trans (grown_below (B := w.heap.size) hs.gr (by omega) (by omega))).setCell (by show w.heap.size ≤ w.heap.size; omega) _⟩
  have FN := Lib.hid fin
  clear fin
  have tok1 : True := trivial
  go_region_law (first
    | ((try go_simp); go_at_call 115; have _t := tok1; go_loud (refine (num_any g _ _ [0, 3, -5, 1, 40, 1000000, -9223372036854775808] _ (by first | exact S3.out.rdr.bel (bel_alloc _ _) | exact S3.out.rdr.bel ((bel_alloc _ _).drew) | exact S3.out.rdr.bel (((Below.refl _ _).drew).alloc (Nat.le_refl _) _)) (by omega) (by first | exact (lit_own _ [0, 3, -5, 1, 40, 1000000, -9223372036854775808] _ 0 rfl (by omega) (by simp) (wf_lit (by simp))).ints | exact (show Ints (World.alloc W3 _) _ _ from (lit_own W3 [0, 3, -5, 1, 40, 1000000, -9223372036854775808] _ 0 rfl (by omega) (by simp) (wf_lit (by simp))).ints).bel ((Below.refl _ _).drew)) (by simp) (lit_ne (by omega))).mono ?_; rintro e w5 ⟨x, rfl, hx, hr5, hg5⟩; have hx' : -9223372036854775808 ≤ x ∧ x ≤ 9223372036854775807 := (by simp at hx; omega); obtain ⟨X, bX, hgX⟩ : ∃ X, Below W3.heap.size W3 X ∧ X.grownBy w5 (some g) := ⟨_, (by first | exact bel_alloc _ _ | exact (bel_alloc _ _).drew | exact ((Below.refl _ _).drew).alloc (Nat.le_refl _) _), hg5⟩; have S5 := Lib.hid ((S3.out.bel bX).grown hgX hr5); have K2' := (K2.below bX K2.lt).grown hgX (fun e => by injection e with e; omega); have K5' := (K5.below bX K5.lt).grown hgX (fun e => by injection e with e; omega); obtain ⟨e2', f2'⟩ := K2'.one; obtain ⟨e5', f5'⟩ := K5'.one; clear tok1 hr5 hg5 hx bX hgX; (try dsimp only)))
    | fail)
  all_goals
    have F5 := Lib.hid (FN.out _ _ S5.out K2')
    go_wp2
    refine bodyPost_ret (v := .tuple #[.agg #[.slice A2 l.length c2], .int .i64 x]) (by simp [results, Try.results49, go_sem, e2']) rfl ⟨_, l, _, rfl, F5.out.1, l8, by omega, by omega, F5.out.2⟩

end Go.Proofs.Ytllnlndnmdbifaa
