/-
  The contract of the reference's SplitEngine.
-/
import Derived.Test.YtegofpfhlhfdnaaSplitS
namespace Go.Proofs.Ytegofpfhlhfdnaa
open Go.RowKit
set_option linter.unusedVariables false
set_option maxRecDepth 100000
attribute [local go_sem ↓] Go.wp_at_zero Go.wp_at_succ

set_option maxHeartbeats 2000000 in
theorem specSplit_any (v : Value) (l : List ByteArray) (n : Int) (w : World) (hv : Strs w v l) (hn : -9223372036854775808 ≤ n ∧ n ≤ 9223372036854775807) :
    Calls Try.prog 37 #[.agg #[v], .int .i64 n] w (TwoEng w (splitA l n) (splitB l n) (splitOk l n)) := by
  have HV := Lib.hid hv
  obtain ⟨A, c, rfl, hlc, hc, hrd⟩ := hv.open_
  clear hv hrd
  have b0 := Lib.hid (show Below w.heap.size w (((w.alloc (.cells #[.slice A l.length c] 42)).alloc (.cells #[.slice none 0 0] 42)).alloc (.cells #[.slice none 0 0] 42)) from
    (((bel_alloc w _).alloc (by simp) _).alloc (by simp; omega) _))
  have kk := Lib.hid (And.intro (((Blk.new' w 42 (.slice A l.length c) w.heap.size rfl).alloc (.cells #[.slice none 0 0] 42)).alloc (.cells #[.slice none 0 0] 42)) (And.intro (((Blk.new' (w.alloc (.cells #[.slice A l.length c] 42)) 42 (.slice none 0 0) (w.heap.size + 1) (by simp)).alloc (.cells #[.slice none 0 0] 42)))
    (Blk.new' ((w.alloc (.cells #[.slice A l.length c] 42)).alloc (.cells #[.slice none 0 0] 42)) 42 (.slice none 0 0) (w.heap.size + 1 + 1) (by simp))))
  go_enter Try.func37, Try.ntmps37
  go_wp2_with fail
  refine (specEng_any _ l _ (HV.out.bel b0.out)).mono ?_
  rintro e w2 ⟨rfl, hb⟩
  have K0 := kk.out.1.below hb kk.out.1.lt
  have K1 := kk.out.2.1.below hb kk.out.2.1.lt
  have K2 := kk.out.2.2.below hb kk.out.2.2.lt
  have hz := hb.size
  simp at hz
  have B2 := Lib.hid (bel_trans b0.out hb)
  clear hb kk b0
  obtain ⟨c0, f0⟩ := K0.one
  obtain ⟨c1, f1⟩ := K1.one
  obtain ⟨c2, f2⟩ := K2.one
  cases he : engOk l
  · have hok : splitOk l n = false := by simp [splitOk, he]
    have HN := Lib.hid (split_no hok)
    go_wp2
    refine bodyPost_ret (v := .tuple #[.agg #[.slice none 0 0], .agg #[.slice none 0 0], .bool false]) (by simp [results, Try.results37, go_sem, c1, c2]) rfl ⟨.slice none 0 0, .slice none 0 0, by rw [hok], ?_, ?_, (fun k hk => by cases hk), ?_⟩
    · rw [HN.out.1]; exact OwnS.nil_ _ _
    · rw [HN.out.2]; exact OwnS.nil_ _ _
    · exact (B2.out.setCell (by simp) _).setCell (by simp; omega) _
  · have l7 := (engOk_true.1 he).2.1
    cases hi : inB n 1 ((l.length : Int) - 1)
    · have hok : splitOk l n = false := by simp [splitOk, hi]
      have HN := Lib.hid (split_no hok)
      go_wp2_with (go_at_call 70; refine (l1In_any _ _ _ _).mono ?_; rintro e w' ⟨rfl, rfl⟩)
      refine bodyPost_ret (v := .tuple #[.agg #[.slice none 0 0], .agg #[.slice none 0 0], .bool false]) (by simp [results, Try.results37, go_sem, c1, c2]) rfl ⟨.slice none 0 0, .slice none 0 0, by rw [hok], ?_, ?_, (fun k hk => by cases hk), ?_⟩
      · rw [HN.out.1]; exact OwnS.nil_ _ _
      · rw [HN.out.2]; exact OwnS.nil_ _ _
      · exact (B2.out.setCell (by simp) _).setCell (by simp; omega) _
    · have hok : splitOk l n = true := by simp [splitOk, hi, he]
      have HY := Lib.hid (split_yes hok)
      have hi' := inB_true.1 hi
      obtain ⟨n, rfl⟩ : ∃ m : Nat, n = m := ⟨n.toNat, by omega⟩
      go_wp2_with (go_at_call 70; refine (l1In_any _ _ _ _).mono ?_; rintro e w' ⟨rfl, rfl⟩)
      refine (l7Split_any _ l n _ (HV.out.bel B2.out) (by omega) (by omega) (by omega)).mono ?_
      rintro e w3 ⟨r, s, rfl, o1, o2, hd, hb3⟩
      have S3 := hb3.size
      have bl1 := K1.below hb3 (by omega)
      have bl2 := K2.below hb3 (by omega)
      obtain ⟨d1, g1⟩ := bl1.one
      obtain ⟨d2, g2⟩ := bl2.one
      obtain ⟨A1, e1, rfl, _, _, _⟩ := o1.strs.open_
      obtain ⟨A2, e2, rfl, _, _, _⟩ := o2.strs.open_
      generalize hp : (l.drop n).length = p at *
      generalize hq : (l.take n).length = q at *
      have HP := Lib.hid (And.intro hp hq)
      clear hp hq
      have HF := Lib.hid (And.intro o1 (And.intro o2 (And.intro hd (bel_trans B2.out hb3))))
      clear o1 o2 hd hb3 K0 K1 K2 c0 f0 c1 f1 c2 f2 d1 g1 d2 g2
      go_wp2_with fail
      obtain ⟨W4, hW4⟩ : ∃ W, W = (w3.alloc (.cells #[.slice A1 p e1] 42)).alloc (.cells #[.slice A2 q e2] 42) := ⟨_, rfl⟩
      have b7 : Blk W4 w3.heap.size 42 [.slice A1 p e1] := by rw [hW4]; exact (Blk.new' w3 _ _ _ rfl).alloc _
      have b8 : Blk W4 (w3.heap.size + 1) 42 [.slice A2 q e2] := by rw [hW4]; exact Blk.new' _ _ _ _ (by simp)
      have m1 : Blk W4 (w.heap.size + 1) 42 [.slice none 0 0] := by rw [hW4]; exact (bl1.alloc _).alloc _
      have m2 : Blk W4 (w.heap.size + 1 + 1) 42 [.slice none 0 0] := by rw [hW4]; exact (bl2.alloc _).alloc _
      have B4 := Lib.hid (show Below w3.heap.size w3 W4 by rw [hW4]; exact (bel_alloc w3 _).alloc (by simp) _)
      rw [← hW4]
      clear hW4
      obtain ⟨c7, f7⟩ := b7.one
      obtain ⟨c8, f8⟩ := b8.one
      obtain ⟨c1, f1⟩ := m1.one
      obtain ⟨c2, f2⟩ := m2.one
      have c8' : (W4.setCell ⟨w.heap.size + 1, 0, none⟩ (.slice A1 p e1)).cell? ⟨w3.heap.size + 1, 0, none⟩ = some (.slice A2 q e2) := ((b8.far (p := ⟨w.heap.size + 1, 0, none⟩) (by simp; omega) _).one).1
      go_region_law (fail)
      all_goals
        go_wp2
        refine bodyPost_ret (v := .tuple #[.agg #[.slice A1 p e1], .agg #[.slice A2 q e2], .bool true]) (by simp [results, Try.results37, go_sem, c1, c2]) rfl ⟨_, _, by rw [hok], ?_, ?_, HF.out.2.2.1, ?_⟩
        · rw [HY.out.1]; exact (((HF.out.1.bel B4.out).setCell _ _ (by simp <;> omega)).setCell _ _ (by simp <;> omega)).lower (by omega)
        · rw [HY.out.2]; exact (((HF.out.2.1.bel B4.out).setCell _ _ (by simp <;> omega)).setCell _ _ (by simp <;> omega)).lower (by omega)
        · have hbl := bel_trans HF.out.2.2.2 B4.out
          first | exact ((hbl.setCell (p := ⟨w.heap.size + 1, 0, none⟩) (by show w.heap.size ≤ w.heap.size + 1; omega) _).setCell (p := ⟨w.heap.size + 1 + 1, 0, none⟩) (by show w.heap.size ≤ w.heap.size + 1 + 1; omega) _) | exact ((hbl.setCell (p := ⟨w.heap.size + 1, 0, none⟩) (by show w.heap.size ≤ w.heap.size + 1; omega) _).setCell (p := ⟨w.heap.size + 1 + 1, 0, none⟩) (by show w.heap.size ≤ w.heap.size + 1 + 1; omega) _).drew

end Go.Proofs.Ytegofpfhlhfdnaa
