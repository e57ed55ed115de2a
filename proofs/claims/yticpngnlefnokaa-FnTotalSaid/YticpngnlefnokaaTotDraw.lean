/-
  TurnMany, deTurned, deTen; the drawn arguments of TotalOf.
-/
import Derived.Test.YticpngnlefnokaaDrawG
import Derived.Test.YticpngnlefnokaaTurnS
import Derived.Test.YticpngnlefnokaaSumPlain
namespace Go.Proofs.Yticpngnlefnokaa
open Go.RowKit
set_option linter.unusedVariables false
set_option linter.unusedSimpArgs false
set_option maxRecDepth 100000
attribute [local go_sem ↓] Go.wp_at_zero Go.wp_at_succ

set_option maxHeartbeats 400000 in
theorem within_nat (k m : Nat) (w : World) (h : k ≤ m) (hm : m ≤ 1000000) :
    Calls Try.prog 53 #[.int .i64 k, .int .i64 m] w fun e w' => e = .returned (.bool true) ∧ w = w' := by
  have h1 : -(m : Int) ≤ (k : Int) := by omega
  have h2 : (k : Int) ≤ (m : Int) := by omega
  go_enter Try.func53, Try.ntmps53
  go_wp2
  go_ret
  exact ⟨by simp_all, rfl⟩

set_option maxHeartbeats 2000000 in
theorem turnManyE_any (v : Value) (l : List ByteArray) (n : Nat) (w : World) (hv : Strs w v l) (ok : engOk l = true) (hn : n ≤ 300) :
    Calls Try.prog 28 #[.agg #[v], .int .i64 n] w (EngB w (turnN l n) true) := by
  have HV := Lib.hid hv
  obtain ⟨A, c, rfl, -, -, -⟩ := hv.open_
  clear hv
  have B0 := Lib.hid (show Below w.heap.size w ((w.alloc (.cells #[.slice A l.length c] 25)).alloc (.cells #[.slice none 0 0] 25)) from (bel_alloc w _).alloc (by simp) _)
  have K0 := (Blk.new' w 25 (.slice A l.length c) w.heap.size rfl).alloc (.cells #[.slice none 0 0] 25)
  have K2 := Blk.new' (w.alloc (.cells #[.slice A l.length c] 25)) 25 (.slice none 0 0) (w.heap.size + 1) (by simp)
  obtain ⟨c0, -⟩ := K0.one
  go_enter Try.func28, Try.ntmps28
  go_wp2_with fail
  clear c0
  generalize hW : (w.alloc (.cells #[.slice A l.length c] 25)).alloc (.cells #[.slice none 0 0] 25) = W at *
  clear hW
  refine (implEng_any _ l _ (HV.out.bel B0.out)).mono ?_
  rintro e w2 ⟨rfl, hb⟩
  rw [ok]
  replace K0 := K0.below hb K0.lt
  replace K2 := K2.below hb K2.lt
  have HB := Lib.hid (bel_trans B0.out hb)
  have hz := HB.out.size
  have HOK := Lib.hid ok
  clear hb ok
  obtain ⟨c0, -⟩ := K0.one
  obtain ⟨c2, f2⟩ := K2.one
  go_wp2_with fail
  refine (within_nat n 300 _ hn (by omega)).mono ?_
  rintro e w2' ⟨rfl, rfl⟩
  go_wp2_with fail
  refine (turnedMany_any _ l n _ (HV.out.bel HB.out) HOK.out hn).mono ?_
  rintro e w3 ⟨r, rfl, ho, hb3⟩
  have k2 := K2.lt
  replace K2 := K2.below hb3 K2.lt
  have HO := Lib.hid (And.intro (ho.lower (base' := w.heap.size + 1 + 1) (by omega)) (bel_trans HB.out hb3))
  obtain ⟨A3, d3, rfl, -, -, -⟩ := ho.strs.open_
  clear ho hb3 c2 f2
  obtain ⟨c2, f2⟩ := K2.one
  generalize hp : (turnN l n).length = p at *
  clear hp
  go_wp2
  refine bodyPost_ret (v := .tuple #[.agg #[.slice A3 p d3], .bool true]) (by simp [results, Try.results28, go_sem, c2]) rfl ⟨_, rfl, ?_, ?_⟩
  · exact (HO.out.1.setCell _ _ (by simp)).lower (by omega)
  · exact HO.out.2.setCell (by simp) _

set_option maxHeartbeats 2000000 in
theorem deTurned_any (v : Value) (l : List ByteArray) (n : Nat) (w : World) (hv : Strs w v l) (ok : engOk l = true) (hn : n ≤ 300) :
    Calls Try.prog 12 #[.agg #[v], .int .i64 n] w fun e w' => ∃ r, e = .returned (.agg #[r]) ∧ OwnS w' w.heap.size r (turnN l n) ∧ Below w.heap.size w w' := by
  have HV := Lib.hid hv
  obtain ⟨A, c, rfl, -, -, -⟩ := hv.open_
  clear hv
  have B0 := Lib.hid (show Below w.heap.size w ((w.alloc (.cells #[.slice A l.length c] 25)).alloc (.cells #[.slice none 0 0] 25)) from (bel_alloc w _).alloc (by simp) _)
  have K0 := (Blk.new' w 25 (.slice A l.length c) w.heap.size rfl).alloc (.cells #[.slice none 0 0] 25)
  have K2 := Blk.new' (w.alloc (.cells #[.slice A l.length c] 25)) 25 (.slice none 0 0) (w.heap.size + 1) (by simp)
  obtain ⟨c0, -⟩ := K0.one
  go_enter Try.func12, Try.ntmps12
  go_wp2_with fail
  clear c0
  generalize hW : (w.alloc (.cells #[.slice A l.length c] 25)).alloc (.cells #[.slice none 0 0] 25) = W at *
  clear hW
  have k2 := K2.lt
  refine (turnManyE_any _ l n _ (HV.out.bel B0.out) ok hn).mono ?_
  rintro e w2 ⟨r, rfl, ho, hb⟩
  replace K2 := K2.below hb K2.lt
  have HO := Lib.hid (And.intro ((ho.lower (base' := w.heap.size + 1 + 1) (by omega)).bel (bel_alloc w2 (.cells #[r] 25))) (bel_trans (bel_trans B0.out hb) (bel_alloc w2 (.cells #[r] 25))))
  obtain ⟨A3, d3, rfl, -, -, -⟩ := ho.strs.open_
  replace K2 := K2.alloc (.cells #[.slice A3 (turnN l n).length d3] 25)
  clear ho hb
  obtain ⟨c2, f2⟩ := K2.one
  generalize hp : (turnN l n).length = p at *
  clear hp
  go_wp2
  refine bodyPost_ret (v := .agg #[.slice A3 p d3]) (by simp [results, Try.results12, go_sem, c2]) rfl ⟨_, rfl, ?_, ?_⟩
  · exact (HO.out.1.setCell _ _ (by simp)).lower (by omega)
  · exact HO.out.2.setCell (by simp) _

set_option maxHeartbeats 1000000 in
theorem deTen_any (k : Nat) (w : World) (hk : k ≤ 12) :
    Calls Try.prog 10 #[.int .i64 k] w fun e w' => e = .returned (.int .i64 (ten k)) ∧ w = w' := by
  go_enter Try.func10, Try.ntmps10
  go_wp2
  go_loop [3, 4] (fun p i => ∃ j : Nat, j ≤ k ∧ i = .int .i64 j ∧ p = .int .i64 (ten j)) (fun _ i => k - (intOf i).toNat)
  case atStart => exact ⟨0, Nat.zero_le _, rfl, rfl⟩
  case round =>
    obtain ⟨j, hj, rfl, rfl⟩ := hrel
    have hb := ten_le (show j ≤ 12 by omega)
    have hs := Lib.hid (ten_succ j)
    by_cases hlt : j < k
    · go_wp2
      go_round
      case rel => exact ⟨j + 1, by omega, by go_num, by rw [hs.out]; go_num⟩
      case measure => simp [intOf]; omega
    · have : j = k := by omega
      subst this
      go_wp2
      go_ret
      exact ⟨rfl, rfl⟩

set_option maxHeartbeats 2000000 in
theorem l7Count_any (g K : Nat) (v : Value) (l : List ByteArray) (w0 w : World) (hst : StS w0 g K v l w) (hK : K ≤ 10000000) :
    Calls Try.prog 31 #[.pointer (some ⟨g, 0, none⟩)] w fun e w' => ∃ n : Int, e = .returned (.int .i64 n) ∧ -1 ≤ n ∧ n ≤ 9223372036854775807 ∧ StS w0 g (K + 2) v l w' ∧ w.grownBy w' (some g) := by
  have S0 := Lib.hid hst
  have hgw := hst.lt
  have hz := hst.gr.size
  clear hst
  go_enter Try.func31, Try.ntmps31
  go_wp2_with fail
  refine (pick_any g K _ _ S0.out.rdr (by omega) (by omega)).mono ?_
  rintro e w1 ⟨m, rfl, -, -, hr1, hg1⟩
  have S1 := Lib.hid (S0.out.grown hg1 hr1)
  have z1 := hg1.size
  have G1 := Lib.hid hg1
  clear hr1 hg1 S0
  cases m0 : (m == 0)
  · go_wp2_with fail
    refine (pick_any g _ _ _ S1.out.rdr (by omega) (by omega)).mono ?_
    rintro e w2 ⟨x, rfl, hx, -, hr2, hg2⟩
    have hx' := hx (by omega)
    have S2 := Lib.hid (S1.out.grown hg2 hr2)
    have G2 := Lib.hid (grown_trans G1.out hg2 (fun j hj => .inl (by injection hj with hj; exact hj.symm)))
    clear hr2 hg2 hx
    go_wp2
    go_ret
    exact ⟨x, rfl, by omega, by omega, S2.out, G2.out⟩
  · go_wp2_with fail
    refine (num_any g _ _ [-1, 60, 61, 9223372036854775807] _ (S1.out.rdr.bel (bel_alloc _ _)) (by omega) (lit_own _ [-1, 60, 61, 9223372036854775807] w1.heap.size 0 rfl (by omega) (by simp) (wf_lit (by simp))).ints (by simp) (lit_ne (by omega))).mono ?_
    rintro e w2 ⟨x, rfl, hx, hr2, hg2⟩
    have hx' : -1 ≤ x ∧ x ≤ 9223372036854775807 := by simp at hx; omega
    have S2 := Lib.hid ((S1.out.bel (bel_alloc _ _)).grown hg2 hr2)
    have G2 := Lib.hid (grown_trans (only_alloc G1.out _) hg2 (fun j hj => .inl (by injection hj with hj; exact hj.symm)))
    clear hr2 hg2 hx
    go_wp2
    go_ret
    exact ⟨x, rfl, by omega, by omega, S2.out, G2.out⟩

set_option maxHeartbeats 2000000 in
theorem drawTotal_any (v : Value) (code : List Int) (w : World) (hv : Bytes w v code) :
    Calls Try.prog 14 #[v] w (DrawnSplit w) := by
  have HV := Lib.hid hv
  have K2 := Blk.new' w 25 (.slice none 0 0) w.heap.size rfl
  go_enter Try.func14, Try.ntmps14
  go_wp2_with fail
  generalize hW : w.alloc (.cells #[.slice none 0 0] 25) = W at *
  have hwz : W.heap.size = w.heap.size + 1 := by rw [← hW]; simp
  have hbW : Below w.heap.size w W := by rw [← hW]; exact bel_alloc w _
  clear hW
  refine (l9Open_any v code _ (HV.out.bel hbW)).mono ?_
  rintro e w1 ⟨g, rfl, hg, hr1, hb1⟩
  have lg1 := hr1.lt
  have z1 := hb1.size
  replace K2 := K2.below hb1 K2.lt
  have H1 := Lib.hid (And.intro hr1 (bel_trans hbW hb1))
  clear hr1 hb1 hbW
  go_wp2_with fail
  refine (l3Open_any g 0 _ H1.out.1 (by omega)).mono ?_
  rintro e w2 ⟨ve, l, rfl, hs2, l8, hsz⟩
  replace K2 := K2.grown hs2.gr (fun e => by injection e with e; omega)
  obtain ⟨A2, c2, rfl, -, -, -⟩ := hs2.own.strs.open_
  have z2 := hs2.gr.size
  have k2 := K2.lt
  have K5 := Blk.new' w2 25 (.slice A2 l.length c2) _ rfl
  replace K2 := K2.alloc (.cells #[.slice A2 l.length c2] 25)
  have S3 := Lib.hid (hs2.bel (bel_alloc w2 (.cells #[.slice A2 l.length c2] 25)))
  clear hs2 hsz
  obtain ⟨e2, f2⟩ := K2.one
  obtain ⟨e5, f5⟩ := K5.one
  have fin : ∀ (w5 : World) (K' : Nat), StS w1 g K' (.slice A2 l.length c2) l w5 →
      Strs (w5.setCell ⟨w.heap.size, 0, none⟩ (.slice A2 l.length c2)) (.slice A2 l.length c2) l ∧ Below w.heap.size w (w5.setCell ⟨w.heap.size, 0, none⟩ (.slice A2 l.length c2)) := fun w5 K' hs =>
    ⟨(hs.own.setCell _ _ (by show w.heap.size < w1.heap.size; omega)).strs, (H1.out.2.trans (grown_below (B := w.heap.size) hs.gr (by omega) (by omega))).setCell (by show w.heap.size ≤ w.heap.size; omega) _⟩
  have FN := Lib.hid fin
  clear fin
  go_wp2_with fail
  generalize hW3 : w2.alloc (.cells #[.slice A2 l.length c2] 25) = W3 at *
  clear hW3
  have tok1 : True := trivial
  go_region_law (first
    | ((try go_simp); go_at_call 31; have _t := tok1; refine (l7Count_any g _ _ l w1 _ (by first | exact S3.out | exact S3.out.bel ((Below.refl _ _).drew)) (by omega)).mono ?_; rintro e w5 ⟨x, rfl, x1, x2, hs5, hg5⟩; replace hg5 : W3.grownBy w5 (some g) := (by first | exact hg5 | exact grown_drew hg5); have S5 := Lib.hid hs5; have K2' := K2.grown hg5 (fun e => by injection e with e; omega); have K5' := K5.grown hg5 (fun e => by injection e with e; omega); obtain ⟨e2', f2'⟩ := K2'.one; obtain ⟨e5', f5'⟩ := K5'.one; clear tok1 hg5 hs5; (try dsimp only))
    | fail)
  all_goals
    have F5 := Lib.hid (FN.out _ _ S5.out)
    go_wp2
    refine bodyPost_ret (v := .tuple #[.agg #[.slice A2 l.length c2], .int .i64 x]) (by simp [results, Try.results14, go_sem, e2']) rfl ⟨_, l, _, rfl, F5.out.1, l8, by omega, by omega, F5.out.2⟩

end Go.Proofs.Yticpngnlefnokaa
