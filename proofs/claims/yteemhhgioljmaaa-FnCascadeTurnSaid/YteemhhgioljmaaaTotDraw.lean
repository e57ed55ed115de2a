/-
  TurnMany, deTurned, deTen; the drawn arguments of TotalOf.
-/
import Derived.Test.YteemhhgioljmaaaDrawG
import Derived.Test.YteemhhgioljmaaaTurnS
import Derived.Test.YteemhhgioljmaaaSumPlain
namespace Go.Proofs.Yteemhhgioljmaaa
open Go.RowKit
set_option linter.unusedVariables false
set_option linter.unusedSimpArgs false
set_option maxRecDepth 100000
attribute [local go_sem ↓] Go.wp_at_zero Go.wp_at_succ

set_option maxHeartbeats 400000 in
theorem within_nat (k m : Nat) (w : World) (h : k ≤ m) (hm : m ≤ 1000000) :
    Calls Try.prog 103 #[.int .i64 k, .int .i64 m] w fun e w' => e = .returned (.bool true) ∧ w = w' := by
  have h1 : -(m : Int) ≤ (k : Int) := by omega
  have h2 : (k : Int) ≤ (m : Int) := by omega
  go_enter Try.func103, Try.ntmps103
  go_wp2
  go_ret
  exact ⟨by simp_all, rfl⟩

set_option maxHeartbeats 2000000 in
theorem turnManyE_any (v : Value) (l : List ByteArray) (n : Nat) (w : World) (hv : Strs w v l) (ok : engOk l = true) (hn : n ≤ 300) :
    Calls Try.prog 95 #[.agg #[v], .int .i64 n] w (EngB w (turnN l n) true) := by
  have HV := Lib.hid hv
  obtain ⟨A, c, rfl, -, -, -⟩ := hv.open_
  clear hv
  have B0 := Lib.hid (show Below w.heap.size w ((w.alloc (.cells #[.slice A l.length c] 29)).alloc (.cells #[.slice none 0 0] 29)) from (bel_alloc w _).alloc (by simp) _)
  have K0 := (Blk.new' w 29 (.slice A l.length c) w.heap.size rfl).alloc (.cells #[.slice none 0 0] 29)
  have K2 := Blk.new' (w.alloc (.cells #[.slice A l.length c] 29)) 29 (.slice none 0 0) (w.heap.size + 1) (by simp)
  obtain ⟨c0, -⟩ := K0.one
  go_enter Try.func95, Try.ntmps95
  go_wp2_with fail
  clear c0
  generalize hW : (w.alloc (.cells #[.slice A l.length c] 29)).alloc (.cells #[.slice none 0 0] 29) = W at *
  clear hW
  refine (implEng_any _ l _ (HV.out.bel B0.out)).mono ?_
  rintro e w2 ⟨rfl, hb⟩
  rw [ok]
  replace K0 := K0.below hb K0.lt
  replace K2 := K2.below hb K2.lt
  have HB := Lib.hid (bel_trans B0.out hb)
  have hz := HB.out.size
  have HOK := Lib.hid ok
  clear hb ok
  obtain ⟨c0, -⟩ := K0.one
  obtain ⟨c2, f2⟩ := K2.one
  go_wp2_with fail
  refine (within_nat n 300 _ hn (by omega)).mono ?_
  rintro e w2' ⟨rfl, rfl⟩
  go_wp2_with fail
  refine (turnedMany_any _ l n _ (HV.out.bel HB.out) HOK.out hn).mono ?_
  rintro e w3 ⟨r, rfl, ho, hb3⟩
  have k2 := K2.lt
  replace K2 := K2.below hb3 K2.lt
  have HO := Lib.hid (And.intro (ho.lower (base' := w.heap.size + 1 + 1) (by omega)) (bel_trans HB.out hb3))
  obtain ⟨A3, d3, rfl, -, -, -⟩ := ho.strs.open_
  clear ho hb3 c2 f2
  obtain ⟨c2, f2⟩ := K2.one
  generalize hp : (turnN l n).length = p at *
  clear hp
  go_wp2
  refine bodyPost_ret (v := .tuple #[.agg #[.slice A3 p d3], .bool true]) (by simp [results, Try.results95, go_sem, c2]) rfl ⟨_, rfl, ?_, ?_⟩
  · exact (HO.out.1.setCell _ _ (by simp)).lower (by omega)
  · exact HO.out.2.setCell (by simp) _

set_option maxHeartbeats 2000000 in
theorem deTurned_any (v : Value) (l : List ByteArray) (n : Nat) (w : World) (hv : Strs w v l) (ok : engOk l = true) (hn : n ≤ 300) :
    Calls Try.prog 29 #[.agg #[v], .int .i64 n] w fun e w' => ∃ r, e = .returned (.agg #[r]) ∧ OwnS w' w.heap.size r (turnN l n) ∧ Below w.heap.size w w' := by
  have HV := Lib.hid hv
  obtain ⟨A, c, rfl, -, -, -⟩ := hv.open_
  clear hv
  have B0 := Lib.hid (show Below w.heap.size w ((w.alloc (.cells #[.slice A l.length c] 29)).alloc (.cells #[.slice none 0 0] 29)) from (bel_alloc w _).alloc (by simp) _)
  have K0 := (Blk.new' w 29 (.slice A l.length c) w.heap.size rfl).alloc (.cells #[.slice none 0 0] 29)
  have K2 := Blk.new' (w.alloc (.cells #[.slice A l.length c] 29)) 29 (.slice none 0 0) (w.heap.size + 1) (by simp)
  obtain ⟨c0, -⟩ := K0.one
  go_enter Try.func29, Try.ntmps29
  go_wp2_with fail
  clear c0
  generalize hW : (w.alloc (.cells #[.slice A l.length c] 29)).alloc (.cells #[.slice none 0 0] 29) = W at *
  clear hW
  have k2 := K2.lt
  refine (turnManyE_any _ l n _ (HV.out.bel B0.out) ok hn).mono ?_
  rintro e w2 ⟨r, rfl, ho, hb⟩
  replace K2 := K2.below hb K2.lt
  have HO := Lib.hid (And.intro ((ho.lower (base' := w.heap.size + 1 + 1) (by omega)).bel (bel_alloc w2 (.cells #[r] 29))) (bel_trans (bel_trans B0.out hb) (bel_alloc w2 (.cells #[r] 29))))
  obtain ⟨A3, d3, rfl, -, -, -⟩ := ho.strs.open_
  replace K2 := K2.alloc (.cells #[.slice A3 (turnN l n).length d3] 29)
  clear ho hb
  obtain ⟨c2, f2⟩ := K2.one
  generalize hp : (turnN l n).length = p at *
  clear hp
  go_wp2
  refine bodyPost_ret (v := .agg #[.slice A3 p d3]) (by simp [results, Try.results29, go_sem, c2]) rfl ⟨_, rfl, ?_, ?_⟩
  · exact (HO.out.1.setCell _ _ (by simp)).lower (by omega)
  · exact HO.out.2.setCell (by simp) _


set_option maxHeartbeats 2000000 in
theorem l7Count_any (g K : Nat) (v : Value) (l : List ByteArray) (w0 w : World) (hst : StS w0 g K v l w) (hK : K ≤ 10000000) :
    Calls Try.prog 90 #[.pointer (some ⟨g, 0, none⟩)] w fun e w' => ∃ n : Int, e = .returned (.int .i64 n) ∧ -1 ≤ n ∧ n ≤ 9223372036854775807 ∧ StS w0 g (K + 2) v l w' ∧ w.grownBy w' (some g) := by
  have S0 := Lib.hid hst
  have hgw := hst.lt
  have hz := hst.gr.size
  clear hst
  go_enter Try.func90, Try.ntmps90
  go_wp2_with fail
  refine (pick_any g K _ _ S0.out.rdr (by omega) (by omega)).mono ?_
  rintro e w1 ⟨m, rfl, -, -, hr1, hg1⟩
  have S1 := Lib.hid (S0.out.grown hg1 hr1)
  have z1 := hg1.size
  have G1 := Lib.hid hg1
  clear hr1 hg1 S0
  cases m0 : (m == 0)
  · go_wp2_with fail
    refine (pick_any g _ _ _ S1.out.rdr (by omega) (by omega)).mono ?_
    rintro e w2 ⟨x, rfl, hx, -, hr2, hg2⟩
    have hx' := hx (by omega)
    have S2 := Lib.hid (S1.out.grown hg2 hr2)
    have G2 := Lib.hid (grown_trans G1.out hg2 (fun j hj => .inl (by injection hj with hj; exact hj.symm)))
    clear hr2 hg2 hx
    go_wp2
    go_ret
    exact ⟨x, rfl, by omega, by omega, S2.out, G2.out⟩
  · go_wp2_with fail
    refine (num_any g _ _ [-1, 60, 61, 9223372036854775807] _ (S1.out.rdr.bel (bel_alloc _ _)) (by omega) (lit_own _ [-1, 60, 61, 9223372036854775807] w1.heap.size 0 rfl (by omega) (by simp) (wf_lit (by simp))).ints (by simp) (lit_ne (by omega))).mono ?_
    rintro e w2 ⟨x, rfl, hx, hr2, hg2⟩
    have hx' : -1 ≤ x ∧ x ≤ 9223372036854775807 := by simp at hx; omega
    have S2 := Lib.hid ((S1.out.bel (bel_alloc _ _)).grown hg2 hr2)
    have G2 := Lib.hid (grown_trans (only_alloc G1.out _) hg2 (fun j hj => .inl (by injection hj with hj; exact hj.symm)))
    clear hr2 hg2 hx
    go_wp2
    go_ret
    exact ⟨x, rfl, by omega, by omega, S2.out, G2.out⟩


end Go.Proofs.Yteemhhgioljmaaa
