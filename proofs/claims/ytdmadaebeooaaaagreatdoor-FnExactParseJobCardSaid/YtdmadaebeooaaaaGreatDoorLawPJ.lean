/-
  The law FnExactParseJob, walked (printed by gen_lawpj.py).
-/
import Derived.Test.YtdmadaebeooaaaaGreatDoorPjM
import Derived.Test.YtdmadaebeooaaaaGreatDoorJobC
import Derived.Test.YtdmadaebeooaaaaGreatDoorJobTab
import Derived.Test.YtdmadaebeooaaaaGreatDoorEngBox
namespace Go.Proofs.YtdmadaebeooaaaaGreatDoor
open Go.RowKit
set_option linter.unusedVariables false
set_option linter.unusedSimpArgs false
set_option maxRecDepth 100000
attribute [local go_sem ↓] Go.wp_at_zero Go.wp_at_succ

theorem spR_len (t : ByteArray) : (spR t).1.poly.length ≤ 8 := by
  unfold spR
  split
  · show (spP _).length ≤ 8
    unfold spP
    split
    · unfold numsTo
      rw [List.length_map, List.length_take]
      omega
    · simp
  · simp [zeroJ]
set_option maxHeartbeats 1000000 in
theorem heldJob_any (v : Value) (j : JobD) (n : Nat) (w : World) (hn : n ≤ 1000) (hv : Ints w v (marks 1 n)) :
    Calls Tryz.prog 15 #[jobV v j, .int .i64 1] w fun e w' => e = .returned (.int .i64 (1 + (n : Int))) ∧ Below w.heap.size w w' := by
  have HV := Lib.hid hv
  obtain ⟨A, c, rfl, -, -, -⟩ := hv.open_
  clear hv
  unfold jobV
  go_enter Tryz.func15, Tryz.ntmps15
  go_wp2_with fail
  refine (heldIntS_any _ n 1 _ (HV.out.bel (bel_alloc w _)) (by omega) (by omega)).mono ?_
  rintro e w2 ⟨rfl, hw⟩
  subst hw
  have hneg : ¬ (1 + (n : Int)) < 0 := by omega
  go_wp2
  go_ret
  exact ⟨rfl, bel_alloc w _⟩
theorem marks_ints {w : World} {base : Nat} {v : Value} {k : Int} {n : Nat} (h : Own w base v (marks k n)) : Ints w v (marks k n) := h.ints

set_option maxHeartbeats 8000000 in
theorem lawParseJob (t : ByteArray) (w : World) (ht : t.size ≤ 9223372036854775807) (hg : Glb w) :
    Calls Tryz.prog 4 #[.string t] w fun e w' => e = .returned (.bool true) ∧ Below w.heap.size w w' := by
  have HG := Lib.hid hg
  clear hg
  go_enter Tryz.func4, Tryz.ntmps4
  by_cases hbig : (1048576 : Int) < (t.size : Int)
  · go_wp2
    go_ret
    exact ⟨rfl, Below.refl _ _⟩
  · have hts : t.size ≤ 1048576 := by omega
    have hn8 := spR_len t
    obtain ⟨J, T, hR⟩ : ∃ J T, spR t = (J, T) := ⟨_, _, rfl⟩
    rw [hR] at hn8
    have he2 : (!T == T) = false := by cases T <;> rfl
    replace hR := Lib.hid hR
    replace hn8 : J.poly.length ≤ 8 := hn8
    go_wp2_with fail
    refine (specPJ_any t _ hts).mono ?_
    rintro e w2 ⟨⟨v1, he, o1, jin⟩, b2⟩
    rw [hR.out] at he o1 jin
    subst he
    obtain ⟨A1, c1, rfl, -, -, -⟩ := o1.ints.open_
    have bA := bel_alloc w2 (.cells (jobC (.slice A1 J.poly.length c1) J).toArray 32)
    have KA := Lib.hid (Blk.new w2 32 (jobC (.slice A1 J.poly.length c1) J))
    have HB := Lib.hid (bel_trans b2 bA)
    have O1 := Lib.hid (o1.bel bA)
    have NA := Lib.hid (show ∀ q, (Value.slice A1 J.poly.length c1).ownBlock = some q → q < w2.heap.size from fun q h => (o1.lt q h).2)
    have HZ := Lib.hid b2.size
    clear b2 bA o1 jin
    unfold jobV
    go_wp2_with fail
    change Calls _ _ _ (w2.alloc (.cells (jobC (.slice A1 J.poly.length c1) J).toArray 32)) _
    have hsz3 : (w2.alloc (.cells (jobC (.slice A1 J.poly.length c1) J).toArray 32)).heap.size = w2.heap.size + 1 := by simp
    generalize hW : w2.alloc (.cells (jobC (.slice A1 J.poly.length c1) J).toArray 32) = w3 at KA HB O1 hsz3 ⊢
    clear hW
    refine (implPJ_any t _ hts (HG.out.bel HB.out)).mono ?_
    rintro e w4 ⟨⟨v2, he, o2, jin⟩, b4⟩
    rw [hR.out] at he o2 jin
    subst he
    obtain ⟨A2, c2, rfl, -, -, -⟩ := o2.ints.open_
    have bA : Below w4.heap.size w4 (w4.alloc (.cells #[.slice A2 J.poly.length c2, .int .i64 J.fr, .int .i64 J.ct, .int .i64 J.wd, .int .i64 J.dg, .int .i64 J.wy, .int .i64 J.rw, .int .i64 J.ac, .int .i64 J.wi] 32)) := bel_alloc w4 _
    have bb := bel_trans b4 bA
    have KB := Lib.hid (show Blk (w4.alloc (.cells #[.slice A2 J.poly.length c2, .int .i64 J.fr, .int .i64 J.ct, .int .i64 J.wd, .int .i64 J.dg, .int .i64 J.wy, .int .i64 J.rw, .int .i64 J.ac, .int .i64 J.wi] 32)) w4.heap.size 32 (jobC (.slice A2 J.poly.length c2) J) from Blk.new w4 32 (jobC (.slice A2 J.poly.length c2) J))
    have NB := Lib.hid (show ∀ q, (Value.slice A2 J.poly.length c2).ownBlock = some q → w3.heap.size ≤ q ∧ q < w4.heap.size from fun q h => o2.lt q h)
    have HZ4 := Lib.hid (show w3.heap.size ≤ w4.heap.size from b4.size)
    replace HB := Lib.hid (bel_trans HB.out bb)
    replace KA := Lib.hid (KA.out.below bb KA.out.lt)
    replace O1 := Lib.hid (O1.out.bel bb)
    have O2 := Lib.hid (o2.bel bA)
    clear b4 bA bb o2 jin
    obtain ⟨a0, a1, a2, a3, a4, a5, a6, a7, a8⟩ := KA.out.job
    obtain ⟨b0, b1, b2, b3, b4, b5, b6, b7, b8⟩ := KB.out.job
    unfold jobV
    go_wp2_with fail
    clear a0 a1 a2 a3 a4 a5 a6 a7 a8 b0 b1 b2 b3 b4 b5 b6 b7 b8
    generalize hW : (w4.alloc (.cells #[.slice A2 J.poly.length c2, .int .i64 J.fr, .int .i64 J.ct, .int .i64 J.wd, .int .i64 J.dg, .int .i64 J.wy, .int .i64 J.rw, .int .i64 J.ac, .int .i64 J.wi] 32)) = w5 at KA KB HB O1 O2 ⊢
    clear hW
    change Calls _ _ #[(jobV (.slice A2 J.poly.length c2) J), (jobV (.slice A1 J.poly.length c1) J)] w5 _
    refine (eqJob_any _ _ J _ O2.out.ints O1.out.ints).mono ?_
    rintro e w6 ⟨rfl, b⟩
    replace HB := Lib.hid (bel_trans HB.out b)
    replace KA := Lib.hid (KA.out.below b KA.out.lt)
    replace KB := Lib.hid (KB.out.below b KB.out.lt)
    replace O1 := Lib.hid (O1.out.bel b)
    replace O2 := Lib.hid (O2.out.bel b)
    clear b
    obtain ⟨a0, a1, a2, a3, a4, a5, a6, a7, a8⟩ := KA.out.job
    obtain ⟨b0, b1, b2, b3, b4, b5, b6, b7, b8⟩ := KB.out.job
    go_wp2_with fail
    clear a0 a1 a2 a3 a4 a5 a6 a7 a8 b0 b1 b2 b3 b4 b5 b6 b7 b8
    change Calls _ _ #[(jobV (.slice A2 J.poly.length c2) J), .int .i64 1] w6 _
    refine (markJob_any _ J 1 _ _ O2.out (by omega) (by omega)).mono ?_
    rintro e w7 ⟨rfl, g, o2⟩
    replace HB := Lib.hid (mark_bel HB.out g (fun q hq => by have h1 := (NB.out q hq).1; have h2 := HZ.out; omega))
    replace KA := Lib.hid (KA.out.grown g (fun e => by have h1 := (NB.out _ e.symm).1; omega))
    replace KB := Lib.hid (KB.out.grown g (fun e => by have h1 := (NB.out _ e.symm).2; omega))
    replace O1 := Lib.hid (O1.out.apart g (fun q hq e => by have h1 := NA.out q hq; have h2 := (NB.out q e).1; omega))
    replace O2 := Lib.hid o2
    clear g o2
    obtain ⟨a0, a1, a2, a3, a4, a5, a6, a7, a8⟩ := KA.out.job
    obtain ⟨b0, b1, b2, b3, b4, b5, b6, b7, b8⟩ := KB.out.job
    go_wp2_with fail
    clear a0 a1 a2 a3 a4 a5 a6 a7 a8 b0 b1 b2 b3 b4 b5 b6 b7 b8
    change Calls _ _ #[(jobV (.slice A2 J.poly.length c2) J), .int .i64 1] w7 _
    refine (heldJob_any _ J J.poly.length _ (by omega) O2.out.ints).mono ?_
    rintro e w7' ⟨rfl, b⟩
    replace HB := Lib.hid (bel_trans HB.out b)
    replace KA := Lib.hid (KA.out.below b KA.out.lt)
    replace KB := Lib.hid (KB.out.below b KB.out.lt)
    replace O1 := Lib.hid (O1.out.bel b)
    replace O2 := Lib.hid (O2.out.bel b)
    clear b
    have hneg : ¬ (1 + (J.poly.length : Int)) < 0 := by omega
    go_wp2_with fail
    refine (implPJ_any t _ hts (HG.out.bel HB.out)).mono ?_
    rintro e w8 ⟨⟨v3, he, o3, jin⟩, b4⟩
    rw [hR.out] at he o3 jin
    subst he
    obtain ⟨A3, c3, rfl, -, -, -⟩ := o3.ints.open_
    have bA : Below w8.heap.size w8 (w8.alloc (.cells #[.slice A3 J.poly.length c3, .int .i64 J.fr, .int .i64 J.ct, .int .i64 J.wd, .int .i64 J.dg, .int .i64 J.wy, .int .i64 J.rw, .int .i64 J.ac, .int .i64 J.wi] 32)) := bel_alloc w8 _
    have bb := bel_trans b4 bA
    have KC := Lib.hid (show Blk (w8.alloc (.cells #[.slice A3 J.poly.length c3, .int .i64 J.fr, .int .i64 J.ct, .int .i64 J.wd, .int .i64 J.dg, .int .i64 J.wy, .int .i64 J.rw, .int .i64 J.ac, .int .i64 J.wi] 32)) w8.heap.size 32 (jobC (.slice A3 J.poly.length c3) J) from Blk.new w8 32 (jobC (.slice A3 J.poly.length c3) J))
    replace HB := Lib.hid (bel_trans HB.out bb)
    replace KA := Lib.hid (KA.out.below bb KA.out.lt)
    replace KB := Lib.hid (KB.out.below bb KB.out.lt)
    replace O1 := Lib.hid (O1.out.bel bb)
    replace O2 := Lib.hid (O2.out.bel bb)
    have O3 := Lib.hid (o3.bel bA)
    clear b4 bA bb o3 jin
    obtain ⟨a0, a1, a2, a3, a4, a5, a6, a7, a8⟩ := KA.out.job
    obtain ⟨b0, b1, b2, b3, b4, b5, b6, b7, b8⟩ := KB.out.job
    obtain ⟨d0, d1, d2, d3, d4, d5, d6, d7, d8⟩ := KC.out.job
    unfold jobV
    go_wp2_with fail
    clear a0 a1 a2 a3 a4 a5 a6 a7 a8 b0 b1 b2 b3 b4 b5 b6 b7 b8 d0 d1 d2 d3 d4 d5 d6 d7 d8
    generalize hW : (w8.alloc (.cells #[.slice A3 J.poly.length c3, .int .i64 J.fr, .int .i64 J.ct, .int .i64 J.wd, .int .i64 J.dg, .int .i64 J.wy, .int .i64 J.rw, .int .i64 J.ac, .int .i64 J.wi] 32)) = w9 at KA KB KC HB O1 O2 O3 ⊢
    clear hW
    change Calls _ _ #[(jobV (.slice A3 J.poly.length c3) J), (jobV (.slice A1 J.poly.length c1) J)] w9 _
    refine (eqJob_any _ _ J _ O3.out.ints O1.out.ints).mono ?_
    rintro e w10 ⟨rfl, b⟩
    replace HB := Lib.hid (bel_trans HB.out b)
    replace KB := Lib.hid (KB.out.below b KB.out.lt)
    replace O2 := Lib.hid (O2.out.bel b)
    clear b
    obtain ⟨b0, b1, b2, b3, b4, b5, b6, b7, b8⟩ := KB.out.job
    go_wp2_with fail
    clear b0 b1 b2 b3 b4 b5 b6 b7 b8
    change Calls _ _ #[(jobV (.slice A2 J.poly.length c2) J), .int .i64 1] w10 _
    refine (heldJob_any _ J J.poly.length _ (by omega) O2.out.ints).mono ?_
    rintro e w11 ⟨rfl, b⟩
    replace HB := Lib.hid (bel_trans HB.out b)
    clear b
    go_wp2
    go_ret
    exact ⟨rfl, HB.out⟩
end Go.Proofs.YtdmadaebeooaaaaGreatDoor
