/-
  Contracts of JoinEngines and what they call (made by gen_join.py).
-/
import Derived.Test.YteemhhgioljmaaaCols
import Derived.Test.YteemhhgioljmaaaEngLaw
import Derived.Lib.AppendZeros
import Derived.Deep.RegionLaw
import Derived.Deep.RegionWith
import Derived.Deep.DrawnRows
import Derived.Deep.RegionHeld3
namespace Go.Proofs.Yteemhhgioljmaaa
open Go.RowKit
set_option linter.unusedVariables false
set_option maxRecDepth 100000
set_option linter.unusedSimpArgs false
attribute [local go_sem ↓] Go.wp_at_zero Go.wp_at_succ

theorem joinOk_a {a b : List ByteArray} (h : engOk a = false) : joinOk a b = false := by simp [joinOk, h]
theorem joinOk_b {a b : List ByteArray} (h : engOk b = false) : joinOk a b = false := by simp [joinOk, h]
theorem joinOk_s {a b : List ByteArray} (h : ¬ (sat a 0).size = (sat b 0).size) : joinOk a b = false := by simp [joinOk, h]
theorem joinOk_l {a b : List ByteArray} (h : ¬ a.length + b.length ≤ 7) : joinOk a b = false := by simp [joinOk, h]

/-- 'append(x, y...)' as a step of a region that draws: x is the call's own. -/
theorem step_app_own {ops : Array Oper} {o : Oper} {a : Act} {K : Act → World → Prop} {Q : Exit → Act → World → Prop} {E : Prop} {w : World} (hgd : o.guard = none) (s x : Operand)
    (ho : o.op = .call { callee := .builtin .append, args := #[s, x], argTypes := #[27, 27] })
    (base : Nat) (v : Value) (l : List ByteArray) (hs : a.eval s = v) (hown : OwnS w base v l) (hbase : base ≤ w.heap.size) (u : Value) (m : List ByteArray) (hx : a.eval x = u) (hm : Strs w u m) (h1 : 1 ≤ m.length) (hl : l.length + m.length ≤ 1048576)
    (h : ∀ A c w', OwnS w' base (.slice A (l ++ m).length c) (l ++ m) → w.grownBy w' v.ownBlock → K (a.put o.dst (.slice A (l ++ m).length c)) w') :
    if Region.wanted o (yielded ops a.tmps) = true then Oper.wp Try.prog o a w K Q else E := by
  have hw : Region.wanted o (yielded ops a.tmps) = true := by simp [Region.wanted, hgd]
  rw [if_pos hw]
  obtain ⟨i0, hi, hz0, hz1, hz2⟩ := info_parts Try.infoStr
  have hwf := hm.2
  obtain ⟨A, c, rfl, hlc, hc, hrd⟩ := hm.open_
  obtain ⟨b, f, rfl, hb, hcell⟩ := hrd.strs (by omega)
  obtain ⟨v', w', hr, h2, h3, h4, h5⟩ := run_append_own_at (P := Try.prog) w base 27 o.type 9 i0 _ 1 16 Try.underlying27 hi hz0 hz1 hz2 rfl (by omega) v l.length (sv l) hown.1 ⟨b, f, none⟩ m.length c (sv m) (by rw [sv_length]; omega) (by
    intro j u hj
    have hlt : j < m.length := by
      have := (List.getElem?_eq_some_iff.1 hj).1
      rw [sv_length] at this; exact this
    rw [sv_get m j hlt] at hj
    injection hj with hj
    subst hj
    rw [Addr.add_lit]
    exact hcell j hlt) (by
    intro u hu
    simp [sv] at hu
    obtain ⟨n, _, rfl⟩ := hu
    rfl) (by unfold maxLen; omega) (by omega) hbase
  have h2' : OwnS w' base v' (l ++ m) := by
    refine ⟨?_, ?_, by unfold maxLen; rw [List.length_append]; omega⟩
    · rw [sv_append, List.length_append]; exact h2
    · intro x hx
      rcases List.mem_append.1 hx with q | q
      · exact hown.2.1 x q
      · exact hwf x q
  obtain ⟨A', c', rfl, k1, k2, _⟩ := h2'.strs.open_
  unfold Oper.wp execOp
  simp only [ho, resolve, invoke, builtin, Sem.run_bind, Sem.run_pure, Result.andThen_ok, List.map_toArray, List.map_cons, List.map_nil, hs, hx, hr]
  exact h A' c' w' h2' h3

set_option maxHeartbeats 4000000 in
theorem canCouple_any (u v : Value) (a b : List ByteArray) (w : World) (hu : Strs w u a) (hv : Strs w v b) :
    Calls Try.prog 135 #[.agg #[u], .agg #[v]] w fun e w' => e = .returned (.bool (joinOk a b)) ∧ Below w.heap.size w w' := by
  have HU := Lib.hid hu
  have HV := Lib.hid hv
  obtain ⟨A, c, rfl, hlc, hc, hrd⟩ := hu.open_
  obtain ⟨B, d, rfl, hld, hd, hrd2⟩ := hv.open_
  have HR := Lib.hid (And.intro hrd hrd2)
  clear hu hv hrd hrd2
  have B0 := Lib.hid (show Below w.heap.size w ((w.alloc (.cells #[.slice A a.length c] 29)).alloc (.cells #[.slice B b.length d] 29)) from (bel_alloc w _).alloc (by simp) _)
  have K0 := (Blk.new' w 29 (.slice A a.length c) w.heap.size rfl).alloc (.cells #[.slice B b.length d] 29)
  have K1 := Blk.new' (w.alloc (.cells #[.slice A a.length c] 29)) 29 (.slice B b.length d) (w.heap.size + 1) (by simp)
  replace HU := Lib.hid (HU.out.bel B0.out)
  replace HV := Lib.hid (HV.out.bel B0.out)
  have tok1 : True := trivial
  have tok2 : True := trivial
  cases ha : engOk a
  · have HN := Lib.hid (joinOk_a (b := b) ha)
    go_enter Try.func135, Try.ntmps135
    go_wp2_with fail
    generalize hW : (w.alloc (.cells #[.slice A a.length c] 29)).alloc (.cells #[.slice B b.length d] 29) = W at *
    obtain ⟨c0, -⟩ := K0.one; obtain ⟨c1, -⟩ := K1.one
    refine wp_region_any (by kernel_rfl) ?_
    try (change wpAny _ _ _ _ _ _ _ (World.drew _))
    refine wpAny_ready (rs := [0]) (by kernel_rfl) (by simp) ?_
    refine AllReady.cons rfl (fun K hK => ?_) AllReady.nil
    go_simp
    refine hK _ _ ?_
    clear hK K
    refine wpAny_ready (rs := [1]) (by kernel_rfl) (by simp) ?_
    refine AllReady.cons rfl (fun K hK => ?_) AllReady.nil
    (go_simp; go_at_call 67; have _t := tok1; refine (implEng_any _ a _ (by first | exact HU.out | exact HU.out.bel ((Below.refl _ _).drew))).mono ?_; rw [ha]; rintro e w2 ⟨rfl, b1⟩; replace b1 : Below W.heap.size W w2 := (by first | exact b1 | exact bel_trans ((Below.refl _ _).drew) b1); have K0 := K0.below b1 K0.lt; have K1 := K1.below b1 K1.lt; obtain ⟨c0, -⟩ := K0.one; obtain ⟨c1, -⟩ := K1.one; replace HV := Lib.hid (HV.out.bel b1); clear tok1)
    refine hK _ _ ?_
    clear hK K
    refine wpAny_ready (rs := [2]) (by kernel_rfl) (by simp) ?_
    refine AllReady.cons rfl (fun K hK => ?_) AllReady.nil
    go_simp
    refine hK _ _ ?_
    clear hK K
    refine wpAny_ready (rs := [3]) (by kernel_rfl) (by simp) ?_
    refine AllReady.cons rfl (fun K hK => ?_) AllReady.nil
    go_simp
    refine hK _ _ ?_
    clear hK K
    refine wpAny_take (i := 4) (v := undef) rfl (by kernel_rfl) (by kernel_rfl) (by kernel_rfl) (fun _ _ _ h => h) (Or.inr ⟨by kernel_rfl, rfl⟩) ?_
    try simp only [Act.put, List.setIfInBounds_toArray, List.set_cons_zero, List.set_cons_succ]
    refine wpAny_take (i := 5) (v := undef) rfl (by kernel_rfl) (by kernel_rfl) (by kernel_rfl) (fun _ _ _ h => h) (Or.inr ⟨by kernel_rfl, rfl⟩) ?_
    try simp only [Act.put, List.setIfInBounds_toArray, List.set_cons_zero, List.set_cons_succ]
    refine wpAny_take (i := 6) (v := undef) rfl (by kernel_rfl) (by kernel_rfl) (by kernel_rfl) (fun _ _ _ h => h) (Or.inr ⟨by kernel_rfl, rfl⟩) ?_
    try simp only [Act.put, List.setIfInBounds_toArray, List.set_cons_zero, List.set_cons_succ]
    refine wpAny_ready (rs := [7]) (by kernel_rfl) (by simp) ?_
    refine AllReady.cons rfl (fun K hK => ?_) AllReady.nil
    go_simp
    refine hK _ _ ?_
    clear hK K
    refine wpAny_ready (rs := [8]) (by kernel_rfl) (by simp) ?_
    refine AllReady.cons rfl (fun K hK => ?_) AllReady.nil
    go_simp
    refine hK _ _ ?_
    clear hK K
    refine wpAny_take (i := 9) (v := undef) rfl (by kernel_rfl) (by kernel_rfl) (by kernel_rfl) (fun _ _ _ h => h) (Or.inr ⟨by kernel_rfl, rfl⟩) ?_
    try simp only [Act.put, List.setIfInBounds_toArray, List.set_cons_zero, List.set_cons_succ]
    refine wpAny_take (i := 10) (v := undef) rfl (by kernel_rfl) (by kernel_rfl) (by kernel_rfl) (fun _ _ _ h => h) (Or.inr ⟨by kernel_rfl, rfl⟩) ?_
    try simp only [Act.put, List.setIfInBounds_toArray, List.set_cons_zero, List.set_cons_succ]
    refine wpAny_take (i := 11) (v := undef) rfl (by kernel_rfl) (by kernel_rfl) (by kernel_rfl) (fun _ _ _ h => h) (Or.inr ⟨by kernel_rfl, rfl⟩) ?_
    try simp only [Act.put, List.setIfInBounds_toArray, List.set_cons_zero, List.set_cons_succ]
    refine wpAny_take (i := 12) (v := undef) rfl (by kernel_rfl) (by kernel_rfl) (by kernel_rfl) (fun _ _ _ h => h) (Or.inr ⟨by kernel_rfl, rfl⟩) ?_
    try simp only [Act.put, List.setIfInBounds_toArray, List.set_cons_zero, List.set_cons_succ]
    refine wpAny_take (i := 13) (v := undef) rfl (by kernel_rfl) (by kernel_rfl) (by kernel_rfl) (fun _ _ _ h => h) (Or.inr ⟨by kernel_rfl, rfl⟩) ?_
    try simp only [Act.put, List.setIfInBounds_toArray, List.set_cons_zero, List.set_cons_succ]
    refine wpAny_take (i := 14) (v := undef) rfl (by kernel_rfl) (by kernel_rfl) (by kernel_rfl) (fun _ _ _ h => h) (Or.inr ⟨by kernel_rfl, rfl⟩) ?_
    try simp only [Act.put, List.setIfInBounds_toArray, List.set_cons_zero, List.set_cons_succ]
    refine wpAny_take (i := 15) (v := undef) rfl (by kernel_rfl) (by kernel_rfl) (by kernel_rfl) (fun _ _ _ h => h) (Or.inr ⟨by kernel_rfl, rfl⟩) ?_
    try simp only [Act.put, List.setIfInBounds_toArray, List.set_cons_zero, List.set_cons_succ]
    refine wpAny_take (i := 16) (v := undef) rfl (by kernel_rfl) (by kernel_rfl) (by kernel_rfl) (fun _ _ _ h => h) (Or.inr ⟨by kernel_rfl, rfl⟩) ?_
    try simp only [Act.put, List.setIfInBounds_toArray, List.set_cons_zero, List.set_cons_succ]
    refine wpAny_take (i := 17) (v := undef) rfl (by kernel_rfl) (by kernel_rfl) (by kernel_rfl) (fun _ _ _ h => h) (Or.inr ⟨by kernel_rfl, rfl⟩) ?_
    try simp only [Act.put, List.setIfInBounds_toArray, List.set_cons_zero, List.set_cons_succ]
    refine wpAny_take (i := 18) (v := undef) rfl (by kernel_rfl) (by kernel_rfl) (by kernel_rfl) (fun _ _ _ h => h) (Or.inr ⟨by kernel_rfl, rfl⟩) ?_
    try simp only [Act.put, List.setIfInBounds_toArray, List.set_cons_zero, List.set_cons_succ]
    refine wpAny_take (i := 19) (v := undef) rfl (by kernel_rfl) (by kernel_rfl) (by kernel_rfl) (fun _ _ _ h => h) (Or.inr ⟨by kernel_rfl, rfl⟩) ?_
    try simp only [Act.put, List.setIfInBounds_toArray, List.set_cons_zero, List.set_cons_succ]
    refine wpAny_ready (rs := [20]) (by kernel_rfl) (by simp) ?_
    refine AllReady.cons rfl (fun K hK => ?_) AllReady.nil
    go_simp
    refine hK _ _ ?_
    clear hK K
    refine wpAny_done (by kernel_rfl) ?_ _
    all_goals
      have HB := Lib.hid (bel_trans B0.out b1)
      clear b1
      go_wp2
      go_ret
      exact ⟨ret_bool HN.out.symm, by first | exact HB.out | exact HB.out.drew⟩
  · cases hb : engOk b
    · have HN := Lib.hid (joinOk_b (a := a) hb)
      go_enter Try.func135, Try.ntmps135
      go_wp2_with fail
      generalize hW : (w.alloc (.cells #[.slice A a.length c] 29)).alloc (.cells #[.slice B b.length d] 29) = W at *
      obtain ⟨c0, -⟩ := K0.one; obtain ⟨c1, -⟩ := K1.one
      refine wp_region_any (by kernel_rfl) ?_
      try (change wpAny _ _ _ _ _ _ _ (World.drew _))
      refine wpAny_ready (rs := [0]) (by kernel_rfl) (by simp) ?_
      refine AllReady.cons rfl (fun K hK => ?_) AllReady.nil
      go_simp
      refine hK _ _ ?_
      clear hK K
      refine wpAny_ready (rs := [1]) (by kernel_rfl) (by simp) ?_
      refine AllReady.cons rfl (fun K hK => ?_) AllReady.nil
      (go_simp; go_at_call 67; have _t := tok1; refine (implEng_any _ a _ (by first | exact HU.out | exact HU.out.bel ((Below.refl _ _).drew))).mono ?_; rw [ha]; rintro e w2 ⟨rfl, b1⟩; replace b1 : Below W.heap.size W w2 := (by first | exact b1 | exact bel_trans ((Below.refl _ _).drew) b1); have K0 := K0.below b1 K0.lt; have K1 := K1.below b1 K1.lt; obtain ⟨c0, -⟩ := K0.one; obtain ⟨c1, -⟩ := K1.one; replace HV := Lib.hid (HV.out.bel b1); clear tok1)
      refine hK _ _ ?_
      clear hK K
      refine wpAny_ready (rs := [2]) (by kernel_rfl) (by simp) ?_
      refine AllReady.cons rfl (fun K hK => ?_) AllReady.nil
      go_simp
      refine hK _ _ ?_
      clear hK K
      refine wpAny_ready (rs := [3]) (by kernel_rfl) (by simp) ?_
      refine AllReady.cons rfl (fun K hK => ?_) AllReady.nil
      go_simp
      refine hK _ _ ?_
      clear hK K
      refine wpAny_ready (rs := [4]) (by kernel_rfl) (by simp) ?_
      refine AllReady.cons rfl (fun K hK => ?_) AllReady.nil
      go_simp
      refine hK _ _ ?_
      clear hK K
      refine wpAny_ready (rs := [5]) (by kernel_rfl) (by simp) ?_
      refine AllReady.cons rfl (fun K hK => ?_) AllReady.nil
      (go_simp; go_at_call 67; have _t := tok2; refine (implEng_any _ b _ (by first | exact HV.out | exact HV.out.bel ((Below.refl _ _).drew))).mono ?_; rw [hb]; rintro e w3 ⟨rfl, b2⟩; replace b2 : Below w2.heap.size w2 w3 := (by first | exact b2 | exact bel_trans ((Below.refl _ _).drew) b2); have K0 := K0.below b2 K0.lt; have K1 := K1.below b2 K1.lt; obtain ⟨c0, -⟩ := K0.one; obtain ⟨c1, -⟩ := K1.one; clear tok2)
      refine hK _ _ ?_
      clear hK K
      refine wpAny_ready (rs := [6]) (by kernel_rfl) (by simp) ?_
      refine AllReady.cons rfl (fun K hK => ?_) AllReady.nil
      go_simp
      refine hK _ _ ?_
      clear hK K
      refine wpAny_ready (rs := [7]) (by kernel_rfl) (by simp) ?_
      refine AllReady.cons rfl (fun K hK => ?_) AllReady.nil
      go_simp
      refine hK _ _ ?_
      clear hK K
      refine wpAny_ready (rs := [8]) (by kernel_rfl) (by simp) ?_
      refine AllReady.cons rfl (fun K hK => ?_) AllReady.nil
      go_simp
      refine hK _ _ ?_
      clear hK K
      refine wpAny_take (i := 9) (v := undef) rfl (by kernel_rfl) (by kernel_rfl) (by kernel_rfl) (fun _ _ _ h => h) (Or.inr ⟨by kernel_rfl, rfl⟩) ?_
      try simp only [Act.put, List.setIfInBounds_toArray, List.set_cons_zero, List.set_cons_succ]
      refine wpAny_take (i := 10) (v := undef) rfl (by kernel_rfl) (by kernel_rfl) (by kernel_rfl) (fun _ _ _ h => h) (Or.inr ⟨by kernel_rfl, rfl⟩) ?_
      try simp only [Act.put, List.setIfInBounds_toArray, List.set_cons_zero, List.set_cons_succ]
      refine wpAny_take (i := 11) (v := undef) rfl (by kernel_rfl) (by kernel_rfl) (by kernel_rfl) (fun _ _ _ h => h) (Or.inr ⟨by kernel_rfl, rfl⟩) ?_
      try simp only [Act.put, List.setIfInBounds_toArray, List.set_cons_zero, List.set_cons_succ]
      refine wpAny_take (i := 12) (v := undef) rfl (by kernel_rfl) (by kernel_rfl) (by kernel_rfl) (fun _ _ _ h => h) (Or.inr ⟨by kernel_rfl, rfl⟩) ?_
      try simp only [Act.put, List.setIfInBounds_toArray, List.set_cons_zero, List.set_cons_succ]
      refine wpAny_take (i := 13) (v := undef) rfl (by kernel_rfl) (by kernel_rfl) (by kernel_rfl) (fun _ _ _ h => h) (Or.inr ⟨by kernel_rfl, rfl⟩) ?_
      try simp only [Act.put, List.setIfInBounds_toArray, List.set_cons_zero, List.set_cons_succ]
      refine wpAny_take (i := 14) (v := undef) rfl (by kernel_rfl) (by kernel_rfl) (by kernel_rfl) (fun _ _ _ h => h) (Or.inr ⟨by kernel_rfl, rfl⟩) ?_
      try simp only [Act.put, List.setIfInBounds_toArray, List.set_cons_zero, List.set_cons_succ]
      refine wpAny_take (i := 15) (v := undef) rfl (by kernel_rfl) (by kernel_rfl) (by kernel_rfl) (fun _ _ _ h => h) (Or.inr ⟨by kernel_rfl, rfl⟩) ?_
      try simp only [Act.put, List.setIfInBounds_toArray, List.set_cons_zero, List.set_cons_succ]
      refine wpAny_take (i := 16) (v := undef) rfl (by kernel_rfl) (by kernel_rfl) (by kernel_rfl) (fun _ _ _ h => h) (Or.inr ⟨by kernel_rfl, rfl⟩) ?_
      try simp only [Act.put, List.setIfInBounds_toArray, List.set_cons_zero, List.set_cons_succ]
      refine wpAny_take (i := 17) (v := undef) rfl (by kernel_rfl) (by kernel_rfl) (by kernel_rfl) (fun _ _ _ h => h) (Or.inr ⟨by kernel_rfl, rfl⟩) ?_
      try simp only [Act.put, List.setIfInBounds_toArray, List.set_cons_zero, List.set_cons_succ]
      refine wpAny_take (i := 18) (v := undef) rfl (by kernel_rfl) (by kernel_rfl) (by kernel_rfl) (fun _ _ _ h => h) (Or.inr ⟨by kernel_rfl, rfl⟩) ?_
      try simp only [Act.put, List.setIfInBounds_toArray, List.set_cons_zero, List.set_cons_succ]
      refine wpAny_take (i := 19) (v := undef) rfl (by kernel_rfl) (by kernel_rfl) (by kernel_rfl) (fun _ _ _ h => h) (Or.inr ⟨by kernel_rfl, rfl⟩) ?_
      try simp only [Act.put, List.setIfInBounds_toArray, List.set_cons_zero, List.set_cons_succ]
      refine wpAny_ready (rs := [20]) (by kernel_rfl) (by simp) ?_
      refine AllReady.cons rfl (fun K hK => ?_) AllReady.nil
      go_simp
      refine hK _ _ ?_
      clear hK K
      refine wpAny_done (by kernel_rfl) ?_ _
      all_goals
        have HB := Lib.hid (bel_trans B0.out (bel_trans b1 b2))
        clear b1 b2
        go_wp2
        go_ret
        exact ⟨ret_bool HN.out.symm, by first | exact HB.out | exact HB.out.drew⟩
    · obtain ⟨a1, a7, -⟩ := engOk_iff.1 ha
      obtain ⟨e1, e7, -⟩ := engOk_iff.1 hb
      obtain ⟨ba, oa, rfl, hba, hca⟩ := HR.out.1.strs (by omega)
      obtain ⟨bb, ob, rfl, hbb, hcb⟩ := HR.out.2.strs (by omega)
      have ca0 := hca 0 (by omega)
      have cb0 := hcb 0 (by omega)
      rw [Nat.add_zero] at ca0 cb0
      clear hca hcb
      replace ca0 := (B0.out.cell (by exact hba)).trans ca0
      replace cb0 := (B0.out.cell (by exact hbb)).trans cb0
      have hba2 := hba
      have hbb2 := hbb
      have sa := HU.out.2.at _ 0
      have sb := HV.out.2.at _ 0
      have HBZ := Lib.hid B0.out.size
      have hwr : IntKind.i64.wrap ((a.length : Int) + (b.length : Int)) = (a.length : Int) + (b.length : Int) := by rw [IntWalk.i64_in] <;> omega
      have na : ¬ a = [] := by intro e; rw [e] at a1; simp at a1
      have nb : ¬ b = [] := by intro e; rw [e] at e1; simp at e1
      have pa2 : 0 < a.length := by omega
      have pb2 : 0 < b.length := by omega
      have pa : (0 : Int) < (a.length : Int) := by omega
      have pb : (0 : Int) < (b.length : Int) := by omega
      clear hba hbb
      by_cases hs : (sat a 0).size = (sat b 0).size
      · by_cases hl : a.length + b.length ≤ 7
        · have HN := Lib.hid (joinOk_true.2 ⟨ha, hb, hs, hl⟩)
          have t1 : (((sat a 0).size : Int) != ((sat b 0).size : Int)) = false := by simp [hs]
          have t2 : (((sat a 0).size : Int) == ((sat b 0).size : Int)) = true := by simp [hs]
          have t3 : ((a.length : Int) + (b.length : Int)) ≤ 7 := by omega
          have HS := Lib.hid hs
          clear hs
          go_enter Try.func135, Try.ntmps135
          go_wp2_with fail
          generalize hW : (w.alloc (.cells #[.slice (some ⟨ba, oa, none⟩) a.length c] 29)).alloc (.cells #[.slice (some ⟨bb, ob, none⟩) b.length d] 29) = W at *
          obtain ⟨c0, -⟩ := K0.one; obtain ⟨c1, -⟩ := K1.one
          go_region_held3 (fun w' => w'.cell? ⟨w.heap.size, 0, none⟩ = some (.slice (some ⟨ba, oa, none⟩) a.length c) ∧ w'.cell? ⟨w.heap.size + 1, 0, none⟩ = some (.slice (some ⟨bb, ob, none⟩) b.length d) ∧ w'.cell? ⟨ba, oa, none⟩ = some (.string (sat a 0)) ∧ w'.cell? ⟨bb, ob, none⟩ = some (.string (sat b 0))) (go_keep) (first | (go_simp; go_at_call 67; have _t := tok1; refine (implEng_any _ a _ (by first | exact HU.out | exact HU.out.bel ((Below.refl _ _).drew))).mono ?_; rw [ha]; rintro e w2 ⟨rfl, b1⟩; replace b1 : Below W.heap.size W w2 := (by first | exact b1 | exact bel_trans ((Below.refl _ _).drew) b1); have K0 := K0.below b1 K0.lt; have K1 := K1.below b1 K1.lt; obtain ⟨c0, -⟩ := K0.one; obtain ⟨c1, -⟩ := K1.one; replace HV := Lib.hid (HV.out.bel b1); replace ca0 := (b1.cell (by show ba < W.heap.size; have := HBZ.out; omega)).trans ca0; replace cb0 := (b1.cell (by show bb < W.heap.size; have := HBZ.out; omega)).trans cb0; clear tok1) | (go_simp; go_at_call 67; have _t := tok2; refine (implEng_any _ b _ (by first | exact HV.out | exact HV.out.bel ((Below.refl _ _).drew))).mono ?_; rw [hb]; rintro e w3 ⟨rfl, b2⟩; replace b2 : Below w2.heap.size w2 w3 := (by first | exact b2 | exact bel_trans ((Below.refl _ _).drew) b2); have K0 := K0.below b2 K0.lt; have K1 := K1.below b2 K1.lt; obtain ⟨c0, -⟩ := K0.one; obtain ⟨c1, -⟩ := K1.one; have hz1 := b1.size; replace ca0 := (b2.cell (by show ba < w2.heap.size; have := HBZ.out; omega)).trans ca0; replace cb0 := (b2.cell (by show bb < w2.heap.size; have := HBZ.out; omega)).trans cb0; clear hz1; clear tok2))
          all_goals
            have HB := Lib.hid (bel_trans B0.out (bel_trans b1 b2))
            clear b1 b2
            go_wp2
            go_ret
            exact ⟨ret_bool (by first | exact HN.out.symm | (rw [HN.out]; simp; omega)), by first | exact HB.out | exact HB.out.drew⟩
        · have HN := Lib.hid (joinOk_l hl)
          have t1 : (((sat a 0).size : Int) != ((sat b 0).size : Int)) = false := by simp [hs]
          have t2 : (((sat a 0).size : Int) == ((sat b 0).size : Int)) = true := by simp [hs]
          have t3 : ¬ ((a.length : Int) + (b.length : Int)) ≤ 7 := by omega
          have HS := Lib.hid hs
          clear hs
          go_enter Try.func135, Try.ntmps135
          go_wp2_with fail
          generalize hW : (w.alloc (.cells #[.slice (some ⟨ba, oa, none⟩) a.length c] 29)).alloc (.cells #[.slice (some ⟨bb, ob, none⟩) b.length d] 29) = W at *
          obtain ⟨c0, -⟩ := K0.one; obtain ⟨c1, -⟩ := K1.one
          go_region_held3 (fun w' => w'.cell? ⟨w.heap.size, 0, none⟩ = some (.slice (some ⟨ba, oa, none⟩) a.length c) ∧ w'.cell? ⟨w.heap.size + 1, 0, none⟩ = some (.slice (some ⟨bb, ob, none⟩) b.length d) ∧ w'.cell? ⟨ba, oa, none⟩ = some (.string (sat a 0)) ∧ w'.cell? ⟨bb, ob, none⟩ = some (.string (sat b 0))) (go_keep) (first | (go_simp; go_at_call 67; have _t := tok1; refine (implEng_any _ a _ (by first | exact HU.out | exact HU.out.bel ((Below.refl _ _).drew))).mono ?_; rw [ha]; rintro e w2 ⟨rfl, b1⟩; replace b1 : Below W.heap.size W w2 := (by first | exact b1 | exact bel_trans ((Below.refl _ _).drew) b1); have K0 := K0.below b1 K0.lt; have K1 := K1.below b1 K1.lt; obtain ⟨c0, -⟩ := K0.one; obtain ⟨c1, -⟩ := K1.one; replace HV := Lib.hid (HV.out.bel b1); replace ca0 := (b1.cell (by show ba < W.heap.size; have := HBZ.out; omega)).trans ca0; replace cb0 := (b1.cell (by show bb < W.heap.size; have := HBZ.out; omega)).trans cb0; clear tok1) | (go_simp; go_at_call 67; have _t := tok2; refine (implEng_any _ b _ (by first | exact HV.out | exact HV.out.bel ((Below.refl _ _).drew))).mono ?_; rw [hb]; rintro e w3 ⟨rfl, b2⟩; replace b2 : Below w2.heap.size w2 w3 := (by first | exact b2 | exact bel_trans ((Below.refl _ _).drew) b2); have K0 := K0.below b2 K0.lt; have K1 := K1.below b2 K1.lt; obtain ⟨c0, -⟩ := K0.one; obtain ⟨c1, -⟩ := K1.one; have hz1 := b1.size; replace ca0 := (b2.cell (by show ba < w2.heap.size; have := HBZ.out; omega)).trans ca0; replace cb0 := (b2.cell (by show bb < w2.heap.size; have := HBZ.out; omega)).trans cb0; clear hz1; clear tok2))
          all_goals
            have HB := Lib.hid (bel_trans B0.out (bel_trans b1 b2))
            clear b1 b2
            go_wp2
            go_ret
            exact ⟨ret_bool (by first | exact HN.out.symm | (rw [HN.out]; simp; omega)), by first | exact HB.out | exact HB.out.drew⟩
      · have HN := Lib.hid (joinOk_s hs)
        have t1 : (((sat a 0).size : Int) != ((sat b 0).size : Int)) = true := by simp; omega
        have t2 : (((sat a 0).size : Int) == ((sat b 0).size : Int)) = false := by simp; omega
        have HS := Lib.hid hs
        clear hs
        go_enter Try.func135, Try.ntmps135
        go_wp2_with fail
        generalize hW : (w.alloc (.cells #[.slice (some ⟨ba, oa, none⟩) a.length c] 29)).alloc (.cells #[.slice (some ⟨bb, ob, none⟩) b.length d] 29) = W at *
        obtain ⟨c0, -⟩ := K0.one; obtain ⟨c1, -⟩ := K1.one
        go_region_held3 (fun w' => w'.cell? ⟨w.heap.size, 0, none⟩ = some (.slice (some ⟨ba, oa, none⟩) a.length c) ∧ w'.cell? ⟨w.heap.size + 1, 0, none⟩ = some (.slice (some ⟨bb, ob, none⟩) b.length d) ∧ w'.cell? ⟨ba, oa, none⟩ = some (.string (sat a 0)) ∧ w'.cell? ⟨bb, ob, none⟩ = some (.string (sat b 0))) (go_keep) (first | (go_simp; go_at_call 67; have _t := tok1; refine (implEng_any _ a _ (by first | exact HU.out | exact HU.out.bel ((Below.refl _ _).drew))).mono ?_; rw [ha]; rintro e w2 ⟨rfl, b1⟩; replace b1 : Below W.heap.size W w2 := (by first | exact b1 | exact bel_trans ((Below.refl _ _).drew) b1); have K0 := K0.below b1 K0.lt; have K1 := K1.below b1 K1.lt; obtain ⟨c0, -⟩ := K0.one; obtain ⟨c1, -⟩ := K1.one; replace HV := Lib.hid (HV.out.bel b1); replace ca0 := (b1.cell (by show ba < W.heap.size; have := HBZ.out; omega)).trans ca0; replace cb0 := (b1.cell (by show bb < W.heap.size; have := HBZ.out; omega)).trans cb0; clear tok1) | (go_simp; go_at_call 67; have _t := tok2; refine (implEng_any _ b _ (by first | exact HV.out | exact HV.out.bel ((Below.refl _ _).drew))).mono ?_; rw [hb]; rintro e w3 ⟨rfl, b2⟩; replace b2 : Below w2.heap.size w2 w3 := (by first | exact b2 | exact bel_trans ((Below.refl _ _).drew) b2); have K0 := K0.below b2 K0.lt; have K1 := K1.below b2 K1.lt; obtain ⟨c0, -⟩ := K0.one; obtain ⟨c1, -⟩ := K1.one; have hz1 := b1.size; replace ca0 := (b2.cell (by show ba < w2.heap.size; have := HBZ.out; omega)).trans ca0; replace cb0 := (b2.cell (by show bb < w2.heap.size; have := HBZ.out; omega)).trans cb0; clear hz1; clear tok2))
        all_goals
          have HB := Lib.hid (bel_trans B0.out (bel_trans b1 b2))
          clear b1 b2
          go_wp2
          go_ret
          exact ⟨ret_bool (by first | exact HN.out.symm | (rw [HN.out]; simp; omega)), by first | exact HB.out | exact HB.out.drew⟩

set_option maxHeartbeats 4000000 in
theorem l7Shape_any (u v : Value) (a b : List ByteArray) (w : World) (hu : Strs w u a) (hv : Strs w v b) :
    Calls Try.prog 130 #[.agg #[u], .agg #[v]] w fun e w' => e = .returned (.bool (joinOk a b)) ∧ Below w.heap.size w w' := by
  have HU := Lib.hid hu
  have HV := Lib.hid hv
  obtain ⟨A, c, rfl, hlc, hc, hrd⟩ := hu.open_
  obtain ⟨B, d, rfl, hld, hd, hrd2⟩ := hv.open_
  have HR := Lib.hid (And.intro hrd hrd2)
  clear hu hv hrd hrd2
  have B0 := Lib.hid (show Below w.heap.size w ((w.alloc (.cells #[.slice A a.length c] 29)).alloc (.cells #[.slice B b.length d] 29)) from (bel_alloc w _).alloc (by simp) _)
  have K0 := (Blk.new' w 29 (.slice A a.length c) w.heap.size rfl).alloc (.cells #[.slice B b.length d] 29)
  have K1 := Blk.new' (w.alloc (.cells #[.slice A a.length c] 29)) 29 (.slice B b.length d) (w.heap.size + 1) (by simp)
  replace HU := Lib.hid (HU.out.bel B0.out)
  replace HV := Lib.hid (HV.out.bel B0.out)
  have tok1 : True := trivial
  have tok2 : True := trivial
  cases ha : engOk a
  · have HN := Lib.hid (joinOk_a (b := b) ha)
    go_enter Try.func130, Try.ntmps130
    go_wp2_with fail
    generalize hW : (w.alloc (.cells #[.slice A a.length c] 29)).alloc (.cells #[.slice B b.length d] 29) = W at *
    obtain ⟨c0, -⟩ := K0.one; obtain ⟨c1, -⟩ := K1.one
    refine wp_region_any (by kernel_rfl) ?_
    try (change wpAny _ _ _ _ _ _ _ (World.drew _))
    refine wpAny_ready (rs := [0]) (by kernel_rfl) (by simp) ?_
    refine AllReady.cons rfl (fun K hK => ?_) AllReady.nil
    go_simp
    refine hK _ _ ?_
    clear hK K
    refine wpAny_ready (rs := [1]) (by kernel_rfl) (by simp) ?_
    refine AllReady.cons rfl (fun K hK => ?_) AllReady.nil
    (go_simp; go_at_call 145; have _t := tok1; refine (specEng_any _ a _ (by first | exact HU.out | exact HU.out.bel ((Below.refl _ _).drew))).mono ?_; rw [ha]; rintro e w2 ⟨rfl, b1⟩; replace b1 : Below W.heap.size W w2 := (by first | exact b1 | exact bel_trans ((Below.refl _ _).drew) b1); have K0 := K0.below b1 K0.lt; have K1 := K1.below b1 K1.lt; obtain ⟨c0, -⟩ := K0.one; obtain ⟨c1, -⟩ := K1.one; replace HV := Lib.hid (HV.out.bel b1); clear tok1)
    refine hK _ _ ?_
    clear hK K
    refine wpAny_ready (rs := [2]) (by kernel_rfl) (by simp) ?_
    refine AllReady.cons rfl (fun K hK => ?_) AllReady.nil
    go_simp
    refine hK _ _ ?_
    clear hK K
    refine wpAny_take (i := 3) (v := undef) rfl (by kernel_rfl) (by kernel_rfl) (by kernel_rfl) (fun _ _ _ h => h) (Or.inr ⟨by kernel_rfl, rfl⟩) ?_
    try simp only [Act.put, List.setIfInBounds_toArray, List.set_cons_zero, List.set_cons_succ]
    refine wpAny_take (i := 4) (v := undef) rfl (by kernel_rfl) (by kernel_rfl) (by kernel_rfl) (fun _ _ _ h => h) (Or.inr ⟨by kernel_rfl, rfl⟩) ?_
    try simp only [Act.put, List.setIfInBounds_toArray, List.set_cons_zero, List.set_cons_succ]
    refine wpAny_ready (rs := [5]) (by kernel_rfl) (by simp) ?_
    refine AllReady.cons rfl (fun K hK => ?_) AllReady.nil
    go_simp
    refine hK _ _ ?_
    clear hK K
    refine wpAny_ready (rs := [6]) (by kernel_rfl) (by simp) ?_
    refine AllReady.cons rfl (fun K hK => ?_) AllReady.nil
    go_simp
    refine hK _ _ ?_
    clear hK K
    refine wpAny_take (i := 7) (v := undef) rfl (by kernel_rfl) (by kernel_rfl) (by kernel_rfl) (fun _ _ _ h => h) (Or.inr ⟨by kernel_rfl, rfl⟩) ?_
    try simp only [Act.put, List.setIfInBounds_toArray, List.set_cons_zero, List.set_cons_succ]
    refine wpAny_take (i := 8) (v := undef) rfl (by kernel_rfl) (by kernel_rfl) (by kernel_rfl) (fun _ _ _ h => h) (Or.inr ⟨by kernel_rfl, rfl⟩) ?_
    try simp only [Act.put, List.setIfInBounds_toArray, List.set_cons_zero, List.set_cons_succ]
    refine wpAny_take (i := 9) (v := undef) rfl (by kernel_rfl) (by kernel_rfl) (by kernel_rfl) (fun _ _ _ h => h) (Or.inr ⟨by kernel_rfl, rfl⟩) ?_
    try simp only [Act.put, List.setIfInBounds_toArray, List.set_cons_zero, List.set_cons_succ]
    refine wpAny_take (i := 10) (v := undef) rfl (by kernel_rfl) (by kernel_rfl) (by kernel_rfl) (fun _ _ _ h => h) (Or.inr ⟨by kernel_rfl, rfl⟩) ?_
    try simp only [Act.put, List.setIfInBounds_toArray, List.set_cons_zero, List.set_cons_succ]
    refine wpAny_take (i := 11) (v := undef) rfl (by kernel_rfl) (by kernel_rfl) (by kernel_rfl) (fun _ _ _ h => h) (Or.inr ⟨by kernel_rfl, rfl⟩) ?_
    try simp only [Act.put, List.setIfInBounds_toArray, List.set_cons_zero, List.set_cons_succ]
    refine wpAny_take (i := 12) (v := undef) rfl (by kernel_rfl) (by kernel_rfl) (by kernel_rfl) (fun _ _ _ h => h) (Or.inr ⟨by kernel_rfl, rfl⟩) ?_
    try simp only [Act.put, List.setIfInBounds_toArray, List.set_cons_zero, List.set_cons_succ]
    refine wpAny_take (i := 13) (v := undef) rfl (by kernel_rfl) (by kernel_rfl) (by kernel_rfl) (fun _ _ _ h => h) (Or.inr ⟨by kernel_rfl, rfl⟩) ?_
    try simp only [Act.put, List.setIfInBounds_toArray, List.set_cons_zero, List.set_cons_succ]
    refine wpAny_take (i := 14) (v := undef) rfl (by kernel_rfl) (by kernel_rfl) (by kernel_rfl) (fun _ _ _ h => h) (Or.inr ⟨by kernel_rfl, rfl⟩) ?_
    try simp only [Act.put, List.setIfInBounds_toArray, List.set_cons_zero, List.set_cons_succ]
    refine wpAny_take (i := 15) (v := undef) rfl (by kernel_rfl) (by kernel_rfl) (by kernel_rfl) (fun _ _ _ h => h) (Or.inr ⟨by kernel_rfl, rfl⟩) ?_
    try simp only [Act.put, List.setIfInBounds_toArray, List.set_cons_zero, List.set_cons_succ]
    refine wpAny_take (i := 16) (v := undef) rfl (by kernel_rfl) (by kernel_rfl) (by kernel_rfl) (fun _ _ _ h => h) (Or.inr ⟨by kernel_rfl, rfl⟩) ?_
    try simp only [Act.put, List.setIfInBounds_toArray, List.set_cons_zero, List.set_cons_succ]
    refine wpAny_take (i := 17) (v := undef) rfl (by kernel_rfl) (by kernel_rfl) (by kernel_rfl) (fun _ _ _ h => h) (Or.inr ⟨by kernel_rfl, rfl⟩) ?_
    try simp only [Act.put, List.setIfInBounds_toArray, List.set_cons_zero, List.set_cons_succ]
    refine wpAny_ready (rs := [18]) (by kernel_rfl) (by simp) ?_
    refine AllReady.cons rfl (fun K hK => ?_) AllReady.nil
    go_simp
    refine hK _ _ ?_
    clear hK K
    refine wpAny_ready (rs := [19]) (by kernel_rfl) (by simp) ?_
    refine AllReady.cons rfl (fun K hK => ?_) AllReady.nil
    go_simp
    refine hK _ _ ?_
    clear hK K
    refine wpAny_take (i := 20) (v := undef) rfl (by kernel_rfl) (by kernel_rfl) (by kernel_rfl) (fun _ _ _ h => h) (Or.inr ⟨by kernel_rfl, rfl⟩) ?_
    try simp only [Act.put, List.setIfInBounds_toArray, List.set_cons_zero, List.set_cons_succ]
    refine wpAny_take (i := 21) (v := undef) rfl (by kernel_rfl) (by kernel_rfl) (by kernel_rfl) (fun _ _ _ h => h) (Or.inr ⟨by kernel_rfl, rfl⟩) ?_
    try simp only [Act.put, List.setIfInBounds_toArray, List.set_cons_zero, List.set_cons_succ]
    refine wpAny_take (i := 22) (v := undef) rfl (by kernel_rfl) (by kernel_rfl) (by kernel_rfl) (fun _ _ _ h => h) (Or.inr ⟨by kernel_rfl, rfl⟩) ?_
    try simp only [Act.put, List.setIfInBounds_toArray, List.set_cons_zero, List.set_cons_succ]
    refine wpAny_take (i := 23) (v := undef) rfl (by kernel_rfl) (by kernel_rfl) (by kernel_rfl) (fun _ _ _ h => h) (Or.inr ⟨by kernel_rfl, rfl⟩) ?_
    try simp only [Act.put, List.setIfInBounds_toArray, List.set_cons_zero, List.set_cons_succ]
    refine wpAny_take (i := 24) (v := undef) rfl (by kernel_rfl) (by kernel_rfl) (by kernel_rfl) (fun _ _ _ h => h) (Or.inr ⟨by kernel_rfl, rfl⟩) ?_
    try simp only [Act.put, List.setIfInBounds_toArray, List.set_cons_zero, List.set_cons_succ]
    refine wpAny_take (i := 25) (v := undef) rfl (by kernel_rfl) (by kernel_rfl) (by kernel_rfl) (fun _ _ _ h => h) (Or.inr ⟨by kernel_rfl, rfl⟩) ?_
    try simp only [Act.put, List.setIfInBounds_toArray, List.set_cons_zero, List.set_cons_succ]
    refine wpAny_take (i := 26) (v := undef) rfl (by kernel_rfl) (by kernel_rfl) (by kernel_rfl) (fun _ _ _ h => h) (Or.inr ⟨by kernel_rfl, rfl⟩) ?_
    try simp only [Act.put, List.setIfInBounds_toArray, List.set_cons_zero, List.set_cons_succ]
    refine wpAny_take (i := 27) (v := undef) rfl (by kernel_rfl) (by kernel_rfl) (by kernel_rfl) (fun _ _ _ h => h) (Or.inr ⟨by kernel_rfl, rfl⟩) ?_
    try simp only [Act.put, List.setIfInBounds_toArray, List.set_cons_zero, List.set_cons_succ]
    refine wpAny_ready (rs := [28]) (by kernel_rfl) (by simp) ?_
    refine AllReady.cons rfl (fun K hK => ?_) AllReady.nil
    go_simp
    refine hK _ _ ?_
    clear hK K
    refine wpAny_ready (rs := [29]) (by kernel_rfl) (by simp) ?_
    refine AllReady.cons rfl (fun K hK => ?_) AllReady.nil
    go_simp
    refine hK _ _ ?_
    clear hK K
    refine wpAny_done (by kernel_rfl) ?_ _
    all_goals
      have HB := Lib.hid (bel_trans B0.out b1)
      clear b1
      go_wp2
      go_ret
      exact ⟨ret_bool HN.out.symm, by first | exact HB.out | exact HB.out.drew⟩
  · cases hb : engOk b
    · have HN := Lib.hid (joinOk_b (a := a) hb)
      go_enter Try.func130, Try.ntmps130
      go_wp2_with fail
      generalize hW : (w.alloc (.cells #[.slice A a.length c] 29)).alloc (.cells #[.slice B b.length d] 29) = W at *
      obtain ⟨c0, -⟩ := K0.one; obtain ⟨c1, -⟩ := K1.one
      refine wp_region_any (by kernel_rfl) ?_
      try (change wpAny _ _ _ _ _ _ _ (World.drew _))
      refine wpAny_ready (rs := [0]) (by kernel_rfl) (by simp) ?_
      refine AllReady.cons rfl (fun K hK => ?_) AllReady.nil
      go_simp
      refine hK _ _ ?_
      clear hK K
      refine wpAny_ready (rs := [1]) (by kernel_rfl) (by simp) ?_
      refine AllReady.cons rfl (fun K hK => ?_) AllReady.nil
      (go_simp; go_at_call 145; have _t := tok1; refine (specEng_any _ a _ (by first | exact HU.out | exact HU.out.bel ((Below.refl _ _).drew))).mono ?_; rw [ha]; rintro e w2 ⟨rfl, b1⟩; replace b1 : Below W.heap.size W w2 := (by first | exact b1 | exact bel_trans ((Below.refl _ _).drew) b1); have K0 := K0.below b1 K0.lt; have K1 := K1.below b1 K1.lt; obtain ⟨c0, -⟩ := K0.one; obtain ⟨c1, -⟩ := K1.one; replace HV := Lib.hid (HV.out.bel b1); clear tok1)
      refine hK _ _ ?_
      clear hK K
      refine wpAny_ready (rs := [2]) (by kernel_rfl) (by simp) ?_
      refine AllReady.cons rfl (fun K hK => ?_) AllReady.nil
      go_simp
      refine hK _ _ ?_
      clear hK K
      refine wpAny_ready (rs := [3]) (by kernel_rfl) (by simp) ?_
      refine AllReady.cons rfl (fun K hK => ?_) AllReady.nil
      go_simp
      refine hK _ _ ?_
      clear hK K
      refine wpAny_ready (rs := [4]) (by kernel_rfl) (by simp) ?_
      refine AllReady.cons rfl (fun K hK => ?_) AllReady.nil
      (go_simp; go_at_call 145; have _t := tok2; refine (specEng_any _ b _ (by first | exact HV.out | exact HV.out.bel ((Below.refl _ _).drew))).mono ?_; rw [hb]; rintro e w3 ⟨rfl, b2⟩; replace b2 : Below w2.heap.size w2 w3 := (by first | exact b2 | exact bel_trans ((Below.refl _ _).drew) b2); have K0 := K0.below b2 K0.lt; have K1 := K1.below b2 K1.lt; obtain ⟨c0, -⟩ := K0.one; obtain ⟨c1, -⟩ := K1.one; clear tok2)
      refine hK _ _ ?_
      clear hK K
      refine wpAny_ready (rs := [5]) (by kernel_rfl) (by simp) ?_
      refine AllReady.cons rfl (fun K hK => ?_) AllReady.nil
      go_simp
      refine hK _ _ ?_
      clear hK K
      refine wpAny_ready (rs := [6]) (by kernel_rfl) (by simp) ?_
      refine AllReady.cons rfl (fun K hK => ?_) AllReady.nil
      go_simp
      refine hK _ _ ?_
      clear hK K
      refine wpAny_take (i := 7) (v := undef) rfl (by kernel_rfl) (by kernel_rfl) (by kernel_rfl) (fun _ _ _ h => h) (Or.inr ⟨by kernel_rfl, rfl⟩) ?_
      try simp only [Act.put, List.setIfInBounds_toArray, List.set_cons_zero, List.set_cons_succ]
      refine wpAny_take (i := 8) (v := undef) rfl (by kernel_rfl) (by kernel_rfl) (by kernel_rfl) (fun _ _ _ h => h) (Or.inr ⟨by kernel_rfl, rfl⟩) ?_
      try simp only [Act.put, List.setIfInBounds_toArray, List.set_cons_zero, List.set_cons_succ]
      refine wpAny_take (i := 9) (v := undef) rfl (by kernel_rfl) (by kernel_rfl) (by kernel_rfl) (fun _ _ _ h => h) (Or.inr ⟨by kernel_rfl, rfl⟩) ?_
      try simp only [Act.put, List.setIfInBounds_toArray, List.set_cons_zero, List.set_cons_succ]
      refine wpAny_take (i := 10) (v := undef) rfl (by kernel_rfl) (by kernel_rfl) (by kernel_rfl) (fun _ _ _ h => h) (Or.inr ⟨by kernel_rfl, rfl⟩) ?_
      try simp only [Act.put, List.setIfInBounds_toArray, List.set_cons_zero, List.set_cons_succ]
      refine wpAny_take (i := 11) (v := undef) rfl (by kernel_rfl) (by kernel_rfl) (by kernel_rfl) (fun _ _ _ h => h) (Or.inr ⟨by kernel_rfl, rfl⟩) ?_
      try simp only [Act.put, List.setIfInBounds_toArray, List.set_cons_zero, List.set_cons_succ]
      refine wpAny_take (i := 12) (v := undef) rfl (by kernel_rfl) (by kernel_rfl) (by kernel_rfl) (fun _ _ _ h => h) (Or.inr ⟨by kernel_rfl, rfl⟩) ?_
      try simp only [Act.put, List.setIfInBounds_toArray, List.set_cons_zero, List.set_cons_succ]
      refine wpAny_take (i := 13) (v := undef) rfl (by kernel_rfl) (by kernel_rfl) (by kernel_rfl) (fun _ _ _ h => h) (Or.inr ⟨by kernel_rfl, rfl⟩) ?_
      try simp only [Act.put, List.setIfInBounds_toArray, List.set_cons_zero, List.set_cons_succ]
      refine wpAny_take (i := 14) (v := undef) rfl (by kernel_rfl) (by kernel_rfl) (by kernel_rfl) (fun _ _ _ h => h) (Or.inr ⟨by kernel_rfl, rfl⟩) ?_
      try simp only [Act.put, List.setIfInBounds_toArray, List.set_cons_zero, List.set_cons_succ]
      refine wpAny_take (i := 15) (v := undef) rfl (by kernel_rfl) (by kernel_rfl) (by kernel_rfl) (fun _ _ _ h => h) (Or.inr ⟨by kernel_rfl, rfl⟩) ?_
      try simp only [Act.put, List.setIfInBounds_toArray, List.set_cons_zero, List.set_cons_succ]
      refine wpAny_take (i := 16) (v := undef) rfl (by kernel_rfl) (by kernel_rfl) (by kernel_rfl) (fun _ _ _ h => h) (Or.inr ⟨by kernel_rfl, rfl⟩) ?_
      try simp only [Act.put, List.setIfInBounds_toArray, List.set_cons_zero, List.set_cons_succ]
      refine wpAny_take (i := 17) (v := undef) rfl (by kernel_rfl) (by kernel_rfl) (by kernel_rfl) (fun _ _ _ h => h) (Or.inr ⟨by kernel_rfl, rfl⟩) ?_
      try simp only [Act.put, List.setIfInBounds_toArray, List.set_cons_zero, List.set_cons_succ]
      refine wpAny_ready (rs := [18]) (by kernel_rfl) (by simp) ?_
      refine AllReady.cons rfl (fun K hK => ?_) AllReady.nil
      go_simp
      refine hK _ _ ?_
      clear hK K
      refine wpAny_ready (rs := [19]) (by kernel_rfl) (by simp) ?_
      refine AllReady.cons rfl (fun K hK => ?_) AllReady.nil
      go_simp
      refine hK _ _ ?_
      clear hK K
      refine wpAny_take (i := 20) (v := undef) rfl (by kernel_rfl) (by kernel_rfl) (by kernel_rfl) (fun _ _ _ h => h) (Or.inr ⟨by kernel_rfl, rfl⟩) ?_
      try simp only [Act.put, List.setIfInBounds_toArray, List.set_cons_zero, List.set_cons_succ]
      refine wpAny_take (i := 21) (v := undef) rfl (by kernel_rfl) (by kernel_rfl) (by kernel_rfl) (fun _ _ _ h => h) (Or.inr ⟨by kernel_rfl, rfl⟩) ?_
      try simp only [Act.put, List.setIfInBounds_toArray, List.set_cons_zero, List.set_cons_succ]
      refine wpAny_take (i := 22) (v := undef) rfl (by kernel_rfl) (by kernel_rfl) (by kernel_rfl) (fun _ _ _ h => h) (Or.inr ⟨by kernel_rfl, rfl⟩) ?_
      try simp only [Act.put, List.setIfInBounds_toArray, List.set_cons_zero, List.set_cons_succ]
      refine wpAny_take (i := 23) (v := undef) rfl (by kernel_rfl) (by kernel_rfl) (by kernel_rfl) (fun _ _ _ h => h) (Or.inr ⟨by kernel_rfl, rfl⟩) ?_
      try simp only [Act.put, List.setIfInBounds_toArray, List.set_cons_zero, List.set_cons_succ]
      refine wpAny_take (i := 24) (v := undef) rfl (by kernel_rfl) (by kernel_rfl) (by kernel_rfl) (fun _ _ _ h => h) (Or.inr ⟨by kernel_rfl, rfl⟩) ?_
      try simp only [Act.put, List.setIfInBounds_toArray, List.set_cons_zero, List.set_cons_succ]
      refine wpAny_take (i := 25) (v := undef) rfl (by kernel_rfl) (by kernel_rfl) (by kernel_rfl) (fun _ _ _ h => h) (Or.inr ⟨by kernel_rfl, rfl⟩) ?_
      try simp only [Act.put, List.setIfInBounds_toArray, List.set_cons_zero, List.set_cons_succ]
      refine wpAny_take (i := 26) (v := undef) rfl (by kernel_rfl) (by kernel_rfl) (by kernel_rfl) (fun _ _ _ h => h) (Or.inr ⟨by kernel_rfl, rfl⟩) ?_
      try simp only [Act.put, List.setIfInBounds_toArray, List.set_cons_zero, List.set_cons_succ]
      refine wpAny_take (i := 27) (v := undef) rfl (by kernel_rfl) (by kernel_rfl) (by kernel_rfl) (fun _ _ _ h => h) (Or.inr ⟨by kernel_rfl, rfl⟩) ?_
      try simp only [Act.put, List.setIfInBounds_toArray, List.set_cons_zero, List.set_cons_succ]
      refine wpAny_ready (rs := [28]) (by kernel_rfl) (by simp) ?_
      refine AllReady.cons rfl (fun K hK => ?_) AllReady.nil
      go_simp
      refine hK _ _ ?_
      clear hK K
      refine wpAny_ready (rs := [29]) (by kernel_rfl) (by simp) ?_
      refine AllReady.cons rfl (fun K hK => ?_) AllReady.nil
      go_simp
      refine hK _ _ ?_
      clear hK K
      refine wpAny_done (by kernel_rfl) ?_ _
      all_goals
        have HB := Lib.hid (bel_trans B0.out (bel_trans b1 b2))
        clear b1 b2
        go_wp2
        go_ret
        exact ⟨ret_bool HN.out.symm, by first | exact HB.out | exact HB.out.drew⟩
    · obtain ⟨a1, a7, -⟩ := engOk_iff.1 ha
      obtain ⟨e1, e7, -⟩ := engOk_iff.1 hb
      obtain ⟨ba, oa, rfl, hba, hca⟩ := HR.out.1.strs (by omega)
      obtain ⟨bb, ob, rfl, hbb, hcb⟩ := HR.out.2.strs (by omega)
      have ca0 := hca 0 (by omega)
      have cb0 := hcb 0 (by omega)
      rw [Nat.add_zero] at ca0 cb0
      clear hca hcb
      replace ca0 := (B0.out.cell (by exact hba)).trans ca0
      replace cb0 := (B0.out.cell (by exact hbb)).trans cb0
      have hba2 := hba
      have hbb2 := hbb
      have sa := HU.out.2.at _ 0
      have sb := HV.out.2.at _ 0
      have HBZ := Lib.hid B0.out.size
      have hwr : IntKind.i64.wrap ((a.length : Int) + (b.length : Int)) = (a.length : Int) + (b.length : Int) := by rw [IntWalk.i64_in] <;> omega
      have na : ¬ a = [] := by intro e; rw [e] at a1; simp at a1
      have nb : ¬ b = [] := by intro e; rw [e] at e1; simp at e1
      have pa2 : 0 < a.length := by omega
      have pb2 : 0 < b.length := by omega
      have pa : (0 : Int) < (a.length : Int) := by omega
      have pb : (0 : Int) < (b.length : Int) := by omega
      clear hba hbb
      by_cases hs : (sat a 0).size = (sat b 0).size
      · by_cases hl : a.length + b.length ≤ 7
        · have HN := Lib.hid (joinOk_true.2 ⟨ha, hb, hs, hl⟩)
          have t1 : (((sat a 0).size : Int) != ((sat b 0).size : Int)) = false := by simp [hs]
          have t2 : (((sat a 0).size : Int) == ((sat b 0).size : Int)) = true := by simp [hs]
          have t3 : ((a.length : Int) + (b.length : Int)) ≤ 7 := by omega
          have HS := Lib.hid hs
          clear hs
          go_enter Try.func130, Try.ntmps130
          go_wp2_with fail
          generalize hW : (w.alloc (.cells #[.slice (some ⟨ba, oa, none⟩) a.length c] 29)).alloc (.cells #[.slice (some ⟨bb, ob, none⟩) b.length d] 29) = W at *
          obtain ⟨c0, -⟩ := K0.one; obtain ⟨c1, -⟩ := K1.one
          go_region_held3 (fun w' => w'.cell? ⟨w.heap.size, 0, none⟩ = some (.slice (some ⟨ba, oa, none⟩) a.length c) ∧ w'.cell? ⟨w.heap.size + 1, 0, none⟩ = some (.slice (some ⟨bb, ob, none⟩) b.length d) ∧ w'.cell? ⟨ba, oa, none⟩ = some (.string (sat a 0)) ∧ w'.cell? ⟨bb, ob, none⟩ = some (.string (sat b 0))) (go_keep) (first | (go_simp; go_at_call 145; have _t := tok1; refine (specEng_any _ a _ (by first | exact HU.out | exact HU.out.bel ((Below.refl _ _).drew))).mono ?_; rw [ha]; rintro e w2 ⟨rfl, b1⟩; replace b1 : Below W.heap.size W w2 := (by first | exact b1 | exact bel_trans ((Below.refl _ _).drew) b1); have K0 := K0.below b1 K0.lt; have K1 := K1.below b1 K1.lt; obtain ⟨c0, -⟩ := K0.one; obtain ⟨c1, -⟩ := K1.one; replace HV := Lib.hid (HV.out.bel b1); replace ca0 := (b1.cell (by show ba < W.heap.size; have := HBZ.out; omega)).trans ca0; replace cb0 := (b1.cell (by show bb < W.heap.size; have := HBZ.out; omega)).trans cb0; clear tok1) | (go_simp; go_at_call 145; have _t := tok2; refine (specEng_any _ b _ (by first | exact HV.out | exact HV.out.bel ((Below.refl _ _).drew))).mono ?_; rw [hb]; rintro e w3 ⟨rfl, b2⟩; replace b2 : Below w2.heap.size w2 w3 := (by first | exact b2 | exact bel_trans ((Below.refl _ _).drew) b2); have K0 := K0.below b2 K0.lt; have K1 := K1.below b2 K1.lt; obtain ⟨c0, -⟩ := K0.one; obtain ⟨c1, -⟩ := K1.one; have hz1 := b1.size; replace ca0 := (b2.cell (by show ba < w2.heap.size; have := HBZ.out; omega)).trans ca0; replace cb0 := (b2.cell (by show bb < w2.heap.size; have := HBZ.out; omega)).trans cb0; clear hz1; clear tok2))
          all_goals
            have HB := Lib.hid (bel_trans B0.out (bel_trans b1 b2))
            clear b1 b2
            go_wp2
            go_ret
            exact ⟨ret_bool (by first | exact HN.out.symm | (rw [HN.out]; simp; omega)), by first | exact HB.out | exact HB.out.drew⟩
        · have HN := Lib.hid (joinOk_l hl)
          have t1 : (((sat a 0).size : Int) != ((sat b 0).size : Int)) = false := by simp [hs]
          have t2 : (((sat a 0).size : Int) == ((sat b 0).size : Int)) = true := by simp [hs]
          have t3 : ¬ ((a.length : Int) + (b.length : Int)) ≤ 7 := by omega
          have HS := Lib.hid hs
          clear hs
          go_enter Try.func130, Try.ntmps130
          go_wp2_with fail
          generalize hW : (w.alloc (.cells #[.slice (some ⟨ba, oa, none⟩) a.length c] 29)).alloc (.cells #[.slice (some ⟨bb, ob, none⟩) b.length d] 29) = W at *
          obtain ⟨c0, -⟩ := K0.one; obtain ⟨c1, -⟩ := K1.one
          go_region_held3 (fun w' => w'.cell? ⟨w.heap.size, 0, none⟩ = some (.slice (some ⟨ba, oa, none⟩) a.length c) ∧ w'.cell? ⟨w.heap.size + 1, 0, none⟩ = some (.slice (some ⟨bb, ob, none⟩) b.length d) ∧ w'.cell? ⟨ba, oa, none⟩ = some (.string (sat a 0)) ∧ w'.cell? ⟨bb, ob, none⟩ = some (.string (sat b 0))) (go_keep) (first | (go_simp; go_at_call 145; have _t := tok1; refine (specEng_any _ a _ (by first | exact HU.out | exact HU.out.bel ((Below.refl _ _).drew))).mono ?_; rw [ha]; rintro e w2 ⟨rfl, b1⟩; replace b1 : Below W.heap.size W w2 := (by first | exact b1 | exact bel_trans ((Below.refl _ _).drew) b1); have K0 := K0.below b1 K0.lt; have K1 := K1.below b1 K1.lt; obtain ⟨c0, -⟩ := K0.one; obtain ⟨c1, -⟩ := K1.one; replace HV := Lib.hid (HV.out.bel b1); replace ca0 := (b1.cell (by show ba < W.heap.size; have := HBZ.out; omega)).trans ca0; replace cb0 := (b1.cell (by show bb < W.heap.size; have := HBZ.out; omega)).trans cb0; clear tok1) | (go_simp; go_at_call 145; have _t := tok2; refine (specEng_any _ b _ (by first | exact HV.out | exact HV.out.bel ((Below.refl _ _).drew))).mono ?_; rw [hb]; rintro e w3 ⟨rfl, b2⟩; replace b2 : Below w2.heap.size w2 w3 := (by first | exact b2 | exact bel_trans ((Below.refl _ _).drew) b2); have K0 := K0.below b2 K0.lt; have K1 := K1.below b2 K1.lt; obtain ⟨c0, -⟩ := K0.one; obtain ⟨c1, -⟩ := K1.one; have hz1 := b1.size; replace ca0 := (b2.cell (by show ba < w2.heap.size; have := HBZ.out; omega)).trans ca0; replace cb0 := (b2.cell (by show bb < w2.heap.size; have := HBZ.out; omega)).trans cb0; clear hz1; clear tok2))
          all_goals
            have HB := Lib.hid (bel_trans B0.out (bel_trans b1 b2))
            clear b1 b2
            go_wp2
            go_ret
            exact ⟨ret_bool (by first | exact HN.out.symm | (rw [HN.out]; simp; omega)), by first | exact HB.out | exact HB.out.drew⟩
      · have HN := Lib.hid (joinOk_s hs)
        have t1 : (((sat a 0).size : Int) != ((sat b 0).size : Int)) = true := by simp; omega
        have t2 : (((sat a 0).size : Int) == ((sat b 0).size : Int)) = false := by simp; omega
        have HS := Lib.hid hs
        clear hs
        go_enter Try.func130, Try.ntmps130
        go_wp2_with fail
        generalize hW : (w.alloc (.cells #[.slice (some ⟨ba, oa, none⟩) a.length c] 29)).alloc (.cells #[.slice (some ⟨bb, ob, none⟩) b.length d] 29) = W at *
        obtain ⟨c0, -⟩ := K0.one; obtain ⟨c1, -⟩ := K1.one
        refine wp_region_held_drew (S := (fun w' => w'.cell? ⟨w.heap.size, 0, none⟩ = some (.slice (some ⟨ba, oa, none⟩) a.length c) ∧ w'.cell? ⟨w.heap.size + 1, 0, none⟩ = some (.slice (some ⟨bb, ob, none⟩) b.length d) ∧ w'.cell? ⟨ba, oa, none⟩ = some (.string (sat a 0)) ∧ w'.cell? ⟨bb, ob, none⟩ = some (.string (sat b 0)))) (by kernel_rfl) ?_ (fun hHeld => ?_)
        · exact ⟨c0, c1, ca0, cb0⟩
        refine wpAnyH_take (i := 0) (v := ?v0) rfl (by kernel_rfl) (by kernel_rfl) (by kernel_rfl) (fun _ _ _ h => h) (Or.inl ⟨by kernel_rfl, ?hy0⟩) (by assumption) ?rest0
        case hy0 => (intro w' hSw; (try dsimp only at hSw); go_simp; all_goals with_reducible rfl)
        try simp only [Act.put, List.setIfInBounds_toArray, List.set_cons_zero, List.set_cons_succ]
        refine wpAnyH_ready (rs := [1]) (by kernel_rfl) (by simp) ?_
        refine AllReadyH.cons rfl (fun K hK => ?_) AllReadyH.nil
        (go_simp; go_at_call 145; have _t := tok1; refine (specEng_any _ a _ (by first | exact HU.out | exact HU.out.bel ((Below.refl _ _).drew))).mono ?_; rw [ha]; rintro e w2 ⟨rfl, b1⟩; replace b1 : Below W.heap.size W w2 := (by first | exact b1 | exact bel_trans ((Below.refl _ _).drew) b1); have K0 := K0.below b1 K0.lt; have K1 := K1.below b1 K1.lt; obtain ⟨c0, -⟩ := K0.one; obtain ⟨c1, -⟩ := K1.one; replace HV := Lib.hid (HV.out.bel b1); replace ca0 := (b1.cell (by show ba < W.heap.size; have := HBZ.out; omega)).trans ca0; replace cb0 := (b1.cell (by show bb < W.heap.size; have := HBZ.out; omega)).trans cb0; clear tok1)
        refine hK.out _ _ ?_ (fun hHeld => ?_)
        · first | exact ⟨c0, c1, ca0, cb0⟩ | exact hHeld
        clear hK K
        try simp only [Act.put, List.setIfInBounds_toArray, List.set_cons_zero, List.set_cons_succ]
        refine wpAnyH_take (i := 2) (v := ?v2) rfl (by kernel_rfl) (by kernel_rfl) (by kernel_rfl) (fun _ _ _ h => h) (Or.inl ⟨by kernel_rfl, ?hy2⟩) (by assumption) ?rest2
        case hy2 => (intro w' hSw; (try dsimp only at hSw); go_simp; all_goals with_reducible rfl)
        try simp only [Act.put, List.setIfInBounds_toArray, List.set_cons_zero, List.set_cons_succ]
        refine wpAnyH_take (i := 3) (v := ?v3) rfl (by kernel_rfl) (by kernel_rfl) (by kernel_rfl) (fun _ _ _ h => h) (Or.inl ⟨by kernel_rfl, ?hy3⟩) (by assumption) ?rest3
        case hy3 => (intro w' hSw; (try dsimp only at hSw); go_simp; all_goals with_reducible rfl)
        try simp only [Act.put, List.setIfInBounds_toArray, List.set_cons_zero, List.set_cons_succ]
        refine wpAnyH_ready (rs := [4]) (by kernel_rfl) (by simp) ?_
        refine AllReadyH.cons rfl (fun K hK => ?_) AllReadyH.nil
        (go_simp; go_at_call 145; have _t := tok2; refine (specEng_any _ b _ (by first | exact HV.out | exact HV.out.bel ((Below.refl _ _).drew))).mono ?_; rw [hb]; rintro e w3 ⟨rfl, b2⟩; replace b2 : Below w2.heap.size w2 w3 := (by first | exact b2 | exact bel_trans ((Below.refl _ _).drew) b2); have K0 := K0.below b2 K0.lt; have K1 := K1.below b2 K1.lt; obtain ⟨c0, -⟩ := K0.one; obtain ⟨c1, -⟩ := K1.one; have hz1 := b1.size; replace ca0 := (b2.cell (by show ba < w2.heap.size; have := HBZ.out; omega)).trans ca0; replace cb0 := (b2.cell (by show bb < w2.heap.size; have := HBZ.out; omega)).trans cb0; clear hz1; clear tok2)
        refine hK.out _ _ ?_ (fun hHeld => ?_)
        · first | exact ⟨c0, c1, ca0, cb0⟩ | exact hHeld
        clear hK K
        try simp only [Act.put, List.setIfInBounds_toArray, List.set_cons_zero, List.set_cons_succ]
        refine wpAnyH_take (i := 5) (v := ?v5) rfl (by kernel_rfl) (by kernel_rfl) (by kernel_rfl) (fun _ _ _ h => h) (Or.inl ⟨by kernel_rfl, ?hy5⟩) (by assumption) ?rest5
        case hy5 => (intro w' hSw; (try dsimp only at hSw); go_simp; all_goals with_reducible rfl)
        try simp only [Act.put, List.setIfInBounds_toArray, List.set_cons_zero, List.set_cons_succ]
        refine wpAnyH_take (i := 6) (v := ?v6) rfl (by kernel_rfl) (by kernel_rfl) (by kernel_rfl) (fun _ _ _ h => h) (Or.inl ⟨by kernel_rfl, ?hy6⟩) (by assumption) ?rest6
        case hy6 => (intro w' hSw; (try dsimp only at hSw); go_simp; all_goals with_reducible rfl)
        try simp only [Act.put, List.setIfInBounds_toArray, List.set_cons_zero, List.set_cons_succ]
        refine wpAnyH_take (i := 7) (v := ?v7) rfl (by kernel_rfl) (by kernel_rfl) (by kernel_rfl) (fun _ _ _ h => h) (Or.inl ⟨by kernel_rfl, ?hy7⟩) (by assumption) ?rest7
        case hy7 => (intro w' hSw; (try dsimp only at hSw); go_simp; all_goals with_reducible rfl)
        try simp only [Act.put, List.setIfInBounds_toArray, List.set_cons_zero, List.set_cons_succ]
        refine wpAnyH_take (i := 8) (v := ?v8) rfl (by kernel_rfl) (by kernel_rfl) (by kernel_rfl) (fun _ _ _ h => h) (Or.inl ⟨by kernel_rfl, ?hy8⟩) (by assumption) ?rest8
        case hy8 => (intro w' hSw; (try dsimp only at hSw); go_simp; all_goals with_reducible rfl)
        try simp only [Act.put, List.setIfInBounds_toArray, List.set_cons_zero, List.set_cons_succ]
        refine wpAnyH_take (i := 9) (v := ?v9) rfl (by kernel_rfl) (by kernel_rfl) (by kernel_rfl) (fun _ _ _ h => h) (Or.inl ⟨by kernel_rfl, ?hy9⟩) (by assumption) ?rest9
        case hy9 => (intro w' hSw; (try dsimp only at hSw); go_simp; all_goals with_reducible rfl)
        try simp only [Act.put, List.setIfInBounds_toArray, List.set_cons_zero, List.set_cons_succ]
        refine wpAnyH_take (i := 10) (v := ?v10) rfl (by kernel_rfl) (by kernel_rfl) (by kernel_rfl) (fun _ _ _ h => h) (Or.inl ⟨by kernel_rfl, ?hy10⟩) (by assumption) ?rest10
        case hy10 => (intro w' hSw; (try dsimp only at hSw); go_simp; all_goals with_reducible rfl)
        try simp only [Act.put, List.setIfInBounds_toArray, List.set_cons_zero, List.set_cons_succ]
        refine wpAnyH_take (i := 11) (v := ?v11) rfl (by kernel_rfl) (by kernel_rfl) (by kernel_rfl) (fun _ _ _ h => h) (Or.inl ⟨by kernel_rfl, ?hy11⟩) (by assumption) ?rest11
        case hy11 => (intro w' hSw; (try dsimp only at hSw); go_simp; all_goals with_reducible rfl)
        try simp only [Act.put, List.setIfInBounds_toArray, List.set_cons_zero, List.set_cons_succ]
        refine wpAnyH_take (i := 12) (v := ?v12) rfl (by kernel_rfl) (by kernel_rfl) (by kernel_rfl) (fun _ _ _ h => h) (Or.inl ⟨by kernel_rfl, ?hy12⟩) (by assumption) ?rest12
        case hy12 => (intro w' hSw; (try dsimp only at hSw); go_simp; all_goals with_reducible rfl)
        try simp only [Act.put, List.setIfInBounds_toArray, List.set_cons_zero, List.set_cons_succ]
        refine wpAnyH_take (i := 13) (v := ?v13) rfl (by kernel_rfl) (by kernel_rfl) (by kernel_rfl) (fun _ _ _ h => h) (Or.inl ⟨by kernel_rfl, ?hy13⟩) (by assumption) ?rest13
        case hy13 => (intro w' hSw; (try dsimp only at hSw); go_simp; all_goals with_reducible rfl)
        try simp only [Act.put, List.setIfInBounds_toArray, List.set_cons_zero, List.set_cons_succ]
        refine wpAnyH_take (i := 14) (v := ?v14) rfl (by kernel_rfl) (by kernel_rfl) (by kernel_rfl) (fun _ _ _ h => h) (Or.inl ⟨by kernel_rfl, ?hy14⟩) (by assumption) ?rest14
        case hy14 => (intro w' hSw; (try dsimp only at hSw); go_simp; all_goals with_reducible rfl)
        try simp only [Act.put, List.setIfInBounds_toArray, List.set_cons_zero, List.set_cons_succ]
        refine wpAnyH_take (i := 15) (v := ?v15) rfl (by kernel_rfl) (by kernel_rfl) (by kernel_rfl) (fun _ _ _ h => h) (Or.inl ⟨by kernel_rfl, ?hy15⟩) (by assumption) ?rest15
        case hy15 => (intro w' hSw; (try dsimp only at hSw); go_simp; all_goals with_reducible rfl)
        try simp only [Act.put, List.setIfInBounds_toArray, List.set_cons_zero, List.set_cons_succ]
        refine wpAnyH_take (i := 16) (v := ?v16) rfl (by kernel_rfl) (by kernel_rfl) (by kernel_rfl) (fun _ _ _ h => h) (Or.inl ⟨by kernel_rfl, ?hy16⟩) (by assumption) ?rest16
        case hy16 => (intro w' hSw; (try dsimp only at hSw); go_simp; all_goals with_reducible rfl)
        try simp only [Act.put, List.setIfInBounds_toArray, List.set_cons_zero, List.set_cons_succ]
        refine wpAnyH_take (i := 17) (v := ?v17) rfl (by kernel_rfl) (by kernel_rfl) (by kernel_rfl) (fun _ _ _ h => h) (Or.inl ⟨by kernel_rfl, ?hy17⟩) (by assumption) ?rest17
        case hy17 => (intro w' hSw; (try dsimp only at hSw); go_simp; all_goals with_reducible rfl)
        try simp only [Act.put, List.setIfInBounds_toArray, List.set_cons_zero, List.set_cons_succ]
        refine wpAnyH_take (i := 18) (v := ?v18) rfl (by kernel_rfl) (by kernel_rfl) (by kernel_rfl) (fun _ _ _ h => h) (Or.inl ⟨by kernel_rfl, ?hy18⟩) (by assumption) ?rest18
        case hy18 => (intro w' hSw; (try dsimp only at hSw); go_simp; all_goals with_reducible rfl)
        try simp only [Act.put, List.setIfInBounds_toArray, List.set_cons_zero, List.set_cons_succ]
        refine wpAnyH_take (i := 19) (v := ?v19) rfl (by kernel_rfl) (by kernel_rfl) (by kernel_rfl) (fun _ _ _ h => h) (Or.inl ⟨by kernel_rfl, ?hy19⟩) (by assumption) ?rest19
        case hy19 => (intro w' hSw; (try dsimp only at hSw); go_simp; all_goals with_reducible rfl)
        try simp only [Act.put, List.setIfInBounds_toArray, List.set_cons_zero, List.set_cons_succ]
        refine wpAnyH_take (i := 20) (v := undef) rfl (by kernel_rfl) (by kernel_rfl) (by kernel_rfl) (fun _ _ _ h => h) (Or.inr ⟨by kernel_rfl, rfl⟩) (by assumption) ?_
        try simp only [Act.put, List.setIfInBounds_toArray, List.set_cons_zero, List.set_cons_succ]
        refine wpAnyH_take (i := 21) (v := undef) rfl (by kernel_rfl) (by kernel_rfl) (by kernel_rfl) (fun _ _ _ h => h) (Or.inr ⟨by kernel_rfl, rfl⟩) (by assumption) ?_
        try simp only [Act.put, List.setIfInBounds_toArray, List.set_cons_zero, List.set_cons_succ]
        refine wpAnyH_take (i := 22) (v := undef) rfl (by kernel_rfl) (by kernel_rfl) (by kernel_rfl) (fun _ _ _ h => h) (Or.inr ⟨by kernel_rfl, rfl⟩) (by assumption) ?_
        try simp only [Act.put, List.setIfInBounds_toArray, List.set_cons_zero, List.set_cons_succ]
        refine wpAnyH_take (i := 23) (v := undef) rfl (by kernel_rfl) (by kernel_rfl) (by kernel_rfl) (fun _ _ _ h => h) (Or.inr ⟨by kernel_rfl, rfl⟩) (by assumption) ?_
        try simp only [Act.put, List.setIfInBounds_toArray, List.set_cons_zero, List.set_cons_succ]
        refine wpAnyH_take (i := 24) (v := undef) rfl (by kernel_rfl) (by kernel_rfl) (by kernel_rfl) (fun _ _ _ h => h) (Or.inr ⟨by kernel_rfl, rfl⟩) (by assumption) ?_
        try simp only [Act.put, List.setIfInBounds_toArray, List.set_cons_zero, List.set_cons_succ]
        refine wpAnyH_take (i := 25) (v := undef) rfl (by kernel_rfl) (by kernel_rfl) (by kernel_rfl) (fun _ _ _ h => h) (Or.inr ⟨by kernel_rfl, rfl⟩) (by assumption) ?_
        try simp only [Act.put, List.setIfInBounds_toArray, List.set_cons_zero, List.set_cons_succ]
        refine wpAnyH_take (i := 26) (v := undef) rfl (by kernel_rfl) (by kernel_rfl) (by kernel_rfl) (fun _ _ _ h => h) (Or.inr ⟨by kernel_rfl, rfl⟩) (by assumption) ?_
        try simp only [Act.put, List.setIfInBounds_toArray, List.set_cons_zero, List.set_cons_succ]
        refine wpAnyH_take (i := 27) (v := undef) rfl (by kernel_rfl) (by kernel_rfl) (by kernel_rfl) (fun _ _ _ h => h) (Or.inr ⟨by kernel_rfl, rfl⟩) (by assumption) ?_
        try simp only [Act.put, List.setIfInBounds_toArray, List.set_cons_zero, List.set_cons_succ]
        refine wpAnyH_take (i := 28) (v := ?v28) rfl (by kernel_rfl) (by kernel_rfl) (by kernel_rfl) (fun _ _ _ h => h) (Or.inl ⟨by kernel_rfl, ?hy28⟩) (by assumption) ?rest28
        case hy28 => (intro w' hSw; (try dsimp only at hSw); go_simp; all_goals with_reducible rfl)
        try simp only [Act.put, List.setIfInBounds_toArray, List.set_cons_zero, List.set_cons_succ]
        refine wpAnyH_ready (rs := [29]) (by kernel_rfl) (by simp) ?_
        refine AllReadyH.cons rfl (fun K hK => ?_) AllReadyH.nil
        go_simp
        refine hK.out _ _ ?_ (fun hHeld => ?_)
        · first | exact ⟨c0, c1, ca0, cb0⟩ | exact hHeld
        clear hK K
        try simp only [Act.put, List.setIfInBounds_toArray, List.set_cons_zero, List.set_cons_succ]
        refine wpAnyH_done (by kernel_rfl) ?_ _
        all_goals
          have HB := Lib.hid (bel_trans B0.out (bel_trans b1 b2))
          clear b1 b2
          go_wp2
          go_ret
          exact ⟨ret_bool (by first | exact HN.out.symm | (rw [HN.out]; simp; omega)), by first | exact HB.out | exact HB.out.drew⟩

end Go.Proofs.Yteemhhgioljmaaa
