/-
  Contracts of polynomials, continued: rows of differences.
-/
import Derived.Test.YtpniljcnknknoaaGreatDoorShift
import Derived.Deep.RegionHeld3
import Derived.Deep.RegionLaw
namespace Go.Proofs.YtpniljcnknknoaaGreatDoor
open Go.RowKit
set_option linter.unusedVariables false
set_option linter.unusedSimpArgs false
set_option maxRecDepth 100000

/-- 'append(x, s)', one number, as a step of a region that draws: x is the call's own. -/
theorem step_app_num {ops : Array Oper} {o : Oper} {a : Act} {K : Act → World → Prop} {Q : Exit → Act → World → Prop} {E : Prop} {w : World} (hgd : o.guard = none) (s x : Operand)
    (ho : o.op = .call { callee := .builtin .append, args := #[s, x], argTypes := #[23, 23] })
    (base : Nat) (v : Value) (l : List Int) (hs : a.eval s = v) (hown : Own w base v l) (g c : Nat) (z : Int) (hx : a.eval x = .slice (some ⟨g, 0, none⟩) 1 c)
    (hcell : w.cell? ⟨g, 0, none⟩ = some (.int .i64 z)) (hz : -9223372036854775808 ≤ z ∧ z ≤ 9223372036854775807) (hl : l.length + 1 ≤ 1099511627776) (hbase : base ≤ w.heap.size)
    (h : ∀ A c' w', Own w' base (.slice A (l.length + 1) c') (l ++ [z]) → w.grownBy w' v.ownBlock → ((Value.slice A (l.length + 1) c').ownBlock = v.ownBlock ∨ (Value.slice A (l.length + 1) c').ownBlock = some w.heap.size) → K (a.put o.dst (.slice A (l.length + 1) c')) w') :
    if Region.wanted o (yielded ops a.tmps) = true then Oper.wp Tryz.prog o a w K Q else E := by
  have hw : Region.wanted o (yielded ops a.tmps) = true := by simp [Region.wanted, hgd]
  rw [if_pos hw]
  obtain ⟨i0, hi, hz0, hz1, hz2⟩ := info_parts Tryz.infoInt
  obtain ⟨v', w', hrun, h2, h3, _, h5⟩ := run_append_own_at (P := Tryz.prog) w base 23 o.type 3 i0 _ 1 8 Tryz.underlying23 hi hz0 hz1 hz2 rfl (by omega) v l.length (iv l) hown.1 ⟨g, 0, none⟩ 1 c [.int .i64 z] rfl (by
    intro j u hj
    match j, hj with
    | 0, hj => simp at hj; subst hj; simpa [Addr.add] using hcell) (by intro u hu; simp at hu; subst hu; rfl) (by unfold maxLen; omega) (by omega) hbase
  have ho' : Own w' base v' (l ++ [z]) := by
    refine ⟨?_, ?_, by unfold maxLen; simp; omega⟩
    · rw [iv_append, List.length_append]; exact h2
    · intro n hn
      rcases List.mem_append.1 hn with hn | hn
      · exact hown.2.1 n hn
      · simp at hn; subst hn; exact hz
  obtain ⟨A', c', hv, _, _, _⟩ := ho'.ints.open_
  rw [show (l ++ [z]).length = l.length + 1 by simp] at hv
  subst hv
  unfold Oper.wp execOp
  simp only [ho, resolve, invoke, builtin, Sem.run_bind, Sem.run_pure, Result.andThen_ok, List.map_toArray, List.map_cons, List.map_nil, hs, hx, hrun]
  exact h _ _ w' ho' h3 h5

theorem nextI_bd (l : List Int) (j : Nat) (h : j < (nextI l).length) : -9223372036854775808 ≤ at_ (nextI l) j ∧ at_ (nextI l) j ≤ 9223372036854775807 := by
  rw [nextI_length] at h
  rw [nextI_gen', at_gen h]; exact wrap64_bd _
def nextTo (l : List Int) (k : Nat) : List Int := gen (fun i => wrap64 (at_ l (i + 1) - at_ l i)) k
theorem nextTo_length (l : List Int) (k : Nat) : (nextTo l k).length = k := gen_length _ _
theorem nextTo_succ (l : List Int) (k : Nat) : nextTo l (k + 1) = nextTo l k ++ [wrap64 (at_ l (k + 1) - at_ l k)] := gen_succ _ _
theorem diffsTo_length (l : List Int) (k : Nat) : (diffsTo l k).length = k := gen_length _ _
theorem diffsTo_succ (l : List Int) (k : Nat) : diffsTo l (k + 1) = diffsTo l k ++ [at_ (rowI l k) 0] := gen_succ _ _

set_option maxHeartbeats 2000000 in
theorem l2Next_any (v : Value) (l : List Int) (w : World) (hv : Ints w v l) (hl : l.length ≤ 1048576) :
    Calls Tryz.prog 222 #[v] w (IntsR w (nextI l)) := by
  obtain ⟨A, c, rfl, hlc, hc, hrd⟩ := hv.open_
  have OE := Lib.hid (Own.empty w w.heap.size (Nat.le_refl _))
  go_enter Tryz.func222, Tryz.ntmps222
  go_wp2
  go_loopw [3, 4] (fun r i wr => ∃ k : Nat, k ≤ l.length - 1 ∧ i = .int .i64 k ∧ Own wr w.heap.size r (nextTo l k) ∧ Below w.heap.size w wr) (fun _ i _ => l.length - (intOf i).toNat)
  case atStart => exact ⟨0, Nat.zero_le _, rfl, OE.out, bel_alloc _ _⟩
  case round =>
    obtain ⟨k, hk, rfl, ho, hb⟩ := hrel
    have HO := Lib.hid (And.intro ho hb)
    have hz := hb.size
    by_cases hlt : k + 1 < l.length
    · obtain ⟨b, o, rfl, hbb, hcell⟩ := hrd.ints (by omega)
      have c1 : wr.cell? ⟨b, o + k, none⟩ = some (.int .i64 (at_ l k)) := (hb.cell (by exact hbb)).trans (hcell k (by omega))
      have c2 : wr.cell? ⟨b, o + (k + 1), none⟩ = some (.int .i64 (at_ l (k + 1))) := (hb.cell (by exact hbb)).trans (hcell (k + 1) (by omega))
      have p1 : (k : Int) < (l.length : Int) := by omega
      have p2 : (k : Int) + 1 < (l.length : Int) := by omega
      have p3 : (0 : Int) ≤ (k : Int) := by omega
      have w1 : IntKind.i64.wrap ((k : Int) + 1) = (k : Int) + 1 := by rw [IntWalk.i64_in] <;> omega
      have w2 : ((k : Int) + 1).toNat = k + 1 := by omega
      have w3 : (0 : Int) ≤ (k : Int) + 1 := by omega
      have hbr : b < wr.heap.size := by omega
      have D := Lib.hid (And.intro (hcell k (by omega)) (hcell (k + 1) hlt))
      clear ho hb hcell
      have tok1 : True := trivial
      have wz : IntKind.i64.wrap (at_ l (k + 1) - at_ l k) = wrap64 (at_ l (k + 1) - at_ l k) := IntWalk.i64_left _
      go_wp2
      go_region_held3 (fun w' => w'.cell? ⟨b, o + k, none⟩ = some (.int .i64 (at_ l k)) ∧ w'.cell? ⟨b, o + (k + 1), none⟩ = some (.int .i64 (at_ l (k + 1)))) (first | exact ⟨c1, c2⟩ | exact ⟨(B5.cell (by exact hbb)).trans D.out.1, (B5.cell (by exact hbb)).trans D.out.2⟩ | exact ⟨((bel_alloc _ _).cell (by exact hbr)).trans c1, ((bel_alloc _ _).cell (by exact hbr)).trans c2⟩ | go_keep) (first
        | (have _t := tok1; go_loud (refine step_app_num rfl (.tmp 13) (.tmp 24) (by rfl) w.heap.size _ (nextTo l k) (by rfl) (by first | exact HO.out.1.bel (bel_alloc _ _) | exact HO.out.1.bel ((bel_alloc _ _).drew) | exact HO.out.1.bel (((Below.refl _ _).drew).alloc (Nat.le_refl _) _)) _ _ (wrap64 (at_ l (k + 1) - at_ l k)) (by rfl) (by first | exact new_cell _ _ _ | (show (World.alloc _ _).cell? _ = _; exact new_cell _ _ _)) (wrap64_bd _) (by rw [nextTo_length]; omega) (by first | (simp; omega) | omega) ?_; intro A5 c5 w5 ho hg hat; have B5 : Below w.heap.size w w5 := (by first | exact app_bel (bel_trans HO.out.2 (bel_alloc _ _)) (HO.out.1.bel (bel_alloc _ _)) hg | exact app_bel (bel_trans HO.out.2 ((bel_alloc _ _).drew)) (HO.out.1.bel ((bel_alloc _ _).drew)) hg | exact app_bel (bel_trans HO.out.2 (((Below.refl _ _).drew).alloc (Nat.le_refl _) _)) (HO.out.1.bel (((Below.refl _ _).drew).alloc (Nat.le_refl _) _)) hg); clear tok1))
        | fail)
      go_wp2
      go_roundw
      case rel => exact ⟨k + 1, by omega, by go_num, by rw [nextTo_succ]; exact ho, B5⟩
      case measure => simp [intOf]; omega
    · have hkl : k = l.length - 1 := by omega
      clear ho hb
      go_wp2
      go_ret
      exact ⟨_, rfl, by rw [nextI_gen', ← hkl]; exact HO.out.1, HO.out.2⟩

/-- Where the first differences stand: the row, the result, which lie apart. -/
structure StD (w : World) (l : List Int) (j : Nat) (r x : Value) (wr : World) : Prop where
  own : Own wr w.heap.size r (diffsTo l j)
  row : Ints wr x (rowI l j)
  off : OffI x (rowI l j) (fun k => r.ownBlock ≠ some k)
  bel : Below w.heap.size w wr

set_option maxHeartbeats 2000000 in
theorem l2Diffs_any (v : Value) (l : List Int) (w : World) (hv : Ints w v l) (hl : l.length ≤ 1048576) :
    Calls Tryz.prog 212 #[v] w (IntsR w (diffsI l)) := by
  have HV := Lib.hid hv
  obtain ⟨A, c, rfl, hlc, hc, -⟩ := hv.open_
  have OE := Lib.hid (Own.empty w w.heap.size (Nat.le_refl _))
  have OO := Lib.hid hv.offI
  clear hv
  go_enter Tryz.func212, Tryz.ntmps212
  go_wp2
  go_loopw [0, 3] (fun row r wr => ∃ j : Nat, j ≤ l.length ∧ StD w l j r row wr) (fun row _ _ => slen row)
  case atStart =>
    refine ⟨0, Nat.zero_le _, ⟨OE.out, HV.out.bel (bel_alloc _ _), OO.out.mono fun k hk e => ?_, bel_alloc _ _⟩⟩
    simp [Value.ownBlock] at e; omega
  case round =>
    obtain ⟨j, hj, st⟩ := hrel
    have hlen := Lib.hid (rowI_length l j)
    obtain ⟨A1, c1, rfl, -, hc1, hrd⟩ := st.row.open_
    have ST := Lib.hid st
    have hz := st.bel.size
    clear st
    obtain ⟨q, hq⟩ : ∃ q, q = l.length - j := ⟨_, rfl⟩
    rw [← hq] at hlen
    rw [hlen.out] at ST ⊢
    have hq1 : q ≤ l.length - j := by omega
    have hq2 : l.length - j ≤ q := by omega
    clear hq
    by_cases hlt : j < l.length
    · obtain ⟨b, o, rfl, hbb, hcell⟩ := hrd.ints (by rw [hlen.out]; omega)
      have c2 := hcell 0 (by rw [hlen.out]; omega)
      rw [Nat.add_zero] at c2
      have hwf := ST.out.row.2.at (rowI l j) 0
      have p1 : (0 : Int) < (q : Int) := by omega
      clear hcell hrd
      go_wp2_with (at_builtin; refine app_int rfl (.tmp 8) (.tmp 12) (by rfl) w.heap.size _ _ (by rfl) (by exact ST.out.own.bel (bel_alloc _ _)) _ _ _ (by rfl) (by exact new_cell _ _ _) hwf (by rw [diffsTo_length]; omega) (by simp; omega) ?_; intro v1 w1 ho hg hat)
      have hr1 : Ints w1 (.slice (some ⟨b, o, none⟩) q c1) (rowI l j) := by
        have q := (ST.out.row.bel (bel_alloc _ _)).rowFar hg (ST.out.off.mono fun k hk e => hk e.symm)
        exact q
      have hb1 := app_bel (bel_trans ST.out.bel (bel_alloc _ _)) (ST.out.own.bel (bel_alloc _ _)) hg
      have H1 := Lib.hid (And.intro ho hb1)
      clear ho hb1 hg hat c2 hwf
      refine (l2Next_any _ (rowI l j) _ hr1 (by rw [hlen.out]; omega)).mono ?_
      rintro e w2 ⟨r2, rfl, o2, b2⟩
      have H2 := Lib.hid (And.intro o2 b2)
      clear o2 b2
      go_wp2
      have o2 := H2.out.1
      have b2 := H2.out.2
      go_roundw
      case rel =>
        refine ⟨j + 1, by omega, ⟨by rw [diffsTo_succ]; exact H1.out.1.bel b2, o2.ints, o2.offI.mono fun k hk e => ?_, bel_trans H1.out.2 b2⟩⟩
        have := (H1.out.1.lt k e).2
        omega
      case measure => rw [o2.ints.slen, nextI_length, hlen.out]; simp [slen]; omega
    · have hjl : j = l.length := by omega
      have p1 : ¬ (0 : Int) < (q : Int) := by omega
      go_wp2
      go_ret
      exact ⟨_, rfl, by rw [diffsI]; rw [hjl] at ST; exact ST.out.own, ST.out.bel⟩

set_option maxHeartbeats 2000000 in
theorem firstDiff_any (v : Value) (l : List Int) (w : World) (hv : Ints w v l) (hl : l.length ≤ 1048576) :
    Calls Tryz.prog 217 #[v] w (IntsR w (diffsI l)) := by
  have HV := Lib.hid hv
  obtain ⟨A, c, rfl, hlc, hc, -⟩ := hv.open_
  obtain ⟨i0, hi, hz0, hz1, hz2⟩ := info_parts Tryz.infoInt
  obtain ⟨w0, hrun, hown0, hg0⟩ := run_make_own (P := Tryz.prog) w w.heap.size 23 3 i0 _ 1 Tryz.underlying23 hi hz0 hz1 .i64 .i64 l.length (by rw [hz2]; omega) (by unfold maxLen; omega) (Nat.le_refl _)
  have OE := Lib.hid (show Own w0 w.heap.size (.slice (some ⟨w.heap.size, 0, none⟩) 0 l.length) [] from ⟨hown0, fun _ h => by simp at h, by simp⟩)
  have OB := Lib.hid (show Below w.heap.size w w0 from ⟨hg0.os, hg0.tape, hg0.output, hg0.size, fun k hk => hg0.block k hk (by simp)⟩)
  have OO := Lib.hid hv.offI
  clear hv hown0 hg0
  go_enter Tryz.func217, Tryz.ntmps217
  go_wp2
  go_loopw [3, 4] (fun r row wr => ∃ j : Nat, j ≤ l.length ∧ StD w l j r row wr) (fun _ row _ => slen row)
  case atStart =>
    refine ⟨0, Nat.zero_le _, ⟨OE.out, HV.out.bel OB.out, OO.out.mono fun k hk e => ?_, OB.out⟩⟩
    simp [Value.ownBlock] at e; omega
  case round =>
    obtain ⟨j, hj, st⟩ := hrel
    have hlen := Lib.hid (rowI_length l j)
    obtain ⟨A1, c1, rfl, -, hc1, hrd⟩ := st.row.open_
    have ST := Lib.hid st
    have hz := st.bel.size
    clear st
    obtain ⟨q, hq⟩ : ∃ q, q = l.length - j := ⟨_, rfl⟩
    rw [← hq] at hlen
    rw [hlen.out] at ST ⊢
    have hq1 : q ≤ l.length - j := by omega
    have hq2 : l.length - j ≤ q := by omega
    clear hq
    by_cases hlt : j < l.length
    · obtain ⟨b, o, rfl, hbb, hcell⟩ := hrd.ints (by rw [hlen.out]; omega)
      have c2 := hcell 0 (by rw [hlen.out]; omega)
      rw [Nat.add_zero] at c2
      have hwf := ST.out.row.2.at (rowI l j) 0
      have p1 : (0 : Int) < (q : Int) := by omega
      clear hcell hrd
      go_wp2_with (at_builtin; refine app_int rfl (.tmp 14) (.tmp 18) (by rfl) w.heap.size _ _ (by rfl) (by exact ST.out.own.bel (bel_alloc _ _)) _ _ _ (by rfl) (by exact new_cell _ _ _) hwf (by rw [diffsTo_length]; omega) (by simp; omega) ?_; intro v1 w1 ho hg hat)
      have hr1 : Ints w1 (.slice (some ⟨b, o, none⟩) q c1) (rowI l j) := by
        have q := (ST.out.row.bel (bel_alloc _ _)).rowFar hg (ST.out.off.mono fun k hk e => hk e.symm)
        exact q
      have hb1 := app_bel (bel_trans ST.out.bel (bel_alloc _ _)) (ST.out.own.bel (bel_alloc _ _)) hg
      have H1 := Lib.hid (And.intro ho hb1)
      clear ho hb1 hg hat c2 hwf
      refine (neighbors_any _ (rowI l j) _ hr1 (by rw [hlen.out]; omega)).mono ?_
      rintro e w2 ⟨r2, rfl, o2, b2⟩
      have H2 := Lib.hid (And.intro o2 b2)
      clear o2 b2
      go_wp2
      have o2 := H2.out.1
      have b2 := H2.out.2
      go_roundw
      case rel =>
        refine ⟨j + 1, by omega, ⟨by rw [diffsTo_succ]; exact H1.out.1.bel b2, o2.ints, o2.offI.mono fun k hk e => ?_, bel_trans H1.out.2 b2⟩⟩
        have := (H1.out.1.lt k e).2
        omega
      case measure => rw [o2.ints.slen, nextI_length, hlen.out]; simp [slen]; omega
    · have hjl : j = l.length := by omega
      have p1 : ¬ (0 : Int) < (q : Int) := by omega
      go_wp2
      go_ret
      exact ⟨_, rfl, by rw [diffsI]; rw [hjl] at ST; exact ST.out.own, ST.out.bel⟩

end Go.Proofs.YtpniljcnknknoaaGreatDoor
