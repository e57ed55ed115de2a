/-
  Two drawn engines: l7Two (made by gen_two.py).
-/
import Derived.Test.YteemhhgioljmaaaCascS
import Derived.Test.YteemhhgioljmaaaBadB
namespace Go.Proofs.Yteemhhgioljmaaa
open Go.RowKit
set_option linter.unusedVariables false
set_option linter.unusedSimpArgs false
set_option maxRecDepth 100000
attribute [local go_sem ↓] Go.wp_at_zero Go.wp_at_succ

def dropB (l : List ByteArray) (n : Nat) : List ByteArray := l.drop n
def takeB (l : List ByteArray) (n : Nat) : List ByteArray := l.take n
theorem splitD_any (v : Value) (l : List ByteArray) (n : Nat) (w : World) (hv : Strs w v l) (hl : l.length ≤ 1000000) (n1 : 1 ≤ n) (n2 : n < l.length) :
    Calls Try.prog 131 #[.agg #[v], .int .i64 n] w (PairEng w (dropB l n) (takeB l n)) := l7Split_any v l n w hv hl n1 n2
theorem StS.rowB {w : World} {g K : Nat} {v : Value} {l : List ByteArray} {W W' : World} (h : StS w g K v l W) (hb : W.grownBy W' (some g)) : Strs W' v l :=
  (h.own.far hb (fun k hk => by injection hk with hk; have := h.lt; omega)).strs
/-- Two drawn engines of one's own. -/
def DrawnPairE (g K' : Nat) (w : World) (e : Ending) (w' : World) : Prop :=
  ∃ r s a b, e = .returned (.tuple #[.agg #[r], .agg #[s]]) ∧ OwnS w' w.heap.size r a ∧ OwnS w' w.heap.size s b ∧ (∀ k, r.ownBlock = some k → s.ownBlock ≠ some k) ∧ (1 ≤ a.length ∧ a.length ≤ 7) ∧ (1 ≤ b.length ∧ b.length ≤ 7) ∧ (∀ x ∈ a, x.size ≤ 12) ∧ (∀ x ∈ b, x.size ≤ 12) ∧ Rdr w' g K' ∧ w.grownBy w' (some g)

theorem two_end {w wl : World} {g K : Nat} {r s : Value} {a b : List ByteArray} (hg : g < w.heap.size) (o1 : OwnS wl (w.heap.size + 1 + 1) r a) (o2 : OwnS wl (w.heap.size + 1 + 1) s b) (hr : Rdr wl g K) (hgr : w.grownBy wl (some g)) :
    OwnS ((wl.setCell ⟨w.heap.size, 0, none⟩ r).setCell ⟨w.heap.size + 1, 0, none⟩ s) w.heap.size r a ∧ OwnS ((wl.setCell ⟨w.heap.size, 0, none⟩ r).setCell ⟨w.heap.size + 1, 0, none⟩ s) w.heap.size s b ∧ Rdr ((wl.setCell ⟨w.heap.size, 0, none⟩ r).setCell ⟨w.heap.size + 1, 0, none⟩ s) g K ∧ w.grownBy ((wl.setCell ⟨w.heap.size, 0, none⟩ r).setCell ⟨w.heap.size + 1, 0, none⟩ s) (some g) := by
  have g1 : wl.grownBy (wl.setCell ⟨w.heap.size, 0, none⟩ r) (some w.heap.size) := only_setCell (World.grownBy.refl wl (some w.heap.size)) (.inl rfl) r
  have g2 : (wl.setCell ⟨w.heap.size, 0, none⟩ r).grownBy ((wl.setCell ⟨w.heap.size, 0, none⟩ r).setCell ⟨w.heap.size + 1, 0, none⟩ s) (some (w.heap.size + 1)) := only_setCell (World.grownBy.refl _ (some (w.heap.size + 1))) (.inl rfl) s
  exact ⟨((o1.setCell _ _ (by show w.heap.size < w.heap.size + 1 + 1; omega)).setCell _ _ (by show w.heap.size + 1 < w.heap.size + 1 + 1; omega)).lower (by omega),
    ((o2.setCell _ _ (by show w.heap.size < w.heap.size + 1 + 1; omega)).setCell _ _ (by show w.heap.size + 1 < w.heap.size + 1 + 1; omega)).lower (by omega),
    (hr.grown g1 (fun k hk => by injection hk with hk; omega)).grown g2 (fun k hk => by injection hk with hk; omega),
    grown_trans (grown_trans hgr g1 (fun j hj => .inr (by injection hj with hj; omega))) g2 (fun j hj => .inr (by injection hj with hj; omega))⟩

set_option maxHeartbeats 8000000 in
theorem l7Two_any (g K : Nat) (w : World) (hr : Rdr w g K) (hK : K ≤ 1000000) :
    Calls Try.prog 139 #[.pointer (some ⟨g, 0, none⟩)] w (DrawnPairE g (K + 1000) w) := by
  have hgw := hr.lt
  have bW : Below w.heap.size w ((w.alloc (.cells #[.slice none 0 0] 29)).alloc (.cells #[.slice none 0 0] 29)) := (bel_alloc w _).alloc (by simp) _
  have K2 := (Blk.new' w 29 (.slice none 0 0) w.heap.size rfl).alloc (.cells #[.slice none 0 0] 29)
  have K3 := Blk.new' (w.alloc (.cells #[.slice none 0 0] 29)) 29 (.slice none 0 0) (w.heap.size + 1) (by simp)
  have HR := Lib.hid (hr.bel bW)
  have HG0 := Lib.hid (only_below (World.grownBy.refl w (some g)) bW)
  clear hr
  go_enter Try.func139, Try.ntmps139
  go_wp2_with fail
  generalize hW : (w.alloc (.cells #[.slice none 0 0] 29)).alloc (.cells #[.slice none 0 0] 29) = W at *
  have hwz : W.heap.size = w.heap.size + 1 + 1 := by rw [← hW]; simp
  clear hW
  refine (l3Some_any g K _ HR.out (by omega)).mono ?_
  rintro e w1 ⟨v, l, rfl, ho, l1, l7, hsz, hr1, hg1⟩
  replace K2 := K2.grown hg1 (fun e => by injection e with e; omega)
  replace K3 := K3.grown hg1 (fun e => by injection e with e; omega)
  have z1 := hg1.size
  have S1 := Lib.hid (show StS W g (K + 300) v l w1 from ⟨ho, hr1, hg1, by omega⟩)
  have HZ := Lib.hid hsz
  obtain ⟨A1, c1, rfl, -, -, -⟩ := ho.strs.open_
  have hne1 : ∀ j, (Value.slice A1 l.length c1).ownBlock = some j → j ≠ w1.heap.size := fun j hj => by have := (ho.lt j hj).2; omega
  have ba := bel_alloc w1 (.cells #[.slice A1 l.length c1] 29)
  replace S1 := Lib.hid (S1.out.bel ba)
  replace K2 := K2.below ba K2.lt
  replace K3 := K3.below ba K3.lt
  have K4 := Blk.new' w1 29 (.slice A1 l.length c1) w1.heap.size rfl
  obtain ⟨b4, hb4e⟩ : ∃ b4, b4 = w1.heap.size := ⟨_, rfl⟩
  have hb4 : W.heap.size ≤ b4 := by omega
  have HI := Lib.hid (And.intro S1.out (And.intro K2 (And.intro K3 (And.intro K4 hne1))))
  clear ho hsz hr1 hg1 HR ba S1 K2 K3 K4 hne1
  go_wp2_with fail
  generalize hX : w1.alloc (.cells #[.slice A1 l.length c1] 29) = X at *
  rw [← hb4e] at HI ⊢
  clear hX hb4e z1
  go_loopw [] (fun wr => ∃ (x : Value) (l5 : List ByteArray), 1 ≤ l5.length ∧ l5.length ≤ 7 ∧ Hid (∀ s ∈ l5, 1 ≤ s.size ∧ s.size ≤ 12) ∧ StS W g (K + 300 + 30 * l5.length) x l5 wr ∧ Blk wr w.heap.size 29 [.slice none 0 0] ∧ Blk wr (w.heap.size + 1) 29 [.slice none 0 0] ∧ Blk wr b4 29 [x] ∧ (∀ j, x.ownBlock = some j → j ≠ b4))
    (fun wr => match wr.cell? ⟨b4, 0, none⟩ with | some (.slice _ n _) => 10 - n | _ => 0)
  case atStart => exact ⟨_, l, l1, l7, HZ, ⟨HI.out.1.own, HI.out.1.rdr.more (by omega), HI.out.1.gr, HI.out.1.lt⟩, HI.out.2.1, HI.out.2.2.1, HI.out.2.2.2.1, HI.out.2.2.2.2⟩
  case round =>
    clear HI HZ
    obtain ⟨x, l5, h1, h7, HW, hst, K2, K3, K4, hne⟩ := hrel
    obtain ⟨w5, rfl⟩ : ∃ w5, w5 = wr := ⟨wr, rfl⟩
    rcases hst.own.form with ⟨_, q0⟩ | ⟨b5, c5, cs5, rfl, hb5, hbl5, hlc5, hcm5, -, -⟩
    · exfalso; rw [q0] at h1; simp at h1
    have hb5z := hbl5.lt
    have hne5 := hne b5 rfl
    have k4 := K4.lt
    have hz5 := hst.gr.size
    have hgW := hst.lt
    have HS := Lib.hid hst
    clear hst hbl5 hne
    by_cases h2 : l5.length < 2
    · have h2' : (l5.length : Int) < 2 := by omega
      have hl1 : l5.length = 1 := by omega
      have HL1 := Lib.hid hl1
      have na : ¬ l5 = [] := by intro e; rw [e] at h1; simp at h1
      have pa2 : 0 < l5.length := by omega
      have pa : (0 : Int) < (l5.length : Int) := by omega
      have HW0 := Lib.hid (HW.out _ (sat_mem l5 0 (by omega)))
      clear hl1
      obtain ⟨e4, f4⟩ := K4.one
      go_wp2_with fail
      clear f4
      have K40 := K4
      refine cut_by (P := ?Pp_1_4_6_8_9_10_12) ?hkp_1_4_6_8_9_10_12 (fun keyp_1_4_6_8_9_10_12 => ?mainp_1_4_6_8_9_10_12)
      case mainp_1_4_6_8_9_10_12 =>
        replace keyp_1_4_6_8_9_10_12 := Lib.hid keyp_1_4_6_8_9_10_12
        refine cut_by (P := ?Pp_1_4_6_8_9_10) ?hkp_1_4_6_8_9_10 (fun keyp_1_4_6_8_9_10 => ?mainp_1_4_6_8_9_10)
        case mainp_1_4_6_8_9_10 =>
          replace keyp_1_4_6_8_9_10 := Lib.hid keyp_1_4_6_8_9_10
          refine cut_by (P := ?Pp_1_4_6_8_9) ?hkp_1_4_6_8_9 (fun keyp_1_4_6_8_9 => ?mainp_1_4_6_8_9)
          case mainp_1_4_6_8_9 =>
            replace keyp_1_4_6_8_9 := Lib.hid keyp_1_4_6_8_9
            refine cut_by (P := ?Pp_4_6_8_9) ?hkp_4_6_8_9 (fun keyp_4_6_8_9 => ?mainp_4_6_8_9)
            case mainp_4_6_8_9 =>
              replace keyp_4_6_8_9 := Lib.hid keyp_4_6_8_9
              refine cut_by (P := ?Pp_1_4_6_8) ?hkp_1_4_6_8 (fun keyp_1_4_6_8 => ?mainp_1_4_6_8)
              case mainp_1_4_6_8 =>
                replace keyp_1_4_6_8 := Lib.hid keyp_1_4_6_8
                refine cut_by (P := ?Pp_4_6_8) ?hkp_4_6_8 (fun keyp_4_6_8 => ?mainp_4_6_8)
                case mainp_4_6_8 =>
                  replace keyp_4_6_8 := Lib.hid keyp_4_6_8
                  refine cut_by (P := ?Pp_1_4_6) ?hkp_1_4_6 (fun keyp_1_4_6 => ?mainp_1_4_6)
                  case mainp_1_4_6 =>
                    replace keyp_1_4_6 := Lib.hid keyp_1_4_6
                    refine cut_by (P := ?Pp_4_6) ?hkp_4_6 (fun keyp_4_6 => ?mainp_4_6)
                    case mainp_4_6 =>
                      replace keyp_4_6 := Lib.hid keyp_4_6
                      refine cut_by (P := ?Pp_1_4) ?hkp_1_4 (fun keyp_1_4 => ?mainp_1_4)
                      case mainp_1_4 =>
                        replace keyp_1_4 := Lib.hid keyp_1_4
                        refine cut_by (P := ?Pp_4) ?hkp_4 (fun keyp_4 => ?mainp_4)
                        case mainp_4 =>
                          replace keyp_4 := Lib.hid keyp_4
                          refine cut_by (P := ?Pp_1) ?hkp_1 (fun keyp_1 => ?mainp_1)
                          case mainp_1 =>
                            replace keyp_1 := Lib.hid keyp_1
                            refine wp_region_held_drew (S := (fun _ => True)) (by kernel_rfl) ?_ (fun hS => ?_)
                            · skip
                              trivial
                            replace HS := Lib.hid (HS.out.bel (Below.refl _ _).drew)
                            replace K2 := K2.below ((Below.refl _ _).drew) K2.lt
                            replace K3 := K3.below ((Below.refl _ _).drew) K3.lt
                            replace K4 := K4.below ((Below.refl _ _).drew) K4.lt
                            generalize hW : w5.drew = wr at *
                            clear hW
                            refine wpAnyH_take (i := 0) (oi := { dst := some 13, op := Op.fieldAddr 29 (Operand.tmp 4) 0, type := 0, pos := "l7_pairs.go:287", after := #[], guard := none }) (v := ?vp_1) rfl (by kernel_rfl) (by kernel_rfl) (by kernel_rfl) (fun _ _ _ h => h) (Or.inl ⟨by rfl, ?hyp_1⟩) hS ?restp_1
                            case hyp_1 => (intro w' hSw; (try dsimp only at hSw); go_simp; all_goals with_reducible rfl)
                            (try simp only [Act.put, List.setIfInBounds_toArray, List.set_cons_zero, List.set_cons_succ])
                            refine wpAnyH_take (i := 2) (oi := { dst := some 15, op := Op.move (Operand.tmp 0), type := 96, pos := "l7_pairs.go:287", after := #[], guard := none }) (v := ?vp_2) rfl (by kernel_rfl) (by kernel_rfl) (by kernel_rfl) (fun _ _ _ h => h) (Or.inl ⟨by rfl, ?hyp_2⟩) hS ?restp_2
                            case hyp_2 => (intro w' hSw; (try dsimp only at hSw); go_simp; all_goals with_reducible rfl)
                            (try simp only [Act.put, List.setIfInBounds_toArray, List.set_cons_zero, List.set_cons_succ])
                            refine wpAnyH_take (i := 3) (oi := { dst := some 16, op := Op.fieldAddr 29 (Operand.tmp 4) 0, type := 0, pos := "l7_pairs.go:287", after := #[], guard := none }) (v := ?vp_3) rfl (by kernel_rfl) (by kernel_rfl) (by kernel_rfl) (fun _ _ _ h => h) (Or.inl ⟨by rfl, ?hyp_3⟩) hS ?restp_3
                            case hyp_3 => (intro w' hSw; (try dsimp only at hSw); go_simp; all_goals with_reducible rfl)
                            (try simp only [Act.put, List.setIfInBounds_toArray, List.set_cons_zero, List.set_cons_succ])
                            refine wpAnyH_listed (l' := #[true, false, true, true, false, false, false, false, false, false, false, false, false]) (by kernel_rfl) ?_
                            clear hS
                            refine wpAnyH_ready (rs := [1, 4]) (by kernel_rfl) (by simp) ?_
                            refine AllReadyH.cons (o := { dst := some 14, op := Op.load 27 (Operand.tmp 13), type := 27, pos := "l7_pairs.go:287", after := #[{ on := 0, ground := Ground.data }], guard := none }) rfl (fun K hK => ?_) ?_
                            · skip
                              obtain ⟨e4, -⟩ := K4.one
                              go_simp
                              clear e4
                              obtain ⟨wn, hwn⟩ : ∃ wn, wn = wr := ⟨wr, rfl⟩
                              subst hwn
                              refine hK.out _ _ (by first | exact trivial | (dsimp only; exact trivial)) (fun hS => ?_)
                              clear hK K
                              (try simp only [Act.put, List.setIfInBounds_toArray, List.set_cons_zero, List.set_cons_succ])
                              refine wpAnyH_listed (l' := #[true, true, true, true, false, false, false, false, false, false, false, false, false]) (by kernel_rfl) ?_
                              clear hS
                              (try clear hwx)
                              revert K4; revert K3; revert K2; revert HS
                              revert wn
                              exact keyp_1.out
                            refine AllReadyH.cons (o := { dst := some 17, op := Op.load 27 (Operand.tmp 16), type := 27, pos := "l7_pairs.go:287", after := #[{ on := 3, ground := Ground.data }], guard := none }) rfl (fun K hK => ?_) ?_
                            · skip
                              obtain ⟨e4, -⟩ := K4.one
                              go_simp
                              clear e4
                              obtain ⟨wn, hwn⟩ : ∃ wn, wn = wr := ⟨wr, rfl⟩
                              subst hwn
                              refine hK.out _ _ (by first | exact trivial | (dsimp only; exact trivial)) (fun hS => ?_)
                              clear hK K
                              (try simp only [Act.put, List.setIfInBounds_toArray, List.set_cons_zero, List.set_cons_succ])
                              refine wpAnyH_take (i := 5) (oi := { dst := some 18, op := Op.indexAddr 27 (Operand.tmp 17) (Operand.const (Value.int IntKind.i64 0)), type := 0, pos := "l7_pairs.go:287", after := #[{ on := 4, ground := Ground.data }], guard := none }) (v := ?vp_4) rfl (by kernel_rfl) (by kernel_rfl) (by kernel_rfl) (fun _ _ _ h => h) (Or.inl ⟨by rfl, ?hyp_4⟩) hS ?restp_4
                              case hyp_4 => (intro w' hSw; (try dsimp only at hSw); go_simp; all_goals with_reducible rfl)
                              (try simp only [Act.put, List.setIfInBounds_toArray, List.set_cons_zero, List.set_cons_succ])
                              refine wpAnyH_listed (l' := #[true, false, true, true, true, true, false, false, false, false, false, false, false]) (by kernel_rfl) ?_
                              clear hS
                              (try clear hwx)
                              revert K4; revert K3; revert K2; revert HS
                              revert wn
                              exact keyp_4.out
                            exact AllReadyH.nil
                          case hkp_1 =>
                            intro wr HS K2 K3 K4
                            refine wpAnyH_ready (rs := [4]) (by kernel_rfl) (by simp) ?_
                            refine AllReadyH.cons (o := { dst := some 17, op := Op.load 27 (Operand.tmp 16), type := 27, pos := "l7_pairs.go:287", after := #[{ on := 3, ground := Ground.data }], guard := none }) rfl (fun K hK => ?_) ?_
                            · skip
                              obtain ⟨e4, -⟩ := K4.one
                              go_simp
                              clear e4
                              obtain ⟨wn, hwn⟩ : ∃ wn, wn = wr := ⟨wr, rfl⟩
                              subst hwn
                              refine hK.out _ _ (by first | exact trivial | (dsimp only; exact trivial)) (fun hS => ?_)
                              clear hK K
                              (try simp only [Act.put, List.setIfInBounds_toArray, List.set_cons_zero, List.set_cons_succ])
                              refine wpAnyH_take (i := 5) (oi := { dst := some 18, op := Op.indexAddr 27 (Operand.tmp 17) (Operand.const (Value.int IntKind.i64 0)), type := 0, pos := "l7_pairs.go:287", after := #[{ on := 4, ground := Ground.data }], guard := none }) (v := ?vp_5) rfl (by kernel_rfl) (by kernel_rfl) (by kernel_rfl) (fun _ _ _ h => h) (Or.inl ⟨by rfl, ?hyp_5⟩) hS ?restp_5
                              case hyp_5 => (intro w' hSw; (try dsimp only at hSw); go_simp; all_goals with_reducible rfl)
                              (try simp only [Act.put, List.setIfInBounds_toArray, List.set_cons_zero, List.set_cons_succ])
                              refine wpAnyH_listed (l' := #[true, true, true, true, true, true, false, false, false, false, false, false, false]) (by kernel_rfl) ?_
                              clear hS
                              (try clear hwx)
                              revert K4; revert K3; revert K2; revert HS
                              revert wn
                              exact keyp_1_4.out
                            exact AllReadyH.nil
                        case hkp_4 =>
                          intro wr HS K2 K3 K4
                          refine wpAnyH_ready (rs := [1, 6]) (by kernel_rfl) (by simp) ?_
                          refine AllReadyH.cons (o := { dst := some 14, op := Op.load 27 (Operand.tmp 13), type := 27, pos := "l7_pairs.go:287", after := #[{ on := 0, ground := Ground.data }], guard := none }) rfl (fun K hK => ?_) ?_
                          · skip
                            obtain ⟨e4, -⟩ := K4.one
                            go_simp
                            clear e4
                            obtain ⟨wn, hwn⟩ : ∃ wn, wn = wr := ⟨wr, rfl⟩
                            subst hwn
                            refine hK.out _ _ (by first | exact trivial | (dsimp only; exact trivial)) (fun hS => ?_)
                            clear hK K
                            (try simp only [Act.put, List.setIfInBounds_toArray, List.set_cons_zero, List.set_cons_succ])
                            refine wpAnyH_listed (l' := #[true, true, true, true, true, true, false, false, false, false, false, false, false]) (by kernel_rfl) ?_
                            clear hS
                            (try clear hwx)
                            revert K4; revert K3; revert K2; revert HS
                            revert wn
                            exact keyp_1_4.out
                          refine AllReadyH.cons (o := { dst := some 19, op := Op.load 9 (Operand.tmp 18), type := 9, pos := "l7_pairs.go:287", after := #[{ on := 5, ground := Ground.data }], guard := none }) rfl (fun K hK => ?_) ?_
                          · skip
                            obtain ⟨e4, -⟩ := (HS.out.at (j := 0) (by omega))
                            go_simp
                            clear e4
                            obtain ⟨wn, hwn⟩ : ∃ wn, wn = wr := ⟨wr, rfl⟩
                            subst hwn
                            refine hK.out _ _ (by first | exact trivial | (dsimp only; exact trivial)) (fun hS => ?_)
                            clear hK K
                            (try simp only [Act.put, List.setIfInBounds_toArray, List.set_cons_zero, List.set_cons_succ])
                            refine wpAnyH_take (i := 7) (oi := { dst := some 20, op := Op.call { callee := Callee.builtin Builtin.len, args := #[Operand.tmp 19], argTypes := #[9] }, type := 3, pos := "l7_pairs.go:287", after := #[{ on := 6, ground := Ground.data }], guard := none }) (v := ?vp_6) rfl (by kernel_rfl) (by kernel_rfl) (by kernel_rfl) (fun _ _ _ h => h) (Or.inl ⟨by rfl, ?hyp_6⟩) hS ?restp_6
                            case hyp_6 => (intro w' hSw; (try dsimp only at hSw); go_simp; all_goals with_reducible rfl)
                            (try simp only [Act.put, List.setIfInBounds_toArray, List.set_cons_zero, List.set_cons_succ])
                            refine wpAnyH_listed (l' := #[true, false, true, true, true, true, true, true, false, false, false, false, false]) (by kernel_rfl) ?_
                            clear hS
                            (try clear hwx)
                            revert K4; revert K3; revert K2; revert HS
                            revert wn
                            exact keyp_4_6.out
                          exact AllReadyH.nil
                      case hkp_1_4 =>
                        intro wr HS K2 K3 K4
                        refine wpAnyH_ready (rs := [6]) (by kernel_rfl) (by simp) ?_
                        refine AllReadyH.cons (o := { dst := some 19, op := Op.load 9 (Operand.tmp 18), type := 9, pos := "l7_pairs.go:287", after := #[{ on := 5, ground := Ground.data }], guard := none }) rfl (fun K hK => ?_) ?_
                        · skip
                          obtain ⟨e4, -⟩ := (HS.out.at (j := 0) (by omega))
                          go_simp
                          clear e4
                          obtain ⟨wn, hwn⟩ : ∃ wn, wn = wr := ⟨wr, rfl⟩
                          subst hwn
                          refine hK.out _ _ (by first | exact trivial | (dsimp only; exact trivial)) (fun hS => ?_)
                          clear hK K
                          (try simp only [Act.put, List.setIfInBounds_toArray, List.set_cons_zero, List.set_cons_succ])
                          refine wpAnyH_take (i := 7) (oi := { dst := some 20, op := Op.call { callee := Callee.builtin Builtin.len, args := #[Operand.tmp 19], argTypes := #[9] }, type := 3, pos := "l7_pairs.go:287", after := #[{ on := 6, ground := Ground.data }], guard := none }) (v := ?vp_7) rfl (by kernel_rfl) (by kernel_rfl) (by kernel_rfl) (fun _ _ _ h => h) (Or.inl ⟨by rfl, ?hyp_7⟩) hS ?restp_7
                          case hyp_7 => (intro w' hSw; (try dsimp only at hSw); go_simp; all_goals with_reducible rfl)
                          (try simp only [Act.put, List.setIfInBounds_toArray, List.set_cons_zero, List.set_cons_succ])
                          refine wpAnyH_listed (l' := #[true, true, true, true, true, true, true, true, false, false, false, false, false]) (by kernel_rfl) ?_
                          clear hS
                          (try clear hwx)
                          revert K4; revert K3; revert K2; revert HS
                          revert wn
                          exact keyp_1_4_6.out
                        exact AllReadyH.nil
                    case hkp_4_6 =>
                      intro wr HS K2 K3 K4
                      refine wpAnyH_ready (rs := [1, 8]) (by kernel_rfl) (by simp) ?_
                      refine AllReadyH.cons (o := { dst := some 14, op := Op.load 27 (Operand.tmp 13), type := 27, pos := "l7_pairs.go:287", after := #[{ on := 0, ground := Ground.data }], guard := none }) rfl (fun K hK => ?_) ?_
                      · skip
                        obtain ⟨e4, -⟩ := K4.one
                        go_simp
                        clear e4
                        obtain ⟨wn, hwn⟩ : ∃ wn, wn = wr := ⟨wr, rfl⟩
                        subst hwn
                        refine hK.out _ _ (by first | exact trivial | (dsimp only; exact trivial)) (fun hS => ?_)
                        clear hK K
                        (try simp only [Act.put, List.setIfInBounds_toArray, List.set_cons_zero, List.set_cons_succ])
                        refine wpAnyH_listed (l' := #[true, true, true, true, true, true, true, true, false, false, false, false, false]) (by kernel_rfl) ?_
                        clear hS
                        (try clear hwx)
                        revert K4; revert K3; revert K2; revert HS
                        revert wn
                        exact keyp_1_4_6.out
                      refine AllReadyH.cons (o := { dst := some 21, op := Op.call { callee := Callee.value (Operand.func 178), args := #[Operand.tmp 15, Operand.tmp 20], argTypes := #[96, 3] }, type := 9, pos := "l7_pairs.go:287", after := #[{ on := 2, ground := Ground.data }, { on := 7, ground := Ground.data }], guard := none }) rfl (fun K hK => ?_) ?_
                      · skip
                        (try go_simp)
                        go_at_call 178
                        refine (l1Some_any g _ (sat l5 0).size _ HS.out.rdr (by omega) HW0.out).mono ?_
                        rintro e wn ⟨z, rfl, hz1, hz2, hr, b⟩
                        replace K2 := K2.grown b (fun e => by injection e with e; omega)
                        replace K3 := K3.grown b (fun e => by injection e with e; omega)
                        replace K4 := K4.grown b (fun e => by injection e with e; omega)
                        replace HS := Lib.hid (HS.out.grown b hr)
                        have HZ := Lib.hid (show 1 ≤ z.size ∧ z.size ≤ 12 by have := HW0.out; omega)
                        clear hz1 hz2 hr b
                        (try dsimp only)
                        refine hK.out _ _ (by first | exact trivial | (dsimp only; exact trivial)) (fun hS => ?_)
                        clear hK K
                        (try simp only [Act.put, List.setIfInBounds_toArray, List.set_cons_zero, List.set_cons_succ])
                        refine wpAnyH_listed (l' := #[true, false, true, true, true, true, true, true, true, false, false, false, false]) (by kernel_rfl) ?_
                        clear hS
                        (try clear hwx)
                        revert HZ; revert K4; revert K3; revert K2; revert HS
                        revert z; revert wn
                        exact keyp_4_6_8.out
                      exact AllReadyH.nil
                  case hkp_1_4_6 =>
                    intro wr HS K2 K3 K4
                    refine wpAnyH_ready (rs := [8]) (by kernel_rfl) (by simp) ?_
                    refine AllReadyH.cons (o := { dst := some 21, op := Op.call { callee := Callee.value (Operand.func 178), args := #[Operand.tmp 15, Operand.tmp 20], argTypes := #[96, 3] }, type := 9, pos := "l7_pairs.go:287", after := #[{ on := 2, ground := Ground.data }, { on := 7, ground := Ground.data }], guard := none }) rfl (fun K hK => ?_) ?_
                    · skip
                      (try go_simp)
                      go_at_call 178
                      refine (l1Some_any g _ (sat l5 0).size _ HS.out.rdr (by omega) HW0.out).mono ?_
                      rintro e wn ⟨z, rfl, hz1, hz2, hr, b⟩
                      replace K2 := K2.grown b (fun e => by injection e with e; omega)
                      replace K3 := K3.grown b (fun e => by injection e with e; omega)
                      replace K4 := K4.grown b (fun e => by injection e with e; omega)
                      replace HS := Lib.hid (HS.out.grown b hr)
                      have HZ := Lib.hid (show 1 ≤ z.size ∧ z.size ≤ 12 by have := HW0.out; omega)
                      clear hz1 hz2 hr b
                      (try dsimp only)
                      refine hK.out _ _ (by first | exact trivial | (dsimp only; exact trivial)) (fun hS => ?_)
                      clear hK K
                      (try simp only [Act.put, List.setIfInBounds_toArray, List.set_cons_zero, List.set_cons_succ])
                      refine wpAnyH_listed (l' := #[true, true, true, true, true, true, true, true, true, false, false, false, false]) (by kernel_rfl) ?_
                      clear hS
                      (try clear hwx)
                      revert HZ; revert K4; revert K3; revert K2; revert HS
                      revert z; revert wn
                      exact keyp_1_4_6_8.out
                    exact AllReadyH.nil
                case hkp_4_6_8 =>
                  intro wr z HS K2 K3 K4 HZ
                  refine wpAnyH_ready (rs := [1, 9]) (by kernel_rfl) (by simp) ?_
                  refine AllReadyH.cons (o := { dst := some 14, op := Op.load 27 (Operand.tmp 13), type := 27, pos := "l7_pairs.go:287", after := #[{ on := 0, ground := Ground.data }], guard := none }) rfl (fun K hK => ?_) ?_
                  · skip
                    obtain ⟨e4, -⟩ := K4.one
                    go_simp
                    clear e4
                    obtain ⟨wn, hwn⟩ : ∃ wn, wn = wr := ⟨wr, rfl⟩
                    subst hwn
                    refine hK.out _ _ (by first | exact trivial | (dsimp only; exact trivial)) (fun hS => ?_)
                    clear hK K
                    (try simp only [Act.put, List.setIfInBounds_toArray, List.set_cons_zero, List.set_cons_succ])
                    refine wpAnyH_listed (l' := #[true, true, true, true, true, true, true, true, true, false, false, false, false]) (by kernel_rfl) ?_
                    clear hS
                    (try clear hwx)
                    revert HZ; revert K4; revert K3; revert K2; revert HS
                    revert z; revert wn
                    exact keyp_1_4_6_8.out
                  refine AllReadyH.cons (o := { dst := some 22, op := Op.buildSlice 27 1 #[(0, Operand.tmp 21)], type := 27, pos := "l7_pairs.go:287", after := #[{ on := 8, ground := Ground.data }], guard := none }) rfl (fun K hK => ?_) ?_
                  · skip
                    go_simp
                    have hgb : (wr.alloc (.cells #[Value.string z] 9)).cell? ⟨wr.heap.size, 0, none⟩ = some (.string z) := new_cell _ _ _
                    replace K2 := K2.alloc (.cells #[Value.string z] 9)
                    replace K3 := K3.alloc (.cells #[Value.string z] 9)
                    replace K4 := K4.alloc (.cells #[Value.string z] 9)
                    replace HS := Lib.hid (HS.out.bel (bel_alloc wr (.cells #[Value.string z] 9)))
                    refine hK.out _ _ (by first | exact trivial | (dsimp only; exact trivial)) (fun hS => ?_)
                    clear hK K
                    (try simp only [Act.put, List.setIfInBounds_toArray, List.set_cons_zero, List.set_cons_succ])
                    refine wpAnyH_listed (l' := #[true, false, true, true, true, true, true, true, true, true, false, false, false]) (by kernel_rfl) ?_
                    clear hS
                    (try clear hwx)
                    revert hgb; revert HZ; revert K4; revert K3; revert K2; revert HS
                    generalize (wr.alloc (.cells #[Value.string z] 9)) = wn
                    generalize wr.heap.size = gb
                    revert gb; revert z; revert wn
                    exact keyp_4_6_8_9.out
                  exact AllReadyH.nil
              case hkp_1_4_6_8 =>
                intro wr z HS K2 K3 K4 HZ
                refine wpAnyH_ready (rs := [9]) (by kernel_rfl) (by simp) ?_
                refine AllReadyH.cons (o := { dst := some 22, op := Op.buildSlice 27 1 #[(0, Operand.tmp 21)], type := 27, pos := "l7_pairs.go:287", after := #[{ on := 8, ground := Ground.data }], guard := none }) rfl (fun K hK => ?_) ?_
                · skip
                  go_simp
                  have hgb : (wr.alloc (.cells #[Value.string z] 9)).cell? ⟨wr.heap.size, 0, none⟩ = some (.string z) := new_cell _ _ _
                  replace K2 := K2.alloc (.cells #[Value.string z] 9)
                  replace K3 := K3.alloc (.cells #[Value.string z] 9)
                  replace K4 := K4.alloc (.cells #[Value.string z] 9)
                  replace HS := Lib.hid (HS.out.bel (bel_alloc wr (.cells #[Value.string z] 9)))
                  refine hK.out _ _ (by first | exact trivial | (dsimp only; exact trivial)) (fun hS => ?_)
                  clear hK K
                  (try simp only [Act.put, List.setIfInBounds_toArray, List.set_cons_zero, List.set_cons_succ])
                  refine wpAnyH_listed (l' := #[true, true, true, true, true, true, true, true, true, true, false, false, false]) (by kernel_rfl) ?_
                  clear hS
                  (try clear hwx)
                  revert hgb; revert HZ; revert K4; revert K3; revert K2; revert HS
                  generalize (wr.alloc (.cells #[Value.string z] 9)) = wn
                  generalize wr.heap.size = gb
                  revert gb; revert z; revert wn
                  exact keyp_1_4_6_8_9.out
                exact AllReadyH.nil
            case hkp_4_6_8_9 =>
              intro wr z gb HS K2 K3 K4 HZ hgb
              refine wpAnyH_ready (rs := [1]) (by kernel_rfl) (by simp) ?_
              refine AllReadyH.cons (o := { dst := some 14, op := Op.load 27 (Operand.tmp 13), type := 27, pos := "l7_pairs.go:287", after := #[{ on := 0, ground := Ground.data }], guard := none }) rfl (fun K hK => ?_) ?_
              · skip
                obtain ⟨e4, -⟩ := K4.one
                go_simp
                clear e4
                obtain ⟨wn, hwn⟩ : ∃ wn, wn = wr := ⟨wr, rfl⟩
                subst hwn
                refine hK.out _ _ (by first | exact trivial | (dsimp only; exact trivial)) (fun hS => ?_)
                clear hK K
                (try simp only [Act.put, List.setIfInBounds_toArray, List.set_cons_zero, List.set_cons_succ])
                refine wpAnyH_listed (l' := #[true, true, true, true, true, true, true, true, true, true, false, false, false]) (by kernel_rfl) ?_
                clear hS
                (try clear hwx)
                revert hgb; revert HZ; revert K4; revert K3; revert K2; revert HS
                revert gb; revert z; revert wn
                exact keyp_1_4_6_8_9.out
              exact AllReadyH.nil
          case hkp_1_4_6_8_9 =>
            intro wr z gb HS K2 K3 K4 HZ hgb
            refine wpAnyH_ready (rs := [10]) (by kernel_rfl) (by simp) ?_
            refine AllReadyH.cons (o := { dst := some 23, op := Op.call { callee := Callee.builtin Builtin.append, args := #[Operand.tmp 14, Operand.tmp 22], argTypes := #[27, 27] }, type := 27, pos := "l7_pairs.go:287", after := #[{ on := 1, ground := Ground.data }, { on := 9, ground := Ground.data }, { on := 8, ground := Ground.chain }], guard := none }) rfl (fun K hK => ?_) ?_
            · skip
              have k4 := K4.lt
              refine step_app_str rfl (.tmp 14) (.tmp 22) (by rfl) W.heap.size _ l5 (by rfl) HS.out.own gb _ z (by rfl) hgb (by have := HZ.out; omega) (by omega) HS.out.gr.size ?_
              intro A6 c6 wn ho6 hg6 hat6
              have HN : Hid (∀ j, (Value.slice A6 (l5.length + 1) c6).ownBlock = some j → j ≠ b4) := Lib.hid (fun j hj => by rcases hat6 with q | q <;> rw [hj] at q <;> (try simp [Value.ownBlock] at q) <;> omega)
              replace HS := Lib.hid (HS.out.app ho6 hg6)
              replace K2 := K2.grown hg6 (fun e => by injection e with e; have e' : w.heap.size = b5 := e; omega)
              replace K3 := K3.grown hg6 (fun e => by injection e with e; have e' : w.heap.size + 1 = b5 := e; omega)
              replace K4 := K4.grown hg6 (fun e => by injection e with e; have e' : b4 = b5 := e; omega)
              clear hgb ho6 hg6 hat6 k4
              (try dsimp only)
              refine hK.out _ _ (by first | exact trivial | (dsimp only; exact trivial)) (fun hS => ?_)
              clear hK K
              (try simp only [Act.put, List.setIfInBounds_toArray, List.set_cons_zero, List.set_cons_succ])
              refine wpAnyH_take (i := 11) (oi := { dst := some 24, op := Op.fieldAddr 29 (Operand.tmp 4) 0, type := 0, pos := "l7_pairs.go:287", after := #[{ on := 0, ground := Ground.phase }, { on := 1, ground := Ground.phase }, { on := 2, ground := Ground.phase }, { on := 3, ground := Ground.phase }, { on := 4, ground := Ground.phase }, { on := 5, ground := Ground.phase }, { on := 6, ground := Ground.phase }, { on := 7, ground := Ground.phase }, { on := 8, ground := Ground.phase }, { on := 9, ground := Ground.phase }, { on := 10, ground := Ground.phase }], guard := none }) (v := ?vp_8) rfl (by kernel_rfl) (by kernel_rfl) (by kernel_rfl) (fun _ _ _ h => h) (Or.inl ⟨by rfl, ?hyp_8⟩) hS ?restp_8
              case hyp_8 => (intro w' hSw; (try dsimp only at hSw); go_simp; all_goals with_reducible rfl)
              (try simp only [Act.put, List.setIfInBounds_toArray, List.set_cons_zero, List.set_cons_succ])
              refine wpAnyH_listed (l' := #[true, true, true, true, true, true, true, true, true, true, true, true, false]) (by kernel_rfl) ?_
              clear hS
              (try clear hwx)
              revert HN; revert HZ; revert K4; revert K3; revert K2; revert HS
              revert c6; revert A6; revert gb; revert z; revert wn
              exact keyp_1_4_6_8_9_10.out
            exact AllReadyH.nil
        case hkp_1_4_6_8_9_10 =>
          intro wr z gb A6 c6 HS K2 K3 K4 HZ HN
          refine wpAnyH_ready (rs := [12]) (by kernel_rfl) (by simp) ?_
          refine AllReadyH.cons (o := { dst := none, op := Op.store 27 (Operand.tmp 24) (Operand.tmp 23), type := 0, pos := "l7_pairs.go:287", after := #[{ on := 11, ground := Ground.data }, { on := 10, ground := Ground.data }, { on := 10, ground := Ground.chain }, { on := 0, ground := Ground.phase }, { on := 1, ground := Ground.phase }, { on := 2, ground := Ground.phase }, { on := 3, ground := Ground.phase }, { on := 4, ground := Ground.phase }, { on := 5, ground := Ground.phase }, { on := 6, ground := Ground.phase }, { on := 7, ground := Ground.phase }, { on := 8, ground := Ground.phase }, { on := 9, ground := Ground.phase }, { on := 10, ground := Ground.phase }], guard := none }) rfl (fun K hK => ?_) ?_
          · skip
            obtain ⟨e4, f4⟩ := K4.one
            go_simp
            clear e4 f4
            replace HS := Lib.hid (HS.out.far ⟨b4, 0, none⟩ (Value.slice A6 (l5.length + 1) c6) hb4 HN.out)
            replace K2 := K2.far (p := ⟨b4, 0, none⟩) (by show w.heap.size ≠ b4; omega) (Value.slice A6 (l5.length + 1) c6)
            replace K3 := K3.far (p := ⟨b4, 0, none⟩) (by show w.heap.size + 1 ≠ b4; omega) (Value.slice A6 (l5.length + 1) c6)
            replace K4 : Blk (wr.setCell ⟨b4, 0, none⟩ (Value.slice A6 (l5.length + 1) c6)) b4 29 [Value.slice A6 (l5.length + 1) c6] := K4.set_ 0 _
            refine hK.out _ _ (by first | exact trivial | (dsimp only; exact trivial)) (fun hS => ?_)
            clear hK K
            (try simp only [Act.put, List.setIfInBounds_toArray, List.set_cons_zero, List.set_cons_succ])
            refine wpAnyH_listed (l' := #[true, true, true, true, true, true, true, true, true, true, true, true, true]) (by kernel_rfl) ?_
            clear hS
            (try clear hwx)
            revert HN; revert HZ; revert K4; revert K3; revert K2; revert HS
            generalize (wr.setCell ⟨b4, 0, none⟩ (Value.slice A6 (l5.length + 1) c6)) = wn
            revert c6; revert A6; revert gb; revert z; revert wn
            exact keyp_1_4_6_8_9_10_12.out
          exact AllReadyH.nil
      intro w6 z gb A6 c6 HS K2 K3 K4 HZ HN
      refine wpAnyH_done (by kernel_rfl) ?_ _
      clear e4
      go_wp2
      go_roundw
      case rel =>
        refine ⟨_, l5 ++ [z], by simp, by simp; omega, Lib.hid (fun s hs => ?_), ?_, K2, K3, K4, HN.out⟩
        · rcases List.mem_append.1 hs with q | q
          · exact HW.out s q
          · simp at q; rw [q]; exact HZ.out
        · have := HS.out
          exact ⟨this.own, this.rdr.more (by rw [List.length_append]; have := HL1.out; simp; omega), this.gr, this.lt⟩
      case measure =>
        have q1 := K4.one.1
        have q2 := K40.one.1
        simp [q1, q2]; omega
    · have h2' : ¬ (l5.length : Int) < 2 := by omega
      obtain ⟨e4, f4⟩ := K4.one
      go_wp2_with fail
      clear f4
      have hw1 : IntKind.i64.wrap ((l5.length : Int) - 1) = (l5.length : Int) - 1 := by rw [IntWalk.i64_in] <;> omega
      refine cut_by (P := ?Pq_6_8_12_13_14_15) ?hkq_6_8_12_13_14_15 (fun keyq_6_8_12_13_14_15 => ?mainq_6_8_12_13_14_15)
      case mainq_6_8_12_13_14_15 =>
        replace keyq_6_8_12_13_14_15 := Lib.hid keyq_6_8_12_13_14_15
        refine cut_by (P := ?Pq_6_8_12_13_14) ?hkq_6_8_12_13_14 (fun keyq_6_8_12_13_14 => ?mainq_6_8_12_13_14)
        case mainq_6_8_12_13_14 =>
          replace keyq_6_8_12_13_14 := Lib.hid keyq_6_8_12_13_14
          refine cut_by (P := ?Pq_6_8_12_13) ?hkq_6_8_12_13 (fun keyq_6_8_12_13 => ?mainq_6_8_12_13)
          case mainq_6_8_12_13 =>
            replace keyq_6_8_12_13 := Lib.hid keyq_6_8_12_13
            refine cut_by (P := ?Pq_6_12_13) ?hkq_6_12_13 (fun keyq_6_12_13 => ?mainq_6_12_13)
            case mainq_6_12_13 =>
              replace keyq_6_12_13 := Lib.hid keyq_6_12_13
              refine cut_by (P := ?Pq_6_8_13) ?hkq_6_8_13 (fun keyq_6_8_13 => ?mainq_6_8_13)
              case mainq_6_8_13 =>
                replace keyq_6_8_13 := Lib.hid keyq_6_8_13
                refine cut_by (P := ?Pq_6_8_12) ?hkq_6_8_12 (fun keyq_6_8_12 => ?mainq_6_8_12)
                case mainq_6_8_12 =>
                  replace keyq_6_8_12 := Lib.hid keyq_6_8_12
                  refine cut_by (P := ?Pq_12_13) ?hkq_12_13 (fun keyq_12_13 => ?mainq_12_13)
                  case mainq_12_13 =>
                    replace keyq_12_13 := Lib.hid keyq_12_13
                    refine cut_by (P := ?Pq_6_13) ?hkq_6_13 (fun keyq_6_13 => ?mainq_6_13)
                    case mainq_6_13 =>
                      replace keyq_6_13 := Lib.hid keyq_6_13
                      refine cut_by (P := ?Pq_6_12) ?hkq_6_12 (fun keyq_6_12 => ?mainq_6_12)
                      case mainq_6_12 =>
                        replace keyq_6_12 := Lib.hid keyq_6_12
                        refine cut_by (P := ?Pq_6_8) ?hkq_6_8 (fun keyq_6_8 => ?mainq_6_8)
                        case mainq_6_8 =>
                          replace keyq_6_8 := Lib.hid keyq_6_8
                          refine cut_by (P := ?Pq_13) ?hkq_13 (fun keyq_13 => ?mainq_13)
                          case mainq_13 =>
                            replace keyq_13 := Lib.hid keyq_13
                            refine cut_by (P := ?Pq_12) ?hkq_12 (fun keyq_12 => ?mainq_12)
                            case mainq_12 =>
                              replace keyq_12 := Lib.hid keyq_12
                              refine cut_by (P := ?Pq_6) ?hkq_6 (fun keyq_6 => ?mainq_6)
                              case mainq_6 =>
                                replace keyq_6 := Lib.hid keyq_6
                                refine wp_region_held_drew (S := (fun w' => w'.cell? ⟨b4, 0, none⟩ = some (Value.slice (some ⟨b5, 0, none⟩) l5.length c5))) (by kernel_rfl) ?_ (fun hS => ?_)
                                · skip
                                  exact e4
                                have B : w5.grownBy w5.drew (some g) := only_below (World.grownBy.refl w5 (some g)) (Below.refl _ _).drew
                                have G := HS.out.rdr.bel (Below.refl _ _).drew
                                generalize hW : w5.drew = wr at *
                                clear hW
                                refine wpAnyH_take (i := 0) (oi := { dst := some 26, op := Op.load 29 (Operand.tmp 4), type := 29, pos := "l7_pairs.go:289", after := #[], guard := none }) (v := ?vq_1) rfl (by kernel_rfl) (by kernel_rfl) (by kernel_rfl) (fun _ _ _ h => h) (Or.inl ⟨by rfl, ?hyq_1⟩) hS ?restq_1
                                case hyq_1 => (intro w' hSw; (try dsimp only at hSw); go_simp; all_goals with_reducible rfl)
                                (try simp only [Act.put, List.setIfInBounds_toArray, List.set_cons_zero, List.set_cons_succ])
                                refine wpAnyH_take (i := 1) (oi := { dst := some 27, op := Op.move (Operand.tmp 0), type := 96, pos := "l7_pairs.go:289", after := #[], guard := none }) (v := ?vq_2) rfl (by kernel_rfl) (by kernel_rfl) (by kernel_rfl) (fun _ _ _ h => h) (Or.inl ⟨by rfl, ?hyq_2⟩) hS ?restq_2
                                case hyq_2 => (intro w' hSw; (try dsimp only at hSw); go_simp; all_goals with_reducible rfl)
                                (try simp only [Act.put, List.setIfInBounds_toArray, List.set_cons_zero, List.set_cons_succ])
                                refine wpAnyH_take (i := 2) (oi := { dst := some 28, op := Op.fieldAddr 29 (Operand.tmp 4) 0, type := 0, pos := "l7_pairs.go:289", after := #[], guard := none }) (v := ?vq_3) rfl (by kernel_rfl) (by kernel_rfl) (by kernel_rfl) (fun _ _ _ h => h) (Or.inl ⟨by rfl, ?hyq_3⟩) hS ?restq_3
                                case hyq_3 => (intro w' hSw; (try dsimp only at hSw); go_simp; all_goals with_reducible rfl)
                                (try simp only [Act.put, List.setIfInBounds_toArray, List.set_cons_zero, List.set_cons_succ])
                                refine wpAnyH_take (i := 3) (oi := { dst := some 29, op := Op.load 27 (Operand.tmp 28), type := 27, pos := "l7_pairs.go:289", after := #[{ on := 2, ground := Ground.data }], guard := none }) (v := ?vq_4) rfl (by kernel_rfl) (by kernel_rfl) (by kernel_rfl) (fun _ _ _ h => h) (Or.inl ⟨by rfl, ?hyq_4⟩) hS ?restq_4
                                case hyq_4 => (intro w' hSw; (try dsimp only at hSw); go_simp; all_goals with_reducible rfl)
                                (try simp only [Act.put, List.setIfInBounds_toArray, List.set_cons_zero, List.set_cons_succ])
                                refine wpAnyH_take (i := 4) (oi := { dst := some 30, op := Op.call { callee := Callee.builtin Builtin.len, args := #[Operand.tmp 29], argTypes := #[27] }, type := 3, pos := "l7_pairs.go:289", after := #[{ on := 3, ground := Ground.data }], guard := none }) (v := ?vq_5) rfl (by kernel_rfl) (by kernel_rfl) (by kernel_rfl) (fun _ _ _ h => h) (Or.inl ⟨by rfl, ?hyq_5⟩) hS ?restq_5
                                case hyq_5 => (intro w' hSw; (try dsimp only at hSw); go_simp; all_goals with_reducible rfl)
                                (try simp only [Act.put, List.setIfInBounds_toArray, List.set_cons_zero, List.set_cons_succ])
                                refine wpAnyH_take (i := 5) (oi := { dst := some 31, op := Op.binOp BinOp.sub 3 (Operand.tmp 30) (Operand.const (Value.int IntKind.i64 1)) 3, type := 3, pos := "l7_pairs.go:289", after := #[{ on := 4, ground := Ground.data }], guard := none }) (v := ?vq_6) rfl (by kernel_rfl) (by kernel_rfl) (by kernel_rfl) (fun _ _ _ h => h) (Or.inl ⟨by rfl, ?hyq_6⟩) hS ?restq_6
                                case hyq_6 => (intro w' hSw; (try dsimp only at hSw); go_simp; all_goals with_reducible rfl)
                                (try simp only [Act.put, List.setIfInBounds_toArray, List.set_cons_zero, List.set_cons_succ])
                                refine wpAnyH_listed (l' := #[true, true, true, true, true, true, false, false, false, false, false, false, false, false, false, false]) (by kernel_rfl) ?_
                                clear hS
                                refine wpAnyH_ready (rs := [6, 12, 13]) (by kernel_rfl) (by simp) ?_
                                refine AllReadyH.cons (o := { dst := some 32, op := Op.call { callee := Callee.value (Operand.func 83), args := #[Operand.tmp 27, Operand.tmp 31], argTypes := #[96, 3] }, type := 3, pos := "l7_pairs.go:289", after := #[{ on := 1, ground := Ground.data }, { on := 5, ground := Ground.data }], guard := none }) rfl (fun K hK => ?_) ?_
                                · skip
                                  (try go_simp)
                                  go_at_call 83
                                  refine (pick_any g _ _ _ G (by omega) (by omega)).mono ?_
                                  rintro e wn ⟨m, rfl, hx, -, hr5, b⟩
                                  have hx2 := hx (by omega)
                                  clear hx
                                  obtain ⟨n, hwx, hn⟩ : ∃ n : Nat, IntKind.i64.wrap (1 + m) = (n : Int) ∧ (1 ≤ n ∧ n < l5.length) := ⟨(1 + m).toNat, by rw [IntWalk.i64_in] <;> omega, by omega⟩
                                  replace G := hr5
                                  clear hr5 hx2
                                  replace B := grown_trans B b (fun j hj => .inl (by injection hj with hj; exact hj.symm))
                                  clear b
                                  (try dsimp only)
                                  refine hK.out _ _ (by first | exact World.grownBy.cell B e4 (fun q => by have q2 : b4 = g := (by injection q); omega) | (dsimp only; exact World.grownBy.cell B e4 (fun q => by have q2 : b4 = g := (by injection q); omega))) (fun hS => ?_)
                                  clear hK K
                                  (try simp only [Act.put, List.setIfInBounds_toArray, List.set_cons_zero, List.set_cons_succ])
                                  refine wpAnyH_take (i := 7) (oi := { dst := some 33, op := Op.binOp BinOp.add 3 (Operand.const (Value.int IntKind.i64 1)) (Operand.tmp 32) 3, type := 3, pos := "l7_pairs.go:289", after := #[{ on := 6, ground := Ground.data }], guard := none }) (v := ?vq_7) rfl (by kernel_rfl) (by kernel_rfl) (by kernel_rfl) (fun _ _ _ h => h) (Or.inl ⟨by rfl, ?hyq_7⟩) hS ?restq_7
                                  case hyq_7 => (intro w' hSw; (try dsimp only at hSw); go_simp; all_goals with_reducible rfl)
                                  (try simp only [Act.put, List.setIfInBounds_toArray, List.set_cons_zero, List.set_cons_succ])
                                  refine wpAnyH_listed (l' := #[true, true, true, true, true, true, true, true, false, false, false, false, false, false, false, false]) (by kernel_rfl) ?_
                                  clear hS
                                  (try clear hwx)
                                  revert hn; revert G; revert B
                                  revert n; revert m; revert wn
                                  exact keyq_6.out
                                refine AllReadyH.cons (o := { dst := some 5, op := Op.alloc 29, type := 0, pos := "l7_pairs.go:289", after := #[], guard := none }) rfl (fun K hK => ?_) ?_
                                · skip
                                  go_simp
                                  have H_u : w5.heap.size ≤ wr.heap.size := B.size
                                  replace B : w5.grownBy (wr.alloc (.cells #[Value.slice none 0 0] 29)) (some g) := only_below B (bel_alloc wr _)
                                  replace G := G.bel (bel_alloc wr (.cells #[Value.slice none 0 0] 29))
                                  have K_u := Blk.new' wr 29 (Value.slice none 0 0) wr.heap.size rfl
                                  refine hK.out _ _ (by first | exact World.grownBy.cell B e4 (fun q => by have q2 : b4 = g := (by injection q); omega) | (dsimp only; exact World.grownBy.cell B e4 (fun q => by have q2 : b4 = g := (by injection q); omega))) (fun hS => ?_)
                                  clear hK K
                                  (try simp only [Act.put, List.setIfInBounds_toArray, List.set_cons_zero, List.set_cons_succ])
                                  refine wpAnyH_listed (l' := #[true, true, true, true, true, true, false, false, false, false, false, false, true, false, false, false]) (by kernel_rfl) ?_
                                  clear hS
                                  (try clear hwx)
                                  revert H_u; revert K_u; revert G; revert B
                                  generalize (wr.alloc (.cells #[Value.slice none 0 0] 29)) = wn
                                  generalize wr.heap.size = ab_u
                                  revert ab_u; revert wn
                                  exact keyq_12.out
                                refine AllReadyH.cons (o := { dst := some 6, op := Op.alloc 29, type := 0, pos := "l7_pairs.go:289", after := #[], guard := none }) rfl (fun K hK => ?_) ?_
                                · skip
                                  go_simp
                                  have H_v : w5.heap.size ≤ wr.heap.size := B.size
                                  replace B : w5.grownBy (wr.alloc (.cells #[Value.slice none 0 0] 29)) (some g) := only_below B (bel_alloc wr _)
                                  replace G := G.bel (bel_alloc wr (.cells #[Value.slice none 0 0] 29))
                                  have K_v := Blk.new' wr 29 (Value.slice none 0 0) wr.heap.size rfl
                                  refine hK.out _ _ (by first | exact World.grownBy.cell B e4 (fun q => by have q2 : b4 = g := (by injection q); omega) | (dsimp only; exact World.grownBy.cell B e4 (fun q => by have q2 : b4 = g := (by injection q); omega))) (fun hS => ?_)
                                  clear hK K
                                  (try simp only [Act.put, List.setIfInBounds_toArray, List.set_cons_zero, List.set_cons_succ])
                                  refine wpAnyH_listed (l' := #[true, true, true, true, true, true, false, false, false, false, false, false, false, true, false, false]) (by kernel_rfl) ?_
                                  clear hS
                                  (try clear hwx)
                                  revert H_v; revert K_v; revert G; revert B
                                  generalize (wr.alloc (.cells #[Value.slice none 0 0] 29)) = wn
                                  generalize wr.heap.size = ab_v
                                  revert ab_v; revert wn
                                  exact keyq_13.out
                                exact AllReadyH.nil
                              case hkq_6 =>
                                intro wr m n B G hn
                                refine wpAnyH_ready (rs := [8, 12, 13]) (by kernel_rfl) (by simp) ?_
                                refine AllReadyH.cons (o := { dst := some 34, op := Op.call { callee := Callee.value (Operand.func 131), args := #[Operand.tmp 26, Operand.tmp 33], argTypes := #[29, 3] }, type := 79, pos := "l7_pairs.go:289", after := #[{ on := 0, ground := Ground.data }, { on := 7, ground := Ground.data }, { on := 6, ground := Ground.chain }], guard := none }) rfl (fun K hK => ?_) ?_
                                · skip
                                  (try go_simp)
                                  go_at_call 131
                                  refine (splitD_any _ l5 n _ (HS.out.rowB B) (by omega) hn.1 hn.2).mono ?_
                                  rintro e wn ⟨r_x, r_y, rfl, o_x, o_y, dxy, b⟩
                                  have D_q := Lib.hid dxy
                                  have O_x := Lib.hid (o_x.lower B.size)
                                  have O_y := Lib.hid (o_y.lower B.size)
                                  replace G := G.bel b
                                  replace B := only_below B b
                                  obtain ⟨A_x, c_x, rfl, -, -, -⟩ := o_x.strs.open_
                                  clear o_x
                                  obtain ⟨A_y, c_y, rfl, -, -, -⟩ := o_y.strs.open_
                                  clear o_y
                                  clear b dxy
                                  (try dsimp only)
                                  refine hK.out _ _ (by first | exact World.grownBy.cell B e4 (fun q => by have q2 : b4 = g := (by injection q); omega) | (dsimp only; exact World.grownBy.cell B e4 (fun q => by have q2 : b4 = g := (by injection q); omega))) (fun hS => ?_)
                                  clear hK K
                                  (try simp only [Act.put, List.setIfInBounds_toArray, List.set_cons_zero, List.set_cons_succ])
                                  refine wpAnyH_take (i := 9) (oi := { dst := some 25, op := Op.move (Operand.tmp 34), type := 79, pos := "l7_pairs.go:289", after := #[{ on := 8, ground := Ground.data }], guard := none }) (v := ?vq_8) rfl (by kernel_rfl) (by kernel_rfl) (by kernel_rfl) (fun _ _ _ h => h) (Or.inl ⟨by rfl, ?hyq_8⟩) hS ?restq_8
                                  case hyq_8 => (intro w' hSw; (try dsimp only at hSw); go_simp; all_goals with_reducible rfl)
                                  (try simp only [Act.put, List.setIfInBounds_toArray, List.set_cons_zero, List.set_cons_succ])
                                  refine wpAnyH_take (i := 10) (oi := { dst := some 35, op := Op.extract (Operand.tmp 25) 0, type := 29, pos := "l7_pairs.go:289", after := #[{ on := 9, ground := Ground.data }], guard := none }) (v := ?vq_9) rfl (by kernel_rfl) (by kernel_rfl) (by kernel_rfl) (fun _ _ _ h => h) (Or.inl ⟨by rfl, ?hyq_9⟩) hS ?restq_9
                                  case hyq_9 => (intro w' hSw; (try dsimp only at hSw); go_simp; all_goals with_reducible rfl)
                                  (try simp only [Act.put, List.setIfInBounds_toArray, List.set_cons_zero, List.set_cons_succ])
                                  refine wpAnyH_take (i := 11) (oi := { dst := some 36, op := Op.extract (Operand.tmp 25) 1, type := 29, pos := "l7_pairs.go:289", after := #[{ on := 9, ground := Ground.data }, { on := 14, ground := Ground.gcOnly Departure.lateStores }], guard := none }) (v := ?vq_10) rfl (by kernel_rfl) (by kernel_rfl) (by kernel_rfl) (fun _ _ _ h => h) (Or.inl ⟨by rfl, ?hyq_10⟩) hS ?restq_10
                                  case hyq_10 => (intro w' hSw; (try dsimp only at hSw); go_simp; all_goals with_reducible rfl)
                                  (try simp only [Act.put, List.setIfInBounds_toArray, List.set_cons_zero, List.set_cons_succ])
                                  refine wpAnyH_listed (l' := #[true, true, true, true, true, true, true, true, true, true, true, true, false, false, false, false]) (by kernel_rfl) ?_
                                  clear hS
                                  (try clear hwx)
                                  revert D_q; revert O_y; revert O_x; revert hn; revert G; revert B
                                  revert c_y; revert A_y; revert c_x; revert A_x; revert n; revert m; revert wn
                                  exact keyq_6_8.out
                                refine AllReadyH.cons (o := { dst := some 5, op := Op.alloc 29, type := 0, pos := "l7_pairs.go:289", after := #[], guard := none }) rfl (fun K hK => ?_) ?_
                                · skip
                                  go_simp
                                  have H_u : w5.heap.size ≤ wr.heap.size := B.size
                                  replace B : w5.grownBy (wr.alloc (.cells #[Value.slice none 0 0] 29)) (some g) := only_below B (bel_alloc wr _)
                                  replace G := G.bel (bel_alloc wr (.cells #[Value.slice none 0 0] 29))
                                  have K_u := Blk.new' wr 29 (Value.slice none 0 0) wr.heap.size rfl
                                  refine hK.out _ _ (by first | exact World.grownBy.cell B e4 (fun q => by have q2 : b4 = g := (by injection q); omega) | (dsimp only; exact World.grownBy.cell B e4 (fun q => by have q2 : b4 = g := (by injection q); omega))) (fun hS => ?_)
                                  clear hK K
                                  (try simp only [Act.put, List.setIfInBounds_toArray, List.set_cons_zero, List.set_cons_succ])
                                  refine wpAnyH_listed (l' := #[true, true, true, true, true, true, true, true, false, false, false, false, true, false, false, false]) (by kernel_rfl) ?_
                                  clear hS
                                  (try clear hwx)
                                  revert H_u; revert K_u; revert hn; revert G; revert B
                                  generalize (wr.alloc (.cells #[Value.slice none 0 0] 29)) = wn
                                  generalize wr.heap.size = ab_u
                                  revert ab_u; revert n; revert m; revert wn
                                  exact keyq_6_12.out
                                refine AllReadyH.cons (o := { dst := some 6, op := Op.alloc 29, type := 0, pos := "l7_pairs.go:289", after := #[], guard := none }) rfl (fun K hK => ?_) ?_
                                · skip
                                  go_simp
                                  have H_v : w5.heap.size ≤ wr.heap.size := B.size
                                  replace B : w5.grownBy (wr.alloc (.cells #[Value.slice none 0 0] 29)) (some g) := only_below B (bel_alloc wr _)
                                  replace G := G.bel (bel_alloc wr (.cells #[Value.slice none 0 0] 29))
                                  have K_v := Blk.new' wr 29 (Value.slice none 0 0) wr.heap.size rfl
                                  refine hK.out _ _ (by first | exact World.grownBy.cell B e4 (fun q => by have q2 : b4 = g := (by injection q); omega) | (dsimp only; exact World.grownBy.cell B e4 (fun q => by have q2 : b4 = g := (by injection q); omega))) (fun hS => ?_)
                                  clear hK K
                                  (try simp only [Act.put, List.setIfInBounds_toArray, List.set_cons_zero, List.set_cons_succ])
                                  refine wpAnyH_listed (l' := #[true, true, true, true, true, true, true, true, false, false, false, false, false, true, false, false]) (by kernel_rfl) ?_
                                  clear hS
                                  (try clear hwx)
                                  revert H_v; revert K_v; revert hn; revert G; revert B
                                  generalize (wr.alloc (.cells #[Value.slice none 0 0] 29)) = wn
                                  generalize wr.heap.size = ab_v
                                  revert ab_v; revert n; revert m; revert wn
                                  exact keyq_6_13.out
                                exact AllReadyH.nil
                            case hkq_12 =>
                              intro wr ab_u B G K_u H_u
                              refine wpAnyH_ready (rs := [6, 13]) (by kernel_rfl) (by simp) ?_
                              refine AllReadyH.cons (o := { dst := some 32, op := Op.call { callee := Callee.value (Operand.func 83), args := #[Operand.tmp 27, Operand.tmp 31], argTypes := #[96, 3] }, type := 3, pos := "l7_pairs.go:289", after := #[{ on := 1, ground := Ground.data }, { on := 5, ground := Ground.data }], guard := none }) rfl (fun K hK => ?_) ?_
                              · skip
                                (try go_simp)
                                go_at_call 83
                                refine (pick_any g _ _ _ G (by omega) (by omega)).mono ?_
                                rintro e wn ⟨m, rfl, hx, -, hr5, b⟩
                                have hx2 := hx (by omega)
                                clear hx
                                obtain ⟨n, hwx, hn⟩ : ∃ n : Nat, IntKind.i64.wrap (1 + m) = (n : Int) ∧ (1 ≤ n ∧ n < l5.length) := ⟨(1 + m).toNat, by rw [IntWalk.i64_in] <;> omega, by omega⟩
                                replace G := hr5
                                clear hr5 hx2
                                replace K_u := K_u.grown b (fun e => by injection e with e; omega)
                                replace B := grown_trans B b (fun j hj => .inl (by injection hj with hj; exact hj.symm))
                                clear b
                                (try dsimp only)
                                refine hK.out _ _ (by first | exact World.grownBy.cell B e4 (fun q => by have q2 : b4 = g := (by injection q); omega) | (dsimp only; exact World.grownBy.cell B e4 (fun q => by have q2 : b4 = g := (by injection q); omega))) (fun hS => ?_)
                                clear hK K
                                (try simp only [Act.put, List.setIfInBounds_toArray, List.set_cons_zero, List.set_cons_succ])
                                refine wpAnyH_take (i := 7) (oi := { dst := some 33, op := Op.binOp BinOp.add 3 (Operand.const (Value.int IntKind.i64 1)) (Operand.tmp 32) 3, type := 3, pos := "l7_pairs.go:289", after := #[{ on := 6, ground := Ground.data }], guard := none }) (v := ?vq_11) rfl (by kernel_rfl) (by kernel_rfl) (by kernel_rfl) (fun _ _ _ h => h) (Or.inl ⟨by rfl, ?hyq_11⟩) hS ?restq_11
                                case hyq_11 => (intro w' hSw; (try dsimp only at hSw); go_simp; all_goals with_reducible rfl)
                                (try simp only [Act.put, List.setIfInBounds_toArray, List.set_cons_zero, List.set_cons_succ])
                                refine wpAnyH_listed (l' := #[true, true, true, true, true, true, true, true, false, false, false, false, true, false, false, false]) (by kernel_rfl) ?_
                                clear hS
                                (try clear hwx)
                                revert H_u; revert K_u; revert hn; revert G; revert B
                                revert ab_u; revert n; revert m; revert wn
                                exact keyq_6_12.out
                              refine AllReadyH.cons (o := { dst := some 6, op := Op.alloc 29, type := 0, pos := "l7_pairs.go:289", after := #[], guard := none }) rfl (fun K hK => ?_) ?_
                              · skip
                                go_simp
                                have H_v : w5.heap.size ≤ wr.heap.size := B.size
                                replace B : w5.grownBy (wr.alloc (.cells #[Value.slice none 0 0] 29)) (some g) := only_below B (bel_alloc wr _)
                                replace G := G.bel (bel_alloc wr (.cells #[Value.slice none 0 0] 29))
                                have X_q : ab_u ≠ wr.heap.size := by have := K_u.lt; omega
                                replace K_u := K_u.alloc (.cells #[Value.slice none 0 0] 29)
                                have K_v := Blk.new' wr 29 (Value.slice none 0 0) wr.heap.size rfl
                                refine hK.out _ _ (by first | exact World.grownBy.cell B e4 (fun q => by have q2 : b4 = g := (by injection q); omega) | (dsimp only; exact World.grownBy.cell B e4 (fun q => by have q2 : b4 = g := (by injection q); omega))) (fun hS => ?_)
                                clear hK K
                                (try simp only [Act.put, List.setIfInBounds_toArray, List.set_cons_zero, List.set_cons_succ])
                                refine wpAnyH_listed (l' := #[true, true, true, true, true, true, false, false, false, false, false, false, true, true, false, false]) (by kernel_rfl) ?_
                                clear hS
                                (try clear hwx)
                                revert X_q; revert H_v; revert K_v; revert H_u; revert K_u; revert G; revert B
                                generalize (wr.alloc (.cells #[Value.slice none 0 0] 29)) = wn
                                generalize wr.heap.size = ab_v
                                revert ab_v; revert ab_u; revert wn
                                exact keyq_12_13.out
                              exact AllReadyH.nil
                          case hkq_13 =>
                            intro wr ab_v B G K_v H_v
                            refine wpAnyH_ready (rs := [6, 12]) (by kernel_rfl) (by simp) ?_
                            refine AllReadyH.cons (o := { dst := some 32, op := Op.call { callee := Callee.value (Operand.func 83), args := #[Operand.tmp 27, Operand.tmp 31], argTypes := #[96, 3] }, type := 3, pos := "l7_pairs.go:289", after := #[{ on := 1, ground := Ground.data }, { on := 5, ground := Ground.data }], guard := none }) rfl (fun K hK => ?_) ?_
                            · skip
                              (try go_simp)
                              go_at_call 83
                              refine (pick_any g _ _ _ G (by omega) (by omega)).mono ?_
                              rintro e wn ⟨m, rfl, hx, -, hr5, b⟩
                              have hx2 := hx (by omega)
                              clear hx
                              obtain ⟨n, hwx, hn⟩ : ∃ n : Nat, IntKind.i64.wrap (1 + m) = (n : Int) ∧ (1 ≤ n ∧ n < l5.length) := ⟨(1 + m).toNat, by rw [IntWalk.i64_in] <;> omega, by omega⟩
                              replace G := hr5
                              clear hr5 hx2
                              replace K_v := K_v.grown b (fun e => by injection e with e; omega)
                              replace B := grown_trans B b (fun j hj => .inl (by injection hj with hj; exact hj.symm))
                              clear b
                              (try dsimp only)
                              refine hK.out _ _ (by first | exact World.grownBy.cell B e4 (fun q => by have q2 : b4 = g := (by injection q); omega) | (dsimp only; exact World.grownBy.cell B e4 (fun q => by have q2 : b4 = g := (by injection q); omega))) (fun hS => ?_)
                              clear hK K
                              (try simp only [Act.put, List.setIfInBounds_toArray, List.set_cons_zero, List.set_cons_succ])
                              refine wpAnyH_take (i := 7) (oi := { dst := some 33, op := Op.binOp BinOp.add 3 (Operand.const (Value.int IntKind.i64 1)) (Operand.tmp 32) 3, type := 3, pos := "l7_pairs.go:289", after := #[{ on := 6, ground := Ground.data }], guard := none }) (v := ?vq_12) rfl (by kernel_rfl) (by kernel_rfl) (by kernel_rfl) (fun _ _ _ h => h) (Or.inl ⟨by rfl, ?hyq_12⟩) hS ?restq_12
                              case hyq_12 => (intro w' hSw; (try dsimp only at hSw); go_simp; all_goals with_reducible rfl)
                              (try simp only [Act.put, List.setIfInBounds_toArray, List.set_cons_zero, List.set_cons_succ])
                              refine wpAnyH_listed (l' := #[true, true, true, true, true, true, true, true, false, false, false, false, false, true, false, false]) (by kernel_rfl) ?_
                              clear hS
                              (try clear hwx)
                              revert H_v; revert K_v; revert hn; revert G; revert B
                              revert ab_v; revert n; revert m; revert wn
                              exact keyq_6_13.out
                            refine AllReadyH.cons (o := { dst := some 5, op := Op.alloc 29, type := 0, pos := "l7_pairs.go:289", after := #[], guard := none }) rfl (fun K hK => ?_) ?_
                            · skip
                              go_simp
                              have H_u : w5.heap.size ≤ wr.heap.size := B.size
                              replace B : w5.grownBy (wr.alloc (.cells #[Value.slice none 0 0] 29)) (some g) := only_below B (bel_alloc wr _)
                              replace G := G.bel (bel_alloc wr (.cells #[Value.slice none 0 0] 29))
                              have X_q : wr.heap.size ≠ ab_v := by have := K_v.lt; omega
                              replace K_v := K_v.alloc (.cells #[Value.slice none 0 0] 29)
                              have K_u := Blk.new' wr 29 (Value.slice none 0 0) wr.heap.size rfl
                              refine hK.out _ _ (by first | exact World.grownBy.cell B e4 (fun q => by have q2 : b4 = g := (by injection q); omega) | (dsimp only; exact World.grownBy.cell B e4 (fun q => by have q2 : b4 = g := (by injection q); omega))) (fun hS => ?_)
                              clear hK K
                              (try simp only [Act.put, List.setIfInBounds_toArray, List.set_cons_zero, List.set_cons_succ])
                              refine wpAnyH_listed (l' := #[true, true, true, true, true, true, false, false, false, false, false, false, true, true, false, false]) (by kernel_rfl) ?_
                              clear hS
                              (try clear hwx)
                              revert X_q; revert H_v; revert K_v; revert H_u; revert K_u; revert G; revert B
                              generalize (wr.alloc (.cells #[Value.slice none 0 0] 29)) = wn
                              generalize wr.heap.size = ab_u
                              revert ab_v; revert ab_u; revert wn
                              exact keyq_12_13.out
                            exact AllReadyH.nil
                        case hkq_6_8 =>
                          intro wr m n A_x c_x A_y c_y B G hn O_x O_y D_q
                          refine wpAnyH_ready (rs := [12, 13]) (by kernel_rfl) (by simp) ?_
                          refine AllReadyH.cons (o := { dst := some 5, op := Op.alloc 29, type := 0, pos := "l7_pairs.go:289", after := #[], guard := none }) rfl (fun K hK => ?_) ?_
                          · skip
                            go_simp
                            have H_u : w5.heap.size ≤ wr.heap.size := B.size
                            replace B : w5.grownBy (wr.alloc (.cells #[Value.slice none 0 0] 29)) (some g) := only_below B (bel_alloc wr _)
                            replace G := G.bel (bel_alloc wr (.cells #[Value.slice none 0 0] 29))
                            have K_u := Blk.new' wr 29 (Value.slice none 0 0) wr.heap.size rfl
                            have N_u_x : Hid (∀ k, (Value.slice A_x (dropB l5 n).length c_x).ownBlock = some k → k ≠ wr.heap.size) := Lib.hid (fun k hk => by have p1 := (O_x.out.lt k hk).2; omega)
                            replace O_x := Lib.hid (O_x.out.bel (bel_alloc wr (.cells #[Value.slice none 0 0] 29)))
                            have N_u_y : Hid (∀ k, (Value.slice A_y (takeB l5 n).length c_y).ownBlock = some k → k ≠ wr.heap.size) := Lib.hid (fun k hk => by have p1 := (O_y.out.lt k hk).2; omega)
                            replace O_y := Lib.hid (O_y.out.bel (bel_alloc wr (.cells #[Value.slice none 0 0] 29)))
                            refine hK.out _ _ (by first | exact World.grownBy.cell B e4 (fun q => by have q2 : b4 = g := (by injection q); omega) | (dsimp only; exact World.grownBy.cell B e4 (fun q => by have q2 : b4 = g := (by injection q); omega))) (fun hS => ?_)
                            clear hK K
                            (try simp only [Act.put, List.setIfInBounds_toArray, List.set_cons_zero, List.set_cons_succ])
                            refine wpAnyH_listed (l' := #[true, true, true, true, true, true, true, true, true, true, true, true, true, false, false, false]) (by kernel_rfl) ?_
                            clear hS
                            (try clear hwx)
                            revert N_u_y; revert N_u_x; revert H_u; revert K_u; revert D_q; revert O_y; revert O_x; revert hn; revert G; revert B
                            generalize (wr.alloc (.cells #[Value.slice none 0 0] 29)) = wn
                            generalize wr.heap.size = ab_u
                            revert ab_u; revert c_y; revert A_y; revert c_x; revert A_x; revert n; revert m; revert wn
                            exact keyq_6_8_12.out
                          refine AllReadyH.cons (o := { dst := some 6, op := Op.alloc 29, type := 0, pos := "l7_pairs.go:289", after := #[], guard := none }) rfl (fun K hK => ?_) ?_
                          · skip
                            go_simp
                            have H_v : w5.heap.size ≤ wr.heap.size := B.size
                            replace B : w5.grownBy (wr.alloc (.cells #[Value.slice none 0 0] 29)) (some g) := only_below B (bel_alloc wr _)
                            replace G := G.bel (bel_alloc wr (.cells #[Value.slice none 0 0] 29))
                            have K_v := Blk.new' wr 29 (Value.slice none 0 0) wr.heap.size rfl
                            have N_v_x : Hid (∀ k, (Value.slice A_x (dropB l5 n).length c_x).ownBlock = some k → k ≠ wr.heap.size) := Lib.hid (fun k hk => by have p1 := (O_x.out.lt k hk).2; omega)
                            replace O_x := Lib.hid (O_x.out.bel (bel_alloc wr (.cells #[Value.slice none 0 0] 29)))
                            have N_v_y : Hid (∀ k, (Value.slice A_y (takeB l5 n).length c_y).ownBlock = some k → k ≠ wr.heap.size) := Lib.hid (fun k hk => by have p1 := (O_y.out.lt k hk).2; omega)
                            replace O_y := Lib.hid (O_y.out.bel (bel_alloc wr (.cells #[Value.slice none 0 0] 29)))
                            refine hK.out _ _ (by first | exact World.grownBy.cell B e4 (fun q => by have q2 : b4 = g := (by injection q); omega) | (dsimp only; exact World.grownBy.cell B e4 (fun q => by have q2 : b4 = g := (by injection q); omega))) (fun hS => ?_)
                            clear hK K
                            (try simp only [Act.put, List.setIfInBounds_toArray, List.set_cons_zero, List.set_cons_succ])
                            refine wpAnyH_listed (l' := #[true, true, true, true, true, true, true, true, true, true, true, true, false, true, false, false]) (by kernel_rfl) ?_
                            clear hS
                            (try clear hwx)
                            revert N_v_y; revert N_v_x; revert H_v; revert K_v; revert D_q; revert O_y; revert O_x; revert hn; revert G; revert B
                            generalize (wr.alloc (.cells #[Value.slice none 0 0] 29)) = wn
                            generalize wr.heap.size = ab_v
                            revert ab_v; revert c_y; revert A_y; revert c_x; revert A_x; revert n; revert m; revert wn
                            exact keyq_6_8_13.out
                          exact AllReadyH.nil
                      case hkq_6_12 =>
                        intro wr m n ab_u B G hn K_u H_u
                        refine wpAnyH_ready (rs := [8, 13]) (by kernel_rfl) (by simp) ?_
                        refine AllReadyH.cons (o := { dst := some 34, op := Op.call { callee := Callee.value (Operand.func 131), args := #[Operand.tmp 26, Operand.tmp 33], argTypes := #[29, 3] }, type := 79, pos := "l7_pairs.go:289", after := #[{ on := 0, ground := Ground.data }, { on := 7, ground := Ground.data }, { on := 6, ground := Ground.chain }], guard := none }) rfl (fun K hK => ?_) ?_
                        · skip
                          (try go_simp)
                          go_at_call 131
                          refine (splitD_any _ l5 n _ (HS.out.rowB B) (by omega) hn.1 hn.2).mono ?_
                          rintro e wn ⟨r_x, r_y, rfl, o_x, o_y, dxy, b⟩
                          have N_u_x : Hid (∀ k, r_x.ownBlock = some k → k ≠ ab_u) := Lib.hid (fun k hk => by have p1 := (o_x.lt k hk).1; have p2 := K_u.lt; omega)
                          have N_u_y : Hid (∀ k, r_y.ownBlock = some k → k ≠ ab_u) := Lib.hid (fun k hk => by have p1 := (o_y.lt k hk).1; have p2 := K_u.lt; omega)
                          have D_q := Lib.hid dxy
                          have O_x := Lib.hid (o_x.lower B.size)
                          have O_y := Lib.hid (o_y.lower B.size)
                          replace K_u := K_u.below b K_u.lt
                          replace G := G.bel b
                          replace B := only_below B b
                          obtain ⟨A_x, c_x, rfl, -, -, -⟩ := o_x.strs.open_
                          clear o_x
                          obtain ⟨A_y, c_y, rfl, -, -, -⟩ := o_y.strs.open_
                          clear o_y
                          clear b dxy
                          (try dsimp only)
                          refine hK.out _ _ (by first | exact World.grownBy.cell B e4 (fun q => by have q2 : b4 = g := (by injection q); omega) | (dsimp only; exact World.grownBy.cell B e4 (fun q => by have q2 : b4 = g := (by injection q); omega))) (fun hS => ?_)
                          clear hK K
                          (try simp only [Act.put, List.setIfInBounds_toArray, List.set_cons_zero, List.set_cons_succ])
                          refine wpAnyH_take (i := 9) (oi := { dst := some 25, op := Op.move (Operand.tmp 34), type := 79, pos := "l7_pairs.go:289", after := #[{ on := 8, ground := Ground.data }], guard := none }) (v := ?vq_13) rfl (by kernel_rfl) (by kernel_rfl) (by kernel_rfl) (fun _ _ _ h => h) (Or.inl ⟨by rfl, ?hyq_13⟩) hS ?restq_13
                          case hyq_13 => (intro w' hSw; (try dsimp only at hSw); go_simp; all_goals with_reducible rfl)
                          (try simp only [Act.put, List.setIfInBounds_toArray, List.set_cons_zero, List.set_cons_succ])
                          refine wpAnyH_take (i := 10) (oi := { dst := some 35, op := Op.extract (Operand.tmp 25) 0, type := 29, pos := "l7_pairs.go:289", after := #[{ on := 9, ground := Ground.data }], guard := none }) (v := ?vq_14) rfl (by kernel_rfl) (by kernel_rfl) (by kernel_rfl) (fun _ _ _ h => h) (Or.inl ⟨by rfl, ?hyq_14⟩) hS ?restq_14
                          case hyq_14 => (intro w' hSw; (try dsimp only at hSw); go_simp; all_goals with_reducible rfl)
                          (try simp only [Act.put, List.setIfInBounds_toArray, List.set_cons_zero, List.set_cons_succ])
                          refine wpAnyH_take (i := 11) (oi := { dst := some 36, op := Op.extract (Operand.tmp 25) 1, type := 29, pos := "l7_pairs.go:289", after := #[{ on := 9, ground := Ground.data }, { on := 14, ground := Ground.gcOnly Departure.lateStores }], guard := none }) (v := ?vq_15) rfl (by kernel_rfl) (by kernel_rfl) (by kernel_rfl) (fun _ _ _ h => h) (Or.inl ⟨by rfl, ?hyq_15⟩) hS ?restq_15
                          case hyq_15 => (intro w' hSw; (try dsimp only at hSw); go_simp; all_goals with_reducible rfl)
                          (try simp only [Act.put, List.setIfInBounds_toArray, List.set_cons_zero, List.set_cons_succ])
                          refine wpAnyH_listed (l' := #[true, true, true, true, true, true, true, true, true, true, true, true, true, false, false, false]) (by kernel_rfl) ?_
                          clear hS
                          (try clear hwx)
                          revert N_u_y; revert N_u_x; revert H_u; revert K_u; revert D_q; revert O_y; revert O_x; revert hn; revert G; revert B
                          revert ab_u; revert c_y; revert A_y; revert c_x; revert A_x; revert n; revert m; revert wn
                          exact keyq_6_8_12.out
                        refine AllReadyH.cons (o := { dst := some 6, op := Op.alloc 29, type := 0, pos := "l7_pairs.go:289", after := #[], guard := none }) rfl (fun K hK => ?_) ?_
                        · skip
                          go_simp
                          have H_v : w5.heap.size ≤ wr.heap.size := B.size
                          replace B : w5.grownBy (wr.alloc (.cells #[Value.slice none 0 0] 29)) (some g) := only_below B (bel_alloc wr _)
                          replace G := G.bel (bel_alloc wr (.cells #[Value.slice none 0 0] 29))
                          have X_q : ab_u ≠ wr.heap.size := by have := K_u.lt; omega
                          replace K_u := K_u.alloc (.cells #[Value.slice none 0 0] 29)
                          have K_v := Blk.new' wr 29 (Value.slice none 0 0) wr.heap.size rfl
                          refine hK.out _ _ (by first | exact World.grownBy.cell B e4 (fun q => by have q2 : b4 = g := (by injection q); omega) | (dsimp only; exact World.grownBy.cell B e4 (fun q => by have q2 : b4 = g := (by injection q); omega))) (fun hS => ?_)
                          clear hK K
                          (try simp only [Act.put, List.setIfInBounds_toArray, List.set_cons_zero, List.set_cons_succ])
                          refine wpAnyH_listed (l' := #[true, true, true, true, true, true, true, true, false, false, false, false, true, true, false, false]) (by kernel_rfl) ?_
                          clear hS
                          (try clear hwx)
                          revert X_q; revert H_v; revert K_v; revert H_u; revert K_u; revert hn; revert G; revert B
                          generalize (wr.alloc (.cells #[Value.slice none 0 0] 29)) = wn
                          generalize wr.heap.size = ab_v
                          revert ab_v; revert ab_u; revert n; revert m; revert wn
                          exact keyq_6_12_13.out
                        exact AllReadyH.nil
                    case hkq_6_13 =>
                      intro wr m n ab_v B G hn K_v H_v
                      refine wpAnyH_ready (rs := [8, 12]) (by kernel_rfl) (by simp) ?_
                      refine AllReadyH.cons (o := { dst := some 34, op := Op.call { callee := Callee.value (Operand.func 131), args := #[Operand.tmp 26, Operand.tmp 33], argTypes := #[29, 3] }, type := 79, pos := "l7_pairs.go:289", after := #[{ on := 0, ground := Ground.data }, { on := 7, ground := Ground.data }, { on := 6, ground := Ground.chain }], guard := none }) rfl (fun K hK => ?_) ?_
                      · skip
                        (try go_simp)
                        go_at_call 131
                        refine (splitD_any _ l5 n _ (HS.out.rowB B) (by omega) hn.1 hn.2).mono ?_
                        rintro e wn ⟨r_x, r_y, rfl, o_x, o_y, dxy, b⟩
                        have N_v_x : Hid (∀ k, r_x.ownBlock = some k → k ≠ ab_v) := Lib.hid (fun k hk => by have p1 := (o_x.lt k hk).1; have p2 := K_v.lt; omega)
                        have N_v_y : Hid (∀ k, r_y.ownBlock = some k → k ≠ ab_v) := Lib.hid (fun k hk => by have p1 := (o_y.lt k hk).1; have p2 := K_v.lt; omega)
                        have D_q := Lib.hid dxy
                        have O_x := Lib.hid (o_x.lower B.size)
                        have O_y := Lib.hid (o_y.lower B.size)
                        replace K_v := K_v.below b K_v.lt
                        replace G := G.bel b
                        replace B := only_below B b
                        obtain ⟨A_x, c_x, rfl, -, -, -⟩ := o_x.strs.open_
                        clear o_x
                        obtain ⟨A_y, c_y, rfl, -, -, -⟩ := o_y.strs.open_
                        clear o_y
                        clear b dxy
                        (try dsimp only)
                        refine hK.out _ _ (by first | exact World.grownBy.cell B e4 (fun q => by have q2 : b4 = g := (by injection q); omega) | (dsimp only; exact World.grownBy.cell B e4 (fun q => by have q2 : b4 = g := (by injection q); omega))) (fun hS => ?_)
                        clear hK K
                        (try simp only [Act.put, List.setIfInBounds_toArray, List.set_cons_zero, List.set_cons_succ])
                        refine wpAnyH_take (i := 9) (oi := { dst := some 25, op := Op.move (Operand.tmp 34), type := 79, pos := "l7_pairs.go:289", after := #[{ on := 8, ground := Ground.data }], guard := none }) (v := ?vq_16) rfl (by kernel_rfl) (by kernel_rfl) (by kernel_rfl) (fun _ _ _ h => h) (Or.inl ⟨by rfl, ?hyq_16⟩) hS ?restq_16
                        case hyq_16 => (intro w' hSw; (try dsimp only at hSw); go_simp; all_goals with_reducible rfl)
                        (try simp only [Act.put, List.setIfInBounds_toArray, List.set_cons_zero, List.set_cons_succ])
                        refine wpAnyH_take (i := 10) (oi := { dst := some 35, op := Op.extract (Operand.tmp 25) 0, type := 29, pos := "l7_pairs.go:289", after := #[{ on := 9, ground := Ground.data }], guard := none }) (v := ?vq_17) rfl (by kernel_rfl) (by kernel_rfl) (by kernel_rfl) (fun _ _ _ h => h) (Or.inl ⟨by rfl, ?hyq_17⟩) hS ?restq_17
                        case hyq_17 => (intro w' hSw; (try dsimp only at hSw); go_simp; all_goals with_reducible rfl)
                        (try simp only [Act.put, List.setIfInBounds_toArray, List.set_cons_zero, List.set_cons_succ])
                        refine wpAnyH_take (i := 11) (oi := { dst := some 36, op := Op.extract (Operand.tmp 25) 1, type := 29, pos := "l7_pairs.go:289", after := #[{ on := 9, ground := Ground.data }, { on := 14, ground := Ground.gcOnly Departure.lateStores }], guard := none }) (v := ?vq_18) rfl (by kernel_rfl) (by kernel_rfl) (by kernel_rfl) (fun _ _ _ h => h) (Or.inl ⟨by rfl, ?hyq_18⟩) hS ?restq_18
                        case hyq_18 => (intro w' hSw; (try dsimp only at hSw); go_simp; all_goals with_reducible rfl)
                        (try simp only [Act.put, List.setIfInBounds_toArray, List.set_cons_zero, List.set_cons_succ])
                        refine wpAnyH_listed (l' := #[true, true, true, true, true, true, true, true, true, true, true, true, false, true, false, false]) (by kernel_rfl) ?_
                        clear hS
                        (try clear hwx)
                        revert N_v_y; revert N_v_x; revert H_v; revert K_v; revert D_q; revert O_y; revert O_x; revert hn; revert G; revert B
                        revert ab_v; revert c_y; revert A_y; revert c_x; revert A_x; revert n; revert m; revert wn
                        exact keyq_6_8_13.out
                      refine AllReadyH.cons (o := { dst := some 5, op := Op.alloc 29, type := 0, pos := "l7_pairs.go:289", after := #[], guard := none }) rfl (fun K hK => ?_) ?_
                      · skip
                        go_simp
                        have H_u : w5.heap.size ≤ wr.heap.size := B.size
                        replace B : w5.grownBy (wr.alloc (.cells #[Value.slice none 0 0] 29)) (some g) := only_below B (bel_alloc wr _)
                        replace G := G.bel (bel_alloc wr (.cells #[Value.slice none 0 0] 29))
                        have X_q : wr.heap.size ≠ ab_v := by have := K_v.lt; omega
                        replace K_v := K_v.alloc (.cells #[Value.slice none 0 0] 29)
                        have K_u := Blk.new' wr 29 (Value.slice none 0 0) wr.heap.size rfl
                        refine hK.out _ _ (by first | exact World.grownBy.cell B e4 (fun q => by have q2 : b4 = g := (by injection q); omega) | (dsimp only; exact World.grownBy.cell B e4 (fun q => by have q2 : b4 = g := (by injection q); omega))) (fun hS => ?_)
                        clear hK K
                        (try simp only [Act.put, List.setIfInBounds_toArray, List.set_cons_zero, List.set_cons_succ])
                        refine wpAnyH_listed (l' := #[true, true, true, true, true, true, true, true, false, false, false, false, true, true, false, false]) (by kernel_rfl) ?_
                        clear hS
                        (try clear hwx)
                        revert X_q; revert H_v; revert K_v; revert H_u; revert K_u; revert hn; revert G; revert B
                        generalize (wr.alloc (.cells #[Value.slice none 0 0] 29)) = wn
                        generalize wr.heap.size = ab_u
                        revert ab_v; revert ab_u; revert n; revert m; revert wn
                        exact keyq_6_12_13.out
                      exact AllReadyH.nil
                  case hkq_12_13 =>
                    intro wr ab_u ab_v B G K_u H_u K_v H_v X_q
                    refine wpAnyH_ready (rs := [6]) (by kernel_rfl) (by simp) ?_
                    refine AllReadyH.cons (o := { dst := some 32, op := Op.call { callee := Callee.value (Operand.func 83), args := #[Operand.tmp 27, Operand.tmp 31], argTypes := #[96, 3] }, type := 3, pos := "l7_pairs.go:289", after := #[{ on := 1, ground := Ground.data }, { on := 5, ground := Ground.data }], guard := none }) rfl (fun K hK => ?_) ?_
                    · skip
                      (try go_simp)
                      go_at_call 83
                      refine (pick_any g _ _ _ G (by omega) (by omega)).mono ?_
                      rintro e wn ⟨m, rfl, hx, -, hr5, b⟩
                      have hx2 := hx (by omega)
                      clear hx
                      obtain ⟨n, hwx, hn⟩ : ∃ n : Nat, IntKind.i64.wrap (1 + m) = (n : Int) ∧ (1 ≤ n ∧ n < l5.length) := ⟨(1 + m).toNat, by rw [IntWalk.i64_in] <;> omega, by omega⟩
                      replace G := hr5
                      clear hr5 hx2
                      replace K_u := K_u.grown b (fun e => by injection e with e; omega)
                      replace K_v := K_v.grown b (fun e => by injection e with e; omega)
                      replace B := grown_trans B b (fun j hj => .inl (by injection hj with hj; exact hj.symm))
                      clear b
                      (try dsimp only)
                      refine hK.out _ _ (by first | exact World.grownBy.cell B e4 (fun q => by have q2 : b4 = g := (by injection q); omega) | (dsimp only; exact World.grownBy.cell B e4 (fun q => by have q2 : b4 = g := (by injection q); omega))) (fun hS => ?_)
                      clear hK K
                      (try simp only [Act.put, List.setIfInBounds_toArray, List.set_cons_zero, List.set_cons_succ])
                      refine wpAnyH_take (i := 7) (oi := { dst := some 33, op := Op.binOp BinOp.add 3 (Operand.const (Value.int IntKind.i64 1)) (Operand.tmp 32) 3, type := 3, pos := "l7_pairs.go:289", after := #[{ on := 6, ground := Ground.data }], guard := none }) (v := ?vq_19) rfl (by kernel_rfl) (by kernel_rfl) (by kernel_rfl) (fun _ _ _ h => h) (Or.inl ⟨by rfl, ?hyq_19⟩) hS ?restq_19
                      case hyq_19 => (intro w' hSw; (try dsimp only at hSw); go_simp; all_goals with_reducible rfl)
                      (try simp only [Act.put, List.setIfInBounds_toArray, List.set_cons_zero, List.set_cons_succ])
                      refine wpAnyH_listed (l' := #[true, true, true, true, true, true, true, true, false, false, false, false, true, true, false, false]) (by kernel_rfl) ?_
                      clear hS
                      (try clear hwx)
                      revert X_q; revert H_v; revert K_v; revert H_u; revert K_u; revert hn; revert G; revert B
                      revert ab_v; revert ab_u; revert n; revert m; revert wn
                      exact keyq_6_12_13.out
                    exact AllReadyH.nil
                case hkq_6_8_12 =>
                  intro wr m n A_x c_x A_y c_y ab_u B G hn O_x O_y D_q K_u H_u N_u_x N_u_y
                  refine wpAnyH_ready (rs := [13]) (by kernel_rfl) (by simp) ?_
                  refine AllReadyH.cons (o := { dst := some 6, op := Op.alloc 29, type := 0, pos := "l7_pairs.go:289", after := #[], guard := none }) rfl (fun K hK => ?_) ?_
                  · skip
                    go_simp
                    have H_v : w5.heap.size ≤ wr.heap.size := B.size
                    replace B : w5.grownBy (wr.alloc (.cells #[Value.slice none 0 0] 29)) (some g) := only_below B (bel_alloc wr _)
                    replace G := G.bel (bel_alloc wr (.cells #[Value.slice none 0 0] 29))
                    have X_q : ab_u ≠ wr.heap.size := by have := K_u.lt; omega
                    replace K_u := K_u.alloc (.cells #[Value.slice none 0 0] 29)
                    have K_v := Blk.new' wr 29 (Value.slice none 0 0) wr.heap.size rfl
                    have N_v_x : Hid (∀ k, (Value.slice A_x (dropB l5 n).length c_x).ownBlock = some k → k ≠ wr.heap.size) := Lib.hid (fun k hk => by have p1 := (O_x.out.lt k hk).2; omega)
                    replace O_x := Lib.hid (O_x.out.bel (bel_alloc wr (.cells #[Value.slice none 0 0] 29)))
                    have N_v_y : Hid (∀ k, (Value.slice A_y (takeB l5 n).length c_y).ownBlock = some k → k ≠ wr.heap.size) := Lib.hid (fun k hk => by have p1 := (O_y.out.lt k hk).2; omega)
                    replace O_y := Lib.hid (O_y.out.bel (bel_alloc wr (.cells #[Value.slice none 0 0] 29)))
                    refine hK.out _ _ (by first | exact World.grownBy.cell B e4 (fun q => by have q2 : b4 = g := (by injection q); omega) | (dsimp only; exact World.grownBy.cell B e4 (fun q => by have q2 : b4 = g := (by injection q); omega))) (fun hS => ?_)
                    clear hK K
                    (try simp only [Act.put, List.setIfInBounds_toArray, List.set_cons_zero, List.set_cons_succ])
                    refine wpAnyH_listed (l' := #[true, true, true, true, true, true, true, true, true, true, true, true, true, true, false, false]) (by kernel_rfl) ?_
                    clear hS
                    (try clear hwx)
                    revert N_v_y; revert N_v_x; revert N_u_y; revert N_u_x; revert X_q; revert H_v; revert K_v; revert H_u; revert K_u; revert D_q; revert O_y; revert O_x; revert hn; revert G; revert B
                    generalize (wr.alloc (.cells #[Value.slice none 0 0] 29)) = wn
                    generalize wr.heap.size = ab_v
                    revert ab_v; revert ab_u; revert c_y; revert A_y; revert c_x; revert A_x; revert n; revert m; revert wn
                    exact keyq_6_8_12_13.out
                  exact AllReadyH.nil
              case hkq_6_8_13 =>
                intro wr m n A_x c_x A_y c_y ab_v B G hn O_x O_y D_q K_v H_v N_v_x N_v_y
                refine wpAnyH_ready (rs := [12]) (by kernel_rfl) (by simp) ?_
                refine AllReadyH.cons (o := { dst := some 5, op := Op.alloc 29, type := 0, pos := "l7_pairs.go:289", after := #[], guard := none }) rfl (fun K hK => ?_) ?_
                · skip
                  go_simp
                  have H_u : w5.heap.size ≤ wr.heap.size := B.size
                  replace B : w5.grownBy (wr.alloc (.cells #[Value.slice none 0 0] 29)) (some g) := only_below B (bel_alloc wr _)
                  replace G := G.bel (bel_alloc wr (.cells #[Value.slice none 0 0] 29))
                  have X_q : wr.heap.size ≠ ab_v := by have := K_v.lt; omega
                  replace K_v := K_v.alloc (.cells #[Value.slice none 0 0] 29)
                  have K_u := Blk.new' wr 29 (Value.slice none 0 0) wr.heap.size rfl
                  have N_u_x : Hid (∀ k, (Value.slice A_x (dropB l5 n).length c_x).ownBlock = some k → k ≠ wr.heap.size) := Lib.hid (fun k hk => by have p1 := (O_x.out.lt k hk).2; omega)
                  replace O_x := Lib.hid (O_x.out.bel (bel_alloc wr (.cells #[Value.slice none 0 0] 29)))
                  have N_u_y : Hid (∀ k, (Value.slice A_y (takeB l5 n).length c_y).ownBlock = some k → k ≠ wr.heap.size) := Lib.hid (fun k hk => by have p1 := (O_y.out.lt k hk).2; omega)
                  replace O_y := Lib.hid (O_y.out.bel (bel_alloc wr (.cells #[Value.slice none 0 0] 29)))
                  refine hK.out _ _ (by first | exact World.grownBy.cell B e4 (fun q => by have q2 : b4 = g := (by injection q); omega) | (dsimp only; exact World.grownBy.cell B e4 (fun q => by have q2 : b4 = g := (by injection q); omega))) (fun hS => ?_)
                  clear hK K
                  (try simp only [Act.put, List.setIfInBounds_toArray, List.set_cons_zero, List.set_cons_succ])
                  refine wpAnyH_listed (l' := #[true, true, true, true, true, true, true, true, true, true, true, true, true, true, false, false]) (by kernel_rfl) ?_
                  clear hS
                  (try clear hwx)
                  revert N_v_y; revert N_v_x; revert N_u_y; revert N_u_x; revert X_q; revert H_v; revert K_v; revert H_u; revert K_u; revert D_q; revert O_y; revert O_x; revert hn; revert G; revert B
                  generalize (wr.alloc (.cells #[Value.slice none 0 0] 29)) = wn
                  generalize wr.heap.size = ab_u
                  revert ab_v; revert ab_u; revert c_y; revert A_y; revert c_x; revert A_x; revert n; revert m; revert wn
                  exact keyq_6_8_12_13.out
                exact AllReadyH.nil
            case hkq_6_12_13 =>
              intro wr m n ab_u ab_v B G hn K_u H_u K_v H_v X_q
              refine wpAnyH_ready (rs := [8]) (by kernel_rfl) (by simp) ?_
              refine AllReadyH.cons (o := { dst := some 34, op := Op.call { callee := Callee.value (Operand.func 131), args := #[Operand.tmp 26, Operand.tmp 33], argTypes := #[29, 3] }, type := 79, pos := "l7_pairs.go:289", after := #[{ on := 0, ground := Ground.data }, { on := 7, ground := Ground.data }, { on := 6, ground := Ground.chain }], guard := none }) rfl (fun K hK => ?_) ?_
              · skip
                (try go_simp)
                go_at_call 131
                refine (splitD_any _ l5 n _ (HS.out.rowB B) (by omega) hn.1 hn.2).mono ?_
                rintro e wn ⟨r_x, r_y, rfl, o_x, o_y, dxy, b⟩
                have N_u_x : Hid (∀ k, r_x.ownBlock = some k → k ≠ ab_u) := Lib.hid (fun k hk => by have p1 := (o_x.lt k hk).1; have p2 := K_u.lt; omega)
                have N_u_y : Hid (∀ k, r_y.ownBlock = some k → k ≠ ab_u) := Lib.hid (fun k hk => by have p1 := (o_y.lt k hk).1; have p2 := K_u.lt; omega)
                have N_v_x : Hid (∀ k, r_x.ownBlock = some k → k ≠ ab_v) := Lib.hid (fun k hk => by have p1 := (o_x.lt k hk).1; have p2 := K_v.lt; omega)
                have N_v_y : Hid (∀ k, r_y.ownBlock = some k → k ≠ ab_v) := Lib.hid (fun k hk => by have p1 := (o_y.lt k hk).1; have p2 := K_v.lt; omega)
                have D_q := Lib.hid dxy
                have O_x := Lib.hid (o_x.lower B.size)
                have O_y := Lib.hid (o_y.lower B.size)
                replace K_u := K_u.below b K_u.lt
                replace K_v := K_v.below b K_v.lt
                replace G := G.bel b
                replace B := only_below B b
                obtain ⟨A_x, c_x, rfl, -, -, -⟩ := o_x.strs.open_
                clear o_x
                obtain ⟨A_y, c_y, rfl, -, -, -⟩ := o_y.strs.open_
                clear o_y
                clear b dxy
                (try dsimp only)
                refine hK.out _ _ (by first | exact World.grownBy.cell B e4 (fun q => by have q2 : b4 = g := (by injection q); omega) | (dsimp only; exact World.grownBy.cell B e4 (fun q => by have q2 : b4 = g := (by injection q); omega))) (fun hS => ?_)
                clear hK K
                (try simp only [Act.put, List.setIfInBounds_toArray, List.set_cons_zero, List.set_cons_succ])
                refine wpAnyH_take (i := 9) (oi := { dst := some 25, op := Op.move (Operand.tmp 34), type := 79, pos := "l7_pairs.go:289", after := #[{ on := 8, ground := Ground.data }], guard := none }) (v := ?vq_20) rfl (by kernel_rfl) (by kernel_rfl) (by kernel_rfl) (fun _ _ _ h => h) (Or.inl ⟨by rfl, ?hyq_20⟩) hS ?restq_20
                case hyq_20 => (intro w' hSw; (try dsimp only at hSw); go_simp; all_goals with_reducible rfl)
                (try simp only [Act.put, List.setIfInBounds_toArray, List.set_cons_zero, List.set_cons_succ])
                refine wpAnyH_take (i := 10) (oi := { dst := some 35, op := Op.extract (Operand.tmp 25) 0, type := 29, pos := "l7_pairs.go:289", after := #[{ on := 9, ground := Ground.data }], guard := none }) (v := ?vq_21) rfl (by kernel_rfl) (by kernel_rfl) (by kernel_rfl) (fun _ _ _ h => h) (Or.inl ⟨by rfl, ?hyq_21⟩) hS ?restq_21
                case hyq_21 => (intro w' hSw; (try dsimp only at hSw); go_simp; all_goals with_reducible rfl)
                (try simp only [Act.put, List.setIfInBounds_toArray, List.set_cons_zero, List.set_cons_succ])
                refine wpAnyH_take (i := 11) (oi := { dst := some 36, op := Op.extract (Operand.tmp 25) 1, type := 29, pos := "l7_pairs.go:289", after := #[{ on := 9, ground := Ground.data }, { on := 14, ground := Ground.gcOnly Departure.lateStores }], guard := none }) (v := ?vq_22) rfl (by kernel_rfl) (by kernel_rfl) (by kernel_rfl) (fun _ _ _ h => h) (Or.inl ⟨by rfl, ?hyq_22⟩) hS ?restq_22
                case hyq_22 => (intro w' hSw; (try dsimp only at hSw); go_simp; all_goals with_reducible rfl)
                (try simp only [Act.put, List.setIfInBounds_toArray, List.set_cons_zero, List.set_cons_succ])
                refine wpAnyH_listed (l' := #[true, true, true, true, true, true, true, true, true, true, true, true, true, true, false, false]) (by kernel_rfl) ?_
                clear hS
                (try clear hwx)
                revert N_v_y; revert N_v_x; revert N_u_y; revert N_u_x; revert X_q; revert H_v; revert K_v; revert H_u; revert K_u; revert D_q; revert O_y; revert O_x; revert hn; revert G; revert B
                revert ab_v; revert ab_u; revert c_y; revert A_y; revert c_x; revert A_x; revert n; revert m; revert wn
                exact keyq_6_8_12_13.out
              exact AllReadyH.nil
          case hkq_6_8_12_13 =>
            intro wr m n A_x c_x A_y c_y ab_u ab_v B G hn O_x O_y D_q K_u H_u K_v H_v X_q N_u_x N_u_y N_v_x N_v_y
            refine wpAnyH_ready (rs := [14]) (by kernel_rfl) (by simp) ?_
            refine AllReadyH.cons (o := { dst := none, op := Op.store 29 (Operand.tmp 5) (Operand.tmp 35), type := 0, pos := "l7_pairs.go:289", after := #[{ on := 12, ground := Ground.data }, { on := 10, ground := Ground.data }, { on := 8, ground := Ground.chain }, { on := 0, ground := Ground.phase }, { on := 1, ground := Ground.phase }, { on := 2, ground := Ground.phase }, { on := 3, ground := Ground.phase }, { on := 4, ground := Ground.phase }, { on := 5, ground := Ground.phase }, { on := 6, ground := Ground.phase }, { on := 7, ground := Ground.phase }, { on := 8, ground := Ground.phase }, { on := 9, ground := Ground.phase }, { on := 10, ground := Ground.phase }, { on := 11, ground := Ground.textOnly Departure.lateStores }, { on := 12, ground := Ground.phase }, { on := 13, ground := Ground.phase }], guard := none }) rfl (fun K hK => ?_) ?_
            · skip
              obtain ⟨e_u, f_u⟩ := K_u.one
              go_simp
              clear e_u f_u
              have gst : wr.grownBy (wr.setCell ⟨ab_u, 0, none⟩ (Value.slice A_x (dropB l5 n).length c_x)) (some ab_u) := only_setCell (World.grownBy.refl wr (some ab_u)) (.inl rfl) _
              replace O_x := Lib.hid (O_x.out.awayRow gst N_u_x.out)
              replace O_y := Lib.hid (O_y.out.awayRow gst N_u_y.out)
              replace K_u : Blk (wr.setCell ⟨ab_u, 0, none⟩ (Value.slice A_x (dropB l5 n).length c_x)) ab_u 29 [Value.slice A_x (dropB l5 n).length c_x] := K_u.set_ 0 _
              replace K_v := K_v.far (p := ⟨ab_u, 0, none⟩) (by show ab_v ≠ ab_u; omega) (Value.slice A_x (dropB l5 n).length c_x)
              replace B : w5.grownBy (wr.setCell ⟨ab_u, 0, none⟩ (Value.slice A_x (dropB l5 n).length c_x)) (some g) := grown_trans B gst (fun j hj => .inr (by injection hj with hj; omega))
              replace G := G.grown gst (fun k hk => by injection hk with hk; omega)
              clear gst
              refine hK.out _ _ (by first | exact World.grownBy.cell B e4 (fun q => by have q2 : b4 = g := (by injection q); omega) | (dsimp only; exact World.grownBy.cell B e4 (fun q => by have q2 : b4 = g := (by injection q); omega))) (fun hS => ?_)
              clear hK K
              (try simp only [Act.put, List.setIfInBounds_toArray, List.set_cons_zero, List.set_cons_succ])
              refine wpAnyH_listed (l' := #[true, true, true, true, true, true, true, true, true, true, true, true, true, true, true, false]) (by kernel_rfl) ?_
              clear hS
              (try clear hwx)
              revert N_v_y; revert N_v_x; revert N_u_y; revert N_u_x; revert X_q; revert H_v; revert K_v; revert H_u; revert K_u; revert D_q; revert O_y; revert O_x; revert hn; revert G; revert B
              generalize (wr.setCell ⟨ab_u, 0, none⟩ (Value.slice A_x (dropB l5 n).length c_x)) = wn
              revert ab_v; revert ab_u; revert c_y; revert A_y; revert c_x; revert A_x; revert n; revert m; revert wn
              exact keyq_6_8_12_13_14.out
            exact AllReadyH.nil
        case hkq_6_8_12_13_14 =>
          intro wr m n A_x c_x A_y c_y ab_u ab_v B G hn O_x O_y D_q K_u H_u K_v H_v X_q N_u_x N_u_y N_v_x N_v_y
          refine wpAnyH_ready (rs := [15]) (by kernel_rfl) (by simp) ?_
          refine AllReadyH.cons (o := { dst := none, op := Op.store 29 (Operand.tmp 6) (Operand.tmp 36), type := 0, pos := "l7_pairs.go:289", after := #[{ on := 13, ground := Ground.data }, { on := 11, ground := Ground.data }, { on := 14, ground := Ground.chain }, { on := 0, ground := Ground.phase }, { on := 1, ground := Ground.phase }, { on := 2, ground := Ground.phase }, { on := 3, ground := Ground.phase }, { on := 4, ground := Ground.phase }, { on := 5, ground := Ground.phase }, { on := 6, ground := Ground.phase }, { on := 7, ground := Ground.phase }, { on := 8, ground := Ground.phase }, { on := 9, ground := Ground.phase }, { on := 10, ground := Ground.phase }, { on := 11, ground := Ground.phase }, { on := 12, ground := Ground.phase }, { on := 13, ground := Ground.phase }, { on := 14, ground := Ground.phase }], guard := none }) rfl (fun K hK => ?_) ?_
          · skip
            obtain ⟨e_v, f_v⟩ := K_v.one
            go_simp
            clear e_v f_v
            have gst : wr.grownBy (wr.setCell ⟨ab_v, 0, none⟩ (Value.slice A_y (takeB l5 n).length c_y)) (some ab_v) := only_setCell (World.grownBy.refl wr (some ab_v)) (.inl rfl) _
            replace O_x := Lib.hid (O_x.out.awayRow gst N_v_x.out)
            replace O_y := Lib.hid (O_y.out.awayRow gst N_v_y.out)
            replace K_v : Blk (wr.setCell ⟨ab_v, 0, none⟩ (Value.slice A_y (takeB l5 n).length c_y)) ab_v 29 [Value.slice A_y (takeB l5 n).length c_y] := K_v.set_ 0 _
            replace K_u := K_u.far (p := ⟨ab_v, 0, none⟩) (by show ab_u ≠ ab_v; omega) (Value.slice A_y (takeB l5 n).length c_y)
            replace B : w5.grownBy (wr.setCell ⟨ab_v, 0, none⟩ (Value.slice A_y (takeB l5 n).length c_y)) (some g) := grown_trans B gst (fun j hj => .inr (by injection hj with hj; omega))
            replace G := G.grown gst (fun k hk => by injection hk with hk; omega)
            clear gst
            refine hK.out _ _ (by first | exact World.grownBy.cell B e4 (fun q => by have q2 : b4 = g := (by injection q); omega) | (dsimp only; exact World.grownBy.cell B e4 (fun q => by have q2 : b4 = g := (by injection q); omega))) (fun hS => ?_)
            clear hK K
            (try simp only [Act.put, List.setIfInBounds_toArray, List.set_cons_zero, List.set_cons_succ])
            refine wpAnyH_listed (l' := #[true, true, true, true, true, true, true, true, true, true, true, true, true, true, true, true]) (by kernel_rfl) ?_
            clear hS
            (try clear hwx)
            revert N_v_y; revert N_v_x; revert N_u_y; revert N_u_x; revert X_q; revert H_v; revert K_v; revert H_u; revert K_u; revert D_q; revert O_y; revert O_x; revert hn; revert G; revert B
            generalize (wr.setCell ⟨ab_v, 0, none⟩ (Value.slice A_y (takeB l5 n).length c_y)) = wn
            revert ab_v; revert ab_u; revert c_y; revert A_y; revert c_x; revert A_x; revert n; revert m; revert wn
            exact keyq_6_8_12_13_14_15.out
          exact AllReadyH.nil
      intro w6 m n A_x c_x A_y c_y ab_u ab_v B G hn O_x O_y D_q K_u H_u K_v H_v X_q N_u_x N_u_y N_v_x N_v_y
      refine wpAnyH_done (by kernel_rfl) ?_ _
      clear e4 hw1
      have k2 := K2.lt
      have k3 := K3.lt
      have z6 := B.size
      replace K2 := K2.grown B (fun e => by injection e with e; omega)
      replace K3 := K3.grown B (fun e => by injection e with e; omega)
      have HW6 := Lib.hid (show w.grownBy w6 (some g) from grown_trans (grown_trans HG0.out HS.out.gr (fun j hj => .inl (by injection hj with hj; exact hj.symm))) B (fun j hj => .inl (by injection hj with hj; exact hj.symm)))
      have HLX := Lib.hid (And.intro (show 1 ≤ (dropB l5 n).length ∧ (dropB l5 n).length ≤ 7 by unfold dropB; rw [List.length_drop]; omega) (And.intro (show 1 ≤ (takeB l5 n).length ∧ (takeB l5 n).length ≤ 7 by unfold takeB; rw [List.length_take]; omega) (And.intro (fun s (hs : s ∈ dropB l5 n) => (HW.out s (List.mem_of_mem_drop hs)).2) (fun s (hs : s ∈ takeB l5 n) => (HW.out s (List.mem_of_mem_take hs)).2))))
      clear B HS K4 HG0 X_q N_u_x N_u_y N_v_x N_v_y
      go_wp2_with fail
      refine (pick_any g _ 12 _ G (by omega) (by omega)).mono ?_
      rintro e w7 ⟨q, rfl, hq, -, hr7, hg7⟩
      have hq2 := hq (by omega)
      have z7 := hg7.size
      replace K2 := K2.grown hg7 (fun e => by injection e with e; omega)
      replace K3 := K3.grown hg7 (fun e => by injection e with e; omega)
      replace K_u := K_u.grown hg7 (fun e => by injection e with e; omega)
      replace K_v := K_v.grown hg7 (fun e => by injection e with e; omega)
      replace O_x := Lib.hid ((O_x.out.far hg7 (fun k hk => by injection hk with hk; omega)).lower (base' := w.heap.size + 1 + 1) (by omega))
      replace O_y := Lib.hid ((O_y.out.far hg7 (fun k hk => by injection hk with hk; omega)).lower (base' := w.heap.size + 1 + 1) (by omega))
      replace HW6 := Lib.hid (grown_trans HW6.out hg7 (fun j hj => .inl (by injection hj with hj; exact hj.symm)))
      have HR7 := Lib.hid hr7
      clear hq hr7 hg7 G
      obtain ⟨e2, f2⟩ := K2.one
      obtain ⟨e3, f3⟩ := K3.one
      obtain ⟨eu, fu⟩ := K_u.one
      obtain ⟨ev, fv⟩ := K_v.one
      have k2 := K2.lt
      have k3 := K3.lt
      have ku := K_u.lt
      have kv := K_v.lt
      have d1 : ab_u ≠ w.heap.size := by omega
      have d2 : ab_v ≠ w.heap.size := by omega
      have d3 : ab_u ≠ w.heap.size + 1 := by omega
      have d4 : ab_v ≠ w.heap.size + 1 := by omega
      cases q0 : (q == 0)
      · cases q1 : (q == 1)
        · go_wp2_with fail
          go_region_held3 (fun w' => w'.cell? ⟨ab_u, 0, none⟩ = some (Value.slice A_x (dropB l5 n).length c_x) ∧ w'.cell? ⟨ab_v, 0, none⟩ = some (Value.slice A_y (takeB l5 n).length c_y)) (first | exact ⟨eu, ev⟩ | exact ⟨(K_u.far (p := ⟨w.heap.size, 0, none⟩) (by exact d1) _).one.1, (K_v.far (p := ⟨w.heap.size, 0, none⟩) (by exact d2) _).one.1⟩ | exact ⟨((K_u.far (p := ⟨w.heap.size, 0, none⟩) (by exact d1) _).far (p := ⟨w.heap.size + 1, 0, none⟩) (by exact d3) _).one.1, ((K_v.far (p := ⟨w.heap.size, 0, none⟩) (by exact d2) _).far (p := ⟨w.heap.size + 1, 0, none⟩) (by exact d4) _).one.1⟩ | go_keep) (first | fail)
          all_goals
            have bl2 : Blk ((w7.setCell ⟨w.heap.size, 0, none⟩ (Value.slice A_x (dropB l5 n).length c_x)).setCell ⟨w.heap.size + 1, 0, none⟩ (Value.slice A_y (takeB l5 n).length c_y)) w.heap.size 29 [Value.slice A_x (dropB l5 n).length c_x] := (K2.set_ 0 _).far (p := ⟨w.heap.size + 1, 0, none⟩) (by show w.heap.size ≠ w.heap.size + 1; omega) _
            have bl3 : Blk ((w7.setCell ⟨w.heap.size, 0, none⟩ (Value.slice A_x (dropB l5 n).length c_x)).setCell ⟨w.heap.size + 1, 0, none⟩ (Value.slice A_y (takeB l5 n).length c_y)) (w.heap.size + 1) 29 [Value.slice A_y (takeB l5 n).length c_y] := (K3.far (p := ⟨w.heap.size, 0, none⟩) (by show w.heap.size + 1 ≠ w.heap.size; omega) _).set_ 0 _
            have EE := Lib.hid (two_end hgw O_x.out O_y.out HR7.out HW6.out)
            obtain ⟨c2', -⟩ := bl2.one
            obtain ⟨c3', -⟩ := bl3.one
            clear e2 e3
            (try clear eu)
            (try clear ev)
            go_wp2
            refine bodyPost_ret (v := .tuple #[.agg #[Value.slice A_x (dropB l5 n).length c_x], .agg #[Value.slice A_y (takeB l5 n).length c_y]]) (by simp [results, Try.results139, go_sem, c2', c3']) rfl ⟨_, _, _, _, rfl, (by first | exact EE.out.1 | exact EE.out.1.bel ((Below.refl _ _).drew)), (by first | exact EE.out.2.1 | exact EE.out.2.1.bel ((Below.refl _ _).drew)), D_q.out, HLX.out.1, HLX.out.2.1, HLX.out.2.2.1, HLX.out.2.2.2, (show Rdr _ g _ from by first | exact EE.out.2.2.1 | exact EE.out.2.2.1.bel ((Below.refl _ _).drew)).more (by omega), (by first | exact EE.out.2.2.2 | exact only_below EE.out.2.2.2 ((Below.refl _ _).drew))⟩
        · skip
          have tok1 : True := trivial
          go_wp2_with fail
          go_region_held3 (fun w' => w'.cell? ⟨ab_u, 0, none⟩ = some (Value.slice A_x (dropB l5 n).length c_x)) (first | exact eu | exact (K_u.far (p := ⟨w.heap.size, 0, none⟩) (by exact d1) _).one.1 | exact ((K_u.far (p := ⟨w.heap.size, 0, none⟩) (by exact d1) _).far (p := ⟨w.heap.size + 1, 0, none⟩) (by exact d3) _).one.1 | go_keep) (first
            | ((try go_simp); go_at_call 144; have _t := tok1; refine (l3Some_any g _ _ (HR7.out.bel ((Below.refl _ _).drew)) (by omega)).mono ?_; rintro e w8 ⟨v8, l8, rfl, o8, m1, m7, hs8, hr8, hg8⟩; replace hg8 := grown_drew hg8; replace K2 := K2.grown hg8 (fun e => by injection e with e; omega); replace K3 := K3.grown hg8 (fun e => by injection e with e; omega); replace K_u := K_u.grown hg8 (fun e => by injection e with e; omega); replace K_v := K_v.grown hg8 (fun e => by injection e with e; omega); have y8 := Lib.hid (fun k hk => (O_x.out.lt k hk).2); have y9 := Lib.hid (fun k hk => (O_y.out.lt k hk).2); replace O_x := Lib.hid (O_x.out.far hg8 (fun k hk => by injection hk with hk; omega)); replace O_y := Lib.hid (O_y.out.far hg8 (fun k hk => by injection hk with hk; omega)); replace HW6 := Lib.hid (grown_trans HW6.out hg8 (fun j hj => .inl (by injection hj with hj; exact hj.symm))); have HR8 := Lib.hid hr8; have O8 := Lib.hid (o8.lower (base' := w.heap.size + 1 + 1) (show w.heap.size + 1 + 1 ≤ w7.heap.size by omega)); have HS8 := Lib.hid (And.intro (And.intro m1 m7) (fun s hs => (hs8 s hs).2)); have n8 := Lib.hid (fun k hk => (show w7.heap.size ≤ k from (o8.lt k hk).1)); obtain ⟨A8, c8, rfl, -, -, -⟩ := o8.strs.open_; replace e2 := K2.one.1; replace f2 := K2.one.2; replace e3 := K3.one.1; replace f3 := K3.one.2; replace eu := K_u.one.1; replace ev := K_v.one.1; clear tok1 o8 hr8 hg8 hs8 m1 m7; (try dsimp only))
            | fail)
          all_goals
            have bl2 : Blk ((w8.setCell ⟨w.heap.size, 0, none⟩ (Value.slice A_x (dropB l5 n).length c_x)).setCell ⟨w.heap.size + 1, 0, none⟩ (Value.slice A8 l8.length c8)) w.heap.size 29 [Value.slice A_x (dropB l5 n).length c_x] := (K2.set_ 0 _).far (p := ⟨w.heap.size + 1, 0, none⟩) (by show w.heap.size ≠ w.heap.size + 1; omega) _
            have bl3 : Blk ((w8.setCell ⟨w.heap.size, 0, none⟩ (Value.slice A_x (dropB l5 n).length c_x)).setCell ⟨w.heap.size + 1, 0, none⟩ (Value.slice A8 l8.length c8)) (w.heap.size + 1) 29 [Value.slice A8 l8.length c8] := (K3.far (p := ⟨w.heap.size, 0, none⟩) (by show w.heap.size + 1 ≠ w.heap.size; omega) _).set_ 0 _
            have EE := Lib.hid (two_end hgw O_x.out O8.out HR8.out HW6.out)
            obtain ⟨c2', -⟩ := bl2.one
            obtain ⟨c3', -⟩ := bl3.one
            clear e2 e3
            (try clear eu)
            (try clear ev)
            go_wp2
            refine bodyPost_ret (v := .tuple #[.agg #[Value.slice A_x (dropB l5 n).length c_x], .agg #[Value.slice A8 l8.length c8]]) (by simp [results, Try.results139, go_sem, c2', c3']) rfl ⟨_, _, _, _, rfl, (by first | exact EE.out.1 | exact EE.out.1.bel ((Below.refl _ _).drew)), (by first | exact EE.out.2.1 | exact EE.out.2.1.bel ((Below.refl _ _).drew)), (fun k p1 p2 => by have q1 := y8.out k p1; have q2 := n8.out k p2; omega), HLX.out.1, HS8.out.1, HLX.out.2.2.1, HS8.out.2, (show Rdr _ g _ from by first | exact EE.out.2.2.1 | exact EE.out.2.2.1.bel ((Below.refl _ _).drew)).more (by omega), (by first | exact EE.out.2.2.2 | exact only_below EE.out.2.2.2 ((Below.refl _ _).drew))⟩
      · skip
        have tok1 : True := trivial
        go_wp2_with fail
        go_region_held3 (fun w' => w'.cell? ⟨ab_v, 0, none⟩ = some (Value.slice A_y (takeB l5 n).length c_y)) (first | exact ev | exact (K_v.far (p := ⟨w.heap.size, 0, none⟩) (by exact d2) _).one.1 | exact ((K_v.far (p := ⟨w.heap.size, 0, none⟩) (by exact d2) _).far (p := ⟨w.heap.size + 1, 0, none⟩) (by exact d4) _).one.1 | go_keep) (first
          | ((try go_simp); go_at_call 144; have _t := tok1; refine (l3Some_any g _ _ (HR7.out.bel ((Below.refl _ _).drew)) (by omega)).mono ?_; rintro e w8 ⟨v8, l8, rfl, o8, m1, m7, hs8, hr8, hg8⟩; replace hg8 := grown_drew hg8; replace K2 := K2.grown hg8 (fun e => by injection e with e; omega); replace K3 := K3.grown hg8 (fun e => by injection e with e; omega); replace K_u := K_u.grown hg8 (fun e => by injection e with e; omega); replace K_v := K_v.grown hg8 (fun e => by injection e with e; omega); have y8 := Lib.hid (fun k hk => (O_x.out.lt k hk).2); have y9 := Lib.hid (fun k hk => (O_y.out.lt k hk).2); replace O_x := Lib.hid (O_x.out.far hg8 (fun k hk => by injection hk with hk; omega)); replace O_y := Lib.hid (O_y.out.far hg8 (fun k hk => by injection hk with hk; omega)); replace HW6 := Lib.hid (grown_trans HW6.out hg8 (fun j hj => .inl (by injection hj with hj; exact hj.symm))); have HR8 := Lib.hid hr8; have O8 := Lib.hid (o8.lower (base' := w.heap.size + 1 + 1) (show w.heap.size + 1 + 1 ≤ w7.heap.size by omega)); have HS8 := Lib.hid (And.intro (And.intro m1 m7) (fun s hs => (hs8 s hs).2)); have n8 := Lib.hid (fun k hk => (show w7.heap.size ≤ k from (o8.lt k hk).1)); obtain ⟨A8, c8, rfl, -, -, -⟩ := o8.strs.open_; replace e2 := K2.one.1; replace f2 := K2.one.2; replace e3 := K3.one.1; replace f3 := K3.one.2; replace eu := K_u.one.1; replace ev := K_v.one.1; clear tok1 o8 hr8 hg8 hs8 m1 m7; (try dsimp only))
          | fail)
        all_goals
          have bl2 : Blk ((w8.setCell ⟨w.heap.size, 0, none⟩ (Value.slice A8 l8.length c8)).setCell ⟨w.heap.size + 1, 0, none⟩ (Value.slice A_y (takeB l5 n).length c_y)) w.heap.size 29 [Value.slice A8 l8.length c8] := (K2.set_ 0 _).far (p := ⟨w.heap.size + 1, 0, none⟩) (by show w.heap.size ≠ w.heap.size + 1; omega) _
          have bl3 : Blk ((w8.setCell ⟨w.heap.size, 0, none⟩ (Value.slice A8 l8.length c8)).setCell ⟨w.heap.size + 1, 0, none⟩ (Value.slice A_y (takeB l5 n).length c_y)) (w.heap.size + 1) 29 [Value.slice A_y (takeB l5 n).length c_y] := (K3.far (p := ⟨w.heap.size, 0, none⟩) (by show w.heap.size + 1 ≠ w.heap.size; omega) _).set_ 0 _
          have EE := Lib.hid (two_end hgw O8.out O_y.out HR8.out HW6.out)
          obtain ⟨c2', -⟩ := bl2.one
          obtain ⟨c3', -⟩ := bl3.one
          clear e2 e3
          (try clear eu)
          (try clear ev)
          go_wp2
          refine bodyPost_ret (v := .tuple #[.agg #[Value.slice A8 l8.length c8], .agg #[Value.slice A_y (takeB l5 n).length c_y]]) (by simp [results, Try.results139, go_sem, c2', c3']) rfl ⟨_, _, _, _, rfl, (by first | exact EE.out.1 | exact EE.out.1.bel ((Below.refl _ _).drew)), (by first | exact EE.out.2.1 | exact EE.out.2.1.bel ((Below.refl _ _).drew)), (fun k p1 p2 => by have q1 := y9.out k p2; have q2 := n8.out k p1; omega), HS8.out.1, HLX.out.2.1, HS8.out.2, HLX.out.2.2.2, (show Rdr _ g _ from by first | exact EE.out.2.2.1 | exact EE.out.2.2.1.bel ((Below.refl _ _).drew)).more (by omega), (by first | exact EE.out.2.2.2 | exact only_below EE.out.2.2.2 ((Below.refl _ _).drew))⟩

end Go.Proofs.Yteemhhgioljmaaa

