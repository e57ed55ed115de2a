/-
  The drawn arguments of JoinEngines, CascadeTurn and RunCascade (made by gen_twod.py).
-/
import Derived.Test.YteemhhgioljmaaaTwo
import Derived.Test.YteemhhgioljmaaaTotDraw
import Derived.Test.YteemhhgioljmaaaEngs
namespace Go.Proofs.Yteemhhgioljmaaa
open Go.RowKit
set_option linter.unusedVariables false
set_option linter.unusedSimpArgs false
set_option maxRecDepth 100000
attribute [local go_sem ↓] Go.wp_at_zero Go.wp_at_succ

/-- Two drawn engines that can be read. -/
def DrawnJE (w : World) (e : Ending) (w' : World) : Prop :=
  ∃ r s a b, e = .returned (.tuple #[.agg #[r], .agg #[s]]) ∧ OwnS w' w.heap.size r a ∧ OwnS w' w.heap.size s b ∧ a.length ≤ 8 ∧ b.length ≤ 8 ∧ Below w.heap.size w w'
/-- Two drawn engines and a count. -/
def DrawnJEn (w : World) (e : Ending) (w' : World) : Prop :=
  ∃ r s a b, ∃ n : Int, e = .returned (.tuple #[.agg #[r], .agg #[s], .int .i64 n]) ∧ OwnS w' w.heap.size r a ∧ OwnS w' w.heap.size s b ∧ a.length ≤ 8 ∧ b.length ≤ 8 ∧ (-1 ≤ n ∧ n ≤ 9223372036854775807) ∧ Below w.heap.size w w'
theorem blk_keep {w w' : World} {j : Nat} {t : TypeId} {cs : List Value} (h : w'.heap[j]? = w.heap[j]?) (k : Blk w j t cs) : Blk w' j t cs := h.trans k

set_option maxHeartbeats 4000000 in
theorem drawJoin_any (v : Value) (code : List Int) (w : World) (hv : Bytes w v code) :
    Calls Try.prog 63 #[v] w (DrawnJE w) := by
  have HV := Lib.hid hv
  have bW : Below w.heap.size w ((w.alloc (.cells #[.slice none 0 0] 29)).alloc (.cells #[.slice none 0 0] 29)) := (bel_alloc w _).alloc (by simp) _
  have K2 := (Blk.new' w 29 (.slice none 0 0) w.heap.size rfl).alloc (.cells #[.slice none 0 0] 29)
  have K3 := Blk.new' (w.alloc (.cells #[.slice none 0 0] 29)) 29 (.slice none 0 0) (w.heap.size + 1) (by simp)
  clear hv
  go_enter Try.func63, Try.ntmps63
  go_wp2_with fail
  generalize hW : (w.alloc (.cells #[.slice none 0 0] 29)).alloc (.cells #[.slice none 0 0] 29) = W at *
  have hwz : W.heap.size = w.heap.size + 1 + 1 := by rw [← hW]; simp
  clear hW
  refine (l9Open_any v code _ (HV.out.bel bW)).mono ?_
  rintro e w1 ⟨g, rfl, hg, hr1, hb1⟩
  have lg1 := hr1.lt
  have z1 := hb1.size
  replace K2 := K2.below hb1 K2.lt
  replace K3 := K3.below hb1 K3.lt
  have HB := Lib.hid (bel_trans bW hb1)
  have HR := Lib.hid hr1
  clear hr1 hb1 bW
  go_wp2_with fail
  refine (l7Two_any g 0 _ HR.out (by omega)).mono ?_
  rintro e w2 ⟨r, s, a, b, rfl, o1, o2, dis, ha, hb, sa, sb, hr2, hg2⟩
  have k2 := K2.lt
  have k3 := K3.lt
  have z2 := hg2.size
  replace K2 := K2.grown hg2 (fun e => by injection e with e; omega)
  replace K3 := K3.grown hg2 (fun e => by injection e with e; omega)
  obtain ⟨xa, ca, exa, lxa, uxa⟩ : ∃ x c, r = Value.slice (some ⟨x, 0, none⟩) a.length c ∧ w1.heap.size ≤ x ∧ x < w2.heap.size := by
    rcases o1.form with ⟨_, h0⟩ | ⟨x, cap, cs, h1, h2, h3, -, -, -, -⟩
    · exfalso; rw [h0] at ha; simp at ha
    · exact ⟨x, cap, h1, h2, h3.lt⟩
  obtain ⟨xb, cb, exb, lxb, uxb⟩ : ∃ x c, s = Value.slice (some ⟨x, 0, none⟩) b.length c ∧ w1.heap.size ≤ x ∧ x < w2.heap.size := by
    rcases o2.form with ⟨_, h0⟩ | ⟨x, cap, cs, h1, h2, h3, -, -, -, -⟩
    · exfalso; rw [h0] at hb; simp at hb
    · exact ⟨x, cap, h1, h2, h3.lt⟩
  subst exa exb
  have dxy : xa ≠ xb := fun e => dis xa rfl (by rw [e]; rfl)
  have OA := Lib.hid o1
  have OB := Lib.hid o2
  have HSA := Lib.hid sa
  have HSB := Lib.hid sb
  have HR2 := Lib.hid hr2
  have HG2 := Lib.hid hg2
  clear o1 o2 sa sb hr2 hg2 dis HR
  have bX : Below w2.heap.size w2 ((w2.alloc (.cells #[Value.slice (some ⟨xa, 0, none⟩) a.length ca] 29)).alloc (.cells #[Value.slice (some ⟨xb, 0, none⟩) b.length cb] 29)) := (bel_alloc w2 _).alloc (by simp) _
  have K6 := (Blk.new' w2 29 (Value.slice (some ⟨xa, 0, none⟩) a.length ca) w2.heap.size rfl).alloc (.cells #[Value.slice (some ⟨xb, 0, none⟩) b.length cb] 29)
  have K7 := Blk.new' (w2.alloc (.cells #[Value.slice (some ⟨xa, 0, none⟩) a.length ca] 29)) 29 (Value.slice (some ⟨xb, 0, none⟩) b.length cb) (w2.heap.size + 1) (by simp)
  replace K2 := K2.below bX K2.lt
  replace K3 := K3.below bX K3.lt
  go_wp2_with fail
  generalize hX : (w2.alloc (.cells #[Value.slice (some ⟨xa, 0, none⟩) a.length ca] 29)).alloc (.cells #[Value.slice (some ⟨xb, 0, none⟩) b.length cb] 29) = X at *
  have hxz : X.heap.size = w2.heap.size + 1 + 1 := by rw [← hX]; simp
  clear hX
  have S2 := Lib.hid (show StS w1 g 1000 (Value.slice (some ⟨xa, 0, none⟩) a.length ca) a X from ⟨OA.out.bel bX, (HR2.out.bel bX).more (by omega), only_below HG2.out bX, lg1⟩)
  replace OB := Lib.hid (OB.out.bel bX)
  clear OA HR2 HG2 bX
  refine cut_by (P := ?Pq_2_5_6_7) ?hkq_2_5_6_7 (fun keyq_2_5_6_7 => ?mainq_2_5_6_7)
  case mainq_2_5_6_7 =>
    replace keyq_2_5_6_7 := Lib.hid keyq_2_5_6_7
    refine cut_by (P := ?Pq_2_5_6) ?hkq_2_5_6 (fun keyq_2_5_6 => ?mainq_2_5_6)
    case mainq_2_5_6 =>
      replace keyq_2_5_6 := Lib.hid keyq_2_5_6
      refine cut_by (P := ?Pq_2_5) ?hkq_2_5 (fun keyq_2_5 => ?mainq_2_5)
      case mainq_2_5 =>
        replace keyq_2_5 := Lib.hid keyq_2_5
        refine cut_by (P := ?Pq_2) ?hkq_2 (fun keyq_2 => ?mainq_2)
        case mainq_2 =>
          replace keyq_2 := Lib.hid keyq_2
          refine wp_region_held_drew (S := (fun w' => w'.cell? ⟨w2.heap.size, 0, none⟩ = some (Value.slice (some ⟨xa, 0, none⟩) a.length ca) ∧ w'.cell? ⟨w2.heap.size + 1, 0, none⟩ = some (Value.slice (some ⟨xb, 0, none⟩) b.length cb))) (by kernel_rfl) ?_ (fun hS => ?_)
          · skip
            exact ⟨K6.one.1, K7.one.1⟩
          replace K2 := K2.below ((Below.refl _ _).drew) K2.lt
          replace K3 := K3.below ((Below.refl _ _).drew) K3.lt
          replace K6 := K6.below ((Below.refl _ _).drew) K6.lt
          replace K7 := K7.below ((Below.refl _ _).drew) K7.lt
          replace S2 := Lib.hid (S2.out.bel ((Below.refl _ _).drew))
          replace OB := Lib.hid (OB.out.bel ((Below.refl _ _).drew))
          generalize hW : X.drew = wr at *
          clear hW
          refine wpAnyH_take (i := 0) (oi := { dst := some 14, op := Op.move (Operand.tmp 4), type := 96, pos := "l7_pairs.go:303", after := #[], guard := none }) (v := ?vq_1) rfl (by kernel_rfl) (by kernel_rfl) (by kernel_rfl) (fun _ _ _ h => h) (Or.inl ⟨by rfl, ?hyq_1⟩) hS ?restq_1
          case hyq_1 => (intro w' hSw; (try dsimp only at hSw); go_simp; all_goals with_reducible rfl)
          (try simp only [Act.put, List.setIfInBounds_toArray, List.set_cons_zero, List.set_cons_succ])
          refine wpAnyH_take (i := 1) (oi := { dst := some 15, op := Op.load 29 (Operand.tmp 5), type := 29, pos := "l7_pairs.go:303", after := #[], guard := none }) (v := ?vq_2) rfl (by kernel_rfl) (by kernel_rfl) (by kernel_rfl) (fun _ _ _ h => h) (Or.inl ⟨by rfl, ?hyq_2⟩) hS ?restq_2
          case hyq_2 => (intro w' hSw; (try dsimp only at hSw); go_simp; all_goals with_reducible rfl)
          (try simp only [Act.put, List.setIfInBounds_toArray, List.set_cons_zero, List.set_cons_succ])
          refine wpAnyH_take (i := 3) (oi := { dst := some 17, op := Op.move (Operand.tmp 4), type := 96, pos := "l7_pairs.go:303", after := #[], guard := none }) (v := ?vq_3) rfl (by kernel_rfl) (by kernel_rfl) (by kernel_rfl) (fun _ _ _ h => h) (Or.inl ⟨by rfl, ?hyq_3⟩) hS ?restq_3
          case hyq_3 => (intro w' hSw; (try dsimp only at hSw); go_simp; all_goals with_reducible rfl)
          (try simp only [Act.put, List.setIfInBounds_toArray, List.set_cons_zero, List.set_cons_succ])
          refine wpAnyH_take (i := 4) (oi := { dst := some 18, op := Op.load 29 (Operand.tmp 6), type := 29, pos := "l7_pairs.go:303", after := #[], guard := none }) (v := ?vq_4) rfl (by kernel_rfl) (by kernel_rfl) (by kernel_rfl) (fun _ _ _ h => h) (Or.inl ⟨by rfl, ?hyq_4⟩) hS ?restq_4
          case hyq_4 => (intro w' hSw; (try dsimp only at hSw); go_simp; all_goals with_reducible rfl)
          (try simp only [Act.put, List.setIfInBounds_toArray, List.set_cons_zero, List.set_cons_succ])
          refine wpAnyH_listed (l' := #[true, true, false, true, true, false, false, false]) (by kernel_rfl) ?_
          clear hS
          refine wpAnyH_ready (rs := [2]) (by kernel_rfl) (by simp) ?_
          refine AllReadyH.cons (o := { dst := some 16, op := Op.call { callee := Callee.value (Operand.func 140), args := #[Operand.tmp 14, Operand.tmp 15], argTypes := #[96, 29] }, type := 29, pos := "l7_pairs.go:303", after := #[{ on := 0, ground := Ground.data }, { on := 1, ground := Ground.data }], guard := none }) rfl (fun K hK => ?_) ?_
          · skip
            (try go_simp)
            go_at_call 140
            refine (l3BadB_any g 1000 _ a w1 _ xa rfl S2.out (by omega) ha HSA.out).mono ?_
            rintro e wn ⟨v4, l4, rfl, s4, m8, -⟩
            have kp4 := s4.keep
            have lw := S2.out.gr.size
            have hxbw : xb < wr.heap.size := (OB.out.lt xb rfl).2
            replace K2 := blk_keep (kp4 _ K2.lt (by omega) (by omega)) K2
            replace K3 := blk_keep (kp4 _ K3.lt (by omega) (by omega)) K3
            replace K6 := blk_keep (kp4 _ K6.lt (by omega) (by omega)) K6
            replace K7 := blk_keep (kp4 _ K7.lt (by omega) (by omega)) K7
            replace OB := Lib.hid (OB.out.same (w' := wn) (fun k hk => kp4 k (OB.out.lt k hk).2 (by have := (OB.out.lt k hk).1; omega) (by simp [Value.ownBlock] at hk; omega)))
            have S4 := Lib.hid s4.st
            have mine4 : Hid (∀ k, v4.ownBlock = some k → k ≠ xb) := Lib.hid (fun k hk => by rcases s4.mine k hk with q | q; omega; omega)
            have lt4 := Lib.hid (fun k (hk : v4.ownBlock = some k) => s4.own.lt k hk)
            obtain ⟨A4, c4, rfl, -, -, -⟩ := s4.own.strs.open_
            clear s4 kp4 lw hxbw S2
            (try dsimp only)
            refine hK.out _ _ (by first | exact ⟨K6.one.1, K7.one.1⟩ | (dsimp only; exact ⟨K6.one.1, K7.one.1⟩)) (fun hS => ?_)
            clear hK K
            (try simp only [Act.put, List.setIfInBounds_toArray, List.set_cons_zero, List.set_cons_succ])
            refine wpAnyH_listed (l' := #[true, true, true, true, true, false, false, false]) (by kernel_rfl) ?_
            clear hS
            (try clear hwx)
            revert lt4; revert mine4; revert S4; revert OB; revert m8; revert K7; revert K6; revert K3; revert K2
            revert c4; revert l4; revert A4; revert wn
            exact keyq_2.out
          exact AllReadyH.nil
        case hkq_2 =>
          intro wr A4 l4 c4 K2 K3 K6 K7 m8 OB S4 mine4 lt4
          refine wpAnyH_ready (rs := [5]) (by kernel_rfl) (by simp) ?_
          refine AllReadyH.cons (o := { dst := some 19, op := Op.call { callee := Callee.value (Operand.func 140), args := #[Operand.tmp 17, Operand.tmp 18], argTypes := #[96, 29] }, type := 29, pos := "l7_pairs.go:303", after := #[{ on := 3, ground := Ground.data }, { on := 4, ground := Ground.data }, { on := 2, ground := Ground.chain }], guard := none }) rfl (fun K hK => ?_) ?_
          · skip
            (try go_simp)
            go_at_call 140
            refine (l3BadB_any g 1010 _ b w1 _ xb rfl ⟨OB.out, S4.out.rdr, S4.out.gr, S4.out.lt⟩ (by omega) hb HSB.out).mono ?_
            rintro e wn ⟨v5, l5, rfl, s5, n8, -⟩
            have kp5 := s5.keep
            replace K2 := blk_keep (kp5 _ K2.lt (by omega) (by omega)) K2
            replace K3 := blk_keep (kp5 _ K3.lt (by omega) (by omega)) K3
            replace K6 := blk_keep (kp5 _ K6.lt (by omega) (by omega)) K6
            replace K7 := blk_keep (kp5 _ K7.lt (by omega) (by omega)) K7
            have OA5 := Lib.hid (S4.out.own.same (w' := wn) (fun k hk => kp5 k (lt4.out k hk).2 (by have := (lt4.out k hk).1; omega) (mine4.out k hk)))
            have S5 := Lib.hid s5.st
            obtain ⟨A5, c5, rfl, -, -, -⟩ := s5.own.strs.open_
            have OB5 := Lib.hid S5.out.own
            have EW := Lib.hid (HB.out.trans (grown_below (B := w.heap.size) S5.out.gr (by omega) (by omega)))
            clear s5 kp5 S4 OB mine4 lt4 S5
            (try dsimp only)
            refine hK.out _ _ (by first | exact ⟨K6.one.1, K7.one.1⟩ | (dsimp only; exact ⟨K6.one.1, K7.one.1⟩)) (fun hS => ?_)
            clear hK K
            (try simp only [Act.put, List.setIfInBounds_toArray, List.set_cons_zero, List.set_cons_succ])
            refine wpAnyH_listed (l' := #[true, true, true, true, true, true, false, false]) (by kernel_rfl) ?_
            clear hS
            (try clear hwx)
            revert EW; revert OB5; revert OA5; revert n8; revert m8; revert K7; revert K6; revert K3; revert K2
            revert c5; revert l5; revert A5; revert c4; revert l4; revert A4; revert wn
            exact keyq_2_5.out
          exact AllReadyH.nil
      case hkq_2_5 =>
        intro wr A4 l4 c4 A5 l5 c5 K2 K3 K6 K7 m8 n8 OA5 OB5 EW
        refine wpAnyH_ready (rs := [6]) (by kernel_rfl) (by simp) ?_
        refine AllReadyH.cons (o := { dst := none, op := Op.store 29 (Operand.tmp 2) (Operand.tmp 16), type := 0, pos := "l7_pairs.go:303", after := #[{ on := 2, ground := Ground.data }, { on := 5, ground := Ground.chain }, { on := 0, ground := Ground.phase }, { on := 1, ground := Ground.phase }, { on := 2, ground := Ground.phase }, { on := 3, ground := Ground.textOnly Departure.lateStores }, { on := 4, ground := Ground.textOnly Departure.lateStores }, { on := 5, ground := Ground.textOnly Departure.lateStoresUnsure }], guard := none }) rfl (fun K hK => ?_) ?_
        · skip
          obtain ⟨eb, fb⟩ := K2.one
          go_simp
          clear eb fb
          replace K2 : Blk (wr.setCell ⟨w.heap.size, 0, none⟩ (Value.slice A4 l4.length c4)) (w.heap.size) 29 [Value.slice A4 l4.length c4] := K2.set_ 0 _
          replace K3 := K3.far (p := ⟨w.heap.size, 0, none⟩) (by show w.heap.size + 1 ≠ w.heap.size; omega) (Value.slice A4 l4.length c4)
          replace K6 := K6.far (p := ⟨w.heap.size, 0, none⟩) (by show w2.heap.size ≠ w.heap.size; omega) (Value.slice A4 l4.length c4)
          replace K7 := K7.far (p := ⟨w.heap.size, 0, none⟩) (by show w2.heap.size + 1 ≠ w.heap.size; omega) (Value.slice A4 l4.length c4)
          replace OA5 := Lib.hid (OA5.out.setCell ⟨w.heap.size, 0, none⟩ (Value.slice A4 l4.length c4) (by show w.heap.size < w1.heap.size; omega))
          replace OB5 := Lib.hid (OB5.out.setCell ⟨w.heap.size, 0, none⟩ (Value.slice A4 l4.length c4) (by show w.heap.size < w1.heap.size; omega))
          replace EW := Lib.hid (EW.out.setCell (p := ⟨w.heap.size, 0, none⟩) (by show w.heap.size ≤ w.heap.size; omega) (Value.slice A4 l4.length c4))
          refine hK.out _ _ (by first | exact ⟨K6.one.1, K7.one.1⟩ | (dsimp only; exact ⟨K6.one.1, K7.one.1⟩)) (fun hS => ?_)
          clear hK K
          (try simp only [Act.put, List.setIfInBounds_toArray, List.set_cons_zero, List.set_cons_succ])
          refine wpAnyH_listed (l' := #[true, true, true, true, true, true, true, false]) (by kernel_rfl) ?_
          clear hS
          (try clear hwx)
          revert EW; revert OB5; revert OA5; revert n8; revert m8; revert K7; revert K6; revert K3; revert K2
          generalize (wr.setCell ⟨w.heap.size, 0, none⟩ (Value.slice A4 l4.length c4)) = wn
          revert c5; revert l5; revert A5; revert c4; revert l4; revert A4; revert wn
          exact keyq_2_5_6.out
        exact AllReadyH.nil
    case hkq_2_5_6 =>
      intro wr A4 l4 c4 A5 l5 c5 K2 K3 K6 K7 m8 n8 OA5 OB5 EW
      refine wpAnyH_ready (rs := [7]) (by kernel_rfl) (by simp) ?_
      refine AllReadyH.cons (o := { dst := none, op := Op.store 29 (Operand.tmp 3) (Operand.tmp 19), type := 0, pos := "l7_pairs.go:303", after := #[{ on := 5, ground := Ground.data }, { on := 6, ground := Ground.chain }, { on := 0, ground := Ground.phase }, { on := 1, ground := Ground.phase }, { on := 2, ground := Ground.phase }, { on := 3, ground := Ground.phase }, { on := 4, ground := Ground.phase }, { on := 5, ground := Ground.phase }, { on := 6, ground := Ground.phase }], guard := none }) rfl (fun K hK => ?_) ?_
      · skip
        obtain ⟨eb, fb⟩ := K3.one
        go_simp
        clear eb fb
        replace K3 : Blk (wr.setCell ⟨w.heap.size + 1, 0, none⟩ (Value.slice A5 l5.length c5)) (w.heap.size + 1) 29 [Value.slice A5 l5.length c5] := K3.set_ 0 _
        replace K2 := K2.far (p := ⟨w.heap.size + 1, 0, none⟩) (by show w.heap.size ≠ w.heap.size + 1; omega) (Value.slice A5 l5.length c5)
        replace K6 := K6.far (p := ⟨w.heap.size + 1, 0, none⟩) (by show w2.heap.size ≠ w.heap.size + 1; omega) (Value.slice A5 l5.length c5)
        replace K7 := K7.far (p := ⟨w.heap.size + 1, 0, none⟩) (by show w2.heap.size + 1 ≠ w.heap.size + 1; omega) (Value.slice A5 l5.length c5)
        replace OA5 := Lib.hid (OA5.out.setCell ⟨w.heap.size + 1, 0, none⟩ (Value.slice A5 l5.length c5) (by show w.heap.size + 1 < w1.heap.size; omega))
        replace OB5 := Lib.hid (OB5.out.setCell ⟨w.heap.size + 1, 0, none⟩ (Value.slice A5 l5.length c5) (by show w.heap.size + 1 < w1.heap.size; omega))
        replace EW := Lib.hid (EW.out.setCell (p := ⟨w.heap.size + 1, 0, none⟩) (by show w.heap.size ≤ w.heap.size + 1; omega) (Value.slice A5 l5.length c5))
        refine hK.out _ _ (by first | exact ⟨K6.one.1, K7.one.1⟩ | (dsimp only; exact ⟨K6.one.1, K7.one.1⟩)) (fun hS => ?_)
        clear hK K
        (try simp only [Act.put, List.setIfInBounds_toArray, List.set_cons_zero, List.set_cons_succ])
        refine wpAnyH_listed (l' := #[true, true, true, true, true, true, true, true]) (by kernel_rfl) ?_
        clear hS
        (try clear hwx)
        revert EW; revert OB5; revert OA5; revert n8; revert m8; revert K7; revert K6; revert K3; revert K2
        generalize (wr.setCell ⟨w.heap.size + 1, 0, none⟩ (Value.slice A5 l5.length c5)) = wn
        revert c5; revert l5; revert A5; revert c4; revert l4; revert A4; revert wn
        exact keyq_2_5_6_7.out
      exact AllReadyH.nil
  intro w9 A4 l4 c4 A5 l5 c5 K2 K3 K6 K7 m8 n8 OA5 OB5 EW
  refine wpAnyH_done (by kernel_rfl) ?_ _
  obtain ⟨c2', -⟩ := K2.one
  obtain ⟨c3', -⟩ := K3.one
  go_wp2
  refine bodyPost_ret (v := .tuple #[.agg #[Value.slice A4 l4.length c4], .agg #[Value.slice A5 l5.length c5]]) (by simp [results, Try.results63, go_sem, c2', c3']) rfl ⟨_, _, l4, l5, rfl, OA5.out.lower (by omega), OB5.out.lower (by omega), m8, n8, EW.out⟩

set_option maxHeartbeats 4000000 in
theorem drawRunC_any (v : Value) (code : List Int) (w : World) (hv : Bytes w v code) :
    Calls Try.prog 71 #[v] w (DrawnJEn w) := by
  have HV := Lib.hid hv
  have bW : Below w.heap.size w ((w.alloc (.cells #[.slice none 0 0] 29)).alloc (.cells #[.slice none 0 0] 29)) := (bel_alloc w _).alloc (by simp) _
  have K2 := (Blk.new' w 29 (.slice none 0 0) w.heap.size rfl).alloc (.cells #[.slice none 0 0] 29)
  have K3 := Blk.new' (w.alloc (.cells #[.slice none 0 0] 29)) 29 (.slice none 0 0) (w.heap.size + 1) (by simp)
  clear hv
  go_enter Try.func71, Try.ntmps71
  go_wp2_with fail
  generalize hW : (w.alloc (.cells #[.slice none 0 0] 29)).alloc (.cells #[.slice none 0 0] 29) = W at *
  have hwz : W.heap.size = w.heap.size + 1 + 1 := by rw [← hW]; simp
  clear hW
  refine (l9Open_any v code _ (HV.out.bel bW)).mono ?_
  rintro e w1 ⟨g, rfl, hg, hr1, hb1⟩
  have lg1 := hr1.lt
  have z1 := hb1.size
  replace K2 := K2.below hb1 K2.lt
  replace K3 := K3.below hb1 K3.lt
  have HB := Lib.hid (bel_trans bW hb1)
  have HR := Lib.hid hr1
  clear hr1 hb1 bW
  go_wp2_with fail
  refine (l7Two_any g 0 _ HR.out (by omega)).mono ?_
  rintro e w2 ⟨r, s, a, b, rfl, o1, o2, dis, ha, hb, sa, sb, hr2, hg2⟩
  have k2 := K2.lt
  have k3 := K3.lt
  have z2 := hg2.size
  replace K2 := K2.grown hg2 (fun e => by injection e with e; omega)
  replace K3 := K3.grown hg2 (fun e => by injection e with e; omega)
  obtain ⟨xa, ca, exa, lxa, uxa⟩ : ∃ x c, r = Value.slice (some ⟨x, 0, none⟩) a.length c ∧ w1.heap.size ≤ x ∧ x < w2.heap.size := by
    rcases o1.form with ⟨_, h0⟩ | ⟨x, cap, cs, h1, h2, h3, -, -, -, -⟩
    · exfalso; rw [h0] at ha; simp at ha
    · exact ⟨x, cap, h1, h2, h3.lt⟩
  obtain ⟨xb, cb, exb, lxb, uxb⟩ : ∃ x c, s = Value.slice (some ⟨x, 0, none⟩) b.length c ∧ w1.heap.size ≤ x ∧ x < w2.heap.size := by
    rcases o2.form with ⟨_, h0⟩ | ⟨x, cap, cs, h1, h2, h3, -, -, -, -⟩
    · exfalso; rw [h0] at hb; simp at hb
    · exact ⟨x, cap, h1, h2, h3.lt⟩
  subst exa exb
  have dxy : xa ≠ xb := fun e => dis xa rfl (by rw [e]; rfl)
  have OA := Lib.hid o1
  have OB := Lib.hid o2
  have HSA := Lib.hid sa
  have HSB := Lib.hid sb
  have HR2 := Lib.hid hr2
  have HG2 := Lib.hid hg2
  clear o1 o2 sa sb hr2 hg2 dis HR
  have bX : Below w2.heap.size w2 ((w2.alloc (.cells #[Value.slice (some ⟨xa, 0, none⟩) a.length ca] 29)).alloc (.cells #[Value.slice (some ⟨xb, 0, none⟩) b.length cb] 29)) := (bel_alloc w2 _).alloc (by simp) _
  have K6 := (Blk.new' w2 29 (Value.slice (some ⟨xa, 0, none⟩) a.length ca) w2.heap.size rfl).alloc (.cells #[Value.slice (some ⟨xb, 0, none⟩) b.length cb] 29)
  have K7 := Blk.new' (w2.alloc (.cells #[Value.slice (some ⟨xa, 0, none⟩) a.length ca] 29)) 29 (Value.slice (some ⟨xb, 0, none⟩) b.length cb) (w2.heap.size + 1) (by simp)
  replace K2 := K2.below bX K2.lt
  replace K3 := K3.below bX K3.lt
  go_wp2_with fail
  generalize hX : (w2.alloc (.cells #[Value.slice (some ⟨xa, 0, none⟩) a.length ca] 29)).alloc (.cells #[Value.slice (some ⟨xb, 0, none⟩) b.length cb] 29) = X at *
  have hxz : X.heap.size = w2.heap.size + 1 + 1 := by rw [← hX]; simp
  clear hX
  have S2 := Lib.hid (show StS w1 g 1000 (Value.slice (some ⟨xa, 0, none⟩) a.length ca) a X from ⟨OA.out.bel bX, (HR2.out.bel bX).more (by omega), only_below HG2.out bX, lg1⟩)
  replace OB := Lib.hid (OB.out.bel bX)
  clear OA HR2 HG2 bX
  refine cut_by (P := ?Pq_2_5_7_8_9) ?hkq_2_5_7_8_9 (fun keyq_2_5_7_8_9 => ?mainq_2_5_7_8_9)
  case mainq_2_5_7_8_9 =>
    replace keyq_2_5_7_8_9 := Lib.hid keyq_2_5_7_8_9
    refine cut_by (P := ?Pq_2_5_7_8) ?hkq_2_5_7_8 (fun keyq_2_5_7_8 => ?mainq_2_5_7_8)
    case mainq_2_5_7_8 =>
      replace keyq_2_5_7_8 := Lib.hid keyq_2_5_7_8
      refine cut_by (P := ?Pq_2_5_7) ?hkq_2_5_7 (fun keyq_2_5_7 => ?mainq_2_5_7)
      case mainq_2_5_7 =>
        replace keyq_2_5_7 := Lib.hid keyq_2_5_7
        refine cut_by (P := ?Pq_2_5) ?hkq_2_5 (fun keyq_2_5 => ?mainq_2_5)
        case mainq_2_5 =>
          replace keyq_2_5 := Lib.hid keyq_2_5
          refine cut_by (P := ?Pq_2) ?hkq_2 (fun keyq_2 => ?mainq_2)
          case mainq_2 =>
            replace keyq_2 := Lib.hid keyq_2
            refine wp_region_held_drew (S := (fun w' => w'.cell? ⟨w2.heap.size, 0, none⟩ = some (Value.slice (some ⟨xa, 0, none⟩) a.length ca) ∧ w'.cell? ⟨w2.heap.size + 1, 0, none⟩ = some (Value.slice (some ⟨xb, 0, none⟩) b.length cb))) (by kernel_rfl) ?_ (fun hS => ?_)
            · skip
              exact ⟨K6.one.1, K7.one.1⟩
            replace K2 := K2.below ((Below.refl _ _).drew) K2.lt
            replace K3 := K3.below ((Below.refl _ _).drew) K3.lt
            replace K6 := K6.below ((Below.refl _ _).drew) K6.lt
            replace K7 := K7.below ((Below.refl _ _).drew) K7.lt
            replace S2 := Lib.hid (S2.out.bel ((Below.refl _ _).drew))
            replace OB := Lib.hid (OB.out.bel ((Below.refl _ _).drew))
            generalize hW : X.drew = wr at *
            clear hW
            refine wpAnyH_take (i := 0) (oi := { dst := some 15, op := Op.move (Operand.tmp 5), type := 96, pos := "l7_pairs.go:331", after := #[], guard := none }) (v := ?vq_1) rfl (by kernel_rfl) (by kernel_rfl) (by kernel_rfl) (fun _ _ _ h => h) (Or.inl ⟨by rfl, ?hyq_1⟩) hS ?restq_1
            case hyq_1 => (intro w' hSw; (try dsimp only at hSw); go_simp; all_goals with_reducible rfl)
            (try simp only [Act.put, List.setIfInBounds_toArray, List.set_cons_zero, List.set_cons_succ])
            refine wpAnyH_take (i := 1) (oi := { dst := some 16, op := Op.load 29 (Operand.tmp 6), type := 29, pos := "l7_pairs.go:331", after := #[], guard := none }) (v := ?vq_2) rfl (by kernel_rfl) (by kernel_rfl) (by kernel_rfl) (fun _ _ _ h => h) (Or.inl ⟨by rfl, ?hyq_2⟩) hS ?restq_2
            case hyq_2 => (intro w' hSw; (try dsimp only at hSw); go_simp; all_goals with_reducible rfl)
            (try simp only [Act.put, List.setIfInBounds_toArray, List.set_cons_zero, List.set_cons_succ])
            refine wpAnyH_take (i := 3) (oi := { dst := some 18, op := Op.move (Operand.tmp 5), type := 96, pos := "l7_pairs.go:331", after := #[], guard := none }) (v := ?vq_3) rfl (by kernel_rfl) (by kernel_rfl) (by kernel_rfl) (fun _ _ _ h => h) (Or.inl ⟨by rfl, ?hyq_3⟩) hS ?restq_3
            case hyq_3 => (intro w' hSw; (try dsimp only at hSw); go_simp; all_goals with_reducible rfl)
            (try simp only [Act.put, List.setIfInBounds_toArray, List.set_cons_zero, List.set_cons_succ])
            refine wpAnyH_take (i := 4) (oi := { dst := some 19, op := Op.load 29 (Operand.tmp 7), type := 29, pos := "l7_pairs.go:331", after := #[], guard := none }) (v := ?vq_4) rfl (by kernel_rfl) (by kernel_rfl) (by kernel_rfl) (fun _ _ _ h => h) (Or.inl ⟨by rfl, ?hyq_4⟩) hS ?restq_4
            case hyq_4 => (intro w' hSw; (try dsimp only at hSw); go_simp; all_goals with_reducible rfl)
            (try simp only [Act.put, List.setIfInBounds_toArray, List.set_cons_zero, List.set_cons_succ])
            refine wpAnyH_take (i := 6) (oi := { dst := some 21, op := Op.move (Operand.tmp 5), type := 96, pos := "l7_pairs.go:331", after := #[], guard := none }) (v := ?vq_5) rfl (by kernel_rfl) (by kernel_rfl) (by kernel_rfl) (fun _ _ _ h => h) (Or.inl ⟨by rfl, ?hyq_5⟩) hS ?restq_5
            case hyq_5 => (intro w' hSw; (try dsimp only at hSw); go_simp; all_goals with_reducible rfl)
            (try simp only [Act.put, List.setIfInBounds_toArray, List.set_cons_zero, List.set_cons_succ])
            refine wpAnyH_listed (l' := #[true, true, false, true, true, false, true, false, false, false, false]) (by kernel_rfl) ?_
            clear hS
            refine wpAnyH_ready (rs := [2]) (by kernel_rfl) (by simp) ?_
            refine AllReadyH.cons (o := { dst := some 17, op := Op.call { callee := Callee.value (Operand.func 140), args := #[Operand.tmp 15, Operand.tmp 16], argTypes := #[96, 29] }, type := 29, pos := "l7_pairs.go:331", after := #[{ on := 0, ground := Ground.data }, { on := 1, ground := Ground.data }], guard := none }) rfl (fun K hK => ?_) ?_
            · skip
              (try go_simp)
              go_at_call 140
              refine (l3BadB_any g 1000 _ a w1 _ xa rfl S2.out (by omega) ha HSA.out).mono ?_
              rintro e wn ⟨v4, l4, rfl, s4, m8, -⟩
              have kp4 := s4.keep
              have lw := S2.out.gr.size
              have hxbw : xb < wr.heap.size := (OB.out.lt xb rfl).2
              replace K2 := blk_keep (kp4 _ K2.lt (by omega) (by omega)) K2
              replace K3 := blk_keep (kp4 _ K3.lt (by omega) (by omega)) K3
              replace K6 := blk_keep (kp4 _ K6.lt (by omega) (by omega)) K6
              replace K7 := blk_keep (kp4 _ K7.lt (by omega) (by omega)) K7
              replace OB := Lib.hid (OB.out.same (w' := wn) (fun k hk => kp4 k (OB.out.lt k hk).2 (by have := (OB.out.lt k hk).1; omega) (by simp [Value.ownBlock] at hk; omega)))
              have S4 := Lib.hid s4.st
              have mine4 : Hid (∀ k, v4.ownBlock = some k → k ≠ xb) := Lib.hid (fun k hk => by rcases s4.mine k hk with q | q; omega; omega)
              have lt4 := Lib.hid (fun k (hk : v4.ownBlock = some k) => s4.own.lt k hk)
              obtain ⟨A4, c4, rfl, -, -, -⟩ := s4.own.strs.open_
              clear s4 kp4 lw hxbw S2
              (try dsimp only)
              refine hK.out _ _ (by first | exact ⟨K6.one.1, K7.one.1⟩ | (dsimp only; exact ⟨K6.one.1, K7.one.1⟩)) (fun hS => ?_)
              clear hK K
              (try simp only [Act.put, List.setIfInBounds_toArray, List.set_cons_zero, List.set_cons_succ])
              refine wpAnyH_listed (l' := #[true, true, true, true, true, false, true, false, false, false, false]) (by kernel_rfl) ?_
              clear hS
              (try clear hwx)
              revert lt4; revert mine4; revert S4; revert OB; revert m8; revert K7; revert K6; revert K3; revert K2
              revert c4; revert l4; revert A4; revert wn
              exact keyq_2.out
            exact AllReadyH.nil
          case hkq_2 =>
            intro wr A4 l4 c4 K2 K3 K6 K7 m8 OB S4 mine4 lt4
            refine wpAnyH_ready (rs := [5]) (by kernel_rfl) (by simp) ?_
            refine AllReadyH.cons (o := { dst := some 20, op := Op.call { callee := Callee.value (Operand.func 140), args := #[Operand.tmp 18, Operand.tmp 19], argTypes := #[96, 29] }, type := 29, pos := "l7_pairs.go:331", after := #[{ on := 3, ground := Ground.data }, { on := 4, ground := Ground.data }, { on := 2, ground := Ground.chain }], guard := none }) rfl (fun K hK => ?_) ?_
            · skip
              (try go_simp)
              go_at_call 140
              refine (l3BadB_any g 1010 _ b w1 _ xb rfl ⟨OB.out, S4.out.rdr, S4.out.gr, S4.out.lt⟩ (by omega) hb HSB.out).mono ?_
              rintro e wn ⟨v5, l5, rfl, s5, n8, -⟩
              have kp5 := s5.keep
              replace K2 := blk_keep (kp5 _ K2.lt (by omega) (by omega)) K2
              replace K3 := blk_keep (kp5 _ K3.lt (by omega) (by omega)) K3
              replace K6 := blk_keep (kp5 _ K6.lt (by omega) (by omega)) K6
              replace K7 := blk_keep (kp5 _ K7.lt (by omega) (by omega)) K7
              have OA5 := Lib.hid (S4.out.own.same (w' := wn) (fun k hk => kp5 k (lt4.out k hk).2 (by have := (lt4.out k hk).1; omega) (mine4.out k hk)))
              have S5 := Lib.hid s5.st
              obtain ⟨A5, c5, rfl, -, -, -⟩ := s5.own.strs.open_
              clear s5 kp5 S4 OB mine4 lt4
              (try dsimp only)
              refine hK.out _ _ (by first | exact ⟨K6.one.1, K7.one.1⟩ | (dsimp only; exact ⟨K6.one.1, K7.one.1⟩)) (fun hS => ?_)
              clear hK K
              (try simp only [Act.put, List.setIfInBounds_toArray, List.set_cons_zero, List.set_cons_succ])
              refine wpAnyH_listed (l' := #[true, true, true, true, true, true, true, false, false, false, false]) (by kernel_rfl) ?_
              clear hS
              (try clear hwx)
              revert S5; revert OA5; revert n8; revert m8; revert K7; revert K6; revert K3; revert K2
              revert c5; revert l5; revert A5; revert c4; revert l4; revert A4; revert wn
              exact keyq_2_5.out
            exact AllReadyH.nil
        case hkq_2_5 =>
          intro wr A4 l4 c4 A5 l5 c5 K2 K3 K6 K7 m8 n8 OA5 S5
          refine wpAnyH_ready (rs := [7]) (by kernel_rfl) (by simp) ?_
          refine AllReadyH.cons (o := { dst := some 22, op := Op.call { callee := Callee.value (Operand.func 90), args := #[Operand.tmp 21], argTypes := #[96] }, type := 3, pos := "l7_pairs.go:331", after := #[{ on := 6, ground := Ground.data }, { on := 5, ground := Ground.chain }], guard := none }) rfl (fun K hK => ?_) ?_
          · skip
            (try go_simp)
            go_at_call 90
            refine (l7Count_any g 1020 _ _ w1 _ S5.out (by omega)).mono ?_
            rintro e wn ⟨n, rfl, q1, q2, s6, g6⟩
            have hn := And.intro q1 q2
            replace K2 := K2.grown g6 (fun e => by injection e with e; omega)
            replace K3 := K3.grown g6 (fun e => by injection e with e; omega)
            replace K6 := K6.grown g6 (fun e => by injection e with e; omega)
            replace K7 := K7.grown g6 (fun e => by injection e with e; omega)
            replace OA5 := Lib.hid (OA5.out.far g6 (fun k hk => by injection hk with hk; omega))
            replace S5 := Lib.hid s6
            have OB5 := Lib.hid S5.out.own
            have EW := Lib.hid (HB.out.trans (grown_below (B := w.heap.size) S5.out.gr (by omega) (by omega)))
            clear s6 g6 q1 q2 S5
            (try dsimp only)
            refine hK.out _ _ (by first | exact ⟨K6.one.1, K7.one.1⟩ | (dsimp only; exact ⟨K6.one.1, K7.one.1⟩)) (fun hS => ?_)
            clear hK K
            (try simp only [Act.put, List.setIfInBounds_toArray, List.set_cons_zero, List.set_cons_succ])
            refine wpAnyH_listed (l' := #[true, true, true, true, true, true, true, true, false, false, false]) (by kernel_rfl) ?_
            clear hS
            (try clear hwx)
            revert hn; revert EW; revert OB5; revert OA5; revert n8; revert m8; revert K7; revert K6; revert K3; revert K2
            revert n; revert c5; revert l5; revert A5; revert c4; revert l4; revert A4; revert wn
            exact keyq_2_5_7.out
          exact AllReadyH.nil
      case hkq_2_5_7 =>
        intro wr A4 l4 c4 A5 l5 c5 n K2 K3 K6 K7 m8 n8 OA5 OB5 EW hn
        refine wpAnyH_ready (rs := [8]) (by kernel_rfl) (by simp) ?_
        refine AllReadyH.cons (o := { dst := none, op := Op.store 29 (Operand.tmp 2) (Operand.tmp 17), type := 0, pos := "l7_pairs.go:331", after := #[{ on := 2, ground := Ground.data }, { on := 7, ground := Ground.chain }, { on := 0, ground := Ground.phase }, { on := 1, ground := Ground.phase }, { on := 2, ground := Ground.phase }, { on := 3, ground := Ground.textOnly Departure.lateStores }, { on := 4, ground := Ground.textOnly Departure.lateStores }, { on := 5, ground := Ground.textOnly Departure.lateStoresUnsure }, { on := 6, ground := Ground.textOnly Departure.lateStores }, { on := 7, ground := Ground.textOnly Departure.lateStoresUnsure }], guard := none }) rfl (fun K hK => ?_) ?_
        · skip
          obtain ⟨eb, fb⟩ := K2.one
          go_simp
          clear eb fb
          replace K2 : Blk (wr.setCell ⟨w.heap.size, 0, none⟩ (Value.slice A4 l4.length c4)) (w.heap.size) 29 [Value.slice A4 l4.length c4] := K2.set_ 0 _
          replace K3 := K3.far (p := ⟨w.heap.size, 0, none⟩) (by show w.heap.size + 1 ≠ w.heap.size; omega) (Value.slice A4 l4.length c4)
          replace K6 := K6.far (p := ⟨w.heap.size, 0, none⟩) (by show w2.heap.size ≠ w.heap.size; omega) (Value.slice A4 l4.length c4)
          replace K7 := K7.far (p := ⟨w.heap.size, 0, none⟩) (by show w2.heap.size + 1 ≠ w.heap.size; omega) (Value.slice A4 l4.length c4)
          replace OA5 := Lib.hid (OA5.out.setCell ⟨w.heap.size, 0, none⟩ (Value.slice A4 l4.length c4) (by show w.heap.size < w1.heap.size; omega))
          replace OB5 := Lib.hid (OB5.out.setCell ⟨w.heap.size, 0, none⟩ (Value.slice A4 l4.length c4) (by show w.heap.size < w1.heap.size; omega))
          replace EW := Lib.hid (EW.out.setCell (p := ⟨w.heap.size, 0, none⟩) (by show w.heap.size ≤ w.heap.size; omega) (Value.slice A4 l4.length c4))
          refine hK.out _ _ (by first | exact ⟨K6.one.1, K7.one.1⟩ | (dsimp only; exact ⟨K6.one.1, K7.one.1⟩)) (fun hS => ?_)
          clear hK K
          (try simp only [Act.put, List.setIfInBounds_toArray, List.set_cons_zero, List.set_cons_succ])
          refine wpAnyH_listed (l' := #[true, true, true, true, true, true, true, true, true, false, false]) (by kernel_rfl) ?_
          clear hS
          (try clear hwx)
          revert hn; revert EW; revert OB5; revert OA5; revert n8; revert m8; revert K7; revert K6; revert K3; revert K2
          generalize (wr.setCell ⟨w.heap.size, 0, none⟩ (Value.slice A4 l4.length c4)) = wn
          revert n; revert c5; revert l5; revert A5; revert c4; revert l4; revert A4; revert wn
          exact keyq_2_5_7_8.out
        exact AllReadyH.nil
    case hkq_2_5_7_8 =>
      intro wr A4 l4 c4 A5 l5 c5 n K2 K3 K6 K7 m8 n8 OA5 OB5 EW hn
      refine wpAnyH_ready (rs := [9]) (by kernel_rfl) (by simp) ?_
      refine AllReadyH.cons (o := { dst := none, op := Op.store 29 (Operand.tmp 3) (Operand.tmp 20), type := 0, pos := "l7_pairs.go:331", after := #[{ on := 5, ground := Ground.data }, { on := 8, ground := Ground.chain }, { on := 0, ground := Ground.phase }, { on := 1, ground := Ground.phase }, { on := 2, ground := Ground.phase }, { on := 3, ground := Ground.phase }, { on := 4, ground := Ground.phase }, { on := 5, ground := Ground.phase }, { on := 6, ground := Ground.textOnly Departure.lateStores }, { on := 7, ground := Ground.textOnly Departure.lateStoresUnsure }, { on := 8, ground := Ground.phase }], guard := none }) rfl (fun K hK => ?_) ?_
      · skip
        obtain ⟨eb, fb⟩ := K3.one
        go_simp
        clear eb fb
        replace K3 : Blk (wr.setCell ⟨w.heap.size + 1, 0, none⟩ (Value.slice A5 l5.length c5)) (w.heap.size + 1) 29 [Value.slice A5 l5.length c5] := K3.set_ 0 _
        replace K2 := K2.far (p := ⟨w.heap.size + 1, 0, none⟩) (by show w.heap.size ≠ w.heap.size + 1; omega) (Value.slice A5 l5.length c5)
        replace K6 := K6.far (p := ⟨w.heap.size + 1, 0, none⟩) (by show w2.heap.size ≠ w.heap.size + 1; omega) (Value.slice A5 l5.length c5)
        replace K7 := K7.far (p := ⟨w.heap.size + 1, 0, none⟩) (by show w2.heap.size + 1 ≠ w.heap.size + 1; omega) (Value.slice A5 l5.length c5)
        replace OA5 := Lib.hid (OA5.out.setCell ⟨w.heap.size + 1, 0, none⟩ (Value.slice A5 l5.length c5) (by show w.heap.size + 1 < w1.heap.size; omega))
        replace OB5 := Lib.hid (OB5.out.setCell ⟨w.heap.size + 1, 0, none⟩ (Value.slice A5 l5.length c5) (by show w.heap.size + 1 < w1.heap.size; omega))
        replace EW := Lib.hid (EW.out.setCell (p := ⟨w.heap.size + 1, 0, none⟩) (by show w.heap.size ≤ w.heap.size + 1; omega) (Value.slice A5 l5.length c5))
        refine hK.out _ _ (by first | exact ⟨K6.one.1, K7.one.1⟩ | (dsimp only; exact ⟨K6.one.1, K7.one.1⟩)) (fun hS => ?_)
        clear hK K
        (try simp only [Act.put, List.setIfInBounds_toArray, List.set_cons_zero, List.set_cons_succ])
        refine wpAnyH_take (i := 10) (oi := { dst := some 4, op := Op.assign (Operand.tmp 22), type := 3, pos := "l7_pairs.go:331", after := #[{ on := 7, ground := Ground.data }, { on := 9, ground := Ground.chain }, { on := 0, ground := Ground.phase }, { on := 1, ground := Ground.phase }, { on := 2, ground := Ground.phase }, { on := 3, ground := Ground.phase }, { on := 4, ground := Ground.phase }, { on := 5, ground := Ground.phase }, { on := 6, ground := Ground.phase }, { on := 7, ground := Ground.phase }, { on := 8, ground := Ground.phase }, { on := 9, ground := Ground.phase }], guard := none }) (v := ?vq_6) rfl (by kernel_rfl) (by kernel_rfl) (by kernel_rfl) (fun _ _ _ h => h) (Or.inl ⟨by rfl, ?hyq_6⟩) hS ?restq_6
        case hyq_6 => (intro w' hSw; (try dsimp only at hSw); go_simp; all_goals with_reducible rfl)
        (try simp only [Act.put, List.setIfInBounds_toArray, List.set_cons_zero, List.set_cons_succ])
        refine wpAnyH_listed (l' := #[true, true, true, true, true, true, true, true, true, true, true]) (by kernel_rfl) ?_
        clear hS
        (try clear hwx)
        revert hn; revert EW; revert OB5; revert OA5; revert n8; revert m8; revert K7; revert K6; revert K3; revert K2
        generalize (wr.setCell ⟨w.heap.size + 1, 0, none⟩ (Value.slice A5 l5.length c5)) = wn
        revert n; revert c5; revert l5; revert A5; revert c4; revert l4; revert A4; revert wn
        exact keyq_2_5_7_8_9.out
      exact AllReadyH.nil
  intro w9 A4 l4 c4 A5 l5 c5 n K2 K3 K6 K7 m8 n8 OA5 OB5 EW hn
  refine wpAnyH_done (by kernel_rfl) ?_ _
  obtain ⟨c2', -⟩ := K2.one
  obtain ⟨c3', -⟩ := K3.one
  go_wp2
  refine bodyPost_ret (v := .tuple #[.agg #[Value.slice A4 l4.length c4], .agg #[Value.slice A5 l5.length c5], .int .i64 n]) (by simp [results, Try.results71, go_sem, c2', c3']) rfl ⟨_, _, l4, l5, n, rfl, OA5.out.lower (by omega), OB5.out.lower (by omega), m8, n8, hn, EW.out⟩

set_option maxHeartbeats 2000000 in
theorem drawCasc_any (v : Value) (code : List Int) (w : World) (hv : Bytes w v code) :
    Calls Try.prog 68 #[v] w (DrawnJE w) := by
  have HV := Lib.hid hv
  have bW : Below w.heap.size w ((w.alloc (.cells #[.slice none 0 0] 29)).alloc (.cells #[.slice none 0 0] 29)) := (bel_alloc w _).alloc (by simp) _
  have K2 := (Blk.new' w 29 (.slice none 0 0) w.heap.size rfl).alloc (.cells #[.slice none 0 0] 29)
  have K3 := Blk.new' (w.alloc (.cells #[.slice none 0 0] 29)) 29 (.slice none 0 0) (w.heap.size + 1) (by simp)
  clear hv
  go_enter Try.func68, Try.ntmps68
  go_wp2_with fail
  generalize hW : (w.alloc (.cells #[.slice none 0 0] 29)).alloc (.cells #[.slice none 0 0] 29) = W at *
  have hwz : W.heap.size = w.heap.size + 1 + 1 := by rw [← hW]; simp
  clear hW
  refine (drawJoin_any v code _ (HV.out.bel bW)).mono ?_
  rintro e w5 ⟨r, s, a, b, rfl, o1, o2, a8, b8, hb⟩
  replace K2 := K2.below hb K2.lt
  replace K3 := K3.below hb K3.lt
  have HB := Lib.hid (bel_trans bW hb)
  have O1 := Lib.hid o1
  have O2 := Lib.hid o2
  obtain ⟨A4, c4, rfl, -, -, -⟩ := o1.strs.open_
  obtain ⟨A5, c5, rfl, -, -, -⟩ := o2.strs.open_
  clear o1 o2 hb bW HV
  have bl2 : Blk ((w5.setCell ⟨w.heap.size, 0, none⟩ (.slice A4 a.length c4)).setCell ⟨w.heap.size + 1, 0, none⟩ (.slice A5 b.length c5)) w.heap.size 29 [.slice A4 a.length c4] := (K2.set_ 0 _).far (p := ⟨w.heap.size + 1, 0, none⟩) (by show w.heap.size ≠ w.heap.size + 1; omega) _
  have bl3 : Blk ((w5.setCell ⟨w.heap.size, 0, none⟩ (.slice A4 a.length c4)).setCell ⟨w.heap.size + 1, 0, none⟩ (.slice A5 b.length c5)) (w.heap.size + 1) 29 [.slice A5 b.length c5] := (K3.far (p := ⟨w.heap.size, 0, none⟩) (by show w.heap.size + 1 ≠ w.heap.size; omega) _).set_ 0 _
  obtain ⟨e2, f2⟩ := K2.one
  obtain ⟨e3, f3⟩ := K3.one
  obtain ⟨c2', -⟩ := bl2.one
  obtain ⟨c3', -⟩ := bl3.one
  go_wp2
  refine bodyPost_ret (v := .tuple #[.agg #[.slice A4 a.length c4], .agg #[.slice A5 b.length c5]]) (by simp [results, Try.results68, go_sem, c2', c3']) rfl ⟨_, _, a, b, rfl, ?_, ?_, a8, b8, ?_⟩
  · exact ((O1.out.setCell _ _ (by show w.heap.size < W.heap.size; omega)).setCell _ _ (by show w.heap.size + 1 < W.heap.size; omega)).lower (by omega)
  · exact ((O2.out.setCell _ _ (by show w.heap.size < W.heap.size; omega)).setCell _ _ (by show w.heap.size + 1 < W.heap.size; omega)).lower (by omega)
  · exact (HB.out.setCell (p := ⟨w.heap.size, 0, none⟩) (by show w.heap.size ≤ w.heap.size; omega) _).setCell (p := ⟨w.heap.size + 1, 0, none⟩) (by show w.heap.size ≤ w.heap.size + 1; omega) _

end Go.Proofs.Yteemhhgioljmaaa
