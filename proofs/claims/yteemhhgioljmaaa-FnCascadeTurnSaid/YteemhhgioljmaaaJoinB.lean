/-
  Contracts of impl.JoinEngines, spec.l7Join, spec.JoinEngines.
-/
import Derived.Test.YteemhhgioljmaaaJoin
import Derived.Test.YteemhhgioljmaaaConcat
namespace Go.Proofs.Yteemhhgioljmaaa
open Go.RowKit
set_option linter.unusedVariables false
set_option linter.unusedSimpArgs false
set_option maxRecDepth 100000
attribute [local go_sem ↓] Go.wp_at_zero Go.wp_at_succ

/-- An engine of one's own and a bool. -/
def EngB (w : World) (l : List ByteArray) (q : Bool) (e : Ending) (w' : World) : Prop :=
  ∃ r, e = .returned (.tuple #[.agg #[r], .bool q]) ∧ OwnS w' w.heap.size r l ∧ Below w.heap.size w w'

set_option maxHeartbeats 2000000 in
theorem implJoin_any (u v : Value) (a b : List ByteArray) (w : World) (hu : Strs w u a) (hv : Strs w v b) :
    Calls Try.prog 64 #[.agg #[u], .agg #[v]] w (EngB w (joinE a b) (joinOk a b)) := by
  have HU := Lib.hid hu
  have HV := Lib.hid hv
  obtain ⟨A, c, rfl, -, -, -⟩ := hu.open_
  obtain ⟨B, d, rfl, -, -, -⟩ := hv.open_
  clear hu hv
  have B0 := Lib.hid (show Below w.heap.size w (((w.alloc (.cells #[.slice A a.length c] 29)).alloc (.cells #[.slice B b.length d] 29)).alloc (.cells #[.slice none 0 0] 29)) from ((bel_alloc w _).alloc (by simp) _).alloc (by simp; omega) _)
  have K0 := ((Blk.new' w 29 (.slice A a.length c) w.heap.size rfl).alloc (.cells #[.slice B b.length d] 29)).alloc (.cells #[.slice none 0 0] 29)
  have K1 := (Blk.new' (w.alloc (.cells #[.slice A a.length c] 29)) 29 (.slice B b.length d) (w.heap.size + 1) (by simp)).alloc (.cells #[.slice none 0 0] 29)
  have K2 := Blk.new' ((w.alloc (.cells #[.slice A a.length c] 29)).alloc (.cells #[.slice B b.length d] 29)) 29 (.slice none 0 0) (w.heap.size + 1 + 1) (by simp)
  obtain ⟨c0, -⟩ := K0.one
  obtain ⟨c1, -⟩ := K1.one
  go_enter Try.func64, Try.ntmps64
  go_wp2_with fail
  clear c0 c1
  generalize hW : ((w.alloc (.cells #[.slice A a.length c] 29)).alloc (.cells #[.slice B b.length d] 29)).alloc (.cells #[.slice none 0 0] 29) = W at *
  clear hW
  refine (canCouple_any _ _ a b _ (HU.out.bel B0.out) (HV.out.bel B0.out)).mono ?_
  rintro e w2 ⟨rfl, hb⟩
  replace K0 := K0.below hb K0.lt
  replace K1 := K1.below hb K1.lt
  replace K2 := K2.below hb K2.lt
  have HB := Lib.hid (bel_trans B0.out hb)
  have hz := HB.out.size
  have k2 := K2.lt
  clear hb
  obtain ⟨c0, -⟩ := K0.one
  obtain ⟨c1, -⟩ := K1.one
  obtain ⟨c2, f2⟩ := K2.one
  cases hj : joinOk a b
  · have HN := Lib.hid (joinE_no hj)
    go_wp2
    refine bodyPost_ret (v := .tuple #[.agg #[.slice none 0 0], .bool false]) (by simp [results, Try.results64, go_sem, c2]) rfl ⟨.slice none 0 0, by rw [hj], ?_, ?_⟩
    · rw [HN.out]; exact OwnS.nil_ _ _
    · exact HB.out.setCell (by simp; omega) _
  · have HY := Lib.hid (joinE_yes hj)
    obtain ⟨ea, eb, -, -⟩ := joinOk_true.1 hj
    obtain ⟨a1, a7, -⟩ := engOk_iff.1 ea
    obtain ⟨b1, b7, -⟩ := engOk_iff.1 eb
    go_wp2_with fail
    generalize hW : w2.alloc (.cells #[.slice B b.length d, .slice A a.length c] 27) = W2 at *
    have hbb : Below w2.heap.size w2 W2 := by rw [← hW]; exact bel_alloc w2 _
    have q0 : W2.cell? ⟨w2.heap.size, 0, none⟩ = some (.slice B b.length d) := by rw [← hW]; exact (Blk.new w2 27 [.slice B b.length d, .slice A a.length c]).cell 0
    have q1 : W2.cell? ⟨w2.heap.size, 1, none⟩ = some (.slice A a.length c) := by rw [← hW]; exact (Blk.new w2 27 [.slice B b.length d, .slice A a.length c]).cell 1
    clear hW
    refine (concat_any _ _ _ b a _ (HV.out.bel (bel_trans HB.out hbb)) (HU.out.bel (bel_trans HB.out hbb)) q0 q1 ⟨b1, b7⟩ ⟨a1, a7⟩).mono ?_
    rintro e w3 ⟨r, rfl, ho, hb3⟩
    have hb4 := bel_trans hbb hb3
    replace K2 := K2.below hb4 K2.lt
    obtain ⟨c2, f2⟩ := K2.one
    have z3 := hb4.size
    have z4 := hbb.size
    have HO := Lib.hid (And.intro (ho.lower (base' := w.heap.size + 1 + 1 + 1) (by omega)) (bel_trans HB.out hb4))
    obtain ⟨A3, d3, rfl, -, -, -⟩ := ho.strs.open_
    clear ho hb3 hbb hb4 q0 q1
    generalize hp : (b ++ a).length = p at *
    clear hp
    go_wp2
    refine bodyPost_ret (v := .tuple #[.agg #[.slice A3 p d3], .bool true]) (by simp [results, Try.results64, go_sem, c2]) rfl ⟨_, by rw [hj], ?_, ?_⟩
    · rw [HY.out]; exact (HO.out.1.setCell _ _ (by simp)).lower (by omega)
    · exact HO.out.2.setCell (by simp; omega) _

set_option maxHeartbeats 2000000 in
theorem l7Join_any (u v : Value) (a b : List ByteArray) (w : World) (hu : Strs w u a) (hv : Strs w v b) (ha : 1 ≤ a.length ∧ a.length ≤ 7) (hb : 1 ≤ b.length ∧ b.length ≤ 7) :
    Calls Try.prog 133 #[.agg #[u], .agg #[v]] w fun e w' => ∃ r, e = .returned (.agg #[r]) ∧ OwnS w' w.heap.size r (b ++ a) ∧ Below w.heap.size w w' := by
  have HU := Lib.hid hu
  have HV := Lib.hid hv
  obtain ⟨A, c, rfl, -, -, -⟩ := hu.open_
  obtain ⟨B, d, rfl, -, -, -⟩ := hv.open_
  clear hu hv
  have B0 := Lib.hid (show Below w.heap.size w (((w.alloc (.cells #[.slice A a.length c] 29)).alloc (.cells #[.slice B b.length d] 29)).alloc (.cells #[.slice none 0 0] 29)) from ((bel_alloc w _).alloc (by simp) _).alloc (by simp; omega) _)
  have hz : (((w.alloc (.cells #[.slice A a.length c] 29)).alloc (.cells #[.slice B b.length d] 29)).alloc (.cells #[.slice none 0 0] 29)).heap.size = w.heap.size + 1 + 1 + 1 := by simp
  have K0 := ((Blk.new' w 29 (.slice A a.length c) w.heap.size rfl).alloc (.cells #[.slice B b.length d] 29)).alloc (.cells #[.slice none 0 0] 29)
  have K1 := (Blk.new' (w.alloc (.cells #[.slice A a.length c] 29)) 29 (.slice B b.length d) (w.heap.size + 1) (by simp)).alloc (.cells #[.slice none 0 0] 29)
  have K2 := Blk.new' ((w.alloc (.cells #[.slice A a.length c] 29)).alloc (.cells #[.slice B b.length d] 29)) 29 (.slice none 0 0) (w.heap.size + 1 + 1) (by simp)
  replace HU := Lib.hid (HU.out.bel B0.out)
  replace HV := Lib.hid (HV.out.bel B0.out)
  go_enter Try.func133, Try.ntmps133
  go_wp2_with fail
  generalize hW : ((w.alloc (.cells #[.slice A a.length c] 29)).alloc (.cells #[.slice B b.length d] 29)).alloc (.cells #[.slice none 0 0] 29) = W at *
  clear hW
  obtain ⟨c0, -⟩ := K0.one
  obtain ⟨c1, -⟩ := K1.one
  have hl0 : w.heap.size < W.heap.size := by omega
  have hl1 : w.heap.size + 1 < W.heap.size := by omega
  have tok1 : True := trivial
  have tok2 : True := trivial
  go_region_held3 (fun w' => w'.cell? ⟨w.heap.size, 0, none⟩ = some (.slice A a.length c) ∧ w'.cell? ⟨w.heap.size + 1, 0, none⟩ = some (.slice B b.length d)) (first | (exact ⟨(World.cell?_setCell_other _ _ _ _ (by intro e; injection e with e1; omega)).trans c0, (World.cell?_setCell_other _ _ _ _ (by intro e; injection e with e1; omega)).trans c1⟩) | go_keep) (first
    | (have _t := tok1; refine step_app_strs0 rfl (.tmp 5) (.tmp 7) (by rfl) _ (by rfl) _ b (by rfl) (HV.out.bel (by first | exact Below.refl _ _ | exact (Below.refl _ _).drew | exact bel_alloc _ _ | exact (bel_alloc _ _).drew | exact ((Below.refl _ _).drew).alloc (Nat.le_refl _) _ | exact (bel_alloc _ _).alloc (by simp) _)) hb.1 (by omega) ?_; intro A1 d1 w5 o1 _ _ hb5; have B5 : Below W.heap.size W w5 := bel_trans (by first | exact Below.refl _ _ | exact (Below.refl _ _).drew | exact bel_alloc _ _ | exact (bel_alloc _ _).drew | exact ((Below.refl _ _).drew).alloc (Nat.le_refl _) _ | exact (bel_alloc _ _).alloc (by simp) _) hb5; have S5 := B5.size; have o1' := o1.lower (base' := w.heap.size + 1 + 1 + 1) (by first | omega | (simp; omega)); replace K0 := K0.below B5 K0.lt; replace K1 := K1.below B5 K1.lt; replace K2 := K2.below B5 K2.lt; replace c0 := K0.one.1; replace c1 := K1.one.1; clear tok1)
    | (have _t := tok2; refine step_app_own rfl (.tmp 8) (.tmp 10) (by rfl) (w.heap.size + 1 + 1 + 1) _ b (by rfl) o1' (by omega) _ a (by rfl) (HU.out.bel B5) ha.1 (by omega) ?_; intro A2 d2 w6 o2 hg6; have B6 : Below W.heap.size W w6 := B5.trans (below_own hg6 S5 (fun k hk => by have := (o1'.lt k hk).1; omega)); replace K0 := K0.grown hg6 (fun e => by have := (o1'.lt _ e.symm).1; omega); replace K1 := K1.grown hg6 (fun e => by have := (o1'.lt _ e.symm).1; omega); replace K2 := K2.grown hg6 (fun e => by have := (o1'.lt _ e.symm).1; omega); replace c0 := K0.one.1; replace c1 := K1.one.1; obtain ⟨c2, f2⟩ := K2.one; clear tok2))
  all_goals
    rw [List.length_append] at o2
    have HF := Lib.hid (And.intro o2 (bel_trans B0.out B6))
    clear o2
    go_wp2
    refine bodyPost_ret (v := .agg #[.slice A2 (b.length + a.length) d2]) (by simp [results, Try.results133, go_sem, c2]) rfl ⟨_, rfl, ?_, ?_⟩
    · exact (HF.out.1.setCell _ _ (by simp)).lower (by omega)
    · exact HF.out.2.setCell (by simp; omega) _

set_option maxHeartbeats 2000000 in
theorem specJoin_any (u v : Value) (a b : List ByteArray) (w : World) (hu : Strs w u a) (hv : Strs w v b) :
    Calls Try.prog 65 #[.agg #[u], .agg #[v]] w (EngB w (joinE a b) (joinOk a b)) := by
  have HU := Lib.hid hu
  have HV := Lib.hid hv
  obtain ⟨A, c, rfl, -, -, -⟩ := hu.open_
  obtain ⟨B, d, rfl, -, -, -⟩ := hv.open_
  clear hu hv
  have B0 := Lib.hid (show Below w.heap.size w (((w.alloc (.cells #[.slice A a.length c] 29)).alloc (.cells #[.slice B b.length d] 29)).alloc (.cells #[.slice none 0 0] 29)) from ((bel_alloc w _).alloc (by simp) _).alloc (by simp; omega) _)
  have K0 := ((Blk.new' w 29 (.slice A a.length c) w.heap.size rfl).alloc (.cells #[.slice B b.length d] 29)).alloc (.cells #[.slice none 0 0] 29)
  have K1 := (Blk.new' (w.alloc (.cells #[.slice A a.length c] 29)) 29 (.slice B b.length d) (w.heap.size + 1) (by simp)).alloc (.cells #[.slice none 0 0] 29)
  have K2 := Blk.new' ((w.alloc (.cells #[.slice A a.length c] 29)).alloc (.cells #[.slice B b.length d] 29)) 29 (.slice none 0 0) (w.heap.size + 1 + 1) (by simp)
  obtain ⟨c0, -⟩ := K0.one
  obtain ⟨c1, -⟩ := K1.one
  go_enter Try.func65, Try.ntmps65
  go_wp2_with fail
  clear c0 c1
  generalize hW : ((w.alloc (.cells #[.slice A a.length c] 29)).alloc (.cells #[.slice B b.length d] 29)).alloc (.cells #[.slice none 0 0] 29) = W at *
  clear hW
  refine (l7Shape_any _ _ a b _ (HU.out.bel B0.out) (HV.out.bel B0.out)).mono ?_
  rintro e w2 ⟨rfl, hb⟩
  replace K0 := K0.below hb K0.lt
  replace K1 := K1.below hb K1.lt
  replace K2 := K2.below hb K2.lt
  have HB := Lib.hid (bel_trans B0.out hb)
  have hz := HB.out.size
  have k2 := K2.lt
  clear hb
  obtain ⟨c0, -⟩ := K0.one
  obtain ⟨c1, -⟩ := K1.one
  obtain ⟨c2, f2⟩ := K2.one
  cases hj : joinOk a b
  · have HN := Lib.hid (joinE_no hj)
    go_wp2
    refine bodyPost_ret (v := .tuple #[.agg #[.slice none 0 0], .bool false]) (by simp [results, Try.results65, go_sem, c2]) rfl ⟨.slice none 0 0, by rw [hj], ?_, ?_⟩
    · rw [HN.out]; exact OwnS.nil_ _ _
    · exact HB.out.setCell (by simp; omega) _
  · have HY := Lib.hid (joinE_yes hj)
    obtain ⟨ea, eb, -, -⟩ := joinOk_true.1 hj
    obtain ⟨a1, a7, -⟩ := engOk_iff.1 ea
    obtain ⟨b1, b7, -⟩ := engOk_iff.1 eb
    go_wp2_with fail
    refine (l7Join_any _ _ a b _ (HU.out.bel HB.out) (HV.out.bel HB.out) ⟨a1, a7⟩ ⟨b1, b7⟩).mono ?_
    rintro e w3 ⟨r, rfl, ho, hb4⟩
    replace K2 := K2.below hb4 K2.lt
    obtain ⟨c2, f2⟩ := K2.one
    have z3 := hb4.size
    have HO := Lib.hid (And.intro (ho.lower (base' := w.heap.size + 1 + 1 + 1) (by omega)) (bel_trans HB.out hb4))
    obtain ⟨A3, d3, rfl, -, -, -⟩ := ho.strs.open_
    clear ho hb4
    generalize hp : (b ++ a).length = p at *
    clear hp
    go_wp2
    refine bodyPost_ret (v := .tuple #[.agg #[.slice A3 p d3], .bool true]) (by simp [results, Try.results65, go_sem, c2]) rfl ⟨_, by rw [hj], ?_, ?_⟩
    · rw [HY.out]; exact (HO.out.1.setCell _ _ (by simp)).lower (by omega)
    · exact HO.out.2.setCell (by simp; omega) _

end Go.Proofs.Yteemhhgioljmaaa
