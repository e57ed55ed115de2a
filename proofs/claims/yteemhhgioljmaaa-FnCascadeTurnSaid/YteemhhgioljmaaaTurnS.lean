/-
  Contracts of l3Turn, l3Many (spec), turnedMany (impl; turns forwards).
-/
import Derived.Test.YteemhhgioljmaaaTurn
import Derived.LoopN
import Derived.Deep.RegionHeld3
namespace Go.Proofs.Yteemhhgioljmaaa
open Go.RowKit
set_option linter.unusedVariables false
set_option linter.unusedSimpArgs false
set_option maxRecDepth 100000
attribute [local go_sem ↓] Go.wp_at_zero Go.wp_at_succ

set_option maxHeartbeats 2000000 in
theorem l3Turn_any (v : Value) (l : List ByteArray) (w : World) (hv : Strs w v l) (ok : engOk l = true) :
    Calls Try.prog 132 #[.agg #[v]] w fun e w' => ∃ r, e = .returned (.agg #[r]) ∧ OwnS w' w.heap.size r (turnS l) ∧ Below w.heap.size w w' := by
  have HV := Lib.hid hv
  obtain ⟨A, c, rfl, hlc, hc, hrd⟩ := hv.open_
  obtain ⟨l1, l7, hcol⟩ := engOk_iff.1 ok
  obtain ⟨b, o, rfl, hb, hcell⟩ := hrd.strs (by omega)
  have HC := Lib.hid hcell
  have HL := Lib.hid hcol
  have OK := Lib.hid ok
  clear hrd hv hcell hcol ok
  have B0 := Lib.hid (show Below w.heap.size w ((w.alloc (.cells #[.slice (some ⟨b, o, none⟩) l.length c] 29)).alloc (.cells #[.slice none 0 0] 29)) from (bel_alloc w _).alloc (by simp) _)
  have K1 := (Blk.new' w 29 (.slice (some ⟨b, o, none⟩) l.length c) w.heap.size rfl).alloc (.cells #[.slice none 0 0] 29)
  have K2 := Blk.new' (w.alloc (.cells #[.slice (some ⟨b, o, none⟩) l.length c] 29)) 29 (.slice none 0 0) (w.heap.size + 1) (by simp)
  obtain ⟨c0, -⟩ := K1.one
  go_enter Try.func132, Try.ntmps132
  go_wp2_with fail
  clear c0
  generalize hW : (w.alloc (.cells #[.slice (some ⟨b, o, none⟩) l.length c] 29)).alloc (.cells #[.slice none 0 0] 29) = W at *
  clear hW
  refine (l3Copy_any _ l _ (HV.out.bel B0.out) (by omega)).mono ?_
  rintro e w1 ⟨r, rfl, ho, hb1⟩
  have k2 := K2.lt
  replace K1 := K1.below hb1 K1.lt
  replace K2 := K2.below hb1 K2.lt
  have HB1 := Lib.hid (bel_trans B0.out hb1)
  rcases ho.form with ⟨_, h0⟩ | ⟨g, cap, cs0, rfl, hg, hblk0, hlcap, hcm, hcl0, hcs0⟩
  · exfalso; rw [h0] at l1; simp at l1
  · have H0 := Lib.hid (And.intro hcl0 hcs0)
    have hg2 : w.heap.size + 1 < g := by omega
    have hgz := hblk0.lt
    have hbg : b < w1.heap.size := by have := HB1.out.size; omega
    clear hcl0 hcs0 hb1 ho
    have ba : Below w1.heap.size w1 (w1.alloc (.cells #[.slice (some ⟨g, 0, none⟩) l.length cap] 29)) := bel_alloc w1 _
    have K3 := Blk.new' w1 29 (.slice (some ⟨g, 0, none⟩) l.length cap) _ rfl
    replace K1 := K1.below ba K1.lt
    replace K2 := K2.below ba K2.lt
    have hblk := hblk0.below ba hgz
    have HB := Lib.hid (bel_trans HB1.out ba)
    go_wp2_with fail
    generalize hW3 : w1.alloc (.cells #[.slice (some ⟨g, 0, none⟩) l.length cap] 29) = W3 at *
    clear hW3 ba hblk0
    have HK := Lib.hid (And.intro K1 (And.intro K2 K3))
    clear K1 K2 K3 k2
    go_loopw [4] (fun i wr => ∃ (k : Nat) (cs : List Value), k + 1 ≤ l.length ∧ i = .int .i64 k ∧ Blk wr g 9 cs ∧ cs.length = cap ∧ (∀ j, j < l.length → cs[j]? = some (.string (mixT l k j))) ∧ Below w.heap.size w wr ∧ Blk wr w.heap.size 29 [.slice (some ⟨b, o, none⟩) l.length c] ∧ Blk wr (w.heap.size + 1) 29 [.slice none 0 0] ∧ Blk wr w1.heap.size 29 [.slice (some ⟨g, 0, none⟩) l.length cap])
      (fun i _ => l.length - (intOf i).toNat)
    case atStart => exact ⟨0, cs0, by omega, rfl, hblk, H0.out.1, fun j hj => by rw [mixT_zero]; exact H0.out.2 j hj, HB.out, HK.out.1, HK.out.2.1, HK.out.2.2⟩
    case round =>
      clear HK HB hblk
      obtain ⟨k, cs, hk, rfl, hblk, hcl, hcs, hbel, K1, K2, K3⟩ := hrel
      have H := Lib.hid (And.intro hcl (And.intro hcs hbel))
      clear hcl hcs hbel H0
      obtain ⟨e1, -⟩ := K1.one
      obtain ⟨e2, f2⟩ := K2.one
      obtain ⟨e3, -⟩ := K3.one
      by_cases hlt : k + 1 < l.length
      · have hck : wr.cell? ⟨b, o + k, none⟩ = some (.string (sat l k)) := (H.out.2.2.cell (by exact hb)).trans (HC.out k (by omega))
        have hck1 : wr.cell? ⟨b, o + (k + 1), none⟩ = some (.string (sat l (k + 1))) := (H.out.2.2.cell (by exact hb)).trans (HC.out (k + 1) hlt)
        have hp : (k : Int) + 1 < (l.length : Int) := by omega
        have hp0 : (0 : Int) ≤ (k : Int) + 1 := by omega
        have hwr : IntKind.i64.wrap ((k : Int) + 1) = (k : Int) + 1 := (by first | go_num | (rw [IntWalk.i64_in] <;> omega))
        have htn : ((k : Int) + 1).toNat = k + 1 := by omega
        have hk0 : k < l.length := by omega
        have hpk : (k : Int) < (l.length : Int) := by omega
        have hpk0 : (0 : Int) ≤ (k : Int) := by omega
        have hz := hblk.lt
        have hne1 := HB1.out.size
        have hzb : b < wr.heap.size := by have := H.out.2.2.size; omega
        clear e2 f2
        have tok1 : True := trivial
        go_wp2_with fail
        go_region_held3 (fun w' => w'.cell? ⟨w.heap.size, 0, none⟩ = some (.slice (some ⟨b, o, none⟩) l.length c) ∧ w'.cell? ⟨w1.heap.size, 0, none⟩ = some (.slice (some ⟨g, 0, none⟩) l.length cap) ∧ w'.cell? ⟨b, o + k, none⟩ = some (.string (sat l k)) ∧ w'.cell? ⟨b, o + (k + 1), none⟩ = some (.string (sat l (k + 1))))
          (first | exact ⟨e1, e3, hck, hck1⟩ | exact ⟨(World.cell?_setCell_other _ _ _ _ (by intro e; injection e with q; omega)).trans e1, (World.cell?_setCell_other _ _ _ _ (by intro e; injection e with q; omega)).trans e3, (World.cell?_setCell_other _ _ _ _ (by intro e; injection e with q; omega)).trans hck, (World.cell?_setCell_other _ _ _ _ (by intro e; injection e with q; omega)).trans hck1⟩ | go_keep)
          (first
          | ((try go_simp); go_at_call 176; have _t := tok1; refine (l3Plus_any _ _ _ (HL.out k hk0).1 (HL.out (k + 1) hlt).1 ((HL.out k hk0).2.trans (HL.out (k + 1) hlt).2.symm)).mono ?_; rintro e w2 ⟨rfl, b2⟩; replace b2 : Below wr.heap.size wr w2 := (by first | exact b2 | exact bel_trans ((Below.refl _ _).drew) b2); have hbl2 := hblk.below b2 hz; replace K1 := K1.below b2 K1.lt; replace K2 := K2.below b2 K2.lt; replace K3 := K3.below b2 K3.lt; replace e1 := K1.one.1; replace e3 := K3.one.1; replace hck := (b2.cell (by exact hzb)).trans hck; replace hck1 := (b2.cell (by exact hzb)).trans hck1; have hcw2 : w2.cell? ⟨g, k, none⟩ = some (.string (sat l k)) := (hbl2.cell k).trans ((H.out.2.1 k hk0).trans (by rw [mixT_self])); have hfw2 := hbl2.frozen k; clear tok1))
        all_goals
          go_wp2
          go_roundw
          case rel =>
            have hB := bel_trans (show Below w.heap.size w wr from H.out.2.2) b2
            exact ⟨k + 1, _, by omega, by go_num, hbl2.set_ k _, by rw [List.length_set]; exact H.out.1, mixT_set hlt (by rw [H.out.1]; exact hlcap) H.out.2.1, hB.setCell (by show w.heap.size ≤ g; omega) _, K1.far (by show w.heap.size ≠ g; omega) _, K2.far (by show w.heap.size + 1 ≠ g; omega) _, K3.far (by show w1.heap.size ≠ g; omega) _⟩
          case measure => simp [intOf]; omega
      · have HO := Lib.hid (And.intro (own_turn OK.out (by omega) (show w.heap.size + 1 + 1 ≤ g by omega) hblk hlcap hcm H.out.1 H.out.2.1) H.out.2.2)
        go_wp2
        refine bodyPost_ret (v := .agg #[.slice (some ⟨g, 0, none⟩) l.length cap]) (by simp [results, Try.results132, go_sem, e2]) rfl ⟨_, rfl, ?_, ?_⟩
        · exact (HO.out.1.setCell _ _ (by simp)).lower (by omega)
        · exact HO.out.2.setCell (by simp) _

set_option maxHeartbeats 2000000 in
theorem turnedMany_any (v : Value) (l : List ByteArray) (n : Nat) (w : World) (hv : Strs w v l) (ok : engOk l = true) (hn : n ≤ 300) :
    Calls Try.prog 152 #[v, .int .i64 n] w fun e w' => ∃ r, e = .returned r ∧ OwnS w' w.heap.size r (turnN l n) ∧ Below w.heap.size w w' := by
  have HV := Lib.hid hv
  obtain ⟨A, c, rfl, hlc, hc, hrd⟩ := hv.open_
  have l7 := (engOk_iff.1 ok).2.1
  have OK := Lib.hid ok
  clear hrd hv ok
  go_enter Try.func152, Try.ntmps152
  go_wp2_with fail
  refine (cloneS_any _ l _ HV.out (by omega)).mono ?_
  rintro e w1 ⟨r, rfl, ho, hb1⟩
  have H0 := Lib.hid (And.intro ho hb1)
  clear ho hb1
  go_wp2_with fail
  go_loopw [1, 5] (fun m x wr => ∃ (k : Nat), k ≤ n ∧ m = .int .i64 ((n : Int) - (k : Int)) ∧ OwnS wr w.heap.size x (turnN l k) ∧ Below w.heap.size w wr) (fun m _ _ => (intOf m).toNat)
  case atStart => exact ⟨0, by omega, by simp, H0.out.1, H0.out.2⟩
  case round =>
    clear H0
    obtain ⟨k, hk, rfl, hox, hbel⟩ := hrel
    have H := Lib.hid (And.intro hox hbel)
    clear hox hbel
    by_cases hlt : k < n
    · go_wp2_with fail
      refine (turnedOnce_any _ (turnN l k) _ H.out.1.strs (turnN_ok OK.out k)).mono ?_
      rintro e w2 ⟨r2, rfl, ho2, hb2⟩
      have H2 := Lib.hid (And.intro (ho2.lower (base' := w.heap.size) H.out.2.size) (bel_trans H.out.2 hb2))
      clear ho2 hb2
      go_wp2_with fail
      go_roundw
      case rel => exact ⟨k + 1, by omega, by go_num, H2.out.1, H2.out.2⟩
      case measure => simp [intOf]; omega
    · have : k = n := by omega
      subst this
      go_wp2_with fail
      refine wp_loop_rounds 1 ?_
      rw [rounds_succ]
      go_wp2_with fail
      go_ret
      exact ⟨_, rfl, H.out.1, H.out.2⟩

set_option maxHeartbeats 2000000 in
theorem l3Many_any (v : Value) (l : List ByteArray) (n : Nat) (w : World) (hv : Strs w v l) (ok : engOk l = true) (hn : n ≤ 300) :
    Calls Try.prog 92 #[.agg #[v], .int .i64 n] w fun e w' => ∃ r, e = .returned (.agg #[r]) ∧ OwnS w' w.heap.size r (turnN l n) ∧ Below w.heap.size w w' := by
  have HV := Lib.hid hv
  obtain ⟨A, c, rfl, hlc, hc, hrd⟩ := hv.open_
  have l7 := (engOk_iff.1 ok).2.1
  have OK := Lib.hid ok
  clear hrd hv ok
  have B0 := Lib.hid (show Below w.heap.size w ((w.alloc (.cells #[.slice A l.length c] 29)).alloc (.cells #[.slice none 0 0] 29)) from (bel_alloc w _).alloc (by simp) _)
  have K1 := (Blk.new' w 29 (.slice A l.length c) w.heap.size rfl).alloc (.cells #[.slice none 0 0] 29)
  have K2 := Blk.new' (w.alloc (.cells #[.slice A l.length c] 29)) 29 (.slice none 0 0) (w.heap.size + 1) (by simp)
  obtain ⟨c0, -⟩ := K1.one
  go_enter Try.func92, Try.ntmps92
  go_wp2_with fail
  clear c0
  generalize hW : (w.alloc (.cells #[.slice A l.length c] 29)).alloc (.cells #[.slice none 0 0] 29) = W at *
  clear hW K1
  refine (l3Copy_any _ l _ (HV.out.bel B0.out) (by omega)).mono ?_
  rintro e w1 ⟨r, rfl, ho, hb1⟩
  have k2 := K2.lt
  have hz1 := hb1.size
  replace K2 := K2.below hb1 K2.lt
  have HB1 := Lib.hid (bel_trans B0.out hb1)
  obtain ⟨A1, c1, rfl, -, -, -⟩ := ho.strs.open_
  have ba : Below w1.heap.size w1 (w1.alloc (.cells #[.slice A1 l.length c1] 29)) := bel_alloc w1 _
  have K3 := Blk.new' w1 29 (.slice A1 l.length c1) _ rfl
  have hlt1 := fun k hk => (ho.lt k hk).2
  replace K2 := K2.below ba K2.lt
  have H0 := Lib.hid (And.intro ((ho.bel ba).lower (base' := w.heap.size + 1 + 1) (by omega)) (And.intro (bel_trans HB1.out ba) (And.intro K2 (And.intro K3 hlt1))))
  clear ho hb1 K2 K3 hlt1
  go_wp2_with fail
  generalize hW3 : w1.alloc (.cells #[.slice A1 l.length c1] 29) = W3 at *
  clear hW3 ba
  go_loopw [6] (fun i wr => ∃ (k : Nat) (x : Value), k ≤ n ∧ i = .int .i64 k ∧ OwnS wr (w.heap.size + 1 + 1) x (turnN l k) ∧ Below w.heap.size w wr ∧ Blk wr (w.heap.size + 1) 29 [.slice none 0 0] ∧ Blk wr w1.heap.size 29 [x] ∧ (∀ j, x.ownBlock = some j → j ≠ w1.heap.size)) (fun i _ => n - (intOf i).toNat)
  case atStart => exact ⟨0, _, by omega, rfl, H0.out.1, H0.out.2.1, H0.out.2.2.1, H0.out.2.2.2.1, fun j hj => by have := H0.out.2.2.2.2 j hj; omega⟩
  case round =>
    clear H0
    obtain ⟨k, x, hk, rfl, hox, hbel, K2, K3, hne⟩ := hrel
    obtain ⟨A4, c4, rfl, -, -, -⟩ := hox.strs.open_
    have H := Lib.hid (And.intro hox (And.intro hbel hne))
    clear hox hbel hne
    obtain ⟨e3, f3⟩ := K3.one
    by_cases hlt : k < n
    · go_wp2_with fail
      refine (l3Turn_any _ (turnN l k) _ H.out.1.strs (turnN_ok OK.out k)).mono ?_
      rintro e w2 ⟨r2, rfl, ho2, hb2⟩
      have k3 := K3.lt
      replace K2 := K2.below hb2 K2.lt
      replace K3 := K3.below hb2 K3.lt
      have H2 := Lib.hid (And.intro ho2 (bel_trans H.out.2.1 hb2))
      obtain ⟨A5, c5, rfl, -, -, -⟩ := ho2.strs.open_
      clear ho2 hb2 e3 f3
      obtain ⟨e3, f3⟩ := K3.one
      go_wp2_with fail
      go_roundw
      case rel =>
        have z1 := H.out.2.1.size
        refine ⟨k + 1, .slice A5 (turnS (turnN l k)).length c5, by omega, by go_num, ?_, H2.out.2.setCell (by show w.heap.size ≤ w1.heap.size; omega) _, K2.far (by show w.heap.size + 1 ≠ w1.heap.size; omega) _, K3.set_ 0 _, fun j hj => by have := (H2.out.1.lt j hj).1; omega⟩
        exact (H2.out.1.setCell _ _ (by show w1.heap.size < wr.heap.size; exact k3)).lower (by omega)
      case measure => simp [intOf]; omega
    · have : k = n := by omega
      subst this
      go_wp2_with fail
      refine wp_loop_rounds 1 ?_
      rw [rounds_succ]
      obtain ⟨e2, f2⟩ := K2.one
      have k22 := K2.lt
      generalize hp : (turnN l k).length = p at *
      clear hp
      go_wp2_with fail
      refine bodyPost_ret (v := .agg #[.slice A4 p c4]) (by simp [results, Try.results92, go_sem, e2]) rfl ⟨_, rfl, ?_, ?_⟩
      · exact (H.out.1.setCell _ _ (by simp)).lower (by omega)
      · exact H.out.2.1.setCell (by simp) _

end Go.Proofs.Yteemhhgioljmaaa
