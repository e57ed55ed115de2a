/-
  The contract of impl.CascadeTurn.
-/
import Derived.Test.YteemhhgioljmaaaTurnS
import Derived.Test.YteemhhgioljmaaaJoin
namespace Go.Proofs.Yteemhhgioljmaaa
open Go.RowKit
set_option linter.unusedVariables false
set_option linter.unusedSimpArgs false
set_option maxRecDepth 100000
attribute [local go_sem ↓] Go.wp_at_zero Go.wp_at_succ

def cA (a b : List ByteArray) : List ByteArray := if joinOk a b = true then turnS a else []
def cB (a b : List ByteArray) : List ByteArray := if joinOk a b = true then cascB a b else []
theorem cAB_no {a b : List ByteArray} (h : joinOk a b = false) : cA a b = [] ∧ cB a b = [] := by simp [cA, cB, h]
theorem cAB_yes {a b : List ByteArray} (h : joinOk a b = true) : cA a b = turnS a ∧ cB a b = cascB a b := by simp [cA, cB, h]
theorem cA_len {a b : List ByteArray} : (cA a b).length ≤ a.length := by
  unfold cA; split
  · rw [turnS_length]; exact Nat.le_refl _
  · simp
theorem cB_len {a b : List ByteArray} : (cB a b).length ≤ b.length := by
  unfold cB; split
  · rw [cascB_length]; exact Nat.le_refl _
  · simp
theorem casc_set {a b : List ByteArray} {cs : List Value} {k : Nat} (hk : k + 1 = b.length) (hc : b.length ≤ cs.length) (h : ∀ j, j < b.length → cs[j]? = some (.string (sat (turnS b) j))) :
    ∀ j, j < b.length → (cs.set k (.string (addC (sat b k) (sat a 0))))[j]? = some (.string (sat (cascB a b) j)) := by
  intro j hj
  by_cases e : j = k
  · subst e
    rw [List.getElem?_set_self (by omega), cascB, at_genS hj, if_neg (by omega)]
  · rw [List.getElem?_set_ne (by omega), h j hj, cascB, at_genS hj, turnS_at hj, if_pos (by omega), if_pos (by omega)]
theorem own_casc {w : World} {base g cap : Nat} {cs : List Value} {a b : List ByteArray} (ok : joinOk a b = true) (hg : base ≤ g) (hb : Blk w g 9 cs) (hl : b.length ≤ cap) (hc : cap ≤ 9223372036854775807) (hs : cs.length = cap)
    (h : ∀ j, j < b.length → cs[j]? = some (.string (sat (cascB a b) j))) : OwnS w base (.slice (some ⟨g, 0, none⟩) b.length cap) (cascB a b) := by
  have := OwnS.mk' (l := cascB a b) hg hb (by rw [cascB_length]; exact hl) hc hs (fun j hj => by rw [cascB_length] at hj; exact h j hj) (eng_wf (joinOk_true.1 (joinOk_turn ok)).2.1)
  rwa [cascB_length] at this

set_option maxHeartbeats 4000000 in
theorem implCasc_any (u v : Value) (a b : List ByteArray) (w : World) (hu : Strs w u a) (hv : Strs w v b) :
    Calls Try.prog 59 #[.agg #[u], .agg #[v]] w (TwoEng w (cA a b) (cB a b) (joinOk a b)) := by
  have HU := Lib.hid hu
  have HV := Lib.hid hv
  obtain ⟨A, c, rfl, -, -, hrd⟩ := hu.open_
  obtain ⟨B, d, rfl, -, -, hrd2⟩ := hv.open_
  have HR := Lib.hid (And.intro hrd hrd2)
  clear hu hv hrd hrd2
  have B0 := Lib.hid (show Below w.heap.size w ((((w.alloc (.cells #[.slice A a.length c] 29)).alloc (.cells #[.slice B b.length d] 29)).alloc (.cells #[.slice none 0 0] 29)).alloc (.cells #[.slice none 0 0] 29)) from (((bel_alloc w _).alloc (by simp) _).alloc (by simp; omega) _).alloc (by simp; omega) _)
  have K0 := (((Blk.new' w 29 (.slice A a.length c) w.heap.size rfl).alloc (.cells #[.slice B b.length d] 29)).alloc (.cells #[.slice none 0 0] 29)).alloc (.cells #[.slice none 0 0] 29)
  have K1 := ((Blk.new' (w.alloc (.cells #[.slice A a.length c] 29)) 29 (.slice B b.length d) (w.heap.size + 1) (by simp)).alloc (.cells #[.slice none 0 0] 29)).alloc (.cells #[.slice none 0 0] 29)
  have K2 := (Blk.new' ((w.alloc (.cells #[.slice A a.length c] 29)).alloc (.cells #[.slice B b.length d] 29)) 29 (.slice none 0 0) (w.heap.size + 1 + 1) (by simp)).alloc (.cells #[.slice none 0 0] 29)
  have K3 := Blk.new' (((w.alloc (.cells #[.slice A a.length c] 29)).alloc (.cells #[.slice B b.length d] 29)).alloc (.cells #[.slice none 0 0] 29)) 29 (.slice none 0 0) (w.heap.size + 1 + 1 + 1) (by simp)
  obtain ⟨c0, -⟩ := K0.one
  obtain ⟨c1, -⟩ := K1.one
  go_enter Try.func59, Try.ntmps59
  go_wp2_with fail
  clear c0 c1
  generalize hW : (((w.alloc (.cells #[.slice A a.length c] 29)).alloc (.cells #[.slice B b.length d] 29)).alloc (.cells #[.slice none 0 0] 29)).alloc (.cells #[.slice none 0 0] 29) = W at *
  clear hW
  refine (canCouple_any _ _ a b _ (HU.out.bel B0.out) (HV.out.bel B0.out)).mono ?_
  rintro e w2 ⟨rfl, hb⟩
  replace K0 := K0.below hb K0.lt
  replace K1 := K1.below hb K1.lt
  replace K2 := K2.below hb K2.lt
  replace K3 := K3.below hb K3.lt
  have HB := Lib.hid (bel_trans B0.out hb)
  have hz := HB.out.size
  clear hb
  obtain ⟨c0, -⟩ := K0.one
  obtain ⟨c1, -⟩ := K1.one
  cases hj : joinOk a b
  · have HN := Lib.hid (cAB_no hj)
    obtain ⟨c2, f2⟩ := K2.one
    obtain ⟨c3, f3⟩ := K3.one
    go_wp2
    refine bodyPost_ret (v := .tuple #[.agg #[.slice none 0 0], .agg #[.slice none 0 0], .bool false]) (by simp [results, Try.results59, go_sem, c2, c3]) rfl ⟨.slice none 0 0, .slice none 0 0, by rw [hj], ?_, ?_, (fun k hk => by cases hk), ?_⟩
    · rw [HN.out.1]; exact OwnS.nil_ _ _
    · rw [HN.out.2]; exact OwnS.nil_ _ _
    · exact (HB.out.setCell (by simp; omega) _).setCell (by simp; omega) _
  · have HY := Lib.hid (cAB_yes hj)
    have HJ := Lib.hid hj
    obtain ⟨ea, eb, hss, -⟩ := joinOk_true.1 hj
    obtain ⟨a1, a7, hca⟩ := engOk_iff.1 ea
    obtain ⟨b1, b7, hcb⟩ := engOk_iff.1 eb
    have HE := Lib.hid (And.intro ea (And.intro eb (And.intro hss (And.intro hca hcb))))
    obtain ⟨ba, oa, rfl, hba, hcella⟩ := HR.out.1.strs (by omega)
    obtain ⟨bb, ob, rfl, hbb, hcellb⟩ := HR.out.2.strs (by omega)
    obtain ⟨m, hm⟩ : ∃ m, b.length = m + 1 := ⟨b.length - 1, by omega⟩
    have ca0 := (HB.out.cell (by exact hba)).trans (hcella 0 (by omega))
    rw [Nat.add_zero] at ca0
    have cbm := (HB.out.cell (by exact hbb)).trans (hcellb m (by omega))
    have HM := Lib.hid hm
    have hmi : (b.length : Int) - 1 = (m : Int) := by omega
    have hml : (m : Int) < (b.length : Int) := by omega
    have hm0 : (0 : Int) ≤ (m : Int) := by omega
    have hmt : ((m : Int)).toNat = m := by omega
    have na : ¬ a = [] := by intro e; rw [e] at a1; simp at a1
    have pa2 : 0 < a.length := by omega
    have pa : (0 : Int) < (a.length : Int) := by omega
    clear hcella hcellb hca hcb ea eb hss hm hj
    go_wp2_with fail
    refine (turnedOnce_any _ b _ (HV.out.bel HB.out) HE.out.2.1).mono ?_
    rintro e w3 ⟨r, rfl, ho, hb3⟩
    rcases ho.form with ⟨_, h0⟩ | ⟨g, cap, cs0, rfl, hg, hblk, hlcap, hcm, hcl0, hcs0⟩
    · exfalso; have := turnS_length b; rw [h0] at this; simp at this; omega
    · rw [turnS_length] at hlcap hcs0
      have k3 := K3.lt
      have hz3 := hb3.size
      have H0 := Lib.hid (And.intro hcl0 hcs0)
      replace K0 := K0.below hb3 K0.lt
      replace K1 := K1.below hb3 K1.lt
      replace K2 := K2.below hb3 K2.lt
      replace K3 := K3.below hb3 K3.lt
      have hba3 : ba < w3.heap.size := by omega
      have hbb3 : bb < w3.heap.size := by omega
      replace ca0 := (hb3.cell (by show ba < w2.heap.size; omega)).trans ca0
      replace cbm := (hb3.cell (by show bb < w2.heap.size; omega)).trans cbm
      have HB3 := Lib.hid (bel_trans HB.out hb3)
      clear hb3 ho hcl0 hcs0 c0 c1
      obtain ⟨c0, -⟩ := K0.one
      obtain ⟨c1, -⟩ := K1.one
      have hgz := hblk.lt
      rw [turnS_length]
      go_wp2_with fail
      have tok1 : True := trivial
      go_region_held3 (fun w' => w'.cell? ⟨w.heap.size, 0, none⟩ = some (.slice (some ⟨ba, oa, none⟩) a.length c) ∧ w'.cell? ⟨w.heap.size + 1, 0, none⟩ = some (.slice (some ⟨bb, ob, none⟩) b.length d) ∧ w'.cell? ⟨ba, oa, none⟩ = some (.string (sat a 0)) ∧ w'.cell? ⟨bb, ob + m, none⟩ = some (.string (sat b m)))
        (first | exact ⟨c0, c1, ca0, cbm⟩ | exact ⟨(World.cell?_setCell_other _ _ _ _ (by intro e; injection e with q; omega)).trans c0, (World.cell?_setCell_other _ _ _ _ (by intro e; injection e with q; omega)).trans c1, (World.cell?_setCell_other _ _ _ _ (by intro e; injection e with q; omega)).trans ca0, (World.cell?_setCell_other _ _ _ _ (by intro e; injection e with q; omega)).trans cbm⟩ | go_keep)
        (first
        | ((try go_simp); go_at_call 70; have _t := tok1; refine (implAdd_any _ _ _ (HE.out.2.2.2.2 m (by have := HM.out; omega)).1 (HE.out.2.2.2.1 0 (by omega)).1 ((HE.out.2.2.2.2 m (by have := HM.out; omega)).2.trans HE.out.2.2.1.symm)).mono ?_; rintro e w4 ⟨rfl, b4⟩; replace b4 : Below w3.heap.size w3 w4 := (by first | exact b4 | exact bel_trans ((Below.refl _ _).drew) b4); have hbl4 := hblk.below b4 hgz; replace K0 := K0.below b4 K0.lt; replace K1 := K1.below b4 K1.lt; replace K2 := K2.below b4 K2.lt; replace K3 := K3.below b4 K3.lt; replace c0 := K0.one.1; replace c1 := K1.one.1; replace ca0 := (b4.cell (by exact hba3)).trans ca0; replace cbm := (b4.cell (by exact hbb3)).trans cbm; have hcw4 : w4.cell? ⟨g, m, none⟩ = some (.string (sat (turnS b) m)) := (hbl4.cell m).trans (H0.out.2 m (by have := HM.out; omega)); have hfw4 := hbl4.frozen m; clear tok1))
      all_goals
        have z4 := b4.size
        have K0' := K0.far (p := ⟨g, m, none⟩) (by show w.heap.size ≠ g; omega) (.string (addC (sat b m) (sat a 0)))
        have K1' := K1.far (p := ⟨g, m, none⟩) (by show w.heap.size + 1 ≠ g; omega) (.string (addC (sat b m) (sat a 0)))
        have K2' := K2.far (p := ⟨g, m, none⟩) (by show w.heap.size + 1 + 1 ≠ g; omega) (.string (addC (sat b m) (sat a 0)))
        have K3' := K3.far (p := ⟨g, m, none⟩) (by show w.heap.size + 1 + 1 + 1 ≠ g; omega) (.string (addC (sat b m) (sat a 0)))
        have hbl5 := hbl4.set_ m (.string (addC (sat b m) (sat a 0)))
        have hB5 := (bel_trans HB3.out b4).setCell (p := ⟨g, m, none⟩) (by show w.heap.size ≤ g; omega) (.string (addC (sat b m) (sat a 0)))
        have hws : (w4.setCell ⟨g, m, none⟩ (.string (addC (sat b m) (sat a 0)))).heap.size = w4.heap.size := by simp
        clear c0 c1 ca0 cbm hcw4 hfw4 K0 K1 K2 K3 hbl4 hblk
        obtain ⟨c0, -⟩ := K0'.one
        go_wp2_with fail
        generalize hW5 : w4.setCell ⟨g, m, none⟩ (.string (addC (sat b m) (sat a 0))) = W5 at *
        clear hW5
        refine (turnedOnce_any _ a _ (HU.out.bel hB5) HE.out.1).mono ?_
        rintro e w6 ⟨r6, rfl, ho6, hb6⟩
        have own5 := own_casc (base := w.heap.size + 1 + 1 + 1 + 1) HJ.out (by omega) hbl5 hlcap hcm (by rw [List.length_set]; exact H0.out.1) (casc_set HM.out.symm (by rw [H0.out.1]; exact hlcap) H0.out.2)
        have hgl := hbl5.lt
        have k25 := K2'.lt
        replace K2' := K2'.below hb6 K2'.lt
        replace K3' := K3'.below hb6 K3'.lt
        obtain ⟨c2, f2⟩ := K2'.one
        obtain ⟨c3, f3⟩ := K3'.one
        have hlow := fun k hk => (ho6.lt k hk).1
        have HF := Lib.hid (And.intro (ho6.lower (base' := w.heap.size + 1 + 1 + 1 + 1) (by omega)) (And.intro (own5.bel hb6) (And.intro (bel_trans hB5 hb6) hlow)))
        obtain ⟨A6, c6, rfl, -, -, -⟩ := ho6.strs.open_
        generalize hp : (turnS a).length = p at *
        clear hp ho6 own5 hb6 hB5 hlow
        go_wp2
        refine bodyPost_ret (v := .tuple #[.agg #[.slice A6 p c6], .agg #[.slice (some ⟨g, 0, none⟩) b.length cap], .bool true]) (by simp [results, Try.results59, go_sem, c2, c3]) rfl ⟨_, _, by rw [HJ.out], ?_, ?_, ?_, ?_⟩
        · rw [HY.out.1]; exact ((HF.out.1.setCell _ _ (by simp)).setCell _ _ (by simp)).lower (by omega)
        · rw [HY.out.2]; exact ((HF.out.2.1.setCell _ _ (by simp)).setCell _ _ (by simp)).lower (by omega)
        · intro k h1 h2
          have q1 := HF.out.2.2.2 k h1
          simp [Value.ownBlock] at h2
          omega
        · exact (HF.out.2.2.1.setCell (by simp; omega) _).setCell (by simp; omega) _

end Go.Proofs.Yteemhhgioljmaaa
