/-
  Contracts of a turn: turnedOnce (impl) and l3Turn (spec).
-/
import Derived.Test.YthkpgcociklddaaCols
import Derived.Test.YthkpgcociklddaaEngLaw
import Derived.Deep.RegionLaw
import Derived.Deep.RegionWith
import Derived.Deep.DrawnRows
namespace Go.Proofs.Ythkpgcociklddaa
open Go.RowKit
set_option linter.unusedVariables false
set_option maxRecDepth 100000
attribute [local go_sem ↓] Go.wp_at_zero Go.wp_at_succ

/-- a turn half done: the first k columns are new. -/
def mixT (l : List ByteArray) (k j : Nat) : ByteArray := if j < k then sat (turnS l) j else sat l j
theorem mixT_zero (l : List ByteArray) (j : Nat) : mixT l 0 j = sat l j := by simp [mixT]
theorem mixT_end {l : List ByteArray} {k j : Nat} (hk : k + 1 = l.length) (hj : j < l.length) : mixT l k j = sat (turnS l) j := by
  unfold mixT
  split
  · rfl
  · rw [turnS_at hj, if_neg (by omega)]
theorem mixT_self (l : List ByteArray) (k : Nat) : mixT l k k = sat l k := by simp [mixT]
theorem mixT_set {l : List ByteArray} {k : Nat} {cs : List Value} (hk : k + 1 < l.length) (hc : l.length ≤ cs.length) (h : ∀ j, j < l.length → cs[j]? = some (.string (mixT l k j))) :
    ∀ j, j < l.length → (cs.set k (.string (addC (sat l k) (sat l (k + 1)))))[j]? = some (.string (mixT l (k + 1) j)) := by
  intro j hj
  by_cases e : j = k
  · subst e
    rw [List.getElem?_set_self (by omega)]
    unfold mixT
    rw [if_pos (by omega), turnS_at hj, if_pos hk]
  · rw [List.getElem?_set_ne (by omega), h j hj]
    unfold mixT
    by_cases h1 : j < k
    · rw [if_pos h1, if_pos (by omega)]
    · rw [if_neg h1, if_neg (by omega)]
theorem own_turn {w : World} {base g cap : Nat} {cs : List Value} {l : List ByteArray} {k : Nat} (ok : engOk l = true) (hk : k + 1 = l.length) (hg : base ≤ g) (hb : Blk w g 9 cs) (hl : l.length ≤ cap) (hc : cap ≤ 9223372036854775807) (hs : cs.length = cap)
    (h : ∀ j, j < l.length → cs[j]? = some (.string (mixT l k j))) : OwnS w base (.slice (some ⟨g, 0, none⟩) l.length cap) (turnS l) := by
  have := OwnS.mk' (l := turnS l) hg hb (by rw [turnS_length]; exact hl) hc hs (fun j hj => by rw [turnS_length] at hj; rw [h j hj, mixT_end hk hj]) (eng_wf (engOk_turn ok))
  rwa [turnS_length] at this

set_option maxHeartbeats 2000000 in
theorem turnedOnce_any (v : Value) (l : List ByteArray) (w : World) (hv : Strs w v l) (ok : engOk l = true) :
    Calls Try.prog 48 #[v] w fun e w' => ∃ r, e = .returned r ∧ OwnS w' w.heap.size r (turnS l) ∧ Below w.heap.size w w' := by
  have HV := Lib.hid hv
  obtain ⟨A, c, rfl, hlc, hc, hrd⟩ := hv.open_
  obtain ⟨l1, l7, hcol⟩ := engOk_iff.1 ok
  obtain ⟨b, o, rfl, hb, hcell⟩ := hrd.strs (by omega)
  have HC := Lib.hid hcell
  have HL := Lib.hid hcol
  have OK := Lib.hid ok
  clear hrd hv hcell hcol ok
  go_enter Try.func48, Try.ntmps48
  go_wp2_with fail
  refine (cloneS_any _ l _ HV.out (by omega)).mono ?_
  rintro e w1 ⟨r, rfl, ho, hb1⟩
  rcases ho.form with ⟨_, h0⟩ | ⟨g, cap, cs0, rfl, hg, hblk0, hlcap, hcm, hcl0, hcs0⟩
  · exfalso; rw [h0] at l1; simp at l1
  · have H0 := Lib.hid (And.intro hcl0 (And.intro hcs0 hb1))
    have hgz := Lib.hid hblk0.lt
    clear hcl0 hcs0 hb1 ho
    go_wp2_with fail
    go_loopw [4] (fun i wr => ∃ (k : Nat) (cs : List Value), k + 1 ≤ l.length ∧ i = .int .i64 k ∧ Blk wr g 9 cs ∧ cs.length = cap ∧ (∀ j, j < l.length → cs[j]? = some (.string (mixT l k j))) ∧ Below w.heap.size w wr)
      (fun i _ => l.length - (intOf i).toNat)
    case atStart => exact ⟨0, cs0, by omega, rfl, hblk0, H0.out.1, fun j hj => by rw [mixT_zero]; exact H0.out.2.1 j hj, H0.out.2.2⟩
    case round =>
      obtain ⟨k, cs, hk, rfl, hblk, hcl, hcs, hbel⟩ := hrel
      have H := Lib.hid (And.intro hcl (And.intro hcs hbel))
      clear hcl hcs hbel H0 hblk0
      by_cases hlt : k + 1 < l.length
      · have hck : wr.cell? ⟨b, o + k, none⟩ = some (.string (sat l k)) := (H.out.2.2.cell (by exact hb)).trans (HC.out k (by omega))
        have hck1 : wr.cell? ⟨b, o + (k + 1), none⟩ = some (.string (sat l (k + 1))) := (H.out.2.2.cell (by exact hb)).trans (HC.out (k + 1) hlt)
        have hcw : wr.cell? ⟨g, k, none⟩ = some (.string (sat l k)) := by rw [hblk.cell, H.out.2.1 k (by omega), mixT_self]
        have hp : (k : Int) + 1 < (l.length : Int) := by omega
        have hp0 : (0 : Int) ≤ (k : Int) + 1 := by omega
        have hwr : IntKind.i64.wrap ((k : Int) + 1) = (k : Int) + 1 := (by first | go_num | (rw [IntWalk.i64_in] <;> omega))
        have htn : ((k : Int) + 1).toNat = k + 1 := by omega
        have hk0 : k < l.length := by omega
        have hz := hblk.lt
        have tok1 : True := trivial
        go_wp2_with fail
        go_region_law (first
          | (go_simp; go_at_call 73; have _t := tok1; refine (implAdd_any _ _ _ (HL.out k hk0).1 (HL.out (k + 1) hlt).1 ((HL.out k hk0).2.trans (HL.out (k + 1) hlt).2.symm)).mono ?_; rintro e w2 ⟨rfl, b2⟩; replace b2 : Below wr.heap.size wr w2 := (by first | exact b2 | exact bel_trans ((Below.refl _ _).drew) b2); have hbl2 := hblk.below b2 hz; have hcw2 : w2.cell? ⟨g, k, none⟩ = some (.string (sat l k)) := (hbl2.cell k).trans ((H.out.2.1 k hk0).trans (by rw [mixT_self])); have hfw2 := hbl2.frozen k; clear tok1))
        all_goals
          go_wp2
          go_roundw
          case rel =>
            have hB := bel_trans (show Below w.heap.size w wr from H.out.2.2) b2
            refine ⟨k + 1, _, by omega, by go_num, (by first | exact hbl2.set_ k _ | exact hbl2.set_ k _), by rw [List.length_set]; exact H.out.1, mixT_set hlt (by rw [H.out.1]; exact hlcap) H.out.2.1, (by first | exact hB.setCell hg _ | exact (hB.setCell hg _).drew)⟩
          case measure => simp [intOf]; omega
      · go_wp2
        go_ret
        exact ⟨_, rfl, own_turn OK.out (by omega) hg hblk hlcap hcm H.out.1 H.out.2.1, H.out.2.2⟩

end Go.Proofs.Ythkpgcociklddaa
