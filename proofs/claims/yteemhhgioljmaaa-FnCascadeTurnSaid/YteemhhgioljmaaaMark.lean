/-
  Contracts of markText, markStringS, heldStringS, szStringS.
-/
import Derived.Test.YteemhhgioljmaaaEng
import Derived.Laws.BytesArg
import Derived.Deep.RegionLaw
import Derived.Deep.RegionWith
import Derived.Deep.DrawnRows
namespace Go.Proofs.Yteemhhgioljmaaa
open Go.RowKit
set_option linter.unusedVariables false
set_option maxRecDepth 100000
attribute [local go_sem ↓] Go.wp_at_zero Go.wp_at_succ

theorem Try.conv1 (z : Int) (W : World) : (convert 22 9 (.slice (some ⟨W.heap.size, 0, none⟩) 1 1)).run Try.prog (W.alloc (.cells #[.int .u8 z] 5)) = .ok (.string (strOfNums [z])) (W.alloc (.cells #[.int .u8 z] 5)) :=
  run_convert_bytes_arg (P := Try.prog) _ 22 5 Try.underlying22 Try.underlying5 W.heap.size 0 1 1 [z] rfl (fun i hi => by
    obtain rfl : i = 0 := by omega
    exact new_cell W _ (.int .u8 z)) 9 Try.underlying9

/-- The digits of a number, ahead of a text. -/
def digs (k : Nat) (t : ByteArray) : ByteArray := if h : k = 0 then t else digs (k / 10) (strOfNums [48 + (k : Int) % 10] ++ t)
termination_by k
decreasing_by omega
theorem digs_zero (t : ByteArray) : digs 0 t = t := by rw [digs]; simp
theorem digs_pos {k : Nat} (h : ¬ k = 0) (t : ByteArray) : digs k t = digs (k / 10) (strOfNums [48 + (k : Int) % 10] ++ t) := by rw [digs]; simp [h]
theorem digs_size : ∀ (k : Nat) (t : ByteArray), (digs k t).size ≤ k + t.size := by
  intro k
  induction k using Nat.strongRecOn with
  | _ k ih =>
    intro t
    by_cases h : k = 0
    · subst h; rw [digs_zero]; omega
    · rw [digs_pos h]
      have := ih (k / 10) (by omega) (strOfNums [48 + (k : Int) % 10] ++ t)
      rw [ByteArray.size_append, strOfNums_size] at this
      simp at this
      omega
def mt (k : Nat) : ByteArray := if k = 0 then ⟨#[109, 48]⟩ else ⟨#[109]⟩ ++ digs k ByteArray.empty
theorem mt_size (k : Nat) : (mt k).size ≤ k + 2 := by
  unfold mt
  split
  · simp [ByteArray.size]
  · rw [ByteArray.size_append]
    have h1 := digs_size k ByteArray.empty
    have h2 : ByteArray.empty.size = 0 := rfl
    have h3 : (⟨#[109]⟩ : ByteArray).size = 1 := rfl
    omega

set_option maxHeartbeats 1000000 in
theorem markText_any (k : Nat) (w : World) (hk : k ≤ 10000000) :
    Calls Try.prog 177 #[.int .i64 k] w fun e w' => e = .returned (.string (mt k)) ∧ Below w.heap.size w w' := by
  by_cases h0 : k = 0
  · subst h0
    go_enter Try.func177, Try.ntmps177
    go_wp2
    go_ret
    exact ⟨rfl, Below.refl _ _⟩
  · have hcv := Try.conv1
    go_enter Try.func177, Try.ntmps177
    go_wp2
    go_loopw [0, 3] (fun n s wr => ∃ (j : Nat) (t : ByteArray), n = .int .i64 j ∧ t.size + j ≤ k ∧ s = .string t ∧ digs j t = digs k ByteArray.empty ∧ Below w.heap.size w wr) (fun n _ _ => (intOf n).toNat)
    case atStart => exact ⟨k, ByteArray.empty, rfl, by simp, rfl, rfl, Below.refl _ _⟩
    case round =>
      obtain ⟨j, t, rfl, hj, rfl, hd, hb⟩ := hrel
      have HD := Lib.hid (And.intro hd hb)
      have hz := hb.size
      clear hd hb
      by_cases hj0 : j = 0
      · subst hj0
        clear hcv
        go_wp2
        go_ret
        refine ⟨?_, HD.out.2⟩
        have := HD.out.1
        rw [digs_zero] at this
        rw [mt, if_neg h0, ← this]
        rfl
      · have hsz : (strOfNums [48 + (j : Int) % 10]).size = 1 := strOfNums_size _
        go_wp2
        go_roundw
        case rel => exact ⟨j / 10, _, by go_num, by rw [ByteArray.size_append, strOfNums_size]; simp; omega, rfl, by rw [← digs_pos hj0]; exact HD.out.1, HD.out.2.alloc hz _⟩
        case measure => simp [intOf]; omega

/-- The marks k, k + 1, .. as texts. -/
def marksS (k n : Nat) : List ByteArray := genS (fun i => mt (k + i)) n
theorem marksS_length (k n : Nat) : (marksS k n).length = n := genS_length _ _
theorem at_marksS {k n j : Nat} (h : j < n) : sat (marksS k n) j = mt (k + j) := at_genS h
theorem wf_marksS {k n : Nat} (h : k + n ≤ 9223372036854775) : WfS (marksS k n) := wf_genS fun j hj => by have := mt_size (k + j); omega

set_option maxHeartbeats 1000000 in
theorem markStringS_any (v : Value) (l : List ByteArray) (k : Nat) (base : Nat) (w : World) (hv : OwnS w base v l) (h1 : k + l.length ≤ 10000000) :
    Calls Try.prog 137 #[v, .int .i64 k] w fun e w' => e = .returned (.int .i64 ((k + l.length : Nat) : Int)) ∧ w.grownBy w' v.ownBlock ∧ OwnS w' base v (marksS k l.length) := by
  rcases hv.form with ⟨rfl, rfl⟩ | ⟨g, cap, cs, rfl, hg, hblk, hlc, hcm, hcl, hcs⟩
  · go_enter Try.func137, Try.ntmps137
    go_wp2
    go_loop [1, 5] (fun a i => a = .int .i64 k ∧ i = .int .i64 0) (fun _ _ => 0)
    case atStart => exact ⟨rfl, rfl⟩
    case round =>
      obtain ⟨rfl, rfl⟩ := hrel
      go_wp2
      go_ret
      exact ⟨ret_int (by simp), World.grownBy.refl w _, hv⟩
  · go_enter Try.func137, Try.ntmps137
    go_wp2
    go_loopw [1, 5] (fun a i wr => ∃ (n : Nat) (cs : List Value), n ≤ l.length ∧ a = .int .i64 ((k + n : Nat) : Int) ∧ i = .int .i64 n ∧ Blk wr g 9 cs ∧ cs.length = cap ∧ (∀ j, j < n → cs[j]? = some (.string (mt (k + j)))) ∧ w.grownBy wr (some g))
      (fun _ i _ => l.length - (intOf i).toNat)
    case atStart => exact ⟨0, cs, Nat.zero_le _, by simp, rfl, hblk, hcl, fun j hj => absurd hj (by omega), World.grownBy.refl w _⟩
    case round =>
      clear hblk hcl hcs cs
      obtain ⟨n, cs, hn, rfl, rfl, hblk, hcl, hcs, hgr⟩ := hrel
      have H := Lib.hid (And.intro hcl (And.intro hcs (And.intro hgr hblk)))
      clear hcl hcs hgr hblk
      by_cases hlt : n < l.length
      · go_wp2_with fail
        refine (markText_any (k + n) _ (by omega)).mono ?_
        rintro e w2 ⟨rfl, hb2⟩
        have hblk2 := H.out.2.2.2.below hb2 H.out.2.2.2.lt
        have hcw : w2.cell? ⟨g, n, none⟩ = some (cs[n]'(by rw [H.out.1]; omega)) := by rw [hblk2.cell]; exact List.getElem?_eq_getElem _
        have hfw := hblk2.frozen n
        have H2 := Lib.hid (And.intro hblk2 (only_below H.out.2.2.1 hb2))
        clear hblk2 hb2
        go_wp2
        go_roundw
        case rel =>
          refine ⟨n + 1, _, by omega, by go_num, by go_num, H2.out.1.set_ n _, by rw [List.length_set]; exact H.out.1, fun j hj => ?_, only_setCell H2.out.2 (.inl rfl) _⟩
          by_cases e : j = n
          · subst e; rw [List.getElem?_set_self (by rw [H.out.1]; omega)]
          · rw [List.getElem?_set_ne (by omega)]; exact H.out.2.1 j (by omega)
        case measure => simp [intOf]; omega
      · have hnl : n = l.length := by omega
        subst hnl
        go_wp2
        go_ret
        have ho : OwnS wr base (.slice (some ⟨g, 0, none⟩) (marksS k l.length).length cap) (marksS k l.length) :=
          OwnS.mk' hg H.out.2.2.2 (by rw [marksS_length]; exact hlc) hcm H.out.1 (fun j hj => by rw [marksS_length] at hj; rw [at_marksS hj]; exact H.out.2.1 j hj) (wf_marksS (by omega))
        rw [marksS_length] at ho
        exact ⟨rfl, H.out.2.2.1, ho⟩

set_option maxHeartbeats 1000000 in
theorem heldStringS_any (v : Value) (n k : Nat) (w : World) (hv : Strs w v (marksS k n)) (h1 : k + n ≤ 10000000) :
    Calls Try.prog 138 #[v, .int .i64 k] w fun e w' => e = .returned (.int .i64 ((k + n : Nat) : Int)) ∧ Below w.heap.size w w' := by
  obtain ⟨A, c, rfl, hlc, hc, hrd⟩ := hv.open_
  have HR := Lib.hid hrd
  have HL := Lib.hid (marksS_length k n)
  clear hrd hv
  rw [HL.out] at hlc ⊢
  go_enter Try.func138, Try.ntmps138
  go_wp2
  go_loopw [1, 5] (fun a i wr => ∃ m : Nat, m ≤ n ∧ a = .int .i64 ((k + m : Nat) : Int) ∧ i = .int .i64 m ∧ Below w.heap.size w wr) (fun _ i _ => n - (intOf i).toNat)
  case atStart => exact ⟨0, Nat.zero_le _, by simp, rfl, Below.refl _ _⟩
  case round =>
    obtain ⟨m, hm, rfl, rfl, hb⟩ := hrel
    have H := Lib.hid hb
    by_cases hlt : m < n
    · obtain ⟨b, o, rfl, hbb, hcell⟩ := HR.out.strs (by rw [HL.out]; omega)
      have hck := (hb.cell (by exact hbb)).trans (hcell m (by rw [HL.out]; exact hlt))
      rw [at_marksS hlt] at hck
      have he : (!(mt (k + m)).toList == (mt (k + m)).toList) = false := by simp
      have hbw : b < wr.drew.heap.size := by have := hb.size; simp; omega
      have hck0 : wr.drew.cell? ⟨b, o + m, none⟩ = some (.string (mt (k + m))) := hck
      have H0 := Lib.hid (show Below w.heap.size w wr.drew from hb.drew)
      clear hb hcell hck
      go_wp2_with fail
      go_region_law (first | (go_simp; go_at_call 177; refine (markText_any (k + m) _ (by omega)).mono ?_; rintro e w2 ⟨rfl, hb2⟩; have hck2 := (hb2.cell (by exact hbw)).trans hck0; have H2 := Lib.hid (bel_trans H0.out hb2); clear hb2 hck0))
      all_goals
        go_wp2
        go_roundw
        case rel => exact ⟨m + 1, by omega, by go_num, by go_num, H2.out⟩
        case measure => simp [intOf]; omega
    · have hmn : m = n := by omega
      subst hmn
      clear hb
      go_wp2
      go_ret
      exact ⟨rfl, H.out⟩

/-- What is left of a bound, behind a list of texts. -/
def szTo (l : List ByteArray) (left : Int) : Nat → Int
  | 0 => left - l.length
  | n + 1 => szTo l left n - (sat l n).size
theorem szTo_le (l : List ByteArray) (left : Int) : ∀ n, szTo l left n ≤ left - l.length
  | 0 => Int.le_refl _
  | n + 1 => by have := szTo_le l left n; rw [szTo]; omega
set_option maxHeartbeats 1000000 in
theorem szStringS_any (v : Value) (l : List ByteArray) (left : Int) (w : World) (hv : Strs w v l) (h0 : 0 ≤ left) (h1 : left ≤ 1048576) :
    Calls Try.prog 129 #[v, .int .i64 left] w fun e w' => ∃ r : Int, e = .returned (.int .i64 r) ∧ (r = -1 ∨ 0 ≤ r ∧ r + l.length ≤ left) ∧ w = w' := by
  obtain ⟨A, c, rfl, hlc, hc, hrd⟩ := hv.open_
  have HR := Lib.hid hrd
  have HW := Lib.hid hv.2
  clear hrd hv
  by_cases hbig : left - (l.length : Int) < 0
  · go_enter Try.func129, Try.ntmps129
    go_wp2
    go_ret
    exact ⟨_, rfl, .inl rfl, rfl⟩
  · go_enter Try.func129, Try.ntmps129
    go_wp2
    go_loop [1, 5] (fun a i => ∃ m : Nat, m ≤ l.length ∧ ∃ z : Int, a = .int .i64 z ∧ 0 ≤ z ∧ z + l.length ≤ left ∧ i = .int .i64 m) (fun _ i => l.length - (intOf i).toNat)
    case atStart => exact ⟨0, Nat.zero_le _, left - l.length, by first | rfl | go_num, by omega, by omega, rfl⟩
    case round =>
      obtain ⟨m, hm, z, rfl, z0, z1, rfl⟩ := hrel
      by_cases hlt : m < l.length
      · obtain ⟨b, o, rfl, hbb, hcell⟩ := HR.out.strs (by omega)
        have hck := hcell m hlt
        have hs := HW.out.at _ m
        clear hcell
        by_cases hneg : z - ((sat l m).size : Int) < 0
        · go_wp2
          go_ret
          exact ⟨_, rfl, .inl rfl, rfl⟩
        · go_wp2
          go_round
          case rel => exact ⟨m + 1, by omega, z - (sat l m).size, by first | rfl | go_num, by omega, by omega, by go_num⟩
          case measure => simp [intOf]; omega
      · have hmn : m = l.length := by omega
        subst hmn
        go_wp2
        go_ret
        exact ⟨z, rfl, .inr ⟨z0, z1⟩, rfl⟩

end Go.Proofs.Yteemhhgioljmaaa
