/-
  Texts of lists of numbers: l2Text, joinNumbers.
-/
import Derived.Test.YtpniljcnknknoaaGreatDoorDec
import Derived.Test.YtpniljcnknknoaaGreatDoorShelf
import Derived.Lib.SmallJoins
import Derived.Lib.AppendIntMem
namespace Go.Proofs.YtpniljcnknknoaaGreatDoor
open Go.RowKit
set_option linter.unusedVariables false
set_option linter.unusedSimpArgs false
set_option maxRecDepth 100000

/-- The library's table that Itoa reads lies as it was laid. -/
def Tab (w : World) : Prop := Lib.TabIs Tryz.prog w "internal/strconv.uint64pow10" .u64 Lib.pow10Tab
theorem Tab.bel {w w' : World} (h : Tab w) (hb : Below w.heap.size w w') : Tab w' :=
  match hg : Tryz.prog.globalNamed "internal/strconv.uint64pow10" with
  | some g => Joins.tab_stays hg h hb (Nat.le_refl _)
  | none => absurd h (by unfold Tab Lib.TabIs World.var?; rw [hg]; simp)
theorem itoa_any (n : Int) (w : World) (hn : -9223372036854775808 ≤ n ∧ n ≤ 9223372036854775807) (ht : Tab w) :
    Calls Tryz.prog 102 #[.int .i64 n] w fun e w' => e = .returned (.string (itoaS n)) ∧ Below w.heap.size w w' :=
  (Tryz.strconv_Itoa n hn.1 hn.2 w ht).mono fun e w' ⟨he, k, os, hw⟩ => ⟨he, by subst hw; exact Lib.below_grow _ _ (Nat.le_refl _) _ _⟩
/-- strings.Join of a slice that reads as texts. -/
def joinS (l : List ByteArray) (sep : ByteArray) : ByteArray := ⟨(Lib.join (l.map (·.data.toList)) sep.data.toList).toArray⟩
theorem lens_le {l : List ByteArray} {B : Nat} (h : ∀ s ∈ l, s.size ≤ B) : Lib.lens (l.map (·.data.toList)) ≤ B * l.length := by
  induction l with
  | nil => simp [Lib.lens]
  | cons x r ih =>
    have h1 := h x (by simp)
    have h2 := ih (fun s hs => h s (by simp [hs]))
    simp only [Lib.lens, List.map_cons, List.sum_cons, List.length_cons] at h2 ⊢
    rw [Nat.mul_succ]
    have : x.data.toList.length = x.size := by rw [Array.length_toList]; rfl
    omega
theorem join_len {l : List ByteArray} {sep : ByteArray} {B : Nat} (h : ∀ s ∈ l, s.size ≤ B) : (joinS l sep).size ≤ (sep.size + B) * l.length := by
  have e : (joinS l sep).size = (Lib.join (l.map (·.data.toList)) sep.data.toList).length := rfl
  rw [e]
  cases l with
  | nil => simp [Lib.join_nil]
  | cons x r =>
    rw [List.map_cons, Lib.join_length]
    have h1 := lens_le h
    rw [List.map_cons] at h1
    have : sep.data.toList.length = sep.size := by rw [Array.length_toList]; rfl
    rw [this, Nat.add_mul]
    have h2 : sep.size * (r.map (·.data.toList)).length ≤ sep.size * (x :: r).length := Nat.mul_le_mul_left _ (by simp)
    omega
theorem joins_any (v : Value) (l : List ByteArray) (sep : ByteArray) (w : World) (hv : Strs w v l) (hl : l.length ≤ 1048576) (B : Nat) (hB : ∀ s ∈ l, s.size ≤ B) (hb : B ≤ 1000000) (hs : sep.size ≤ 1000) :
    Calls Tryz.prog 53 #[v, .string sep] w fun e w' => e = .returned (.string (joinS l sep)) ∧ Below w.heap.size w w' := by
  obtain ⟨A, c, rfl, hlc, hc, hrd⟩ := hv.open_
  by_cases h0 : 0 < l.length
  · obtain ⟨b, o, rfl, hbb, hcell⟩ := hrd.strs h0
    have hj := join_len (sep := sep) hB
    have e : (joinS l sep).size = (Lib.join (l.map (·.data.toList)) sep.data.toList).length := rfl
    have hm : (sep.size + B) * l.length ≤ 1001000 * 1048576 := Nat.mul_le_mul (by omega) hl
    exact Tryz.strings_Join b o c l sep w (fun j x hx => by
      have hj : j < l.length := (List.getElem?_eq_some_iff.1 hx).1
      rw [hcell j hj, sat_eq _ _ hj, (List.getElem?_eq_some_iff.1 hx).2]) hbb (by omega) hlc (by omega)
  · have : l = [] := by cases l with | nil => rfl | cons _ _ => simp at h0
    subst this
    exact (Tryz.strings_Join_none A c sep w).mono fun e w' ⟨he, hw⟩ => ⟨he, by subst hw; exact Below.refl _ _⟩

/-- The numbers of a list in decimal, with single spaces between them. -/
def numsS (l : List Int) : ByteArray := joinS (l.map itoaS) ⟨#[32]⟩
theorem join_snoc (xs : List (List UInt8)) (x sep : List UInt8) : Lib.join (xs ++ [x]) sep = if xs = [] then x else Lib.join xs sep ++ sep ++ x := by
  cases xs with
  | nil => simp [Lib.join_one]
  | cons y r =>
    rw [List.cons_append, Lib.join_cons, Lib.join_cons, if_neg (by simp)]
    simp [Lib.joinTail, List.append_assoc]
theorem numsS_nil : numsS [] = ⟨#[]⟩ := rfl
theorem numsS_one (x : Int) : numsS ([] ++ [x]) = itoaS x := by
  unfold numsS joinS
  simp [Lib.join_one]
theorem numsS_snoc {l : List Int} (h : l ≠ []) (x : Int) : numsS (l ++ [x]) = numsS l ++ ⟨#[32]⟩ ++ itoaS x := by
  unfold numsS joinS
  rw [List.map_append, List.map_append, List.map_cons, List.map_nil, List.map_cons, List.map_nil, join_snoc, if_neg (by simpa using h)]
  apply ByteArray.ext
  apply Array.toList_inj.1
  simp
theorem numsS_size {l : List Int} (h : Wf l) : (numsS l).size ≤ 22 * l.length := by
  have := join_len (l := l.map itoaS) (sep := ⟨#[32]⟩) (B := 21) (fun s hs => by
    obtain ⟨n, hn, rfl⟩ := List.mem_map.1 hs
    exact itoaS_size (h n hn).1 (h n hn).2)
  rw [List.length_map] at this
  have e : (⟨#[32]⟩ : ByteArray).size = 1 := rfl
  rw [e] at this
  exact this
theorem take_snocI (l : List Int) {k : Nat} (h : k < l.length) : l.take (k + 1) = l.take k ++ [at_ l k] := by
  rw [List.take_succ_eq_append_getElem h, at_eq l k h]


set_option maxHeartbeats 1000000 in
theorem joinNumbers_any (v : Value) (l : List Int) (w : World) (hv : Ints w v l) (hl : l.length ≤ 1048576) (ht : Tab w) :
    Calls Tryz.prog 52 #[v] w fun e w' => e = .returned (.string (numsS l)) ∧ Below w.heap.size w w' := by
  have HW := Lib.hid hv.2
  have HT := Lib.hid ht
  obtain ⟨A, c, rfl, hlc, hc, hrd⟩ := hv.open_
  have HR := Lib.hid hrd
  have hmk := fun W => Tryz.mkStrs l.length (by omega) W
  clear hv hrd ht
  go_enter Tryz.func52, Tryz.ntmps52
  go_wp2
  go_loopw [11] (fun i wr => ∃ (k : Nat) (cs : List Value), k ≤ l.length ∧ i = .int .i64 k ∧ Blk wr w.heap.size 9 cs ∧ cs.length = l.length ∧ (∀ j, j < k → cs[j]? = some (.string (sat (l.map itoaS) j))) ∧ Below w.heap.size w wr)
    (fun i _ => l.length - (intOf i).toNat)
  case atStart => exact ⟨0, _, Nat.zero_le _, rfl, Blk.new _ _ _, reps_length _ _, fun j hj => absurd hj (by omega), (Below.refl _ _).alloc (Nat.le_refl _) _⟩
  case round =>
    obtain ⟨k, cs, hk, rfl, hblk, hcl, hcs, hb⟩ := hrel
    have H := Lib.hid (And.intro hcl (And.intro hcs hb))
    have HT2 := Lib.hid (HT.out.bel hb)
    have hz := hb.size
    clear hmk
    by_cases hlt : k < l.length
    · obtain ⟨b, o, rfl, hbb, hcell⟩ := HR.out.ints (by omega)
      have hck := (hb.cell (by exact hbb)).trans (hcell k hlt)
      have hx := HW.out.at _ k
      clear hcell hb hcl hcs
      go_wp2_with fail
      refine (itoa_any (at_ l k) _ hx HT2.out).mono ?_
      rintro e w2 ⟨rfl, b2⟩
      replace hblk := hblk.below b2 hblk.lt
      have hcw : w2.cell? ⟨w.heap.size, k, none⟩ = some (cs[k]'(by rw [H.out.1]; exact hlt)) := by rw [hblk.cell]; exact List.getElem?_eq_getElem _
      have hfw := hblk.frozen k
      have HB2 := Lib.hid (bel_trans H.out.2.2 b2)
      clear b2
      go_wp2
      go_roundw
      case rel =>
        have e1 : sat (l.map itoaS) k = itoaS (at_ l k) := by rw [sat_eq _ _ (by rw [List.length_map]; exact hlt), List.getElem_map, at_eq l k hlt]
        exact ⟨k + 1, _, by omega, by go_num, hblk.set_ k _, by rw [List.length_set]; exact H.out.1, by rw [← e1]; exact fun j hj => setToS (l := l.map itoaS) (by rw [List.length_map]; exact H.out.1) (by rw [List.length_map]; exact hlt) H.out.2.1 j hj, HB2.out.setCell (Nat.le_refl _) _⟩
      case measure => simp [intOf]; omega
    · have hkl : k = l.length := by omega
      subst hkl
      have e : cs = sv (l.map itoaS) := isSv (by rw [List.length_map]; exact H.out.1) (fun j hj => H.out.2.1 j (by rw [List.length_map] at hj; exact hj))
      have hwf : WfS (l.map itoaS) := fun s hs => by
        obtain ⟨n, hn, rfl⟩ := List.mem_map.1 hs
        have := itoaS_size (HW.out n hn).1 (HW.out n hn).2
        omega
      have ho := OwnS.mk' (l := l.map itoaS) (cap := l.length) (base := w.heap.size) (Nat.le_refl _) hblk (by rw [List.length_map]; exact Nat.le_refl _) (by omega) H.out.1 (fun j hj => H.out.2.1 j (by rw [List.length_map] at hj; exact hj)) hwf
      rw [List.length_map] at ho
      have HS := Lib.hid ho.strs
      clear hcl hcs hb ho hwf e
      go_wp2_with fail
      refine (joins_any _ (l.map itoaS) ⟨#[32]⟩ _ HS.out (by rw [List.length_map]; omega) 21 (fun s hs => by
        obtain ⟨n, hn, rfl⟩ := List.mem_map.1 hs
        exact itoaS_size (HW.out n hn).1 (HW.out n hn).2) (by omega) (by decide)).mono ?_
      rintro e w2 ⟨rfl, b2⟩
      have HB2 := Lib.hid (bel_trans H.out.2.2 b2)
      clear b2
      go_wp2
      go_ret
      exact ⟨rfl, HB2.out⟩

end Go.Proofs.YtpniljcnknknoaaGreatDoor
