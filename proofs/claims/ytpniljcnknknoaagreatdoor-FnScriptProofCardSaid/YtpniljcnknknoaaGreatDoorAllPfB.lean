import Derived.Test.YtpniljcnknknoaaGreatDoorAllShPj
import Derived.Lib.IndexMore
import Derived.Test.YtpniljcnknknoaaGreatDoorAllPfA
import Derived.Test.YtpniljcnknknoaaGreatDoorAllPlA
import Derived.Deep.RegionLaw
import Derived.Deep.RegionHeld3
import Derived.RangeFuncWrites
import Derived.RangeFuncNested
import Derived.RangeFuncBound
import Derived.RangeFuncCalls
import Derived.Test.YtpniljcnknknoaaGreatDoorBase
import Derived.Test.YtpniljcnknknoaaGreatDoorEngKit
import Derived.Test.YtpniljcnknknoaaGreatDoorShelf
import Derived.Shelf.Abstract
import Derived.Shelf.RegionOpen
import Derived.WalkKit
import Derived.OwnWalkIn
import Derived.TacticsInMore
import Derived.LoopNIn
import Derived.LoopIn
import Derived.Lib.SplitLaws
import Derived.Lib.CutLaws
import Derived.Test.YtpniljcnknknoaaGreatDoorTxt
import Derived.RangeFuncLeaves
/-
  strings.Cut at one byte.
-/
namespace Go.Proofs.YtpniljcnknknoaaGreatDoor
open Go.RowKit
set_option linter.unusedVariables false
set_option linter.unusedSimpArgs false
set_option maxRecDepth 100000

theorem index_one (c : UInt8) : ∀ (a r : List UInt8), c ∉ a → Lib.index (a ++ c :: r) [c] = (a.length : Int)
  | [], r, _ => by simp [Lib.index, List.isPrefixOf]
  | x :: a, r, h => by
    have hx : (c == x) = false := by rw [beq_eq_false_iff_ne]; intro e; subst e; exact h (by simp)
    have ih := index_one c a r (fun e => h (List.mem_cons_of_mem _ e))
    have : ((a.length : Int) == -1) = false := by rw [beq_eq_false_iff_ne]; omega
    simp [Lib.index, List.isPrefixOf, hx, ih, this]
theorem index_not (c : UInt8) : ∀ (a : List UInt8), c ∉ a → Lib.index a [c] = -1
  | [], _ => rfl
  | x :: a, h => by
    have hx : (c == x) = false := by rw [beq_eq_false_iff_ne]; intro e; subst e; exact h (by simp)
    have ih := index_not c a (fun e => h (List.mem_cons_of_mem _ e))
    simp [Lib.index, List.isPrefixOf, hx, ih]
theorem cut_at {c : UInt8} {a : List UInt8} (r : List UInt8) (h : c ∉ a) : Lib.cut (a ++ c :: r) [c] = (a, r, true) := by
  unfold Lib.cut
  rw [index_one c a r h, if_pos (by omega)]
  simp
theorem cut_not {c : UInt8} {a : List UInt8} (h : c ∉ a) : Lib.cut a [c] = (a, [], false) := by
  unfold Lib.cut
  rw [index_not c a h]
  rfl
theorem ba_self (s : ByteArray) : (⟨s.data.toList.toArray⟩ : ByteArray) = s := by
  apply ByteArray.ext
  apply Array.toList_inj.1
  simp
theorem cutYes_any (a r : ByteArray) (c : UInt8) (w : World) (hs : a.size + r.size ≤ 1048576) (ha : c ∉ a.data.toList) (hg : Glb w) :
    Calls Tryz.prog 127 #[.string (a ++ ⟨#[c]⟩ ++ r), .string ⟨#[c]⟩] w fun e w' => e = .returned (.tuple #[.string a, .string r, .bool true]) ∧ Below w.heap.size w w' := by
  obtain ⟨m, hm⟩ := hg.2.1
  refine (Tryz.strings_Cut _ ⟨#[c]⟩ m w (by rw [ByteArray.size_append, ByteArray.size_append]; have : (⟨#[c]⟩ : ByteArray).size = 1 := rfl; omega) hm).mono ?_
  have h := cut_at r.data.toList ha
  have e : (a ++ ⟨#[c]⟩ ++ r).data.toList = a.data.toList ++ c :: r.data.toList := by simp
  rw [e, show (⟨#[c]⟩ : ByteArray).data.toList = [c] from rfl, h]
  rintro e w' ⟨rfl, n, rfl⟩
  exact ⟨by rw [ba_self, ba_self], below_drewN (Below.refl _ _) n⟩
theorem cutNo_any (a : ByteArray) (c : UInt8) (w : World) (hs : a.size ≤ 1048576) (ha : c ∉ a.data.toList) (hg : Glb w) :
    Calls Tryz.prog 127 #[.string a, .string ⟨#[c]⟩] w fun e w' => e = .returned (.tuple #[.string a, .string ⟨#[]⟩, .bool false]) ∧ Below w.heap.size w w' := by
  obtain ⟨m, hm⟩ := hg.2.1
  refine (Tryz.strings_Cut a ⟨#[c]⟩ m w (by omega) hm).mono ?_
  rw [show (⟨#[c]⟩ : ByteArray).data.toList = [c] from rfl, cut_not ha]
  rintro e w' ⟨rfl, n, rfl⟩
  exact ⟨by rw [ba_self], below_drewN (Below.refl _ _) n⟩
end Go.Proofs.YtpniljcnknknoaaGreatDoor

/-
  Errata, plainly: which lists are errata, what they do to a table, their text and its reading.
-/
namespace Go.Proofs.YtpniljcnknknoaaGreatDoor
open Go.RowKit
set_option linter.unusedVariables false
set_option linter.unusedSimpArgs false
set_option maxRecDepth 100000

/-- The place ahead of an erratum's. -/
def etL (es : List Etm) (k : Nat) : Int := if k = 0 then -1 else (etAt es (k - 1)).1
def etK (es : List Etm) (k : Nat) : Bool := (decide (etL es k < (etAt es k).1) && decide ((etAt es k).1 < 60)) && ((inB (etAt es k).2.1 (-1000000000) 1000000000 && inB (etAt es k).2.2 (-1000000000) 1000000000) && decide ((etAt es k).2.1 ≠ (etAt es k).2.2))
def etsOk (es : List Etm) : Bool := decide (∀ k, k < es.length → etK es k = true)
theorem etsOk_iff {es : List Etm} : etsOk es = true ↔ ∀ k, k < es.length → etK es k = true := by unfold etsOk; exact decide_eq_true_iff
theorem ets_bad {es : List Etm} {k : Nat} (hk : k < es.length) (h : etK es k = false) : etsOk es = false := by
  rw [Bool.eq_false_iff]
  intro h2
  rw [etsOk_iff.1 h2 k hk] at h
  cases h
theorem etK_true {es : List Etm} {k : Nat} (h : etK es k = true) : etL es k < (etAt es k).1 ∧ (etAt es k).1 < 60 ∧ (-1000000000 ≤ (etAt es k).2.1 ∧ (etAt es k).2.1 ≤ 1000000000) ∧ (-1000000000 ≤ (etAt es k).2.2 ∧ (etAt es k).2.2 ≤ 1000000000) ∧ (etAt es k).2.1 ≠ (etAt es k).2.2 := by
  unfold etK at h
  rw [Bool.and_eq_true, Bool.and_eq_true, Bool.and_eq_true, Bool.and_eq_true] at h
  obtain ⟨⟨h1, h2⟩, ⟨h3, h4⟩, h5⟩ := h
  exact ⟨of_decide_eq_true h1, of_decide_eq_true h2, inB_true.1 h3, inB_true.1 h4, of_decide_eq_true h5⟩
theorem etK_ge {es : List Etm} : ∀ {k : Nat}, (∀ j, j ≤ k → etK es j = true) → (k : Int) ≤ (etAt es k).1
  | 0, h => by
    have := (etK_true (h 0 (Nat.le_refl _))).1
    unfold etL at this
    rw [if_pos rfl] at this
    omega
  | k + 1, h => by
    have ih := etK_ge (es := es) (k := k) (fun j hj => h j (by omega))
    have := (etK_true (h (k + 1) (Nat.le_refl _))).1
    unfold etL at this
    rw [if_neg (by omega), show k + 1 - 1 = k by omega] at this
    omega
theorem ets_len {es : List Etm} (h : etsOk es = true) : es.length ≤ 60 := by
  rcases Nat.lt_or_ge 60 es.length with h1 | h1
  · have h2 := etK_ge (es := es) (k := 60) (fun j hj => etsOk_iff.1 h j (by omega))
    have h3 := etK_true (etsOk_iff.1 h 60 h1)
    omega
  · exact h1
theorem ets_nil : etsOk [] = true := etsOk_iff.2 fun k hk => absurd hk (by simp)
/-- What an erratum tells of two tables, entry by entry. -/
def errAt (r p : List Int) (i : Nat) : Option Etm := if at_ r i = at_ p i then none else some ((i : Int), at_ p i, at_ r i)
def errTo (r p : List Int) (n : Nat) : List Etm := (List.range n).filterMap (errAt r p)
theorem errTo_succ (r p : List Int) (n : Nat) : errTo r p (n + 1) = errTo r p n ++ (if at_ r n = at_ p n then [] else [((n : Int), at_ p n, at_ r n)]) := by
  unfold errTo
  rw [List.range_succ, List.filterMap_append]
  congr 1
  unfold errAt
  by_cases h : at_ r n = at_ p n
  · simp [h]
  · simp [h]
theorem errTo_same {r p : List Int} {n : Nat} (h : at_ r n = at_ p n) : errTo r p (n + 1) = errTo r p n := by rw [errTo_succ, if_pos h, List.append_nil]
theorem errTo_diff {r p : List Int} {n : Nat} (h : at_ r n ≠ at_ p n) : errTo r p (n + 1) = errTo r p n ++ [((n : Int), at_ p n, at_ r n)] := by rw [errTo_succ, if_neg h]
theorem errTo_len (r p : List Int) (n : Nat) : (errTo r p n).length ≤ n := by
  unfold errTo
  have := List.length_filterMap_le (errAt r p) (List.range n)
  rwa [List.length_range] at this
/-- Errata of two tables that are alike in length. -/
def errOk (r p : List Int) : Bool := (tableOk r && tableOk p) && decide (r.length = p.length)
def errL (r p : List Int) : List Etm := if errOk r p = true then errTo r p r.length else []
/-- Errata applied. -/
def appTo (l : List Int) : List Etm → Option (List Int)
  | [] => some l
  | x :: r => if x.1 < (l.length : Int) ∧ at_ l x.1.toNat = x.2.1 then appTo (l.set x.1.toNat x.2.2) r else none
def apOk (l : List Int) (es : List Etm) : Bool := (tableOk l && etsOk es) && (appTo l es).isSome
def apL (l : List Int) (es : List Etm) : List Int := if apOk l es = true then (appTo l es).getD [] else []
theorem ap_yes {l m : List Int} {es : List Etm} (h1 : tableOk l = true) (h2 : etsOk es = true) (h3 : appTo l es = some m) : apOk l es = true ∧ apL l es = m := by
  have : apOk l es = true := by unfold apOk; rw [h1, h2, h3]; rfl
  exact ⟨this, by unfold apL; rw [if_pos this, h3]; rfl⟩
theorem ap_none {l : List Int} {es : List Etm} (h3 : appTo l es = none) : apOk l es = false ∧ apL l es = [] := by
  have : apOk l es = false := by unfold apOk; rw [h3]; simp
  exact ⟨this, by unfold apL; rw [this]; rfl⟩
theorem ap_tab {l : List Int} {es : List Etm} (h : tableOk l = false) : apOk l es = false ∧ apL l es = [] := by
  have : apOk l es = false := by unfold apOk; rw [h]; rfl
  exact ⟨this, by unfold apL; rw [this]; rfl⟩
theorem ap_ets {l : List Int} {es : List Etm} (h : etsOk es = false) : apOk l es = false ∧ apL l es = [] := by
  have : apOk l es = false := by unfold apOk; rw [h]; simp
  exact ⟨this, by unfold apL; rw [this]; rfl⟩
theorem et_drop {es : List Etm} {k : Nat} (h : k < es.length) : es.drop k = etAt es k :: es.drop (k + 1) := by rw [List.drop_eq_getElem_cons h, etAt_eq h]
theorem app_step {l m : List Int} {es : List Etm} {k : Nat} {R : Option (List Int)} (hk : k < es.length) (h : appTo l (es.drop k) = R) (h1 : (etAt es k).1 < (l.length : Int)) (h2 : at_ l (etAt es k).1.toNat = (etAt es k).2.1) : appTo (l.set (etAt es k).1.toNat (etAt es k).2.2) (es.drop (k + 1)) = R := by
  rw [et_drop hk, appTo, if_pos ⟨h1, h2⟩] at h
  exact h
theorem app_stop {l : List Int} {es : List Etm} {k : Nat} {R : Option (List Int)} (hk : k < es.length) (h : appTo l (es.drop k) = R) (h1 : ¬ ((etAt es k).1 < (l.length : Int) ∧ at_ l (etAt es k).1.toNat = (etAt es k).2.1)) : R = none := by
  rw [et_drop hk, appTo, if_neg h1] at h
  exact h.symm
/-- The text of an erratum, and of errata. -/
def etS (x : Etm) : ByteArray := itoaS x.1 ++ ⟨#[58]⟩ ++ itoaS x.2.1 ++ ⟨#[62]⟩ ++ itoaS x.2.2
def etsS (es : List Etm) : ByteArray := if etsOk es = true then (if es = [] then ⟨#[45]⟩ else joinS (es.map etS) ⟨#[59]⟩) else ⟨#[]⟩
theorem ba_eqT {a b : ByteArray} (h : a.data.toList = b.data.toList) : a = b := ByteArray.ext (Array.toList_inj.1 h)
theorem tw_no (c : UInt8) : ∀ l : List UInt8, c ∉ l.takeWhile fun b => b != c
  | [] => by simp
  | b :: l => by
    rw [List.takeWhile_cons]
    by_cases h : b = c
    · simp [h]
    · have e : (b != c) = true := by simp [h]
      rw [e]
      intro h2
      rcases List.mem_cons.1 h2 with h3 | h3
      · exact h h3.symm
      · exact tw_no c l h3
theorem tw_all {p : UInt8 → Bool} : ∀ {l : List UInt8}, (∀ b ∈ l, p b = true) → l.takeWhile p = l ∧ l.dropWhile p = []
  | [], _ => ⟨rfl, rfl⟩
  | b :: l, h => by
    obtain ⟨h1, h2⟩ := tw_all (l := l) (fun x hx => h x (List.mem_cons_of_mem _ hx))
    rw [List.takeWhile_cons, List.dropWhile_cons, h b (List.mem_cons_self)]
    simp [h1, h2]
/-- A text ahead of its first byte c, and behind it. -/
def bef (c : UInt8) (s : ByteArray) : ByteArray := baL (s.data.toList.takeWhile fun b => b != c)
def aft (c : UInt8) (s : ByteArray) : ByteArray := baL ((s.data.toList.dropWhile fun b => b != c).drop 1)
def hasB (c : UInt8) (s : ByteArray) : Bool := s.data.toList.any fun b => b == c
theorem hasB_iff {c : UInt8} {s : ByteArray} : hasB c s = true ↔ c ∈ s.data.toList := by
  unfold hasB
  rw [List.any_eq_true]
  constructor
  · rintro ⟨x, hx, h⟩
    have : x = c := by simpa using h
    exact this ▸ hx
  · intro h
    exact ⟨c, h, by simp⟩
theorem bef_no (c : UInt8) (s : ByteArray) : c ∉ (bef c s).data.toList := by
  intro h
  unfold bef at h
  rw [data_baL] at h
  exact tw_no c _ h
theorem cut_here (c : UInt8) : ∀ {l : List UInt8}, c ∈ l → (l.takeWhile fun b => b != c) ++ c :: (l.dropWhile fun b => b != c).drop 1 = l
  | [], h => by simp at h
  | b :: l, h => by
    by_cases hb : b = c
    · subst hb
      simp
    · have h2 : c ∈ l := by
        rcases List.mem_cons.1 h with e | e
        · exact absurd e.symm hb
        · exact e
      have ih := cut_here c h2
      have e : (b != c) = true := by simp [hb]
      rw [List.takeWhile_cons, List.dropWhile_cons, e]
      simp only [if_true]
      rw [List.cons_append, ih]
theorem bef_aft {c : UInt8} {s : ByteArray} (h : hasB c s = true) : bef c s ++ ⟨#[c]⟩ ++ aft c s = s := by
  apply ba_eqT
  have h2 := cut_here c (hasB_iff.1 h)
  have e1 : (bef c s).data.toList = s.data.toList.takeWhile fun b => b != c := data_baL _
  have e2 : (aft c s).data.toList = (s.data.toList.dropWhile fun b => b != c).drop 1 := data_baL _
  have : (bef c s ++ ⟨#[c]⟩ ++ aft c s).data.toList = (bef c s).data.toList ++ c :: (aft c s).data.toList := by simp
  rw [this, e1, e2, h2]
theorem bef_none {c : UInt8} {s : ByteArray} (h : hasB c s = false) : bef c s = s ∧ aft c s = ⟨#[]⟩ := by
  have hn : ∀ b ∈ s.data.toList, (b != c) = true := by
    intro b hb
    rw [bne_iff_ne]
    rintro rfl
    rw [hasB_iff.2 hb] at h
    cases h
  constructor
  · unfold bef
    rw [(tw_all hn).1, baL_data]
  · unfold aft
    have : (s.data.toList.dropWhile fun b => b != c) = [] := (tw_all hn).2
    rw [this]
    rfl
theorem bef_app {c : UInt8} {a : ByteArray} (r : ByteArray) (h : c ∉ a.data.toList) : bef c (a ++ ⟨#[c]⟩ ++ r) = a ∧ aft c (a ++ ⟨#[c]⟩ ++ r) = r ∧ hasB c (a ++ ⟨#[c]⟩ ++ r) = true := by
  have e : (a ++ ⟨#[c]⟩ ++ r).data.toList = a.data.toList ++ c :: r.data.toList := by simp
  have hn : ∀ b ∈ a.data.toList, (b != c) = true := by
    intro b hb
    rw [bne_iff_ne]
    rintro rfl
    exact h hb
  refine ⟨?_, ?_, hasB_iff.2 (by rw [e]; simp)⟩
  · unfold bef
    rw [e, List.takeWhile_append_of_pos hn]
    simp [baL_data]
  · unfold aft
    rw [e, List.dropWhile_append_of_pos hn]
    simp [baL_data]
theorem bef_size (c : UInt8) (s : ByteArray) : (bef c s).size + (aft c s).size ≤ s.size := by
  cases h : hasB c s
  · obtain ⟨h1, h2⟩ := bef_none h
    rw [h1, h2]
    exact Nat.le_refl _
  · have h1 := congrArg ByteArray.size (bef_aft h)
    rw [ByteArray.size_append, ByteArray.size_append] at h1
    omega
theorem cutAny_any (s : ByteArray) (c : UInt8) (w : World) (hs : s.size ≤ 1048576) (hg : Glb w) :
    Calls Tryz.prog 127 #[.string s, .string ⟨#[c]⟩] w fun e w' => e = .returned (.tuple #[.string (bef c s), .string (aft c s), .bool (hasB c s)]) ∧ Below w.heap.size w w' := by
  cases h : hasB c s
  · obtain ⟨h1, h2⟩ := bef_none h
    rw [h1, h2]
    exact cutNo_any s c w hs (fun e => by rw [hasB_iff.2 e] at h; cases h) hg
  · have h1 := bef_aft h
    have h2 := congrArg ByteArray.size h1
    rw [ByteArray.size_append, ByteArray.size_append] at h2
    have := cutYes_any (bef c s) (aft c s) c w (by omega) (bef_no c s) hg
    rw [h1] at this
    exact this
/-- An erratum's text, read. -/
def etA1 (s : ByteArray) : ByteArray := bef 58 s
def etA2 (s : ByteArray) : ByteArray := bef 62 (aft 58 s)
def etA3 (s : ByteArray) : ByteArray := aft 62 (aft 58 s)
def etT (s : ByteArray) : Bool := ((numT (etA1 s)).isSome && (numT (etA2 s)).isSome) && (numT (etA3 s)).isSome
def etV (s : ByteArray) : Etm := (numV (etA1 s), numV (etA2 s), numV (etA3 s))
theorem numT_empty : numT ⟨#[]⟩ = none := by decide
theorem etS_etV {s : ByteArray} (h : etT s = true) : etS (etV s) = s := by
  unfold etT at h
  rw [Bool.and_eq_true, Bool.and_eq_true] at h
  obtain ⟨⟨h1, h2⟩, h3⟩ := h
  unfold etS etV
  simp only
  rw [itoaS_numV h1, itoaS_numV h2, itoaS_numV h3]
  unfold etA1 etA2 etA3 at *
  have k2 : hasB 62 (aft 58 s) = true := by
    cases hq : hasB 62 (aft 58 s)
    · rw [(bef_none hq).2, numT_empty] at h3; cases h3
    · rfl
  have k1 : hasB 58 s = true := by
    cases hq : hasB 58 s
    · rw [(bef_none hq).2] at k2; exact absurd k2 (by decide)
    · rfl
  have e1 := bef_aft k1
  have e2 := bef_aft k2
  have : bef 58 s ++ ⟨#[58]⟩ ++ bef 62 (aft 58 s) ++ ⟨#[62]⟩ ++ aft 62 (aft 58 s) = bef 58 s ++ ⟨#[58]⟩ ++ (bef 62 (aft 58 s) ++ ⟨#[62]⟩ ++ aft 62 (aft 58 s)) := by
    apply ba_eqT
    simp
  rw [this, e2, e1]
theorem etV_etS {x : Etm} (h1 : -100000000000000000 < x.1 ∧ x.1 < 100000000000000000) (h2 : -100000000000000000 < x.2.1 ∧ x.2.1 < 100000000000000000) (h3 : -100000000000000000 < x.2.2 ∧ x.2.2 < 100000000000000000) : etT (etS x) = true ∧ etV (etS x) = x := by
  have e : etS x = itoaS x.1 ++ ⟨#[58]⟩ ++ (itoaS x.2.1 ++ ⟨#[62]⟩ ++ itoaS x.2.2) := by
    unfold etS
    apply ba_eqT
    simp
  obtain ⟨a1, a2, -⟩ := bef_app (c := 58) (a := itoaS x.1) (itoaS x.2.1 ++ ⟨#[62]⟩ ++ itoaS x.2.2) (itoaS_no 58 (by decide) (by decide) _)
  obtain ⟨b1, b2, -⟩ := bef_app (c := 62) (a := itoaS x.2.1) (itoaS x.2.2) (itoaS_no 62 (by decide) (by decide) _)
  have k1 : etA1 (etS x) = itoaS x.1 := by unfold etA1; rw [e, a1]
  have k2 : etA2 (etS x) = itoaS x.2.1 := by unfold etA2; rw [e, a2, b1]
  have k3 : etA3 (etS x) = itoaS x.2.2 := by unfold etA3; rw [e, a2, b2]
  have n1 := numT_of h1.1 h1.2
  have n2 := numT_of h2.1 h2.2
  have n3 := numT_of h3.1 h3.2
  constructor
  · unfold etT
    rw [k1, k2, k3, n1, n2, n3]
    rfl
  · unfold etV numV
    rw [k1, k2, k3, n1, n2, n3]
    rfl
/-- A text of errata, read. -/
def peAll (l : List ByteArray) : Bool := l.all etT
def peOk (t : ByteArray) : Bool := decide (t = ⟨#[45]⟩) || (peAll (cutS 59 t) && etsOk ((cutS 59 t).map etV))
def peL (t : ByteArray) : List Etm := if t = ⟨#[45]⟩ then [] else if peOk t = true then (cutS 59 t).map etV else []
theorem etV_in (s : ByteArray) : etIn (etV s) := by
  have h1 := numV_bd (etA1 s)
  have h2 := numV_bd (etA2 s)
  have h3 := numV_bd (etA3 s)
  refine ⟨?_, ?_, ?_⟩ <;> (unfold etV; simp only; omega)
theorem ets_text {t : ByteArray} (h : peAll (cutS 59 t) = true) : joinS (((cutS 59 t).map etV).map etS) ⟨#[59]⟩ = t := by
  rw [List.map_map]
  have : (cutS 59 t).map (etS ∘ etV) = cutS 59 t := by
    conv => rhs; rw [← List.map_id (cutS 59 t)]
    apply List.map_congr_left
    intro x hx
    exact etS_etV (List.all_eq_true.1 h x hx)
  rw [this]
  exact joinS_cut 59 t
/-- Valid errata are read back from their text. -/
theorem et_small {es : List Etm} (h : etsOk es = true) : ∀ x ∈ es, (0 ≤ x.1 ∧ x.1 < 60) ∧ (-1000000000 ≤ x.2.1 ∧ x.2.1 ≤ 1000000000) ∧ (-1000000000 ≤ x.2.2 ∧ x.2.2 ≤ 1000000000) := by
  intro x hx
  obtain ⟨k, hk, rfl⟩ := List.getElem_of_mem hx
  have h1 := etK_true (etsOk_iff.1 h k hk)
  have h2 := etK_ge (es := es) (k := k) (fun j hj => etsOk_iff.1 h j (by omega))
  rw [etAt_eq hk] at h1 h2
  exact ⟨⟨by omega, h1.2.1⟩, h1.2.2.1, h1.2.2.2.1⟩
theorem pe_back {es : List Etm} (h : etsOk es = true) : peOk (etsS es) = true ∧ peL (etsS es) = es := by
  unfold etsS
  rw [if_pos h]
  by_cases he : es = []
  · rw [if_pos he, he]
    exact ⟨by unfold peOk; simp, by unfold peL; simp⟩
  · rw [if_neg he]
    have hs := et_small h
    cases es with
    | nil => exact absurd rfl he
    | cons x r =>
      have hc : cutS 59 (joinS ((x :: r).map etS) ⟨#[59]⟩) = (x :: r).map etS := by
        rw [List.map_cons]
        apply cutS_join
        intro p hp
        rw [← List.map_cons] at hp
        obtain ⟨y, -, rfl⟩ := List.mem_map.1 hp
        have i1 := itoaS_no 59 (by decide) (by decide) y.1
        have i2 := itoaS_no 59 (by decide) (by decide) y.2.1
        have i3 := itoaS_no 59 (by decide) (by decide) y.2.2
        have e : (etS y).data.toList = (itoaS y.1).data.toList ++ 58 :: ((itoaS y.2.1).data.toList ++ 62 :: (itoaS y.2.2).data.toList) := by unfold etS; simp
        rw [e]
        intro q
        rcases List.mem_append.1 q with q | q
        · exact i1 q
        · rcases List.mem_cons.1 q with q | q
          · exact absurd q (by decide)
          · rcases List.mem_append.1 q with q | q
            · exact i2 q
            · rcases List.mem_cons.1 q with q | q
              · exact absurd q (by decide)
              · exact i3 q
      have hb : ∀ y ∈ x :: r, etT (etS y) = true ∧ etV (etS y) = y := fun y hy => by
        obtain ⟨q1, q2, q3⟩ := hs y hy
        exact etV_etS (by omega) (by omega) (by omega)
      have hm : ((x :: r).map etS).map etV = x :: r := by
        rw [List.map_map]
        conv => rhs; rw [← List.map_id (x :: r)]
        apply List.map_congr_left
        intro y hy
        exact (hb y hy).2
      have ha : peAll ((x :: r).map etS) = true := by
        unfold peAll
        rw [List.all_eq_true]
        intro y hy
        obtain ⟨z, hz, rfl⟩ := List.mem_map.1 hy
        exact (hb z hz).1
      have hne : joinS ((x :: r).map etS) ⟨#[59]⟩ ≠ ⟨#[45]⟩ := by
        intro e
        rw [e] at hc
        have : cutS 59 ⟨#[45]⟩ = [⟨#[45]⟩] := by decide
        rw [this] at hc
        have h2 := (hb x (by simp)).1
        rw [List.map_cons] at hc
        injection hc with h3 h4
        rw [← h3] at h2
        exact absurd h2 (by decide)
      have hp : peOk (joinS ((x :: r).map etS) ⟨#[59]⟩) = true := by
        unfold peOk
        rw [hc, ha, hm, h]
        simp
      exact ⟨hp, by unfold peL; rw [if_neg hne, if_pos hp, hc, hm]⟩
end Go.Proofs.YtpniljcnknknoaaGreatDoor

/-
  Errata (impl): errataValid, ErrataOf, ApplyErrata.
-/
namespace Go.Proofs.YtpniljcnknknoaaGreatDoor
open Go.RowKit
set_option linter.unusedVariables false
set_option linter.unusedSimpArgs false
set_option maxRecDepth 100000
attribute [local go_sem ↓] Go.wp_at_zero Go.wp_at_succ

theorem Blk.three {w : World} {g : Nat} {t : TypeId} {a b c : Value} (h : Blk w g t [a, b, c]) : w.cell? ⟨g, 0, none⟩ = some a ∧ w.cell? ⟨g, 1, none⟩ = some b ∧ w.cell? ⟨g, 2, none⟩ = some c :=
  ⟨by rw [h.cell]; rfl, by rw [h.cell]; rfl, by rw [h.cell]; rfl⟩
theorem etK_of {es : List Etm} {k : Nat} {L P W R : Int} (hL : etL es k = L) (h1 : (etAt es k).1 = P) (h2 : (etAt es k).2.1 = W) (h3 : (etAt es k).2.2 = R) :
    etK es k = ((decide (L < P) && decide (P < 60)) && ((inB W (-1000000000) 1000000000 && inB R (-1000000000) 1000000000) && decide (W ≠ R))) := by
  unfold etK
  rw [hL, h1, h2, h3]
set_option maxHeartbeats 4000000 in
theorem errVal_any (v : Value) (es : List Etm) (w : World) (hv : EtR w v es) :
    Calls Tryz.prog 113 #[v] w fun e w' => e = .returned (.bool (etsOk es)) ∧ Below w.heap.size w w' := by
  obtain ⟨A, c, rfl, hlc, hc, hrd, hin⟩ := hv
  have HRD := Lib.hid hrd
  have HIN := Lib.hid hin
  clear hrd hin
  go_enter Tryz.func113, Tryz.ntmps113
  go_wp2
  go_loopw [3, 8] (fun s i wr => ∃ k : Nat, k ≤ es.length ∧ i = .int .i64 k ∧ s = .int .i64 (etL es k) ∧ (∀ j, j < k → etK es j = true) ∧ Below w.heap.size w wr) (fun _ i _ => es.length - (intOf i).toNat)
  case atStart => exact ⟨0, Nat.zero_le _, rfl, rfl, fun j hj => absurd hj (by omega), Below.refl _ _⟩
  case round =>
    obtain ⟨k, hk, rfl, rfl, hall, hb⟩ := hrel
    have H := Lib.hid (And.intro hall hb)
    have hz := hb.size
    clear hall hb
    by_cases hlt : k < es.length
    · obtain ⟨b, o, rfl, hbb, hcell⟩ := HRD.out (by omega)
      obtain ⟨e0, e1, e2⟩ := hcell k hlt
      have y0 := (H.out.2.cell (p := ⟨b, o + k * 3, none⟩) hbb).trans e0
      have y1 := (H.out.2.cell (p := ⟨b, o + k * 3 + 1, none⟩) hbb).trans e1
      have y2 := (H.out.2.cell (p := ⟨b, o + k * 3 + 2, none⟩) hbb).trans e2
      obtain ⟨i1, i2, i3⟩ := HIN.out k hlt
      have HBAD := Lib.hid (fun h => ets_bad (es := es) hlt h)
      have HALL := Lib.hid (fun h => toSucc H.out.1 (show (fun j => etK es j = true) k from h))
      have HNX := Lib.hid (show etL es (k + 1) = (etAt es k).1 by unfold etL; rw [if_neg (by omega)]; rfl)
      obtain ⟨P, hP⟩ : ∃ P, (etAt es k).1 = P := ⟨_, rfl⟩
      obtain ⟨W, hW⟩ : ∃ W, (etAt es k).2.1 = W := ⟨_, rfl⟩
      obtain ⟨R, hR⟩ : ∃ R, (etAt es k).2.2 = R := ⟨_, rfl⟩
      obtain ⟨L, hL⟩ : ∃ L, etL es k = L := ⟨_, rfl⟩
      have HK := Lib.hid (etK_of hL hP hW hR)
      rw [hP] at y0 i1 HNX
      rw [hW] at y1 i2
      rw [hR] at y2 i3
      rw [hL]
      clear hP hW hR hL e0 e1 e2 hcell
      have K5 := Blk.new wr 127 [.int .i64 P, .int .i64 W, .int .i64 R]
      have BX := Lib.hid (bel_trans H.out.2 (bel_alloc wr (.cells #[.int .i64 P, .int .i64 W, .int .i64 R] 127)))
      obtain ⟨t0, t1, t2⟩ := K5.three
      clear K5
      by_cases c1 : P ≤ L
      · have HZ := Lib.hid (HBAD.out (by rw [HK.out, decide_eq_false (show ¬ L < P by omega)]; rfl))
        go_wp2
        go_ret
        exact ⟨by rw [HZ.out]; rfl, BX.out⟩
      · by_cases c2 : 60 ≤ P
        · have HZ := Lib.hid (HBAD.out (by rw [HK.out, decide_eq_false (show ¬ P < 60 by omega)]; simp))
          go_wp2
          go_ret
          exact ⟨by rw [HZ.out]; rfl, BX.out⟩
        · cases hw1 : inB W (-1000000000) 1000000000
          · have HZ := Lib.hid (HBAD.out (by rw [HK.out, hw1]; simp))
            go_wp2_with (first
              | (go_at_call 110; refine (within_any W 1000000000 _ (by omega) (by omega)).mono ?_; rw [hw1]; rintro e w' ⟨rfl, rfl⟩))
            go_ret
            exact ⟨by rw [HZ.out]; rfl, BX.out⟩
          · cases hw2 : inB R (-1000000000) 1000000000
            · have HZ := Lib.hid (HBAD.out (by rw [HK.out, hw1, hw2]; simp))
              go_wp2_with fail
              refine (within_any W 1000000000 _ (by omega) (by omega)).mono ?_
              rw [hw1]
              rintro e w' ⟨rfl, rfl⟩
              go_wp2_with fail
              refine (within_any R 1000000000 _ (by omega) (by omega)).mono ?_
              rw [hw2]
              rintro e w' ⟨rfl, rfl⟩
              go_wp2
              go_ret
              exact ⟨by rw [HZ.out]; rfl, BX.out⟩
            · by_cases hWR : W = R
              · have HZ := Lib.hid (HBAD.out (by rw [HK.out, decide_eq_false (show ¬ W ≠ R from fun h => h hWR)]; simp))
                have z1 : (W == R) = true := by simp [hWR]
                clear hWR
                go_wp2_with fail
                refine (within_any W 1000000000 _ (by omega) (by omega)).mono ?_
                rw [hw1]
                rintro e w' ⟨rfl, rfl⟩
                go_wp2_with fail
                refine (within_any R 1000000000 _ (by omega) (by omega)).mono ?_
                rw [hw2]
                rintro e w' ⟨rfl, rfl⟩
                go_wp2
                go_ret
                exact ⟨by rw [HZ.out]; rfl, BX.out⟩
              · have HZ := Lib.hid (HALL.out (by rw [HK.out, hw1, hw2, decide_eq_true (show L < P by omega), decide_eq_true (show P < 60 by omega), decide_eq_true (show W ≠ R from hWR)]; rfl))
                have z1 : (W == R) = false := by simp [hWR]
                clear hWR
                go_wp2_with fail
                refine (within_any W 1000000000 _ (by omega) (by omega)).mono ?_
                rw [hw1]
                rintro e w' ⟨rfl, rfl⟩
                go_wp2_with fail
                refine (within_any R 1000000000 _ (by omega) (by omega)).mono ?_
                rw [hw2]
                rintro e w' ⟨rfl, rfl⟩
                go_wp2
                go_roundw
                case rel => exact ⟨k + 1, hlt, by go_num, by rw [HNX.out], HZ.out, BX.out⟩
                case measure => simp [intOf]; omega
    · obtain rfl : k = es.length := by omega
      have HS := Lib.hid (show etsOk es = true from etsOk_iff.2 H.out.1)
      go_wp2
      go_ret
      exact ⟨by rw [HS.out]; rfl, H.out.2⟩
set_option maxHeartbeats 1000000 in
theorem tabAlike_any (v u : Value) (r p : List Int) (w : World) (hv : Ints w v r) (hu : Ints w u p) :
    Calls Tryz.prog 112 #[v, u] w fun e w' => e = .returned (.bool (errOk r p)) ∧ w = w' := by
  have HV := Lib.hid hv
  have HU := Lib.hid hu
  obtain ⟨A, c, rfl, -, -, -⟩ := hv.open_
  obtain ⟨B, d, rfl, -, -, -⟩ := hu.open_
  clear hv hu
  go_enter Tryz.func112, Tryz.ntmps112
  cases h1 : tableOk r
  · have HZ := Lib.hid (show errOk r p = false by unfold errOk; rw [h1]; rfl)
    go_wp2_with fail
    refine (implTable_any _ r _ HV.out).mono ?_
    rw [h1]
    rintro e w' ⟨rfl, rfl⟩
    go_wp2
    go_ret
    exact ⟨by rw [HZ.out]; rfl, rfl⟩
  · cases h2 : tableOk p
    · have HZ := Lib.hid (show errOk r p = false by unfold errOk; rw [h1, h2]; rfl)
      go_wp2_with fail
      refine (implTable_any _ r _ HV.out).mono ?_
      rw [h1]
      rintro e w' ⟨rfl, rfl⟩
      go_wp2_with fail
      refine (implTable_any _ p _ HU.out).mono ?_
      rw [h2]
      rintro e w' ⟨rfl, rfl⟩
      go_wp2
      go_ret
      exact ⟨by rw [HZ.out]; rfl, rfl⟩
    · have HZ := Lib.hid (show errOk r p = decide (r.length = p.length) by unfold errOk; rw [h1, h2]; rfl)
      go_wp2_with fail
      refine (implTable_any _ r _ HV.out).mono ?_
      rw [h1]
      rintro e w' ⟨rfl, rfl⟩
      go_wp2_with fail
      refine (implTable_any _ p _ HU.out).mono ?_
      rw [h2]
      rintro e w' ⟨rfl, rfl⟩
      by_cases hl : r.length = p.length
      · have hl1 : ((r.length : Int) == (p.length : Int)) = true := by simp [hl]
        have HL := Lib.hid hl
        clear hl
        go_wp2
        go_ret
        exact ⟨by rw [HZ.out, decide_eq_true HL.out]; first | rfl | simp [HL.out], rfl⟩
      · have hl1 : ((r.length : Int) == (p.length : Int)) = false := by simp; omega
        have HL := Lib.hid hl
        clear hl
        go_wp2
        go_ret
        exact ⟨by rw [HZ.out, decide_eq_false HL.out]; first | rfl | simp [HL.out], rfl⟩
theorem etIn_mk {a b c : Int} (h1 : -9223372036854775808 ≤ a ∧ a ≤ 9223372036854775807) (h2 : -9223372036854775808 ≤ b ∧ b ≤ 9223372036854775807) (h3 : -9223372036854775808 ≤ c ∧ c ≤ 9223372036854775807) : etIn (a, b, c) := ⟨h1, h2, h3⟩
/-- Errata of the call's own, and a bool. -/
def EtQ (w : World) (es : List Etm) (q : Bool) (e : Ending) (w' : World) : Prop := ∃ r, e = .returned (.tuple #[r, .bool q]) ∧ EtO w' w.heap.size r es ∧ Below w.heap.size w w'
set_option maxHeartbeats 4000000 in
theorem implErr_any (v u : Value) (r p : List Int) (w : World) (hv : Ints w v r) (hu : Ints w u p) :
    Calls Tryz.prog 43 #[v, u] w (EtQ w (errL r p) (errOk r p)) := by
  have HV := Lib.hid hv
  have HU := Lib.hid hu
  obtain ⟨A, c, rfl, hlc, hc, hrd⟩ := hv.open_
  obtain ⟨B, d, rfl, hld, hd, hrd2⟩ := hu.open_
  have HA := Lib.hid (tabAlike_any _ _ r p w hv hu)
  clear hv hu
  go_enter Tryz.func43, Tryz.ntmps43
  cases hq : errOk r p
  · have HZ := Lib.hid (show errL r p = [] by unfold errL; rw [hq]; rfl)
    go_wp2_with fail
    refine HA.out.mono ?_
    rw [hq]
    rintro e w1 ⟨rfl, rfl⟩
    go_wp2
    go_ret2
    exact ⟨_, rfl, by rw [HZ.out]; exact EtO.nil_ _ _, Below.refl _ _⟩
  · have HZ := Lib.hid (show errL r p = errTo r p r.length by unfold errL; rw [hq]; rfl)
    obtain ⟨hlen, hin⟩ : r.length = p.length ∧ (r.length ≤ 60 ∧ (∀ k, k < r.length → -1000000000 ≤ at_ r k ∧ at_ r k ≤ 1000000000) ∧ ∀ k, k < r.length → -1000000000 ≤ at_ p k ∧ at_ p k ≤ 1000000000) := by
      unfold errOk at hq
      rw [Bool.and_eq_true, Bool.and_eq_true] at hq
      obtain ⟨⟨h1, h2⟩, h3⟩ := hq
      have h3 := of_decide_eq_true h3
      have t1 := tableOk_true h1
      have t2 := tableOk_true h2
      exact ⟨h3, t1.2.1, t1.2.2, fun k hk => t2.2.2 k (by omega)⟩
    have h60 := hin.1
    have HIN := Lib.hid hin
    have HLN := Lib.hid hlen
    have HR1 := Lib.hid hrd
    have HR2 := Lib.hid hrd2
    clear hlen hin hrd hrd2
    go_wp2_with fail
    refine HA.out.mono ?_
    rw [hq]
    rintro e w1 ⟨rfl, rfl⟩
    clear hq
    go_wp2
    go_loopw [6, 14] (fun s i wr => ∃ k : Nat, k ≤ r.length ∧ i = .int .i64 k ∧ EtO wr w.heap.size s (errTo r p k) ∧ Below w.heap.size w wr) (fun _ i _ => r.length - (intOf i).toNat)
    case atStart => exact ⟨0, Nat.zero_le _, rfl, EtO.nil_ _ _, Below.refl _ _⟩
    case round =>
      obtain ⟨k, hk, rfl, ho, hb⟩ := hrel
      have H := Lib.hid (And.intro ho hb)
      have hz := hb.size
      obtain ⟨A3, c3, rfl⟩ := ho.open_
      have hle := errTo_len r p k
      clear ho hb
      by_cases hlt : k < r.length
      · have hltp : k < p.length := by have := HLN.out; omega
        obtain ⟨b, o, rfl, hbb, hcell⟩ := HR1.out.ints (by omega)
        obtain ⟨b2, o2, rfl, hbb2, hcell2⟩ := HR2.out.ints (by omega)
        have q1 := hcell k hlt
        have q2 := hcell2 k hltp
        have D := Lib.hid (And.intro q1 q2)
        have c1 := (H.out.2.cell hbb).trans q1
        have c2 := (H.out.2.cell hbb2).trans q2
        have p1 : (k : Int) < (r.length : Int) := by omega
        have p2 : (k : Int) < (p.length : Int) := by omega
        have p3 : (0 : Int) ≤ (k : Int) := by omega
        have i1 := HIN.out.2.1 k hlt
        have i2 := HIN.out.2.2 k hlt
        have HS := Lib.hid (fun h => errTo_same (r := r) (p := p) (n := k) h)
        have HD := Lib.hid (fun h => errTo_diff (r := r) (p := p) (n := k) h)
        obtain ⟨es, hes⟩ : ∃ es, errTo r p k = es := ⟨_, rfl⟩
        obtain ⟨X, hX⟩ : ∃ X, at_ r k = X := ⟨_, rfl⟩
        obtain ⟨Y, hY⟩ : ∃ Y, at_ p k = Y := ⟨_, rfl⟩
        rw [hes] at H hle HS HD
        rw [hX] at c1 i1 D HS HD
        rw [hY] at c2 i2 D HS HD
        rw [hes]
        clear hes hX hY hcell hcell2 q1 q2
        go_wp2
        go_quiet (fail)
        have BQ := Lib.hid (below_drewN (Below.refl wr.heap.size wr) nq)
        have H1 := Lib.hid (And.intro (H.out.1.bel BQ.out) (bel_trans H.out.2 BQ.out))
        replace c1 := (H1.out.2.cell hbb).trans D.out.1
        replace c2 := (H1.out.2.cell hbb2).trans D.out.2
        have hz1 := H1.out.2.size
        obtain ⟨w1, hw1⟩ : ∃ w1, wr.drewN nq = w1 := ⟨_, rfl⟩
        rw [hw1] at H1 c1 c2 hz1 ⊢
        clear hw1 BQ H
        by_cases hxy : X = Y
        · have HN := Lib.hid (HS.out hxy)
          have z1 : (X != Y) = false := by simp [hxy]
          clear hxy
          go_wp2
          go_roundw
          case rel => exact ⟨k + 1, hlt, by go_num, by rw [HN.out]; exact H1.out.1, H1.out.2⟩
          case measure => simp [intOf]; omega
        · have HN := Lib.hid (HD.out hxy)
          have z1 : (X != Y) = true := by simp [hxy]
          have HE := Lib.hid (etIn_mk (a := (k : Int)) (b := Y) (c := X) ⟨by omega, by omega⟩ ⟨by omega, by omega⟩ ⟨by omega, by omega⟩)
          have hl1 : es.length + 1 ≤ 1048576 := by omega
          have hbr1 : b < w1.heap.size := by omega
          have hbr2 : b2 < w1.heap.size := by omega
          have tok1 : True := trivial
          clear hxy
          go_wp2_with fail
          go_region_held3 (fun w' => w'.cell? ⟨b, o + k, none⟩ = some (.int .i64 X) ∧ w'.cell? ⟨b2, o2 + k, none⟩ = some (.int .i64 Y)) (first | exact ⟨c1, c2⟩ | exact ⟨(B5.cell (by exact hbb)).trans D.out.1, (B5.cell (by exact hbb2)).trans D.out.2⟩ | exact ⟨((bel_alloc _ _).cell (by exact hbr1)).trans c1, ((bel_alloc _ _).cell (by exact hbr2)).trans c2⟩ | go_keep) (first
            | (have _t := tok1; go_loud (refine step_app_et rfl (.tmp 26) (.tmp 37) (by rfl) w.heap.size _ es (by rfl) (by first | exact H1.out.1.bel (bel_alloc _ _) | exact H1.out.1.bel ((bel_alloc _ _).drew) | exact H1.out.1.bel (((Below.refl _ _).drew).alloc (Nat.le_refl _) _)) _ _ ((k : Int), Y, X) (by rfl) (by first | exact Blk.newG _ _ [.int .i64 (k : Int), .int .i64 Y, .int .i64 X] _ rfl | exact Blk.newG _ _ [.int .i64 (k : Int), .int .i64 Y, .int .i64 X] _ (by simp)) HE.out hl1 (by first | (simp; omega) | omega) ?_; intro A5 c5 w5 ho hg; have B5 : Below w.heap.size w w5 := (by first | exact app_etG (bel_trans H1.out.2 (bel_alloc _ _)) (H1.out.1.bel (bel_alloc _ _)) hg | exact app_etG (bel_trans H1.out.2 ((bel_alloc _ _).drew)) (H1.out.1.bel ((bel_alloc _ _).drew)) hg | exact app_etG (bel_trans H1.out.2 (((Below.refl _ _).drew).alloc (Nat.le_refl _) _)) (H1.out.1.bel (((Below.refl _ _).drew).alloc (Nat.le_refl _) _)) hg); clear tok1))
            | fail)
          go_wp2
          go_roundw
          case rel => exact ⟨k + 1, hlt, by go_num, by rw [HN.out]; exact ho, B5⟩
          case measure => simp [intOf]; omega
      · obtain rfl : k = r.length := by omega
        go_wp2
        go_ret2
        exact ⟨_, rfl, by rw [HZ.out]; exact H.out.1, H.out.2⟩
end Go.Proofs.YtpniljcnknknoaaGreatDoor

/-
  Errata (impl): ApplyErrata.
-/
namespace Go.Proofs.YtpniljcnknknoaaGreatDoor
open Go.RowKit
set_option linter.unusedVariables false
set_option linter.unusedSimpArgs false
set_option maxRecDepth 100000
attribute [local go_sem ↓] Go.wp_at_zero Go.wp_at_succ

set_option maxHeartbeats 4000000 in
theorem implApp_any (v u : Value) (l : List Int) (es : List Etm) (w : World) (hv : Ints w v l) (hu : EtR w u es) :
    Calls Tryz.prog 205 #[v, u] w (IntsQ w (apL l es) (apOk l es)) := by
  have HV := Lib.hid hv
  have HU := Lib.hid hu
  obtain ⟨A, c, rfl, hlc, hc, -⟩ := hv.open_
  obtain ⟨B, d, rfl, hld, hd, hrd, hin⟩ := hu
  have HRD := Lib.hid hrd
  have HIN := Lib.hid hin
  clear hv hrd hin
  go_enter Tryz.func205, Tryz.ntmps205
  cases ht : tableOk l
  · have HZ := Lib.hid (ap_tab (l := l) (es := es) ht)
    go_wp2_with fail
    refine (implTable_any _ l _ HV.out).mono ?_
    rw [ht]
    rintro e w1 ⟨rfl, rfl⟩
    go_wp2
    go_ret2
    exact ⟨_, by rw [HZ.out.1]; rfl, by rw [HZ.out.2]; exact Own.nil_ _ _, Below.refl _ _⟩
  · cases he : etsOk es
    · have HZ := Lib.hid (ap_ets (l := l) (es := es) he)
      go_wp2_with fail
      refine (implTable_any _ l _ HV.out).mono ?_
      rw [ht]
      rintro e w1 ⟨rfl, rfl⟩
      go_wp2_with fail
      refine (errVal_any _ es _ HU.out).mono ?_
      rw [he]
      rintro e w2 ⟨rfl, b2⟩
      have HB := Lib.hid b2
      clear b2
      go_wp2
      go_ret2
      exact ⟨_, by rw [HZ.out.1]; rfl, by rw [HZ.out.2]; exact Own.nil_ _ _, HB.out⟩
    · have HT := Lib.hid (And.intro ht he)
      obtain ⟨t1, t60, -⟩ := tableOk_true ht
      have HSM := Lib.hid (show ∀ k, k < es.length → 0 ≤ (etAt es k).1 ∧ (-1000000000 ≤ (etAt es k).2.2 ∧ (etAt es k).2.2 ≤ 1000000000) from fun k hk => by
        have := et_small he (etAt es k) (by rw [etAt_eq hk]; exact List.getElem_mem hk)
        exact ⟨this.1.1, this.2.2⟩)
      go_wp2_with fail
      refine (implTable_any _ l _ HV.out).mono ?_
      rw [ht]
      rintro e w1 ⟨rfl, rfl⟩
      go_wp2_with fail
      refine (errVal_any _ es _ HU.out).mono ?_
      rw [he]
      rintro e w2 ⟨rfl, b2⟩
      have HB := Lib.hid b2
      clear b2 ht he
      go_wp2_with fail
      refine (clone_any _ l _ (HV.out.bel HB.out) (by omega)).mono ?_
      rintro e w3 ⟨r, rfl, o3, b3⟩
      obtain ⟨g, cap, rfl, hg1, -, -, -, -⟩ := o3.openN (by omega)
      have HO := Lib.hid (o3.lower HB.out.size)
      have HB3 := Lib.hid (bel_trans HB.out b3)
      have hg3 : w.heap.size ≤ g := Nat.le_trans HB.out.size hg1
      obtain ⟨N, hN⟩ : ∃ N, l.length = N := ⟨_, rfl⟩
      have HNN := Lib.hid hN
      rw [hN] at HO t1 t60
      clear o3 b3 hg1
      go_wp2
      try rw [hN]
      clear hN
      go_loopw [21] (fun i wr => ∃ (k : Nat) (cur : List Int), k ≤ es.length ∧ i = .int .i64 k ∧ cur.length = N ∧ Own wr w.heap.size (.slice (some ⟨g, 0, none⟩) N cap) cur ∧ appTo cur (es.drop k) = appTo l es ∧ Below w.heap.size w wr) (fun i _ => es.length - (intOf i).toNat)
      case atStart => exact ⟨0, l, Nat.zero_le _, rfl, HNN.out, HO.out, rfl, HB3.out⟩
      case round =>
        obtain ⟨k, cur, hk, rfl, hcl, ho, ha, hb⟩ := hrel
        have H := Lib.hid (And.intro hcl (And.intro ho (And.intro ha hb)))
        have hz := hb.size
        clear hcl ho ha hb
        by_cases hlt : k < es.length
        · obtain ⟨b, o, rfl, hbb, hcell⟩ := HRD.out (by omega)
          obtain ⟨e0, e1, e2⟩ := hcell k hlt
          have y0 := (H.out.2.2.2.cell (p := ⟨b, o + k * 3, none⟩) hbb).trans e0
          have y1 := (H.out.2.2.2.cell (p := ⟨b, o + k * 3 + 1, none⟩) hbb).trans e1
          have y2 := (H.out.2.2.2.cell (p := ⟨b, o + k * 3 + 2, none⟩) hbb).trans e2
          obtain ⟨i1, i2, i3⟩ := HIN.out k hlt
          have hp0 := (HSM.out k hlt).1
          have hR := (HSM.out k hlt).2
          have HSTEP := Lib.hid (fun h1 h2 => app_step (m := []) hlt H.out.2.2.1 h1 h2)
          have HSTOP := Lib.hid (fun h1 => app_stop hlt H.out.2.2.1 h1)
          rw [H.out.1] at HSTEP HSTOP
          obtain ⟨P, hP⟩ : ∃ P, (etAt es k).1 = P := ⟨_, rfl⟩
          obtain ⟨W, hW⟩ : ∃ W, (etAt es k).2.1 = W := ⟨_, rfl⟩
          obtain ⟨R, hR2⟩ : ∃ R, (etAt es k).2.2 = R := ⟨_, rfl⟩
          rw [hP] at y0 i1 hp0 HSTEP HSTOP
          rw [hW] at y1 i2 HSTEP HSTOP
          rw [hR2] at y2 i3 hR HSTEP
          clear hP hW hR2 e0 e1 e2 hcell
          have K5 := Blk.new wr 127 [.int .i64 P, .int .i64 W, .int .i64 R]
          have BX := Lib.hid (bel_trans H.out.2.2.2 (bel_alloc wr (.cells #[.int .i64 P, .int .i64 W, .int .i64 R] 127)))
          have HO5 := Lib.hid (H.out.2.1.bel (bel_alloc wr (.cells #[.int .i64 P, .int .i64 W, .int .i64 R] 127)))
          obtain ⟨t0, t1, t2⟩ := K5.three
          by_cases c1 : (N : Int) ≤ P
          · have HZ := Lib.hid (ap_none (l := l) (es := es) (HSTOP.out (fun h => by omega)))
            go_wp2_with fail
            go_quiet (fail)
            go_wp2
            go_ret2
            exact ⟨_, by rw [HZ.out.1]; rfl, by rw [HZ.out.2]; exact Own.nil_ _ _, below_drewN BX.out _⟩
          · obtain ⟨q, rfl⟩ : ∃ q : Nat, P = q := ⟨P.toNat, by omega⟩
            have hq : q < N := by omega
            rw [Int.toNat_natCast] at HSTEP HSTOP
            obtain ⟨g', cap', ev, -, -, -, -, hcells⟩ := HO5.out.openN (by rw [H.out.1]; omega)
            rw [H.out.1] at ev hcells
            injection ev with ev1 ev2 ev3
            injection ev1 with ev1
            injection ev1 with ev1
            subst ev1
            obtain ⟨x1, x2⟩ := hcells q hq
            have hglt : g < wr.heap.size := by have := (H.out.2.1.lt g rfl).2; exact this
            obtain ⟨X, hX⟩ : ∃ X, at_ cur q = X := ⟨_, rfl⟩
            rw [hX] at x1 HSTEP HSTOP
            have p1 : (q : Int) < (N : Int) := by omega
            have p2 : (0 : Int) ≤ (q : Int) := by omega
            clear hX hcells ev2 ev3
            by_cases hne : X = W
            · have HZ := Lib.hid (HSTEP.out p1 hne)
              have z1 : (X != W) = false := by simp [hne]
              clear hne
              go_wp2_with fail
              go_quiet (fail)
              have BQ := below_drewN (Below.refl (wr.alloc (.cells #[.int .i64 (q : Int), .int .i64 W, .int .i64 R] 127)).heap.size (wr.alloc (.cells #[.int .i64 (q : Int), .int .i64 W, .int .i64 R] 127))) nq
              have O6 := HO5.out.bel BQ
              have B6 := Lib.hid (bel_trans BX.out BQ)
              have K6 := K5.below BQ K5.lt
              obtain ⟨w6, hw6⟩ : ∃ w6, (wr.alloc (.cells #[.int .i64 (q : Int), .int .i64 W, .int .i64 R] 127)).drewN nq = w6 := ⟨_, rfl⟩
              rw [hw6] at O6 B6 K6 ⊢
              clear hw6 BQ t0 t1 t2 K5 x1 x2 HO5 BX y0 y1 y2
              obtain ⟨t0, t1, t2⟩ := K6.three
              obtain ⟨g', cap', ev, -, -, -, -, hcells⟩ := O6.openN (by rw [H.out.1]; omega)
              rw [H.out.1] at ev hcells
              injection ev with ev1 ev2 ev3
              injection ev1 with ev1
              injection ev1 with ev1
              subst ev1
              obtain ⟨x1, x2⟩ := hcells q hq
              have HS := Lib.hid (O6.set_ q R (by rw [H.out.1]; exact hq) (by omega))
              have B7 := Lib.hid (B6.out.setCell (p := ⟨g, q, none⟩) hg3 (.int .i64 R))
              clear hcells ev2 ev3 K6 O6
              go_wp2
              go_roundw
              case rel => exact ⟨k + 1, cur.set q R, hlt, by go_num, by rw [List.length_set]; exact H.out.1, HS.out, HZ.out, B7.out⟩
              case measure => simp [intOf]; omega
            · have HZ := Lib.hid (ap_none (l := l) (es := es) (HSTOP.out (fun h => hne h.2)))
              have z1 : (X != W) = true := by simp [hne]
              clear hne
              go_wp2_with fail
              go_quiet (fail)
              go_wp2
              go_ret2
              exact ⟨_, by rw [HZ.out.1]; rfl, by rw [HZ.out.2]; exact Own.nil_ _ _, below_drewN BX.out _⟩
        · obtain rfl : k = es.length := by omega
          have HZ := Lib.hid (ap_yes (l := l) (es := es) (m := cur) HT.out.1 HT.out.2 (by
            have := H.out.2.2.1
            rw [List.drop_length] at this
            exact this.symm))
          go_wp2
          go_ret2
          exact ⟨_, by rw [HZ.out.1]; rfl, by rw [HZ.out.2]; exact H.out.2.1, H.out.2.2.2⟩
end Go.Proofs.YtpniljcnknknoaaGreatDoor

/-
  A range over an iterator that keeps its state in a captured cell: its contract, and the loop's law (wide fence; over wpIn_rangeFunc and roundIn_of_wpIn).
-/
namespace Go.Proofs.YtpniljcnknknoaaGreatDoor
open Go.RowKit
set_option linter.unusedVariables false

/-- Abides new blocks, turns of block g, and turns of what is no cells at or beyond B. -/
def AbC (B g : Nat) (J : List ByteArray → World → Prop) : Prop :=
  ∀ s W W' row, J s W → W.grownBy W' row → (∀ r, row = some r → r = g ∨ (B ≤ r ∧ ∃ o : Obj, W.heap[r]? = some o ∧ o.isCells = false)) → J s W'
theorem AbC.put {B g : Nat} {J : List ByteArray → World → Prop} (h : AbC B g J) {s : List ByteArray} {W : World} {l : Nat} {o : Obj} (o' : Obj) (hs : J s W) (hB : B ≤ l) (hl : W.heap[l]? = some o) (ho : o.isCells = false) : J s (W.putObj l o') :=
  h s W _ (some l) hs (grownBy_putObj' W l o') (fun r e => by cases e; exact .inr ⟨hB, o, hl, ho⟩)
theorem AbC.al {B g : Nat} {J : List ByteArray → World → Prop} (h : AbC B g J) {s : List ByteArray} {W : World} (o : Obj) (hs : J s W) : J s (W.alloc o) :=
  h s W _ none hs (World.grownBy_alloc W o none) (fun r e => by cases e)
/-- What a round keeps for the iterator: what lay below n, and its own three boxes from b on. -/
def KpC (n b : Nat) (W W' : World) : Prop := Below n W W' ∧ ∀ k, b ≤ k → k < b + 3 → W'.heap[k]? = W.heap[k]?
theorem KpC.trans {n b : Nat} {A B C : World} (h : KpC n b A B) (k : KpC n b B C) : KpC n b A C :=
  ⟨h.1.trans k.1, fun i h1 h2 => (k.2 i h1 h2).trans (h.2 i h1 h2)⟩
theorem KpC.put {n b : Nat} {W : World} {l : Nat} {o : Obj} (o' : Obj) (hn : n ≤ l) (hb : b + 3 ≤ l) (h : W.heap[l]? = some o) : KpC n b W (W.putObj l o') :=
  ⟨(Below.refl n W).grown (grownBy_putObj' W l o') (by have := (Array.getElem?_eq_some_iff.1 h).1; omega) (fun k e => by cases e; exact hn), fun k h1 h2 => World.putObj_heap_other (by omega)⟩
/-- The iterator gives the pieces xs, one by one, unless a round has said 'no more'. -/
def SeqC (P : Program) (gf : Nat) (lb : Array Value) (n b : Nat) (xs : List ByteArray) (w : World) : Prop :=
  ∀ (l : Nat) (J Jx : List ByteArray → World → Prop) (W : World), KpC n b w W → w.heap.size ≤ W.heap.size → AbC W.heap.size b J → AbC W.heap.size b Jx →
    (∀ pre x rest W1, J pre W1 → xs = pre ++ x :: rest → YieldAt Fence.wide 0 P l #[.string x] W1 fun e W' =>
      (e = .returned (.bool true) ∧ J (pre ++ [x]) W' ∧ KpC n b W1 W') ∨ (e = .returned (.bool false) ∧ Jx (pre ++ [x]) W')) →
    J [] W →
    CallsIn Fence.wide 0 P gf (#[.func (.yield l) #[] #[]] ++ lb) W fun e W' => (∃ v, e = .returned v) ∧ (J xs W' ∨ ∃ pre rest, xs = pre ++ rest ∧ Jx pre W')
/-- How a round's body may be left. -/
def endC (B n b : Nat) (I : List ByteArray → World → Prop) (Ix : Code → List ByteArray → World → Prop) (xs : List ByteArray) (W : World) : Exit → Act → World → Prop
  | .normal, _, W' => KeepsFrom B W W' ∧ KpC n b W W' ∧ I xs W'
  | .ret, _, W' => KeepsFrom B W W' ∧ Ix .ret xs W'
  | .exit id, _, W' => KeepsFrom B W W' ∧ Ix (.exit id) xs W'
  | .goto t, _, W' => KeepsFrom B W W' ∧ Ix (.goto t) xs W'
  | .panic _, _, _ => False
  | .outgrown, _, _ => False

/-- The loop's law. -/
theorem range_seqC {P : Program} {g : Operand} {p : Tmp} {assign body : Code} {Q : Exit → Act → World → Prop} {a : Act} {w : World} {gf : Nat} {lb : Array Value} {n b : Nat} {xs : List ByteArray}
    (hg : a.eval g = .func (.func gf) #[] lb) (eg : ∀ args w, (callFunc gf args).run P w = .ok (.enter gf args) w) (hn : n ≤ w.heap.size) (hb : b + 3 ≤ w.heap.size) (hseq : SeqC P gf lb n b xs w)
    (I : List ByteArray → World → Prop) (Ix : Code → List ByteArray → World → Prop) (hI : AbC w.heap.size b I) (hIx : ∀ c, AbC w.heap.size b (Ix c)) (h0 : I [] w) (a₁ : ByteArray → Act)
    (hassign : ∀ (l : Nat) (x : ByteArray) (W : World) (K : Act → World → Prop), K (a₁ x) W →
      assign.wpIn (Fence.wide.inRound l) 0 P (Exit.then K (fun _ _ _ => False)) { tmps := a.tmps.setIfInBounds p (.string x), defers := [] } W)
    (hbody : ∀ (l : Nat) (pre : List ByteArray) (x : ByteArray) (rest : List ByteArray) (W : World), I pre W → xs = pre ++ x :: rest → w.heap.size ≤ W.heap.size → body.wpIn (Fence.wide.inRound l) 0 P (endC w.heap.size n b I Ix (pre ++ [x]) W) (a₁ x) W)
    (hdone : ∀ (D : Nat) (W : World), w.heap.size ≤ D → I xs W → W.heap[D]? = some (.deferred (some [])) → Q .normal { a with defers := { target := .collected D, args := #[] } :: a.defers } W)
    (hstop : ∀ (D : Nat) (c : Code) (pre rest : List ByteArray) (W : World), w.heap.size ≤ D → xs = pre ++ rest → Ix c pre W → W.heap[D]? = some (.deferred (some [])) → c.wpIn Fence.wide 0 P Q { a with defers := { target := .collected D, args := #[] } :: a.defers } W) :
    (Code.rangeFunc g #[p] assign body).wpIn Fence.wide 0 P Q a w := by
  refine wpIn_rangeFunc fun fn hfn => ?_
  obtain ⟨Lr, hLr⟩ : ∃ Lr : LoopState → Option Code → Loop, Lr = fun st pe => { state := st, pending := pe, fn, tmps := a.tmps, params := #[p], assign, body, defers := w.heap.size } := ⟨_, rfl⟩
  have hL1 : ((w.alloc (.deferred (some []))).alloc (.loop (Lr .ready none))).heap[w.heap.size + 1]? = some (.loop (Lr .ready none)) := by
    have := World.alloc_heap_new (w.alloc (.deferred (some []))) (.loop (Lr .ready none))
    rwa [World.size_alloc] at this
  have hD1 : ((w.alloc (.deferred (some []))).alloc (.loop (Lr .ready none))).heap[w.heap.size]? = some (.deferred (some [])) :=
    (Below.heap_alloc _ _ _ (by simp)).trans (World.alloc_heap_new w _)
  have hsz : ((w.alloc (.deferred (some []))).alloc (.loop (Lr .ready none))).heap.size = w.heap.size + 2 := by simp
  have hK1 : KpC n b w ((w.alloc (.deferred (some []))).alloc (.loop (Lr .ready none))) :=
    ⟨((Below.refl n w).alloc hn _).alloc (by simp; omega) _, fun k h1 h2 => (Below.heap_alloc _ _ k (by simp; omega)).trans (Below.heap_alloc _ _ k (by omega))⟩
  have hI1 : I [] ((w.alloc (.deferred (some []))).alloc (.loop (Lr .ready none))) := hI.al _ (hI.al _ h0)
  obtain ⟨W1, hW1⟩ : ∃ W1, (w.alloc (.deferred (some []))).alloc (.loop (Lr .ready none)) = W1 := ⟨_, rfl⟩
  rw [hW1] at hL1 hD1 hsz hK1 hI1
  refine ⟨w.heap.size + 1, [{ target := .collected w.heap.size, args := #[] }], W1, { target := .fn (.func gf) lb, args := #[.func (.yield (w.heap.size + 1)) #[] #[]] }, W1, gf,
    #[.func (.yield (w.heap.size + 1)) #[] #[]] ++ lb, W1, ?_, ?_, fun _ _ => trivial, ?_, fun h => by simp [Fence.wide] at h, ?_⟩
  · rw [← hW1, hLr]; exact run_enterLoop_outer _ _ _ _ _
  · simp only [resolve, hg]
    simp [go_sem]
  · simp [invoke, go_sem, eg]
  · clear hW1
    have keep : ∀ {A B : World} {row : Option Nat} {k : Nat} {o : Obj}, A.grownBy B row → (∀ r, row = some r → r = b ∨ (W1.heap.size ≤ r ∧ ∃ o : Obj, A.heap[r]? = some o ∧ o.isCells = false)) → w.heap.size ≤ k → k < W1.heap.size → A.heap[k]? = some o → B.heap[k]? = some o :=
      fun hgr hr h1 h2 ho => (hgr.block _ (Array.getElem?_eq_some_iff.1 ho).1 (fun e => by rcases hr _ e.symm with h | ⟨h, -⟩ <;> omega)).trans ho
    have wide : ∀ {A : World} {row : Option Nat}, (∀ r, row = some r → r = b ∨ (W1.heap.size ≤ r ∧ ∃ o : Obj, A.heap[r]? = some o ∧ o.isCells = false)) → (∀ r, row = some r → r = b ∨ (w.heap.size ≤ r ∧ ∃ o : Obj, A.heap[r]? = some o ∧ o.isCells = false)) :=
      fun hr r e => (hr r e).elim .inl (fun h => .inr ⟨by have := h.1; omega, h.2⟩)
    refine (hseq (w.heap.size + 1)
      (fun pre W => w.heap.size ≤ W.heap.size ∧ I pre W ∧ W.heap[w.heap.size + 1]? = some (.loop (Lr .ready none)) ∧ W.heap[w.heap.size]? = some (.deferred (some [])))
      (fun pre W => ∃ c, Ix c pre W ∧ W.heap[w.heap.size + 1]? = some (.loop (Lr .done (some c))) ∧ W.heap[w.heap.size]? = some (.deferred (some [])))
      W1 hK1 (by omega) (fun s A B row hs hgr hr => ⟨Nat.le_trans hs.1 hgr.size, hI s A B row hs.2.1 hgr (wide hr), keep hgr hr (by omega) (by omega) hs.2.2.1, keep hgr hr (Nat.le_refl _) (by omega) hs.2.2.2⟩)
      (fun s A B row hs hgr hr => by
        obtain ⟨c, hc, hl, hk⟩ := hs
        exact ⟨c, hIx c s A B row hc hgr (wide hr), keep hgr hr (by omega) (by omega) hl, keep hgr hr (Nat.le_refl _) (by omega) hk⟩)
      ?_ ⟨by omega, hI1, hL1, hD1⟩).mono ?_
    · rintro pre x rest W ⟨hs, hi, hl, hk⟩ hx
      have hy := run_yield (P := P) (args := #[.string x]) hl (by rw [hLr]; rfl)
      rw [hLr] at hy
      have hz : ∀ t : Array Value, Array.foldl (fun tmps (x : Tmp × Value) => match x with | (t, a) => tmps.setIfInBounds t a) t ((#[p] : Array Tmp).zip #[Value.string x]) = t.setIfInBounds p (.string x) := fun t => by simp
      dsimp only at hy
      rw [hz] at hy
      have hlt := (Array.getElem?_eq_some_iff.1 hl).1
      have hl2 : (W.putObj (w.heap.size + 1) (.loop { Lr .ready none with state := .busy })).heap[w.heap.size + 1]? = some (.loop { Lr .ready none with state := .busy }) := World.putObj_heap_same hlt
      have hk2 : (W.putObj (w.heap.size + 1) (.loop { Lr .ready none with state := .busy })).heap[w.heap.size]? = some (.deferred (some [])) := (World.putObj_heap_other (by omega)).trans hk
      refine ⟨fn, _, assign, body, hy, roundIn_of_wpIn hfn ?_⟩
      refine hassign _ x W _ ?_
      refine ⟨_, run_beginRound hl (by rw [hLr]), ?_⟩
      refine wpIn_mono (hbody _ pre x rest _ (hI.put _ hi (by omega) hl rfl) hx (by simp; omega)) ?_
      have fin : ∀ (jump : Option Code) (W3 : World), KeepsFrom w.heap.size (W.putObj (w.heap.size + 1) (.loop { Lr .ready none with state := .busy })) W3 →
          (Instr.endRound (w.heap.size + 1) jump).run P W3 = .ok (.bool jump.isNone) (W3.putObj (w.heap.size + 1) (.loop (Lr (if jump.isNone then .ready else .done) jump))) ∧
          W3.heap[w.heap.size + 1]? = some (.loop { Lr .ready none with state := .busy }) ∧
          (W3.putObj (w.heap.size + 1) (.loop (Lr (if jump.isNone then .ready else .done) jump))).heap[w.heap.size + 1]? = some (.loop (Lr (if jump.isNone then .ready else .done) jump)) ∧
          (W3.putObj (w.heap.size + 1) (.loop (Lr (if jump.isNone then .ready else .done) jump))).heap[w.heap.size]? = some (.deferred (some [])) := fun jump W3 hk3 => by
        have hl3 := hk3.same _ _ (by omega) hl2 rfl
        have he := run_endRound (P := P) jump hl3
        refine ⟨?_, hl3, World.putObj_heap_same (Array.getElem?_eq_some_iff.1 hl3).1, (World.putObj_heap_other (by omega)).trans (hk3.same _ _ (Nat.le_refl _) hk2 rfl)⟩
        rw [hLr] at he ⊢
        exact he
      have hw2 : KpC n b W (W.putObj (w.heap.size + 1) (.loop { Lr .ready none with state := .busy })) := KpC.put _ (by omega) (by omega) hl
      rintro e a3 W3 hp
      cases e with
      | normal =>
        obtain ⟨hk3, hkp3, hi3⟩ := hp
        obtain ⟨hr, hl3, hl4, hk4⟩ := fin none W3 hk3
        have hs3 := hk3.size
        simp at hs3
        exact ⟨_, _, hr, .inl ⟨rfl, ⟨by simp; omega, hI.put _ hi3 (by omega) hl3 rfl, hl4, hk4⟩, (hw2.trans hkp3).trans (KpC.put _ (by omega) (by omega) hl3)⟩⟩
      | ret =>
        obtain ⟨hr, hl3, hl4, hk4⟩ := fin (some .ret) W3 hp.1
        exact ⟨_, _, hr, .inr ⟨rfl, .ret, (hIx _).put _ hp.2 (by omega) hl3 rfl, hl4, hk4⟩⟩
      | exit id =>
        obtain ⟨hr, hl3, hl4, hk4⟩ := fin (some (.exit id)) W3 hp.1
        exact ⟨_, _, hr, .inr ⟨rfl, .exit id, (hIx _).put _ hp.2 (by omega) hl3 rfl, hl4, hk4⟩⟩
      | goto t =>
        obtain ⟨hr, hl3, hl4, hk4⟩ := fin (some (.goto t)) W3 hp.1
        exact ⟨_, _, hr, .inr ⟨rfl, .goto t, (hIx _).put _ hp.2 (by omega) hl3 rfl, hl4, hk4⟩⟩
      | panic ch => exact hp.elim
      | outgrown => exact hp.elim
    · rintro e W2 ⟨⟨v, rfl⟩, (⟨-, hi, hl, hk⟩ | ⟨pre, rest, hx, c, hi, hl, hk⟩)⟩
      · have he := run_endLoop (P := P) hl (by rw [hLr]; simp)
        refine ⟨none, _, ?_, hdone _ _ (Nat.le_refl _) (hI.put (.loop { Lr .ready none with state := .exhausted }) hi (by omega) hl rfl) ((World.putObj_heap_other (by omega)).trans hk)⟩
        rw [hLr] at he ⊢
        exact he
      · have he := run_endLoop (P := P) hl (by rw [hLr]; simp)
        refine ⟨some c, _, ?_, hstop _ c pre rest _ (Nat.le_refl _) hx ((hIx c).put (.loop { Lr .done (some c) with state := .exhausted }) hi (by omega) hl rfl) ((World.putObj_heap_other (by omega)).trans hk)⟩
        rw [hLr] at he ⊢
        exact he
end Go.Proofs.YtpniljcnknknoaaGreatDoor

/-
  strings.SplitSeq: the iterator's contract.
-/
namespace Go.Proofs.YtpniljcnknknoaaGreatDoor
open Go.RowKit Go.Shelf
set_option linter.unusedVariables false
set_option linter.unusedSimpArgs false
set_option maxRecDepth 100000
attribute [local go_sem] Oper.semAt_some

/-- How long the text is that a box holds. -/
def boxLen (W : World) (b : Nat) : Nat := match W.cell? ⟨b, 0, none⟩ with | some (.string s) => s.size | _ => 0
theorem boxLen_eq {W : World} {b : Nat} {s : ByteArray} (h : W.cell? ⟨b, 0, none⟩ = some (.string s)) : boxLen W b = s.size := by unfold boxLen; rw [h]
def pieces (sep t : ByteArray) : List ByteArray := Lib.splitB sep 0 (Lib.countB t sep) t
theorem pieces_miss {sep t : ByteArray} (h : Lib.indexB t sep = -1) : pieces sep t = [t] := Lib.splitB_miss _ _ _ _ h
theorem pieces_hit {sep t : ByteArray} (h1 : 1 ≤ sep.size) {i : Nat} (h : Lib.indexB t sep = i) : pieces sep t = t.extract 0 i :: pieces sep (t.extract (i + sep.size) t.size) := by
  unfold pieces
  rw [Lib.countB_hit t sep i h1 h, Nat.add_comm 1, Lib.splitB_hit _ _ _ _ i h]
  rfl
set_option maxHeartbeats 2000000 in
theorem splitSeq_in (t sep : ByteArray) (m : Int) (n b : Nat) (w : World) (h1 : 1 ≤ sep.size) (ht : t.size < 4294967281) (hp : sep.size ≤ 1000) (hs : Blk w b 9 [.string t]) (hse : Blk w (b + 1) 9 [.string sep]) (hsv : Blk w (b + 2) 3 [.int .i64 0])
    (hg : 1 < n) (hn : n ≤ b) (hm : w.cell? ⟨1, 0, none⟩ = some (.int .i64 m)) :
    SeqC Tryz.prog 223 #[.pointer (some ⟨b + 1, 0, none⟩), .pointer (some ⟨b, 0, none⟩), .pointer (some ⟨b + 2, 0, none⟩)] n b (pieces sep t) w := by
  intro l J Jx W hK hsz hJ hJx hY h0
  have hsw : Blk W b 9 [.string t] := (hK.2 b (Nat.le_refl _) (by omega)).trans hs
  have hsew : Blk W (b + 1) 9 [.string sep] := (hK.2 (b + 1) (by omega) (by omega)).trans hse
  have hsvw : Blk W (b + 2) 3 [.int .i64 0] := (hK.2 (b + 2) (by omega) (by omega)).trans hsv
  have hmw : W.cell? ⟨1, 0, none⟩ = some (.int .i64 m) := (hK.1.cell hg).trans hm
  have HIx := Lib.hid (fun (s : ByteArray) (w : World) (hs : s.size < 4294967281) (hm : w.cell? ⟨1, 0, none⟩ = some (.int .i64 m)) => callsIn_wide (n := 0).2 (Tryz.strings_Index s sep m w hs hm))
  have HY := Lib.hid hY
  have HJ := Lib.hid hJ
  have HJx := Lib.hid hJx
  clear hs hse hsv hm hK hY hJ hJx
  obtain ⟨c1, -⟩ := hsew.one
  have hz0 : ((sep.size : Int) == 0) = false := by rw [beq_eq_false_iff_ne]; omega
  refine callsIn_of_wp Tryz.func223 rfl trivial ?_ rfl
  simp only [Tryz.ntmps223, List.size_toArray, List.length_cons, List.length_nil, Nat.reduceAdd, Nat.reduceSub, Array.replicate_succ, Array.replicate_zero, List.push_toArray, List.append_toArray, List.nil_append, List.cons_append]
  gi_wp2
  gi_loopw [] (fun wr => ∃ (pre : List ByteArray) (r : ByteArray), pieces sep t = pre ++ pieces sep r ∧ r.size ≤ t.size ∧ J pre wr ∧ Blk wr b 9 [.string r] ∧ Blk wr (b + 1) 9 [.string sep] ∧ Blk wr (b + 2) 3 [.int .i64 0] ∧ wr.cell? ⟨1, 0, none⟩ = some (.int .i64 m) ∧ W.heap.size ≤ wr.heap.size)
    (fun wr => boxLen wr b)
  case atStart => exact ⟨[], t, rfl, Nat.le_refl _, h0, hsw, hsew, hsvw, hmw, Nat.le_refl _⟩
  case round =>
    obtain ⟨pre, r, hx, hr, hJ, k0, k1, k2, hmr, hz⟩ := hrel
    have H := Lib.hid (And.intro hx (And.intro hJ (And.intro k0 (And.intro k1 (And.intro k2 hmr)))))
    obtain ⟨e0, f0⟩ := k0.one
    obtain ⟨e1, f1⟩ := k1.one
    obtain ⟨e2, -⟩ := k2.one
    clear c1 hsw hsew hsvw hmw hx hJ k0 k1 k2 hmr h0
    rcases Lib.indexB_cases r sep with hix | ⟨i, hix, hroom⟩
    · obtain ⟨fn, tmps, asg, body, hy, hR⟩ := HY.out pre r [] wr H.out.2.1 (by rw [H.out.1, pieces_miss hix])
      have HX := Lib.hid (H.out.1.trans (by rw [pieces_miss hix]))
      have hix' : Lib.index r.data.toList sep.data.toList = -1 := hix
      gi_wp2
      refine ⟨trivial, rfl, (HIx.out _ _ (by omega) H.out.2.2.2.2.2).mono ?_⟩
      rintro e w2 ⟨rfl, rfl⟩
      rw [hix']
      gi_wp2
      refine ⟨rfl, hR.mono ?_⟩
      rintro e w3 (⟨rfl, hj, -⟩ | ⟨rfl, hj⟩)
      · gi_wp2
        go_end0
        exact ⟨⟨_, rfl⟩, .inl (by rw [HX.out]; exact hj)⟩
      · gi_wp2
        go_end0
        exact ⟨⟨_, rfl⟩, .inr ⟨_, [], by rw [HX.out, List.append_nil], hj⟩⟩
    · obtain ⟨fn, tmps, asg, body, hy, hR⟩ := HY.out pre (r.extract 0 i) (pieces sep (r.extract (i + sep.size) r.size)) wr H.out.2.1 (by rw [H.out.1, pieces_hit h1 hix])
      have hix' : Lib.index r.data.toList sep.data.toList = (i : Int) := hix
      have hb1 : ¬ (i : Int) < 0 := by omega
      have hsz1 : sep.size ≤ r.size := by omega
      gi_wp2
      refine ⟨trivial, rfl, (HIx.out _ _ (by omega) H.out.2.2.2.2.2).mono ?_⟩
      rintro e w2 ⟨rfl, rfl⟩
      rw [hix']
      gi_wp2
      refine ⟨rfl, hR.mono ?_⟩
      rintro e w3 (⟨rfl, hj, hk3⟩ | ⟨rfl, hj⟩)
      · have g0 : Blk w3 b 9 [.string r] := (hk3.2 b (Nat.le_refl _) (by omega)).trans H.out.2.2.1
        have g1 : Blk w3 (b + 1) 9 [.string sep] := (hk3.2 (b + 1) (by omega) (by omega)).trans H.out.2.2.2.1
        have g2 : Blk w3 (b + 2) 3 [.int .i64 0] := (hk3.2 (b + 2) (by omega) (by omega)).trans H.out.2.2.2.2.1
        have gm : w3.cell? ⟨1, 0, none⟩ = some (.int .i64 m) := (hk3.1.cell hg).trans H.out.2.2.2.2.2
        have G := Lib.hid (And.intro hj (And.intro g0 (And.intro g1 (And.intro g2 (And.intro gm hk3.1.size)))))
        clear e0 f0 e1 f1 e2 hy hR
        obtain ⟨e0, f0⟩ := g0.one
        obtain ⟨e1, f1⟩ := g1.one
        clear g0 g1 g2 gm hj hk3
        gi_wp2
        have rel : ∃ (pre : List ByteArray) (r1 : ByteArray), pieces sep t = pre ++ pieces sep r1 ∧ r1.size ≤ t.size ∧ J pre (w3.setCell ⟨b, 0, none⟩ (.string (r.extract (i + sep.size) r.size))) ∧ Blk (w3.setCell ⟨b, 0, none⟩ (.string (r.extract (i + sep.size) r.size))) b 9 [.string r1] ∧ Blk (w3.setCell ⟨b, 0, none⟩ (.string (r.extract (i + sep.size) r.size))) (b + 1) 9 [.string sep] ∧ Blk (w3.setCell ⟨b, 0, none⟩ (.string (r.extract (i + sep.size) r.size))) (b + 2) 3 [.int .i64 0] ∧ (w3.setCell ⟨b, 0, none⟩ (.string (r.extract (i + sep.size) r.size))).cell? ⟨1, 0, none⟩ = some (.int .i64 m) ∧ W.heap.size ≤ (w3.setCell ⟨b, 0, none⟩ (.string (r.extract (i + sep.size) r.size))).heap.size := by
          refine ⟨pre ++ [r.extract 0 i], r.extract (i + sep.size) r.size, ?_, ?_, ?_, G.out.2.1.set_ 0 _, G.out.2.2.1.far (p := ⟨b, 0, none⟩) (by show b + 1 ≠ b; omega) _, G.out.2.2.2.1.far (p := ⟨b, 0, none⟩) (by show b + 2 ≠ b; omega) _, ?_, ?_⟩
          · rw [H.out.1, pieces_hit h1 hix, List.append_assoc, List.singleton_append]
          · rw [ByteArray.size_extract]; omega
          · exact HJ.out _ _ _ (some b) G.out.1 (only_setCell (p := ⟨b, 0, none⟩) ⟨rfl, rfl, rfl, Nat.le_refl _, fun _ _ _ => rfl⟩ (.inl rfl) _) (fun q e => .inl (by cases e; rfl))
          · rw [World.cell?_setCell_other _ _ _ _ (by intro e; injection e with e; omega)]
            exact G.out.2.2.2.2.1
          · have := G.out.2.2.2.2.2
            simp only [World.setCell, Array.size_modify]
            omega
        refine ⟨?_, ?measure⟩
        case measure =>
          rw [boxLen_eq (G.out.2.1.set_ 0 (.string (r.extract (i + sep.size) r.size))).one.1, boxLen_eq H.out.2.2.1.one.1, ByteArray.size_extract]
          omega
        first
          | exact rel
          | (repeat apply Exists.intro
             exact ⟨rel, rfl⟩)
      · gi_wp2
        refine bodyPost_ret (results_none rfl _ _ _) rfl ?_
        exact ⟨⟨_, rfl⟩, .inr ⟨_, pieces sep (r.extract (i + sep.size) r.size), by rw [H.out.1, pieces_hit h1 hix, List.append_assoc, List.singleton_append], hj⟩⟩
end Go.Proofs.YtpniljcnknknoaaGreatDoor

/-
  strings.SplitSeq: the value that it hands back.
-/
namespace Go.Proofs.YtpniljcnknknoaaGreatDoor
open Go.RowKit
set_option linter.unusedVariables false
set_option linter.unusedSimpArgs false
set_option maxRecDepth 100000
attribute [local go_sem ↓] Go.wp_at_zero Go.wp_at_succ

/-- The world with the iterator's three boxes. -/
def seqW (w : World) (t sep : ByteArray) : World := ((w.alloc (.cells #[.string t] 9)).alloc (.cells #[.string sep] 9)).alloc (.cells #[.int .i64 0] 3)
def seqV (b : Nat) : Value := .func (.func 223) #[] #[.pointer (some ⟨b + 1, 0, none⟩), .pointer (some ⟨b, 0, none⟩), .pointer (some ⟨b + 2, 0, none⟩)]
set_option maxHeartbeats 1000000 in
theorem splitSeq1V_any (t sep : ByteArray) (w : World) :
    Calls Tryz.prog 173 #[.string t, .string sep, .int .i64 0] w fun e w' => e = .returned (seqV w.heap.size) ∧ w' = seqW w t sep := by
  go_enter Tryz.func173, Tryz.ntmps173
  go_wp2
  go_ret
  exact ⟨rfl, rfl⟩
set_option maxHeartbeats 1000000 in
theorem splitSeqV_any (t sep : ByteArray) (w : World) :
    Calls Tryz.prog 115 #[.string t, .string sep] w fun e w' => e = .returned (seqV w.heap.size) ∧ w' = seqW w t sep := by
  go_enter Tryz.func115, Tryz.ntmps115
  go_wp2_with fail
  refine (splitSeq1V_any t sep w).mono ?_
  rintro e w' ⟨rfl, rfl⟩
  go_wp2
  go_ret
  exact ⟨rfl, rfl⟩
theorem seqW_blk (w : World) (t sep : ByteArray) : Blk (seqW w t sep) w.heap.size 9 [.string t] ∧ Blk (seqW w t sep) (w.heap.size + 1) 9 [.string sep] ∧ Blk (seqW w t sep) (w.heap.size + 2) 3 [.int .i64 0] ∧ Below w.heap.size w (seqW w t sep) ∧ (seqW w t sep).heap.size = w.heap.size + 3 := by
  refine ⟨((Blk.new' w 9 (.string t) _ rfl).alloc _).alloc _, (Blk.new' _ 9 (.string sep) _ (by simp)).alloc _, Blk.new' _ 3 (.int .i64 0) _ (by simp), ((bel_alloc w _).alloc (by simp) _).alloc (by simp; omega) _, by simp [seqW]⟩
end Go.Proofs.YtpniljcnknknoaaGreatDoor

/-
  Errata (impl): FormatErrata and parseErratum.
-/
namespace Go.Proofs.YtpniljcnknknoaaGreatDoor
open Go.RowKit
set_option linter.unusedVariables false
set_option linter.unusedSimpArgs false
set_option maxRecDepth 100000
attribute [local go_sem ↓] Go.wp_at_zero Go.wp_at_succ

theorem etS_size (x : Etm) (h : etIn x) : (etS x).size ≤ 65 := by
  unfold etS
  have h1 := itoaS_size (n := x.1) (by have := h.1; omega) (by have := h.1; omega)
  have h2 := itoaS_size (n := x.2.1) (by have := h.2.1; omega) (by have := h.2.1; omega)
  have h3 := itoaS_size (n := x.2.2) (by have := h.2.2; omega) (by have := h.2.2; omega)
  have e1 : (⟨#[58]⟩ : ByteArray).size = 1 := rfl
  have e2 : (⟨#[62]⟩ : ByteArray).size = 1 := rfl
  rw [ByteArray.size_append, ByteArray.size_append, ByteArray.size_append, ByteArray.size_append]
  omega
theorem ets_set {es : List Etm} {cs : List Value} {k : Nat} (hl : cs.length = es.length) (hk : k < es.length) (h : ∀ j, j < k → cs[j]? = some (.string (etS (etAt es j)))) :
    ∀ j, j < k + 1 → (cs.set k (.string (etS (etAt es k))))[j]? = some (.string (etS (etAt es j))) := by
  intro j hj
  by_cases e : j = k
  · subst e; rw [List.getElem?_set_self (by omega)]
  · rw [List.getElem?_set_ne (by omega)]; exact h j (by omega)
theorem ets_gen (es : List Etm) : genS (fun j => etS (etAt es j)) es.length = es.map etS := by
  unfold genS
  apply List.ext_getElem
  · simp
  · intro i h1 h2
    simp at h1
    simp [etAt, List.getD, h1]
theorem sizeE {I J L : ByteArray} (hI : I.size ≤ 21) (hJ : J.size ≤ 21) (hL : L.size ≤ 21) : ¬ 9223372036854775807 < I.size + 1 ∧ ¬ 9223372036854775807 < I.size + 1 + J.size ∧ ¬ 9223372036854775807 < I.size + 1 + J.size + 1 ∧ ¬ 9223372036854775807 < I.size + 1 + J.size + 1 + L.size ∧
    (I ++ ⟨#[58]⟩).size = I.size + 1 ∧ (I ++ ⟨#[58]⟩ ++ J).size = I.size + 1 + J.size ∧ (I ++ ⟨#[58]⟩ ++ J ++ ⟨#[62]⟩).size = I.size + 1 + J.size + 1 := by
  refine ⟨by omega, by omega, by omega, by omega, ?_, ?_, ?_⟩ <;> (simp only [ByteArray.size_append]; rfl)
set_option maxHeartbeats 8000000 in
theorem implFE_any (v : Value) (es : List Etm) (w : World) (hv : EtR w v es) (ht : Tab w) :
    Calls Tryz.prog 44 #[v] w fun e w' => e = .returned (.string (etsS es)) ∧ Below w.heap.size w w' := by
  have HV := Lib.hid hv
  have HT := Lib.hid ht
  obtain ⟨A, c, rfl, hlc, hc, h5, h6⟩ := hv
  have H5 := Lib.hid h5
  have H6 := Lib.hid h6
  clear h5 h6 ht
  go_enter Tryz.func44, Tryz.ntmps44
  go_wp2_with fail
  refine (errVal_any _ es _ HV.out).mono ?_
  rintro e w2 ⟨rfl, b2⟩
  have HB := Lib.hid b2
  clear b2
  cases hq : etsOk es
  · have HZ := Lib.hid (show etsS es = ⟨#[]⟩ by simp [etsS, hq])
    go_wp2
    go_ret
    exact ⟨by rw [HZ.out]; rfl, HB.out⟩
  · by_cases hn : es = []
    · have HZ := Lib.hid (show etsS es = ⟨#[45]⟩ by rw [etsS, if_pos hq, if_pos hn])
      have z0 : es.length = 0 := by rw [hn]; rfl
      have z1 : ((es.length : Int) == 0) = true := by rw [z0]; rfl
      clear hn hq
      go_wp2
      go_ret
      exact ⟨by rw [HZ.out]; rfl, HB.out⟩
    · have HZ := Lib.hid (show etsS es = joinS (es.map etS) ⟨#[59]⟩ by rw [etsS, if_pos hq, if_neg hn])
      have hl := ets_len hq
      have hpos : 0 < es.length := (by cases es with | nil => exact absurd rfl hn | cons a r => simp)
      have z1 : ((es.length : Int) == 0) = false := by rw [beq_eq_false_iff_ne]; omega
      have hmk := fun W => Tryz.mkStrs es.length (by omega) W
      clear hq hn
      have KS := Blk.new w2 9 (reps es.length (.string ⟨#[]⟩))
      have BS := Lib.hid (bel_trans HB.out (bel_alloc w2 (.cells (reps es.length (.string ⟨#[]⟩)).toArray 9)))
      go_wp2_with fail
      generalize hW : w2.alloc (.cells (reps es.length (.string ⟨#[]⟩)).toArray 9) = W at *
      have hWz : W.heap.size = w2.heap.size + 1 := by rw [← hW]; simp
      have hz2 := HB.out.size
      clear hW
      go_loopw [17] (fun i wr => ∃ (k : Nat) (cs : List Value), k ≤ es.length ∧ i = .int .i64 k ∧ Blk wr w2.heap.size 9 cs ∧ cs.length = es.length ∧ (∀ j, j < k → cs[j]? = some (.string (etS (etAt es j)))) ∧ Below w.heap.size w wr ∧ w2.heap.size + 1 ≤ wr.heap.size) (fun i _ => es.length - (intOf i).toNat)
      case atStart => exact ⟨0, _, Nat.zero_le _, rfl, KS, reps_length _ _, fun j hj => absurd hj (by omega), BS.out, by omega⟩
      case round =>
        obtain ⟨k, cs, hk, rfl, hbk, hcl, hcs, hb, hz⟩ := hrel
        have H := Lib.hid (And.intro hcl (And.intro hcs hb))
        have HBK := Lib.hid hbk
        clear hcl hcs hb KS
        by_cases hlt : k < es.length
        · obtain ⟨b, o, rfl, hbb, hcell⟩ := H5.out (by omega)
          obtain ⟨e0, e1, e2⟩ := hcell k hlt
          have y0 := (H.out.2.2.cell (p := ⟨b, o + k * 3, none⟩) hbb).trans e0
          have y1 := (H.out.2.2.cell (p := ⟨b, o + k * 3 + 1, none⟩) hbb).trans e1
          have y2 := (H.out.2.2.cell (p := ⟨b, o + k * 3 + 2, none⟩) hbb).trans e2
          obtain ⟨i1, i2, i3⟩ := H6.out k hlt
          have HSET := Lib.hid (ets_set H.out.1 hlt H.out.2.1)
          have HSEG : etS (etAt es k) = itoaS (etAt es k).1 ++ ⟨#[58]⟩ ++ itoaS (etAt es k).2.1 ++ ⟨#[62]⟩ ++ itoaS (etAt es k).2.2 := rfl
          rw [HSEG] at HSET
          obtain ⟨P, hP⟩ : ∃ P, (etAt es k).1 = P := ⟨_, rfl⟩
          obtain ⟨Y, hY⟩ : ∃ Y, (etAt es k).2.1 = Y := ⟨_, rfl⟩
          obtain ⟨R, hR2⟩ : ∃ R, (etAt es k).2.2 = R := ⟨_, rfl⟩
          rw [hP] at y0 i1 HSET
          rw [hY] at y1 i2 HSET
          rw [hR2] at y2 i3 HSET
          have s1 := itoaS_size (n := P) i1.1 i1.2
          have s2 := itoaS_size (n := Y) i2.1 i2.2
          have s3 := itoaS_size (n := R) i3.1 i3.2
          clear hP hY hR2 e0 e1 e2 hcell HSEG
          have HI1 := Lib.hid (fun w (h2 : Tab w) => itoa_any P w i1 h2)
          have HI2 := Lib.hid (fun w (h2 : Tab w) => itoa_any Y w i2 h2)
          have HI3 := Lib.hid (fun w (h2 : Tab w) => itoa_any R w i3 h2)
          obtain ⟨I, hI⟩ : ∃ I, itoaS P = I := ⟨_, rfl⟩
          obtain ⟨J, hJ⟩ : ∃ J, itoaS Y = J := ⟨_, rfl⟩
          obtain ⟨L, hL⟩ : ∃ L, itoaS R = L := ⟨_, rfl⟩
          rw [hI] at s1 HI1
          rw [hJ] at s2 HI2
          rw [hL] at s3 HI3
          rw [hI, hJ, hL] at HSET
          clear hI hJ hL
          obtain ⟨g1, g2, g3, g4, r1, r2, r3⟩ := sizeE s1 s2 s3
          have K5 := Blk.new wr 127 [.int .i64 P, .int .i64 Y, .int .i64 R]
          have BX := Lib.hid (bel_alloc wr (.cells #[.int .i64 P, .int .i64 Y, .int .i64 R] 127))
          obtain ⟨t0, t1, t2⟩ := K5.three
          have HK5 := Lib.hid K5
          have HBX := Lib.hid (hbk.alloc (.cells #[.int .i64 P, .int .i64 Y, .int .i64 R] 127))
          have HB0 := Lib.hid (bel_trans H.out.2.2 BX.out)
          have hkc : k < cs.length := by rw [H.out.1]; exact hlt
          have hz5 : w2.heap.size + 1 ≤ (wr.alloc (.cells #[.int .i64 P, .int .i64 Y, .int .i64 R] 127)).heap.size := by simp; omega
          have hk5 := K5.lt
          have hneb : wr.heap.size ≠ w2.heap.size := by omega
          have tok1 : True := trivial
          have tok2 : True := trivial
          have tok3 : True := trivial
          clear hbk K5
          go_wp2_with fail
          generalize hW5 : wr.alloc (.cells #[.int .i64 P, .int .i64 Y, .int .i64 R] 127) = W5 at *
          clear hW5
          go_region_held3 (fun w' => w'.cell? ⟨wr.heap.size, 0, none⟩ = some (.int .i64 P) ∧ w'.cell? ⟨wr.heap.size, 1, none⟩ = some (.int .i64 Y) ∧ w'.cell? ⟨wr.heap.size, 2, none⟩ = some (.int .i64 R)) (first | exact ⟨t0, t1, t2⟩ | exact HK6.out.three | exact HK7.out.three | exact HK8.out.three | exact (HK8.out.far (p := ⟨w2.heap.size, k, none⟩) hneb _).three | go_keep) (first
            | ((try go_simp); go_at_call 102; have _t := tok1; go_loud (refine (HI1.out _ (by first | exact HT.out.bel HB0.out | exact (HT.out.bel HB0.out).bel ((Below.refl _ _).drew))).mono ?_; rintro e w6 ⟨rfl, b⟩; replace b : Below W5.heap.size W5 w6 := (by first | exact b | exact bel_trans ((Below.refl _ _).drew) b); have HK6 := Lib.hid (HK5.out.below b hk5); have HB6 := Lib.hid (bel_trans HB0.out b); have HS6 := Lib.hid (HBX.out.below b HBX.out.lt); clear tok1 b; (try dsimp only)))
            | ((try go_simp); go_at_call 102; have _t := tok2; go_loud (refine (HI2.out _ (HT.out.bel HB6.out)).mono ?_; rintro e w7 ⟨rfl, b⟩; have HK7 := Lib.hid (HK6.out.below b HK6.out.lt); have HB7 := Lib.hid (bel_trans HB6.out b); have HS7 := Lib.hid (HS6.out.below b HS6.out.lt); clear tok2 b; (try dsimp only)))
            | ((try go_simp); go_at_call 102; have _t := tok3; go_loud (refine (HI3.out _ (HT.out.bel HB7.out)).mono ?_; rintro e w8 ⟨rfl, b⟩; have HK8 := Lib.hid (HK7.out.below b HK7.out.lt); have HB8 := Lib.hid (bel_trans HB7.out b); have HS8 := Lib.hid (HS7.out.below b HS7.out.lt); have f8 := HS8.out.frozen k; have x8 : w8.cell? ⟨w2.heap.size, k, none⟩ = some (cs[k]'hkc) := (by rw [HS8.out.cell]; exact List.getElem?_eq_getElem _); clear tok3 b; (try dsimp only)))
            | fail)
          all_goals
            have HS9 := Lib.hid (HS8.out.set_ k (.string (I ++ ⟨#[58]⟩ ++ J ++ ⟨#[62]⟩ ++ L)))
            have HB9 := Lib.hid (HB8.out.setCell (p := ⟨w2.heap.size, k, none⟩) hz2 (.string (I ++ ⟨#[58]⟩ ++ J ++ ⟨#[62]⟩ ++ L)))
            have hz9 : w2.heap.size + 1 ≤ (w8.setCell ⟨w2.heap.size, k, none⟩ (.string (I ++ ⟨#[58]⟩ ++ J ++ ⟨#[62]⟩ ++ L))).heap.size := by
              simp only [World.setCell, Array.size_modify]
              have := HS8.out.lt
              omega
            obtain ⟨W9, hW9⟩ : ∃ W9, w8.setCell ⟨w2.heap.size, k, none⟩ (.string (I ++ ⟨#[58]⟩ ++ J ++ ⟨#[62]⟩ ++ L)) = W9 := ⟨_, rfl⟩
            rw [hW9] at HS9 HB9 hz9 ⊢
            clear hW9 t0 t1 t2 f8 x8
            have HLC := Lib.hid (show (cs.set k (.string (I ++ ⟨#[58]⟩ ++ J ++ ⟨#[62]⟩ ++ L))).length = es.length by rw [List.length_set]; exact H.out.1)
            try (have HBA := Lib.hid (bel_trans HB9.out (Below.drew (Below.refl W9.heap.size W9))); have HSA := Lib.hid (HS9.out.below (Below.drew (Below.refl W9.heap.size W9)) HS9.out.lt))
            go_wp2
            go_roundw
            case rel => first
              | exact ⟨k + 1, _, hlt, by go_num, HSA.out, HLC.out, HSET.out, HBA.out, hz9⟩
              | exact ⟨k + 1, _, hlt, by go_num, HS9.out, HLC.out, HSET.out, HB9.out, hz9⟩
            case measure => simp [intOf]; omega
        · obtain rfl : k = es.length := by omega
          have HO := Lib.hid (show OwnS wr w2.heap.size (.slice (some ⟨w2.heap.size, 0, none⟩) es.length es.length) (es.map etS) by
            rw [← ets_gen]
            exact own_genS (Nat.le_refl _) HBK.out H.out.1 (by omega) H.out.2.1 (fun j hj => by
              have := etS_size (etAt es j) (H6.out j hj)
              omega))
          have HSZ := Lib.hid (show ∀ x ∈ es.map etS, x.size ≤ 65 by
            intro x hx
            obtain ⟨y, hy, rfl⟩ := List.mem_map.1 hx
            obtain ⟨j, hj, rfl⟩ := List.getElem_of_mem hy
            rw [← etAt_eq hj]
            exact etS_size _ (H6.out j hj))
          have HLE := Lib.hid (show (es.map etS).length ≤ 1048576 by rw [List.length_map]; omega)
          clear hbk
          go_wp2_with fail
          refine (joins_any _ (es.map etS) ⟨#[59]⟩ _ HO.out.strs HLE.out 65 HSZ.out (by omega) (by decide)).mono ?_
          rintro e w5 ⟨rfl, b5⟩
          have HB5 := Lib.hid (bel_trans H.out.2.2 b5)
          clear b5
          go_wp2
          go_ret
          exact ⟨by rw [HZ.out]; rfl, HB5.out⟩
set_option maxHeartbeats 4000000 in
theorem parseEt_any (s : ByteArray) (w : World) (hs : s.size ≤ 1048576) (hg : Glb w) :
    Calls Tryz.prog 239 #[.string s] w fun e w' => ∃ a b c : Int, e = .returned (.tuple #[.agg #[.int .i64 a, .int .i64 b, .int .i64 c], .bool (etT s)]) ∧ (etT s = true → (a, b, c) = etV s) ∧ etIn (a, b, c) ∧ Below w.heap.size w w' := by
  have HG := Lib.hid hg
  have h1 := bef_size 58 s
  have h2 := bef_size 62 (aft 58 s)
  have K0 := Blk.new w 127 [.int .i64 0, .int .i64 0, .int .i64 0]
  have B0 := Lib.hid (bel_alloc w (.cells #[.int .i64 0, .int .i64 0, .int .i64 0] 127))
  have HV := Lib.hid (show etV s = (numV (bef 58 s), numV (bef 62 (aft 58 s)), numV (aft 62 (aft 58 s))) from rfl)
  have HT := Lib.hid (show etT s = (((numT (bef 58 s)).isSome && (numT (bef 62 (aft 58 s))).isSome) && (numT (aft 62 (aft 58 s))).isSome) from rfl)
  clear hg
  go_enter Tryz.func239, Tryz.ntmps239
  go_wp2_with fail
  refine (cutAny_any s 58 _ hs (HG.out.bel B0.out)).mono ?_
  rintro e w1 ⟨rfl, b1⟩
  have HB1 := Lib.hid (bel_trans B0.out b1)
  have K1 := K0.below b1 K0.lt
  clear b1 K0
  go_wp2_with fail
  refine (cutAny_any (aft 58 s) 62 _ (by omega) (HG.out.bel HB1.out)).mono ?_
  rintro e w2 ⟨rfl, b2⟩
  have HB2 := Lib.hid (bel_trans HB1.out b2)
  have K2 := K1.below b2 K1.lt
  clear b2 K1
  obtain ⟨X, hX⟩ : ∃ X, bef 58 s = X := ⟨_, rfl⟩
  obtain ⟨Y, hY⟩ : ∃ Y, bef 62 (aft 58 s) = Y := ⟨_, rfl⟩
  obtain ⟨Z, hZ⟩ : ∃ Z, aft 62 (aft 58 s) = Z := ⟨_, rfl⟩
  obtain ⟨b1, hb1⟩ : ∃ x, hasB 58 s = x := ⟨_, rfl⟩
  obtain ⟨b2, hb2⟩ : ∃ x, hasB 62 (aft 58 s) = x := ⟨_, rfl⟩
  rw [hX] at h1
  rw [hY, hZ] at h2
  rw [hX, hY, hZ] at HV HT
  rw [hX, hY, hZ, hb1, hb2]
  clear hX hY hZ hb1 hb2
  have HK := Lib.hid K2
  clear K2
  go_wp2_with fail
  refine (parseNum_any X _ (by omega) (HG.out.bel HB2.out)).mono ?_
  rintro e w3 ⟨rfl, b3⟩
  have HB3 := Lib.hid (bel_trans HB2.out b3)
  have K3 := Lib.hid (HK.out.below b3 HK.out.lt)
  clear b3 HK
  go_wp2_with fail
  refine (parseNum_any Y _ (by omega) (HG.out.bel HB3.out)).mono ?_
  rintro e w4 ⟨rfl, b4⟩
  have HB4 := Lib.hid (bel_trans HB3.out b4)
  have K4 := Lib.hid (K3.out.below b4 K3.out.lt)
  clear b4 K3
  go_wp2_with fail
  refine (parseNum_any Z _ (by omega) (HG.out.bel HB4.out)).mono ?_
  rintro e w5 ⟨rfl, b5⟩
  have HB5 := Lib.hid (bel_trans HB4.out b5)
  have K5 := Lib.hid (K4.out.below b5 K4.out.lt)
  clear b5 K4
  have v1 := numV_bd X
  have v2 := numV_bd Y
  have v3 := numV_bd Z
  obtain ⟨n1, hn1⟩ : ∃ x, numV X = x := ⟨_, rfl⟩
  obtain ⟨n2, hn2⟩ : ∃ x, numV Y = x := ⟨_, rfl⟩
  obtain ⟨n3, hn3⟩ : ∃ x, numV Z = x := ⟨_, rfl⟩
  obtain ⟨o1, ho1⟩ : ∃ x, (numT X).isSome = x := ⟨_, rfl⟩
  obtain ⟨o2, ho2⟩ : ∃ x, (numT Y).isSome = x := ⟨_, rfl⟩
  obtain ⟨o3, ho3⟩ : ∃ x, (numT Z).isSome = x := ⟨_, rfl⟩
  rw [hn1] at v1
  rw [hn2] at v2
  rw [hn3] at v3
  rw [hn1, hn2, hn3] at HV
  rw [ho1, ho2, ho3] at HT
  rw [hn1, hn2, hn3, ho1, ho2, ho3]
  clear hn1 hn2 hn3 ho1 ho2 ho3
  have f0 := K5.out.frozen 0
  have f1 := K5.out.frozen 1
  have f2 := K5.out.frozen 2
  obtain ⟨c0, c1, c2⟩ := K5.out.three
  have fin : ∀ (a b c : Int), Blk (((w5.setCell ⟨w.heap.size, 0, none⟩ (.int .i64 a)).setCell ⟨w.heap.size, 1, none⟩ (.int .i64 b)).setCell ⟨w.heap.size, 2, none⟩ (.int .i64 c)) w.heap.size 127 [.int .i64 a, .int .i64 b, .int .i64 c] ∧ Below w.heap.size w (((w5.setCell ⟨w.heap.size, 0, none⟩ (.int .i64 a)).setCell ⟨w.heap.size, 1, none⟩ (.int .i64 b)).setCell ⟨w.heap.size, 2, none⟩ (.int .i64 c)) := fun a b c =>
    ⟨((K5.out.set_ 0 (.int .i64 a)).set_ 1 (.int .i64 b)).set_ 2 (.int .i64 c), ((HB5.out.setCell (p := ⟨w.heap.size, 0, none⟩) (Nat.le_refl _) _).setCell (p := ⟨w.heap.size, 1, none⟩) (Nat.le_refl _) _).setCell (p := ⟨w.heap.size, 2, none⟩) (Nat.le_refl _) _⟩
  have HFN := Lib.hid fin
  clear fin
  by_cases hok : (o1 = true ∧ o2 = true) ∧ o3 = true
  · obtain ⟨⟨rfl, rfl⟩, rfl⟩ := hok
    go_wp2
    obtain ⟨kk, bb⟩ := HFN.out n1 n2 n3
    have HTT := Lib.hid (show etT s = true by rw [HT.out]; rfl)
    have HKK := Lib.hid kk
    generalize hW : ((w5.setCell ⟨w.heap.size, 0, none⟩ (.int .i64 n1)).setCell ⟨w.heap.size, 1, none⟩ (.int .i64 n2)).setCell ⟨w.heap.size, 2, none⟩ (.int .i64 n3) = w6 at *
    obtain ⟨x0, x1, x2⟩ := kk.three
    refine bodyPost_ret (v := .tuple #[.agg #[.int .i64 n1, .int .i64 n2, .int .i64 n3], .bool true]) (by simp [results, Tryz.results239, go_sem, x0, x1, x2]) rfl ⟨n1, n2, n3, by rw [HTT.out], fun _ => HV.out.symm, ⟨by show _ ≤ n1 ∧ n1 ≤ _; omega, by show _ ≤ n2 ∧ n2 ≤ _; omega, by show _ ≤ n3 ∧ n3 ≤ _; omega⟩, bb⟩
  · have HTF := Lib.hid (show etT s = false by
      rw [HT.out, Bool.eq_false_iff]
      intro h
      rw [Bool.and_eq_true, Bool.and_eq_true] at h
      exact hok h)
    have HN := Lib.hid hok
    clear hok
    cases o1
    case' true => cases o2
    case' true.true => cases o3
    case true.true.true => exact absurd ⟨⟨rfl, rfl⟩, rfl⟩ HN.out
    all_goals
      go_wp2
      obtain ⟨kk, bb⟩ := HFN.out 0 0 0
      generalize hW : ((w5.setCell ⟨w.heap.size, 0, none⟩ (.int .i64 0)).setCell ⟨w.heap.size, 1, none⟩ (.int .i64 0)).setCell ⟨w.heap.size, 2, none⟩ (.int .i64 0) = w6 at *
      obtain ⟨x0, x1, x2⟩ := kk.three
      refine bodyPost_ret (v := .tuple #[.agg #[.int .i64 0, .int .i64 0, .int .i64 0], .bool false]) (by simp [results, Tryz.results239, go_sem, x0, x1, x2]) rfl ⟨0, 0, 0, by rw [HTF.out], fun h => absurd h (by rw [HTF.out]; simp), ⟨by decide, by decide, by decide⟩, bb⟩
end Go.Proofs.YtpniljcnknknoaaGreatDoor

/-
  Errata (impl): ParseErrata, whatever the text is.
-/
namespace Go.Proofs.YtpniljcnknknoaaGreatDoor
open Go.RowKit Go.Shelf
set_option linter.unusedVariables false
set_option linter.unusedSimpArgs false
set_option maxRecDepth 100000
attribute [local go_sem] Oper.semAt_some

theorem EtO.keepRow {w w' : World} {base : Nat} {v : Value} {es : List Etm} {row : Option Nat} (h : EtO w base v es) (hb : w.grownBy w' row) (hr : ∀ k, v.ownBlock = some k → some k ≠ row) : EtO w' base v es :=
  ⟨h.1.kept hb (by
    cases hv : v.ownBlock with
    | none => exact .inl rfl
    | some k => exact .inr (hr k hv)), h.2⟩
theorem et_cells {w : World} {base k : Nat} {v : Value} {es : List Etm} (h : EtO w base v es) (hv : v.ownBlock = some k) : ∃ o : Obj, w.heap[k]? = some o ∧ o.isCells = true := by
  rcases h.1.2 with ⟨rfl, -⟩ | ⟨g, cap, cur, rfl, -, hh, -⟩
  · cases hv
  · injection hv with hv
    subst hv
    exact ⟨_, hh, rfl⟩
/-- The boxes when pieces have been read. -/
def PeB (w : World) (B : Nat) (v : Value) (es : List Etm) (X : World) : Prop :=
  Blk X w.heap.size 69 [.slice none 0 0] ∧ Blk X (w.heap.size + 1) 4 [.bool false] ∧ Blk X (w.heap.size + 2) 69 [v] ∧ EtO X B v es ∧ Below w.heap.size w X ∧ B ≤ X.heap.size
def PeI (w : World) (B : Nat) (pre : List ByteArray) (X : World) : Prop := ∃ v, PeB w B v (pre.map etV) X ∧ peAll pre = true
/-- The function left at a piece that is none. -/
def PeX (w : World) (xs : List ByteArray) (c : Code) (pre : List ByteArray) (X : World) : Prop :=
  c = .ret ∧ peAll xs = false ∧ Blk X w.heap.size 69 [.slice none 0 0] ∧ Blk X (w.heap.size + 1) 4 [.bool false] ∧ Below w.heap.size w X
theorem peI_abide (w : World) (B b : Nat) (hb : w.heap.size + 3 ≤ b) (hB : b + 3 ≤ B) : AbC B b (PeI w B) := by
  rintro s X X' row ⟨v, ⟨k0, k1, k2, ho, hbel, hz⟩, hal⟩ hg hr
  have ne : ∀ q, q < b → some q ≠ row := fun q hq e => by
    rcases hr q e.symm with h | ⟨h, -⟩ <;> omega
  refine ⟨v, ⟨k0.grown hg (ne _ (by omega)), k1.grown hg (ne _ (by omega)), k2.grown hg (ne _ (by omega)), ho.keepRow hg (fun k hk e => ?_), hbel.trans ((Below.refl _ X).grown hg hbel.size (fun k e => ?_)), Nat.le_trans hz hg.size⟩, hal⟩
  · rcases hr k e.symm with h | ⟨h, o, h1, h2⟩
    · have := (ho.lt k hk).1
      omega
    · obtain ⟨o', h3, h4⟩ := et_cells ho hk
      rw [h1] at h3
      injection h3 with h3
      subst h3
      rw [h2] at h4
      cases h4
  · rcases hr k e with h | ⟨h, -⟩ <;> omega
theorem peX_abide (w : World) (B b : Nat) (xs : List ByteArray) (hb : w.heap.size + 3 ≤ b) (hB : b + 3 ≤ B) (c : Code) : AbC B b (PeX w xs c) := by
  rintro s X X' row ⟨hc, hx, k0, k1, hbel⟩ hg hr
  have ne : ∀ q, q < b → some q ≠ row := fun q hq e => by
    rcases hr q e.symm with h | ⟨h, -⟩ <;> omega
  refine ⟨hc, hx, k0.grown hg (ne _ (by omega)), k1.grown hg (ne _ (by omega)), hbel.trans ((Below.refl _ X).grown hg hbel.size (fun k e => ?_))⟩
  rcases hr k e with h | ⟨h, -⟩ <;> omega
/-- 'list = append(list, erratum)' inside a fence. -/
theorem app_etIn {F : Fence} {n : Nat} {ops : Array Oper} {rest : List Oper} {o : Oper} {a : Act} {Q : Exit → Act → World → Prop} {w : World} (hgd : o.guard = none) (s x : Operand)
    (ho : o.op = .call { callee := .builtin .append, args := #[s, x], argTypes := #[69, 69] })
    (base : Nat) (v : Value) (es : List Etm) (hs : a.eval s = v) (hown : EtO w base v es) (g c : Nat) (y : Etm) (hx : a.eval x = .slice (some ⟨g, 0, none⟩) 1 c)
    (hcell : Blk w g 127 [.int .i64 y.1, .int .i64 y.2.1, .int .i64 y.2.2]) (hy : etIn y) (hl : es.length + 1 ≤ 1048576) (hbase : base ≤ w.heap.size)
    (h : ∀ v' w', EtO w' base v' (es ++ [y]) → w.grownBy w' v.ownBlock → wpListIn F n Tryz.prog ops Q rest (a.put o.dst v') w') : wpListIn F n Tryz.prog ops Q (o :: rest) a w := by
  obtain ⟨i0, hi, hz0, hz1, hz2⟩ := seg_parts Tryz.infoEt
  obtain ⟨k2, k3, k4⟩ := hown
  refine wpListIn_append_own (P := Tryz.prog) w hgd s x 69 ho base 127 i0 _ 3 24 Tryz.underlying69 hi hz0 hz1 hz2 rfl (by omega) v es.length (etC es) hs k2 ⟨g, 0, none⟩ 1 c [.int .i64 y.1, .int .i64 y.2.1, .int .i64 y.2.2] hx rfl ?_ ?_ (by unfold maxLen; omega) (by omega) hbase ?_
  · intro j z hj
    have f : (⟨g, 0, none⟩ : Addr).add j = ⟨g, j, none⟩ := by unfold Addr.add; split <;> simp_all
    rw [f, hcell.cell]
    exact hj
  · intro z hz
    simp at hz
    rcases hz with rfl | rfl | rfl <;> rfl
  · intro v' w' h1 h2 _
    refine h v' w' ⟨?_, by simp; omega, fun k hk => ?_⟩ h2
    · rw [etC_app, List.length_append]; exact h1
    · rw [List.length_append, List.length_singleton] at hk
      rcases Nat.lt_or_ge k es.length with q | q
      · have : etAt (es ++ [y]) k = etAt es k := by unfold etAt; simp only [List.getD]; rw [List.getElem?_append_left q]
        rw [this]; exact k4 k q
      · obtain rfl : k = es.length := by omega
        have : etAt (es ++ [y]) es.length = y := by unfold etAt; simp [List.getD]
        rw [this]; exact hy
/-- What a piece that is none leaves. -/
theorem pe_ret {w X X3 : World} {B : Nat} {xs pre : List ByteArray} (hB : B = w.heap.size + 6) (hbel : Below w.heap.size w X) (hz : B ≤ X.heap.size) (b3 : Below X.heap.size X X3)
    (g0 : Blk X3 w.heap.size 69 [.slice none 0 0]) (g1 : Blk X3 (w.heap.size + 1) 4 [.bool false]) (hx : peAll xs = false) :
    KeepsFrom B X ((X3.setCell ⟨w.heap.size, 0, none⟩ (.slice none 0 0)).setCell ⟨w.heap.size + 1, 0, none⟩ (.bool false)) ∧ PeX w xs .ret pre ((X3.setCell ⟨w.heap.size, 0, none⟩ (.slice none 0 0)).setCell ⟨w.heap.size + 1, 0, none⟩ (.bool false)) := by
  have hbs : Below w.heap.size X ((X3.setCell ⟨w.heap.size, 0, none⟩ (.slice none 0 0)).setCell ⟨w.heap.size + 1, 0, none⟩ (.bool false)) :=
    ((b3.mono (show w.heap.size ≤ X.heap.size by omega)).setCell (p := ⟨w.heap.size, 0, none⟩) (Nat.le_refl _) _).setCell (p := ⟨w.heap.size + 1, 0, none⟩) (by show w.heap.size ≤ w.heap.size + 1; omega) _
  refine ⟨⟨hbs.size, fun j o hj hh hc => ?_⟩, rfl, hx, ?_, ?_, hbel.trans hbs⟩
  · have hjz := (Array.getElem?_eq_some_iff.1 hh).1
    rw [Below.heap_setCell _ ⟨w.heap.size + 1, 0, none⟩ _ j (by show j ≠ w.heap.size + 1; omega), Below.heap_setCell _ ⟨w.heap.size, 0, none⟩ _ j (by show j ≠ w.heap.size; omega), b3.block j hjz]
    exact hh
  · exact (g0.set_ 0 _).far (p := ⟨w.heap.size + 1, 0, none⟩) (by show w.heap.size ≠ w.heap.size + 1; omega) _
  · exact (g1.far (p := ⟨w.heap.size, 0, none⟩) (by show w.heap.size + 1 ≠ w.heap.size; omega) _).set_ 0 _
/-- What a piece's round leaves. -/
theorem pe_end {w X X3 X4 : World} {B : Nat} {v v' : Value} {es : List Etm} {y : Etm} {pre : List ByteArray} {x : ByteArray} (hB : B = w.heap.size + 6)
    (c0 : Blk X w.heap.size 69 [.slice none 0 0]) (c1 : Blk X (w.heap.size + 1) 4 [.bool false]) (c2 : Blk X (w.heap.size + 2) 69 [v])
    (ho : EtO X B v es) (hbel : Below w.heap.size w X) (hz : B ≤ X.heap.size) (hp : pre.map etV = es) (hy : y = etV x) (hal : peAll pre = true) (hx : etT x = true)
    (b3 : Below X.heap.size X X3) (o4 : EtO X4 B v' (es ++ [y])) (hg4 : X3.grownBy X4 v.ownBlock) :
    KeepsFrom B X (X4.setCell ⟨w.heap.size + 1 + 1, 0, none⟩ v') ∧ KpC w.heap.size (w.heap.size + 3) X (X4.setCell ⟨w.heap.size + 1 + 1, 0, none⟩ v') ∧ PeI w B (pre ++ [x]) (X4.setCell ⟨w.heap.size + 1 + 1, 0, none⟩ v') := by
  have own : ∀ k, v.ownBlock = some k → B ≤ k ∧ k < X.heap.size := ho.lt
  have hlow : ∀ k, k < B → k < X.heap.size → k ≠ w.heap.size + 2 → (X4.setCell ⟨w.heap.size + 1 + 1, 0, none⟩ v').heap[k]? = X.heap[k]? := fun k hk hkz hne =>
    (Below.heap_setCell X4 ⟨w.heap.size + 1 + 1, 0, none⟩ v' k (by show k ≠ w.heap.size + 1 + 1; omega)).trans ((hg4.block k (Nat.lt_of_lt_of_le hkz b3.size) (fun e => by have := (own k e.symm).1; omega)).trans (b3.block k hkz))
  have hBel : Below w.heap.size X (X4.setCell ⟨w.heap.size + 1 + 1, 0, none⟩ v') := by
    have h1 : Below w.heap.size X X3 := b3.mono (Nat.le_trans (by omega) hz)
    have h2 : Below w.heap.size X3 X4 := (Below.refl _ X3).grown hg4 (Nat.le_trans hbel.size b3.size) (fun k e => by have := (own k e).1; omega)
    exact (h1.trans h2).setCell (p := ⟨w.heap.size + 1 + 1, 0, none⟩) (by show w.heap.size ≤ w.heap.size + 1 + 1; omega) v'
  have keep : ∀ {k : Nat} {t : TypeId} {cs : List Value}, Blk X k t cs → k < B → k ≠ w.heap.size + 2 → Blk (X4.setCell ⟨w.heap.size + 1 + 1, 0, none⟩ v') k t cs := fun h h1 h2 => (hlow _ h1 h.lt h2).trans h
  refine ⟨?_, ⟨hBel, fun k h1 h2 => hlow k (by omega) (by omega) (by omega)⟩, v', ⟨keep c0 (by omega) (by omega), keep c1 (by omega) (by omega), ?_, ?_, hbel.trans hBel, Nat.le_trans hz hBel.size⟩, ?_⟩
  · refine ⟨hBel.size, fun j o hj hh hc => ?_⟩
    have hjz := (Array.getElem?_eq_some_iff.1 hh).1
    rw [Below.heap_setCell X4 ⟨w.heap.size + 1 + 1, 0, none⟩ v' j (by show j ≠ w.heap.size + 1 + 1; omega), hg4.block j (Nat.lt_of_lt_of_le hjz b3.size) (fun e => by
      obtain ⟨o', q1, q2⟩ := et_cells ho e.symm
      rw [hh] at q1
      injection q1 with q1
      subst q1
      rw [hc] at q2
      cases q2), b3.block j hjz]
    exact hh
  · have : Blk X4 (w.heap.size + 2) 69 [v] := (hg4.block (w.heap.size + 2) (Nat.lt_of_lt_of_le c2.lt b3.size) (fun e => by have := (own _ e.symm).1; omega)).trans ((b3.block _ c2.lt).trans c2)
    exact this.set_ 0 v'
  · rw [List.map_append, hp, List.map_cons, List.map_nil, ← hy]
    exact o4.keepRow (grown_set X4 (w.heap.size + 1 + 1) 0 v') (fun k hk e => by
      injection e with e
      have := (o4.lt k hk).1
      omega)
  · unfold peAll at hal ⊢
    rw [List.all_append, hal]
    simp [hx]
theorem pe_bad {pre rest xs : List ByteArray} {x : ByteArray} (h : xs = pre ++ x :: rest) (hq : etT x = false) : peAll xs = false := by
  rw [h]
  unfold peAll
  rw [List.all_append, List.all_cons, hq]
  simp
/-- The mark taken away: what the results read then. -/
theorem pe_fin {w V : World} {D B : Nat} {u : Value} {q : Bool} {es : List Etm} (h0 : Blk V w.heap.size 69 [u]) (h1 : Blk V (w.heap.size + 1) 4 [.bool q]) (ho : EtO V B u es) (hb : Below w.heap.size w V) (hD : w.heap.size + 2 ≤ D) (hB : w.heap.size ≤ B)
    (hK : V.heap[D]? = some (.deferred (some []))) : (V.putObj D (.deferred none)).cell? ⟨w.heap.size, 0, none⟩ = some u ∧ (V.putObj D (.deferred none)).cell? ⟨w.heap.size + 1, 0, none⟩ = some (.bool q) ∧ EtO (V.putObj D (.deferred none)) w.heap.size u es ∧ Below w.heap.size w (V.putObj D (.deferred none)) := by
  have v1 : Blk (V.putObj D (.deferred none)) w.heap.size 69 [u] := (World.putObj_heap_other (by omega)).trans h0
  have v2 : Blk (V.putObj D (.deferred none)) (w.heap.size + 1) 4 [.bool q] := (World.putObj_heap_other (by omega)).trans h1
  have v3 : EtO (V.putObj D (.deferred none)) B u es := ho.keepRow (grownBy_putObj' V D _) (fun k hk e => by
    injection e with e
    subst e
    obtain ⟨o', q1, q2⟩ := et_cells ho hk
    rw [hK] at q1
    injection q1 with q1
    subst q1
    cases q2)
  exact ⟨v1.one.1, v2.one.1, v3.lower hB, hb.trans (belowK_b (w := w) (Nat.le_refl _) V D _ _ (by omega) hK rfl rfl)⟩
/-- Both results stored. -/
theorem pe_put {w X2 : World} {D B : Nat} {u r : Value} {q : Bool} {es : List Etm} (g0 : Blk X2 w.heap.size 69 [r]) (g1 : Blk X2 (w.heap.size + 1) 4 [.bool false]) (ho : EtO X2 B u es) (hb : Below w.heap.size w X2) (hB : w.heap.size + 2 ≤ B) (hD : w.heap.size + 2 ≤ D)
    (hK : X2.heap[D]? = some (.deferred (some []))) :
    Blk ((X2.setCell ⟨w.heap.size, 0, none⟩ u).setCell ⟨w.heap.size + 1, 0, none⟩ (.bool q)) w.heap.size 69 [u] ∧ Blk ((X2.setCell ⟨w.heap.size, 0, none⟩ u).setCell ⟨w.heap.size + 1, 0, none⟩ (.bool q)) (w.heap.size + 1) 4 [.bool q] ∧
    EtO ((X2.setCell ⟨w.heap.size, 0, none⟩ u).setCell ⟨w.heap.size + 1, 0, none⟩ (.bool q)) B u es ∧ Below w.heap.size w ((X2.setCell ⟨w.heap.size, 0, none⟩ u).setCell ⟨w.heap.size + 1, 0, none⟩ (.bool q)) ∧
    ((X2.setCell ⟨w.heap.size, 0, none⟩ u).setCell ⟨w.heap.size + 1, 0, none⟩ (.bool q)).heap[D]? = some (.deferred (some [])) := by
  refine ⟨(g0.set_ 0 _).far (p := ⟨w.heap.size + 1, 0, none⟩) (by show w.heap.size ≠ w.heap.size + 1; omega) _, (g1.far (p := ⟨w.heap.size, 0, none⟩) (by show w.heap.size + 1 ≠ w.heap.size; omega) _).set_ 0 _, ?_, (hb.setCell (p := ⟨w.heap.size, 0, none⟩) (Nat.le_refl _) _).setCell (p := ⟨w.heap.size + 1, 0, none⟩) (by show w.heap.size ≤ w.heap.size + 1; omega) _, ?_⟩
  · have far : ∀ (Y : World) (i : Nat) (z : Value), i < B → EtO Y B u es → EtO (Y.setCell ⟨i, 0, none⟩ z) B u es := fun Y i z hi h => h.keepRow (grown_set Y i 0 z) (fun k hk e => by
      injection e with e
      have := (h.lt k hk).1
      omega)
    exact far _ (w.heap.size + 1) _ (by omega) (far _ w.heap.size _ (by omega) ho)
  · exact (Below.heap_setCell _ ⟨w.heap.size + 1, 0, none⟩ _ D (by show D ≠ w.heap.size + 1; omega)).trans ((Below.heap_setCell _ ⟨w.heap.size, 0, none⟩ _ D (by show D ≠ w.heap.size; omega)).trans hK)
theorem pe_yes {t : ByteArray} (h45 : t ≠ ⟨#[45]⟩) (h1 : peAll (cutS 59 t) = true) (h2 : etsOk ((cutS 59 t).map etV) = true) : peOk t = true ∧ peL t = (cutS 59 t).map etV := by
  have : peOk t = true := by unfold peOk; rw [h1, h2]; simp
  exact ⟨this, by unfold peL; rw [if_neg h45, if_pos this]⟩
theorem pe_no {t : ByteArray} (h45 : t ≠ ⟨#[45]⟩) (h : peAll (cutS 59 t) = false ∨ etsOk ((cutS 59 t).map etV) = false) : peOk t = false ∧ peL t = [] := by
  have : peOk t = false := by
    unfold peOk
    rw [decide_eq_false h45]
    rcases h with h | h <;> rw [h] <;> simp
  exact ⟨this, by unfold peL; rw [if_neg h45, this]; rfl⟩
theorem pe_len (t : ByteArray) : 1 ≤ (cutS 59 t).length := by
  unfold cutS
  rw [List.length_map]
  exact List.length_pos_iff.2 (cutB_ne 59 _)
set_option maxHeartbeats 4000000 in
theorem implPE_any (t : ByteArray) (w : World) (hs : t.size ≤ 1000000) (hg : Glb w) (hnm : 1 < w.heap.size) :
    Calls Tryz.prog 204 #[.string t] w (EtQ w (peL t) (peOk t)) := by
  have HG := Lib.hid hg
  clear hg
  have K0 := Blk.new w 69 [.slice none 0 0]
  have K1 := (K0.alloc (.cells #[.bool false] 4))
  have K2 := Blk.newG (w.alloc (.cells #[.slice none 0 0] 69)) 4 [.bool false] (w.heap.size + 1) (by simp)
  have B2 := Lib.hid (show Below w.heap.size w ((w.alloc (.cells #[.slice none 0 0] 69)).alloc (.cells #[.bool false] 4)) from (bel_alloc w _).alloc (by simp) _)
  refine (callsIn_wide (n := 0)).1 ?_
  refine callsIn_of_wp_marks Tryz.func204 rfl trivial ?_ rfl
  simp only [Tryz.ntmps204, List.size_toArray, List.length_cons, List.length_nil, Nat.reduceAdd, Nat.reduceSub, Array.replicate_succ, Array.replicate_zero, List.push_toArray, List.append_toArray, List.nil_append, List.cons_append]
  by_cases h45 : t = ⟨#[45]⟩
  · subst h45
    gi_wp2
    have K3 := Blk.newG (w.alloc (.cells #[.slice none 0 0] 69)) 4 [.bool true] (w.heap.size + 1) (by simp)
    have K4 := K0.alloc (.cells #[.bool true] 4)
    have B4 : Below w.heap.size w ((w.alloc (.cells #[.slice none 0 0] 69)).alloc (.cells #[.bool true] 4)) := (bel_alloc w _).alloc (by simp) _
    obtain ⟨t1, -⟩ := K4.one
    obtain ⟨t2, -⟩ := K3.one
    have hp : peOk ⟨#[45]⟩ = true ∧ peL ⟨#[45]⟩ = [] := ⟨by unfold peOk; simp, by unfold peL; simp⟩
    exact ⟨.tuple #[.slice none 0 0, .bool true], by simp [results, Tryz.results204, go_sem, t1, t2], _, by rw [hp.1], by rw [hp.2]; exact EtO.nil_ _ _, B4⟩
  · have H45 := Lib.hid h45
    have z1 : (t.toList == [45]) = false := by
      have := bne_of2 h45
      rw [show (⟨#[45]⟩ : ByteArray).toList = [45] from by simp] at this
      simpa using this
    gi_wp2
    refine ⟨trivial, rfl, (callsIn_wide.2 (splitSeqV_any t ⟨#[59]⟩ _)).mono ?_⟩
    rintro e w4 ⟨rfl, rfl⟩
    obtain ⟨s0, s1, s2, s3, s4⟩ := seqW_blk (((w.alloc (.cells #[.slice none 0 0] 69)).alloc (.cells #[.bool false] 4)).alloc (.cells #[.slice none 0 0] 69)) t ⟨#[59]⟩
    have e3 : (((w.alloc (.cells #[.slice none 0 0] 69)).alloc (.cells #[.bool false] 4)).alloc (.cells #[.slice none 0 0] 69)).heap.size = w.heap.size + 3 := by simp
    have k3 := Blk.newG ((w.alloc (.cells #[.slice none 0 0] 69)).alloc (.cells #[.bool false] 4)) 69 [.slice none 0 0] (w.heap.size + 2) (by simp)
    have q0 := (K1.alloc (.cells #[.slice none 0 0] 69)).below s3 (by simp; omega)
    have q1 := (K2.alloc (.cells #[.slice none 0 0] 69)).below s3 (by simp)
    have q2 := k3.below s3 (by simp)
    have B3 : Below w.heap.size w _ := bel_trans (B2.out.alloc (by simp; omega) (.cells #[.slice none 0 0] 69)) s3
    rw [e3] at s0 s1 s2 s4
    rw [e3]
    generalize hW4 : seqW (((w.alloc (.cells #[.slice none 0 0] 69)).alloc (.cells #[.bool false] 4)).alloc (.cells #[.slice none 0 0] 69)) t ⟨#[59]⟩ = w4 at *
    clear hW4 e3 k3 K0 K1 K2 B2
    gi_wp2
    obtain ⟨m, hm⟩ := (HG.out.bel B3).2.1
    have hseq := splitSeq_in t ⟨#[59]⟩ m w.heap.size (w.heap.size + 3) w4 (by decide) (by omega) (by decide) s0 s1 s2 hnm (by omega) hm
    rw [show pieces ⟨#[59]⟩ t = cutS 59 t from cutS_split 59 t] at hseq
    have hsz4 : w4.heap.size = w.heap.size + 6 := by omega
    have hI0 : PeI w w4.heap.size [] w4 := ⟨_, ⟨q0, q1, q2, EtO.nil_ _ _, B3, Nat.le_refl _⟩, rfl⟩
    have HB := Lib.hid B3
    clear hm s0 s1 s2 s3 q0 q1 q2 B3 s4
    refine range_seqC (gf := 223) (n := w.heap.size) (b := w.heap.size + 3) rfl (enters_of Tryz.func223 (by kernel_rfl) rfl) (by omega) (by omega) hseq (PeI w w4.heap.size) (PeX w (cutS 59 t))
      (peI_abide w w4.heap.size (w.heap.size + 3) (by omega) (by omega)) (fun c => peX_abide w w4.heap.size (w.heap.size + 3) _ (by omega) (by omega) c) hI0
      (fun x => { tmps := #[.string t, undef, .pointer (some ⟨w.heap.size, 0, none⟩), .pointer (some ⟨w.heap.size + 1, 0, none⟩), .pointer (some ⟨w.heap.size + 1 + 1, 0, none⟩), .string x, undef, undef, .string t, .bool false, .string t, seqV (w.heap.size + 3), .string x, undef, undef, undef, undef, undef, undef, undef, undef, undef, undef, undef, undef, undef, undef, undef], defers := [] }) ?assign ?body ?done ?stop
    case assign =>
      intro q x X K hK
      gi_wp2
      exact hK
    case body =>
      rintro q pre x rest X ⟨v, ⟨c0, c1, c2, ho, hbel, hz⟩, hal⟩ hx hxz
      have hmem : x ∈ cutS 59 t := by rw [hx]; simp
      have hxs := cutS_mem_size (c := 59) hmem
      have hlen := cutS_le 59 t
      have hpl : pre.length < (cutS 59 t).length := by rw [hx]; simp
      have HX := Lib.hid hx
      have HAL := Lib.hid hal
      have HGX := Lib.hid (HG.out.bel hbel)
      have C := Lib.hid (And.intro c0 (And.intro c1 (And.intro c2 (And.intro ho (And.intro hbel hz)))))
      have HS4 := Lib.hid hsz4
      have hz1 : w.heap.size + 6 ≤ X.heap.size := by omega
      clear hx hal c0 c1 c2 ho hbel hmem hseq hI0 HB h45 z1 hsz4 hz
      gi_wp2
      refine ⟨trivial, rfl, (CallsIn.inRound q (callsIn_wide.2 (parseEt_any x X (by omega) HGX.out))).mono ?_⟩
      rintro e X2 ⟨a, b, c, rfl, hv, hin, b2⟩
      have z2 := b2.size
      have HB2 := Lib.hid b2
      have g0 := C.out.1.below b2 C.out.1.lt
      have g1 := C.out.2.1.below b2 C.out.2.1.lt
      have g2 := C.out.2.2.1.below b2 C.out.2.2.1.lt
      have G := Lib.hid (And.intro g0 (And.intro g1 (And.intro g2 (C.out.2.2.2.1.bel b2))))
      have K5 := Blk.new X2 127 [.int .i64 a, .int .i64 b, .int .i64 c]
      have BX := Lib.hid (bel_alloc X2 (.cells #[.int .i64 a, .int .i64 b, .int .i64 c] 127))
      have G5 := Lib.hid (And.intro (g0.alloc (.cells #[.int .i64 a, .int .i64 b, .int .i64 c] 127)) (And.intro (g1.alloc (.cells #[.int .i64 a, .int .i64 b, .int .i64 c] 127)) (And.intro (g2.alloc (.cells #[.int .i64 a, .int .i64 b, .int .i64 c] 127)) (G.out.2.2.2.bel BX.out))))
      obtain ⟨y0, fy0⟩ := G5.out.1.one
      obtain ⟨y1, fy1⟩ := G5.out.2.1.one
      obtain ⟨y2, fy2⟩ := G5.out.2.2.1.one
      obtain ⟨t0, t1, t2⟩ := K5.three
      have HV := Lib.hid (And.intro hv hin)
      clear b2 g0 g1 g2 hv hin
      cases hq : etT x
      · gi_wp2
        exact pe_ret (X3 := X2.alloc (.cells #[.int .i64 a, .int .i64 b, .int .i64 c] 127)) HS4.out C.out.2.2.2.2.1 hxz (bel_trans HB2.out BX.out) G5.out.1 G5.out.2.1 (pe_bad HX.out hq)
      · have hln : (pre.map etV).length + 1 ≤ 1048576 := by rw [List.length_map]; omega
        have HBQ := Lib.hid (bel_trans BX.out (bel_alloc (X2.alloc (.cells #[.int .i64 a, .int .i64 b, .int .i64 c] 127)) (.cells #[.int .i64 a, .int .i64 b, .int .i64 c] 127)))
        have HG2 := Lib.hid (G5.out.2.2.1.alloc (.cells #[.int .i64 a, .int .i64 b, .int .i64 c] 127))
        have HO2 := Lib.hid (G.out.2.2.2.bel HBQ.out)
        have HZ2 := Lib.hid (show w4.heap.size ≤ ((X2.alloc (.cells #[.int .i64 a, .int .i64 b, .int .i64 c] 127)).alloc (.cells #[.int .i64 a, .int .i64 b, .int .i64 c] 127)).heap.size by have := HBQ.out.size; omega)
        have HY := Lib.hid (show (a, b, c) = etV x from HV.out.1 hq)
        have HQ := Lib.hid hq
        clear hq
        gi_wp2_with (gi_at_builtin; refine app_etIn rfl _ _ (by rfl) w4.heap.size v (pre.map etV) (by rfl) HO2.out _ _ (a, b, c) (by rfl) (by exact Blk.newG _ _ [.int .i64 a, .int .i64 b, .int .i64 c] _ (by simp)) HV.out.2 hln HZ2.out ?_; intro v4 X4 o4 hg4; obtain ⟨A4, c4, e4⟩ := o4.open_; obtain ⟨N4, hN4⟩ : ∃ N, (pre.map etV ++ [(a, b, c)]).length = N := ⟨_, rfl⟩; rw [hN4] at e4; subst e4; clear hN4; obtain ⟨z0, fz⟩ := (HG2.out.grown hg4 (fun e => by have := (HO2.out.lt _ e.symm).1; have := HS4.out; omega)).one)
        exact pe_end HS4.out C.out.1 C.out.2.1 C.out.2.2.1 C.out.2.2.2.1 C.out.2.2.2.2.1 hxz rfl HY.out HAL.out HQ.out (bel_trans HB2.out HBQ.out) o4 hg4
    case done =>
      rintro D X hD ⟨v, ⟨c0, c1, c2, ho, hbel, hz⟩, hal⟩ hK
      have HKD := Lib.hid hK
      have HAL := Lib.hid hal
      have HS4 := Lib.hid hsz4
      have C := Lib.hid (And.intro c0 (And.intro c1 (And.intro c2 (And.intro ho (And.intro hbel hz)))))
      obtain ⟨y2, fy2⟩ := c2.one
      have hDX := (Array.getElem?_eq_some_iff.1 hK).1
      have hD6 : w.heap.size + 6 ≤ D := by omega
      clear hseq hI0 HB h45 z1 hsz4 c0 c1 c2 ho hbel hz hal hK hD
      gi_wp2
      refine ⟨trivial, rfl, (callsIn_wide.2 (errVal_any v ((cutS 59 t).map etV) X C.out.2.2.2.1.read)).mono ?_⟩
      rintro e X2 ⟨rfl, b2⟩
      have HB2 := Lib.hid b2
      have g0 := C.out.1.below b2 C.out.1.lt
      have g1 := C.out.2.1.below b2 C.out.2.1.lt
      have g2 := C.out.2.2.1.below b2 C.out.2.2.1.lt
      obtain ⟨x0, f0⟩ := g0.one
      obtain ⟨x1, f1⟩ := g1.one
      obtain ⟨x2, f2⟩ := g2.one
      have O2 := Lib.hid (C.out.2.2.2.1.bel b2)
      have HKD2 := Lib.hid ((b2.block D hDX).trans HKD.out)
      have HB3 := Lib.hid (C.out.2.2.2.2.1.trans (b2.mono (by have := C.out.2.2.2.2.2; have := HS4.out; omega)))
      have G := Lib.hid (And.intro g0 (And.intro g1 g2))
      clear b2 g0 g1 g2 y2 fy2
      cases hq : etsOk ((cutS 59 t).map etV)
      · have HN := Lib.hid (pe_no H45.out (.inr hq))
        clear hq
        gi_wp2
        obtain ⟨k0, k1, k2, k3, k4⟩ := pe_put (u := .slice none 0 0) (q := false) G.out.1 G.out.2.1 (EtO.nil_ X2 (w.heap.size + 2)) HB3.out (Nat.le_refl _) (by omega) HKD2.out
        obtain ⟨u1, u2, u3, u4⟩ := pe_fin k0 k1 k2 k3 (by omega) (by omega) k4
        refine ⟨by simp, .inl ⟨_, _, rfl, run_takeDeferred k4, ?_⟩⟩
        exact ⟨.tuple #[.slice none 0 0, .bool false], by simp [results, Tryz.results204, go_sem, u1, u2], _, by rw [HN.out.1], by rw [HN.out.2]; exact u3, u4⟩
      · have HN := Lib.hid (pe_yes H45.out HAL.out hq)
        clear hq
        obtain ⟨es, hes⟩ : ∃ es, (cutS 59 t).map etV = es := ⟨_, rfl⟩
        rw [hes] at O2 HN
        obtain ⟨A4, c4, e4⟩ := O2.out.open_
        obtain ⟨N4, hN4⟩ : ∃ N, es.length = N := ⟨_, rfl⟩
        rw [hN4] at e4
        subst e4
        clear hN4 hes
        gi_wp2
        obtain ⟨k0, k1, k2, k3, k4⟩ := pe_put (u := .slice A4 N4 c4) (q := true) G.out.1 G.out.2.1 O2.out HB3.out (by have := HS4.out; omega) (by omega) HKD2.out
        obtain ⟨u1, u2, u3, u4⟩ := pe_fin k0 k1 k2 k3 (by omega) (by have := HS4.out; omega) k4
        refine ⟨by simp, .inl ⟨_, _, rfl, run_takeDeferred k4, ?_⟩⟩
        exact ⟨.tuple #[.slice A4 N4 c4, .bool true], by simp [results, Tryz.results204, go_sem, u1, u2], _, by rw [HN.out.1], by rw [HN.out.2]; exact u3, u4⟩
    case stop =>
      rintro D c pre rest X hD hx ⟨rfl, hbad, c0, c1, hbel⟩ hK
      have HN := Lib.hid (pe_no H45.out (.inl hbad))
      obtain ⟨u1, u2, u3, u4⟩ := pe_fin (B := w.heap.size) c0 c1 (EtO.nil_ X w.heap.size) hbel (by omega) (Nat.le_refl _) hK
      clear hseq hI0 HB h45 z1
      gi_wp2
      refine ⟨by simp, .inl ⟨_, _, rfl, run_takeDeferred hK, ?_⟩⟩
      exact ⟨.tuple #[.slice none 0 0, .bool false], by simp [results, Tryz.results204, go_sem, u1, u2], _, by rw [HN.out.1], by rw [HN.out.2]; exact u3, u4⟩
end Go.Proofs.YtpniljcnknknoaaGreatDoor
