/-
  Texts of numbers and of jobs, parsed: the plain side.
-/
import Derived.Test.YtdmadaebeooaaaaGreatDoorFmt
import Derived.Lib.SplitLaws
import Derived.Lib.AtoiErr
namespace Go.Proofs.YtdmadaebeooaaaaGreatDoor
open Go.RowKit
set_option linter.unusedVariables false
set_option linter.unusedSimpArgs false
set_option maxRecDepth 100000

/-- A piece ahead of the first of a list of pieces. -/
def glue (p : List UInt8) : List (List UInt8) → List (List UInt8)
  | [] => [p]
  | q :: r => (p ++ q) :: r
theorem glue_nil {x : List (List UInt8)} (h : x ≠ []) : glue [] x = x := by cases x with | nil => exact absurd rfl h | cons a r => rfl
theorem glue_glue (p q : List UInt8) (x : List (List UInt8)) : glue p (glue q x) = glue (p ++ q) x := by cases x with | nil => rfl | cons a r => simp [glue]
/-- The pieces of a text between the bytes c. -/
def cutB (c : UInt8) : List UInt8 → List (List UInt8)
  | [] => [[]]
  | b :: r => if b = c then [] :: cutB c r else glue [b] (cutB c r)
theorem cutB_ne (c : UInt8) (s : List UInt8) : cutB c s ≠ [] := by
  cases s with
  | nil => simp [cutB]
  | cons b r =>
    unfold cutB
    split
    · simp
    · cases cutB c r <;> simp [glue]
theorem cutB_hit (c : UInt8) (r : List UInt8) : cutB c (c :: r) = [] :: cutB c r := by simp [cutB]
theorem cutB_miss {b c : UInt8} (h : b ≠ c) (r : List UInt8) : cutB c (b :: r) = glue [b] (cutB c r) := by simp [cutB, h]
theorem cutB_len (c : UInt8) (s : List UInt8) : (cutB c s).length ≤ s.length + 1 := by
  induction s with
  | nil => simp [cutB]
  | cons b r ih =>
    unfold cutB
    split
    · simp; omega
    · cases h : cutB c r with
      | nil => simp [glue]
      | cons a q => rw [h] at ih; simp [glue] at ih ⊢; omega
theorem glue_len {p : List UInt8} {x : List (List UInt8)} (h : x ≠ []) : (glue p x).length = x.length := by cases x with | nil => exact absurd rfl h | cons a r => rfl
theorem cutB_count (c : UInt8) (s : List UInt8) : (cutB c s).length = s.count c + 1 := by
  induction s with
  | nil => rfl
  | cons b r ih =>
    by_cases h : b = c
    · subst h
      rw [cutB_hit, List.length_cons, ih, List.count_cons_self]
    · rw [cutB_miss h, glue_len (cutB_ne c r), ih, List.count_cons_of_ne h]
theorem index_miss {b c : UInt8} (h : b ≠ c) (l : List UInt8) : Lib.index (b :: l) [c] = if Lib.index l [c] == -1 then -1 else Lib.index l [c] + 1 := by
  have hp : ([c] : List UInt8).isPrefixOf (b :: l) = false := by simp [List.isPrefixOf, Ne.symm h]
  rw [Lib.index, hp]
  simp
theorem splitK_cut (c : UInt8) : ∀ (s : List UInt8), Lib.splitK [c] 0 (s.count c) s = cutB c s
  | [] => rfl
  | b :: l => by
    by_cases h : b = c
    · subst h
      have hix : Lib.index (b :: l) [b] = ((0 : Nat) : Int) := by rw [Lib.index]; simp [List.isPrefixOf]
      have ih := splitK_cut b l
      rw [List.count_cons_self, cutB_hit]
      unfold Lib.splitK
      rw [hix]
      simp [ih]
    · have ih := splitK_cut c l
      rw [List.count_cons_of_ne h, cutB_miss h, ← ih]
      cases hk : l.count c with
      | zero => rfl
      | succ k =>
        unfold Lib.splitK
        rw [index_miss h]
        by_cases hm : Lib.index l [c] = -1
        · have := Lib.count_miss hm
          rw [Lib.count_one] at this
          omega
        · have hge := Lib.index_ge l [c]
          obtain ⟨j, hj⟩ : ∃ j : Nat, Lib.index l [c] = j := ⟨(Lib.index l [c]).toNat, by omega⟩
          rw [hj]
          have e1 : ((j : Int) == -1) = false := by simp
          have e2 : (((j : Int) + 1) == -1) = false := by simp; omega
          have e3 : ((j : Int) + 1).toNat = j + 1 := by omega
          simp [e1, e2, e3, glue]
def baL (l : List UInt8) : ByteArray := ⟨l.toArray⟩
theorem baL_data (s : ByteArray) : baL s.data.toList = s := by
  apply ByteArray.ext
  simp [baL]
theorem data_baL (l : List UInt8) : (baL l).data.toList = l := by simp [baL]
theorem baL_size (l : List UInt8) : (baL l).size = l.length := by simp [baL, ByteArray.size]
theorem baL_inj {a b : List UInt8} (h : baL a = baL b) : a = b := by rw [← data_baL a, h, data_baL]
/-- The pieces of a text, as texts. -/
def cutS (c : UInt8) (s : ByteArray) : List ByteArray := (cutB c s.data.toList).map baL
theorem cutS_split (c : UInt8) (s : ByteArray) : Lib.splitB ⟨#[c]⟩ 0 (Lib.countB s ⟨#[c]⟩) s = cutS c s := by
  have h := Lib.splitB_data ⟨#[c]⟩ 0 (Lib.countB s ⟨#[c]⟩) s
  have hc : Lib.countB s ⟨#[c]⟩ = s.data.toList.count c := Lib.count_one c s.data.toList
  rw [hc] at h ⊢
  rw [show (⟨#[c]⟩ : ByteArray).data.toList = [c] from rfl, splitK_cut] at h
  unfold cutS
  rw [← h, List.map_map]
  conv => lhs; rw [← List.map_id (Lib.splitB _ _ _ _)]
  apply List.map_congr_left
  intro x _
  exact (baL_data x).symm
theorem cutS_len (c : UInt8) (s : ByteArray) : (cutS c s).length = Lib.countB s ⟨#[c]⟩ + 1 := by
  have hc : Lib.countB s ⟨#[c]⟩ = s.data.toList.count c := Lib.count_one c s.data.toList
  rw [hc, cutS, List.length_map, cutB_count]
theorem cutS_le (c : UInt8) (s : ByteArray) : (cutS c s).length ≤ s.size + 1 := by
  rw [cutS, List.length_map]
  exact cutB_len c _
theorem cutB_mem_len {c : UInt8} : ∀ {s p : List UInt8}, p ∈ cutB c s → p.length ≤ s.length := by
  intro s
  induction s with
  | nil => intro p hp; simp [cutB] at hp; simp [hp]
  | cons b r ih =>
    intro p hp
    unfold cutB at hp
    split at hp
    · rcases List.mem_cons.1 hp with rfl | h
      · simp
      · have := ih h; simp; omega
    · cases h : cutB c r with
      | nil => exact absurd h (cutB_ne c r)
      | cons a q =>
        rw [h] at hp ih
        simp only [glue] at hp
        rcases List.mem_cons.1 hp with rfl | h'
        · have := ih (p := a) (by simp); simp; omega
        · have := ih (p := p) (by simp [h']); simp; omega
theorem cutS_mem_size {c : UInt8} {s p : ByteArray} (h : p ∈ cutS c s) : p.size ≤ s.size := by
  obtain ⟨q, hq, rfl⟩ := List.mem_map.1 h
  rw [baL_size]
  exact cutB_mem_len hq
/-- Pieces that have no c, put together with c between them, and cut again. -/
theorem cut_plain {c : UInt8} {p : List UInt8} (h : c ∉ p) : cutB c p = [p] := by
  induction p with
  | nil => rfl
  | cons b r ih =>
    have hb : b ≠ c := fun e => h (by simp [e])
    rw [cutB_miss hb, ih (fun e => h (by simp [e]))]
    rfl
theorem cut_app {c : UInt8} {p : List UInt8} (h : c ∉ p) (r : List UInt8) : cutB c (p ++ c :: r) = p :: cutB c r := by
  induction p with
  | nil => exact cutB_hit c r
  | cons b q ih =>
    have hb : b ≠ c := fun e => h (by simp [e])
    rw [List.cons_append, cutB_miss hb, ih (fun e => h (by simp [e]))]
    rfl
theorem cut_join {c : UInt8} (x : List UInt8) (r : List (List UInt8)) (h : ∀ p ∈ x :: r, c ∉ p) : cutB c (Lib.join (x :: r) [c]) = x :: r := by
  induction r generalizing x with
  | nil => rw [Lib.join_one]; exact cut_plain (h x (by simp))
  | cons y q ih =>
    have e : Lib.join (x :: y :: q) [c] = x ++ c :: Lib.join (y :: q) [c] := by
      rw [Lib.join_cons, Lib.join_cons]
      simp [Lib.joinTail]
    rw [e, cut_app (h x (by simp)), ih y (fun p hp => h p (by simp at hp ⊢; exact Or.inr hp))]
theorem join_cut (c : UInt8) (s : List UInt8) : Lib.join (cutB c s) [c] = s := by
  induction s with
  | nil => simp [cutB, Lib.join_one]
  | cons b r ih =>
    cases hc : cutB c r with
    | nil => exact absurd hc (cutB_ne c r)
    | cons a q =>
      rw [hc] at ih
      by_cases h : b = c
      · subst h
        rw [cutB_hit, hc]
        have e : Lib.join ([] :: a :: q) [b] = [] ++ b :: Lib.join (a :: q) [b] := by
          rw [Lib.join_cons, Lib.join_cons]
          simp [Lib.joinTail]
        rw [e, ih]
        rfl
      · rw [cutB_miss h, hc]
        simp only [glue]
        rw [Lib.join_cons] at ih ⊢
        rw [List.append_assoc, ih]
        rfl
end Go.Proofs.YtdmadaebeooaaaaGreatDoor
