/-
  Contracts of SplitEngine.
-/
import Derived.Test.YtpniljcnknknoaaGreatDoorEngKit
namespace Go.Proofs.YtpniljcnknknoaaGreatDoor
open Go.RowKit
set_option linter.unusedVariables false
set_option maxRecDepth 100000
attribute [local go_sem ↓] Go.wp_at_zero Go.wp_at_succ

theorem Strs.drop {w : World} {b o c : Nat} {l : List ByteArray} (h : Strs w (.slice (some ⟨b, o, none⟩) l.length c) l) {n : Nat} (hn : n ≤ l.length) : Strs w (.slice (some ⟨b, o + n, none⟩) (l.length - n) (c - n)) (l.drop n) := by
  obtain ⟨A', c', e, h1, h2, h3⟩ := h.open_
  injection e with e1 _ e3
  subst e1 e3
  have hl : (l.drop n).length = l.length - n := List.length_drop
  refine ⟨⟨some ⟨b, o + n, none⟩, c - n, by rw [sv_length, hl], by rw [sv_length, hl]; omega, by unfold maxLen; omega, fun h0 => ?_⟩, fun x hx => h.2 x (List.mem_of_mem_drop hx)⟩
  rw [sv_length, hl] at h0
  obtain ⟨b', o', e, hb, hc⟩ := h3 (by rw [sv_length]; omega)
  injection e with e
  injection e with e1 e2
  subst e1 e2
  refine ⟨b, o + n, rfl, hb, fun k u hu => ?_⟩
  rw [show o + n + k = o + (n + k) by omega]
  refine hc (n + k) u ?_
  rw [← hu, sv, sv, List.map_drop, List.getElem?_drop]
theorem Strs.take {w : World} {A : Option Addr} {c : Nat} {l : List ByteArray} (h : Strs w (.slice A l.length c) l) {n : Nat} (hn : n ≤ l.length) : Strs w (.slice A n c) (l.take n) := by
  obtain ⟨A', c', e, h1, h2, h3⟩ := h.open_
  injection e with e1 _ e3
  subst e1 e3
  have hl : (l.take n).length = n := by rw [List.length_take]; omega
  refine ⟨⟨A, c, by rw [sv_length, hl], by rw [sv_length, hl]; omega, by unfold maxLen; omega, fun h0 => ?_⟩, fun x hx => h.2 x (List.mem_of_mem_take hx)⟩
  rw [sv_length, hl] at h0
  obtain ⟨b, o, e, hb, hc⟩ := h3 (by rw [sv_length]; omega)
  refine ⟨b, o, e, hb, fun k u hu => hc k u ?_⟩
  rw [← hu, sv, sv, List.map_take, List.getElem?_take]
  by_cases hk : k < n
  · rw [if_pos hk]
  · rw [List.getElem?_eq_none (by first | (rw [sv_length, List.length_take]; omega) | (rw [List.length_take, List.length_map]; omega))] at hu; cases hu

def splitOk (l : List ByteArray) (n : Int) : Bool := engOk l && inB n 1 ((l.length : Int) - 1)
def splitA (l : List ByteArray) (n : Int) : List ByteArray := if splitOk l n = true then l.drop n.toNat else []
def splitB (l : List ByteArray) (n : Int) : List ByteArray := if splitOk l n = true then l.take n.toNat else []
theorem split_no {l : List ByteArray} {n : Int} (h : splitOk l n = false) : splitA l n = [] ∧ splitB l n = [] := by simp [splitA, splitB, h]
theorem split_yes {l : List ByteArray} {n : Int} (h : splitOk l n = true) : splitA l n = l.drop n.toNat ∧ splitB l n = l.take n.toNat := by simp [splitA, splitB, h]
/-- Two engines of one's own and a bool. -/
def TwoEng (w : World) (a b : List ByteArray) (q : Bool) (e : Ending) (w' : World) : Prop :=
  ∃ r s, e = .returned (.tuple #[.agg #[r], .agg #[s], .bool q]) ∧ OwnS w' w.heap.size r a ∧ OwnS w' w.heap.size s b ∧ (∀ k, r.ownBlock = some k → s.ownBlock ≠ some k) ∧ Below w.heap.size w w'


end Go.Proofs.YtpniljcnknknoaaGreatDoor
