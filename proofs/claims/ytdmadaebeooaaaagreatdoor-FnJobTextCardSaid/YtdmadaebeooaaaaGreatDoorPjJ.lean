/-
  Numbers and jobs parsed: what both packages return, plainly.
-/
import Derived.Test.YtdmadaebeooaaaaGreatDoorPjN
namespace Go.Proofs.YtdmadaebeooaaaaGreatDoor
open Go.RowKit
set_option linter.unusedVariables false
set_option linter.unusedSimpArgs false
set_option maxRecDepth 100000

theorem itoa_neg_form {n : Int} (h : n < 0) : Lib.itoa n = 45 :: Lib.decDigits n.natAbs := by unfold Lib.itoa; rw [if_pos h]
theorem itoa_pos_form {n : Int} (h : ¬ n < 0) : Lib.itoa n = Lib.decDigits n.toNat := by unfold Lib.itoa; rw [if_neg h]
theorem numO_some {t : List UInt8} {n : Int} (h : numO t = some n) : Lib.itoa n = t ∧ (Lib.trimPrefix t [45]).length ≤ 17 := by
  unfold numO at h
  split at h
  · split at h
    · rename_i hc
      rw [← Option.some.inj h]
      exact hc
    · exact absurd h (by simp)
  · exact absurd h (by simp)
theorem numO_minus {r : List UInt8} {n : Int} (h : numO (45 :: r) = some n) : r ≠ [] ∧ r.length ≤ 17 ∧ r[0]? ≠ some 48 ∧ ∃ m, Lib.decFrom 0 r = some m := by
  obtain ⟨h1, h2⟩ := numO_some h
  rw [trim_minus] at h2
  by_cases hn : n < 0
  · rw [itoa_neg_form hn] at h1
    have h1' := (List.cons.inj h1).2
    rw [← h1']
    refine ⟨dec_ne _, by rw [h1']; exact h2, ?_, _, dec_from _⟩
    intro hb
    exact dec_head n.natAbs (by omega) 48 hb rfl
  · rw [itoa_pos_form hn] at h1
    obtain ⟨b, q, hd, h3, -⟩ := dec_cons n.toNat
    rw [hd] at h1
    exact absurd (List.cons.inj h1).1 h3
theorem numO_plain {t : List UInt8} {n : Int} (hm : t[0]? ≠ some 45) (h : numO t = some n) : t ≠ [] ∧ t.length ≤ 17 ∧ (t[0]? = some 48 → t.length = 1) ∧ ∃ m, Lib.decFrom 0 t = some m := by
  obtain ⟨h1, h2⟩ := numO_some h
  by_cases hn : n < 0
  · rw [itoa_neg_form hn] at h1
    rw [← h1] at hm
    exact absurd rfl hm
  · rw [itoa_pos_form hn] at h1
    have hne : t ≠ [] := by rw [← h1]; exact dec_ne _
    refine ⟨hne, ?_, ?_, ?_⟩
    · cases t with
      | nil => exact absurd rfl hne
      | cons b r =>
        have hb : b ≠ 45 := fun e => hm (by simp [e])
        rw [trim_other hb] at h2
        exact h2
    · intro h0
      by_cases hz : n.toNat = 0
      · rw [hz, dec_small (by omega)] at h1
        rw [← h1]
        rfl
      · rw [← h1] at h0
        exact absurd rfl (dec_head _ hz 48 h0)
    · rw [← h1]
      exact ⟨_, dec_from _⟩
theorem from_lt17 {r : List UInt8} {m : Nat} (hl : r.length ≤ 17) (h : Lib.decFrom 0 r = some m) : m < 100000000000000000 := by
  have h1 := Lib.decFrom_lt r 0 m h
  have h2 : 10 ^ r.length ≤ 10 ^ 17 := Nat.pow_le_pow_right (by omega) hl
  simp at h1 h2
  omega
theorem numO_minus_ok {r : List UInt8} {m : Nat} (h0 : r ≠ []) (hl : r.length ≤ 17) (hz : r[0]? ≠ some 48) (h : Lib.decFrom 0 r = some m) : numO (45 :: r) = some (-(m : Int)) := by
  have hb := from_lt17 hl h
  have e := dec_of_from r m h0 h (fun h' => absurd h' hz)
  have hm : m ≠ 0 := by
    rintro rfl
    rw [dec_small (by omega)] at e
    exact hz (by rw [← e]; rfl)
  have h2 := numO_of (n := -(m : Int)) (by omega) (by omega)
  rw [itoa_neg_form (by omega), show (-(m : Int)).natAbs = m by omega, e] at h2
  exact h2
theorem numO_plain_ok {t : List UInt8} {m : Nat} (h0 : t ≠ []) (hl : t.length ≤ 17) (hz : t[0]? = some 48 → t.length = 1) (h : Lib.decFrom 0 t = some m) : numO t = some (m : Int) := by
  have hb := from_lt17 hl h
  have e := dec_of_from t m h0 h hz
  have h2 := numO_of (n := (m : Int)) (by omega) (by omega)
  rw [itoa_pos_form (by omega), show ((m : Int)).toNat = m by omega, e] at h2
  exact h2
theorem numO_bd {t : List UInt8} {n : Int} (h : numO t = some n) : -100000000000000000 < n ∧ n < 100000000000000000 := by
  obtain ⟨h1, h2⟩ := numO_some h
  by_cases hn : n < 0
  · rw [itoa_neg_form hn] at h1
    rw [← h1, trim_minus] at h2
    have := from_lt17 h2 (dec_from _)
    omega
  · have hp := itoa_pos_form hn
    obtain ⟨b, q, hd, h3, -⟩ := dec_cons n.toNat
    rw [hp, hd] at h1
    rw [← h1, trim_other h3, ← hd] at h2
    have := from_lt17 h2 (dec_from _)
    omega

/-- A text's number, or none; its value, or 0. -/
def numT (s : ByteArray) : Option Int := numO s.data.toList
def numV (s : ByteArray) : Int := (numT s).getD 0
theorem numV_bd (s : ByteArray) : -100000000000000000 < numV s ∧ numV s < 100000000000000000 := by
  unfold numV
  cases h : numT s with
  | none => simp
  | some n => exact numO_bd h
theorem numT_itoa {s : ByteArray} {n : Int} (h : numT s = some n) : itoaS n = s := by
  unfold itoaS
  rw [numO_itoa h]
theorem numT_of {n : Int} (h0 : -100000000000000000 < n) (h1 : n < 100000000000000000) : numT (itoaS n) = some n := numO_of h0 h1
/-- The numbers of a text with single spaces between them. -/
def allT (l : List ByteArray) : Bool := l.all fun s => (numT s).isSome
def numsV (s : ByteArray) : List Int := (cutS 32 s).map numV
def numsOk (s : ByteArray) : Bool := allT (cutS 32 s)
theorem itoaS_numV {s : ByteArray} (h : (numT s).isSome = true) : itoaS (numV s) = s := by
  unfold numV
  cases h' : numT s with
  | none => rw [h'] at h; simp at h
  | some n => exact numT_itoa h'
theorem joinS_cut (c : UInt8) (s : ByteArray) : joinS (cutS c s) ⟨#[c]⟩ = s := by
  unfold joinS cutS
  rw [List.map_map]
  have e : (fun x : List UInt8 => (baL x).data.toList) = id := by funext x; exact data_baL x
  rw [show ((fun x : ByteArray => x.data.toList) ∘ baL) = id from e, List.map_id]
  rw [show (⟨#[c]⟩ : ByteArray).data.toList = [c] from rfl, join_cut]
theorem cutS_join {c : UInt8} (x : ByteArray) (r : List ByteArray) (h : ∀ p ∈ x :: r, c ∉ p.data.toList) : cutS c (joinS (x :: r) ⟨#[c]⟩) = x :: r := by
  unfold joinS cutS
  have e : (baL (Lib.join ((x :: r).map (·.data.toList)) [c])).data.toList = Lib.join ((x :: r).map (·.data.toList)) [c] := data_baL _
  show (cutB c (baL (Lib.join ((x :: r).map (·.data.toList)) [c])).data.toList).map baL = x :: r
  rw [e, List.map_cons, cut_join]
  · rw [← List.map_cons (f := fun p : ByteArray => p.data.toList), List.map_map]
    have e2 : (baL ∘ fun p : ByteArray => p.data.toList) = id := by funext p; exact baL_data p
    rw [e2, List.map_id]
  · intro p hp
    rw [← List.map_cons (f := fun p : ByteArray => p.data.toList)] at hp
    obtain ⟨q, hq, rfl⟩ := List.mem_map.1 hp
    exact h q hq
theorem numsS_numsV {s : ByteArray} (h : numsOk s = true) : numsS (numsV s) = s := by
  unfold numsS numsV
  rw [List.map_map]
  have : (cutS 32 s).map (itoaS ∘ numV) = cutS 32 s := by
    conv => rhs; rw [← List.map_id (cutS 32 s)]
    apply List.map_congr_left
    intro x hx
    exact itoaS_numV (List.all_eq_true.1 h x hx)
  rw [this]
  exact joinS_cut 32 s
def Sm (l : List Int) : Prop := ∀ n ∈ l, -100000000000000000 < n ∧ n < 100000000000000000
theorem numsV_sm (s : ByteArray) : Sm (numsV s) := by
  intro n hn
  obtain ⟨x, _, rfl⟩ := List.mem_map.1 hn
  exact numV_bd x
theorem itoaS_no (c : UInt8) (hc : Lib.digitVal c = none) (h45 : c ≠ 45) (n : Int) : c ∉ (itoaS n).data.toList := by
  have : (itoaS n).data.toList = Lib.itoa n := data_baL _
  rw [this]
  exact itoa_no c hc h45 n
theorem cut_numsS {l : List Int} (h : l ≠ []) : cutS 32 (numsS l) = l.map itoaS := by
  cases l with
  | nil => exact absurd rfl h
  | cons x r =>
    unfold numsS
    rw [List.map_cons]
    apply cutS_join
    intro p hp
    rw [← List.map_cons] at hp
    obtain ⟨n, _, rfl⟩ := List.mem_map.1 hp
    exact itoaS_no 32 (by decide) (by decide) n
theorem numsOk_of {l : List Int} (h : l ≠ []) (hs : Sm l) : numsOk (numsS l) = true ∧ numsV (numsS l) = l := by
  unfold numsOk numsV
  rw [cut_numsS h]
  refine ⟨?_, ?_⟩
  · apply List.all_eq_true.2
    intro x hx
    obtain ⟨n, hn, rfl⟩ := List.mem_map.1 hx
    rw [numT_of (hs n hn).1 (hs n hn).2]
    rfl
  · rw [List.map_map]
    conv => rhs; rw [← List.map_id l]
    apply List.map_congr_left
    intro n hn
    show numV (itoaS n) = n
    unfold numV
    rw [numT_of (hs n hn).1 (hs n hn).2]
    rfl
theorem numsS_no {c : UInt8} (hc : Lib.digitVal c = none) (h45 : c ≠ 45) (h32 : c ≠ 32) (l : List Int) : c ∉ (numsS l).data.toList := by
  unfold numsS joinS
  rw [show ∀ x : List UInt8, (⟨x.toArray⟩ : ByteArray).data.toList = x from fun x => by simp]
  cases l with
  | nil => simp [Lib.join_nil]
  | cons x r =>
    rw [List.map_cons, List.map_cons, Lib.join_cons]
    intro h
    rcases List.mem_append.1 h with h | h
    · exact itoaS_no c hc h45 x h
    · unfold Lib.joinTail at h
      obtain ⟨p, hp, hcp⟩ := List.mem_flatten.1 h
      obtain ⟨q, hq, rfl⟩ := List.mem_map.1 hp
      obtain ⟨y, hy, rfl⟩ := List.mem_map.1 hq
      obtain ⟨n, hn, rfl⟩ := List.mem_map.1 hy
      rcases List.mem_append.1 hcp with h | h
      · simp at h
        exact h32 h
      · exact itoaS_no c hc h45 n h
end Go.Proofs.YtdmadaebeooaaaaGreatDoor
