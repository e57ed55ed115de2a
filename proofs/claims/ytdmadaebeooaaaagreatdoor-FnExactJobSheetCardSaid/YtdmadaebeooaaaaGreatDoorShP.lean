/-
  Sheets, plainly: lines, pages and the text of a table.
-/
import Derived.Test.YtdmadaebeooaaaaGreatDoorTxt
import Derived.Test.YtdmadaebeooaaaaGreatDoorJobTab
import Derived.Lib.Repeat
namespace Go.Proofs.YtdmadaebeooaaaaGreatDoor
open Go.RowKit
set_option linter.unusedVariables false
set_option linter.unusedSimpArgs false
set_option maxRecDepth 100000

/-- n spaces. -/
def spS (n : Nat) : ByteArray := ⟨(Lib.repeatL [32] n).toArray⟩
theorem repL_add (l : List UInt8) (a b : Nat) : Lib.repeatL l (a + b) = Lib.repeatL l a ++ Lib.repeatL l b := by
  induction a with
  | zero => rw [Nat.zero_add]; rfl
  | succ n ih => rw [Nat.succ_add]; simp only [Lib.repeatL]; rw [ih, List.append_assoc]
theorem spS_add (a b : Nat) : spS (a + b) = spS a ++ spS b := by unfold spS; rw [repL_add, ba_app]
theorem spS_zero : spS 0 = ⟨#[]⟩ := rfl
theorem spS_size (n : Nat) : (spS n).size = n := by
  unfold spS
  have := Lib.repeatL_length [32] n
  simpa [ByteArray.size] using this
/-- An entry with spaces ahead of it. -/
def padS (W : Nat) (v : Int) : ByteArray := spS (W - (itoaS v).size) ++ itoaS v
theorem padS_size {W : Nat} {v : Int} (h : (itoaS v).size ≤ W) : (padS W v).size = W := by
  unfold padS
  rw [ByteArray.size_append, spS_size]
  omega
/-- How many columns a row has. -/
def colN (L R r : Nat) : Nat := (L - r + R - 1) / R
theorem colN_iff {L R r : Nat} (c : Nat) (hR : 0 < R) : r + c * R < L ↔ c < colN L R r := by
  unfold colN
  rw [Nat.lt_iff_add_one_le (m := c), Nat.le_div_iff_mul_le hR, Nat.add_mul]
  omega
theorem colN_le {L R r : Nat} (hR : 0 < R) : colN L R r ≤ L := by
  rcases Nat.lt_or_ge L (colN L R r) with h | h
  · have := (colN_iff (L := L) (r := r) L hR).2 h
    have := Nat.le_mul_of_pos_right L hR
    omega
  · exact h
def cellL (W : Nat) (e : List Int) (R r c : Nat) : List ByteArray := (List.range c).map fun i => padS W (at_ e (r + i * R))
def lineS (W : Nat) (e : List Int) (R r c : Nat) : ByteArray := joinS (cellL W e R r c) ⟨#[32]⟩
theorem cellL_succ (W : Nat) (e : List Int) (R r c : Nat) : cellL W e R r (c + 1) = cellL W e R r c ++ [padS W (at_ e (r + c * R))] := by
  unfold cellL
  rw [List.range_succ, List.map_append]
  rfl
theorem cellL_len (W : Nat) (e : List Int) (R r c : Nat) : (cellL W e R r c).length = c := by simp [cellL]
theorem lineS_zero (W : Nat) (e : List Int) (R r : Nat) : lineS W e R r 0 = ⟨#[]⟩ := rfl
theorem lineS_one (W : Nat) (e : List Int) (R r : Nat) : lineS W e R r (0 + 1) = lineS W e R r 0 ++ padS W (at_ e (r + 0 * R)) := by
  rw [lineS_zero]
  unfold lineS
  rw [cellL_succ]
  have : cellL W e R r 0 = [] := rfl
  rw [this]
  unfold joinS
  simp [Lib.join_one]
  apply ByteArray.ext
  apply Array.toList_inj.1
  simp
theorem lineS_succ {W : Nat} {e : List Int} {R r c : Nat} (h : 0 < c) : lineS W e R r (c + 1) = lineS W e R r c ++ ⟨#[32]⟩ ++ padS W (at_ e (r + c * R)) := by
  unfold lineS
  rw [cellL_succ]
  unfold joinS
  have hne : cellL W e R r c ≠ [] := fun h' => by have := cellL_len W e R r c; rw [h'] at this; simp at this; omega
  rw [List.map_append, List.map_cons, List.map_nil, join_snoc, if_neg (by simpa using hne)]
  apply ByteArray.ext
  apply Array.toList_inj.1
  simp
/-- The cells of a row up to c all fit. -/
def fitL (W : Nat) (e : List Int) (R r c : Nat) : Prop := ∀ i, i < c → (itoaS (at_ e (r + i * R))).size ≤ W
instance (W : Nat) (e : List Int) (R r c : Nat) : Decidable (fitL W e R r c) := by unfold fitL; infer_instance
theorem cell_size {W : Nat} {e : List Int} {R r c : Nat} (h : fitL W e R r c) : ∀ s ∈ cellL W e R r c, s.size ≤ W := by
  intro s hs
  obtain ⟨i, hi, rfl⟩ := List.mem_map.1 hs
  rw [padS_size (h i (List.mem_range.1 hi))]
  exact Nat.le_refl _
theorem lineS_size {W : Nat} {e : List Int} {R r c : Nat} (h : fitL W e R r c) : (lineS W e R r c).size ≤ (1 + W) * c := by
  have := join_len (sep := ⟨#[32]⟩) (cell_size h)
  rw [cellL_len] at this
  exact this
/-- Row r of the entries of a page, as a line; whether it fits. -/
def rowS (W : Nat) (e : List Int) (R r : Nat) : ByteArray := lineS W e R r (colN e.length R r)
def rowF (W : Nat) (e : List Int) (R r : Nat) : Prop := fitL W e R r (colN e.length R r)
instance (W : Nat) (e : List Int) (R r : Nat) : Decidable (rowF W e R r) := by unfold rowF; infer_instance
theorem rowS_size {W : Nat} {e : List Int} {R r : Nat} (h : rowF W e R r) (hR : 0 < R) (hW : W ≤ 12) (he : e.length ≤ 60) : (rowS W e R r).size ≤ 780 := by
  have h1 := lineS_size h
  have h2 := colN_le (L := e.length) (r := r) hR
  have h3 : (1 + W) * colN e.length R r ≤ 13 * 60 := Nat.mul_le_mul (by omega) (by omega)
  unfold rowS
  omega
def rowsL (W : Nat) (e : List Int) (R n : Nat) : List ByteArray := (List.range n).map fun r => rowS W e R r
theorem rowsL_succ (W : Nat) (e : List Int) (R n : Nat) : rowsL W e R (n + 1) = rowsL W e R n ++ [rowS W e R n] := by
  unfold rowsL
  rw [List.range_succ, List.map_append]
  rfl
theorem rowsL_len (W : Nat) (e : List Int) (R n : Nat) : (rowsL W e R n).length = n := by simp [rowsL]
/-- The rows up to n all fit. -/
def rowsF (W : Nat) (e : List Int) (R n : Nat) : Prop := ∀ r, r < n → rowF W e R r
instance (W : Nat) (e : List Int) (R n : Nat) : Decidable (rowsF W e R n) := by unfold rowsF; infer_instance
theorem rowsF_succ {W : Nat} {e : List Int} {R n : Nat} (h : rowsF W e R n) (h1 : rowF W e R n) : rowsF W e R (n + 1) := by
  intro r hr
  rcases Nat.lt_or_ge r n with h' | h'
  · exact h r h'
  · obtain rfl : r = n := by omega
    exact h1
theorem rowsL_size {W : Nat} {e : List Int} {R n : Nat} (h : rowsF W e R n) (hR : 0 < R) (hW : W ≤ 12) (he : e.length ≤ 60) : ∀ s ∈ rowsL W e R n, s.size ≤ 780 := by
  intro s hs
  obtain ⟨i, hi, rfl⟩ := List.mem_map.1 hs
  exact rowS_size (h i (List.mem_range.1 hi)) hR hW he
/-- The entries of page p. -/
def pgE (l : List Int) (M p : Nat) : List Int := (l.drop (p * M)).take M
theorem pgE_len (l : List Int) (M p : Nat) : (pgE l M p).length = min M (l.length - p * M) := by simp [pgE]
theorem pgE_at (l : List Int) {M p i : Nat} (h : i < M) : at_ (pgE l M p) i = at_ l (p * M + i) := by
  unfold at_ pgE
  simp [List.getElem?_take, List.getElem?_drop, h]
theorem pgE_wf {l : List Int} (h : Wf l) (M p : Nat) : Wf (pgE l M p) := fun n hn => h n (List.mem_of_mem_drop (List.mem_of_mem_take hn))
def pgRows (l : List Int) (R M p : Nat) : Nat := min R (pgE l M p).length
def pgL (W : Nat) (l : List Int) (R M p : Nat) : List ByteArray := rowsL W (pgE l M p) R (pgRows l R M p)
def pgF (W : Nat) (l : List Int) (R M p : Nat) : Prop := rowsF W (pgE l M p) R (pgRows l R M p)
instance (W : Nat) (l : List Int) (R M p : Nat) : Decidable (pgF W l R M p) := by unfold pgF; infer_instance
/-- Lines behind a text, each with its end. -/
def putL (a : ByteArray) (ls : List ByteArray) : ByteArray := ls.foldl (fun a s => a ++ (s ++ ⟨#[10]⟩)) a
theorem putL_snoc (a : ByteArray) (ls : List ByteArray) (s : ByteArray) : putL a (ls ++ [s]) = putL a ls ++ (s ++ ⟨#[10]⟩) := by
  unfold putL
  rw [List.foldl_append]
  rfl
theorem putL_size {a : ByteArray} {ls : List ByteArray} {B : Nat} (h : ∀ s ∈ ls, s.size ≤ B) : (putL a ls).size ≤ a.size + (B + 1) * ls.length := by
  unfold putL
  induction ls generalizing a with
  | nil => simp
  | cons x r ih =>
    have h1 := ih (a := a ++ (x ++ ⟨#[10]⟩)) (fun s hs => h s (by simp [hs]))
    have h2 := h x (by simp)
    rw [List.foldl_cons, List.length_cons, Nat.mul_succ]
    rw [ByteArray.size_append, ByteArray.size_append] at h1
    have : (⟨#[10]⟩ : ByteArray).size = 1 := rfl
    omega
/-- The text of the first p pages. -/
def textN (W : Nat) (l : List Int) (R M : Nat) : Nat → ByteArray
  | 0 => ⟨#[]⟩
  | p + 1 => putL (if p = 0 then textN W l R M p else textN W l R M p ++ ⟨#[10]⟩) (pgL W l R M p)
theorem textN_one (W : Nat) (l : List Int) (R M : Nat) : textN W l R M (0 + 1) = putL (textN W l R M 0) (pgL W l R M 0) := rfl
theorem textN_succ {W : Nat} {l : List Int} {R M p : Nat} (h : 0 < p) : textN W l R M (p + 1) = putL (textN W l R M p ++ ⟨#[10]⟩) (pgL W l R M p) := by
  have : ¬ p = 0 := by omega
  simp [textN, this]
def pgsF (W : Nat) (l : List Int) (R M n : Nat) : Prop := ∀ p, p < n → pgF W l R M p
instance (W : Nat) (l : List Int) (R M n : Nat) : Decidable (pgsF W l R M n) := by unfold pgsF; infer_instance
theorem pgsF_succ {W : Nat} {l : List Int} {R M n : Nat} (h : pgsF W l R M n) (h1 : pgF W l R M n) : pgsF W l R M (n + 1) := by
  intro r hr
  rcases Nat.lt_or_ge r n with h' | h'
  · exact h r h'
  · obtain rfl : r = n := by omega
    exact h1
theorem textN_size {W : Nat} {l : List Int} {R M n : Nat} (h : pgsF W l R M n) (hR : 0 < R) (hR2 : R ≤ 20) (hW : W ≤ 12) (hl : l.length ≤ 60) : (textN W l R M n).size ≤ 20000 * n := by
  induction n with
  | zero => exact Nat.le_refl _
  | succ k ih =>
    have h1 := ih (fun p hp => h p (by omega))
    have h2 := pgE_len l M k
    have h3 := putL_size (a := if k = 0 then textN W l R M k else textN W l R M k ++ ⟨#[10]⟩) (rowsL_size (h k (Nat.lt_succ_self k)) hR hW (by omega))
    rw [rowsL_len] at h3
    have h4 : (780 + 1) * pgRows l R M k ≤ 781 * 20 := Nat.mul_le_mul (by omega) (by unfold pgRows; omega)
    have h5 : (if k = 0 then textN W l R M k else textN W l R M k ++ ⟨#[10]⟩).size ≤ (textN W l R M k).size + 1 := by
      split
      · omega
      · rw [ByteArray.size_append]; exact Nat.le_refl _
    have h6 : textN W l R M (k + 1) = putL (if k = 0 then textN W l R M k else textN W l R M k ++ ⟨#[10]⟩) (pgL W l R M k) := rfl
    rw [h6]
    unfold pgL
    omega
/-- How many pages; whether all of them fit; the text of all pages. -/
def pgN (l : List Int) (M : Nat) : Nat := (l.length + M - 1) / M
theorem pgN_iff {l : List Int} {M : Nat} (p : Nat) (hM : 0 < M) : p * M < l.length ↔ p < pgN l M := by
  have := colN_iff (L := l.length) (r := 0) p hM
  rw [Nat.zero_add] at this
  exact this
theorem pgN_le {l : List Int} {M : Nat} (hM : 0 < M) : pgN l M ≤ l.length := colN_le (r := 0) hM
def shOk (W : Nat) (l : List Int) (R A : Nat) : Bool := decide (pgsF W l R (R * A) (pgN l (R * A)))
def shS (W : Nat) (l : List Int) (R A : Nat) : ByteArray := textN W l R (R * A) (pgN l (R * A))
end Go.Proofs.YtdmadaebeooaaaaGreatDoor
