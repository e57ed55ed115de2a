/-
  Lists of engines: how they read, rows of one's own, and what the laws do with them.
-/
import Derived.Test.YthkpgcociklddaaEngLaw
import Derived.Test.YthkpgcociklddaaShift
import Derived.Test.YthkpgcociklddaaRun
import Derived.Deep.RegionHeld3
namespace Go.Proofs.Ythkpgcociklddaa
open Go.RowKit
set_option linter.unusedVariables false
set_option linter.unusedSimpArgs false
set_option maxRecDepth 100000
attribute [local go_sem ↓] Go.wp_at_zero Go.wp_at_succ

def nilV : Value := .slice none 0 0
/-- element i of a list of values; of a list of engines. -/
def xat (xs : List Value) (i : Nat) : Value := xs.getD i nilV
def eat (ls : List (List ByteArray)) (i : Nat) : List ByteArray := ls.getD i []
theorem xat_get {xs : List Value} {i : Nat} (h : i < xs.length) : xs[i]? = some (xat xs i) := by simp [xat, List.getD, h]
theorem eat_get {ls : List (List ByteArray)} {i : Nat} (h : i < ls.length) : ls[i]? = some (eat ls i) := by simp [eat, List.getD, h]
theorem xat_set {xs : List Value} {i j : Nat} {u : Value} (h : j < xs.length) : xat (xs.set j u) i = if i = j then u else xat xs i := by
  unfold xat
  simp only [List.getD, List.getElem?_set]
  by_cases e : i = j
  · subst e; simp [h]
  · rw [if_neg (fun h => e h.symm), if_neg e]
theorem elist_ext {l m : List (List ByteArray)} (hl : l.length = m.length) (h : ∀ j, j < l.length → eat l j = eat m j) : l = m := by
  apply List.ext_getElem hl
  intro i h1 h2
  have := h i h1
  simpa [eat, List.getD, h1, h2] using this
def genE (f : Nat → List ByteArray) (n : Nat) : List (List ByteArray) := (List.range n).map f
theorem genE_length (f : Nat → List ByteArray) (n : Nat) : (genE f n).length = n := by simp [genE]
theorem eat_genE {f : Nat → List ByteArray} {n j : Nat} (h : j < n) : eat (genE f n) j = f j := by simp [eat, genE, List.getD, h]

/-- v reads as the engines ls. -/
def Engs (w : World) (v : Value) (ls : List (List ByteArray)) : Prop :=
  ∃ xs, Sl w v xs ∧ xs.length = ls.length ∧ ∀ i, i < ls.length → Strs w (xat xs i) (eat ls i)
theorem Engs.below {w w' : World} {v : Value} {ls : List (List ByteArray)} {B : Nat} (h : Engs w v ls) (hb : Below B w w') (hB : w.heap.size ≤ B) : Engs w' v ls := by
  obtain ⟨xs, h1, h2, h3⟩ := h
  exact ⟨xs, h1.below hb hB, h2, fun i hi => (h3 i hi).below hb hB⟩
theorem Engs.bel {w w' : World} {v : Value} {ls : List (List ByteArray)} (h : Engs w v ls) (hb : Below w.heap.size w w') : Engs w' v ls := h.below hb (Nat.le_refl _)
theorem Engs.nil_ (w : World) : Engs w (.slice none 0 0) [] := ⟨[], ⟨none, 0, rfl, Nat.le_refl _, Nat.zero_le _, fun h => absurd h (by simp)⟩, rfl, fun i h => absurd h (by simp)⟩
theorem Engs.open_ {w : World} {v : Value} {ls : List (List ByteArray)} (h : Engs w v ls) : ∃ A c xs, v = .slice A ls.length c ∧ ls.length ≤ c ∧ c ≤ 9223372036854775807 ∧
    (0 < ls.length → ∃ b o, A = some ⟨b, o, none⟩ ∧ b < w.heap.size ∧ ∀ i, i < ls.length → w.cell? ⟨b, o + i, none⟩ = some (xat xs i)) ∧ ∀ i, i < ls.length → Strs w (xat xs i) (eat ls i) := by
  obtain ⟨xs, ⟨A, c, e, h1, h2, h3⟩, hl, hs⟩ := h
  rw [hl] at e h1
  refine ⟨A, c, xs, e, h1, by unfold maxLen at h2; omega, fun hn => ?_, hs⟩
  obtain ⟨b, o, e2, hb, hc⟩ := h3 (by rw [hl]; exact hn)
  exact ⟨b, o, e2, hb, fun i hi => hc i _ (xat_get (by rw [hl]; exact hi))⟩

/-- Only blocks from lo on, below hi, and new ones differ. -/
structure Rng (w w' : World) (lo hi : Nat) : Prop where
  os : w'.os = w.os
  tape : w'.tape = w.tape
  output : w'.output = w.output
  size : w.heap.size ≤ w'.heap.size
  block : ∀ k, k < w.heap.size → ¬ (lo ≤ k ∧ k < hi) → w'.heap[k]? = w.heap[k]?
theorem Rng.refl (w : World) (lo hi : Nat) : Rng w w lo hi := ⟨rfl, rfl, rfl, Nat.le_refl _, fun _ _ _ => rfl⟩
theorem Rng.trans {a b c : World} {lo hi : Nat} (h : Rng a b lo hi) (k : Rng b c lo hi) : Rng a c lo hi :=
  ⟨k.os.trans h.os, k.tape.trans h.tape, k.output.trans h.output, Nat.le_trans h.size k.size, fun i hi hn => (k.block i (Nat.lt_of_lt_of_le hi h.size) hn).trans (h.block i hi hn)⟩
theorem Rng.of_grown {w w' : World} {row : Option Nat} {lo hi : Nat} (h : w.grownBy w' row) (hr : ∀ k, row = some k → lo ≤ k ∧ k < hi) : Rng w w' lo hi :=
  ⟨h.os, h.tape, h.output, h.size, fun i hi hn => h.block i hi (fun e => hn (hr i e.symm))⟩
theorem Rng.of_below {w w' : World} {lo hi : Nat} (h : Below w.heap.size w w') : Rng w w' lo hi := ⟨h.os, h.tape, h.output, h.size, fun i hi _ => h.block i hi⟩
theorem Rng.below {w0 w w' : World} {lo hi : Nat} (hb : Below w0.heap.size w0 w) (h : Rng w w' lo hi) (hl : w0.heap.size ≤ lo) : Below w0.heap.size w0 w' :=
  hb.trans ⟨h.os, h.tape, h.output, h.size, fun i hi => h.block i (by have := hb.size; omega) (by omega)⟩
theorem OwnS.same {w w' : World} {base : Nat} {v : Value} {l : List ByteArray} (h : OwnS w base v l) (hk : ∀ k, v.ownBlock = some k → w'.heap[k]? = w.heap[k]?) : OwnS w' base v l := by
  rcases h.form with ⟨rfl, rfl⟩ | ⟨g, cap, cs, rfl, hg, hblk, h1, h2, h3, h4⟩
  · exact OwnS.nil_ _ _
  · exact OwnS.mk' hg ((hk g rfl).trans hblk) h1 h2 h3 h4 h.2.1
theorem Own.same {w w' : World} {base : Nat} {v : Value} {l : List Int} (h : Own w base v l) (hk : ∀ k, v.ownBlock = some k → w'.heap[k]? = w.heap[k]?) : Own w' base v l := by
  rcases h.form with ⟨rfl, rfl⟩ | ⟨g, cap, cs, rfl, hg, hblk, h1, h2, h3, h4⟩
  · exact Own.nil_ _ _
  · exact Own.mk' hg ((hk g rfl).trans hblk) h1 h2 h3 h4 h.2.1
theorem Own.rng {w w' : World} {base lo hi : Nat} {v : Value} {l : List Int} (h : Own w base v l) (hr : Rng w w' lo hi) (hk : ∀ k, v.ownBlock = some k → ¬ (lo ≤ k ∧ k < hi)) : Own w' base v l :=
  h.same fun k e => hr.block k (h.lt k e).2 (hk k e)

/-- A list of engines of one's own: the row and the engines' rows lie from lo on, below hi, all apart. -/
def OwnE (w : World) (lo hi : Nat) (v : Value) (ls : List (List ByteArray)) : Prop :=
  (v = .slice none 0 0 ∧ ls = []) ∨ ∃ g xs, v = .slice (some ⟨g, 0, none⟩) ls.length ls.length ∧ lo ≤ g ∧ g < hi ∧ Blk w g 28 xs ∧ xs.length = ls.length ∧ ls.length ≤ 1048576 ∧
    (∀ i, i < ls.length → OwnS w lo (xat xs i) (eat ls i) ∧ ∀ k, (xat xs i).ownBlock = some k → k < hi ∧ k ≠ g) ∧
    ∀ i j, i < j → j < ls.length → ∀ k, (xat xs i).ownBlock = some k → (xat xs j).ownBlock ≠ some k
theorem OwnE.engs {w : World} {lo hi : Nat} {v : Value} {ls : List (List ByteArray)} (h : OwnE w lo hi v ls) : Engs w v ls := by
  rcases h with ⟨rfl, rfl⟩ | ⟨g, xs, rfl, h1, h2, hb, hl, hm, he, -⟩
  · exact Engs.nil_ _
  · refine ⟨xs, ⟨some ⟨g, 0, none⟩, ls.length, by rw [hl], by rw [hl]; exact Nat.le_refl _, by unfold maxLen; omega, fun hn => ⟨g, 0, rfl, hb.lt, fun k u hu => ?_⟩⟩, hl, fun i hi => (he i hi).1.strs⟩
    rw [Nat.zero_add, hb.cell]; exact hu
theorem OwnE.keep {w w' : World} {lo hi : Nat} {v : Value} {ls : List (List ByteArray)} (h : OwnE w lo hi v ls) (hk : ∀ k, k < w.heap.size → lo ≤ k → k < hi → w'.heap[k]? = w.heap[k]?) : OwnE w' lo hi v ls := by
  rcases h with h | ⟨g, xs, rfl, h1, h2, hb, hl, hm, he, hd⟩
  · exact .inl h
  · refine .inr ⟨g, xs, rfl, h1, h2, (hk g hb.lt h1 h2).trans hb, hl, hm, fun i hi => ⟨(he i hi).1.same fun k e => hk k ((he i hi).1.lt k e).2 ((he i hi).1.lt k e).1 ((he i hi).2 k e).1, (he i hi).2⟩, hd⟩
theorem OwnE.bel {w w' : World} {lo hi : Nat} {v : Value} {ls : List (List ByteArray)} (h : OwnE w lo hi v ls) (hb : Below w.heap.size w w') : OwnE w' lo hi v ls := h.keep fun k hk _ _ => hb.block k hk
theorem OwnE.grown {w w' : World} {lo hi : Nat} {v : Value} {ls : List (List ByteArray)} {row : Option Nat} (h : OwnE w lo hi v ls) (hb : w.grownBy w' row) (hr : ∀ k, row = some k → ¬ (lo ≤ k ∧ k < hi)) : OwnE w' lo hi v ls :=
  h.keep fun k hk h1 h2 => hb.block k hk (fun e => hr k e.symm ⟨h1, h2⟩)
theorem OwnE.rng {w w' : World} {lo hi lo' hi' : Nat} {v : Value} {ls : List (List ByteArray)} (h : OwnE w lo hi v ls) (hb : Rng w w' lo' hi') (hr : hi ≤ lo' ∨ hi' ≤ lo) : OwnE w' lo hi v ls :=
  h.keep fun k hk h1 h2 => hb.block k hk (by omega)

/-- the columns ahead of engine i. -/
def pre (ls : List (List ByteArray)) : Nat → Nat
  | 0 => 0
  | i + 1 => pre ls i + (eat ls i).length
theorem pre_mono (ls : List (List ByteArray)) {i j : Nat} (h : i ≤ j) : pre ls i ≤ pre ls j := by
  induction j with
  | zero => rw [show i = 0 by omega]; exact Nat.le_refl _
  | succ j ih =>
    rcases Nat.lt_or_ge i (j + 1) with h1 | h1
    · have := ih (by omega)
      have h2 : pre ls (j + 1) = pre ls j + (eat ls j).length := rfl
      omega
    · rw [show i = j + 1 by omega]; exact Nat.le_refl _
def tot_ (ls : List (List ByteArray)) : Nat := pre ls ls.length
theorem tot_at {ls : List (List ByteArray)} {i : Nat} (h : i < ls.length) : pre ls i + (eat ls i).length ≤ tot_ ls := pre_mono ls (show i + 1 ≤ ls.length by omega)

theorem Try.infoEng : (Try.prog.info? 28).map (fun i => (i.zero, i.size, i.bytes)) = some (some (.agg #[.slice none 0 0]), 1, 24) := by kernel_rfl


theorem Try.mkEngs (n : Nat) (hn : n ≤ 1048576) (W : World) : (Instr.makeSlice 37 (.int .i64 (n : Int)) (.int .i64 (n : Int))).run Try.prog W =
    .ok (.slice (some ⟨W.heap.size, 0, none⟩) n n) (W.alloc (.cells (reps n (.slice none 0 0)).toArray 28)) := by
  obtain ⟨i, hi, hzz⟩ := Option.map_eq_some_iff.1 Try.infoEng
  simp only [Prod.mk.injEq] at hzz
  obtain ⟨hz, hs, hb⟩ := hzz
  have hr := run_make (P := Try.prog) W 37 28 i (.agg #[.slice none 0 0]) Try.underlying37 hi hz .i64 .i64 n n (by omega) (Int.le_refl _) (by rw [hb]; omega) (by omega)
  have e := madeCells_reps (.slice none 0 0) n rfl
  have e2 : (Value.agg #[Value.slice none 0 0]).cells = (Value.slice none 0 0).cells := rfl
  simp only [Int.toNat_natCast, hs, Nat.mul_one, e2, e] at hr
  exact hr

/-- Rows of a list that is being filled: one above the other. -/
def Rows_ (w : World) (base k : Nat) (cs : List Value) (ls : List (List ByteArray)) : Prop :=
  (∀ i, i < k → OwnS w base (xat cs i) (eat ls i)) ∧ ∀ i j, i < j → j < k → ∀ p q, (xat cs i).ownBlock = some p → (xat cs j).ownBlock = some q → p < q
theorem Rows_.zero (w : World) (base : Nat) (cs : List Value) (ls : List (List ByteArray)) : Rows_ w base 0 cs ls := ⟨fun i h => absurd h (by omega), fun i j h1 h2 => absurd h2 (by omega)⟩
theorem Rows_.bel {w w' : World} {base k : Nat} {cs : List Value} {ls : List (List ByteArray)} (h : Rows_ w base k cs ls) (hb : Below w.heap.size w w') : Rows_ w' base k cs ls :=
  ⟨fun i hi => (h.1 i hi).bel hb, h.2⟩
theorem Rows_.setCell {w : World} {base k : Nat} {cs : List Value} {ls : List (List ByteArray)} (h : Rows_ w base k cs ls) (p : Addr) (u : Value) (hp : p.block < base) : Rows_ (w.setCell p u) base k cs ls :=
  ⟨fun i hi => (h.1 i hi).setCell p u hp, h.2⟩
theorem Rows_.add {w w' : World} {base k : Nat} {cs : List Value} {ls : List (List ByteArray)} {r : Value} {l : List ByteArray} (h : Rows_ w base k cs ls) (hb : Below w.heap.size w w') (hk : k < cs.length) (ho : OwnS w' w.heap.size r l) (hl : eat ls k = l) (hbase : base ≤ w.heap.size) :
    Rows_ w' base (k + 1) (cs.set k r) ls := by
  refine ⟨fun i hi => ?_, fun i j hij hj p q hp hq => ?_⟩
  · rw [xat_set hk]
    by_cases e : i = k
    · rw [if_pos e, e, hl]; exact ho.lower hbase
    · rw [if_neg e]; exact (h.1 i (by omega)).bel hb
  · rw [xat_set hk] at hp hq
    rw [if_neg (by omega)] at hp
    by_cases e : j = k
    · rw [if_pos e] at hq
      have h1 := ((h.1 i (by omega)).lt p hp).2
      have h2 := (ho.lt q hq).1
      omega
    · rw [if_neg e] at hq
      exact h.2 i j hij (by omega) p q hp hq
/-- A filled list is a list of one's own. -/
theorem Rows_.own {w : World} {g : Nat} {cs : List Value} {ls : List (List ByteArray)} (h : Rows_ w (g + 1) ls.length cs ls) (hb : Blk w g 28 cs) (hl : cs.length = ls.length) (hm : ls.length ≤ 1048576) :
    OwnE w g w.heap.size (.slice (some ⟨g, 0, none⟩) ls.length ls.length) ls :=
  .inr ⟨g, cs, rfl, Nat.le_refl _, hb.lt, hb, hl, hm, fun i hi => ⟨(h.1 i hi).lower (by omega), fun k hk => ⟨((h.1 i hi).lt k hk).2, by have := ((h.1 i hi).lt k hk).1; omega⟩⟩, fun i j hij hj k h1 h2 => by have := h.2 i j hij hj k k h1 h2; omega⟩



end Go.Proofs.Ythkpgcociklddaa
