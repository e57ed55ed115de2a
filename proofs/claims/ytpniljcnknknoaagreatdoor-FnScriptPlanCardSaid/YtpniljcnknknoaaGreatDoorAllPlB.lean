import Derived.Test.YtpniljcnknknoaaGreatDoorAllPlA
import Derived.Deep.RegionHeld3
/-
  CheapestPlan (impl).
-/
namespace Go.Proofs.YtpniljcnknknoaaGreatDoor
open Go.RowKit
set_option linter.unusedVariables false
set_option linter.unusedSimpArgs false
set_option maxRecDepth 100000
attribute [local go_sem ↓] Go.wp_at_zero Go.wp_at_succ

def segs0 (n : Nat) : List Value := (madeCells #[.int .i64 0, .slice none 0 0] (n * 2)).toList
theorem segs0_len (n : Nat) : (segs0 n).length = n * 2 := by simp [segs0, madeCells]
theorem segs0_at {n i : Nat} (h : i < n) : (segs0 n)[i * 2]? = some (.int .i64 0) ∧ (segs0 n)[i * 2 + 1]? = some (.slice none 0 0) := by
  unfold segs0 madeCells
  have h1 : i * 2 < n * 2 := by omega
  have h2 : i * 2 + 1 < n * 2 := by omega
  have m1 : i * 2 % 2 = 0 := by omega
  have m2 : (i * 2 + 1) % 2 = 1 := by omega
  constructor
  · simp [h1]
  · simp [h2]
theorem Tryz.mkSegs (n : Nat) (hn : n ≤ 1000) (W : World) : (Instr.makeSlice 60 (.int .i64 (n : Int)) (.int .i64 (n : Int))).run Tryz.prog W =
    .ok (.slice (some ⟨W.heap.size, 0, none⟩) n n) (W.alloc (.cells (segs0 n).toArray 118)) := by
  obtain ⟨i0, hi, hz0, hz1, hz2⟩ := seg_parts Tryz.infoSeg
  have := run_make (P := Tryz.prog) W 60 118 i0 _ Tryz.underlying60 hi hz0 .i64 .i64 n n (by omega) (Int.le_refl _) (by rw [hz2]; omega) (by omega)
  rw [this, hz1]
  simp [segs0, Value.cells]
theorem itD_nil (l : List Int) : itD (l.take 0) = [] := by
  rw [List.take_zero]
  exact List.eq_nil_of_length_eq_zero (by unfold itD; rw [diffsI_length]; simp)
/-- The costs and the best segments so far: block g1, block g2; polynomials beyond B. -/
def LeastB (w : World) (g L : Nat) (F : Nat → Int) : Prop := ∃ cs, Blk w g 3 cs ∧ cs.length = L + 1 ∧ ∀ j, j < L + 1 → cs[j]? = some (.int .i64 (F j))
def BestB (w : World) (g B : Nat) (l : List Int) (C : Nat → Nat) : Prop :=
  ∃ cs, Blk w g 118 cs ∧ cs.length = l.length * 2 ∧ ∀ j, j < l.length → ∃ u, cs[j * 2]? = some (.int .i64 (C j : Int)) ∧ cs[j * 2 + 1]? = some u ∧ Own w B u (itD ((l.drop j).take (C j)))
theorem LeastB.bel {w w' : World} {g L : Nat} {F : Nat → Int} (h : LeastB w g L F) (hb : Below w.heap.size w w') : LeastB w' g L F := by
  obtain ⟨cs, h1, h2, h3⟩ := h
  exact ⟨cs, h1.below hb h1.lt, h2, h3⟩
theorem BestB.bel {w w' : World} {g B : Nat} {l : List Int} {C : Nat → Nat} (h : BestB w g B l C) (hb : Below w.heap.size w w') : BestB w' g B l C := by
  obtain ⟨cs, h1, h2, h3⟩ := h
  refine ⟨cs, h1.below hb h1.lt, h2, fun j hj => ?_⟩
  obtain ⟨u, a, b, c⟩ := h3 j hj
  exact ⟨u, a, b, c.bel hb⟩
theorem LeastB.congr {w : World} {g L : Nat} {F G : Nat → Int} (h : LeastB w g L F) (he : ∀ j, j < L + 1 → F j = G j) : LeastB w g L G := by
  obtain ⟨cs, h1, h2, h3⟩ := h
  exact ⟨cs, h1, h2, fun j hj => by rw [h3 j hj, he j hj]⟩
theorem BestB.congr {w : World} {g B : Nat} {l : List Int} {C D : Nat → Nat} (h : BestB w g B l C) (he : ∀ j, j < l.length → C j = D j) : BestB w g B l D := by
  obtain ⟨cs, h1, h2, h3⟩ := h
  refine ⟨cs, h1, h2, fun j hj => ?_⟩
  obtain ⟨u, a, b, c⟩ := h3 j hj
  rw [he j hj] at a c
  exact ⟨u, a, b, c⟩
theorem LeastB.at {w : World} {g L : Nat} {F : Nat → Int} (h : LeastB w g L F) {j : Nat} (hj : j < L + 1) : w.cell? ⟨g, j, none⟩ = some (.int .i64 (F j)) ∧ w.frozen? ⟨g, j, none⟩ = false := by
  obtain ⟨cs, h1, h2, h3⟩ := h
  exact ⟨by rw [h1.cell]; exact h3 j hj, h1.frozen j⟩
theorem BestB.at {w : World} {g B : Nat} {l : List Int} {C : Nat → Nat} (h : BestB w g B l C) {j : Nat} (hj : j < l.length) : ∃ u, w.cell? ⟨g, j * 2, none⟩ = some (.int .i64 (C j : Int)) ∧ w.cell? ⟨g, j * 2 + 1, none⟩ = some u ∧ w.frozen? ⟨g, j * 2, none⟩ = false ∧ w.frozen? ⟨g, j * 2 + 1, none⟩ = false ∧ Own w B u (itD ((l.drop j).take (C j))) := by
  obtain ⟨cs, h1, h2, h3⟩ := h
  obtain ⟨u, a, b, c⟩ := h3 j hj
  exact ⟨u, by rw [h1.cell]; exact a, by rw [h1.cell]; exact b, h1.frozen _, h1.frozen _, c⟩
def upd {α : Type} (F : Nat → α) (i : Nat) (x : α) (j : Nat) : α := if j = i then x else F j
theorem LeastB.put {w : World} {g L : Nat} {F : Nat → Int} (h : LeastB w g L F) {i : Nat} (hi : i < L + 1) (x : Int) : LeastB (w.setCell ⟨g, i, none⟩ (.int .i64 x)) g L (upd F i x) := by
  obtain ⟨cs, h1, h2, h3⟩ := h
  refine ⟨_, h1.set_ i _, by rw [List.length_set]; exact h2, fun j hj => ?_⟩
  unfold upd
  by_cases e : j = i
  · subst e; rw [List.getElem?_set_self (by omega), if_pos rfl]
  · rw [List.getElem?_set_ne (by omega), if_neg e]; exact h3 j hj
theorem BestB.far {w : World} {g B : Nat} {l : List Int} {C : Nat → Nat} (h : BestB w g B l C) (p : Addr) (u : Value) (hp : p.block < B) (hne : g ≠ p.block) : BestB (w.setCell p u) g B l C := by
  obtain ⟨cs, h1, h2, h3⟩ := h
  refine ⟨cs, h1.far hne u, h2, fun j hj => ?_⟩
  obtain ⟨z, a, b, c⟩ := h3 j hj
  exact ⟨z, a, b, c.putCell p u hp⟩
theorem LeastB.far {w : World} {g L : Nat} {F : Nat → Int} (h : LeastB w g L F) (p : Addr) (u : Value) (hne : g ≠ p.block) : LeastB (w.setCell p u) g L F := by
  obtain ⟨cs, h1, h2, h3⟩ := h
  exact ⟨cs, h1.far hne u, h2, h3⟩
theorem BestB.put {w : World} {g B : Nat} {l : List Int} {C : Nat → Nat} (h : BestB w g B l C) {i : Nat} (hi : i < l.length) (hg : g < B) (n : Nat) (u : Value) (hu : Own w B u (itD ((l.drop i).take n))) :
    BestB ((w.setCell ⟨g, i * 2, none⟩ (.int .i64 (n : Int))).setCell ⟨g, i * 2 + 1, none⟩ u) g B l (upd C i n) := by
  obtain ⟨cs, h1, h2, h3⟩ := h
  refine ⟨_, (h1.set_ (i * 2) _).set_ (i * 2 + 1) u, by rw [List.length_set, List.length_set]; exact h2, fun j hj => ?_⟩
  unfold upd
  by_cases e : j = i
  · subst e
    rw [if_pos rfl]
    refine ⟨u, ?_, ?_, (hu.putCell _ _ hg).putCell _ _ hg⟩
    · rw [List.getElem?_set_ne (by omega), List.getElem?_set_self (by omega)]
    · rw [List.getElem?_set_self (by rw [List.length_set]; omega)]
  · obtain ⟨z, a, b, c⟩ := h3 j hj
    rw [if_neg e]
    refine ⟨z, ?_, ?_, (c.putCell _ _ hg).putCell _ _ hg⟩
    · rw [List.getElem?_set_ne (by omega), List.getElem?_set_ne (by omega)]; exact a
    · rw [List.getElem?_set_ne (by omega), List.getElem?_set_ne (by omega)]; exact b
/-- What stands in the two rows when place k and those behind it are done, and place k - 1 is at x. -/
def lsF (v : List Int) (d s c : Int) (k : Nat) (x : Int) (j : Nat) : Int := if k ≤ j then at_ (csL v d s c (v.length - j)) 0 else if j + 1 = k then x else 0
def bsF (v : List Int) (d s c : Int) (k x : Nat) (j : Nat) : Nat := if k ≤ j then chN v d s c j else if j + 1 = k then x else 0
theorem lsF_upd (v : List Int) (d s c : Int) (i : Nat) (x y : Int) (j : Nat) : upd (lsF v d s c (i + 1) x) i y j = lsF v d s c (i + 1) y j := by
  unfold upd lsF
  by_cases e : j = i
  · subst e; rw [if_pos rfl, if_neg (by omega), if_pos rfl]
  · rw [if_neg e]
    by_cases h : i + 1 ≤ j
    · rw [if_pos h, if_pos h]
    · rw [if_neg h, if_neg h, if_neg (by omega), if_neg (by omega)]
theorem bsF_upd (v : List Int) (d s c : Int) (i x y j : Nat) : upd (bsF v d s c (i + 1) x) i y j = bsF v d s c (i + 1) y j := by
  unfold upd bsF
  by_cases e : j = i
  · subst e; rw [if_pos rfl, if_neg (by omega), if_pos rfl]
  · rw [if_neg e]
    by_cases h : i + 1 ≤ j
    · rw [if_pos h, if_pos h]
    · rw [if_neg h, if_neg h, if_neg (by omega), if_neg (by omega)]
theorem lsF_here (v : List Int) (d s c : Int) (i : Nat) (x : Int) : lsF v d s c (i + 1) x i = x := by unfold lsF; rw [if_neg (by omega), if_pos rfl]
theorem bsF_here (v : List Int) (d s c : Int) (i x : Nat) : bsF v d s c (i + 1) x i = x := by unfold bsF; rw [if_neg (by omega), if_pos rfl]
theorem lsF_later (v : List Int) (d s c : Int) {i n : Nat} (x : Int) (hn : 1 ≤ n) (h : i + n ≤ v.length) : lsF v d s c (i + 1) x (i + n) = at_ (csL v d s c (v.length - (i + 1))) (n - 1) := by
  unfold lsF
  rw [if_pos (by omega)]
  exact (csL_tail v d s c _ _ _ (by omega)).symm
theorem lsF_done {v : List Int} {d s c : Int} (hv : smOk v = true) (hd0 : 0 ≤ d) (hd6 : d ≤ 6) (h0 : 0 ≤ s) (h1 : s ≤ 1000) (h2 : 0 ≤ c) (h3 : c ≤ 1000) {i : Nat} (hi : i < v.length) (j : Nat) :
    lsF v d s c (i + 1) (selF (cfA v d s c i) (lgN (v.drop i) d) (lgN (v.drop i) d)).1 j = lsF v d s c i 0 j := by
  rw [← ch_ms hv hd0 hd6 h0 h1 h2 h3 hi]
  unfold lsF
  by_cases e : j = i
  · subst e; rw [if_neg (by omega), if_pos rfl, if_pos (Nat.le_refl _)]
  · by_cases h : i + 1 ≤ j
    · rw [if_pos h, if_pos (by omega)]
    · rw [if_neg h, if_neg (by omega), if_neg (by omega)]
      split <;> rfl
theorem bsF_done (v : List Int) (d s c : Int) (i j : Nat) : bsF v d s c (i + 1) (selF (cfA v d s c i) (lgN (v.drop i) d) (lgN (v.drop i) d)).2 j = bsF v d s c i 0 j := by
  have : (selF (cfA v d s c i) (lgN (v.drop i) d) (lgN (v.drop i) d)).2 = chN v d s c i := rfl
  rw [this]
  unfold bsF
  by_cases e : j = i
  · subst e; rw [if_neg (by omega), if_pos rfl, if_pos (Nat.le_refl _)]
  · by_cases h : i + 1 ≤ j
    · rw [if_pos h, if_pos (by omega)]
    · rw [if_neg h, if_neg (by omega), if_neg (by omega)]
      split <;> rfl
def chOk (l : List Int) (d s c : Int) : Bool := ((smOk l && inB d 0 6) && inB s 0 1000) && inB c 0 1000
def chP (l : List Int) (d s c : Int) : List (Nat × List Int) := if chOk l d s c = true then chL l d s c else []
theorem ch_no {l : List Int} {d s c : Int} (h : chOk l d s c = false) : chP l d s c = [] := by simp [chP, h]
end Go.Proofs.YtpniljcnknknoaaGreatDoor

/-
  l5Best: the least costs (spec).
-/
namespace Go.Proofs.YtpniljcnknknoaaGreatDoor
open Go.RowKit
set_option linter.unusedVariables false
set_option linter.unusedSimpArgs false
set_option maxRecDepth 100000
attribute [local go_sem ↓] Go.wp_at_zero Go.wp_at_succ

theorem lsF_best {v : List Int} {d s c : Int} {i : Nat} (hi : i < v.length) (j : Nat) : lsF v d s c (i + 1) (msF (cfA v d s c i) (lgN (v.drop i) d)) j = lsF v d s c i 0 j := by
  unfold lsF
  by_cases e : j = i
  · subst e
    rw [if_neg (by omega), if_pos rfl, if_pos (Nat.le_refl _), csL_at hi]
    rfl
  · by_cases h : i + 1 ≤ j
    · rw [if_pos h, if_pos (by omega)]
    · rw [if_neg h, if_neg (by omega), if_neg (by omega)]
      split <;> rfl
theorem min_if (q a : Int) : (if a < q then a else q) = min q a := by rw [Int.min_def]; split <;> split <;> omega
set_option maxHeartbeats 4000000 in
theorem best5_any (v : Value) (l : List Int) (d s c : Int) (w : World) (hv : Ints w v l) (hs : smOk l = true) (d' : 0 ≤ d ∧ d ≤ 6) (s' : 0 ≤ s ∧ s ≤ 1000) (c' : 0 ≤ c ∧ c ≤ 1000) :
    Calls Tryz.prog 164 #[v, .int .i64 d, .int .i64 s, .int .i64 c] w fun e w' => e = .returned (.slice (some ⟨w.heap.size, 0, none⟩) (l.length + 1) (l.length + 1)) ∧ LeastB w' w.heap.size l.length (lsF l d s c 0 0) ∧ Below w.heap.size w w' := by
  have HV := Lib.hid hv
  obtain ⟨A, cp, rfl, hlc, hc, hrd⟩ := hv.open_
  obtain ⟨l1, l60, -⟩ := smOk_iff.1 hs
  have H1 := Lib.hid hs
  obtain ⟨b, o, rfl, hbb, hcell⟩ := hrd.ints (by omega)
  have hmk1 := fun W => Tryz.mkInts (l.length + 1) (by omega) W
  rw [show ((l.length + 1 : Nat) : Int) = (l.length : Int) + 1 from by omega] at hmk1
  have w1 : IntKind.i64.wrap ((l.length : Int) + 1) = (l.length : Int) + 1 := by rw [IntWalk.i64_in] <;> omega
  clear hv hrd hcell hs
  go_enter Tryz.func164, Tryz.ntmps164
  go_wp2_with fail
  have KL := Blk.new w 3 (reps (l.length + 1) (.int .i64 0))
  have B0 := bel_alloc w (.cells (reps (l.length + 1) (.int .i64 0)).toArray 3)
  have LB0 : LeastB (w.alloc (.cells (reps (l.length + 1) (.int .i64 0)).toArray 3)) w.heap.size l.length (lsF l d s c l.length 0) := ⟨_, KL, reps_length _ _, fun j hj => by
    rw [reps_get _ hj]
    unfold lsF
    by_cases e : l.length ≤ j
    · rw [if_pos e, show l.length - j = 0 by omega]; rfl
    · rw [if_neg e]; split <;> rfl⟩
  generalize hW : w.alloc (.cells (reps (l.length + 1) (.int .i64 0)).toArray 3) = W at *
  have hWz : W.heap.size = w.heap.size + 1 := by rw [← hW]; simp
  clear hW KL
  go_loopw [10] (fun t wr => ∃ k : Nat, k ≤ l.length ∧ t = .int .i64 ((k : Int) - 1) ∧ LeastB wr w.heap.size l.length (lsF l d s c k 0) ∧ Below w.heap.size w wr ∧ w.heap.size + 1 ≤ wr.heap.size) (fun t _ => (intOf t + 1).toNat)
  case atStart => exact ⟨l.length, Nat.le_refl _, by go_num, LB0, B0, by omega⟩
  case round =>
    obtain ⟨k, hk, rfl, hL, hb, hz⟩ := hrel
    have H := Lib.hid (And.intro hL hb)
    clear hL hb LB0 B0
    by_cases hk0 : k = 0
    · subst hk0
      rw [show (((0 : Nat) : Int) - 1) = -1 from rfl]
      go_wp2
      go_ret
      exact ⟨rfl, H.out.1, H.out.2⟩
    · obtain ⟨i, rfl⟩ : ∃ i, k = i + 1 := ⟨k - 1, by omega⟩
      rw [show (((i + 1 : Nat) : Int) - 1) = (i : Int) from by omega]
      have hil : i < l.length := by omega
      obtain ⟨N, hN⟩ : ∃ N, lgN (l.drop i) d = N := ⟨_, rfl⟩
      have hNm : N ≤ l.length - i := by have := lgN_le (l.drop i) d; rw [List.length_drop] at this; omega
      have HNN := Lib.hid hN
      obtain ⟨y1, y1f⟩ := H.out.1.at (j := i) (by omega)
      have HL0 := Lib.hid ((H.out.1.put (i := i) (by omega) 1099511627776).congr (G := lsF l d s c (i + 1) (msF (cfA l d s c i) 0)) (fun j hj => lsF_upd l d s c i _ _ j))
      have HB0 := Lib.hid (H.out.2.setCell (p := ⟨w.heap.size, i, none⟩) (Nat.le_refl _) (.int .i64 1099511627776))
      have hz0 : w.heap.size + 1 ≤ (wr.setCell ⟨w.heap.size, i, none⟩ (.int .i64 1099511627776)).heap.size := by simp only [World.setCell, Array.size_modify]; omega
      have HZ0 := Lib.hid hz0
      clear hN hz0
      go_wp2_with fail
      go_loopw [11] (fun t wc => ∃ n : Nat, n ≤ l.length - i ∧ t = .int .i64 ((n : Int) + 1) ∧ (∀ j, 1 ≤ j → j ≤ n → rnOk ((l.drop i).take j) d = true) ∧ LeastB wc w.heap.size l.length (lsF l d s c (i + 1) (msF (cfA l d s c i) n)) ∧ Below w.heap.size w wc ∧ w.heap.size + 1 ≤ wc.heap.size) (fun t _ => l.length + 1 - (intOf t).toNat)
      case atStart => exact ⟨0, Nat.zero_le _, by go_num, fun j h1 h2 => absurd h1 (by omega), HL0.out, HB0.out, HZ0.out⟩
      case round =>
        obtain ⟨n, hn, rfl, hall, hL, hb, hz2⟩ := hrel
        have M := Lib.hid (And.intro hall (And.intro hL hb))
        clear hall hL hb HL0 HB0 HZ0 y1 y1f
        by_cases hlast : n = l.length - i
        · have HLf := Lib.hid (M.out.2.1.congr (G := lsF l d s c i 0) (fun j hj => by
            have : lgN (l.drop i) d = n := lgN_up (by rw [List.length_drop]; omega) (fun q hq => M.out.1 (q + 1) (by omega) (by omega)) (.inl (by rw [List.length_drop]; omega))
            rw [← this]
            exact lsF_best hil j))
          have t1 : ¬ (i : Int) + ((n : Int) + 1) ≤ (l.length : Int) := by omega
          go_wp2
          go_roundw
          case rel => exact ⟨i, by omega, by go_num, HLf.out, M.out.2.2, hz2⟩
          case measure => first | (simp [intOf]; done) | (simp [intOf]; omega)
        · have HT := Lib.hid (show Ints wr (.slice (some ⟨b, o + i, none⟩) (n + 1) (cp - i)) ((l.drop i).take (n + 1)) from Ints.midN (HV.out.bel M.out.2.2) (by omega))
          have HL := Lib.hid (show ((l.drop i).take (n + 1)).length ≤ 1048576 by rw [List.length_take]; omega)
          have t1 : (i : Int) + ((n : Int) + 1) ≤ (l.length : Int) := by omega
          have q4 : (i : Int) + ((n : Int) + 1) ≤ (cp : Int) := by omega
          have q5 : (0 : Int) ≤ (i : Int) + ((n : Int) + 1) := by omega
          have q6 : ((i : Int) + ((n : Int) + 1)).toNat = i + (n + 1) := by omega
          have q7 : IntKind.i64.wrap ((i : Int) + ((n : Int) + 1)) = (i : Int) + ((n : Int) + 1) := by rw [IntWalk.i64_in] <;> omega
          have q8 : (i : Int) ≤ (i : Int) + ((n : Int) + 1) := by omega
          have q9 : i + (n + 1) - i = n + 1 := by omega
          have q10 : ¬ cp = i := by omega
          have q11 : (0 : Int) ≤ (i : Int) := by omega
          go_wp2_with fail
          refine (specRun5_any _ ((l.drop i).take (n + 1)) d _ HT.out HL.out).mono ?_
          rintro e w3 ⟨r, rfl, o3, b3⟩
          obtain ⟨A3, c3, rfl, -, -, -⟩ := o3.ints.open_
          have HB3 := Lib.hid (bel_trans M.out.2.2 b3)
          have HL3 := Lib.hid (M.out.2.1.bel b3)
          have z3 := b3.size
          clear o3 b3
          cases hr : rnOk ((l.drop i).take (n + 1)) d
          · have HLf := Lib.hid (HL3.out.congr (G := lsF l d s c i 0) (fun j hj => by
              have : lgN (l.drop i) d = n := lgN_up (by rw [List.length_drop]; omega) (fun q hq => M.out.1 (q + 1) (by omega) (by omega)) (.inr hr)
              rw [← this]
              exact lsF_best hil j))
            clear hr
            go_wp2
            go_roundw
            case rel => exact ⟨i, by omega, by go_num, HLf.out, HB3.out, by omega⟩
            case measure => first | (simp [intOf]; done) | (simp [intOf]; omega)
          · have hX := itD7 hr
            have hcs := csL_bd (s := s) (c := c) H1.out d'.1 d'.2 s'.1 s'.2 c'.1 c'.2 (l.length - (i + 1)) (by omega) n (by omega)
            have hlz := lsF_later l d s c (i := i) (n := n + 1) (msF (cfA l d s c i) n) (by omega) (by omega)
            rw [Nat.add_sub_cancel] at hlz
            have hcf : cfA l d s c i (n + 1) = s + c * ((itD ((l.drop i).take (n + 1))).length : Int) + at_ (csL l d s c (l.length - (i + 1))) n := rfl
            have hcb := cost_bd s'.1 s'.2 c'.1 c'.2 hX.2
            have HALL := Lib.hid (show ∀ j, 1 ≤ j → j ≤ n + 1 → rnOk ((l.drop i).take j) d = true from fun j h1 h2 => by
              rcases Nat.lt_or_ge n j with h | h
              · rw [show j = n + 1 by omega]; exact hr
              · exact M.out.1 j h1 h)
            obtain ⟨Z, hZ⟩ : ∃ Z, at_ (csL l d s c (l.length - (i + 1))) n = Z := ⟨_, rfl⟩
            rw [hZ] at hcs hlz hcf
            obtain ⟨y0, yf⟩ := HL3.out.at (j := i + (n + 1)) (by omega)
            obtain ⟨y1, y1f⟩ := HL3.out.at (j := i) (by omega)
            rw [hlz] at y0
            rw [lsF_here] at y1
            rw [rnL_yes hr]
            have HMS := Lib.hid (show msF (cfA l d s c i) (n + 1) = min (msF (cfA l d s c i) n) (cfA l d s c i (n + 1)) from rfl)
            obtain ⟨Q, hQ⟩ : ∃ Q, msF (cfA l d s c i) n = Q := ⟨_, rfl⟩
            rw [hQ] at y1 HMS
            obtain ⟨X, hX2⟩ : ∃ X, itD ((l.drop i).take (n + 1)) = X := ⟨_, rfl⟩
            rw [hX2] at hcf hcb hX ⊢
            obtain ⟨P, hP⟩ : ∃ P, c * (X.length : Int) = P := ⟨_, rfl⟩
            rw [hP] at hcf hcb
            have g1 : IntKind.i64.wrap (c * (X.length : Int)) = P := by rw [hP, IntWalk.i64_in] <;> omega
            have g2 : IntKind.i64.wrap (s + P) = s + P := by rw [IntWalk.i64_in] <;> omega
            have g3 : IntKind.i64.wrap (s + P + Z) = s + P + Z := by rw [IntWalk.i64_in] <;> omega
            rw [hcf] at HMS
            have HL4 := Lib.hid ((HL3.out.put (i := i) (by omega) (if s + P + Z < Q then s + P + Z else Q)).congr (G := lsF l d s c (i + 1) (msF (cfA l d s c i) (n + 1))) (fun j hj => by rw [HMS.out, ← min_if]; exact lsF_upd l d s c i _ _ j))
            have HB5 := Lib.hid (HB3.out.setCell (p := ⟨w.heap.size, i, none⟩) (Nat.le_refl _) (.int .i64 (if s + P + Z < Q then s + P + Z else Q)))
            have HZ5 := Lib.hid (show w.heap.size + 1 ≤ (w3.setCell ⟨w.heap.size, i, none⟩ (.int .i64 (if s + P + Z < Q then s + P + Z else Q))).heap.size by simp only [World.setCell, Array.size_modify]; omega)
            clear hr hcs hlz hcf hQ hX2 hP hZ yf
            go_wp2_with fail
            have p1 : (i : Int) < (l.length : Int) + 1 := by omega
            have p2 : (i : Int) + ((n : Int) + 1) < (l.length : Int) + 1 := by omega
            go_region_law (fail)
            all_goals
              obtain ⟨W5, hW5⟩ : ∃ W5, w3.setCell ⟨w.heap.size, i, none⟩ (.int .i64 (if s + P + Z < Q then s + P + Z else Q)) = W5 := ⟨_, rfl⟩
              rw [hW5] at HL4 HB5 HZ5 ⊢
              clear hW5 y0 y1 y1f
              have HL6 := Lib.hid (HL4.out.bel ((Below.refl _ W5).drew))
              have HB6 := Lib.hid (bel_trans HB5.out ((Below.refl _ W5).drew))
              have HZ6 := Lib.hid (show w.heap.size + 1 ≤ W5.drew.heap.size from HZ5.out)
              go_wp2
              go_roundw
              case rel => exact ⟨n + 1, by omega, by go_num, HALL.out, HL6.out, HB6.out, HZ6.out⟩
              case measure => simp [intOf]; omega
end Go.Proofs.YtpniljcnknknoaaGreatDoor

/-
  CheapestPlan (spec): the plan out of the least costs, and its own copy.
-/
namespace Go.Proofs.YtpniljcnknknoaaGreatDoor
open Go.RowKit
set_option linter.unusedVariables false
set_option linter.unusedSimpArgs false
set_option maxRecDepth 100000
attribute [local go_sem ↓] Go.wp_at_zero Go.wp_at_succ

theorem SegO.empty (w : World) (base : Nat) (hb : base ≤ w.heap.size) : SegO (w.alloc (.cells #[] 118)) base (.slice (some ⟨w.heap.size, 0, none⟩) 0 0) [] :=
  ⟨[], rfl, ⟨rfl, .inr ⟨w.heap.size, 0, #[], rfl, hb, heap_alloc_new w _, Nat.le_refl _, Nat.zero_le _, rfl, rfl⟩⟩, by simp, fun k hk => absurd hk (by simp)⟩
theorem sg_take {ps : List (Nat × List Int)} {k : Nat} (h : k < ps.length) : ps.take (k + 1) = ps.take k ++ [(sgn ps k, sgp ps k)] := by
  have e : (sgn ps k, sgp ps k) = ps[k] := by simp [sgn, sgp, List.getD, h]
  rw [e, List.take_add_one, List.getElem?_eq_getElem h]
  rfl
set_option maxHeartbeats 1000000 in
theorem ownSeg_any (n : Nat) (u : Value) (X : List Int) (w : World) (hu : Ints w u X) (hX : X.length ≤ 1048576) :
    Calls Tryz.prog 167 #[.agg #[.int .i64 n, u]] w fun e w' => ∃ r, e = .returned (.agg #[.int .i64 n, r]) ∧ Own w' w.heap.size r X ∧ Below w.heap.size w w' := by
  have HU := Lib.hid hu
  obtain ⟨A, c, rfl, hlc, hc, -⟩ := hu.open_
  have K1 := Blk.new w 118 [.int .i64 n, .slice A X.length c]
  have K2 := Blk.newG (w.alloc (.cells #[.int .i64 n, .slice A X.length c] 118)) 118 [.int .i64 0, .slice none 0 0] (w.heap.size + 1) (by simp)
  have K1' := (K1.alloc (.cells #[.int .i64 0, .slice none 0 0] 118)).alloc (.cells #[] 3)
  have K2' := K2.alloc (.cells #[] 3)
  obtain ⟨x0, x1, x2, x3⟩ := K1'.two
  have B2 := Lib.hid (show Below w.heap.size w (((w.alloc (.cells #[.int .i64 n, .slice A X.length c] 118)).alloc (.cells #[.int .i64 0, .slice none 0 0] 118)).alloc (.cells #[] 3)) from ((bel_alloc w _).alloc (by simp) _).alloc (by simp; omega) _)
  have OE0 := Own.empty ((w.alloc (.cells #[.int .i64 n, .slice A X.length c] 118)).alloc (.cells #[.int .i64 0, .slice none 0 0] 118)) (w.heap.size + 2) (by simp)
  rw [show ((w.alloc (.cells #[.int .i64 n, .slice A X.length c] 118)).alloc (.cells #[.int .i64 0, .slice none 0 0] 118)).heap.size = w.heap.size + 1 + 1 by simp] at OE0
  have OE := Lib.hid OE0
  clear OE0
  clear hu
  go_enter Tryz.func167, Tryz.ntmps167
  go_wp2_with (at_builtin; go_must (refine app_ints rfl _ _ (by rfl) (w.heap.size + 2) _ _ [] X (by rfl) (by exact OE.out) (by rfl) (by exact HU.out.bel B2.out) (by simp only [List.length_nil]; omega) (by simp) ?_); intro v4 w4 ho4 hg4 hat4; rw [List.nil_append] at ho4; obtain ⟨A4, c4, e4, -, -, -⟩ := ho4.ints.open_; subst e4; have Q1 := K1'.grown hg4 (fun e => by have := (OE.out.lt _ e.symm).1; omega); have Q2 := K2'.grown hg4 (fun e => by have := (OE.out.lt _ e.symm).1; omega); obtain ⟨y0, y1, y2, y3⟩ := Q1.two; obtain ⟨z0, z1, z2, z3⟩ := Q2.two)
  have HB4 := Lib.hid (app_bel (w0 := w) B2.out (OE.out.lower (base' := w.heap.size) (by omega)) hg4)
  clear x0 x1 x2 x3 y0 y1 y2 y3 z0 z1 z2 z3 hg4 hat4 K1 K2 K1' K2'
  have R2 : Blk (((w4.setCell ⟨w.heap.size, 1, none⟩ (.slice A4 X.length c4)).setCell ⟨w.heap.size + 1, 0, none⟩ (.int .i64 n)).setCell ⟨w.heap.size + 1, 1, none⟩ (.slice A4 X.length c4)) (w.heap.size + 1) 118 [.int .i64 n, .slice A4 X.length c4] := ((Q2.far (p := ⟨w.heap.size, 1, none⟩) (by show w.heap.size + 1 ≠ w.heap.size; omega) _).set_ 0 _).set_ 1 _
  have O2 := Lib.hid (((ho4.putCell ⟨w.heap.size, 1, none⟩ (.slice A4 X.length c4) (by show w.heap.size < w.heap.size + 2; omega)).putCell ⟨w.heap.size + 1, 0, none⟩ (.int .i64 n) (by show w.heap.size + 1 < w.heap.size + 2; omega)).putCell ⟨w.heap.size + 1, 1, none⟩ (.slice A4 X.length c4) (by show w.heap.size + 1 < w.heap.size + 2; omega))
  have HB5 := Lib.hid (((HB4.out.setCell (p := ⟨w.heap.size, 1, none⟩) (Nat.le_refl _) (.slice A4 X.length c4)).setCell (p := ⟨w.heap.size + 1, 0, none⟩) (by show w.heap.size ≤ w.heap.size + 1; omega) (.int .i64 n)).setCell (p := ⟨w.heap.size + 1, 1, none⟩) (by show w.heap.size ≤ w.heap.size + 1; omega) (.slice A4 X.length c4))
  obtain ⟨z0, z1, -, -⟩ := R2.two
  refine bodyPost_ret (v := .agg #[.int .i64 n, .slice A4 X.length c4]) (by simp [results, Tryz.results167, go_sem, z0, z1]) rfl ⟨_, rfl, O2.out.lower (base' := w.heap.size) (by omega), HB5.out⟩
set_option maxHeartbeats 2000000 in
theorem ownSegs_any (v : Value) (ps : List (Nat × List Int)) (w : World) (hv : SegR w v ps) (hX : ∀ k, k < ps.length → (sgp ps k).length ≤ 1048576) (hl : ps.length ≤ 1000000) :
    Calls Tryz.prog 98 #[v] w fun e w' => ∃ r, e = .returned r ∧ SegO w' w.heap.size r ps ∧ Below w.heap.size w w' := by
  have HV := Lib.hid hv
  have HX := Lib.hid hX
  obtain ⟨us, A, c, h1, rfl, h3, h4, h5, h6⟩ := hv
  have H5 := Lib.hid h5
  have H6 := Lib.hid h6
  have OE := Lib.hid (SegO.empty w w.heap.size (Nat.le_refl _))
  clear h5 h6 hX
  go_enter Tryz.func98, Tryz.ntmps98
  go_wp2
  go_loopw [3, 9] (fun s t wr => ∃ k : Nat, k ≤ ps.length ∧ t = .int .i64 k ∧ SegO wr w.heap.size s (ps.take k) ∧ Below w.heap.size w wr) (fun _ t _ => ps.length - (intOf t).toNat)
  case atStart => exact ⟨0, Nat.zero_le _, rfl, by rw [List.take_zero]; exact OE.out, bel_alloc _ _⟩
  case round =>
    obtain ⟨k, hk, rfl, ho, hb⟩ := hrel
    have H := Lib.hid (And.intro ho hb)
    have hz := hb.size
    clear ho hb
    by_cases hlt : k < ps.length
    · obtain ⟨b, o, rfl, hbb, hcell⟩ := H5.out (by omega)
      obtain ⟨e0, e1⟩ := hcell k hlt
      have y0 := (H.out.2.cell (p := ⟨b, o + k * 2, none⟩) hbb).trans e0
      have y1 := (H.out.2.cell (p := ⟨b, o + k * 2 + 1, none⟩) hbb).trans e1
      have HI := Lib.hid ((H6.out k hlt).bel H.out.2)
      have HXk := Lib.hid (HX.out k hlt)
      have HT := Lib.hid (sg_take hlt)
      have HTL := Lib.hid (show (ps.take k).length + 1 ≤ 1048576 by rw [List.length_take]; omega)
      obtain ⟨n, hn⟩ : ∃ n, sgn ps k = n := ⟨_, rfl⟩
      obtain ⟨X, hX⟩ : ∃ X, sgp ps k = X := ⟨_, rfl⟩
      obtain ⟨u, hu⟩ : ∃ u, sgu us k = u := ⟨_, rfl⟩
      rw [hn] at y0 HT
      rw [hu] at y1 HI
      rw [hX] at HT HI HXk
      clear hn hX hu e0 e1 hcell
      obtain ⟨A3, c3, rfl, -, -, -⟩ := HI.out.open_
      have K5 := Blk.new wr 118 [.int .i64 n, .slice A3 X.length c3]
      have BX := Lib.hid (bel_alloc wr (.cells #[.int .i64 n, .slice A3 X.length c3] 118))
      obtain ⟨t0, t1, t2, t3⟩ := K5.two
      have HK5 := Lib.hid (K5)
      clear t0 t1 t2 t3 K5
      go_wp2_with fail
      refine (ownSeg_any n _ X _ (HI.out.bel BX.out) HXk.out).mono ?_
      rintro e w5 ⟨r, rfl, o5, b5⟩
      obtain ⟨A5, c5, rfl, -, -, -⟩ := o5.ints.open_
      have B5 := Lib.hid (bel_trans BX.out b5)
      have O5 := Lib.hid (o5.lower (Nat.zero_le _))
      have HS5 := Lib.hid (H.out.1.bel B5.out)
      have BY := Lib.hid (bel_alloc w5 (.cells #[.int .i64 n, .slice A5 X.length c5] 118))
      have z5 := B5.out.size
      clear o5 b5
      go_wp2_with (at_builtin; go_must (refine app_seg rfl _ _ (by rfl) w.heap.size _ (ps.take k) (by rfl) (by exact HS5.out.bel BY.out) _ _ n X (.slice A5 X.length c5) (by rfl) (by exact Blk.newG _ _ [.int .i64 n, .slice A5 X.length c5] _ (by simp)) (by exact O5.out.bel BY.out) HTL.out (by simp; omega) ?_; intro v6 w6 ho6 hg6 hat6; have HB6 := Lib.hid (app_belG (w0 := w) (bel_trans (bel_trans H.out.2 B5.out) BY.out) (HS5.out.bel BY.out) hg6)))
      go_roundw
      case rel => exact ⟨k + 1, hlt, by go_num, by rw [HT.out]; exact ho6, HB6.out⟩
      case measure => simp [intOf]; omega
    · obtain rfl : k = ps.length := by omega
      have HO := Lib.hid (show SegO wr w.heap.size u3 ps by have := H.out.1; rwa [List.take_length] at this)
      go_wp2
      go_ret
      exact ⟨_, rfl, HO.out, H.out.2⟩
end Go.Proofs.YtpniljcnknknoaaGreatDoor

/-
  CheapestPlan (spec), walked.
-/
namespace Go.Proofs.YtpniljcnknknoaaGreatDoor
open Go.RowKit
set_option linter.unusedVariables false
set_option linter.unusedSimpArgs false
set_option maxRecDepth 100000
attribute [local go_sem ↓] Go.wp_at_zero Go.wp_at_succ

theorem seg_not_int {w : World} {base g : Nat} {v : Value} {ps : List (Nat × List Int)} {cs : List Value} (h : SegO w base v ps) (hb : Blk w g 3 cs) : some g ≠ v.ownBlock := by
  intro e
  obtain ⟨us, h1, h2, h3, h4⟩ := h
  rcases h2.2 with ⟨rfl, -⟩ | ⟨g2, cap, cur, rfl, -, hh, -⟩
  · cases e
  · injection e with e
    subst e
    unfold Blk at hb
    rw [hh] at hb
    injection hb with hb
    injection hb with _ hb
    exact absurd hb (by decide)
theorem LeastB.grown {w w' : World} {g L : Nat} {F : Nat → Int} {base : Nat} {v : Value} {ps : List (Nat × List Int)} (h : LeastB w g L F) (hv : SegO w base v ps) (hg : w.grownBy w' v.ownBlock) : LeastB w' g L F := by
  obtain ⟨cs, h1, h2, h3⟩ := h
  exact ⟨cs, h1.grown hg (seg_not_int hv h1), h2, h3⟩
set_option maxHeartbeats 4000000 in
theorem rawNo_any (v : Value) (l : List Int) (d s c : Int) (w : World) (hv : Ints w v l) (h : chOk l d s c = false) :
    Calls Tryz.prog 97 #[v, .int .i64 d, .int .i64 s, .int .i64 c] w (SegQ w [] false) := by
  have HV := Lib.hid hv
  have HN := Lib.hid h
  obtain ⟨A, cp, rfl, -, -, -⟩ := hv.open_
  have OE := Lib.hid (SegO.empty w w.heap.size (Nat.le_refl _))
  have BE := Lib.hid (bel_alloc w (.cells #[] 118))
  clear hv h
  go_enter Tryz.func97, Tryz.ntmps97
  cases h1 : smOk l
  · go_wp2_with (go_at_call 162; refine (specSmall_any _ _ _ (HV.out.bel BE.out)).mono ?_; rw [h1]; rintro e w' ⟨rfl, rfl⟩)
    go_ret2
    exact ⟨_, rfl, OE.out, BE.out⟩
  · cases h2 : inB d 0 6
    · go_wp2_with (first
        | (go_at_call 162; refine (specSmall_any _ _ _ (HV.out.bel BE.out)).mono ?_; rw [h1]; rintro e w' ⟨rfl, rfl⟩)
        | (go_at_call 108; refine (l4Deg_any _ _).mono ?_; rw [h2]; rintro e w' ⟨rfl, rfl⟩))
      go_ret2
      exact ⟨_, rfl, OE.out, BE.out⟩
    · have h3 : (inB s 0 1000 && inB c 0 1000) = false := by
        have := HN.out
        simp only [chOk, h1, h2, Bool.true_and] at this
        exact this
      go_wp2_with (first
        | (go_at_call 162; refine (specSmall_any _ _ _ (HV.out.bel BE.out)).mono ?_; rw [h1]; rintro e w' ⟨rfl, rfl⟩)
        | (go_at_call 108; refine (l4Deg_any _ _).mono ?_; rw [h2]; rintro e w' ⟨rfl, rfl⟩)
        | (go_at_call 163; refine (l5Cost_any _ _ _).mono ?_; rw [h3]; rintro e w' ⟨rfl, rfl⟩))
      go_ret2
      exact ⟨_, rfl, OE.out, BE.out⟩
set_option maxHeartbeats 4000000 in
theorem rawYes_any (v : Value) (l : List Int) (d s c : Int) (w : World) (hv : Ints w v l) (h : chOk l d s c = true) :
    Calls Tryz.prog 97 #[v, .int .i64 d, .int .i64 s, .int .i64 c] w (SegQ w (chL l d s c) true) := by
  have HV := Lib.hid hv
  obtain ⟨A, cp, rfl, hlc, hc, hrd⟩ := hv.open_
  unfold chOk at h
  rw [Bool.and_eq_true, Bool.and_eq_true, Bool.and_eq_true] at h
  obtain ⟨⟨⟨h1, h2⟩, h3⟩, h4⟩ := h
  obtain ⟨l1, l60, -⟩ := smOk_iff.1 h1
  have d' := inB_true.1 h2
  have s' := inB_true.1 h3
  have c' := inB_true.1 h4
  have H1 := Lib.hid h1
  have H2 := Lib.hid h2
  have H3 := Lib.hid (show (inB s 0 1000 && inB c 0 1000) = true by rw [h3, h4]; rfl)
  obtain ⟨b, o, rfl, hbb, hcell⟩ := hrd.ints (by omega)
  have HP := Lib.hid (show ∀ i, i < l.length → 1 ≤ chN l d s c i from fun i hi => (chN_in h1 d'.1 d'.2 hi).1)
  have OE := SegO.empty w w.heap.size (Nat.le_refl _)
  have BE := bel_alloc w (.cells #[] 118)
  clear hv hrd hcell h1 h2 h3 h4
  go_enter Tryz.func97, Tryz.ntmps97
  go_wp2_with fail
  generalize hW : w.alloc (.cells #[] 118) = W at *
  have HB := Lib.hid BE
  have HO := Lib.hid OE
  have hzW : w.heap.size ≤ W.heap.size := BE.size
  clear hW OE BE
  refine (specSmall_any _ _ _ (HV.out.bel HB.out)).mono ?_
  rw [H1.out]
  rintro e w' ⟨rfl, rfl⟩
  go_wp2_with (first
    | (go_at_call 108; refine (l4Deg_any _ _).mono ?_; rw [H2.out]; rintro e w' ⟨rfl, rfl⟩)
    | (go_at_call 163; refine (l5Cost_any _ _ _).mono ?_; rw [H3.out]; rintro e w' ⟨rfl, rfl⟩))
  refine (best5_any _ l d s c _ (HV.out.bel HB.out) H1.out d' s' c').mono ?_
  rintro e w3 ⟨rfl, hL, b3⟩
  have HL := Lib.hid (hL.congr (G := fun j => at_ (csL l d s c (l.length - j)) 0) (fun j hj => by unfold lsF; rw [if_pos (Nat.zero_le _)]))
  have HB3 := Lib.hid (bel_trans HB.out b3)
  have HO3 := Lib.hid (HO.out.bel b3)
  have hz3 := b3.size
  clear hL b3 HO HB
  go_wp2_with fail
  go_loopw [10, 12] (fun s1 t wr => ∃ (i : Nat) (ps : List (Nat × List Int)), i ≤ l.length ∧ t = .int .i64 i ∧ SegO wr w.heap.size s1 ps ∧ ps.length ≤ i ∧ ps ++ sgL l (chN l d s c) i = chL l d s c ∧ Below w.heap.size w wr ∧ LeastB wr W.heap.size l.length (fun j => at_ (csL l d s c (l.length - j)) 0)) (fun _ t _ => l.length - (intOf t).toNat)
  case atStart => exact ⟨0, [], Nat.zero_le _, rfl, HO3.out, Nat.le_refl _, rfl, HB3.out, HL.out⟩
  case round =>
    obtain ⟨i, ps, hi, rfl, ho, hp, he, hb, hl⟩ := hrel
    have H := Lib.hid (And.intro ho (And.intro hp (And.intro he (And.intro hb hl))))
    have hz := hb.size
    clear ho hp he hb hl
    by_cases hil : i < l.length
    · obtain ⟨N, hN⟩ : ∃ N, lgN (l.drop i) d = N := ⟨_, rfl⟩
      obtain ⟨k1, k2, k3⟩ := chN_in (s := s) (c := c) H1.out d'.1 d'.2 hil
      have HSM := Lib.hid (show at_ (csL l d s c (l.length - i)) 0 = (selF (cfA l d s c i) N N).1 by rw [← hN]; exact ch_ms H1.out d'.1 d'.2 s'.1 s'.2 c'.1 c'.2 hil)
      have HCN := Lib.hid (show chN l d s c i = (selF (cfA l d s c i) N N).2 by rw [← hN]; rfl)
      rw [hN] at k2 k3
      have HNN := Lib.hid hN
      have HSP := Lib.hid (show cfA l d s c i (chN l d s c i) = (selF (cfA l d s c i) N N).1 by
        rw [HCN.out]
        obtain ⟨q, hq⟩ : ∃ q, N = q + 1 := ⟨N - 1, by omega⟩
        rw [hq]
        exact (sel_spec (cfA l d s c i) (q + 1) q (Nat.le_refl _)).2.2.1)
      have HE := Lib.hid (sgL_at HP.out hil)
      have HD := Lib.hid (show Ints wr (.slice (some ⟨b, o + i, none⟩) (l.length - i) (cp - i)) (l.drop i) from (HV.out.bel H.out.2.2.2.1).dropN (by omega))
      have hdl : (l.drop i).length ≤ 1000000 := by rw [List.length_drop]; omega
      have HDL := Lib.hid hdl
      have q1 : (i : Int) ≤ (l.length : Int) := by omega
      have q2 : (0 : Int) ≤ (i : Int) := by omega
      have q3 : ¬ cp = i := by omega
      obtain ⟨wo, hwo⟩ : ∃ wo, wo = wr := ⟨_, rfl⟩
      subst hwo
      clear hN hdl
      go_wp2_with fail
      refine (specLong_any _ (l.drop i) d _ HD.out HDL.out).mono ?_
      rw [HNN.out]
      rintro e w4 ⟨rfl, b4⟩
      have HB4 := Lib.hid b4
      clear b4
      go_wp2_with fail
      obtain ⟨S0, hS0⟩ : ∃ S0, S0 = u10 := ⟨_, rfl⟩
      go_loopw [10, 12, 13] (fun s2 t2 t wc => ∃ n : Nat, n ≤ N ∧ s2 = S0 ∧ t2 = .int .i64 i ∧ t = .int .i64 n ∧ (∀ j, n < j → j ≤ N → cfA l d s c i j ≠ (selF (cfA l d s c i) N N).1) ∧ Below wo.heap.size wo wc) (fun _ _ t _ => (intOf t).toNat)
      case atStart => exact ⟨N, Nat.le_refl _, hS0.symm, rfl, rfl, fun j h1 h2 => absurd h1 (by omega), HB4.out⟩
      case round =>
        obtain ⟨n, hn, rfl, rfl, rfl, hno, hb⟩ := hrel
        have M := Lib.hid (And.intro hno hb)
        have hz2 := hb.size
        clear hno hb
        have hcn : chN l d s c i ≤ n := by
          rcases Nat.lt_or_ge n (chN l d s c i) with h | h
          · exact absurd HSP.out (M.out.1 _ h k2)
          · exact h
        have hrn : rnOk ((l.drop i).take n) d = true := lgN_in (by omega) (by rw [HNN.out]; exact hn)
        have HT := Lib.hid (show Ints wr (.slice (some ⟨b, o + i, none⟩) n (cp - i)) ((l.drop i).take n) from Ints.midN (HV.out.bel (H.out.2.2.2.1.trans (M.out.2.mono hz))) (by omega))
        have HTL := Lib.hid (show ((l.drop i).take n).length ≤ 1048576 by rw [List.length_take]; omega)
        have t0 : (n : Int) > 0 := by omega
        have t1 : (i : Int) + (n : Int) ≤ (cp : Int) := by omega
        have t2 : (0 : Int) ≤ (i : Int) + (n : Int) := by omega
        have t3 : ((i : Int) + (n : Int)).toNat = i + n := by omega
        have t4 : IntKind.i64.wrap ((i : Int) + (n : Int)) = (i : Int) + (n : Int) := by rw [IntWalk.i64_in] <;> omega
        have t5 : (i : Int) ≤ (i : Int) + (n : Int) := by omega
        have t6 : i + n - i = n := by omega
        have HRN := Lib.hid hrn
        have HCC := Lib.hid hcn
        clear hrn hcn
        go_wp2_with fail
        refine (specRun5_any _ ((l.drop i).take n) d _ HT.out HTL.out).mono ?_
        rw [HRN.out, rnL_yes HRN.out]
        rintro e w5 ⟨r, rfl, o5, b5⟩
        have HB5 := Lib.hid (bel_trans M.out.2 b5)
        have hX := itD7 HRN.out
        have hcb := cost_bd s'.1 s'.2 c'.1 c'.2 hX.2
        have hcs := csL_bd (s := s) (c := c) H1.out d'.1 d'.2 s'.1 s'.2 c'.1 c'.2 (l.length - (i + n)) (by omega) 0 (by omega)
        have hcf : cfA l d s c i n = s + c * ((itD ((l.drop i).take n)).length : Int) + at_ (csL l d s c (l.length - (i + 1))) (n - 1) := rfl
        have htail := csL_tail l d s c (l.length - (i + 1)) (n - 1) (l.length - (i + n)) (by have := HCC.out; omega)
        rw [htail] at hcf
        have HL5 := Lib.hid (H.out.2.2.2.2.bel HB5.out)
        obtain ⟨y0, -⟩ := HL5.out.at (j := i + n) (by omega)
        obtain ⟨y1, -⟩ := HL5.out.at (j := i) (by omega)
        obtain ⟨Z, hZ⟩ : ∃ Z, at_ (csL l d s c (l.length - (i + n))) 0 = Z := ⟨_, rfl⟩
        rw [hZ] at y0 hcs hcf
        rw [HSM.out] at y1
        obtain ⟨Q, hQ⟩ : ∃ Q, (selF (cfA l d s c i) N N).1 = Q := ⟨_, rfl⟩
        rw [hQ] at y1
        have HQ := Lib.hid hQ
        obtain ⟨X, hX2⟩ : ∃ X, itD ((l.drop i).take n) = X := ⟨_, rfl⟩
        rw [hX2] at o5 hcf hcb hX
        have HXX := Lib.hid hX2
        obtain ⟨P, hP⟩ : ∃ P, c * (X.length : Int) = P := ⟨_, rfl⟩
        rw [hP] at hcf hcb
        have g1 : IntKind.i64.wrap (c * (X.length : Int)) = P := by rw [hP, IntWalk.i64_in] <;> omega
        have g2 : IntKind.i64.wrap (s + P) = s + P := by rw [IntWalk.i64_in] <;> omega
        have g3 : IntKind.i64.wrap (s + P + Z) = s + P + Z := by rw [IntWalk.i64_in] <;> omega
        have p1 : (i : Int) < (l.length : Int) + 1 := by omega
        have p2 : (i : Int) + (n : Int) < (l.length : Int) + 1 := by omega
        have HCF := Lib.hid hcf
        obtain ⟨A5, c5, rfl, -, -, -⟩ := o5.ints.open_
        have HO5 := Lib.hid (o5.lower (Nat.zero_le _))
        clear hcs hcf htail hZ hQ hX2 hP o5 b5
        by_cases heq : s + P + Z = Q
        · have e1 : (s + P + Z == Q) = true := by rw [heq]; simp
          have HN1 := Lib.hid (show n = chN l d s c i by
            rw [HCN.out]
            exact sel_first (by omega) (by omega) hn (by rw [HCF.out, HQ.out]; exact heq) (fun j h1 h2 => M.out.1 j h1 h2))
          clear heq
          go_wp2_with fail
          go_quiet (fail)
          have bq : Below w5.heap.size w5 (w5.drewN nq) := below_drewN (Below.refl _ _) nq
          generalize hW6 : w5.drewN nq = W6 at *
          clear hW6
          have HB6 := Lib.hid (bel_trans HB5.out bq)
          have HO6 := Lib.hid (HO5.out.bel bq)
          have HS6 := Lib.hid (H.out.1.bel HB6.out)
          have HL6 := Lib.hid (H.out.2.2.2.2.bel HB6.out)
          have hlp : ps.length + 1 ≤ 1048576 := by have := H.out.2.1; omega
          have BY := Lib.hid (bel_alloc W6 (.cells #[.int .i64 n, .slice A5 X.length c5] 118))
          have z6 := HB6.out.size
          clear bq y0 y1
          go_wp2_with (at_builtin; go_must (refine app_seg rfl (.tmp 79) (.tmp 83) (by rfl) w.heap.size _ ps (by rfl) (by exact HS6.out.bel BY.out) _ _ n X (.slice A5 X.length c5) (by rfl) (by exact Blk.newG _ _ [.int .i64 n, .slice A5 X.length c5] _ (by simp)) (by exact HO6.out.bel BY.out) hlp (by simp; omega) ?_; intro v7 w7 ho7 hg7 hat7; have HB7 := Lib.hid (app_belG (w0 := w) (bel_trans (H.out.2.2.2.1.trans (HB6.out.mono hz)) BY.out) (HS6.out.bel BY.out) hg7); have HL7 := Lib.hid ((HL6.out.bel BY.out).grown (HS6.out.bel BY.out) hg7)))
          have hps : (ps ++ [(n, X)]).length ≤ i + n := by rw [List.length_append]; have := H.out.2.1; simp; omega
          have HEQ := Lib.hid (show (ps ++ [(n, X)]) ++ sgL l (chN l d s c) (i + n) = chL l d s c by have := H.out.2.2.1; rw [HE.out, ← HN1.out, HXX.out] at this; rw [← this]; simp)
          go_roundw
          case rel => exact ⟨i + n, ps ++ [(n, X)], by omega, by go_num, ho7, hps, HEQ.out, HB7.out, HL7.out⟩
          case measure => simp [intOf]; omega
        · have e1 : (s + P + Z == Q) = false := by rw [beq_eq_false_iff_ne]; exact heq
          have HNO := Lib.hid (show ∀ j, n - 1 < j → j ≤ N → cfA l d s c i j ≠ (selF (cfA l d s c i) N N).1 from fun j h1 h2 => by
            by_cases h : j = n
            · rw [h, HCF.out, HQ.out]; exact heq
            · exact M.out.1 j (by omega) h2)
          clear heq
          go_wp2_with fail
          go_quiet (fail)
          have bq : Below w5.heap.size w5 (w5.drewN nq) := below_drewN (Below.refl _ _) nq
          generalize hW6 : w5.drewN nq = W6 at *
          clear hW6
          have HB6 := Lib.hid (bel_trans HB5.out bq)
          clear bq y0 y1
          go_wp2
          go_roundw
          case rel => exact ⟨n - 1, by omega, hS0.symm, rfl, by go_num, HNO.out, HB6.out⟩
          case measure => first | (simp [intOf]; done) | (simp [intOf]; omega)
    · obtain rfl : i = l.length := by omega
      have HE := Lib.hid (show ps = chL l d s c by have := H.out.2.2.1; rwa [sgL_end (Nat.le_refl _), List.append_nil] at this)
      go_wp2
      go_ret2
      exact ⟨_, rfl, by rw [← HE.out]; exact H.out.1, H.out.2.2.2.1⟩
theorem itD_le (l : List Int) : (itD l).length ≤ l.length := by
  unfold itD
  rw [diffsI_length, List.length_take]
  exact Nat.min_le_right _ _
theorem sgF_small {v : List Int} {g : Nat → Nat} (h60 : v.length ≤ 60) : ∀ f i, (sgF v g f i).length ≤ f ∧ ∀ k, k < (sgF v g f i).length → (sgp (sgF v g f i) k).length ≤ 60
  | 0, i => ⟨Nat.le_refl _, fun k hk => absurd hk (by simp [sgF])⟩
  | f + 1, i => by
    obtain ⟨h1, h2⟩ := sgF_small (g := g) h60 f (i + g i)
    unfold sgF
    by_cases hi : i < v.length
    · rw [if_pos hi]
      refine ⟨by simpa using h1, fun k hk => ?_⟩
      cases k with
      | zero =>
        have a := itD_le ((v.drop i).take (g i))
        rw [List.length_take, List.length_drop] at a
        show (itD ((v.drop i).take (g i))).length ≤ 60
        omega
      | succ k => exact h2 k (by simpa using hk)
    · rw [if_neg hi]
      exact ⟨Nat.zero_le _, fun k hk => absurd hk (by simp)⟩
theorem chP_small (l : List Int) (d s c : Int) : (chP l d s c).length ≤ 60 ∧ ∀ k, k < (chP l d s c).length → (sgp (chP l d s c) k).length ≤ 60 := by
  unfold chP
  split
  · rename_i h
    have h60 : l.length ≤ 60 := by
      unfold chOk at h
      rw [Bool.and_eq_true, Bool.and_eq_true, Bool.and_eq_true] at h
      exact (smOk_iff.1 h.1.1.1).2.1
    obtain ⟨q1, q2⟩ := sgF_small (g := chN l d s c) h60 (l.length - 0) 0
    unfold chL sgL
    exact ⟨by omega, q2⟩
  · exact ⟨Nat.zero_le _, fun k hk => absurd hk (by simp)⟩
theorem grP_small (l : List Int) (d : Int) : (grP l d).length ≤ 60 ∧ ∀ k, k < (grP l d).length → (sgp (grP l d) k).length ≤ 60 := by
  unfold grP
  split
  · rename_i h
    have h60 : l.length ≤ 60 := by
      unfold grOk at h
      rw [Bool.and_eq_true] at h
      exact (smOk_iff.1 h.1).2.1
    obtain ⟨q1, q2⟩ := sgF_small (g := fun i => lgN (l.drop i) d) h60 (l.length - 0) 0
    unfold grL sgL
    exact ⟨by omega, q2⟩
  · exact ⟨Nat.zero_le _, fun k hk => absurd hk (by simp)⟩
set_option maxHeartbeats 1000000 in
theorem specCheap_any (v : Value) (l : List Int) (d s c : Int) (w : World) (hv : Ints w v l) :
    Calls Tryz.prog 35 #[v, .int .i64 d, .int .i64 s, .int .i64 c] w (SegQ w (chP l d s c) (chOk l d s c)) := by
  have HV := Lib.hid hv
  obtain ⟨A, cp, rfl, -, -, -⟩ := hv.open_
  have HR := Lib.hid (show Calls Tryz.prog 97 #[.slice A l.length cp, .int .i64 d, .int .i64 s, .int .i64 c] w (SegQ w (chP l d s c) (chOk l d s c)) by
    cases h : chOk l d s c
    · rw [ch_no h]; exact rawNo_any _ l d s c w hv h
    · have : chP l d s c = chL l d s c := by simp [chP, h]
      rw [this]; exact rawYes_any _ l d s c w hv h)
  clear hv
  go_enter Tryz.func35, Tryz.ntmps35
  go_wp2_with fail
  refine HR.out.mono ?_
  rintro e w2 ⟨r, rfl, o2, b2⟩
  have HO := Lib.hid o2.read
  have HB := Lib.hid b2
  have hpl : (chP l d s c).length ≤ 1000000 ∧ ∀ k, k < (chP l d s c).length → (sgp (chP l d s c) k).length ≤ 1048576 := by
    obtain ⟨q1, q2⟩ := chP_small l d s c
    exact ⟨by omega, fun k hk => by have := q2 k hk; omega⟩
  have HPL := Lib.hid hpl
  obtain ⟨us, A2, c2, -, rfl, -⟩ := HO.out
  clear o2 b2 hpl
  go_wp2_with fail
  refine (ownSegs_any _ _ _ HO.out HPL.out.2 HPL.out.1).mono ?_
  rintro e w3 ⟨r3, rfl, o3, b3⟩
  have HO3 := Lib.hid (o3.lower (base' := w.heap.size) HB.out.size)
  have HB3 := Lib.hid (bel_trans HB.out b3)
  obtain ⟨us3, A3, c3, -, rfl, -⟩ := o3.read
  clear o3 b3
  go_wp2
  go_ret2
  exact ⟨_, rfl, HO3.out, HB3.out⟩
end Go.Proofs.YtpniljcnknknoaaGreatDoor

/-
  CheapestPlan (impl), walked.
-/
namespace Go.Proofs.YtpniljcnknknoaaGreatDoor
open Go.RowKit
set_option linter.unusedVariables false
set_option linter.unusedSimpArgs false
set_option maxRecDepth 100000
attribute [local go_sem ↓] Go.wp_at_zero Go.wp_at_succ

set_option maxHeartbeats 4000000 in
theorem cheapYes_any (v : Value) (l : List Int) (d s c : Int) (w : World) (hv : Ints w v l) (h : chOk l d s c = true) :
    Calls Tryz.prog 34 #[v, .int .i64 d, .int .i64 s, .int .i64 c] w (SegQ w (chL l d s c) true) := by
  have HV := Lib.hid hv
  obtain ⟨A, cp, rfl, hlc, hc, hrd⟩ := hv.open_
  unfold chOk at h
  rw [Bool.and_eq_true, Bool.and_eq_true, Bool.and_eq_true] at h
  obtain ⟨⟨⟨h1, h2⟩, h3⟩, h4⟩ := h
  obtain ⟨l1, l60, -⟩ := smOk_iff.1 h1
  have d' := inB_true.1 h2
  have s' := inB_true.1 h3
  have c' := inB_true.1 h4
  have H1 := Lib.hid h1
  have H2 := Lib.hid h2
  have H3 := Lib.hid h3
  have H4 := Lib.hid h4
  obtain ⟨b, o, rfl, hbb, hcell⟩ := hrd.ints (by omega)
  have hmk1 := fun W => Tryz.mkInts (l.length + 1) (by omega) W
  have hmk2 := fun W => Tryz.mkSegs l.length (by omega) W
  rw [show ((l.length + 1 : Nat) : Int) = (l.length : Int) + 1 from by omega] at hmk1
  have w1 : IntKind.i64.wrap ((l.length : Int) + 1) = (l.length : Int) + 1 := by rw [IntWalk.i64_in] <;> omega
  have HP := Lib.hid (show ∀ i, i < l.length → 1 ≤ chN l d s c i from fun i hi => (chN_in h1 d'.1 d'.2 hi).1)
  clear hv hrd hcell h1 h2 h3 h4
  go_enter Tryz.func34, Tryz.ntmps34
  go_wp2_with (first
    | (go_at_call 93; refine (implSmall_any _ _ _ HV.out).mono ?_; rw [H1.out]; rintro e w' ⟨rfl, rfl⟩)
    | (go_at_call 94; refine (degV_any _ _).mono ?_; rw [H2.out]; rintro e w' ⟨rfl, rfl⟩)
    | (go_at_call 95; refine (costValid_any s _).mono ?_; rw [H3.out]; rintro e w' ⟨rfl, rfl⟩)
    | (go_at_call 95; refine (costValid_any c _).mono ?_; rw [H4.out]; rintro e w' ⟨rfl, rfl⟩))
  have KL := Blk.new w 3 (reps (l.length + 1) (.int .i64 0))
  have KB := Blk.new (w.alloc (.cells (reps (l.length + 1) (.int .i64 0)).toArray 3)) 118 (segs0 l.length)
  have B0 : Below w.heap.size w ((w.alloc (.cells (reps (l.length + 1) (.int .i64 0)).toArray 3)).alloc (.cells (segs0 l.length).toArray 118)) := (bel_alloc w _).alloc (by simp) _
  have LB0 : LeastB ((w.alloc (.cells (reps (l.length + 1) (.int .i64 0)).toArray 3)).alloc (.cells (segs0 l.length).toArray 118)) w.heap.size l.length (lsF l d s c l.length 0) := ⟨_, KL.alloc _, reps_length _ _, fun j hj => by
    rw [reps_get _ hj]
    unfold lsF
    by_cases e : l.length ≤ j
    · rw [if_pos e, show l.length - j = 0 by omega]; rfl
    · rw [if_neg e]; split <;> rfl⟩
  have BB0 : BestB ((w.alloc (.cells (reps (l.length + 1) (.int .i64 0)).toArray 3)).alloc (.cells (segs0 l.length).toArray 118)) (w.heap.size + 1) (w.heap.size + 2) l (bsF l d s c l.length 0) := by
    have e1 : (w.alloc (.cells (reps (l.length + 1) (.int .i64 0)).toArray 3)).heap.size = w.heap.size + 1 := by simp
    rw [e1] at KB
    refine ⟨_, KB, segs0_len _, fun j hj => ⟨.slice none 0 0, ?_, (segs0_at hj).2, ?_⟩⟩
    · rw [(segs0_at hj).1]
      unfold bsF
      rw [if_neg (by omega)]
      split <;> rfl
    · have : bsF l d s c l.length 0 j = 0 := by unfold bsF; rw [if_neg (by omega)]; split <;> rfl
      rw [this, itD_nil]
      exact Own.nil_ _ _
  generalize hW : (w.alloc (.cells (reps (l.length + 1) (.int .i64 0)).toArray 3)).alloc (.cells (segs0 l.length).toArray 118) = W at *
  have hWz : W.heap.size = w.heap.size + 2 := by rw [← hW]; simp
  clear hW KL KB
  go_loopw [12] (fun t wr => ∃ k : Nat, k ≤ l.length ∧ t = .int .i64 ((k : Int) - 1) ∧ LeastB wr w.heap.size l.length (lsF l d s c k 0) ∧ BestB wr (w.heap.size + 1) (w.heap.size + 2) l (bsF l d s c k 0) ∧ Below w.heap.size w wr ∧ w.heap.size + 2 ≤ wr.heap.size) (fun t _ => (intOf t + 1).toNat)
  case atStart => exact ⟨l.length, Nat.le_refl _, by go_num, LB0, BB0, B0, by omega⟩
  case round =>
    obtain ⟨k, hk, rfl, hL, hB, hb, hz⟩ := hrel
    have H := Lib.hid (And.intro hL (And.intro hB hb))
    clear hL hB hb LB0 BB0 B0
    by_cases hk0 : k = 0
    · subst hk0
      rw [show (((0 : Nat) : Int) - 1) = -1 from rfl]
      have HBB := Lib.hid (H.out.2.1.congr (D := chN l d s c) (fun j hj => by unfold bsF; rw [if_pos (Nat.zero_le _)]))
      obtain ⟨wo, hwo⟩ : ∃ wo, wo = wr := ⟨_, rfl⟩
      subst hwo
      go_wp2_with fail
      go_loopw [17, 18] (fun s1 t wr => ∃ (i : Nat) (ps : List (Nat × List Int)), i ≤ l.length ∧ t = .int .i64 i ∧ SegO wr wo.heap.size s1 ps ∧ ps.length ≤ i ∧ ps ++ sgL l (chN l d s c) i = chL l d s c ∧ Below wo.heap.size wo wr) (fun _ t _ => l.length - (intOf t).toNat)
      case atStart => exact ⟨0, [], Nat.zero_le _, rfl, SegO.nil_ _ _, Nat.le_refl _, rfl, Below.refl _ _⟩
      case round =>
        obtain ⟨i, ps, hi, rfl, ho, hp, he, hb⟩ := hrel
        have G := Lib.hid (And.intro ho (And.intro hp (And.intro he hb)))
        have hgz := hb.size
        clear ho hp he hb
        by_cases hlt : i < l.length
        · obtain ⟨q1, q2, q3⟩ := chN_in (s := s) (c := c) H1.out d'.1 d'.2 hlt
          have HE := Lib.hid (sgL_at HP.out hlt)
          obtain ⟨u, x0, x1, -, -, xo⟩ := (HBB.out.bel G.out.2.2.2).at hlt
          obtain ⟨n, hn⟩ : ∃ n, chN l d s c i = n := ⟨_, rfl⟩
          obtain ⟨X, hX⟩ : ∃ X, itD ((l.drop i).take n) = X := ⟨_, rfl⟩
          rw [hn] at q1 q2 x0 xo HE
          rw [hX] at xo HE
          have HNX := Lib.hid (And.intro hn hX)
          obtain ⟨A3, c3, rfl, -, -, -⟩ := xo.ints.open_
          have HX := Lib.hid (xo.lower (Nat.zero_le _))
          clear hn hX xo
          have BX := Lib.hid (bel_alloc wr (.cells #[.int .i64 n, .slice A3 X.length c3] 118))
          have hlp : ps.length + 1 ≤ 1048576 := by have := G.out.2.1; omega
          go_wp2_with (at_builtin; go_must (refine app_seg rfl (.tmp 120) (.tmp 125) (by rfl) wo.heap.size _ ps (by rfl) (by exact G.out.1.bel BX.out) _ _ n X (.slice A3 X.length c3) (by rfl) (by exact Blk.newG _ _ [.int .i64 n, .slice A3 X.length c3] _ (by simp)) (by exact HX.out.bel BX.out) hlp (by have := BX.out.size; omega) ?_; intro v4 w4 ho4 hg4 hat4; have HB4 := Lib.hid (app_belG (w0 := wo) (bel_trans G.out.2.2.2 BX.out) (G.out.1.bel BX.out) hg4); obtain ⟨u2, y0, -⟩ := (HBB.out.bel HB4.out).at hlt; rw [HNX.out.1] at y0))
          have hps : (ps ++ [(n, X)]).length ≤ i + n := by rw [List.length_append]; have := G.out.2.1; simp; omega
          have HEQ := Lib.hid (show (ps ++ [(n, X)]) ++ sgL l (chN l d s c) (i + n) = chL l d s c by have := G.out.2.2.1; rw [HE.out] at this; rw [← this]; simp)
          go_roundw
          case rel => exact ⟨i + n, ps ++ [(n, X)], by omega, by go_num, ho4, hps, HEQ.out, HB4.out⟩
          case measure => simp [intOf]; omega
        · obtain rfl : i = l.length := by omega
          have HE := Lib.hid (show ps = chL l d s c by have := G.out.2.2.1; rwa [sgL_end (Nat.le_refl _), List.append_nil] at this)
          have HO := Lib.hid (G.out.1.lower (base' := w.heap.size) (by have := H.out.2.2.size; omega))
          have HB := Lib.hid (H.out.2.2.trans (G.out.2.2.2.mono (by have := H.out.2.2.size; omega)))
          go_wp2
          go_ret2
          exact ⟨_, rfl, by rw [← HE.out]; exact HO.out, HB.out⟩
    · obtain ⟨i, rfl⟩ : ∃ i, k = i + 1 := ⟨k - 1, by omega⟩
      rw [show (((i + 1 : Nat) : Int) - 1) = (i : Int) from by omega]
      have hil : i < l.length := by omega
      obtain ⟨m, hm⟩ : ∃ m, l.length - i = m := ⟨_, rfl⟩
      have hmI : (l.length : Int) - (i : Int) = (m : Int) := by omega
      obtain ⟨N, hN⟩ : ∃ N, lgN (l.drop i) d = N := ⟨_, rfl⟩
      have hNm : N ≤ m := by have := lgN_le (l.drop i) d; rw [List.length_drop] at this; omega
      have HNN := Lib.hid hN
      have HL0 := Lib.hid (show LeastB wr w.heap.size l.length (lsF l d s c (i + 1) (selF (cfA l d s c i) N (N - m)).1) by rw [show N - m = 0 by omega]; exact H.out.1)
      have HB0 := Lib.hid (show BestB wr (w.heap.size + 1) (w.heap.size + 2) l (bsF l d s c (i + 1) (selF (cfA l d s c i) N (N - m)).2) by rw [show N - m = 0 by omega]; exact H.out.2.1)
      have HBel := Lib.hid H.out.2.2
      clear hN
      go_wp2_with fail
      go_loopw [13] (fun t wc => ∃ n : Nat, n ≤ m ∧ t = .int .i64 n ∧ LeastB wc w.heap.size l.length (lsF l d s c (i + 1) (selF (cfA l d s c i) N (N - n)).1) ∧ BestB wc (w.heap.size + 1) (w.heap.size + 2) l (bsF l d s c (i + 1) (selF (cfA l d s c i) N (N - n)).2) ∧ Below w.heap.size w wc ∧ w.heap.size + 2 ≤ wc.heap.size) (fun t _ => (intOf t).toNat)
      case atStart => exact ⟨m, Nat.le_refl _, rfl, HL0.out, HB0.out, HBel.out, hz⟩
      case round =>
        obtain ⟨n, hn, rfl, hL, hB, hb, hz2⟩ := hrel
        have M := Lib.hid (And.intro hL (And.intro hB hb))
        clear hL hB hb HL0 HB0
        by_cases hn0 : n = 0
        · subst hn0
          have HLf := Lib.hid (M.out.1.congr (G := lsF l d s c i 0) (fun j hj => by rw [Nat.sub_zero, ← HNN.out]; exact lsF_done H1.out d'.1 d'.2 s'.1 s'.2 c'.1 c'.2 hil j))
          have HBf := Lib.hid (M.out.2.1.congr (D := bsF l d s c i 0) (fun j hj => by rw [Nat.sub_zero, ← HNN.out]; exact bsF_done l d s c i j))
          go_wp2
          go_roundw
          case rel => exact ⟨i, by omega, by go_num, HLf.out, HBf.out, M.out.2.2, hz2⟩
          case measure => first | (simp [intOf]; done) | (simp [intOf]; omega)
        · obtain ⟨A0, c0, e0, -, -, hr0⟩ := HV.out.open_
          cases e0
          have hdl : (l.drop i).length = m := by rw [List.length_drop]; exact hm
          have HT := Lib.hid (show Ints wr (.slice (some ⟨b, o + i, none⟩) n (cp - i)) ((l.drop i).take n) from Ints.midN (HV.out.bel M.out.2.2) (by omega))
          have HL := Lib.hid (show ((l.drop i).take n).length ≤ 1048576 by rw [List.length_take]; omega)
          have q3 : (n : Int) > 0 := by omega
          have q4 : (i : Int) + (n : Int) ≤ (cp : Int) := by omega
          have q5 : (0 : Int) ≤ (i : Int) + (n : Int) := by omega
          have q6 : ((i : Int) + (n : Int)).toNat = i + n := by omega
          have q7 : IntKind.i64.wrap ((i : Int) + (n : Int)) = (i : Int) + (n : Int) := by rw [IntWalk.i64_in] <;> omega
          have q8 : (i : Int) ≤ (i : Int) + (n : Int) := by omega
          have q9 : i + n - i = n := by omega
          have q10 : ¬ cp = i := by omega
          have q11 : (0 : Int) ≤ (i : Int) := by omega
          clear hr0 hdl
          go_wp2_with fail
          refine (runOf_any _ ((l.drop i).take n) d _ HT.out HL.out d'.1).mono ?_
          rintro e w3 ⟨r, rfl, o3, b3⟩
          obtain ⟨A3, c3, rfl, -, -, -⟩ := o3.ints.open_
          have HB3 := Lib.hid (bel_trans M.out.2.2 b3)
          have HL3 := Lib.hid (M.out.1.bel b3)
          have HS3 := Lib.hid (M.out.2.1.bel b3)
          have HO3 := Lib.hid (o3.lower hz2)
          have z3 := b3.size
          clear o3 b3
          cases hr : rnOk ((l.drop i).take n) d
          · have hnN : N < n := by
              rcases Nat.lt_or_ge N n with h | h
              · exact h
              · have := lgN_in (l := l.drop i) (d := d) (n := n) (by omega) (by rw [HNN.out]; exact h)
                rw [hr] at this
                cases this
            have HLn := Lib.hid (show LeastB w3 w.heap.size l.length (lsF l d s c (i + 1) (selF (cfA l d s c i) N (N - (n - 1))).1) by rw [show N - (n - 1) = N - n by omega]; exact HL3.out)
            have HBn := Lib.hid (show BestB w3 (w.heap.size + 1) (w.heap.size + 2) l (bsF l d s c (i + 1) (selF (cfA l d s c i) N (N - (n - 1))).2) by rw [show N - (n - 1) = N - n by omega]; exact HS3.out)
            clear hr
            go_wp2
            go_roundw
            case rel => exact ⟨n - 1, by omega, by go_num, HLn.out, HBn.out, HB3.out, by omega⟩
            case measure => first | (simp [intOf]; done) | (simp [intOf]; omega)
          · have hnN : n ≤ N := by
              rcases Nat.lt_or_ge N n with h | h
              · have := lgN_over (smOk_drop H1.out hil) d'.1 d'.2 (n := n) (by rw [HNN.out]; exact h) (by rw [List.length_drop]; omega)
                rw [hr] at this
                cases this
              · exact h
            have hX := itD7 hr
            have hcs := csL_bd (s := s) (c := c) H1.out d'.1 d'.2 s'.1 s'.2 c'.1 c'.2 (l.length - (i + 1)) (by omega) (n - 1) (by omega)
            have hlz := lsF_later l d s c (i := i) (n := n) (selF (cfA l d s c i) N (N - n)).1 (by omega) (by omega)
            have hcf : cfA l d s c i n = s + c * ((itD ((l.drop i).take n)).length : Int) + at_ (csL l d s c (l.length - (i + 1))) (n - 1) := rfl
            rw [rnL_yes hr] at HO3
            have hcb := cost_bd s'.1 s'.2 c'.1 c'.2 hX.2
            obtain ⟨Z, hZ⟩ : ∃ Z, at_ (csL l d s c (l.length - (i + 1))) (n - 1) = Z := ⟨_, rfl⟩
            rw [hZ] at hcs hlz hcf
            obtain ⟨y0, yf⟩ := HL3.out.at (j := i + n) (by omega)
            obtain ⟨y1, y1f⟩ := HL3.out.at (j := i) (by omega)
            obtain ⟨u, t0, t1, t0f, t1f, tO⟩ := HS3.out.at hil
            rw [hlz] at y0
            rw [lsF_here] at y1
            rw [bsF_here] at t0
            rw [rnL_yes hr]
            have hsel := Lib.hid (And.intro (selF_take (f := cfA l d s c i) (N := N) (q := N - n)) (selF_keep (f := cfA l d s c i) (N := N) (q := N - n)))
            obtain ⟨Q, hQ⟩ : ∃ Q, selF (cfA l d s c i) N (N - n) = Q := ⟨_, rfl⟩
            rw [hQ] at y1 t0 hsel
            have HQ := Lib.hid hQ
            obtain ⟨X, hX2⟩ : ∃ X, itD ((l.drop i).take n) = X := ⟨_, rfl⟩
            rw [hX2] at HO3 hcf hcb hX ⊢
            have HXX := Lib.hid hX2
            obtain ⟨P, hP⟩ : ∃ P, c * (X.length : Int) = P := ⟨_, rfl⟩
            rw [hP] at hcf hcb
            have g1 : IntKind.i64.wrap (c * (X.length : Int)) = P := by rw [hP, IntWalk.i64_in] <;> omega
            have g2 : IntKind.i64.wrap (s + P) = s + P := by rw [IntWalk.i64_in] <;> omega
            have g3 : IntKind.i64.wrap (s + P + Z) = s + P + Z := by rw [IntWalk.i64_in] <;> omega
            have HCF := Lib.hid hcf
            clear hr hcs hlz hcf hQ hX2 hP hZ yf tO
            have hq1 : N - (N - n) = n := by omega
            have hq2 : N - n + 1 = N - (n - 1) := by omega
            rw [hq1, hq2, HCF.out] at hsel
            have HL4 := Lib.hid (((HL3.out.put (i := i) (by omega) (s + P + Z)).congr (G := lsF l d s c (i + 1) (s + P + Z)) (fun j hj => lsF_upd l d s c i _ _ j)).far ⟨w.heap.size + 1, i * 2, none⟩ (.int .i64 n) (by show w.heap.size ≠ w.heap.size + 1; omega))
            have HL5 := Lib.hid (HL4.out.far ⟨w.heap.size + 1, i * 2 + 1, none⟩ (.slice A3 X.length c3) (by show w.heap.size ≠ w.heap.size + 1; omega))
            have HS4 := Lib.hid (((HS3.out.far ⟨w.heap.size, i, none⟩ (.int .i64 (s + P + Z)) (by show w.heap.size < w.heap.size + 2; omega) (by show w.heap.size + 1 ≠ w.heap.size; omega)).put hil (by omega) n (.slice A3 X.length c3) (by rw [HXX.out]; exact HO3.out.putCell _ _ (by show w.heap.size < w.heap.size + 2; omega))).congr (D := bsF l d s c (i + 1) n) (fun j hj => bsF_upd l d s c i _ n j))
            have HB5 := Lib.hid (((HB3.out.setCell (p := ⟨w.heap.size, i, none⟩) (Nat.le_refl _) (.int .i64 (s + P + Z))).setCell (p := ⟨w.heap.size + 1, i * 2, none⟩) (by show w.heap.size ≤ w.heap.size + 1; omega) (.int .i64 n)).setCell (p := ⟨w.heap.size + 1, i * 2 + 1, none⟩) (by show w.heap.size ≤ w.heap.size + 1; omega) (.slice A3 X.length c3))
            have hz5 : w.heap.size + 2 ≤ (((w3.setCell ⟨w.heap.size, i, none⟩ (.int .i64 (s + P + Z))).setCell ⟨w.heap.size + 1, i * 2, none⟩ (.int .i64 n)).setCell ⟨w.heap.size + 1, i * 2 + 1, none⟩ (.slice A3 X.length c3)).heap.size := by simp only [World.setCell, Array.size_modify]; omega
            have HZ5 := Lib.hid hz5
            clear hz5 hq1 hq2
            by_cases hq0 : Q.2 = 0
            · have t2 : (((Q.2 : Nat) : Int) == 0) = true := by rw [hq0]; rfl
              have HSL := Lib.hid (hsel.out.1 (.inl hq0))
              clear hq0
              go_wp2
              go_roundw
              case rel => exact ⟨n - 1, by omega, by go_num, by rw [HSL.out]; exact HL5.out, by rw [HSL.out]; exact HS4.out, HB5.out, HZ5.out⟩
              case measure => first | (simp [intOf]; done) | (simp [intOf]; omega)
            · have t2 : (((Q.2 : Nat) : Int) == 0) = false := by rw [beq_eq_false_iff_ne]; omega
              by_cases hlt : s + P + Z < Q.1
              · have t3 : decide (s + P + Z < Q.1) = true := decide_eq_true hlt
                have HSL := Lib.hid (hsel.out.1 (.inr hlt))
                clear hq0
                go_wp2
                go_roundw
                case rel => exact ⟨n - 1, by omega, by go_num, by rw [HSL.out]; exact HL5.out, by rw [HSL.out]; exact HS4.out, HB5.out, HZ5.out⟩
                case measure => first | (simp [intOf]; done) | (simp [intOf]; omega)
              · have t3 : decide (s + P + Z < Q.1) = false := decide_eq_false hlt
                have HSL := Lib.hid ((hsel.out.2 (fun e => e.elim hq0 hlt)).trans HQ.out.symm)
                clear hq0
                go_wp2
                go_roundw
                case rel => exact ⟨n - 1, by omega, by go_num, by rw [HSL.out]; exact HL3.out, by rw [HSL.out]; exact HS3.out, HB3.out, by omega⟩
                case measure => first | (simp [intOf]; done) | (simp [intOf]; omega)
end Go.Proofs.YtpniljcnknknoaaGreatDoor

/-
  CheapestPlan (impl): what it refuses.
-/
namespace Go.Proofs.YtpniljcnknknoaaGreatDoor
open Go.RowKit
set_option linter.unusedVariables false
set_option linter.unusedSimpArgs false
set_option maxRecDepth 100000
attribute [local go_sem ↓] Go.wp_at_zero Go.wp_at_succ

set_option maxHeartbeats 4000000 in
theorem cheapNo_any (v : Value) (l : List Int) (d s c : Int) (w : World) (hv : Ints w v l) (h : chOk l d s c = false) :
    Calls Tryz.prog 34 #[v, .int .i64 d, .int .i64 s, .int .i64 c] w (SegQ w [] false) := by
  have HV := Lib.hid hv
  have HN := Lib.hid h
  obtain ⟨A, cp, rfl, -, -, -⟩ := hv.open_
  clear hv h
  go_enter Tryz.func34, Tryz.ntmps34
  cases h1 : smOk l
  · go_wp2_with (go_at_call 93; refine (implSmall_any _ _ _ HV.out).mono ?_; rw [h1]; rintro e w' ⟨rfl, rfl⟩)
    go_ret2
    exact ⟨_, rfl, SegO.nil_ _ _, Below.refl _ _⟩
  · cases h2 : inB d 0 6
    · go_wp2_with (first
        | (go_at_call 93; refine (implSmall_any _ _ _ HV.out).mono ?_; rw [h1]; rintro e w' ⟨rfl, rfl⟩)
        | (go_at_call 94; refine (degV_any _ _).mono ?_; rw [h2]; rintro e w' ⟨rfl, rfl⟩))
      go_ret2
      exact ⟨_, rfl, SegO.nil_ _ _, Below.refl _ _⟩
    · cases h3 : inB s 0 1000
      · go_wp2_with (first
          | (go_at_call 93; refine (implSmall_any _ _ _ HV.out).mono ?_; rw [h1]; rintro e w' ⟨rfl, rfl⟩)
          | (go_at_call 94; refine (degV_any _ _).mono ?_; rw [h2]; rintro e w' ⟨rfl, rfl⟩)
          | (go_at_call 95; refine (costValid_any s _).mono ?_; rw [h3]; rintro e w' ⟨rfl, rfl⟩))
        go_ret2
        exact ⟨_, rfl, SegO.nil_ _ _, Below.refl _ _⟩
      · have h4 : inB c 0 1000 = false := by have := HN.out; simpa [chOk, h1, h2, h3] using this
        go_wp2_with (first
          | (go_at_call 93; refine (implSmall_any _ _ _ HV.out).mono ?_; rw [h1]; rintro e w' ⟨rfl, rfl⟩)
          | (go_at_call 94; refine (degV_any _ _).mono ?_; rw [h2]; rintro e w' ⟨rfl, rfl⟩)
          | (go_at_call 95; refine (costValid_any s _).mono ?_; rw [h3]; rintro e w' ⟨rfl, rfl⟩)
          | (go_at_call 95; refine (costValid_any c _).mono ?_; rw [h4]; rintro e w' ⟨rfl, rfl⟩))
        go_ret2
        exact ⟨_, rfl, SegO.nil_ _ _, Below.refl _ _⟩
end Go.Proofs.YtpniljcnknknoaaGreatDoor
