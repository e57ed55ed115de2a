import Derived.Test.YtpniljcnknknoaaGreatDoorAllShPj
import Derived.Lib.TrimByte
import Derived.Test.YtpniljcnknknoaaGreatDoorShelf
import Derived.RangeFuncWrites
import Derived.RangeFuncNested
import Derived.RangeFuncBound
import Derived.RangeFuncCalls
import Derived.Test.YtpniljcnknknoaaGreatDoorBase
import Derived.Test.YtpniljcnknknoaaGreatDoorEngKit
import Derived.Shelf.Abstract
import Derived.Shelf.RegionOpen
import Derived.WalkKit
import Derived.OwnWalkIn
import Derived.TacticsInMore
import Derived.LoopNIn
import Derived.LoopIn
import Derived.Lib.SplitLaws
import Derived.Lib.CutLaws
import Derived.Lib.Index
import Derived.StillTailTactics
import Derived.RangeFuncLeaves
import Derived.Test.YtpniljcnknknoaaGreatDoorJdB
/-
  A printed line, read back: its cells lie where they are looked for.
-/
namespace Go.Proofs.YtpniljcnknknoaaGreatDoor
open Go.RowKit
set_option linter.unusedVariables false
set_option linter.unusedSimpArgs false
set_option maxRecDepth 100000

theorem tail_len {W : Nat} : ∀ {xs : List (List UInt8)}, (∀ x ∈ xs, x.length = W) → (Lib.joinTail [32] xs).length = xs.length * (W + 1)
  | [], _ => by simp [Lib.joinTail]
  | x :: r, h => by
    have ih := tail_len (xs := r) (fun y hy => h y (by simp [hy]))
    have hx := h x (by simp)
    unfold Lib.joinTail at ih ⊢
    simp only [List.map_cons, List.flatten_cons, List.length_append, List.length_cons, List.length_nil, ih, hx, Nat.add_mul]
    omega
theorem tail_at {W : Nat} : ∀ {xs : List (List UInt8)} (i : Nat), (∀ x ∈ xs, x.length = W) → (h : i < xs.length) → ((Lib.joinTail [32] xs).drop (i * (W + 1) + 1)).take W = xs[i]
  | [], i, _, h => by simp at h
  | x :: r, 0, hl, h => by
    have hx := hl x (by simp)
    unfold Lib.joinTail
    simp only [List.map_cons, List.flatten_cons, Nat.zero_mul, Nat.zero_add, List.cons_append, List.nil_append, List.drop_succ_cons, List.drop_zero, List.getElem_cons_zero]
    rw [List.take_append_of_le_length (by omega), List.take_of_length_le (by omega)]
  | x :: r, i + 1, hl, h => by
    have hx := hl x (by simp)
    have ih := tail_at (xs := r) i (fun y hy => hl y (by simp [hy])) (by simpa using h)
    have hl2 : ([32] ++ x : List UInt8).length = W + 1 := by rw [List.length_append, hx]; exact Nat.add_comm 1 W
    have hm : (i + 1) * (W + 1) + 1 = (W + 1) + (i * (W + 1) + 1) := by rw [Nat.succ_mul]; omega
    have ht : Lib.joinTail [32] (x :: r) = ([32] ++ x) ++ Lib.joinTail [32] r := by simp [Lib.joinTail]
    rw [ht, List.drop_append, List.drop_eq_nil_of_le (by rw [hl2, hm]; omega), List.nil_append, hl2, hm, Nat.add_sub_cancel_left]
    simpa using ih
/-- A line of entries. -/
def lineV (W : Nat) (V : List Int) : ByteArray := joinS (V.map (padS W)) ⟨#[32]⟩
def rowV (e : List Int) (R r c : Nat) : List Int := (List.range c).map fun i => at_ e (r + i * R)
theorem lineS_V (W : Nat) (e : List Int) (R r c : Nat) : lineS W e R r c = lineV W (rowV e R r c) := by
  unfold lineS lineV cellL rowV
  rw [List.map_map]
  rfl
def fitV (W : Nat) (V : List Int) : Prop := ∀ v ∈ V, (itoaS v).size ≤ W
theorem lineV_data (W : Nat) (V : List Int) : (lineV W V).data.toList = Lib.join (V.map fun v => (padS W v).data.toList) [32] := by
  unfold lineV joinS
  rw [List.map_map]
  rfl
theorem cells_len {W : Nat} {V : List Int} (h : fitV W V) : ∀ x ∈ V.map (fun v => (padS W v).data.toList), x.length = W := by
  intro x hx
  obtain ⟨v, hv, rfl⟩ := List.mem_map.1 hx
  exact padS_size (h v hv)
theorem lineV_size {W : Nat} {V : List Int} (h : fitV W V) (h0 : V ≠ []) : (lineV W V).size + 1 = V.length * (W + 1) := by
  have e : (lineV W V).size = (lineV W V).data.toList.length := rfl
  cases V with
  | nil => exact absurd rfl h0
  | cons v r =>
    have hc := cells_len h
    rw [e, lineV_data, List.map_cons, Lib.join_cons, List.length_append, tail_len (W := W) (fun x hx => hc x (by rw [List.map_cons]; exact List.mem_cons_of_mem _ hx)), hc _ (by rw [List.map_cons]; exact List.mem_cons_self), List.length_map, List.length_cons, Nat.succ_mul]
    omega
theorem lineV_at {W : Nat} {V : List Int} (h : fitV W V) {i : Nat} (hi : i < V.length) : (lineV W V).extract (i * (W + 1)) (i * (W + 1) + W) = padS W (at_ V i) := by
  have hc := cells_len h
  rw [mid_extract, lineV_data]
  have key : mid (Lib.join (V.map fun v => (padS W v).data.toList) [32]) (i * (W + 1)) (i * (W + 1) + W) = (padS W (at_ V i)).data.toList := by
    unfold mid
    rw [Nat.add_sub_cancel_left]
    cases V with
    | nil => simp at hi
    | cons v r =>
      have hv : (padS W v).data.toList.length = W := hc _ (by rw [List.map_cons]; exact List.mem_cons_self)
      have hr : ∀ x ∈ r.map (fun v => (padS W v).data.toList), x.length = W := fun x hx => hc x (by rw [List.map_cons]; exact List.mem_cons_of_mem _ hx)
      rw [List.map_cons, Lib.join_cons]
      cases i with
      | zero =>
        rw [Nat.zero_mul, List.drop_zero, List.take_append_of_le_length (by omega), List.take_of_length_le (by omega)]
        rfl
      | succ j =>
        have hj : j < r.length := by simpa using hi
        have hm : (j + 1) * (W + 1) = W + (j * (W + 1) + 1) := by rw [Nat.succ_mul]; omega
        rw [List.drop_append, List.drop_eq_nil_of_le (by rw [hv, hm]; omega), List.nil_append, hv, hm, Nat.add_sub_cancel_left, tail_at j hr (by rw [List.length_map]; exact hj), List.getElem_map]
        have : at_ (v :: r) (j + 1) = r[j] := by
          have := at_eq (v :: r) (j + 1) (by simpa using hj)
          rw [this]; rfl
        rw [this]
  rw [key]
  exact baL_data _
theorem drop_sp : ∀ (k : Nat) (l : List UInt8), (32 : UInt8) ∉ l → Lib.trimLeftB (Lib.repeatL [32] k ++ l) 32 = l
  | 0, l, h => by
    unfold Lib.trimLeftB
    cases l with
    | nil => rfl
    | cons b r =>
      have : ¬ (b == 32) = true := fun e => h (by rw [beq_iff_eq.1 e]; exact List.mem_cons_self)
      simp [Lib.repeatL, this]
  | k + 1, l, h => by
    have ih := drop_sp k l h
    unfold Lib.trimLeftB at ih ⊢
    simpa [Lib.repeatL] using ih
/-- A cell without the spaces ahead of it. -/
theorem trim_pad (W : Nat) (v : Int) : (⟨(Lib.trimLeftB (padS W v).data.toList 32).toArray⟩ : ByteArray) = itoaS v := by
  have e : (padS W v).data.toList = Lib.repeatL [32] (W - (itoaS v).size) ++ (itoaS v).data.toList := by
    unfold padS spS
    simp
  rw [e, drop_sp _ _ (itoaS_no 32 (by decide) (by decide) v)]
end Go.Proofs.YtpniljcnknknoaaGreatDoor

/-
  impl.readLine at a printed line.
-/
namespace Go.Proofs.YtpniljcnknknoaaGreatDoor
open Go.RowKit
set_option linter.unusedVariables false
set_option linter.unusedSimpArgs false
set_option maxRecDepth 100000
attribute [local go_sem ↓] Go.wp_at_zero Go.wp_at_succ

theorem take_at {l : List Int} {k : Nat} (h : k < l.length) : l.take k ++ [at_ l k] = l.take (k + 1) := by
  rw [List.take_add_one, List.getElem?_eq_getElem h, at_eq l k h]
  rfl
set_option maxHeartbeats 2000000 in
theorem readLine_any (R A W : Nat) (V : List Int) (w : World) (hf : fitV W V) (h0 : V ≠ []) (hl : V.length ≤ 60) (hb : ∀ v ∈ V, -1000000000000 ≤ v ∧ v ≤ 1000000000000) (hW : 1 ≤ W ∧ W ≤ 12) (hg : Glb w) :
    Calls Tryz.prog 175 #[.agg #[.int .i64 R, .int .i64 A, .int .i64 W], .string (lineV W V)] w fun e w' => ∃ r, e = .returned (.tuple #[r, .bool true]) ∧ Own w' w.heap.size r V ∧ Below w.heap.size w w' := by
  have HG := Lib.hid hg
  have K1 := Blk.new w 25 [.int .i64 R, .int .i64 A, .int .i64 W]
  have hsz := lineV_size hf h0
  have HF := Lib.hid hf
  have HB := Lib.hid (show ∀ k, k < V.length → -9223372036854775808 ≤ at_ V k ∧ at_ V k ≤ 9223372036854775807 from fun k hk => by have := hb _ (at_mem V k hk); omega)
  have HN := Lib.hid (show ∀ k, k < V.length → numT (itoaS (at_ V k)) = some (at_ V k) from fun k hk => by have := hb _ (at_mem V k hk); exact numT_of (by omega) (by omega))
  clear hb
  have OE := Lib.hid (Own.nil_ (w.alloc (.cells #[.int .i64 R, .int .i64 A, .int .i64 W] 25)) (w.heap.size + 1))
  obtain ⟨L, hL⟩ : ∃ L, lineV W V = L := ⟨_, rfl⟩
  rw [hL] at hsz ⊢
  have HL := Lib.hid hL
  have hm : ((L.size : Int) + 1).tmod ((W : Int) + 1) = 0 := by
    rw [show ((L.size : Int) + 1) = ((V.length : Int) * ((W : Int) + 1)) by exact_mod_cast hsz]
    exact Int.mul_tmod_left _ _
  have hLs : L.size ≤ 780 := by
    have : V.length * (W + 1) ≤ 60 * 13 := Nat.mul_le_mul hl (by omega)
    omega
  have hWp : (0 : Int) < (W : Int) + 1 := by omega
  have hWn : ¬ ((W : Int) + 1) = 0 := by omega
  clear hf hL hg
  have HS := Lib.hid hsz
  clear hsz
  obtain ⟨a0, a1, a2⟩ := K1.lay
  go_enter Tryz.func175, Tryz.ntmps175
  go_wp2
  go_loopw [6, 7] (fun v s wr => ∃ k : Nat, k ≤ V.length ∧ s = .int .i64 (k * (W + 1) : Nat) ∧ Own wr (w.heap.size + 1) v (V.take k) ∧ Blk wr w.heap.size 25 [.int .i64 R, .int .i64 A, .int .i64 W] ∧ Below w.heap.size w wr) (fun _ s _ => 1000 - (intOf s).toNat)
  case atStart => exact ⟨0, Nat.zero_le _, by rw [Nat.zero_mul]; rfl, OE.out, K1, bel_alloc w _⟩
  case round =>
    clear a0 a1 a2 K1
    obtain ⟨k, hk, rfl, ho, hb, hbel⟩ := hrel
    have H := Lib.hid (And.intro ho (And.intro hb hbel))
    have hz := hbel.size
    have hbz := hb.lt
    obtain ⟨a0, a1, a2⟩ := hb.lay
    clear ho hb hbel
    by_cases hlt : k < V.length
    · have e1 : (k + 1) * (W + 1) = k * (W + 1) + (W + 1) := Nat.succ_mul _ _
      have e2 : (k + 1) * (W + 1) ≤ V.length * (W + 1) := Nat.mul_le_mul_right _ hlt
      have hp := HS.out
      have hx := lineV_at HF.out hlt
      rw [HL.out] at hx
      obtain ⟨S, hS⟩ : ∃ S, k * (W + 1) = S := ⟨_, rfl⟩
      rw [hS] at e1 hx ⊢
      have HE := Lib.hid e1
      have p1 : (S : Int) < (L.size : Int) := by omega
      have p2 : (S : Int) + (W : Int) ≤ (L.size : Int) := by omega
      have p3 : (0 : Int) ≤ (S : Int) := by omega
      have p4 : (S : Int) ≤ (S : Int) + (W : Int) := by omega
      have p5 : ((S : Int) + (W : Int)).toNat = S + W := by omega
      have p6 : (0 : Int) ≤ (S : Int) + (W : Int) := by omega
      have HX := Lib.hid hx
      clear e1 e2 hp hS hx
      go_wp2_with fail
      rw [HX.out]
      refine (Tryz.strings_TrimLeft_one _ 32 (by decide) _).mono ?_
      rintro e w2 ⟨rfl, rfl⟩
      rw [trim_pad]
      go_wp2_with fail
      have hv := HF.out _ (at_mem V k hlt)
      refine (parseNum_any _ _ (by omega) (HG.out.bel H.out.2.2)).mono ?_
      rintro e w3 ⟨hn, b3⟩
      obtain rfl : e = .returned (.tuple #[.int .i64 (at_ V k), .bool true]) := by
        unfold NumE numV at hn
        rw [HN.out k hlt] at hn
        exact hn
      clear hn
      have H3 := Lib.hid (And.intro (H.out.1.bel b3) (And.intro (H.out.2.1.below b3 hbz) (bel_trans H.out.2.2 b3)))
      have hz3 := b3.size
      clear b3 a0 a1 a2
      go_wp2_with (at_builtin; refine app_int rfl (.tmp 41) (.tmp 43) (by rfl) (w.heap.size + 1) _ (V.take k) (by rfl) (by exact H3.out.1.bel (bel_alloc _ _)) _ _ (at_ V k) (by rfl) (by exact new_cell _ _ _) (HB.out k hlt) (by rw [List.length_take]; omega) (by simp; omega) ?_; intro v4 w4 ho hg4 hat; have K4 := (H3.out.2.1.alloc (.cells #[.int .i64 (at_ V k)] 3)).grown hg4 (fun e => by have := (H3.out.1.lt _ e.symm).1; omega); obtain ⟨a0, a1, a2⟩ := K4.lay)
      have hb4 := app_bel (w0 := w) (bel_trans H3.out.2.2 (bel_alloc _ _)) ((H3.out.1.lower (base' := w.heap.size) (by omega)).bel (bel_alloc _ _)) hg4
      go_roundw
      case rel => exact ⟨k + 1, hlt, by rw [HE.out]; congr 1, by rw [← take_at hlt]; exact ho, K4, hb4⟩
      case measure => simp [intOf]; omega
    · obtain rfl : k = V.length := by omega
      rw [← HS.out]
      have p1 : ¬ ((L.size + 1 : Nat) : Int) < (L.size : Int) := by omega
      obtain ⟨S, hS⟩ : ∃ S, L.size + 1 = S := ⟨_, rfl⟩
      rw [hS] at p1 ⊢
      have h1 := H.out.1.lower (base' := w.heap.size) (by omega)
      rw [List.take_length] at h1
      have HR := Lib.hid h1
      clear h1
      clear hS hlt hk
      go_wp2
      go_ret2
      exact ⟨_, rfl, HR.out, H.out.2.2⟩
end Go.Proofs.YtpniljcnknknoaaGreatDoor

/-
  A row of rows of numbers: making it.
-/
namespace Go.Proofs.YtpniljcnknknoaaGreatDoor
open Go.RowKit
set_option linter.unusedVariables false
set_option linter.unusedSimpArgs false
set_option maxRecDepth 100000

theorem Tryz.infoRow : (Tryz.prog.info? 23).map (fun i => (i.zero, i.size, i.bytes)) = some (some (.slice none 0 0), 1, 24) := by kernel_rfl
theorem Tryz.mkRows (n : Nat) (hn : n ≤ 1048576) (W : World) : (Instr.makeSlice 168 (.int .i64 (n : Int)) (.int .i64 (n : Int))).run Tryz.prog W =
    .ok (.slice (some ⟨W.heap.size, 0, none⟩) n n) (W.alloc (.cells (reps n (.slice none 0 0)).toArray 23)) :=
  mk_row 168 23 _ 24 Tryz.underlying168 Tryz.infoRow rfl n (by omega) (by omega) W
end Go.Proofs.YtpniljcnknknoaaGreatDoor

/-
  The entries of a page out of its rows, plainly.
-/
namespace Go.Proofs.YtpniljcnknknoaaGreatDoor
open Go.RowKit
set_option linter.unusedVariables false
set_option linter.unusedSimpArgs false
set_option maxRecDepth 100000

/-- The first n rows' entries in column c, down; the columns one by one. -/
def colE (Vs : List (List Int)) (c : Nat) : Nat → List Int
  | 0 => []
  | n + 1 => colE Vs c n ++ (if c < (Vs.getD n []).length then [at_ (Vs.getD n []) c] else [])
def entsL (Vs : List (List Int)) : Nat → List Int
  | 0 => []
  | c + 1 => entsL Vs c ++ colE Vs c Vs.length
/-- The rows of a page's entries. -/
def pgV (e : List Int) (R n : Nat) : List (List Int) := (List.range n).map fun r => rowV e R r (colN e.length R r)
theorem pgV_len (e : List Int) (R n : Nat) : (pgV e R n).length = n := by simp [pgV]
theorem pgV_at {e : List Int} {R n r : Nat} (h : r < n) : (pgV e R n).getD r [] = rowV e R r (colN e.length R r) := by
  simp [pgV, List.getD, h]
theorem rowV_len (e : List Int) (R r c : Nat) : (rowV e R r c).length = c := by simp [rowV]
theorem rowV_at {e : List Int} {R r c i : Nat} (h : i < c) : at_ (rowV e R r c) i = at_ e (r + i * R) := by
  unfold rowV
  simp [at_, h]
theorem take_more {l : List Int} {k : Nat} : l.take (k + 1) = l.take k ++ (if k < l.length then [at_ l k] else []) := by
  split
  · rename_i h
    exact (take_at h).symm
  · rename_i h
    rw [List.append_nil, List.take_of_length_le (by omega), List.take_of_length_le (by omega)]
/-- Column c up to row m: the entries from c*R on. -/
theorem colE_take {e : List Int} {R : Nat} (hR : 0 < R) {n : Nat} (hn : n = min R e.length) (c : Nat) : ∀ m, m ≤ n → e.take (c * R) ++ colE (pgV e R n) c m = e.take (c * R + m)
  | 0, _ => by simp [colE]
  | m + 1, hm => by
    have ih := colE_take hR hn c m (by omega)
    show e.take (c * R) ++ (colE (pgV e R n) c m ++ _) = _
    rw [← List.append_assoc, ih, pgV_at (by omega), rowV_len, ← Nat.add_assoc, take_more]
    congr 1
    by_cases h : c < colN e.length R m
    · have h2 := (colN_iff (L := e.length) (r := m) c hR).2 h
      rw [if_pos h, if_pos (by omega), rowV_at h, Nat.add_comm m]
    · have h2 : ¬ m + c * R < e.length := fun h' => h ((colN_iff c hR).1 h')
      rw [if_neg h, if_neg (by omega)]
theorem ents_take {e : List Int} {R : Nat} (hR : 0 < R) {n : Nat} (hn : n = min R e.length) : ∀ c, entsL (pgV e R n) c = e.take (c * R)
  | 0 => by simp [entsL]
  | c + 1 => by
    show entsL (pgV e R n) c ++ _ = _
    rw [ents_take hR hn c, pgV_len, colE_take hR hn c n (Nat.le_refl _), Nat.succ_mul]
    rcases Nat.lt_or_ge e.length R with h | h
    · rcases Nat.eq_zero_or_pos c with rfl | hc
      · rw [List.take_of_length_le (by omega), List.take_of_length_le (by omega)]
      · have : R ≤ c * R := Nat.le_mul_of_pos_left R hc
        rw [List.take_of_length_le (by omega), List.take_of_length_le (by omega)]
    · have : n = R := by omega
      rw [this]
/-- A page's rows, read down each column, are its entries. -/
theorem ents_all {e : List Int} {R A : Nat} (hR : 0 < R) (h : e.length ≤ R * A) : entsL (pgV e R (min R e.length)) A = e := by
  rw [ents_take hR rfl A, List.take_of_length_le (by rw [Nat.mul_comm]; exact h)]
end Go.Proofs.YtpniljcnknknoaaGreatDoor

/-
  impl.readLines at the lines of a page.
-/
namespace Go.Proofs.YtpniljcnknknoaaGreatDoor
open Go.RowKit
set_option linter.unusedVariables false
set_option linter.unusedSimpArgs false
set_option maxRecDepth 100000
attribute [local go_sem ↓] Go.wp_at_zero Go.wp_at_succ

theorem colE_succ (Vs : List (List Int)) (c n : Nat) : colE Vs c (n + 1) = colE Vs c n ++ (if c < (Vs.getD n []).length then [at_ (Vs.getD n []) c] else []) := rfl
theorem entsL_succ (Vs : List (List Int)) (c : Nat) : entsL Vs (c + 1) = entsL Vs c ++ colE Vs c Vs.length := rfl
theorem getD_mem' {Vs : List (List Int)} {k : Nat} (h : k < Vs.length) : Vs.getD k [] ∈ Vs := by
  rw [show Vs.getD k [] = Vs[k] by simp [List.getD, h]]
  exact List.getElem_mem h
theorem sat_line (W : Nat) {Vs : List (List Int)} {k : Nat} (h : k < Vs.length) : sat (Vs.map (lineV W)) k = lineV W (Vs.getD k []) := by
  rw [sat_eq _ _ (by simpa using h), List.getElem_map]
  simp [List.getD, h]
theorem colE_len (Vs : List (List Int)) (c : Nat) : ∀ n, (colE Vs c n).length ≤ n
  | 0 => Nat.le_refl _
  | n + 1 => by
    rw [colE_succ, List.length_append]
    have := colE_len Vs c n
    split <;> simp <;> omega
theorem entsL_len (Vs : List (List Int)) : ∀ c, (entsL Vs c).length ≤ c * Vs.length
  | 0 => by simp [entsL]
  | c + 1 => by
    rw [entsL_succ, List.length_append, Nat.succ_mul]
    have := entsL_len Vs c
    have := colE_len Vs c Vs.length
    omega
/-- The first k rows of a page, read: block g, each row beyond B. -/
def RowsB (w : World) (g B n : Nat) (Vs : List (List Int)) (k : Nat) : Prop := ∃ cs, Blk w g 23 cs ∧ cs.length = n ∧ ∀ j, j < k → ∃ u, cs[j]? = some u ∧ Own w B u (Vs.getD j [])
theorem RowsB.bel {w w' : World} {g B n k : Nat} {Vs : List (List Int)} (h : RowsB w g B n Vs k) (hb : Below w.heap.size w w') : RowsB w' g B n Vs k := by
  obtain ⟨cs, h1, h2, h3⟩ := h
  refine ⟨cs, h1.below hb h1.lt, h2, fun j hj => ?_⟩
  obtain ⟨u, a, b⟩ := h3 j hj
  exact ⟨u, a, b.bel hb⟩
theorem RowsB.put {w : World} {g B n k : Nat} {Vs : List (List Int)} (h : RowsB w g B n Vs k) (hk : k < n) (hg : g < B) (u : Value) (hu : Own w B u (Vs.getD k [])) : RowsB (w.setCell ⟨g, k, none⟩ u) g B n Vs (k + 1) := by
  obtain ⟨cs, h1, h2, h3⟩ := h
  refine ⟨_, h1.set_ k u, by rw [List.length_set]; exact h2, fun j hj => ?_⟩
  by_cases e : j = k
  · subst e
    exact ⟨u, by rw [List.getElem?_set_self (by omega)], hu.setCellI _ _ hg⟩
  · obtain ⟨z, a, b⟩ := h3 j (by omega)
    exact ⟨z, by rw [List.getElem?_set_ne (by omega)]; exact a, b.setCellI _ _ hg⟩
theorem RowsB.at {w : World} {g B n k : Nat} {Vs : List (List Int)} (h : RowsB w g B n Vs k) {j : Nat} (hj : j < k) : ∃ u, w.cell? ⟨g, j, none⟩ = some u ∧ Own w B u (Vs.getD j []) := by
  obtain ⟨cs, h1, h2, h3⟩ := h
  obtain ⟨u, a, b⟩ := h3 j hj
  exact ⟨u, by rw [h1.cell]; exact a, b⟩
theorem RowsB.slot {w : World} {g B n k : Nat} {Vs : List (List Int)} (h : RowsB w g B n Vs k) {j : Nat} (hj : j < n) : ∃ z, w.cell? ⟨g, j, none⟩ = some z ∧ w.frozen? ⟨g, j, none⟩ = false := by
  obtain ⟨cs, h1, h2, h3⟩ := h
  exact ⟨cs[j]'(by omega), by rw [h1.cell]; exact List.getElem?_eq_getElem _, h1.frozen j⟩
set_option maxHeartbeats 4000000 in
theorem readLines_any (R A W : Nat) (v : Value) (Vs : List (List Int)) (w : World) (hv : Strs w v (Vs.map (lineV W))) (h1 : 1 ≤ R ∧ R ≤ 20) (h2 : 1 ≤ A ∧ A ≤ 6) (h3 : 1 ≤ W ∧ W ≤ 12) (hR : Vs.length ≤ R)
    (hf : ∀ V ∈ Vs, fitV W V ∧ 1 ≤ V.length ∧ V.length ≤ A ∧ ∀ x ∈ V, -1000000000000 ≤ x ∧ x ≤ 1000000000000) (hg : Glb w) :
    Calls Tryz.prog 117 #[.agg #[.int .i64 R, .int .i64 A, .int .i64 W], v] w fun e w' => ∃ r, e = .returned (.tuple #[r, .bool true]) ∧ Own w' w.heap.size r (entsL Vs A) ∧ Below w.heap.size w w' := by
  have HV := Lib.hid hv
  have HF := Lib.hid hf
  have HG := Lib.hid hg
  have K1 := Blk.new w 25 [.int .i64 R, .int .i64 A, .int .i64 W]
  have B1 := bel_alloc w (.cells #[.int .i64 R, .int .i64 A, .int .i64 W] 25)
  obtain ⟨n, hn⟩ : ∃ n, Vs.length = n := ⟨_, rfl⟩
  have hml : (Vs.map (lineV W)).length = n := by rw [List.length_map]; exact hn
  obtain ⟨Av, c, rfl, hlc, hc, hrd⟩ := hv.open_
  rw [hml] at hlc
  have HML := Lib.hid hml
  have HN := Lib.hid hn
  rw [hn] at hR
  have hle : ¬ (n : Int) > (R : Int) := by omega
  have hmk := fun w => Tryz.mkRows n (by omega) w
  obtain ⟨a0, a1, a2⟩ := K1.lay
  clear hv hf hg hn
  rw [HML.out]
  clear hml
  go_enter Tryz.func117, Tryz.ntmps117
  go_wp2_with fail
  have KR := Blk.new (w.alloc (.cells #[.int .i64 R, .int .i64 A, .int .i64 W] 25)) 23 (reps n (.slice none 0 0))
  have e1 : (w.alloc (.cells #[.int .i64 R, .int .i64 A, .int .i64 W] 25)).heap.size = w.heap.size + 1 := by simp
  rw [e1] at KR
  have RB0 : RowsB ((w.alloc (.cells #[.int .i64 R, .int .i64 A, .int .i64 W] 25)).alloc (.cells (reps n (.slice none 0 0)).toArray 23)) (w.heap.size + 1) (w.heap.size + 2) n Vs 0 := ⟨_, KR, reps_length _ _, fun j hj => absurd hj (Nat.not_lt_zero _)⟩
  have K2 := K1.alloc (.cells (reps n (.slice none 0 0)).toArray 23)
  have B2 : Below w.heap.size w ((w.alloc (.cells #[.int .i64 R, .int .i64 A, .int .i64 W] 25)).alloc (.cells (reps n (.slice none 0 0)).toArray 23)) := B1.alloc (by simp) _
  generalize hW0 : (w.alloc (.cells #[.int .i64 R, .int .i64 A, .int .i64 W] 25)).alloc (.cells (reps n (.slice none 0 0)).toArray 23) = W0 at *
  have hz0 : W0.heap.size = w.heap.size + 2 := by rw [← hW0]; simp
  clear hW0 KR K1 B1 e1 a0 a1 a2
  have HRD := Lib.hid hrd
  clear hrd
  go_loopw [25] (fun t wr => ∃ k : Nat, k ≤ n ∧ t = .int .i64 k ∧ RowsB wr (w.heap.size + 1) (w.heap.size + 2) n Vs k ∧ Blk wr w.heap.size 25 [.int .i64 R, .int .i64 A, .int .i64 W] ∧ Below w.heap.size w wr ∧ w.heap.size + 2 ≤ wr.heap.size) (fun t _ => n - (intOf t).toNat)
  case atStart => exact ⟨0, Nat.zero_le _, rfl, RB0, K2, B2, by omega⟩
  case round =>
    obtain ⟨k, hk, rfl, hrb, hK, hb, hz⟩ := hrel
    have H := Lib.hid (And.intro hrb (And.intro hK hb))
    obtain ⟨a0, a1, a2⟩ := hK.lay
    clear hrb hK hb RB0 K2 B2
    by_cases hlt : k < n
    · obtain ⟨b, o, rfl, hbb, hcell⟩ := HRD.out.strs (by rw [HML.out]; omega)
      have hck := (H.out.2.2.cell (p := ⟨b, o + k, none⟩) (by exact hbb)).trans (hcell k (by rw [HML.out]; exact hlt))
      have hm := getD_mem' (Vs := Vs) (k := k) (by rw [HN.out]; exact hlt)
      rw [sat_line W (by rw [HN.out]; exact hlt)] at hck
      obtain ⟨V, hV⟩ : ∃ V, Vs.getD k [] = V := ⟨_, rfl⟩
      rw [hV] at hck hm
      have HVV := Lib.hid hV
      obtain ⟨f1, f2, f3, f4⟩ := HF.out V hm
      have HF1 := Lib.hid f1
      have HF4 := Lib.hid f4
      have p1 : (k : Int) < (n : Int) := by omega
      have p2 : decide ((A : Int) < (V.length : Int)) = false := decide_eq_false (by omega)
      have p3 : ¬ (A : Int) < (V.length : Int) := by omega
      clear hcell hm hV f1 f4
      go_wp2_with fail
      refine (readLine_any R A W V _ HF1.out (fun e => by rw [e] at f2; simp at f2) (by omega) HF4.out h3 (HG.out.bel H.out.2.2)).mono ?_
      rintro e w3 ⟨r, rfl, o3, b3⟩
      obtain ⟨A3, c3, rfl, -, -, -⟩ := o3.ints.open_
      have HB3 := Lib.hid (bel_trans H.out.2.2 b3)
      have HK3 := Lib.hid (H.out.2.1.below b3 H.out.2.1.lt)
      have HR3 := Lib.hid (H.out.1.bel b3)
      have HO3 := Lib.hid (o3.lower hz)
      have z3 := b3.size
      obtain ⟨z, x0, x1⟩ := HR3.out.slot hlt
      clear o3 b3 a0 a1 a2 hck
      obtain ⟨a0, a1, a2⟩ := HK3.out.lay
      go_wp2
      go_roundw
      case rel => exact ⟨k + 1, hlt, by go_num, HR3.out.put hlt (by omega) _ (by rw [HVV.out]; exact HO3.out), HK3.out.far (p := ⟨w.heap.size + 1, k, none⟩) (by show w.heap.size ≠ w.heap.size + 1; omega) _, HB3.out.setCell (p := ⟨w.heap.size + 1, k, none⟩) (by show w.heap.size ≤ w.heap.size + 1; omega) _, by simp only [World.setCell, Array.size_modify]; omega⟩
      case measure => simp [intOf]; omega
    · obtain rfl : k = n := by omega
      obtain ⟨wo, hwo⟩ : ∃ wo, wo = wr := ⟨_, rfl⟩
      subst hwo
      have hgt : entsL Vs 0 = [] := rfl
      go_wp2_with fail
      go_loopw [11, 52] (fun s t wc => ∃ c : Nat, c ≤ A ∧ t = .int .i64 c ∧ Own wc wo.heap.size s (entsL Vs c) ∧ Below wo.heap.size wo wc) (fun _ t _ => A - (intOf t).toNat)
      case atStart => exact ⟨0, Nat.zero_le _, rfl, Own.nil_ _ _, Below.refl _ _⟩
      case round =>
        obtain ⟨c, hc1, rfl, ho, hb⟩ := hrel
        have G := Lib.hid (And.intro ho hb)
        have hgz := hb.size
        have hn20 : k ≤ 20 := by omega
        clear ho hb a0 a1 a2
        by_cases hlc2 : c < A
        · have HE := Lib.hid (entsL_len Vs c)
          have HD0 := Lib.hid (show Own wr wo.heap.size u11 (entsL Vs c ++ colE Vs c 0) by rw [show colE Vs c 0 = [] from rfl, List.append_nil]; exact G.out.1)
          have hcn : c * Vs.length ≤ 6 * 20 := Nat.mul_le_mul (by omega) (by rw [HN.out]; omega)
          have HEL := Lib.hid (show (entsL Vs c).length ≤ 120 by have := HE.out; omega)
          have HB1 := Lib.hid G.out.2
          clear hcn
          have tA : (c : Int) < (A : Int) := by omega
          go_wp2_with fail
          go_loopw [11, 57] (fun s t wd => ∃ m : Nat, m ≤ k ∧ t = .int .i64 m ∧ Own wd wo.heap.size s (entsL Vs c ++ colE Vs c m) ∧ Below wo.heap.size wo wd) (fun _ t _ => k - (intOf t).toNat)
          case atStart => exact ⟨0, Nat.zero_le _, rfl, HD0.out, HB1.out⟩
          case round =>
            obtain ⟨m, hm, rfl, ho, hb⟩ := hrel
            have M := Lib.hid (And.intro ho hb)
            have hmz := hb.size
            clear ho hb
            by_cases hlm : m < k
            · obtain ⟨u, x0, xo⟩ := (H.out.1.bel M.out.2).at hlm
              have hx := xo.2.1.at _ c
              have hce := colE_succ Vs c m
              have hcl := colE_len Vs c m
              obtain ⟨V, hV⟩ : ∃ V, Vs.getD m [] = V := ⟨_, rfl⟩
              rw [hV] at xo hx hce
              have HX := Lib.hid xo
              have hel : (entsL Vs c ++ colE Vs c m).length + 1 ≤ 1099511627776 := by rw [List.length_append]; have := HEL.out; omega
              have hrdx := xo.ints.open_
              obtain ⟨A3, c3, rfl, hl3, hc3, hrd3⟩ := hrdx
              clear xo hV hcl
              by_cases hv : c < V.length
              · obtain ⟨b3, o3, rfl, hb3, hcell3⟩ := hrd3.ints (by omega)
                have y0 := hcell3 c hv
                have HC := Lib.hid (show colE Vs c (m + 1) = colE Vs c m ++ [at_ V c] by rw [hce, if_pos hv])
                have t1 : (c : Int) < (V.length : Int) := by omega
                clear hcell3 hrd3 hce
                go_wp2_with (at_builtin; go_must (refine app_int rfl (.tmp 65) (.tmp 70) (by rfl) wo.heap.size _ (entsL Vs c ++ colE Vs c m) (by rfl) (by exact M.out.1.bel (bel_alloc _ _)) _ _ (at_ V c) (by rfl) (by exact new_cell _ _ _) hx hel (by simp; omega) ?_; intro v4 w4 ho4 hg4 hat4; have B4 := Lib.hid ((M.out.2.alloc hmz (.cells #[.int .i64 (at_ V c)] 3)).trans (below_own (base := wo.heap.size) hg4 (by simp; omega) (fun q hq => (M.out.1.lt q hq).1)))))
                go_roundw
                case rel => exact ⟨m + 1, hlm, by go_num, by rw [HC.out, ← List.append_assoc]; exact ho4, B4.out⟩
                case measure => simp [intOf]; omega
              · have HC := Lib.hid (show colE Vs c (m + 1) = colE Vs c m by rw [hce, if_neg hv, List.append_nil])
                have t1 : ¬ (c : Int) < (V.length : Int) := by omega
                clear hrd3 hce
                go_wp2
                go_roundw
                case rel => exact ⟨m + 1, hlm, by go_num, by rw [HC.out]; exact M.out.1, M.out.2⟩
                case measure => simp [intOf]; omega
            · obtain rfl : m = k := by omega
              have HC := Lib.hid (show entsL Vs (c + 1) = entsL Vs c ++ colE Vs c m by rw [entsL_succ, HN.out])
              go_wp2
              go_roundw
              case rel => exact ⟨c + 1, hlc2, by go_num, by rw [HC.out]; exact M.out.1, M.out.2⟩
              case measure => simp [intOf]; omega
        · obtain rfl : c = A := by omega
          have HO := Lib.hid (G.out.1.lower (base' := w.heap.size) (by omega))
          have HB := Lib.hid (H.out.2.2.trans (G.out.2.mono (by omega)))
          have tA : ¬ (c : Int) < (c : Int) := by omega
          go_wp2
          go_ret2
          exact ⟨_, rfl, HO.out, HB.out⟩
end Go.Proofs.YtpniljcnknknoaaGreatDoor

/-
  A range over an iterator that keeps its state in a captured cell: its contract, and the loop's law (wide fence; over wpIn_rangeFunc and roundIn_of_wpIn).
-/
namespace Go.Proofs.YtpniljcnknknoaaGreatDoor
open Go.RowKit
set_option linter.unusedVariables false

/-- Abides new blocks, turns of block g, and turns of what is no cells at or beyond B. -/
def AbC (B g : Nat) (J : List ByteArray → World → Prop) : Prop :=
  ∀ s W W' row, J s W → W.grownBy W' row → (∀ r, row = some r → r = g ∨ (B ≤ r ∧ ∃ o : Obj, W.heap[r]? = some o ∧ o.isCells = false)) → J s W'
theorem AbC.put {B g : Nat} {J : List ByteArray → World → Prop} (h : AbC B g J) {s : List ByteArray} {W : World} {l : Nat} {o : Obj} (o' : Obj) (hs : J s W) (hB : B ≤ l) (hl : W.heap[l]? = some o) (ho : o.isCells = false) : J s (W.putObj l o') :=
  h s W _ (some l) hs (grownBy_putObj' W l o') (fun r e => by cases e; exact .inr ⟨hB, o, hl, ho⟩)
theorem AbC.al {B g : Nat} {J : List ByteArray → World → Prop} (h : AbC B g J) {s : List ByteArray} {W : World} (o : Obj) (hs : J s W) : J s (W.alloc o) :=
  h s W _ none hs (World.grownBy_alloc W o none) (fun r e => by cases e)
/-- What a round keeps for the iterator: what lay below n, and its own three boxes from b on. -/
def KpC (n b : Nat) (W W' : World) : Prop := Below n W W' ∧ ∀ k, b ≤ k → k < b + 3 → W'.heap[k]? = W.heap[k]?
theorem KpC.trans {n b : Nat} {A B C : World} (h : KpC n b A B) (k : KpC n b B C) : KpC n b A C :=
  ⟨h.1.trans k.1, fun i h1 h2 => (k.2 i h1 h2).trans (h.2 i h1 h2)⟩
theorem KpC.put {n b : Nat} {W : World} {l : Nat} {o : Obj} (o' : Obj) (hn : n ≤ l) (hb : b + 3 ≤ l) (h : W.heap[l]? = some o) : KpC n b W (W.putObj l o') :=
  ⟨(Below.refl n W).grown (grownBy_putObj' W l o') (by have := (Array.getElem?_eq_some_iff.1 h).1; omega) (fun k e => by cases e; exact hn), fun k h1 h2 => World.putObj_heap_other (by omega)⟩
/-- The iterator gives the pieces xs, one by one, unless a round has said 'no more'. -/
def SeqC (P : Program) (gf : Nat) (lb : Array Value) (n b : Nat) (xs : List ByteArray) (w : World) : Prop :=
  ∀ (l : Nat) (J Jx : List ByteArray → World → Prop) (W : World), KpC n b w W → w.heap.size ≤ W.heap.size → AbC W.heap.size b J → AbC W.heap.size b Jx →
    (∀ pre x rest W1, J pre W1 → xs = pre ++ x :: rest → YieldAt Fence.wide 0 P l #[.string x] W1 fun e W' =>
      (e = .returned (.bool true) ∧ J (pre ++ [x]) W' ∧ KpC n b W1 W') ∨ (e = .returned (.bool false) ∧ Jx (pre ++ [x]) W')) →
    J [] W →
    CallsIn Fence.wide 0 P gf (#[.func (.yield l) #[] #[]] ++ lb) W fun e W' => (∃ v, e = .returned v) ∧ (J xs W' ∨ ∃ pre rest, xs = pre ++ rest ∧ Jx pre W')
/-- How a round's body may be left. -/
def endC (B n b : Nat) (I : List ByteArray → World → Prop) (Ix : Code → List ByteArray → World → Prop) (xs : List ByteArray) (W : World) : Exit → Act → World → Prop
  | .normal, _, W' => KeepsFrom B W W' ∧ KpC n b W W' ∧ I xs W'
  | .ret, _, W' => KeepsFrom B W W' ∧ Ix .ret xs W'
  | .exit id, _, W' => KeepsFrom B W W' ∧ Ix (.exit id) xs W'
  | .goto t, _, W' => KeepsFrom B W W' ∧ Ix (.goto t) xs W'
  | .panic _, _, _ => False
  | .outgrown, _, _ => False

/-- The loop's law. -/
theorem range_seqC {P : Program} {g : Operand} {p : Tmp} {assign body : Code} {Q : Exit → Act → World → Prop} {a : Act} {w : World} {gf : Nat} {lb : Array Value} {n b : Nat} {xs : List ByteArray}
    (hg : a.eval g = .func (.func gf) #[] lb) (eg : ∀ args w, (callFunc gf args).run P w = .ok (.enter gf args) w) (hn : n ≤ w.heap.size) (hb : b + 3 ≤ w.heap.size) (hseq : SeqC P gf lb n b xs w)
    (I : List ByteArray → World → Prop) (Ix : Code → List ByteArray → World → Prop) (hI : AbC w.heap.size b I) (hIx : ∀ c, AbC w.heap.size b (Ix c)) (h0 : I [] w) (a₁ : ByteArray → Act)
    (hassign : ∀ (l : Nat) (x : ByteArray) (W : World) (K : Act → World → Prop), K (a₁ x) W →
      assign.wpIn (Fence.wide.inRound l) 0 P (Exit.then K (fun _ _ _ => False)) { tmps := a.tmps.setIfInBounds p (.string x), defers := [] } W)
    (hbody : ∀ (l : Nat) (pre : List ByteArray) (x : ByteArray) (rest : List ByteArray) (W : World), I pre W → xs = pre ++ x :: rest → w.heap.size ≤ W.heap.size → body.wpIn (Fence.wide.inRound l) 0 P (endC w.heap.size n b I Ix (pre ++ [x]) W) (a₁ x) W)
    (hdone : ∀ (D : Nat) (W : World), w.heap.size ≤ D → I xs W → W.heap[D]? = some (.deferred (some [])) → Q .normal { a with defers := { target := .collected D, args := #[] } :: a.defers } W)
    (hstop : ∀ (D : Nat) (c : Code) (pre rest : List ByteArray) (W : World), w.heap.size ≤ D → xs = pre ++ rest → Ix c pre W → W.heap[D]? = some (.deferred (some [])) → c.wpIn Fence.wide 0 P Q { a with defers := { target := .collected D, args := #[] } :: a.defers } W) :
    (Code.rangeFunc g #[p] assign body).wpIn Fence.wide 0 P Q a w := by
  refine wpIn_rangeFunc fun fn hfn => ?_
  obtain ⟨Lr, hLr⟩ : ∃ Lr : LoopState → Option Code → Loop, Lr = fun st pe => { state := st, pending := pe, fn, tmps := a.tmps, params := #[p], assign, body, defers := w.heap.size } := ⟨_, rfl⟩
  have hL1 : ((w.alloc (.deferred (some []))).alloc (.loop (Lr .ready none))).heap[w.heap.size + 1]? = some (.loop (Lr .ready none)) := by
    have := World.alloc_heap_new (w.alloc (.deferred (some []))) (.loop (Lr .ready none))
    rwa [World.size_alloc] at this
  have hD1 : ((w.alloc (.deferred (some []))).alloc (.loop (Lr .ready none))).heap[w.heap.size]? = some (.deferred (some [])) :=
    (Below.heap_alloc _ _ _ (by simp)).trans (World.alloc_heap_new w _)
  have hsz : ((w.alloc (.deferred (some []))).alloc (.loop (Lr .ready none))).heap.size = w.heap.size + 2 := by simp
  have hK1 : KpC n b w ((w.alloc (.deferred (some []))).alloc (.loop (Lr .ready none))) :=
    ⟨((Below.refl n w).alloc hn _).alloc (by simp; omega) _, fun k h1 h2 => (Below.heap_alloc _ _ k (by simp; omega)).trans (Below.heap_alloc _ _ k (by omega))⟩
  have hI1 : I [] ((w.alloc (.deferred (some []))).alloc (.loop (Lr .ready none))) := hI.al _ (hI.al _ h0)
  obtain ⟨W1, hW1⟩ : ∃ W1, (w.alloc (.deferred (some []))).alloc (.loop (Lr .ready none)) = W1 := ⟨_, rfl⟩
  rw [hW1] at hL1 hD1 hsz hK1 hI1
  refine ⟨w.heap.size + 1, [{ target := .collected w.heap.size, args := #[] }], W1, { target := .fn (.func gf) lb, args := #[.func (.yield (w.heap.size + 1)) #[] #[]] }, W1, gf,
    #[.func (.yield (w.heap.size + 1)) #[] #[]] ++ lb, W1, ?_, ?_, fun _ _ => trivial, ?_, fun h => by simp [Fence.wide] at h, ?_⟩
  · rw [← hW1, hLr]; exact run_enterLoop_outer _ _ _ _ _
  · simp only [resolve, hg]
    simp [go_sem]
  · simp [invoke, go_sem, eg]
  · clear hW1
    have keep : ∀ {A B : World} {row : Option Nat} {k : Nat} {o : Obj}, A.grownBy B row → (∀ r, row = some r → r = b ∨ (W1.heap.size ≤ r ∧ ∃ o : Obj, A.heap[r]? = some o ∧ o.isCells = false)) → w.heap.size ≤ k → k < W1.heap.size → A.heap[k]? = some o → B.heap[k]? = some o :=
      fun hgr hr h1 h2 ho => (hgr.block _ (Array.getElem?_eq_some_iff.1 ho).1 (fun e => by rcases hr _ e.symm with h | ⟨h, -⟩ <;> omega)).trans ho
    have wide : ∀ {A : World} {row : Option Nat}, (∀ r, row = some r → r = b ∨ (W1.heap.size ≤ r ∧ ∃ o : Obj, A.heap[r]? = some o ∧ o.isCells = false)) → (∀ r, row = some r → r = b ∨ (w.heap.size ≤ r ∧ ∃ o : Obj, A.heap[r]? = some o ∧ o.isCells = false)) :=
      fun hr r e => (hr r e).elim .inl (fun h => .inr ⟨by have := h.1; omega, h.2⟩)
    refine (hseq (w.heap.size + 1)
      (fun pre W => w.heap.size ≤ W.heap.size ∧ I pre W ∧ W.heap[w.heap.size + 1]? = some (.loop (Lr .ready none)) ∧ W.heap[w.heap.size]? = some (.deferred (some [])))
      (fun pre W => ∃ c, Ix c pre W ∧ W.heap[w.heap.size + 1]? = some (.loop (Lr .done (some c))) ∧ W.heap[w.heap.size]? = some (.deferred (some [])))
      W1 hK1 (by omega) (fun s A B row hs hgr hr => ⟨Nat.le_trans hs.1 hgr.size, hI s A B row hs.2.1 hgr (wide hr), keep hgr hr (by omega) (by omega) hs.2.2.1, keep hgr hr (Nat.le_refl _) (by omega) hs.2.2.2⟩)
      (fun s A B row hs hgr hr => by
        obtain ⟨c, hc, hl, hk⟩ := hs
        exact ⟨c, hIx c s A B row hc hgr (wide hr), keep hgr hr (by omega) (by omega) hl, keep hgr hr (Nat.le_refl _) (by omega) hk⟩)
      ?_ ⟨by omega, hI1, hL1, hD1⟩).mono ?_
    · rintro pre x rest W ⟨hs, hi, hl, hk⟩ hx
      have hy := run_yield (P := P) (args := #[.string x]) hl (by rw [hLr]; rfl)
      rw [hLr] at hy
      have hz : ∀ t : Array Value, Array.foldl (fun tmps (x : Tmp × Value) => match x with | (t, a) => tmps.setIfInBounds t a) t ((#[p] : Array Tmp).zip #[Value.string x]) = t.setIfInBounds p (.string x) := fun t => by simp
      dsimp only at hy
      rw [hz] at hy
      have hlt := (Array.getElem?_eq_some_iff.1 hl).1
      have hl2 : (W.putObj (w.heap.size + 1) (.loop { Lr .ready none with state := .busy })).heap[w.heap.size + 1]? = some (.loop { Lr .ready none with state := .busy }) := World.putObj_heap_same hlt
      have hk2 : (W.putObj (w.heap.size + 1) (.loop { Lr .ready none with state := .busy })).heap[w.heap.size]? = some (.deferred (some [])) := (World.putObj_heap_other (by omega)).trans hk
      refine ⟨fn, _, assign, body, hy, roundIn_of_wpIn hfn ?_⟩
      refine hassign _ x W _ ?_
      refine ⟨_, run_beginRound hl (by rw [hLr]), ?_⟩
      refine wpIn_mono (hbody _ pre x rest _ (hI.put _ hi (by omega) hl rfl) hx (by simp; omega)) ?_
      have fin : ∀ (jump : Option Code) (W3 : World), KeepsFrom w.heap.size (W.putObj (w.heap.size + 1) (.loop { Lr .ready none with state := .busy })) W3 →
          (Instr.endRound (w.heap.size + 1) jump).run P W3 = .ok (.bool jump.isNone) (W3.putObj (w.heap.size + 1) (.loop (Lr (if jump.isNone then .ready else .done) jump))) ∧
          W3.heap[w.heap.size + 1]? = some (.loop { Lr .ready none with state := .busy }) ∧
          (W3.putObj (w.heap.size + 1) (.loop (Lr (if jump.isNone then .ready else .done) jump))).heap[w.heap.size + 1]? = some (.loop (Lr (if jump.isNone then .ready else .done) jump)) ∧
          (W3.putObj (w.heap.size + 1) (.loop (Lr (if jump.isNone then .ready else .done) jump))).heap[w.heap.size]? = some (.deferred (some [])) := fun jump W3 hk3 => by
        have hl3 := hk3.same _ _ (by omega) hl2 rfl
        have he := run_endRound (P := P) jump hl3
        refine ⟨?_, hl3, World.putObj_heap_same (Array.getElem?_eq_some_iff.1 hl3).1, (World.putObj_heap_other (by omega)).trans (hk3.same _ _ (Nat.le_refl _) hk2 rfl)⟩
        rw [hLr] at he ⊢
        exact he
      have hw2 : KpC n b W (W.putObj (w.heap.size + 1) (.loop { Lr .ready none with state := .busy })) := KpC.put _ (by omega) (by omega) hl
      rintro e a3 W3 hp
      cases e with
      | normal =>
        obtain ⟨hk3, hkp3, hi3⟩ := hp
        obtain ⟨hr, hl3, hl4, hk4⟩ := fin none W3 hk3
        have hs3 := hk3.size
        simp at hs3
        exact ⟨_, _, hr, .inl ⟨rfl, ⟨by simp; omega, hI.put _ hi3 (by omega) hl3 rfl, hl4, hk4⟩, (hw2.trans hkp3).trans (KpC.put _ (by omega) (by omega) hl3)⟩⟩
      | ret =>
        obtain ⟨hr, hl3, hl4, hk4⟩ := fin (some .ret) W3 hp.1
        exact ⟨_, _, hr, .inr ⟨rfl, .ret, (hIx _).put _ hp.2 (by omega) hl3 rfl, hl4, hk4⟩⟩
      | exit id =>
        obtain ⟨hr, hl3, hl4, hk4⟩ := fin (some (.exit id)) W3 hp.1
        exact ⟨_, _, hr, .inr ⟨rfl, .exit id, (hIx _).put _ hp.2 (by omega) hl3 rfl, hl4, hk4⟩⟩
      | goto t =>
        obtain ⟨hr, hl3, hl4, hk4⟩ := fin (some (.goto t)) W3 hp.1
        exact ⟨_, _, hr, .inr ⟨rfl, .goto t, (hIx _).put _ hp.2 (by omega) hl3 rfl, hl4, hk4⟩⟩
      | panic ch => exact hp.elim
      | outgrown => exact hp.elim
    · rintro e W2 ⟨⟨v, rfl⟩, (⟨-, hi, hl, hk⟩ | ⟨pre, rest, hx, c, hi, hl, hk⟩)⟩
      · have he := run_endLoop (P := P) hl (by rw [hLr]; simp)
        refine ⟨none, _, ?_, hdone _ _ (Nat.le_refl _) (hI.put (.loop { Lr .ready none with state := .exhausted }) hi (by omega) hl rfl) ((World.putObj_heap_other (by omega)).trans hk)⟩
        rw [hLr] at he ⊢
        exact he
      · have he := run_endLoop (P := P) hl (by rw [hLr]; simp)
        refine ⟨some c, _, ?_, hstop _ c pre rest _ (Nat.le_refl _) hx ((hIx c).put (.loop { Lr .done (some c) with state := .exhausted }) hi (by omega) hl rfl) ((World.putObj_heap_other (by omega)).trans hk)⟩
        rw [hLr] at he ⊢
        exact he
end Go.Proofs.YtpniljcnknknoaaGreatDoor

/-
  strings.SplitSeq: the iterator's contract.
-/
namespace Go.Proofs.YtpniljcnknknoaaGreatDoor
open Go.RowKit Go.Shelf
set_option linter.unusedVariables false
set_option linter.unusedSimpArgs false
set_option maxRecDepth 100000
attribute [local go_sem] Oper.semAt_some

/-- How long the text is that a box holds. -/
def boxLen (W : World) (b : Nat) : Nat := match W.cell? ⟨b, 0, none⟩ with | some (.string s) => s.size | _ => 0
theorem boxLen_eq {W : World} {b : Nat} {s : ByteArray} (h : W.cell? ⟨b, 0, none⟩ = some (.string s)) : boxLen W b = s.size := by unfold boxLen; rw [h]
def pieces (sep t : ByteArray) : List ByteArray := Lib.splitB sep 0 (Lib.countB t sep) t
theorem pieces_miss {sep t : ByteArray} (h : Lib.indexB t sep = -1) : pieces sep t = [t] := Lib.splitB_miss _ _ _ _ h
theorem pieces_hit {sep t : ByteArray} (h1 : 1 ≤ sep.size) {i : Nat} (h : Lib.indexB t sep = i) : pieces sep t = t.extract 0 i :: pieces sep (t.extract (i + sep.size) t.size) := by
  unfold pieces
  rw [Lib.countB_hit t sep i h1 h, Nat.add_comm 1, Lib.splitB_hit _ _ _ _ i h]
  rfl
set_option maxHeartbeats 2000000 in
theorem splitSeq_in (t sep : ByteArray) (m : Int) (n b : Nat) (w : World) (h1 : 1 ≤ sep.size) (ht : t.size < 4294967281) (hp : sep.size ≤ 1000) (hs : Blk w b 9 [.string t]) (hse : Blk w (b + 1) 9 [.string sep]) (hsv : Blk w (b + 2) 3 [.int .i64 0])
    (hg : 1 < n) (hn : n ≤ b) (hm : w.cell? ⟨1, 0, none⟩ = some (.int .i64 m)) :
    SeqC Tryz.prog 223 #[.pointer (some ⟨b + 1, 0, none⟩), .pointer (some ⟨b, 0, none⟩), .pointer (some ⟨b + 2, 0, none⟩)] n b (pieces sep t) w := by
  intro l J Jx W hK hsz hJ hJx hY h0
  have hsw : Blk W b 9 [.string t] := (hK.2 b (Nat.le_refl _) (by omega)).trans hs
  have hsew : Blk W (b + 1) 9 [.string sep] := (hK.2 (b + 1) (by omega) (by omega)).trans hse
  have hsvw : Blk W (b + 2) 3 [.int .i64 0] := (hK.2 (b + 2) (by omega) (by omega)).trans hsv
  have hmw : W.cell? ⟨1, 0, none⟩ = some (.int .i64 m) := (hK.1.cell hg).trans hm
  have HIx := Lib.hid (fun (s : ByteArray) (w : World) (hs : s.size < 4294967281) (hm : w.cell? ⟨1, 0, none⟩ = some (.int .i64 m)) => callsIn_wide (n := 0).2 (Tryz.strings_Index s sep m w hs hm))
  have HY := Lib.hid hY
  have HJ := Lib.hid hJ
  have HJx := Lib.hid hJx
  clear hs hse hsv hm hK hY hJ hJx
  obtain ⟨c1, -⟩ := hsew.one
  have hz0 : ((sep.size : Int) == 0) = false := by rw [beq_eq_false_iff_ne]; omega
  refine callsIn_of_wp Tryz.func223 rfl trivial ?_ rfl
  simp only [Tryz.ntmps223, List.size_toArray, List.length_cons, List.length_nil, Nat.reduceAdd, Nat.reduceSub, Array.replicate_succ, Array.replicate_zero, List.push_toArray, List.append_toArray, List.nil_append, List.cons_append]
  gi_wp2
  gi_loopw [] (fun wr => ∃ (pre : List ByteArray) (r : ByteArray), pieces sep t = pre ++ pieces sep r ∧ r.size ≤ t.size ∧ J pre wr ∧ Blk wr b 9 [.string r] ∧ Blk wr (b + 1) 9 [.string sep] ∧ Blk wr (b + 2) 3 [.int .i64 0] ∧ wr.cell? ⟨1, 0, none⟩ = some (.int .i64 m) ∧ W.heap.size ≤ wr.heap.size)
    (fun wr => boxLen wr b)
  case atStart => exact ⟨[], t, rfl, Nat.le_refl _, h0, hsw, hsew, hsvw, hmw, Nat.le_refl _⟩
  case round =>
    obtain ⟨pre, r, hx, hr, hJ, k0, k1, k2, hmr, hz⟩ := hrel
    have H := Lib.hid (And.intro hx (And.intro hJ (And.intro k0 (And.intro k1 (And.intro k2 hmr)))))
    obtain ⟨e0, f0⟩ := k0.one
    obtain ⟨e1, f1⟩ := k1.one
    obtain ⟨e2, -⟩ := k2.one
    clear c1 hsw hsew hsvw hmw hx hJ k0 k1 k2 hmr h0
    rcases Lib.indexB_cases r sep with hix | ⟨i, hix, hroom⟩
    · obtain ⟨fn, tmps, asg, body, hy, hR⟩ := HY.out pre r [] wr H.out.2.1 (by rw [H.out.1, pieces_miss hix])
      have HX := Lib.hid (H.out.1.trans (by rw [pieces_miss hix]))
      have hix' : Lib.index r.data.toList sep.data.toList = -1 := hix
      gi_wp2
      refine ⟨trivial, rfl, (HIx.out _ _ (by omega) H.out.2.2.2.2.2).mono ?_⟩
      rintro e w2 ⟨rfl, rfl⟩
      rw [hix']
      gi_wp2
      refine ⟨rfl, hR.mono ?_⟩
      rintro e w3 (⟨rfl, hj, -⟩ | ⟨rfl, hj⟩)
      · gi_wp2
        go_end0
        exact ⟨⟨_, rfl⟩, .inl (by rw [HX.out]; exact hj)⟩
      · gi_wp2
        go_end0
        exact ⟨⟨_, rfl⟩, .inr ⟨_, [], by rw [HX.out, List.append_nil], hj⟩⟩
    · obtain ⟨fn, tmps, asg, body, hy, hR⟩ := HY.out pre (r.extract 0 i) (pieces sep (r.extract (i + sep.size) r.size)) wr H.out.2.1 (by rw [H.out.1, pieces_hit h1 hix])
      have hix' : Lib.index r.data.toList sep.data.toList = (i : Int) := hix
      have hb1 : ¬ (i : Int) < 0 := by omega
      have hsz1 : sep.size ≤ r.size := by omega
      gi_wp2
      refine ⟨trivial, rfl, (HIx.out _ _ (by omega) H.out.2.2.2.2.2).mono ?_⟩
      rintro e w2 ⟨rfl, rfl⟩
      rw [hix']
      gi_wp2
      refine ⟨rfl, hR.mono ?_⟩
      rintro e w3 (⟨rfl, hj, hk3⟩ | ⟨rfl, hj⟩)
      · have g0 : Blk w3 b 9 [.string r] := (hk3.2 b (Nat.le_refl _) (by omega)).trans H.out.2.2.1
        have g1 : Blk w3 (b + 1) 9 [.string sep] := (hk3.2 (b + 1) (by omega) (by omega)).trans H.out.2.2.2.1
        have g2 : Blk w3 (b + 2) 3 [.int .i64 0] := (hk3.2 (b + 2) (by omega) (by omega)).trans H.out.2.2.2.2.1
        have gm : w3.cell? ⟨1, 0, none⟩ = some (.int .i64 m) := (hk3.1.cell hg).trans H.out.2.2.2.2.2
        have G := Lib.hid (And.intro hj (And.intro g0 (And.intro g1 (And.intro g2 (And.intro gm hk3.1.size)))))
        clear e0 f0 e1 f1 e2 hy hR
        obtain ⟨e0, f0⟩ := g0.one
        obtain ⟨e1, f1⟩ := g1.one
        clear g0 g1 g2 gm hj hk3
        gi_wp2
        have rel : ∃ (pre : List ByteArray) (r1 : ByteArray), pieces sep t = pre ++ pieces sep r1 ∧ r1.size ≤ t.size ∧ J pre (w3.setCell ⟨b, 0, none⟩ (.string (r.extract (i + sep.size) r.size))) ∧ Blk (w3.setCell ⟨b, 0, none⟩ (.string (r.extract (i + sep.size) r.size))) b 9 [.string r1] ∧ Blk (w3.setCell ⟨b, 0, none⟩ (.string (r.extract (i + sep.size) r.size))) (b + 1) 9 [.string sep] ∧ Blk (w3.setCell ⟨b, 0, none⟩ (.string (r.extract (i + sep.size) r.size))) (b + 2) 3 [.int .i64 0] ∧ (w3.setCell ⟨b, 0, none⟩ (.string (r.extract (i + sep.size) r.size))).cell? ⟨1, 0, none⟩ = some (.int .i64 m) ∧ W.heap.size ≤ (w3.setCell ⟨b, 0, none⟩ (.string (r.extract (i + sep.size) r.size))).heap.size := by
          refine ⟨pre ++ [r.extract 0 i], r.extract (i + sep.size) r.size, ?_, ?_, ?_, G.out.2.1.set_ 0 _, G.out.2.2.1.far (p := ⟨b, 0, none⟩) (by show b + 1 ≠ b; omega) _, G.out.2.2.2.1.far (p := ⟨b, 0, none⟩) (by show b + 2 ≠ b; omega) _, ?_, ?_⟩
          · rw [H.out.1, pieces_hit h1 hix, List.append_assoc, List.singleton_append]
          · rw [ByteArray.size_extract]; omega
          · exact HJ.out _ _ _ (some b) G.out.1 (only_setCell (p := ⟨b, 0, none⟩) ⟨rfl, rfl, rfl, Nat.le_refl _, fun _ _ _ => rfl⟩ (.inl rfl) _) (fun q e => .inl (by cases e; rfl))
          · rw [World.cell?_setCell_other _ _ _ _ (by intro e; injection e with e; omega)]
            exact G.out.2.2.2.2.1
          · have := G.out.2.2.2.2.2
            simp only [World.setCell, Array.size_modify]
            omega
        refine ⟨?_, ?measure⟩
        case measure =>
          rw [boxLen_eq (G.out.2.1.set_ 0 (.string (r.extract (i + sep.size) r.size))).one.1, boxLen_eq H.out.2.2.1.one.1, ByteArray.size_extract]
          omega
        first
          | exact rel
          | (repeat apply Exists.intro
             exact ⟨rel, rfl⟩)
      · gi_wp2
        refine bodyPost_ret (results_none rfl _ _ _) rfl ?_
        exact ⟨⟨_, rfl⟩, .inr ⟨_, pieces sep (r.extract (i + sep.size) r.size), by rw [H.out.1, pieces_hit h1 hix, List.append_assoc, List.singleton_append], hj⟩⟩
end Go.Proofs.YtpniljcnknknoaaGreatDoor

/-
  The pages of a printed table, found again in its text.
-/
namespace Go.Proofs.YtpniljcnknknoaaGreatDoor
open Go.RowKit
set_option linter.unusedVariables false
set_option linter.unusedSimpArgs false
set_option maxRecDepth 100000

/-- Behind every newline there is another byte, which is none. -/
def good : List UInt8 → Prop
  | [] => True
  | b :: r => (b = 10 → ∃ c r', r = c :: r' ∧ c ≠ 10) ∧ good r
theorem good_app : ∀ {x y : List UInt8}, (10 : UInt8) ∉ x → good y → good (x ++ y)
  | [], y, _, h => h
  | b :: x, y, hx, h => ⟨fun e => absurd (by rw [e]; exact List.mem_cons_self) hx, good_app (fun e => hx (List.mem_cons_of_mem _ e)) h⟩
theorem good_tail : ∀ {xs : List (List UInt8)}, (∀ x ∈ xs, x ≠ [] ∧ (10 : UInt8) ∉ x) → good (Lib.joinTail [10] xs)
  | [], _ => trivial
  | x :: r, h => by
    obtain ⟨h1, h2⟩ := h x (by simp)
    have ih := good_tail (xs := r) (fun y hy => h y (by simp [hy]))
    have e : Lib.joinTail [10] (x :: r) = 10 :: (x ++ Lib.joinTail [10] r) := by simp [Lib.joinTail]
    rw [e]
    cases x with
    | nil => exact absurd rfl h1
    | cons c x => exact ⟨fun _ => ⟨c, _, rfl, fun e => h2 (by rw [e]; exact List.mem_cons_self)⟩, good_app h2 ih⟩
theorem good_join {x : List UInt8} {xs : List (List UInt8)} (hx : (10 : UInt8) ∉ x) (h : ∀ x ∈ xs, x ≠ [] ∧ (10 : UInt8) ∉ x) : good (Lib.join (x :: xs) [10]) := by
  rw [Lib.join_cons]
  exact good_app hx (good_tail h)
theorem good_at : ∀ {P : List UInt8}, good P → ∀ r, Lib.index (P ++ 10 :: 10 :: r) [10, 10] = (P.length : Int)
  | [], _, r => by simp [Lib.index, List.isPrefixOf]
  | b :: P, h, r => by
    have ih := good_at h.2 r
    have hp : ([10, 10] : List UInt8).isPrefixOf (b :: (P ++ 10 :: 10 :: r)) = false := by
      by_cases hb : b = 10
      · obtain ⟨c, q, rfl, hc⟩ := h.1 hb
        have : (10 == c) = false := by rw [beq_eq_false_iff_ne]; exact fun e => hc e.symm
        simp [List.isPrefixOf, this]
      · have : (10 == b) = false := by rw [beq_eq_false_iff_ne]; exact fun e => hb e.symm
        simp [List.isPrefixOf, this]
    have hne : ((P.length : Int) == -1) = false := by rw [beq_eq_false_iff_ne]; omega
    rw [List.cons_append, Lib.index, hp, ih, hne]
    simp
theorem good_not : ∀ {P : List UInt8}, good P → Lib.index P [10, 10] = -1
  | [], _ => rfl
  | b :: P, h => by
    have ih := good_not h.2
    have hp : ([10, 10] : List UInt8).isPrefixOf (b :: P) = false := by
      by_cases hb : b = 10
      · obtain ⟨c, q, rfl, hc⟩ := h.1 hb
        have : (10 == c) = false := by rw [beq_eq_false_iff_ne]; exact fun e => hc e.symm
        simp [List.isPrefixOf, this]
      · have : (10 == b) = false := by rw [beq_eq_false_iff_ne]; exact fun e => hb e.symm
        simp [List.isPrefixOf, this]
    rw [Lib.index, hp, ih]
    simp
def nn : ByteArray := ⟨#[10, 10]⟩
theorem pgJ_one (P : ByteArray) (sep : ByteArray) : joinS [P] sep = P := by
  unfold joinS
  rw [List.map_cons, List.map_nil, Lib.join_one]
theorem pgJ_two (P Q : ByteArray) (r : List ByteArray) (sep : ByteArray) : joinS (P :: Q :: r) sep = P ++ sep ++ joinS (Q :: r) sep := by
  unfold joinS
  rw [List.map_cons, Lib.join_cons]
  apply ByteArray.ext
  apply Array.toList_inj.1
  simp [Lib.joinTail, Lib.join_cons]
theorem extract_mid (P Q sep : ByteArray) : (P ++ sep ++ Q).extract 0 P.size = P ∧ (P ++ sep ++ Q).extract (P.size + sep.size) (P ++ sep ++ Q).size = Q := by
  have e : (P ++ sep ++ Q).data.toList = P.data.toList ++ sep.data.toList ++ Q.data.toList := by simp
  have e1 : P.size = P.data.toList.length := rfl
  have e2 : sep.size = sep.data.toList.length := rfl
  have e3 : (P ++ sep ++ Q).size = (P.data.toList ++ sep.data.toList ++ Q.data.toList).length := by rw [← e]; rfl
  constructor
  · rw [mid_extract, e]
    have : mid (P.data.toList ++ sep.data.toList ++ Q.data.toList) 0 P.size = P.data.toList := by
      unfold mid
      rw [List.drop_zero, Nat.sub_zero, List.append_assoc, e1, List.take_left]
    rw [this]
    exact baL_data P
  · rw [mid_extract, e]
    have : mid (P.data.toList ++ sep.data.toList ++ Q.data.toList) (P.size + sep.size) (P ++ sep ++ Q).size = Q.data.toList := by
      unfold mid
      rw [e1, e2, ← List.length_append, List.drop_left, List.take_of_length_le]
      rw [e3, List.length_append, Nat.add_sub_cancel_left]
      exact Nat.le_refl _
    rw [this]
    exact baL_data Q
theorem pieces_pages : ∀ (P : ByteArray) (r : List ByteArray), (∀ x ∈ P :: r, good x.data.toList) → pieces nn (joinS (P :: r) nn) = P :: r
  | P, [], h => by
    rw [pgJ_one, pieces_miss]
    exact good_not (h P (by simp))
  | P, Q :: r, h => by
    have ih := pieces_pages Q r (fun x hx => h x (List.mem_cons_of_mem _ hx))
    have hi : Lib.indexB (P ++ nn ++ joinS (Q :: r) nn) nn = (P.size : Int) := by
      have := good_at (h P (by simp)) (joinS (Q :: r) nn).data.toList
      have e : (P ++ nn ++ joinS (Q :: r) nn).data.toList = P.data.toList ++ 10 :: 10 :: (joinS (Q :: r) nn).data.toList := by simp [nn]
      unfold Lib.indexB
      rw [e]
      exact this
    rw [pgJ_two, pieces_hit (by decide) hi, (extract_mid P _ nn).1, (extract_mid P _ nn).2, ih]
/-- A page's text: its lines with newlines between them. -/
def pgT (W : Nat) (l : List Int) (R M p : Nat) : ByteArray := joinS (pgL W l R M p) ⟨#[10]⟩
theorem putL_join (a x : ByteArray) (r : List ByteArray) : putL a (x :: r) = a ++ joinS (x :: r) ⟨#[10]⟩ ++ ⟨#[10]⟩ := by
  induction r generalizing a x with
  | nil =>
    rw [pgJ_one]
    show a ++ (x ++ ⟨#[10]⟩) = a ++ x ++ ⟨#[10]⟩
    rw [ByteArray.append_assoc]
  | cons y q ih =>
    have e : putL a (x :: y :: q) = putL (a ++ (x ++ ⟨#[10]⟩)) (y :: q) := rfl
    rw [e, ih, pgJ_two]
    simp only [ByteArray.append_assoc]
theorem pgJ_snoc (P : ByteArray) (r : List ByteArray) (Q sep : ByteArray) : joinS (P :: r ++ [Q]) sep = joinS (P :: r) sep ++ sep ++ Q := by
  induction r generalizing P with
  | nil => rw [List.cons_append, List.nil_append, pgJ_two, pgJ_one, pgJ_one]
  | cons y q ih =>
    have := ih y
    rw [List.cons_append] at this
    rw [List.cons_append, List.cons_append, pgJ_two, this, pgJ_two]
    simp only [ByteArray.append_assoc]
theorem pgL_cons {W : Nat} {l : List Int} {R M p : Nat} (h : 0 < pgRows l R M p) : ∃ x r, pgL W l R M p = x :: r := by
  have := pgL_len W l R M p
  cases hc : pgL W l R M p with
  | nil => rw [hc] at this; simp at this; omega
  | cons x r => exact ⟨x, r, rfl⟩
def pgsT (W : Nat) (l : List Int) (R M n : Nat) : List ByteArray := (List.range n).map fun p => pgT W l R M p
theorem pgsT_succ (W : Nat) (l : List Int) (R M n : Nat) : pgsT W l R M (n + 1) = pgsT W l R M n ++ [pgT W l R M n] := by
  unfold pgsT
  rw [List.range_succ, List.map_append]
  rfl
theorem pgsT_cons (W : Nat) (l : List Int) (R M n : Nat) : ∃ r, pgsT W l R M (n + 1) = pgT W l R M 0 :: r := by
  unfold pgsT
  rw [List.range_succ_eq_map]
  exact ⟨_, rfl⟩
/-- The text of all pages: theirs with empty lines between them, and one more newline. -/
theorem textN_pages {W : Nat} {l : List Int} {R M : Nat} : ∀ n, (∀ p, p < n + 1 → 0 < pgRows l R M p) → textN W l R M (n + 1) = joinS (pgsT W l R M (n + 1)) nn ++ ⟨#[10]⟩
  | 0, h => by
    obtain ⟨x, r, hx⟩ := pgL_cons (W := W) (h 0 (by omega))
    have e : pgsT W l R M (0 + 1) = [pgT W l R M 0] := rfl
    rw [textN_one, hx, putL_join, e, pgJ_one]
    unfold pgT
    rw [hx]
    have : textN W l R M 0 = ⟨#[]⟩ := rfl
    rw [this, show ∀ x : ByteArray, (⟨#[]⟩ : ByteArray) ++ x = x from fun x => by apply ByteArray.ext; apply Array.toList_inj.1; simp]
  | n + 1, h => by
    obtain ⟨x, r, hx⟩ := pgL_cons (W := W) (h (n + 1) (by omega))
    have ih := textN_pages (W := W) n (fun p hp => h p (by omega))
    obtain ⟨q, hq⟩ := pgsT_cons W l R M n
    rw [textN_succ (by omega), hx, putL_join, ih, pgsT_succ W l R M (n + 1), hq]
    have e := pgJ_snoc (pgT W l R M 0) q (pgT W l R M (n + 1)) nn
    rw [e]
    unfold pgT
    rw [hx]
    have : nn = ⟨#[10]⟩ ++ ⟨#[10]⟩ := rfl
    rw [this]
    simp only [ByteArray.append_assoc]
theorem spS_no : ∀ n, (10 : UInt8) ∉ (spS n).data.toList
  | 0 => by simp [spS, Lib.repeatL]
  | n + 1 => by
    have ih := spS_no n
    unfold spS at ih ⊢
    simpa [Lib.repeatL] using ih
theorem padS_no (W : Nat) (v : Int) : (10 : UInt8) ∉ (padS W v).data.toList := by
  intro h
  have e : (padS W v).data.toList = (spS (W - (itoaS v).size)).data.toList ++ (itoaS v).data.toList := by unfold padS; simp
  rw [e, List.mem_append] at h
  rcases h with h | h
  · exact spS_no _ h
  · exact itoaS_no 10 (by decide) (by decide) v h
theorem join_no {b : UInt8} {sep : List UInt8} (hs : b ∉ sep) {xs : List (List UInt8)} (h : ∀ x ∈ xs, b ∉ x) : b ∉ Lib.join xs sep := by
  cases xs with
  | nil => simp [Lib.join]
  | cons x r =>
    rw [Lib.join_cons, List.mem_append]
    rintro (k | k)
    · exact h x (by simp) k
    · unfold Lib.joinTail at k
      rw [List.mem_flatten] at k
      obtain ⟨z, hz, hb⟩ := k
      rw [List.mem_map] at hz
      obtain ⟨y, hy, rfl⟩ := hz
      rw [List.mem_append] at hb
      rcases hb with hb | hb
      · exact hs hb
      · exact h y (by simp [hy]) hb
theorem lineV_no (W : Nat) (V : List Int) : (10 : UInt8) ∉ (lineV W V).data.toList := by
  rw [lineV_data]
  refine join_no (by decide) fun x hx => ?_
  obtain ⟨v, -, rfl⟩ := List.mem_map.1 hx
  exact padS_no W v
theorem rows_V (W : Nat) (e : List Int) (R n : Nat) : rowsL W e R n = (pgV e R n).map (lineV W) := by
  unfold rowsL pgV
  rw [List.map_map]
  refine List.map_congr_left fun r _ => ?_
  exact lineS_V W e R r _
theorem fit_V {W : Nat} {e : List Int} {R n : Nat} (h : rowsF W e R n) : ∀ V ∈ pgV e R n, fitV W V := by
  intro V hV
  unfold pgV at hV
  obtain ⟨r, hr, rfl⟩ := List.mem_map.1 hV
  intro v hv
  unfold rowV at hv
  obtain ⟨i, hi, rfl⟩ := List.mem_map.1 hv
  exact h r (List.mem_range.1 hr) i (List.mem_range.1 hi)
theorem pgV_ne {e : List Int} {R n : Nat} (hR : 0 < R) (hn : n = min R e.length) : ∀ V ∈ pgV e R n, 1 ≤ V.length := by
  intro V hV
  unfold pgV at hV
  obtain ⟨r, hr, rfl⟩ := List.mem_map.1 hV
  rw [rowV_len]
  have := (colN_iff (L := e.length) (r := r) 0 hR).1 (by have := List.mem_range.1 hr; omega)
  omega
theorem pgV_le {e : List Int} {R A n : Nat} (hR : 0 < R) (he : e.length ≤ R * A) : ∀ V ∈ pgV e R n, V.length ≤ A := by
  intro V hV
  unfold pgV at hV
  obtain ⟨r, hr, rfl⟩ := List.mem_map.1 hV
  rw [rowV_len]
  rcases Nat.lt_or_ge A (colN e.length R r) with h | h
  · have := (colN_iff (L := e.length) (r := r) A hR).2 h
    have h2 : A * R = R * A := Nat.mul_comm _ _
    omega
  · exact h
theorem pgT_good {W : Nat} {l : List Int} {R M p : Nat} (hR : 0 < R) (hW : 1 ≤ W) (hF : pgF W l R M p) (h0 : 0 < pgRows l R M p) : good (pgT W l R M p).data.toList := by
  have e : (pgT W l R M p).data.toList = Lib.join ((pgL W l R M p).map (·.data.toList)) [10] := rfl
  rw [e]
  have key : ∀ x ∈ (pgL W l R M p).map (·.data.toList), x ≠ [] ∧ (10 : UInt8) ∉ x := by
    intro x hx
    obtain ⟨s, hs, rfl⟩ := List.mem_map.1 hx
    unfold pgL at hs
    rw [rows_V] at hs
    obtain ⟨V, hV, rfl⟩ := List.mem_map.1 hs
    refine ⟨fun h => ?_, lineV_no W V⟩
    have h1 := pgV_ne (n := pgRows l R M p) hR rfl V hV
    have h2 := lineV_size (fit_V hF V hV) (fun e => by rw [e] at h1; simp at h1)
    have h3 : (lineV W V).size = 0 := by
      have : (lineV W V).size = (lineV W V).data.toList.length := rfl
      rw [this, h]; rfl
    have h4 : 1 * (1 + 1) ≤ V.length * (W + 1) := Nat.mul_le_mul h1 (by omega)
    omega
  obtain ⟨x, r, hx⟩ := pgL_cons (W := W) h0
  rw [hx] at key ⊢
  rw [List.map_cons] at key ⊢
  exact good_join (key _ (by simp)).2 (fun y hy => key y (by simp at hy ⊢; exact Or.inr hy))
theorem pgT_lines {W : Nat} {l : List Int} {R M p : Nat} (h0 : 0 < pgRows l R M p) : cutS 10 (pgT W l R M p) = pgL W l R M p := by
  obtain ⟨x, r, hx⟩ := pgL_cons (W := W) h0
  unfold cutS
  have e : (pgT W l R M p).data.toList = Lib.join ((pgL W l R M p).map (·.data.toList)) [10] := rfl
  rw [e, hx, List.map_cons, cut_join]
  · rw [List.map_cons, List.map_map, baL_data]
    congr 1
    conv => rhs; rw [← List.map_id r]
    exact List.map_congr_left fun s _ => baL_data s
  · intro q hq
    have : q ∈ (pgL W l R M p).map (·.data.toList) := by rw [hx, List.map_cons]; exact hq
    obtain ⟨s, hs, rfl⟩ := List.mem_map.1 this
    unfold pgL at hs
    rw [rows_V] at hs
    obtain ⟨V, hV, rfl⟩ := List.mem_map.1 hs
    exact lineV_no W V
/-- The pages' entries, one after the other. -/
theorem take_page (l : List Int) (M p : Nat) : l.take (p * M) ++ pgE l M p = l.take ((p + 1) * M) := by
  unfold pgE
  rw [Nat.succ_mul, List.take_add]
end Go.Proofs.YtpniljcnknknoaaGreatDoor

/-
  strings.SplitSeq: the value that it hands back.
-/
namespace Go.Proofs.YtpniljcnknknoaaGreatDoor
open Go.RowKit
set_option linter.unusedVariables false
set_option linter.unusedSimpArgs false
set_option maxRecDepth 100000
attribute [local go_sem ↓] Go.wp_at_zero Go.wp_at_succ

/-- The world with the iterator's three boxes. -/
def seqW (w : World) (t sep : ByteArray) : World := ((w.alloc (.cells #[.string t] 9)).alloc (.cells #[.string sep] 9)).alloc (.cells #[.int .i64 0] 3)
def seqV (b : Nat) : Value := .func (.func 223) #[] #[.pointer (some ⟨b + 1, 0, none⟩), .pointer (some ⟨b, 0, none⟩), .pointer (some ⟨b + 2, 0, none⟩)]
set_option maxHeartbeats 1000000 in
theorem splitSeq1V_any (t sep : ByteArray) (w : World) :
    Calls Tryz.prog 173 #[.string t, .string sep, .int .i64 0] w fun e w' => e = .returned (seqV w.heap.size) ∧ w' = seqW w t sep := by
  go_enter Tryz.func173, Tryz.ntmps173
  go_wp2
  go_ret
  exact ⟨rfl, rfl⟩
set_option maxHeartbeats 1000000 in
theorem splitSeqV_any (t sep : ByteArray) (w : World) :
    Calls Tryz.prog 115 #[.string t, .string sep] w fun e w' => e = .returned (seqV w.heap.size) ∧ w' = seqW w t sep := by
  go_enter Tryz.func115, Tryz.ntmps115
  go_wp2_with fail
  refine (splitSeq1V_any t sep w).mono ?_
  rintro e w' ⟨rfl, rfl⟩
  go_wp2
  go_ret
  exact ⟨rfl, rfl⟩
theorem seqW_blk (w : World) (t sep : ByteArray) : Blk (seqW w t sep) w.heap.size 9 [.string t] ∧ Blk (seqW w t sep) (w.heap.size + 1) 9 [.string sep] ∧ Blk (seqW w t sep) (w.heap.size + 2) 3 [.int .i64 0] ∧ Below w.heap.size w (seqW w t sep) ∧ (seqW w t sep).heap.size = w.heap.size + 3 := by
  refine ⟨((Blk.new' w 9 (.string t) _ rfl).alloc _).alloc _, (Blk.new' _ 9 (.string sep) _ (by simp)).alloc _, Blk.new' _ 3 (.int .i64 0) _ (by simp), ((bel_alloc w _).alloc (by simp) _).alloc (by simp; omega) _, by simp [seqW]⟩
end Go.Proofs.YtpniljcnknknoaaGreatDoor

/-
  The desk of a script: how it lies in memory, and what keeps it.
-/
namespace Go.Proofs.YtpniljcnknknoaaGreatDoor
open Go.RowKit
set_option linter.unusedVariables false
set_option linter.unusedSimpArgs false
set_option maxRecDepth 100000

/-- What a desk holds. -/
structure DeskD where
  poly : List Int
  eng : List ByteArray
  tab : List Int
  rw : Nat
  ac : Nat
  wi : Nat
structure DeskD.Ok (d : DeskD) : Prop where
  poly : polyOk d.poly = true
  eng : d.eng = [] ∨ engOk d.eng = true
  tab : d.tab.length ≤ 60
  rw : 1 ≤ d.rw ∧ d.rw ≤ 20
  ac : 1 ≤ d.ac ∧ d.ac ≤ 6
  wi : 1 ≤ d.wi ∧ d.wi ≤ 12
def deskC (p e t : Value) (r a i : Int) : List Value := [p, e, t, .int .i64 r, .int .i64 a, .int .i64 i]
/-- A desk in block b. -/
def Desk (w : World) (b : Nat) (d : DeskD) : Prop := ∃ p e t, Blk w b 79 (deskC p e t d.rw d.ac d.wi) ∧ Own w 0 p d.poly ∧ OwnS w 0 e d.eng ∧ Own w 0 t d.tab
theorem row_ne {w : World} {b : Nat} {t e : TypeId} {cs : List Value} {base n : Nat} {v : Value} {xs : List Value} (hb : Blk w b t cs) (h : w.ownsRow base e 1 v n xs) (hne : t ≠ e) : v.ownBlock ≠ some b := by
  rcases h.2 with ⟨rfl, -⟩ | ⟨g, cap, cur, rfl, -, hg, -⟩
  · simp [Value.ownBlock]
  · intro h1
    have h2 : g = b := Option.some.inj h1
    subst h2
    unfold Blk at hb
    rw [hb] at hg
    injection hg with hg
    injection hg with h3 h4 h5
    exact hne h4
theorem row_kept {w w' : World} {base : Nat} {e : TypeId} {v : Value} {n : Nat} {xs : List Value} {row : Option Nat} (h : w.ownsRow base e 1 v n xs) (hg : w.grownBy w' row) (hr : ∀ k, v.ownBlock = some k → some k ≠ row) : w'.ownsRow base e 1 v n xs := by
  refine ⟨h.1, ?_⟩
  rcases h.2 with h0 | ⟨g, cap, cur, hv, h1, h2, h3⟩
  · exact .inl h0
  · exact .inr ⟨g, cap, cur, hv, h1, (hg.block g (Array.getElem?_eq_some_iff.1 h2).1 (hr g (by rw [hv]; rfl))).trans h2, h3⟩
theorem row_others {w w' : World} {base : Nat} {e u : TypeId} {v : Value} {n bb : Nat} {xs : List Value} (h : w.ownsRow base e 1 v n xs) (hk : Lib.OthersKept u (some bb) w w') (hr : v.ownBlock ≠ some bb) (hne : e ≠ u) : w'.ownsRow base e 1 v n xs := by
  refine ⟨h.1, ?_⟩
  rcases h.2 with h0 | ⟨g, cap, cur, hv, h1, h2, h3⟩
  · exact .inl h0
  · exact .inr ⟨g, cap, cur, hv, h1, hk g _ h2 (fun e => hr (by rw [hv]; exact e)) (fun c fz e => by injection e with _ e1; exact hne e1), h3⟩
theorem Blk.others {w w' : World} {b bb : Nat} {t u : TypeId} {cs : List Value} (h : Blk w b t cs) (hk : Lib.OthersKept u (some bb) w w') (hr : b ≠ bb) (hne : t ≠ u) : Blk w' b t cs :=
  hk b _ h (fun e => hr (Option.some.inj e)) (fun c fz e => by injection e with _ e1; exact hne e1)
theorem Own.low {w : World} {base : Nat} {v : Value} {l : List Int} (h : Own w base v l) : Own w 0 v l := ⟨by
  refine ⟨h.1.1, ?_⟩
  rcases h.1.2 with h0 | ⟨g, cap, cur, hv, -, h2⟩
  · exact .inl h0
  · exact .inr ⟨g, cap, cur, hv, Nat.zero_le _, h2⟩, h.2⟩
theorem OwnS.low {w : World} {base : Nat} {v : Value} {l : List ByteArray} (h : OwnS w base v l) : OwnS w 0 v l := ⟨by
  refine ⟨h.1.1, ?_⟩
  rcases h.1.2 with h0 | ⟨g, cap, cur, hv, -, h2⟩
  · exact .inl h0
  · exact .inr ⟨g, cap, cur, hv, Nat.zero_le _, h2⟩, h.2⟩
theorem Own.at {w : World} {base b : Nat} {v : Value} {l : List Int} {cs : List Value} (h : Own w base v l) (hb : Blk w b 79 cs) {w' : World} (hg : w.grownBy w' (some b)) : Own w' base v l :=
  ⟨row_kept h.1 hg (fun k hk e => row_ne hb h.1 (by decide) (by rw [hk, e])), h.2⟩
theorem OwnS.at {w : World} {base b : Nat} {v : Value} {l : List ByteArray} {cs : List Value} (h : OwnS w base v l) (hb : Blk w b 79 cs) {w' : World} (hg : w.grownBy w' (some b)) : OwnS w' base v l :=
  ⟨row_kept h.1 hg (fun k hk e => row_ne hb h.1 (by decide) (by rw [hk, e])), h.2⟩
theorem Desk.lt {w : World} {b : Nat} {d : DeskD} (h : Desk w b d) : b < w.heap.size := by obtain ⟨p, e, t, h, -⟩ := h; exact h.lt
theorem Desk.bel {w w' : World} {b : Nat} {d : DeskD} (h : Desk w b d) (hb : Below w.heap.size w w') : Desk w' b d := by
  obtain ⟨p, e, t, h0, h1, h2, h3⟩ := h
  exact ⟨p, e, t, h0.below hb h0.lt, h1.bel hb, h2.bel hb, h3.bel hb⟩
theorem Desk.others {w w' : World} {b bb : Nat} {d : DeskD} (h : Desk w b d) (hB : w.shape? bb = some (82, 2)) (hk : Lib.OthersKept 5 (some bb) w w') : Desk w' b d := by
  obtain ⟨p, e, t, h0, h1, h2, h3⟩ := h
  have hn : ∀ {base : Nat} {u : TypeId} {v : Value} {n : Nat} {xs : List Value}, u ≠ 82 → w.ownsRow base u 1 v n xs → v.ownBlock ≠ some bb := by
    intro base u v n xs hu h4 h5
    rcases h4.2 with ⟨rfl, -⟩ | ⟨g, cap, cur, rfl, -, hg, -⟩
    · simp [Value.ownBlock] at h5
    · have h6 : g = bb := Option.some.inj h5
      subst h6
      simp [World.shape?, hg] at hB
      exact hu hB.1
  refine ⟨p, e, t, h0.others hk (fun e => ?_) (by decide), ⟨row_others h1.1 hk (hn (by decide) h1.1) (by decide), h1.2⟩, ⟨row_others h2.1 hk (hn (by decide) h2.1) (by decide), h2.2⟩, ⟨row_others h3.1 hk (hn (by decide) h3.1) (by decide), h3.2⟩⟩
  subst e
  unfold Blk at h0
  simp [World.shape?, h0] at hB
theorem grw_trans {a b c : World} {row : Option Nat} (h : a.grownBy b row) (k : b.grownBy c row) : a.grownBy c row :=
  ⟨k.os.trans h.os, k.tape.trans h.tape, k.output.trans h.output, Nat.le_trans h.size k.size, fun i hi hn => (k.block i (Nat.lt_of_lt_of_le hi h.size) hn).trans (h.block i hi hn)⟩
theorem grw_bel {a b : World} (row : Option Nat) (h : Below a.heap.size a b) : a.grownBy b row := ⟨h.os, h.tape, h.output, h.size, fun i hi _ => h.block i hi⟩
/-- The words of the lines with numbers, and how many numbers each wants. -/
def cmdW : List ByteArray := [⟨#[115, 101, 116, 117, 112]⟩, ⟨#[116, 117, 114, 110, 115]⟩, ⟨#[118, 97, 108, 117, 101, 115]⟩, ⟨#[114, 117, 110]⟩, ⟨#[115, 108, 105, 112]⟩, ⟨#[99, 111, 114, 114, 101, 99, 116]⟩, ⟨#[114, 111, 117, 110, 100]⟩, ⟨#[108, 97, 121, 111, 117, 116]⟩, ⟨#[102, 105, 110, 100]⟩, ⟨#[112, 108, 97, 110]⟩, ⟨#[99, 104, 101, 97, 112]⟩, ⟨#[115, 117, 109, 115]⟩]
def cmdN : List Int := [2, 1, 2, 1, 4, 1, 2, 3, 1, 1, 3, 1]
/-- The table of commands lies as it was laid. -/
def Cmd (w : World) : Prop := ∃ b o c, w.cell? ⟨0, 0, none⟩ = some (.slice (some ⟨b, o, none⟩) 12 c) ∧ 12 ≤ c ∧ c ≤ 9223372036854775807 ∧ b < w.heap.size ∧ ∀ k, k < 12 → w.cell? ⟨b, o + k * 2, none⟩ = some (.string (sat cmdW k)) ∧ w.cell? ⟨b, o + k * 2 + 1, none⟩ = some (.int .i64 (at_ cmdN k))
theorem Cmd.bel {w w' : World} (h : Cmd w) (hb : Below w.heap.size w w') : Cmd w' := by
  obtain ⟨b, o, c, h1, h2, h3, h4, h5⟩ := h
  exact ⟨b, o, c, (hb.cell (World.block_lt_of_cell? _ _ h1)).trans h1, h2, h3, Nat.lt_of_lt_of_le h4 hb.size, fun k hk => ⟨(hb.cell h4).trans (h5 k hk).1, (hb.cell h4).trans (h5 k hk).2⟩⟩
def GlbC (w : World) : Prop := Glb w ∧ Cmd w
theorem GlbC.bel {w w' : World} (h : GlbC w) (hb : Below w.heap.size w w') : GlbC w' := ⟨h.1.bel hb, h.2.bel hb⟩
/-- A world with a desk, in which the package-level variables lie as they lay. -/
def GlbB (b : Nat) (w : World) : Prop := ∃ w0, GlbC w0 ∧ w0.heap.size ≤ b ∧ Below w0.heap.size w0 w
theorem GlbB.glb {b : Nat} {w : World} (h : GlbB b w) : Glb w := by obtain ⟨w0, h0, -, h2⟩ := h; exact h0.1.bel h2
theorem GlbB.cmd {b : Nat} {w : World} (h : GlbB b w) : Cmd w := by obtain ⟨w0, h0, -, h2⟩ := h; exact h0.2.bel h2
theorem GlbB.grown {b : Nat} {w w' : World} (h : GlbB b w) (hg : w.grownBy w' (some b)) : GlbB b w' := by
  obtain ⟨w0, h0, h1, h2⟩ := h
  exact ⟨w0, h0, h1, h2.grown hg h2.size (fun k hk => by cases hk; exact h1)⟩
theorem GlbB.bel {b : Nat} {w w' : World} (h : GlbB b w) (hb : Below w.heap.size w w') : GlbB b w' := h.grown (grw_bel _ hb)
theorem GlbB.from {b B : Nat} {w w' : World} (h : GlbB b w) (hb : Below B w w') (hB : b ≤ B) : GlbB b w' := by
  obtain ⟨w0, h0, h1, h2⟩ := h
  exact ⟨w0, h0, h1, h2.trans (hb.mono (Nat.le_trans h1 hB))⟩
theorem Desk.keepOwn {w w' : World} {b : Nat} {d : DeskD} {v : Value} {l : List Int} (h : Desk w b d) (hv : Own w 0 v l) (hg : w.grownBy w' (some b)) : Own w' 0 v l := by
  obtain ⟨p, e, t, h0, -⟩ := h
  exact hv.at h0 hg
theorem Desk.keepOwnS {w w' : World} {b : Nat} {d : DeskD} {v : Value} {l : List ByteArray} (h : Desk w b d) (hv : OwnS w 0 v l) (hg : w.grownBy w' (some b)) : OwnS w' 0 v l := by
  obtain ⟨p, e, t, h0, -⟩ := h
  exact hv.at h0 hg
/-- A desk with another polynomial, engine, table, layout. -/
theorem Desk.setPoly {w : World} {b : Nat} {d : DeskD} {v : Value} {l : List Int} (h : Desk w b d) (hv : Own w 0 v l) : Desk (w.setCell ⟨b, 0, none⟩ v) b { d with poly := l } := by
  obtain ⟨p, e, t, h0, h1, h2, h3⟩ := h
  have hg := grown_set w b 0 v
  exact ⟨v, e, t, h0.set_ 0 v, hv.at h0 hg, h2.at h0 hg, h3.at h0 hg⟩
theorem Desk.setEng {w : World} {b : Nat} {d : DeskD} {v : Value} {l : List ByteArray} (h : Desk w b d) (hv : OwnS w 0 v l) : Desk (w.setCell ⟨b, 1, none⟩ v) b { d with eng := l } := by
  obtain ⟨p, e, t, h0, h1, h2, h3⟩ := h
  have hg := grown_set w b 1 v
  exact ⟨p, v, t, h0.set_ 1 v, h1.at h0 hg, hv.at h0 hg, h3.at h0 hg⟩
theorem Desk.setTab {w : World} {b : Nat} {d : DeskD} {v : Value} {l : List Int} (h : Desk w b d) (hv : Own w 0 v l) : Desk (w.setCell ⟨b, 2, none⟩ v) b { d with tab := l } := by
  obtain ⟨p, e, t, h0, h1, h2, h3⟩ := h
  have hg := grown_set w b 2 v
  exact ⟨p, e, v, h0.set_ 2 v, h1.at h0 hg, h2.at h0 hg, hv.at h0 hg⟩
theorem Desk.setLay {w : World} {b : Nat} {d : DeskD} (r a i : Nat) (h : Desk w b d) : Desk (((w.setCell ⟨b, 3, none⟩ (.int .i64 r)).setCell ⟨b, 4, none⟩ (.int .i64 a)).setCell ⟨b, 5, none⟩ (.int .i64 i)) b { d with rw := r, ac := a, wi := i } := by
  obtain ⟨p, e, t, h0, h1, h2, h3⟩ := h
  have hg := grw_trans (grw_trans (grown_set w b 3 (.int .i64 r)) (grown_set _ b 4 (.int .i64 a))) (grown_set _ b 5 (.int .i64 i))
  exact ⟨p, e, t, ((h0.set_ 3 _).set_ 4 _).set_ 5 _, h1.at h0 hg, h2.at h0 hg, h3.at h0 hg⟩
/-- What a line does: its output, and the desk behind it. -/
def LineE (w : World) (b : Nat) (out : ByteArray) (d : DeskD) (e : Ending) (w' : World) : Prop := e = .returned (.string out) ∧ Desk w' b d ∧ w.grownBy w' (some b)
end Go.Proofs.YtpniljcnknknoaaGreatDoor

/-
  Scripts: the plain side of their lines.
-/
namespace Go.Proofs.YtpniljcnknknoaaGreatDoor
open Go.RowKit
set_option linter.unusedVariables false
set_option linter.unusedSimpArgs false
set_option maxRecDepth 100000

def nlS : ByteArray := ⟨#[10]⟩
/-- Lines, each with its end. -/
def linesS : List ByteArray → ByteArray
  | [] => ⟨#[]⟩
  | x :: r => x ++ nlS ++ linesS r
theorem joinS_cons (x y : ByteArray) (r : List ByteArray) (sep : ByteArray) : joinS (x :: y :: r) sep = x ++ sep ++ joinS (y :: r) sep := by
  unfold joinS
  rw [List.map_cons, List.map_cons, Lib.join_cons, Lib.join_cons]
  apply ByteArray.ext
  apply Array.toList_inj.1
  simp [Lib.joinTail]
theorem joinS_one (x sep : ByteArray) : joinS [x] sep = x := by
  unfold joinS
  rw [List.map_cons, List.map_nil, Lib.join_one]
theorem lines_join (l : List ByteArray) : linesS l = joinS (l ++ [⟨#[]⟩]) nlS := by
  induction l with
  | nil => exact (joinS_one _ _).symm
  | cons x r ih =>
    cases r with
    | nil =>
      show x ++ nlS ++ ⟨#[]⟩ = joinS (x :: ⟨#[]⟩ :: []) nlS
      rw [joinS_cons, joinS_one]
    | cons y q =>
      show x ++ nlS ++ linesS (y :: q) = joinS (x :: y :: (q ++ [⟨#[]⟩])) nlS
      rw [joinS_cons, ih]
      rfl
/-- The lines of a script, cut again. -/
theorem cut_lines {l : List ByteArray} (h : ∀ x ∈ l, (10 : UInt8) ∉ x.data.toList) : cutS 10 (linesS l) = l ++ [⟨#[]⟩] := by
  rw [lines_join]
  cases l with
  | nil =>
    have := cutS_join (c := 10) (⟨#[]⟩ : ByteArray) [] (fun p hp => by simp at hp; subst hp; simp)
    exact this
  | cons x r =>
    have := cutS_join (c := 10) x (r ++ [⟨#[]⟩]) (fun p hp => by
      rw [← List.cons_append] at hp
      rcases List.mem_append.1 hp with hp | hp
      · exact h p hp
      · simp at hp; subst hp; simp)
    exact this
theorem no_app {c : UInt8} {a b : ByteArray} (ha : c ∉ a.data.toList) (hb : c ∉ b.data.toList) : c ∉ (a ++ b).data.toList := by
  rw [ByteArray.data_append, Array.toList_append]
  intro h
  rcases List.mem_append.1 h with h | h
  · exact ha h
  · exact hb h
/-- A job's text has no line's end. -/
theorem fmt_line (j : JobD) : (10 : UInt8) ∉ (fmtJ j).data.toList := by
  unfold fmtJ
  split
  · have hp : (10 : UInt8) ∉ (polyS j.poly).data.toList := by
      unfold polyS
      split
      · exact numsS_no (by decide) (by decide) (by decide) _
      · simp
    have hn : ∀ l : List Int, (10 : UInt8) ∉ (numsS l).data.toList := fun l => numsS_no (by decide) (by decide) (by decide) l
    have hs : (10 : UInt8) ∉ semi.data.toList := by decide
    exact no_app (no_app (no_app (no_app (no_app (no_app hp hs) (hn _)) hs) (hn _)) hs) (hn _)
  · simp
end Go.Proofs.YtpniljcnknknoaaGreatDoor

/-
  Scripts, plainly: how long the text of a table is; the sums of a page.
-/
namespace Go.Proofs.YtpniljcnknknoaaGreatDoor
open Go.RowKit
set_option linter.unusedVariables false
set_option linter.unusedSimpArgs false
set_option maxRecDepth 100000

theorem col_top {L R r : Nat} : colN L R r ≤ (L + R - 1) / R := Nat.div_le_div_right (by omega)
theorem rows_top (L R : Nat) (hR : 0 < R) : (L + R - 1) / R * min R L ≤ 2 * L := by
  rcases Nat.lt_or_ge L R with h | h
  · have h1 : (L + R - 1) / R < 2 := by rw [Nat.div_lt_iff_lt_mul hR]; omega
    have h2 : (L + R - 1) / R * min R L ≤ 1 * L := Nat.mul_le_mul (by omega) (Nat.min_le_right _ _)
    omega
  · have h1 : (L + R - 1) / R * R ≤ L + R - 1 := Nat.div_mul_le_self _ _
    rw [Nat.min_eq_left h]
    omega
theorem row_top {W : Nat} {e : List Int} {R r : Nat} (h : rowF W e R r) : (rowS W e R r).size ≤ (1 + W) * ((e.length + R - 1) / R) := by
  have h1 := lineS_size h
  exact Nat.le_trans h1 (Nat.mul_le_mul (Nat.le_refl _) col_top)
theorem page_top {W : Nat} {e : List Int} {R : Nat} (a : ByteArray) (h : rowsF W e R (min R e.length)) (hR : 0 < R) (hW : W ≤ 12) : (putL a (rowsL W e R (min R e.length))).size ≤ a.size + 27 * e.length := by
  have h1 := putL_size (a := a) (ls := rowsL W e R (min R e.length)) (B := (1 + W) * ((e.length + R - 1) / R)) (fun s hs => by
    obtain ⟨i, hi, rfl⟩ := List.mem_map.1 hs
    exact row_top (h i (List.mem_range.1 hi)))
  rw [rowsL_len, Nat.add_mul, Nat.mul_assoc] at h1
  have h2 := rows_top e.length R hR
  have h3 : (1 + W) * ((e.length + R - 1) / R * min R e.length) ≤ 13 * (2 * e.length) := Nat.mul_le_mul (by omega) h2
  have h4 : min R e.length ≤ e.length := Nat.min_le_right _ _
  omega
theorem text_top {W : Nat} {l : List Int} {R M n : Nat} (h : pgsF W l R M n) (hR : 0 < R) (hW : W ≤ 12) : (textN W l R M n).size ≤ n + 27 * min (n * M) l.length := by
  induction n with
  | zero => exact Nat.zero_le _
  | succ k ih =>
    have h1 := ih (fun p hp => h p (by omega))
    have h2 := pgE_len l M k
    have h3 := page_top (e := pgE l M k) (if k = 0 then textN W l R M k else textN W l R M k ++ ⟨#[10]⟩) (h k (Nat.lt_succ_self k)) hR hW
    have h5 : (if k = 0 then textN W l R M k else textN W l R M k ++ ⟨#[10]⟩).size ≤ (textN W l R M k).size + 1 := by
      split
      · omega
      · rw [ByteArray.size_append]; exact Nat.le_refl _
    have h6 : textN W l R M (k + 1) = putL (if k = 0 then textN W l R M k else textN W l R M k ++ ⟨#[10]⟩) (pgL W l R M k) := rfl
    have h7 : pgL W l R M k = rowsL W (pgE l M k) R (min R (pgE l M k).length) := rfl
    rw [h6, h7, show (k + 1) * M = k * M + M from Nat.succ_mul k M]
    generalize k * M = q at *
    generalize (putL (if k = 0 then textN W l R M k else textN W l R M k ++ ⟨#[10]⟩) (rowsL W (pgE l M k) R (min R (pgE l M k).length))).size = z at *
    omega
theorem shS_top {W : Nat} {l : List Int} {R A : Nat} (h : shOk W l R A = true) (hR : 0 < R) (hA : 0 < A) (hW : W ≤ 12) (hl : l.length ≤ 60) : (shS W l R A).size ≤ 1680 := by
  have hM : 0 < R * A := Nat.mul_pos hR hA
  have h1 := text_top (of_decide_eq_true h) hR hW
  have h2 := pgN_le (l := l) hM
  have h3 : min (pgN l (R * A) * (R * A)) l.length ≤ l.length := Nat.min_le_right _ _
  unfold shS
  omega

/-- The sum of column c over the first k entries of a page. -/
def psAt (e : List Int) (R c : Nat) : Nat → Int
  | 0 => 0
  | k + 1 => psAt e R c k + if k / R = c then at_ e k else 0
theorem psAt_succ (e : List Int) (R c k : Nat) : psAt e R c (k + 1) = psAt e R c k + if k / R = c then at_ e k else 0 := rfl
theorem psAt_bd {e : List Int} {R c : Nat} (h : ∀ j, j < e.length → -1000000000 ≤ at_ e j ∧ at_ e j ≤ 1000000000) : ∀ k, k ≤ e.length → -1000000000 * (k : Int) ≤ psAt e R c k ∧ psAt e R c k ≤ 1000000000 * (k : Int)
  | 0, _ => by simp [psAt]
  | k + 1, hk => by
    have ih := psAt_bd (R := R) (c := c) h k (by omega)
    have h1 := h k (by omega)
    rw [psAt_succ]
    split <;> omega
/-- The sums of the columns of a page. -/
def psL (e : List Int) (R A k : Nat) : List Int := gen (fun c => psAt e R c k) A
theorem psL_len (e : List Int) (R A k : Nat) : (psL e R A k).length = A := gen_length _ _
theorem psL_zero (e : List Int) (R A : Nat) : psL e R A 0 = (List.range A).map fun _ => 0 := rfl
theorem psL_at {e : List Int} {R A k c : Nat} (h : c < A) : at_ (psL e R A k) c = psAt e R c k := at_gen h
theorem psL_succ {e : List Int} {R A k : Nat} (h : k / R < A) : psL e R A (k + 1) = (psL e R A k).set (k / R) (psAt e R (k / R) k + at_ e k) := by
  apply list_ext
  · rw [psL_len, List.length_set, psL_len]
  · intro j hj
    rw [psL_len] at hj
    rw [psL_at hj, at_set j (by rw [psL_len]; exact h), psAt_succ]
    by_cases e1 : j = k / R
    · rw [if_pos e1, if_pos e1.symm, e1]
    · rw [if_neg e1, if_neg (fun h => e1 h.symm), psL_at hj]
      omega
theorem psL_bd {e : List Int} {R A k : Nat} (h : ∀ j, j < e.length → -1000000000 ≤ at_ e j ∧ at_ e j ≤ 1000000000) (hk : k ≤ e.length) (hl : e.length ≤ 60) : ∀ n ∈ psL e R A k, -100000000000 < n ∧ n < 100000000000 := by
  intro n hn
  simp [psL, gen] at hn
  obtain ⟨c, hc, rfl⟩ := hn
  have := psAt_bd (R := R) (c := c) h k hk
  omega
theorem pgE_in {l : List Int} (h : tableOk l = true) (M p : Nat) : ∀ j, j < (pgE l M p).length → -1000000000 ≤ at_ (pgE l M p) j ∧ at_ (pgE l M p) j ≤ 1000000000 := by
  intro j hj
  rw [pgE_len] at hj
  rw [pgE_at l (by omega)]
  exact (tableOk_true h).2.2 _ (by omega)
/-- What PageSums returns. -/
def sumsL (R A : Nat) (l : List Int) (p : Nat) : List Int := psL (pgE l (R * A) p) R A (pgE l (R * A) p).length
end Go.Proofs.YtpniljcnknknoaaGreatDoor

/-
  The lines of a script, one by one: what the desk does.
-/
namespace Go.Proofs.YtpniljcnknknoaaGreatDoor
open Go.RowKit
set_option linter.unusedVariables false
set_option linter.unusedSimpArgs false
set_option maxRecDepth 100000
attribute [local go_sem ↓] Go.wp_at_zero Go.wp_at_succ

def noS : ByteArray := ⟨#[110, 111, 10]⟩
def okS : ByteArray := ⟨#[111, 107, 10]⟩
def whatS : ByteArray := ⟨#[119, 104, 97, 116, 10]⟩
/-- A text as an output, or no. -/
def showS (s : ByteArray) (k : Bool) : ByteArray := if k = true then s ++ nlS else noS
set_option maxHeartbeats 1000000 in
theorem showT_any (s : ByteArray) (k : Bool) (w : World) (hs : s.size ≤ 1000000000) :
    Calls Tryz.prog 187 #[.string s, .bool k] w fun e w' => e = .returned (.string (showS s k)) ∧ w' = w := by
  have hcat : ¬ 9223372036854775807 < s.size + 1 := by omega
  cases k
  · go_enter Tryz.func187, Tryz.ntmps187
    go_wp2
    go_ret
    exact ⟨rfl, rfl⟩
  · go_enter Tryz.func187, Tryz.ntmps187
    go_wp2
    go_ret
    exact ⟨rfl, rfl⟩
theorem Blk.desk {w : World} {g : Nat} {p e t : Value} {r a i : Int} (h : Blk w g 79 (deskC p e t r a i)) :
    w.cell? ⟨g, 0, none⟩ = some p ∧ w.cell? ⟨g, 1, none⟩ = some e ∧ w.cell? ⟨g, 2, none⟩ = some t ∧ w.cell? ⟨g, 3, none⟩ = some (.int .i64 r) ∧ w.cell? ⟨g, 4, none⟩ = some (.int .i64 a) ∧ w.cell? ⟨g, 5, none⟩ = some (.int .i64 i) := by
  refine ⟨?_, ?_, ?_, ?_, ?_, ?_⟩ <;> rw [h.cell] <;> rfl
theorem Blk.deskF {w : World} {g : Nat} {p e t : Value} {r a i : Int} (h : Blk w g 79 (deskC p e t r a i)) :
    w.frozen? ⟨g, 0, none⟩ = false ∧ w.frozen? ⟨g, 1, none⟩ = false ∧ w.frozen? ⟨g, 2, none⟩ = false ∧ w.frozen? ⟨g, 3, none⟩ = false ∧ w.frozen? ⟨g, 4, none⟩ = false ∧ w.frozen? ⟨g, 5, none⟩ = false :=
  ⟨h.frozen 0, h.frozen 1, h.frozen 2, h.frozen 3, h.frozen 4, h.frozen 5⟩
theorem Blk.desk4 {w : World} {g : Nat} {p e t : Value} {r a i : Int} (h : Blk w g 79 (deskC p e t r a i)) :
    w.cell? ⟨g, 2, none⟩ = some t ∧ w.cell? ⟨g, 3, none⟩ = some (.int .i64 r) ∧ w.cell? ⟨g, 4, none⟩ = some (.int .i64 a) ∧ w.cell? ⟨g, 5, none⟩ = some (.int .i64 i) := h.desk.2.2
theorem bel_drew (w : World) : Below w.heap.size w w.drew := (Below.refl _ _).drew
/-- The line print. -/
def printOk (d : DeskD) : Bool := tableOk d.tab && shOk d.wi d.tab d.rw d.ac
def printS (d : DeskD) : ByteArray := if printOk d = true then shS d.wi d.tab d.rw d.ac else noS
set_option maxHeartbeats 2000000 in
theorem print_any (b : Nat) (d : DeskD) (w : World) (hd : Desk w b d) (ok : d.Ok) (hg : GlbB b w) :
    Calls Tryz.prog 194 #[.pointer (some ⟨b, 0, none⟩)] w fun e w' => LineE w b (printS d) d e w' := by
  have HD := Lib.hid hd
  have HG := Lib.hid hg
  have htl := ok.tab
  obtain ⟨h1, h2, h3⟩ := And.intro ok.rw (And.intro ok.ac ok.wi)
  obtain ⟨p, en, t, k0, -, -, k3⟩ := hd
  have HT := Lib.hid k3.ints
  obtain ⟨A, c, rfl, -, -, -⟩ := k3.ints.open_
  obtain ⟨c0, c1, c2, c3, c4, c5⟩ := k0.desk
  have HK := Lib.hid k0
  clear k0 k3 hg ok
  have hval : ∀ e, TxtE (shS d.wi d.tab d.rw d.ac) (tableOk d.tab = true ∧ shOk d.wi d.tab d.rw d.ac = true) e → e = .returned (.tuple #[.string (if printOk d = true then shS d.wi d.tab d.rw d.ac else ⟨#[]⟩), .bool (printOk d)]) := by
    intro e he
    rcases he with ⟨hP, rfl⟩ | ⟨hP, rfl⟩
    · have : printOk d = true := by unfold printOk; rw [hP.1, hP.2]; rfl
      rw [this]; rfl
    · have : printOk d = false := by
        rw [Bool.eq_false_iff]
        intro h
        unfold printOk at h
        exact hP (by simpa using h)
      rw [this]; rfl
  replace hval := Lib.hid hval
  have HS := Lib.hid (show printS d = if printOk d = true then shS d.wi d.tab d.rw d.ac else noS from rfl)
  rw [HS.out]
  clear HS
  generalize printOk d = kk at hval ⊢
  have tok1 : True := trivial
  go_enter Tryz.func194, Tryz.ntmps194
  go_wp2_with fail
  go_region_held3 (fun w' => w'.cell? ⟨b, 2, none⟩ = some (.slice A d.tab.length c) ∧ w'.cell? ⟨b, 3, none⟩ = some (.int .i64 d.rw) ∧ w'.cell? ⟨b, 4, none⟩ = some (.int .i64 d.ac) ∧ w'.cell? ⟨b, 5, none⟩ = some (.int .i64 d.wi)) (first | exact HK.out.desk4 | exact HK3.out.desk4 | go_keep) (first
    | ((try go_simp); go_at_call 19; have _t := tok1; go_loud (refine (implPT_any d.rw d.ac d.wi (d.rw * d.ac) _ d.tab _ (by first | exact HT.out | exact HT.out.bel (bel_drew _)) h1 h2 h3 htl rfl (by first | exact HG.out.glb.1 | exact (HG.out.bel (bel_drew _)).glb.1)).mono ?_; rintro e w3 ⟨T, b3⟩; obtain rfl := hval.out e T; clear T; replace b3 : Below w.heap.size w w3 := (by first | exact b3 | exact bel_trans (bel_drew _) b3); have HB := Lib.hid b3; have HK3 := Lib.hid (HK.out.below b3 HK.out.lt); clear tok1 b3; (try dsimp only)))
    | fail)
  clear c0 c1 c2 c3 c4 c5
  cases kk
  · go_wp2
    go_ret
    exact ⟨rfl, HD.out.bel HB.out, grw_bel _ HB.out⟩
  · go_wp2
    go_ret
    exact ⟨rfl, HD.out.bel HB.out, grw_bel _ HB.out⟩
def setTabD (d : DeskD) (l : List Int) (k : Bool) : DeskD := if (k && tableOk l) = true then { d with tab := l } else d
set_option maxHeartbeats 2000000 in
theorem setTab_any (b : Nat) (d : DeskD) (v : Value) (l : List Int) (k : Bool) (w : World) (hd : Desk w b d) (hv : Own w 0 v l) (hl : l.length ≤ 1048576) (hg : GlbB b w) :
    Calls Tryz.prog 196 #[.pointer (some ⟨b, 0, none⟩), v, .bool k] w fun e w' => LineE w b (showS (numsS l) (k && tableOk l)) (setTabD d l k) e w' := by
  have HD := Lib.hid hd
  have HG := Lib.hid hg
  have HV := Lib.hid hv
  have hns := numsS_size hv.ints.2
  obtain ⟨A, c, rfl, -, -, -⟩ := hv.ints.open_
  obtain ⟨p, en, t, k0, -, -, -⟩ := hd
  obtain ⟨f0, f1, f2, f3, f4, f5⟩ := k0.deskF
  obtain ⟨c0, c1, c2, c3, c4, c5⟩ := k0.desk
  clear k0 hg hv
  obtain ⟨kk, hkk⟩ : ∃ kk, (k && tableOk l) = kk := ⟨_, rfl⟩
  have HK := Lib.hid hkk
  have HS := Lib.hid (show setTabD d l k = if kk = true then { d with tab := l } else d by unfold setTabD; rw [hkk])
  rw [hkk, HS.out]
  clear hkk
  have tail : ∀ (w2 : World) (q : Bool), Desk w2 b (if q = true then { d with tab := l } else d) → w.grownBy w2 (some b) → Own w2 0 (.slice A l.length c) l → True := fun _ _ _ _ _ => trivial
  cases k
  · obtain rfl : kk = false := HK.out.symm
    go_enter Tryz.func196, Tryz.ntmps196
    go_wp2_with fail
    refine (joinNumbers_any _ l _ HV.out.ints hl HG.out.glb.1).mono ?_
    rintro e w3 ⟨rfl, b3⟩
    have HB := Lib.hid b3
    clear b3 c0 c1 c2 c3 c4 c5 f0 f1 f2 f3 f4 f5
    go_wp2_with fail
    refine (showT_any _ _ _ (by omega)).mono ?_
    rintro e w4 ⟨rfl, rfl⟩
    go_wp2
    go_ret
    exact ⟨rfl, HD.out.bel HB.out, grw_bel _ HB.out⟩
  · obtain rfl : tableOk l = kk := by have := HK.out; rwa [Bool.true_and] at this
    cases hq : tableOk l
    · go_enter Tryz.func196, Tryz.ntmps196
      go_wp2_with fail
      refine (implTable_any _ l _ HV.out.ints).mono ?_
      rw [hq]
      rintro e w2 ⟨rfl, rfl⟩
      go_wp2_with fail
      refine (joinNumbers_any _ l _ HV.out.ints hl HG.out.glb.1).mono ?_
      rintro e w3 ⟨rfl, b3⟩
      have HB := Lib.hid b3
      clear b3 c0 c1 c2 c3 c4 c5 f0 f1 f2 f3 f4 f5
      go_wp2_with fail
      refine (showT_any _ _ _ (by omega)).mono ?_
      rintro e w4 ⟨rfl, rfl⟩
      go_wp2
      go_ret
      exact ⟨rfl, HD.out.bel HB.out, grw_bel _ HB.out⟩
    · go_enter Tryz.func196, Tryz.ntmps196
      go_wp2_with fail
      refine (implTable_any _ l _ HV.out.ints).mono ?_
      rw [hq]
      rintro e w2 ⟨rfl, rfl⟩
      have D2 := Lib.hid (HD.out.setTab HV.out)
      have G2 := Lib.hid (grown_set w b 2 (.slice A l.length c))
      have HV2 := Lib.hid (show Own (w.setCell ⟨b, 2, none⟩ (.slice A l.length c)) 0 (.slice A l.length c) l from by
        obtain ⟨p', e', t', h0, -⟩ := HD.out
        exact HV.out.at h0 G2.out)
      have HG2 := Lib.hid (HG.out.grown G2.out)
      go_wp2_with fail
      generalize hW : w.setCell ⟨b, 2, none⟩ (.slice A l.length c) = w3 at D2 G2 HV2 HG2 ⊢
      clear hW c0 c1 c2 c3 c4 c5 f0 f1 f2 f3 f4 f5
      refine (joinNumbers_any _ l _ HV2.out.ints hl HG2.out.glb.1).mono ?_
      rintro e w4 ⟨rfl, b3⟩
      have HB := Lib.hid b3
      clear b3
      go_wp2_with fail
      refine (showT_any _ _ _ (by omega)).mono ?_
      rintro e w5 ⟨rfl, rfl⟩
      go_wp2
      go_ret
      exact ⟨rfl, D2.out.bel HB.out, grw_trans G2.out (grw_bel _ HB.out)⟩
end Go.Proofs.YtpniljcnknknoaaGreatDoor

/-
  The lines of a script: layout, polynomial, job.
-/
namespace Go.Proofs.YtpniljcnknknoaaGreatDoor
open Go.RowKit
set_option linter.unusedVariables false
set_option linter.unusedSimpArgs false
set_option maxRecDepth 100000
attribute [local go_sem ↓] Go.wp_at_zero Go.wp_at_succ

def setLayD (d : DeskD) (r a i : Int) : DeskD := if layOk r a i = true then { d with rw := r.toNat, ac := a.toNat, wi := i.toNat } else d
def layS (r a i : Int) : ByteArray := if layOk r a i = true then okS else noS
theorem lay_nat {r a i : Int} (h : layOk r a i = true) : ∃ R A W : Nat, r = R ∧ a = A ∧ i = W ∧ (1 ≤ R ∧ R ≤ 20) ∧ (1 ≤ A ∧ A ≤ 6) ∧ (1 ≤ W ∧ W ≤ 12) := by
  simp [layOk, inB] at h
  exact ⟨r.toNat, a.toNat, i.toNat, by omega, by omega, by omega, by omega, by omega, by omega⟩
set_option maxHeartbeats 2000000 in
theorem setLay_any (b : Nat) (d : DeskD) (r a i : Int) (w : World) (hd : Desk w b d) :
    Calls Tryz.prog 199 #[.pointer (some ⟨b, 0, none⟩), .agg #[.int .i64 r, .int .i64 a, .int .i64 i]] w fun e w' => LineE w b (layS r a i) (setLayD d r a i) e w' := by
  have K1 := Blk.new w 25 [.int .i64 r, .int .i64 a, .int .i64 i]
  have B1 := bel_alloc w (.cells #[.int .i64 r, .int .i64 a, .int .i64 i] 25)
  have HD := Lib.hid (hd.bel B1)
  have hdl := hd.lt
  obtain ⟨a0, a1, a2⟩ := K1.lay
  clear hd
  go_enter Tryz.func199, Tryz.ntmps199
  go_wp2_with fail
  refine (implLay_any r a i _).mono ?_
  rintro e w2 ⟨rfl, b2⟩
  replace K1 := K1.below b2 K1.lt
  replace HD := Lib.hid (HD.out.bel b2)
  have HB := Lib.hid (bel_trans B1 b2)
  clear a0 a1 a2 b2 B1
  obtain ⟨a0, a1, a2⟩ := K1.lay
  clear K1
  cases hq : layOk r a i
  · have HS := Lib.hid (show setLayD d r a i = d by unfold setLayD; rw [hq]; rfl)
    have HO := Lib.hid (show layS r a i = noS by unfold layS; rw [hq]; rfl)
    clear hq
    go_wp2
    go_ret
    exact ⟨by rw [HO.out]; rfl, by rw [HS.out]; exact HD.out, grw_bel _ HB.out⟩
  · obtain ⟨R, A, W, rfl, rfl, rfl, h1, h2, h3⟩ := lay_nat hq
    have HS := Lib.hid (show setLayD d R A W = { d with rw := R, ac := A, wi := W } by unfold setLayD; rw [hq]; rfl)
    have HO := Lib.hid (show layS R A W = okS by unfold layS; rw [hq]; rfl)
    obtain ⟨p, en, t, k0, -, -, -⟩ := HD.out
    obtain ⟨f0, f1, f2, f3, f4, f5⟩ := k0.deskF
    obtain ⟨c0, c1, c2, c3, c4, c5⟩ := k0.desk
    clear hq k0
    go_wp2
    go_ret
    exact ⟨by rw [HO.out]; rfl, by rw [HS.out]; exact HD.out.setLay R A W, grw_trans (grw_bel _ HB.out) (grw_trans (grw_trans (grown_set _ b 3 _) (grown_set _ b 4 _)) (grown_set _ b 5 _))⟩
def jobDesk (d : DeskD) (J : JobD) : DeskD := { poly := J.poly, eng := d.eng, tab := jtL J, rw := J.rw.toNat, ac := J.ac.toNat, wi := J.wi.toNat }
noncomputable def jobLn (t : ByteArray) : Bool := (spR t).2 && jtOk (spR t).1
/-- The line job. -/
noncomputable def jobOut (d : DeskD) (t : ByteArray) : ByteArray := if jobLn t = true then printS (jobDesk d (spR t).1) else noS
noncomputable def jobD2 (d : DeskD) (t : ByteArray) : DeskD := if jobLn t = true then jobDesk d (spR t).1 else d
theorem job_no {t : ByteArray} (d : DeskD) (h : jobLn t = false) : jobOut d t = noS ∧ jobD2 d t = d := by simp [jobOut, jobD2, h]
theorem job_yes {t : ByteArray} (d : DeskD) (h : jobLn t = true) : jobOut d t = printS (jobDesk d (spR t).1) ∧ jobD2 d t = jobDesk d (spR t).1 := by simp [jobOut, jobD2, h]
theorem jobDesk_ok {d : DeskD} {J : JobD} (h : d.Ok) (hj : jtOk J = true) : (jobDesk d J).Ok := by
  obtain ⟨R, A, W, e1, e2, e3, h1, h2, h3⟩ := jt_lay hj
  have hq : jobOk J = true := by
    cases hq : jobOk J
    · rw [(jt_no hq).1] at hj; exact hj
    · rfl
  exact ⟨job_poly hq, h.eng, jtL_len J, by unfold jobDesk; rw [e1]; exact h1, by unfold jobDesk; rw [e2]; exact h2, by unfold jobDesk; rw [e3]; exact h3⟩
set_option maxHeartbeats 4000000 in
theorem jobLine_any (b : Nat) (d : DeskD) (t : ByteArray) (w : World) (ht : t.size ≤ 1048576) (hd : Desk w b d) (ok : d.Ok) (hg : GlbB b w) :
    Calls Tryz.prog 206 #[.pointer (some ⟨b, 0, none⟩), .string t] w fun e w' => LineE w b (jobOut d t) (jobD2 d t) e w' := by
  have HD := Lib.hid hd
  have HG := Lib.hid hg
  have hdl := hd.lt
  have HOK := Lib.hid ok
  clear hd hg ok
  obtain ⟨J, T, hR⟩ : ∃ J T, spR t = (J, T) := ⟨_, _, rfl⟩
  have HR := Lib.hid hR
  clear hR
  go_enter Tryz.func206, Tryz.ntmps206
  go_wp2_with fail
  refine (implPJ_any t _ ht HG.out.glb).mono ?_
  rintro e w2 ⟨⟨v, he, o, jin⟩, b2⟩
  rw [HR.out] at he o jin
  subst he
  obtain ⟨A, c, rfl, -, -, -⟩ := o.ints.open_
  have bA : Below w2.heap.size w2 (w2.alloc (.cells (jobC (.slice A J.poly.length c) J).toArray 27)) := bel_alloc w2 _
  have K2 := Blk.new w2 27 (jobC (.slice A J.poly.length c) J)
  have HB := Lib.hid (bel_trans b2 bA)
  have HO := Lib.hid (show Own (w2.alloc (.cells (jobC (.slice A J.poly.length c) J).toArray 27)) w.heap.size (.slice A J.poly.length c) J.poly from o.bel bA)
  have HJ := Lib.hid (show J.In from jin)
  obtain ⟨a0, a1, a2, a3, a4, a5, a6, a7, a8⟩ := K2.job
  have hne : b < w2.heap.size := Nat.lt_of_lt_of_le hdl b2.size
  have hne1 : ¬ w2.heap.size = b := by omega
  have hne2 : ¬ b = w2.heap.size := by omega
  clear b2 bA o jin
  unfold jobV
  cases T
  · have HN := Lib.hid (job_no d (show jobLn t = false by unfold jobLn; rw [HR.out]; rfl))
    clear K2
    go_wp2
    go_ret
    exact ⟨by rw [HN.out.1]; rfl, by rw [HN.out.2]; exact HD.out.bel HB.out, grw_bel _ HB.out⟩
  · go_wp2_with fail
    clear a0 a1 a2 a3 a4 a5 a6 a7 a8
    change Calls _ _ #[jobV (.slice A J.poly.length c) J] (w2.alloc (.cells (jobC (.slice A J.poly.length c) J).toArray 27)) _
    generalize hW : w2.alloc (.cells (jobC (.slice A J.poly.length c) J).toArray 27) = w3 at K2 HB HO ⊢
    clear hW
    refine (implJT_any _ J _ HO.out.ints HJ.out).mono ?_
    rintro e w4 ⟨r, rfl, o1, b1⟩
    replace HB := Lib.hid (bel_trans HB.out b1)
    replace K2 := K2.below b1 K2.lt
    replace HO := Lib.hid (HO.out.bel b1)
    have HL := Lib.hid o1
    obtain ⟨A2, k2, rfl, -, -, -⟩ := o1.ints.open_
    obtain ⟨a0, a1, a2, a3, a4, a5, a6, a7, a8⟩ := K2.job
    clear b1 o1
    cases hq : jtOk J
    · have HN := Lib.hid (job_no d (show jobLn t = false by unfold jobLn; rw [HR.out, hq]; rfl))
      clear K2 hq
      go_wp2
      go_ret
      exact ⟨by rw [HN.out.1]; rfl, by rw [HN.out.2]; exact HD.out.bel HB.out, grw_bel _ HB.out⟩
    · have HN := Lib.hid (job_yes d (show jobLn t = true by unfold jobLn; rw [HR.out, hq]; rfl))
      have HQ := Lib.hid hq
      obtain ⟨R, Ac, W0, e1, e2, e3, h1, h2, h3⟩ := jt_lay hq
      have HE := Lib.hid (And.intro e1 (And.intro e2 e3))
      have HD4 := Lib.hid (HD.out.bel HB.out)
      obtain ⟨p, en, u, k0, -, -, -⟩ := HD4.out
      obtain ⟨f0, f1, f2, f3, f4, f5⟩ := k0.deskF
      obtain ⟨c0, c1, c2, c3, c4, c5⟩ := k0.desk
      clear hq k0
      clear e1 e2 e3
      have G2 : w4.grownBy ((((w4.setCell ⟨b, 0, none⟩ (.slice A J.poly.length c)).setCell ⟨b, 3, none⟩ (.int .i64 J.rw)).setCell ⟨b, 4, none⟩ (.int .i64 J.ac)).setCell ⟨b, 5, none⟩ (.int .i64 J.wi)) (some b) := grw_trans (grw_trans (grw_trans (grown_set _ b 0 _) (grown_set _ b 3 _)) (grown_set _ b 4 _)) (grown_set _ b 5 _)
      have G3 := Lib.hid (show w4.grownBy (((((w4.setCell ⟨b, 0, none⟩ (.slice A J.poly.length c)).setCell ⟨b, 3, none⟩ (.int .i64 J.rw)).setCell ⟨b, 4, none⟩ (.int .i64 J.ac)).setCell ⟨b, 5, none⟩ (.int .i64 J.wi)).setCell ⟨b, 2, none⟩ (.slice A2 (jtL J).length k2)) (some b) from grw_trans G2 (grown_set _ b 2 _))
      have D3 := Lib.hid (show Desk (((((w4.setCell ⟨b, 0, none⟩ (.slice A J.poly.length c)).setCell ⟨b, 3, none⟩ (.int .i64 J.rw)).setCell ⟨b, 4, none⟩ (.int .i64 J.ac)).setCell ⟨b, 5, none⟩ (.int .i64 J.wi)).setCell ⟨b, 2, none⟩ (.slice A2 (jtL J).length k2)) b (jobDesk d J) from by
        have e1 : ((J.rw.toNat : Nat) : Int) = J.rw := by rw [HE.out.1]; rfl
        have e2 : ((J.ac.toNat : Nat) : Int) = J.ac := by rw [HE.out.2.1]; rfl
        have e3 : ((J.wi.toNat : Nat) : Int) = J.wi := by rw [HE.out.2.2]; rfl
        have h := (HD4.out.setPoly HO.out.low).setLay J.rw.toNat J.ac.toNat J.wi.toNat
        rw [e1, e2, e3] at h
        exact h.setTab (HD4.out.keepOwn HL.out.low G2))
      have HG3 := Lib.hid ((HG.out.bel HB.out).grown G3.out)
      clear G2
      go_wp2_with fail
      generalize hW5 : (((((w4.setCell ⟨b, 0, none⟩ (.slice A J.poly.length c)).setCell ⟨b, 3, none⟩ (.int .i64 J.rw)).setCell ⟨b, 4, none⟩ (.int .i64 J.ac)).setCell ⟨b, 5, none⟩ (.int .i64 J.wi)).setCell ⟨b, 2, none⟩ (.slice A2 (jtL J).length k2)) = w5 at D3 G3 HG3 ⊢
      clear hW5 a0 a1 a2 a3 a4 a5 a6 a7 a8 f0 f1 f2 f3 f4 f5 c0 c1 c2 c3 c4 c5
      refine (print_any b (jobDesk d J) _ D3.out (jobDesk_ok HOK.out HQ.out) HG3.out).mono ?_
      rintro e w6 ⟨rfl, d6, g6⟩
      have HF := Lib.hid (And.intro d6 g6)
      clear d6 g6
      go_wp2
      go_ret
      exact ⟨by rw [HN.out.1, HR.out]; rfl, by rw [HN.out.2, HR.out]; exact HF.out.1, grw_trans (grw_bel _ HB.out) (grw_trans G3.out HF.out.2)⟩
end Go.Proofs.YtpniljcnknknoaaGreatDoor

/-
  PrintTable at whatever layout and list (both).
-/
namespace Go.Proofs.YtpniljcnknknoaaGreatDoor
open Go.RowKit
set_option linter.unusedVariables false
set_option linter.unusedSimpArgs false
set_option maxRecDepth 100000
attribute [local go_sem ↓] Go.wp_at_zero Go.wp_at_succ

def ptOk (r a i : Int) (l : List Int) : Bool := layOk r a i && tableOk l && shOk i.toNat l r.toNat a.toNat
def ptS (r a i : Int) (l : List Int) : ByteArray := shS i.toNat l r.toNat a.toNat

set_option maxHeartbeats 2000000 in
theorem implPTg_any (r a i : Int) (v : Value) (l : List Int) (w : World) (hv : Ints w v l) (hT : Tab w) :
    Calls Tryz.prog 19 #[.agg #[.int .i64 r, .int .i64 a, .int .i64 i], v] w fun e w' => TxtE (ptS r a i l) (ptOk r a i l = true) e ∧ Below w.heap.size w w' := by
  cases hq : layOk r a i
  · have HN := Lib.hid (show ¬ ptOk r a i l = true by unfold ptOk; rw [hq]; simp)
    obtain ⟨B, cp, rfl, -, -, -⟩ := hv.open_
    have K1 := Blk.new w 25 [.int .i64 r, .int .i64 a, .int .i64 i]
    have B1 := bel_alloc w (.cells #[.int .i64 r, .int .i64 a, .int .i64 i] 25)
    obtain ⟨a0, a1, a2⟩ := K1.lay
    clear hv
    go_enter Tryz.func19, Tryz.ntmps19
    go_wp2_with fail
    refine (implLay_any r a i _).mono ?_
    rintro e w2 ⟨rfl, b2⟩
    have HB := Lib.hid (bel_trans B1 b2)
    rw [hq]
    clear hq a0 a1 a2 b2 B1 K1
    go_wp2
    go_ret2
    exact ⟨.inr ⟨HN.out, rfl⟩, HB.out⟩
  · obtain ⟨R, A, W, rfl, rfl, rfl, h1, h2, h3⟩ := lay_nat hq
    cases ht : tableOk l
    · have HN := Lib.hid (show ¬ ptOk R A W l = true by unfold ptOk; rw [ht]; simp)
      have HV := Lib.hid hv
      obtain ⟨B, cp, rfl, -, -, -⟩ := hv.open_
      have K1 := Blk.new w 25 [.int .i64 R, .int .i64 A, .int .i64 W]
      have B1 := bel_alloc w (.cells #[.int .i64 R, .int .i64 A, .int .i64 W] 25)
      obtain ⟨a0, a1, a2⟩ := K1.lay
      clear hv
      go_enter Tryz.func19, Tryz.ntmps19
      go_wp2_with fail
      refine (implLay_any R A W _).mono ?_
      rintro e w2 ⟨rfl, b2⟩
      have HB := Lib.hid (bel_trans B1 b2)
      rw [hq]
      clear hq a0 a1 a2 b2 B1 K1
      go_wp2_with fail
      refine (implTable_any _ l _ (HV.out.bel HB.out)).mono ?_
      rw [ht]
      rintro e w3 ⟨rfl, rfl⟩
      go_wp2
      go_ret2
      exact ⟨.inr ⟨HN.out, rfl⟩, HB.out⟩
    · refine (implPT_any R A W (R * A) v l w hv h1 h2 h3 (tableOk_true ht).2.1 rfl hT).mono fun e w' ⟨T, b⟩ => ⟨?_, b⟩
      have hS : ptS R A W l = shS W l R A := rfl
      have hO : ptOk R A W l = true ↔ tableOk l = true ∧ shOk W l R A = true := by
        unfold ptOk
        rw [hq]
        simp
      rcases T with ⟨hP, rfl⟩ | ⟨hP, rfl⟩
      · exact .inl ⟨hO.2 hP, by rw [hS]⟩
      · exact .inr ⟨fun h => hP (hO.1 h), rfl⟩

set_option maxHeartbeats 2000000 in
theorem specPTg_any (r a i : Int) (v : Value) (l : List Int) (w : World) (hv : Ints w v l) :
    Calls Tryz.prog 20 #[.agg #[.int .i64 r, .int .i64 a, .int .i64 i], v] w fun e w' => TxtE (ptS r a i l) (ptOk r a i l = true) e ∧ Below w.heap.size w w' := by
  cases hq : layOk r a i
  · have HN := Lib.hid (show ¬ ptOk r a i l = true by unfold ptOk; rw [hq]; simp)
    obtain ⟨B, cp, rfl, -, -, -⟩ := hv.open_
    have K1 := Blk.new w 25 [.int .i64 r, .int .i64 a, .int .i64 i]
    have B1 := bel_alloc w (.cells #[.int .i64 r, .int .i64 a, .int .i64 i] 25)
    obtain ⟨a0, a1, a2⟩ := K1.lay
    clear hv
    go_enter Tryz.func20, Tryz.ntmps20
    go_wp2_with fail
    refine (specLay_any r a i _).mono ?_
    rintro e w2 ⟨rfl, b2⟩
    have HB := Lib.hid (bel_trans B1 b2)
    rw [hq]
    clear hq a0 a1 a2 b2 B1 K1
    go_wp2
    go_ret2
    exact ⟨.inr ⟨HN.out, rfl⟩, HB.out⟩
  · obtain ⟨R, A, W, rfl, rfl, rfl, h1, h2, h3⟩ := lay_nat hq
    cases ht : tableOk l
    · have HN := Lib.hid (show ¬ ptOk R A W l = true by unfold ptOk; rw [ht]; simp)
      have HV := Lib.hid hv
      obtain ⟨B, cp, rfl, -, -, -⟩ := hv.open_
      have K1 := Blk.new w 25 [.int .i64 R, .int .i64 A, .int .i64 W]
      have B1 := bel_alloc w (.cells #[.int .i64 R, .int .i64 A, .int .i64 W] 25)
      obtain ⟨a0, a1, a2⟩ := K1.lay
      clear hv
      go_enter Tryz.func20, Tryz.ntmps20
      go_wp2_with fail
      refine (specLay_any R A W _).mono ?_
      rintro e w2 ⟨rfl, b2⟩
      have HB := Lib.hid (bel_trans B1 b2)
      rw [hq]
      clear hq a0 a1 a2 b2 B1 K1
      go_wp2_with fail
      refine (specTable_any _ l _ (HV.out.bel HB.out)).mono ?_
      rw [ht]
      rintro e w3 ⟨rfl, rfl⟩
      go_wp2
      go_ret2
      exact ⟨.inr ⟨HN.out, rfl⟩, HB.out⟩
    · refine (specPT_any R A W (R * A) v l w hv h1 h2 h3 (tableOk_true ht).2.1 rfl).mono fun e w' ⟨T, b⟩ => ⟨?_, b⟩
      have hS : ptS R A W l = shS W l R A := rfl
      have hO : ptOk R A W l = true ↔ tableOk l = true ∧ shOk W l R A = true := by
        unfold ptOk
        rw [hq]
        simp
      rcases T with ⟨hP, rfl⟩ | ⟨hP, rfl⟩
      · exact .inl ⟨hO.2 hP, by rw [hS]⟩
      · exact .inr ⟨fun h => hP (hO.1 h), rfl⟩

set_option maxHeartbeats 2000000 in
theorem specPNg_any (r a i : Int) (n : Nat) (w : World) (hn : n ≤ 60) :
    Calls Tryz.prog 69 #[.agg #[.int .i64 r, .int .i64 a, .int .i64 i], .int .i64 n] w fun e w' => ∃ m : Int, e = .returned (.int .i64 m) ∧ m ≤ 60 ∧ -1 ≤ m ∧ Below w.heap.size w w' := by
  cases hq : layOk r a i
  · have K1 := Blk.new w 25 [.int .i64 r, .int .i64 a, .int .i64 i]
    have B1 := bel_alloc w (.cells #[.int .i64 r, .int .i64 a, .int .i64 i] 25)
    obtain ⟨a0, a1, a2⟩ := K1.lay
    go_enter Tryz.func69, Tryz.ntmps69
    go_wp2_with fail
    refine (specLay_any r a i _).mono ?_
    rintro e w2 ⟨rfl, b2⟩
    have HB := Lib.hid (bel_trans B1 b2)
    rw [hq]
    clear hq a0 a1 a2 b2 B1 K1
    go_wp2
    go_ret
    exact ⟨-1, rfl, by omega, by omega, HB.out⟩
  · obtain ⟨R, A, W, rfl, rfl, rfl, h1, h2, h3⟩ := lay_nat hq
    have hl : (marks 0 n).length = n := marks_length _ _
    have h := specPN_any R A W (marks 0 n) w h1 h2 h3 (by rw [hl]; exact hn)
    have hp := pgN_le (l := marks 0 n) (Nat.mul_pos h1.1 h2.1)
    rw [hl] at h hp
    refine h.mono fun e w' ⟨he, b⟩ => ⟨_, he, by omega, by omega, b⟩
end Go.Proofs.YtpniljcnknknoaaGreatDoor

/-
  impl.ReadTable at the text of a printed table.
-/
namespace Go.Proofs.YtpniljcnknknoaaGreatDoor
open Go.RowKit Go.Shelf
set_option linter.unusedVariables false
set_option linter.unusedSimpArgs false
set_option maxRecDepth 100000
attribute [local go_sem] Oper.semAt_some

theorem Own.keepRow {w w' : World} {base : Nat} {v : Value} {l : List Int} {row : Option Nat} (h : Own w base v l) (hb : w.grownBy w' row) (hr : ∀ k, v.ownBlock = some k → some k ≠ row) : Own w' base v l :=
  ⟨h.1.kept hb (by
    cases hv : v.ownBlock with
    | none => exact .inl rfl
    | some k => exact .inr (hr k hv)), h.2⟩
theorem Blk.newH (w : World) (t : TypeId) (cs : List Value) (g : Nat) (hg : g = w.heap.size) : Blk (w.alloc (.cells cs.toArray t)) g t cs := by subst hg; exact Blk.new w t cs
/-- What stands in the caller's boxes when pages have come (g: the box of the values). -/
def RdI (w : World) (g B R A W M : Nat) (l : List Int) (pre : List ByteArray) (X : World) : Prop :=
  ∃ v, Blk X w.heap.size 25 [.int .i64 R, .int .i64 A, .int .i64 W] ∧ Blk X (w.heap.size + 1) 23 [.slice none 0 0] ∧ Blk X (w.heap.size + 2) 4 [.bool false] ∧ Blk X g 23 [v] ∧ Own X B v (l.take (pre.length * M)) ∧ Below w.heap.size w X ∧ B ≤ X.heap.size
theorem own_cells {w : World} {base k : Nat} {v : Value} {l : List Int} (h : Own w base v l) (hv : v.ownBlock = some k) : ∃ o : Obj, w.heap[k]? = some o ∧ o.isCells = true := by
  rcases h.1.2 with ⟨rfl, -⟩ | ⟨g, cap, cur, rfl, -, hh, -⟩
  · cases hv
  · injection hv with hv
    subst hv
    exact ⟨_, hh, rfl⟩
theorem rdI_abide (w : World) (g B R A W M : Nat) (l : List Int) (b : Nat) (hg1 : w.heap.size + 3 ≤ g) (hg2 : g < b) (hB : b + 3 ≤ B) : AbC B b (RdI w g B R A W M l) := by
  rintro s X X' row ⟨v, k0, k1, k2, k3, ho, hbel, hz⟩ hg hr
  have ne : ∀ q, q < b → some q ≠ row := fun q hq e => by
    rcases hr q e.symm with h | ⟨h, -⟩ <;> omega
  refine ⟨v, k0.grown hg (ne _ (by omega)), k1.grown hg (ne _ (by omega)), k2.grown hg (ne _ (by omega)), k3.grown hg (ne _ (by omega)), ho.keepRow hg (fun k hk e => ?_), hbel.trans ((Below.refl _ X).grown hg hbel.size (fun k e => ?_)), Nat.le_trans hz hg.size⟩
  · rcases hr k e.symm with h | ⟨h, o, h1, h2⟩
    · have := (ho.lt k hk).1
      omega
    · obtain ⟨o', h3, h4⟩ := own_cells ho hk
      rw [h1] at h3
      injection h3 with h3
      subst h3
      rw [h2] at h4
      cases h4
  · rcases hr k e with h | ⟨h, -⟩ <;> omega
theorem trim_nl (s : ByteArray) : (⟨(Lib.trimSuffix (s ++ ⟨#[10]⟩).data.toList (⟨#[10]⟩ : ByteArray).data.toList).toArray⟩ : ByteArray) = s := by
  have e : (s ++ ⟨#[10]⟩ : ByteArray).data.toList = s.data.toList ++ [10] := by simp
  rw [e, show (⟨#[10]⟩ : ByteArray).data.toList = [10] from rfl]
  have h : Lib.hasSuffix (s.data.toList ++ [10]) [10] = true := by simp [Lib.hasSuffix]
  unfold Lib.trimSuffix
  rw [h]
  simp
theorem pg_at {W : Nat} {l : List Int} {R M n : Nat} {pre rest : List ByteArray} {x : ByteArray} (h : pgsT W l R M (n + 1) = pre ++ x :: rest) : pre.length < n + 1 ∧ x = pgT W l R M pre.length := by
  have hl : (pgsT W l R M (n + 1)).length = n + 1 := by simp [pgsT]
  have hp : pre.length < n + 1 := by rw [← hl, h]; simp
  refine ⟨hp, ?_⟩
  have e1 : (pgsT W l R M (n + 1))[pre.length]? = some x := by rw [h]; simp
  have e2 : (pgsT W l R M (n + 1))[pre.length]? = some (pgT W l R M pre.length) := by
    unfold pgsT
    rw [List.getElem?_map, List.getElem?_range hp]
    rfl
  rw [e1] at e2
  injection e2
theorem pgE_bd {l : List Int} (h : tableOk l = true) (M p j : Nat) : -1000000000000 ≤ at_ (pgE l M p) j ∧ at_ (pgE l M p) j ≤ 1000000000000 := by
  by_cases hj : j < (pgE l M p).length
  · have hm := at_mem _ j hj
    unfold pgE at hm
    have hm := List.mem_of_mem_drop (List.mem_of_mem_take hm)
    obtain ⟨k, hk, he⟩ := List.getElem_of_mem hm
    have := (tableOk_true h).2.2 k hk
    rw [at_eq _ _ hk, he] at this
    unfold pgE
    omega
  · have : at_ (pgE l M p) j = 0 := by simp [at_, List.getD, List.getElem?_eq_none (Nat.le_of_not_lt hj)]
    omega
theorem pgV_bd {l : List Int} (h : tableOk l = true) (M p R n : Nat) : ∀ V ∈ pgV (pgE l M p) R n, ∀ x ∈ V, -1000000000000 ≤ x ∧ x ≤ 1000000000000 := by
  intro V hV x hx
  unfold pgV at hV
  obtain ⟨r, -, rfl⟩ := List.mem_map.1 hV
  unfold rowV at hx
  obtain ⟨i, -, rfl⟩ := List.mem_map.1 hx
  exact pgE_bd h M p _
theorem pgT_size {W : Nat} {l : List Int} {R M p : Nat} (hR : 1 ≤ R ∧ R ≤ 20) (hW : W ≤ 12) (hl : l.length ≤ 60) (h : pgF W l R M p) : (pgT W l R M p).size ≤ 1048576 := by
  unfold pgT
  have := join_len (l := pgL W l R M p) (sep := ⟨#[10]⟩) (B := 780) (pgL_size h hR.1 hW hl)
  have h2 := pgL_len W l R M p
  have h3 := pgRows_le l R M p
  have h4 : (1 + 780) * (pgL W l R M p).length ≤ 781 * 20 := Nat.mul_le_mul (by omega) (by omega)
  have h5 : (⟨#[10]⟩ : ByteArray).size = 1 := rfl
  rw [h5] at this
  omega
/-- 'values = append(values, entries...)' inside a fence. -/
theorem app_ownIn {F : Fence} {n : Nat} {ops : Array Oper} {rest : List Oper} {o : Oper} {a : Act} {Q : Exit → Act → World → Prop} {w : World} (hgd : o.guard = none) (s x : Operand)
    (ho : o.op = .call { callee := .builtin .append, args := #[s, x], argTypes := #[23, 23] })
    (base : Nat) (v : Value) (l m : List Int) (hs : a.eval s = v) (hown : Own w base v l) (g c : Nat) (hx : a.eval x = .slice (some ⟨g, 0, none⟩) m.length c)
    (hcell : ∀ j, j < m.length → w.cell? ⟨g, j, none⟩ = some (.int .i64 (at_ m j))) (hwm : Wf m)
    (hl : l.length + m.length ≤ 1099511627776) (hbase : base ≤ w.heap.size)
    (h : ∀ v' w', Own w' base v' (l ++ m) → w.grownBy w' v.ownBlock → wpListIn F n Tryz.prog ops Q rest (a.put o.dst v') w') : wpListIn F n Tryz.prog ops Q (o :: rest) a w := by
  obtain ⟨i0, hi, hz0, hz1, hz2⟩ := info_parts Tryz.infoInt
  have hwf : Wf (l ++ m) := by
    intro n hn
    rcases List.mem_append.1 hn with hn | hn
    · exact hown.2.1 n hn
    · exact hwm n hn
  refine wpListIn_append_own (P := Tryz.prog) w hgd s x 23 ho base 3 i0 _ 1 8 Tryz.underlying23 hi hz0 hz1 hz2 rfl (by omega) v l.length (iv l) hs hown.1 ⟨g, 0, none⟩ m.length c (iv m) hx (by rw [iv_length]; omega) ?_ ?_ (by unfold maxLen; omega) (by omega) hbase ?_
  · intro j u hj
    have hjm : j < m.length := by
      rcases Nat.lt_or_ge j m.length with q | q
      · exact q
      · rw [List.getElem?_eq_none (by rw [iv_length]; exact q)] at hj; cases hj
    rw [iv_get m j hjm] at hj
    injection hj with hj
    rw [show (⟨g, 0, none⟩ : Addr).add j = ⟨g, j, none⟩ from by unfold Addr.add; split <;> simp_all, ← hj]
    exact hcell j hjm
  · intro u hu
    simp [iv] at hu
    obtain ⟨n, _, rfl⟩ := hu
    rfl
  · intro v' w' h1 h2 _
    refine h v' w' ⟨?_, hwf, by unfold maxLen; simp; omega⟩ h2
    rw [iv_append, List.length_append]; exact h1
/-- What a page's round leaves. -/
theorem rd_end {w X X3 X4 : World} {g B R A W M p : Nat} {l : List Int} {v v' : Value} {E : List Int} {pre : List ByteArray} {x : ByteArray} (hB : B = g + 4) (hg : w.heap.size + 3 ≤ g)
    (c0 : Blk X w.heap.size 25 [.int .i64 R, .int .i64 A, .int .i64 W]) (c1 : Blk X (w.heap.size + 1) 23 [.slice none 0 0]) (c2 : Blk X (w.heap.size + 2) 4 [.bool false]) (c3 : Blk X g 23 [v])
    (ho : Own X B v (l.take (p * M))) (hbel : Below w.heap.size w X) (hz : B ≤ X.heap.size) (hp : pre.length = p) (hE : l.take (p * M) ++ E = l.take ((p + 1) * M))
    (b3 : Below X.heap.size X X3) (o4 : Own X4 B v' (l.take (p * M) ++ E)) (hg4 : X3.grownBy X4 v.ownBlock) :
    KeepsFrom B X (X4.setCell ⟨g, 0, none⟩ v') ∧ KpC w.heap.size (g + 1) X (X4.setCell ⟨g, 0, none⟩ v') ∧ RdI w g B R A W M l (pre ++ [x]) (X4.setCell ⟨g, 0, none⟩ v') := by
  have own : ∀ k, v.ownBlock = some k → B ≤ k ∧ k < X.heap.size := ho.lt
  have hlow : ∀ k, k < B → k < X.heap.size → k ≠ g → (X4.setCell ⟨g, 0, none⟩ v').heap[k]? = X.heap[k]? := fun k hk hkz hne =>
    (Below.heap_setCell X4 ⟨g, 0, none⟩ v' k hne).trans ((hg4.block k (Nat.lt_of_lt_of_le hkz b3.size) (fun e => by have := (own k e.symm).1; omega)).trans (b3.block k hkz))
  have hBel : Below w.heap.size X (X4.setCell ⟨g, 0, none⟩ v') := by
    have h1 : Below w.heap.size X X3 := b3.mono (Nat.le_trans (by omega) hz)
    have h2 : Below w.heap.size X3 X4 := (Below.refl _ X3).grown hg4 (Nat.le_trans hbel.size b3.size) (fun k e => by have := (own k e).1; omega)
    exact (h1.trans h2).setCell (p := ⟨g, 0, none⟩) (by show w.heap.size ≤ g; omega) v'
  have keep : ∀ {k : Nat} {t : TypeId} {cs : List Value}, Blk X k t cs → k < B → k ≠ g → Blk (X4.setCell ⟨g, 0, none⟩ v') k t cs := fun h h1 h2 => (hlow _ h1 h.lt h2).trans h
  refine ⟨?_, ⟨hBel, fun k h1 h2 => hlow k (by omega) (by omega) (by omega)⟩, v', keep c0 (by omega) (by omega), keep c1 (by omega) (by omega), keep c2 (by omega) (by omega), ?_, ?_, hbel.trans hBel, Nat.le_trans hz hBel.size⟩
  · refine ⟨hBel.size, fun j o hj hh hc => ?_⟩
    have hjz := (Array.getElem?_eq_some_iff.1 hh).1
    rw [Below.heap_setCell X4 ⟨g, 0, none⟩ v' j (by show j ≠ g; omega), hg4.block j (Nat.lt_of_lt_of_le hjz b3.size) (fun e => by
      obtain ⟨o', q1, q2⟩ := own_cells ho e.symm
      rw [hh] at q1
      injection q1 with q1
      subst q1
      rw [hc] at q2
      cases q2), b3.block j hjz]
    exact hh
  · have : Blk X4 g 23 [v] := (hg4.block g (Nat.lt_of_lt_of_le c3.lt b3.size) (fun e => by have := (own g e.symm).1; omega)).trans ((b3.block g c3.lt).trans c3)
    exact this.set_ 0 v'
  · rw [List.length_append, List.length_singleton, hp, ← hE]
    exact o4.setCellI ⟨g, 0, none⟩ v' (by show g < B; omega)
set_option maxHeartbeats 4000000 in
theorem readTable_any (R A W M n : Nat) (l : List Int) (w : World) (h1 : 1 ≤ R ∧ R ≤ 20) (h2 : 1 ≤ A ∧ A ≤ 6) (h3 : 1 ≤ W ∧ W ≤ 12) (hM : R * A = M) (ht : tableOk l = true) (hs : pgsF W l R M (n + 1)) (hn : pgN l M = n + 1) (hg : Glb w) (hnm : 1 < w.heap.size) :
    Calls Tryz.prog 46 #[.agg #[.int .i64 R, .int .i64 A, .int .i64 W], .string (textN W l R M (n + 1))] w fun e w' => ∃ r, e = .returned (.tuple #[r, .bool true]) ∧ Own w' w.heap.size r l ∧ Below w.heap.size w w' := by
  have HG := Lib.hid hg
  have HT := Lib.hid ht
  have HSF := Lib.hid hs
  have HNN := Lib.hid hn
  have hM0 : 0 < M := by rw [← hM]; exact Nat.mul_pos h1.1 h2.1
  have HM := Lib.hid hM
  have t := tableOk_true ht
  have hrows : ∀ p, p < n + 1 → 0 < pgRows l R M p := fun p hp => by
    have := (pgN_iff (l := l) p hM0).2 (by rw [hn]; exact hp)
    unfold pgRows
    rw [pgE_len]
    omega
  have HRW := Lib.hid hrows
  have hsz := textN_size hs h1.1 h1.2 h3.2 t.2.1
  have hn60 : n + 1 ≤ 60 := by have := pgN_le (l := l) hM0; omega
  have htx := textN_pages (W := W) (l := l) (R := R) (M := M) n hrows
  obtain ⟨T, hT⟩ : ∃ T, joinS (pgsT W l R M (n + 1)) nn = T := ⟨_, rfl⟩
  rw [hT] at htx
  have hTs : T.size ≤ 1300000 := by rw [htx, ByteArray.size_append] at hsz; omega
  have HX := Lib.hid (And.intro htx hT)
  rw [htx]
  obtain ⟨Y, hY⟩ : ∃ Y, T ++ (⟨#[10]⟩ : ByteArray) = Y := ⟨_, rfl⟩
  have hYs : Y.size ≤ 9223372036854775807 := by rw [← hY, ByteArray.size_append]; have : (⟨#[10]⟩ : ByteArray).size = 1 := rfl; omega
  have HY := Lib.hid hY
  rw [hY]
  have HLay := Lib.hid (layOk_nat h1 h2 h3)
  clear hg ht hs hn hM t hrows hsz htx hT hY
  refine (callsIn_wide (n := 0)).1 ?_
  refine callsIn_of_wp_marks Tryz.func46 rfl trivial ?_ rfl
  simp only [Tryz.ntmps46, List.size_toArray, List.length_cons, List.length_nil, Nat.reduceAdd, Nat.reduceSub, Array.replicate_succ, Array.replicate_zero, List.push_toArray, List.append_toArray, List.nil_append, List.cons_append]
  have K0 := Blk.new w 25 [.int .i64 R, .int .i64 A, .int .i64 W]
  obtain ⟨a0, a1, a2⟩ := K0.lay
  gi_wp2
  refine ⟨trivial, rfl, (callsIn_wide.2 (implLay_any R A W _)).mono ?_⟩
  rintro e w2 ⟨rfl, b2⟩
  rw [HLay.out]
  have BB := Lib.hid (show Below w.heap.size w (((w.alloc (.cells #[.int .i64 R, .int .i64 A, .int .i64 W] 25)).alloc (.cells #[.slice none 0 0] 23)).alloc (.cells #[.bool false] 4)) from (((bel_alloc w _).alloc (by simp) _).alloc (by simp; omega) _))
  have k0 := (((K0.alloc (.cells #[.slice none 0 0] 23)).alloc (.cells #[.bool false] 4)).below b2 (by simp; omega))
  have k1 := ((Blk.newH (w.alloc (.cells #[.int .i64 R, .int .i64 A, .int .i64 W] 25)) 23 [.slice none 0 0] (w.heap.size + 1) (by simp)).alloc (.cells #[.bool false] 4)).below b2 (by simp)
  have k2 := (Blk.newH ((w.alloc (.cells #[.int .i64 R, .int .i64 A, .int .i64 W] 25)).alloc (.cells #[.slice none 0 0] 23)) 4 [.bool false] (w.heap.size + 2) (by simp)).below b2 (by simp)
  have z2 := b2.size
  simp only [World.size_alloc] at z2
  have B2 := Lib.hid (bel_trans BB.out b2)
  have K := Lib.hid (And.intro k0 (And.intro k1 k2))
  clear a0 a1 a2 K0 k0 k1 k2 b2 BB
  gi_wp2
  refine ⟨trivial, rfl, (callsIn_wide.2 (Tryz.strings_TrimSuffix Y ⟨#[10]⟩ _ hYs)).mono ?_⟩
  rintro e w3 ⟨rfl, rfl⟩
  rw [show (⟨(Lib.trimSuffix Y.data.toList (⟨#[10]⟩ : ByteArray).data.toList).toArray⟩ : ByteArray) = T by rw [← HY.out]; exact trim_nl T]
  gi_wp2
  refine ⟨trivial, rfl, (callsIn_wide.2 (splitSeqV_any T nn _)).mono ?_⟩
  rintro e w4 ⟨rfl, rfl⟩
  obtain ⟨s0, s1, s2, s3, s4⟩ := seqW_blk (w2.alloc (.cells #[.slice none 0 0] 23)) T nn
  have e3 : (w2.alloc (.cells #[.slice none 0 0] 23)).heap.size = w2.heap.size + 1 := by simp
  have k3 := Blk.newH w2 23 [.slice none 0 0] w2.heap.size rfl
  have B3 : Below w.heap.size w (seqW (w2.alloc (.cells #[.slice none 0 0] 23)) T nn) := bel_trans (bel_trans B2.out (bel_alloc w2 _)) s3
  have q0 := (K.out.1.alloc (.cells #[.slice none 0 0] 23)).below s3 (by simp; omega)
  have q1 := (K.out.2.1.alloc (.cells #[.slice none 0 0] 23)).below s3 (by simp; omega)
  have q2 := (K.out.2.2.alloc (.cells #[.slice none 0 0] 23)).below s3 (by simp; omega)
  have q3 := k3.below s3 (by simp)
  rw [e3] at s0 s1 s2 s4
  rw [e3]
  generalize hW4 : seqW (w2.alloc (.cells #[.slice none 0 0] 23)) T nn = w4 at *
  clear hW4 e3 k3
  gi_wp2
  obtain ⟨m, hm⟩ := (HG.out.bel B3).2.1
  have hpc : pieces nn T = pgsT W l R M (n + 1) := by
    obtain ⟨q, hq⟩ := pgsT_cons W l R M n
    rw [← HX.out.2, hq]
    refine pieces_pages _ _ fun x hx => ?_
    rw [← hq] at hx
    obtain ⟨p, hp, rfl⟩ := List.mem_map.1 hx
    have hp := List.mem_range.1 hp
    exact pgT_good h1.1 h3.1 (HSF.out p hp) (HRW.out p hp)
  have hseq := splitSeq_in T nn m w.heap.size (w2.heap.size + 1) w4 (by decide) (by omega) (by decide) s0 s1 s2 hnm (by omega) hm
  rw [hpc] at hseq
  have hI0 : RdI w w2.heap.size w4.heap.size R A W M l [] w4 := ⟨_, q0, q1, q2, q3, by rw [List.length_nil, Nat.zero_mul, List.take_zero]; exact Own.nil_ _ _, B3, Nat.le_refl _⟩
  have HB := Lib.hid B3
  clear hpc hm s0 s1 s2 s3 q0 q1 q2 q3 B3 B2 K
  refine range_seqC (gf := 223) (n := w.heap.size) (b := w2.heap.size + 1) rfl (enters_of Tryz.func223 (by kernel_rfl) rfl) (by omega) (by omega) hseq (RdI w w2.heap.size w4.heap.size R A W M l) (fun _ _ _ => False)
    (rdI_abide w w2.heap.size w4.heap.size R A W M l (w2.heap.size + 1) (by omega) (by omega) (by omega)) (fun _ _ _ _ _ hs _ _ => hs) hI0
    (fun x => { tmps := #[.agg #[.int .i64 R, .int .i64 A, .int .i64 W], .string Y, .pointer (some ⟨w.heap.size, 0, none⟩), undef, .pointer (some ⟨w.heap.size + 1, 0, none⟩), .pointer (some ⟨w.heap.size + 1 + 1, 0, none⟩), .pointer (some ⟨w2.heap.size, 0, none⟩), .string x, undef, undef, undef, undef, .agg #[.int .i64 R, .int .i64 A, .int .i64 W], .bool true, .bool false, .string Y, .string T, seqV (w2.heap.size + 1), .string x, undef, undef, undef, undef, undef, undef, undef, undef, undef, undef, undef, undef, undef, undef, undef, undef, undef, undef, undef, undef, undef, undef, undef, undef, undef, undef], defers := [] }) ?assign ?body ?done ?stop
  case assign =>
    intro q x X K hK
    gi_wp2
    exact hK
  case body =>
    rintro q pre x rest X ⟨v, c0, c1, c2, c3, ho, hbel, hz⟩ hx hxz
    obtain ⟨hp, rfl⟩ := pg_at hx
    obtain ⟨p, hpp⟩ : ∃ p, pre.length = p := ⟨_, rfl⟩
    rw [hpp] at hp ho ⊢
    have HPP := Lib.hid hpp
    clear hx hpp
    have hR0 : 0 < R := h1.1
    have hF := HSF.out p hp
    have hrw := HRW.out p hp
    have hcut := pgT_lines (W := W) hrw
    have hxs := pgT_size h1 h3.2 (tableOk_true HT.out).2.1 hF
    have hpl : pgL W l R M p = (pgV (pgE l M p) R (pgRows l R M p)).map (lineV W) := rows_V _ _ _ _
    rw [hpl] at hcut
    have hel : (pgE l M p).length ≤ R * A := by rw [pgE_len, HM.out]; exact Nat.min_le_left _ _
    have HV := Lib.hid (show ∀ V ∈ pgV (pgE l M p) R (pgRows l R M p), fitV W V ∧ 1 ≤ V.length ∧ V.length ≤ A ∧ ∀ x ∈ V, -1000000000000 ≤ x ∧ x ≤ 1000000000000 from fun V hV => ⟨fit_V hF V hV, pgV_ne hR0 rfl V hV, pgV_le hR0 hel V hV, pgV_bd HT.out M p R _ V hV⟩)
    have HEN := Lib.hid (show entsL (pgV (pgE l M p) R (pgRows l R M p)) A = pgE l M p from ents_all hR0 hel)
    have HVL := Lib.hid (show (pgV (pgE l M p) R (pgRows l R M p)).length ≤ R by rw [pgV_len]; exact pgRows_le l R M p)
    have hE1 : 1 ≤ (pgE l M p).length := by unfold pgRows at hrw; omega
    have hE60 : (pgE l M p).length ≤ 60 := by rw [pgE_len]; have := (tableOk_true HT.out).2.1; omega
    obtain ⟨Vs, hVs⟩ : ∃ Vs, pgV (pgE l M p) R (pgRows l R M p) = Vs := ⟨_, rfl⟩
    rw [hVs] at hcut HV HEN HVL
    obtain ⟨E, hE⟩ : ∃ E, pgE l M p = E := ⟨_, rfl⟩
    rw [hE] at HEN hE1 hE60
    have HTK := Lib.hid (show l.take (p * M) ++ E = l.take ((p + 1) * M) by rw [← hE]; exact take_page l M p)
    have HTL := Lib.hid (show (l.take (p * M)).length ≤ 60 by rw [List.length_take]; have := (tableOk_true HT.out).2.1; omega)
    have HC := Lib.hid hcut
    have HXS := Lib.hid hxs
    clear hVs hE hF hrw hcut hpl hel hxs
    obtain ⟨x, hxp⟩ : ∃ x, pgT W l R M p = x := ⟨_, rfl⟩
    rw [hxp] at HC HXS ⊢
    clear hxp
    have hmx : Tryz.prog.follows .mixedOrders = true := by kernel_rfl
    have bd := bel_drew X
    have HGX := Lib.hid (HG.out.bel (hbel.trans (bd.mono hbel.size)))
    have C := Lib.hid (And.intro c0 (And.intro c1 (And.intro c2 (And.intro c3 (And.intro ho hbel)))))
    obtain ⟨a0, a1, a2⟩ := c0.lay
    have hc0 := c0.lt
    have hc3 := c3.lt
    clear c0 c1 c2 c3 ho hbel
    clear hseq hI0 hTs
    gi_wp2
    gi_region_with_o (first
      | (refine ⟨trivial, rfl, ?_⟩; gi_at_call 54; refine (CallsIn.inRound q (callsIn_wide.2 (split_any x 10 _ HXS.out HGX.out))).mono ?_; rintro e X2 ⟨A2, rfl, o2, b2⟩; rw [HC.out, List.length_map] at o2; rw [HC.out, List.length_map]; have O2 := Lib.hid o2.strs; have B2 := Lib.hid (bel_trans bd b2); have C2 := Lib.hid (C.out.1.below B2.out hc0); obtain ⟨d0, d1, d2⟩ := C2.out.lay; clear o2 b2)
      | (refine ⟨trivial, rfl, ?_⟩; gi_at_call 117; refine (CallsIn.inRound q (callsIn_wide.2 (readLines_any R A W _ Vs _ O2.out h1 h2 h3 HVL.out HV.out (HG.out.bel (C.out.2.2.2.2.2.trans (B2.out.mono C.out.2.2.2.2.2.size)))))).mono ?_; rw [HEN.out]; rintro e X3 ⟨r, rfl, o3, b3⟩; have B3 := Lib.hid (bel_trans B2.out b3); have O3 := Lib.hid o3; clear o3 b3))
    all_goals
      have G3 := C.out.2.2.2.1.below B3.out hc3
      obtain ⟨y0, fy⟩ := G3.one
      have hown := Lib.hid (C.out.2.2.2.2.1.bel B3.out)
      obtain ⟨ge, ce, rfl, hge, hgz, hce1, hce2, hcel⟩ := O3.out.openN hE1
      have hlen : (l.take (p * M)).length + E.length ≤ 1099511627776 := by have := HTL.out; omega
      have HCE := Lib.hid hcel
      have HWE := Lib.hid O3.out.2.1
      have z3 := B3.out.size
      clear hcel a0 a1 a2 d0 d1 d2 C2 O2
      gi_wp2_with (gi_at_builtin; refine app_ownIn rfl _ _ (by rfl) w4.heap.size v (l.take (p * M)) E (by rfl) hown.out ge ce (by rfl) (fun j hj => (HCE.out j hj).1) HWE.out hlen (by omega) ?_; intro v4 X4 o4 hg4; obtain ⟨b4, c4, e4, -⟩ := o4.openN (by rw [List.length_append]; omega); obtain ⟨N4, hN4⟩ : ∃ N, (l.take (p * M) ++ E).length = N := ⟨_, rfl⟩; rw [hN4] at e4; subst e4; clear hN4; obtain ⟨z0, fz⟩ := (G3.grown hg4 (fun e => by have := (hown.out.lt _ e.symm).1; omega)).one)
      exact rd_end (by omega) (by omega) C.out.1 C.out.2.1 C.out.2.2.1 C.out.2.2.2.1 C.out.2.2.2.2.1 C.out.2.2.2.2.2 hz HPP.out HTK.out B3.out o4 hg4
  case done =>
    rintro D X hD ⟨v, c0, c1, c2, c3, ho, hbel, hz⟩ hK
    have hlen : (pgsT W l R M (n + 1)).length = n + 1 := by simp [pgsT]
    have hall : l.take ((n + 1) * M) = l := by
      refine List.take_of_length_le ?_
      rcases Nat.lt_or_ge ((n + 1) * M) l.length with h | h
      · have := (pgN_iff (l := l) (n + 1) hM0).1 h
        rw [HNN.out] at this
        omega
      · exact h
    rw [hlen, hall] at ho
    have C := Lib.hid (And.intro c0 (And.intro c1 (And.intro c2 (And.intro c3 (And.intro ho hbel)))))
    obtain ⟨a0, a1, a2⟩ := c0.lay
    obtain ⟨y0, fy⟩ := c3.one
    have hc0 := c0.lt
    have hc3 := c3.lt
    have HKD := Lib.hid hK
    clear c0 c1 c2 c3 ho hbel hlen hall hseq hI0 hTs hK
    have hptok : ptOk R A W l = true := by
      unfold ptOk
      rw [HLay.out, HT.out]
      show (true && true && shOk W l R A) = true
      rw [(shOk_iff HM.out).2 (by rw [HNN.out]; exact HSF.out)]
      rfl
    have hpts : ptS R A W l = Y := by
      show textN W l R (R * A) (pgN l (R * A)) = Y
      rw [HM.out, HNN.out, HX.out.1, HY.out]
    have HPT := Lib.hid (And.intro hptok hpts)
    have he : (!Y.toList == Y.toList) = false := by simp
    clear hptok hpts
    gi_wp2
    refine ⟨trivial, rfl, (callsIn_wide.2 (implPTg_any R A W v l X C.out.2.2.2.2.1.ints (HG.out.bel C.out.2.2.2.2.2).1)).mono ?_⟩
    rintro e X2 ⟨TE, b2⟩
    rw [HPT.out.2] at TE
    obtain rfl : e = .returned (.tuple #[.string Y, .bool true]) := TE.elim (fun x => x.2) (fun x => absurd HPT.out.1 x.1)
    have B2 := Lib.hid b2
    have g1 := C.out.2.1.below b2 C.out.2.1.lt
    have g2 := C.out.2.2.1.below b2 C.out.2.2.1.lt
    have g3 := C.out.2.2.2.1.below b2 hc3
    have O2 := Lib.hid (C.out.2.2.2.2.1.bel b2)
    obtain ⟨x1, f1⟩ := g1.one
    obtain ⟨x2, f2⟩ := g2.one
    obtain ⟨x3, f3⟩ := g3.one
    have z2' := b2.size
    have hDX := (Array.getElem?_eq_some_iff.1 HKD.out).1
    have HKD2 := Lib.hid ((b2.block D hDX).trans HKD.out)
    have G := Lib.hid (And.intro g1 (And.intro g2 g3))
    obtain ⟨A4, c4, rfl, -, -, -⟩ := C.out.2.2.2.2.1.ints.open_
    clear TE b2 g1 g2 g3 a0 a1 a2 y0 fy
    gi_wp2
    have W6 : ∀ k, k ≠ w.heap.size + 1 → k ≠ w.heap.size + 2 → ((X2.setCell ⟨w.heap.size + 1, 0, none⟩ (.slice A4 l.length c4)).setCell ⟨w.heap.size + 1 + 1, 0, none⟩ (.bool true)).heap[k]? = X2.heap[k]? := fun k k1 k2 =>
      (Below.heap_setCell _ ⟨w.heap.size + 1 + 1, 0, none⟩ _ k (by show k ≠ w.heap.size + 1 + 1; omega)).trans (Below.heap_setCell _ ⟨w.heap.size + 1, 0, none⟩ _ k k1)
    have hK6 := (W6 D (by omega) (by omega)).trans HKD2.out
    have u1 : Blk ((X2.setCell ⟨w.heap.size + 1, 0, none⟩ (.slice A4 l.length c4)).setCell ⟨w.heap.size + 1 + 1, 0, none⟩ (.bool true)) (w.heap.size + 1) 23 [.slice A4 l.length c4] := (G.out.1.set_ 0 _).far (p := ⟨w.heap.size + 1 + 1, 0, none⟩) (by show w.heap.size + 1 ≠ w.heap.size + 1 + 1; omega) _
    have u2 : Blk ((X2.setCell ⟨w.heap.size + 1, 0, none⟩ (.slice A4 l.length c4)).setCell ⟨w.heap.size + 1 + 1, 0, none⟩ (.bool true)) (w.heap.size + 1 + 1) 4 [.bool true] := (G.out.2.1.far (p := ⟨w.heap.size + 1, 0, none⟩) (by show w.heap.size + 2 ≠ w.heap.size + 1; omega) _).set_ 0 _
    have u3 : Own ((X2.setCell ⟨w.heap.size + 1, 0, none⟩ (.slice A4 l.length c4)).setCell ⟨w.heap.size + 1 + 1, 0, none⟩ (.bool true)) w4.heap.size (.slice A4 l.length c4) l := (O2.out.setCellI ⟨w.heap.size + 1, 0, none⟩ _ (by show w.heap.size + 1 < w4.heap.size; omega)).setCellI ⟨w.heap.size + 1 + 1, 0, none⟩ _ (by show w.heap.size + 1 + 1 < w4.heap.size; omega)
    have u4 : Below w.heap.size w ((X2.setCell ⟨w.heap.size + 1, 0, none⟩ (.slice A4 l.length c4)).setCell ⟨w.heap.size + 1 + 1, 0, none⟩ (.bool true)) := ((C.out.2.2.2.2.2.trans (B2.out.mono (by omega))).setCell (p := ⟨w.heap.size + 1, 0, none⟩) (by show w.heap.size ≤ w.heap.size + 1; omega) _).setCell (p := ⟨w.heap.size + 1 + 1, 0, none⟩) (by show w.heap.size ≤ w.heap.size + 1 + 1; omega) _
    obtain ⟨V6, hV6⟩ : ∃ V6, (X2.setCell ⟨w.heap.size + 1, 0, none⟩ (.slice A4 l.length c4)).setCell ⟨w.heap.size + 1 + 1, 0, none⟩ (.bool true) = V6 := ⟨_, rfl⟩
    rw [hV6] at hK6 u1 u2 u3 u4 ⊢
    clear hV6 W6 x1 x2 x3 f1 f2 f3
    have v1 : Blk (V6.putObj D (.deferred none)) (w.heap.size + 1) 23 [.slice A4 l.length c4] := (World.putObj_heap_other (by omega)).trans u1
    have v2 : Blk (V6.putObj D (.deferred none)) (w.heap.size + 1 + 1) 4 [.bool true] := (World.putObj_heap_other (by omega)).trans u2
    have v3 : Own (V6.putObj D (.deferred none)) w4.heap.size (.slice A4 l.length c4) l := u3.keepRow (grownBy_putObj' V6 D _) (fun k hk e => by
      injection e with e
      subst e
      obtain ⟨o', q1, q2⟩ := own_cells u3 hk
      rw [hK6] at q1
      injection q1 with q1
      subst q1
      cases q2)
    have v4 : Below w.heap.size w (V6.putObj D (.deferred none)) := u4.trans (belowK_b (w := w) (Nat.le_refl _) V6 D _ _ (by omega) hK6 rfl rfl)
    obtain ⟨t1, -⟩ := v1.one
    obtain ⟨t2, -⟩ := v2.one
    refine ⟨by simp, .inl ⟨_, _, rfl, run_takeDeferred hK6, ?_⟩⟩
    exact ⟨.tuple #[.slice A4 l.length c4, .bool true], by simp [results, Tryz.results46, go_sem, t1, t2], _, rfl, v3.lower (by omega), v4⟩
  case stop =>
    rintro D c pre rest X _ _ h _
    exact h.elim
end Go.Proofs.YtpniljcnknknoaaGreatDoor

/-
  Jobs drawn for sheets: DrawJobSheet (out of XJtA's DrawFormatJob).
-/
namespace Go.Proofs.YtpniljcnknknoaaGreatDoor
open Go.RowKit
set_option linter.unusedVariables false
set_option linter.unusedSimpArgs false
set_option maxRecDepth 100000
attribute [local go_sem ↓] Go.wp_at_zero Go.wp_at_succ

set_option maxHeartbeats 2000000 in
theorem drawJobSheet_any (v : Value) (code : List Int) (w : World) (hv : Bytes w v code) :
    Calls Tryz.prog 9 #[v] w (DrawnJobD w) := by
  have HV := Lib.hid hv
  have K4 := Blk.new w 27 (jobC (.slice none 0 0) zeroJ)
  clear hv
  go_enter Tryz.func9, Tryz.ntmps9
  go_wp2_with fail
  change Calls _ _ _ (w.alloc (.cells (jobC (.slice none 0 0) zeroJ).toArray 27)) _
  generalize hW : w.alloc (.cells (jobC (.slice none 0 0) zeroJ).toArray 27) = W at *
  have hwz : W.heap.size = w.heap.size + 1 := by rw [← hW]; simp
  have hbW : Below w.heap.size w W := by rw [← hW]; exact bel_alloc w _
  clear hW
  refine (drawJobValid_any v code _ (HV.out.bel hbW)).mono ?_
  rintro e w3 ⟨vk, k, rfl, hs3, l8, hk, hb⟩
  obtain ⟨l, j1, j2, j3, j4, j5, j6, j7, j8⟩ := k
  have K5 := K4.below hb K4.lt
  dsimp only at hs3 l8
  have S3 := Lib.hid (And.intro hs3 (And.intro l8 (And.intro hk (bel_trans hbW hb))))
  obtain ⟨A, c, rfl, -, -, -⟩ := hs3.ints.open_
  clear K4 hs3 hk l8 hb hbW HV
  obtain ⟨f0, f1, f2, f3, f4, f5, f6, f7, f8⟩ := K5.free
  obtain ⟨d0, d1, d2, d3, d4, d5, d6, d7, d8⟩ := Blk.job (v := .slice none 0 0) (j := zeroJ) K5
  have HK := Lib.hid K5
  clear K5
  unfold jobV
  go_wp2
  clear f0 f1 f2 f3 f4 f5 f6 f7 f8 d0 d1 d2 d3 d4 d5 d6 d7 d8
  have BE := belN (B := w.heap.size) (g := w.heap.size) (Nat.le_refl _) [.slice A l.length c, .int .i64 (j1), .int .i64 (j2), .int .i64 (j3), .int .i64 (j4), .int .i64 (j5), .int .i64 (j6), .int .i64 (j7), .int .i64 (j8)] _ 0 S3.out.2.2.2
  have K5 := blkNown [.slice A l.length c, .int .i64 (j1), .int .i64 (j2), .int .i64 (j3), .int .i64 (j4), .int .i64 (j5), .int .i64 (j6), .int .i64 (j7), .int .i64 (j8)] _ _ 0 HK.out
  have SE := (ownN (g := w.heap.size) (show w.heap.size < W.heap.size by omega) [.slice A l.length c, .int .i64 (j1), .int .i64 (j2), .int .i64 (j3), .int .i64 (j4), .int .i64 (j5), .int .i64 (j6), .int .i64 (j7), .int .i64 (j8)] _ 0 S3.out.1).lower (base' := w.heap.size) (by omega)
  change bodyPost _ _ _ _ _ (setN w3 (w.heap.size) 0 [.slice A l.length c, .int .i64 (j1), .int .i64 (j2), .int .i64 (j3), .int .i64 (j4), .int .i64 (j5), .int .i64 (j6), .int .i64 (j7), .int .i64 (j8)])
  generalize hW7 : setN w3 (w.heap.size) 0 [.slice A l.length c, .int .i64 (j1), .int .i64 (j2), .int .i64 (j3), .int .i64 (j4), .int .i64 (j5), .int .i64 (j6), .int .i64 (j7), .int .i64 (j8)] = W7 at K5 SE BE ⊢
  clear hW7
  obtain ⟨h0, h1, h2, h3, h4, h5, h6, h7, h8⟩ := Blk.job (v := .slice A l.length c) (j := ⟨l, j1, j2, j3, j4, j5, j6, j7, j8⟩) K5
  refine bodyPost_ret (v := .agg #[.slice A l.length c, .int .i64 (j1), .int .i64 (j2), .int .i64 (j3), .int .i64 (j4), .int .i64 (j5), .int .i64 (j6), .int .i64 (j7), .int .i64 (j8)]) (by simp [results, Tryz.results9, go_sem, h0, h1, h2, h3, h4, h5, h6, h7, h8]) rfl ⟨_, ⟨l, j1, j2, j3, j4, j5, j6, j7, j8⟩, rfl, SE, S3.out.2.1, S3.out.2.2.1, BE⟩
end Go.Proofs.YtpniljcnknknoaaGreatDoor

/-
  The law FnJobSheet, walked.
-/
namespace Go.Proofs.YtpniljcnknknoaaGreatDoor
open Go.RowKit
set_option linter.unusedVariables false
set_option linter.unusedSimpArgs false
set_option maxRecDepth 100000
attribute [local go_sem ↓] Go.wp_at_zero Go.wp_at_succ

theorem TxtE.two (s : ByteArray) (P : Prop) : (P ∧ ∀ e, TxtE s P e → e = .returned (.tuple #[.string s, .bool true])) ∨ (¬ P ∧ ∀ e, TxtE s P e → e = .returned (.tuple #[.string ⟨#[]⟩, .bool false])) := by
  by_cases h : P
  · exact .inl ⟨h, fun e he => he.elim (fun x => x.2) (fun x => absurd h x.1)⟩
  · exact .inr ⟨h, fun e he => he.elim (fun x => absurd x.1 h) (fun x => x.2)⟩
theorem jobS {w : World} {g : Nat} {t : TypeId} {v : Value} {j : JobD} {R A W : Nat} (h : Blk w g t (jobC v j)) (he : j.rw = R ∧ j.ac = A ∧ j.wi = W) :
    w.cell? ⟨g, 0, none⟩ = some v ∧ w.cell? ⟨g, 6, none⟩ = some (.int .i64 R) ∧ w.cell? ⟨g, 7, none⟩ = some (.int .i64 A) ∧ w.cell? ⟨g, 8, none⟩ = some (.int .i64 W) := by
  obtain ⟨a0, -, -, -, -, -, a6, a7, a8⟩ := h.job
  rw [he.1] at a6
  rw [he.2.1] at a7
  rw [he.2.2] at a8
  exact ⟨a0, a6, a7, a8⟩
theorem jtL_count {j : JobD} (h : jtOk j = true) : ((jtL j).length : Int) = j.ct := by
  have hq : jobOk j = true := by
    cases hq : jobOk j
    · rw [(jt_no hq).1] at h; exact h
    · rfl
  have h2 := (jt_yes hq).1
  rw [h] at h2
  have e1 : (jtL j).length = (jvL j).length := by
    rw [(jt_yes hq).2]
    unfold rtL
    rw [if_pos h2.symm, gen_length]
  have hv := jobOk_val hq
  have hc := (jobOk_true.1 hq).2.1
  have e2 : (jvL j).length = j.ct.toNat := by
    unfold jvL valL
    rw [if_pos hv, gen_length]
  rw [e1, e2]
  omega
set_option maxHeartbeats 16000000 in
theorem lawJobSheetF (v : Value) (code : List Int) (w : World) (hv : Bytes w v code) (hg : Glb w) :
    Calls Tryz.prog 8 #[v] w fun e w' => e = .returned (.bool true) ∧ Below w.heap.size w w' := by
  have HV := Lib.hid hv
  have HG := Lib.hid hg
  obtain ⟨A_c, c_c, rfl, -, hc1, -⟩ := hv.open_
  clear hv hg
  go_enter Tryz.func8, Tryz.ntmps8
  by_cases hbig : (1048576 : Int) < (code.length : Int)
  · go_wp2
    go_ret
    exact ⟨rfl, Below.refl _ _⟩
  · go_wp2_with fail
    refine (drawJobSheet_any _ code _ HV.out).mono ?_
    rintro e w0 ⟨vp, j, rfl, hs, l8, hj, b⟩
    have HJ := Lib.hid hj
    obtain ⟨A, c, rfl, -, -, -⟩ := hs.ints.open_
    have ba : Below w0.heap.size w0 (w0.alloc (.cells #[.slice A j.poly.length c, .int .i64 j.fr, .int .i64 j.ct, .int .i64 j.wd, .int .i64 j.dg, .int .i64 j.wy, .int .i64 j.rw, .int .i64 j.ac, .int .i64 j.wi] 27)) := bel_alloc w0 _
    have O5 := Lib.hid (show Ints (w0.alloc (.cells #[.slice A j.poly.length c, .int .i64 j.fr, .int .i64 j.ct, .int .i64 j.wd, .int .i64 j.dg, .int .i64 j.wy, .int .i64 j.rw, .int .i64 j.ac, .int .i64 j.wi] 27)) (.slice A j.poly.length c) j.poly from hs.ints.bel ba)
    have HB := Lib.hid (bel_trans b ba)
    have K5 := Lib.hid (show Blk (w0.alloc (.cells #[.slice A j.poly.length c, .int .i64 j.fr, .int .i64 j.ct, .int .i64 j.wd, .int .i64 j.dg, .int .i64 j.wy, .int .i64 j.rw, .int .i64 j.ac, .int .i64 j.wi] 27)) w0.heap.size 27 (jobC (.slice A j.poly.length c) j) from Blk.new w0 27 (jobC (.slice A j.poly.length c) j))
    have fz := fmt_size hs.ints.2 hj
    have HWF := Lib.hid hs.ints.2
    clear hs b ba hj HV
    unfold jobV
    rcases TxtE.two (shJ j) (sjOk j) with ⟨hP, hX⟩ | ⟨hP, hX⟩
    · have HX := Lib.hid hX
      have HP := Lib.hid hP
      clear hX hP
      obtain ⟨a0, a1, a2, a3, a4, a5, a6, a7, a8⟩ := K5.out.job
      go_wp2_with fail
      clear a0 a1 a2 a3 a4 a5 a6 a7 a8
      generalize hW : (w0.alloc (.cells #[.slice A j.poly.length c, .int .i64 j.fr, .int .i64 j.ct, .int .i64 j.wd, .int .i64 j.dg, .int .i64 j.wy, .int .i64 j.rw, .int .i64 j.ac, .int .i64 j.wi] 27)) = w1 at K5 HB O5 ⊢
      clear hW
      change Calls _ _ #[(jobV (.slice A j.poly.length c) j)] _ _
      refine (implJS_any _ j _ O5.out HJ.out (HG.out.bel HB.out).1).mono ?_
      rintro e wn ⟨TE, b⟩
      obtain rfl := HX.out e TE
      clear TE
      replace HB := Lib.hid (bel_trans HB.out b)
      replace K5 := Lib.hid (K5.out.below b K5.out.lt)
      replace O5 := Lib.hid (O5.out.bel b)
      clear b
      obtain ⟨S, hS⟩ : ∃ S, shJ j = S := ⟨_, rfl⟩
      rw [hS] at HX ⊢
      obtain ⟨a0, a1, a2, a3, a4, a5, a6, a7, a8⟩ := K5.out.job
      go_wp2_with fail
      clear a0 a1 a2 a3 a4 a5 a6 a7 a8
      change Calls _ _ #[(jobV (.slice A j.poly.length c) j)] _ _
      refine (specJS_any _ j _ O5.out HJ.out).mono ?_
      rintro e wn ⟨TE, b⟩
      rw [hS] at TE
      obtain rfl := HX.out e TE
      clear TE
      replace HB := Lib.hid (bel_trans HB.out b)
      replace K5 := Lib.hid (K5.out.below b K5.out.lt)
      replace O5 := Lib.hid (O5.out.bel b)
      clear b
      have he : (!S.toList == S.toList) = false := by simp
      obtain ⟨R, Ac, W0, e1, e2, e3, h1, h2, h3⟩ := jt_lay HP.out.1
      have HE := Lib.hid (And.intro e1 (And.intro e2 e3))
      have ht := HP.out.2.1
      have hM0 : 0 < R * Ac := Nat.mul_pos h1.1 h2.1
      obtain ⟨q, hq⟩ : ∃ q, pgN (jtL j) (R * Ac) = q + 1 := by
        have := (pgN_iff (l := jtL j) 0 hM0).1 (by have := (tableOk_true ht).1; omega)
        exact ⟨pgN (jtL j) (R * Ac) - 1, by omega⟩
      have hsf : pgsF W0 (jtL j) R (R * Ac) (q + 1) := by
        have := HP.out.2.2
        rw [e1, e2, e3] at this
        rw [← hq]
        exact (shOk_iff rfl).1 this
      have hS2 : textN W0 (jtL j) R (R * Ac) (q + 1) = S := by
        rw [← hS, ← hq]
        unfold shJ
        rw [e1, e2, e3]
        rfl
      have hgl := HG.out.bel HB.out
      have hnm : 1 < wn.heap.size := by
        obtain ⟨m, hm⟩ := hgl.2.1
        exact World.block_lt_of_cell? wn _ hm
      have HRT : Hid (Calls Tryz.prog 46 #[.agg #[.int .i64 R, .int .i64 Ac, .int .i64 W0], .string S] wn fun e w' => ∃ r, e = .returned (.tuple #[r, .bool true]) ∧ Own w' wn.heap.size r (jtL j) ∧ Below wn.heap.size wn w') := Lib.hid (by
        rw [← hS2]
        exact readTable_any R Ac W0 (R * Ac) q (jtL j) wn h1 h2 h3 rfl ht hsf hq hgl hnm)
      have HCT := Lib.hid (jtL_count HP.out.1)
      clear hS2 hsf hq hM0 ht hS e1 e2 e3
      obtain ⟨a0, a6, a7, a8⟩ := jobS K5.out HE.out
      go_wp2_with fail
      clear a0 a6 a7 a8
      refine HRT.out.mono ?_
      rintro e wr ⟨r1, rfl, o1, b⟩
      have HL := Lib.hid o1.ints
      obtain ⟨A1, c1, rfl, -, -, -⟩ := o1.ints.open_
      clear o1
      replace HB := Lib.hid (bel_trans HB.out b)
      replace K5 := Lib.hid (K5.out.below b K5.out.lt)
      replace O5 := Lib.hid (O5.out.bel b)
      clear b
      obtain ⟨a0, a1, a2, a3, a4, a5, a6, a7, a8⟩ := K5.out.job
      go_wp2_with fail
      clear a0 a1 a2 a3 a4 a5 a6 a7 a8
      change Calls _ _ #[(jobV (.slice A j.poly.length c) j)] _ _
      refine (implJT_any _ j _ O5.out HJ.out).mono ?_
      rintro e wq ⟨r, rfl, o1, b⟩
      have HL2 := Lib.hid o1.ints
      obtain ⟨A2, c2, rfl, -, -, -⟩ := o1.ints.open_
      clear o1
      replace HL := Lib.hid (HL.out.bel b)
      replace HB := Lib.hid (bel_trans HB.out b)
      replace K5 := Lib.hid (K5.out.below b K5.out.lt)
      clear b
      have hjt := HP.out.1
      rw [hjt]
      have hcq : (((jtL j).length : Int) == j.ct) = true := by rw [HCT.out]; simp
      obtain ⟨a0, a1, a2, a3, a4, a5, a6, a7, a8⟩ := K5.out.job
      go_wp2_with fail
      clear a0 a1 a2 a3 a4 a5 a6 a7 a8
      refine (deInts_any _ _ _ _ _ HL.out HL2.out).mono ?_
      rw [eqL_self]
      rintro e wz ⟨rfl, b⟩
      replace HB := Lib.hid (bel_trans HB.out b)
      replace K5 := Lib.hid (K5.out.below b K5.out.lt)
      clear b
      obtain ⟨a0, a1, a2, a3, a4, a5, a6, a7, a8⟩ := K5.out.job
      go_wp2
      go_ret
      exact ⟨rfl, HB.out⟩
    · have HX := Lib.hid hX
      clear hX hP
      obtain ⟨a0, a1, a2, a3, a4, a5, a6, a7, a8⟩ := K5.out.job
      go_wp2_with fail
      clear a0 a1 a2 a3 a4 a5 a6 a7 a8
      generalize hW : (w0.alloc (.cells #[.slice A j.poly.length c, .int .i64 j.fr, .int .i64 j.ct, .int .i64 j.wd, .int .i64 j.dg, .int .i64 j.wy, .int .i64 j.rw, .int .i64 j.ac, .int .i64 j.wi] 27)) = w1 at K5 HB O5 ⊢
      clear hW
      change Calls _ _ #[(jobV (.slice A j.poly.length c) j)] _ _
      refine (implJS_any _ j _ O5.out HJ.out (HG.out.bel HB.out).1).mono ?_
      rintro e wn ⟨TE, b⟩
      obtain rfl := HX.out e TE
      clear TE
      replace HB := Lib.hid (bel_trans HB.out b)
      replace K5 := Lib.hid (K5.out.below b K5.out.lt)
      replace O5 := Lib.hid (O5.out.bel b)
      clear b
      obtain ⟨a0, a1, a2, a3, a4, a5, a6, a7, a8⟩ := K5.out.job
      go_wp2_with fail
      clear a0 a1 a2 a3 a4 a5 a6 a7 a8
      change Calls _ _ #[(jobV (.slice A j.poly.length c) j)] _ _
      refine (specJS_any _ j _ O5.out HJ.out).mono ?_
      rintro e wn ⟨TE, b⟩
      obtain rfl := HX.out e TE
      clear TE
      replace HB := Lib.hid (bel_trans HB.out b)
      replace K5 := Lib.hid (K5.out.below b K5.out.lt)
      replace O5 := Lib.hid (O5.out.bel b)
      clear b
      go_wp2
      go_ret
      exact ⟨rfl, HB.out⟩
end Go.Proofs.YtpniljcnknknoaaGreatDoor
