/-
  Contracts of SpanOf and what it calls.
-/
import Derived.Test.YtegofpfhlhfdnaaInts
import Derived.Test.YtegofpfhlhfdnaaTimes
import Derived.StillTailTactics
namespace Go.Proofs.Ytegofpfhlhfdnaa
open Go.RowKit
set_option linter.unusedVariables false
set_option maxRecDepth 100000

def schedOk (t : List Int) (e : Int) : Bool := timesOk t && inB e 1 3
theorem timesOk_true {t : List Int} (h : timesOk t = true) : t.length ≤ 8 ∧ ∀ k, 0 ≤ at_ t k ∧ at_ t k ≤ 1000 := by
  simp only [timesOk, Bool.and_eq_true, decide_eq_true_eq, List.all_eq_true, inB_true] at h
  refine ⟨h.1, fun k => ?_⟩
  by_cases hk : k < t.length
  · exact h.2 _ (at_mem t k hk)
  · have : at_ t k = 0 := by simp [at_, List.getD, List.getElem?_eq_none (Nat.le_of_not_lt hk)]
    omega
theorem schedOk_true {t : List Int} {e : Int} (h : schedOk t e = true) : t.length ≤ 8 ∧ 1 ≤ e ∧ e ≤ 3 ∧ ∀ k, 0 ≤ at_ t k ∧ at_ t k ≤ 1000 := by
  simp only [schedOk, Bool.and_eq_true, inB_true] at h
  obtain ⟨a, b⟩ := timesOk_true h.1
  exact ⟨a, h.2.1, h.2.2, b⟩

set_option maxHeartbeats 400000 in
theorem l8Engines_any (v : Value) (l : List Int) (e : Int) (w : World) (hv : Ints w v l) :
    Calls Try.prog 69 #[v, .int .i64 e] w fun x w' => x = .returned (.bool (schedOk l e)) ∧ w = w' := by
  cases h : timesOk l
  all_goals
    go_enter Try.func69, Try.ntmps69
    go_wp2_with (first | (go_at_call 120; refine (specTimes_any _ _ _ hv).mono ?_; rintro e w' ⟨rfl, rfl⟩) | (go_at_call 70; refine (l1In_any _ _ _ _).mono ?_; rintro e w' ⟨rfl, rfl⟩))
    go_ret
    exact ⟨ret_bool (by rw [schedOk, h]; rfl), rfl⟩

set_option maxHeartbeats 400000 in
theorem canSchedule_any (v : Value) (l : List Int) (e : Int) (w : World) (hv : Ints w v l) :
    Calls Try.prog 67 #[v, .int .i64 e] w fun x w' => x = .returned (.bool (schedOk l e)) ∧ w = w' := by
  cases h : timesOk l
  · go_enter Try.func67, Try.ntmps67
    go_wp2_with (go_at_call 25; refine (implTimes_any _ _ _ hv).mono ?_; rintro e w' ⟨rfl, rfl⟩)
    go_ret
    exact ⟨ret_bool (by rw [schedOk, h]; rfl), rfl⟩
  · by_cases h1 : 1 ≤ e
    · by_cases h2 : e ≤ 3
      all_goals
        go_enter Try.func67, Try.ntmps67
        go_wp2_with (go_at_call 25; refine (implTimes_any _ _ _ hv).mono ?_; rintro e w' ⟨rfl, rfl⟩)
        go_ret
        exact ⟨ret_bool (by rw [schedOk, h]; simp [inB, h1, h2]), rfl⟩
    · go_enter Try.func67, Try.ntmps67
      go_wp2_with (go_at_call 25; refine (implTimes_any _ _ _ hv).mono ?_; rintro e w' ⟨rfl, rfl⟩)
      go_ret
      have hf : inB e 1 3 = false := inB_false.2 (by omega)
      exact ⟨ret_bool (by rw [schedOk, h, hf]; rfl), rfl⟩

/-- What engine e works at the first n jobs. -/
def load (t g : List Int) (e : Nat) : Nat → Int
  | 0 => 0
  | n + 1 => load t g e n + if at_ g n = (e : Int) then at_ t n else 0
def loads (t g : List Int) (k n : Nat) : List Int := gen (fun e => load t g e n) k
theorem load_bd {t : List Int} (g : List Int) (ht : ∀ k, 0 ≤ at_ t k ∧ at_ t k ≤ 1000) (e : Nat) : ∀ n, 0 ≤ load t g e n ∧ load t g e n ≤ 1000 * (n : Int)
  | 0 => by simp [load]
  | n + 1 => by
    have ih := load_bd g ht e n
    have := ht n
    unfold load
    split <;> omega
/-- The greatest of the first n numbers and 0. -/
def maxTo (l : List Int) : Nat → Int
  | 0 => 0
  | n + 1 => if maxTo l n < at_ l n then at_ l n else maxTo l n
def most (l : List Int) : Int := maxTo l l.length
theorem maxTo_bd {l : List Int} {B : Int} (hB : 0 ≤ B) (h : ∀ k, at_ l k ≤ B) : ∀ n, 0 ≤ maxTo l n ∧ maxTo l n ≤ B
  | 0 => by simp [maxTo]; exact hB
  | n + 1 => by
    have ih := maxTo_bd hB h n
    have := h n
    unfold maxTo
    split <;> omega

set_option maxHeartbeats 400000 in
theorem l8Most_any (v : Value) (l : List Int) (w : World) (hv : Ints w v l) :
    Calls Try.prog 71 #[v] w fun x w' => x = .returned (.int .i64 (most l)) ∧ w = w' := by
  obtain ⟨A, c, rfl, hlc, hc, hrd⟩ := hv.open_
  go_enter Try.func71, Try.ntmps71
  go_wp2
  go_loop [3, 4] (fun m i => ∃ k : Nat, k ≤ l.length ∧ i = .int .i64 k ∧ m = .int .i64 (maxTo l k)) (fun _ i => l.length - (intOf i).toNat)
  case atStart => exact ⟨0, Nat.zero_le _, rfl, rfl⟩
  case round =>
    obtain ⟨k, hk, rfl, rfl⟩ := hrel
    by_cases hlt : k < l.length
    · obtain ⟨b, o, rfl, hb, hcell⟩ := hrd.ints (by omega)
      have hck := hcell k hlt
      clear hcell
      by_cases hm : maxTo l k < at_ l k
      · go_wp2
        go_round
        case rel => exact ⟨k + 1, by omega, by go_num, by rw [maxTo, if_pos hm]⟩
        case measure => simp [intOf]; omega
      · go_wp2
        go_round
        case rel => exact ⟨k + 1, by omega, by go_num, by rw [maxTo, if_neg hm]⟩
        case measure => simp [intOf]; omega
    · have hkl : k = l.length := by omega
      subst hkl
      go_wp2
      go_ret
      exact ⟨rfl, rfl⟩

theorem maxTo_first {l : List Int} (h0 : 0 ≤ at_ l 0) : maxTo l 1 = at_ l 0 := by
  by_cases h : 0 < at_ l 0
  · simp [maxTo, h]
  · have : at_ l 0 = 0 := by omega
    simp [maxTo, this]

set_option maxHeartbeats 400000 in
theorem slicesMax_any (v : Value) (l : List Int) (w : World) (hv : Ints w v l) (hn : 0 < l.length) (h0 : 0 ≤ at_ l 0) :
    Calls Try.prog 68 #[v] w fun x w' => x = .returned (.int .i64 (most l)) ∧ w = w' := by
  obtain ⟨A, c, rfl, hlc, hc, hrd⟩ := hv.open_
  have h1 := Lib.hid (maxTo_first h0)
  obtain ⟨b, o, rfl, hb, hcell⟩ := hrd.ints (by omega)
  have HC := Lib.hid hcell
  have hc0 : w.cell? ⟨b, o, none⟩ = some (.int .i64 (at_ l 0)) := by simpa using hcell 0 hn
  clear hcell
  go_enter Try.func68, Try.ntmps68
  go_wp2
  go_loop [3, 4] (fun m i => ∃ k : Nat, 1 ≤ k ∧ k ≤ l.length ∧ i = .int .i64 k ∧ m = .int .i64 (maxTo l k)) (fun _ i => l.length - (intOf i).toNat)
  case atStart => exact ⟨1, Nat.le_refl _, hn, rfl, by rw [h1.out]⟩
  case round =>
    obtain ⟨k, hk1, hk, rfl, rfl⟩ := hrel
    by_cases hlt : k < l.length
    · have hck := HC.out k hlt
      by_cases hm : maxTo l k < at_ l k
      · go_wp2
        go_round
        case rel => exact ⟨k + 1, by omega, by omega, by go_num, by rw [maxTo, if_pos hm]⟩
        case measure => simp [intOf]; omega
      · go_wp2
        go_round
        case rel => exact ⟨k + 1, by omega, by omega, by go_num, by rw [maxTo, if_neg hm]⟩
        case measure => simp [intOf]; omega
    · have hkl : k = l.length := by omega
      subst hkl
      go_wp2
      go_ret
      exact ⟨rfl, rfl⟩

/-- all numbers of a list name engines. -/
def namesOk (g : List Int) (e : Int) : Bool := g.all fun x => inB x 0 (e - 1)
theorem namesOk_at {g : List Int} {e : Int} (h : namesOk g e = true) {k : Nat} (hk : k < g.length) : 0 ≤ at_ g k ∧ at_ g k < e := by
  simp only [namesOk, List.all_eq_true, inB_true] at h
  have := h _ (at_mem g k hk)
  omega
theorem loads_length (t g : List Int) (k n : Nat) : (loads t g k n).length = k := gen_length _ _
theorem at_loads {t g : List Int} {k n j : Nat} (h : j < k) : at_ (loads t g k n) j = load t g j n := at_gen h
theorem load_step (t g : List Int) (e n : Nat) (he : at_ g n = (e : Int)) : load t g e (n + 1) = load t g e n + at_ t n := by simp [load, he]
theorem load_skip (t g : List Int) (e n : Nat) (he : at_ g n ≠ (e : Int)) : load t g e (n + 1) = load t g e n := by simp [load, he]
/-- The row of loads, one job on. -/
theorem loads_set {t g : List Int} {k n : Nat} {cs : List Value} {a : Nat} (hl : cs.length = k) (hcs : ∀ j, j < k → cs[j]? = some (.int .i64 (load t g j n))) (ha : at_ g n = (a : Int)) :
    ∀ j, j < k → (cs.set a (.int .i64 (load t g a n + at_ t n)))[j]? = some (.int .i64 (load t g j (n + 1))) := by
  intro j hj
  by_cases e : j = a
  · subst e; rw [List.getElem?_set_self (by omega), load_step t g j n ha]
  · rw [List.getElem?_set_ne (by omega), hcs j hj, load_skip t g j n (by omega)]

set_option maxHeartbeats 1000000 in
theorem l8Loads_any (v u : Value) (t g : List Int) (e : Int) (w : World) (hv : Ints w v t) (hu : Ints w u g) (hle : g.length ≤ t.length) (hok : schedOk t e = true) (hg : namesOk g e = true) :
    Calls Try.prog 72 #[v, u, .int .i64 e] w fun x w' => ∃ r, x = .returned r ∧ Own w' w.heap.size r (loads t g e.toNat g.length) ∧ Below w.heap.size w w' := by
  obtain ⟨t8, e1, e3, tb⟩ := schedOk_true hok
  obtain ⟨k, rfl⟩ : ∃ k : Nat, e = k := ⟨e.toNat, by omega⟩
  rw [Int.toNat_natCast]
  obtain ⟨A, c, rfl, hlc, hc, hrd⟩ := hv.open_
  obtain ⟨B, d, rfl, hld, hd, hrd2⟩ := hu.open_
  have hmk := fun W => Try.mkInts k (by omega) W
  have TB := Lib.hid tb
  clear tb
  go_enter Try.func72, Try.ntmps72
  go_wp2
  go_loopw [8] (fun i wr => ∃ (n : Nat) (cs : List Value), n ≤ g.length ∧ i = .int .i64 n ∧ Blk wr w.heap.size 3 cs ∧ cs.length = k ∧ (∀ j, j < k → cs[j]? = some (.int .i64 (load t g j n))) ∧ Below w.heap.size w wr)
    (fun i _ => g.length - (intOf i).toNat)
  case atStart => exact ⟨0, _, Nat.zero_le _, rfl, Blk.new _ _ _, reps_length _ _, fun j hj => reps_get _ hj, (Below.refl _ _).alloc (Nat.le_refl _) _⟩
  case round =>
    obtain ⟨n, cs, hn, rfl, hblk, hcl, hcs, hbel⟩ := hrel
    have HO := Lib.hid (And.intro hcl (And.intro hcs hbel))
    have hz := hbel.size
    clear hcl hcs
    by_cases hlt : n < g.length
    · obtain ⟨b, o, rfl, hb, hcell⟩ := hrd.ints (by omega)
      obtain ⟨b2, o2, rfl, hb2, hcell2⟩ := hrd2.ints (by omega)
      have c1 : wr.cell? ⟨b, o + n, none⟩ = some (.int .i64 (at_ t n)) := (hbel.cell (by exact hb)).trans (hcell n (by omega))
      have c2 : wr.cell? ⟨b2, o2 + n, none⟩ = some (.int .i64 (at_ g n)) := (hbel.cell (by exact hb2)).trans (hcell2 n hlt)
      have hnm := namesOk_at hg hlt
      obtain ⟨a, ha⟩ : ∃ a : Nat, at_ g n = a := ⟨(at_ g n).toNat, by omega⟩
      rw [ha] at c2 hnm
      have c3 : wr.cell? ⟨w.heap.size, a, none⟩ = some (.int .i64 (load t g a n)) := by rw [hblk.cell]; exact HO.out.2.1 a (by omega)
      have hfw := hblk.frozen a
      have HA := Lib.hid ha
      have lb := load_bd g TB.out a n
      have tbn := TB.out n
      have p1 : (n : Int) < (g.length : Int) := by omega
      have p2 : (n : Int) < (t.length : Int) := by omega
      have p3 : (0 : Int) ≤ (n : Int) := by omega
      have p4 : (a : Int) < (k : Int) := by omega
      have p5 : (0 : Int) ≤ (a : Int) := by omega
      clear hcell hcell2 hbel ha hnm
      go_wp2
      go_still_tail 18, (by kernel_rfl)
      change wpList _ _ _ _ _ wr.drew
      go_wp2
      go_roundw
      case rel => exact ⟨n + 1, _, by omega, by go_num, hblk.set_ a _, by rw [List.length_set]; exact HO.out.1, loads_set HO.out.1 HO.out.2.1 HA.out, (HO.out.2.2.drew).setCell (Nat.le_refl _) _⟩
      case measure => simp [intOf]; omega
    · have hnl : n = g.length := by omega
      subst hnl
      go_wp2
      go_ret
      exact ⟨_, rfl, own_gen (f := fun e => load t g e g.length) (Nat.le_refl _) hblk HO.out.1 (by omega) HO.out.2.1 (fun j hj => by have := load_bd g TB.out j g.length; omega), HO.out.2.2⟩

def spanOk (t g : List Int) (e : Int) : Bool := schedOk t e && decide (g.length = t.length) && namesOk g e
def spanOf (t g : List Int) (e : Int) : Int := if spanOk t g e = true then most (loads t g e.toNat g.length) else -1
theorem span_yes {t g : List Int} {e : Int} (h1 : schedOk t e = true) (h2 : g.length = t.length) (h3 : namesOk g e = true) : spanOf t g e = most (loads t g e.toNat g.length) := by
  simp [spanOf, spanOk, h1, h2, h3]
theorem span_no1 {t g : List Int} {e : Int} (h1 : ¬ schedOk t e = true) : spanOf t g e = -1 := by simp [spanOf, spanOk, h1]
theorem span_no2 {t g : List Int} {e : Int} (h1 : ¬ g.length = t.length) : spanOf t g e = -1 := by simp [spanOf, spanOk, h1]
theorem span_no3 {t g : List Int} {e : Int} (h1 : namesOk g e = false) : spanOf t g e = -1 := by simp [spanOf, spanOk, h1]
theorem namesOk_mk {g : List Int} {e : Int} (h : ∀ j, j < g.length → 0 ≤ at_ g j ∧ at_ g j < e) : namesOk g e = true :=
  allTo (p := fun x => inB x 0 (e - 1)) fun j hj => inB_true.2 (by have := h j hj; omega)
theorem namesOk_not {g : List Int} {e : Int} {k : Nat} (hk : k < g.length) (h : ¬ (0 ≤ at_ g k ∧ at_ g k < e)) : namesOk g e = false :=
  allNot (p := fun x => inB x 0 (e - 1)) hk (inB_false.2 (by omega))

set_option maxHeartbeats 1000000 in
theorem specSpan_any (v u : Value) (t g : List Int) (e : Int) (w : World) (hv : Ints w v t) (hu : Ints w u g) (he : -9223372036854775808 ≤ e ∧ e ≤ 9223372036854775807) :
    Calls Try.prog 17 #[v, u, .int .i64 e] w fun x w' => x = .returned (.int .i64 (spanOf t g e)) ∧ Below w.heap.size w w' := by
  have hv' := hv
  have hu' := hu
  obtain ⟨A, c, rfl, hlc, hc, hrd⟩ := hv.open_
  obtain ⟨B, d, rfl, hld, hd, hrd2⟩ := hu.open_
  by_cases h1 : schedOk t e = true
  · by_cases h2 : g.length = t.length
    · have q2 : ((g.length : Int) != (t.length : Int)) = false := by simp [h2]
      have H2 := Lib.hid h2
      obtain ⟨t8, e1, e3, tb⟩ := schedOk_true h1
      clear h2 tb
      go_enter Try.func17, Try.ntmps17
      go_wp2_with fail
      refine (l8Engines_any _ _ _ _ hv').mono ?_; rintro x w' ⟨rfl, rfl⟩
      go_wp2_with fail
      go_loop [7] (fun i => ∃ k : Nat, k ≤ g.length ∧ i = .int .i64 k ∧ ∀ j, j < k → 0 ≤ at_ g j ∧ at_ g j < e) (fun i => g.length - (intOf i).toNat)
      case atStart => exact ⟨0, Nat.zero_le _, rfl, fun j hj => absurd hj (by omega)⟩
      case round =>
        obtain ⟨k, hk, rfl, hall⟩ := hrel
        have HA := Lib.hid hall
        clear hall
        by_cases hlt : k < g.length
        · obtain ⟨b, o, rfl, hb, hcell⟩ := hrd2.ints (by omega)
          have hck := hcell k hlt
          clear hcell
          go_wp2_with (go_at_call 70; refine (l1In_any _ _ _ _).mono ?_; rintro e w' ⟨rfl, rfl⟩)
          · have h : (!inB (at_ g k) 0 (e - 1)) = true := by assumption
            have h' : inB (at_ g k) 0 (e - 1) = false := by simpa using h
            go_ret
            exact ⟨ret_int (span_no3 (namesOk_not hlt (by have := inB_false.1 h'; omega))).symm, Below.refl _ _⟩
          · have h : (!inB (at_ g k) 0 (e - 1)) = false := by assumption
            have h' : inB (at_ g k) 0 (e - 1) = true := by simpa using h
            go_round
            case rel => exact ⟨k + 1, by omega, by go_num, toSucc HA.out (by have := inB_true.1 h'; omega)⟩
            case measure => simp [intOf]; omega
        · have hn : namesOk g e = true := namesOk_mk (fun j hj => HA.out j (by omega))
          have HS := Lib.hid (span_yes h1 H2.out hn)
          go_wp2_with fail
          refine (l8Loads_any _ _ _ _ _ _ hv' hu' (by have := H2.out; omega) h1 hn).mono ?_; rintro x w1 ⟨r, rfl, o1, b1⟩
          go_wp2_with fail
          refine (l8Most_any _ _ _ o1.ints).mono ?_; rintro x w' ⟨rfl, rfl⟩
          go_wp2
          go_ret
          exact ⟨ret_int HS.out.symm, b1⟩
    · have q2 : ((g.length : Int) != (t.length : Int)) = true := by simp; omega
      have HS := Lib.hid (span_no2 (e := e) h2)
      go_enter Try.func17, Try.ntmps17
      go_wp2_with (go_at_call 69; refine (l8Engines_any _ _ _ _ hv').mono ?_; rintro e w' ⟨rfl, rfl⟩)
      go_ret
      exact ⟨ret_int HS.out.symm, Below.refl _ _⟩
  · have HS := Lib.hid (span_no1 (g := g) h1)
    go_enter Try.func17, Try.ntmps17
    go_wp2_with (go_at_call 69; refine (l8Engines_any _ _ _ _ hv').mono ?_; rintro e w' ⟨rfl, rfl⟩)
    go_ret
    exact ⟨ret_int HS.out.symm, Below.refl _ _⟩

set_option maxHeartbeats 1000000 in
theorem implSpan_any (v u : Value) (t g : List Int) (e : Int) (w : World) (hv : Ints w v t) (hu : Ints w u g) (he : -9223372036854775808 ≤ e ∧ e ≤ 9223372036854775807) :
    Calls Try.prog 16 #[v, u, .int .i64 e] w fun x w' => x = .returned (.int .i64 (spanOf t g e)) ∧ Below w.heap.size w w' := by
  have hv' := hv
  have hu' := hu
  obtain ⟨A, c, rfl, hlc, hc, hrd⟩ := hv.open_
  obtain ⟨B, d, rfl, hld, hd, hrd2⟩ := hu.open_
  by_cases h1 : schedOk t e = true
  · by_cases h2 : g.length = t.length
    · have q2 : ((g.length : Int) != (t.length : Int)) = false := by simp [h2]
      have H2 := Lib.hid h2
      obtain ⟨t8, e1, e3, tb⟩ := schedOk_true h1
      have TB := Lib.hid tb
      clear h2 tb
      obtain ⟨k, rfl⟩ : ∃ k : Nat, e = k := ⟨e.toNat, by omega⟩
      have hmk := fun W => Try.mkInts k (by omega) W
      go_enter Try.func16, Try.ntmps16
      go_wp2_with fail
      refine (canSchedule_any _ _ _ _ hv').mono ?_; rintro x w' ⟨rfl, rfl⟩
      go_wp2_with fail
      go_loopw [25] (fun i wr => ∃ (n : Nat) (cs : List Value), n ≤ g.length ∧ i = .int .i64 n ∧ Blk wr w.heap.size 3 cs ∧ cs.length = k ∧ (∀ j, j < k → cs[j]? = some (.int .i64 (load t g j n))) ∧ (∀ j, j < n → 0 ≤ at_ g j ∧ at_ g j < (k : Int)) ∧ Below w.heap.size w wr)
        (fun i _ => g.length - (intOf i).toNat)
      case atStart => exact ⟨0, _, Nat.zero_le _, rfl, Blk.new _ _ _, reps_length _ _, fun j hj => reps_get _ hj, fun j hj => absurd hj (by omega), bel_alloc _ _⟩
      case round =>
        obtain ⟨n, cs, hn, rfl, hblk, hcl, hcs, hall, hbel⟩ := hrel
        have HO := Lib.hid (And.intro hcl (And.intro hcs (And.intro hall hbel)))
        have hz := hbel.size
        clear hcl hcs hall
        by_cases hlt : n < g.length
        · obtain ⟨b, o, rfl, hb, hcell⟩ := hrd.ints (by have := H2.out; omega)
          obtain ⟨b2, o2, rfl, hb2, hcell2⟩ := hrd2.ints (by omega)
          have hlt2 : n < t.length := by have := H2.out; omega
          have c1 : wr.cell? ⟨b, o + n, none⟩ = some (.int .i64 (at_ t n)) := (hbel.cell (by exact hb)).trans (hcell n hlt2)
          have c2 : wr.cell? ⟨b2, o2 + n, none⟩ = some (.int .i64 (at_ g n)) := (hbel.cell (by exact hb2)).trans (hcell2 n hlt)
          clear hcell hcell2 hbel
          by_cases hnm : 0 ≤ at_ g n ∧ at_ g n < (k : Int)
          · obtain ⟨a, ha⟩ : ∃ a : Nat, at_ g n = a := ⟨(at_ g n).toNat, by omega⟩
            have HN := Lib.hid hnm
            rw [ha] at c2 hnm
            have c3 : wr.cell? ⟨w.heap.size, a, none⟩ = some (.int .i64 (load t g a n)) := by rw [hblk.cell]; exact HO.out.2.1 a (by omega)
            have hfw := hblk.frozen a
            have HA := Lib.hid ha
            have lb := load_bd g TB.out a n
            have tbn := TB.out n
            have p1 : (n : Int) < (g.length : Int) := by omega
            have p2 : (n : Int) < (t.length : Int) := by omega
            have p3 : (0 : Int) ≤ (n : Int) := by omega
            have p4 : (a : Int) < (k : Int) := by omega
            have p5 : (0 : Int) ≤ (a : Int) := by omega
            clear ha hnm
            go_wp2
            go_still_tail 10, (by kernel_rfl)
            change wpList _ _ _ _ _ wr.drew
            go_wp2
            go_roundw
            case rel => exact ⟨n + 1, _, by omega, by go_num, hblk.set_ a _, by rw [List.length_set]; exact HO.out.1, loads_set HO.out.1 HO.out.2.1 HA.out, toSucc HO.out.2.2.1 HN.out, (HO.out.2.2.2.drew).setCell (Nat.le_refl _) _⟩
            case measure => simp [intOf]; omega
          · have HS := Lib.hid (span_no3 (t := t) (namesOk_not hlt hnm))
            go_wp2
            all_goals first
              | (go_ret; exact ⟨ret_int HS.out.symm, HO.out.2.2.2⟩)
              | (exfalso; simp_all; omega)
        · have hnl : n = g.length := by omega
          subst hnl
          have hn : namesOk g k = true := namesOk_mk (fun j hj => HO.out.2.2.1 j hj)
          have HS := Lib.hid (span_yes h1 H2.out hn)
          have ho : Own wr w.heap.size (.slice (some ⟨w.heap.size, 0, none⟩) k k) (loads t g k g.length) :=
            own_gen (f := fun e => load t g e g.length) (Nat.le_refl _) hblk HO.out.1 (by omega) HO.out.2.1 (fun j hj => by have := load_bd g TB.out j g.length; have := H2.out; omega)
          have HW := Lib.hid ho
          clear ho
          go_wp2_with fail
          refine (slicesMax_any _ _ _ HW.out.ints (by rw [loads_length]; omega) (by rw [at_loads (by omega)]; exact (load_bd g TB.out 0 g.length).1)).mono ?_; rintro x w' ⟨rfl, rfl⟩
          go_wp2
          go_ret
          rw [HS.out, Int.toNat_natCast]
          exact ⟨rfl, HO.out.2.2.2⟩
    · have q2 : ((g.length : Int) != (t.length : Int)) = true := by simp; omega
      have HS := Lib.hid (span_no2 (e := e) h2)
      go_enter Try.func16, Try.ntmps16
      go_wp2_with (go_at_call 67; refine (canSchedule_any _ _ _ _ hv').mono ?_; rintro e w' ⟨rfl, rfl⟩)
      go_ret
      exact ⟨ret_int HS.out.symm, Below.refl _ _⟩
  · have HS := Lib.hid (span_no1 (g := g) h1)
    go_enter Try.func16, Try.ntmps16
    go_wp2_with (go_at_call 67; refine (canSchedule_any _ _ _ _ hv').mono ?_; rintro e w' ⟨rfl, rfl⟩)
    go_ret
    exact ⟨ret_int HS.out.symm, Below.refl _ _⟩

end Go.Proofs.Ytegofpfhlhfdnaa
