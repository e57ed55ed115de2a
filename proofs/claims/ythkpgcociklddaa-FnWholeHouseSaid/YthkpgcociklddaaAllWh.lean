import Derived.Test.YthkpgcociklddaaInts
import Derived.Test.YthkpgcociklddaaTable
import Derived.Laws.BitsAllLaws
import Derived.Laws.BitsLemmas
import Derived.Test.YthkpgcociklddaaSlices
import Derived.Deep.RegionLaw
import Derived.Deep.RegionWith
import Derived.Deep.DrawnRows
import Derived.Test.YthkpgcociklddaaPoly
import Derived.OwnWalk
import Derived.Test.YthkpgcociklddaaColPlain
import Derived.Test.YthkpgcociklddaaTurn
import Derived.Test.YthkpgcociklddaaTurnS
import Derived.Test.YthkpgcociklddaaRunI
import Derived.Test.YthkpgcociklddaaJobPlain
import Derived.Test.YthkpgcociklddaaPartPlain
import Derived.Test.YthkpgcociklddaaCols
import Derived.LoopN
import Derived.Test.YthkpgcociklddaaJob
import Derived.Test.YthkpgcociklddaaEngLaw
import Derived.Deep.RegionHeld3
import Derived.Test.YthkpgcociklddaaTotal
import Derived.Test.YthkpgcociklddaaEngsF
import Derived.Test.YthkpgcociklddaaPartE
import Derived.Test.YthkpgcociklddaaParts
/-
  Contracts of Vote and FaultyOne and what they call.
-/
namespace Go.Proofs.Ythkpgcociklddaa
open Go.RowKit
set_option linter.unusedVariables false

set_option maxHeartbeats 400000 in
theorem slicesEqual_any (v u : Value) (l m : List Int) (w : World) (hv : Ints w v l) (hu : Ints w u m) :
    Calls Try.prog 51 #[v, u] w fun e w' => e = .returned (.bool (eqL l m)) ∧ Below w.heap.size w w' := by
  obtain ⟨A, c, rfl, hlc, hc, hrd⟩ := hv.open_
  obtain ⟨B, d, rfl, hld, hd, hrd2⟩ := hu.open_
  by_cases he : l.length = m.length
  · have h1 : ((l.length : Int) != (m.length : Int)) = false := by simp [he]
    have HE := Lib.hid he
    clear he
    go_enter Try.func51, Try.ntmps51
    go_wp2
    go_loopw [13] (fun i wr => ∃ (k : Nat) , k ≤ l.length ∧ i = .int .i64 k ∧ (∀ j, j < k → at_ l j = at_ m j) ∧ ∃ n, wr = w.drewN n)
      (fun i _ => l.length - (intOf i).toNat)
    case atStart => exact ⟨0, Nat.zero_le _, rfl, fun j hj => absurd hj (by omega), 0, rfl⟩
    case round =>
      obtain ⟨k, hk, rfl, hall, nd, rfl⟩ := hrel
      have HA := Lib.hid hall
      clear hall
      by_cases hlt : k < l.length
      · have hltm : k < m.length := by have := HE.out; omega
        obtain ⟨b, o, rfl, hb, hcell⟩ := hrd.ints (by omega)
        obtain ⟨b2, o2, rfl, hb2, hcell2⟩ := hrd2.ints (by omega)
        have hck := hcell k hlt
        have hck2 := hcell2 k hltm
        have p1 : (k : Int) < (l.length : Int) := by omega
        have p2 : (k : Int) < (m.length : Int) := by omega
        have p3 : (0 : Int) ≤ (k : Int) := by omega
        clear hcell hcell2
        go_wp2
        go_quiet (fail)
        go_wp2
        · have h : (at_ l k != at_ m k) = true := by assumption
          go_ret
          exact ⟨ret_bool (eqL_false.2 (fun e => by rw [e] at h; simp at h)).symm, below_drewN (below_drewN (Below.refl _ _) _) _⟩
        · have h : (at_ l k != at_ m k) = false := by assumption
          go_roundw
          case rel => exact ⟨k + 1, by omega, by go_num, toSucc HA.out (by simpa using h), _, rfl⟩
          case measure => simp [intOf]; omega
      · go_wp2
        go_ret
        exact ⟨ret_bool (eqL_true.2 (list_ext HE.out (fun j hj => HA.out j (by omega)))).symm, below_drewN (Below.refl _ _) _⟩
  · have h1 : ((l.length : Int) != (m.length : Int)) = true := by simp; omega
    go_enter Try.func51, Try.ntmps51
    go_wp2
    go_ret
    exact ⟨ret_bool (eqL_false.2 (fun h => he (by rw [h]))).symm, Below.refl _ _⟩

def alikeOk (a b : List Int) : Bool := tableOk a && tableOk b && decide (a.length = b.length)
def threeOk (a b c : List Int) : Bool := alikeOk a b && alikeOk a c
theorem alikeOk_true {a b : List Int} (h : alikeOk a b = true) : tableOk a = true ∧ tableOk b = true ∧ a.length = b.length := by
  simp only [alikeOk, Bool.and_eq_true, decide_eq_true_eq] at h; exact ⟨h.1.1, h.1.2, h.2⟩
theorem threeOk_true {a b c : List Int} (h : threeOk a b c = true) : tableOk a = true ∧ tableOk b = true ∧ tableOk c = true ∧ a.length = b.length ∧ a.length = c.length := by
  simp only [threeOk, Bool.and_eq_true] at h
  obtain ⟨h1, h2, h3⟩ := alikeOk_true h.1
  obtain ⟨h4, h5, h6⟩ := alikeOk_true h.2
  exact ⟨h1, h2, h5, h3, h6⟩

set_option maxHeartbeats 400000 in
theorem alike_any (v u : Value) (l m : List Int) (w : World) (hv : Ints w v l) (hu : Ints w u m) :
    Calls Try.prog 50 #[v, u] w fun e w' => e = .returned (.bool (alikeOk l m)) ∧ w = w' := by
  have hv' := hv
  have hu' := hu
  obtain ⟨A, c, rfl, hlc, hc, hrd⟩ := hv.open_
  obtain ⟨B, d, rfl, hld, hd, hrd2⟩ := hu.open_
  clear hrd hrd2 hv hu
  by_cases h1 : tableOk l = true <;> by_cases h2 : tableOk m = true <;> by_cases h3 : ((l.length : Int) == (m.length : Int)) = true
  all_goals
    go_enter Try.func50, Try.ntmps50
    go_wp2_with (go_at_call 16; refine (implTable_any _ _ _ (by assumption)).mono ?_; rintro e w' ⟨rfl, rfl⟩)
    go_ret
    exact ⟨ret_bool (by simp_all [alikeOk]; try omega), rfl⟩

def faulty (a b c : List Int) : Int :=
  if threeOk a b c = true then (if eqL a b = true then (if eqL a c = true then -1 else 2) else if eqL a c = true then 1 else if eqL b c = true then 0 else -2) else -3
theorem faulty_cases {a b c : List Int} (h : threeOk a b c = true) :
    (eqL a b = true ∧ eqL a c = true ∧ eqL b c = true ∧ faulty a b c = -1) ∨ (eqL a b = true ∧ eqL a c = false ∧ eqL b c = false ∧ faulty a b c = 2) ∨
    (eqL a b = false ∧ eqL a c = true ∧ eqL b c = false ∧ faulty a b c = 1) ∨ (eqL a b = false ∧ eqL a c = false ∧ eqL b c = true ∧ faulty a b c = 0) ∨
    (eqL a b = false ∧ eqL a c = false ∧ eqL b c = false ∧ faulty a b c = -2) := by
  by_cases h1 : a = b
  · subst h1
    by_cases h2 : a = c
    · subst h2; simp [faulty, h, eqL]
    · simp [faulty, h, eqL, h2]
  · by_cases h2 : a = c
    · subst h2
      have h3 : ¬ b = a := fun e => h1 e.symm
      simp [faulty, h, eqL, h1, h3]
    · by_cases h3 : b = c
      · subst h3; simp [faulty, h, eqL, h1]
      · simp [faulty, h, eqL, h1, h2, h3]

set_option maxHeartbeats 400000 in
theorem implFaulty_any (v u t : Value) (l m n : List Int) (w : World) (hv : Ints w v l) (hu : Ints w u m) (ht : Ints w t n) :
    Calls Try.prog 18 #[v, u, t] w fun e w' => e = .returned (.int .i64 (faulty l m n)) ∧ Below w.heap.size w w' := by
  by_cases h : threeOk l m n = true
  · have h' := h
    simp only [threeOk, Bool.and_eq_true] at h'
    obtain ⟨a1, a2⟩ := h'
    rcases faulty_cases h with ⟨h1, h2, h3, hf⟩ | ⟨h1, h2, h3, hf⟩ | ⟨h1, h2, h3, hf⟩ | ⟨h1, h2, h3, hf⟩ | ⟨h1, h2, h3, hf⟩
    all_goals
      have HF := Lib.hid hf
      clear hf h
      go_enter Try.func18, Try.ntmps18
      go_wp2_with fail
      refine (alike_any _ _ _ _ _ hv hu).mono ?_; rintro e w' ⟨rfl, rfl⟩
      go_wp2_with fail
      refine (alike_any _ _ _ _ _ hv ht).mono ?_; rintro e w' ⟨rfl, rfl⟩
      go_wp2_with fail
      refine (slicesEqual_any _ _ _ _ _ hv hu).mono ?_; rintro e w1 ⟨rfl, b1⟩
      go_wp2_with fail
      refine (slicesEqual_any _ _ _ _ _ (hv.bel b1) (ht.bel b1)).mono ?_; rintro e w2 ⟨rfl, b2⟩
      go_wp2_with fail
    · go_ret
      exact ⟨ret_int HF.out.symm, bel_trans b1 b2⟩
    · go_ret
      exact ⟨ret_int HF.out.symm, bel_trans b1 b2⟩
    · go_ret
      exact ⟨ret_int HF.out.symm, bel_trans b1 b2⟩
    all_goals
      refine (slicesEqual_any _ _ _ _ _ ((hu.bel b1).bel b2) ((ht.bel b1).bel b2)).mono ?_; rintro e w3 ⟨rfl, b3⟩
      go_wp2_with fail
      go_ret
      exact ⟨ret_int HF.out.symm, bel_trans (bel_trans b1 b2) b3⟩
  · have HF := Lib.hid (show faulty l m n = -3 from by simp [faulty, h])
    simp only [threeOk, Bool.and_eq_true, not_and, Bool.not_eq_true] at h
    by_cases a1 : alikeOk l m = true
    · have a2 := h a1
      go_enter Try.func18, Try.ntmps18
      go_wp2_with fail
      refine (alike_any _ _ _ _ _ hv hu).mono ?_; rintro e w' ⟨rfl, rfl⟩
      go_wp2_with fail
      refine (alike_any _ _ _ _ _ hv ht).mono ?_; rintro e w' ⟨rfl, rfl⟩
      go_wp2_with fail
      go_ret
      exact ⟨ret_int HF.out.symm, Below.refl _ _⟩
    · go_enter Try.func18, Try.ntmps18
      go_wp2_with fail
      refine (alike_any _ _ _ _ _ hv hu).mono ?_; rintro e w' ⟨rfl, rfl⟩
      go_wp2_with fail
      go_ret
      exact ⟨ret_int HF.out.symm, Below.refl _ _⟩

end Go.Proofs.Ythkpgcociklddaa

/-
  Contracts of Vote.
-/
namespace Go.Proofs.Ythkpgcociklddaa
open Go.RowKit
set_option linter.unusedVariables false

def vok (x y z : Int) : Bool := x == y || x == z || y == z
def vpick (x y z : Int) : Int := if x = y ∨ x = z then x else y
def vAll (a b c : List Int) : Bool := (List.range a.length).all fun k => vok (at_ a k) (at_ b k) (at_ c k)
def voteOk (a b c : List Int) : Bool := threeOk a b c && vAll a b c
def voteR (a b c : List Int) : List Int := if voteOk a b c = true then gen (fun k => vpick (at_ a k) (at_ b k) (at_ c k)) a.length else []
theorem vAll_not {a b c : List Int} {k : Nat} (hk : k < a.length) (h : vok (at_ a k) (at_ b k) (at_ c k) = false) : vAll a b c = false := by
  rw [Bool.eq_false_iff]
  intro e
  simp only [vAll, List.all_eq_true, List.mem_range] at e
  rw [e k hk] at h
  cases h
theorem vAll_yes {a b c : List Int} (h : ∀ k, k < a.length → vok (at_ a k) (at_ b k) (at_ c k) = true) : vAll a b c = true := by
  simp only [vAll, List.all_eq_true, List.mem_range]
  exact h
theorem vpick_wf {a b c : List Int} (ha : Wf a) (hb : Wf b) (k : Nat) : -9223372036854775808 ≤ vpick (at_ a k) (at_ b k) (at_ c k) ∧ vpick (at_ a k) (at_ b k) (at_ c k) ≤ 9223372036854775807 := by
  unfold vpick
  split
  · exact ha.at a k
  · exact hb.at b k

theorem vpick_1 {x y z : Int} (h : (x == y) = true) : x = vpick x y z := by simp at h; simp [vpick, h]
theorem vpick_2 {x y z : Int} (h : (x == z) = true) : x = vpick x y z := by simp at h; simp [vpick, h]
theorem vpick_3 {x y z : Int} (h1 : (x == y) = false) (h2 : (x == z) = false) : y = vpick x y z := by simp at h1 h2; simp [vpick, h1, h2]
theorem vote_step {w : World} {base : Nat} {v : Value} {f : Nat → Int} {k : Nat} {z : Int} (h : Own w base v (gen f k ++ [z])) (hz : z = f k) : Own w base v (gen f (k + 1)) := by
  rw [gen_succ, ← hz]; exact h

theorem vote_set {cs : List Value} {f : Nat → Int} {k n : Nat} {z : Int} (hl : cs.length = n) (hk : k < n) (h : ∀ j, j < k → cs[j]? = some (.int .i64 (f j))) (hz : z = f k) :
    ∀ j, j < k + 1 → (cs.set k (.int .i64 z))[j]? = some (.int .i64 (f j)) := by
  intro j hj
  by_cases e : j = k
  · subst e; rw [List.getElem?_set_self (by omega), hz]
  · rw [List.getElem?_set_ne (by omega)]; exact h j (by omega)
set_option maxHeartbeats 1000000 in
theorem implVote_any (v u t : Value) (l m n : List Int) (w : World) (hv : Ints w v l) (hu : Ints w u m) (ht : Ints w t n) :
    Calls Try.prog 17 #[v, u, t] w fun e w' => ∃ r, e = .returned (.tuple #[r, .bool (voteOk l m n)]) ∧ Own w' w.heap.size r (voteR l m n) ∧ Below w.heap.size w w' := by
  by_cases h : threeOk l m n = true
  · obtain ⟨t1, _, _, q1, q2⟩ := threeOk_true h
    obtain ⟨t2, t3, _⟩ := tableOk_true t1
    have h' := h
    simp only [threeOk, Bool.and_eq_true] at h'
    obtain ⟨a1, a2⟩ := h'
    have hv' := hv
    have hu' := hu
    have ht' := ht
    obtain ⟨A, c, rfl, hlc, hc, hrd⟩ := hv.open_
    obtain ⟨B, d, rfl, hld, hd, hrd2⟩ := hu.open_
    obtain ⟨C, f, rfl, hlf, hf, hrd3⟩ := ht.open_
    have Q := Lib.hid (And.intro q1 (And.intro q2 (And.intro hv (And.intro hu ht))))
    obtain ⟨b, o, rfl, hb, hcell⟩ := hrd.ints (by omega)
    obtain ⟨b2, o2, rfl, hb2, hcell2⟩ := hrd2.ints (by omega)
    obtain ⟨b3, o3, rfl, hb3, hcell3⟩ := hrd3.ints (by omega)
    have HC := Lib.hid (And.intro hcell (And.intro hcell2 hcell3))
    clear q1 q2 hv hu ht hrd hrd2 hrd3 hcell hcell2 hcell3
    have hmk := fun W => Try.mkInts l.length (by omega) W
    go_enter Try.func17, Try.ntmps17
    go_wp2_with fail
    refine (alike_any _ _ _ _ _ hv' hu').mono ?_; rintro e w' ⟨rfl, rfl⟩
    go_wp2_with fail
    refine (alike_any _ _ _ _ _ hv' ht').mono ?_; rintro e w' ⟨rfl, rfl⟩
    go_wp2_with fail
    go_loopw [25] (fun i wr => ∃ (k : Nat) (cs : List Value), k ≤ l.length ∧ i = .int .i64 k ∧ Blk wr w.heap.size 3 cs ∧ cs.length = l.length ∧ (∀ j, j < k → cs[j]? = some (.int .i64 (vpick (at_ l j) (at_ m j) (at_ n j)))) ∧ (∀ j, j < k → vok (at_ l j) (at_ m j) (at_ n j) = true) ∧ Below w.heap.size w wr)
      (fun i _ => l.length - (intOf i).toNat)
    case atStart => exact ⟨0, _, Nat.zero_le _, rfl, Blk.new _ _ _, reps_length _ _, fun j hj => absurd hj (by omega), fun j hj => absurd hj (by omega), bel_alloc _ _⟩
    case round =>
      obtain ⟨k, cs, hk, rfl, hblk, hcl, hcs, hall, hbel⟩ := hrel
      have HO := Lib.hid (And.intro hcl (And.intro hcs (And.intro hall hbel)))
      have hz := hbel.size
      clear hcl hcs hall
      by_cases hlt : k < l.length
      · have hltm : k < m.length := by have := Q.out.1; omega
        have hltn : k < n.length := by have := Q.out.2.1; omega
        have c1 : wr.cell? ⟨b, o + k, none⟩ = some (.int .i64 (at_ l k)) := (hbel.cell (by exact hb)).trans (HC.out.1 k hlt)
        have c2 : wr.cell? ⟨b2, o2 + k, none⟩ = some (.int .i64 (at_ m k)) := (hbel.cell (by exact hb2)).trans (HC.out.2.1 k hltm)
        have c3 : wr.cell? ⟨b3, o3 + k, none⟩ = some (.int .i64 (at_ n k)) := (hbel.cell (by exact hb3)).trans (HC.out.2.2 k hltn)
        have hcw : wr.cell? ⟨w.heap.size, k, none⟩ = some (cs[k]'(by rw [HO.out.1]; exact hlt)) := by rw [hblk.cell]; exact List.getElem?_eq_getElem _
        have hfw := hblk.frozen k
        have p1 : (k : Int) < (l.length : Int) := by omega
        have p2 : (k : Int) < (m.length : Int) := by omega
        have p4 : (k : Int) < (n.length : Int) := by omega
        have p3 : (0 : Int) ≤ (k : Int) := by omega
        clear hbel
        cases e1 : (at_ l k == at_ m k)
        · cases e2 : (at_ l k == at_ n k)
          · cases e3 : (at_ m k == at_ n k)
            · go_wp2
              go_quiet (fail)
              go_wp2
              go_quiet (fail)
              go_wp2
              go_ret2
              have hx : voteOk l m n = false := by rw [voteOk, vAll_not hlt (by simp [vok, e1, e2, e3])]; simp
              rw [hx, voteR, hx]
              exact ⟨_, rfl, Own.nil_ _ _, below_drewN (below_drewN HO.out.2.2.2 _) _⟩
            · have E := Lib.hid (And.intro e1 (And.intro e2 e3))
              go_wp2
              go_quiet (fail)
              go_wp2
              go_quiet (fail)
              go_wp2
              go_roundw
              case rel => exact ⟨k + 1, _, by omega, by go_num, hblk.set_ k _, by rw [List.length_set]; exact HO.out.1, vote_set HO.out.1 hlt HO.out.2.1 (vpick_3 E.out.1 E.out.2.1), toSucc HO.out.2.2.1 (by simp [vok, E.out.2.2]), (below_drewN HO.out.2.2.2 _).setCell (Nat.le_refl _) _⟩
              case measure => simp [intOf]; omega
          · have E := Lib.hid (And.intro e1 e2)
            go_wp2
            go_quiet (fail)
            go_wp2
            go_roundw
            case rel => exact ⟨k + 1, _, by omega, by go_num, hblk.set_ k _, by rw [List.length_set]; exact HO.out.1, vote_set HO.out.1 hlt HO.out.2.1 (vpick_2 E.out.2), toSucc HO.out.2.2.1 (by simp [vok, E.out.2]), (below_drewN HO.out.2.2.2 _).setCell (Nat.le_refl _) _⟩
            case measure => simp [intOf]; omega
        · have E := Lib.hid e1
          go_wp2
          go_quiet (fail)
          go_wp2
          go_roundw
          case rel => exact ⟨k + 1, _, by omega, by go_num, hblk.set_ k _, by rw [List.length_set]; exact HO.out.1, vote_set HO.out.1 hlt HO.out.2.1 (vpick_1 E.out), toSucc HO.out.2.2.1 (by simp [vok, E.out]), (below_drewN HO.out.2.2.2 _).setCell (Nat.le_refl _) _⟩
          case measure => simp [intOf]; omega
      · have hkl : k = l.length := by omega
        go_wp2
        go_ret2
        have hx : voteOk l m n = true := by rw [voteOk, h, vAll_yes (fun j hj => HO.out.2.2.1 j (by omega))]; rfl
        rw [hx, voteR, hx, if_pos rfl]
        exact ⟨_, rfl, own_gen (f := fun k => vpick (at_ l k) (at_ m k) (at_ n k)) (Nat.le_refl _) hblk HO.out.1 (by omega) (fun j hj => HO.out.2.1 j (by omega)) (fun j _ => vpick_wf Q.out.2.2.1.2 Q.out.2.2.2.1.2 j), HO.out.2.2.2⟩
  · have hx : voteOk l m n = false := by simp [voteOk, h]
    have HX := Lib.hid (show voteR l m n = [] from by simp [voteR, hx])
    simp only [threeOk, Bool.and_eq_true, not_and, Bool.not_eq_true] at h
    by_cases a1 : alikeOk l m = true
    · have a2 := h a1
      go_enter Try.func17, Try.ntmps17
      go_wp2_with fail
      refine (alike_any _ _ _ _ _ hv hu).mono ?_; rintro e w' ⟨rfl, rfl⟩
      go_wp2_with fail
      refine (alike_any _ _ _ _ _ hv ht).mono ?_; rintro e w' ⟨rfl, rfl⟩
      go_wp2_with fail
      go_ret2
      rw [HX.out, hx]
      exact ⟨_, rfl, Own.nil_ _ _, Below.refl _ _⟩
    · go_enter Try.func17, Try.ntmps17
      go_wp2_with fail
      refine (alike_any _ _ _ _ _ hv hu).mono ?_; rintro e w' ⟨rfl, rfl⟩
      go_wp2_with fail
      go_ret2
      rw [HX.out, hx]
      exact ⟨_, rfl, Own.nil_ _ _, Below.refl _ _⟩

end Go.Proofs.Ythkpgcociklddaa

/-
  Contracts of the reader of drawn bytes: l9Open, pick, num.
-/
namespace Go.Proofs.Ythkpgcociklddaa
open Go.RowKit
set_option linter.unusedVariables false
set_option maxRecDepth 100000

theorem ofInt_i64 (a : Nat) (ha : a < 9223372036854775808) : (BitVec.ofInt 64 (a : Int)).toNat = a := by
  rw [BitVec.ofInt_natCast, BitVec.toNat_ofNat]; exact Nat.mod_eq_of_lt (by omega)
theorem i64_xor_nat (a b : Nat) (ha : a < 9223372036854775808) (hb : b < 9223372036854775808) : bits .xor .i64 (a : Int) (b : Int) = ((a ^^^ b : Nat) : Int) := by
  have hx : a ^^^ b < 2 ^ 63 := Nat.xor_lt_two_pow (by omega) (by omega)
  show IntKind.i64.wrap ((BitVec.ofInt 64 (a : Int) ^^^ BitVec.ofInt 64 (b : Int)).toNat : Int) = _
  rw [BitVec.toNat_xor, ofInt_i64 a ha, ofInt_i64 b hb, IntKind.wrap_i64]
  omega

/-- bytes as cells -/
def bv (l : List Int) : List Value := l.map (Value.int .u8)
theorem bv_length (l : List Int) : (bv l).length = l.length := by simp [bv]
theorem bv_get (l : List Int) (k : Nat) (h : k < l.length) : (bv l)[k]? = some (.int .u8 (at_ l k)) := by simp [bv, at_getElem? l k h]
/-- v reads as the bytes l. -/
def Bytes (w : World) (v : Value) (l : List Int) : Prop := Sl w v (bv l) ∧ ∀ n ∈ l, 0 ≤ n ∧ n ≤ 255
section
variable {w w' : World} {v : Value} {A : Option Addr} {l : List Int}
theorem Bytes.at (h : Bytes w v l) (k : Nat) : 0 ≤ at_ l k ∧ at_ l k ≤ 255 := by
  by_cases hk : k < l.length
  · exact h.2 _ (at_mem l k hk)
  · have : at_ l k = 0 := by simp [at_, List.getD, List.getElem?_eq_none (Nat.le_of_not_lt hk)]
    omega
theorem Bytes.bel (h : Bytes w v l) (hb : Below w.heap.size w w') : Bytes w' v l := ⟨h.1.below hb (Nat.le_refl _), h.2⟩
theorem Bytes.open_ (h : Bytes w v l) : ∃ A c, v = .slice A l.length c ∧ l.length ≤ c ∧ c ≤ 9223372036854775807 ∧ Rd w A (bv l) := by
  obtain ⟨⟨A, c, e, h1, h2, h3⟩, _⟩ := h
  rw [bv_length] at e h1
  exact ⟨A, c, e, h1, by unfold maxLen at h2; omega, h3⟩
theorem Rd.bytes (h : Rd w A (bv l)) (hn : 0 < l.length) : ∃ b o, A = some ⟨b, o, none⟩ ∧ b < w.heap.size ∧ ∀ k, k < l.length → w.cell? ⟨b, o + k, none⟩ = some (.int .u8 (at_ l k)) := by
  obtain ⟨b, o, e, hb, hc⟩ := h (by rw [bv_length]; exact hn)
  exact ⟨b, o, e, hb, fun k hk => hc k _ (bv_get l k hk)⟩
end
theorem Bytes.nil_ (w : World) : Bytes w (.slice none 0 0) [] := ⟨⟨none, 0, rfl, Nat.le_refl _, Nat.zero_le _, fun h => absurd h (by simp [bv])⟩, fun _ h => by simp at h⟩
theorem Bytes.of_cells {w : World} {x : Addr} {len cap : Nat} {zs : List Int} (hl : len ≤ cap) (hm : cap ≤ maxLen) (hz : zs.length = cap)
    (hcell : ∀ i, i < zs.length → w.cell? (x.add i) = some (.int .u8 (zs.getD i 0))) (hwz : ∀ n ∈ zs, (Lit.int .u8 n).wf = true) :
    Bytes w (.slice (some x) len cap) (zs.take len) := by
  have hlen : (zs.take len).length = len := by rw [List.length_take]; omega
  refine ⟨⟨some x, cap, by rw [bv_length, hlen], by rw [bv_length, hlen]; exact hl, hm, fun hn => ?_⟩, fun n hn => ?_⟩
  · rw [bv_length, hlen] at hn
    obtain ⟨b, off, spot⟩ := x
    have h0 := hcell 0 (by omega)
    have hspot : spot = Option.none := by simpa [Addr.add] using World.cell?_spot h0
    subst hspot
    refine ⟨b, off, rfl, by simpa [Addr.add] using World.block_lt_of_cell? w _ h0, fun k u hu => ?_⟩
    have hk : k < len := by
      rcases Nat.lt_or_ge k len with h | h
      · exact h
      · rw [List.getElem?_eq_none (by rw [bv_length, hlen]; exact h)] at hu; cases hu
    have hg := hcell k (by omega)
    rw [show (⟨b, off, Option.none⟩ : Addr).add k = ⟨b, off + k, Option.none⟩ from by unfold Addr.add; split <;> simp_all] at hg
    rw [hg, ← hu, bv_get _ k (by omega), at_]
    simp [List.getD, hk]
  · have h := hwz n (List.mem_of_mem_take hn)
    simp [Lit.wf, IntKind.min, IntKind.max, IntKind.signed, IntKind.bits] at h
    omega

/-- Block g is a reader of bytes; its place is not beyond K. -/
def Rdr (w : World) (g K : Nat) : Prop :=
  ∃ (A : Option Addr) (c : Nat) (l : List Int) (p : Nat), Blk w g 69 [.slice A l.length c, .int .i64 p] ∧ Bytes w (.slice A l.length c) l ∧ l.length ≤ 2000 ∧ p ≤ K ∧ ∀ a, A = some a → 0 < l.length → a.block < g
theorem Rdr.lt {w : World} {g K : Nat} (h : Rdr w g K) : g < w.heap.size := by obtain ⟨A, c, l, p, hb, _⟩ := h; exact hb.lt
theorem Rdr.bel {w w' : World} {g K : Nat} (h : Rdr w g K) (hb : Below w.heap.size w w') : Rdr w' g K := by
  obtain ⟨A, c, l, p, h1, h2, h3, h4, h5⟩ := h
  exact ⟨A, c, l, p, h1.below hb h1.lt, h2.bel hb, h3, h4, h5⟩
theorem Rdr.more {w : World} {g K K' : Nat} (h : Rdr w g K) (hK : K ≤ K') : Rdr w g K' := by
  obtain ⟨A, c, l, p, h1, h2, h3, h4, h5⟩ := h
  exact ⟨A, c, l, p, h1, h2, h3, by omega, h5⟩
theorem Rdr.grown {w w' : World} {g K : Nat} {row : Option Nat} (h : Rdr w g K) (hb : w.grownBy w' row) (hr : ∀ k, row = some k → g < k) : Rdr w' g K := by
  obtain ⟨A, c, l, p, h1, h2, h3, h4, h5⟩ := h
  refine ⟨A, c, l, p, h1.grown hb (fun e => by have := hr g e.symm; omega), ?_, h3, h4, h5⟩
  obtain ⟨⟨A', c', e, q1, q2, q3⟩, q4⟩ := h2
  injection e with e1 _ e3
  subst e1 e3
  refine ⟨⟨A, c, by rw [bv_length], q1, q2, fun h0 => ?_⟩, q4⟩
  obtain ⟨b, o, rfl, hlt, hc⟩ := q3 h0
  have hbg := h5 _ rfl (by rw [bv_length] at h0; exact h0)
  exact ⟨b, o, rfl, Nat.lt_of_lt_of_le hlt hb.size, fun k u hu => hb.cell (hc k u hu) (fun e => by have := hr b e.symm; simp at hbg; omega)⟩
theorem Bytes.take {w : World} {A : Option Addr} {c : Nat} {l : List Int} (h : Bytes w (.slice A l.length c) l) {n : Nat} (hn : n ≤ l.length) : Bytes w (.slice A n c) (l.take n) := by
  obtain ⟨A', c', e, h1, h2, h3⟩ := h.open_
  injection e with e1 _ e3
  subst e1 e3
  have hl : (l.take n).length = n := by rw [List.length_take]; omega
  refine ⟨⟨A, c, by rw [bv_length, hl], by rw [bv_length, hl]; omega, by unfold maxLen; omega, fun h0 => ?_⟩, fun x hx => h.2 x (List.mem_of_mem_take hx)⟩
  rw [bv_length, hl] at h0
  obtain ⟨b, o, e, hb, hc⟩ := h3 (by rw [bv_length]; omega)
  refine ⟨b, o, e, hb, fun k u hu => hc k u ?_⟩
  rw [← hu, bv, bv, List.map_take, List.getElem?_take]
  by_cases hk : k < n
  · rw [if_pos hk]
  · rw [List.getElem?_eq_none (by rw [bv_length, hl]; omega)] at hu; cases hu
theorem rdr_new {w : World} {A : Option Addr} {c : Nat} {l : List Int} {n : Nat} (h : Bytes w (.slice A n c) l) (hn : l.length = n) (hl : n ≤ 2000) :
    Rdr (w.alloc (.cells #[.slice A n c, .int .i64 0] 69)) w.heap.size 0 := by
  subst hn
  refine ⟨A, c, l, 0, Blk.new w 69 [.slice A l.length c, .int .i64 0], h.bel (bel_alloc _ _), hl, Nat.le_refl _, fun a ha h0 => ?_⟩
  obtain ⟨A', c', e, _, _, h3⟩ := h.open_
  injection e with e1
  subst e1
  obtain ⟨b, o, e, hb, _⟩ := h3.bytes h0
  rw [e] at ha
  injection ha with ha
  rw [← ha]
  exact hb

set_option maxHeartbeats 1000000 in
theorem l9Open_any (v : Value) (l : List Int) (w : World) (hv : Bytes w v l) :
    Calls Try.prog 19 #[v] w fun e w' => ∃ g, e = .returned (.pointer (some ⟨g, 0, none⟩)) ∧ w.heap.size ≤ g ∧ Rdr w' g 0 ∧ Below w.heap.size w w' := by
  have hv' := Lib.hid hv
  obtain ⟨A, c, rfl, hlc, hc, hrd⟩ := hv.open_
  have HR := Lib.hid hrd
  clear hrd hv
  by_cases hbig : (2000 : Int) < (l.length : Int)
  · have hb := Lib.hid hbig
    go_enter Try.func19, Try.ntmps19
    go_wp2
    go_ret
    exact ⟨_, rfl, Nat.le_refl _, rdr_new (hv'.out.take (n := 2000) (by have := hb.out; omega)) (by rw [List.length_take]; have := hb.out; omega) (Nat.le_refl _), bel_alloc _ _⟩
  · go_enter Try.func19, Try.ntmps19
    go_wp2
    go_ret
    exact ⟨_, rfl, Nat.le_refl _, rdr_new hv'.out rfl (by omega), bel_alloc _ _⟩

theorem xor_mod {X n : Int} (h0 : 0 ≤ X) (h1 : X < 4611686018427387904) (hn : 1 ≤ n) : 0 ≤ (bits .xor .i64 X (X / 64)).tmod n ∧ (bits .xor .i64 X (X / 64)).tmod n < n := by
  obtain ⟨x, rfl⟩ : ∃ x : Nat, X = x := ⟨X.toNat, by omega⟩
  have e : (x : Int) / 64 = ((x / 64 : Nat) : Int) := by omega
  rw [e, i64_xor_nat x (x / 64) (by omega) (by omega), Int.tmod_eq_emod_of_nonneg (by omega)]
  exact ⟨Int.emod_nonneg _ (by omega), Int.emod_lt_of_pos _ (by omega)⟩
/-- What a draw leaves: a number from 0 to n - 1 (0 if n is less than 1). -/
def Picked (g K : Nat) (n : Int) (w : World) (e : Ending) (w' : World) : Prop :=
  ∃ m : Int, e = .returned (.int .i64 m) ∧ (1 ≤ n → 0 ≤ m ∧ m < n) ∧ (n < 1 → m = 0) ∧ Rdr w' g (K + 1) ∧ w.grownBy w' (some g)

set_option maxHeartbeats 2000000 in
theorem pick_any (g K : Nat) (n : Int) (w : World) (hr : Rdr w g K) (hK : K ≤ 1000000000) (hn : -9223372036854775808 ≤ n ∧ n ≤ 9223372036854775807) :
    Calls Try.prog 22 #[.pointer (some ⟨g, 0, none⟩), .int .i64 n] w (Picked g K n w) := by
  obtain ⟨A, c, l, p, hblk, hby, hl, hp, hne⟩ := hr
  have c0 : w.cell? ⟨g, 0, none⟩ = some (.slice A l.length c) := by rw [hblk.cell]; rfl
  have c1 : w.cell? ⟨g, 1, none⟩ = some (.int .i64 p) := by rw [hblk.cell]; rfl
  have f1 := hblk.frozen 1
  have H := Lib.hid (And.intro hblk (And.intro hby hne))
  have fin : Rdr (w.setCell ⟨g, 1, none⟩ (.int .i64 ((p : Int) + 1))) g (K + 1) ∧ w.grownBy (w.setCell ⟨g, 1, none⟩ (.int .i64 ((p : Int) + 1))) (some g) := by
    have hg := only_setCell (World.grownBy.refl w (some g)) (p := ⟨g, 1, none⟩) (.inl rfl) (.int .i64 ((p : Int) + 1))
    refine ⟨⟨A, c, l, p + 1, ?_, ?_, hl, by omega, hne⟩, hg⟩
    · have := hblk.set_ 1 (.int .i64 ((p : Int) + 1))
      simpa using this
    · obtain ⟨⟨A', c', e, h1, h2, h3⟩, h4⟩ := hby
      injection e with e1 _ e3
      subst e1 e3
      refine ⟨⟨A, c, by rw [bv_length], h1, h2, fun h0 => ?_⟩, h4⟩
      obtain ⟨b, o, rfl, hlt, hc⟩ := h3 h0
      exact ⟨b, o, rfl, Nat.lt_of_lt_of_le hlt hg.size, fun k u hu => hg.cell (hc k u hu) (fun e => by injection e with e; exact Nat.ne_of_lt (hne _ rfl (by rw [bv_length] at h0; exact h0)) e)⟩
  have FIN := Lib.hid fin
  clear hblk hby hne fin
  by_cases h1 : n < 1
  · have h1' := Lib.hid h1
    go_enter Try.func22, Try.ntmps22
    go_wp2
    go_ret
    exact ⟨0, rfl, fun h => by have := h1'.out; omega, fun _ => rfl, FIN.out.1, FIN.out.2⟩
  · by_cases h2 : l.length = 0
    · have h2' : ((l.length : Int) == 0) = true := by simp [h2]
      clear h2
      go_enter Try.func22, Try.ntmps22
      go_wp2
      go_ret
      exact ⟨0, rfl, fun h => by omega, fun _ => rfl, FIN.out.1, FIN.out.2⟩
    · have h2' : ((l.length : Int) == 0) = false := beq_eq_false_iff_ne.2 (by omega)
      obtain ⟨b, o, rfl, hb, hcell⟩ := (show Rd w A (bv l) by obtain ⟨A', c', e, _, _, h3⟩ := H.out.2.1.open_; injection e with e1; subst e1; exact h3).bytes (Nat.pos_of_ne_zero h2)
      have hbg : b ≠ g := Nat.ne_of_lt (H.out.2.2 _ rfl (Nat.pos_of_ne_zero h2))
      have HC := Lib.hid hcell
      clear hcell
      by_cases h3 : p < l.length
      · have hcp := HC.out p h3
        have hbt := H.out.2.1.at p
        go_enter Try.func22, Try.ntmps22
        go_wp2
        go_ret
        exact ⟨_, rfl, fun h => ⟨Int.emod_nonneg _ (by omega), Int.emod_lt_of_pos _ (by omega)⟩, fun h => by omega, FIN.out.1, FIN.out.2⟩
      · obtain ⟨i1, hi1, hm1⟩ : ∃ i1 : Nat, (p : Int) % (l.length : Int) = (i1 : Int) ∧ i1 < l.length := ⟨p % l.length, (Int.natCast_emod _ _).symm, Nat.mod_lt _ (by omega)⟩
        obtain ⟨i2, hi2, hm2⟩ : ∃ i2 : Nat, ((p : Int) * 7 + 3) % (l.length : Int) = (i2 : Int) ∧ i2 < l.length := ⟨(p * 7 + 3) % l.length, by rw [Int.natCast_emod, Int.natCast_add, Int.natCast_mul]; rfl, Nat.mod_lt _ (by omega)⟩
        obtain ⟨i3, hi3, hm3⟩ : ∃ i3 : Nat, (p : Int) / (l.length : Int) = (i3 : Int) ∧ i3 ≤ p := ⟨p / l.length, (Int.natCast_ediv _ _).symm, Nat.div_le_self _ _⟩
        have hc1 := HC.out _ hm1
        have hc2 := HC.out _ hm2
        have hb1 := H.out.2.1.at i1
        have hb2 := H.out.2.1.at i2
        have p1 : (i1 : Int) < (l.length : Int) := by omega
        have p2 : (i2 : Int) < (l.length : Int) := by omega
        have p3 : (0 : Int) ≤ (i1 : Int) := by omega
        have p4 : (0 : Int) ≤ (i2 : Int) := by omega
        go_enter Try.func22, Try.ntmps22
        go_wp2
        go_quiet (fail)
        go_wp2
        go_ret
        have hx := xor_mod (X := at_ l i1 * 131 + at_ l i2 * 1117 + (p : Int) * 29 + (i3 : Int) * 53) (n := n) (by omega) (by omega) (by omega)
        exact ⟨_, rfl, fun _ => hx, fun h => by omega, FIN.out.1.bel (below_drewN (Below.refl _ _) _), only_drewN FIN.out.2 _⟩

/-- one of the numbers of a list, drawn. -/
def Drawn (g K : Nat) (l : List Int) (w : World) (e : Ending) (w' : World) : Prop :=
  ∃ m : Int, e = .returned (.int .i64 m) ∧ m ∈ l ∧ Rdr w' g (K + 1) ∧ w.grownBy w' (some g)

set_option maxHeartbeats 1000000 in
theorem num_any (g K : Nat) (v : Value) (l : List Int) (w : World) (hr : Rdr w g K) (hK : K ≤ 1000000000) (hv : Ints w v l) (hl : 0 < l.length) (hne : ∀ a n c, v = .slice (some a) n c → 0 < l.length → a.block ≠ g) :
    Calls Try.prog 54 #[.pointer (some ⟨g, 0, none⟩), v] w (Drawn g K l w) := by
  obtain ⟨A, c, rfl, hlc, hc, hrd⟩ := hv.open_
  obtain ⟨b, o, rfl, hb, hcell⟩ := hrd.ints hl
  have hbg := hne _ _ _ rfl hl
  have HC := Lib.hid hcell
  clear hcell hne
  go_enter Try.func54, Try.ntmps54
  go_wp2_with fail
  refine (pick_any g K _ _ hr hK (by omega)).mono ?_
  rintro e w1 ⟨m, rfl, hm, -, hr1, hg1⟩
  have hm' := hm (by omega)
  obtain ⟨n, rfl⟩ : ∃ n : Nat, m = n := ⟨m.toNat, by omega⟩
  have hcn : w1.cell? ⟨b, o + n, none⟩ = some (.int .i64 (at_ l n)) := hg1.cell (HC.out n (by omega)) (fun e => by injection e with e; exact hbg e)
  have H := Lib.hid (And.intro hr1 hg1)
  clear hm hr1 hg1
  go_wp2
  go_ret
  exact ⟨_, rfl, at_mem l n (by omega), H.out.1, H.out.2⟩

/-- a literal '[]int{a, b, ..}' reads as its numbers. -/
theorem lit_own (w : World) (l : List Int) (B base : Nat) (hB : w.heap.size = B) (hb : base ≤ B) (hl : l.length ≤ 1000) (hwf : Wf l) : Own (w.alloc (.cells (iv l).toArray 3)) base (.slice (some ⟨B, 0, none⟩) l.length l.length) l := by
  subst hB
  exact Own.mk' (cs := iv l) hb (Blk.new w _ _) (Nat.le_refl _) (by omega) (iv_length l) (fun j hj => iv_get l j hj) hwf
theorem lit_ne {B g m : Nat} (h : g < B) : ∀ a n c, Value.slice (some ⟨B, 0, none⟩) m m = .slice (some a) n c → 0 < m → a.block ≠ g := by
  intro a n c e _
  injection e with e
  injection e with e
  subst e
  simp; omega
theorem wf_lit {l : List Int} (h : ∀ x ∈ l, -9223372036854775808 ≤ x ∧ x ≤ 9223372036854775807) : Wf l := h

end Go.Proofs.Ythkpgcociklddaa

/-
  Drawn lists: l6Entries and the arguments of Interleave.
-/
namespace Go.Proofs.Ythkpgcociklddaa
open Go.RowKit
set_option linter.unusedVariables false
set_option maxRecDepth 100000
attribute [local go_sem ↓] Go.wp_at_zero Go.wp_at_succ

theorem step_app_int {ops : Array Oper} {o : Oper} {a : Act} {K : Act → World → Prop} {Q : Exit → Act → World → Prop} {E : Prop} {w : World} (hgd : o.guard = none) (s x : Operand)
    (ho : o.op = .call { callee := .builtin .append, args := #[s, x], argTypes := #[23, 23] })
    (base : Nat) (v : Value) (l : List Int) (hs : a.eval s = v) (hown : Own w base v l) (g c : Nat) (z : Int) (hx : a.eval x = .slice (some ⟨g, 0, none⟩) 1 c)
    (hcell : w.cell? ⟨g, 0, none⟩ = some (.int .i64 z)) (hz : -9223372036854775808 ≤ z ∧ z ≤ 9223372036854775807) (hl : l.length + 1 ≤ 1099511627776) (hbase : base ≤ w.heap.size)
    (h : ∀ v' w', Own w' base v' (l ++ [z]) → w.grownBy w' v.ownBlock → (v'.ownBlock = v.ownBlock ∨ v'.ownBlock = some w.heap.size) → K (a.put o.dst v') w') :
    if Region.wanted o (yielded ops a.tmps) = true then Oper.wp Try.prog o a w K Q else E := by
  have hw : Region.wanted o (yielded ops a.tmps) = true := by simp [Region.wanted, hgd]
  rw [if_pos hw]
  obtain ⟨i0, hi, hz0, hz1, hz2⟩ := info_parts Try.infoInt
  obtain ⟨v', w', hrun, h2, h3, _, h5⟩ := run_append_own_at (P := Try.prog) w base 23 o.type 3 i0 _ 1 8 Try.underlying23 hi hz0 hz1 hz2 rfl (by omega) v l.length (iv l) hown.1 ⟨g, 0, none⟩ 1 c [.int .i64 z] rfl (by
    intro j u hj
    match j, hj with
    | 0, hj => simp at hj; subst hj; simpa [Addr.add] using hcell) (by intro u hu; simp at hu; subst hu; rfl) (by unfold maxLen; omega) (by omega) hbase
  unfold Oper.wp execOp
  simp only [ho, resolve, invoke, builtin, Sem.run_bind, Sem.run_pure, Result.andThen_ok, List.map_toArray, List.map_cons, List.map_nil, hs, hx, hrun]
  refine h v' w' ⟨?_, ?_, by unfold maxLen; simp; omega⟩ h3 h5
  · rw [iv_append, List.length_append]; exact h2
  · intro n hn
    rcases List.mem_append.1 hn with hn | hn
    · exact hown.2.1 n hn
    · simp at hn; subst hn; exact hz

theorem grown_trans {a w w' : World} {g : Nat} {row : Option Nat} (h : a.grownBy w (some g)) (k : w.grownBy w' row) (hr : ∀ j, row = some j → j = g ∨ a.heap.size ≤ j) : a.grownBy w' (some g) :=
  ⟨k.os.trans h.os, k.tape.trans h.tape, k.output.trans h.output, Nat.le_trans h.size k.size, fun i hi hne => (k.block i (Nat.lt_of_lt_of_le hi h.size) (fun e => by
    rcases hr i e.symm with q | q
    · exact hne (by rw [q])
    · omega)).trans (h.block i hi hne)⟩
theorem grown_own {a w w' : World} {g : Nat} {v : Value} {l : List Int} (h : a.grownBy w (some g)) (k : w.grownBy w' v.ownBlock) (ho : Own w a.heap.size v l) : a.grownBy w' (some g) :=
  grown_trans h k fun j hj => .inr (ho.lt j hj).1
theorem grown_below {a w : World} {g B : Nat} (h : a.grownBy w (some g)) (hg : B ≤ g) (hB : B ≤ a.heap.size) : Below B a w := (Below.refl B a).grown h hB (fun k hk => by injection hk with hk; omega)

/-- Where a loop of draws stands: it has gathered l in v; the reader is K on. -/
structure St (w : World) (g K : Nat) (v : Value) (l : List Int) (W : World) : Prop where
  own : Own W w.heap.size v l
  rdr : Rdr W g K
  gr : w.grownBy W (some g)
  lt : g < w.heap.size
theorem St.bel {w : World} {g K : Nat} {v : Value} {l : List Int} {W W' : World} (h : St w g K v l W) (hb : Below W.heap.size W W') : St w g K v l W' :=
  ⟨h.own.bel hb, h.rdr.bel hb, only_below h.gr hb, h.lt⟩
theorem St.grown {w : World} {g K K' : Nat} {v : Value} {l : List Int} {W W' : World} (h : St w g K v l W) (hb : W.grownBy W' (some g)) (hr : Rdr W' g K') : St w g K' v l W' :=
  ⟨h.own.far hb (fun k hk => by injection hk with hk; have := h.lt; omega), hr, grown_trans h.gr hb (fun j hj => .inl (by injection hj with hj; exact hj.symm)), h.lt⟩
theorem St.app {w : World} {g K : Nat} {v v' : Value} {l l' : List Int} {W W' : World} (h : St w g K v l W) (ho : Own W' w.heap.size v' l') (hb : W.grownBy W' v.ownBlock) : St w g K v' l' W' :=
  ⟨ho, h.rdr.grown hb (fun k hk => by
    have h1 := (h.own.lt k hk).1
    have := h.lt
    omega), grown_own h.gr hb h.own, h.lt⟩
theorem pick_st {w : World} {g K : Nat} {v : Value} {l : List Int} {W : World} (n : Int) (h : St w g K v l W) (hK : K ≤ 1000000000) (hn : 1 ≤ n ∧ n ≤ 9223372036854775807) :
    Calls Try.prog 22 #[.pointer (some ⟨g, 0, none⟩), .int .i64 n] W (fun e W' => ∃ m : Int, e = .returned (.int .i64 m) ∧ 0 ≤ m ∧ m < n ∧ St w g (K + 1) v l W') :=
  (pick_any g K n W h.rdr hK (by omega)).mono fun e W' ⟨m, he, hm, _, hr, hg⟩ => ⟨m, he, (hm hn.1).1, (hm hn.1).2, h.grown hg hr⟩
theorem wrap_bd (x : Int) : -9223372036854775808 ≤ IntKind.i64.wrap x ∧ IntKind.i64.wrap x ≤ 9223372036854775807 := by
  rw [IntKind.wrap_i64]; omega
theorem prod_bd {a b A B : Int} (h0 : 0 ≤ a) (h1 : a < A) (k0 : 0 ≤ b) (k1 : b < B) : 0 ≤ a * b ∧ a * b ≤ A * B :=
  ⟨Int.mul_nonneg h0 k0, Int.mul_le_mul (by omega) (by omega) k0 (by omega)⟩

/-- A list of drawn numbers: behind it the reader is at most K' on. -/
def DrawnInts (g K' : Nat) (w : World) (lo hi : Nat) (e : Ending) (w' : World) : Prop :=
  ∃ v l, e = .returned v ∧ Own w' w.heap.size v l ∧ lo ≤ l.length ∧ l.length ≤ hi ∧ Rdr w' g K' ∧ w.grownBy w' (some g)

/-- b[:n] of a slice that reads as numbers. -/
theorem Ints.take {w : World} {A : Option Addr} {c : Nat} {l : List Int} (h : Ints w (.slice A l.length c) l) {n : Nat} (hn : n ≤ l.length) : Ints w (.slice A n c) (l.take n) := by
  obtain ⟨A', c', e, h1, h2, h3⟩ := h.open_
  injection e with e1 _ e3
  subst e1 e3
  have hl : (l.take n).length = n := by rw [List.length_take]; omega
  refine ⟨⟨A, c, by rw [iv_length, hl], by rw [iv_length, hl]; omega, by unfold maxLen; omega, fun h0 => ?_⟩, fun x hx => h.2 x (List.mem_of_mem_take hx)⟩
  rw [iv_length, hl] at h0
  obtain ⟨b, o, e, hb, hc⟩ := h3 (by rw [iv_length]; omega)
  refine ⟨b, o, e, hb, fun k u hu => hc k u ?_⟩
  rw [← hu, iv, iv, List.map_take, List.getElem?_take]
  by_cases hk : k < n
  · rw [if_pos hk]
  · rw [List.getElem?_eq_none (by rw [iv_length, hl]; omega)] at hu; cases hu

/-- Two drawn lists. -/
def DrawnTwo (w : World) (na nb : Nat) (e : Ending) (w' : World) : Prop :=
  ∃ va vb a b, e = .returned (.tuple #[va, vb]) ∧ Ints w' va a ∧ Ints w' vb b ∧ a.length ≤ na ∧ b.length ≤ nb ∧ Below w.heap.size w w'

end Go.Proofs.Ythkpgcociklddaa

/-
  Drawn lists: l2Some, l2Table, l2BadTable.
-/
namespace Go.Proofs.Ythkpgcociklddaa
open Go.RowKit
set_option linter.unusedVariables false
set_option maxRecDepth 100000

/-- A number drawn for a list, with its state. -/
theorem num_st {w : World} {g K : Nat} {v : Value} {l : List Int} {W : World} (u : Value) (m : List Int) (h : St w g K v l W) (hK : K ≤ 1000000000) (hu : Ints W u m) (hm : 0 < m.length) (hne : ∀ a n c, u = .slice (some a) n c → 0 < m.length → a.block ≠ g) :
    Calls Try.prog 54 #[.pointer (some ⟨g, 0, none⟩), u] W (fun e W' => ∃ x : Int, e = .returned (.int .i64 x) ∧ x ∈ m ∧ St w g (K + 1) v l W') :=
  (num_any g K u m W h.rdr hK hu hm hne).mono fun e W' ⟨x, he, hx, hr, hg⟩ => ⟨x, he, hx, h.grown hg hr⟩

set_option maxHeartbeats 4000000 in
set_option maxRecDepth 100000 in
theorem l2Some_any (g K : Nat) (w : World) (hr : Rdr w g K) (hK : K ≤ 100000000) :
    Calls Try.prog 53 #[.pointer (some ⟨g, 0, none⟩)] w (DrawnInts g (K + 20) w 1 6) := by
  have hgw := hr.lt
  have S0 := Lib.hid (show St w g K (.slice (some ⟨w.heap.size, 0, none⟩) 0 0) [] (w.alloc (.cells #[] 3)) from
    ⟨Own.empty w w.heap.size (Nat.le_refl _), hr.bel (bel_alloc _ _), only_alloc (World.grownBy.refl w _) _, hgw⟩)
  clear hr
  go_enter Try.func53, Try.ntmps53
  go_wp2_with fail
  refine (num_st _ [10, 100, 1000, 3] (S0.out.bel (bel_alloc _ _)) (by omega) (lit_own _ [10, 100, 1000, 3] (w.heap.size + 1) 0 (by simp) (by omega) (by simp) (wf_lit (by simp))).ints (by simp) (lit_ne (by omega))).mono ?_
  rintro e w1 ⟨sz, rfl, hsz, hs1⟩
  have sb : 3 ≤ sz ∧ sz ≤ 1000 := by simp at hsz; omega
  have S1 := Lib.hid hs1
  clear hsz hs1 S0
  go_wp2_with fail
  refine (pick_st 5 S1.out (by omega) (by omega)).mono ?_
  rintro e w2 ⟨m, rfl, ma, mb, hs2⟩
  obtain ⟨m, rfl⟩ : ∃ n : Nat, m = n := ⟨m.toNat, by omega⟩
  have S2 := Lib.hid hs2
  clear hs2 S1
  go_wp2_with fail
  go_loopw [3, 5] (fun r n wr => ∃ (k K' : Nat) (l : List Int), n = .int .i64 k ∧ k ≤ 5 ∧ l.length + k = m + 1 ∧ K' + 2 * k ≤ K + 12 ∧ St w g K' r l wr)
    (fun _ n _ => (intOf n).toNat)
  case atStart => exact ⟨m + 1, K + 2, [], by go_num, by omega, by simp, by omega, S2.out⟩
  case round =>
    obtain ⟨k, K', l, rfl, hk, hlk, hK', hst⟩ := hrel
    have zr := hst.gr.size
    have S3 := Lib.hid hst
    clear S2 hst
    by_cases hk0 : k = 0
    · subst hk0
      go_wp2_with fail
      refine (pick_st 5 S3.out (by omega) (by omega)).mono ?_
      rintro e w3 ⟨q, rfl, qa, qb, hs4⟩
      have S4 := Lib.hid hs4
      have z4 := hs4.gr.size
      clear hs4
      cases q0 : (q == 0)
      · go_wp2
        go_ret
        exact ⟨_, l, rfl, S4.out.own, by omega, by omega, S4.out.rdr.more (by omega), S4.out.gr⟩
      · go_wp2_with (at_builtin; refine app_int rfl (.tmp 34) (.tmp 35) (by rfl) w.heap.size u3 _ (by rfl) (by exact S4.out.own.bel (bel_alloc _ _)) _ _ 0 (by rfl) (by exact new_cell _ _ _) (by omega) (by omega) (by simp; omega) ?_; intro v4 w4 ho hg _)
        have S5 := Lib.hid ((S4.out.bel (bel_alloc _ _)).app ho hg)
        clear ho hg
        go_ret
        exact ⟨_, _, rfl, S5.out.own, by simp, by simp; omega, S5.out.rdr.more (by omega), S5.out.gr⟩
    · obtain ⟨k, rfl⟩ : ∃ j, k = j + 1 := ⟨k - 1, by omega⟩
      have hz0 : ¬ (2 * sz + 1 = 0) := by omega
      go_wp2_with fail
      refine (pick_st 256 S3.out (by omega) (by omega)).mono ?_
      rintro e1 w3 ⟨m1, rfl, a1, b1, hs4⟩
      have S4 := Lib.hid hs4
      clear hs4
      go_wp2_with fail
      refine (pick_st 256 S4.out (by omega) (by omega)).mono ?_
      rintro e1 w4 ⟨m2, rfl, a2, b2, hs5⟩
      have S5 := Lib.hid hs5
      have z5 := hs5.gr.size
      have pb := prod_bd a1 b1 a2 b2
      have q1 := Int.emod_nonneg (m1 * m2) (show (2 * sz + 1) ≠ 0 by omega)
      have q2 := Int.emod_lt_of_pos (m1 * m2) (show 0 < 2 * sz + 1 by omega)
      clear hs5 S4 S3
      go_wp2_with (at_builtin; refine app_int rfl (.tmp 17) (.tmp 29) (by rfl) w.heap.size u3 _ (by rfl) (by exact S5.out.own.bel (bel_alloc _ _)) _ _ _ (by rfl) (by exact new_cell _ _ _) (by omega) (by omega) (by simp; omega) ?_; intro v5 w5 ho hg _)
      have S6 := Lib.hid ((S5.out.bel (bel_alloc _ _)).app ho hg)
      clear ho hg S5
      go_wp2
      go_roundw
      case rel => exact ⟨k, K' + 2, _, by go_num, by omega, by simp; omega, by omega, S6.out⟩
      case measure => simp [intOf]

/-- Only the reader g and v's own row have been written. -/
def Keeps (g : Nat) (v : Value) (W W' : World) : Prop := W.heap.size ≤ W'.heap.size ∧ (∀ B u m, Own W B u m → g < B → Diff u v → Own W' B u m) ∧ ∀ B, B ≤ g → (∀ k, v.ownBlock = some k → B ≤ k) → B ≤ W.heap.size → Below B W W'
theorem Keeps.trans {g : Nat} {v : Value} {a b c : World} (h : Keeps g v a b) (k : Keeps g v b c) : Keeps g v a c :=
  ⟨Nat.le_trans h.1 k.1, fun B u m ho hB hd => k.2.1 B u m (h.2.1 B u m ho hB hd) hB hd, fun B h1 h2 h3 => (h.2.2 B h1 h2 h3).trans (k.2.2 B h1 h2 (Nat.le_trans h3 h.1))⟩
theorem Keeps.grown {g : Nat} {W W' : World} (v : Value) (h : W.grownBy W' (some g)) : Keeps g v W W' :=
  ⟨h.size, fun B u m ho hB _ => ho.far h (fun k hk => by injection hk with hk; omega), fun B h1 _ h3 => grown_below (a := W) h h1 h3⟩
theorem Keeps.below {g : Nat} {W W' : World} (v : Value) (h : Below W.heap.size W W') : Keeps g v W W' :=
  ⟨h.size, fun B u m ho _ _ => ho.bel h, fun B _ _ h3 => h.mono h3⟩
theorem Keeps.set_ {g b n cap : Nat} {W : World} (p : Addr) (hp : p.block = b) (x : Value) : Keeps g (.slice (some ⟨b, 0, none⟩) n cap) W (W.setCell p x) := by
  have hg : W.grownBy (W.setCell p x) (some b) := only_setCell (World.grownBy.refl W (some b)) (.inl hp) x
  exact ⟨hg.size, fun B u m ho _ hd => ho.apart (u := .slice (some ⟨b, 0, none⟩) n cap) hg hd, fun B _ h2 h3 => (Below.refl B W).setCell (by rw [hp]; exact h2 b rfl) x⟩
theorem St.set_ {w : World} {g K b n cap : Nat} {l : List Int} {W : World} (h : St w g K (.slice (some ⟨b, 0, none⟩) n cap) l W) (j : Nat) (z : Int) (hj : j < l.length) (hz : -9223372036854775808 ≤ z ∧ z ≤ 9223372036854775807) :
    St w g K (.slice (some ⟨b, 0, none⟩) n cap) (l.set j z) (W.setCell ⟨b, j, none⟩ (.int .i64 z)) := by
  have hb := (h.own.lt b rfl).1
  have := h.lt
  have hg : W.grownBy (W.setCell ⟨b, j, none⟩ (.int .i64 z)) (some b) := only_setCell (World.grownBy.refl W (some b)) (.inl rfl) _
  exact ⟨h.own.set_ j z hj hz, h.rdr.grown hg (fun k hk => by injection hk with hk; omega), grown_trans h.gr hg (fun k hk => .inr (by injection hk with hk; omega)), h.lt⟩


end Go.Proofs.Ythkpgcociklddaa

/-
  Drawn tables that may break the rules, and the two readers that draw them.
-/
namespace Go.Proofs.Ythkpgcociklddaa
open Go.RowKit
set_option linter.unusedVariables false
set_option maxRecDepth 100000

/-- A drawn list which is only read. -/
def DrawnRead (g : Nat) (u : Value) (w w0 : World) (hi : Nat) (e : Ending) (w' : World) : Prop :=
  ∃ v l, e = .returned v ∧ Ints w' v l ∧ l.length ≤ hi ∧ w.grownBy w' (some g) ∧ Keeps g u w0 w'
theorem pick_k {w : World} {g K : Nat} {v : Value} {l : List Int} {W : World} (n : Int) (h : St w g K v l W) (hK : K ≤ 1000000000) (hn : 1 ≤ n ∧ n ≤ 9223372036854775807) :
    Calls Try.prog 22 #[.pointer (some ⟨g, 0, none⟩), .int .i64 n] W (fun e W' => ∃ m : Int, e = .returned (.int .i64 m) ∧ 0 ≤ m ∧ m < n ∧ St w g (K + 1) v l W' ∧ W.grownBy W' (some g)) :=
  (pick_any g K n W h.rdr hK (by omega)).mono fun e W' ⟨m, he, hm, _, hr, hg⟩ => ⟨m, he, (hm hn.1).1, (hm hn.1).2, h.grown hg hr, hg⟩
theorem num_k {w : World} {g K : Nat} {v : Value} {l : List Int} {W : World} (u : Value) (m : List Int) (h : St w g K v l W) (hK : K ≤ 1000000000) (hu : Ints W u m) (hm : 0 < m.length) (hne : ∀ a n c, u = .slice (some a) n c → 0 < m.length → a.block ≠ g) :
    Calls Try.prog 54 #[.pointer (some ⟨g, 0, none⟩), u] W (fun e W' => ∃ x : Int, e = .returned (.int .i64 x) ∧ x ∈ m ∧ St w g (K + 1) v l W' ∧ W.grownBy W' (some g)) :=
  (num_any g K u m W h.rdr hK hu hm hne).mono fun e W' ⟨x, he, hx, hr, hg⟩ => ⟨x, he, hx, h.grown hg hr, hg⟩

theorem zeros_own (W : World) (base n : Nat) (hb : base ≤ W.heap.size) (hn : n ≤ 61) :
    Own (W.alloc (.cells (reps n (.int .i64 0)).toArray 3)) base (.slice (some ⟨W.heap.size, 0, none⟩) n n) (List.replicate n 0) := by
  have hl : (List.replicate n (0 : Int)).length = n := List.length_replicate
  have := Own.mk' (base := base) (cap := n) (cs := reps n (.int .i64 0)) (l := List.replicate n 0) hb (Blk.new W 3 _) (by rw [hl]; exact Nat.le_refl _) (by omega) (reps_length _ _) (fun j hj => by
    rw [hl] at hj
    rw [reps_get _ hj]
    simp [at_, hj]) (fun x hx => by rw [List.eq_of_mem_replicate hx]; omega)
  rw [hl] at this
  exact this

/-- A drawn list. -/
def DrawnOne (w : World) (hi : Nat) (e : Ending) (w' : World) : Prop :=
  ∃ v l, e = .returned v ∧ Ints w' v l ∧ l.length ≤ hi ∧ Below w.heap.size w w'



end Go.Proofs.Ythkpgcociklddaa

/-
  What the laws of votes draw: three lists.
-/
namespace Go.Proofs.Ythkpgcociklddaa
open Go.RowKit
set_option linter.unusedVariables false
set_option maxRecDepth 100000

theorem Ints.drop1 {w : World} {b o c : Nat} {l : List Int} (h : Ints w (.slice (some ⟨b, o, none⟩) l.length c) l) (hn : 1 ≤ l.length) : Ints w (.slice (some ⟨b, o + 1, none⟩) (l.length - 1) (c - 1)) (l.drop 1) := by
  obtain ⟨A', c', e, h1, h2, h3⟩ := h.open_
  injection e with e1 _ e3
  subst e1 e3
  have hl : (l.drop 1).length = l.length - 1 := List.length_drop
  refine ⟨⟨some ⟨b, o + 1, none⟩, c - 1, by rw [iv_length, hl], by rw [iv_length, hl]; omega, by unfold maxLen; omega, fun h0 => ?_⟩, fun x hx => h.2 x (List.mem_of_mem_drop hx)⟩
  obtain ⟨b', o', e, hb, hc⟩ := h3 (by rw [iv_length]; omega)
  injection e with e
  injection e with e1 e2
  subst e1 e2
  refine ⟨b, o + 1, rfl, hb, fun k u hu => ?_⟩
  rw [show o + 1 + k = o + (k + 1) by omega]
  refine hc (k + 1) u ?_
  rw [← hu, iv, iv, List.map_drop, List.getElem?_drop]
  congr 1
  omega

theorem Ints.zero (w : World) (A : Option Addr) : Ints w (.slice A 0 0) [] := ⟨⟨A, 0, rfl, Nat.le_refl _, Nat.zero_le _, fun h => absurd h (by simp [iv])⟩, fun _ h => by simp at h⟩
/-- Three lists of one's own, side by side; the reader is K on. -/
structure Tri (w1 : World) (g K : Nat) (vt va vb : Value) (t a b : List Int) (W : World) : Prop where
  ot : Own W w1.heap.size vt t
  oa : Own W w1.heap.size va a
  ob : Own W w1.heap.size vb b
  ta : Diff vt va
  tb : Diff vt vb
  ab : Diff va vb
  rdr : Rdr W g K
  gr : w1.grownBy W (some g)
  lt : g < w1.heap.size
section
variable {w1 : World} {g K : Nat} {vt va vb : Value} {t a b : List Int} {W W' : World}
theorem Tri.grown {K' : Nat} (h : Tri w1 g K vt va vb t a b W) (hg : W.grownBy W' (some g)) (hr : Rdr W' g K') : Tri w1 g K' vt va vb t a b W' :=
  have hk : ∀ k, some g = some k → k < w1.heap.size := fun k hk => by injection hk with hk; have := h.lt; omega
  ⟨h.ot.far hg hk, h.oa.far hg hk, h.ob.far hg hk, h.ta, h.tb, h.ab, hr, grown_trans h.gr hg (fun j hj => .inl (by injection hj with hj; exact hj.symm)), h.lt⟩
theorem Tri.pick (n : Int) (h : Tri w1 g K vt va vb t a b W) (hK : K ≤ 1000000000) (hn : 1 ≤ n ∧ n ≤ 9223372036854775807) :
    Calls Try.prog 22 #[.pointer (some ⟨g, 0, none⟩), .int .i64 n] W (fun e W' => ∃ m : Int, e = .returned (.int .i64 m) ∧ 0 ≤ m ∧ m < n ∧ Tri w1 g (K + 1) vt va vb t a b W') :=
  (pick_any g K n W h.rdr hK (by omega)).mono fun e W' ⟨m, he, hm, _, hr, hg⟩ => ⟨m, he, (hm hn.1).1, (hm hn.1).2, h.grown hg hr⟩
theorem Tri.turn (h : Tri w1 g K vt va vb t a b W) : Tri w1 g K vt vb va t b a W := ⟨h.ot, h.ob, h.oa, h.tb, h.ta, h.ab.symm, h.rdr, h.gr, h.lt⟩
theorem Tri.setA {p n cap : Nat} (h : Tri w1 g K vt (.slice (some ⟨p, 0, none⟩) n cap) vb t a b W) (j : Nat) (z : Int) (hj : j < a.length) (hz : -9223372036854775808 ≤ z ∧ z ≤ 9223372036854775807) :
    Tri w1 g K vt (.slice (some ⟨p, 0, none⟩) n cap) vb t (a.set j z) b (W.setCell ⟨p, j, none⟩ (.int .i64 z)) := by
  have hb := (h.oa.lt p rfl).1
  have := h.lt
  have hg : W.grownBy (W.setCell ⟨p, j, none⟩ (.int .i64 z)) (some p) := only_setCell (World.grownBy.refl W (some p)) (.inl rfl) _
  exact ⟨h.ot.apart (u := .slice (some ⟨p, 0, none⟩) n cap) hg h.ta, h.oa.set_ j z hj hz, h.ob.apart (u := .slice (some ⟨p, 0, none⟩) n cap) hg h.ab.symm, h.ta, h.tb, h.ab,
    h.rdr.grown hg (fun k hk => by injection hk with hk; omega), grown_trans h.gr hg (fun k hk => .inr (by injection hk with hk; omega)), h.lt⟩
theorem Tri.bel (h : Tri w1 g K vt va vb t a b W) (hb : Below W.heap.size W W') : Tri w1 g K vt va vb t a b W' :=
  ⟨h.ot.bel hb, h.oa.bel hb, h.ob.bel hb, h.ta, h.tb, h.ab, h.rdr.bel hb, only_below h.gr hb, h.lt⟩
end

/-- Three drawn lists. -/
def DrawnThree (w : World) (e : Ending) (w' : World) : Prop :=
  ∃ v u x a b c, e = .returned (.tuple #[v, u, x]) ∧ Ints w' v a ∧ Ints w' u b ∧ Ints w' x c ∧ Below w.heap.size w w'



end Go.Proofs.Ythkpgcociklddaa

/-
  Contracts of Interleave and DealTable.
-/
namespace Go.Proofs.Ythkpgcociklddaa
open Go.RowKit
set_option linter.unusedVariables false
set_option maxRecDepth 100000

set_option maxHeartbeats 400000 in
theorem deInts_any (v u : Value) (l m : List Int) (w : World) (hv : Ints w v l) (hu : Ints w u m) :
    Calls Try.prog 15 #[v, u] w fun e w' => e = .returned (.bool (eqL l m)) ∧ Below w.heap.size w w' := by
  obtain ⟨A, c, rfl, hlc, hc, hrd⟩ := hv.open_
  obtain ⟨B, d, rfl, hld, hd, hrd2⟩ := hu.open_
  by_cases he : l.length = m.length
  · have h1 : ((l.length : Int) != (m.length : Int)) = false := by simp [he]
    have HE := Lib.hid he
    clear he
    go_enter Try.func15, Try.ntmps15
    go_wp2
    go_loopw [5] (fun i wr => ∃ (k : Nat) , k ≤ l.length ∧ i = .int .i64 k ∧ (∀ j, j < k → at_ l j = at_ m j) ∧ ∃ n, wr = w.drewN n)
      (fun i _ => l.length - (intOf i).toNat)
    case atStart => exact ⟨0, Nat.zero_le _, rfl, fun j hj => absurd hj (by omega), 0, rfl⟩
    case round =>
      obtain ⟨k, hk, rfl, hall, nd, rfl⟩ := hrel
      have HA := Lib.hid hall
      clear hall
      by_cases hlt : k < l.length
      · have hltm : k < m.length := by have := HE.out; omega
        obtain ⟨b, o, rfl, hb, hcell⟩ := hrd.ints (by omega)
        obtain ⟨b2, o2, rfl, hb2, hcell2⟩ := hrd2.ints (by omega)
        have hck := hcell k hlt
        have hck2 := hcell2 k hltm
        have p1 : (k : Int) < (l.length : Int) := by omega
        have p2 : (k : Int) < (m.length : Int) := by omega
        have p3 : (0 : Int) ≤ (k : Int) := by omega
        clear hcell hcell2
        go_wp2
        go_quiet (fail)
        go_wp2
        · have h : (at_ l k != at_ m k) = true := by assumption
          go_ret
          exact ⟨ret_bool (eqL_false.2 (fun e => by rw [e] at h; simp at h)).symm, below_drewN (below_drewN (Below.refl _ _) _) _⟩
        · have h : (at_ l k != at_ m k) = false := by assumption
          go_roundw
          case rel => exact ⟨k + 1, by omega, by go_num, toSucc HA.out (by simpa using h), _, rfl⟩
          case measure => simp [intOf]; omega
      · go_wp2
        go_ret
        exact ⟨ret_bool (eqL_true.2 (list_ext HE.out (fun j hj => HA.out j (by omega)))).symm, below_drewN (Below.refl _ _) _⟩
  · have h1 : ((l.length : Int) != (m.length : Int)) = true := by simp; omega
    go_enter Try.func15, Try.ntmps15
    go_wp2
    go_ret
    exact ⟨ret_bool (eqL_false.2 (fun h => he (by rw [h]))).symm, Below.refl _ _⟩

def interF (a b : List Int) (j : Nat) : Int := if j % 2 = 0 then at_ a (j / 2) else at_ b (j / 2)
def interOk (a b : List Int) : Bool := decide ((a.length = b.length ∨ a.length = b.length + 1) ∧ a.length + b.length ≤ 60)
def inter (a b : List Int) : List Int := if interOk a b = true then gen (interF a b) (a.length + b.length) else []
theorem interOk_true {a b : List Int} : interOk a b = true ↔ (a.length = b.length ∨ a.length = b.length + 1) ∧ a.length + b.length ≤ 60 := by simp [interOk]
theorem inter_yes {a b : List Int} (h : interOk a b = true) : inter a b = gen (interF a b) (a.length + b.length) := by rw [inter, if_pos h]
theorem inter_no {a b : List Int} (h : ¬ interOk a b = true) : inter a b = [] := by rw [inter, if_neg h]
theorem interF_even (a b : List Int) (k : Nat) : interF a b (k + k) = at_ a k := by
  rw [interF, if_pos (by omega)]; congr 1; omega
theorem interF_odd (a b : List Int) (k : Nat) : interF a b (k + k + 1) = at_ b k := by
  rw [interF, if_neg (by omega)]; congr 1; omega
theorem own_step {w : World} {base : Nat} {v : Value} {f : Nat → Int} {n m : Nat} {z : Int} (h : Own w base v (gen f n ++ [z])) (hz : z = f n) (hm : m = n + 1) : Own w base v (gen f m) := by
  subst hm
  rw [gen_succ, ← hz]; exact h

end Go.Proofs.Ythkpgcociklddaa

/-
  The laws FnFaulty and FnVote, walked.
-/
namespace Go.Proofs.Ythkpgcociklddaa
open Go.RowKit
set_option linter.unusedVariables false
set_option maxRecDepth 100000

theorem eqL_iff {l m : List Int} : eqL l m = true ↔ l = m := by simp [eqL]
theorem eqL_comm (l m : List Int) : eqL l m = eqL m l := by
  rw [Bool.eq_iff_iff, eqL_iff, eqL_iff, eq_comm]
theorem threeOk_iff {a b c : List Int} : threeOk a b c = true ↔ tableOk a = true ∧ tableOk b = true ∧ tableOk c = true ∧ a.length = b.length ∧ a.length = c.length := by
  simp only [threeOk, alikeOk, Bool.and_eq_true, decide_eq_true_eq]
  constructor
  · rintro ⟨⟨⟨h1, h2⟩, h3⟩, ⟨_, h4⟩, h5⟩
    exact ⟨h1, h2, h4, h3, h5⟩
  · rintro ⟨h1, h2, h4, h3, h5⟩
    exact ⟨⟨⟨h1, h2⟩, h3⟩, ⟨h1, h4⟩, h5⟩
theorem three_rot (a b c : List Int) : threeOk c a b = threeOk a b c := by
  rw [Bool.eq_iff_iff, threeOk_iff, threeOk_iff]
  constructor
  · rintro ⟨h1, h2, h3, h4, h5⟩; exact ⟨h2, h3, h1, by omega, by omega⟩
  · rintro ⟨h1, h2, h3, h4, h5⟩; exact ⟨h3, h1, h2, by omega, by omega⟩
theorem three_swap (a b c : List Int) : threeOk b a c = threeOk a b c := by
  rw [Bool.eq_iff_iff, threeOk_iff, threeOk_iff]
  constructor
  · rintro ⟨h1, h2, h3, h4, h5⟩; exact ⟨h2, h1, h3, by omega, by omega⟩
  · rintro ⟨h1, h2, h3, h4, h5⟩; exact ⟨h2, h1, h3, by omega, by omega⟩
theorem faulty_no {a b c : List Int} (h : threeOk a b c = false) : faulty a b c = -3 := by simp [faulty, h]

/-- What the law of the faulty one asks. -/
theorem faulty_law {a b c : List Int} (h : threeOk a b c = true) :
    (eqL a b = true ∧ eqL a c = true ∧ eqL b c = true ∧ faulty a b c = -1 ∧ faulty b c a = -1) ∨ (eqL a b = true ∧ eqL a c = false ∧ eqL b c = false ∧ faulty a b c = 2 ∧ faulty b c a = 1) ∨
    (eqL a b = false ∧ eqL a c = true ∧ eqL b c = false ∧ faulty a b c = 1 ∧ faulty b c a = 0) ∨ (eqL a b = false ∧ eqL a c = false ∧ eqL b c = true ∧ faulty a b c = 0 ∧ faulty b c a = 2) ∨
    (eqL a b = false ∧ eqL a c = false ∧ eqL b c = false ∧ faulty a b c = -2 ∧ faulty b c a = -2) := by
  have h1 := faulty_cases h
  have h2 := faulty_cases (a := b) (b := c) (c := a) (by rw [← three_rot b c a] ; exact h)
  rw [eqL_comm b a, eqL_comm c a] at h2
  rcases h1 with ⟨e1, e2, e3, f⟩ | ⟨e1, e2, e3, f⟩ | ⟨e1, e2, e3, f⟩ | ⟨e1, e2, e3, f⟩ | ⟨e1, e2, e3, f⟩ <;> rw [e1, e2, e3] at h2 <;> simp at h2 <;> simp [e1, e2, e3, f, h2]

theorem vok_rot (x y z : Int) : vok z x y = vok x y z := by
  rw [Bool.eq_iff_iff]; simp only [vok, Bool.or_eq_true, beq_iff_eq]; omega
theorem vok_swap (x y z : Int) : vok y x z = vok x y z := by
  rw [Bool.eq_iff_iff]; simp only [vok, Bool.or_eq_true, beq_iff_eq]; omega
theorem vpick_rot {x y z : Int} (h : vok x y z = true) : vpick z x y = vpick x y z := by
  simp only [vok, Bool.or_eq_true, beq_iff_eq] at h
  unfold vpick
  split <;> split <;> omega
theorem vpick_swap {x y z : Int} (h : vok x y z = true) : vpick y x z = vpick x y z := by
  simp only [vok, Bool.or_eq_true, beq_iff_eq] at h
  unfold vpick
  split <;> split <;> omega
theorem vAll_iff {a b c : List Int} : vAll a b c = true ↔ ∀ k, k < a.length → vok (at_ a k) (at_ b k) (at_ c k) = true := by
  simp [vAll]
theorem vote_perm {a b c a' b' c' : List Int} (h3 : threeOk a' b' c' = threeOk a b c) (hl : threeOk a b c = true → a'.length = a.length)
    (ho : ∀ k, vok (at_ a' k) (at_ b' k) (at_ c' k) = vok (at_ a k) (at_ b k) (at_ c k))
    (hp : ∀ k, vok (at_ a k) (at_ b k) (at_ c k) = true → vpick (at_ a' k) (at_ b' k) (at_ c' k) = vpick (at_ a k) (at_ b k) (at_ c k)) :
    voteOk a' b' c' = voteOk a b c ∧ voteR a' b' c' = voteR a b c := by
  have e : voteOk a' b' c' = voteOk a b c := by
    unfold voteOk
    rw [h3]
    cases h : threeOk a b c
    · rfl
    · have := hl h
      simp only [Bool.true_and]
      unfold vAll
      rw [this]
      congr 1
      funext k
      exact ho k
  refine ⟨e, ?_⟩
  unfold voteR
  rw [e]
  by_cases h : voteOk a b c = true
  · rw [if_pos h, if_pos h]
    simp only [voteOk, Bool.and_eq_true] at h
    have hlen := hl h.1
    refine list_ext (by rw [gen_length, gen_length, hlen]) fun j hj => ?_
    rw [gen_length] at hj
    rw [at_gen hj, at_gen (by omega)]
    exact hp j (vAll_iff.1 h.2 j (by omega))
  · rw [if_neg h, if_neg h]
theorem vote_rot (a b c : List Int) : voteOk c a b = voteOk a b c ∧ voteR c a b = voteR a b c :=
  vote_perm (three_rot a b c) (fun h => (threeOk_true h).2.2.2.2.symm) (fun k => vok_rot _ _ _) (fun k h => vpick_rot h)
theorem vote_swap (a b c : List Int) : voteOk b a c = voteOk a b c ∧ voteR b a c = voteR a b c :=
  vote_perm (three_swap a b c) (fun h => (threeOk_true h).2.2.2.1.symm) (fun k => vok_swap _ _ _) (fun k h => vpick_swap h)
theorem vote_first {a b c : List Int} (h : threeOk a b c = true) (he : a = b ∨ a = c) : voteOk a b c = true ∧ voteR a b c = a := by
  have hp : ∀ k, vok (at_ a k) (at_ b k) (at_ c k) = true ∧ vpick (at_ a k) (at_ b k) (at_ c k) = at_ a k := fun k => by
    rcases he with rfl | rfl <;> simp [vok, vpick]
  have e : voteOk a b c = true := by rw [voteOk, h, vAll_iff.2 fun k _ => (hp k).1]; rfl
  refine ⟨e, ?_⟩
  rw [voteR, if_pos e]
  refine list_ext (gen_length _ _) fun j hj => ?_
  rw [gen_length] at hj
  rw [at_gen hj]
  exact (hp j).2
/-- What the law of votes asks. -/
theorem vote_law (a b c : List Int) :
    ((faulty a b c = -1 ∨ faulty a b c = 1 ∨ faulty a b c = 2) ∧ voteOk a b c = true ∧ voteR a b c = a) ∨ (faulty a b c = 0 ∧ voteOk a b c = true ∧ voteR a b c = b) ∨ faulty a b c = -2 ∨ faulty a b c = -3 := by
  cases h : threeOk a b c
  · exact .inr (.inr (.inr (faulty_no h)))
  · rcases faulty_cases h with ⟨e1, e2, e3, f⟩ | ⟨e1, e2, e3, f⟩ | ⟨e1, e2, e3, f⟩ | ⟨e1, e2, e3, f⟩ | ⟨e1, e2, e3, f⟩
    · exact .inl ⟨.inl f, vote_first h (.inl (eqL_iff.1 e1))⟩
    · exact .inl ⟨.inr (.inr f), vote_first h (.inl (eqL_iff.1 e1))⟩
    · exact .inl ⟨.inr (.inl f), vote_first h (.inr (eqL_iff.1 e2))⟩
    · have hs := vote_swap a b c
      have := vote_first (a := b) (b := a) (c := c) (by rw [three_swap]; exact h) (.inr (eqL_iff.1 e3))
      rw [hs.1, hs.2] at this
      exact .inr (.inl ⟨f, this⟩)
    · exact .inr (.inr (.inl f))


end Go.Proofs.Ythkpgcociklddaa

/-
  Engines turned back, askew, and in halves: the plain side.
-/
namespace Go.Proofs.Ythkpgcociklddaa
open Go.RowKit
set_option linter.unusedVariables false
set_option linter.unusedSimpArgs false
set_option maxRecDepth 100000

theorem ba_ext {a b : ByteArray} (hs : a.size = b.size) (h : ∀ j, j < b.size → bat a j = bat b j) : a = b := by
  apply ByteArray.ext
  apply Array.ext
  · exact hs
  · intro i h1 h2
    have := h i h2
    rw [bat_eq (show i < a.size from h1), bat_eq (show i < b.size from h2)] at this
    have e : (a[i]'h1).toNat = (b[i]'h2).toNat := by omega
    exact UInt8.toNat_inj.1 e
theorem cvN_div {s : ByteArray} (h : colOk s = true) (k : Nat) : ∀ d, k + d = s.size → cv s / ten d = cvN s k := by
  intro d
  induction d generalizing k with
  | zero =>
    intro e
    have : k = s.size := by omega
    rw [ten_zero, Nat.div_one, this]
    rfl
  | succ d ih =>
    intro e
    have h1 := ih (k + 1) (by omega)
    have h2 := (colOk_true h).2.2 k (by omega)
    rw [ten_succ, ← Nat.div_div_eq_div_mul, h1, cvN_succ]
    omega
theorem col_cv {s : ByteArray} (h : colOk s = true) : col (cv s) s.size = s := by
  apply ba_ext (col_size _ _)
  intro j hj
  have h2 := (colOk_true h).2.2 j hj
  rw [bat_col hj]
  unfold wheel
  rw [cvN_div h (j + 1) (s.size - 1 - j) (by omega), cvN_succ]
  omega
theorem cv_inj {a b : ByteArray} (ha : colOk a = true) (hb : colOk b = true) (hs : a.size = b.size) (h : cv a = cv b) : a = b := by
  rw [← col_cv ha, ← col_cv hb, hs, h]
/-- The difference of two columns. -/
def subC (a b : ByteArray) : ByteArray := col (md ((cv a : Int) - (cv b : Int)) (ten a.size)) a.size
theorem subC_size (a b : ByteArray) : (subC a b).size = a.size := col_size _ _
theorem subC_ok {a b : ByteArray} (h : colOk a = true) : colOk (subC a b) = true := by
  have := colOk_true h
  exact colOk_col _ this.1 this.2.1
theorem add_sub {a b : ByteArray} (ha : colOk a = true) : addC (subC a b) b = a := by
  have hT := ten_pos a.size
  have h1 := md_lt ((cv a : Int) - (cv b : Int)) (m := ten a.size) hT
  have h2 := md_cast ((cv a : Int) - (cv b : Int)) (m := ten a.size) hT
  have h3 := cv_lt ha
  unfold addC
  rw [subC_size]
  have h4 : cv (subC a b) = md ((cv a : Int) - (cv b : Int)) (ten a.size) := by unfold subC; exact cv_col h1
  rw [h4]
  have h5 : (md ((cv a : Int) - (cv b : Int)) (ten a.size) + cv b) % ten a.size = cv a := by
    have e : (((md ((cv a : Int) - (cv b : Int)) (ten a.size) + cv b) % ten a.size : Nat) : Int) = (cv a : Int) := by
      rw [Int.natCast_emod, Int.natCast_add, h2, Int.emod_add_emod]
      rw [show (cv a : Int) - (cv b : Int) + (cv b : Int) = (cv a : Int) by omega]
      exact Int.emod_eq_of_lt (by omega) (by omega)
    omega
  rw [h5]
  exact col_cv ha
theorem sat_cons (x : ByteArray) (l : List ByteArray) (j : Nat) : sat (x :: l) (j + 1) = sat l j := rfl
theorem sat_cons0 (x : ByteArray) (l : List ByteArray) : sat (x :: l) 0 = x := rfl
/-- A turn back. -/
def backS : List ByteArray → List ByteArray
  | [] => []
  | [x] => [x]
  | x :: y :: r => subC x (sat (backS (y :: r)) 0) :: backS (y :: r)
theorem backS_length : ∀ l : List ByteArray, (backS l).length = l.length
  | [] => rfl
  | [x] => rfl
  | x :: y :: r => by
    have := backS_length (y :: r)
    simp [backS] at this ⊢
    exact this
theorem backS_at : ∀ (l : List ByteArray) (j : Nat), j < l.length → sat (backS l) j = if j + 1 < l.length then subC (sat l j) (sat (backS l) (j + 1)) else sat l j
  | [], j, h => absurd h (by simp)
  | [x], j, h => by
    have : j = 0 := by simp at h; exact h
    subst this
    rfl
  | x :: y :: r, 0, h => by
    rw [if_pos (by simp)]
    rfl
  | x :: y :: r, j + 1, h => by
    have ih := backS_at (y :: r) j (by simpa using h)
    show sat (backS (y :: r)) j = _
    rw [ih]
    by_cases h2 : j + 1 < (y :: r).length
    · rw [if_pos h2, if_pos (by simp at h2 ⊢; omega)]
      rfl
    · rw [if_neg h2, if_neg (by simp at h2 ⊢; omega)]
      rfl
theorem backS_colOk {l : List ByteArray} (h : engOk l = true) (j : Nat) (hj : j < l.length) : colOk (sat (backS l) j) = true ∧ (sat (backS l) j).size = (sat l 0).size := by
  obtain ⟨h1, h2, h3⟩ := engOk_iff.1 h
  rw [backS_at l j hj]
  split
  · exact ⟨subC_ok (h3 j hj).1, by rw [subC_size]; exact (h3 j hj).2⟩
  · exact h3 j hj
theorem engOk_back {l : List ByteArray} (h : engOk l = true) : engOk (backS l) = true := by
  obtain ⟨h1, h2, h3⟩ := engOk_iff.1 h
  refine engOk_iff.2 ⟨by rw [backS_length]; exact h1, by rw [backS_length]; exact h2, fun k hk => ?_⟩
  rw [backS_length] at hk
  exact ⟨(backS_colOk h k hk).1, by rw [(backS_colOk h k hk).2, (backS_colOk h 0 (by omega)).2]⟩
theorem ext_sat {a b : List ByteArray} (hl : a.length = b.length) (h : ∀ i, i < b.length → sat a i = sat b i) : a = b := by
  apply List.ext_getElem hl
  intro i h1 h2
  have := h i h2
  rw [sat_eq a i h1, sat_eq b i h2] at this
  exact this
theorem turn_back {l : List ByteArray} (h : engOk l = true) : turnS (backS l) = l := by
  obtain ⟨h1, h2, h3⟩ := engOk_iff.1 h
  apply ext_sat (by rw [turnS_length, backS_length])
  intro i hi
  rw [turnS_at (by rw [backS_length]; exact hi), backS_length]
  by_cases h4 : i + 1 < l.length
  · rw [if_pos h4, backS_at l i hi, if_pos h4]
    exact add_sub (h3 i hi).1
  · rw [if_neg h4, backS_at l i hi, if_neg h4]
def backN (l : List ByteArray) : Nat → List ByteArray
  | 0 => l
  | n + 1 => backS (backN l n)
theorem backN_length (l : List ByteArray) (n : Nat) : (backN l n).length = l.length := by
  induction n with
  | zero => rfl
  | succ n ih => show (backS _).length = _; rw [backS_length, ih]
theorem backN_ok {l : List ByteArray} (h : engOk l = true) (n : Nat) : engOk (backN l n) = true := by
  induction n with
  | zero => exact h
  | succ n ih => exact engOk_back ih
theorem turnN_addW (l : List ByteArray) (a b : Nat) : turnN (turnN l a) b = turnN l (a + b) := by
  induction b with
  | zero => rfl
  | succ b ih => rw [turnN_succ, ih]; rfl
theorem turnN_back {l : List ByteArray} (h : engOk l = true) (m k : Nat) : turnN (backN l (m + k)) k = backN l m := by
  induction k with
  | zero => rfl
  | succ k ih =>
    have e : turnN (backN l (m + (k + 1))) (k + 1) = turnN (turnN (backN l (m + (k + 1))) 1) k := by rw [turnN_addW, Nat.add_comm 1 k]
    rw [e]
    have e2 : turnN (backN l (m + (k + 1))) 1 = backN l (m + k) := turn_back (backN_ok h (m + k))
    rw [e2, ih]
theorem turnN_at (l : List ByteArray) (n i : Nat) (h : i < l.length) : sat (turnN l (n + 1)) i = if i + 1 < l.length then addC (sat (turnN l n) i) (sat (turnN l n) (i + 1)) else sat (turnN l n) i := by
  rw [turnN_succ, turnS_at (by rw [turnN_length]; exact h), turnN_length]
/-- The engine askew; half a turn; turns in halves. -/
def skewS (l : List ByteArray) : List ByteArray := genS (fun i => sat (backN l (i / 2)) i) l.length
def halfS (l : List ByteArray) (f : Nat) : List ByteArray := genS (fun i => if i % 2 = f ∧ i + 1 < l.length then addC (sat l i) (sat l (i + 1)) else sat l i) l.length
theorem halfS_length (l : List ByteArray) (f : Nat) : (halfS l f).length = l.length := genS_length _ _
theorem halfS_at {l : List ByteArray} {f i : Nat} (h : i < l.length) : sat (halfS l f) i = if i % 2 = f ∧ i + 1 < l.length then addC (sat l i) (sat l (i + 1)) else sat l i := at_genS h
def hN (l : List ByteArray) : Nat → List ByteArray
  | 0 => l
  | n + 1 => halfS (halfS (hN l n) 0) 1
theorem hN_length (l : List ByteArray) (n : Nat) : (hN l n).length = l.length := by
  induction n with
  | zero => rfl
  | succ n ih => show (halfS _ _).length = _; rw [halfS_length, halfS_length, ih]
theorem skewS_length (l : List ByteArray) : (skewS l).length = l.length := genS_length _ _
theorem skew_inv {l : List ByteArray} (ok : engOk l = true) (t : Nat) : ∀ i, i < l.length → sat (hN (skewS l) t) i = sat (turnN (backN l 3) (3 + t - i / 2)) i := by
  obtain ⟨h1, h2, h3⟩ := engOk_iff.1 ok
  have hD := backN_length l 3
  induction t with
  | zero =>
    intro i hi
    show sat (skewS l) i = _
    unfold skewS
    rw [at_genS hi]
    have := turnN_back ok (i / 2) (3 - i / 2)
    rw [show i / 2 + (3 - i / 2) = 3 by omega] at this
    rw [show 3 + 0 - i / 2 = 3 - i / 2 by omega, this]
  | succ t ih =>
    have hl := hN_length (skewS l) t
    rw [skewS_length] at hl
    have first : ∀ i, i < l.length → sat (halfS (hN (skewS l) t) 0) i = if i % 2 = 0 then sat (turnN (backN l 3) (3 + t + 1 - i / 2)) i else sat (turnN (backN l 3) (3 + t - i / 2)) i := by
      intro i hi
      rw [halfS_at (by rw [hl]; exact hi), hl]
      by_cases he : i % 2 = 0
      · rw [if_pos he, show 3 + t + 1 - i / 2 = (3 + t - i / 2) + 1 by omega, turnN_at _ _ _ (by rw [hD]; exact hi), hD]
        by_cases h4 : i + 1 < l.length
        · rw [if_pos ⟨he, h4⟩, if_pos h4, ih i hi, ih (i + 1) h4, show (i + 1) / 2 = i / 2 by omega]
        · rw [if_neg (fun h => h4 h.2), if_neg h4, ih i hi]
      · rw [if_neg (fun h => he h.1), if_neg he, ih i hi]
    intro i hi
    show sat (halfS (halfS (hN (skewS l) t) 0) 1) i = _
    rw [halfS_at (by rw [halfS_length, hl]; exact hi), halfS_length, hl]
    by_cases he : i % 2 = 1
    · rw [show 3 + (t + 1) - i / 2 = (3 + t - i / 2) + 1 by omega, turnN_at _ _ _ (by rw [hD]; exact hi), hD]
      have hf := first i hi
      rw [if_neg (by omega)] at hf
      by_cases h4 : i + 1 < l.length
      · have hf1 := first (i + 1) h4
        rw [if_pos (by omega), show 3 + t + 1 - (i + 1) / 2 = 3 + t - i / 2 by omega] at hf1
        rw [if_pos ⟨he, h4⟩, if_pos h4, hf, hf1]
      · rw [if_neg (fun h => h4 h.2), if_neg h4, hf]
    · have hf := first i hi
      rw [if_pos (by omega)] at hf
      rw [if_neg (fun h => he h.1), hf, show 3 + (t + 1) - i / 2 = 3 + t + 1 - i / 2 by omega]
/-- In halves, the first column shows what it shows in whole turns. -/
theorem halves_zero {l : List ByteArray} (ok : engOk l = true) (t : Nat) : sat (hN (skewS l) t) 0 = sat (turnN l t) 0 := by
  obtain ⟨h1, h2, h3⟩ := engOk_iff.1 ok
  rw [skew_inv ok t 0 (by omega), show 3 + t - 0 / 2 = 3 + t by omega, ← turnN_addW]
  have := turnN_back ok 0 3
  rw [Nat.zero_add] at this
  rw [this]
  rfl
theorem hN_ok {l : List ByteArray} (ok : engOk l = true) (t : Nat) : engOk (hN (skewS l) t) = true := by
  obtain ⟨h1, h2, h3⟩ := engOk_iff.1 ok
  have hl := hN_length (skewS l) t
  rw [skewS_length] at hl
  have key : ∀ i, i < l.length → colOk (sat (hN (skewS l) t) i) = true ∧ (sat (hN (skewS l) t) i).size = (sat l 0).size := by
    intro i hi
    rw [skew_inv ok t i hi]
    have hk := turnN_ok (backN_ok ok 3) (3 + t - i / 2)
    obtain ⟨-, -, k3⟩ := engOk_iff.1 hk
    have hz := k3 i (by rw [turnN_length, backN_length]; exact hi)
    have z0 := turnN_size (l := backN l 3) (by rw [backN_length]; omega) (3 + t - i / 2)
    have b0 : (sat (backN l 3) 0).size = (sat l 0).size := by
      have s1 : ∀ x : List ByteArray, engOk x = true → (sat (backS x) 0).size = (sat x 0).size := fun x hx => (backS_colOk hx 0 (by have := (engOk_iff.1 hx).1; omega)).2
      show (sat (backS (backN l 2)) 0).size = _
      rw [s1 _ (backN_ok ok 2)]
      show (sat (backS (backN l 1)) 0).size = _
      rw [s1 _ (backN_ok ok 1)]
      show (sat (backS (backN l 0)) 0).size = _
      rw [s1 _ (backN_ok ok 0)]
      rfl
    exact ⟨hz.1, by rw [hz.2, z0, b0]⟩
  refine engOk_iff.2 ⟨by rw [hl]; exact h1, by rw [hl]; exact h2, fun k hk => ?_⟩
  rw [hl] at hk
  exact ⟨(key k hk).1, by rw [(key k hk).2, (key 0 (by omega)).2]⟩
end Go.Proofs.Ythkpgcociklddaa

/-
  Differences of columns, turns back, half turns (impl; printed by gen_wha.py).
-/
namespace Go.Proofs.Ythkpgcociklddaa
open Go.RowKit
set_option linter.unusedVariables false
set_option linter.unusedSimpArgs false
set_option maxRecDepth 100000
attribute [local go_sem ↓] Go.wp_at_zero Go.wp_at_succ

set_option maxHeartbeats 1000000 in
theorem implSub_any (s t : ByteArray) (w : World) (hs : colOk s = true) (ht : colOk t = true) (he : s.size = t.size) :
    Calls Try.prog 81 #[.string s, .string t] w fun e w' => e = .returned (.tuple #[.string (subC s t), .bool true]) ∧ Below w.heap.size w w' := by
  have ha := alikeC_true.2 ⟨hs, ht, he⟩
  have s3 : s.size ≤ 9223372036854775807 := by have := colOk_true hs; omega
  have t3 : t.size ≤ 9223372036854775807 := by have := colOk_true ht; omega
  have k12 := (colOk_true hs).2.1
  have c1 := cv_le hs
  have c2 := cv_le ht
  have hT := ten_le k12
  have hT1 := ten_pos s.size
  have hm : md ((cv s : Int) - (cv t : Int)) (ten s.size) < 1000000000000 := by have := md_lt ((cv s : Int) - (cv t : Int)) hT1; omega
  have HE := Lib.hid he
  clear he
  go_enter Try.func81, Try.ntmps81
  go_wp2_with (first | (go_at_call 69; refine (implAlike_any _ _ _ (by assumption) (by assumption)).mono ?_; rintro e w' ⟨rfl, rfl⟩) | (go_at_call 43; refine (valueOf_any _ _ (by assumption)).mono ?_; rintro e w' ⟨rfl, rfl⟩) | (go_at_call 46; refine (power_any s.size _ k12).mono ?_; rintro e w' ⟨rfl, rfl⟩))
  refine (modulo_any ((cv s : Int) - (cv t : Int)) (ten s.size) _ ⟨hT1, hT⟩).mono ?_
  rintro e w' ⟨rfl, rfl⟩
  go_wp2_with fail
  refine (show_any _ s.size _ hm k12).mono ?_
  rintro e w' ⟨rfl, hb⟩
  go_wp2
  go_ret2
  exact ⟨rfl, hb⟩


/-- A turn back half done: the columns from k on are new. -/
def mixB (l : List ByteArray) (k j : Nat) : ByteArray := if k ≤ j then sat (backS l) j else sat l j
theorem mixB_start {l : List ByteArray} {k : Nat} (hk : k + 1 = l.length) (j : Nat) (hj : j < l.length) : mixB l k j = sat l j := by
  unfold mixB
  split
  · rw [backS_at l j hj, if_neg (by omega)]
  · rfl
theorem mixB_set {l : List ByteArray} {k : Nat} {cs : List Value} (hk : k + 1 < l.length) (hc : l.length ≤ cs.length) (h : ∀ j, j < l.length → cs[j]? = some (.string (mixB l (k + 1) j))) :
    ∀ j, j < l.length → (cs.set k (.string (subC (sat l k) (sat (backS l) (k + 1)))))[j]? = some (.string (mixB l k j)) := by
  intro j hj
  by_cases e : j = k
  · subst e
    rw [List.getElem?_set_self (by omega)]
    unfold mixB
    rw [if_pos (by omega), backS_at l j hj, if_pos hk]
  · rw [List.getElem?_set_ne (by omega), h j hj]
    unfold mixB
    by_cases h1 : k + 1 ≤ j
    · rw [if_pos h1, if_pos (by omega)]
    · rw [if_neg h1, if_neg (by omega)]
theorem own_back {w : World} {base g cap : Nat} {cs : List Value} {l : List ByteArray} (ok : engOk l = true) (hg : base ≤ g) (hb : Blk w g 9 cs) (hl : l.length ≤ cap) (hc : cap ≤ 9223372036854775807) (hs : cs.length = cap)
    (h : ∀ j, j < l.length → cs[j]? = some (.string (mixB l 0 j))) : OwnS w base (.slice (some ⟨g, 0, none⟩) l.length cap) (backS l) := by
  have := OwnS.mk' (l := backS l) hg hb (by rw [backS_length]; exact hl) hc hs (fun j hj => by rw [backS_length] at hj; rw [h j hj]; unfold mixB; rw [if_pos (Nat.zero_le _)]) (eng_wf (engOk_back ok))
  rwa [backS_length] at this

set_option maxHeartbeats 2000000 in
theorem turnedBack_any (v : Value) (l : List ByteArray) (w : World) (hv : Strs w v l) (ok : engOk l = true) :
    Calls Try.prog 78 #[v] w fun e w' => ∃ r, e = .returned r ∧ OwnS w' w.heap.size r (backS l) ∧ Below w.heap.size w w' := by
  have HV := Lib.hid hv
  obtain ⟨A, c, rfl, hlc, hc, hrd⟩ := hv.open_
  obtain ⟨l1, l7, hcol⟩ := engOk_iff.1 ok
  obtain ⟨b, o, rfl, hb, hcell⟩ := hrd.strs (by omega)
  have HC := Lib.hid hcell
  have HL := Lib.hid hcol
  have OK := Lib.hid ok
  clear hrd hv hcell hcol ok
  go_enter Try.func78, Try.ntmps78
  go_wp2_with fail
  refine (cloneS_any _ l _ HV.out (by omega)).mono ?_
  rintro e w1 ⟨r, rfl, ho, hb1⟩
  rcases ho.form with ⟨_, h0⟩ | ⟨g, cap, cs0, rfl, hg, hblk0, hlcap, hcm, hcl0, hcs0⟩
  · exfalso; rw [h0] at l1; simp at l1
  · have H0 := Lib.hid (And.intro hcl0 (And.intro hcs0 hb1))
    have hgz := Lib.hid hblk0.lt
    clear hcl0 hcs0 hb1 ho
    go_wp2_with fail
    go_loopw [4] (fun i wr => ∃ (k : Nat) (cs : List Value), k < l.length ∧ i = .int .i64 ((k : Int) - 1) ∧ Blk wr g 9 cs ∧ cs.length = cap ∧ (∀ j, j < l.length → cs[j]? = some (.string (mixB l k j))) ∧ Below w.heap.size w wr)
      (fun i _ => ((intOf i) + 1).toNat)
    case atStart => exact ⟨l.length - 1, cs0, by omega, by go_num, hblk0, H0.out.1, fun j hj => by rw [mixB_start (by omega) j hj]; exact H0.out.2.1 j hj, H0.out.2.2⟩
    case round =>
      obtain ⟨k, cs, hk, rfl, hblk, hcl, hcs, hbel⟩ := hrel
      have H := Lib.hid (And.intro hcl (And.intro hcs hbel))
      clear hcl hcs hbel H0 hblk0
      cases k with
      | zero =>
        go_wp2
        go_ret
        exact ⟨_, rfl, own_back OK.out hg hblk hlcap hcm H.out.1 H.out.2.1, H.out.2.2⟩
      | succ k =>
        have hck : wr.cell? ⟨b, o + k, none⟩ = some (.string (sat l k)) := (H.out.2.2.cell (by exact hb)).trans (HC.out k (by omega))
        have hcn : wr.cell? ⟨g, k + 1, none⟩ = some (.string (sat (backS l) (k + 1))) := by rw [hblk.cell, H.out.2.1 (k + 1) hk]; unfold mixB; rw [if_pos (Nat.le_refl _)]
        have hcw : wr.cell? ⟨g, k, none⟩ = some (.string (sat l k)) := by rw [hblk.cell, H.out.2.1 k (by omega)]; unfold mixB; rw [if_neg (by omega)]
        have hkk : (((k + 1 : Nat) : Int) - 1) = (k : Int) := by omega
        rw [hkk]
        have hp : (k : Int) + 1 < (l.length : Int) := by omega
        have hp0 : (0 : Int) ≤ (k : Int) + 1 := by omega
        have hwr : IntKind.i64.wrap ((k : Int) + 1) = (k : Int) + 1 := (by first | go_num | (rw [IntWalk.i64_in] <;> omega))
        have htn : ((k : Int) + 1).toNat = k + 1 := by omega
        have hk0 : k < l.length := by omega
        have hz := hblk.lt
        have BK := Lib.hid (backS_colOk OK.out (k + 1) hk)
        have tok1 : True := trivial
        go_wp2_with fail
        go_region_law (first
          | (go_simp; go_at_call 81; have _t := tok1; refine (implSub_any _ _ _ (HL.out k hk0).1 BK.out.1 ((HL.out k hk0).2.trans BK.out.2.symm)).mono ?_; rintro e w2 ⟨rfl, b2⟩; replace b2 : Below wr.heap.size wr w2 := (by first | exact b2 | exact bel_trans ((Below.refl _ _).drew) b2); have hbl2 := hblk.below b2 hz; have hcw2 : w2.cell? ⟨g, k, none⟩ = some (.string (sat l k)) := (b2.cell hz).trans hcw; have hfw2 := hbl2.frozen k; clear tok1))
        all_goals
          go_wp2
          go_roundw
          case rel =>
            have hB := bel_trans (show Below w.heap.size w wr from H.out.2.2) b2
            refine ⟨k, _, by omega, by go_num, (by first | exact hbl2.set_ k _ | exact hbl2.set_ k _), by rw [List.length_set]; exact H.out.1, mixB_set hk (by rw [H.out.1]; exact hlcap) H.out.2.1, (by first | exact hB.setCell hg _ | exact (hB.setCell hg _).drew)⟩
          case measure => simp [intOf]


/-- Half a turn half done: of the columns of f's kind those ahead of k are new. -/
def mixH (l : List ByteArray) (f k j : Nat) : ByteArray := if j < k then sat (halfS l f) j else sat l j
theorem mixH_set {l : List ByteArray} {f k : Nat} {cs : List Value} (hf : k % 2 = f) (hk : k + 1 < l.length) (hc : l.length ≤ cs.length) (h : ∀ j, j < l.length → cs[j]? = some (.string (mixH l f k j))) :
    ∀ j, j < l.length → (cs.set k (.string (addC (sat l k) (sat l (k + 1)))))[j]? = some (.string (mixH l f (k + 2) j)) := by
  intro j hj
  by_cases e : j = k
  · subst e
    rw [List.getElem?_set_self (by omega)]
    unfold mixH
    rw [if_pos (by omega), halfS_at hj, if_pos ⟨hf, hk⟩]
  · rw [List.getElem?_set_ne (by omega), h j hj]
    unfold mixH
    by_cases h1 : j < k
    · rw [if_pos h1, if_pos (by omega)]
    · rw [if_neg h1]
      by_cases h2 : j < k + 2
      · rw [if_pos h2, halfS_at hj, if_neg (fun h => by omega)]
      · rw [if_neg h2]
theorem mixH_start (l : List ByteArray) (f j : Nat) (hf : f ≤ 1) (hj : j < l.length) : mixH l f f j = sat l j := by
  unfold mixH
  split
  · rw [halfS_at hj, if_neg (fun h => by omega)]
  · rfl
theorem mixH_end {l : List ByteArray} {f k j : Nat} (hf : k % 2 = f) (hk : ¬ k + 1 < l.length) (hj : j < l.length) : mixH l f k j = sat (halfS l f) j := by
  unfold mixH
  split
  · rfl
  · rw [halfS_at hj, if_neg (fun h => by omega)]
theorem engOk_half {l : List ByteArray} (h : engOk l = true) (f : Nat) : engOk (halfS l f) = true := by
  obtain ⟨h1, h2, h3⟩ := engOk_iff.1 h
  have key : ∀ i, i < l.length → colOk (sat (halfS l f) i) = true ∧ (sat (halfS l f) i).size = (sat l 0).size := by
    intro i hi
    rw [halfS_at hi]
    split
    · exact ⟨addC_ok (h3 i hi).1, by rw [addC_size]; exact (h3 i hi).2⟩
    · exact h3 i hi
  refine engOk_iff.2 ⟨by rw [halfS_length]; exact h1, by rw [halfS_length]; exact h2, fun k hk => ?_⟩
  rw [halfS_length] at hk
  exact ⟨(key k hk).1, by rw [(key k hk).2, (key 0 (by omega)).2]⟩
theorem own_half {w : World} {base g cap : Nat} {cs : List Value} {l : List ByteArray} {f : Nat} (ok : engOk l = true) (hg : base ≤ g) (hb : Blk w g 9 cs) (hl : l.length ≤ cap) (hc : cap ≤ 9223372036854775807) (hs : cs.length = cap)
    (h : ∀ j, j < l.length → cs[j]? = some (.string (sat (halfS l f) j))) : OwnS w base (.slice (some ⟨g, 0, none⟩) l.length cap) (halfS l f) := by
  have := OwnS.mk' (l := halfS l f) hg hb (by rw [halfS_length]; exact hl) hc hs (fun j hj => by rw [halfS_length] at hj; exact h j hj) (eng_wf (engOk_half ok f))
  rwa [halfS_length] at this

set_option maxHeartbeats 2000000 in
theorem turnedHalf_any (v : Value) (l : List ByteArray) (f : Nat) (w : World) (hf : f ≤ 1) (hv : Strs w v l) (ok : engOk l = true) :
    Calls Try.prog 77 #[v, .int .i64 f] w fun e w' => ∃ r, e = .returned r ∧ OwnS w' w.heap.size r (halfS l f) ∧ Below w.heap.size w w' := by
  have HV := Lib.hid hv
  obtain ⟨A, c, rfl, hlc, hc, hrd⟩ := hv.open_
  obtain ⟨l1, l7, hcol⟩ := engOk_iff.1 ok
  obtain ⟨b, o, rfl, hb, hcell⟩ := hrd.strs (by omega)
  have HC := Lib.hid hcell
  have HL := Lib.hid hcol
  have OK := Lib.hid ok
  clear hrd hv hcell hcol ok
  go_enter Try.func77, Try.ntmps77
  go_wp2_with fail
  refine (cloneS_any _ l _ HV.out (by omega)).mono ?_
  rintro e w1 ⟨r, rfl, ho, hb1⟩
  rcases ho.form with ⟨_, h0⟩ | ⟨g, cap, cs0, rfl, hg, hblk0, hlcap, hcm, hcl0, hcs0⟩
  · exfalso; rw [h0] at l1; simp at l1
  · have H0 := Lib.hid (And.intro hcl0 (And.intro hcs0 hb1))
    have hgz := Lib.hid hblk0.lt
    clear hcl0 hcs0 hb1 ho
    go_wp2_with fail
    go_loopw [6] (fun i wr => ∃ (k : Nat) (cs : List Value), (k % 2 = f ∧ k ≤ l.length + 1) ∧ i = .int .i64 k ∧ Blk wr g 9 cs ∧ cs.length = cap ∧ (∀ j, j < l.length → cs[j]? = some (.string (mixH l f k j))) ∧ Below w.heap.size w wr)
      (fun i _ => l.length + 2 - (intOf i).toNat)
    case atStart => exact ⟨f, cs0, ⟨by omega, by omega⟩, rfl, hblk0, H0.out.1, fun j hj => by rw [mixH_start l f j hf hj]; exact H0.out.2.1 j hj, H0.out.2.2⟩
    case round =>
      obtain ⟨k, cs, hk, rfl, hblk, hcl, hcs, hbel⟩ := hrel
      have H := Lib.hid (And.intro hcl (And.intro hcs hbel))
      clear hcl hcs hbel H0 hblk0
      by_cases hlt : k + 1 < l.length
      · have hck : wr.cell? ⟨b, o + k, none⟩ = some (.string (sat l k)) := (H.out.2.2.cell (by exact hb)).trans (HC.out k (by omega))
        have hck1 : wr.cell? ⟨b, o + (k + 1), none⟩ = some (.string (sat l (k + 1))) := (H.out.2.2.cell (by exact hb)).trans (HC.out (k + 1) hlt)
        have hcw : wr.cell? ⟨g, k, none⟩ = some (.string (sat l k)) := by rw [hblk.cell, H.out.2.1 k (by omega)]; unfold mixH; rw [if_neg (by omega)]
        have hp : (k : Int) + 1 < (l.length : Int) := by omega
        have hp0 : (0 : Int) ≤ (k : Int) + 1 := by omega
        have hwr : IntKind.i64.wrap ((k : Int) + 1) = (k : Int) + 1 := (by first | go_num | (rw [IntWalk.i64_in] <;> omega))
        have htn : ((k : Int) + 1).toNat = k + 1 := by omega
        have hk0 : k < l.length := by omega
        have hz := hblk.lt
        have tok1 : True := trivial
        go_wp2_with fail
        go_region_law (first
          | (go_simp; go_at_call 73; have _t := tok1; refine (implAdd_any _ _ _ (HL.out k hk0).1 (HL.out (k + 1) hlt).1 ((HL.out k hk0).2.trans (HL.out (k + 1) hlt).2.symm)).mono ?_; rintro e w2 ⟨rfl, b2⟩; replace b2 : Below wr.heap.size wr w2 := (by first | exact b2 | exact bel_trans ((Below.refl _ _).drew) b2); have hbl2 := hblk.below b2 hz; have hcw2 : w2.cell? ⟨g, k, none⟩ = some (.string (sat l k)) := (b2.cell hz).trans hcw; have hfw2 := hbl2.frozen k; clear tok1))
        all_goals
          go_wp2
          go_roundw
          case rel =>
            have hB := bel_trans (show Below w.heap.size w wr from H.out.2.2) b2
            refine ⟨k + 2, _, ⟨by omega, by omega⟩, by go_num, (by first | exact hbl2.set_ k _ | exact hbl2.set_ k _), by rw [List.length_set]; exact H.out.1, mixH_set hk.1 hlt (by rw [H.out.1]; exact hlcap) H.out.2.1, (by first | exact hB.setCell hg _ | exact (hB.setCell hg _).drew)⟩
          case measure => simp [intOf]; omega
      · go_wp2
        go_ret
        exact ⟨_, rfl, own_half OK.out hg hblk hlcap hcm H.out.1 (fun j hj => by rw [H.out.2.1 j hj, mixH_end hk.1 hlt hj]), H.out.2.2⟩

end Go.Proofs.Ythkpgcociklddaa

/-
  Turns back, half turns, turns in halves (impl; printed by gen_whb.py).
-/
namespace Go.Proofs.Ythkpgcociklddaa
open Go.RowKit
set_option linter.unusedVariables false
set_option linter.unusedSimpArgs false
set_option maxRecDepth 100000
attribute [local go_sem ↓] Go.wp_at_zero Go.wp_at_succ

set_option maxHeartbeats 2000000 in
theorem turnedManyB_any (v : Value) (l : List ByteArray) (n : Nat) (w : World) (hv : Strs w v l) (ok : engOk l = true) (hn : n ≤ 300) :
    Calls Try.prog 67 #[v, .int .i64 (-(n : Int))] w fun e w' => ∃ r, e = .returned r ∧ OwnS w' w.heap.size r (backN l n) ∧ Below w.heap.size w w' := by
  have HV := Lib.hid hv
  obtain ⟨A, c, rfl, hlc, hc, hrd⟩ := hv.open_
  have l7 := (engOk_iff.1 ok).2.1
  have OK := Lib.hid ok
  clear hrd hv ok
  go_enter Try.func67, Try.ntmps67
  go_wp2_with fail
  refine (cloneS_any _ l _ HV.out (by omega)).mono ?_
  rintro e w1 ⟨r, rfl, ho, hb1⟩
  have H0 := Lib.hid (And.intro ho hb1)
  clear ho hb1
  go_wp2_with fail
  refine wp_loop_rounds 1 ?_
  rw [rounds_succ]
  go_wp2_with fail
  go_loopw [1, 5] (fun m x wr => ∃ (k : Nat), k ≤ n ∧ m = .int .i64 ((k : Int) - (n : Int)) ∧ OwnS wr w.heap.size x (backN l k) ∧ Below w.heap.size w wr) (fun m _ _ => (-(intOf m)).toNat)
  case atStart => exact ⟨0, by omega, by simp, H0.out.1, H0.out.2⟩
  case round =>
    clear H0
    obtain ⟨k, hk, rfl, hox, hbel⟩ := hrel
    have H := Lib.hid (And.intro hox hbel)
    clear hox hbel
    by_cases hlt : k < n
    · go_wp2_with fail
      refine (turnedBack_any _ (backN l k) _ H.out.1.strs (backN_ok OK.out k)).mono ?_
      rintro e w2 ⟨r2, rfl, ho2, hb2⟩
      have H2 := Lib.hid (And.intro (ho2.lower (base' := w.heap.size) H.out.2.size) (bel_trans H.out.2 hb2))
      clear ho2 hb2
      go_wp2_with fail
      go_roundw
      case rel => exact ⟨k + 1, by omega, by go_num, H2.out.1, H2.out.2⟩
      case measure => simp [intOf]; omega
    · have : k = n := by omega
      subst this
      go_wp2_with fail
      go_ret
      exact ⟨_, rfl, H.out.1, H.out.2⟩


def halfW (f : Nat) (l : List ByteArray) : List ByteArray := if engOk l = true then halfS l f else []
theorem halfW_yes (f : Nat) {l : List ByteArray} (h : engOk l = true) : halfW f l = halfS l f := by simp [halfW, h]
theorem halfW_no (f : Nat) {l : List ByteArray} (h : engOk l = false) : halfW f l = [] := by simp [halfW, h]

set_option maxHeartbeats 2000000 in
theorem turnFirst_any (v : Value) (l : List ByteArray) (w : World) (hv : Strs w v l) :
    Calls Try.prog 65 #[.agg #[v]] w (EngB w (halfW 0 l) (engOk l)) := by
  have HV := Lib.hid hv
  obtain ⟨A, c, rfl, -, -, -⟩ := hv.open_
  clear hv
  have B0 := Lib.hid (show Below w.heap.size w ((w.alloc (.cells #[.slice A l.length c] 28)).alloc (.cells #[.slice none 0 0] 28)) from (bel_alloc w _).alloc (by simp) _)
  have K0 := (Blk.new' w 28 (.slice A l.length c) w.heap.size rfl).alloc (.cells #[.slice none 0 0] 28)
  have K2 := Blk.new' (w.alloc (.cells #[.slice A l.length c] 28)) 28 (.slice none 0 0) (w.heap.size + 1) (by simp)
  obtain ⟨c0, -⟩ := K0.one
  go_enter Try.func65, Try.ntmps65
  go_wp2_with fail
  clear c0
  generalize hW : (w.alloc (.cells #[.slice A l.length c] 28)).alloc (.cells #[.slice none 0 0] 28) = W at *
  clear hW
  refine (implEng_any _ l _ (HV.out.bel B0.out)).mono ?_
  rintro e w2 ⟨rfl, hb⟩
  replace K0 := K0.below hb K0.lt
  replace K2 := K2.below hb K2.lt
  have HB := Lib.hid (bel_trans B0.out hb)
  have hz := HB.out.size
  clear hb
  obtain ⟨c0, -⟩ := K0.one
  obtain ⟨c2, f2⟩ := K2.one
  cases he : engOk l
  · have HN := Lib.hid (halfW_no 0 he)
    go_wp2
    refine bodyPost_ret (v := .tuple #[.agg #[.slice none 0 0], .bool false]) (by simp [results, Try.results65, go_sem, c2]) rfl ⟨.slice none 0 0, by rw [he], ?_, ?_⟩
    · rw [HN.out]; exact OwnS.nil_ _ _
    · exact HB.out.setCell (by simp) _
  · have HY := Lib.hid (And.intro (halfW_yes 0 he) he)
    clear he
    go_wp2_with fail
    refine (turnedHalf_any _ l 0 _ (by omega) (HV.out.bel HB.out) HY.out.2).mono ?_
    rintro e w3 ⟨r, rfl, ho, hb3⟩
    have k2 := K2.lt
    replace K2 := K2.below hb3 K2.lt
    have HO := Lib.hid (And.intro (ho.lower (base' := w.heap.size + 1 + 1) (by omega)) (bel_trans HB.out hb3))
    obtain ⟨A3, d3, rfl, -, -, -⟩ := ho.strs.open_
    clear ho hb3 c2 f2
    obtain ⟨c2, f2⟩ := K2.one
    generalize hp : (halfS l 0).length = p at *
    clear hp
    go_wp2
    refine bodyPost_ret (v := .tuple #[.agg #[.slice A3 p d3], .bool true]) (by simp [results, Try.results65, go_sem, c2]) rfl ⟨_, by rw [HY.out.2], ?_, ?_⟩
    · rw [HY.out.1]; exact (HO.out.1.setCell _ _ (by simp)).lower (by omega)
    · exact HO.out.2.setCell (by simp) _

set_option maxHeartbeats 2000000 in
theorem turnSecond_any (v : Value) (l : List ByteArray) (w : World) (hv : Strs w v l) :
    Calls Try.prog 66 #[.agg #[v]] w (EngB w (halfW 1 l) (engOk l)) := by
  have HV := Lib.hid hv
  obtain ⟨A, c, rfl, -, -, -⟩ := hv.open_
  clear hv
  have B0 := Lib.hid (show Below w.heap.size w ((w.alloc (.cells #[.slice A l.length c] 28)).alloc (.cells #[.slice none 0 0] 28)) from (bel_alloc w _).alloc (by simp) _)
  have K0 := (Blk.new' w 28 (.slice A l.length c) w.heap.size rfl).alloc (.cells #[.slice none 0 0] 28)
  have K2 := Blk.new' (w.alloc (.cells #[.slice A l.length c] 28)) 28 (.slice none 0 0) (w.heap.size + 1) (by simp)
  obtain ⟨c0, -⟩ := K0.one
  go_enter Try.func66, Try.ntmps66
  go_wp2_with fail
  clear c0
  generalize hW : (w.alloc (.cells #[.slice A l.length c] 28)).alloc (.cells #[.slice none 0 0] 28) = W at *
  clear hW
  refine (implEng_any _ l _ (HV.out.bel B0.out)).mono ?_
  rintro e w2 ⟨rfl, hb⟩
  replace K0 := K0.below hb K0.lt
  replace K2 := K2.below hb K2.lt
  have HB := Lib.hid (bel_trans B0.out hb)
  have hz := HB.out.size
  clear hb
  obtain ⟨c0, -⟩ := K0.one
  obtain ⟨c2, f2⟩ := K2.one
  cases he : engOk l
  · have HN := Lib.hid (halfW_no 1 he)
    go_wp2
    refine bodyPost_ret (v := .tuple #[.agg #[.slice none 0 0], .bool false]) (by simp [results, Try.results66, go_sem, c2]) rfl ⟨.slice none 0 0, by rw [he], ?_, ?_⟩
    · rw [HN.out]; exact OwnS.nil_ _ _
    · exact HB.out.setCell (by simp) _
  · have HY := Lib.hid (And.intro (halfW_yes 1 he) he)
    clear he
    go_wp2_with fail
    refine (turnedHalf_any _ l 1 _ (by omega) (HV.out.bel HB.out) HY.out.2).mono ?_
    rintro e w3 ⟨r, rfl, ho, hb3⟩
    have k2 := K2.lt
    replace K2 := K2.below hb3 K2.lt
    have HO := Lib.hid (And.intro (ho.lower (base' := w.heap.size + 1 + 1) (by omega)) (bel_trans HB.out hb3))
    obtain ⟨A3, d3, rfl, -, -, -⟩ := ho.strs.open_
    clear ho hb3 c2 f2
    obtain ⟨c2, f2⟩ := K2.one
    generalize hp : (halfS l 1).length = p at *
    clear hp
    go_wp2
    refine bodyPost_ret (v := .tuple #[.agg #[.slice A3 p d3], .bool true]) (by simp [results, Try.results66, go_sem, c2]) rfl ⟨_, by rw [HY.out.2], ?_, ?_⟩
    · rw [HY.out.1]; exact (HO.out.1.setCell _ _ (by simp)).lower (by omega)
    · exact HO.out.2.setCell (by simp) _

set_option maxHeartbeats 2000000 in
theorem turnHalves_any (v : Value) (l : List ByteArray) (w : World) (hv : Strs w v l) (ok : engOk l = true) :
    Calls Try.prog 34 #[.agg #[v]] w (EngB w (halfS (halfS l 0) 1) true) := by
  have HV := Lib.hid hv
  have OK := Lib.hid ok
  obtain ⟨A, c, rfl, -, -, -⟩ := hv.open_
  clear hv ok
  have B0 := Lib.hid (show Below w.heap.size w ((w.alloc (.cells #[.slice A l.length c] 28)).alloc (.cells #[.slice none 0 0] 28)) from (bel_alloc w _).alloc (by simp) _)
  have K2 := Blk.new' (w.alloc (.cells #[.slice A l.length c] 28)) 28 (.slice none 0 0) (w.heap.size + 1) (by simp)
  go_enter Try.func34, Try.ntmps34
  go_wp2_with fail
  generalize hW : (w.alloc (.cells #[.slice A l.length c] 28)).alloc (.cells #[.slice none 0 0] 28) = W at *
  have hWz : W.heap.size = w.heap.size + 2 := by rw [← hW]; simp
  clear hW
  refine (turnFirst_any _ l _ (HV.out.bel B0.out)).mono ?_
  rintro e w2 ⟨r, rfl, o1, b1⟩
  rw [halfW_yes 0 OK.out] at o1
  rw [OK.out]
  obtain ⟨A1, d1, rfl, -, -, -⟩ := o1.strs.open_
  have OK1 := Lib.hid (engOk_half OK.out 0)
  obtain ⟨L, hL⟩ : ∃ L, halfS l 0 = L := ⟨_, rfl⟩
  rw [hL] at o1 OK1 ⊢
  replace hL := Lib.hid hL
  have bA : Below w2.heap.size w2 (w2.alloc (.cells #[.slice A1 L.length d1] 28)) := bel_alloc w2 _
  have bb := bel_trans b1 bA
  have hz2 := b1.size
  replace K2 := Lib.hid (K2.below bb K2.lt)
  have HB := Lib.hid (bel_trans B0.out bb)
  have O1 := Lib.hid (o1.strs.bel bA)
  have K4 := Blk.new' w2 28 (.slice A1 L.length d1) w2.heap.size rfl
  obtain ⟨c4, -⟩ := K4.one
  clear b1 bA bb o1 K4
  go_wp2_with fail
  clear c4
  generalize hW : w2.alloc (.cells #[.slice A1 L.length d1] 28) = w3 at *
  have hWz3 : w3.heap.size = w2.heap.size + 1 := by rw [← hW]; simp
  clear hW
  refine (turnSecond_any _ L _ O1.out).mono ?_
  rintro e w4 ⟨r, rfl, o2, b2⟩
  rw [halfW_yes 1 OK1.out] at o2
  rw [OK1.out]
  obtain ⟨A2, d2, rfl, -, -, -⟩ := o2.strs.open_
  replace K2 := K2.out.below b2 K2.out.lt
  replace HB := Lib.hid (bel_trans HB.out b2)
  have HO := Lib.hid (o2.lower (base' := w.heap.size + 1 + 1) (by omega))
  obtain ⟨M, hM⟩ : ∃ M, halfS L 1 = M := ⟨_, rfl⟩
  rw [hM] at HO ⊢
  have HLM := Lib.hid (show halfS (halfS l 0) 1 = M by rw [hL.out, hM])
  clear o2 b2 hM
  obtain ⟨c2, f2⟩ := K2.one
  generalize hp : M.length = p at *
  clear hp
  go_wp2
  refine bodyPost_ret (v := .tuple #[.agg #[.slice A2 p d2], .bool true]) (by simp [results, Try.results34, go_sem, c2]) rfl ⟨_, rfl, by rw [HLM.out]; exact (HO.out.setCell ⟨w.heap.size + 1, 0, none⟩ _ (by show w.heap.size + 1 < w.heap.size + 1 + 1; omega)).lower (base' := w.heap.size) (by omega), HB.out.setCell (p := ⟨w.heap.size + 1, 0, none⟩) (by show w.heap.size ≤ w.heap.size + 1; omega) _⟩
end Go.Proofs.Ythkpgcociklddaa

/-
  Results of turns in halves, engines askew (impl; printed by gen_whc.py).
-/
namespace Go.Proofs.Ythkpgcociklddaa
open Go.RowKit
set_option linter.unusedVariables false
set_option linter.unusedSimpArgs false
set_option maxRecDepth 100000
attribute [local go_sem ↓] Go.wp_at_zero Go.wp_at_succ

def hvS (l : List ByteArray) (n : Nat) : List Int := gen (fun i => sg (sat (hN l i) 0)) n
def rhL (l : List ByteArray) (n : Int) : List Int := if runOk l n = true then hvS l n.toNat else []
theorem rhL_no {l : List ByteArray} {n : Int} (h : runOk l n = false) : rhL l n = [] := by simp [rhL, h]
theorem rhL_yes {l : List ByteArray} {n : Nat} (h : runOk l n = true) : rhL l n = hvS l n := by simp [rhL, h]
theorem hN_ok2 {l : List ByteArray} (h : engOk l = true) (n : Nat) : engOk (hN l n) = true := by
  induction n with
  | zero => exact h
  | succ n ih => exact engOk_half (engOk_half ih 0) 1
theorem hN_eng0 {l : List ByteArray} (h : engOk l = true) (n : Nat) : colOk (sat (hN l n) 0) = true := by
  obtain ⟨h1, -, h3⟩ := engOk_iff.1 (hN_ok2 h n)
  exact (h3 0 (by omega)).1

set_option maxHeartbeats 4000000 in
theorem resultsOfH_any (u : Value) (l : List ByteArray) (n : Int) (w : World) (hu : Strs w u l) (hn : -9223372036854775808 ≤ n ∧ n ≤ 9223372036854775807) :
    Calls Try.prog 33 #[.agg #[u], .int .i64 n, .func (Fn.func 34) #[] #[]] w (IntsB w (rhL l n) (runOk l n)) := by
  have HU := Lib.hid hu
  have HOF := Lib.hid hu.off
  obtain ⟨A, c, rfl, -, -, -⟩ := hu.open_
  clear hu
  have B0 := Lib.hid (show Below w.heap.size w (w.alloc (.cells #[.slice A l.length c] 28)) from bel_alloc w _)
  have K0 := Blk.new' w 28 (.slice A l.length c) w.heap.size rfl
  obtain ⟨c0, -⟩ := K0.one
  go_enter Try.func33, Try.ntmps33
  go_wp2_with fail
  clear c0
  generalize hW : w.alloc (.cells #[.slice A l.length c] 28) = W at *
  clear hW
  refine (implEng_any _ l _ (HU.out.bel B0.out)).mono ?_
  rintro e w2 ⟨rfl, hb⟩
  have k0 := K0.lt
  have hbz := hb.size
  replace K0 := K0.below hb K0.lt
  have HB := Lib.hid (bel_trans B0.out hb)
  have hz := HB.out.size
  clear hb
  cases he : engOk l
  · have HN := Lib.hid (And.intro (runOk_e (n := n) he) (rhL_no (runOk_e (n := n) he)))
    go_wp2_with fail
    go_ret2
    exact ⟨_, by rw [HN.out.1]; rfl, by rw [HN.out.2]; exact Own.nil_ _ _, HB.out⟩
  · cases hc : inB n 0 60
    · have HN := Lib.hid (And.intro (runOk_n (l := l) hc) (rhL_no (runOk_n (l := l) hc)))
      have hc' := inB_false.1 hc
      by_cases hlo : n < 0
      · go_wp2_with fail
        go_ret2
        exact ⟨_, by rw [HN.out.1]; rfl, by rw [HN.out.2]; exact Own.nil_ _ _, HB.out⟩
      · have hhi : 60 < n := by omega
        go_wp2_with fail
        go_ret2
        exact ⟨_, by rw [HN.out.1]; rfl, by rw [HN.out.2]; exact Own.nil_ _ _, HB.out⟩
    · have hn2 := inB_true.1 hc
      obtain ⟨n, rfl⟩ : ∃ k : Nat, n = k := ⟨n.toNat, by omega⟩
      have n60 : n ≤ 60 := by omega
      have hrc : runOk l n = true := by simp [runOk, he, hc]
      have HY := Lib.hid (And.intro hrc (And.intro (rhL_yes hrc) he))
      have hmk := fun W => Try.mkInts n (by omega) W
      have HS0 := Lib.hid (And.intro (HU.out.bel HB.out) K0)
      have hlo : ¬ ((n : Int) < 0) := by omega
      have hhi : ¬ (60 < (n : Int)) := by omega
      clear hrc hn2 hn he hc K0
      go_wp2_with fail
      go_loopw [25] (fun i wr => ∃ (k : Nat) (cs : List Value) (x : Value), k ≤ n ∧ i = .int .i64 k ∧ Blk wr w2.heap.size 3 cs ∧ cs.length = n ∧ (∀ j, j < k → cs[j]? = some (.int .i64 (sg (sat (hN l j) 0)))) ∧
          Blk wr w.heap.size 28 [x] ∧ Strs wr x (hN l k) ∧ Off x (hN l k) (fun j => j ≠ w.heap.size ∧ j ≠ w2.heap.size) ∧ Below w.heap.size w wr)
        (fun i _ => n - (intOf i).toNat)
      case atStart =>
        refine ⟨0, _, _, Nat.zero_le _, rfl, Blk.new w2 _ _, reps_length _ _, fun j hj => absurd hj (by omega), HS0.out.2.alloc _, HS0.out.1.bel (bel_alloc w2 _), ?_, bel_trans HB.out (bel_alloc w2 _)⟩
        exact HOF.out.mono fun j hj => by omega
      case round =>
        clear HS0
        obtain ⟨k, cs, x, hk, rfl, hblk, hcl, hcs, K0, hx, ox, hbel⟩ := hrel
        have E0 := hN_eng0 HY.out.2.2 k
        obtain ⟨t1, t7, -⟩ := engOk_iff.1 (hN_ok2 HY.out.2.2 k)
        obtain ⟨Ax, cx, rfl, -, -, hrd⟩ := hx.open_
        obtain ⟨bb, ob, rfl, hbb, hcell⟩ := hrd.strs (by omega)
        have ca := hcell 0 (by omega)
        rw [Nat.add_zero] at ca
        have H := Lib.hid (And.intro hcl (And.intro hcs (And.intro hbel (And.intro hx ox))))
        clear hcl hcs hbel hx ox hcell hrd
        have hsz := H.out.2.2.1.size
        by_cases hlt : k < n
        · obtain ⟨e0, -⟩ := K0.one
          have hcw : wr.cell? ⟨w2.heap.size, k, none⟩ = some (cs[k]'(by rw [H.out.1]; exact hlt)) := by rw [hblk.cell]; exact List.getElem?_eq_getElem _
          have hfw := hblk.frozen k
          have e0' : (wr.setCell ⟨w2.heap.size, k, none⟩ (.int .i64 (sg (sat (hN l k) 0)))).cell? ⟨w.heap.size, 0, none⟩ = _ := (World.cell?_setCell_other _ _ _ _ (by intro e; injection e with q; omega)).trans e0
          go_wp2_with (go_at_call 47; refine (signed_any _ _ (by assumption)).mono ?_; rintro e w' ⟨rfl, rfl⟩)
          have Kg := hblk.set_ k (.int .i64 (sg (sat (hN l k) 0)))
          replace K0 := K0.far (p := ⟨w2.heap.size, k, none⟩) (by show w.heap.size ≠ w2.heap.size; omega) (.int .i64 (sg (sat (hN l k) 0)))
          have sx := H.out.2.2.2.1.setFar ⟨w2.heap.size, k, none⟩ (.int .i64 (sg (sat (hN l k) 0))) (H.out.2.2.2.2.mono fun j hj => by show w2.heap.size ≠ j; omega)
          have hB5 := H.out.2.2.1.setCell (p := ⟨w2.heap.size, k, none⟩) (by show w.heap.size ≤ w2.heap.size; omega) (.int .i64 (sg (sat (hN l k) 0)))
          clear e0 e0' ca hcw hfw hblk
          generalize hW5 : wr.setCell ⟨w2.heap.size, k, none⟩ (.int .i64 (sg (sat (hN l k) 0))) = W5 at *
          clear hW5
          refine (turnHalves_any _ (hN l k) _ sx (hN_ok2 HY.out.2.2 k)).mono ?_
          rintro e w6 ⟨r, rfl, oa, hb6⟩
          have kg := Kg.lt
          have k05 := K0.lt
          replace K0 := K0.below hb6 K0.lt
          replace Kg := Kg.below hb6 Kg.lt
          have HQ := Lib.hid (And.intro oa (bel_trans hB5 hb6))
          obtain ⟨A6, c6, rfl, -, -, -⟩ := oa.strs.open_
          clear oa hb6 sx hB5
          obtain ⟨e0, f0⟩ := K0.one
          go_wp2_with fail
          go_roundw
          case rel =>
            refine ⟨k + 1, _, .slice A6 (halfS (halfS (hN l k) 0) 1).length c6, by omega, by go_num, Kg.far (by show w2.heap.size ≠ w.heap.size; omega) _, by rw [List.length_set]; exact H.out.1, fun j hj => ?_, K0.set_ 0 _, (HQ.out.1.setCell _ _ (by show w.heap.size < W5.heap.size; omega)).strs, ?_, HQ.out.2.setCell (by show w.heap.size ≤ w.heap.size; omega) _⟩
            · by_cases e : j = k
              · subst e; rw [List.getElem?_set_self (by rw [H.out.1]; omega)]
              · rw [List.getElem?_set_ne (by omega)]; exact H.out.2.1 j (by omega)
            · exact HQ.out.1.off.mono fun j hj => by omega
          case measure => simp [intOf]; omega
        · have : k = n := by omega
          subst this
          go_wp2_with fail
          go_ret2
          refine ⟨_, by rw [HY.out.1]; rfl, ?_, H.out.2.2.1⟩
          rw [HY.out.2.1]
          refine own_gen hz hblk H.out.1 (by omega) H.out.2.1 (fun j hj => ?_)
          have hc2 := sg_bd (hN_eng0 HY.out.2.2 j)
          omega

set_option maxHeartbeats 2000000 in
theorem runHalves_any (u : Value) (l : List ByteArray) (n : Int) (w : World) (hu : Strs w u l) (hn : -9223372036854775808 ≤ n ∧ n ≤ 9223372036854775807) :
    Calls Try.prog 10 #[.agg #[u], .int .i64 n] w (IntsB w (rhL l n) (runOk l n)) := by
  have HU := Lib.hid hu
  obtain ⟨A, c, rfl, -, -, -⟩ := hu.open_
  clear hu
  go_enter Try.func10, Try.ntmps10
  go_wp2_with fail
  refine (resultsOfH_any _ l n _ (HU.out.bel (bel_alloc w _)) hn).mono ?_
  rintro e w2 ⟨r, rfl, ho, hb⟩
  have HF := Lib.hid (And.intro (ho.lower (base' := w.heap.size) (by simp)) (bel_trans (bel_alloc w (.cells #[.slice A l.length c] 28)) hb))
  obtain ⟨A3, d3, rfl, -, -, -⟩ := ho.ints.open_
  clear ho hb
  go_wp2
  go_ret2
  exact ⟨_, rfl, HF.out.1, HF.out.2⟩


/-- An engine half askew. -/
def mixK (l : List ByteArray) (k j : Nat) : ByteArray := if j < k then sat (skewS l) j else sat l j
theorem mixK_set {l : List ByteArray} {k : Nat} {cs : List Value} (hk : k < l.length) (hc : l.length ≤ cs.length) (h : ∀ j, j < l.length → cs[j]? = some (.string (mixK l k j))) :
    ∀ j, j < l.length → (cs.set k (.string (sat (backN l (k / 2)) k)))[j]? = some (.string (mixK l (k + 1) j)) := by
  intro j hj
  by_cases e : j = k
  · subst e
    rw [List.getElem?_set_self (by omega)]
    unfold mixK
    rw [if_pos (by omega)]
    unfold skewS
    rw [at_genS hj]
  · rw [List.getElem?_set_ne (by omega), h j hj]
    unfold mixK
    by_cases h1 : j < k
    · rw [if_pos h1, if_pos (by omega)]
    · rw [if_neg h1, if_neg (by omega)]
theorem skew_wf {l : List ByteArray} (ok : engOk l = true) : WfS (skewS l) := eng_wf (by have := hN_ok ok 0; exact this)
theorem own_skew {w : World} {base g cap : Nat} {cs : List Value} {l : List ByteArray} (ok : engOk l = true) (hg : base ≤ g) (hb : Blk w g 9 cs) (hl : l.length ≤ cap) (hc : cap ≤ 9223372036854775807) (hs : cs.length = cap)
    (h : ∀ j, j < l.length → cs[j]? = some (.string (mixK l l.length j))) : OwnS w base (.slice (some ⟨g, 0, none⟩) l.length cap) (skewS l) := by
  have := OwnS.mk' (l := skewS l) hg hb (by rw [skewS_length]; exact hl) hc hs (fun j hj => by rw [skewS_length] at hj; rw [h j hj]; unfold mixK; rw [if_pos hj]) (skew_wf ok)
  rwa [skewS_length] at this
set_option maxHeartbeats 4000000 in
theorem skew_any (v : Value) (l : List ByteArray) (w : World) (hv : Strs w v l) (ok : engOk l = true) :
    Calls Try.prog 35 #[.agg #[v]] w (EngB w (skewS l) true) := by
  have HV := Lib.hid hv
  have OK := Lib.hid ok
  obtain ⟨l1, l7, -⟩ := engOk_iff.1 ok
  obtain ⟨A, c, rfl, -, -, -⟩ := hv.open_
  clear hv ok
  have B0 := Lib.hid (show Below w.heap.size w ((w.alloc (.cells #[.slice A l.length c] 28)).alloc (.cells #[.slice none 0 0] 28)) from (bel_alloc w _).alloc (by simp) _)
  have K0 := (Blk.new' w 28 (.slice A l.length c) w.heap.size rfl).alloc (.cells #[.slice none 0 0] 28)
  have K2 := Blk.new' (w.alloc (.cells #[.slice A l.length c] 28)) 28 (.slice none 0 0) (w.heap.size + 1) (by simp)
  obtain ⟨c0, -⟩ := K0.one
  go_enter Try.func35, Try.ntmps35
  go_wp2_with fail
  clear c0
  generalize hW : (w.alloc (.cells #[.slice A l.length c] 28)).alloc (.cells #[.slice none 0 0] 28) = W at *
  have hWz : W.heap.size = w.heap.size + 2 := by rw [← hW]; simp
  clear hW
  refine (implEng_any _ l _ (HV.out.bel B0.out)).mono ?_
  rintro e w2 ⟨rfl, hb⟩
  rw [OK.out]
  replace K0 := K0.below hb K0.lt
  replace K2 := K2.below hb K2.lt
  have HB := Lib.hid (bel_trans B0.out hb)
  have hz2 := hb.size
  clear hb
  obtain ⟨c0, -⟩ := K0.one
  go_wp2_with fail
  clear c0
  refine (cloneS_any _ l _ (HV.out.bel HB.out) (by omega)).mono ?_
  rintro e w3 ⟨r, rfl, ho, hb1⟩
  rcases ho.form with ⟨_, h0⟩ | ⟨g, cap, cs0, rfl, hg, hblk0, hlcap, hcm, hcl0, hcs0⟩
  · exfalso; rw [h0] at l1; simp at l1
  · replace K0 := Lib.hid (K0.below hb1 K0.lt)
    replace K2 := Lib.hid (K2.below hb1 K2.lt)
    have HB3 := Lib.hid (bel_trans HB.out hb1)
    have H0 := Lib.hid (And.intro hcl0 hcs0)
    clear hb1 ho hcl0 hcs0
    go_wp2_with fail
    go_loopw [15] (fun i wr => ∃ (k : Nat) (cs : List Value), k ≤ l.length ∧ i = .int .i64 k ∧ Blk wr g 9 cs ∧ cs.length = cap ∧ (∀ j, j < l.length → cs[j]? = some (.string (mixK l k j))) ∧ Blk wr w.heap.size 28 [.slice A l.length c] ∧ Blk wr (w.heap.size + 1) 28 [.slice none 0 0] ∧ Below w.heap.size w wr)
      (fun i _ => l.length - (intOf i).toNat)
    case atStart => exact ⟨0, cs0, Nat.zero_le _, rfl, hblk0, H0.out.1, fun j hj => by unfold mixK; rw [if_neg (by omega)]; exact H0.out.2 j hj, K0.out, K2.out, HB3.out⟩
    case round =>
      obtain ⟨k, cs, hk, rfl, hblk, hcl, hcs, k0, k2, hbel⟩ := hrel
      have H := Lib.hid (And.intro hcl (And.intro hcs (And.intro k0 (And.intro k2 hbel))))
      have hbz := hblk.lt
      have HBK := Lib.hid hblk
      clear hcl hcs k0 k2 hbel H0 hblk0 hblk K0 K2
      by_cases hlt : k < l.length
      · obtain ⟨c0, -⟩ := H.out.2.2.1.one
        have hq : (k : Int).tdiv 2 = ((k / 2 : Nat) : Int) := by rw [Int.tdiv_eq_ediv_of_nonneg (by omega)]; omega
        obtain ⟨d, hd⟩ : ∃ d, k / 2 = d := ⟨_, rfl⟩
        rw [hd] at hq
        have hd3 : d ≤ 3 := by omega
        replace hd := Lib.hid hd
        have hng : IntKind.i64.wrap (-(d : Int)) = -(d : Int) := (IntWalk.i64_left _).trans (IntWalk.wrap64_in _ (by omega))
        go_wp2_with fail
        refine (turnedManyB_any _ l d _ (HV.out.bel H.out.2.2.2.2) OK.out (by omega)).mono ?_
        rintro e w4 ⟨r, rfl, o4, b4⟩
        have hlB := backN_length l d
        have HMX := Lib.hid (show sat (backN l (k / 2)) k = sat (backN l d) k by rw [hd.out])
        obtain ⟨A4, c4, rfl, hlc4, -, hrd⟩ := o4.strs.open_
        obtain ⟨b4', o4', rfl, hbb, hcell⟩ := hrd.strs (by omega)
        have ck := hcell k (by omega)
        have hbl4 := HBK.out.below b4 hbz
        have hcw : w4.cell? ⟨g, k, none⟩ = some (.string (mixK l k k)) := (b4.cell hbz).trans ((HBK.out.cell k).trans (H.out.2.1 k hlt))
        have hfw := hbl4.frozen k
        have HB4 := Lib.hid (bel_trans H.out.2.2.2.2 b4)
        have K04 := Lib.hid (H.out.2.2.1.below b4 H.out.2.2.1.lt)
        have K24 := Lib.hid (H.out.2.2.2.1.below b4 H.out.2.2.2.1.lt)
        have HBL := Lib.hid hbl4
        rw [hlB] at *
        obtain ⟨Z, hZ⟩ : ∃ Z, sat (backN l d) k = Z := ⟨_, rfl⟩
        rw [hZ] at ck HMX
        clear hcell hrd o4 b4 c0 hbl4 hZ
        go_wp2_with fail
        go_roundw
        case rel =>
          refine ⟨k + 1, cs.set k (.string Z), by omega, by go_num, HBL.out.set_ k _, by rw [List.length_set]; exact H.out.1, by rw [← HMX.out]; exact mixK_set hlt (by rw [H.out.1]; exact hlcap) H.out.2.1, K04.out.far (by show w.heap.size ≠ g; omega) _, K24.out.far (by show w.heap.size + 1 ≠ g; omega) _, HB4.out.setCell (by show w.heap.size ≤ g; omega) _⟩
        case measure => simp [intOf]; omega
      · have hke : k = l.length := by omega
        subst hke
        obtain ⟨c2, f2⟩ := H.out.2.2.2.1.one
        have HO := Lib.hid (own_skew OK.out hg HBK.out hlcap hcm H.out.1 H.out.2.1)
        go_wp2
        refine bodyPost_ret (v := .tuple #[.agg #[.slice (some ⟨g, 0, none⟩) l.length cap], .bool true]) (by simp [results, Try.results35, go_sem, c2]) rfl ⟨_, rfl, (HO.out.setCell ⟨w.heap.size + 1, 0, none⟩ _ (by show w.heap.size + 1 < w2.heap.size; omega)).lower (base' := w.heap.size) (by omega), H.out.2.2.2.2.setCell (p := ⟨w.heap.size + 1, 0, none⟩) (by show w.heap.size ≤ w.heap.size + 1; omega) _⟩
set_option maxHeartbeats 2000000 in
theorem deSkewed_any (v : Value) (l : List ByteArray) (w : World) (hv : Strs w v l) (ok : engOk l = true) :
    Calls Try.prog 11 #[.agg #[v]] w fun e w' => ∃ r, e = .returned (.agg #[r]) ∧ OwnS w' w.heap.size r (skewS l) ∧ Below w.heap.size w w' := by
  have HV := Lib.hid hv
  have OK := Lib.hid ok
  obtain ⟨A, c, rfl, -, -, -⟩ := hv.open_
  clear hv ok
  have B0 := Lib.hid (show Below w.heap.size w ((w.alloc (.cells #[.slice A l.length c] 28)).alloc (.cells #[.slice none 0 0] 28)) from (bel_alloc w _).alloc (by simp) _)
  have K2 := Blk.new' (w.alloc (.cells #[.slice A l.length c] 28)) 28 (.slice none 0 0) (w.heap.size + 1) (by simp)
  go_enter Try.func11, Try.ntmps11
  go_wp2_with fail
  generalize hW : (w.alloc (.cells #[.slice A l.length c] 28)).alloc (.cells #[.slice none 0 0] 28) = W at *
  have hWz : W.heap.size = w.heap.size + 2 := by rw [← hW]; simp
  clear hW
  refine (skew_any _ l _ (HV.out.bel B0.out) OK.out).mono ?_
  rintro e w2 ⟨r, rfl, o1, b1⟩
  obtain ⟨A1, d1, rfl, -, -, -⟩ := o1.strs.open_
  have hz2 := b1.size
  have k2 := K2.lt
  have KK := K2.below b1 K2.lt
  have HO := Lib.hid (((o1.bel (bel_alloc w2 (.cells #[.slice A1 (skewS l).length d1] 28)))).lower (base' := w.heap.size + 1 + 1) (by omega))
  have HB := Lib.hid (bel_trans B0.out (bel_trans b1 (bel_alloc w2 (.cells #[.slice A1 (skewS l).length d1] 28))))
  have K4 := Blk.new' w2 28 (.slice A1 (skewS l).length d1) w2.heap.size rfl
  have K5 := KK.alloc (.cells #[.slice A1 (skewS l).length d1] 28)
  obtain ⟨c4, -⟩ := K4.one
  obtain ⟨c2, f2⟩ := K5.one
  clear b1 o1 K4 K5 KK K2
  generalize hp : (skewS l).length = p at *
  clear hp
  go_wp2
  refine bodyPost_ret (v := .agg #[.slice A1 p d1]) (by simp [results, Try.results11, go_sem, c2]) rfl ⟨_, rfl, (HO.out.setCell ⟨w.heap.size + 1, 0, none⟩ _ (by show w.heap.size + 1 < w.heap.size + 1 + 1; omega)).lower (base' := w.heap.size) (by omega), HB.out.setCell (p := ⟨w.heap.size + 1, 0, none⟩) (by show w.heap.size ≤ w.heap.size + 1; omega) _⟩
end Go.Proofs.Ythkpgcociklddaa

/-
  An engine that slips: the plain side.
-/
namespace Go.Proofs.Ythkpgcociklddaa
open Go.RowKit
set_option linter.unusedVariables false
set_option linter.unusedSimpArgs false
set_option maxRecDepth 100000

theorem sg_inj {a b : ByteArray} (ha : colOk a = true) (hb : colOk b = true) (hs : a.size = b.size) (h : sg a = sg b) : cv a = cv b := by
  have h1 := cv_lt ha
  have h2 := cv_lt hb
  rw [hs] at h1
  unfold sg at h
  rw [hs] at h
  split at h <;> split at h <;> omega
/-- A column that slips by an amount. -/
def slipC (c : ByteArray) (a : Int) : ByteArray := col (md ((cv c : Int) + a) (ten c.size)) c.size
theorem slipC_size (c : ByteArray) (a : Int) : (slipC c a).size = c.size := col_size _ _
theorem slipC_ok {c : ByteArray} (h : colOk c = true) (a : Int) : colOk (slipC c a) = true := by
  have := colOk_true h
  exact colOk_col _ this.1 this.2.1
theorem ten_big {k : Nat} (h : 1 ≤ k) : 10 ≤ ten k := by
  have := ten_mono h
  have : ten 1 = 10 := by rw [ten_succ, ten_zero]
  omega
theorem slipC_ne {c : ByteArray} (h : colOk c = true) {a : Int} (h1 : 1 ≤ a) (h9 : a ≤ 9) : sg (slipC c a) ≠ sg c := by
  intro e
  have h2 := sg_inj (slipC_ok h a) h (slipC_size c a) e
  have hT := ten_pos c.size
  have hb := ten_big (colOk_true h).1
  have h3 := cv_lt h
  have h4 : cv (slipC c a) = md ((cv c : Int) + a) (ten c.size) := by unfold slipC; exact cv_col (md_lt _ hT)
  have h5 := md_cast ((cv c : Int) + a) hT
  rw [h4] at h2
  rw [h2] at h5
  by_cases h6 : (cv c : Int) + a < (ten c.size : Int)
  · rw [Int.emod_eq_of_lt (by omega) h6] at h5
    omega
  · have : ((cv c : Int) + a) % (ten c.size : Int) = (cv c : Int) + a - (ten c.size : Int) := by
      rw [← Int.sub_emod_right, Int.emod_eq_of_lt (by omega) (by omega)]
    omega
def bump (l : List ByteArray) (a : Int) : List ByteArray := l.set 0 (slipC (sat l 0) a)
theorem bump_length (l : List ByteArray) (a : Int) : (bump l a).length = l.length := List.length_set
theorem bump_at {l : List ByteArray} (a : Int) {i : Nat} (hi : i < l.length) : sat (bump l a) i = if i = 0 then slipC (sat l 0) a else sat l i := by
  unfold bump
  rw [sat_eq _ i (by rw [List.length_set]; exact hi), List.getElem_set]
  by_cases h : i = 0
  · rw [if_pos h.symm, if_pos h]
  · rw [if_neg (fun e => h e.symm), if_neg h, sat_eq l i hi]
theorem bump_ok {l : List ByteArray} (h : engOk l = true) (a : Int) : engOk (bump l a) = true := by
  obtain ⟨h1, h2, h3⟩ := engOk_iff.1 h
  have z : (sat (bump l a) 0).size = (sat l 0).size := by rw [bump_at a (by omega), if_pos rfl, slipC_size]
  refine engOk_iff.2 ⟨by rw [bump_length]; exact h1, by rw [bump_length]; exact h2, fun k hk => ?_⟩
  rw [bump_length] at hk
  rw [z, bump_at a hk]
  split
  · exact ⟨slipC_ok (h3 0 (by omega)).1 a, slipC_size _ _⟩
  · exact h3 k hk
/-- The columns of which the n-th result is read. -/
def slipS (l : List ByteArray) (t : Nat) (a : Int) : Nat → List ByteArray
  | 0 => if 0 = t then bump l a else l
  | n + 1 => if n + 1 = t then bump (turnS (slipS l t a n)) a else turnS (slipS l t a n)
theorem slipS_ok {l : List ByteArray} (h : engOk l = true) (t : Nat) (a : Int) (n : Nat) : engOk (slipS l t a n) = true := by
  induction n with
  | zero =>
    unfold slipS
    split
    · exact bump_ok h a
    · exact h
  | succ n ih =>
    unfold slipS
    split
    · exact bump_ok (engOk_turn ih) a
    · exact engOk_turn ih
theorem slipS_early (l : List ByteArray) (t : Nat) (a : Int) (n : Nat) (h : n < t) : slipS l t a n = turnN l n := by
  induction n with
  | zero => unfold slipS; rw [if_neg (by omega)]; rfl
  | succ n ih => unfold slipS; rw [if_neg (by omega), ih (by omega)]; rfl
theorem slipS_at (l : List ByteArray) (t : Nat) (a : Int) : slipS l t a t = bump (turnN l t) a := by
  cases t with
  | zero => unfold slipS; rw [if_pos rfl]; rfl
  | succ t => unfold slipS; rw [if_pos rfl, slipS_early l (t + 1) a t (by omega)]; rfl
def slipL (l : List ByteArray) (t : Nat) (a : Int) (c : Nat) : List Int := (List.range c).map fun n => sg (sat (slipS l t a n) 0)
theorem slipL_length (l : List ByteArray) (t : Nat) (a : Int) (c : Nat) : (slipL l t a c).length = c := by simp [slipL]
theorem slipL_at {l : List ByteArray} {t : Nat} {a : Int} {c n : Nat} (h : n < c) : at_ (slipL l t a c) n = sg (sat (slipS l t a n) 0) := by
  unfold at_ slipL
  simp [List.getD, h]
/-- A slip is seen. -/
theorem slip_seen {l : List ByteArray} (h : engOk l = true) {t c : Nat} (ht : t < c) {a : Int} (h1 : 1 ≤ a) (h9 : a ≤ 9) : at_ (slipL l t a c) t ≠ sg (sat (turnN l t) 0) := by
  have hk := turnN_ok h t
  obtain ⟨k1, k2, k3⟩ := engOk_iff.1 hk
  rw [slipL_at ht, slipS_at, bump_at a (by omega), if_pos rfl]
  exact slipC_ne (k3 0 (by omega)).1 h1 h9
end Go.Proofs.Ythkpgcociklddaa

/-
  An engine that slips (impl; printed by gen_whd.py).
-/
namespace Go.Proofs.Ythkpgcociklddaa
open Go.RowKit
set_option linter.unusedVariables false
set_option linter.unusedSimpArgs false
set_option maxRecDepth 100000
attribute [local go_sem ↓] Go.wp_at_zero Go.wp_at_succ

theorem OwnS.openS {w : World} {base : Nat} {v : Value} {l : List ByteArray} (h : OwnS w base v l) (hl : 0 < l.length) :
    ∃ b cap, v = .slice (some ⟨b, 0, none⟩) l.length cap ∧ base ≤ b ∧ b < w.heap.size ∧ l.length ≤ cap ∧ cap ≤ 9223372036854775807 ∧ ∀ j, j < l.length → w.cell? ⟨b, j, none⟩ = some (.string (sat l j)) ∧ w.frozen? ⟨b, j, none⟩ = false := by
  rcases h.form with ⟨_, e⟩ | ⟨b, cap, cs, e, hg, hblk, h1, h2, h3, h4⟩
  · subst e; simp at hl
  · exact ⟨b, cap, e, hg, hblk.lt, h1, h2, fun j hj => ⟨by rw [hblk.cell]; exact h4 j hj, hblk.frozen j⟩⟩
theorem OwnS.setJ {w : World} {base b n cap : Nat} {l : List ByteArray} (h : OwnS w base (.slice (some ⟨b, 0, none⟩) n cap) l) (j : Nat) (z : ByteArray) (hj : j < l.length) (hz : z.size ≤ 9223372036854775807) :
    OwnS (w.setCell ⟨b, j, none⟩ (.string z)) base (.slice (some ⟨b, 0, none⟩) n cap) (l.set j z) := by
  rcases h.form with ⟨e, _⟩ | ⟨g1, cap1, cs, e, hg, hblk, h1, h2, h3, h4⟩
  · cases e
  · injection e with e1 e2 e3
    injection e1 with e1
    injection e1 with e1
    subst e1 e2 e3
    have := OwnS.mk' (l := l.set j z) (cs := cs.set j (.string z)) hg (hblk.set_ j (.string z)) (by rw [List.length_set]; exact h1) h2 (by rw [List.length_set]; exact h3) (fun i hi => by
      rw [List.length_set] at hi
      rw [sat_eq _ i (by rw [List.length_set]; exact hi), List.getElem_set]
      by_cases q : j = i
      · subst q; rw [List.getElem?_set_self (by omega), if_pos rfl]
      · rw [List.getElem?_set_ne (by omega), if_neg q, ← sat_eq l i hi]; exact h4 i hi) (fun s hs => by
      rcases List.mem_or_eq_of_mem_set hs with h5 | h5
      · exact h.2.1 s h5
      · rw [h5]; exact hz)
    rwa [List.length_set] at this
theorem grown_setW (w : World) (b j : Nat) (u : Value) : w.grownBy (w.setCell ⟨b, j, none⟩ u) (some b) := only_setCell ⟨rfl, rfl, rfl, Nat.le_refl _, fun _ _ _ => rfl⟩ (.inl rfl) u
set_option maxHeartbeats 1000000 in
theorem slipValid_any (t a : Nat) (w : World) (ht : t < 60) (ha : a ≤ 100000) :
    Calls Try.prog 41 #[.int .i64 0, .int .i64 t, .int .i64 a] w fun e w' => e = .returned (.bool true) ∧ w' = w := by
  go_enter Try.func41, Try.ntmps41
  go_wp2_with fail
  refine (show Calls Try.prog 70 #[.int .i64 0] w fun e w' => e = .returned (.bool true) ∧ w' = w by
    go_enter Try.func70, Try.ntmps70
    go_wp2
    go_ret
    exact ⟨rfl, rfl⟩).mono ?_
  rintro e w2 ⟨rfl, rfl⟩
  have h1 : (0 : Int) ≤ (t : Int) := by omega
  have h2 : (t : Int) < 60 := by omega
  have h3 : (-100000 : Int) ≤ (a : Int) := by omega
  have h4 : (a : Int) ≤ 100000 := by omega
  go_wp2_with fail
  refine (show Calls Try.prog 31 #[.int .i64 a, .int .i64 100000] w2 fun e w' => e = .returned (.bool true) ∧ w' = w2 by
    go_enter Try.func31, Try.ntmps31
    go_wp2
    go_ret
    exact ⟨rfl, rfl⟩).mono ?_
  rintro e w3 ⟨rfl, rfl⟩
  go_wp2
  go_ret
  exact ⟨rfl, rfl⟩
/-- The columns ahead of the k-th result. -/
def preS (l : List ByteArray) (t : Nat) (a : Int) : Nat → List ByteArray
  | 0 => l
  | k + 1 => turnS (slipS l t a k)
theorem slip_pre (l : List ByteArray) (t : Nat) (a : Int) (k : Nat) : slipS l t a k = if k = t then bump (preS l t a k) a else preS l t a k := by
  cases k <;> rfl
theorem preS_ok {l : List ByteArray} (h : engOk l = true) (t : Nat) (a : Int) (k : Nat) : engOk (preS l t a k) = true := by
  cases k with
  | zero => exact h
  | succ k => exact engOk_turn (slipS_ok h t a k)
theorem slipS_length (l : List ByteArray) (t : Nat) (a : Int) (k : Nat) : (slipS l t a k).length = l.length := by
  induction k with
  | zero => unfold slipS; split; exact bump_length _ _; rfl
  | succ k ih => unfold slipS; split; rw [bump_length, turnS_length, ih]; rw [turnS_length, ih]
theorem preS_length (l : List ByteArray) (t : Nat) (a : Int) (k : Nat) : (preS l t a k).length = l.length := by
  cases k with
  | zero => rfl
  | succ k => show (turnS _).length = _; rw [turnS_length, slipS_length]
set_option maxHeartbeats 8000000 in
theorem slip_any (u : Value) (l : List ByteArray) (n t a : Nat) (w : World) (hu : Strs w u l) (ok : engOk l = true) (hn : n ≤ 60) (ht : t < 60) (ha : a ≤ 100000) :
    Calls Try.prog 14 #[.agg #[u], .int .i64 n, .int .i64 t, .int .i64 0, .int .i64 a] w fun e w' => ∃ r, e = .returned (.tuple #[r, .bool true]) ∧ Own w' w.heap.size r (slipL l t a n) ∧ Below w.heap.size w w' := by
  have HU := Lib.hid hu
  have OK := Lib.hid ok
  obtain ⟨l1, l7, -⟩ := engOk_iff.1 ok
  obtain ⟨A, c, rfl, -, -, -⟩ := hu.open_
  clear hu ok
  have B0 := Lib.hid (show Below w.heap.size w (w.alloc (.cells #[.slice A l.length c] 28)) from bel_alloc w _)
  have K0 := Blk.new' w 28 (.slice A l.length c) w.heap.size rfl
  obtain ⟨c0, -⟩ := K0.one
  have hn1 : (0 : Int) ≤ (n : Int) := by omega
  have hn2 : (n : Int) ≤ 60 := by omega
  have hl1 : (0 : Int) < (l.length : Int) := by omega
  have hl2 : ¬ (l.length : Int) ≤ 0 := by omega
  have hlne : ¬ l = [] := by rintro rfl; simp at l1
  go_enter Try.func14, Try.ntmps14
  go_wp2_with fail
  clear c0
  generalize hW : w.alloc (.cells #[.slice A l.length c] 28) = W at *
  have hWz : W.heap.size = w.heap.size + 1 := by rw [← hW]; simp
  clear hW
  refine (implEng_any _ l _ (HU.out.bel B0.out)).mono ?_
  rintro e w2 ⟨rfl, hb⟩
  rw [OK.out]
  replace K0 := K0.below hb K0.lt
  have HB := Lib.hid (bel_trans B0.out hb)
  have hz2 := hb.size
  clear hb
  obtain ⟨c0, -⟩ := K0.one
  go_wp2_with fail
  refine (show Calls Try.prog 40 #[.int .i64 n] w2 fun e w' => e = .returned (.bool true) ∧ w' = w2 by
    clear c0 K0
    go_enter Try.func40, Try.ntmps40
    go_wp2
    go_ret
    exact ⟨rfl, rfl⟩).mono ?_
  rintro e w2' ⟨rfl, rfl⟩
  go_wp2_with fail
  refine (slipValid_any t a _ ht ha).mono ?_
  rintro e w2'' ⟨rfl, rfl⟩
  go_wp2_with fail
  refine (cloneS_any _ l _ (HU.out.bel HB.out) (by omega)).mono ?_
  rintro e w3 ⟨r, rfl, ho, hb1⟩
  have HB3 := Lib.hid (bel_trans HB.out hb1)
  have hmk := fun W => Try.mkInts n (by omega) W
  have hz3 := hb1.size
  have HO := Lib.hid (ho.bel (bel_alloc w3 (.cells (reps n (.int .i64 0)).toArray 3)))
  have HN := Lib.hid (show ∀ q, r.ownBlock = some q → w3.heap.size ≠ q from fun q hq => by have := (ho.lt q hq).2; omega)
  have HB4 := Lib.hid (bel_trans HB3.out (bel_alloc w3 (.cells (reps n (.int .i64 0)).toArray 3)))
  have KR := Blk.new w3 3 (reps n (.int .i64 0))
  obtain ⟨A3, c3, rfl, -, -, -⟩ := ho.strs.open_
  clear c0 K0 hb1 ho
  go_wp2_with fail
  generalize hW : w3.alloc (.cells (reps n (.int .i64 0)).toArray 3) = w4 at *
  clear hW
  go_loopw [12, 44] (fun x i wr => ∃ (k : Nat) (cs : List Value), k ≤ n ∧ i = .int .i64 k ∧ Blk wr w3.heap.size 3 cs ∧ cs.length = n ∧ (∀ j, j < k → cs[j]? = some (.int .i64 (sg (sat (slipS l t a j) 0)))) ∧ OwnS wr w.heap.size x (preS l t a k) ∧ (∀ q, x.ownBlock = some q → w3.heap.size ≠ q) ∧ Below w.heap.size w wr)
    (fun _ i _ => n - (intOf i).toNat)
  case atStart => exact ⟨0, _, Nat.zero_le _, rfl, KR, reps_length _ _, fun j hj => absurd hj (Nat.not_lt_zero _), HO.out.lower (by omega), HN.out, HB4.out⟩
  case round =>
    obtain ⟨k, cs, hk, rfl, hblk, hcl, hcs, hx, hne, hbel⟩ := hrel
    have H := Lib.hid (And.intro hcl (And.intro hcs (And.intro hx (And.intro hne hbel))))
    have HBK := Lib.hid hblk
    have hbz := hblk.lt
    have hlP := preS_length l t a k
    have OP := Lib.hid (preS_ok OK.out t a k)
    clear hcl hcs hx hne hbel hblk KR
    by_cases hlt : k < n
    · obtain ⟨P, hP⟩ : ∃ P, preS l t a k = P := ⟨_, rfl⟩
      have HSP := Lib.hid (slip_pre l t a k)
      rw [hP] at hlP OP HSP
      have HX := Lib.hid (show OwnS wr w.heap.size _ P by rw [← hP]; exact H.out.2.2.1)
      clear hP
      obtain ⟨g, cap, rfl, -, hgz, -, -, hcell⟩ := HX.out.openS (by omega)
      obtain ⟨ca, fa⟩ := hcell 0 (by omega)
      have E0 := ((engOk_iff.1 OP.out).2.2 0 (by omega)).1
      have s12 := (colOk_true E0)
      have hgr := H.out.2.2.2.1 g rfl
      have hcw : wr.cell? ⟨w3.heap.size, k, none⟩ = some (cs[k]'(by rw [H.out.1]; exact hlt)) := by rw [HBK.out.cell]; exact List.getElem?_eq_getElem _
      have hfw := HBK.out.frozen k
      rw [hlP] at HX ⊢
      clear hcell
      by_cases hkt : k = t
      · subst hkt
        have HS0 := Lib.hid (show slipS l k a k = bump P a by rw [HSP.out, if_pos rfl])
        obtain ⟨Z, hZ⟩ : ∃ Z, sat P 0 = Z := ⟨_, rfl⟩
        rw [hZ] at ca E0 s12
        have HZ := Lib.hid hZ
        have k12 := s12.2.1
        have c1 := cv_le E0
        have hT := ten_le k12
        have hT1 := ten_pos Z.size
        have hm : md ((cv Z : Int) + (a : Int)) (ten Z.size) < 1000000000000 := by have := md_lt ((cv Z : Int) + (a : Int)) hT1; omega
        clear hZ s12
        go_wp2_with (first | (go_at_call 43; refine (valueOf_any _ _ (by assumption)).mono ?_; rintro e w' ⟨rfl, rfl⟩) | (go_at_call 46; refine (power_any Z.size _ k12).mono ?_; rintro e w' ⟨rfl, rfl⟩))
        refine (modulo_any ((cv Z : Int) + (a : Int)) (ten Z.size) _ ⟨hT1, hT⟩).mono ?_
        rintro e w' ⟨rfl, rfl⟩
        go_wp2_with fail
        refine (show_any _ Z.size _ hm k12).mono ?_
        rintro e w5 ⟨rfl, b5⟩
        have hsc : col (md ((cv Z : Int) + (a : Int)) (ten Z.size)) Z.size = slipC Z (a : Int) := rfl
        rw [hsc]
        obtain ⟨Y, hY⟩ : ∃ Y, slipC Z (a : Int) = Y := ⟨_, rfl⟩
        have hYs : Y.size ≤ 9223372036854775807 := by rw [← hY, slipC_size]; omega
        rw [hY]
        have HX5 := Lib.hid (HX.out.bel b5)
        obtain ⟨g5, cap5, e5, -, -, -, -, hcell5⟩ := HX5.out.openS (by omega)
        have hg5 : g = g5 := by injection e5 with e5 _ _; injection e5 with e5; injection e5
        subst hg5
        obtain ⟨ca5, fa5⟩ := hcell5 0 (by omega)
        rw [HZ.out] at ca5
        have HXt := Lib.hid (HX5.out.setJ 0 Y (by omega) hYs)
        obtain ⟨g6, cap6, e6, -, -, -, -, hcell6⟩ := HXt.out.openS (by rw [List.length_set]; omega)
        have hg6 : g = g6 := by injection e6 with e6 _ _; injection e6 with e6; injection e6
        subst hg6
        obtain ⟨ca6, -⟩ := hcell6 0 (by rw [List.length_set]; omega)
        have HS := Lib.hid (show slipS l k a k = P.set 0 Y by rw [HS0.out, ← hY, ← HZ.out]; rfl)
        have OS := Lib.hid (show engOk (P.set 0 Y) = true by rw [← HS.out]; exact slipS_ok OK.out k a k)
        obtain ⟨S, hS⟩ : ∃ S, P.set 0 Y = S := ⟨_, rfl⟩
        have hS0 : sat S 0 = Y := by rw [← hS, sat_eq _ 0 (by rw [List.length_set]; omega)]; simp
        rw [hS] at HXt HS OS
        have HBKt := Lib.hid ((HBK.out.below b5 hbz).far (p := ⟨g, 0, none⟩) (by show w3.heap.size ≠ g; exact hgr) (.string Y))
        have HBt := Lib.hid ((bel_trans H.out.2.2.2.2 b5).setCell (p := ⟨g, 0, none⟩) (by show w.heap.size ≤ g; have := (HX5.out.lt g rfl).1; exact this) (.string Y))
        have hcw6 : (w5.setCell ⟨g, 0, none⟩ (.string Y)).cell? ⟨w3.heap.size, k, none⟩ = some (cs[k]'(by rw [H.out.1]; exact hlt)) := by rw [HBKt.out.cell]; exact List.getElem?_eq_getElem _
        have hfw6 := HBKt.out.frozen k
        have ES := (engOk_iff.1 OS.out).2.2 0 (by rw [← hS, List.length_set]; omega)
        replace ES := ES.1
        have ca7 : (w5.setCell ⟨g, 0, none⟩ (.string Y)).cell? ⟨g, 0, none⟩ = some (.string Y) := by rw [ca6]; rw [show sat (P.set 0 Y) 0 = Y by rw [hS]; exact hS0]
        rw [hS0] at ES
        have HS00 := Lib.hid hS0
        clear hS hS0 hcell5 hcell6 e5 e6 b5 hcw hfw ca fa ca6 hY E0
        go_wp2_with fail
        generalize hW : w5.setCell ⟨g, 0, none⟩ (.string Y) = wt at HXt HBKt HBt hcw6 hfw6 ca7 ⊢
        clear hW
        rw [← HS00.out] at ES ⊢
        refine (signed_any (sat S 0) _ ES).mono ?_
        rintro e wt' ⟨rfl, hwt⟩
        subst hwt
        obtain ⟨V, hV⟩ : ∃ V, sg (sat S 0) = V := ⟨_, rfl⟩
        have hVb := sg_bd ES
        rw [hV] at hVb ⊢
        have HV2 := Lib.hid hV
        clear hV
        have HX2 := Lib.hid (HXt.out.apart (u := .slice (some ⟨w3.heap.size, 0, none⟩) n n) (grown_setW _ w3.heap.size k (.int .i64 V)) (fun q hq e => by have h1 : g = q := Option.some.inj hq; have h2 : w3.heap.size = q := Option.some.inj e; exact hgr (h2.trans h1.symm)))
        have KR2 := Lib.hid (HBKt.out.set_ k (.int .i64 V))
        have HB2 := Lib.hid (HBt.out.setCell (p := ⟨w3.heap.size, k, none⟩) (by show w.heap.size ≤ w3.heap.size; omega) (.int .i64 V))
        have hgr2 := KR2.out.lt
        go_wp2_with fail
        generalize hW : wt.setCell ⟨w3.heap.size, k, none⟩ (.int .i64 V) = w7 at HX2 KR2 HB2 hgr2 ⊢
        clear hW
        refine (turnedOnce_any _ S _ HX2.out.strs OS.out).mono ?_
        rintro e w8 ⟨r8, rfl, o8, b8⟩
        have HO8 := Lib.hid (o8.lower (base' := w.heap.size) (by have := HB2.out.size; omega))
        have HN8 := Lib.hid (show ∀ q, r8.ownBlock = some q → w3.heap.size ≠ q from fun q hq e => by have := (o8.lt q hq).1; omega)
        have KR8 := Lib.hid (KR2.out.below b8 hgr2)
        have HB8 := Lib.hid (bel_trans HB2.out b8)
        obtain ⟨A8, c8, rfl, -, -, -⟩ := o8.strs.open_
        clear o8 b8
        go_wp2_with fail
        go_roundw
        case rel =>
          refine ⟨k + 1, cs.set k (.int .i64 V), by omega, by go_num, KR8.out, by rw [List.length_set]; exact H.out.1, fun j hj => ?_, by show OwnS _ _ _ (turnS (slipS l k a k)); rw [HS.out]; exact HO8.out, HN8.out, HB8.out⟩
          by_cases e : j = k
          · subst e
            rw [List.getElem?_set_self (by rw [H.out.1]; exact hlt), HS.out, HV2.out]
          · rw [List.getElem?_set_ne (by omega)]
            exact H.out.2.1 j (by omega)
        case measure => simp [intOf]; omega
      · have hkti : ¬ (k : Int) = (t : Int) := by omega
        have hktb : ((k : Int) == (t : Int)) = false := by simp [hkti]
        have HS := Lib.hid (show slipS l t a k = P by rw [HSP.out, if_neg hkt])
        have HXt := HX
        have HBKt := HBK
        have OS := OP
        obtain ⟨S, hS⟩ : ∃ S, P = S := ⟨_, rfl⟩
        subst hS
        have ES := E0
        have HBt := Lib.hid H.out.2.2.2.2
        obtain ⟨wt, hwt⟩ : ∃ wt, wt = wr := ⟨_, rfl⟩
        subst hwt
        clear hkt
        go_wp2_with fail
        refine (signed_any (sat P 0) _ ES).mono ?_
        rintro e wt' ⟨rfl, hwt⟩
        subst hwt
        obtain ⟨V, hV⟩ : ∃ V, sg (sat P 0) = V := ⟨_, rfl⟩
        have hVb := sg_bd ES
        rw [hV] at hVb ⊢
        have HV2 := Lib.hid hV
        clear hV
        have HX2 := Lib.hid (HXt.out.apart (u := .slice (some ⟨w3.heap.size, 0, none⟩) n n) (grown_setW _ w3.heap.size k (.int .i64 V)) (fun q hq e => by have h1 : g = q := Option.some.inj hq; have h2 : w3.heap.size = q := Option.some.inj e; exact hgr (h2.trans h1.symm)))
        have KR2 := Lib.hid (HBKt.out.set_ k (.int .i64 V))
        have HB2 := Lib.hid (HBt.out.setCell (p := ⟨w3.heap.size, k, none⟩) (by show w.heap.size ≤ w3.heap.size; omega) (.int .i64 V))
        have hgr2 := KR2.out.lt
        go_wp2_with fail
        generalize hW : wt.setCell ⟨w3.heap.size, k, none⟩ (.int .i64 V) = w7 at HX2 KR2 HB2 hgr2 ⊢
        clear hW
        refine (turnedOnce_any _ P _ HX2.out.strs OS.out).mono ?_
        rintro e w8 ⟨r8, rfl, o8, b8⟩
        have HO8 := Lib.hid (o8.lower (base' := w.heap.size) (by have := HB2.out.size; omega))
        have HN8 := Lib.hid (show ∀ q, r8.ownBlock = some q → w3.heap.size ≠ q from fun q hq e => by have := (o8.lt q hq).1; omega)
        have KR8 := Lib.hid (KR2.out.below b8 hgr2)
        have HB8 := Lib.hid (bel_trans HB2.out b8)
        obtain ⟨A8, c8, rfl, -, -, -⟩ := o8.strs.open_
        clear o8 b8
        go_wp2_with fail
        go_roundw
        case rel =>
          refine ⟨k + 1, cs.set k (.int .i64 V), by omega, by go_num, KR8.out, by rw [List.length_set]; exact H.out.1, fun j hj => ?_, by show OwnS _ _ _ (turnS (slipS l t a k)); rw [HS.out]; exact HO8.out, HN8.out, HB8.out⟩
          by_cases e : j = k
          · subst e
            rw [List.getElem?_set_self (by rw [H.out.1]; exact hlt), HS.out, HV2.out]
          · rw [List.getElem?_set_ne (by omega)]
            exact H.out.2.1 j (by omega)
        case measure => simp [intOf]; omega
    · have hke : k = n := by omega
      subst hke
      go_wp2_with fail
      go_ret2
      refine ⟨_, rfl, ?_, H.out.2.2.2.2⟩
      exact own_gen (f := fun j => sg (sat (slipS l t a j) 0)) (by omega) HBK.out H.out.1 (by omega) H.out.2.1 (fun j hj => by
        have hE := (engOk_iff.1 (slipS_ok OK.out t a j))
        have hc2 := sg_bd (hE.2.2 0 (by omega)).1
        omega)
end Go.Proofs.Ythkpgcociklddaa

/-
  Three houses: the plain law.
-/
namespace Go.Proofs.Ythkpgcociklddaa
open Go.RowKit
set_option linter.unusedVariables false
set_option linter.unusedSimpArgs false
set_option maxRecDepth 100000

theorem firstBad_le (l : List Int) (k : Int) : firstBad l k ≤ l.length := by
  unfold firstBad
  exact (List.takeWhile_sublist _).length_le
/-- A job for twelve values. -/
def j12 (p : List Int) (a k : Int) : JobD := ⟨p, a, 12, k, 0, 0, 1, 1, 1⟩
theorem j12_ok {p : List Int} {a k : Int} (hs : setOk p a k = true) (hc : 12 ≤ capI p a k 12) : jobOk (j12 p a k) = true := by
  have hcap : capI p a k 12 = 12 := by
    unfold capI at hc ⊢
    split at hc
    · rename_i h
      rw [if_pos h]
      rw [Bool.and_eq_true] at h
      have h1 := firstBad_le (valL p a 12) k
      have h2 : (valL p a 12).length = 12 := by
        have e : valL p a 12 = gen (fun i => evalI p (a + (i : Int))) 12 := val_yes (c := 12) h.1
        rw [e, gen_length]
      omega
    · omega
  refine jobOk_true.2 ⟨hs, by show (1 : Int) ≤ 12; omega, hcap, ?_, ?_⟩
  · show wayOk 0 0 = true; decide
  · show layOk 1 1 1 = true; decide
structure House (p : List Int) (a k : Int) (R : List Int) : Prop where
  ok : engOk (setE p a k) = true
  val : valOk p a 12 = true ∧ valL p a 12 = R
  len : R.length = 12
  run : ∀ n, n < 12 → at_ R n = sg (sat (turnN (setE p a k) n) 0)
  half : runOk (skewS (setE p a k)) 12 = true ∧ rhL (skewS (setE p a k)) 12 = R
  part : peOk p a [5, 7] k = true → rpOk (peL p a [5, 7] k) [5, 7] = true ∧ rpL (peL p a [5, 7] k) [5, 7] = R
theorem house {p : List Int} {a k : Int} (hs : setOk p a k = true) (hc : 12 ≤ capI p a k 12) : House p a k (valL p a 12) := by
  have hj := j12_ok hs hc
  obtain ⟨hr1, hr2⟩ := job_run hj
  obtain ⟨hv, -, -, -⟩ := job_vals hj
  have e12 : ((12 : Nat) : Int) = 12 := rfl
  have hrun : runL (setE p a k) 12 = valL p a 12 := hr2
  have hro : runOk (setE p a k) 12 = true := hr1
  have hS : runL (setE p a k) 12 = runS (setE p a k) 12 := runL_yes (n := 12) hro
  have ok := setE_ok hs
  have hlen : (valL p a 12).length = 12 := by rw [← hrun, hS, runS_length]
  have hso : engOk (skewS (setE p a k)) = true := hN_ok ok 0
  have hsr : runOk (skewS (setE p a k)) 12 = true := by simp [runOk, hso, inB]
  refine ⟨ok, ⟨hv, rfl⟩, hlen, ?_, ⟨hsr, ?_⟩, ?_⟩
  · intro n hn
    rw [← hrun, hS]
    unfold runS
    rw [at_gen hn]
  · have h1 : rhL (skewS (setE p a k)) 12 = hvS (skewS (setE p a k)) 12 := rhL_yes (n := 12) hsr
    rw [h1, ← hrun, hS]
    unfold hvS runS
    refine list_ext (by rw [gen_length, gen_length]) fun j hj => ?_
    rw [gen_length] at hj
    rw [at_gen hj, at_gen hj, halves_zero ok]
  · intro hp
    obtain ⟨-, -, -, h4, h5, h6⟩ := part_law hp
    refine ⟨h4, ?_⟩
    rw [h6]
    exact hrun
/-- The vote and the faulty one, if the second of three tables slipped. -/
theorem house_vote {R S : List Int} (hR : tableOk R = true) (hS : tableOk S = true) (hl : S.length = R.length) (hne : S ≠ R) : voteOk R S R = true ∧ voteR R S R = R ∧ faulty R S R = 1 := by
  have h3 : threeOk R S R = true := by simp [threeOk, alikeOk, hR, hS, hl]
  obtain ⟨v1, v2⟩ := vote_first h3 (.inr rfl)
  refine ⟨v1, v2, ?_⟩
  have hRS : eqL R S = false := eqL_false.2 (fun e => hne e.symm)
  have hRR : eqL R R = true := eqL_self R
  simp [faulty, h3, hRS, hRR]
theorem slip_house {p : List Int} {a k : Int} {R : List Int} (h : House p a k R) {t : Nat} (ht : t < 12) {x : Int} (h1 : 1 ≤ x) (h9 : x ≤ 9) : slipL (setE p a k) t x 12 ≠ R ∧ (slipL (setE p a k) t x 12).length = R.length := by
  refine ⟨fun e => ?_, by rw [slipL_length, h.len]⟩
  have := slip_seen h.ok ht h1 h9
  rw [e, h.run t ht] at this
  exact this rfl
end Go.Proofs.Ythkpgcociklddaa

/-
  Drawn columns: of, l9Many, l1Any, l1Some, l1Bad.
-/
namespace Go.Proofs.Ythkpgcociklddaa
open Go.RowKit
set_option linter.unusedVariables false
set_option linter.unusedSimpArgs false
set_option maxRecDepth 100000
attribute [local go_sem ↓] Go.wp_at_zero Go.wp_at_succ

theorem bv_set (l : List Int) (k : Nat) (z : Int) : (bv l).set k (.int .u8 z) = bv (l.set k z) := by simp [bv, List.map_set]

/-- A drawn string of at most B bytes. -/
def DrawnStr (g K' : Nat) (w : World) (lo hi : Nat) (e : Ending) (w' : World) : Prop :=
  ∃ s : ByteArray, e = .returned (.string s) ∧ lo ≤ s.size ∧ s.size ≤ hi ∧ Rdr w' g K' ∧ w.grownBy w' (some g)



set_option maxHeartbeats 1000000 in
theorem l1Any_any (g K : Nat) (w : World) (hr : Rdr w g K) (hK : K ≤ 100000000) :
    Calls Try.prog 55 #[.pointer (some ⟨g, 0, none⟩)] w fun e w' => ∃ n : Nat, e = .returned (.int .i64 n) ∧ 1 ≤ n ∧ n ≤ 12 ∧ Rdr w' g (K + 1) ∧ w.grownBy w' (some g) := by
  have HR := Lib.hid hr
  have hgw := hr.lt
  clear hr
  go_enter Try.func55, Try.ntmps55
  go_wp2_with fail
  refine (num_any g K _ [4, 6, 1, 2, 3, 5, 8, 12] _ (HR.out.bel (bel_alloc _ _)) (by omega) (lit_own _ [4, 6, 1, 2, 3, 5, 8, 12] w.heap.size 0 rfl (by omega) (by simp) (wf_lit (by simp))).ints (by simp) (lit_ne (by omega))).mono ?_
  rintro e w1 ⟨m, rfl, hm, hr1, hg1⟩
  have hm' : 1 ≤ m ∧ m ≤ 12 := by simp at hm; omega
  obtain ⟨m, rfl⟩ : ∃ n : Nat, m = n := ⟨m.toNat, by omega⟩
  have H := Lib.hid (And.intro hr1 (grown_trans (only_alloc (World.grownBy.refl w (some g)) _) hg1 (fun j hj => .inl (by injection hj with hj; exact hj.symm))))
  clear hr1 hg1 hm
  go_wp2
  go_ret
  exact ⟨m, rfl, by omega, by omega, H.out.1, H.out.2⟩



end Go.Proofs.Ythkpgcociklddaa

/-
  What the laws of jobs draw: polynomials that may break the rules, arguments, widths, layouts.
-/
namespace Go.Proofs.Ythkpgcociklddaa
open Go.RowKit
set_option linter.unusedVariables false
set_option linter.unusedSimpArgs false
set_option maxRecDepth 100000
attribute [local go_sem ↓] Go.wp_at_zero Go.wp_at_succ

theorem St.row {w : World} {g K b n cap : Nat} {l : List Int} {W : World} (h : St w g K (.slice (some ⟨b, 0, none⟩) n cap) l W) : ∃ cs, Blk W b 3 cs ∧ cs.length = cap ∧ l.length ≤ cap ∧ cap ≤ 9223372036854775807 ∧ w.heap.size ≤ b ∧ n = l.length ∧ ∀ j, j < l.length → cs[j]? = some (.int .i64 (at_ l j)) := by
  rcases h.own.form with ⟨q, _⟩ | ⟨b', cap', cs, e, hb', hbl, h1, h2, hcl, h3⟩
  · cases q
  · injection e with e1 e2 e3
    injection e1 with e1
    injection e1 with e1
    subst e1 e2 e3
    exact ⟨cs, hbl, hcl, h1, h2, hb', rfl, h3⟩
theorem St.nil_ {w : World} {g K b n cap : Nat} {l : List Int} {W : World} (h : St w g K (.slice (some ⟨b, 0, none⟩) n cap) l W) : St w g K (.slice (some ⟨b, 0, none⟩) 0 cap) [] W := by
  obtain ⟨cs, hbl, hcl, h1, h2, hb, _, hc⟩ := h.row
  exact ⟨Own.mk' (l := []) hb hbl (Nat.zero_le _) h2 hcl (fun j hj => absurd hj (by simp)) (fun _ q => by simp at q), h.rdr, h.gr, h.lt⟩
theorem St.far {w : World} {g K : Nat} {v : Value} {l : List Int} {W : World} (h : St w g K v l W) (p : Addr) (u : Value) (hp : w.heap.size ≤ p.block) (hv : ∀ k, v.ownBlock = some k → k ≠ p.block) : St w g K v l (W.setCell p u) := by
  have hg := only_setCell (World.grownBy.refl W (some p.block)) (p := p) (.inl rfl) u
  have := h.lt
  exact ⟨⟨h.own.1.kept hg (by
    cases hq : v.ownBlock with
    | none => exact .inl rfl
    | some k => exact .inr fun e => hv k hq (by injection e)), h.own.2⟩, h.rdr.grown hg (fun k hk => by injection hk with hk; omega), grown_trans h.gr hg (fun j hj => .inr (by injection hj with hj; omega)), h.lt⟩

theorem St.setN {w : World} {g K b : Nat} {v : Value} {l : List Int} (hp : w.heap.size ≤ b) (hv : ∀ k, v.ownBlock = some k → k ≠ b) : ∀ (us : List Value) (W : World) (i : Nat), St w g K v l W → St w g K v l (setN W b i us)
  | [], _, _, h => h
  | u :: us, W, i, h => St.setN hp hv us _ _ (h.far ⟨b, i, none⟩ u hp hv)
/-- Blocks apart from the reader and from v's own row are kept. -/
def KeepB (g : Nat) (v : Value) (W : World) (v' : Value) (W' : World) : Prop :=
  W.heap.size ≤ W'.heap.size ∧ ∀ b t cs, Blk W b t cs → b ≠ g → v.ownBlock ≠ some b → Blk W' b t cs ∧ v'.ownBlock ≠ some b
theorem KeepB.refl (g : Nat) (v : Value) (W : World) : KeepB g v W v W := ⟨Nat.le_refl _, fun b t cs h _ h2 => ⟨h, h2⟩⟩
theorem KeepB.trans {g : Nat} {v v' v'' : Value} {a b c : World} (h : KeepB g v a v' b) (k : KeepB g v' b v'' c) : KeepB g v a v'' c :=
  ⟨Nat.le_trans h.1 k.1, fun q t cs h1 h2 h3 => k.2 q t cs (h.2 q t cs h1 h2 h3).1 h2 (h.2 q t cs h1 h2 h3).2⟩
theorem KeepB.grown {g : Nat} {v : Value} {W W' : World} (h : W.grownBy W' (some g)) : KeepB g v W v W' :=
  ⟨h.size, fun b t cs h1 h2 h3 => ⟨h1.grown h (fun e => by injection e with e; exact h2 e), h3⟩⟩
theorem KeepB.bel {g : Nat} {v : Value} {W W' : World} (h : Below W.heap.size W W') : KeepB g v W v W' :=
  ⟨h.size, fun b t cs h1 h2 h3 => ⟨h1.below h h1.lt, h3⟩⟩
theorem KeepB.app {g : Nat} {v v' : Value} {W W' : World} (h : W.grownBy W' v.ownBlock) (hv : v'.ownBlock = v.ownBlock ∨ v'.ownBlock = some W.heap.size) : KeepB g v W v' W' :=
  ⟨h.size, fun b t cs h1 h2 h3 => ⟨h1.grown h (fun e => h3 e.symm), by
    rcases hv with q | q
    · rw [q]; exact h3
    · rw [q]; intro e; injection e with e; have := h1.lt; omega⟩⟩
theorem KeepB.own {g : Nat} {v v' : Value} {W W' : World} (h : KeepB g v W v W') (hv : v'.ownBlock = v.ownBlock) : KeepB g v W v' W' :=
  ⟨h.1, fun b t cs h1 h2 h3 => ⟨(h.2 b t cs h1 h2 h3).1, by rw [hv]; exact h3⟩⟩

/-- A polynomial that may break the rules. -/
def DrawnBad (w : World) (g K' : Nat) (v0 : Value) (w0 : World) (e : Ending) (w' : World) : Prop :=
  ∃ v l, e = .returned v ∧ St w g K' v l w' ∧ l.length ≤ 8 ∧ KeepB g v0 w0 v w'
set_option maxHeartbeats 4000000 in
set_option maxRecDepth 100000 in
theorem l2Bad_any (g K : Nat) (w w0 : World) (v : Value) (l : List Int) (hst : St w g K v l w0) (hl1 : 1 ≤ l.length) (hl2 : l.length ≤ 8) (hK : K ≤ 100000000) :
    Calls Try.prog 52 #[.pointer (some ⟨g, 0, none⟩), v] w0 (DrawnBad w g (K + 3) v w0) := by
  have S1 := Lib.hid hst
  have hgw := hst.lt
  have zw := hst.gr.size
  obtain ⟨b, cap, rfl, hbb, hbw, hlc, hcap, hcells⟩ := hst.own.openN (by omega)
  clear hcells hst
  go_enter Try.func52, Try.ntmps52
  go_wp2_with fail
  refine (pick_k _ S1.out (by omega) (by omega)).mono ?_
  rintro e w2 ⟨m, rfl, ma, mb, hs2, hg2⟩
  obtain ⟨m, rfl⟩ : ∃ n : Nat, m = n := ⟨m.toNat, by omega⟩
  have S2 := Lib.hid hs2
  have K2 := Lib.hid (KeepB.grown (v := .slice (some ⟨b, 0, none⟩) l.length cap) hg2)
  clear hs2 S1 hg2
  go_wp2_with fail
  refine (pick_k 40 S2.out (by omega) (by omega)).mono ?_
  rintro e w3 ⟨q, rfl, qa, qb, hs3, hg3⟩
  have S3 := Lib.hid hs3
  have z3 := hs3.gr.size
  have K3 := Lib.hid (K2.out.trans (KeepB.grown hg3))
  clear hs3 S2 K2 hg3
  cases q0 : (q == 0)
  · cases q1 : (q == 1)
    · cases q2 : (q == 2)
      · go_wp2
        go_ret
        exact ⟨_, l, rfl, ⟨S3.out.own, S3.out.rdr.more (by omega), S3.out.gr, S3.out.lt⟩, by omega, K3.out⟩
      · go_wp2_with fail
        go_loopw [1] (fun r wr => ∃ l' : List Int, l'.length ≤ 8 ∧ St w g (K + 2) r l' wr ∧ KeepB g (.slice (some ⟨b, 0, none⟩) l.length cap) w0 r wr) (fun r _ => match r with | .slice _ n _ => 9 - n | _ => 0)
        case atStart => exact ⟨l, by omega, S3.out, K3.out⟩
        case round =>
          obtain ⟨l', hl', hst, hkp⟩ := hrel
          have S5 := Lib.hid hst
          have K5 := Lib.hid hkp
          have zo := hst.gr.size
          obtain ⟨A5, c5, rfl, hlc5, hc5, hrd5⟩ := hst.own.ints.open_
          clear hst hrd5 S3 K3 hkp
          by_cases h9 : (l'.length : Int) < 8
          · go_wp2_with (at_builtin; refine app_int rfl (.tmp 29) (.tmp 30) (by rfl) w.heap.size _ l' (by rfl) (by exact S5.out.own.bel (bel_alloc _ _)) _ _ 1 (by rfl) (by exact new_cell _ _ _) (by omega) (by omega) (by simp; omega) ?_; intro v4 w4 ho hg hat)
            have S6 := Lib.hid ((S5.out.bel (bel_alloc _ _)).app ho hg)
            have K6 := Lib.hid ((K5.out.trans (KeepB.bel (bel_alloc _ _))).trans (KeepB.app hg hat))
            obtain ⟨A6, c6, rfl, hlc6, hc6, hrd6⟩ := ho.ints.open_
            clear ho hg hrd6 S5 K5 hat
            go_roundw
            case rel => exact ⟨_, by simp; omega, S6.out, K6.out⟩
            case measure => simp; omega
          · go_wp2
            go_ret
            exact ⟨_, l', rfl, ⟨S5.out.own, S5.out.rdr.more (by omega), S5.out.gr, S5.out.lt⟩, by omega, K5.out⟩
    · go_wp2
      go_ret
      have S4 := S3.out.nil_
      exact ⟨_, [], rfl, ⟨S4.own, S4.rdr.more (by omega), S4.gr, S4.lt⟩, by simp, K3.out.own rfl⟩
  · go_wp2_with fail
    refine (num_k _ [100000, 100001, -100000, -100001, 9223372036854775807] (S3.out.bel (bel_alloc _ _)) (by omega) (lit_own _ [100000, 100001, -100000, -100001, 9223372036854775807] _ w.heap.size rfl (by omega) (by simp) (wf_lit (by simp))).ints (by simp) (lit_ne (by omega))).mono ?_
    rintro e w4 ⟨n, rfl, hn, hs4, hg4⟩
    have hn' : -1000000001 ≤ n ∧ n ≤ 9223372036854775807 := by simp at hn; omega
    obtain ⟨b', cap', ev, _, _, _, _, hcells⟩ := hs4.own.openN (by omega)
    injection ev with ev1 ev2 ev3
    injection ev1 with ev1
    injection ev1 with ev1
    subst ev1
    obtain ⟨hc, hf⟩ := hcells m (by omega)
    have S4 := Lib.hid hs4
    have K4 := Lib.hid ((K3.out.trans (KeepB.bel (bel_alloc _ _))).trans (KeepB.grown hg4))
    clear hn hs4 S3 hcells ev2 ev3 hg4 K3
    go_wp2
    go_ret
    have S7 := S4.out.set_ m n (by omega) (by omega)
    exact ⟨_, _, rfl, S7, by rw [List.length_set]; omega, K4.out.trans (KeepB.app (v := .slice (some ⟨b, 0, none⟩) l.length cap) (only_setCell (World.grownBy.refl w4 (some b)) (.inl rfl) _) (.inl rfl))⟩

set_option maxHeartbeats 2000000 in
theorem l2Number_any (g K : Nat) (w w0 : World) (v : Value) (l : List Int) (hst : St w g K v l w0) (hK : K ≤ 100000000) :
    Calls Try.prog 21 #[.pointer (some ⟨g, 0, none⟩)] w0 fun e w' => ∃ m : Int, e = .returned (.int .i64 m) ∧ -9223372036854775808 ≤ m ∧ m ≤ 9223372036854775807 ∧ St w g (K + 2) v l w' := by
  have S0 := Lib.hid hst
  have hgw := hst.lt
  have z0 := hst.gr.size
  clear hst
  go_enter Try.func21, Try.ntmps21
  go_wp2_with fail
  refine (pick_st 12 S0.out (by omega) (by omega)).mono ?_
  rintro e w1 ⟨q, rfl, qa, qb, hs1⟩
  have S1 := Lib.hid hs1
  have z1 := hs1.gr.size
  clear hs1 S0
  cases q0 : (q == 0)
  · go_wp2_with fail
    refine (pick_st 60 S1.out (by omega) (by omega)).mono ?_
    rintro e w2 ⟨n, rfl, na, nb, hs2⟩
    have S2 := Lib.hid hs2
    clear hs2 S1
    go_wp2
    go_ret
    exact ⟨_, rfl, by omega, by omega, S2.out⟩
  · go_wp2_with fail
    refine (num_st _ [200, 201, -200, -201, 9223372036854775807, -9223372036854775808] (S1.out.bel (bel_alloc _ _)) (by omega) (lit_own _ [200, 201, -200, -201, 9223372036854775807, -9223372036854775808] _ w.heap.size rfl (by omega) (by simp) (wf_lit (by simp))).ints (by simp) (lit_ne (by omega))).mono ?_
    rintro e w2 ⟨n, rfl, hn, hs2⟩
    have hn' : -9223372036854775808 ≤ n ∧ n ≤ 9223372036854775807 := by simp at hn; omega
    have S2 := Lib.hid hs2
    clear hs2 S1 hn
    go_wp2
    go_ret
    exact ⟨n, rfl, by omega, by omega, S2.out⟩

set_option maxHeartbeats 2000000 in
theorem l1Wide_any (g K : Nat) (w w0 : World) (v : Value) (l : List Int) (hst : St w g K v l w0) (hK : K ≤ 10000000) :
    Calls Try.prog 23 #[.pointer (some ⟨g, 0, none⟩)] w0 fun e w' => ∃ m : Int, e = .returned (.int .i64 m) ∧ -9223372036854775808 ≤ m ∧ m ≤ 9223372036854775807 ∧ St w g (K + 2) v l w' := by
  have S0 := Lib.hid hst
  have hgw := hst.lt
  have z0 := hst.gr.size
  clear hst
  go_enter Try.func23, Try.ntmps23
  go_wp2_with fail
  refine (pick_st 16 S0.out (by omega) (by omega)).mono ?_
  rintro e w1 ⟨q, rfl, qa, qb, hs1⟩
  have S1 := Lib.hid hs1
  have z1 := hs1.gr.size
  clear hs1 S0
  cases q0 : (q == 0)
  · go_wp2_with fail
    refine (l1Any_any g (K + 1) _ S1.out.rdr (by omega)).mono ?_
    rintro e w2 ⟨n, rfl, na, nb, hr2, hg2⟩
    have S2 := Lib.hid (S1.out.grown hg2 hr2)
    clear hr2 hg2 S1
    go_wp2
    go_ret
    exact ⟨_, rfl, by omega, by omega, S2.out⟩
  · go_wp2_with fail
    refine (num_st _ [0, 13, -1, 9223372036854775807] (S1.out.bel (bel_alloc _ _)) (by omega) (lit_own _ [0, 13, -1, 9223372036854775807] _ w.heap.size rfl (by omega) (by simp) (wf_lit (by simp))).ints (by simp) (lit_ne (by omega))).mono ?_
    rintro e w2 ⟨n, rfl, hn, hs2⟩
    have hn' : -9223372036854775808 ≤ n ∧ n ≤ 9223372036854775807 := by simp at hn; omega
    have S2 := Lib.hid hs2
    clear hs2 S1 hn
    go_wp2
    go_ret
    exact ⟨n, rfl, by omega, by omega, S2.out⟩

end Go.Proofs.Ythkpgcociklddaa

/-
  Drawn engines: l3Some, l3Bad, l3Open.
-/
namespace Go.Proofs.Ythkpgcociklddaa
open Go.RowKit
set_option linter.unusedVariables false
set_option linter.unusedSimpArgs false
set_option maxRecDepth 100000
attribute [local go_sem ↓] Go.wp_at_zero Go.wp_at_succ

theorem grown_ownS {a w w' : World} {g base : Nat} {v : Value} {l : List ByteArray} (h : a.grownBy w (some g)) (k : w.grownBy w' v.ownBlock) (ho : OwnS w base v l) (hb : a.heap.size ≤ base) : a.grownBy w' (some g) :=
  grown_trans h k fun j hj => .inr (by have := (ho.lt j hj).1; omega)
/-- A drawn engine: between lo and hi columns, none longer than B. -/
def DrawnEng (g K' : Nat) (w : World) (lo hi slo shi : Nat) (e : Ending) (w' : World) : Prop :=
  ∃ v l, e = .returned (.agg #[v]) ∧ OwnS w' w.heap.size v l ∧ lo ≤ l.length ∧ l.length ≤ hi ∧ (∀ s ∈ l, slo ≤ s.size ∧ s.size ≤ shi) ∧ Rdr w' g K' ∧ w.grownBy w' (some g)


end Go.Proofs.Ythkpgcociklddaa

/-
  Drawn engines: l3Bad, l3Open, the arguments of SplitEngine.
-/
namespace Go.Proofs.Ythkpgcociklddaa
open Go.RowKit
set_option linter.unusedVariables false
set_option linter.unusedSimpArgs false
set_option maxRecDepth 100000
attribute [local go_sem ↓] Go.wp_at_zero Go.wp_at_succ

/-- 'append(x, s)', one string, as a step of a region that draws: x is the call's own. -/
theorem step_app_str {ops : Array Oper} {o : Oper} {a : Act} {K : Act → World → Prop} {Q : Exit → Act → World → Prop} {E : Prop} {w : World} (hgd : o.guard = none) (s x : Operand)
    (ho : o.op = .call { callee := .builtin .append, args := #[s, x], argTypes := #[26, 26] })
    (base : Nat) (v : Value) (l : List ByteArray) (hs : a.eval s = v) (hown : OwnS w base v l) (g c : Nat) (z : ByteArray) (hx : a.eval x = .slice (some ⟨g, 0, none⟩) 1 c)
    (hcell : w.cell? ⟨g, 0, none⟩ = some (.string z)) (hz : z.size ≤ 9223372036854775807) (hl : l.length + 1 ≤ 1099511627776) (hbase : base ≤ w.heap.size)
    (h : ∀ A c' w', OwnS w' base (.slice A (l.length + 1) c') (l ++ [z]) → w.grownBy w' v.ownBlock → ((Value.slice A (l.length + 1) c').ownBlock = v.ownBlock ∨ (Value.slice A (l.length + 1) c').ownBlock = some w.heap.size) → K (a.put o.dst (.slice A (l.length + 1) c')) w') :
    if Region.wanted o (yielded ops a.tmps) = true then Oper.wp Try.prog o a w K Q else E := by
  have hw : Region.wanted o (yielded ops a.tmps) = true := by simp [Region.wanted, hgd]
  rw [if_pos hw]
  obtain ⟨i0, hi, hz0, hz1, hz2⟩ := info_parts Try.infoStr
  obtain ⟨v', w', hrun, h2, h3, _, h5⟩ := run_append_own_at (P := Try.prog) w base 26 o.type 9 i0 _ 1 16 Try.underlying26 hi hz0 hz1 hz2 rfl (by omega) v l.length (sv l) hown.1 ⟨g, 0, none⟩ 1 c [.string z] rfl (by
    intro j u hj
    match j, hj with
    | 0, hj => simp at hj; subst hj; simpa [Addr.add] using hcell) (by intro u hu; simp at hu; subst hu; rfl) (by unfold maxLen; omega) (by omega) hbase
  have ho' : OwnS w' base v' (l ++ [z]) := by
    refine ⟨?_, ?_, by unfold maxLen; simp; omega⟩
    · rw [sv_append, List.length_append]; exact h2
    · intro n hn
      rcases List.mem_append.1 hn with hn | hn
      · exact hown.2.1 n hn
      · simp at hn; subst hn; exact hz
  obtain ⟨A', c', hv, _, _, _⟩ := ho'.strs.open_
  rw [show (l ++ [z]).length = l.length + 1 by simp] at hv
  subst hv
  unfold Oper.wp execOp
  simp only [ho, resolve, invoke, builtin, Sem.run_bind, Sem.run_pure, Result.andThen_ok, List.map_toArray, List.map_cons, List.map_nil, hs, hx, hrun]
  exact h _ _ w' ho' h3 h5

/-- Where drawing an engine stands. -/
structure StS (w : World) (g K : Nat) (v : Value) (l : List ByteArray) (W : World) : Prop where
  own : OwnS W w.heap.size v l
  rdr : Rdr W g K
  gr : w.grownBy W (some g)
  lt : g < w.heap.size
theorem StS.bel {w : World} {g K : Nat} {v : Value} {l : List ByteArray} {W W' : World} (h : StS w g K v l W) (hb : Below W.heap.size W W') : StS w g K v l W' :=
  ⟨h.own.bel hb, h.rdr.bel hb, only_below h.gr hb, h.lt⟩
theorem StS.grown {w : World} {g K K' : Nat} {v : Value} {l : List ByteArray} {W W' : World} (h : StS w g K v l W) (hb : W.grownBy W' (some g)) (hr : Rdr W' g K') : StS w g K' v l W' :=
  ⟨h.own.far hb (fun k hk => by injection hk with hk; have := h.lt; omega), hr, grown_trans h.gr hb (fun j hj => .inl (by injection hj with hj; exact hj.symm)), h.lt⟩
theorem StS.app {w : World} {g K : Nat} {v v' : Value} {l l' : List ByteArray} {W W' : World} (h : StS w g K v l W) (ho : OwnS W' w.heap.size v' l') (hb : W.grownBy W' v.ownBlock) : StS w g K v' l' W' :=
  ⟨ho, h.rdr.grown hb (fun k hk => by have h1 := (h.own.lt k hk).1; have := h.lt; omega), grown_ownS h.gr hb h.own (Nat.le_refl _), h.lt⟩
theorem StS.far {w : World} {g K : Nat} {v : Value} {l : List ByteArray} {W : World} (h : StS w g K v l W) (p : Addr) (u : Value) (hp : w.heap.size ≤ p.block) (hv : ∀ k, v.ownBlock = some k → k ≠ p.block) : StS w g K v l (W.setCell p u) := by
  have hg := only_setCell (World.grownBy.refl W (some p.block)) (p := p) (.inl rfl) u
  have := h.lt
  exact ⟨⟨h.own.1.kept hg (by
    cases hq : v.ownBlock with
    | none => exact .inl rfl
    | some k => exact .inr fun e => hv k hq (by injection e)), h.own.2⟩, h.rdr.grown hg (fun k hk => by injection hk with hk; omega), grown_trans h.gr hg (fun j hj => .inr (by injection hj with hj; omega)), h.lt⟩

theorem StS.row {w : World} {g K b n cap : Nat} {l : List ByteArray} {W : World} (h : StS w g K (.slice (some ⟨b, 0, none⟩) n cap) l W) : ∃ cs, Blk W b 9 cs ∧ cs.length = cap ∧ l.length ≤ cap ∧ cap ≤ 9223372036854775807 ∧ w.heap.size ≤ b ∧ n = l.length ∧ ∀ j, j < l.length → cs[j]? = some (.string (sat l j)) := by
  rcases h.own.form with ⟨q, _⟩ | ⟨b', cap', cs, e, hb', hbl, h1, h2, hcl, h3⟩
  · cases q
  · injection e with e1 e2 e3
    injection e1 with e1
    injection e1 with e1
    subst e1 e2 e3
    exact ⟨cs, hbl, hcl, h1, h2, hb', rfl, h3⟩
theorem StS.at {w : World} {g K b n cap : Nat} {l : List ByteArray} {W : World} (h : StS w g K (.slice (some ⟨b, 0, none⟩) n cap) l W) {j : Nat} (hj : j < l.length) : W.cell? ⟨b, j, none⟩ = some (.string (sat l j)) ∧ W.frozen? ⟨b, j, none⟩ = false := by
  obtain ⟨cs, hbl, _, _, _, _, _, hc⟩ := h.row
  exact ⟨(hbl.cell j).trans (hc j hj), hbl.frozen j⟩
theorem StS.nil_ {w : World} {g K b n cap : Nat} {l : List ByteArray} {W : World} (h : StS w g K (.slice (some ⟨b, 0, none⟩) n cap) l W) : StS w g K (.slice (some ⟨b, 0, none⟩) 0 cap) [] W := by
  obtain ⟨cs, hbl, hcl, h1, h2, hb, _, hc⟩ := h.row
  exact ⟨OwnS.mk' (l := []) hb hbl (Nat.zero_le _) h2 hcl (fun j hj => absurd hj (by simp)) (fun _ q => by simp at q), h.rdr, h.gr, h.lt⟩
theorem sat_set {l : List ByteArray} {k j : Nat} {z : ByteArray} (hk : k < l.length) : sat (l.set k z) j = if k = j then z else sat l j := by
  unfold sat
  simp only [List.getD, List.getElem?_set, hk]
  split
  · simp
  · rfl
theorem StS.set_ {w : World} {g K b n cap : Nat} {l : List ByteArray} {W : World} (h : StS w g K (.slice (some ⟨b, 0, none⟩) n cap) l W) {k : Nat} (hk : k < l.length) (z : ByteArray) (hz : z.size ≤ 9223372036854775807) :
    StS w g K (.slice (some ⟨b, 0, none⟩) n cap) (l.set k z) (W.setCell ⟨b, k, none⟩ (.string z)) := by
  obtain ⟨cs, hbl, hcl, h1, h2, hb, hn, hc⟩ := h.row
  have hlt := h.lt
  have hg := only_setCell (World.grownBy.refl W (some b)) (p := ⟨b, k, none⟩) (.inl rfl) (.string z)
  have ho := OwnS.mk' (l := l.set k z) hb (hbl.set_ k (.string z)) (by rw [List.length_set]; exact h1) h2 (by rw [List.length_set]; exact hcl) (fun j hj => by
    rw [List.length_set] at hj
    rw [sat_set hk]
    by_cases e : k = j
    · subst e; rw [if_pos rfl, List.getElem?_set_self (by omega)]
    · rw [if_neg e, List.getElem?_set_ne e]; exact hc j hj) (fun s hs => by
    rcases List.mem_or_eq_of_mem_set hs with q | q
    · exact h.own.2.1 s q
    · rw [q]; exact hz)
  rw [List.length_set, ← hn] at ho
  exact ⟨ho, h.rdr.grown hg (fun j hj => by injection hj with hj; omega), grown_trans h.gr hg (fun j hj => .inr (by injection hj with hj; omega)), h.lt⟩
theorem grown_drew {w w' : World} {row : Option Nat} (h : w.drew.grownBy w' row) : w.grownBy w' row := ⟨h.os, h.tape, h.output, h.size, h.block⟩

/-- A drawn engine, held beside a reader. -/
def DrawnEngS (w : World) (g K' hi shi : Nat) (e : Ending) (w' : World) : Prop :=
  ∃ v l, e = .returned (.agg #[v]) ∧ StS w g K' v l w' ∧ l.length ≤ hi ∧ ∀ s ∈ l, s.size ≤ shi



/-- The drawn arguments of SplitEngine. -/
def DrawnSplit (w : World) (e : Ending) (w' : World) : Prop :=
  ∃ v l n, e = .returned (.tuple #[.agg #[v], .int .i64 n]) ∧ Strs w' v l ∧ l.length ≤ 8 ∧ -9223372036854775808 ≤ n ∧ n ≤ 9223372036854775807 ∧ Below w.heap.size w w'



end Go.Proofs.Ythkpgcociklddaa

/-
  Sums of results modulo the size of the columns: plain laws, no program in sight.
-/
namespace Go.Proofs.Ythkpgcociklddaa
open Go.RowKit
set_option linter.unusedVariables false

/-- x and y are alike modulo T. -/
def Cg (T : Nat) (x y : Int) : Prop := (T : Int) ∣ x - y
theorem Cg.refl (T : Nat) (x : Int) : Cg T x x := ⟨0, by simp⟩
theorem Cg.symm {T : Nat} {x y : Int} (h : Cg T x y) : Cg T y x := by
  obtain ⟨q, hq⟩ := h
  exact ⟨-q, by rw [Int.mul_neg, ← hq]; omega⟩
theorem Cg.trans {T : Nat} {x y z : Int} (h : Cg T x y) (k : Cg T y z) : Cg T x z := by
  obtain ⟨p, hp⟩ := h
  obtain ⟨q, hq⟩ := k
  exact ⟨p + q, by rw [Int.mul_add, ← hp, ← hq]; omega⟩
theorem Cg.add {T : Nat} {x y z t : Int} (h : Cg T x y) (k : Cg T z t) : Cg T (x + z) (y + t) := by
  obtain ⟨p, hp⟩ := h
  obtain ⟨q, hq⟩ := k
  exact ⟨p + q, by rw [Int.mul_add, ← hp, ← hq]; omega⟩
theorem Cg.sub {T : Nat} {x y z t : Int} (h : Cg T x y) (k : Cg T z t) : Cg T (x - z) (y - t) := by
  obtain ⟨p, hp⟩ := h
  obtain ⟨q, hq⟩ := k
  exact ⟨p - q, by rw [Int.mul_sub, ← hp, ← hq]; omega⟩
theorem Cg.tmod {T : Nat} {x : Int} (h : Cg T x 0) : x.tmod T = 0 := by
  obtain ⟨q, hq⟩ := h
  exact Int.tmod_eq_zero_of_dvd ⟨q, by rw [← hq]; omega⟩
theorem cg_mod (x T : Nat) : Cg T ((x % T : Nat) : Int) x := by
  refine ⟨-((x / T : Nat) : Int), ?_⟩
  have h := Nat.div_add_mod x T
  have h2 : ((T * (x / T) + x % T : Nat) : Int) = x := by rw [h]
  rw [Int.natCast_add, Int.natCast_mul] at h2
  rw [Int.mul_neg]
  omega
theorem cg_md (s : Int) {T : Nat} (hT : 1 ≤ T) : Cg T (md s T) s := by
  refine ⟨-(s / (T : Int)), ?_⟩
  rw [md_cast s hT, Int.emod_def, Int.mul_neg]
  omega
theorem cg_sg (s : ByteArray) : Cg (ten s.size) (sg s) (cv s) := by
  unfold sg
  split
  · exact ⟨-1, by omega⟩
  · exact Cg.refl _ _

/-- the first column of an engine of sums, after n turns. -/
def colN (e : List ByteArray) (s : Int) : Nat → ByteArray
  | 0 => colOf s (sat e 0).size
  | n + 1 => addC (colN e s n) (sat (turnN e n) 0)
theorem colN_size (e : List ByteArray) (s : Int) (n : Nat) : (colN e s n).size = (sat e 0).size := by
  induction n with
  | zero => exact colOf_size _ _
  | succ n ih => rw [show colN e s (n + 1) = addC (colN e s n) (sat (turnN e n) 0) from rfl, addC_size, ih]
theorem sum_turn {e : List ByteArray} (s : Int) (he : 1 ≤ e.length) (n : Nat) : turnN ([colOf s (sat e 0).size] ++ e) n = [colN e s n] ++ turnN e n := by
  induction n with
  | zero => rfl
  | succ n ih =>
    rw [turnN_succ, ih, casc_join (by rw [turnN_length]; exact he)]
    rfl
/-- the sum of n results. -/
def resS (e : List ByteArray) : Nat → Int
  | 0 => 0
  | n + 1 => resS e n + sg (sat (turnN e n) 0)
theorem cv_colN {e : List ByteArray} (s : Int) (he : 1 ≤ e.length) (n : Nat) : Cg (ten (sat e 0).size) (cv (colN e s n)) (s + resS e n) := by
  induction n with
  | zero =>
    have h1 : cv (colOf s (sat e 0).size) = md s (ten (sat e 0).size) := cv_col (md_lt _ (ten_pos _))
    show Cg _ ((cv (colOf s (sat e 0).size) : Nat) : Int) (s + 0)
    rw [h1, Int.add_zero]
    exact cg_md s (ten_pos _)
  | succ n ih =>
    have h1 : cv (colN e s (n + 1)) = (cv (colN e s n) + cv (sat (turnN e n) 0)) % ten (sat e 0).size := by
      show cv (addC _ _) = _
      unfold addC
      rw [colN_size]
      exact cv_col (Nat.mod_lt _ (by have := ten_pos (sat e 0).size; omega))
    rw [h1]
    refine (cg_mod _ _).trans ?_
    have h2 := cg_sg (sat (turnN e n) 0)
    rw [turnN_size (by omega)] at h2
    rw [Int.natCast_add, show resS e (n + 1) = resS e n + sg (sat (turnN e n) 0) from rfl, ← Int.add_assoc]
    exact ih.add h2.symm
/-- what an engine of sums shows. -/
theorem sum_shows {e : List ByteArray} {s : Int} (h : sumOk e s = true) (n : Nat) : Cg (ten (sat e 0).size) (sg (sat (turnN (sumE e s) n) 0)) (s + resS e n) := by
  have he := (engOk_iff.1 (sumOk_true.1 h).1).1
  rw [sumE_yes h, sum_turn s he]
  have h0 : sat ([colN e s n] ++ turnN e n) 0 = colN e s n := rfl
  rw [h0]
  have h1 := cg_sg (colN e s n)
  rw [colN_size] at h1
  exact h1.trans (cv_colN s he n)
theorem turnN_add (e : List ByteArray) (k n : Nat) : turnN (turnN e k) n = turnN e (k + n) := by
  induction n with
  | zero => rfl
  | succ n ih => rw [turnN_succ, ih]; rfl
theorem resS_add (e : List ByteArray) (k n : Nat) : resS e (k + n) = resS e k + resS (turnN e k) n := by
  induction n with
  | zero => show resS e k = resS e k + 0; omega
  | succ n ih =>
    show resS e (k + n) + sg (sat (turnN e (k + n)) 0) = resS e k + (resS (turnN e k) n + sg (sat (turnN (turnN e k) n) 0))
    rw [ih, turnN_add]; omega
theorem sumOk_turn {e : List ByteArray} {s : Int} (h : sumOk e s = true) (k : Nat) : sumOk (turnN e k) s = true := by
  obtain ⟨h1, h2, h3⟩ := sumOk_true.1 h
  exact sumOk_true.2 ⟨turnN_ok h1 k, by rw [turnN_length]; exact h2, by rw [turnN_size (by have := (engOk_iff.1 h1).1; omega)]; exact h3⟩
/-- The law FnTotal. -/
theorem total_law {e : List ByteArray} {count k : Nat} (h : totOk e count = true) (hk : k ≤ count) :
    totOk e k = true ∧ totOk (turnN e k) (count - k : Nat) = true ∧ (tot e k + tot (turnN e k) (count - k : Nat) - tot e count).tmod (ten (sat e 0).size) = 0 := by
  obtain ⟨hs, hn⟩ := totOk_true.1 h
  have hn' := inB_true.1 hn
  have e1 : totOk e k = true := totOk_true.2 ⟨hs, inB_true.2 (by omega)⟩
  have e2 : totOk (turnN e k) (count - k : Nat) = true := totOk_true.2 ⟨sumOk_turn hs k, inB_true.2 (by omega)⟩
  refine ⟨e1, e2, Cg.tmod ?_⟩
  rw [tot_yes h, tot_yes e1, tot_yes e2]
  have a1 := sum_shows hs count
  have a2 := sum_shows hs k
  have a3 := sum_shows (sumOk_turn hs k) (count - k)
  rw [turnN_size (by have := (engOk_iff.1 (sumOk_true.1 hs).1).1; omega)] at a3
  have hr := resS_add e k (count - k)
  rw [show k + (count - k) = count by omega] at hr
  have a4 := (a2.add a3).sub a1
  have e0 : (0 + resS e k + (0 + resS (turnN e k) (count - k)) - (0 + resS e count)) = 0 := by rw [hr]; omega
  rw [e0] at a4
  exact a4

end Go.Proofs.Ythkpgcociklddaa

/-
  TurnMany, deTurned, deTen; the drawn arguments of TotalOf.
-/
namespace Go.Proofs.Ythkpgcociklddaa
open Go.RowKit
set_option linter.unusedVariables false
set_option linter.unusedSimpArgs false
set_option maxRecDepth 100000
attribute [local go_sem ↓] Go.wp_at_zero Go.wp_at_succ

set_option maxHeartbeats 400000 in
theorem within_nat (k m : Nat) (w : World) (h : k ≤ m) (hm : m ≤ 1000000) :
    Calls Try.prog 31 #[.int .i64 k, .int .i64 m] w fun e w' => e = .returned (.bool true) ∧ w = w' := by
  have h1 : -(m : Int) ≤ (k : Int) := by omega
  have h2 : (k : Int) ≤ (m : Int) := by omega
  go_enter Try.func31, Try.ntmps31
  go_wp2
  go_ret
  exact ⟨by simp_all, rfl⟩






end Go.Proofs.Ythkpgcociklddaa

/-
  Drawn lists of engines, counts and sizes.
-/
namespace Go.Proofs.Ythkpgcociklddaa
open Go.RowKit
set_option linter.unusedVariables false
set_option linter.unusedSimpArgs false
set_option maxRecDepth 100000
attribute [local go_sem ↓] Go.wp_at_zero Go.wp_at_succ

/-- A growing list whose blocks, and those of its engines, lie at base or above. -/
def EngsZ (w : World) (base : Nat) (v : Value) (ls : List (List ByteArray)) : Prop :=
  ∃ xs, w.ownsRow base 28 1 v ls.length xs ∧ xs.length = ls.length ∧ ls.length ≤ 1048576 ∧ ∀ i, i < ls.length → Strs w (xat xs i) (eat ls i) ∧ Off (xat xs i) (eat ls i) (fun b => v.ownBlock ≠ some b ∧ base ≤ b)
theorem EngsZ.engs {w : World} {base : Nat} {v : Value} {ls : List (List ByteArray)} (h : EngsZ w base v ls) : Engs w v ls := by
  obtain ⟨xs, h1, h2, h3, h4⟩ := h
  exact ⟨xs, Sl.own h1 (by unfold maxLen; omega), h2, fun i hi => (h4 i hi).1⟩
theorem EngsZ.lt {w : World} {base : Nat} {v : Value} {ls : List (List ByteArray)} (h : EngsZ w base v ls) : ∀ k, v.ownBlock = some k → base ≤ k ∧ k < w.heap.size := by
  obtain ⟨xs, h1, _⟩ := h; exact h1.lt
theorem EngsZ.bel {w w' : World} {base : Nat} {v : Value} {ls : List (List ByteArray)} (h : EngsZ w base v ls) (hb : Below w.heap.size w w') : EngsZ w' base v ls := by
  obtain ⟨xs, h1, h2, h3, h4⟩ := h
  exact ⟨xs, h1.kept (row := none) ⟨hb.os, hb.tape, hb.output, hb.size, fun i hi _ => hb.block i hi⟩ (by cases v.ownBlock <;> simp), h2, h3, fun i hi => ⟨(h4 i hi).1.bel hb, (h4 i hi).2⟩⟩
theorem EngsZ.far {w w' : World} {base : Nat} {v : Value} {ls : List (List ByteArray)} {row : Option Nat} (h : EngsZ w base v ls) (hb : w.grownBy w' row) (hr : ∀ k, row = some k → k < base) : EngsZ w' base v ls := by
  obtain ⟨xs, h1, h2, h3, h4⟩ := h
  exact ⟨xs, h1.kept hb (by
    cases hv : v.ownBlock with
    | none => exact .inl rfl
    | some k => exact .inr fun e => by have := (h1.lt k hv).1; have := hr k e.symm; omega), h2, h3, fun i hi => ⟨(h4 i hi).1.rowFar hb ((h4 i hi).2.mono fun b hb2 e => by have := hr b e.symm; omega), (h4 i hi).2⟩⟩
theorem EngsZ.empty (w : World) (base : Nat) (hb : base ≤ w.heap.size) : EngsZ (w.alloc (.cells #[] 28)) base (.slice (some ⟨w.heap.size, 0, none⟩) 0 0) [] :=
  ⟨[], World.ownsRow_made w #[] 0 hb (by unfold maxLen; omega) rfl, rfl, by simp, fun i h => absurd h (by simp)⟩

/-- 'out = append(out, e)'. -/
theorem app_engZ {ops : Array Oper} {rest : List Oper} {o : Oper} {a : Act} {Q : Exit → Act → World → Prop} {w : World} (hgd : o.guard = none) (s x : Operand)
    (ho : o.op = .call { callee := .builtin .append, args := #[s, x], argTypes := #[37, 37] })
    (base : Nat) (v : Value) (ls : List (List ByteArray)) (hs : a.eval s = v) (hown : EngsZ w base v ls) (g c : Nat) (z : Value) (l : List ByteArray) (hx : a.eval x = .slice (some ⟨g, 0, none⟩) 1 c)
    (hcell : w.cell? ⟨g, 0, none⟩ = some z) (hz : Strs w z l) (hzo : Off z l (fun b => v.ownBlock ≠ some b ∧ base ≤ b)) (hl : ls.length + 1 ≤ 1048576) (hbase : base ≤ w.heap.size)
    (h : ∀ v' w', EngsZ w' base v' (ls ++ [l]) → w.grownBy w' v.ownBlock → (v'.ownBlock = v.ownBlock ∨ v'.ownBlock = some w.heap.size) → wpList Try.prog ops Q rest (a.put o.dst v') w') : wpList Try.prog ops Q (o :: rest) a w := by
  obtain ⟨i0, hi, hz0, hz1, hz2⟩ := info_parts Try.infoEng
  obtain ⟨xs, h1, h2, h3, h4⟩ := hown
  obtain ⟨Az, cz, rfl, -, -, -⟩ := hz.open_
  refine wpList_append_own_at (P := Try.prog) w hgd s x 37 ho base 28 i0 _ 1 24 Try.underlying37 hi hz0 hz1 hz2 rfl (by omega) v ls.length xs hs h1 ⟨g, 0, none⟩ 1 c [.slice Az l.length cz] hx rfl ?_ ?_ (by unfold maxLen; omega) (by omega) hbase ?_
  · intro j u hj
    match j, hj with
    | 0, hj => simp at hj; subst hj; simpa [Addr.add] using hcell
  · intro u hu; simp at hu; subst hu; rfl
  · intro v' w' q1 q2 _ q4
    refine h v' w' ⟨xs ++ [.slice Az l.length cz], by rw [List.length_append]; exact q1, by simp [h2], by simp; omega, fun i hi => ?_⟩ q2 q4
    have offT : ∀ {x : Value} {m : List ByteArray}, Strs w x m → Off x m (fun b => v.ownBlock ≠ some b ∧ base ≤ b) → Strs w' x m ∧ Off x m (fun b => v'.ownBlock ≠ some b ∧ base ≤ b) := by
      intro x m hx ho
      refine ⟨hx.rowFar q2 (ho.mono fun b hb e => hb.1 e.symm), ?_⟩
      intro a' n' c' e' hl'
      have p1 := ho a' n' c' e' hl'
      have p2 := hx.low a' n' c' e' hl'
      rcases q4 with q | q
      · rw [q]; exact p1
      · rw [q]; exact ⟨by intro e2; injection e2 with e2; omega, p1.2⟩
    simp at hi
    by_cases e : i < ls.length
    · rw [eat_append_lo e, xat_append_lo (by omega)]
      exact offT (h4 i e).1 (h4 i e).2
    · have e' : i = ls.length := by omega
      subst e'
      rw [eat_append_hi]
      have := xat_append_hi (a := xs) (b := .slice Az l.length cz)
      rw [h2] at this
      rw [this]
      exact offT hz hzo

/-- Where drawing a list of engines stands. -/
structure StZ (w : World) (g K : Nat) (v : Value) (ls : List (List ByteArray)) (W : World) : Prop where
  own : EngsZ W w.heap.size v ls
  rdr : Rdr W g K
  gr : w.grownBy W (some g)
  lt : g < w.heap.size
theorem StZ.bel {w : World} {g K : Nat} {v : Value} {l : List (List ByteArray)} {W W' : World} (h : StZ w g K v l W) (hb : Below W.heap.size W W') : StZ w g K v l W' :=
  ⟨h.own.bel hb, h.rdr.bel hb, only_below h.gr hb, h.lt⟩
theorem StZ.grown {w : World} {g K K' : Nat} {v : Value} {l : List (List ByteArray)} {W W' : World} (h : StZ w g K v l W) (hb : W.grownBy W' (some g)) (hr : Rdr W' g K') : StZ w g K' v l W' :=
  ⟨h.own.far hb (fun k hk => by injection hk with hk; have := h.lt; omega), hr, grown_trans h.gr hb (fun j hj => .inl (by injection hj with hj; exact hj.symm)), h.lt⟩
theorem StZ.app {w : World} {g K : Nat} {v v' : Value} {l l' : List (List ByteArray)} {W W' : World} (h : StZ w g K v l W) (ho : EngsZ W' w.heap.size v' l') (hb : W.grownBy W' v.ownBlock) : StZ w g K v' l' W' :=
  ⟨ho, h.rdr.grown hb (fun k hk => by have h1 := (h.own.lt k hk).1; have := h.lt; omega), grown_trans h.gr hb (fun j hj => .inr (h.own.lt j hj).1), h.lt⟩

end Go.Proofs.Ythkpgcociklddaa

/-
  Drawn lists of engines: l7List.
-/
namespace Go.Proofs.Ythkpgcociklddaa
open Go.RowKit
set_option linter.unusedVariables false
set_option linter.unusedSimpArgs false
set_option maxRecDepth 100000
attribute [local go_sem ↓] Go.wp_at_zero Go.wp_at_succ

theorem EngsZ.row {w : World} {base : Nat} {v : Value} {ls : List (List ByteArray)} (h : EngsZ w base v ls) (hn : 0 < ls.length) :
    ∃ b cap cs, v = .slice (some ⟨b, 0, none⟩) ls.length cap ∧ base ≤ b ∧ Blk w b 28 cs ∧ ls.length ≤ cap ∧ cap ≤ 9223372036854775807 ∧ cs.length = cap ∧ ls.length ≤ 1048576 ∧
      ∀ i, i < ls.length → cs[i]? = some (xat cs i) ∧ Strs w (xat cs i) (eat ls i) ∧ Off (xat cs i) (eat ls i) (fun k => k ≠ b ∧ base ≤ k) := by
  obtain ⟨xs, ⟨hl, h⟩, h2, h3, h4⟩ := h
  rcases h with ⟨_, hz⟩ | ⟨g, cap, cur, rfl, hg, hh, hnc, hcm, hsz, ht⟩
  · omega
  · refine ⟨g, cap, cur.toList, rfl, hg, hh, hnc, by unfold maxLen at hcm; omega, by simpa using hsz, h3, fun i hi => ?_⟩
    have e : cur.toList[i]? = some (xat xs i) := by
      have e1 := xat_get (xs := xs) (i := i) (by omega)
      rw [← ht, List.getElem?_take, if_pos (by omega)] at e1
      rw [← ht]
      exact e1
    have e2 : xat cur.toList i = xat xs i := by simp only [xat, List.getD] at e ⊢; rw [e]; rfl
    rw [e2]
    refine ⟨e, (h4 i hi).1, (h4 i hi).2.mono fun k hk => ⟨fun q => hk.1 (by rw [q]; rfl), hk.2⟩⟩
theorem EngsZ.mk' {w : World} {base b cap : Nat} {cs : List Value} {ls : List (List ByteArray)} (hg : base ≤ b) (hb : Blk w b 28 cs) (hl : ls.length ≤ cap) (hc : cap ≤ 9223372036854775807) (hs : cs.length = cap) (hm : ls.length ≤ 1048576)
    (hcs : ∀ i, i < ls.length → Strs w (xat cs i) (eat ls i) ∧ Off (xat cs i) (eat ls i) (fun k => k ≠ b ∧ base ≤ k)) : EngsZ w base (.slice (some ⟨b, 0, none⟩) ls.length cap) ls := by
  have ht : (cs.take ls.length).length = ls.length := by rw [List.length_take]; omega
  have hx : ∀ i, i < ls.length → xat (cs.take ls.length) i = xat cs i := fun i hi => by simp only [xat, List.getD, List.getElem?_take, if_pos hi]
  refine ⟨cs.take ls.length, ⟨by rw [ht]; omega, .inr ⟨b, cap, cs.toArray, rfl, hg, hb, hl, by unfold maxLen; omega, by simpa using hs, ?_⟩⟩, ht, hm, fun i hi => ?_⟩
  · first | rfl | simp
  · rw [hx i hi]
    exact ⟨(hcs i hi).1, (hcs i hi).2.mono fun k hk => ⟨fun q => hk.1 (by injection q with q; exact q.symm), hk.2⟩⟩
theorem StZ.nil_ {w : World} {g K b n cap : Nat} {ls : List (List ByteArray)} {W : World} (h : StZ w g K (.slice (some ⟨b, 0, none⟩) n cap) ls W) (hn : 0 < ls.length) : StZ w g K (.slice (some ⟨b, 0, none⟩) 0 cap) [] W := by
  obtain ⟨b', cap', cs, e, h1, h2, h3, h4, h5, h6, h7⟩ := h.own.row hn
  injection e with e1 e2 e3
  injection e1 with e1
  injection e1 with e1
  subst e1 e3
  exact ⟨EngsZ.mk' (ls := []) h1 h2 (Nat.zero_le _) h4 h5 (by simp) (fun i hi => absurd hi (by simp)), h.rdr, h.gr, h.lt⟩
theorem StZ.set0 {w : World} {g K b n cap : Nat} {ls : List (List ByteArray)} {W : World} (h : StZ w g K (.slice (some ⟨b, 0, none⟩) n cap) ls W) (hn : 0 < ls.length) : StZ w g K (.slice (some ⟨b, 0, none⟩) n cap) (ls.set 0 []) (W.setCell ⟨b, 0, none⟩ (.slice none 0 0)) := by
  obtain ⟨b', cap', cs, e, h1, h2, h3, h4, h5, h6, h7⟩ := h.own.row hn
  injection e with e1 e2 e3
  injection e1 with e1
  injection e1 with e1
  subst e1 e2 e3
  have hg := only_setCell (World.grownBy.refl W (some b)) (p := ⟨b, 0, none⟩) (.inl rfl) (.slice none 0 0)
  have hll : (ls.set 0 []).length = ls.length := List.length_set
  have := h.lt
  refine ⟨?_, h.rdr.grown hg (fun k hk => by injection hk with hk; omega), grown_trans h.gr hg (fun j hj => .inr (by injection hj with hj; omega)), h.lt⟩
  have := EngsZ.mk' (ls := ls.set 0 []) h1 (h2.set_ 0 (.slice none 0 0)) (by rw [hll]; exact h3) h4 (by rw [List.length_set]; exact h5) (by rw [hll]; exact h6) (fun i hi => by
    rw [hll] at hi
    rw [xat_set (by omega)]
    by_cases e : i = 0
    · subst e
      rw [if_pos rfl]
      have : eat (ls.set 0 []) 0 = [] := by simp [eat, List.getD, hn]
      rw [this]
      exact ⟨Strs.nil_ _, fun a n c e hl => absurd hl (by simp)⟩
    · rw [if_neg e]
      have : eat (ls.set 0 []) i = eat ls i := by simp only [eat, List.getD]; rw [List.getElem?_set_ne (by omega)]
      rw [this]
      exact ⟨(h7 i hi).2.1.rowFar hg ((h7 i hi).2.2.mono fun k hk q => hk.1 (by injection q)), (h7 i hi).2.2⟩)
  rw [hll] at this
  exact this

/-- A drawn list of engines. -/
def DrawnEngs (w : World) (g K' : Nat) (e : Ending) (w' : World) : Prop :=
  ∃ v ls, e = .returned v ∧ StZ w g K' v ls w' ∧ ls.length ≤ 11 ∧ ∀ i, i < ls.length → (eat ls i).length ≤ 7
theorem all_app {ls : List (List ByteArray)} {l : List ByteArray} (h : ∀ i, i < ls.length → (eat ls i).length ≤ 7) (hl : l.length ≤ 7) : ∀ i, i < (ls ++ [l]).length → (eat (ls ++ [l]) i).length ≤ 7 := by
  intro i hi
  rw [List.length_append] at hi
  simp at hi
  by_cases e : i < ls.length
  · rw [eat_append_lo e]; exact h i e
  · have e' : i = ls.length := by omega
    subst e'
    rw [eat_append_hi]; exact hl


end Go.Proofs.Ythkpgcociklddaa

/-
  Drawn sizes; the arguments of RunSteps and RunParts.
-/
namespace Go.Proofs.Ythkpgcociklddaa
open Go.RowKit
set_option linter.unusedVariables false
set_option linter.unusedSimpArgs false
set_option maxRecDepth 100000
attribute [local go_sem ↓] Go.wp_at_zero Go.wp_at_succ

/-- Drawn sizes. -/
def DrawnSizes (w : World) (g K' n : Nat) (e : Ending) (w' : World) : Prop :=
  ∃ v l, e = .returned v ∧ Own w' w.heap.size v l ∧ l.length = n ∧ Rdr w' g K' ∧ w.grownBy w' (some g)

/-- A drawn list of engines and a count. -/
def DrawnSteps (w : World) (e : Ending) (w' : World) : Prop :=
  ∃ v ls n, e = .returned (.tuple #[v, .int .i64 n]) ∧ Engs w' v ls ∧ ls.length ≤ 11 ∧ -1 ≤ n ∧ n ≤ 9223372036854775807 ∧ Below w.heap.size w w'

/-- A drawn list of engines and sizes. -/
def DrawnParts (w : World) (e : Ending) (w' : World) : Prop :=
  ∃ v ls u sz, e = .returned (.tuple #[v, u]) ∧ Engs w' v ls ∧ ls.length ≤ 11 ∧ Ints w' u sz ∧ sz.length ≤ 12 ∧ Below w.heap.size w w'

end Go.Proofs.Ythkpgcociklddaa

/-
  The arguments of PartEngines and StepEngines, drawn.
-/
namespace Go.Proofs.Ythkpgcociklddaa
open Go.RowKit
set_option linter.unusedVariables false
set_option linter.unusedSimpArgs false
set_option maxRecDepth 100000
attribute [local go_sem ↓] Go.wp_at_zero Go.wp_at_succ

set_option maxHeartbeats 1000000 in
theorem l2Open_any (g K : Nat) (w : World) (hr : Rdr w g K) (hK : K ≤ 1000000) :
    Calls Try.prog 20 #[.pointer (some ⟨g, 0, none⟩)] w fun e w' => ∃ v l, e = .returned v ∧ St w g (K + 23) v l w' ∧ l.length ≤ 8 := by
  have hgw := hr.lt
  go_enter Try.func20, Try.ntmps20
  go_wp2_with fail
  refine (l2Some_any g K _ hr (by omega)).mono ?_
  rintro e w1 ⟨vp, p, rfl, ho1, hp1, hp2, hr1, hg1⟩
  have S1 := Lib.hid (show St w g (K + 20) vp p w1 from ⟨ho1, hr1, hg1, hgw⟩)
  clear ho1 hr1 hg1 hr
  go_wp2_with fail
  refine (l2Bad_any g _ w _ _ _ S1.out hp1 (by omega) (by omega)).mono ?_
  rintro e w2 ⟨v2, l2, rfl, hs2, l8, -⟩
  have S2 := Lib.hid hs2
  clear hs2 S1
  go_wp2
  go_ret
  exact ⟨_, l2, rfl, S2.out, l8⟩
/-- A drawn polynomial, an argument and a width. -/
def DrawnSU (w : World) (e : Ending) (w' : World) : Prop :=
  ∃ v p n k, e = .returned (.tuple #[v, .int .i64 n, .int .i64 k]) ∧ Own w' w.heap.size v p ∧ p.length ≤ 8 ∧ (-9223372036854775808 ≤ n ∧ n ≤ 9223372036854775807) ∧ (-9223372036854775808 ≤ k ∧ k ≤ 9223372036854775807) ∧ Below w.heap.size w w'
set_option maxHeartbeats 1000000 in
theorem drawSetUp_any (v : Value) (code : List Int) (w : World) (hv : Bytes w v code) :
    Calls Try.prog 4 #[v] w (DrawnSU w) := by
  go_enter Try.func4, Try.ntmps4
  go_wp2_with fail
  refine (l9Open_any v code w hv).mono ?_
  rintro e w1 ⟨g, rfl, hg, hr1, hb1⟩
  have z1 := hb1.size
  have H1 := Lib.hid (And.intro hr1 hb1)
  clear hr1 hb1
  go_wp2_with fail
  refine (l2Open_any g 0 _ H1.out.1 (by omega)).mono ?_
  rintro e w2 ⟨vp, p, rfl, hs2, l8⟩
  have S2 := Lib.hid hs2
  clear hs2
  go_wp2_with fail
  refine (l2Number_any g _ w1 _ _ _ S2.out (by omega)).mono ?_
  rintro e w3 ⟨n, rfl, n1, n2, hs3⟩
  have S3 := Lib.hid hs3
  clear hs3 S2
  go_wp2_with fail
  refine (pick_st 3 S3.out (by omega) (by omega)).mono ?_
  rintro e w4 ⟨q, rfl, qa, qb, hs4⟩
  have S4 := Lib.hid hs4
  clear hs4 S3
  by_cases hq : 0 < q
  · go_wp2
    refine bodyPost_ret (v := .tuple #[vp, .int .i64 n, .int .i64 8]) (by simp [results, Try.results4, go_sem]) rfl ⟨_, p, n, 8, rfl, S4.out.own.lower z1, l8, ⟨n1, n2⟩, by omega, H1.out.2.trans (grown_below (B := w.heap.size) S4.out.gr (by omega) z1)⟩
  · go_wp2_with fail
    refine (l1Wide_any g _ w1 _ _ _ S4.out (by omega)).mono ?_
    rintro e w5 ⟨k, rfl, k1, k2, hs5⟩
    have S5 := Lib.hid hs5
    clear hs5 S4
    go_wp2
    refine bodyPost_ret (v := .tuple #[vp, .int .i64 n, .int .i64 k]) (by simp [results, Try.results4, go_sem]) rfl ⟨_, p, n, k, rfl, S5.out.own.lower z1, l8, ⟨n1, n2⟩, ⟨k1, k2⟩, H1.out.2.trans (grown_below (B := w.heap.size) S5.out.gr (by omega) z1)⟩
/-- The drawn arguments of PartEngines. -/
def DrawnPE (w : World) (e : Ending) (w' : World) : Prop :=
  ∃ v p n u sz k, e = .returned (.tuple #[v, .int .i64 n, u, .int .i64 k]) ∧ Ints w' v p ∧ p.length ≤ 8 ∧ Ints w' u sz ∧ sz.length ≤ 4 ∧ (-9223372036854775808 ≤ n ∧ n ≤ 9223372036854775807) ∧ (-9223372036854775808 ≤ k ∧ k ≤ 9223372036854775807) ∧ Below w.heap.size w w'
/-- The drawn arguments of StepEngines. -/
def DrawnSE (w : World) (e : Ending) (w' : World) : Prop :=
  ∃ v p n m k, e = .returned (.tuple #[v, .int .i64 n, .int .i64 m, .int .i64 k]) ∧ Ints w' v p ∧ p.length ≤ 8 ∧ (-9223372036854775808 ≤ n ∧ n ≤ 9223372036854775807) ∧ (-1 ≤ m ∧ m ≤ 11) ∧ (-9223372036854775808 ≤ k ∧ k ≤ 9223372036854775807) ∧ Below w.heap.size w w'

end Go.Proofs.Ythkpgcociklddaa

/-
  The contract of laws.deSame: two engines have the same columns.
-/
namespace Go.Proofs.Ythkpgcociklddaa
open Go.RowKit
set_option linter.unusedVariables false
set_option linter.unusedSimpArgs false
set_option maxRecDepth 100000

set_option maxHeartbeats 2000000 in
theorem deSame_any (u v : Value) (l m : List ByteArray) (w : World) (hu : Strs w u l) (hv : Strs w v m) :
    Calls Try.prog 7 #[.agg #[u], .agg #[v]] w fun e w' => e = .returned (.bool (eqS l m)) ∧ Below w.heap.size w w' := by
  have HU := Lib.hid hu
  have HV := Lib.hid hv
  obtain ⟨A, c, rfl, hlc, hc, hrd⟩ := hu.open_
  obtain ⟨B, d, rfl, hld, hd, hrd2⟩ := hv.open_
  clear hu hv
  have B0 := Lib.hid (show Below w.heap.size w ((w.alloc (.cells #[.slice A l.length c] 28)).alloc (.cells #[.slice B m.length d] 28)) from (bel_alloc w _).alloc (by simp) _)
  have K0 := (Blk.new' w 28 (.slice A l.length c) w.heap.size rfl).alloc (.cells #[.slice B m.length d] 28)
  have K1 := Blk.new' (w.alloc (.cells #[.slice A l.length c] 28)) 28 (.slice B m.length d) (w.heap.size + 1) (by simp)
  obtain ⟨e0, -⟩ := K0.one
  obtain ⟨e1, -⟩ := K1.one
  by_cases he : l.length = m.length
  · have h1 : ((l.length : Int) != (m.length : Int)) = false := by simp [he]
    have HE := Lib.hid he
    clear he
    go_enter Try.func7, Try.ntmps7
    go_wp2_with fail
    generalize hW : (w.alloc (.cells #[.slice A l.length c] 28)).alloc (.cells #[.slice B m.length d] 28) = W at *
    clear hW K0 K1
    go_loopw [5] (fun i wr => ∃ k : Nat, k ≤ l.length ∧ i = .int .i64 k ∧ (∀ j, j < k → sat l j = sat m j) ∧ ∃ n, wr = W.drewN n) (fun i _ => l.length - (intOf i).toNat)
    case atStart => exact ⟨0, Nat.zero_le _, rfl, fun j hj => absurd hj (by omega), 0, rfl⟩
    case round =>
      obtain ⟨k, hk, rfl, hall, nd, rfl⟩ := hrel
      have HA := Lib.hid hall
      clear hall
      by_cases hlt : k < l.length
      · have hltm : k < m.length := by have := HE.out; omega
        obtain ⟨b, o, rfl, hb, hcell⟩ := hrd.strs (by omega)
        obtain ⟨b2, o2, rfl, hb2, hcell2⟩ := hrd2.strs (by omega)
        have hck := (B0.out.cell (by exact hb)).trans (hcell k hlt)
        have hck2 := (B0.out.cell (by exact hb2)).trans (hcell2 k hltm)
        have p1 : (k : Int) < (l.length : Int) := by omega
        have p2 : (k : Int) < (m.length : Int) := by omega
        have p3 : (0 : Int) ≤ (k : Int) := by omega
        clear hcell hcell2
        go_wp2_with fail
        go_quiet (fail)
        go_wp2
        · have h : (!(sat l k).toList == (sat m k).toList) = true := by assumption
          go_ret
          exact ⟨ret_bool (eqS_false.2 (fun e => by rw [e] at h; simp at h)).symm, below_drewN (below_drewN B0.out _) _⟩
        · have h : (!(sat l k).toList == (sat m k).toList) = false := by assumption
          go_roundw
          case rel => exact ⟨k + 1, by omega, by go_num, toSucc HA.out (str_eq h), _, rfl⟩
          case measure => simp [intOf]; omega
      · go_wp2
        go_ret
        exact ⟨ret_bool (eqS_true.2 (slist_ext HE.out (fun j hj => HA.out j (by omega)))).symm, below_drewN B0.out _⟩
  · have h1 : ((l.length : Int) != (m.length : Int)) = true := by simp; omega
    go_enter Try.func7, Try.ntmps7
    go_wp2
    go_ret
    exact ⟨ret_bool (eqS_false.2 (fun h => he (by rw [h]))).symm, B0.out⟩

end Go.Proofs.Ythkpgcociklddaa

/-
  The law FnWholeHouse, walked (printed by gen_lawwh.py).
-/
namespace Go.Proofs.Ythkpgcociklddaa
open Go.RowKit
set_option linter.unusedVariables false
set_option linter.unusedSimpArgs false
set_option maxRecDepth 100000
attribute [local go_sem ↓] Go.wp_at_zero Go.wp_at_succ

theorem two_ints (w : World) (a b : Int) (ha : -9223372036854775808 ≤ a ∧ a ≤ 9223372036854775807) (hb : -9223372036854775808 ≤ b ∧ b ≤ 9223372036854775807) : Ints (w.alloc (.cells #[.int .i64 a, .int .i64 b] 3)) (.slice (some ⟨w.heap.size, 0, none⟩) 2 2) [a, b] :=
  (lit_own w [a, b] w.heap.size 0 rfl (Nat.zero_le _) (by simp) (fun n hn => by simp at hn; rcases hn with rfl | rfl; exact ha; exact hb)).ints

set_option maxHeartbeats 16000000 in
theorem lawWholeHouse (v : Value) (code : List Int) (u : Value) (more : List Int) (w : World) (hv : Bytes w v code) (hu : Bytes w u more) :
    Calls Try.prog 3 #[v, u] w fun e w' => e = .returned (.bool true) ∧ Below w.heap.size w w' := by
  have HV := Lib.hid hv
  obtain ⟨A_c, c_c, rfl, -, hc1, -⟩ := hv.open_
  obtain ⟨A_m, c_m, rfl, -, hc2, -⟩ := hu.open_
  clear hv hu
  go_enter Try.func3, Try.ntmps3
  by_cases hbig : (1048576 : Int) < (code.length : Int)
  · go_wp2
    go_ret
    exact ⟨rfl, Below.refl _ _⟩
  · by_cases hbig2 : (1048576 : Int) < (more.length : Int)
    · go_wp2
      go_ret
      exact ⟨rfl, Below.refl _ _⟩
    · go_wp2_with fail
      refine (drawSetUp_any _ code _ HV.out).mono ?_
      rintro e w0 ⟨vp, p, a, kk, rfl, op, p8, ab, kb, b⟩
      obtain ⟨Ap, cp, rfl, -, -, -⟩ := op.ints.open_
      have HP := Lib.hid op.ints
      have HB := Lib.hid b
      clear op b HV
      go_wp2_with fail
      refine (implSetUp_any _ p a kk _ HP.out ab).mono ?_
      rintro e w1 ⟨r1, rfl, o1, b⟩
      obtain ⟨A1, c1, rfl, -, -, -⟩ := o1.strs.open_
      have bA : Below w1.heap.size w1 (w1.alloc (.cells #[.slice A1 (setE p a kk).length c1] 28)) := bel_alloc w1 _
      have bb := bel_trans b bA
      replace HP := Lib.hid (HP.out.bel bb)
      replace HB := Lib.hid (bel_trans HB.out bb)
      have K8 := Lib.hid (Blk.new' w1 28 (.slice A1 (setE p a kk).length c1) w1.heap.size rfl)
      have O8 := Lib.hid (o1.strs.bel bA)
      clear b bA bb o1
      go_wp2_with fail
      generalize hW : w1.alloc (.cells #[.slice A1 (setE p a kk).length c1] 28) = w2 at K8 O8 HP HB ⊢
      clear hW
      refine (specSetUp_any _ p a kk _ HP.out ab).mono ?_
      rintro e w3 ⟨r2, rfl, o2, b⟩
      obtain ⟨A2, c2, rfl, -, -, -⟩ := o2.strs.open_
      have bA : Below w3.heap.size w3 (w3.alloc (.cells #[.slice A2 (setE p a kk).length c2] 28)) := bel_alloc w3 _
      have bb := bel_trans b bA
      replace HP := Lib.hid (HP.out.bel bb)
      replace HB := Lib.hid (bel_trans HB.out bb)
      replace K8 := Lib.hid (K8.out.below bb K8.out.lt)
      replace O8 := Lib.hid (O8.out.bel bb)
      have K10 := Lib.hid (Blk.new' w3 28 (.slice A2 (setE p a kk).length c2) w3.heap.size rfl)
      have O10 := Lib.hid (o2.strs.bel bA)
      obtain ⟨e8, -⟩ := K8.out.one
      obtain ⟨e10, -⟩ := K10.out.one
      clear b bA bb o2
      go_wp2_with fail
      clear e8 e10
      generalize hW : w3.alloc (.cells #[.slice A2 (setE p a kk).length c2] 28) = w4 at K8 K10 O8 O10 HP HB ⊢
      clear hW
      refine (deSame_any _ _ (setE p a kk) (setE p a kk) _ O8.out O10.out).mono ?_
      rw [eqS_self]
      rintro e w5 ⟨rfl, b⟩
      replace HP := Lib.hid (HP.out.bel b)
      replace HB := Lib.hid (bel_trans HB.out b)
      replace K8 := Lib.hid (K8.out.below b K8.out.lt)
      replace O8 := Lib.hid (O8.out.bel b)
      replace K10 := Lib.hid (K10.out.below b K10.out.lt)
      replace O10 := Lib.hid (O10.out.bel b)
      clear b
      obtain ⟨e8, -⟩ := K8.out.one
      obtain ⟨e10, -⟩ := K10.out.one
      cases hs : setOk p a kk
      · have HN := Lib.hid hs
        clear hs
        go_wp2_with fail
        clear e8 e10
        refine (deSame_any _ _ (setE p a kk) (setE p a kk) _ O8.out O10.out).mono ?_
        rw [eqS_self]
        rintro e w6 ⟨rfl, b⟩
        replace HB := Lib.hid (bel_trans HB.out b)
        go_wp2
        go_ret
        exact ⟨rfl, HB.out⟩
      · have HSU := Lib.hid hs
        clear hs
        go_wp2_with fail
        clear e8 e10
        refine (implCap_any _ p a kk 12 _ HP.out ab (by omega)).mono ?_
        rintro e w6 ⟨rfl, b⟩
        replace HP := Lib.hid (HP.out.bel b)
        replace HB := Lib.hid (bel_trans HB.out b)
        replace K8 := Lib.hid (K8.out.below b K8.out.lt)
        replace O8 := Lib.hid (O8.out.bel b)
        replace K10 := Lib.hid (K10.out.below b K10.out.lt)
        replace O10 := Lib.hid (O10.out.bel b)
        clear b
        obtain ⟨e8, -⟩ := K8.out.one
        obtain ⟨e10, -⟩ := K10.out.one
        by_cases hcap : capI p a kk 12 < 12
        · go_wp2_with fail
          clear e8 e10
          refine (deSame_any _ _ (setE p a kk) (setE p a kk) _ O8.out O10.out).mono ?_
          rw [eqS_self]
          rintro e w7 ⟨rfl, b⟩
          replace HB := Lib.hid (bel_trans HB.out b)
          go_wp2
          go_ret
          exact ⟨rfl, HB.out⟩
        · have HH := Lib.hid (house HSU.out (Int.le_of_not_gt hcap))
          go_wp2_with fail
          clear e8 e10 K10 O10
          refine (implValues_any _ p a 12 _ HP.out ab (by omega)).mono ?_
          rw [HH.out.val.1]
          rintro e w7 ⟨r3, rfl, o3, b⟩
          obtain ⟨R, hR⟩ : ∃ R, valL p a 12 = R := ⟨_, rfl⟩
          rw [hR] at o3 HH
          obtain ⟨A3, c3, rfl, -, -, -⟩ := o3.ints.open_
          have HRt := Lib.hid o3.ints
          replace HP := Lib.hid (HP.out.bel b)
          replace HB := Lib.hid (bel_trans HB.out b)
          replace K8 := Lib.hid (K8.out.below b K8.out.lt)
          replace O8 := Lib.hid (O8.out.bel b)
          clear b o3 hR
          obtain ⟨e8, -⟩ := K8.out.one
          go_wp2_with fail
          clear e8
          refine (deSkewed_any _ (setE p a kk) _ O8.out HH.out.ok).mono ?_
          rintro e w8 ⟨r4, rfl, o4, b⟩
          obtain ⟨A4, c4, rfl, -, -, -⟩ := o4.strs.open_
          have O4 := Lib.hid o4.strs
          replace HP := Lib.hid (HP.out.bel b)
          replace HB := Lib.hid (bel_trans HB.out b)
          replace K8 := Lib.hid (K8.out.below b K8.out.lt)
          replace O8 := Lib.hid (O8.out.bel b)
          replace HRt := Lib.hid (HRt.out.bel b)
          clear b o4
          go_wp2_with fail
          refine (runHalves_any _ (skewS (setE p a kk)) 12 _ O4.out (by omega)).mono ?_
          rw [HH.out.half.1, HH.out.half.2]
          rintro e w9 ⟨r5, rfl, o5, b⟩
          obtain ⟨A5, c5, rfl, -, -, -⟩ := o5.ints.open_
          have HHv := Lib.hid o5.ints
          have bA : Below w9.heap.size w9 (w9.alloc (.cells #[.int .i64 5, .int .i64 7] 3)) := bel_alloc w9 _
          have bb := bel_trans b bA
          replace HP := Lib.hid (HP.out.bel bb)
          replace HB := Lib.hid (bel_trans HB.out bb)
          replace K8 := Lib.hid (K8.out.below bb K8.out.lt)
          replace O8 := Lib.hid (O8.out.bel bb)
          replace HRt := Lib.hid (HRt.out.bel bb)
          replace HHv := Lib.hid (HHv.out.bel bA)
          have T1 := Lib.hid (two_ints w9 5 7 (by omega) (by omega))
          clear b bA bb o5 O4
          go_wp2_with fail
          generalize hW : w9.alloc (.cells #[.int .i64 5, .int .i64 7] 3) = w10 at HP HB K8 O8 HRt HHv T1 ⊢
          clear hW
          refine (implPE_any _ _ p a [5, 7] kk _ HP.out T1.out (by simp) ab).mono ?_
          rintro e w11 ⟨r6, rfl, o6, b⟩
          have L6 := Lib.hid o6.engs
          obtain ⟨AL, cL, xs, rfl, -, -, -, -⟩ := o6.engs.open_
          obtain ⟨PL, hPL⟩ : ∃ L, peL p a [5, 7] kk = L := ⟨_, rfl⟩
          have HPT := Lib.hid HH.out.part
          rw [hPL] at L6 HPT ⊢
          have bA : Below w11.heap.size w11 (w11.alloc (.cells #[.int .i64 5, .int .i64 7] 3)) := bel_alloc w11 _
          have bb := bel_trans b bA
          replace HB := Lib.hid (bel_trans HB.out bb)
          replace K8 := Lib.hid (K8.out.below bb K8.out.lt)
          replace O8 := Lib.hid (O8.out.bel bb)
          replace HRt := Lib.hid (HRt.out.bel bb)
          replace HHv := Lib.hid (HHv.out.bel bb)
          replace L6 := Lib.hid (L6.out.bel bA)
          have T2 := Lib.hid (two_ints w11 5 7 (by omega) (by omega))
          clear b bA bb o6 HP T1 hPL
          go_wp2_with fail
          generalize hW : w11.alloc (.cells #[.int .i64 5, .int .i64 7] 3) = w12 at HB K8 O8 HRt HHv L6 T2 ⊢
          clear hW
          refine (implParts_any _ _ PL [5, 7] _ L6.out T2.out (by simp)).mono ?_
          rintro e w13 ⟨r7, rfl, o7, b⟩
          obtain ⟨A7, c7, rfl, -, -, -⟩ := o7.ints.open_
          have HSc := Lib.hid o7.ints
          replace HB := Lib.hid (bel_trans HB.out b)
          replace K8 := Lib.hid (K8.out.below b K8.out.lt)
          replace O8 := Lib.hid (O8.out.bel b)
          replace HRt := Lib.hid (HRt.out.bel b)
          replace HHv := Lib.hid (HHv.out.bel b)
          clear b o7 L6 T2
          obtain ⟨tt, htt, htt7⟩ : ∃ t : Nat, (more.length : Int).tmod 7 = (t : Int) ∧ t < 7 := ⟨more.length % 7, by rw [Int.tmod_eq_emod_of_nonneg (by omega)]; omega, by omega⟩
          obtain ⟨xx, hxx, hx1, hx9⟩ : ∃ x : Nat, IntKind.i64.wrap (1 + (more.length : Int).tmod 9) = (x : Int) ∧ 1 ≤ x ∧ x ≤ 9 := by
            refine ⟨1 + more.length % 9, ?_, by omega, by omega⟩
            rw [Int.tmod_eq_emod_of_nonneg (by omega)]
            exact (IntWalk.i64_left _).trans ((IntWalk.wrap64_in _ (by omega)).trans (by omega))
          obtain ⟨qq, hqq⟩ : ∃ q, (more.length : Int).tmod 9 = q := ⟨_, rfl⟩
          rw [hqq] at hxx
          obtain ⟨e8, -⟩ := K8.out.one
          have HX := Lib.hid (And.intro hx1 hx9)
          clear hx1 hx9
          go_wp2_with fail
          clear e8
          refine (slip_any _ (setE p a kk) 12 tt xx _ O8.out HH.out.ok (by omega) (by omega) (by have := HX.out; omega)).mono ?_
          rintro e w14 ⟨r8, rfl, o8, b⟩
          have HSL := Lib.hid (slip_house HH.out (t := tt) (x := (xx : Int)) (by omega) (by have := HX.out; omega) (by have := HX.out; omega))
          obtain ⟨S, hS⟩ : ∃ S, slipL (setE p a kk) tt (xx : Int) 12 = S := ⟨_, rfl⟩
          rw [hS] at o8 HSL
          obtain ⟨A8, c8, rfl, -, -, -⟩ := o8.ints.open_
          have HSp := Lib.hid o8.ints
          replace HB := Lib.hid (bel_trans HB.out b)
          replace HRt := Lib.hid (HRt.out.bel b)
          replace HHv := Lib.hid (HHv.out.bel b)
          replace HSc := Lib.hid (HSc.out.bel b)
          clear b o8 hS K8 O8 htt hxx hqq
          go_wp2_with fail
          refine (deInts_any _ _ R R _ HHv.out HRt.out).mono ?_
          rw [eqL_self]
          rintro e w15 ⟨rfl, b⟩
          replace HB := Lib.hid (bel_trans HB.out b)
          replace HRt := Lib.hid (HRt.out.bel b)
          replace HHv := Lib.hid (HHv.out.bel b)
          replace HSc := Lib.hid (HSc.out.bel b)
          replace HSp := Lib.hid (HSp.out.bel b)
          clear b
          cases hpe : peOk p a [5, 7] kk
          · go_wp2
            go_ret
            exact ⟨rfl, HB.out⟩
          · obtain ⟨hp1, hp2⟩ := HPT.out hpe
            rw [hp2] at HSc ⊢
            rw [hp1]
            clear hpe hp1 hp2
            go_wp2_with fail
            refine (deInts_any _ _ R R _ HSc.out HRt.out).mono ?_
            rw [eqL_self]
            rintro e w16 ⟨rfl, b⟩
            replace HB := Lib.hid (bel_trans HB.out b)
            replace HRt := Lib.hid (HRt.out.bel b)
            replace HHv := Lib.hid (HHv.out.bel b)
            replace HSc := Lib.hid (HSc.out.bel b)
            replace HSp := Lib.hid (HSp.out.bel b)
            clear b
            go_wp2_with fail
            refine (implTable_any _ R _ HRt.out).mono ?_
            rintro e w17 ⟨rfl, hw⟩
            subst hw
            cases hqR : tableOk R
            · go_wp2_with fail
              refine (deInts_any _ _ R R _ HSc.out HRt.out).mono ?_
              rw [eqL_self]
              rintro e w18 ⟨rfl, b⟩
              replace HB := Lib.hid (bel_trans HB.out b)
              go_wp2
              go_ret
              exact ⟨rfl, HB.out⟩
            · have HQR := Lib.hid hqR
              clear hqR
              go_wp2_with fail
              refine (implTable_any _ S _ HSp.out).mono ?_
              rintro e w18 ⟨rfl, hw⟩
              subst hw
              cases hqS : tableOk S
              · go_wp2_with fail
                refine (deInts_any _ _ R R _ HSc.out HRt.out).mono ?_
                rw [eqL_self]
                rintro e w19 ⟨rfl, b⟩
                replace HB := Lib.hid (bel_trans HB.out b)
                go_wp2
                go_ret
                exact ⟨rfl, HB.out⟩
              · have HVT := Lib.hid (house_vote HQR.out hqS HSL.out.2 HSL.out.1)
                clear hqS
                go_wp2_with fail
                refine (implVote_any _ _ _ R S R _ HHv.out HSp.out HSc.out).mono ?_
                rw [HVT.out.1, HVT.out.2.1]
                rintro e w19 ⟨r9, rfl, o9, b⟩
                obtain ⟨A9, c9, rfl, -, -, -⟩ := o9.ints.open_
                have HVo := Lib.hid o9.ints
                replace HB := Lib.hid (bel_trans HB.out b)
                replace HRt := Lib.hid (HRt.out.bel b)
                replace HHv := Lib.hid (HHv.out.bel b)
                replace HSc := Lib.hid (HSc.out.bel b)
                replace HSp := Lib.hid (HSp.out.bel b)
                clear b o9
                go_wp2_with fail
                refine (deInts_any _ _ R R _ HVo.out HRt.out).mono ?_
                rw [eqL_self]
                rintro e w20 ⟨rfl, b⟩
                replace HB := Lib.hid (bel_trans HB.out b)
                replace HHv := Lib.hid (HHv.out.bel b)
                replace HSc := Lib.hid (HSc.out.bel b)
                replace HSp := Lib.hid (HSp.out.bel b)
                clear b
                go_wp2_with fail
                refine (implFaulty_any _ _ _ R S R _ HHv.out HSp.out HSc.out).mono ?_
                rw [HVT.out.2.2]
                rintro e w21 ⟨rfl, b⟩
                replace HB := Lib.hid (bel_trans HB.out b)
                clear b
                go_wp2
                go_ret
                exact ⟨rfl, HB.out⟩
end Go.Proofs.Ythkpgcociklddaa
