/-
  Contracts of Vote.
-/
import Derived.Test.YtegofpfhlhfdnaaVote
namespace Go.Proofs.Ytegofpfhlhfdnaa
open Go.RowKit
set_option linter.unusedVariables false

def vok (x y z : Int) : Bool := x == y || x == z || y == z
def vpick (x y z : Int) : Int := if x = y ∨ x = z then x else y
def vAll (a b c : List Int) : Bool := (List.range a.length).all fun k => vok (at_ a k) (at_ b k) (at_ c k)
def voteOk (a b c : List Int) : Bool := threeOk a b c && vAll a b c
def voteR (a b c : List Int) : List Int := if voteOk a b c = true then gen (fun k => vpick (at_ a k) (at_ b k) (at_ c k)) a.length else []
theorem vAll_not {a b c : List Int} {k : Nat} (hk : k < a.length) (h : vok (at_ a k) (at_ b k) (at_ c k) = false) : vAll a b c = false := by
  rw [Bool.eq_false_iff]
  intro e
  simp only [vAll, List.all_eq_true, List.mem_range] at e
  rw [e k hk] at h
  cases h
theorem vAll_yes {a b c : List Int} (h : ∀ k, k < a.length → vok (at_ a k) (at_ b k) (at_ c k) = true) : vAll a b c = true := by
  simp only [vAll, List.all_eq_true, List.mem_range]
  exact h
theorem vpick_wf {a b c : List Int} (ha : Wf a) (hb : Wf b) (k : Nat) : -9223372036854775808 ≤ vpick (at_ a k) (at_ b k) (at_ c k) ∧ vpick (at_ a k) (at_ b k) (at_ c k) ≤ 9223372036854775807 := by
  unfold vpick
  split
  · exact ha.at a k
  · exact hb.at b k

theorem vpick_1 {x y z : Int} (h : (x == y) = true) : x = vpick x y z := by simp at h; simp [vpick, h]
theorem vpick_2 {x y z : Int} (h : (x == z) = true) : x = vpick x y z := by simp at h; simp [vpick, h]
theorem vpick_3 {x y z : Int} (h1 : (x == y) = false) (h2 : (x == z) = false) : y = vpick x y z := by simp at h1 h2; simp [vpick, h1, h2]
theorem vote_step {w : World} {base : Nat} {v : Value} {f : Nat → Int} {k : Nat} {z : Int} (h : Own w base v (gen f k ++ [z])) (hz : z = f k) : Own w base v (gen f (k + 1)) := by
  rw [gen_succ, ← hz]; exact h

set_option maxHeartbeats 1000000 in
theorem specVote_any (v u t : Value) (l m n : List Int) (w : World) (hv : Ints w v l) (hu : Ints w u m) (ht : Ints w t n) :
    Calls Try.prog 31 #[v, u, t] w fun e w' => ∃ r, e = .returned (.tuple #[r, .bool (voteOk l m n)]) ∧ Own w' w.heap.size r (voteR l m n) ∧ Below w.heap.size w w' := by
  by_cases h : threeOk l m n = true
  · obtain ⟨t1, _, _, q1, q2⟩ := threeOk_true h
    obtain ⟨t2, t3, _⟩ := tableOk_true t1
    have hv' := hv
    have hu' := hu
    have ht' := ht
    obtain ⟨A, c, rfl, hlc, hc, hrd⟩ := hv.open_
    obtain ⟨B, d, rfl, hld, hd, hrd2⟩ := hu.open_
    obtain ⟨C, f, rfl, hlf, hf, hrd3⟩ := ht.open_
    have Q := Lib.hid (And.intro q1 (And.intro q2 (And.intro hv (And.intro hu ht))))
    obtain ⟨b, o, rfl, hb, hcell⟩ := hrd.ints (by omega)
    obtain ⟨b2, o2, rfl, hb2, hcell2⟩ := hrd2.ints (by omega)
    obtain ⟨b3, o3, rfl, hb3, hcell3⟩ := hrd3.ints (by omega)
    have HC := Lib.hid (And.intro hcell (And.intro hcell2 hcell3))
    clear q1 q2 hv hu ht hrd hrd2 hrd3 hcell hcell2 hcell3
    have OE := Lib.hid (Own.empty w w.heap.size (Nat.le_refl _))
    go_enter Try.func31, Try.ntmps31
    go_wp2_with fail
    refine (three_any _ _ _ _ _ _ _ (Q.out.2.2.1.bel (bel_alloc _ _)) (Q.out.2.2.2.1.bel (bel_alloc _ _)) (Q.out.2.2.2.2.bel (bel_alloc _ _))).mono ?_
    rintro e w' ⟨rfl, rfl⟩
    go_wp2_with fail
    go_loopw [8, 9] (fun r i wr => ∃ k : Nat, k ≤ l.length ∧ i = .int .i64 k ∧ Own wr w.heap.size r (gen (fun k => vpick (at_ l k) (at_ m k) (at_ n k)) k) ∧ (∀ j, j < k → vok (at_ l j) (at_ m j) (at_ n j) = true) ∧ Below w.heap.size w wr)
      (fun _ i _ => l.length - (intOf i).toNat)
    case atStart => exact ⟨0, Nat.zero_le _, rfl, OE.out, fun j hj => absurd hj (by omega), bel_alloc _ _⟩
    case round =>
      obtain ⟨k, hk, rfl, hown, hall, hbel⟩ := hrel
      have HO := Lib.hid (And.intro hown (And.intro hall hbel))
      have hz := hbel.size
      clear hown hall
      by_cases hlt : k < l.length
      · have hltm : k < m.length := by have := Q.out.1; omega
        have hltn : k < n.length := by have := Q.out.2.1; omega
        have c1 : wr.cell? ⟨b, o + k, none⟩ = some (.int .i64 (at_ l k)) := (hbel.cell (by exact hb)).trans (HC.out.1 k hlt)
        have c2 : wr.cell? ⟨b2, o2 + k, none⟩ = some (.int .i64 (at_ m k)) := (hbel.cell (by exact hb2)).trans (HC.out.2.1 k hltm)
        have c3 : wr.cell? ⟨b3, o3 + k, none⟩ = some (.int .i64 (at_ n k)) := (hbel.cell (by exact hb3)).trans (HC.out.2.2 k hltn)
        have p1 : (k : Int) < (l.length : Int) := by omega
        have p2 : (k : Int) < (m.length : Int) := by omega
        have p4 : (k : Int) < (n.length : Int) := by omega
        have p3 : (0 : Int) ≤ (k : Int) := by omega
        clear hbel
        cases e1 : (at_ l k == at_ m k)
        · cases e2 : (at_ l k == at_ n k)
          · cases e3 : (at_ m k == at_ n k)
            · go_wp2
              go_quiet (fail)
              go_wp2
              go_quiet (fail)
              go_wp2
              go_ret2
              have hx : voteOk l m n = false := by rw [voteOk, vAll_not hlt (by simp [vok, e1, e2, e3])]; simp
              rw [hx, voteR, hx]
              exact ⟨_, rfl, Own.empty _ _ hz, bel_trans (below_drewN HO.out.2.2 _) (bel_alloc _ _)⟩
            · have E := Lib.hid (And.intro e1 (And.intro e2 e3))
              go_wp2
              go_quiet (fail)
              go_wp2
              go_quiet (fail)
              go_wp2_with (at_builtin; refine app_int rfl _ _ (by rfl) w.heap.size _ _ (by rfl) (by exact (HO.out.1.bel (below_drewN (Below.refl _ _) _)).bel (bel_alloc _ _)) _ _ (at_ m k) (by rfl) (by exact new_cell _ _ _) (Q.out.2.2.2.1.2.at m k) (by rw [gen_length]; omega) (by simp; omega) ?_; intro v1 w1 ho hg _)
              go_roundw
              case rel => exact ⟨k + 1, by omega, by go_num, vote_step ho (vpick_3 E.out.1 E.out.2.1), toSucc HO.out.2.1 (by simp [vok, E.out.2.2]), app_bel (bel_trans (below_drewN HO.out.2.2 _) (bel_alloc _ _)) (by exact (HO.out.1.bel (below_drewN (Below.refl _ _) _)).bel (bel_alloc _ _)) hg⟩
              case measure => simp [intOf]; omega
          · have E := Lib.hid (And.intro e1 e2)
            go_wp2
            go_quiet (fail)
            go_wp2_with (at_builtin; refine app_int rfl _ _ (by rfl) w.heap.size _ _ (by rfl) (by exact (HO.out.1.bel (below_drewN (Below.refl _ _) _)).bel (bel_alloc _ _)) _ _ (at_ l k) (by rfl) (by exact new_cell _ _ _) (Q.out.2.2.1.2.at l k) (by rw [gen_length]; omega) (by simp; omega) ?_; intro v1 w1 ho hg _)
            go_roundw
            case rel => exact ⟨k + 1, by omega, by go_num, vote_step ho (vpick_2 E.out.2), toSucc HO.out.2.1 (by simp [vok, E.out.2]), app_bel (bel_trans (below_drewN HO.out.2.2 _) (bel_alloc _ _)) (by exact (HO.out.1.bel (below_drewN (Below.refl _ _) _)).bel (bel_alloc _ _)) hg⟩
            case measure => simp [intOf]; omega
        · have E := Lib.hid e1
          go_wp2
          go_quiet (fail)
          go_wp2_with (at_builtin; refine app_int rfl _ _ (by rfl) w.heap.size _ _ (by rfl) (by exact (HO.out.1.bel (below_drewN (Below.refl _ _) _)).bel (bel_alloc _ _)) _ _ (at_ l k) (by rfl) (by exact new_cell _ _ _) (Q.out.2.2.1.2.at l k) (by rw [gen_length]; omega) (by simp; omega) ?_; intro v1 w1 ho hg _)
          go_roundw
          case rel => exact ⟨k + 1, by omega, by go_num, vote_step ho (vpick_1 E.out), toSucc HO.out.2.1 (by simp [vok, E.out]), app_bel (bel_trans (below_drewN HO.out.2.2 _) (bel_alloc _ _)) (by exact (HO.out.1.bel (below_drewN (Below.refl _ _) _)).bel (bel_alloc _ _)) hg⟩
          case measure => simp [intOf]; omega
      · have hkl : k = l.length := by omega
        go_wp2
        go_ret2
        have hx : voteOk l m n = true := by rw [voteOk, h, vAll_yes (fun j hj => HO.out.2.1 j (by omega))]; rfl
        rw [hx, voteR, hx, if_pos rfl, ← hkl]
        exact ⟨_, rfl, HO.out.1, HO.out.2.2⟩
  · have hx : voteOk l m n = false := by simp [voteOk, h]
    have HX := Lib.hid (show voteR l m n = [] from by simp [voteR, hx])
    have OE := Lib.hid (Own.empty w w.heap.size (Nat.le_refl _))
    go_enter Try.func31, Try.ntmps31
    go_wp2_with fail
    refine (three_any _ _ _ _ _ _ _ (hv.bel (bel_alloc _ _)) (hu.bel (bel_alloc _ _)) (ht.bel (bel_alloc _ _))).mono ?_
    rintro e w' ⟨rfl, rfl⟩
    go_wp2_with fail
    go_ret2
    rw [HX.out, hx]
    exact ⟨_, rfl, OE.out, bel_alloc _ _⟩

theorem vote_set {cs : List Value} {f : Nat → Int} {k n : Nat} {z : Int} (hl : cs.length = n) (hk : k < n) (h : ∀ j, j < k → cs[j]? = some (.int .i64 (f j))) (hz : z = f k) :
    ∀ j, j < k + 1 → (cs.set k (.int .i64 z))[j]? = some (.int .i64 (f j)) := by
  intro j hj
  by_cases e : j = k
  · subst e; rw [List.getElem?_set_self (by omega), hz]
  · rw [List.getElem?_set_ne (by omega)]; exact h j (by omega)
set_option maxHeartbeats 1000000 in
theorem implVote_any (v u t : Value) (l m n : List Int) (w : World) (hv : Ints w v l) (hu : Ints w u m) (ht : Ints w t n) :
    Calls Try.prog 30 #[v, u, t] w fun e w' => ∃ r, e = .returned (.tuple #[r, .bool (voteOk l m n)]) ∧ Own w' w.heap.size r (voteR l m n) ∧ Below w.heap.size w w' := by
  by_cases h : threeOk l m n = true
  · obtain ⟨t1, _, _, q1, q2⟩ := threeOk_true h
    obtain ⟨t2, t3, _⟩ := tableOk_true t1
    have h' := h
    simp only [threeOk, Bool.and_eq_true] at h'
    obtain ⟨a1, a2⟩ := h'
    have hv' := hv
    have hu' := hu
    have ht' := ht
    obtain ⟨A, c, rfl, hlc, hc, hrd⟩ := hv.open_
    obtain ⟨B, d, rfl, hld, hd, hrd2⟩ := hu.open_
    obtain ⟨C, f, rfl, hlf, hf, hrd3⟩ := ht.open_
    have Q := Lib.hid (And.intro q1 (And.intro q2 (And.intro hv (And.intro hu ht))))
    obtain ⟨b, o, rfl, hb, hcell⟩ := hrd.ints (by omega)
    obtain ⟨b2, o2, rfl, hb2, hcell2⟩ := hrd2.ints (by omega)
    obtain ⟨b3, o3, rfl, hb3, hcell3⟩ := hrd3.ints (by omega)
    have HC := Lib.hid (And.intro hcell (And.intro hcell2 hcell3))
    clear q1 q2 hv hu ht hrd hrd2 hrd3 hcell hcell2 hcell3
    have hmk := fun W => Try.mkInts l.length (by omega) W
    go_enter Try.func30, Try.ntmps30
    go_wp2_with fail
    refine (alike_any _ _ _ _ _ hv' hu').mono ?_; rintro e w' ⟨rfl, rfl⟩
    go_wp2_with fail
    refine (alike_any _ _ _ _ _ hv' ht').mono ?_; rintro e w' ⟨rfl, rfl⟩
    go_wp2_with fail
    go_loopw [25] (fun i wr => ∃ (k : Nat) (cs : List Value), k ≤ l.length ∧ i = .int .i64 k ∧ Blk wr w.heap.size 3 cs ∧ cs.length = l.length ∧ (∀ j, j < k → cs[j]? = some (.int .i64 (vpick (at_ l j) (at_ m j) (at_ n j)))) ∧ (∀ j, j < k → vok (at_ l j) (at_ m j) (at_ n j) = true) ∧ Below w.heap.size w wr)
      (fun i _ => l.length - (intOf i).toNat)
    case atStart => exact ⟨0, _, Nat.zero_le _, rfl, Blk.new _ _ _, reps_length _ _, fun j hj => absurd hj (by omega), fun j hj => absurd hj (by omega), bel_alloc _ _⟩
    case round =>
      obtain ⟨k, cs, hk, rfl, hblk, hcl, hcs, hall, hbel⟩ := hrel
      have HO := Lib.hid (And.intro hcl (And.intro hcs (And.intro hall hbel)))
      have hz := hbel.size
      clear hcl hcs hall
      by_cases hlt : k < l.length
      · have hltm : k < m.length := by have := Q.out.1; omega
        have hltn : k < n.length := by have := Q.out.2.1; omega
        have c1 : wr.cell? ⟨b, o + k, none⟩ = some (.int .i64 (at_ l k)) := (hbel.cell (by exact hb)).trans (HC.out.1 k hlt)
        have c2 : wr.cell? ⟨b2, o2 + k, none⟩ = some (.int .i64 (at_ m k)) := (hbel.cell (by exact hb2)).trans (HC.out.2.1 k hltm)
        have c3 : wr.cell? ⟨b3, o3 + k, none⟩ = some (.int .i64 (at_ n k)) := (hbel.cell (by exact hb3)).trans (HC.out.2.2 k hltn)
        have hcw : wr.cell? ⟨w.heap.size, k, none⟩ = some (cs[k]'(by rw [HO.out.1]; exact hlt)) := by rw [hblk.cell]; exact List.getElem?_eq_getElem _
        have hfw := hblk.frozen k
        have p1 : (k : Int) < (l.length : Int) := by omega
        have p2 : (k : Int) < (m.length : Int) := by omega
        have p4 : (k : Int) < (n.length : Int) := by omega
        have p3 : (0 : Int) ≤ (k : Int) := by omega
        clear hbel
        cases e1 : (at_ l k == at_ m k)
        · cases e2 : (at_ l k == at_ n k)
          · cases e3 : (at_ m k == at_ n k)
            · go_wp2
              go_quiet (fail)
              go_wp2
              go_quiet (fail)
              go_wp2
              go_ret2
              have hx : voteOk l m n = false := by rw [voteOk, vAll_not hlt (by simp [vok, e1, e2, e3])]; simp
              rw [hx, voteR, hx]
              exact ⟨_, rfl, Own.nil_ _ _, below_drewN (below_drewN HO.out.2.2.2 _) _⟩
            · have E := Lib.hid (And.intro e1 (And.intro e2 e3))
              go_wp2
              go_quiet (fail)
              go_wp2
              go_quiet (fail)
              go_wp2
              go_roundw
              case rel => exact ⟨k + 1, _, by omega, by go_num, hblk.set_ k _, by rw [List.length_set]; exact HO.out.1, vote_set HO.out.1 hlt HO.out.2.1 (vpick_3 E.out.1 E.out.2.1), toSucc HO.out.2.2.1 (by simp [vok, E.out.2.2]), (below_drewN HO.out.2.2.2 _).setCell (Nat.le_refl _) _⟩
              case measure => simp [intOf]; omega
          · have E := Lib.hid (And.intro e1 e2)
            go_wp2
            go_quiet (fail)
            go_wp2
            go_roundw
            case rel => exact ⟨k + 1, _, by omega, by go_num, hblk.set_ k _, by rw [List.length_set]; exact HO.out.1, vote_set HO.out.1 hlt HO.out.2.1 (vpick_2 E.out.2), toSucc HO.out.2.2.1 (by simp [vok, E.out.2]), (below_drewN HO.out.2.2.2 _).setCell (Nat.le_refl _) _⟩
            case measure => simp [intOf]; omega
        · have E := Lib.hid e1
          go_wp2
          go_quiet (fail)
          go_wp2
          go_roundw
          case rel => exact ⟨k + 1, _, by omega, by go_num, hblk.set_ k _, by rw [List.length_set]; exact HO.out.1, vote_set HO.out.1 hlt HO.out.2.1 (vpick_1 E.out), toSucc HO.out.2.2.1 (by simp [vok, E.out]), (below_drewN HO.out.2.2.2 _).setCell (Nat.le_refl _) _⟩
          case measure => simp [intOf]; omega
      · have hkl : k = l.length := by omega
        go_wp2
        go_ret2
        have hx : voteOk l m n = true := by rw [voteOk, h, vAll_yes (fun j hj => HO.out.2.2.1 j (by omega))]; rfl
        rw [hx, voteR, hx, if_pos rfl]
        exact ⟨_, rfl, own_gen (f := fun k => vpick (at_ l k) (at_ m k) (at_ n k)) (Nat.le_refl _) hblk HO.out.1 (by omega) (fun j hj => HO.out.2.1 j (by omega)) (fun j _ => vpick_wf Q.out.2.2.1.2 Q.out.2.2.2.1.2 j), HO.out.2.2.2⟩
  · have hx : voteOk l m n = false := by simp [voteOk, h]
    have HX := Lib.hid (show voteR l m n = [] from by simp [voteR, hx])
    simp only [threeOk, Bool.and_eq_true, not_and, Bool.not_eq_true] at h
    by_cases a1 : alikeOk l m = true
    · have a2 := h a1
      go_enter Try.func30, Try.ntmps30
      go_wp2_with fail
      refine (alike_any _ _ _ _ _ hv hu).mono ?_; rintro e w' ⟨rfl, rfl⟩
      go_wp2_with fail
      refine (alike_any _ _ _ _ _ hv ht).mono ?_; rintro e w' ⟨rfl, rfl⟩
      go_wp2_with fail
      go_ret2
      rw [HX.out, hx]
      exact ⟨_, rfl, Own.nil_ _ _, Below.refl _ _⟩
    · go_enter Try.func30, Try.ntmps30
      go_wp2_with fail
      refine (alike_any _ _ _ _ _ hv hu).mono ?_; rintro e w' ⟨rfl, rfl⟩
      go_wp2_with fail
      go_ret2
      rw [HX.out, hx]
      exact ⟨_, rfl, Own.nil_ _ _, Below.refl _ _⟩

end Go.Proofs.Ytegofpfhlhfdnaa
