/-
  Contracts of Interleave and DealTable.
-/
import Derived.Test.YtplalhehdfkipaaInts
namespace Go.Proofs.Ytplalhehdfkipaa
open Go.RowKit
set_option linter.unusedVariables false

set_option maxHeartbeats 400000 in
theorem deInts_any (v u : Value) (l m : List Int) (w : World) (hv : Ints w v l) (hu : Ints w u m) :
    Calls Try.prog 24 #[v, u] w fun e w' => e = .returned (.bool (eqL l m)) ∧ Below w.heap.size w w' := by
  obtain ⟨A, c, rfl, hlc, hc, hrd⟩ := hv.open_
  obtain ⟨B, d, rfl, hld, hd, hrd2⟩ := hu.open_
  by_cases he : l.length = m.length
  · have h1 : ((l.length : Int) != (m.length : Int)) = false := by simp [he]
    have HE := Lib.hid he
    clear he
    go_enter Try.func24, Try.ntmps24
    go_wp2
    go_loopw [5] (fun i wr => ∃ (k : Nat) , k ≤ l.length ∧ i = .int .i64 k ∧ (∀ j, j < k → at_ l j = at_ m j) ∧ ∃ n, wr = w.drewN n)
      (fun i _ => l.length - (intOf i).toNat)
    case atStart => exact ⟨0, Nat.zero_le _, rfl, fun j hj => absurd hj (by omega), 0, rfl⟩
    case round =>
      obtain ⟨k, hk, rfl, hall, nd, rfl⟩ := hrel
      have HA := Lib.hid hall
      clear hall
      by_cases hlt : k < l.length
      · have hltm : k < m.length := by have := HE.out; omega
        obtain ⟨b, o, rfl, hb, hcell⟩ := hrd.ints (by omega)
        obtain ⟨b2, o2, rfl, hb2, hcell2⟩ := hrd2.ints (by omega)
        have hck := hcell k hlt
        have hck2 := hcell2 k hltm
        have p1 : (k : Int) < (l.length : Int) := by omega
        have p2 : (k : Int) < (m.length : Int) := by omega
        have p3 : (0 : Int) ≤ (k : Int) := by omega
        clear hcell hcell2
        go_wp2
        go_quiet (fail)
        go_wp2
        · have h : (at_ l k != at_ m k) = true := by assumption
          go_ret
          exact ⟨ret_bool (eqL_false.2 (fun e => by rw [e] at h; simp at h)).symm, below_drewN (below_drewN (Below.refl _ _) _) _⟩
        · have h : (at_ l k != at_ m k) = false := by assumption
          go_roundw
          case rel => exact ⟨k + 1, by omega, by go_num, toSucc HA.out (by simpa using h), _, rfl⟩
          case measure => simp [intOf]; omega
      · go_wp2
        go_ret
        exact ⟨ret_bool (eqL_true.2 (list_ext HE.out (fun j hj => HA.out j (by omega)))).symm, below_drewN (Below.refl _ _) _⟩
  · have h1 : ((l.length : Int) != (m.length : Int)) = true := by simp; omega
    go_enter Try.func24, Try.ntmps24
    go_wp2
    go_ret
    exact ⟨ret_bool (eqL_false.2 (fun h => he (by rw [h]))).symm, Below.refl _ _⟩

def interF (a b : List Int) (j : Nat) : Int := if j % 2 = 0 then at_ a (j / 2) else at_ b (j / 2)
def interOk (a b : List Int) : Bool := decide ((a.length = b.length ∨ a.length = b.length + 1) ∧ a.length + b.length ≤ 60)
def inter (a b : List Int) : List Int := if interOk a b = true then gen (interF a b) (a.length + b.length) else []
theorem interOk_true {a b : List Int} : interOk a b = true ↔ (a.length = b.length ∨ a.length = b.length + 1) ∧ a.length + b.length ≤ 60 := by simp [interOk]
theorem inter_yes {a b : List Int} (h : interOk a b = true) : inter a b = gen (interF a b) (a.length + b.length) := by rw [inter, if_pos h]
theorem inter_no {a b : List Int} (h : ¬ interOk a b = true) : inter a b = [] := by rw [inter, if_neg h]
theorem interF_even (a b : List Int) (k : Nat) : interF a b (k + k) = at_ a k := by
  rw [interF, if_pos (by omega)]; congr 1; omega
theorem interF_odd (a b : List Int) (k : Nat) : interF a b (k + k + 1) = at_ b k := by
  rw [interF, if_neg (by omega)]; congr 1; omega
theorem own_step {w : World} {base : Nat} {v : Value} {f : Nat → Int} {n m : Nat} {z : Int} (h : Own w base v (gen f n ++ [z])) (hz : z = f n) (hm : m = n + 1) : Own w base v (gen f m) := by
  subst hm
  rw [gen_succ, ← hz]; exact h

set_option maxHeartbeats 2000000 in
theorem specInter_any (v u : Value) (a b : List Int) (w : World) (hv : Ints w v a) (hu : Ints w u b) (ha : a.length ≤ 4611686018427387904) (hb : b.length ≤ 4611686018427387903) :
    Calls Try.prog 23 #[v, u] w fun e w' => ∃ r, e = .returned (.tuple #[r, .bool (interOk a b)]) ∧ Own w' w.heap.size r (inter a b) ∧ Below w.heap.size w w' := by
  have HV := Lib.hid (And.intro hv hu)
  obtain ⟨i0, hi, hz0, hz1, hz2⟩ := info_parts Try.infoInt
  obtain ⟨A, c, rfl, hlc, hc, hrd⟩ := hv.open_
  obtain ⟨B, d, rfl, hld, hd, hrd2⟩ := hu.open_
  have HR := Lib.hid (And.intro hrd hrd2)
  have OE := Lib.hid (Own.empty w w.heap.size (Nat.le_refl _))
  clear hrd hrd2 hv hu
  by_cases h : interOk a b = true
  · obtain ⟨h1, h2⟩ := interOk_true.1 h
    have HY := Lib.hid (And.intro h (inter_yes h))
    have hab : a.length ≤ b.length + 1 := by omega
    have hba : b.length ≤ a.length := by omega
    clear h
    rcases h1 with h1 | h1
    · have q1 : ((a.length : Int) != (b.length : Int)) = false := by simp [h1]
      clear h1
      go_enter Try.func23, Try.ntmps23
      go_wp2
      go_loopw [6, 7] (fun r i wr => ∃ k : Nat, k ≤ a.length ∧ i = .int .i64 k ∧ Own wr w.heap.size r (gen (interF a b) (k + min k b.length)) ∧ Below w.heap.size w wr)
        (fun _ i _ => a.length - (intOf i).toNat)
      case atStart => exact ⟨0, Nat.zero_le _, rfl, by rw [Nat.zero_min]; exact OE.out, bel_alloc _ _⟩
      case round =>
        obtain ⟨k, hk, rfl, hown, hbel⟩ := hrel
        have hz := hbel.size
        by_cases hlt : k < a.length
        · have hm : min k b.length = k := Nat.min_eq_left (by omega)
          rw [hm] at hown
          clear hm
          obtain ⟨b1, o1, rfl, hb1, hcell⟩ := HR.out.1.ints (by omega)
          have hck : wr.cell? ⟨b1, o1 + k, none⟩ = some (.int .i64 (at_ a k)) := (hbel.cell (by exact hb1)).trans (hcell k hlt)
          have HO := Lib.hid (And.intro hown hbel)
          clear hown hbel hcell
          by_cases hlb : k < b.length
          · obtain ⟨b2, o2, rfl, hb2, hcell2⟩ := HR.out.2.ints (by omega)
            have hc2 := Lib.hid (hcell2 k hlb)
            clear hcell2
            go_wp2_with (first | (at_builtin; refine app_int rfl (.tmp 37) (.tmp 42) (by rfl) w.heap.size _ _ (by rfl) (by exact HO.out.1.bel (bel_alloc _ _)) _ _ (at_ a k) (by rfl) (by exact new_cell _ _ _) (HV.out.1.2.at a k) (by rw [gen_length]; omega) (by simp; omega) ?_; intro v1 w1 ho hg _; have hbl := app_bel (bel_trans HO.out.2 (bel_alloc _ _)) (HO.out.1.bel (bel_alloc _ _)) hg; have hck2 : w1.cell? ⟨b2, o2 + k, none⟩ = some (.int .i64 (at_ b k)) := (hbl.cell (by exact hb2)).trans hc2.out; have ho' := own_step (m := k + k + 1) ho (interF_even a b k).symm rfl; have HP := Lib.hid (And.intro ho' hbl); have hz1 := hbl.size; clear ho hg ho' hbl) | (at_builtin; refine app_int rfl (.tmp 48) (.tmp 53) (by rfl) w.heap.size _ _ (by rfl) (by exact HP.out.1.bel (bel_alloc _ _)) _ _ (at_ b k) (by rfl) (by exact new_cell _ _ _) (HV.out.2.2.at b k) (by rw [gen_length]; omega) (by simp; omega) ?_; intro v2 w2 ho hg _))
            go_roundw
            case rel => exact ⟨k + 1, by omega, by go_num, own_step ho (interF_odd a b k).symm (by rw [Nat.min_eq_left (by omega)]; omega), app_bel (bel_trans HP.out.2 (bel_alloc _ _)) (HP.out.1.bel (bel_alloc _ _)) hg⟩
            case measure => simp [intOf]; omega
          · go_wp2_with (at_builtin; refine app_int rfl (.tmp 37) (.tmp 42) (by rfl) w.heap.size _ _ (by rfl) (by exact HO.out.1.bel (bel_alloc _ _)) _ _ (at_ a k) (by rfl) (by exact new_cell _ _ _) (HV.out.1.2.at a k) (by rw [gen_length]; omega) (by simp; omega) ?_; intro v1 w1 ho hg _)
            go_roundw
            case rel => exact ⟨k + 1, by omega, by go_num, own_step ho (interF_even a b k).symm (by rw [Nat.min_eq_right (by omega)]; omega), app_bel (bel_trans HO.out.2 (bel_alloc _ _)) (HO.out.1.bel (bel_alloc _ _)) hg⟩
            case measure => simp [intOf]; omega
        · have hka : k = a.length := by omega
          rw [hka, Nat.min_eq_right hba] at hown
          have HO := Lib.hid (And.intro hown hbel)
          clear hown hbel hka
          go_wp2
          go_ret2
          rw [HY.out.1, HY.out.2]
          exact ⟨_, rfl, HO.out.1, HO.out.2⟩
    · have q1 : ((a.length : Int) != (b.length : Int)) = true := by simp; omega
      have q2 : ((a.length : Int) != (b.length : Int) + 1) = false := by rw [h1]; simp
      clear h1
      go_enter Try.func23, Try.ntmps23
      go_wp2
      go_loopw [6, 7] (fun r i wr => ∃ k : Nat, k ≤ a.length ∧ i = .int .i64 k ∧ Own wr w.heap.size r (gen (interF a b) (k + min k b.length)) ∧ Below w.heap.size w wr)
        (fun _ i _ => a.length - (intOf i).toNat)
      case atStart => exact ⟨0, Nat.zero_le _, rfl, by rw [Nat.zero_min]; exact OE.out, bel_alloc _ _⟩
      case round =>
        obtain ⟨k, hk, rfl, hown, hbel⟩ := hrel
        have hz := hbel.size
        by_cases hlt : k < a.length
        · have hm : min k b.length = k := Nat.min_eq_left (by omega)
          rw [hm] at hown
          clear hm
          obtain ⟨b1, o1, rfl, hb1, hcell⟩ := HR.out.1.ints (by omega)
          have hck : wr.cell? ⟨b1, o1 + k, none⟩ = some (.int .i64 (at_ a k)) := (hbel.cell (by exact hb1)).trans (hcell k hlt)
          have HO := Lib.hid (And.intro hown hbel)
          clear hown hbel hcell
          by_cases hlb : k < b.length
          · obtain ⟨b2, o2, rfl, hb2, hcell2⟩ := HR.out.2.ints (by omega)
            have hc2 := Lib.hid (hcell2 k hlb)
            clear hcell2
            go_wp2_with (first | (at_builtin; refine app_int rfl (.tmp 37) (.tmp 42) (by rfl) w.heap.size _ _ (by rfl) (by exact HO.out.1.bel (bel_alloc _ _)) _ _ (at_ a k) (by rfl) (by exact new_cell _ _ _) (HV.out.1.2.at a k) (by rw [gen_length]; omega) (by simp; omega) ?_; intro v1 w1 ho hg _; have hbl := app_bel (bel_trans HO.out.2 (bel_alloc _ _)) (HO.out.1.bel (bel_alloc _ _)) hg; have hck2 : w1.cell? ⟨b2, o2 + k, none⟩ = some (.int .i64 (at_ b k)) := (hbl.cell (by exact hb2)).trans hc2.out; have ho' := own_step (m := k + k + 1) ho (interF_even a b k).symm rfl; have HP := Lib.hid (And.intro ho' hbl); have hz1 := hbl.size; clear ho hg ho' hbl) | (at_builtin; refine app_int rfl (.tmp 48) (.tmp 53) (by rfl) w.heap.size _ _ (by rfl) (by exact HP.out.1.bel (bel_alloc _ _)) _ _ (at_ b k) (by rfl) (by exact new_cell _ _ _) (HV.out.2.2.at b k) (by rw [gen_length]; omega) (by simp; omega) ?_; intro v2 w2 ho hg _))
            go_roundw
            case rel => exact ⟨k + 1, by omega, by go_num, own_step ho (interF_odd a b k).symm (by rw [Nat.min_eq_left (by omega)]; omega), app_bel (bel_trans HP.out.2 (bel_alloc _ _)) (HP.out.1.bel (bel_alloc _ _)) hg⟩
            case measure => simp [intOf]; omega
          · go_wp2_with (at_builtin; refine app_int rfl (.tmp 37) (.tmp 42) (by rfl) w.heap.size _ _ (by rfl) (by exact HO.out.1.bel (bel_alloc _ _)) _ _ (at_ a k) (by rfl) (by exact new_cell _ _ _) (HV.out.1.2.at a k) (by rw [gen_length]; omega) (by simp; omega) ?_; intro v1 w1 ho hg _)
            go_roundw
            case rel => exact ⟨k + 1, by omega, by go_num, own_step ho (interF_even a b k).symm (by rw [Nat.min_eq_right (by omega)]; omega), app_bel (bel_trans HO.out.2 (bel_alloc _ _)) (HO.out.1.bel (bel_alloc _ _)) hg⟩
            case measure => simp [intOf]; omega
        · have hka : k = a.length := by omega
          rw [hka, Nat.min_eq_right hba] at hown
          have HO := Lib.hid (And.intro hown hbel)
          clear hown hbel hka
          go_wp2
          go_ret2
          rw [HY.out.1, HY.out.2]
          exact ⟨_, rfl, HO.out.1, HO.out.2⟩
  · have HN := Lib.hid (And.intro (inter_no h) (Bool.eq_false_iff.2 h))
    have h' := fun x => h (interOk_true.2 x)
    clear h
    by_cases h1 : a.length = b.length
    · have q1 : ((a.length : Int) != (b.length : Int)) = false := by simp [h1]
      have q3 : (60 : Int) < (a.length : Int) + (b.length : Int) := by
        have : ¬ (a.length + b.length ≤ 60) := fun x => h' ⟨.inl h1, x⟩
        omega
      clear h1 h'
      go_enter Try.func23, Try.ntmps23
      go_wp2
      go_ret2
      rw [HN.out.1, HN.out.2]
      exact ⟨_, rfl, OE.out, bel_alloc _ _⟩
    · have q1 : ((a.length : Int) != (b.length : Int)) = true := by simp; omega
      by_cases h2 : a.length = b.length + 1
      · have q2 : ((a.length : Int) != (b.length : Int) + 1) = false := by rw [h2]; simp
        have q3 : (60 : Int) < (a.length : Int) + (b.length : Int) := by
          have : ¬ (a.length + b.length ≤ 60) := fun x => h' ⟨.inr h2, x⟩
          omega
        clear h1 h2 h'
        go_enter Try.func23, Try.ntmps23
        go_wp2
        go_ret2
        rw [HN.out.1, HN.out.2]
        exact ⟨_, rfl, OE.out, bel_alloc _ _⟩
      · have q2 : ((a.length : Int) != (b.length : Int) + 1) = true := by simp; omega
        clear h1 h2 h'
        go_enter Try.func23, Try.ntmps23
        go_wp2
        go_ret2
        rw [HN.out.1, HN.out.2]
        exact ⟨_, rfl, OE.out, bel_alloc _ _⟩

end Go.Proofs.Ytplalhehdfkipaa
