/-
  Contracts of Vote and FaultyOne and what they call.
-/
import Derived.Test.YtegofpfhlhfdnaaInts
import Derived.Test.YtegofpfhlhfdnaaTable
namespace Go.Proofs.Ytegofpfhlhfdnaa
open Go.RowKit
set_option linter.unusedVariables false

set_option maxHeartbeats 400000 in
theorem slicesEqual_any (v u : Value) (l m : List Int) (w : World) (hv : Ints w v l) (hu : Ints w u m) :
    Calls Try.prog 76 #[v, u] w fun e w' => e = .returned (.bool (eqL l m)) ∧ Below w.heap.size w w' := by
  obtain ⟨A, c, rfl, hlc, hc, hrd⟩ := hv.open_
  obtain ⟨B, d, rfl, hld, hd, hrd2⟩ := hu.open_
  by_cases he : l.length = m.length
  · have h1 : ((l.length : Int) != (m.length : Int)) = false := by simp [he]
    have HE := Lib.hid he
    clear he
    go_enter Try.func76, Try.ntmps76
    go_wp2
    go_loopw [13] (fun i wr => ∃ (k : Nat) , k ≤ l.length ∧ i = .int .i64 k ∧ (∀ j, j < k → at_ l j = at_ m j) ∧ ∃ n, wr = w.drewN n)
      (fun i _ => l.length - (intOf i).toNat)
    case atStart => exact ⟨0, Nat.zero_le _, rfl, fun j hj => absurd hj (by omega), 0, rfl⟩
    case round =>
      obtain ⟨k, hk, rfl, hall, nd, rfl⟩ := hrel
      have HA := Lib.hid hall
      clear hall
      by_cases hlt : k < l.length
      · have hltm : k < m.length := by have := HE.out; omega
        obtain ⟨b, o, rfl, hb, hcell⟩ := hrd.ints (by omega)
        obtain ⟨b2, o2, rfl, hb2, hcell2⟩ := hrd2.ints (by omega)
        have hck := hcell k hlt
        have hck2 := hcell2 k hltm
        have p1 : (k : Int) < (l.length : Int) := by omega
        have p2 : (k : Int) < (m.length : Int) := by omega
        have p3 : (0 : Int) ≤ (k : Int) := by omega
        clear hcell hcell2
        go_wp2
        go_quiet (fail)
        go_wp2
        · have h : (at_ l k != at_ m k) = true := by assumption
          go_ret
          exact ⟨ret_bool (eqL_false.2 (fun e => by rw [e] at h; simp at h)).symm, below_drewN (below_drewN (Below.refl _ _) _) _⟩
        · have h : (at_ l k != at_ m k) = false := by assumption
          go_roundw
          case rel => exact ⟨k + 1, by omega, by go_num, toSucc HA.out (by simpa using h), _, rfl⟩
          case measure => simp [intOf]; omega
      · go_wp2
        go_ret
        exact ⟨ret_bool (eqL_true.2 (list_ext HE.out (fun j hj => HA.out j (by omega)))).symm, below_drewN (Below.refl _ _) _⟩
  · have h1 : ((l.length : Int) != (m.length : Int)) = true := by simp; omega
    go_enter Try.func76, Try.ntmps76
    go_wp2
    go_ret
    exact ⟨ret_bool (eqL_false.2 (fun h => he (by rw [h]))).symm, Below.refl _ _⟩

set_option maxHeartbeats 400000 in
theorem l4Wrong_any (v u : Value) (l m : List Int) (w : World) (hv : Ints w v l) (hu : Ints w u m) (he : l.length = m.length) :
    Calls Try.prog 78 #[v, u] w fun e w' => ∃ r : Int, e = .returned (.int .i64 r) ∧ decide (r < 0) = eqL l m ∧ Below w.heap.size w w' := by
  obtain ⟨A, c, rfl, hlc, hc, hrd⟩ := hv.open_
  obtain ⟨B, d, rfl, hld, hd, hrd2⟩ := hu.open_
  have HE := Lib.hid he
  clear he
  go_enter Try.func78, Try.ntmps78
  go_wp2
  go_loopw [5] (fun i wr => ∃ (k : Nat) , k ≤ l.length ∧ i = .int .i64 k ∧ (∀ j, j < k → at_ l j = at_ m j) ∧ ∃ n, wr = w.drewN n)
    (fun i _ => l.length - (intOf i).toNat)
  case atStart => exact ⟨0, Nat.zero_le _, rfl, fun j hj => absurd hj (by omega), 0, rfl⟩
  case round =>
    obtain ⟨k, hk, rfl, hall, nd, rfl⟩ := hrel
    have HA := Lib.hid hall
    clear hall
    by_cases hlt : k < l.length
    · have hltm : k < m.length := by have := HE.out; omega
      obtain ⟨b, o, rfl, hb, hcell⟩ := hrd.ints (by omega)
      obtain ⟨b2, o2, rfl, hb2, hcell2⟩ := hrd2.ints (by omega)
      have hck := hcell k hlt
      have hck2 := hcell2 k hltm
      have p1 : (k : Int) < (l.length : Int) := by omega
      have p2 : (k : Int) < (m.length : Int) := by omega
      have p3 : (0 : Int) ≤ (k : Int) := by omega
      clear hcell hcell2
      go_wp2
      go_quiet (fail)
      go_wp2
      · have h : (at_ l k != at_ m k) = true := by assumption
        go_ret
        exact ⟨k, rfl, by rw [eqL_false.2 (fun e => by rw [e] at h; simp at h)]; simp, below_drewN (below_drewN (Below.refl _ _) _) _⟩
      · have h : (at_ l k != at_ m k) = false := by assumption
        go_roundw
        case rel => exact ⟨k + 1, by omega, by go_num, toSucc HA.out (by simpa using h), _, rfl⟩
        case measure => simp [intOf]; omega
    · go_wp2
      go_ret
      exact ⟨-1, rfl, by rw [eqL_true.2 (list_ext HE.out (fun j hj => HA.out j (by omega)))]; simp, below_drewN (Below.refl _ _) _⟩

def alikeOk (a b : List Int) : Bool := tableOk a && tableOk b && decide (a.length = b.length)
def threeOk (a b c : List Int) : Bool := alikeOk a b && alikeOk a c
theorem alikeOk_true {a b : List Int} (h : alikeOk a b = true) : tableOk a = true ∧ tableOk b = true ∧ a.length = b.length := by
  simp only [alikeOk, Bool.and_eq_true, decide_eq_true_eq] at h; exact ⟨h.1.1, h.1.2, h.2⟩
theorem threeOk_true {a b c : List Int} (h : threeOk a b c = true) : tableOk a = true ∧ tableOk b = true ∧ tableOk c = true ∧ a.length = b.length ∧ a.length = c.length := by
  simp only [threeOk, Bool.and_eq_true] at h
  obtain ⟨h1, h2, h3⟩ := alikeOk_true h.1
  obtain ⟨h4, h5, h6⟩ := alikeOk_true h.2
  exact ⟨h1, h2, h5, h3, h6⟩

set_option maxHeartbeats 400000 in
theorem alike_any (v u : Value) (l m : List Int) (w : World) (hv : Ints w v l) (hu : Ints w u m) :
    Calls Try.prog 75 #[v, u] w fun e w' => e = .returned (.bool (alikeOk l m)) ∧ w = w' := by
  have hv' := hv
  have hu' := hu
  obtain ⟨A, c, rfl, hlc, hc, hrd⟩ := hv.open_
  obtain ⟨B, d, rfl, hld, hd, hrd2⟩ := hu.open_
  clear hrd hrd2 hv hu
  by_cases h1 : tableOk l = true <;> by_cases h2 : tableOk m = true <;> by_cases h3 : ((l.length : Int) == (m.length : Int)) = true
  all_goals
    go_enter Try.func75, Try.ntmps75
    go_wp2_with (go_at_call 121; refine (implTable_any _ _ _ (by assumption)).mono ?_; rintro e w' ⟨rfl, rfl⟩)
    go_ret
    exact ⟨ret_bool (by simp_all [alikeOk]; try omega), rfl⟩

set_option maxHeartbeats 400000 in
theorem three_any (v u t : Value) (l m n : List Int) (w : World) (hv : Ints w v l) (hu : Ints w u m) (ht : Ints w t n) :
    Calls Try.prog 77 #[v, u, t] w fun e w' => e = .returned (.bool (threeOk l m n)) ∧ w = w' := by
  have hv' := hv
  have hu' := hu
  have ht' := ht
  obtain ⟨A, c, rfl, hlc, hc, hrd⟩ := hv.open_
  obtain ⟨B, d, rfl, hld, hd, hrd2⟩ := hu.open_
  obtain ⟨C, f, rfl, hlf, hf, hrd3⟩ := ht.open_
  clear hrd hrd2 hv hu ht hrd3
  by_cases h1 : tableOk l = true
  · by_cases h2 : tableOk m = true
    · by_cases h3 : tableOk n = true
      · have R := Lib.hid (show threeOk l m n = (((l.length : Int) == (m.length : Int)) && ((l.length : Int) == (n.length : Int))) from by
          rw [nat_beq, nat_beq, threeOk, alikeOk, alikeOk, h1, h2, h3]; rfl)
        cases h4 : ((l.length : Int) == (m.length : Int)) <;> cases h5 : ((l.length : Int) == (n.length : Int))
        all_goals
          go_enter Try.func77, Try.ntmps77
          go_wp2_with (go_at_call 122; refine (specTable_any _ _ _ (by assumption)).mono ?_; rintro e w' ⟨rfl, rfl⟩)
          go_ret
          exact ⟨ret_bool (by rw [R.out, h4, h5]; rfl), rfl⟩
      · go_enter Try.func77, Try.ntmps77
        go_wp2_with (go_at_call 122; refine (specTable_any _ _ _ (by assumption)).mono ?_; rintro e w' ⟨rfl, rfl⟩)
        go_ret
        exact ⟨ret_bool (by simp_all [threeOk, alikeOk]), rfl⟩
    · go_enter Try.func77, Try.ntmps77
      go_wp2_with (go_at_call 122; refine (specTable_any _ _ _ (by assumption)).mono ?_; rintro e w' ⟨rfl, rfl⟩)
      go_ret
      exact ⟨ret_bool (by simp_all [threeOk, alikeOk]), rfl⟩
  · go_enter Try.func77, Try.ntmps77
    go_wp2_with (go_at_call 122; refine (specTable_any _ _ _ (by assumption)).mono ?_; rintro e w' ⟨rfl, rfl⟩)
    go_ret
    exact ⟨ret_bool (by simp_all [threeOk, alikeOk]), rfl⟩

def faulty (a b c : List Int) : Int :=
  if threeOk a b c = true then (if eqL a b = true then (if eqL a c = true then -1 else 2) else if eqL a c = true then 1 else if eqL b c = true then 0 else -2) else -3
theorem faulty_cases {a b c : List Int} (h : threeOk a b c = true) :
    (eqL a b = true ∧ eqL a c = true ∧ eqL b c = true ∧ faulty a b c = -1) ∨ (eqL a b = true ∧ eqL a c = false ∧ eqL b c = false ∧ faulty a b c = 2) ∨
    (eqL a b = false ∧ eqL a c = true ∧ eqL b c = false ∧ faulty a b c = 1) ∨ (eqL a b = false ∧ eqL a c = false ∧ eqL b c = true ∧ faulty a b c = 0) ∨
    (eqL a b = false ∧ eqL a c = false ∧ eqL b c = false ∧ faulty a b c = -2) := by
  by_cases h1 : a = b
  · subst h1
    by_cases h2 : a = c
    · subst h2; simp [faulty, h, eqL]
    · simp [faulty, h, eqL, h2]
  · by_cases h2 : a = c
    · subst h2
      have h3 : ¬ b = a := fun e => h1 e.symm
      simp [faulty, h, eqL, h1, h3]
    · by_cases h3 : b = c
      · subst h3; simp [faulty, h, eqL, h1]
      · simp [faulty, h, eqL, h1, h2, h3]

set_option maxHeartbeats 400000 in
theorem implFaulty_any (v u t : Value) (l m n : List Int) (w : World) (hv : Ints w v l) (hu : Ints w u m) (ht : Ints w t n) :
    Calls Try.prog 27 #[v, u, t] w fun e w' => e = .returned (.int .i64 (faulty l m n)) ∧ Below w.heap.size w w' := by
  by_cases h : threeOk l m n = true
  · have h' := h
    simp only [threeOk, Bool.and_eq_true] at h'
    obtain ⟨a1, a2⟩ := h'
    rcases faulty_cases h with ⟨h1, h2, h3, hf⟩ | ⟨h1, h2, h3, hf⟩ | ⟨h1, h2, h3, hf⟩ | ⟨h1, h2, h3, hf⟩ | ⟨h1, h2, h3, hf⟩
    all_goals
      have HF := Lib.hid hf
      clear hf h
      go_enter Try.func27, Try.ntmps27
      go_wp2_with fail
      refine (alike_any _ _ _ _ _ hv hu).mono ?_; rintro e w' ⟨rfl, rfl⟩
      go_wp2_with fail
      refine (alike_any _ _ _ _ _ hv ht).mono ?_; rintro e w' ⟨rfl, rfl⟩
      go_wp2_with fail
      refine (slicesEqual_any _ _ _ _ _ hv hu).mono ?_; rintro e w1 ⟨rfl, b1⟩
      go_wp2_with fail
      refine (slicesEqual_any _ _ _ _ _ (hv.bel b1) (ht.bel b1)).mono ?_; rintro e w2 ⟨rfl, b2⟩
      go_wp2_with fail
    · go_ret
      exact ⟨ret_int HF.out.symm, bel_trans b1 b2⟩
    · go_ret
      exact ⟨ret_int HF.out.symm, bel_trans b1 b2⟩
    · go_ret
      exact ⟨ret_int HF.out.symm, bel_trans b1 b2⟩
    all_goals
      refine (slicesEqual_any _ _ _ _ _ ((hu.bel b1).bel b2) ((ht.bel b1).bel b2)).mono ?_; rintro e w3 ⟨rfl, b3⟩
      go_wp2_with fail
      go_ret
      exact ⟨ret_int HF.out.symm, bel_trans (bel_trans b1 b2) b3⟩
  · have HF := Lib.hid (show faulty l m n = -3 from by simp [faulty, h])
    simp only [threeOk, Bool.and_eq_true, not_and, Bool.not_eq_true] at h
    by_cases a1 : alikeOk l m = true
    · have a2 := h a1
      go_enter Try.func27, Try.ntmps27
      go_wp2_with fail
      refine (alike_any _ _ _ _ _ hv hu).mono ?_; rintro e w' ⟨rfl, rfl⟩
      go_wp2_with fail
      refine (alike_any _ _ _ _ _ hv ht).mono ?_; rintro e w' ⟨rfl, rfl⟩
      go_wp2_with fail
      go_ret
      exact ⟨ret_int HF.out.symm, Below.refl _ _⟩
    · go_enter Try.func27, Try.ntmps27
      go_wp2_with fail
      refine (alike_any _ _ _ _ _ hv hu).mono ?_; rintro e w' ⟨rfl, rfl⟩
      go_wp2_with fail
      go_ret
      exact ⟨ret_int HF.out.symm, Below.refl _ _⟩

set_option maxHeartbeats 400000 in
theorem specFaulty_any (v u t : Value) (l m n : List Int) (w : World) (hv : Ints w v l) (hu : Ints w u m) (ht : Ints w t n) :
    Calls Try.prog 28 #[v, u, t] w fun e w' => e = .returned (.int .i64 (faulty l m n)) ∧ Below w.heap.size w w' := by
  by_cases h : threeOk l m n = true
  · obtain ⟨_, _, _, q1, q2⟩ := threeOk_true h
    have Q := Lib.hid (And.intro q1 q2)
    clear q1 q2
    rcases faulty_cases h with ⟨h1, h2, h3, hf⟩ | ⟨h1, h2, h3, hf⟩ | ⟨h1, h2, h3, hf⟩ | ⟨h1, h2, h3, hf⟩ | ⟨h1, h2, h3, hf⟩
    all_goals
      have HF := Lib.hid hf
      clear hf
      go_enter Try.func28, Try.ntmps28
      go_wp2_with fail
      refine (three_any _ _ _ _ _ _ _ hv hu ht).mono ?_; rintro e w' ⟨rfl, rfl⟩
      go_wp2_with fail
      refine (l4Wrong_any _ _ _ _ _ hv hu Q.out.1).mono ?_; rintro e w1 ⟨r1, rfl, d1, b1⟩
      rw [h1] at d1
      go_wp2_with fail
      refine (l4Wrong_any _ _ _ _ _ (hv.bel b1) (ht.bel b1) Q.out.2).mono ?_; rintro e w2 ⟨r2, rfl, d2, b2⟩
      rw [h2] at d2
      go_wp2_with fail
      refine (l4Wrong_any _ _ _ _ _ ((hu.bel b1).bel b2) ((ht.bel b1).bel b2) (Q.out.1.symm.trans Q.out.2)).mono ?_; rintro e w3 ⟨r3, rfl, d3, b3⟩
      rw [h3] at d3
      go_wp2_with fail
      go_ret
      exact ⟨ret_int HF.out.symm, bel_trans (bel_trans b1 b2) b3⟩
  · have HF := Lib.hid (show faulty l m n = -3 from by simp [faulty, h])
    go_enter Try.func28, Try.ntmps28
    go_wp2_with fail
    refine (three_any _ _ _ _ _ _ _ hv hu ht).mono ?_; rintro e w' ⟨rfl, rfl⟩
    go_wp2_with fail
    go_ret
    exact ⟨ret_int HF.out.symm, Below.refl _ _⟩

end Go.Proofs.Ytegofpfhlhfdnaa
