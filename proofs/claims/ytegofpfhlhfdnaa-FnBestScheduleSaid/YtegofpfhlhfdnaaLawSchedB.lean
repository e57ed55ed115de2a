/-
  The law FnBestSchedule, walked.
-/
import Derived.Test.YtegofpfhlhfdnaaLawSchedA
namespace Go.Proofs.Ytegofpfhlhfdnaa
open Go.RowKit
set_option linter.unusedVariables false
set_option maxRecDepth 100000

theorem names_app {l : List Int} {e x : Int} (h : namesOk l e = true) (h0 : 0 ≤ x) (h1 : x < e) : namesOk (l ++ [x]) e = true := by
  unfold namesOk at h ⊢
  rw [List.all_append, h]
  simp [inB]
  omega
theorem Ints.open2 {w : World} {A : Option Addr} {c : Nat} {l : List Int} (h : Ints w (.slice A l.length c) l) (hl : 0 < l.length) :
    ∃ b o, A = some ⟨b, o, none⟩ ∧ b < w.heap.size ∧ ∀ k, k < l.length → w.cell? ⟨b, o + k, none⟩ = some (.int .i64 (at_ l k)) := by
  obtain ⟨A', c', e, h1, h2, h3⟩ := h.open_
  injection e with e1 _ _
  subst e1
  exact h3.ints hl

set_option maxHeartbeats 1500000 in
theorem lawBest (v u : Value) (code more : List Int) (w : World) (hv : Bytes w v code) (hu : Bytes w u more) :
    Calls Try.prog 8 #[v, u] w fun e w' => e = .returned (.bool true) ∧ Below w.heap.size w w' := by
  have HV := Lib.hid hv
  have HU := Lib.hid hu
  obtain ⟨A, c, rfl, hlc, hc, hrd⟩ := hv.open_
  obtain ⟨B, d, rfl, hld, hd, hrdB⟩ := hu.open_
  clear hrd hv hu
  by_cases hbig : (1048576 : Int) < (code.length : Int)
  · go_enter Try.func8, Try.ntmps8
    go_wp2
    go_ret
    exact ⟨rfl, Below.refl _ _⟩
  by_cases hbig2 : (1048576 : Int) < (more.length : Int)
  · go_enter Try.func8, Try.ntmps8
    go_wp2
    go_ret
    exact ⟨rfl, Below.refl _ _⟩
  · go_enter Try.func8, Try.ntmps8
    go_wp2_with fail
    refine (drawBest_any _ _ _ HV.out).mono ?_; rintro e w1 ⟨va, t, n, rfl, ha, la, n0, n1, b1⟩
    have H1 := Lib.hid (And.intro ha b1)
    have hes := eqL_self (best t n)
    obtain ⟨A1, c1, rfl, hlc1, hc1, hrd1⟩ := ha.open_
    clear ha b1 hrd1
    go_wp2_with fail
    refine (implBest_any _ _ _ _ H1.out.1 (by omega)).mono ?_; rintro e w2 ⟨r2, rfl, o2, b2⟩
    have H2 := Lib.hid (And.intro (H1.out.1.bel b2) (And.intro o2 (bel_trans H1.out.2 b2)))
    obtain ⟨A2, c2, rfl, hlc2, hc2, hrd2⟩ := o2.ints.open_
    clear o2 b2 hrd2
    go_wp2_with fail
    refine (specBest_any _ _ _ _ H2.out.1 (by omega)).mono ?_; rintro e w3 ⟨r3, rfl, o3, b3⟩
    have H3 := Lib.hid (And.intro (H2.out.1.bel b3) (And.intro (H2.out.2.1.bel b3) (And.intro o3 (bel_trans H2.out.2.2 b3))))
    clear o3 b3
    go_wp2_with fail
    refine (deInts_any _ _ _ _ _ H3.out.2.1.ints H3.out.2.2.1.ints).mono ?_; rintro e w4 ⟨rfl, b4⟩
    have H4 := Lib.hid (And.intro (H3.out.1.bel b4) (And.intro (H3.out.2.1.bel b4) (bel_trans H3.out.2.2.2 b4)))
    clear b4 H1 H2 H3
    go_wp2_with fail
    refine (implTimes_any _ _ _ H4.out.1).mono ?_; rintro e w5 ⟨rfl, rfl⟩
    by_cases hok : timesOk t = true ∧ 1 ≤ n ∧ n ≤ 3
    · obtain ⟨k1, k2, k3⟩ := hok
      have hs := schedOk_intro k1 k2 k3
      obtain ⟨k, rfl⟩ : ∃ k : Nat, n = k := ⟨n.toNat, by omega⟩
      obtain ⟨m, s, e1, e2, e4, p1, p2, e3, p3⟩ := best_law hs
      have h8 := (schedOk_true hs).1
      have HS := Lib.hid hs
      have E1 := Lib.hid e1
      have E2 := Lib.hid e2
      have E3 := Lib.hid e3
      have E4 := Lib.hid e4
      have P2 := Lib.hid p2
      have P3 := Lib.hid p3
      clear e1 e2 e3 e4 hs p2 p3
      go_wp2_with fail
      refine (implSpan_any _ _ _ _ _ _ H4.out.1 H4.out.2.1.ints (by omega)).mono ?_
      rw [E1.out]
      rintro e w6 ⟨rfl, b6⟩
      have H6 := Lib.hid (And.intro (H4.out.1.bel b6) (And.intro (H4.out.2.1.bel b6) (bel_trans H4.out.2.2 b6)))
      have hz := (bel_trans H4.out.2.2 b6).size
      clear b6 H4
      have OE := Lib.hid (Own.empty w6 w6.heap.size (Nat.le_refl _))
      go_wp2_with fail
      go_loopw [9, 10] (fun r i wr => ∃ (j : Nat) (l : List Int), j ≤ t.length ∧ i = .int .i64 j ∧ l.length = j ∧ namesOk l (k : Int) = true ∧ Own wr w6.heap.size r l ∧ Below w6.heap.size w6 wr)
        (fun _ i _ => t.length - (intOf i).toNat)
      case atStart => exact ⟨0, [], Nat.zero_le _, rfl, rfl, rfl, OE.out, bel_alloc _ _⟩
      case round =>
        obtain ⟨j, l, hj, rfl, hl, hnm, ho, hb⟩ := hrel
        have H7 := Lib.hid (And.intro hnm (And.intro ho hb))
        have HL := Lib.hid hl
        have hz7 := hb.size
        clear hnm ho hb OE hl
        by_cases hlt : j < t.length
        · by_cases hm0 : (0 : Int) < (more.length : Int)
          · obtain ⟨b, o, rfl, hb, hcell⟩ := hrdB.bytes (by omega)
            have hq : j % more.length < more.length := Nat.mod_lt _ (by omega)
            have hck : wr.cell? ⟨b, o + j % more.length, none⟩ = some (.int .u8 (at_ more (j % more.length))) := ((bel_trans H6.out.2.2 H7.out.2.2).cell (by exact hb)).trans (hcell _ hq)
            have hby := HU.out.at (j % more.length)
            have m1 := Int.emod_nonneg (at_ more (j % more.length) + (j : Int)) (show (k : Int) ≠ 0 by omega)
            have m2 := Int.emod_lt_of_pos (at_ more (j % more.length) + (j : Int)) (show (0 : Int) < k by omega)
            clear hcell
            go_wp2_with (at_builtin; refine app_int rfl (.tmp 77) (.tmp 81) (by rfl) w6.heap.size u9 _ (by rfl) (by exact H7.out.2.1.bel (bel_alloc _ _)) _ _ ((at_ more (j % more.length) + (j : Int)) % (k : Int)) (by rfl) (by exact new_cell _ _ _) (by omega) (by rw [HL.out]; omega) (by simp; omega) ?_; intro v5 w5 ho hg _)
            have H8 := Lib.hid (And.intro ho (app_bel (H7.out.2.2.alloc hz7 _) (H7.out.2.1.bel (bel_alloc _ _)) hg))
            clear ho hg
            go_roundw
            case rel => exact ⟨j + 1, _, by omega, by go_num, by simp; exact HL.out, names_app H7.out.1 (by omega) (by omega), H8.out.1, H8.out.2⟩
            case measure => simp [intOf]; omega
          · have m1 := Int.emod_nonneg (j : Int) (show (k : Int) ≠ 0 by omega)
            have m2 := Int.emod_lt_of_pos (j : Int) (show (0 : Int) < k by omega)
            go_wp2_with (at_builtin; refine app_int rfl (.tmp 77) (.tmp 81) (by rfl) w6.heap.size u9 _ (by rfl) (by exact H7.out.2.1.bel (bel_alloc _ _)) _ _ ((j : Int) % (k : Int)) (by rfl) (by exact new_cell _ _ _) (by omega) (by rw [HL.out]; omega) (by simp; omega) ?_; intro v5 w5 ho hg _)
            have H8 := Lib.hid (And.intro ho (app_bel (H7.out.2.2.alloc hz7 _) (H7.out.2.1.bel (bel_alloc _ _)) hg))
            clear ho hg
            go_roundw
            case rel => exact ⟨j + 1, _, by omega, by go_num, by simp; exact HL.out, names_app H7.out.1 (by omega) (by omega), H8.out.1, H8.out.2⟩
            case measure => simp [intOf]; omega
        · have hjt : j = t.length := by omega
          subst hjt
          have hge := P2.out l HL.out H7.out.1
          have HG := Lib.hid hge
          obtain ⟨B7, d7, rfl, hld7, hd7, hrd7⟩ := H7.out.2.1.ints.open_
          have H9 := Lib.hid (And.intro (H6.out.1.bel H7.out.2.2) (And.intro (H6.out.2.1.bel H7.out.2.2) (And.intro H7.out.2.1 (bel_trans H6.out.2.2 H7.out.2.2))))
          clear H6 H7 hge hrd7
          go_wp2_with fail
          refine (implLeast_any _ _ _ _ H9.out.1 (by omega)).mono ?_
          rw [E2.out]
          rintro e wa ⟨rfl, ba⟩
          have HA := Lib.hid (And.intro (H9.out.1.bel ba) (And.intro (H9.out.2.1.bel ba) (And.intro (H9.out.2.2.1.bel ba) (bel_trans H9.out.2.2.2 ba))))
          clear ba H9
          go_wp2_with fail
          refine (implSpan_any _ _ _ _ _ _ HA.out.1 HA.out.2.2.1.ints (by omega)).mono ?_
          obtain ⟨s2, hs2⟩ : ∃ s2, s2 = spanOf t l k := ⟨_, rfl⟩
          rw [← hs2]
          have hge2 : m ≤ s2 := by rw [hs2]; exact HG.out
          clear hs2
          rintro e wb ⟨rfl, bb⟩
          have HB := Lib.hid (And.intro (HA.out.1.bel bb) (And.intro (HA.out.2.1.bel bb) (bel_trans HA.out.2.2.2 bb)))
          clear bb HA
          go_wp2_with fail
          refine (implGreedy_any _ _ _ _ HB.out.1 (by omega)).mono ?_
          rintro e wc ⟨rg, rfl, og, bc⟩
          have HC := Lib.hid (And.intro (HB.out.1.bel bc) (And.intro (HB.out.2.1.bel bc) (And.intro og (bel_trans HB.out.2.2 bc))))
          clear og bc HB
          go_wp2_with fail
          refine (implSpan_any _ _ _ _ _ _ HC.out.1 HC.out.2.2.1.ints (by omega)).mono ?_
          rw [E4.out]
          rintro e wd ⟨rfl, bd⟩
          have HD := Lib.hid (And.intro (HC.out.2.1.bel bd) (bel_trans HC.out.2.2.2 bd))
          clear bd HC
          by_cases hn0 : (best t k).length = 0
          · go_wp2
            go_ret
            exact ⟨ret_bool (by first | rfl | simp_all), HD.out.2⟩
          · have hp : 0 < (best t k).length := by omega
            have h0 := P3.out (by have := E3.out; omega)
            obtain ⟨b7, o7, rfl, hb7, hc7⟩ := HD.out.1.ints.open2 hp
            have hc70 : wd.cell? ⟨b7, o7, none⟩ = some (.int .i64 0) := by have := hc7 0 hp; rw [h0] at this; exact this
            clear hc7 h0
            go_wp2
            go_ret
            exact ⟨ret_bool (by first | rfl | simp_all), HD.out.2⟩
    · have HN : timesOk t = false ∨ n < 1 ∨ 3 < n := by
        cases h : timesOk t
        · exact .inl rfl
        · simp [h] at hok
          omega
      cases ht : timesOk t
      all_goals
        by_cases hn1 : n < 1
        all_goals
          by_cases hn3 : 3 < n
          all_goals
            first
            | (exfalso; rw [ht] at HN; simp at HN; omega)
            | (go_wp2_with fail
               refine (specBest_any _ _ _ _ H4.out.1 (by omega)).mono ?_; rintro e w6 ⟨r6, rfl, o6, b6⟩
               have H6 := Lib.hid (And.intro (H4.out.2.1.bel b6) (And.intro o6 (bel_trans H4.out.2.2 b6)))
               clear o6 b6
               go_wp2_with fail
               refine (deInts_any _ _ _ _ _ H6.out.1.ints H6.out.2.1.ints).mono ?_; rintro e w7 ⟨rfl, b7⟩
               go_wp2
               go_ret
               exact ⟨rfl, bel_trans H6.out.2.2 b7⟩)
theorem lawBestF (v : Value) (code : List Int) (u : Value) (more : List Int) (w : World) (hv : Bytes w v code) (hu : Bytes w u more) :
    Calls Try.prog 8 #[v, u] w fun e w' => e = .returned (.bool true) ∧ Below w.heap.size w w' := lawBest v u code more w hv hu

end Go.Proofs.Ytegofpfhlhfdnaa
