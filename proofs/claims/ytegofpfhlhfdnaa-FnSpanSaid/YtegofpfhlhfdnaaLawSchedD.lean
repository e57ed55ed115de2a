/-
  The law FnSpan, walked.
-/
import Derived.Test.YtegofpfhlhfdnaaLawSchedC
import Derived.Test.YtegofpfhlhfdnaaDrawT
namespace Go.Proofs.Ytegofpfhlhfdnaa
open Go.RowKit
set_option linter.unusedVariables false
set_option maxRecDepth 100000

theorem span_no {t g : List Int} {e : Int} (h : spanOk t g e = false) : spanOf t g e = -1 := by simp [spanOf, h]
theorem spanOk_true {t g : List Int} {e : Int} (h : spanOk t g e = true) : schedOk t e = true ∧ g.length = t.length ∧ namesOk g e = true := by
  simp only [spanOk, Bool.and_eq_true, decide_eq_true_eq] at h
  exact ⟨h.1.1, h.1.2, h.2⟩
/-- Has the span been found among the first k engines? -/
def foundTo (t g : List Int) (s : Int) (k : Nat) : Bool := s == 0 || (List.range k).any fun j => load t g j t.length == s
theorem foundTo_zero (t g : List Int) (s : Int) : foundTo t g s 0 = (s == 0) := by simp [foundTo]
theorem foundTo_succ (t g : List Int) (s : Int) (k : Nat) : foundTo t g s (k + 1) = (foundTo t g s k || load t g k t.length == s) := by
  simp [foundTo, List.range_succ, Bool.or_assoc]
theorem foundTo_yes {t g : List Int} {s : Int} {k : Nat} (h : s = 0 ∨ ∃ j, j < k ∧ load t g j t.length = s) : foundTo t g s k = true := by
  rcases h with h | ⟨j, hj, h⟩
  · simp [foundTo, h]
  · simp only [foundTo, Bool.or_eq_true, List.any_eq_true, List.mem_range, beq_iff_eq]
    exact .inr ⟨j, hj, h⟩

set_option maxHeartbeats 1500000 in
theorem lawSpan (v : Value) (code : List Int) (w : World) (hv : Bytes w v code) :
    Calls Try.prog 3 #[v] w fun e w' => e = .returned (.bool true) ∧ Below w.heap.size w w' := by
  have HV := Lib.hid hv
  obtain ⟨A, c, rfl, hlc, hc, hrd⟩ := hv.open_
  clear hrd hv
  by_cases hbig : (1048576 : Int) < (code.length : Int)
  · go_enter Try.func3, Try.ntmps3
    go_wp2
    go_ret
    exact ⟨rfl, Below.refl _ _⟩
  · go_enter Try.func3, Try.ntmps3
    go_wp2_with fail
    refine (drawSpan_any _ _ _ HV.out).mono ?_; rintro e w1 ⟨va, vg, t, g, n, rfl, ha, hg, la, lg, n0, n1, b1⟩
    have H1 := Lib.hid (And.intro ha (And.intro hg b1))
    obtain ⟨A1, c1, rfl, hlc1, hc1, hrd1⟩ := ha.open_
    obtain ⟨A2, c2, rfl, hlc2, hc2, hrd2⟩ := hg.open_
    clear ha b1 hrd1 hrd2 hg
    cases hs : spanOk t g n
    · have EN := Lib.hid (span_no hs)
      go_wp2_with fail
      refine (implSpan_any _ _ _ _ _ _ H1.out.1 H1.out.2.1 (by omega)).mono ?_
      rw [EN.out]
      rintro e w2 ⟨rfl, b2⟩
      have H2 := Lib.hid (And.intro (H1.out.1.bel b2) (And.intro (H1.out.2.1.bel b2) (bel_trans H1.out.2.2 b2)))
      clear b2
      go_wp2_with fail
      refine (specSpan_any _ _ _ _ _ _ H2.out.1 H2.out.2.1 (by omega)).mono ?_
      rw [EN.out]
      rintro e w3 ⟨rfl, b3⟩
      have H3 := Lib.hid (And.intro (H2.out.1.bel b3) (And.intro (H2.out.2.1.bel b3) (bel_trans H2.out.2.2 b3)))
      clear b3
      go_wp2_with fail
      refine (specSpan_any _ _ _ _ _ _ H3.out.1 H3.out.2.1 (by omega)).mono ?_
      rw [EN.out]
      rintro e w4 ⟨rfl, b4⟩
      go_wp2
      go_ret
      exact ⟨rfl, bel_trans H3.out.2.2 b4⟩
    · obtain ⟨q1, q2, q3⟩ := spanOk_true hs
      obtain ⟨k, rfl⟩ : ∃ k : Nat, n = k := ⟨n.toNat, by have := (schedOk_true q1).2.1; omega⟩
      obtain ⟨s, m, e1, e2, p1, p2, p3, p4, p5, p6⟩ := span_law q1 q2 q3
      obtain ⟨h8, k1, k3, ht⟩ := schedOk_true q1
      have HT := Lib.hid ht
      have E1 := Lib.hid e1
      have E2 := Lib.hid e2
      have HG := Lib.hid q2
      have P := Lib.hid (And.intro p4 (And.intro p5 p6))
      clear e1 e2 hs ht q1 q2 q3 p4 p5 p6
      go_wp2_with fail
      refine (implSpan_any _ _ _ _ _ _ H1.out.1 H1.out.2.1 (by omega)).mono ?_
      rw [E1.out]
      rintro e w2 ⟨rfl, b2⟩
      have H2 := Lib.hid (And.intro (H1.out.1.bel b2) (And.intro (H1.out.2.1.bel b2) (bel_trans H1.out.2.2 b2)))
      clear b2
      go_wp2_with fail
      refine (specSpan_any _ _ _ _ _ _ H2.out.1 H2.out.2.1 (by omega)).mono ?_
      rw [E1.out]
      rintro e w3 ⟨rfl, b3⟩
      have H3 := Lib.hid (And.intro (H2.out.1.bel b3) (And.intro (H2.out.2.1.bel b3) (bel_trans H2.out.2.2 b3)))
      clear b3 H2 H1
      have qk : 0 ≤ s * (k : Int) ∧ s * (k : Int) ≤ 24000 := by
        have hk : k = 1 ∨ k = 2 ∨ k = 3 := by omega
        rcases hk with rfl | rfl | rfl <;> simp <;> omega
      go_wp2_with fail
      go_loopw [7, 8, 9] (fun a f i wr => ∃ j : Nat, j ≤ k ∧ i = .int .i64 j ∧ a = .int .i64 (sumTo (fun j => load t g j t.length) j) ∧ f = .bool (foundTo t g s j) ∧ Below w3.heap.size w3 wr)
        (fun _ _ i _ => k - (intOf i).toNat)
      case atStart => exact ⟨0, Nat.zero_le _, rfl, rfl, by rw [foundTo_zero], Below.refl _ _⟩
      case round =>
        obtain ⟨j, hj, rfl, rfl, rfl, hb⟩ := hrel
        have HB := Lib.hid hb
        have hz7 := hb.size
        clear hb
        by_cases hlt : j < k
        · have hjs : sumTo (fun j => load t g j t.length) j ≤ 8000 * (j : Int) := by
            have h1 := sumTo_le (f := fun j => load t g j t.length) (g := fun _ => 8000) j (fun i hi => by have := P.out.1 i (by omega); simp; omega)
            rw [sumTo_const] at h1
            omega
          have hj0 : 0 ≤ sumTo (fun j => load t g j t.length) j := sumTo_nonneg _ fun i _ => (load_bd g HT.out i _).1
          have hsum : sumTo (fun j => load t g j t.length) (j + 1) = sumTo (fun j => load t g j t.length) j + load t g j t.length := rfl
          have HS := Lib.hid (And.intro hsum (foundTo_succ t g s j))
          clear hsum
          generalize hF : foundTo t g s j = F at *
          generalize hA : sumTo (fun j => load t g j t.length) j = a at *
          clear hA
          obtain ⟨wo, rfl⟩ : ∃ wo : World, wo = wr := ⟨_, rfl⟩
          go_wp2_with fail
          go_loopw [10, 11] (fun o i wr => ∃ i2 : Nat, i2 ≤ t.length ∧ i = .int .i64 i2 ∧ o = .int .i64 (load t g j i2) ∧ Below wo.heap.size wo wr)
            (fun _ i _ => t.length - (intOf i).toNat)
          case atStart => exact ⟨0, Nat.zero_le _, rfl, rfl, Below.refl _ _⟩
          case round =>
            obtain ⟨i2, hi2, rfl, rfl, hb2⟩ := hrel
            have HB2 := Lib.hid (And.intro (bel_trans HB.out hb2) hb2)
            have hz8 := hb2.size
            have hld := load_bd g HT.out j i2
            clear hb2
            by_cases hlt2 : i2 < t.length
            · obtain ⟨b, o, rfl, hb, hcell⟩ := H3.out.1.open3 (by omega)
              obtain ⟨b', o', rfl, hb', hcell'⟩ := H3.out.2.1.open3 (by have := HG.out; omega)
              have hck : wr.cell? ⟨b, o + i2, none⟩ = some (.int .i64 (at_ t i2)) := (HB2.out.1.cell (by exact hb)).trans (hcell _ (by omega))
              have hck2 : wr.cell? ⟨b', o' + i2, none⟩ = some (.int .i64 (at_ g i2)) := (HB2.out.1.cell (by exact hb')).trans (hcell' _ (by have := HG.out; omega))
              have hti := HT.out i2
              have hgl : i2 < g.length := by have := HG.out; omega
              clear hcell hcell'
              cases hme : (at_ g i2 == (j : Int))
              · have hl1 : load t g j (i2 + 1) = load t g j i2 := load_skip t g j i2 (by simpa using hme)
                have HL := Lib.hid hl1
                clear hl1
                go_wp2
                go_roundw
                case rel => exact ⟨i2 + 1, by omega, by go_num, by rw [HL.out], HB2.out.2⟩
                case measure => simp [intOf]; omega
              · have hl1 : load t g j (i2 + 1) = load t g j i2 + at_ t i2 := load_step t g j i2 (by simpa using hme)
                have HL := Lib.hid hl1
                clear hl1
                go_wp2
                go_roundw
                case rel => exact ⟨i2 + 1, by omega, by go_num, by rw [HL.out], HB2.out.2⟩
                case measure => simp [intOf]; omega
            · have hit : i2 = t.length := by omega
              subst hit
              have hle := P.out.1 j hlt
              have HC := Lib.hid HB2.out.1
              clear HB2
              cases F
              · go_wp2
                go_roundw
                case rel => exact ⟨j + 1, by omega, by go_num, by rw [HS.out.1], by rw [HS.out.2]; simp, HC.out⟩
                case measure => simp [intOf]; omega
              · go_wp2
                go_roundw
                case rel => exact ⟨j + 1, by omega, by go_num, by rw [HS.out.1], by rw [HS.out.2]; simp, HC.out⟩
                case measure => simp [intOf]; omega
        · have hjk : j = k := by omega
          subst hjk
          have hfd := foundTo_yes P.out.2.2
          have hP2 := P.out.2.1
          rw [hfd]
          generalize sumTo (fun j => load t g j t.length) j = a at *
          have H4 := Lib.hid (And.intro (H3.out.1.bel HB.out) (bel_trans H3.out.2.2 HB.out))
          clear hfd
          go_wp2_with fail
          refine (implLeast_any _ _ _ _ H4.out.1 (by omega)).mono ?_
          rw [E2.out]
          rintro e wa ⟨rfl, ba⟩
          go_wp2
          go_ret
          exact ⟨ret_bool (by first | rfl | simp_all), bel_trans H4.out.2 ba⟩

end Go.Proofs.Ytegofpfhlhfdnaa
