/-
  Sheets: PrintTable (spec).
-/
import Derived.Test.YtdmadaebeooaaaaGreatDoorShL
namespace Go.Proofs.YtdmadaebeooaaaaGreatDoor
open Go.RowKit
set_option linter.unusedVariables false
set_option linter.unusedSimpArgs false
set_option maxRecDepth 100000
attribute [local go_sem ↓] Go.wp_at_zero Go.wp_at_succ

/-- What PrintTable and JobSheet return. -/
def TxtE (s : ByteArray) (P : Prop) (e : Ending) : Prop := (P ∧ e = .returned (.tuple #[.string s, .bool true])) ∨ (¬ P ∧ e = .returned (.tuple #[.string ⟨#[]⟩, .bool false]))
theorem shOk_iff {W : Nat} {l : List Int} {R A M : Nat} (hM : R * A = M) : shOk W l R A = true ↔ pgsF W l R M (pgN l M) := by unfold shOk; rw [hM]; exact decide_eq_true_iff
theorem putL_take (a : ByteArray) {ls : List ByteArray} {k : Nat} (h : k < ls.length) : putL a (ls.take (k + 1)) = putL a (ls.take k) ++ sat ls k ++ ⟨#[10]⟩ := by
  rw [List.take_succ_eq_append_getElem h, putL_snoc, sat_eq ls k h, ByteArray.append_assoc]
theorem pgL_len (W : Nat) (l : List Int) (R M p : Nat) : (pgL W l R M p).length = pgRows l R M p := rowsL_len _ _ _ _
theorem pgRows_le (l : List Int) (R M p : Nat) : pgRows l R M p ≤ R := Nat.min_le_left _ _
theorem pgL_size {W : Nat} {l : List Int} {R M p : Nat} (h : pgF W l R M p) (hR : 0 < R) (hW : W ≤ 12) (hl : l.length ≤ 60) : ∀ s ∈ pgL W l R M p, s.size ≤ 780 := rowsL_size h hR hW (by rw [pgE_len]; omega)
theorem putTake_size {a : ByteArray} {ls : List ByteArray} {k q : Nat} (h : ∀ s ∈ ls, s.size ≤ 780) (hk : k ≤ ls.length) (hl : ls.length ≤ 20) (ha : a.size ≤ 20000 * q + 1) (hq : q ≤ 60) : (putL a (ls.take k)).size ≤ 1300000 := by
  have := putL_size (a := a) (ls := ls.take k) (fun s hs => h s (List.mem_of_mem_take hs))
  rw [List.length_take, Nat.min_eq_left hk] at this
  have h2 : (780 + 1) * k ≤ 781 * 20 := Nat.mul_le_mul (by omega) (by omega)
  omega

set_option maxHeartbeats 4000000 in
theorem specPT_any (R A W M : Nat) (v : Value) (l : List Int) (w : World) (hv : Ints w v l) (h1 : 1 ≤ R ∧ R ≤ 20) (h2 : 1 ≤ A ∧ A ≤ 6) (h3 : 1 ≤ W ∧ W ≤ 12) (hl : l.length ≤ 60) (hM : R * A = M) :
    Calls Tryz.prog 28 #[.agg #[.int .i64 R, .int .i64 A, .int .i64 W], v] w fun e w' => TxtE (shS W l R A) (tableOk l = true ∧ shOk W l R A = true) e ∧ Below w.heap.size w w' := by
  have HV := Lib.hid hv
  have HM := Lib.hid hM
  have hlay := layOk_nat h1 h2 h3
  have hM0 : 0 < M := by rw [← hM]; exact Nat.mul_pos h1.1 h2.1
  obtain ⟨B, cp, rfl, hlc, hc, hrd⟩ := hv.open_
  have K1 := Blk.new w 30 [.int .i64 R, .int .i64 A, .int .i64 W]
  have B1 := bel_alloc w (.cells #[.int .i64 R, .int .i64 A, .int .i64 W] 30)
  obtain ⟨a0, a1, a2⟩ := K1.lay
  clear hv hrd hM
  go_enter Tryz.func28, Tryz.ntmps28
  go_wp2_with fail
  refine (specLay_any R A W _).mono ?_
  rintro e w2 ⟨rfl, b2⟩
  rw [hlay]
  replace K1 := K1.below b2 K1.lt
  have HB := Lib.hid (bel_trans B1 b2)
  clear a0 a1 a2 b2 B1
  obtain ⟨a0, a1, a2⟩ := K1.lay
  go_wp2_with fail
  refine (specTable_any _ l _ (HV.out.bel HB.out)).mono ?_
  rintro e w3 ⟨rfl, rfl⟩
  cases ht : tableOk l
  · go_wp2
    go_ret2
    exact ⟨.inr ⟨fun h => by rw [ht] at h; exact Bool.noConfusion h.1, rfl⟩, HB.out⟩
  · obtain ⟨q0, hq0⟩ : ∃ q, pgN l M = q := ⟨_, rfl⟩
    have hq60 : q0 ≤ 60 := by rw [← hq0]; exact Nat.le_trans (pgN_le hM0) hl
    go_wp2_with fail
    clear a0 a1 a2
    go_loopw [6, 7] (fun s i wr => ∃ q : Nat, q ≤ q0 ∧ pgsF W l R M q ∧ i = .int .i64 q ∧ s = .string (textN W l R M q) ∧ Below w.heap.size w wr ∧ Blk wr w.heap.size 30 [.int .i64 R, .int .i64 A, .int .i64 W]) (fun _ i _ => q0 - (intOf i).toNat)
    case atStart => exact ⟨0, Nat.zero_le _, fun p hp => absurd hp (Nat.not_lt_zero _), rfl, rfl, HB.out, K1⟩
    case round =>
      obtain ⟨q, hq, hF, rfl, rfl, hb, hK⟩ := hrel
      obtain ⟨c0, c1, c2⟩ := hK.lay
      have hKl := hK.lt
      have hts := textN_size hF (Nat.lt_of_lt_of_le Nat.zero_lt_one h1.1) h1.2 h3.2 hl
      have H := Lib.hid (And.intro hF (And.intro hb hK))
      have HQ := Lib.hid hq0
      clear hF hb hK K1 hq0
      go_wp2_with fail
      refine (specPN_any R A W l _ h1 h2 h3 hl).mono ?_
      rw [HM.out, HQ.out]
      rintro e w4 ⟨rfl, b4⟩
      have HB4 := Lib.hid (bel_trans H.out.2.1 b4)
      have K4 := H.out.2.2.below b4 hKl
      clear c0 c1 c2 b4
      obtain ⟨c0, c1, c2⟩ := K4.lay
      have hKl4 := K4.lt
      by_cases hlt : q < q0
      · have hp60 : q ≤ 60 := by omega
        have hmore := Lib.hid hlt
        go_wp2_with fail
        refine (l6Page_any R A W M q _ l _ (HV.out.bel HB4.out) h1 h2 h3 hl HM.out hp60).mono ?_
        rintro e w5 ⟨⟨u, T⟩, b5⟩
        have HB5 := Lib.hid (bel_trans HB4.out b5)
        have K5 := Lib.hid (K4.below b5 hKl4)
        clear b5 c0 c1 c2 K4
        rcases T with ⟨hP, rfl, hO⟩ | ⟨hP, rfl⟩
        · obtain ⟨A5, c5, rfl, hlc5, -, hrd5⟩ := hO.strs.open_
          have HR5 := Lib.hid hrd5
          have HF2 := Lib.hid (pgsF_succ H.out.1 hP)
          have HSZ := Lib.hid (pgL_size hP (Nat.lt_of_lt_of_le Nat.zero_lt_one h1.1) h3.2 hl)
          have hlen : (pgL W l R M q).length ≤ 20 := by rw [pgL_len]; exact Nat.le_trans (pgRows_le _ _ _ _) h1.2
          obtain ⟨ls, hls⟩ : ∃ ls, pgL W l R M q = ls := ⟨_, rfl⟩
          obtain ⟨T0, hT0⟩ : ∃ T0, textN W l R M q = T0 := ⟨_, rfl⟩
          rw [hls] at HR5 HSZ hlen hlc5
          rw [hls, hT0]
          rw [hT0] at hts
          clear hP hrd5 hO
          by_cases hq1 : 0 < q
          · have NS := Lib.hid (show textN W l R M (q + 1) = putL (T0 ++ ⟨#[10]⟩) ls by rw [textN_succ hq1, hT0, hls])
            have hcat : ¬ 9223372036854775807 < T0.size + 1 := by omega
            have ha : (T0 ++ ⟨#[10]⟩).size ≤ 20000 * q + 1 := by rw [ByteArray.size_append]; exact Nat.add_le_add hts (Nat.le_refl _)
            clear hls hT0
            go_wp2_with fail
            go_loopw [6, 10] (fun s i wr => ∃ k : Nat, k ≤ ls.length ∧ i = .int .i64 k ∧ s = .string (putL (T0 ++ ⟨#[10]⟩) (ls.take k)) ∧ wr = w5) (fun _ i _ => ls.length - (intOf i).toNat)
            case atStart => exact ⟨0, Nat.zero_le _, rfl, rfl, rfl⟩
            case round =>
              obtain ⟨k, hk, rfl, rfl, rfl⟩ := hrel
              by_cases hkl : k < ls.length
              · obtain ⟨b, o, rfl, hbb, hcell⟩ := HR5.out.strs (Nat.lt_of_le_of_lt (Nat.zero_le _) hkl)
                have hck := hcell k hkl
                have hps := putTake_size HSZ.out hk hlen ha hp60
                have hzz := HSZ.out _ (sat_mem ls k hkl)
                have PT := Lib.hid (putL_take (T0 ++ ⟨#[10]⟩) hkl)
                obtain ⟨Z, hZ⟩ : ∃ Z, sat ls k = Z := ⟨_, rfl⟩
                obtain ⟨U, hU⟩ : ∃ U, putL (T0 ++ ⟨#[10]⟩) (ls.take k) = U := ⟨_, rfl⟩
                rw [hZ] at hck hzz
                rw [hU] at hps
                replace PT := Lib.hid (show putL (T0 ++ ⟨#[10]⟩) (ls.take (k + 1)) = U ++ Z ++ ⟨#[10]⟩ by rw [PT.out, hU, hZ])
                rw [hU]
                have hcat : ¬ 9223372036854775807 < U.size + Z.size := by omega
                have hs2 : (U ++ Z).size = U.size + Z.size := ByteArray.size_append
                have hcat2 : ¬ 9223372036854775807 < (U ++ Z).size + 1 := by omega
                have hcat3 : ¬ 9223372036854775807 < U.size + Z.size + 1 := by omega
                clear hcell hZ hU ha hts
                go_wp2
                go_roundw
                case rel => exact ⟨k + 1, hkl, by go_num, by rw [PT.out], by first | rfl | trivial⟩
                case measure => simp [intOf]; omega
              · have hke : k = ls.length := by omega
                have TE := Lib.hid (show putL (T0 ++ ⟨#[10]⟩) (ls.take k) = textN W l R M (q + 1) by rw [hke, List.take_length, NS.out])
                rw [TE.out]
                clear hke ha hts
                go_wp2
                go_roundw
                case rel => exact ⟨q + 1, hmore.out, HF2.out, by go_num, rfl, HB5.out, K5.out⟩
                case measure => simp [intOf]; omega
          · have e0 : q = 0 := by omega
            have NS := Lib.hid (show textN W l R M (q + 1) = putL T0 ls by rw [← hT0, ← hls, e0]; exact textN_one _ _ _ _)
            have ha : T0.size ≤ 20000 * q + 1 := by omega
            clear hls hT0 e0
            go_wp2_with fail
            go_loopw [6, 10] (fun s i wr => ∃ k : Nat, k ≤ ls.length ∧ i = .int .i64 k ∧ s = .string (putL T0 (ls.take k)) ∧ wr = w5) (fun _ i _ => ls.length - (intOf i).toNat)
            case atStart => exact ⟨0, Nat.zero_le _, rfl, rfl, rfl⟩
            case round =>
              obtain ⟨k, hk, rfl, rfl, rfl⟩ := hrel
              by_cases hkl : k < ls.length
              · obtain ⟨b, o, rfl, hbb, hcell⟩ := HR5.out.strs (Nat.lt_of_le_of_lt (Nat.zero_le _) hkl)
                have hck := hcell k hkl
                have hps := putTake_size HSZ.out hk hlen ha hp60
                have hzz := HSZ.out _ (sat_mem ls k hkl)
                have PT := Lib.hid (putL_take T0 hkl)
                obtain ⟨Z, hZ⟩ : ∃ Z, sat ls k = Z := ⟨_, rfl⟩
                obtain ⟨U, hU⟩ : ∃ U, putL T0 (ls.take k) = U := ⟨_, rfl⟩
                rw [hZ] at hck hzz
                rw [hU] at hps
                replace PT := Lib.hid (show putL T0 (ls.take (k + 1)) = U ++ Z ++ ⟨#[10]⟩ by rw [PT.out, hU, hZ])
                rw [hU]
                have hcat : ¬ 9223372036854775807 < U.size + Z.size := by omega
                have hs2 : (U ++ Z).size = U.size + Z.size := ByteArray.size_append
                have hcat2 : ¬ 9223372036854775807 < (U ++ Z).size + 1 := by omega
                have hcat3 : ¬ 9223372036854775807 < U.size + Z.size + 1 := by omega
                clear hcell hZ hU ha hts
                go_wp2
                go_roundw
                case rel => exact ⟨k + 1, hkl, by go_num, by rw [PT.out], by first | rfl | trivial⟩
                case measure => simp [intOf]; omega
              · have hke : k = ls.length := by omega
                have TE := Lib.hid (show putL T0 (ls.take k) = textN W l R M (q + 1) by rw [hke, List.take_length, NS.out])
                rw [TE.out]
                clear hke ha hts
                go_wp2
                go_roundw
                case rel => exact ⟨q + 1, hmore.out, HF2.out, by go_num, rfl, HB5.out, K5.out⟩
                case measure => simp [intOf]; omega
        · have HN := Lib.hid hP
          clear hP
          go_wp2
          go_ret2
          exact ⟨.inr ⟨fun h => HN.out ((shOk_iff HM.out).1 h.2 q (by rw [HQ.out]; exact hmore.out)), rfl⟩, HB5.out⟩
      · have hqq : q = q0 := by omega
        have HQ2 := Lib.hid (hqq.trans HQ.out.symm)
        clear hqq
        go_wp2
        go_ret2
        refine ⟨.inl ⟨⟨ht, (shOk_iff HM.out).2 (by rw [← HQ2.out]; exact H.out.1)⟩, ?_⟩, HB4.out⟩
        unfold shS
        rw [HM.out, ← HQ2.out]
        rfl
end Go.Proofs.YtdmadaebeooaaaaGreatDoor
