/-
  Sheets: PrintTable (impl).
-/
import Derived.Test.YtdmadaebeooaaaaGreatDoorShN
namespace Go.Proofs.YtdmadaebeooaaaaGreatDoor
open Go.RowKit
set_option linter.unusedVariables false
set_option linter.unusedSimpArgs false
set_option maxRecDepth 100000
attribute [local go_sem ↓] Go.wp_at_zero Go.wp_at_succ

theorem Bld.new (w : World) : Bld (w.alloc (.cells #[.pointer none, .slice none 0 0] 87)) w.heap.size ⟨#[]⟩ :=
  .inl ⟨Nat.le_refl _, _, heap_alloc_new w _, ⟨rfl, .inl ⟨rfl, rfl⟩⟩, by simp [Value.ownBlock]⟩

set_option maxHeartbeats 4000000 in
theorem implPT_any (R A W M : Nat) (v : Value) (l : List Int) (w : World) (hv : Ints w v l) (h1 : 1 ≤ R ∧ R ≤ 20) (h2 : 1 ≤ A ∧ A ≤ 6) (h3 : 1 ≤ W ∧ W ≤ 12) (hl : l.length ≤ 60) (hM : R * A = M) (hT : Tab w) :
    Calls Tryz.prog 31 #[.agg #[.int .i64 R, .int .i64 A, .int .i64 W], v] w fun e w' => TxtE (shS W l R A) (tableOk l = true ∧ shOk W l R A = true) e ∧ Below w.heap.size w w' := by
  have HV := Lib.hid hv
  have HM := Lib.hid hM
  have HT := Lib.hid hT
  have hlay := layOk_nat h1 h2 h3
  have hM0 : 0 < M := by rw [← hM]; exact Nat.mul_pos h1.1 h2.1
  obtain ⟨B, cp, rfl, hlc, hc, hrd⟩ := hv.open_
  have K1 := Blk.new w 30 [.int .i64 R, .int .i64 A, .int .i64 W]
  have B1 := bel_alloc w (.cells #[.int .i64 R, .int .i64 A, .int .i64 W] 30)
  obtain ⟨a0, a1, a2⟩ := K1.lay
  clear hv hrd hM hT
  go_enter Tryz.func31, Tryz.ntmps31
  go_wp2_with fail
  refine (implLay_any R A W _).mono ?_
  rintro e w2 ⟨rfl, b2⟩
  rw [hlay]
  replace K1 := K1.below b2 K1.lt
  have HB := Lib.hid (bel_trans B1 b2)
  clear a0 a1 a2 b2 B1
  obtain ⟨a0, a1, a2⟩ := K1.lay
  go_wp2_with fail
  refine (implTable_any _ l _ (HV.out.bel HB.out)).mono ?_
  rintro e w3 ⟨rfl, rfl⟩
  cases ht : tableOk l
  · go_wp2
    go_ret2
    exact ⟨.inr ⟨fun h => by rw [ht] at h; exact Bool.noConfusion h.1, rfl⟩, HB.out⟩
  · obtain ⟨q0, hq0⟩ : ∃ q, pgN l M = q := ⟨_, rfl⟩
    have hq60 : q0 ≤ 60 := by rw [← hq0]; exact Nat.le_trans (pgN_le hM0) hl
    have HTO := Lib.hid ht
    have HQ := Lib.hid hq0
    have ba := bel_alloc w2 (.cells #[.pointer none, .slice none 0 0] 87)
    have BN := Bld.new w2
    have KA := K1.below ba K1.lt
    have kl2 : w.heap.size < w2.heap.size := K1.lt
    have HBA := Lib.hid (bel_trans HB.out ba)
    obtain ⟨d0, d1, d2⟩ := KA.lay
    clear hq0 ba
    go_wp2_with fail
    refine (implPN_any R A W l _ h1 h2 h3 hl).mono ?_
    rw [HM.out, HQ.out]
    rintro e w4 ⟨rfl, b4⟩
    have BN4 := BN.bel b4
    have K4 := KA.below b4 KA.lt
    have HB4 := Lib.hid (bel_trans HBA.out b4)
    have hz4 := BN4.lt
    clear a0 a1 a2 d0 d1 d2 BN KA b4 K1
    go_wp2_with fail
    go_loopw [24] (fun i wr => ∃ q : Nat, q ≤ q0 ∧ i = .int .i64 q ∧ pgsF W l R M q ∧ Bld wr w2.heap.size (textN W l R M q) ∧ Below w.heap.size w wr ∧ Blk wr w.heap.size 30 [.int .i64 R, .int .i64 A, .int .i64 W]) (fun i _ => q0 - (intOf i).toNat)
    case atStart => exact ⟨0, Nat.zero_le _, rfl, fun p hp => absurd hp (Nat.not_lt_zero _), BN4, HB4.out, K4⟩
    case round =>
      obtain ⟨q, hq, rfl, hF, hbd, hb, hK⟩ := hrel
      obtain ⟨wo, hwo⟩ : ∃ wo, wo = wr := ⟨_, rfl⟩
      subst hwo
      obtain ⟨c0, c1, c2⟩ := hK.lay
      have hbl := hbd.lt
      have hts := textN_size hF (Nat.lt_of_lt_of_le Nat.zero_lt_one h1.1) h1.2 h3.2 hl
      have H := Lib.hid (And.intro hF (And.intro hbd (And.intro hb hK)))
      clear hF hbd hb hK K4 BN4
      by_cases hlt : q < q0
      · have hp60 : q ≤ 60 := by omega
        have hmore := Lib.hid hlt
        go_wp2_with fail
        refine (pageLines_any R A W M q _ l _ (HV.out.bel H.out.2.2.1) h1 h2 h3 hl HM.out HTO.out (by rw [HQ.out]; exact hmore.out) (HT.out.bel H.out.2.2.1)).mono ?_
        rintro e w5 ⟨⟨u, T⟩, b5⟩
        have BN5 := H.out.2.1.bel b5
        have HB5 := Lib.hid (b5.mono (Nat.le_of_lt hbl))
        clear b5 c0 c1 c2
        rcases T with ⟨hP, rfl, hO⟩ | ⟨hP, rfl⟩
        · have HO5 := hO
          obtain ⟨A5, c5, rfl, hlc5, -, -⟩ := hO.strs.open_
          replace HO5 := Lib.hid HO5
          have HF2 := Lib.hid (pgsF_succ H.out.1 hP)
          have HSZ := Lib.hid (pgL_size hP (Nat.lt_of_lt_of_le Nat.zero_lt_one h1.1) h3.2 hl)
          have hlen : (pgL W l R M q).length ≤ 20 := by rw [pgL_len]; exact Nat.le_trans (pgRows_le _ _ _ _) h1.2
          obtain ⟨ls, hls⟩ : ∃ ls, pgL W l R M q = ls := ⟨_, rfl⟩
          obtain ⟨T0, hT0⟩ : ∃ T0, textN W l R M q = T0 := ⟨_, rfl⟩
          rw [hls] at HO5 HSZ hlen hlc5
          rw [hls]
          rw [hT0] at hts BN5
          clear hP hO
          by_cases hq1 : 0 < q
          · have NS := Lib.hid (show textN W l R M (q + 1) = putL (T0 ++ ⟨#[10]⟩) ls by rw [textN_succ hq1, hT0, hls])
            have ha : (T0 ++ ⟨#[10]⟩).size ≤ 20000 * q + 1 := by rw [ByteArray.size_append]; exact Nat.add_le_add hts (Nat.le_refl _)
            have hne5 : (Value.slice A5 ls.length c5).ownBlock ≠ some w2.heap.size := fun e => by have := (HO5.out.lt _ e).1; omega
            clear hls hT0
            replace BN5 := Lib.hid BN5
            go_wp2_with fail
            refine (Bld.byte w2.heap.size T0 _ BN5.out (by omega)).mono ?_
            rintro e w6 ⟨rfl, bd6, b6, k6⟩
            replace HO5 := Lib.hid (ownS_kept HO5.out k6 hne5)
            replace HB5 := Lib.hid (HB5.out.trans b6)
            replace BN5 := bd6
            clear bd6 b6 k6
            go_wp2_with fail
            go_loopw [41] (fun i wc => ∃ k : Nat, k ≤ ls.length ∧ i = .int .i64 k ∧ Bld wc w2.heap.size (putL (T0 ++ ⟨#[10]⟩) (ls.take k)) ∧ OwnS wc wo.heap.size (.slice A5 ls.length c5) ls ∧ Below w2.heap.size wo wc) (fun i _ => ls.length - (intOf i).toNat)
            case atStart => exact ⟨0, Nat.zero_le _, rfl, BN5, HO5.out, HB5.out⟩
            case round =>
              obtain ⟨k, hk, rfl, hbd, ho, hbw⟩ := hrel
              have hbl := hbd.lt
              have HBD := Lib.hid hbd
              have HO := Lib.hid ho
              have HBW := Lib.hid hbw
              clear hbd ho hbw BN5
              by_cases hkl : k < ls.length
              · obtain ⟨A6, c6, e6, -, -, hrd⟩ := HO.out.strs.open_
                cases e6
                obtain ⟨b, o, rfl, hbb, hcell⟩ := hrd.strs (Nat.lt_of_le_of_lt (Nat.zero_le _) hkl)
                have hck := hcell k hkl
                have hps := putTake_size HSZ.out hk hlen ha hp60
                have hzz := HSZ.out _ (sat_mem ls k hkl)
                have PT := Lib.hid (putL_take (T0 ++ ⟨#[10]⟩) hkl)
                obtain ⟨Z, hZ⟩ : ∃ Z, sat ls k = Z := ⟨_, rfl⟩
                obtain ⟨U, hU⟩ : ∃ U, putL (T0 ++ ⟨#[10]⟩) (ls.take k) = U := ⟨_, rfl⟩
                rw [hZ] at hck hzz
                rw [hU] at hps
                replace PT := Lib.hid (show putL (T0 ++ ⟨#[10]⟩) (ls.take (k + 1)) = U ++ Z ++ ⟨#[10]⟩ by rw [PT.out, hU, hZ])
                replace HBD := Lib.hid (show Bld wr w2.heap.size U by rw [← hU]; exact HBD.out)
                have hne : (Value.slice (some ⟨b, o, none⟩) ls.length c5).ownBlock ≠ some w2.heap.size := fun e => by have := (HO.out.lt _ e).1; omega
                have hs2 : (U ++ Z).size ≤ 100000000 := by rw [ByteArray.size_append]; omega
                clear hcell hZ hU ha hts hrd
                go_wp2_with fail
                refine (Bld.str w2.heap.size U Z _ HBD.out (by omega) (by omega)).mono ?_
                rintro e w6 ⟨rfl, bd6, b6, k6⟩
                have HO6 := ownS_kept HO.out k6 hne
                have hb6 := HBW.out.trans b6
                go_wp2_with fail
                refine (Bld.byte w2.heap.size (U ++ Z) _ bd6 hs2).mono ?_
                rintro e w7 ⟨rfl, bd7, b7, k7⟩
                have HO7 := Lib.hid (ownS_kept HO6 k7 hne)
                have hb7 := Lib.hid (hb6.trans b7)
                have HB7 := Lib.hid bd7
                clear HO6 hb6 bd6 bd7 b6 b7 k6 k7 hck
                go_wp2_with fail
                go_roundw
                case rel => exact ⟨k + 1, hkl, by go_num, by rw [PT.out]; exact HB7.out, HO7.out, hb7.out⟩
                case measure => simp [intOf]; omega
              · have hke : k = ls.length := by omega
                have TE := Lib.hid (show putL (T0 ++ ⟨#[10]⟩) (ls.take k) = textN W l R M (q + 1) by rw [hke, List.take_length, NS.out])
                rw [TE.out] at HBD
                clear hke ha hts
                go_wp2_with fail
                go_roundw
                case rel => exact ⟨q + 1, hmore.out, by go_num, HF2.out, HBD.out, H.out.2.2.1.trans (HBW.out.mono (Nat.le_of_lt kl2)), H.out.2.2.2.below HBW.out kl2⟩
                case measure => simp [intOf]; omega
          · have e0 : q = 0 := by omega
            have NS := Lib.hid (show textN W l R M (q + 1) = putL T0 ls by rw [← hT0, ← hls, e0]; exact textN_one _ _ _ _)
            have ha : T0.size ≤ 20000 * q + 1 := by omega
            clear hls hT0 e0
            go_wp2_with fail
            go_loopw [41] (fun i wc => ∃ k : Nat, k ≤ ls.length ∧ i = .int .i64 k ∧ Bld wc w2.heap.size (putL T0 (ls.take k)) ∧ OwnS wc wo.heap.size (.slice A5 ls.length c5) ls ∧ Below w2.heap.size wo wc) (fun i _ => ls.length - (intOf i).toNat)
            case atStart => exact ⟨0, Nat.zero_le _, rfl, BN5, HO5.out, HB5.out⟩
            case round =>
              obtain ⟨k, hk, rfl, hbd, ho, hbw⟩ := hrel
              have hbl := hbd.lt
              have HBD := Lib.hid hbd
              have HO := Lib.hid ho
              have HBW := Lib.hid hbw
              clear hbd ho hbw BN5
              by_cases hkl : k < ls.length
              · obtain ⟨A6, c6, e6, -, -, hrd⟩ := HO.out.strs.open_
                cases e6
                obtain ⟨b, o, rfl, hbb, hcell⟩ := hrd.strs (Nat.lt_of_le_of_lt (Nat.zero_le _) hkl)
                have hck := hcell k hkl
                have hps := putTake_size HSZ.out hk hlen ha hp60
                have hzz := HSZ.out _ (sat_mem ls k hkl)
                have PT := Lib.hid (putL_take T0 hkl)
                obtain ⟨Z, hZ⟩ : ∃ Z, sat ls k = Z := ⟨_, rfl⟩
                obtain ⟨U, hU⟩ : ∃ U, putL T0 (ls.take k) = U := ⟨_, rfl⟩
                rw [hZ] at hck hzz
                rw [hU] at hps
                replace PT := Lib.hid (show putL T0 (ls.take (k + 1)) = U ++ Z ++ ⟨#[10]⟩ by rw [PT.out, hU, hZ])
                replace HBD := Lib.hid (show Bld wr w2.heap.size U by rw [← hU]; exact HBD.out)
                have hne : (Value.slice (some ⟨b, o, none⟩) ls.length c5).ownBlock ≠ some w2.heap.size := fun e => by have := (HO.out.lt _ e).1; omega
                have hs2 : (U ++ Z).size ≤ 100000000 := by rw [ByteArray.size_append]; omega
                clear hcell hZ hU ha hts hrd
                go_wp2_with fail
                refine (Bld.str w2.heap.size U Z _ HBD.out (by omega) (by omega)).mono ?_
                rintro e w6 ⟨rfl, bd6, b6, k6⟩
                have HO6 := ownS_kept HO.out k6 hne
                have hb6 := HBW.out.trans b6
                go_wp2_with fail
                refine (Bld.byte w2.heap.size (U ++ Z) _ bd6 hs2).mono ?_
                rintro e w7 ⟨rfl, bd7, b7, k7⟩
                have HO7 := Lib.hid (ownS_kept HO6 k7 hne)
                have hb7 := Lib.hid (hb6.trans b7)
                have HB7 := Lib.hid bd7
                clear HO6 hb6 bd6 bd7 b6 b7 k6 k7 hck
                go_wp2_with fail
                go_roundw
                case rel => exact ⟨k + 1, hkl, by go_num, by rw [PT.out]; exact HB7.out, HO7.out, hb7.out⟩
                case measure => simp [intOf]; omega
              · have hke : k = ls.length := by omega
                have TE := Lib.hid (show putL T0 (ls.take k) = textN W l R M (q + 1) by rw [hke, List.take_length, NS.out])
                rw [TE.out] at HBD
                clear hke ha hts
                go_wp2_with fail
                go_roundw
                case rel => exact ⟨q + 1, hmore.out, by go_num, HF2.out, HBD.out, H.out.2.2.1.trans (HBW.out.mono (Nat.le_of_lt kl2)), H.out.2.2.2.below HBW.out kl2⟩
                case measure => simp [intOf]; omega
        · go_wp2
          go_ret2
          refine ⟨.inr ⟨fun h => hP ?_, rfl⟩, H.out.2.2.1.trans (HB5.out.mono (Nat.le_of_lt kl2))⟩
          exact (shOk_iff HM.out).1 h.2 q (by rw [HQ.out]; exact hmore.out)
      · have hqe : q = q0 := by omega
        subst hqe
        go_wp2_with fail
        refine (Tryz.Builder_String_any_k w2.heap.size w2.heap.size (textN W l R M q).data.toList _ H.out.2.1 (Nat.le_of_lt hbl)).mono ?_
        rintro e w5 ⟨rfl, -, b5, -⟩
        go_wp2
        go_ret2
        refine ⟨.inl ⟨⟨HTO.out, (shOk_iff HM.out).2 (by rw [HQ.out]; exact H.out.1)⟩, ?_⟩, H.out.2.2.1.trans (b5.mono (Nat.le_of_lt kl2))⟩
        unfold shS
        rw [HM.out, HQ.out]
        trivial
end Go.Proofs.YtdmadaebeooaaaaGreatDoor
