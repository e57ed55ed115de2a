/-
  Sheets: PageLines (impl).
-/
import Derived.Test.YtdmadaebeooaaaaGreatDoorShI
import Derived.Lib.JoinLaws
namespace Go.Proofs.YtdmadaebeooaaaaGreatDoor
open Go.RowKit
set_option linter.unusedVariables false
set_option linter.unusedSimpArgs false
set_option maxRecDepth 100000
attribute [local go_sem ↓] Go.wp_at_zero Go.wp_at_succ

theorem rep_any (n : Nat) (w : World) (hn : n ≤ 1000) :
    Calls Tryz.prog 105 #[.string ⟨#[32]⟩, .int .i64 n] w fun e w' => e = .returned (.string (spS n)) ∧ Below w.heap.size w w' :=
  Tryz.strings_Repeat ⟨#[32]⟩ n w (by omega) (by rw [show (⟨#[32]⟩ : ByteArray).size = 1 from rfl]; omega)

theorem Tryz.mkRoom (c : Nat) (hc : c ≤ 1000) (W : World) : (Instr.makeSlice 56 (.int .i64 0) (.int .i64 (c : Int))).run Tryz.prog W =
    .ok (.slice (some ⟨W.heap.size, 0, none⟩) 0 c) (W.alloc (.cells (reps c (.string ⟨#[]⟩)).toArray 9)) := by
  rw [run_make_room 56 9 (.string ⟨#[]⟩) 16 Tryz.underlying56 Tryz.infoStr rfl .i64 .i64 c (by omega) (by omega) W]
  have := madeCells_reps (.string ⟨#[]⟩) c rfl
  rw [show (Value.string ⟨#[]⟩).cells = #[.string ⟨#[]⟩] from rfl] at this
  rw [this]
theorem OwnS.room (w : World) (c : Nat) (hc : c ≤ 1000) : OwnS (w.alloc (.cells (reps c (.string ⟨#[]⟩)).toArray 9)) w.heap.size (.slice (some ⟨w.heap.size, 0, none⟩) 0 c) [] :=
  OwnS.mk' (cs := reps c (.string ⟨#[]⟩)) (l := []) (Nat.le_refl _) (Blk.new w 9 _) (Nat.zero_le _) (by omega) (reps_length _ _) (fun j hj => absurd hj (by simp)) (fun _ h => by simp at h)
set_option maxHeartbeats 4000000 in
theorem pageLines_any (R A W M p : Nat) (v : Value) (l : List Int) (w : World) (hv : Ints w v l) (h1 : 1 ≤ R ∧ R ≤ 20) (h2 : 1 ≤ A ∧ A ≤ 6) (h3 : 1 ≤ W ∧ W ≤ 12) (hl : l.length ≤ 60) (hM : R * A = M) (ht : tableOk l = true) (hp : p < pgN l M) (hT : Tab w) :
    Calls Tryz.prog 69 #[.agg #[.int .i64 R, .int .i64 A, .int .i64 W], v, .int .i64 p] w fun e w' => LinesB w' w.heap.size (pgL W l R M p) (pgF W l R M p) e ∧ Below w.heap.size w w' := by
  have HV := Lib.hid hv
  have HM := Lib.hid hM
  have HT := Lib.hid hT
  have HPL := Lib.hid hp
  have HTO := Lib.hid ht
  have hel : (pgE l M p).length ≤ 60 := by rw [pgE_len]; exact Nat.le_trans (Nat.min_le_right _ _) (Nat.le_trans (Nat.sub_le _ _) hl)
  have hrw : pgRows l R M p = min R (pgE l M p).length := rfl
  have hr0 : 0 < (pgE l M p).length := by
    have := (pgN_iff (l := l) p (by rw [← HM.out]; exact Nat.mul_pos h1.1 h2.1)).2 HPL.out
    rw [pgE_len]
    have hM0 : 0 < M := by rw [← HM.out]; exact Nat.mul_pos h1.1 h2.1
    omega
  unfold pgL pgF
  obtain ⟨E, hE⟩ : ∃ E, pgE l M p = E := ⟨_, rfl⟩
  obtain ⟨q0, hq0⟩ : ∃ q, pgRows l R M p = q := ⟨_, rfl⟩
  rw [hE] at hel hrw hr0
  rw [hq0] at hrw
  rw [hq0, hE]
  have hq20 : q0 ≤ 20 := by omega
  have hminI : min (R : Int) (E.length : Int) = (q0 : Int) := by omega
  have EE := Lib.hid hE
  clear hE hq0
  obtain ⟨B, cp, rfl, hlc, hc, hrd⟩ := hv.open_
  have K1 := Blk.new w 30 [.int .i64 R, .int .i64 A, .int .i64 W]
  have B1 := bel_alloc w (.cells #[.int .i64 R, .int .i64 A, .int .i64 W] 30)
  obtain ⟨a0, a1, a2⟩ := K1.lay
  clear hv hrd hM hT hp ht
  go_enter Tryz.func69, Tryz.ntmps69
  go_wp2_with fail
  refine (pgEx_any R A W M p _ l _ (HV.out.bel B1) h1 h2 h3 hl HM.out HTO.out HPL.out).mono ?_
  rintro e w2 ⟨rfl, b2⟩
  replace K1 := K1.below b2 K1.lt
  have HB := Lib.hid (bel_trans B1 b2)
  clear a0 a1 a2 b2 B1
  obtain ⟨a0, a1, a2⟩ := K1.lay
  go_wp2_with fail
  refine (entries_any R A W M p _ l _ (HV.out.bel HB.out) h1 h2 h3 hl HM.out HPL.out).mono ?_
  rintro e w3 ⟨r, rfl, hi, b3⟩
  have HE := Lib.hid (show Ints w r E by rw [← EE.out]; exact hi w HV.out)
  replace K1 := K1.below b3 K1.lt
  replace HB := Lib.hid (bel_trans HB.out b3)
  obtain ⟨A3, c3, rfl, -, -, -⟩ := HE.out.open_
  clear a0 a1 a2 b3 hi
  obtain ⟨a0, a1, a2⟩ := K1.lay
  have hmk := fun W => Tryz.mkRoom R (by omega) W
  have OR := OwnS.room w3 R (by omega)
  have BR := bel_alloc w3 (.cells (reps R (.string ⟨#[]⟩)).toArray 9)
  have KR := K1.below BR K1.lt
  obtain ⟨d0, d1, d2⟩ := KR.lay
  have HBR := Lib.hid (bel_trans HB.out BR)
  have hgt : rowsL W E R 0 = [] := rfl
  go_wp2_with fail
  generalize hW4 : w3.alloc (.cells (reps R (.string ⟨#[]⟩)).toArray 9) = w4 at *
  clear hW4 d0 d1 d2 a0 a1 a2 hmk BR
  have hbase : w.heap.size + 1 ≤ w3.heap.size := K1.lt
  have OR1 := OR.lower hbase
  clear OR K1
  go_loopw [9, 31] (fun s i wr => ∃ n : Nat, n ≤ q0 ∧ rowsF W E R n ∧ i = .int .i64 n ∧ OwnS wr (w.heap.size + 1) s (rowsL W E R n) ∧ Below w.heap.size w wr ∧ Blk wr w.heap.size 30 [.int .i64 R, .int .i64 A, .int .i64 W]) (fun _ i _ => q0 - (intOf i).toNat)
  case atStart => exact ⟨0, Nat.zero_le _, fun r hr => absurd hr (Nat.not_lt_zero _), rfl, by rw [hgt]; exact OR1, HBR.out, KR⟩
  case round =>
    obtain ⟨n, hn, hF, rfl, hO, hb, hK⟩ := hrel
    obtain ⟨wo, hwo⟩ : ∃ wo, wo = wr := ⟨_, rfl⟩
    subst hwo
    have H := Lib.hid (And.intro hF (And.intro hO hb))
    have hbz := hb.size
    have HKR := Lib.hid hK
    have HEn := Lib.hid (HE.out.bel hb)
    have HTn := Lib.hid (HT.out.bel hb)
    have kl := HKR.out.lt
    clear hF hO hb hK OR1 KR
    by_cases hlt : n < q0
    · have hnR : n < R := by omega
      have hltm : n < min R E.length := by omega
      have hltd : decide (n < min R E.length) = true := decide_eq_true hltm
      go_wp2_with fail
      go_loopw [11, 12] (fun s i wc => ∃ c I : Nat, c ≤ colN E.length R n ∧ fitL W E R n c ∧ i = .int .i64 I ∧ I = n + c * R ∧ OwnS wc wo.heap.size s (cellL W E R n c) ∧ Below wo.heap.size wo wc) (fun _ i _ => E.length - (intOf i).toNat)
      case atStart => exact ⟨0, n, Nat.zero_le _, fun i hi => absurd hi (Nat.not_lt_zero _), rfl, by omega, OwnS.nil_ _ _, Below.refl _ _⟩
      case round =>
        obtain ⟨c, I, hc1, hfit, rfl, hI, hO, hb⟩ := hrel
        have H2 := Lib.hid (And.intro hc1 (And.intro hfit (And.intro hI (And.intro hO hb))))
        have hbz2 := hb.size
        have HK2 := Lib.hid (HKR.out.below hb kl)
        have HE2 := Lib.hid (HEn.out.bel hb)
        have HT2 := Lib.hid (HTn.out.bel hb)
        obtain ⟨d0, d1, d2⟩ := HK2.out.lay
        clear hc1 hfit hI hO hb
        by_cases hil : I < E.length
        · have hR0 : 0 < R := h1.1
          obtain ⟨b, o, e3, hbb, hcell⟩ := HE2.out.open_.choose_spec.choose_spec.2.2.2.ints hr0
          have hA3 := (Value.slice.inj HE2.out.open_.choose_spec.choose_spec.1).1
          rw [← hA3] at e3
          subst e3
          have hck := hcell I hil
          have hx := HE2.out.2.at _ I
          have hmore := Lib.hid ((colN_iff (L := E.length) (r := n) c hR0).1 (by rw [← H2.out.2.2.1]; exact hil))
          have his := itoaS_size hx.1 hx.2
          obtain ⟨Z, hZ⟩ : ∃ Z, itoaS (at_ E I) = Z := ⟨_, rfl⟩
          rw [hZ] at his
          have HZ := Lib.hid hZ
          clear hcell hA3
          go_wp2_with fail
          refine (itoa_any (at_ E I) _ hx HT2.out).mono ?_
          rw [hZ]
          rintro e w5 ⟨rfl, b5⟩
          clear hZ
          have HB5 := Lib.hid (bel_trans (H2.out.2.2.2.2) b5)
          have HO5 := Lib.hid (H2.out.2.2.2.1.bel b5)
          have HK5 := HK2.out.below b5 HK2.out.lt
          clear b5 d0 d1 d2 hck
          obtain ⟨d0, d1, d2⟩ := HK5.lay
          have HCI := Lib.hid (show itoaS (at_ E (n + c * R)) = Z by rw [← H2.out.2.2.1]; exact HZ.out)
          obtain ⟨m, hm⟩ : ∃ m : Nat, Z.size = m := ⟨_, rfl⟩
          rw [hm] at his
          by_cases hmW : m ≤ W
          · obtain ⟨d, hd⟩ : ∃ d : Nat, W - m = d := ⟨_, rfl⟩
            have hsub : ((W : Int) - (m : Int)) = (d : Int) := by omega
            have hd12 : d ≤ 1000 := by omega
            have hz5 := HB5.out.size
            have hsz := spS_size d
            have hcat : ¬ 9223372036854775807 < (spS d).size + Z.size := by omega
            have hcat2 : ¬ 9223372036854775807 < d + m := by omega
            have HPD := Lib.hid (show padS W (at_ E (n + c * R)) = spS d ++ Z by unfold padS; rw [HCI.out, hm, hd])
            have HF2 := Lib.hid (show fitL W E R n (c + 1) from by
              intro i hi
              rcases Nat.lt_or_ge i c with h' | h'
              · exact H2.out.2.1 i h'
              · obtain rfl : i = c := by omega
                rw [HCI.out, hm]; exact hmW)
            have HCL := Lib.hid (cellL_succ W E R n c)
            have hcl := cellL_len W E R n c
            have hc60 : c ≤ 60 := Nat.le_trans (Nat.le_of_lt hmore.out) (Nat.le_trans (colN_le hR0) hel)
            have HI2 := Lib.hid (show I + R = n + (c + 1) * R by rw [H2.out.2.2.1, Nat.succ_mul]; omega)
            obtain ⟨S, hS⟩ : ∃ S, cellL W E R n c = S := ⟨_, rfl⟩
            rw [hS] at hcl
            replace HO5 := Lib.hid (show OwnS w5 wo.heap.size u11 S by rw [← hS]; exact HO5.out)
            replace HCL := Lib.hid (show cellL W E R n (c + 1) = S ++ [spS d ++ Z] by rw [HCL.out, hS, HPD.out])
            clear hd hS
            go_wp2_with fail
            refine (rep_any d _ hd12).mono ?_
            rintro e w6 ⟨rfl, b6⟩
            have HB6 := Lib.hid (HB5.out.trans (b6.mono hz5))
            have HO6 := Lib.hid (HO5.out.bel b6)
            have hz6 := HB6.out.size
            have hzz : (spS d ++ Z).size ≤ 9223372036854775807 := by rw [ByteArray.size_append]; omega
            clear b6 d0 d1 d2
            go_wp2_with (at_builtin; go_must (refine app_str rfl (.tmp 53) (.tmp 62) (by rfl) wo.heap.size _ S (by rfl) (by exact HO6.out.bel (bel_alloc _ _)) _ _ (spS d ++ Z) (by rfl) (by exact new_cell _ _ _) hzz (by omega) (by simp; omega) ?_; intro v7 w7 ho7 hg7 hat7; have B7 := (HB6.out.alloc hz6 (.cells #[.string (spS d ++ Z)] 9)).trans (below_own (base := wo.heap.size) hg7 (by simp; omega) (fun q hq => by have := (HO6.out.lt q hq).1; omega)); obtain ⟨f0, f1, f2⟩ := (HKR.out.below B7 kl).lay))
            go_roundw
            case rel =>
              exact ⟨c + 1, I + R, hmore.out, HF2.out, by go_num, HI2.out, by rw [HCL.out]; exact ho7, B7⟩
            case measure => simp [intOf]; omega
          · have hlt3 : W < m := Nat.lt_of_not_le hmW
            go_wp2
            go_ret2
            refine ⟨⟨_, .inr ⟨fun hF => ?_, rfl⟩⟩, ?_⟩
            · have := hF n hlt c hmore.out
              rw [HCI.out, hm] at this
              exact hmW this
            · exact H.out.2.2.trans (HB5.out.mono hbz)
        · have hR0 : 0 < R := h1.1
          have hce : c = colN E.length R n := Nat.le_antisymm H2.out.1 (Nat.le_of_not_lt fun h => hil (by rw [H2.out.2.2.1]; exact (colN_iff c hR0).2 h))
          have hcl := cellL_len W E R n c
          have hc60 : c ≤ 60 := Nat.le_trans H2.out.1 (Nat.le_trans (colN_le hR0) hel)
          have HLS := lineS_size H2.out.2.1
          have hl13 : (1 + W) * c ≤ 13 * 60 := Nat.mul_le_mul (by omega) hc60
          have HRF := Lib.hid (show rowsF W E R (n + 1) from rowsF_succ H.out.1 (by unfold rowF; rw [← hce]; exact H2.out.2.1))
          have HRL := Lib.hid (show rowsL W E R (n + 1) = rowsL W E R n ++ [lineS W E R n c] by rw [rowsL_succ]; unfold rowS; rw [← hce])
          have hrl := rowsL_len W E R n
          go_wp2_with fail
          refine (joins_any _ (cellL W E R n c) ⟨#[32]⟩ _ H2.out.2.2.2.1.strs (by omega) 12 (fun s hs => Nat.le_trans (cell_size H2.out.2.1 s hs) h3.2) (by omega) (by decide)).mono ?_
          rw [show joinS (cellL W E R n c) ⟨#[32]⟩ = lineS W E R n c from rfl]
          rintro e w5 ⟨rfl, b5⟩
          have HB5 := Lib.hid (bel_trans (H2.out.2.2.2.2) b5)
          have HO5 := Lib.hid (H.out.2.1.bel HB5.out)
          have HK5 := Lib.hid (HKR.out.below HB5.out kl)
          have HBw := Lib.hid (bel_trans H.out.2.2 HB5.out)
          have hz5 := HBw.out.size
          have hz5' := HK5.out.lt
          obtain ⟨Z, hZ⟩ : ∃ Z, lineS W E R n c = Z := ⟨_, rfl⟩
          obtain ⟨S, hS⟩ : ∃ S, rowsL W E R n = S := ⟨_, rfl⟩
          rw [hZ] at HLS
          rw [hS] at hrl
          rw [hZ]
          replace HO5 := Lib.hid (show OwnS w5 (w.heap.size + 1) u9 S by rw [← hS]; exact HO5.out)
          replace HRL := Lib.hid (show rowsL W E R (n + 1) = S ++ [Z] by rw [HRL.out, hS, hZ])
          clear b5 hZ hS d0 d1 d2 hce
          go_wp2_with (at_builtin; go_must (refine app_str rfl (.tmp 64) (.tmp 67) (by rfl) (w.heap.size + 1) _ S (by rfl) (by exact HO5.out.bel (bel_alloc _ _)) _ _ Z (by rfl) (by exact new_cell _ _ _) (by omega) (by omega) (by simp; omega) ?_; intro v6 w6 ho6 hg6 hat6; have K6 := (HK5.out.alloc (.cells #[.string Z] 9)).grown hg6 (fun e => by have := (HO5.out.lt _ e.symm).1; omega); have B6 := (HBw.out.alloc hz5 (.cells #[.string Z] 9)).trans (below_own (base := w.heap.size) hg6 (by simp; omega) (fun q hq => by have := (HO5.out.lt q hq).1; omega))))
          go_roundw
          case rel => exact ⟨n + 1, hlt, HRF.out, by go_num, by rw [HRL.out]; exact ho6, B6, K6⟩
          case measure => simp [intOf]; omega
    · have hnq : n = q0 := by omega
      subst hnq
      go_wp2
      go_ret2
      exact ⟨⟨_, .inl ⟨H.out.1, rfl, H.out.2.1.lower (Nat.le_succ _)⟩⟩, H.out.2.2⟩
end Go.Proofs.YtdmadaebeooaaaaGreatDoor
