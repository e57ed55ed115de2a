/-
  Sheets: l6Line, l6Page (spec).
-/
import Derived.Test.YtdmadaebeooaaaaGreatDoorShS
namespace Go.Proofs.YtdmadaebeooaaaaGreatDoor
open Go.RowKit
set_option linter.unusedVariables false
set_option linter.unusedSimpArgs false
set_option maxRecDepth 100000
attribute [local go_sem ↓] Go.wp_at_zero Go.wp_at_succ

/-- k runs over the entries of a row. -/
theorem row_at {l : List Int} {R A M p r c : Nat} (hM : R * A = M) (hr : r < R) (hc : c < A) : at_ (pgE l M p) (r + c * R) = at_ l (p * M + (r + c * R)) := by
  refine pgE_at l ?_
  have h1 : (c + 1) * R ≤ A * R := Nat.mul_le_mul_right R hc
  rw [Nat.succ_mul, Nat.mul_comm A R] at h1
  omega
theorem row_more {l : List Int} {R A M p r c : Nat} (hM : R * A = M) (hr : r < R) (hc : c < A) (h : p * M + (r + c * R) < l.length) : c < colN (pgE l M p).length R r := by
  refine (colN_iff c (by omega)).1 ?_
  rw [pgE_len]
  have h1 : (c + 1) * R ≤ A * R := Nat.mul_le_mul_right R hc
  rw [Nat.succ_mul, Nat.mul_comm A R] at h1
  omega
theorem row_done {l : List Int} {R A M p r c : Nat} (hM : R * A = M) (hR : 0 < R) (hc : c ≤ colN (pgE l M p).length R r) (h : ¬ c < A ∨ ¬ p * M + (r + c * R) < l.length) : c = colN (pgE l M p).length R r := by
  refine Nat.le_antisymm hc (Nat.le_of_not_lt fun h2 => ?_)
  have h3 := (colN_iff c hR).2 h2
  rw [pgE_len] at h3
  rcases h with h | h
  · have h1 : A * R ≤ c * R := Nat.mul_le_mul_right R (by omega)
    rw [Nat.mul_comm A R] at h1
    omega
  · omega

theorem wrapAdd {a b m : Nat} (h : a + b = m) (hm : m ≤ 1000000) : wrap64 ((a : Int) + (b : Int)) = (m : Int) := by
  have e : (a : Int) + (b : Int) = (m : Int) := by rw [← h]; push_cast; rfl
  rw [e]
  exact IntWalk.wrap64_in _ (by omega)
theorem le3 {pM cR pc r K R : Nat} (h1 : pM ≤ 7200) (h2 : cR ≤ 120) (h3 : pM + cR = pc) (h4 : pc + r = K) (h5 : r < R) (h6 : R ≤ 20) : pc ≤ 7320 ∧ K ≤ 7340 := by omega
theorem le3c {pM n R K : Nat} (h1 : pM ≤ 7200) (h2 : n < R) (h3 : R ≤ 20) (h4 : pM + n = K) : K ≤ 7220 := by omega
theorem le3b {pM cR pc r K P C : Nat} (h3 : pM + cR = pc) (h4 : pc + r = K) (hP : pM = P) (hC : C = cR) : K = P + (r + C) := by omega

theorem TxtB.open_ {s : ByteArray} {P : Prop} {e : Ending} (h : TxtB s P e) : ∃ t bb, e = .returned (.tuple #[.string t, .bool bb]) ∧ ((bb = true ∧ P ∧ t = s) ∨ (bb = false ∧ ¬ P)) := by
  rcases h with ⟨h1, h2⟩ | ⟨h1, t, h2⟩
  · exact ⟨_, _, h2, .inl ⟨rfl, h1, rfl⟩⟩
  · exact ⟨_, _, h2, .inr ⟨rfl, h1⟩⟩
set_option maxHeartbeats 400000 in
theorem l6Line_any (R A W M p r : Nat) (v : Value) (l : List Int) (w : World) (hv : Ints w v l) (h1 : 1 ≤ R ∧ R ≤ 20) (h2 : 1 ≤ A ∧ A ≤ 6) (h3 : 1 ≤ W ∧ W ≤ 12) (hl : l.length ≤ 60) (hM : R * A = M) (hr : r < R) (hp : p ≤ 60) :
    Calls Tryz.prog 99 #[.agg #[.int .i64 R, .int .i64 A, .int .i64 W], v, .int .i64 p, .int .i64 r] w fun e w' => TxtB (rowS W (pgE l M p) R r) (rowF W (pgE l M p) R r) e ∧ Below w.heap.size w w' := by
  have HW := Lib.hid hv.2
  have HM := Lib.hid hM
  have hM1 : M ≤ 120 := by rw [← hM]; exact mul_le_RA h1.2 h2.2
  obtain ⟨B, cp, rfl, hlc, hc, hrd⟩ := hv.open_
  have HR := Lib.hid hrd
  obtain ⟨pR, hpR⟩ : ∃ x : Nat, p * R = x := ⟨_, rfl⟩
  obtain ⟨pM, hpM⟩ : ∃ x : Nat, pR * A = x := ⟨_, rfl⟩
  have hpR1 : pR ≤ 1200 := by rw [← hpR]; exact Nat.mul_le_mul hp h1.2
  have hpM1 : pM ≤ 7200 := by rw [← hpM]; exact Nat.mul_le_mul hpR1 h2.2
  have hw1 := wrapMul hpR (by omega)
  have hw2 := wrapMul hpM (by omega)
  have HP := Lib.hid (show pM = p * M by rw [← hpM, ← hpR, ← hM, Nat.mul_assoc])
  have K1 := Blk.new w 30 [.int .i64 R, .int .i64 A, .int .i64 W]
  have B1 := bel_alloc w (.cells #[.int .i64 R, .int .i64 A, .int .i64 W] 30)
  clear hv hrd hM hpR hpM
  go_enter Tryz.func99, Tryz.ntmps99
  go_wp2_with fail
  generalize hW1 : w.alloc (.cells #[.int .i64 R, .int .i64 A, .int .i64 W] 30) = W1 at *
  clear hW1
  go_loopw [10, 11] (fun s i wr => ∃ c : Nat, c ≤ A ∧ c ≤ colN (pgE l M p).length R r ∧ fitL W (pgE l M p) R r c ∧ i = .int .i64 c ∧ s = .string (lineS W (pgE l M p) R r c) ∧ Below W1.heap.size W1 wr) (fun _ i _ => A - (intOf i).toNat)
  case atStart => exact ⟨0, by omega, Nat.zero_le _, fun i hi => by omega, rfl, rfl, Below.refl _ _⟩
  case round =>
    obtain ⟨c, hcA, hcN, hfit, rfl, rfl, hb⟩ := hrel
    have hlsz := lineS_size hfit
    have hlsz2 : (1 + W) * c ≤ 13 * 6 := Nat.mul_le_mul (by omega) (by omega)
    obtain ⟨c0, c1, c2⟩ := (K1.below hb K1.lt).lay
    obtain ⟨cR, hcR⟩ : ∃ x : Nat, c * R = x := ⟨_, rfl⟩
    have hcR1 : cR ≤ 120 := by rw [← hcR, Nat.mul_comm]; exact mul_le_RA h1.2 (by omega)
    have hw3 := wrapMul hcR (by omega)
    obtain ⟨pc, hpc⟩ : ∃ x : Nat, pM + cR = x := ⟨_, rfl⟩
    obtain ⟨K, hK⟩ : ∃ x : Nat, pc + r = x := ⟨_, rfl⟩
    have h34 := le3 hpM1 hcR1 hpc hK hr h1.2
    have hw4 := wrapAdd hpc (Nat.le_trans h34.1 (by decide))
    have hw5 := wrapAdd hK (Nat.le_trans h34.2 (by decide))
    have EK := le3b hpc hK HP.out hcR
    have hKb := h34.2
    have H := Lib.hid (And.intro hcN (And.intro hfit (And.intro hb (And.intro hcR EK))))
    have HQ := Lib.hid (And.intro hpR1 (And.intro hpM1 (And.intro hcR1 (And.intro hpc hK))))
    have hR0 : 0 < R := Nat.lt_of_lt_of_le Nat.zero_lt_one h1.1
    have hb0 := Lib.hid (bel_trans B1 hb)
    have hb1 := Lib.hid hb
    by_cases hlt : c < A
    · by_cases hk : K < l.length
      · have hl0 : 0 < l.length := Nat.lt_of_le_of_lt (Nat.zero_le _) hk
        obtain ⟨b, o, rfl, hbb, hcell⟩ := HR.out.ints hl0
        have hck := (hb0.out.cell (by exact hbb)).trans (hcell K hk)
        have hx := HW.out.at _ K
        have hat := Lib.hid (show at_ (pgE l M p) (r + c * R) = at_ l K by rw [row_at HM.out hr hlt, ← EK])
        have hmore := Lib.hid (row_more (l := l) (p := p) HM.out hr hlt (by rw [← EK]; exact hk))
        have hbr : b < wr.heap.size := Nat.lt_of_lt_of_le hbb hb0.out.size
        have hKl := K1.lt
        have hszr := hb.size
        clear hb hcN hcR EK hpR1 hpM1 hcR1 hpc hK h34 hcell
        have HS := Lib.hid (And.intro hfit (And.intro hlsz hlsz2))
        clear hfit hlsz hlsz2
        have tok1 : True := trivial
        go_wp2_with fail
        go_region_held3 (fun w' => w'.cell? ⟨b, o + K, none⟩ = some (.int .i64 (at_ l K)) ∧ w'.cell? ⟨w.heap.size, 2, none⟩ = some (.int .i64 W)) (first | exact ⟨hck, c2⟩ | exact ⟨hck', c2'⟩ | go_keep) (first
          | ((try go_simp); go_at_call 132; have _t := tok1; refine (l6Entry_any (at_ l K) W _ hx h3.2).mono ?_; rintro e w5 ⟨T, b5⟩; replace b5 : Below wr.heap.size wr w5 := (by first | exact b5 | exact bel_trans ((Below.refl _ _).drew) b5); obtain ⟨t, bb, rfl, hT⟩ := T.open_; replace hT := Lib.hid hT; have hck' := (b5.cell (by exact hbr)).trans hck; have c2' := (b5.cell (by exact Nat.lt_of_lt_of_le hKl hszr)).trans c2; clear tok1 T; (try dsimp only))
          | fail)
        all_goals
          have HB5 := Lib.hid (bel_trans hb0.out b5)
          have b5h := Lib.hid b5
          clear b5 hck hck' c0 c1 c2 c2'
          rcases hT.out with ⟨rfl, hP, rfl⟩ | ⟨rfl, hP⟩
          · have hps := padS_size hP
            have hfit2 := Lib.hid (show fitL W (pgE l M p) R r (c + 1) from by
              intro i hi
              rcases Nat.lt_or_ge i c with h' | h'
              · exact HS.out.1 i h'
              · obtain rfl : i = c := by omega
                rw [hat.out]; exact hP)
            have hls := Nat.le_trans HS.out.2.1 HS.out.2.2
            have hpw : (padS W (at_ l K)).size ≤ 12 := by rw [hps]; exact h3.2
            obtain ⟨L, hL⟩ : ∃ L, lineS W (pgE l M p) R r c = L := ⟨_, rfl⟩
            obtain ⟨Z, hZ⟩ : ∃ Z, padS W (at_ l K) = Z := ⟨_, rfl⟩
            rw [hL] at hls
            rw [hZ] at hpw
            rw [hL, hZ]
            clear hps hP
            by_cases hc0 : 0 < c
            · have NS := Lib.hid (show lineS W (pgE l M p) R r (c + 1) = L ++ ⟨#[32]⟩ ++ Z by rw [lineS_succ hc0, hat.out, hL, hZ])
              have hcat : ¬ 9223372036854775807 < L.size + 1 := by omega
              have hs2 : (L ++ ⟨#[32]⟩).size = L.size + 1 := by rw [ByteArray.size_append]; rfl
              have hcat2 : ¬ 9223372036854775807 < (L ++ ⟨#[32]⟩).size + Z.size := by omega
              have hcat3 : ¬ 9223372036854775807 < L.size + 1 + Z.size := by omega
              clear hL hZ
              go_wp2
              go_roundw
              case rel => exact ⟨c + 1, hlt, hmore.out, hfit2.out, by go_num, by rw [NS.out], bel_trans hb1.out b5h.out⟩
              case measure => simp [intOf]; omega
            · have e0 : c = 0 := by omega
              have NS := Lib.hid (show lineS W (pgE l M p) R r (c + 1) = L ++ Z by
                rw [← hL, ← hZ, ← hat.out, e0]
                exact lineS_one W _ R r)
              have hcat : ¬ 9223372036854775807 < L.size + Z.size := by omega
              clear hL hZ e0
              go_wp2
              go_roundw
              case rel => exact ⟨c + 1, hlt, hmore.out, hfit2.out, by go_num, by rw [NS.out], bel_trans hb1.out b5h.out⟩
              case measure => simp [intOf]; omega
          · have HN := Lib.hid hP
            clear hP
            go_wp2
            go_ret2
            refine ⟨.inr ⟨fun hF => ?_, _, rfl⟩, HB5.out⟩
            have := hF c hmore.out
            rw [hat.out] at this
            exact HN.out this
      · have HD := Lib.hid (row_done (l := l) (p := p) (r := r) HM.out hR0 hcN (.inr (by rw [← EK]; exact hk)))
        have HF := Lib.hid hfit
        clear hb hcN hfit hcR hlsz hlsz2 EK hpR1 hpM1 hcR1 hpc hK h34
        go_wp2
        go_ret2
        refine ⟨.inl ⟨?_, ?_⟩, hb0.out⟩
        · unfold rowF; rw [← HD.out]; exact HF.out
        · unfold rowS; rw [← HD.out]; rfl
    · have HD := Lib.hid (row_done (l := l) (p := p) (r := r) HM.out hR0 hcN (.inl hlt))
      have HF := Lib.hid hfit
      clear hb hcN hfit hcR hlsz hlsz2 EK hpR1 hpM1 hcR1 hpc hK h34
      go_wp2
      go_ret2
      refine ⟨.inl ⟨?_, ?_⟩, hb0.out⟩
      · unfold rowF; rw [← HD.out]; exact HF.out
      · unfold rowS; rw [← HD.out]; rfl

/-- What l6Page returns: lines and whether they fit. -/
def LinesB (w : World) (base : Nat) (ls : List ByteArray) (P : Prop) (e : Ending) : Prop := ∃ r, (P ∧ e = .returned (.tuple #[r, .bool true]) ∧ OwnS w base r ls) ∨ (¬ P ∧ e = .returned (.tuple #[r, .bool false]))

theorem rows_iff {l : List Int} {R A M p : Nat} (n : Nat) (hM : R * A = M) (hA : 1 ≤ A) : n < pgRows l R M p ↔ n < R ∧ p * M + n < l.length := by
  unfold pgRows
  rw [pgE_len]
  have : R * 1 ≤ R * A := Nat.mul_le_mul_left R hA
  omega
theorem rows_done {l : List Int} {R A M p n : Nat} (hM : R * A = M) (hA : 1 ≤ A) (hn : n ≤ pgRows l R M p) (h : ¬ n < R ∨ ¬ p * M + n < l.length) : n = pgRows l R M p := by
  have := rows_iff (l := l) (p := p) n hM hA
  omega

set_option maxHeartbeats 4000000 in
theorem l6Page_any (R A W M p : Nat) (v : Value) (l : List Int) (w : World) (hv : Ints w v l) (h1 : 1 ≤ R ∧ R ≤ 20) (h2 : 1 ≤ A ∧ A ≤ 6) (h3 : 1 ≤ W ∧ W ≤ 12) (hl : l.length ≤ 60) (hM : R * A = M) (hp : p ≤ 60) :
    Calls Tryz.prog 66 #[.agg #[.int .i64 R, .int .i64 A, .int .i64 W], v, .int .i64 p] w fun e w' => LinesB w' w.heap.size (pgL W l R M p) (pgF W l R M p) e ∧ Below w.heap.size w w' := by
  have HV := Lib.hid hv
  have HM := Lib.hid hM
  obtain ⟨B, cp, rfl, hlc, hc, hrd⟩ := hv.open_
  obtain ⟨pR, hpR⟩ : ∃ x : Nat, p * R = x := ⟨_, rfl⟩
  obtain ⟨pM, hpM⟩ : ∃ x : Nat, pR * A = x := ⟨_, rfl⟩
  have hpR1 : pR ≤ 1200 := by rw [← hpR]; exact Nat.mul_le_mul hp h1.2
  have hpM1 : pM ≤ 7200 := by rw [← hpM]; exact Nat.mul_le_mul hpR1 h2.2
  have hw1 := wrapMul hpR (Nat.le_trans hpR1 (by decide))
  have hw2 := wrapMul hpM (Nat.le_trans hpM1 (by decide))
  have HP := Lib.hid (show pM = p * M by rw [← hpM, ← hpR, ← hM, Nat.mul_assoc])
  have K1 := Blk.new w 30 [.int .i64 R, .int .i64 A, .int .i64 W]
  have B1 := bel_alloc w (.cells #[.int .i64 R, .int .i64 A, .int .i64 W] 30)
  have K1' := K1.alloc (.cells #[] 9)
  have B2 := B1.alloc (Nat.le_of_lt K1.lt) (.cells #[] 9)
  have O1 := OwnS.empty (w.alloc (.cells #[.int .i64 R, .int .i64 A, .int .i64 W] 30)) (w.heap.size + 1) (by simp)
  have hgt : rowsL W (pgE l M p) R 0 = [] := rfl
  clear hv hrd hM hpR hpM K1 B1 hpR1
  go_enter Tryz.func66, Tryz.ntmps66
  go_wp2_with fail
  generalize hW1 : (w.alloc (.cells #[.int .i64 R, .int .i64 A, .int .i64 W] 30)).alloc (.cells #[] 9) = W1 at *
  have hsz1 : w.heap.size + 1 < W1.heap.size := by rw [← hW1]; simp
  clear hW1
  go_loopw [8, 9] (fun s i wr => ∃ n : Nat, n ≤ pgRows l R M p ∧ rowsF W (pgE l M p) R n ∧ i = .int .i64 n ∧ OwnS wr (w.heap.size + 1) s (rowsL W (pgE l M p) R n) ∧ Below w.heap.size w wr ∧ Blk wr w.heap.size 30 [.int .i64 R, .int .i64 A, .int .i64 W]) (fun _ i _ => R - (intOf i).toNat)
  case atStart => exact ⟨0, Nat.zero_le _, fun r hr => absurd hr (Nat.not_lt_zero _), rfl, by rw [hgt]; simpa using O1, B2, K1'⟩
  case round =>
    obtain ⟨n, hn, hF, rfl, hO, hb, hK⟩ := hrel
    obtain ⟨c0, c1, c2⟩ := hK.lay
    have hKl := hK.lt
    clear O1 B2 K1'
    by_cases hlt : n < R
    · obtain ⟨K, hpc⟩ : ∃ x : Nat, pM + n = x := ⟨_, rfl⟩
      have h34 := le3c hpM1 hlt h1.2 hpc
      have hw4 := wrapAdd hpc (Nat.le_trans h34 (by decide))
      have EK := Lib.hid (show K = p * M + n by rw [← HP.out, hpc])
      by_cases hk : K < l.length
      · have hlt2 := Lib.hid ((rows_iff (l := l) (p := p) n HM.out h2.1).2 ⟨hlt, by rw [← EK.out]; exact hk⟩)
        have H := Lib.hid (And.intro hF (And.intro hO (And.intro hb hK)))
        clear hF hO hb hK hn hpc h34 hpM1
        go_wp2_with fail
        refine (l6Line_any R A W M p n _ l _ (HV.out.bel H.out.2.2.1) h1 h2 h3 hl HM.out hlt hp).mono ?_
        rintro e w5 ⟨T, b5⟩
        obtain ⟨t, bb, rfl, hT⟩ := T.open_
        have HB5 := Lib.hid (bel_trans H.out.2.2.1 b5)
        have HO5 := Lib.hid (H.out.2.1.bel b5)
        have K5 := Lib.hid (H.out.2.2.2.below b5 hKl)
        clear b5 T c0 c1 c2
        rcases hT with ⟨rfl, hP, rfl⟩ | ⟨rfl, hP⟩
        · have hsz := rowS_size hP (Nat.lt_of_lt_of_le Nat.zero_lt_one h1.1) h3.2 (by rw [pgE_len]; omega)
          have HP2 := Lib.hid (rowsF_succ H.out.1 hP)
          have SL := Lib.hid (rowsL_succ W (pgE l M p) R n)
          have hn60 : n ≤ 20 := by omega
          have hbz := HB5.out.size
          obtain ⟨Z, hZ⟩ : ∃ Z, rowS W (pgE l M p) R n = Z := ⟨_, rfl⟩
          obtain ⟨S, hS⟩ : ∃ S, rowsL W (pgE l M p) R n = S := ⟨_, rfl⟩
          have hSl : S.length = n := by rw [← hS, rowsL_len]
          rw [hZ] at hsz
          rw [hS] at HO5
          replace SL := Lib.hid (show rowsL W (pgE l M p) R (n + 1) = S ++ [Z] by rw [SL.out, hS, hZ])
          rw [hZ]
          clear hP hZ hS
          go_wp2_with (at_builtin; go_must (refine app_str rfl (.tmp 44) (.tmp 46) (by rfl) (w.heap.size + 1) _ S (by rfl) (by exact HO5.out.bel (bel_alloc _ _)) _ _ Z (by rfl) (by exact new_cell _ _ _) (by omega) (by omega) (by simp; omega) ?_; intro v6 w6 ho6 hg6 hat6; have K6 := (K5.out.alloc (.cells #[.string Z] 9)).grown hg6 (fun e => by have := (HO5.out.lt _ e.symm).1; omega); have B6 := (bel_trans HB5.out (bel_alloc w5 (.cells #[.string Z] 9))).trans (below_own (base := w.heap.size) hg6 (by simp; omega) (fun q hq => by have := (HO5.out.lt q hq).1; omega))))
          go_roundw
          case rel => exact ⟨n + 1, hlt2.out, HP2.out, by go_num, by rw [SL.out]; exact ho6, B6, K6⟩
          case measure => simp [intOf]; omega
        · have HN := Lib.hid hP
          clear hP
          go_wp2
          go_ret2
          exact ⟨⟨_, .inr ⟨fun hF => HN.out (hF n hlt2.out), rfl⟩⟩, HB5.out.alloc (by exact HB5.out.size) _⟩
      · have HD := Lib.hid (rows_done (l := l) (p := p) HM.out h2.1 hn (.inr (by rw [← EK.out]; exact hk)))
        have H := Lib.hid (And.intro hF (And.intro hO hb))
        clear hF hO hb hK hn hpc h34 hpM1
        go_wp2
        go_ret2
        refine ⟨⟨_, .inl ⟨?_, rfl, ?_⟩⟩, H.out.2.2⟩
        · unfold pgF; rw [← HD.out]; exact H.out.1
        · unfold pgL; rw [← HD.out]; exact H.out.2.1.lower (Nat.le_succ _)
    · have HD := Lib.hid (rows_done (l := l) (p := p) HM.out h2.1 hn (.inl hlt))
      have H := Lib.hid (And.intro hF (And.intro hO hb))
      clear hF hO hb hK hn hpM1
      go_wp2
      go_ret2
      refine ⟨⟨_, .inl ⟨?_, rfl, ?_⟩⟩, H.out.2.2⟩
      · unfold pgF; rw [← HD.out]; exact H.out.1
      · unfold pgL; rw [← HD.out]; exact H.out.2.1.lower (Nat.le_succ _)
end Go.Proofs.YtdmadaebeooaaaaGreatDoor
