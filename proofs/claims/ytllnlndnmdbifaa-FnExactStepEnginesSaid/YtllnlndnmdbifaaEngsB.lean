/-
  Lists of engines: marks, and the tests.
-/
import Derived.Test.YtllnlndnmdbifaaEngs
namespace Go.Proofs.Ytllnlndnmdbifaa
open Go.RowKit
set_option linter.unusedVariables false
set_option linter.unusedSimpArgs false
set_option maxRecDepth 100000
attribute [local go_sem ↓] Go.wp_at_zero Go.wp_at_succ

/-- Marked engines. -/
def mrkE (k : Nat) (ls : List (List ByteArray)) : List (List ByteArray) := genE (fun i => marksS (k + pre ls i) (eat ls i).length) ls.length
theorem mrkE_length (k : Nat) (ls : List (List ByteArray)) : (mrkE k ls).length = ls.length := genE_length _ _
theorem mrkE_at {k i : Nat} {ls : List (List ByteArray)} (h : i < ls.length) : eat (mrkE k ls) i = marksS (k + pre ls i) (eat ls i).length := eat_genE h
theorem pre_succ (ls : List (List ByteArray)) (i : Nat) : pre ls (i + 1) = pre ls i + (eat ls i).length := rfl

set_option maxHeartbeats 2000000 in
theorem markEngineS_any (v : Value) (ls : List (List ByteArray)) (k lo hi : Nat) (w : World) (hv : OwnE w lo hi v ls) (h1 : k + tot_ ls ≤ 10000000) :
    Calls Try.prog 28 #[v, .int .i64 k] w fun e w' => e = .returned (.int .i64 ((k + tot_ ls : Nat) : Int)) ∧ Rng w w' lo hi ∧ OwnE w' lo hi v (mrkE k ls) := by
  rcases hv with ⟨rfl, rfl⟩ | ⟨g, xs, rfl, hg, hgh, hblk, hl, hm, he, hd⟩
  · go_enter Try.func28, Try.ntmps28
    go_wp2_with fail
    go_loop [1, 5] (fun a i => a = .int .i64 k ∧ i = .int .i64 0) (fun _ _ => 0)
    case atStart => exact ⟨rfl, rfl⟩
    case round =>
      obtain ⟨rfl, rfl⟩ := hrel
      go_wp2
      go_ret
      exact ⟨rfl, Rng.refl _ _ _, .inl ⟨rfl, rfl⟩⟩
  · have HE := Lib.hid (And.intro he hd)
    have HL := Lib.hid hl
    have HK := Lib.hid hblk
    clear he hd hl
    go_enter Try.func28, Try.ntmps28
    go_wp2_with fail
    go_loopw [1, 5] (fun a i wr => ∃ j : Nat, j ≤ ls.length ∧ i = .int .i64 j ∧ a = .int .i64 ((k + pre ls j : Nat) : Int) ∧ Blk wr g 26 xs ∧ Rng w wr lo hi ∧ ∀ i, i < ls.length → OwnS wr lo (xat xs i) (if i < j then marksS (k + pre ls i) (eat ls i).length else eat ls i))
      (fun _ i _ => ls.length - (intOf i).toNat)
    case atStart => exact ⟨0, Nat.zero_le _, rfl, rfl, HK.out, Rng.refl _ _ _, fun i hi => by rw [if_neg (by omega)]; exact (HE.out.1 i hi).1⟩
    case round =>
      clear hblk HK
      obtain ⟨j, hj, rfl, rfl, hblk, hrng, hown⟩ := hrel
      have HO := Lib.hid (And.intro hrng hown)
      clear hrng hown
      by_cases hlt : j < ls.length
      · have hs := HO.out.2 j hlt
        rw [if_neg (by omega)] at hs
        obtain ⟨Ai, ci, hxi, -, -, -⟩ := hs.strs.open_
        have ck : wr.cell? ⟨g, j, none⟩ = some (xat xs j) := by rw [hblk.cell]; exact xat_get (by rw [HL.out]; exact hlt)
        have HXI := Lib.hid hxi
        rw [hxi] at ck hs
        have HS := Lib.hid hs
        have hK := Lib.hid hblk
        have hpj := tot_at hlt
        clear hs hxi hblk
        go_wp2_with fail
        refine (markStringS_any _ (eat ls j) (k + pre ls j) lo _ HS.out (by omega)).mono ?_
        rintro e w2 ⟨rfl, hg2, ho2⟩
        have HG := Lib.hid (And.intro hg2 ho2)
        have hps := Lib.hid (pre_succ ls j)
        clear hg2 ho2 ck
        rw [show k + pre ls j + (eat ls j).length = k + pre ls (j + 1) by rw [hps.out]; omega]
        go_wp2
        go_roundw
        case rel =>
          have hx2 := HXI.out
          refine ⟨j + 1, by omega, by go_num, rfl, hK.out.grown HG.out.1 (fun e => ?_), HO.out.1.trans (Rng.of_grown HG.out.1 (fun q hq => ?_)), fun i hi => ?_⟩
          · exact ((HE.out.1 j hlt).2 g (by rw [hx2]; exact e.symm)).2 rfl
          · rw [← hx2] at hq
            exact ⟨((HE.out.1 j hlt).1.lt q hq).1, ((HE.out.1 j hlt).2 q hq).1⟩
          · by_cases e : i = j
            · subst e
              rw [if_pos (by omega), hx2]
              exact HG.out.2
            · have h3 := HO.out.2 i hi
              have hne : ∀ q, (xat xs i).ownBlock = some q → (xat xs j).ownBlock ≠ some q := fun q hq hq2 => by
                rcases Nat.lt_or_gt_of_ne e with h | h
                · exact HE.out.2 i j h hlt q hq hq2
                · exact HE.out.2 j i h hi q hq2 hq
              rw [show (if i < j + 1 then marksS (k + pre ls i) (eat ls i).length else eat ls i) = (if i < j then marksS (k + pre ls i) (eat ls i).length else eat ls i) by
                by_cases h : i < j
                · rw [if_pos h, if_pos (by omega)]
                · rw [if_neg h, if_neg (by omega)]]
              exact h3.same fun q hq => HG.out.1.block q (h3.lt q hq).2 (fun e2 => by
                have := hne q hq
                rw [hx2] at this
                exact this e2.symm)
        case measure => simp [intOf]; omega
      · have hjl : j = ls.length := by omega
        have hK := Lib.hid hblk
        subst hjl
        clear hblk
        go_wp2
        go_ret
        refine ⟨rfl, HO.out.1, .inr ⟨g, xs, by rw [mrkE_length], hg, hgh, hK.out, by rw [mrkE_length]; exact HL.out, by rw [mrkE_length]; exact hm, fun i hi => ?_, fun i j hij hj => ?_⟩⟩
        · rw [mrkE_length] at hi
          have h3 := HO.out.2 i hi
          rw [if_pos hi] at h3
          rw [mrkE_at hi]
          exact ⟨h3, (HE.out.1 i hi).2⟩
        · rw [mrkE_length] at hj
          exact HE.out.2 i j hij hj

set_option maxHeartbeats 2000000 in
theorem heldEngineS_any (v : Value) (ls : List (List ByteArray)) (k : Nat) (w : World) (hv : Engs w v (mrkE k ls)) (h1 : k + tot_ ls ≤ 10000000) :
    Calls Try.prog 29 #[v, .int .i64 k] w fun e w' => e = .returned (.int .i64 ((k + tot_ ls : Nat) : Int)) ∧ Below w.heap.size w w' := by
  obtain ⟨A, c, xs, rfl, hlc, hc, hrd, hst⟩ := hv.open_
  rw [mrkE_length] at hlc hrd hst ⊢
  have HR := Lib.hid (And.intro hrd hst)
  clear hv hrd hst
  go_enter Try.func29, Try.ntmps29
  go_wp2_with fail
  go_loopw [1, 5] (fun a i wr => ∃ j : Nat, j ≤ ls.length ∧ i = .int .i64 j ∧ a = .int .i64 ((k + pre ls j : Nat) : Int) ∧ Below w.heap.size w wr) (fun _ i _ => ls.length - (intOf i).toNat)
  case atStart => exact ⟨0, Nat.zero_le _, rfl, rfl, Below.refl _ _⟩
  case round =>
    obtain ⟨j, hj, rfl, rfl, hb⟩ := hrel
    have HB := Lib.hid hb
    by_cases hlt : j < ls.length
    · obtain ⟨b, o, rfl, hbb, hcell⟩ := HR.out.1 (by omega)
      have hs := HR.out.2 j hlt
      obtain ⟨Ai, ci, hxi, -, -, -⟩ := hs.open_
      have ck : wr.cell? ⟨b, o + j, none⟩ = some (xat xs j) := (hb.cell (by exact hbb)).trans (hcell j hlt)
      rw [hxi] at ck hs
      rw [mrkE_at hlt] at hs ck
      have HS := Lib.hid (hs.bel hb)
      have hpj := tot_at hlt
      have hps := Lib.hid (pre_succ ls j)
      clear hb hcell hs hxi
      go_wp2_with fail
      refine (heldStringS_any _ (eat ls j).length (k + pre ls j) _ HS.out (by omega)).mono ?_
      rintro e w2 ⟨rfl, b2⟩
      have HB2 := Lib.hid (bel_trans HB.out b2)
      clear b2 ck
      rw [show k + pre ls j + (eat ls j).length = k + pre ls (j + 1) by rw [hps.out]; omega]
      have hneg : ¬ (((k + pre ls (j + 1) : Nat) : Int) < 0) := by omega
      go_wp2
      go_roundw
      case rel => exact ⟨j + 1, by omega, by go_num, by first | rfl | (simp; done) | go_num, HB2.out⟩
      case measure => simp [intOf]; omega
    · have hjl : j = ls.length := by omega
      subst hjl
      clear hb
      go_wp2
      go_ret
      exact ⟨by first | rfl | (simp; done) | go_num, HB.out⟩

/-- 1 to 10 valid engines. -/
def allOk (ls : List (List ByteArray)) : Bool := inB (ls.length : Int) 1 10 && ls.all engOk
theorem allOk_true {ls : List (List ByteArray)} : allOk ls = true ↔ 1 ≤ ls.length ∧ ls.length ≤ 10 ∧ ∀ i, i < ls.length → engOk (eat ls i) = true := by
  unfold allOk
  rw [Bool.and_eq_true, inB_true, List.all_eq_true]
  constructor
  · rintro ⟨h1, h2⟩
    refine ⟨by omega, by omega, fun i hi => h2 _ ?_⟩
    have : eat ls i = ls[i] := by simp [eat, List.getD, hi]
    rw [this]; exact List.getElem_mem hi
  · rintro ⟨h1, h2, h3⟩
    refine ⟨by omega, fun x hx => ?_⟩
    obtain ⟨i, hi, rfl⟩ := List.getElem_of_mem hx
    have := h3 i hi
    simpa [eat, List.getD, hi] using this
theorem allOk_len {ls : List (List ByteArray)} (h : ¬ (1 ≤ ls.length ∧ ls.length ≤ 10)) : allOk ls = false := by
  rw [Bool.eq_false_iff]; intro e; have := allOk_true.1 e; omega
theorem allOk_at {ls : List (List ByteArray)} {i : Nat} (hi : i < ls.length) (h : engOk (eat ls i) = false) : allOk ls = false := by
  rw [Bool.eq_false_iff]; intro e; rw [(allOk_true.1 e).2.2 i hi] at h; cases h

set_option maxHeartbeats 2000000 in
theorem l7All_any (v : Value) (ls : List (List ByteArray)) (w : World) (hv : Engs w v ls) :
    Calls Try.prog 86 #[v] w fun e w' => e = .returned (.bool (allOk ls)) ∧ Below w.heap.size w w' := by
  obtain ⟨A, c, xs, rfl, hlc, hc, hrd, hst⟩ := hv.open_
  have HR := Lib.hid (And.intro hrd hst)
  clear hv hrd hst
  go_enter Try.func86, Try.ntmps86
  go_wp2_with fail
  go_loopw [3] (fun i wr => ∃ j : Nat, j ≤ ls.length ∧ i = .int .i64 j ∧ (∀ i, i < j → engOk (eat ls i) = true) ∧ Below w.heap.size w wr) (fun i _ => ls.length - (intOf i).toNat)
  case atStart => exact ⟨0, Nat.zero_le _, rfl, fun i hi => absurd hi (by omega), Below.refl _ _⟩
  case round =>
    obtain ⟨j, hj, rfl, hall, hb⟩ := hrel
    have HB := Lib.hid (And.intro hb hall)
    by_cases hlt : j < ls.length
    · obtain ⟨b, o, rfl, hbb, hcell⟩ := HR.out.1 (by omega)
      have hs := HR.out.2 j hlt
      obtain ⟨Ai, ci, hxi, -, -, -⟩ := hs.open_
      have ck : wr.cell? ⟨b, o + j, none⟩ = some (xat xs j) := (hb.cell (by exact hbb)).trans (hcell j hlt)
      rw [hxi] at ck hs
      have HS := Lib.hid (hs.bel hb)
      clear hb hcell hs hxi hall
      go_wp2_with fail
      refine (specEng_any _ (eat ls j) _ HS.out).mono ?_
      rintro e w2 ⟨rfl, b2⟩
      have HB2 := Lib.hid (bel_trans HB.out.1 b2)
      clear b2 ck
      cases he : engOk (eat ls j)
      · have HN := Lib.hid (allOk_at hlt he)
        go_wp2
        go_ret
        exact ⟨ret_bool HN.out.symm, HB2.out⟩
      · have HE := Lib.hid he
        clear he
        go_wp2
        go_roundw
        case rel => exact ⟨j + 1, by omega, by go_num, toSucc HB.out.2 HE.out, HB2.out⟩
        case measure => simp [intOf]; omega
    · have hjl : j = ls.length := by omega
      subst hjl
      clear hb hall
      cases hq : inB (ls.length : Int) 1 10
      · have HN := Lib.hid (allOk_len (ls := ls) (by have := inB_false.1 hq; omega))
        go_wp2_with (go_at_call 87; refine (l1In_any _ _ _ _).mono ?_; rintro e w' ⟨rfl, rfl⟩)
        go_ret
        exact ⟨ret_bool HN.out.symm, HB.out.1⟩
      · have HN := Lib.hid (allOk_true.2 (show 1 ≤ ls.length ∧ ls.length ≤ 10 ∧ _ from ⟨by have := inB_true.1 hq; omega, by have := inB_true.1 hq; omega, HB.out.2⟩))
        go_wp2_with (go_at_call 87; refine (l1In_any _ _ _ _).mono ?_; rintro e w' ⟨rfl, rfl⟩)
        go_ret
        exact ⟨ret_bool HN.out.symm, HB.out.1⟩

set_option maxHeartbeats 2000000 in
theorem enginesValid_any (v : Value) (ls : List (List ByteArray)) (w : World) (hv : Engs w v ls) :
    Calls Try.prog 90 #[v] w fun e w' => e = .returned (.bool (allOk ls)) ∧ Below w.heap.size w w' := by
  obtain ⟨A, c, xs, rfl, hlc, hc, hrd, hst⟩ := hv.open_
  have HR := Lib.hid (And.intro hrd hst)
  clear hv hrd hst
  by_cases h1 : (ls.length : Int) < 1
  · have HN := Lib.hid (allOk_len (ls := ls) (by omega))
    go_enter Try.func90, Try.ntmps90
    go_wp2
    go_ret
    exact ⟨ret_bool HN.out.symm, Below.refl _ _⟩
  · by_cases h10 : 10 < (ls.length : Int)
    · have HN := Lib.hid (allOk_len (ls := ls) (by omega))
      go_enter Try.func90, Try.ntmps90
      go_wp2
      go_ret
      exact ⟨ret_bool HN.out.symm, Below.refl _ _⟩
    · go_enter Try.func90, Try.ntmps90
      go_wp2_with fail
      go_loopw [15] (fun i wr => ∃ j : Nat, j ≤ ls.length ∧ i = .int .i64 j ∧ (∀ i, i < j → engOk (eat ls i) = true) ∧ Below w.heap.size w wr) (fun i _ => ls.length - (intOf i).toNat)
      case atStart => exact ⟨0, Nat.zero_le _, rfl, fun i hi => absurd hi (by omega), Below.refl _ _⟩
      case round =>
        obtain ⟨j, hj, rfl, hall, hb⟩ := hrel
        have HB := Lib.hid (And.intro hb hall)
        by_cases hlt : j < ls.length
        · obtain ⟨b, o, rfl, hbb, hcell⟩ := HR.out.1 (by omega)
          have hs := HR.out.2 j hlt
          obtain ⟨Ai, ci, hxi, -, -, -⟩ := hs.open_
          have ck : wr.cell? ⟨b, o + j, none⟩ = some (xat xs j) := (hb.cell (by exact hbb)).trans (hcell j hlt)
          rw [hxi] at ck hs
          have HS := Lib.hid (hs.bel hb)
          clear hb hcell hs hxi hall
          go_wp2_with fail
          refine (implEng_any _ (eat ls j) _ (HS.out.bel (bel_alloc _ _))).mono ?_
          rintro e w2 ⟨rfl, b2⟩
          have HB2 := Lib.hid (bel_trans (bel_trans HB.out.1 (bel_alloc _ _)) b2)
          clear b2 ck
          cases he : engOk (eat ls j)
          · have HN := Lib.hid (allOk_at hlt he)
            go_wp2
            go_ret
            exact ⟨ret_bool HN.out.symm, HB2.out⟩
          · have HE := Lib.hid he
            clear he
            go_wp2
            go_roundw
            case rel => exact ⟨j + 1, by omega, by go_num, toSucc HB.out.2 HE.out, HB2.out⟩
            case measure => simp [intOf]; omega
        · have hjl : j = ls.length := by omega
          subst hjl
          have HN := Lib.hid (allOk_true.2 (show 1 ≤ ls.length ∧ ls.length ≤ 10 ∧ _ from ⟨by omega, by omega, HB.out.2⟩))
          clear hb hall
          go_wp2
          go_ret
          exact ⟨ret_bool HN.out.symm, HB.out.1⟩

end Go.Proofs.Ytllnlndnmdbifaa
