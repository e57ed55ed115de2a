import Derived.Test.YtpniljcnknknoaaGreatDoorAllPlA
import Derived.Test.YtpniljcnknknoaaGreatDoorFmt
import Derived.Deep.RegionHeld3
import Derived.Test.YtpniljcnknknoaaGreatDoorDrawC
import Derived.Test.YtpniljcnknknoaaGreatDoorJdA
/-
  FormatPlan (impl): which segments are a plan, and its text.
-/
namespace Go.Proofs.YtpniljcnknknoaaGreatDoor
open Go.RowKit
set_option linter.unusedVariables false
set_option linter.unusedSimpArgs false
set_option maxRecDepth 100000
attribute [local go_sem ↓] Go.wp_at_zero Go.wp_at_succ

/-- Whether a segment may stand in a plan. -/
def sgOk (n : Nat) (p : List Int) : Bool := inB (n : Int) 1 60 && (valOk p 0 n && tableOk (valL p 0 n))
def sgSum : List (Nat × List Int) → Nat
  | [] => 0
  | x :: r => x.1 + sgSum r
theorem sgSum_app (a b : List (Nat × List Int)) : sgSum (a ++ b) = sgSum a + sgSum b := by
  induction a with
  | nil => simp [sgSum]
  | cons x r ih => rw [List.cons_append, sgSum, sgSum, ih, Nat.add_assoc]
def plOk (ps : List (Nat × List Int)) : Bool := (ps.all fun x => sgOk x.1 x.2) && (decide (sgSum ps ≤ 60) && decide (1 ≤ ps.length))
theorem pl_bad {ps : List (Nat × List Int)} {k : Nat} (hk : k < ps.length) (h : sgOk (sgn ps k) (sgp ps k) = false) : plOk ps = false := by
  unfold plOk
  have : (ps.all fun x => sgOk x.1 x.2) = false := by
    rw [Bool.eq_false_iff]
    intro ha
    rw [List.all_eq_true] at ha
    have e : (sgn ps k, sgp ps k) = ps[k] := by simp [sgn, sgp, List.getD, hk]
    have := ha ps[k] (List.getElem_mem hk)
    rw [← e] at this
    rw [h] at this
    cases this
  rw [this]
  rfl
theorem sgSum_take {ps : List (Nat × List Int)} (k : Nat) : sgSum (ps.take k) ≤ sgSum ps := by
  have := sgSum_app (ps.take k) (ps.drop k)
  rw [List.take_append_drop] at this
  omega
theorem pl_long {ps : List (Nat × List Int)} {k : Nat} (h : 60 < sgSum (ps.take k)) : plOk ps = false := by
  unfold plOk
  have h2 := sgSum_take (ps := ps) k
  have : decide (sgSum ps ≤ 60) = false := decide_eq_false (by omega)
  rw [this]
  simp
theorem pl_end {ps : List (Nat × List Int)} (ha : ∀ j, j < ps.length → sgOk (sgn ps j) (sgp ps j) = true) (h : sgSum ps ≤ 60) : plOk ps = decide (1 ≤ ps.length) := by
  unfold plOk
  have : (ps.all fun x => sgOk x.1 x.2) = true := by
    rw [List.all_eq_true]
    intro x hx
    obtain ⟨j, hj, rfl⟩ := List.getElem_of_mem hx
    have e : (sgn ps j, sgp ps j) = ps[j] := by simp [sgn, sgp, List.getD, hj]
    have := ha j hj
    rw [← e]
    exact this
  rw [this]
  simp [h]
def segS (x : Nat × List Int) : ByteArray := itoaS (x.1 : Int) ++ ⟨#[58]⟩ ++ polyS x.2
def planS (ps : List (Nat × List Int)) : ByteArray := if plOk ps = true then joinS (ps.map segS) ⟨#[47]⟩ else ⟨#[]⟩
set_option maxHeartbeats 1000000 in
theorem segVal_any (n : Nat) (u : Value) (p : List Int) (w : World) (hu : Ints w u p) (hn : n ≤ 1000000) :
    Calls Tryz.prog 168 #[.agg #[.int .i64 n, u]] w fun e w' => e = .returned (.bool (sgOk n p)) ∧ Below w.heap.size w w' := by
  have HU := Lib.hid hu
  obtain ⟨A, c, rfl, hlc, hc, -⟩ := hu.open_
  have K1 := Blk.new w 118 [.int .i64 n, .slice A p.length c]
  have B1 := Lib.hid (bel_alloc w (.cells #[.int .i64 n, .slice A p.length c] 118))
  obtain ⟨x0, x1, -, -⟩ := K1.two
  clear hu K1
  go_enter Tryz.func168, Tryz.ntmps168
  by_cases h1 : (n : Int) < 1
  · have HN := Lib.hid (show sgOk n p = false by simp [sgOk, inB]; omega)
    have t1 : decide ((n : Int) < 1) = true := decide_eq_true h1
    clear h1
    go_wp2
    go_ret
    exact ⟨by rw [HN.out]; rfl, B1.out⟩
  · have t1 : decide ((n : Int) < 1) = false := decide_eq_false h1
    by_cases h2 : (60 : Int) < (n : Int)
    · have HN := Lib.hid (show sgOk n p = false by simp [sgOk, inB]; omega)
      have t2 : decide ((60 : Int) < (n : Int)) = true := decide_eq_true h2
      clear h1 h2
      go_wp2
      go_ret
      exact ⟨by rw [HN.out]; rfl, B1.out⟩
    · have HN := Lib.hid (show sgOk n p = (valOk p 0 n && tableOk (valL p 0 n)) by
        unfold sgOk
        rw [inB_true.2 (by omega)]
        rfl)
      have t2 : decide ((60 : Int) < (n : Int)) = false := decide_eq_false h2
      clear h1 h2
      go_wp2_with fail
      refine (implValues_any _ p 0 n _ (HU.out.bel B1.out) (by omega) (by omega)).mono ?_
      rintro e w2 ⟨r, rfl, o2, b2⟩
      have HO := Lib.hid o2.ints
      have HB := Lib.hid (bel_trans B1.out b2)
      obtain ⟨A2, c2, rfl, -, -, -⟩ := o2.ints.open_
      clear o2 b2 x0 x1
      cases hv : valOk p 0 n
      · go_wp2
        go_ret
        exact ⟨by rw [HN.out, hv]; rfl, HB.out⟩
      · go_wp2_with fail
        refine (implTable_any _ _ _ HO.out).mono ?_
        rintro e w3 ⟨rfl, rfl⟩
        go_wp2
        go_ret
        exact ⟨by rw [HN.out, hv]; rfl, HB.out⟩
theorem sg_take' {ps : List (Nat × List Int)} {k : Nat} (h : k < ps.length) : ps.take (k + 1) = ps.take k ++ [(sgn ps k, sgp ps k)] := by
  have e : (sgn ps k, sgp ps k) = ps[k] := by simp [sgn, sgp, List.getD, h]
  rw [e, List.take_add_one, List.getElem?_eq_getElem h]
  rfl
theorem sgSum_next {ps : List (Nat × List Int)} {k : Nat} (h : k < ps.length) : sgSum (ps.take (k + 1)) = sgSum (ps.take k) + sgn ps k := by
  rw [sg_take' h, sgSum_app]
  rfl
set_option maxHeartbeats 2000000 in
theorem planVal_any (v : Value) (ps : List (Nat × List Int)) (w : World) (hv : SegR w v ps) (hl : ps.length ≤ 1000000) (hn : ∀ k, k < ps.length → sgn ps k ≤ 1000) :
    Calls Tryz.prog 101 #[v] w fun e w' => e = .returned (.bool (plOk ps)) ∧ Below w.heap.size w w' := by
  have HV := Lib.hid hv
  have HNN := Lib.hid hn
  obtain ⟨us, A, c, h1, rfl, h3, h4, h5, h6⟩ := hv
  have H5 := Lib.hid h5
  have H6 := Lib.hid h6
  clear h5 h6 hn
  go_enter Tryz.func101, Tryz.ntmps101
  go_wp2
  go_loopw [3, 8] (fun t i wr => ∃ k : Nat, k ≤ ps.length ∧ i = .int .i64 k ∧ t = .int .i64 (sgSum (ps.take k) : Nat) ∧ sgSum (ps.take k) ≤ 60 ∧ (∀ j, j < k → sgOk (sgn ps j) (sgp ps j) = true) ∧ Below w.heap.size w wr) (fun _ i _ => ps.length - (intOf i).toNat)
  case atStart => exact ⟨0, Nat.zero_le _, rfl, rfl, Nat.zero_le _, fun j hj => absurd hj (by omega), Below.refl _ _⟩
  case round =>
    obtain ⟨k, hk, rfl, rfl, hs, hall, hb⟩ := hrel
    have H := Lib.hid (And.intro hall hb)
    have hz := hb.size
    clear hall hb
    by_cases hlt : k < ps.length
    · obtain ⟨b, o, rfl, hbb, hcell⟩ := H5.out (by omega)
      obtain ⟨e0, e1⟩ := hcell k hlt
      have y0 := (H.out.2.cell (p := ⟨b, o + k * 2, none⟩) hbb).trans e0
      have y1 := (H.out.2.cell (p := ⟨b, o + k * 2 + 1, none⟩) hbb).trans e1
      have HI := Lib.hid ((H6.out k hlt).bel H.out.2)
      have hn := HNN.out k hlt
      have HSN := Lib.hid (sgSum_next hlt)
      have HBAD := Lib.hid (fun h => pl_bad (ps := ps) hlt h)
      have HLONG := Lib.hid (fun h => pl_long (ps := ps) (k := k + 1) h)
      have HALL := Lib.hid (fun h => toSucc H.out.1 (show (fun j => sgOk (sgn ps j) (sgp ps j) = true) k from h))
      obtain ⟨n, hnn⟩ : ∃ n, sgn ps k = n := ⟨_, rfl⟩
      obtain ⟨X, hX⟩ : ∃ X, sgp ps k = X := ⟨_, rfl⟩
      obtain ⟨u, hu⟩ : ∃ u, sgu us k = u := ⟨_, rfl⟩
      rw [hnn] at y0 HSN hn HBAD HALL
      rw [hu] at y1 HI
      rw [hX] at HI HBAD HALL
      clear hnn hX hu e0 e1 hcell
      obtain ⟨A3, c3, rfl, -, -, -⟩ := HI.out.open_
      have K5 := Blk.new wr 118 [.int .i64 n, .slice A3 X.length c3]
      have BX := Lib.hid (bel_alloc wr (.cells #[.int .i64 n, .slice A3 X.length c3] 118))
      obtain ⟨t0, t1, -, -⟩ := K5.two
      have HK5 := Lib.hid K5
      obtain ⟨S, hS⟩ : ∃ S, sgSum (ps.take k) = S := ⟨_, rfl⟩
      rw [hS] at hs HSN ⊢
      clear hS K5
      go_wp2_with fail
      clear t0 t1
      refine (segVal_any n _ X _ (HI.out.bel BX.out) (by omega)).mono ?_
      rintro e w5 ⟨rfl, b5⟩
      have HB5 := Lib.hid (bel_trans (bel_trans H.out.2 BX.out) b5)
      obtain ⟨t0, t1, -, -⟩ := (HK5.out.below b5 HK5.out.lt).two
      clear b5
      cases hq : sgOk n X
      · have HZ := Lib.hid (HBAD.out hq)
        go_wp2
        go_ret
        exact ⟨by rw [HZ.out]; rfl, HB5.out⟩
      · have HZ := Lib.hid (HALL.out hq)
        clear hq
        by_cases hgt : (60 : Int) < (S : Int) + (n : Int)
        · have HL := Lib.hid (HLONG.out (by rw [HSN.out]; omega))
          go_wp2
          go_ret
          exact ⟨by rw [HL.out]; rfl, HB5.out⟩
        · go_wp2
          go_roundw
          case rel => exact ⟨k + 1, hlt, by go_num, by rw [HSN.out]; go_num, by rw [HSN.out]; omega, HZ.out, HB5.out⟩
          case measure => simp [intOf]; omega
    · obtain rfl : k = ps.length := by omega
      have HS := Lib.hid (show plOk ps = decide (1 ≤ ps.length) from pl_end H.out.1 (by rw [List.take_length] at hs; exact hs))
      rw [List.take_length] at hs ⊢
      go_wp2
      go_ret
      exact ⟨by rw [HS.out]; simp; omega, H.out.2⟩
theorem polyS_le (p : List Int) (h : Wf p) : (polyS p).size ≤ 154 := by
  unfold polyS
  split
  · rename_i hp
    have h1 := numsS_size h
    have h2 := (polyOk_true.1 hp).2.1
    omega
  · exact Nat.zero_le _
theorem segS_size (x : Nat × List Int) (h : Wf x.2) (hn : x.1 ≤ 1000000) : (segS x).size ≤ 200 := by
  unfold segS
  have h1 := itoaS_size (n := (x.1 : Int)) (by omega) (by omega)
  have h2 := polyS_le _ h
  have : (⟨#[58]⟩ : ByteArray).size = 1 := rfl
  rw [ByteArray.size_append, ByteArray.size_append]
  omega
theorem segs_set {ps : List (Nat × List Int)} {cs : List Value} {k : Nat} (hl : cs.length = ps.length) (hk : k < ps.length) (h : ∀ j, j < k → cs[j]? = some (.string (segS (sgn ps j, sgp ps j)))) :
    ∀ j, j < k + 1 → (cs.set k (.string (segS (sgn ps k, sgp ps k))))[j]? = some (.string (segS (sgn ps j, sgp ps j))) := by
  intro j hj
  by_cases e : j = k
  · subst e; rw [List.getElem?_set_self (by omega)]
  · rw [List.getElem?_set_ne (by omega)]; exact h j (by omega)
theorem segs_gen (ps : List (Nat × List Int)) : genS (fun j => segS (sgn ps j, sgp ps j)) ps.length = ps.map segS := by
  unfold genS
  apply List.ext_getElem
  · simp
  · intro i h1 h2
    simp at h1
    simp [sgn, sgp, List.getD, h1]
set_option maxHeartbeats 4000000 in
theorem implFpl_any (v : Value) (ps : List (Nat × List Int)) (w : World) (hv : SegR w v ps) (hl : ps.length ≤ 1000) (hn : ∀ k, k < ps.length → sgn ps k ≤ 1000) (ht : Tab w) :
    Calls Tryz.prog 38 #[v] w fun e w' => e = .returned (.string (planS ps)) ∧ Below w.heap.size w w' := by
  have HV := Lib.hid hv
  have HNN := Lib.hid hn
  have HT := Lib.hid ht
  obtain ⟨us, A, c, h1, rfl, h3, h4, h5, h6⟩ := hv
  have H5 := Lib.hid h5
  have H6 := Lib.hid h6
  have hmk := fun W => Tryz.mkStrs ps.length (by omega) W
  clear h5 h6 hn ht
  go_enter Tryz.func38, Tryz.ntmps38
  go_wp2_with fail
  refine (planVal_any _ ps _ HV.out (by omega) HNN.out).mono ?_
  rintro e w2 ⟨rfl, b2⟩
  have HB := Lib.hid b2
  clear b2
  cases hq : plOk ps
  · have HZ := Lib.hid (show planS ps = ⟨#[]⟩ by simp [planS, hq])
    go_wp2
    go_ret
    exact ⟨by rw [HZ.out]; rfl, HB.out⟩
  · have HZ := Lib.hid (show planS ps = joinS (ps.map segS) ⟨#[47]⟩ by simp [planS, hq])
    clear hq
    have KS := Blk.new w2 9 (reps ps.length (.string ⟨#[]⟩))
    have BS := Lib.hid (bel_trans HB.out (bel_alloc w2 (.cells (reps ps.length (.string ⟨#[]⟩)).toArray 9)))
    go_wp2_with fail
    generalize hW : w2.alloc (.cells (reps ps.length (.string ⟨#[]⟩)).toArray 9) = W at *
    have hWz : W.heap.size = w2.heap.size + 1 := by rw [← hW]; simp
    have hz2 := HB.out.size
    clear hW
    go_loopw [14] (fun i wr => ∃ (k : Nat) (cs : List Value), k ≤ ps.length ∧ i = .int .i64 k ∧ Blk wr w2.heap.size 9 cs ∧ cs.length = ps.length ∧ (∀ j, j < k → cs[j]? = some (.string (segS (sgn ps j, sgp ps j)))) ∧ Below w.heap.size w wr ∧ w2.heap.size + 1 ≤ wr.heap.size) (fun i _ => ps.length - (intOf i).toNat)
    case atStart => exact ⟨0, _, Nat.zero_le _, rfl, KS, reps_length _ _, fun j hj => absurd hj (by omega), BS.out, by omega⟩
    case round =>
      obtain ⟨k, cs, hk, rfl, hbk, hcl, hcs, hb, hz⟩ := hrel
      have H := Lib.hid (And.intro hcl (And.intro hcs hb))
      have HBK := Lib.hid hbk
      clear hcl hcs hb KS
      by_cases hlt : k < ps.length
      · obtain ⟨b, o, rfl, hbb, hcell⟩ := H5.out (by omega)
        obtain ⟨e0, e1⟩ := hcell k hlt
        have y0 := (H.out.2.2.cell (p := ⟨b, o + k * 2, none⟩) hbb).trans e0
        have y1 := (H.out.2.2.cell (p := ⟨b, o + k * 2 + 1, none⟩) hbb).trans e1
        have HI := Lib.hid ((H6.out k hlt).bel H.out.2.2)
        have hn := HNN.out k hlt
        have HSET := Lib.hid (segs_set H.out.1 hlt H.out.2.1)
        have hss := segS_size (sgn ps k, sgp ps k) (H6.out k hlt).2 (by show sgn ps k ≤ 1000000; omega)
        obtain ⟨n, hnn⟩ : ∃ n, sgn ps k = n := ⟨_, rfl⟩
        obtain ⟨X, hX⟩ : ∃ X, sgp ps k = X := ⟨_, rfl⟩
        obtain ⟨u, hu⟩ : ∃ u, sgu us k = u := ⟨_, rfl⟩
        rw [hnn] at y0 hn hss HSET
        rw [hu] at y1 HI
        rw [hX] at HI hss HSET
        clear hX hu e0 e1 hcell
        obtain ⟨A3, c3, rfl, -, -, -⟩ := HI.out.open_
        have K5 := Blk.new wr 118 [.int .i64 n, .slice A3 X.length c3]
        have BX := Lib.hid (bel_alloc wr (.cells #[.int .i64 n, .slice A3 X.length c3] 118))
        obtain ⟨t0, t1, -, -⟩ := K5.two
        have HK5 := Lib.hid K5
        have hi1 := itoaS_size (n := (n : Int)) (by omega) (by omega)
        have hi2 := polyS_le X HI.out.2
        have HSEG : segS (n, X) = itoaS n ++ ⟨#[58]⟩ ++ polyS X := rfl
        have HFP := Lib.hid (fun w (h1 : Ints w (.slice A3 X.length c3) X) (h2 : Tab w) => implFP_any (.slice A3 X.length c3) X w h1 h2)
        have HIT := Lib.hid (fun w (h2 : Tab w) => itoa_any (n : Int) w (by omega) h2)
        obtain ⟨I, hI⟩ : ∃ I, itoaS (n : Int) = I := ⟨_, rfl⟩
        obtain ⟨J, hJ⟩ : ∃ J, polyS X = J := ⟨_, rfl⟩
        rw [hI, hJ] at HSEG
        rw [hI] at hi1 HIT
        rw [hJ] at hi2 HFP
        rw [HSEG] at HSET
        clear hI hJ HSEG
        have g1 : ¬ 9223372036854775807 < I.size + 1 := by omega
        have g2 : ¬ 9223372036854775807 < I.size + 1 + J.size := by omega
        have r1 : (I ++ ⟨#[58]⟩).size = I.size + 1 := by rw [ByteArray.size_append]; rfl
        have r2 : (I ++ ⟨#[58]⟩ ++ J).size = I.size + 1 + J.size := by rw [ByteArray.size_append, r1]
        have HBX := Lib.hid (hbk.alloc (.cells #[.int .i64 n, .slice A3 X.length c3] 118))
        have HB0 := Lib.hid (bel_trans H.out.2.2 BX.out)
        have HI0 := Lib.hid (HI.out.bel BX.out)
        have hkc : k < cs.length := by rw [H.out.1]; exact hlt
        have hz5 : w2.heap.size + 1 ≤ (wr.alloc (.cells #[.int .i64 n, .slice A3 X.length c3] 118)).heap.size := by simp; omega
        have hk5 := K5.lt
        have hne : wr.heap.size ≠ w2.heap.size := by omega
        have tok1 : True := trivial
        have tok2 : True := trivial
        clear hbk hss hnn K5
        go_wp2_with fail
        generalize hW5 : wr.alloc (.cells #[.int .i64 n, .slice A3 X.length c3] 118) = W5 at *
        clear hW5
        go_region_law (first
          | ((try go_simp); go_at_call 102; have _t := tok1; go_loud (refine (HIT.out _ (by first | exact HT.out.bel HB0.out | exact (HT.out.bel HB0.out).bel ((Below.refl _ _).drew))).mono ?_; rintro e w6 ⟨rfl, b⟩; replace b : Below W5.heap.size W5 w6 := (by first | exact b | exact bel_trans ((Below.refl _ _).drew) b); have HK6 := Lib.hid (HK5.out.below b hk5); have HB6 := Lib.hid (bel_trans HB0.out b); have HI6 := Lib.hid (HI0.out.bel b); have HS6 := Lib.hid (HBX.out.below b HBX.out.lt); obtain ⟨s0, s1, -, -⟩ := HK6.out.two; clear tok1 b; (try dsimp only)))
          | ((try go_simp); go_at_call 15; have _t := tok2; go_loud (refine (HFP.out _ HI6.out (HT.out.bel HB6.out)).mono ?_; rintro e w7 ⟨rfl, b⟩; have HB7 := Lib.hid (bel_trans HB6.out b); have HS7 := Lib.hid (HS6.out.below b HS6.out.lt); have f7 := HS7.out.frozen k; have x7 : w7.cell? ⟨w2.heap.size, k, none⟩ = some (cs[k]'hkc) := (by rw [HS7.out.cell]; exact List.getElem?_eq_getElem _); have hz7 := b.size; clear tok2 b; (try dsimp only)))
          | fail)
        all_goals
          have HS8 := Lib.hid (HS7.out.set_ k (.string (I ++ ⟨#[58]⟩ ++ J)))
          have HB8 := Lib.hid (HB7.out.setCell (p := ⟨w2.heap.size, k, none⟩) hz2 (.string (I ++ ⟨#[58]⟩ ++ J)))
          have hz8 : w2.heap.size + 1 ≤ (w7.setCell ⟨w2.heap.size, k, none⟩ (.string (I ++ ⟨#[58]⟩ ++ J))).heap.size := by
            simp only [World.setCell, Array.size_modify]
            have := HS7.out.lt
            omega
          obtain ⟨W8, hW8⟩ : ∃ W8, w7.setCell ⟨w2.heap.size, k, none⟩ (.string (I ++ ⟨#[58]⟩ ++ J)) = W8 := ⟨_, rfl⟩
          rw [hW8] at HS8 HB8 hz8 ⊢
          clear hW8 t0 t1 s0 s1 f7 x7
          have hlc : (cs.set k (.string (I ++ ⟨#[58]⟩ ++ J))).length = ps.length := by rw [List.length_set]; exact H.out.1
          have HLC := Lib.hid hlc
          clear hlc
          try (have HB9 := Lib.hid (bel_trans HB8.out (Below.drew (Below.refl W8.heap.size W8))); have HS9 := Lib.hid (HS8.out.below (Below.drew (Below.refl W8.heap.size W8)) HS8.out.lt))
          go_wp2
          go_roundw
          case rel => first
            | exact ⟨k + 1, _, hlt, by go_num, HS9.out, HLC.out, HSET.out, HB9.out, hz8⟩
            | exact ⟨k + 1, _, hlt, by go_num, HS8.out, HLC.out, HSET.out, HB8.out, hz8⟩
          case measure => simp [intOf]; omega
      · obtain rfl : k = ps.length := by omega
        have HO := Lib.hid (show OwnS wr w2.heap.size (.slice (some ⟨w2.heap.size, 0, none⟩) ps.length ps.length) (ps.map segS) by
          rw [← segs_gen]
          exact own_genS (Nat.le_refl _) HBK.out H.out.1 (by omega) H.out.2.1 (fun j hj => by
            have := segS_size (sgn ps j, sgp ps j) (H6.out j hj).2 (by show sgn ps j ≤ 1000000; have := HNN.out j hj; omega)
            omega))
        have HSZ := Lib.hid (show ∀ x ∈ ps.map segS, x.size ≤ 200 by
          intro x hx
          rw [← segs_gen] at hx
          unfold genS at hx
          obtain ⟨j, hj, rfl⟩ := List.mem_map.1 hx
          have hj := List.mem_range.1 hj
          exact segS_size (sgn ps j, sgp ps j) (H6.out j hj).2 (by show sgn ps j ≤ 1000000; have := HNN.out j hj; omega))
        have HLE := Lib.hid (show (ps.map segS).length ≤ 1048576 by rw [List.length_map]; omega)
        clear hbk
        go_wp2_with fail
        refine (joins_any _ (ps.map segS) ⟨#[47]⟩ _ HO.out.strs HLE.out 200 HSZ.out (by omega) (by decide)).mono ?_
        rintro e w5 ⟨rfl, b5⟩
        have HB5 := Lib.hid (bel_trans H.out.2.2 b5)
        clear b5
        go_wp2
        go_ret
        exact ⟨by rw [HZ.out]; rfl, HB5.out⟩
end Go.Proofs.YtpniljcnknknoaaGreatDoor

/-
  A drawn table, sometimes turned into none: as XDrawC has it, with the row's own block.
-/
namespace Go.Proofs.YtpniljcnknknoaaGreatDoor
open Go.RowKit
set_option linter.unusedVariables false
set_option linter.unusedSimpArgs false

/-- A drawn list in a row made since w. -/
def DrawnOwn (g : Nat) (w : World) (hi : Nat) (e : Ending) (w' : World) : Prop :=
  ∃ v l, e = .returned v ∧ Own w' w.heap.size v l ∧ l.length ≤ hi ∧ w.grownBy w' (some g)
set_option maxHeartbeats 4000000 in
set_option maxRecDepth 100000 in
theorem badTableN_any (g K : Nat) (w w0 : World) (v : Value) (l : List Int) (hst : St w g K v l w0) (hl1 : 1 ≤ l.length) (hl2 : l.length ≤ 60) (hK : K ≤ 100000000) :
    Calls Tryz.prog 104 #[.pointer (some ⟨g, 0, none⟩), v] w0 (DrawnOwn g w 61) := by
  have S1 := Lib.hid hst
  have hgw := hst.lt
  have zw := hst.gr.size
  obtain ⟨b, cap, rfl, hbb, hbw, hlc, hcap, hcells⟩ := hst.own.openN (by omega)
  clear hcells hst
  go_enter Tryz.func104, Tryz.ntmps104
  go_wp2_with fail
  refine (pick_k _ S1.out (by omega) (by omega)).mono ?_
  rintro e w2 ⟨m, rfl, ma, mb, hs2, hg2⟩
  obtain ⟨m, rfl⟩ : ∃ n : Nat, m = n := ⟨m.toNat, by omega⟩
  have S2 := Lib.hid hs2
  have K2 := Lib.hid (Keeps.grown (.slice (some ⟨b, 0, none⟩) l.length cap) hg2)
  clear hs2 S1 hg2
  go_wp2_with fail
  refine (pick_k 40 S2.out (by omega) (by omega)).mono ?_
  rintro e w3 ⟨q, rfl, qa, qb, hs3, hg3⟩
  have S3 := Lib.hid hs3
  have z3 := hs3.gr.size
  have K3 := Lib.hid (K2.out.trans (Keeps.grown _ hg3))
  clear hs3 S2 hg3 K2
  cases q0 : (q == 0)
  · cases q1 : (q == 1)
    · cases q2 : (q == 2)
      · go_wp2
        go_ret
        exact ⟨_, l, rfl, S3.out.own, by omega, S3.out.gr⟩
      · go_wp2_with fail
        refine (num_k _ [30, 31, 60, 61] (S3.out.bel (bel_alloc _ _)) (by omega) (lit_own _ [30, 31, 60, 61] _ w.heap.size rfl (by omega) (by simp) (wf_lit (by simp))).ints (by simp) (lit_ne (by omega))).mono ?_
        rintro e w4 ⟨n, rfl, hn, hs4, hg4⟩
        have K4 := Lib.hid (K3.out.trans ((Keeps.below _ (bel_alloc _ _)).trans (Keeps.grown _ hg4)))
        clear hg4
        obtain ⟨n, rfl⟩ : ∃ k : Nat, n = k := ⟨n.toNat, by simp at hn; omega⟩
        have hn' : n ≤ 61 := by simp at hn; omega
        have z4 := hs4.gr.size
        have S4 := Lib.hid hs4
        have hmk := fun W => Tryz.mkInts n (by omega) W
        clear hn hs4 S3
        go_wp2
        go_ret
        exact ⟨_, List.replicate n 0, rfl, zeros_own w4 w.heap.size n z4 hn', by simp; omega, only_alloc S4.out.gr _⟩
    · go_wp2
      go_ret
      exact ⟨_, _, rfl, S3.out.nil_.own, by simp, S3.out.gr⟩
  · go_wp2_with fail
    refine (num_k _ [1000000000, 1000000001, -1000000001, 9223372036854775807] (S3.out.bel (bel_alloc _ _)) (by omega) (lit_own _ [1000000000, 1000000001, -1000000001, 9223372036854775807] _ w.heap.size rfl (by omega) (by simp) (wf_lit (by simp))).ints (by simp) (lit_ne (by omega))).mono ?_
    rintro e w4 ⟨n, rfl, hn, hs4, hg4⟩
    have K4 := Lib.hid (K3.out.trans ((Keeps.below _ (bel_alloc _ _)).trans (Keeps.grown _ hg4)))
    clear hg4
    have hn' : -1000000001 ≤ n ∧ n ≤ 9223372036854775807 := by simp at hn; omega
    obtain ⟨b', cap', ev, _, _, _, _, hcells⟩ := hs4.own.openN (by omega)
    injection ev with ev1 ev2 ev3
    injection ev1 with ev1
    injection ev1 with ev1
    subst ev1
    obtain ⟨hc, hf⟩ := hcells m (by omega)
    have S4 := Lib.hid hs4
    clear hn hs4 S3 hcells ev2 ev3
    go_wp2
    go_ret
    have S7 := S4.out.set_ m n (by omega) (by omega)
    exact ⟨_, _, rfl, S7.own, by rw [List.length_set]; omega, S7.gr⟩
end Go.Proofs.YtpniljcnknknoaaGreatDoor

/-
  Drawn tables, degrees and costs: DrawCheapestPlan.
-/
namespace Go.Proofs.YtpniljcnknknoaaGreatDoor
open Go.RowKit
set_option linter.unusedVariables false
set_option linter.unusedSimpArgs false
set_option maxRecDepth 100000
attribute [local go_sem ↓] Go.wp_at_zero Go.wp_at_succ

set_option maxHeartbeats 4000000 in
theorem l5Table_any (g K : Nat) (w : World) (hr : Rdr w g K) (hK : K ≤ 100000000) :
    Calls Tryz.prog 160 #[.pointer (some ⟨g, 0, none⟩)] w (DrawnInts g (K + 100) w 1 21) := by
  have hgw := hr.lt
  have S0 := Lib.hid (show St w g K (.slice (some ⟨w.heap.size, 0, none⟩) 0 0) [] (w.alloc (.cells #[] 3)) from
    ⟨Own.empty w w.heap.size (Nat.le_refl _), hr.bel (bel_alloc _ _), only_alloc (World.grownBy.refl w _) _, hgw⟩)
  clear hr
  go_enter Tryz.func160, Tryz.ntmps160
  go_wp2_with fail
  refine (pick_st 3 S0.out (by omega) (by omega)).mono ?_
  rintro e w1 ⟨M, rfl, Ma, Mb, hs1⟩
  obtain ⟨M, rfl⟩ : ∃ n : Nat, M = n := ⟨M.toNat, by omega⟩
  have S1 := Lib.hid hs1
  clear hs1 S0
  go_wp2_with fail
  go_loopw [3, 4] (fun r n wr => ∃ (k K' : Nat) (l : List Int), n = .int .i64 k ∧ k ≤ M + 1 ∧ (M + 1 - k) ≤ l.length ∧ l.length ≤ 7 * (M + 1 - k) ∧ K' ≤ K + 1 + 7 * (M + 1 - k) ∧ St w g K' r l wr)
    (fun _ n _ => (intOf n).toNat)
  case atStart => exact ⟨M + 1, K + 1, [], by go_num, Nat.le_refl _, by simp, by simp, by omega, S1.out⟩
  case round =>
    obtain ⟨k, K', l, rfl, hk, hl1, hl2, hK', hst⟩ := hrel
    have zr := hst.gr.size
    have S2 := Lib.hid hst
    clear S1 hst
    by_cases hk0 : k = 0
    · subst hk0
      have hl3 : 1 ≤ l.length ∧ l.length ≤ 21 := by omega
      obtain ⟨b, cap, rfl, hbb, hbw, hlc, hcap, hcells⟩ := S2.out.own.openN (by omega)
      clear hcells
      go_wp2_with fail
      refine (pick_st 4 S2.out (by omega) (by omega)).mono ?_
      rintro e w3 ⟨q, rfl, qa, qb, hs3⟩
      have S3 := Lib.hid hs3
      clear hs3 S2
      cases q0 : (q == 0)
      · go_wp2
        go_ret
        exact ⟨_, l, rfl, S3.out.own, by omega, by omega, S3.out.rdr.more (by omega), S3.out.gr⟩
      · go_wp2_with fail
        refine (pick_st _ S3.out (by omega) (by omega)).mono ?_
        rintro e w5 ⟨x, rfl, xa, xb, hs5⟩
        obtain ⟨x, rfl⟩ : ∃ n : Nat, x = n := ⟨x.toNat, by omega⟩
        have S5 := Lib.hid hs5
        clear hs5 S3
        go_wp2_with fail
        refine (pick_st 40 S5.out (by omega) (by omega)).mono ?_
        rintro e w6 ⟨y, rfl, ya, yb, hs6⟩
        obtain ⟨b', cap', ev, _, _, _, _, hcells⟩ := hs6.own.openN (by omega)
        injection ev with ev1 ev2 ev3
        injection ev1 with ev1
        injection ev1 with ev1
        subst ev1
        obtain ⟨hc, hf⟩ := hcells x (by omega)
        have S6 := Lib.hid hs6
        clear hs6 S5 hcells ev2 ev3
        go_wp2
        go_ret
        have S7 := S6.out.set_ x y (by omega) (by omega)
        exact ⟨_, _, rfl, S7.own, by rw [List.length_set]; omega, by rw [List.length_set]; omega, S7.rdr.more (by omega), S7.gr⟩
    · obtain ⟨k, rfl⟩ : ∃ j, k = j + 1 := ⟨k - 1, by omega⟩
      go_wp2_with fail
      refine (pick_st 80 S2.out (by omega) (by omega)).mono ?_
      rintro e w3 ⟨x, rfl, xa, xb, hs3⟩
      have S3 := Lib.hid hs3
      have z3 := hs3.gr.size
      have P3 := Lib.hid (show St w3 g (K' + 1) (.slice (some ⟨w3.heap.size, 0, none⟩) 1 1) [x - 40] (w3.alloc (.cells #[.int .i64 (x - 40)] 3)) from
        ⟨lit_own w3 [x - 40] w3.heap.size w3.heap.size rfl (Nat.le_refl _) (by simp) (wf_lit (by simp; omega)), hs3.rdr.bel (bel_alloc _ _), only_alloc (World.grownBy.refl w3 _) _, by have := hs3.rdr.lt; exact this⟩)
      clear hs3 S2
      go_wp2_with fail
      refine (pick_st 4 P3.out (by omega) (by omega)).mono ?_
      rintro e w4 ⟨m, rfl, ma, mb, hs4⟩
      obtain ⟨m, rfl⟩ : ∃ n : Nat, m = n := ⟨m.toNat, by omega⟩
      have P4 := Lib.hid hs4
      clear hs4 P3
      go_wp2_with fail
      go_loopw [5, 6] (fun pv n wr2 => ∃ (j K2 : Nat) (p : List Int), n = .int .i64 j ∧ j ≤ 3 ∧ 1 ≤ p.length ∧ p.length + j ≤ 4 ∧ K2 + j ≤ K' + 5 ∧ St w3 g K2 pv p wr2)
        (fun _ n _ => (intOf n).toNat)
      case atStart => exact ⟨m, K' + 2, [x - 40], rfl, by omega, by simp, by simp; omega, by omega, P4.out⟩
      case round =>
        obtain ⟨j, K2, p, rfl, hj, hp1, hp2, hK2, hst⟩ := hrel
        have zr2 := hst.gr.size
        have P5 := Lib.hid hst
        clear P4 hst
        by_cases hj0 : j = 0
        · subst hj0
          have S5 := Lib.hid (S3.out.grown P5.out.gr P5.out.rdr)
          go_wp2_with fail
          refine (pick_k 7 S5.out (by omega) (by omega)).mono ?_
          rintro e w6 ⟨q, rfl, qa, qb, hs6, hg6⟩
          obtain ⟨q, rfl⟩ : ∃ n : Nat, q = n := ⟨q.toNat, by omega⟩
          have S6 := Lib.hid hs6
          have z6 := hs6.gr.size
          have PI := Lib.hid ((P5.out.own.far hg6 (fun k hk => by injection hk with hk; omega)).ints)
          have hgz := hg6.size
          clear hs6 hg6 S5 P5
          go_wp2_with fail
          first
            | rw [show (1 : Int) + (q : Int) = ((q + 1 : Nat) : Int) by omega]
            | rw [show (q : Int) + 1 = ((q + 1 : Nat) : Int) by omega]
          refine (l2Values_any _ p 0 1 (q + 1) _ PI.out (by omega) (by omega) (by omega) (by omega)).mono ?_
          rintro e w7 ⟨vo, rfl, ho7, hb7⟩
          have hlen : (valsI p 0 1 (q + 1)).length = q + 1 := by rw [valsI, gen_length]
          obtain ⟨L, hL⟩ : ∃ L, valsI p 0 1 (q + 1) = L := ⟨_, rfl⟩
          rw [hL] at ho7 hlen
          have S7 := Lib.hid (S6.out.bel hb7)
          have HI7 := Lib.hid ho7.ints
          have HLN := Lib.hid hlen
          have z7 := hb7.size
          have hll : l.length + L.length ≤ 1099511627776 := by omega
          clear hL ho7 hb7 hlen
          go_wp2_with (at_builtin; go_must (refine app_ints rfl (.tmp 31) (.tmp 36) (by rfl) w.heap.size u3 _ l L (by rfl) (by exact S7.out.own) (by rfl) (by exact HI7.out) hll (by omega) ?_); intro v8 w8 ho8 hg8 _; have S8 := Lib.hid (S7.out.app ho8 hg8); have hlen8 : (l ++ L).length = l.length + (q + 1) := (by rw [List.length_append, HLN.out]); clear ho8 hg8)
          have HL8 := Lib.hid hlen8
          clear hlen8 hll
          go_roundw
          case rel => exact ⟨k, K2 + 1, _, by go_num, by omega, by rw [HL8.out]; omega, by rw [HL8.out]; omega, by omega, S8.out⟩
          case measure => first | (simp [intOf]; done) | (simp [intOf]; omega)
        · obtain ⟨j, rfl⟩ : ∃ i, j = i + 1 := ⟨j - 1, by omega⟩
          go_wp2_with fail
          refine (pick_st 24 P5.out (by omega) (by omega)).mono ?_
          rintro e w6 ⟨y, rfl, ya, yb, hs6⟩
          have P6 := Lib.hid hs6
          have z6 := hs6.gr.size
          clear hs6 P5
          go_wp2_with (at_builtin; refine app_int rfl (.tmp 25) (.tmp 29) (by rfl) w3.heap.size u5 p (by rfl) (by exact P6.out.own.bel (bel_alloc _ _)) _ _ (y - 12) (by rfl) (by exact new_cell _ _ _) (by omega) (by omega) (by simp; omega) ?_; intro v7 w7 ho hg _)
          have P7 := Lib.hid ((P6.out.bel (bel_alloc _ _)).app ho hg)
          clear ho hg P6
          go_wp2
          go_roundw
          case rel => exact ⟨j, K2 + 1, _, by go_num, by omega, by simp, by simp; omega, by omega, P7.out⟩
          case measure => simp [intOf]
set_option maxHeartbeats 4000000 in
set_option maxRecDepth 100000 in
theorem badTableR_any (g K : Nat) (w w0 : World) (v : Value) (l : List Int) (hst : St w g K v l w0) (hl1 : 1 ≤ l.length) (hl2 : l.length ≤ 60) (hK : K ≤ 100000000) :
    Calls Tryz.prog 104 #[.pointer (some ⟨g, 0, none⟩), v] w0 (DrawnInts g (K + 10) w 0 61) := by
  have S1 := Lib.hid hst
  have hgw := hst.lt
  have zw := hst.gr.size
  obtain ⟨b, cap, rfl, hbb, hbw, hlc, hcap, hcells⟩ := hst.own.openN (by omega)
  clear hcells hst
  go_enter Tryz.func104, Tryz.ntmps104
  go_wp2_with fail
  refine (pick_k _ S1.out (by omega) (by omega)).mono ?_
  rintro e w2 ⟨m, rfl, ma, mb, hs2, hg2⟩
  obtain ⟨m, rfl⟩ : ∃ n : Nat, m = n := ⟨m.toNat, by omega⟩
  have S2 := Lib.hid hs2
  have K2 := Lib.hid (Keeps.grown (.slice (some ⟨b, 0, none⟩) l.length cap) hg2)
  clear hs2 S1 hg2
  go_wp2_with fail
  refine (pick_k 40 S2.out (by omega) (by omega)).mono ?_
  rintro e w3 ⟨q, rfl, qa, qb, hs3, hg3⟩
  have S3 := Lib.hid hs3
  have z3 := hs3.gr.size
  have K3 := Lib.hid (K2.out.trans (Keeps.grown _ hg3))
  clear hs3 S2 hg3 K2
  cases q0 : (q == 0)
  · cases q1 : (q == 1)
    · cases q2 : (q == 2)
      · go_wp2
        go_ret
        exact ⟨_, l, rfl, S3.out.own, by omega, by omega, S3.out.rdr.more (by omega), S3.out.gr⟩
      · go_wp2_with fail
        refine (num_k _ [30, 31, 60, 61] (S3.out.bel (bel_alloc _ _)) (by omega) (lit_own _ [30, 31, 60, 61] _ w.heap.size rfl (by omega) (by simp) (wf_lit (by simp))).ints (by simp) (lit_ne (by omega))).mono ?_
        rintro e w4 ⟨n, rfl, hn, hs4, hg4⟩
        have K4 := Lib.hid (K3.out.trans ((Keeps.below _ (bel_alloc _ _)).trans (Keeps.grown _ hg4)))
        clear hg4
        obtain ⟨n, rfl⟩ : ∃ k : Nat, n = k := ⟨n.toNat, by simp at hn; omega⟩
        have hn' : n ≤ 61 := by simp at hn; omega
        have z4 := hs4.gr.size
        have S4 := Lib.hid hs4
        have hmk := fun W => Tryz.mkInts n (by omega) W
        clear hn hs4 S3
        go_wp2
        go_ret
        exact ⟨_, List.replicate n 0, rfl, zeros_own w4 w.heap.size n z4 hn', by omega, by simp; omega, (S4.out.rdr.bel (bel_alloc _ _)).more (by omega), only_alloc S4.out.gr _⟩
    · go_wp2
      go_ret
      exact ⟨_, _, rfl, S3.out.nil_.own, by omega, by simp, S3.out.rdr.more (by omega), S3.out.gr⟩
  · go_wp2_with fail
    refine (num_k _ [1000000000, 1000000001, -1000000001, 9223372036854775807] (S3.out.bel (bel_alloc _ _)) (by omega) (lit_own _ [1000000000, 1000000001, -1000000001, 9223372036854775807] _ w.heap.size rfl (by omega) (by simp) (wf_lit (by simp))).ints (by simp) (lit_ne (by omega))).mono ?_
    rintro e w4 ⟨n, rfl, hn, hs4, hg4⟩
    have K4 := Lib.hid (K3.out.trans ((Keeps.below _ (bel_alloc _ _)).trans (Keeps.grown _ hg4)))
    clear hg4
    have hn' : -1000000001 ≤ n ∧ n ≤ 9223372036854775807 := by simp at hn; omega
    obtain ⟨b', cap', ev, _, _, _, _, hcells⟩ := hs4.own.openN (by omega)
    injection ev with ev1 ev2 ev3
    injection ev1 with ev1
    injection ev1 with ev1
    subst ev1
    obtain ⟨hc, hf⟩ := hcells m (by omega)
    have S4 := Lib.hid hs4
    clear hn hs4 S3 hcells ev2 ev3
    go_wp2
    go_ret
    have S7 := S4.out.set_ m n (by omega) (by omega)
    exact ⟨_, _, rfl, S7.own, by omega, by rw [List.length_set]; omega, S7.rdr.more (by omega), S7.gr⟩
/-- A drawn table and a drawn degree. -/
def DrawnSome (g K' : Nat) (w : World) (e : Ending) (w' : World) : Prop :=
  ∃ v l d, e = .returned (.tuple #[v, .int .i64 d]) ∧ Own w' w.heap.size v l ∧ l.length ≤ 61 ∧ (-1 ≤ d ∧ d ≤ 7) ∧ Rdr w' g K' ∧ w.grownBy w' (some g)
set_option maxHeartbeats 4000000 in
theorem l5Some_any (g K : Nat) (w : World) (hr : Rdr w g K) (hK : K ≤ 10000000) :
    Calls Tryz.prog 91 #[.pointer (some ⟨g, 0, none⟩)] w (DrawnSome g (K + 200) w) := by
  have hgw := hr.lt
  go_enter Tryz.func91, Tryz.ntmps91
  go_wp2_with fail
  refine (l5Table_any g K _ hr (by omega)).mono ?_
  rintro e w1 ⟨v, l, rfl, ho1, hl1, hl2, hr1, hg1⟩
  have S1 := Lib.hid (show St w g (K + 100) v l w1 from ⟨ho1, hr1, hg1, hgw⟩)
  clear ho1 hr1 hg1 hr
  obtain ⟨b, cap, rfl, hbb, hbw, hlc, hcap, hcells⟩ := S1.out.own.openN (by omega)
  clear hcells
  go_wp2_with fail
  refine (pick_st 4 S1.out (by omega) (by omega)).mono ?_
  rintro e w2 ⟨d, rfl, da, db, hs2⟩
  have S2 := Lib.hid hs2
  clear hs2 S1
  go_wp2_with fail
  refine (pick_st 16 S2.out (by omega) (by omega)).mono ?_
  rintro e w3 ⟨q, rfl, qa, qb, hs3⟩
  have S3 := Lib.hid hs3
  have z3 := hs3.gr.size
  clear hs3 S2
  cases q0 : (q == 0)
  · have HD := Lib.hid (show -1 ≤ d ∧ d ≤ 7 by omega)
    go_wp2_with fail
    refine (pick_st 24 S3.out (by omega) (by omega)).mono ?_
    rintro e w5 ⟨q2, rfl, q2a, q2b, hs5⟩
    have S5 := Lib.hid hs5
    have z5 := hs5.gr.size
    clear hs5 S3
    cases q20 : (q2 == 0)
    · go_wp2_with fail
      refine (badTableR_any g _ w _ _ l S5.out (by omega) (by omega) (by omega)).mono ?_
      rintro e w6 ⟨v6, l6, rfl, o6, -, hl6, r6, g6⟩
      have HO6 := Lib.hid o6
      have HR6 := Lib.hid r6
      have HG6 := Lib.hid g6
      obtain ⟨A6, c6, rfl, -, -, -⟩ := o6.ints.open_
      clear o6 r6 g6
      go_wp2
      go_ret2
      exact ⟨_, l6, _, rfl, HO6.out, hl6, HD.out, HR6.out.more (by omega), HG6.out⟩
    · go_wp2_with fail
      refine (pick_st _ S5.out (by omega) (by omega)).mono ?_
      rintro e w6 ⟨x, rfl, xa, xb, hs6⟩
      obtain ⟨x, rfl⟩ : ∃ n : Nat, x = n := ⟨x.toNat, by omega⟩
      have S6 := Lib.hid hs6
      have z6 := hs6.gr.size
      clear hs6 S5
      go_wp2_with fail
      refine (num_st _ [1500, 1501, -1500, -1501] (S6.out.bel (bel_alloc _ _)) (by omega) (lit_own _ [1500, 1501, -1500, -1501] _ w.heap.size rfl (by omega) (by simp) (wf_lit (by simp))).ints (by simp) (lit_ne (by omega))).mono ?_
      rintro e w7 ⟨y, rfl, hy, hs7⟩
      have yb : -1501 ≤ y ∧ y ≤ 1501 := by simp at hy; omega
      obtain ⟨b', cap', ev, _, _, _, _, hcells⟩ := hs7.own.openN (by omega)
      injection ev with ev1 ev2 ev3
      injection ev1 with ev1
      injection ev1 with ev1
      subst ev1
      obtain ⟨hc, hf⟩ := hcells x (by omega)
      have S7 := Lib.hid hs7
      have S8 := Lib.hid (hs7.set_ x y (by omega) (by omega))
      have hl8 : (l.set x y).length = l.length := List.length_set
      have HL8 := Lib.hid hl8
      clear hs7 S6 hcells ev2 ev3 hy hl8
      go_wp2_with fail
      refine (badTableR_any g _ w _ _ (l.set x y) S8.out (by rw [HL8.out]; omega) (by rw [HL8.out]; omega) (by omega)).mono ?_
      rintro e w9 ⟨v9, l9, rfl, o9, -, hl9, r9, g9⟩
      have HO6 := Lib.hid o9
      have HR6 := Lib.hid r9
      have HG6 := Lib.hid g9
      obtain ⟨A6, c6, rfl, -, -, -⟩ := o9.ints.open_
      clear o9 r9 g9 hc hf
      go_wp2
      go_ret2
      exact ⟨_, l9, _, rfl, HO6.out, hl9, HD.out, HR6.out.more (by omega), HG6.out⟩
  · go_wp2_with fail
    refine (num_st _ [-1, 7, 6] (S3.out.bel (bel_alloc _ _)) (by omega) (lit_own _ [-1, 7, 6] _ w.heap.size rfl (by omega) (by simp) (wf_lit (by simp))).ints (by simp) (lit_ne (by omega))).mono ?_
    rintro e w4 ⟨d2, rfl, hd2, hs4⟩
    have HD := Lib.hid (show -1 ≤ d2 ∧ d2 ≤ 7 by simp at hd2; omega)
    have S4 := Lib.hid hs4
    have z4 := hs4.gr.size
    clear hs4 S3 hd2
    go_wp2_with fail
    refine (pick_st 24 S4.out (by omega) (by omega)).mono ?_
    rintro e w5 ⟨q2, rfl, q2a, q2b, hs5⟩
    have S5 := Lib.hid hs5
    have z5 := hs5.gr.size
    clear hs5 S4
    cases q20 : (q2 == 0)
    · go_wp2_with fail
      refine (badTableR_any g _ w _ _ l S5.out (by omega) (by omega) (by omega)).mono ?_
      rintro e w6 ⟨v6, l6, rfl, o6, -, hl6, r6, g6⟩
      have HO6 := Lib.hid o6
      have HR6 := Lib.hid r6
      have HG6 := Lib.hid g6
      obtain ⟨A6, c6, rfl, -, -, -⟩ := o6.ints.open_
      clear o6 r6 g6
      go_wp2
      go_ret2
      exact ⟨_, l6, _, rfl, HO6.out, hl6, HD.out, HR6.out.more (by omega), HG6.out⟩
    · go_wp2_with fail
      refine (pick_st _ S5.out (by omega) (by omega)).mono ?_
      rintro e w6 ⟨x, rfl, xa, xb, hs6⟩
      obtain ⟨x, rfl⟩ : ∃ n : Nat, x = n := ⟨x.toNat, by omega⟩
      have S6 := Lib.hid hs6
      have z6 := hs6.gr.size
      clear hs6 S5
      go_wp2_with fail
      refine (num_st _ [1500, 1501, -1500, -1501] (S6.out.bel (bel_alloc _ _)) (by omega) (lit_own _ [1500, 1501, -1500, -1501] _ w.heap.size rfl (by omega) (by simp) (wf_lit (by simp))).ints (by simp) (lit_ne (by omega))).mono ?_
      rintro e w7 ⟨y, rfl, hy, hs7⟩
      have yb : -1501 ≤ y ∧ y ≤ 1501 := by simp at hy; omega
      obtain ⟨b', cap', ev, _, _, _, _, hcells⟩ := hs7.own.openN (by omega)
      injection ev with ev1 ev2 ev3
      injection ev1 with ev1
      injection ev1 with ev1
      subst ev1
      obtain ⟨hc, hf⟩ := hcells x (by omega)
      have S7 := Lib.hid hs7
      have S8 := Lib.hid (hs7.set_ x y (by omega) (by omega))
      have hl8 : (l.set x y).length = l.length := List.length_set
      have HL8 := Lib.hid hl8
      clear hs7 S6 hcells ev2 ev3 hy hl8
      go_wp2_with fail
      refine (badTableR_any g _ w _ _ (l.set x y) S8.out (by rw [HL8.out]; omega) (by rw [HL8.out]; omega) (by omega)).mono ?_
      rintro e w9 ⟨v9, l9, rfl, o9, -, hl9, r9, g9⟩
      have HO6 := Lib.hid o9
      have HR6 := Lib.hid r9
      have HG6 := Lib.hid g9
      obtain ⟨A6, c6, rfl, -, -, -⟩ := o9.ints.open_
      clear o9 r9 g9 hc hf
      go_wp2
      go_ret2
      exact ⟨_, l9, _, rfl, HO6.out, hl9, HD.out, HR6.out.more (by omega), HG6.out⟩
set_option maxHeartbeats 4000000 in
theorem l5Costs_any (g K : Nat) (w : World) (hr : Rdr w g K) (hK : K ≤ 10000000) :
    Calls Tryz.prog 92 #[.pointer (some ⟨g, 0, none⟩)] w fun e w' => ∃ s c : Int, e = .returned (.tuple #[.int .i64 s, .int .i64 c]) ∧ (-1 ≤ s ∧ s ≤ 1001) ∧ (0 ≤ c ∧ c ≤ 1001) ∧ w.grownBy w' (some g) := by
  have hgw := hr.lt
  have S0 := Lib.hid (show St w g K (.slice none 0 0) [] w from ⟨Own.nil_ _ _, hr, World.grownBy.refl w _, hgw⟩)
  clear hr
  go_enter Tryz.func92, Tryz.ntmps92
  go_wp2_with fail
  refine (pick_st 16 S0.out (by omega) (by omega)).mono ?_
  rintro e w1 ⟨q, rfl, qa, qb, hs1⟩
  have S1 := Lib.hid hs1
  have z1 := hs1.gr.size
  clear hs1 S0
  cases q0 : (q == 0)
  · go_wp2_with fail
    refine (num_st _ [5, 1, 0, 20, 3] (S1.out.bel (bel_alloc _ _)) (by omega) (lit_own _ [5, 1, 0, 20, 3] _ w.heap.size rfl (by omega) (by simp) (wf_lit (by simp))).ints (by simp) (lit_ne (by omega))).mono ?_
    rintro e w2 ⟨x, rfl, hx, hs2⟩
    have xb : 0 ≤ x ∧ x ≤ 20 := by simp at hx; omega
    have S2 := Lib.hid hs2
    have z2 := hs2.gr.size
    clear hs2 S1 hx
    go_wp2_with fail
    refine (num_st _ [1, 0, 2, 7] (S2.out.bel (bel_alloc _ _)) (by omega) (lit_own _ [1, 0, 2, 7] _ w.heap.size rfl (by omega) (by simp) (wf_lit (by simp))).ints (by simp) (lit_ne (by omega))).mono ?_
    rintro e w3 ⟨y, rfl, hy, hs3⟩
    have yb : 0 ≤ y ∧ y ≤ 7 := by simp at hy; omega
    have S3 := Lib.hid hs3
    clear hs3 S2 hy
    go_wp2
    go_ret2
    exact ⟨x, y, rfl, by omega, by omega, S3.out.gr⟩
  · go_wp2_with fail
    refine (num_st _ [-1, 1000, 1001] (S1.out.bel (bel_alloc _ _)) (by omega) (lit_own _ [-1, 1000, 1001] _ w.heap.size rfl (by omega) (by simp) (wf_lit (by simp))).ints (by simp) (lit_ne (by omega))).mono ?_
    rintro e w2 ⟨x, rfl, hx, hs2⟩
    have xb : -1 ≤ x ∧ x ≤ 1001 := by simp at hx; omega
    have S2 := Lib.hid hs2
    have z2 := hs2.gr.size
    clear hs2 S1 hx
    go_wp2_with fail
    refine (num_st _ [0, 1000, 1001] (S2.out.bel (bel_alloc _ _)) (by omega) (lit_own _ [0, 1000, 1001] _ w.heap.size rfl (by omega) (by simp) (wf_lit (by simp))).ints (by simp) (lit_ne (by omega))).mono ?_
    rintro e w3 ⟨y, rfl, hy, hs3⟩
    have yb : 0 ≤ y ∧ y ≤ 1001 := by simp at hy; omega
    have S3 := Lib.hid hs3
    clear hs3 S2 hy
    go_wp2
    go_ret2
    exact ⟨x, y, rfl, by omega, by omega, S3.out.gr⟩
/-- The arguments of CheapestPlan. -/
def DrawnCheap (w : World) (e : Ending) (w' : World) : Prop :=
  ∃ v l d s c, e = .returned (.tuple #[v, .int .i64 d, .int .i64 s, .int .i64 c]) ∧ Own w' w.heap.size v l ∧ l.length ≤ 61 ∧ (-1 ≤ d ∧ d ≤ 7) ∧ (-1 ≤ s ∧ s ≤ 1001) ∧ (0 ≤ c ∧ c ≤ 1001) ∧ Below w.heap.size w w'
set_option maxHeartbeats 2000000 in
theorem drawCheap_any (v : Value) (code : List Int) (w : World) (hv : Bytes w v code) :
    Calls Tryz.prog 33 #[v] w (DrawnCheap w) := by
  have HV := Lib.hid hv
  obtain ⟨A0, c0, rfl, -, -, -⟩ := hv.open_
  clear hv
  go_enter Tryz.func33, Tryz.ntmps33
  go_wp2_with fail
  refine (l9Open_any _ code _ HV.out).mono ?_
  rintro e w1 ⟨g, rfl, hg, hr1, hb1⟩
  have lg1 := hr1.lt
  have z1 := hb1.size
  have HR := Lib.hid hr1
  have HB := Lib.hid hb1
  clear hr1 hb1
  go_wp2_with fail
  refine (l5Some_any g 0 _ HR.out (by omega)).mono ?_
  rintro e w2 ⟨v2, l2, d2, rfl, o2, hl2, hd2, r2, g2⟩
  have HO := Lib.hid o2
  have HR2 := Lib.hid r2
  have HB2 := Lib.hid (HB.out.trans (grown_below (B := w.heap.size) g2 (by omega) (by omega)))
  obtain ⟨A2, c2, rfl, -, -, -⟩ := o2.ints.open_
  clear o2 r2 g2
  go_wp2_with fail
  refine (l5Costs_any g _ _ HR2.out (by omega)).mono ?_
  rintro e w3 ⟨s3, c3, rfl, hs3, hc3, g3⟩
  have z2 := HB2.out.size
  have HO3 := Lib.hid (HO.out.far g3 (fun k hk => by injection hk with hk; omega))
  have HB3 := Lib.hid (HB2.out.trans (grown_below (B := w.heap.size) g3 (by omega) (by omega)))
  clear g3
  go_wp2
  refine bodyPost_ret (v := .tuple #[.slice A2 l2.length c2, .int .i64 d2, .int .i64 s3, .int .i64 c3]) (by simp [results, Tryz.results33, go_sem]) rfl ⟨_, l2, d2, s3, c3, rfl, HO3.out.lower (by omega), hl2, hd2, hs3, hc3, HB3.out⟩
end Go.Proofs.YtpniljcnknknoaaGreatDoor
