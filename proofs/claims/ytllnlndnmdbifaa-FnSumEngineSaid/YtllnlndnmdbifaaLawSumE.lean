/-
  The law FnSumEngine, walked (made by law_sume.py).
-/
import Derived.Test.YtllnlndnmdbifaaTotDraw
import Derived.Test.YtllnlndnmdbifaaSumDraw
import Derived.Test.YtllnlndnmdbifaaRunI
import Derived.Test.YtllnlndnmdbifaaResult
import Derived.Test.YtllnlndnmdbifaaSame
import Derived.Test.YtllnlndnmdbifaaEngBox
namespace Go.Proofs.Ytllnlndnmdbifaa
open Go.RowKit
set_option linter.unusedVariables false
set_option linter.unusedSimpArgs false
set_option maxRecDepth 100000

theorem tot_bd3 (l : List ByteArray) (n : Int) : -1000000000000 ≤ tot l n ∧ tot l n ≤ 1000000000000 := by
  cases h : totOk l n
  · rw [tot_no h]; omega
  · unfold tot
    rw [if_pos h]
    have hs := (totOk_true.1 h).1
    have hl : 0 < (turnN (sumE l 0) n.toNat).length := (engOk_iff.1 (turnN_ok (sumE_ok hs) n.toNat)).1
    exact sg_bd ((engOk_iff.1 (turnN_ok (sumE_ok hs) n.toNat)).2.2 0 hl).1
theorem sum_zero {l : List ByteArray} {s : Int} (h : sumOk l s = true) : sumOk l 0 = true := by
  obtain ⟨h1, h2, h3⟩ := sumOk_true.1 h
  refine sumOk_true.2 ⟨h1, h2, ?_⟩
  have hc := colOk_true ((engOk_iff.1 h1).2.2 0 (engOk_iff.1 h1).1).1
  have hh := ten_half hc.1
  have ht := ten_pos (sat l 0).size
  exact inB_true.2 (by omega)
/-- The law's numbers. -/
theorem sumE_law {l : List ByteArray} {s : Int} (h : sumOk l s = true) {n : Nat} (hn : n ≤ 60) :
    totOk l n = true ∧ (sg (sat (turnN (sumE l s) n) 0) - (s + resS l n)).tmod (ten (sat l 0).size) = 0 ∧ (tot l n + s - sg (sat (turnN (sumE l s) n) 0)).tmod (ten (sat l 0).size) = 0 := by
  have h0 := sum_zero h
  have ht : totOk l n = true := totOk_true.2 ⟨h0, inB_true.2 (by omega)⟩
  have a1 := sum_shows h n
  have a2 := sum_shows h0 n
  refine ⟨ht, Cg.tmod ?_, Cg.tmod ?_⟩
  · have := a1.sub (Cg.refl _ (s + resS l n))
    rw [Int.sub_self] at this; exact this
  · rw [tot_yes ht]
    have := (a2.add (Cg.refl _ s)).sub a1
    rw [show 0 + resS l n + s - (s + resS l n) = 0 by omega] at this
    exact this
theorem resS_bd {l : List ByteArray} (h : engOk l = true) : ∀ n : Nat, -(1000000000000 * (n : Int)) ≤ resS l n ∧ resS l n ≤ 1000000000000 * (n : Int)
  | 0 => by simp [resS]
  | n + 1 => by
    have ih := resS_bd h n
    have hb := sg_bd (eng0 h n)
    simp only [resS]
    omega
theorem fits_bd {s : Int} {k : Nat} (h : fits s k = true) (hk : k ≤ 12) : -1000000000000 ≤ s ∧ s ≤ 1000000000000 := by
  have := inB_true.1 h
  have ht := ten_le hk
  unfold half at this
  omega

set_option maxHeartbeats 8000000 in
theorem lawSumE (v u : Value) (code more : List Int) (w : World) (hv : Bytes w v code) (hu : Bytes w u more) :
    Calls Try.prog 11 #[v, u] w fun e w' => e = .returned (.bool true) ∧ Below w.heap.size w w' := by
  have HV := Lib.hid hv
  obtain ⟨A_c, c_c, rfl, -, hc1, -⟩ := hv.open_
  obtain ⟨A_m, c_m, rfl, hm1, hm2, -⟩ := hu.open_
  clear hv hu
  by_cases hbigcode : (1048576 : Int) < (code.length : Int)
  · go_enter Try.func11, Try.ntmps11
    go_wp2
    go_ret
    exact ⟨rfl, Below.refl _ _⟩
  · skip
    by_cases hbigmore : (1048576 : Int) < (more.length : Int)
    · go_enter Try.func11, Try.ntmps11
      go_wp2
      go_ret
      exact ⟨rfl, Below.refl _ _⟩
    · skip
      go_enter Try.func11, Try.ntmps11
      go_wp2_with fail
      refine (drawSumE_any _ code _ HV.out).mono ?_
      rintro e w0 ⟨ve, l, n, rfl, hs, l8, n1, n2, b⟩
      have HB := Lib.hid b
      have S_0 := Lib.hid hs
      obtain ⟨A_e, c_e, rfl, -, -, -⟩ := hs.open_
      clear hs b
      have he := eqS_self (sumE l n)
      have ba : Below w0.heap.size w0 (w0.alloc (.cells #[Value.slice A_e l.length c_e] 26)) := bel_alloc w0 _
      replace S_0 := Lib.hid (S_0.out.bel ba)
      replace HB := Lib.hid (bel_trans HB.out ba)
      clear ba
      have K_pe := Blk.new' w0 26 (Value.slice A_e l.length c_e) _ rfl
      obtain ⟨e_pe, -⟩ := K_pe.one
      go_wp2_with fail
      clear e_pe
      generalize hW : w0.alloc (.cells #[Value.slice A_e l.length c_e] 26) = w1 at *
      clear hW
      refine (implSum_any _ l n _ S_0.out ⟨n1, n2⟩).mono ?_
      rintro e w2 ⟨r_g0, rfl, o_g0, b⟩
      have z_pe := K_pe.lt
      have HB0 := HB.out.size
      replace K_pe := K_pe.below b K_pe.lt
      replace S_0 := Lib.hid (S_0.out.bel b)
      replace HB := Lib.hid (bel_trans HB.out b)
      clear b
      have N_pe_g0 : Hid (∀ k, r_g0.ownBlock = some k → k ≠ w0.heap.size) := Lib.hid (fun k hk => by have p1 := (o_g0.lt k hk).1; have p2 := z_pe; omega)
      have t_g0 : Hid (∀ k, r_g0.ownBlock = some k → w.heap.size ≤ k) := Lib.hid (fun k hk => by have p1 := (o_g0.lt k hk).1; have p2 := HB0; omega)
      have HBZ := Lib.hid HB0
      clear HB0 z_pe 
      have O_g0 := Lib.hid (o_g0.lower (base' := w.heap.size) HBZ.out)
      obtain ⟨A_g0, c_g0, rfl, -, -, -⟩ := o_g0.strs.open_
      clear o_g0
      clear HBZ
      have ba : Below w2.heap.size w2 (w2.alloc (.cells #[Value.slice A_g0 (sumE l n).length c_g0] 26)) := bel_alloc w2 _
      have u_g0 := Lib.hid (fun k hk => (O_g0.out.lt k hk).2)
      replace K_pe := K_pe.below ba K_pe.lt
      replace O_g0 := Lib.hid (O_g0.out.bel ba)
      replace S_0 := Lib.hid (S_0.out.bel ba)
      replace HB := Lib.hid (bel_trans HB.out ba)
      clear ba
      have K_gb0 := Blk.new' w2 26 (Value.slice A_g0 (sumE l n).length c_g0) _ rfl
      have N_gb0_g0 : Hid (∀ k, (Value.slice A_g0 (sumE l n).length c_g0).ownBlock = some k → k ≠ w2.heap.size) := Lib.hid (fun k hk => by have p1 := u_g0.out k hk; omega)
      clear u_g0
      obtain ⟨e_pe, -⟩ := K_pe.one
      obtain ⟨e_gb0, -⟩ := K_gb0.one
      go_wp2_with fail
      clear e_pe e_gb0
      generalize hW : w2.alloc (.cells #[Value.slice A_g0 (sumE l n).length c_g0] 26) = w3 at *
      clear hW
      refine (specSum_any _ l n _ S_0.out ⟨n1, n2⟩).mono ?_
      rintro e w4 ⟨r_s0, rfl, o_s0, b⟩
      have z_pe := K_pe.lt
      have z_gb0 := K_gb0.lt
      have HB0 := HB.out.size
      have y_g0 := Lib.hid (fun k hk => (O_g0.out.lt k hk).2)
      replace K_pe := K_pe.below b K_pe.lt
      replace K_gb0 := K_gb0.below b K_gb0.lt
      replace O_g0 := Lib.hid (O_g0.out.bel b)
      replace S_0 := Lib.hid (S_0.out.bel b)
      replace HB := Lib.hid (bel_trans HB.out b)
      clear b
      have N_pe_s0 : Hid (∀ k, r_s0.ownBlock = some k → k ≠ w0.heap.size) := Lib.hid (fun k hk => by have p1 := (o_s0.lt k hk).1; have p2 := z_pe; omega)
      have N_gb0_s0 : Hid (∀ k, r_s0.ownBlock = some k → k ≠ w2.heap.size) := Lib.hid (fun k hk => by have p1 := (o_s0.lt k hk).1; have p2 := z_gb0; omega)
      have N_g0_s0 : Hid (∀ k, (Value.slice A_g0 (sumE l n).length c_g0).ownBlock = some k → r_s0.ownBlock ≠ some k) := Lib.hid (fun k p q => by have p1 := (y_g0.out k p); have q1 := (o_s0.lt k q).1; omega)
      have t_s0 : Hid (∀ k, r_s0.ownBlock = some k → w.heap.size ≤ k) := Lib.hid (fun k hk => by have p1 := (o_s0.lt k hk).1; have p2 := HB0; omega)
      have HBZ := Lib.hid HB0
      clear HB0 z_pe z_gb0 y_g0
      have O_s0 := Lib.hid (o_s0.lower (base' := w.heap.size) HBZ.out)
      obtain ⟨A_s0, c_s0, rfl, -, -, -⟩ := o_s0.strs.open_
      clear o_s0
      clear HBZ
      have ba : Below w4.heap.size w4 (w4.alloc (.cells #[Value.slice A_s0 (sumE l n).length c_s0] 26)) := bel_alloc w4 _
      have u_g0 := Lib.hid (fun k hk => (O_g0.out.lt k hk).2)
      have u_s0 := Lib.hid (fun k hk => (O_s0.out.lt k hk).2)
      replace K_pe := K_pe.below ba K_pe.lt
      replace K_gb0 := K_gb0.below ba K_gb0.lt
      replace O_g0 := Lib.hid (O_g0.out.bel ba)
      replace O_s0 := Lib.hid (O_s0.out.bel ba)
      replace S_0 := Lib.hid (S_0.out.bel ba)
      replace HB := Lib.hid (bel_trans HB.out ba)
      clear ba
      have K_sb0 := Blk.new' w4 26 (Value.slice A_s0 (sumE l n).length c_s0) _ rfl
      have N_sb0_g0 : Hid (∀ k, (Value.slice A_g0 (sumE l n).length c_g0).ownBlock = some k → k ≠ w4.heap.size) := Lib.hid (fun k hk => by have p1 := u_g0.out k hk; omega)
      have N_sb0_s0 : Hid (∀ k, (Value.slice A_s0 (sumE l n).length c_s0).ownBlock = some k → k ≠ w4.heap.size) := Lib.hid (fun k hk => by have p1 := u_s0.out k hk; omega)
      clear u_g0 u_s0
      obtain ⟨e_pe, -⟩ := K_pe.one
      obtain ⟨e_gb0, -⟩ := K_gb0.one
      obtain ⟨e_sb0, -⟩ := K_sb0.one
      go_wp2_with fail
      clear e_pe e_gb0 e_sb0
      generalize hW : w4.alloc (.cells #[Value.slice A_s0 (sumE l n).length c_s0] 26) = w5 at *
      clear hW
      refine (deSame_any _ _ _ _ _ O_g0.out.strs O_s0.out.strs).mono ?_
      rw [he]
      rintro e w6 ⟨rfl, b⟩
      replace K_pe := K_pe.below b K_pe.lt
      replace K_gb0 := K_gb0.below b K_gb0.lt
      replace K_sb0 := K_sb0.below b K_sb0.lt
      replace O_g0 := Lib.hid (O_g0.out.bel b)
      replace O_s0 := Lib.hid (O_s0.out.bel b)
      replace S_0 := Lib.hid (S_0.out.bel b)
      replace HB := Lib.hid (bel_trans HB.out b)
      clear b
      cases hok : sumOk l n
      · skip
        obtain ⟨e_pe, -⟩ := K_pe.one
        obtain ⟨e_gb0, -⟩ := K_gb0.one
        obtain ⟨e_sb0, -⟩ := K_sb0.one
        go_wp2_with fail
        clear e_pe e_gb0 e_sb0
        refine (deSame_any _ _ _ _ _ O_g0.out.strs O_s0.out.strs).mono ?_
        rw [he]
        rintro e w7 ⟨rfl, b⟩
        replace K_pe := K_pe.below b K_pe.lt
        replace K_gb0 := K_gb0.below b K_gb0.lt
        replace K_sb0 := K_sb0.below b K_sb0.lt
        replace O_g0 := Lib.hid (O_g0.out.bel b)
        replace O_s0 := Lib.hid (O_s0.out.bel b)
        replace S_0 := Lib.hid (S_0.out.bel b)
        replace HB := Lib.hid (bel_trans HB.out b)
        clear b
        go_wp2
        go_ret
        exact ⟨rfl, HB.out⟩
      · obtain ⟨he0, he6, hfit⟩ := sumOk_true.1 hok
        obtain ⟨kk, hkk⟩ : ∃ kk : Nat, kk = more.length % 20 := ⟨_, rfl⟩
        have hk20 : kk < 20 := by rw [hkk]; exact Nat.mod_lt _ (by omega)
        have hrem : (more.length : Int) % 20 = (kk : Int) := by omega
        obtain ⟨q1, q2, q3⟩ := sumE_law hok (show kk ≤ 60 by omega)
        have HOK := Lib.hid (And.intro hok (And.intro he0 (And.intro (sumE_ok hok) q1)))
        obtain ⟨l1, l7, hcols⟩ := engOk_iff.1 he0
        have h12 := colOk_true (hcols 0 (by omega)).1
        have s12 : (sat l 0).size ≤ 12 := h12.2.1
        have nb := fits_bd hfit s12
        have hT := ten_le s12
        have hT1 := ten_pos (sat l 0).size
        have hT0 : ¬ (((ten (sat l 0).size : Nat) : Int) = 0) := by omega
        have tb := tot_bd3 l kk
        have vb := sg_bd (eng0 (sumE_ok hok) kk)
        have rb := resS_bd he0 kk
        have HQ := Lib.hid (And.intro q2 q3)
        have HKK := Lib.hid hkk
        clear hcols h12 hok hfit he0 q1 q2 q3 hkk
        obtain ⟨e_pe, -⟩ := K_pe.one
        obtain ⟨e_gb0, -⟩ := K_gb0.one
        obtain ⟨e_sb0, -⟩ := K_sb0.one
        go_wp2_with fail
        clear e_pe e_gb0 e_sb0
        refine (implRun_any _ l kk _ S_0.out (by omega)).mono ?_
        rintro e w8 ⟨r_i0, rfl, o_i0, b⟩
        have z_pe := K_pe.lt
        have z_gb0 := K_gb0.lt
        have z_sb0 := K_sb0.lt
        have HB0 := HB.out.size
        have y_g0 := Lib.hid (fun k hk => (O_g0.out.lt k hk).2)
        have y_s0 := Lib.hid (fun k hk => (O_s0.out.lt k hk).2)
        replace K_pe := K_pe.below b K_pe.lt
        replace K_gb0 := K_gb0.below b K_gb0.lt
        replace K_sb0 := K_sb0.below b K_sb0.lt
        replace O_g0 := Lib.hid (O_g0.out.bel b)
        replace O_s0 := Lib.hid (O_s0.out.bel b)
        replace S_0 := Lib.hid (S_0.out.bel b)
        replace HB := Lib.hid (bel_trans HB.out b)
        clear b
        have N_pe_i0 : Hid (∀ k, r_i0.ownBlock = some k → k ≠ w0.heap.size) := Lib.hid (fun k hk => by have p1 := (o_i0.lt k hk).1; have p2 := z_pe; omega)
        have N_gb0_i0 : Hid (∀ k, r_i0.ownBlock = some k → k ≠ w2.heap.size) := Lib.hid (fun k hk => by have p1 := (o_i0.lt k hk).1; have p2 := z_gb0; omega)
        have N_sb0_i0 : Hid (∀ k, r_i0.ownBlock = some k → k ≠ w4.heap.size) := Lib.hid (fun k hk => by have p1 := (o_i0.lt k hk).1; have p2 := z_sb0; omega)
        have N_g0_i0 : Hid (∀ k, (Value.slice A_g0 (sumE l n).length c_g0).ownBlock = some k → r_i0.ownBlock ≠ some k) := Lib.hid (fun k p q => by have p1 := (y_g0.out k p); have q1 := (o_i0.lt k q).1; omega)
        have N_s0_i0 : Hid (∀ k, (Value.slice A_s0 (sumE l n).length c_s0).ownBlock = some k → r_i0.ownBlock ≠ some k) := Lib.hid (fun k p q => by have p1 := (y_s0.out k p); have q1 := (o_i0.lt k q).1; omega)
        have t_i0 : Hid (∀ k, r_i0.ownBlock = some k → w.heap.size ≤ k) := Lib.hid (fun k hk => by have p1 := (o_i0.lt k hk).1; have p2 := HB0; omega)
        have HBZ := Lib.hid HB0
        clear HB0 z_pe z_gb0 z_sb0 y_g0 y_s0
        have O_i0 := Lib.hid (o_i0.lower (base' := w.heap.size) HBZ.out)
        obtain ⟨A_i0, c_i0, rfl, -, -, -⟩ := o_i0.ints.open_
        clear o_i0
        clear HBZ
        obtain ⟨A', c', e', -, -, hrd⟩ := S_0.out.open_
        injection e' with e1 e2 e3
        subst e1 e3
        obtain ⟨b, o, rfl, hbb, hcell⟩ := hrd.strs (by omega)
        have ca := hcell 0 (by omega)
        rw [Nat.add_zero] at ca
        clear hcell hrd e2
        obtain ⟨e_pe, -⟩ := K_pe.one
        obtain ⟨e_gb0, -⟩ := K_gb0.one
        obtain ⟨e_sb0, -⟩ := K_sb0.one
        have hl1 : (0 : Int) < (l.length : Int) := by omega
        go_wp2_with ((go_at_call 54; refine (deTen_any (sat l 0).size _ s12).mono ?_; rintro e w' ⟨rfl, rfl⟩))
        clear e_pe e_gb0 e_sb0
        have hrl : (runL l kk).length = kk := by rw [runL_yes (by simp [runOk, HOK.out.2.1, inB_true.2 (show (0 : Int) ≤ (kk : Int) ∧ (kk : Int) ≤ 60 by omega)]), runS_length]
        have HRL := Lib.hid hrl
        rw [hrl]
        clear hrl
        go_loop [15, 16] (fun s i => ∃ j : Nat, j ≤ kk ∧ i = .int .i64 j ∧ s = .int .i64 (n + resS l j)) (fun _ i => kk - (intOf i).toNat)
        case atStart => exact ⟨0, Nat.zero_le _, rfl, by show _ = Value.int .i64 (n + 0); rw [Int.add_zero]⟩
        case round =>
          obtain ⟨j, hj, rfl, rfl⟩ := hrel
          have rj := resS_bd HOK.out.2.1 j
          by_cases hlt : j < kk
          · obtain ⟨A2, c2, e2, -, -, hrd⟩ := O_i0.out.ints.open_
            injection e2 with e2 e3 e4
            subst e2 e4
            obtain ⟨b2, o2, rfl, -, hcell⟩ := hrd.ints (by rw [HRL.out]; omega)
            have ck := hcell j (by rw [HRL.out]; exact hlt)
            have hat : at_ (runL l kk) j = sg (sat (turnN l j) 0) := by rw [runL_yes (by simp [runOk, HOK.out.2.1, inB_true.2 (show (0 : Int) ≤ (kk : Int) ∧ (kk : Int) ≤ 60 by omega)]), runS]; exact at_gen hlt
            rw [hat] at ck
            have sb := sg_bd (eng0 HOK.out.2.1 j)
            have HSU := Lib.hid (show resS l (j + 1) = resS l j + sg (sat (turnN l j) 0) from rfl)
            clear hcell hrd e3 hat
            go_wp2
            go_round
            case rel => exact ⟨j + 1, by omega, by go_num, by rw [HSU.out, ← Int.add_assoc]⟩
            case measure => simp [intOf]; omega
          · have hjk : j = kk := by omega
            subst hjk
            clear ca
            obtain ⟨e_pe, -⟩ := K_pe.one
            obtain ⟨e_gb0, -⟩ := K_gb0.one
            obtain ⟨e_sb0, -⟩ := K_sb0.one
            go_wp2_with fail
            clear e_pe e_gb0 e_sb0
            refine (deTurned_any _ (sumE l n) j _ O_g0.out.strs HOK.out.2.2.1 (by omega)).mono ?_
            rintro e w9 ⟨r_d0, rfl, o_d0, b⟩
            have z_pe := K_pe.lt
            have z_gb0 := K_gb0.lt
            have z_sb0 := K_sb0.lt
            have HB0 := HB.out.size
            have y_g0 := Lib.hid (fun k hk => (O_g0.out.lt k hk).2)
            have y_s0 := Lib.hid (fun k hk => (O_s0.out.lt k hk).2)
            have y_i0 := Lib.hid (fun k hk => (O_i0.out.lt k hk).2)
            replace K_pe := K_pe.below b K_pe.lt
            replace K_gb0 := K_gb0.below b K_gb0.lt
            replace K_sb0 := K_sb0.below b K_sb0.lt
            replace O_g0 := Lib.hid (O_g0.out.bel b)
            replace O_s0 := Lib.hid (O_s0.out.bel b)
            replace O_i0 := Lib.hid (O_i0.out.bel b)
            replace S_0 := Lib.hid (S_0.out.bel b)
            replace HB := Lib.hid (bel_trans HB.out b)
            clear b
            have N_pe_d0 : Hid (∀ k, r_d0.ownBlock = some k → k ≠ w0.heap.size) := Lib.hid (fun k hk => by have p1 := (o_d0.lt k hk).1; have p2 := z_pe; omega)
            have N_gb0_d0 : Hid (∀ k, r_d0.ownBlock = some k → k ≠ w2.heap.size) := Lib.hid (fun k hk => by have p1 := (o_d0.lt k hk).1; have p2 := z_gb0; omega)
            have N_sb0_d0 : Hid (∀ k, r_d0.ownBlock = some k → k ≠ w4.heap.size) := Lib.hid (fun k hk => by have p1 := (o_d0.lt k hk).1; have p2 := z_sb0; omega)
            have N_g0_d0 : Hid (∀ k, (Value.slice A_g0 (sumE l n).length c_g0).ownBlock = some k → r_d0.ownBlock ≠ some k) := Lib.hid (fun k p q => by have p1 := (y_g0.out k p); have q1 := (o_d0.lt k q).1; omega)
            have N_s0_d0 : Hid (∀ k, (Value.slice A_s0 (sumE l n).length c_s0).ownBlock = some k → r_d0.ownBlock ≠ some k) := Lib.hid (fun k p q => by have p1 := (y_s0.out k p); have q1 := (o_d0.lt k q).1; omega)
            have N_i0_d0 : Hid (∀ k, (Value.slice A_i0 (runL l j).length c_i0).ownBlock = some k → r_d0.ownBlock ≠ some k) := Lib.hid (fun k p q => by have p1 := (y_i0.out k p); have q1 := (o_d0.lt k q).1; omega)
            have t_d0 : Hid (∀ k, r_d0.ownBlock = some k → w.heap.size ≤ k) := Lib.hid (fun k hk => by have p1 := (o_d0.lt k hk).1; have p2 := HB0; omega)
            have HBZ := Lib.hid HB0
            clear HB0 z_pe z_gb0 z_sb0 y_g0 y_s0 y_i0
            have O_d0 := Lib.hid (o_d0.lower (base' := w.heap.size) HBZ.out)
            obtain ⟨A_d0, c_d0, rfl, -, -, -⟩ := o_d0.strs.open_
            clear o_d0
            clear HBZ
            obtain ⟨e_pe, -⟩ := K_pe.one
            obtain ⟨e_gb0, -⟩ := K_gb0.one
            obtain ⟨e_sb0, -⟩ := K_sb0.one
            go_wp2_with fail
            clear e_pe e_gb0 e_sb0
            refine (resultOf_any _ (turnN (sumE l n) j) _ O_d0.out.strs (turnN_ok HOK.out.2.2.1 j)).mono ?_
            rintro e w10 ⟨rfl, b⟩
            replace K_pe := K_pe.below b K_pe.lt
            replace K_gb0 := K_gb0.below b K_gb0.lt
            replace K_sb0 := K_sb0.below b K_sb0.lt
            replace O_g0 := Lib.hid (O_g0.out.bel b)
            replace O_s0 := Lib.hid (O_s0.out.bel b)
            replace O_i0 := Lib.hid (O_i0.out.bel b)
            replace O_d0 := Lib.hid (O_d0.out.bel b)
            replace S_0 := Lib.hid (S_0.out.bel b)
            replace HB := Lib.hid (bel_trans HB.out b)
            clear b
            obtain ⟨e_pe, -⟩ := K_pe.one
            obtain ⟨e_gb0, -⟩ := K_gb0.one
            obtain ⟨e_sb0, -⟩ := K_sb0.one
            go_wp2_with fail
            clear e_pe e_gb0 e_sb0
            refine (implTot_any _ l j _ S_0.out (by omega)).mono ?_
            rintro e w11 ⟨rfl, b⟩
            replace K_pe := K_pe.below b K_pe.lt
            replace K_gb0 := K_gb0.below b K_gb0.lt
            replace K_sb0 := K_sb0.below b K_sb0.lt
            replace O_g0 := Lib.hid (O_g0.out.bel b)
            replace O_s0 := Lib.hid (O_s0.out.bel b)
            replace O_i0 := Lib.hid (O_i0.out.bel b)
            replace O_d0 := Lib.hid (O_d0.out.bel b)
            replace S_0 := Lib.hid (S_0.out.bel b)
            replace HB := Lib.hid (bel_trans HB.out b)
            clear b
            rw [HOK.out.2.2.2]
            have q2 := HQ.out.1
            have q3 := HQ.out.2
            go_wp2
            go_ret
            exact ⟨by first | rfl | (simp; done) | simp_all, HB.out⟩

theorem lawSumEF (v : Value) (code : List Int) (u : Value) (more : List Int) (w : World) (hv : Bytes w v code) (hu : Bytes w u more) :
    Calls Try.prog 11 #[v, u] w fun e w' => e = .returned (.bool true) ∧ Below w.heap.size w w' := lawSumE v u code more w hv hu

end Go.Proofs.Ytllnlndnmdbifaa
