/-
  The law FnTotal, walked (made by law_tot.py).
-/
import Derived.Test.YticpngnlefnokaaTotDraw
namespace Go.Proofs.Yticpngnlefnokaa
open Go.RowKit
set_option linter.unusedVariables false
set_option linter.unusedSimpArgs false
set_option maxRecDepth 100000

theorem tot_bd2 (l : List ByteArray) (n : Int) : -1000000000000 ≤ tot l n ∧ tot l n ≤ 1000000000000 := by
  cases h : totOk l n
  · rw [tot_no h]; omega
  · unfold tot
    rw [if_pos h]
    have hs := (totOk_true.1 h).1
    have hl : 0 < (turnN (sumE l 0) n.toNat).length := (engOk_iff.1 (turnN_ok (sumE_ok hs) n.toNat)).1
    exact sg_bd ((engOk_iff.1 (turnN_ok (sumE_ok hs) n.toNat)).2.2 0 hl).1

set_option maxHeartbeats 8000000 in
theorem lawTotal (v u : Value) (code more : List Int) (w : World) (hv : Bytes w v code) (hu : Bytes w u more) :
    Calls Try.prog 4 #[v, u] w fun e w' => e = .returned (.bool true) ∧ Below w.heap.size w w' := by
  have HV := Lib.hid hv
  obtain ⟨A_c, c_c, rfl, -, hc1, -⟩ := hv.open_
  obtain ⟨A_m, c_m, rfl, hm1, hm2, -⟩ := hu.open_
  clear hv hu
  by_cases hbig : (1048576 : Int) < (code.length : Int)
  · go_enter Try.func4, Try.ntmps4
    go_wp2
    go_ret
    exact ⟨rfl, Below.refl _ _⟩
  · skip
    by_cases hbig2 : (1048576 : Int) < (more.length : Int)
    · go_enter Try.func4, Try.ntmps4
      go_wp2
      go_ret
      exact ⟨rfl, Below.refl _ _⟩
    · skip
      go_enter Try.func4, Try.ntmps4
      go_wp2_with fail
      refine (drawTotal_any _ code _ HV.out).mono ?_
      rintro e w0 ⟨ve, l, n, rfl, hs, l8, n1, n2, b⟩
      have HB := Lib.hid b
      have S_0 := Lib.hid hs
      obtain ⟨A_e, c_e, rfl, -, -, -⟩ := hs.open_
      clear hs b
      have ba : Below w0.heap.size w0 (w0.alloc (.cells #[Value.slice A_e l.length c_e] 25)) := bel_alloc w0 _
      replace S_0 := Lib.hid (S_0.out.bel ba)
      replace HB := Lib.hid (bel_trans HB.out ba)
      clear ba
      have K_pe := Blk.new' w0 25 (Value.slice A_e l.length c_e) _ rfl
      obtain ⟨e_pe, -⟩ := K_pe.one
      go_wp2_with fail
      clear e_pe
      generalize hW : w0.alloc (.cells #[Value.slice A_e l.length c_e] 25) = w1 at *
      clear hW
      refine (implTot_any _ l n _ S_0.out ⟨n1, n2⟩).mono ?_
      rintro e w2 ⟨rfl, b⟩
      replace K_pe := K_pe.below b K_pe.lt
      replace S_0 := Lib.hid (S_0.out.bel b)
      replace HB := Lib.hid (bel_trans HB.out b)
      clear b
      obtain ⟨e_pe, -⟩ := K_pe.one
      go_wp2_with fail
      clear e_pe
      refine (specTot_any _ l n _ S_0.out ⟨n1, n2⟩).mono ?_
      rintro e w3 ⟨rfl, b⟩
      replace K_pe := K_pe.below b K_pe.lt
      replace S_0 := Lib.hid (S_0.out.bel b)
      replace HB := Lib.hid (bel_trans HB.out b)
      clear b
      have tb := tot_bd2 l n
      cases hok : totOk l n
      · go_wp2
        go_ret
        exact ⟨rfl, HB.out⟩
      · have hok2 := totOk_true.1 hok
        have hn2 := inB_true.1 hok2.2
        have HE := Lib.hid (sumOk_true.1 hok2.1).1
        obtain ⟨n, rfl⟩ : ∃ k : Nat, n = k := ⟨n.toNat, by omega⟩
        obtain ⟨kk, hkk⟩ : ∃ kk : Nat, kk = more.length % (n + 1) := ⟨_, rfl⟩
        have hkn : kk ≤ n := by rw [hkk]; have := Nat.mod_lt more.length (show 0 < n + 1 by omega); omega
        have n60 : n ≤ 60 := by omega
        have hn0 : ¬ ((n : Int) + 1 = 0) := by omega
        have hrem : (more.length : Int) % ((n : Int) + 1) = (kk : Int) := by rw [hkk, Int.natCast_emod]; rfl
        obtain ⟨q1, q2, q3⟩ := total_law hok hkn
        have hsub : ((n - kk : Nat) : Int) = (n : Int) - (kk : Int) := by omega
        rw [hsub] at q2 q3
        have HKK := Lib.hid (And.intro hkk hsub)
        clear hkk hsub
        have t1 := tot_bd2 l kk
        have t2 := tot_bd2 (turnN l kk) ((n : Int) - (kk : Int))
        obtain ⟨l1, l7, hcols⟩ := engOk_iff.1 HE.out
        have h12 := colOk_true (hcols 0 (by omega)).1
        have s12 : (sat l 0).size ≤ 12 := h12.2.1
        have hT := ten_le s12
        have hT1 := ten_pos (sat l 0).size
        have hT0 : ¬ (((ten (sat l 0).size : Nat) : Int) = 0) := by omega
        clear hcols h12 hok2 hn2
        obtain ⟨e_pe, -⟩ := K_pe.one
        go_wp2_with fail
        clear e_pe
        refine (implTot_any _ l kk _ S_0.out (by omega)).mono ?_
        rintro e w4 ⟨rfl, b⟩
        replace K_pe := K_pe.below b K_pe.lt
        replace S_0 := Lib.hid (S_0.out.bel b)
        replace HB := Lib.hid (bel_trans HB.out b)
        clear b
        obtain ⟨e_pe, -⟩ := K_pe.one
        go_wp2_with fail
        clear e_pe
        refine (deTurned_any _ l kk _ S_0.out HE.out (by omega)).mono ?_
        rintro e w5 ⟨r_d0, rfl, o_d0, b⟩
        have z_pe := K_pe.lt
        have HB0 := HB.out.size
        replace K_pe := K_pe.below b K_pe.lt
        replace S_0 := Lib.hid (S_0.out.bel b)
        replace HB := Lib.hid (bel_trans HB.out b)
        clear b
        have N_pe_d0 : Hid (∀ k, r_d0.ownBlock = some k → k ≠ w0.heap.size) := Lib.hid (fun k hk => by have p1 := (o_d0.lt k hk).1; have p2 := z_pe; omega)
        have t_d0 : Hid (∀ k, r_d0.ownBlock = some k → w.heap.size ≤ k) := Lib.hid (fun k hk => by have p1 := (o_d0.lt k hk).1; have p2 := HB0; omega)
        have HBZ := Lib.hid HB0
        clear HB0 z_pe 
        have O_d0 := Lib.hid (o_d0.lower (base' := w.heap.size) HBZ.out)
        obtain ⟨A_d0, c_d0, rfl, -, -, -⟩ := o_d0.strs.open_
        clear o_d0
        clear HBZ
        obtain ⟨e_pe, -⟩ := K_pe.one
        go_wp2_with fail
        clear e_pe
        refine (implTot_any _ (turnN l kk) ((n : Int) - (kk : Int)) _ O_d0.out.strs (by omega)).mono ?_
        rintro e w6 ⟨rfl, b⟩
        replace K_pe := K_pe.below b K_pe.lt
        replace O_d0 := Lib.hid (O_d0.out.bel b)
        replace S_0 := Lib.hid (S_0.out.bel b)
        replace HB := Lib.hid (bel_trans HB.out b)
        clear b
        obtain ⟨A', c', e', -, -, hrd⟩ := S_0.out.open_
        injection e' with e1 e2 e3
        subst e1 e3
        obtain ⟨b, o, rfl, hbb, hcell⟩ := hrd.strs (by omega)
        have ca := hcell 0 (by omega)
        rw [Nat.add_zero] at ca
        clear hcell hrd e2
        obtain ⟨e_pe, -⟩ := K_pe.one
        have hl1 : (0 : Int) < (l.length : Int) := by omega
        go_wp2_with (go_at_call 10; refine (deTen_any (sat l 0).size _ s12).mono ?_; rintro e w' ⟨rfl, rfl⟩)
        go_ret
        exact ⟨by first | rfl | (simp; done) | simp_all, HB.out⟩

theorem lawTotalF (v : Value) (code : List Int) (u : Value) (more : List Int) (w : World) (hv : Bytes w v code) (hu : Bytes w u more) :
    Calls Try.prog 4 #[v, u] w fun e w' => e = .returned (.bool true) ∧ Below w.heap.size w w' := lawTotal v u code more w hv hu

end Go.Proofs.Yticpngnlefnokaa
