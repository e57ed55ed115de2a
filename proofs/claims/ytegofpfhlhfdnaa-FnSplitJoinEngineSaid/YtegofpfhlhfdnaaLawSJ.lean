/-
  The law FnSplitJoinEngine, walked (made by law_sj.py).
-/
import Derived.Test.YtegofpfhlhfdnaaDrawG
import Derived.Test.YtegofpfhlhfdnaaJoinB
namespace Go.Proofs.Ytegofpfhlhfdnaa
open Go.RowKit
set_option linter.unusedVariables false
set_option linter.unusedSimpArgs false
set_option maxRecDepth 100000

theorem sat_drop {l : List ByteArray} {n k : Nat} (h : n + k < l.length) : sat (l.drop n) k = sat l (n + k) := by
  rw [sat_eq _ k (by rw [List.length_drop]; omega), sat_eq _ _ h, List.getElem_drop]
theorem sat_take {l : List ByteArray} {n k : Nat} (h : k < n) (hn : n ≤ l.length) : sat (l.take n) k = sat l k := by
  rw [sat_eq _ k (by rw [List.length_take]; omega), sat_eq _ k (by omega), List.getElem_take]
theorem split_join {l : List ByteArray} {n : Int} (h : splitOk l n = true) : joinOk (splitA l n) (splitB l n) = true ∧ joinE (splitA l n) (splitB l n) = l ∧ ((splitB l n).length : Int) = n := by
  have hs := h
  simp only [splitOk, Bool.and_eq_true] at hs
  obtain ⟨he, hi⟩ := hs
  have hi' := inB_true.1 hi
  obtain ⟨n, rfl⟩ : ∃ m : Nat, n = m := ⟨n.toNat, by omega⟩
  obtain ⟨l1, l7, hc⟩ := engOk_iff.1 he
  rw [(split_yes h).1, (split_yes h).2]
  simp only [Int.toNat_natCast]
  have ht : (l.take n).length = n := by rw [List.length_take]; omega
  have hd : (l.drop n).length = l.length - n := List.length_drop
  have hj : joinOk (l.drop n) (l.take n) = true := by
    refine joinOk_true.2 ⟨engOk_iff.2 ⟨by omega, by omega, fun k hk => ?_⟩, engOk_iff.2 ⟨by omega, by omega, fun k hk => ?_⟩, ?_, by omega⟩
    · rw [hd] at hk
      rw [sat_drop (by omega), sat_drop (by omega)]
      exact ⟨(hc (n + k) (by omega)).1, (hc (n + k) (by omega)).2.trans (hc (n + 0) (by omega)).2.symm⟩
    · rw [ht] at hk
      rw [sat_take hk (by omega), sat_take (by omega) (by omega)]
      exact hc k (by omega)
    · rw [sat_drop (by omega), sat_take (by omega) (by omega)]
      exact (hc (n + 0) (by omega)).2
  refine ⟨hj, ?_, by omega⟩
  rw [joinE_yes hj, List.take_append_drop]

set_option maxHeartbeats 2000000 in
theorem deSame_any (u v : Value) (l m : List ByteArray) (w : World) (hu : Strs w u l) (hv : Strs w v m) :
    Calls Try.prog 38 #[.agg #[u], .agg #[v]] w fun e w' => e = .returned (.bool (eqS l m)) ∧ Below w.heap.size w w' := by
  have HU := Lib.hid hu
  have HV := Lib.hid hv
  obtain ⟨A, c, rfl, hlc, hc, hrd⟩ := hu.open_
  obtain ⟨B, d, rfl, hld, hd, hrd2⟩ := hv.open_
  clear hu hv
  have B0 := Lib.hid (show Below w.heap.size w ((w.alloc (.cells #[.slice A l.length c] 42)).alloc (.cells #[.slice B m.length d] 42)) from (bel_alloc w _).alloc (by simp) _)
  have K0 := (Blk.new' w 42 (.slice A l.length c) w.heap.size rfl).alloc (.cells #[.slice B m.length d] 42)
  have K1 := Blk.new' (w.alloc (.cells #[.slice A l.length c] 42)) 42 (.slice B m.length d) (w.heap.size + 1) (by simp)
  obtain ⟨e0, -⟩ := K0.one
  obtain ⟨e1, -⟩ := K1.one
  by_cases he : l.length = m.length
  · have h1 : ((l.length : Int) != (m.length : Int)) = false := by simp [he]
    have HE := Lib.hid he
    clear he
    go_enter Try.func38, Try.ntmps38
    go_wp2_with fail
    generalize hW : (w.alloc (.cells #[.slice A l.length c] 42)).alloc (.cells #[.slice B m.length d] 42) = W at *
    clear hW K0 K1
    go_loopw [5] (fun i wr => ∃ k : Nat, k ≤ l.length ∧ i = .int .i64 k ∧ (∀ j, j < k → sat l j = sat m j) ∧ ∃ n, wr = W.drewN n) (fun i _ => l.length - (intOf i).toNat)
    case atStart => exact ⟨0, Nat.zero_le _, rfl, fun j hj => absurd hj (by omega), 0, rfl⟩
    case round =>
      obtain ⟨k, hk, rfl, hall, nd, rfl⟩ := hrel
      have HA := Lib.hid hall
      clear hall
      by_cases hlt : k < l.length
      · have hltm : k < m.length := by have := HE.out; omega
        obtain ⟨b, o, rfl, hb, hcell⟩ := hrd.strs (by omega)
        obtain ⟨b2, o2, rfl, hb2, hcell2⟩ := hrd2.strs (by omega)
        have hck := (B0.out.cell (by exact hb)).trans (hcell k hlt)
        have hck2 := (B0.out.cell (by exact hb2)).trans (hcell2 k hltm)
        have p1 : (k : Int) < (l.length : Int) := by omega
        have p2 : (k : Int) < (m.length : Int) := by omega
        have p3 : (0 : Int) ≤ (k : Int) := by omega
        clear hcell hcell2
        go_wp2_with fail
        go_quiet (fail)
        go_wp2
        · have h : (!(sat l k).toList == (sat m k).toList) = true := by assumption
          go_ret
          exact ⟨ret_bool (eqS_false.2 (fun e => by rw [e] at h; simp at h)).symm, below_drewN (below_drewN B0.out _) _⟩
        · have h : (!(sat l k).toList == (sat m k).toList) = false := by assumption
          go_roundw
          case rel => exact ⟨k + 1, by omega, by go_num, toSucc HA.out (str_eq h), _, rfl⟩
          case measure => simp [intOf]; omega
      · go_wp2
        go_ret
        exact ⟨ret_bool (eqS_true.2 (slist_ext HE.out (fun j hj => HA.out j (by omega)))).symm, below_drewN B0.out _⟩
  · have h1 : ((l.length : Int) != (m.length : Int)) = true := by simp; omega
    go_enter Try.func38, Try.ntmps38
    go_wp2
    go_ret
    exact ⟨ret_bool (eqS_false.2 (fun h => he (by rw [h]))).symm, B0.out⟩

set_option maxHeartbeats 8000000 in
theorem lawSplitJoin (v : Value) (code : List Int) (w : World) (hv : Bytes w v code) :
    Calls Try.prog 9 #[v] w fun e w' => e = .returned (.bool true) ∧ Below w.heap.size w w' := by
  have HV := Lib.hid hv
  obtain ⟨A_c, c_c, rfl, -, -, -⟩ := hv.open_
  clear hv
  by_cases hbig : (1048576 : Int) < (code.length : Int)
  · go_enter Try.func9, Try.ntmps9
    go_wp2
    go_ret
    exact ⟨rfl, Below.refl _ _⟩
  · skip
    go_enter Try.func9, Try.ntmps9
    go_wp2_with fail
    refine (drawSplit_any _ code _ HV.out).mono ?_
    rintro e w0 ⟨ve, l, n, rfl, hs, l8, n1, n2, b⟩
    have HB := Lib.hid b
    have S_0 := Lib.hid hs
    obtain ⟨A_e, c_e, rfl, -, -, -⟩ := hs.open_
    clear hs b
    have he0 := eqS_self (splitA l n)
    have he1 := eqS_self (splitB l n)
    have ba : Below w0.heap.size w0 (w0.alloc (.cells #[Value.slice A_e l.length c_e] 42)) := bel_alloc w0 _
    replace S_0 := Lib.hid (S_0.out.bel ba)
    replace HB := Lib.hid (bel_trans HB.out ba)
    clear ba
    have K_pe := Blk.new' w0 42 (Value.slice A_e l.length c_e) _ rfl
    obtain ⟨e_pe, -⟩ := K_pe.one
    go_wp2_with fail
    clear e_pe
    generalize hW : w0.alloc (.cells #[Value.slice A_e l.length c_e] 42) = w1 at *
    clear hW
    refine (implSplit_any _ l n _ S_0.out ⟨n1, n2⟩).mono ?_
    rintro e w2 ⟨r_g0, r_g1, rfl, o_g0, o_g1, dxy, b⟩
    have z_pe := K_pe.lt
    have HB0 := HB.out.size
    replace K_pe := K_pe.below b K_pe.lt
    replace S_0 := Lib.hid (S_0.out.bel b)
    replace HB := Lib.hid (bel_trans HB.out b)
    clear b
    have N_pe_g0 : Hid (∀ k, r_g0.ownBlock = some k → k ≠ w0.heap.size) := Lib.hid (fun k hk => by have p1 := (o_g0.lt k hk).1; have p2 := z_pe; omega)
    have t_g0 : Hid (∀ k, r_g0.ownBlock = some k → w.heap.size ≤ k) := Lib.hid (fun k hk => by have p1 := (o_g0.lt k hk).1; have p2 := HB0; omega)
    have N_pe_g1 : Hid (∀ k, r_g1.ownBlock = some k → k ≠ w0.heap.size) := Lib.hid (fun k hk => by have p1 := (o_g1.lt k hk).1; have p2 := z_pe; omega)
    have t_g1 : Hid (∀ k, r_g1.ownBlock = some k → w.heap.size ≤ k) := Lib.hid (fun k hk => by have p1 := (o_g1.lt k hk).1; have p2 := HB0; omega)
    have HBZ := Lib.hid HB0
    clear HB0 z_pe 
    have N_g0_g1 := Lib.hid dxy
    clear dxy
    have O_g0 := Lib.hid (o_g0.lower (base' := w.heap.size) HBZ.out)
    obtain ⟨A_g0, c_g0, rfl, -, -, -⟩ := o_g0.strs.open_
    clear o_g0
    have O_g1 := Lib.hid (o_g1.lower (base' := w.heap.size) HBZ.out)
    obtain ⟨A_g1, c_g1, rfl, -, -, -⟩ := o_g1.strs.open_
    clear o_g1
    clear HBZ
    have ba : Below w2.heap.size w2 ((w2.alloc (.cells #[Value.slice A_g0 (splitA l n).length c_g0] 42)).alloc (.cells #[Value.slice A_g1 (splitB l n).length c_g1] 42)) := (bel_alloc w2 _).alloc (by simp <;> omega) _
    have u_g0 := Lib.hid (fun k hk => (O_g0.out.lt k hk).2)
    have u_g1 := Lib.hid (fun k hk => (O_g1.out.lt k hk).2)
    replace K_pe := K_pe.below ba K_pe.lt
    replace O_g0 := Lib.hid (O_g0.out.bel ba)
    replace O_g1 := Lib.hid (O_g1.out.bel ba)
    replace S_0 := Lib.hid (S_0.out.bel ba)
    replace HB := Lib.hid (bel_trans HB.out ba)
    clear ba
    have K_gb0 := (Blk.new' w2 42 (Value.slice A_g0 (splitA l n).length c_g0) _ rfl).alloc (.cells #[Value.slice A_g1 (splitB l n).length c_g1] 42)
    have N_gb0_g0 : Hid (∀ k, (Value.slice A_g0 (splitA l n).length c_g0).ownBlock = some k → k ≠ w2.heap.size) := Lib.hid (fun k hk => by have p1 := u_g0.out k hk; omega)
    have N_gb0_g1 : Hid (∀ k, (Value.slice A_g1 (splitB l n).length c_g1).ownBlock = some k → k ≠ w2.heap.size) := Lib.hid (fun k hk => by have p1 := u_g1.out k hk; omega)
    have K_gb1 := Blk.new' (w2.alloc (.cells #[Value.slice A_g0 (splitA l n).length c_g0] 42)) 42 (Value.slice A_g1 (splitB l n).length c_g1) (w2.heap.size + 1) (by simp)
    have N_gb1_g0 : Hid (∀ k, (Value.slice A_g0 (splitA l n).length c_g0).ownBlock = some k → k ≠ w2.heap.size + 1) := Lib.hid (fun k hk => by have p1 := u_g0.out k hk; omega)
    have N_gb1_g1 : Hid (∀ k, (Value.slice A_g1 (splitB l n).length c_g1).ownBlock = some k → k ≠ w2.heap.size + 1) := Lib.hid (fun k hk => by have p1 := u_g1.out k hk; omega)
    clear u_g0 u_g1
    obtain ⟨e_pe, -⟩ := K_pe.one
    obtain ⟨e_gb0, -⟩ := K_gb0.one
    obtain ⟨e_gb1, -⟩ := K_gb1.one
    go_wp2_with fail
    clear e_pe e_gb0 e_gb1
    generalize hW : (w2.alloc (.cells #[Value.slice A_g0 (splitA l n).length c_g0] 42)).alloc (.cells #[Value.slice A_g1 (splitB l n).length c_g1] 42) = w3 at *
    clear hW
    refine (specSplit_any _ l n _ S_0.out ⟨n1, n2⟩).mono ?_
    rintro e w4 ⟨r_s0, r_s1, rfl, o_s0, o_s1, dxy, b⟩
    have z_pe := K_pe.lt
    have z_gb0 := K_gb0.lt
    have z_gb1 := K_gb1.lt
    have HB0 := HB.out.size
    have y_g0 := Lib.hid (fun k hk => (O_g0.out.lt k hk).2)
    have y_g1 := Lib.hid (fun k hk => (O_g1.out.lt k hk).2)
    replace K_pe := K_pe.below b K_pe.lt
    replace K_gb0 := K_gb0.below b K_gb0.lt
    replace K_gb1 := K_gb1.below b K_gb1.lt
    replace O_g0 := Lib.hid (O_g0.out.bel b)
    replace O_g1 := Lib.hid (O_g1.out.bel b)
    replace S_0 := Lib.hid (S_0.out.bel b)
    replace HB := Lib.hid (bel_trans HB.out b)
    clear b
    have N_pe_s0 : Hid (∀ k, r_s0.ownBlock = some k → k ≠ w0.heap.size) := Lib.hid (fun k hk => by have p1 := (o_s0.lt k hk).1; have p2 := z_pe; omega)
    have N_gb0_s0 : Hid (∀ k, r_s0.ownBlock = some k → k ≠ w2.heap.size) := Lib.hid (fun k hk => by have p1 := (o_s0.lt k hk).1; have p2 := z_gb0; omega)
    have N_gb1_s0 : Hid (∀ k, r_s0.ownBlock = some k → k ≠ w2.heap.size + 1) := Lib.hid (fun k hk => by have p1 := (o_s0.lt k hk).1; have p2 := z_gb1; omega)
    have N_g0_s0 : Hid (∀ k, (Value.slice A_g0 (splitA l n).length c_g0).ownBlock = some k → r_s0.ownBlock ≠ some k) := Lib.hid (fun k p q => by have p1 := (y_g0.out k p); have q1 := (o_s0.lt k q).1; omega)
    have N_g1_s0 : Hid (∀ k, (Value.slice A_g1 (splitB l n).length c_g1).ownBlock = some k → r_s0.ownBlock ≠ some k) := Lib.hid (fun k p q => by have p1 := (y_g1.out k p); have q1 := (o_s0.lt k q).1; omega)
    have t_s0 : Hid (∀ k, r_s0.ownBlock = some k → w.heap.size ≤ k) := Lib.hid (fun k hk => by have p1 := (o_s0.lt k hk).1; have p2 := HB0; omega)
    have N_pe_s1 : Hid (∀ k, r_s1.ownBlock = some k → k ≠ w0.heap.size) := Lib.hid (fun k hk => by have p1 := (o_s1.lt k hk).1; have p2 := z_pe; omega)
    have N_gb0_s1 : Hid (∀ k, r_s1.ownBlock = some k → k ≠ w2.heap.size) := Lib.hid (fun k hk => by have p1 := (o_s1.lt k hk).1; have p2 := z_gb0; omega)
    have N_gb1_s1 : Hid (∀ k, r_s1.ownBlock = some k → k ≠ w2.heap.size + 1) := Lib.hid (fun k hk => by have p1 := (o_s1.lt k hk).1; have p2 := z_gb1; omega)
    have N_g0_s1 : Hid (∀ k, (Value.slice A_g0 (splitA l n).length c_g0).ownBlock = some k → r_s1.ownBlock ≠ some k) := Lib.hid (fun k p q => by have p1 := (y_g0.out k p); have q1 := (o_s1.lt k q).1; omega)
    have N_g1_s1 : Hid (∀ k, (Value.slice A_g1 (splitB l n).length c_g1).ownBlock = some k → r_s1.ownBlock ≠ some k) := Lib.hid (fun k p q => by have p1 := (y_g1.out k p); have q1 := (o_s1.lt k q).1; omega)
    have t_s1 : Hid (∀ k, r_s1.ownBlock = some k → w.heap.size ≤ k) := Lib.hid (fun k hk => by have p1 := (o_s1.lt k hk).1; have p2 := HB0; omega)
    have HBZ := Lib.hid HB0
    clear HB0 z_pe z_gb0 z_gb1 y_g0 y_g1
    have N_s0_s1 := Lib.hid dxy
    clear dxy
    have O_s0 := Lib.hid (o_s0.lower (base' := w.heap.size) HBZ.out)
    obtain ⟨A_s0, c_s0, rfl, -, -, -⟩ := o_s0.strs.open_
    clear o_s0
    have O_s1 := Lib.hid (o_s1.lower (base' := w.heap.size) HBZ.out)
    obtain ⟨A_s1, c_s1, rfl, -, -, -⟩ := o_s1.strs.open_
    clear o_s1
    clear HBZ
    have ba : Below w4.heap.size w4 ((w4.alloc (.cells #[Value.slice A_s0 (splitA l n).length c_s0] 42)).alloc (.cells #[Value.slice A_s1 (splitB l n).length c_s1] 42)) := (bel_alloc w4 _).alloc (by simp <;> omega) _
    have u_g0 := Lib.hid (fun k hk => (O_g0.out.lt k hk).2)
    have u_g1 := Lib.hid (fun k hk => (O_g1.out.lt k hk).2)
    have u_s0 := Lib.hid (fun k hk => (O_s0.out.lt k hk).2)
    have u_s1 := Lib.hid (fun k hk => (O_s1.out.lt k hk).2)
    replace K_pe := K_pe.below ba K_pe.lt
    replace K_gb0 := K_gb0.below ba K_gb0.lt
    replace K_gb1 := K_gb1.below ba K_gb1.lt
    replace O_g0 := Lib.hid (O_g0.out.bel ba)
    replace O_g1 := Lib.hid (O_g1.out.bel ba)
    replace O_s0 := Lib.hid (O_s0.out.bel ba)
    replace O_s1 := Lib.hid (O_s1.out.bel ba)
    replace S_0 := Lib.hid (S_0.out.bel ba)
    replace HB := Lib.hid (bel_trans HB.out ba)
    clear ba
    have K_sb0 := (Blk.new' w4 42 (Value.slice A_s0 (splitA l n).length c_s0) _ rfl).alloc (.cells #[Value.slice A_s1 (splitB l n).length c_s1] 42)
    have N_sb0_g0 : Hid (∀ k, (Value.slice A_g0 (splitA l n).length c_g0).ownBlock = some k → k ≠ w4.heap.size) := Lib.hid (fun k hk => by have p1 := u_g0.out k hk; omega)
    have N_sb0_g1 : Hid (∀ k, (Value.slice A_g1 (splitB l n).length c_g1).ownBlock = some k → k ≠ w4.heap.size) := Lib.hid (fun k hk => by have p1 := u_g1.out k hk; omega)
    have N_sb0_s0 : Hid (∀ k, (Value.slice A_s0 (splitA l n).length c_s0).ownBlock = some k → k ≠ w4.heap.size) := Lib.hid (fun k hk => by have p1 := u_s0.out k hk; omega)
    have N_sb0_s1 : Hid (∀ k, (Value.slice A_s1 (splitB l n).length c_s1).ownBlock = some k → k ≠ w4.heap.size) := Lib.hid (fun k hk => by have p1 := u_s1.out k hk; omega)
    have K_sb1 := Blk.new' (w4.alloc (.cells #[Value.slice A_s0 (splitA l n).length c_s0] 42)) 42 (Value.slice A_s1 (splitB l n).length c_s1) (w4.heap.size + 1) (by simp)
    have N_sb1_g0 : Hid (∀ k, (Value.slice A_g0 (splitA l n).length c_g0).ownBlock = some k → k ≠ w4.heap.size + 1) := Lib.hid (fun k hk => by have p1 := u_g0.out k hk; omega)
    have N_sb1_g1 : Hid (∀ k, (Value.slice A_g1 (splitB l n).length c_g1).ownBlock = some k → k ≠ w4.heap.size + 1) := Lib.hid (fun k hk => by have p1 := u_g1.out k hk; omega)
    have N_sb1_s0 : Hid (∀ k, (Value.slice A_s0 (splitA l n).length c_s0).ownBlock = some k → k ≠ w4.heap.size + 1) := Lib.hid (fun k hk => by have p1 := u_s0.out k hk; omega)
    have N_sb1_s1 : Hid (∀ k, (Value.slice A_s1 (splitB l n).length c_s1).ownBlock = some k → k ≠ w4.heap.size + 1) := Lib.hid (fun k hk => by have p1 := u_s1.out k hk; omega)
    clear u_g0 u_g1 u_s0 u_s1
    obtain ⟨e_pe, -⟩ := K_pe.one
    obtain ⟨e_gb0, -⟩ := K_gb0.one
    obtain ⟨e_gb1, -⟩ := K_gb1.one
    obtain ⟨e_sb0, -⟩ := K_sb0.one
    obtain ⟨e_sb1, -⟩ := K_sb1.one
    go_wp2_with fail
    clear e_pe e_gb0 e_gb1 e_sb0 e_sb1
    generalize hW : (w4.alloc (.cells #[Value.slice A_s0 (splitA l n).length c_s0] 42)).alloc (.cells #[Value.slice A_s1 (splitB l n).length c_s1] 42) = w5 at *
    clear hW
    refine (deSame_any _ _ _ _ _ O_g0.out.strs O_s0.out.strs).mono ?_
    rw [he0]
    rintro e w6 ⟨rfl, b⟩
    replace K_pe := K_pe.below b K_pe.lt
    replace K_gb0 := K_gb0.below b K_gb0.lt
    replace K_gb1 := K_gb1.below b K_gb1.lt
    replace K_sb0 := K_sb0.below b K_sb0.lt
    replace K_sb1 := K_sb1.below b K_sb1.lt
    replace O_g0 := Lib.hid (O_g0.out.bel b)
    replace O_g1 := Lib.hid (O_g1.out.bel b)
    replace O_s0 := Lib.hid (O_s0.out.bel b)
    replace O_s1 := Lib.hid (O_s1.out.bel b)
    replace S_0 := Lib.hid (S_0.out.bel b)
    replace HB := Lib.hid (bel_trans HB.out b)
    clear b
    obtain ⟨e_pe, -⟩ := K_pe.one
    obtain ⟨e_gb0, -⟩ := K_gb0.one
    obtain ⟨e_gb1, -⟩ := K_gb1.one
    obtain ⟨e_sb0, -⟩ := K_sb0.one
    obtain ⟨e_sb1, -⟩ := K_sb1.one
    go_wp2_with fail
    clear e_pe e_gb0 e_gb1 e_sb0 e_sb1
    refine (deSame_any _ _ _ _ _ O_g1.out.strs O_s1.out.strs).mono ?_
    rw [he1]
    rintro e w7 ⟨rfl, b⟩
    replace K_pe := K_pe.below b K_pe.lt
    replace K_gb0 := K_gb0.below b K_gb0.lt
    replace K_gb1 := K_gb1.below b K_gb1.lt
    replace K_sb0 := K_sb0.below b K_sb0.lt
    replace K_sb1 := K_sb1.below b K_sb1.lt
    replace O_g0 := Lib.hid (O_g0.out.bel b)
    replace O_g1 := Lib.hid (O_g1.out.bel b)
    replace O_s0 := Lib.hid (O_s0.out.bel b)
    replace O_s1 := Lib.hid (O_s1.out.bel b)
    replace S_0 := Lib.hid (S_0.out.bel b)
    replace HB := Lib.hid (bel_trans HB.out b)
    clear b
    cases hok : splitOk l n
    · skip
      obtain ⟨e_pe, -⟩ := K_pe.one
      obtain ⟨e_gb0, -⟩ := K_gb0.one
      obtain ⟨e_gb1, -⟩ := K_gb1.one
      obtain ⟨e_sb0, -⟩ := K_sb0.one
      obtain ⟨e_sb1, -⟩ := K_sb1.one
      go_wp2_with fail
      clear e_pe e_gb0 e_gb1 e_sb0 e_sb1
      refine (deSame_any _ _ _ _ _ O_g0.out.strs O_s0.out.strs).mono ?_
      rw [he0]
      rintro e w8 ⟨rfl, b⟩
      replace K_pe := K_pe.below b K_pe.lt
      replace K_gb0 := K_gb0.below b K_gb0.lt
      replace K_gb1 := K_gb1.below b K_gb1.lt
      replace K_sb0 := K_sb0.below b K_sb0.lt
      replace K_sb1 := K_sb1.below b K_sb1.lt
      replace O_g0 := Lib.hid (O_g0.out.bel b)
      replace O_g1 := Lib.hid (O_g1.out.bel b)
      replace O_s0 := Lib.hid (O_s0.out.bel b)
      replace O_s1 := Lib.hid (O_s1.out.bel b)
      replace S_0 := Lib.hid (S_0.out.bel b)
      replace HB := Lib.hid (bel_trans HB.out b)
      clear b
      obtain ⟨e_pe, -⟩ := K_pe.one
      obtain ⟨e_gb0, -⟩ := K_gb0.one
      obtain ⟨e_gb1, -⟩ := K_gb1.one
      obtain ⟨e_sb0, -⟩ := K_sb0.one
      obtain ⟨e_sb1, -⟩ := K_sb1.one
      go_wp2_with fail
      clear e_pe e_gb0 e_gb1 e_sb0 e_sb1
      refine (deSame_any _ _ _ _ _ O_g1.out.strs O_s1.out.strs).mono ?_
      rw [he1]
      rintro e w9 ⟨rfl, b⟩
      replace K_pe := K_pe.below b K_pe.lt
      replace K_gb0 := K_gb0.below b K_gb0.lt
      replace K_gb1 := K_gb1.below b K_gb1.lt
      replace K_sb0 := K_sb0.below b K_sb0.lt
      replace K_sb1 := K_sb1.below b K_sb1.lt
      replace O_g0 := Lib.hid (O_g0.out.bel b)
      replace O_g1 := Lib.hid (O_g1.out.bel b)
      replace O_s0 := Lib.hid (O_s0.out.bel b)
      replace O_s1 := Lib.hid (O_s1.out.bel b)
      replace S_0 := Lib.hid (S_0.out.bel b)
      replace HB := Lib.hid (bel_trans HB.out b)
      clear b
      go_wp2
      go_ret
      exact ⟨rfl, HB.out⟩
    · obtain ⟨hj, hje, hlen⟩ := split_join hok
      have hjs : eqS (joinE (splitA l n) (splitB l n)) l = true := eqS_true.2 hje
      have HJE := Lib.hid hje
      clear hje
      have hln : (((splitB l n).length : Int) == n) = true := by simp [hlen]
      have HLN := Lib.hid hlen
      clear hlen
      obtain ⟨e_pe, -⟩ := K_pe.one
      obtain ⟨e_gb0, -⟩ := K_gb0.one
      obtain ⟨e_gb1, -⟩ := K_gb1.one
      obtain ⟨e_sb0, -⟩ := K_sb0.one
      obtain ⟨e_sb1, -⟩ := K_sb1.one
      go_wp2_with fail
      clear e_pe e_gb0 e_gb1 e_sb0 e_sb1
      refine (implJoin_any _ _ (splitA l n) (splitB l n) _ O_g0.out.strs O_g1.out.strs).mono ?_
      rintro e w10 ⟨r_j0, rfl, o_j0, b⟩
      have z_pe := K_pe.lt
      have z_gb0 := K_gb0.lt
      have z_gb1 := K_gb1.lt
      have z_sb0 := K_sb0.lt
      have z_sb1 := K_sb1.lt
      have HB0 := HB.out.size
      have y_g0 := Lib.hid (fun k hk => (O_g0.out.lt k hk).2)
      have y_g1 := Lib.hid (fun k hk => (O_g1.out.lt k hk).2)
      have y_s0 := Lib.hid (fun k hk => (O_s0.out.lt k hk).2)
      have y_s1 := Lib.hid (fun k hk => (O_s1.out.lt k hk).2)
      replace K_pe := K_pe.below b K_pe.lt
      replace K_gb0 := K_gb0.below b K_gb0.lt
      replace K_gb1 := K_gb1.below b K_gb1.lt
      replace K_sb0 := K_sb0.below b K_sb0.lt
      replace K_sb1 := K_sb1.below b K_sb1.lt
      replace O_g0 := Lib.hid (O_g0.out.bel b)
      replace O_g1 := Lib.hid (O_g1.out.bel b)
      replace O_s0 := Lib.hid (O_s0.out.bel b)
      replace O_s1 := Lib.hid (O_s1.out.bel b)
      replace S_0 := Lib.hid (S_0.out.bel b)
      replace HB := Lib.hid (bel_trans HB.out b)
      clear b
      have N_pe_j0 : Hid (∀ k, r_j0.ownBlock = some k → k ≠ w0.heap.size) := Lib.hid (fun k hk => by have p1 := (o_j0.lt k hk).1; have p2 := z_pe; omega)
      have N_gb0_j0 : Hid (∀ k, r_j0.ownBlock = some k → k ≠ w2.heap.size) := Lib.hid (fun k hk => by have p1 := (o_j0.lt k hk).1; have p2 := z_gb0; omega)
      have N_gb1_j0 : Hid (∀ k, r_j0.ownBlock = some k → k ≠ w2.heap.size + 1) := Lib.hid (fun k hk => by have p1 := (o_j0.lt k hk).1; have p2 := z_gb1; omega)
      have N_sb0_j0 : Hid (∀ k, r_j0.ownBlock = some k → k ≠ w4.heap.size) := Lib.hid (fun k hk => by have p1 := (o_j0.lt k hk).1; have p2 := z_sb0; omega)
      have N_sb1_j0 : Hid (∀ k, r_j0.ownBlock = some k → k ≠ w4.heap.size + 1) := Lib.hid (fun k hk => by have p1 := (o_j0.lt k hk).1; have p2 := z_sb1; omega)
      have N_g0_j0 : Hid (∀ k, (Value.slice A_g0 (splitA l n).length c_g0).ownBlock = some k → r_j0.ownBlock ≠ some k) := Lib.hid (fun k p q => by have p1 := (y_g0.out k p); have q1 := (o_j0.lt k q).1; omega)
      have N_g1_j0 : Hid (∀ k, (Value.slice A_g1 (splitB l n).length c_g1).ownBlock = some k → r_j0.ownBlock ≠ some k) := Lib.hid (fun k p q => by have p1 := (y_g1.out k p); have q1 := (o_j0.lt k q).1; omega)
      have N_s0_j0 : Hid (∀ k, (Value.slice A_s0 (splitA l n).length c_s0).ownBlock = some k → r_j0.ownBlock ≠ some k) := Lib.hid (fun k p q => by have p1 := (y_s0.out k p); have q1 := (o_j0.lt k q).1; omega)
      have N_s1_j0 : Hid (∀ k, (Value.slice A_s1 (splitB l n).length c_s1).ownBlock = some k → r_j0.ownBlock ≠ some k) := Lib.hid (fun k p q => by have p1 := (y_s1.out k p); have q1 := (o_j0.lt k q).1; omega)
      have t_j0 : Hid (∀ k, r_j0.ownBlock = some k → w.heap.size ≤ k) := Lib.hid (fun k hk => by have p1 := (o_j0.lt k hk).1; have p2 := HB0; omega)
      have HBZ := Lib.hid HB0
      clear HB0 z_pe z_gb0 z_gb1 z_sb0 z_sb1 y_g0 y_g1 y_s0 y_s1
      have O_j0 := Lib.hid (o_j0.lower (base' := w.heap.size) HBZ.out)
      obtain ⟨A_j0, c_j0, rfl, -, -, -⟩ := o_j0.strs.open_
      clear o_j0
      clear HBZ
      have ba : Below w10.heap.size w10 (w10.alloc (.cells #[Value.slice A_j0 (joinE (splitA l n) (splitB l n)).length c_j0] 42)) := bel_alloc w10 _
      have u_g0 := Lib.hid (fun k hk => (O_g0.out.lt k hk).2)
      have u_g1 := Lib.hid (fun k hk => (O_g1.out.lt k hk).2)
      have u_s0 := Lib.hid (fun k hk => (O_s0.out.lt k hk).2)
      have u_s1 := Lib.hid (fun k hk => (O_s1.out.lt k hk).2)
      have u_j0 := Lib.hid (fun k hk => (O_j0.out.lt k hk).2)
      replace K_pe := K_pe.below ba K_pe.lt
      replace K_gb0 := K_gb0.below ba K_gb0.lt
      replace K_gb1 := K_gb1.below ba K_gb1.lt
      replace K_sb0 := K_sb0.below ba K_sb0.lt
      replace K_sb1 := K_sb1.below ba K_sb1.lt
      replace O_g0 := Lib.hid (O_g0.out.bel ba)
      replace O_g1 := Lib.hid (O_g1.out.bel ba)
      replace O_s0 := Lib.hid (O_s0.out.bel ba)
      replace O_s1 := Lib.hid (O_s1.out.bel ba)
      replace O_j0 := Lib.hid (O_j0.out.bel ba)
      replace S_0 := Lib.hid (S_0.out.bel ba)
      replace HB := Lib.hid (bel_trans HB.out ba)
      clear ba
      have K_jb0 := Blk.new' w10 42 (Value.slice A_j0 (joinE (splitA l n) (splitB l n)).length c_j0) _ rfl
      have N_jb0_g0 : Hid (∀ k, (Value.slice A_g0 (splitA l n).length c_g0).ownBlock = some k → k ≠ w10.heap.size) := Lib.hid (fun k hk => by have p1 := u_g0.out k hk; omega)
      have N_jb0_g1 : Hid (∀ k, (Value.slice A_g1 (splitB l n).length c_g1).ownBlock = some k → k ≠ w10.heap.size) := Lib.hid (fun k hk => by have p1 := u_g1.out k hk; omega)
      have N_jb0_s0 : Hid (∀ k, (Value.slice A_s0 (splitA l n).length c_s0).ownBlock = some k → k ≠ w10.heap.size) := Lib.hid (fun k hk => by have p1 := u_s0.out k hk; omega)
      have N_jb0_s1 : Hid (∀ k, (Value.slice A_s1 (splitB l n).length c_s1).ownBlock = some k → k ≠ w10.heap.size) := Lib.hid (fun k hk => by have p1 := u_s1.out k hk; omega)
      have N_jb0_j0 : Hid (∀ k, (Value.slice A_j0 (joinE (splitA l n) (splitB l n)).length c_j0).ownBlock = some k → k ≠ w10.heap.size) := Lib.hid (fun k hk => by have p1 := u_j0.out k hk; omega)
      clear u_g0 u_g1 u_s0 u_s1 u_j0
      obtain ⟨e_pe, -⟩ := K_pe.one
      obtain ⟨e_gb0, -⟩ := K_gb0.one
      obtain ⟨e_gb1, -⟩ := K_gb1.one
      obtain ⟨e_sb0, -⟩ := K_sb0.one
      obtain ⟨e_sb1, -⟩ := K_sb1.one
      obtain ⟨e_jb0, -⟩ := K_jb0.one
      go_wp2_with fail
      clear e_pe e_gb0 e_gb1 e_sb0 e_sb1 e_jb0
      generalize hW : w10.alloc (.cells #[Value.slice A_j0 (joinE (splitA l n) (splitB l n)).length c_j0] 42) = w11 at *
      clear hW
      refine (deSame_any _ _ _ _ _ O_j0.out.strs S_0.out).mono ?_
      rw [hjs]
      rintro e w12 ⟨rfl, b⟩
      replace K_pe := K_pe.below b K_pe.lt
      replace K_gb0 := K_gb0.below b K_gb0.lt
      replace K_gb1 := K_gb1.below b K_gb1.lt
      replace K_sb0 := K_sb0.below b K_sb0.lt
      replace K_sb1 := K_sb1.below b K_sb1.lt
      replace K_jb0 := K_jb0.below b K_jb0.lt
      replace O_g0 := Lib.hid (O_g0.out.bel b)
      replace O_g1 := Lib.hid (O_g1.out.bel b)
      replace O_s0 := Lib.hid (O_s0.out.bel b)
      replace O_s1 := Lib.hid (O_s1.out.bel b)
      replace O_j0 := Lib.hid (O_j0.out.bel b)
      replace S_0 := Lib.hid (S_0.out.bel b)
      replace HB := Lib.hid (bel_trans HB.out b)
      clear b
      obtain ⟨e_pe, -⟩ := K_pe.one
      obtain ⟨e_gb0, -⟩ := K_gb0.one
      obtain ⟨e_gb1, -⟩ := K_gb1.one
      obtain ⟨e_sb0, -⟩ := K_sb0.one
      obtain ⟨e_sb1, -⟩ := K_sb1.one
      obtain ⟨e_jb0, -⟩ := K_jb0.one
      go_wp2
      go_ret
      exact ⟨rfl, HB.out⟩

end Go.Proofs.Ytegofpfhlhfdnaa
