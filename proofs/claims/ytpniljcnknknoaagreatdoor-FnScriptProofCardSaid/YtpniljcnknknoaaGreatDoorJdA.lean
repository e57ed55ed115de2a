/-
  What the laws of jobs draw: polynomials that may break the rules, arguments, widths, layouts.
-/
import Derived.Test.YtpniljcnknknoaaGreatDoorDrawC
import Derived.Test.YtpniljcnknknoaaGreatDoorDrawE
import Derived.Test.YtpniljcnknknoaaGreatDoorJob
namespace Go.Proofs.YtpniljcnknknoaaGreatDoor
open Go.RowKit
set_option linter.unusedVariables false
set_option linter.unusedSimpArgs false
set_option maxRecDepth 100000
attribute [local go_sem ↓] Go.wp_at_zero Go.wp_at_succ

theorem St.row {w : World} {g K b n cap : Nat} {l : List Int} {W : World} (h : St w g K (.slice (some ⟨b, 0, none⟩) n cap) l W) : ∃ cs, Blk W b 3 cs ∧ cs.length = cap ∧ l.length ≤ cap ∧ cap ≤ 9223372036854775807 ∧ w.heap.size ≤ b ∧ n = l.length ∧ ∀ j, j < l.length → cs[j]? = some (.int .i64 (at_ l j)) := by
  rcases h.own.form with ⟨q, _⟩ | ⟨b', cap', cs, e, hb', hbl, h1, h2, hcl, h3⟩
  · cases q
  · injection e with e1 e2 e3
    injection e1 with e1
    injection e1 with e1
    subst e1 e2 e3
    exact ⟨cs, hbl, hcl, h1, h2, hb', rfl, h3⟩
theorem St.nil_ {w : World} {g K b n cap : Nat} {l : List Int} {W : World} (h : St w g K (.slice (some ⟨b, 0, none⟩) n cap) l W) : St w g K (.slice (some ⟨b, 0, none⟩) 0 cap) [] W := by
  obtain ⟨cs, hbl, hcl, h1, h2, hb, _, hc⟩ := h.row
  exact ⟨Own.mk' (l := []) hb hbl (Nat.zero_le _) h2 hcl (fun j hj => absurd hj (by simp)) (fun _ q => by simp at q), h.rdr, h.gr, h.lt⟩
theorem St.far {w : World} {g K : Nat} {v : Value} {l : List Int} {W : World} (h : St w g K v l W) (p : Addr) (u : Value) (hp : w.heap.size ≤ p.block) (hv : ∀ k, v.ownBlock = some k → k ≠ p.block) : St w g K v l (W.setCell p u) := by
  have hg := only_setCell (World.grownBy.refl W (some p.block)) (p := p) (.inl rfl) u
  have := h.lt
  exact ⟨⟨h.own.1.kept hg (by
    cases hq : v.ownBlock with
    | none => exact .inl rfl
    | some k => exact .inr fun e => hv k hq (by injection e)), h.own.2⟩, h.rdr.grown hg (fun k hk => by injection hk with hk; omega), grown_trans h.gr hg (fun j hj => .inr (by injection hj with hj; omega)), h.lt⟩

theorem St.setN {w : World} {g K b : Nat} {v : Value} {l : List Int} (hp : w.heap.size ≤ b) (hv : ∀ k, v.ownBlock = some k → k ≠ b) : ∀ (us : List Value) (W : World) (i : Nat), St w g K v l W → St w g K v l (setN W b i us)
  | [], _, _, h => h
  | u :: us, W, i, h => St.setN hp hv us _ _ (h.far ⟨b, i, none⟩ u hp hv)
/-- Blocks apart from the reader and from v's own row are kept. -/
def KeepB (g : Nat) (v : Value) (W : World) (v' : Value) (W' : World) : Prop :=
  W.heap.size ≤ W'.heap.size ∧ ∀ b t cs, Blk W b t cs → b ≠ g → v.ownBlock ≠ some b → Blk W' b t cs ∧ v'.ownBlock ≠ some b
theorem KeepB.refl (g : Nat) (v : Value) (W : World) : KeepB g v W v W := ⟨Nat.le_refl _, fun b t cs h _ h2 => ⟨h, h2⟩⟩
theorem KeepB.trans {g : Nat} {v v' v'' : Value} {a b c : World} (h : KeepB g v a v' b) (k : KeepB g v' b v'' c) : KeepB g v a v'' c :=
  ⟨Nat.le_trans h.1 k.1, fun q t cs h1 h2 h3 => k.2 q t cs (h.2 q t cs h1 h2 h3).1 h2 (h.2 q t cs h1 h2 h3).2⟩
theorem KeepB.grown {g : Nat} {v : Value} {W W' : World} (h : W.grownBy W' (some g)) : KeepB g v W v W' :=
  ⟨h.size, fun b t cs h1 h2 h3 => ⟨h1.grown h (fun e => by injection e with e; exact h2 e), h3⟩⟩
theorem KeepB.bel {g : Nat} {v : Value} {W W' : World} (h : Below W.heap.size W W') : KeepB g v W v W' :=
  ⟨h.size, fun b t cs h1 h2 h3 => ⟨h1.below h h1.lt, h3⟩⟩
theorem KeepB.app {g : Nat} {v v' : Value} {W W' : World} (h : W.grownBy W' v.ownBlock) (hv : v'.ownBlock = v.ownBlock ∨ v'.ownBlock = some W.heap.size) : KeepB g v W v' W' :=
  ⟨h.size, fun b t cs h1 h2 h3 => ⟨h1.grown h (fun e => h3 e.symm), by
    rcases hv with q | q
    · rw [q]; exact h3
    · rw [q]; intro e; injection e with e; have := h1.lt; omega⟩⟩
theorem KeepB.own {g : Nat} {v v' : Value} {W W' : World} (h : KeepB g v W v W') (hv : v'.ownBlock = v.ownBlock) : KeepB g v W v' W' :=
  ⟨h.1, fun b t cs h1 h2 h3 => ⟨(h.2 b t cs h1 h2 h3).1, by rw [hv]; exact h3⟩⟩

/-- A polynomial that may break the rules. -/
def DrawnBad (w : World) (g K' : Nat) (v0 : Value) (w0 : World) (e : Ending) (w' : World) : Prop :=
  ∃ v l, e = .returned v ∧ St w g K' v l w' ∧ l.length ≤ 8 ∧ KeepB g v0 w0 v w'
set_option maxHeartbeats 4000000 in
set_option maxRecDepth 100000 in
theorem l2Bad_any (g K : Nat) (w w0 : World) (v : Value) (l : List Int) (hst : St w g K v l w0) (hl1 : 1 ≤ l.length) (hl2 : l.length ≤ 8) (hK : K ≤ 100000000) :
    Calls Tryz.prog 145 #[.pointer (some ⟨g, 0, none⟩), v] w0 (DrawnBad w g (K + 3) v w0) := by
  have S1 := Lib.hid hst
  have hgw := hst.lt
  have zw := hst.gr.size
  obtain ⟨b, cap, rfl, hbb, hbw, hlc, hcap, hcells⟩ := hst.own.openN (by omega)
  clear hcells hst
  go_enter Tryz.func145, Tryz.ntmps145
  go_wp2_with fail
  refine (pick_k _ S1.out (by omega) (by omega)).mono ?_
  rintro e w2 ⟨m, rfl, ma, mb, hs2, hg2⟩
  obtain ⟨m, rfl⟩ : ∃ n : Nat, m = n := ⟨m.toNat, by omega⟩
  have S2 := Lib.hid hs2
  have K2 := Lib.hid (KeepB.grown (v := .slice (some ⟨b, 0, none⟩) l.length cap) hg2)
  clear hs2 S1 hg2
  go_wp2_with fail
  refine (pick_k 40 S2.out (by omega) (by omega)).mono ?_
  rintro e w3 ⟨q, rfl, qa, qb, hs3, hg3⟩
  have S3 := Lib.hid hs3
  have z3 := hs3.gr.size
  have K3 := Lib.hid (K2.out.trans (KeepB.grown hg3))
  clear hs3 S2 K2 hg3
  cases q0 : (q == 0)
  · cases q1 : (q == 1)
    · cases q2 : (q == 2)
      · go_wp2
        go_ret
        exact ⟨_, l, rfl, ⟨S3.out.own, S3.out.rdr.more (by omega), S3.out.gr, S3.out.lt⟩, by omega, K3.out⟩
      · go_wp2_with fail
        go_loopw [1] (fun r wr => ∃ l' : List Int, l'.length ≤ 8 ∧ St w g (K + 2) r l' wr ∧ KeepB g (.slice (some ⟨b, 0, none⟩) l.length cap) w0 r wr) (fun r _ => match r with | .slice _ n _ => 9 - n | _ => 0)
        case atStart => exact ⟨l, by omega, S3.out, K3.out⟩
        case round =>
          obtain ⟨l', hl', hst, hkp⟩ := hrel
          have S5 := Lib.hid hst
          have K5 := Lib.hid hkp
          have zo := hst.gr.size
          obtain ⟨A5, c5, rfl, hlc5, hc5, hrd5⟩ := hst.own.ints.open_
          clear hst hrd5 S3 K3 hkp
          by_cases h9 : (l'.length : Int) < 8
          · go_wp2_with (at_builtin; refine app_int rfl (.tmp 29) (.tmp 30) (by rfl) w.heap.size _ l' (by rfl) (by exact S5.out.own.bel (bel_alloc _ _)) _ _ 1 (by rfl) (by exact new_cell _ _ _) (by omega) (by omega) (by simp; omega) ?_; intro v4 w4 ho hg hat)
            have S6 := Lib.hid ((S5.out.bel (bel_alloc _ _)).app ho hg)
            have K6 := Lib.hid ((K5.out.trans (KeepB.bel (bel_alloc _ _))).trans (KeepB.app hg hat))
            obtain ⟨A6, c6, rfl, hlc6, hc6, hrd6⟩ := ho.ints.open_
            clear ho hg hrd6 S5 K5 hat
            go_roundw
            case rel => exact ⟨_, by simp; omega, S6.out, K6.out⟩
            case measure => simp; omega
          · go_wp2
            go_ret
            exact ⟨_, l', rfl, ⟨S5.out.own, S5.out.rdr.more (by omega), S5.out.gr, S5.out.lt⟩, by omega, K5.out⟩
    · go_wp2
      go_ret
      have S4 := S3.out.nil_
      exact ⟨_, [], rfl, ⟨S4.own, S4.rdr.more (by omega), S4.gr, S4.lt⟩, by simp, K3.out.own rfl⟩
  · go_wp2_with fail
    refine (num_k _ [100000, 100001, -100000, -100001, 9223372036854775807] (S3.out.bel (bel_alloc _ _)) (by omega) (lit_own _ [100000, 100001, -100000, -100001, 9223372036854775807] _ w.heap.size rfl (by omega) (by simp) (wf_lit (by simp))).ints (by simp) (lit_ne (by omega))).mono ?_
    rintro e w4 ⟨n, rfl, hn, hs4, hg4⟩
    have hn' : -1000000001 ≤ n ∧ n ≤ 9223372036854775807 := by simp at hn; omega
    obtain ⟨b', cap', ev, _, _, _, _, hcells⟩ := hs4.own.openN (by omega)
    injection ev with ev1 ev2 ev3
    injection ev1 with ev1
    injection ev1 with ev1
    subst ev1
    obtain ⟨hc, hf⟩ := hcells m (by omega)
    have S4 := Lib.hid hs4
    have K4 := Lib.hid ((K3.out.trans (KeepB.bel (bel_alloc _ _))).trans (KeepB.grown hg4))
    clear hn hs4 S3 hcells ev2 ev3 hg4 K3
    go_wp2
    go_ret
    have S7 := S4.out.set_ m n (by omega) (by omega)
    exact ⟨_, _, rfl, S7, by rw [List.length_set]; omega, K4.out.trans (KeepB.app (v := .slice (some ⟨b, 0, none⟩) l.length cap) (only_setCell (World.grownBy.refl w4 (some b)) (.inl rfl) _) (.inl rfl))⟩

set_option maxHeartbeats 2000000 in
theorem l2Number_any (g K : Nat) (w w0 : World) (v : Value) (l : List Int) (hst : St w g K v l w0) (hK : K ≤ 100000000) :
    Calls Tryz.prog 77 #[.pointer (some ⟨g, 0, none⟩)] w0 fun e w' => ∃ m : Int, e = .returned (.int .i64 m) ∧ -9223372036854775808 ≤ m ∧ m ≤ 9223372036854775807 ∧ St w g (K + 2) v l w' := by
  have S0 := Lib.hid hst
  have hgw := hst.lt
  have z0 := hst.gr.size
  clear hst
  go_enter Tryz.func77, Tryz.ntmps77
  go_wp2_with fail
  refine (pick_st 12 S0.out (by omega) (by omega)).mono ?_
  rintro e w1 ⟨q, rfl, qa, qb, hs1⟩
  have S1 := Lib.hid hs1
  have z1 := hs1.gr.size
  clear hs1 S0
  cases q0 : (q == 0)
  · go_wp2_with fail
    refine (pick_st 60 S1.out (by omega) (by omega)).mono ?_
    rintro e w2 ⟨n, rfl, na, nb, hs2⟩
    have S2 := Lib.hid hs2
    clear hs2 S1
    go_wp2
    go_ret
    exact ⟨_, rfl, by omega, by omega, S2.out⟩
  · go_wp2_with fail
    refine (num_st _ [200, 201, -200, -201, 9223372036854775807, -9223372036854775808] (S1.out.bel (bel_alloc _ _)) (by omega) (lit_own _ [200, 201, -200, -201, 9223372036854775807, -9223372036854775808] _ w.heap.size rfl (by omega) (by simp) (wf_lit (by simp))).ints (by simp) (lit_ne (by omega))).mono ?_
    rintro e w2 ⟨n, rfl, hn, hs2⟩
    have hn' : -9223372036854775808 ≤ n ∧ n ≤ 9223372036854775807 := by simp at hn; omega
    have S2 := Lib.hid hs2
    clear hs2 S1 hn
    go_wp2
    go_ret
    exact ⟨n, rfl, by omega, by omega, S2.out⟩

set_option maxHeartbeats 2000000 in
theorem l1Wide_any (g K : Nat) (w w0 : World) (v : Value) (l : List Int) (hst : St w g K v l w0) (hK : K ≤ 10000000) :
    Calls Tryz.prog 79 #[.pointer (some ⟨g, 0, none⟩)] w0 fun e w' => ∃ m : Int, e = .returned (.int .i64 m) ∧ -9223372036854775808 ≤ m ∧ m ≤ 9223372036854775807 ∧ St w g (K + 2) v l w' := by
  have S0 := Lib.hid hst
  have hgw := hst.lt
  have z0 := hst.gr.size
  clear hst
  go_enter Tryz.func79, Tryz.ntmps79
  go_wp2_with fail
  refine (pick_st 16 S0.out (by omega) (by omega)).mono ?_
  rintro e w1 ⟨q, rfl, qa, qb, hs1⟩
  have S1 := Lib.hid hs1
  have z1 := hs1.gr.size
  clear hs1 S0
  cases q0 : (q == 0)
  · go_wp2_with fail
    refine (l1Any_any g (K + 1) _ S1.out.rdr (by omega)).mono ?_
    rintro e w2 ⟨n, rfl, na, nb, hr2, hg2⟩
    have S2 := Lib.hid (S1.out.grown hg2 hr2)
    clear hr2 hg2 S1
    go_wp2
    go_ret
    exact ⟨_, rfl, by omega, by omega, S2.out⟩
  · go_wp2_with fail
    refine (num_st _ [0, 13, -1, 9223372036854775807] (S1.out.bel (bel_alloc _ _)) (by omega) (lit_own _ [0, 13, -1, 9223372036854775807] _ w.heap.size rfl (by omega) (by simp) (wf_lit (by simp))).ints (by simp) (lit_ne (by omega))).mono ?_
    rintro e w2 ⟨n, rfl, hn, hs2⟩
    have hn' : -9223372036854775808 ≤ n ∧ n ≤ 9223372036854775807 := by simp at hn; omega
    have S2 := Lib.hid hs2
    clear hs2 S1 hn
    go_wp2
    go_ret
    exact ⟨n, rfl, by omega, by omega, S2.out⟩

end Go.Proofs.YtpniljcnknknoaaGreatDoor
