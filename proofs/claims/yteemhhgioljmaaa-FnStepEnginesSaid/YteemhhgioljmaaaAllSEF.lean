import Derived.Test.YteemhhgioljmaaaDrawB
import Derived.Test.YteemhhgioljmaaaDrawE
import Derived.Test.YteemhhgioljmaaaJob
import Derived.Test.YteemhhgioljmaaaDrawG
import Derived.Test.YteemhhgioljmaaaEngsF
import Derived.Test.YteemhhgioljmaaaTotDraw
import Derived.Test.YteemhhgioljmaaaSetUp
import Derived.Test.YteemhhgioljmaaaStepE
import Derived.Test.YteemhhgioljmaaaSame
import Derived.Test.YteemhhgioljmaaaEngsE
import Derived.Deep.RegionHeld3
/-
  Drawn tables that may break the rules, and the two readers that draw them.
-/
namespace Go.Proofs.Yteemhhgioljmaaa
open Go.RowKit
set_option linter.unusedVariables false
set_option maxRecDepth 100000

/-- A drawn list which is only read. -/
def DrawnRead (g : Nat) (u : Value) (w w0 : World) (hi : Nat) (e : Ending) (w' : World) : Prop :=
  ∃ v l, e = .returned v ∧ Ints w' v l ∧ l.length ≤ hi ∧ w.grownBy w' (some g) ∧ Keeps g u w0 w'
theorem pick_k {w : World} {g K : Nat} {v : Value} {l : List Int} {W : World} (n : Int) (h : St w g K v l W) (hK : K ≤ 1000000000) (hn : 1 ≤ n ∧ n ≤ 9223372036854775807) :
    Calls Try.prog 83 #[.pointer (some ⟨g, 0, none⟩), .int .i64 n] W (fun e W' => ∃ m : Int, e = .returned (.int .i64 m) ∧ 0 ≤ m ∧ m < n ∧ St w g (K + 1) v l W' ∧ W.grownBy W' (some g)) :=
  (pick_any g K n W h.rdr hK (by omega)).mono fun e W' ⟨m, he, hm, _, hr, hg⟩ => ⟨m, he, (hm hn.1).1, (hm hn.1).2, h.grown hg hr, hg⟩
theorem num_k {w : World} {g K : Nat} {v : Value} {l : List Int} {W : World} (u : Value) (m : List Int) (h : St w g K v l W) (hK : K ≤ 1000000000) (hu : Ints W u m) (hm : 0 < m.length) (hne : ∀ a n c, u = .slice (some a) n c → 0 < m.length → a.block ≠ g) :
    Calls Try.prog 102 #[.pointer (some ⟨g, 0, none⟩), u] W (fun e W' => ∃ x : Int, e = .returned (.int .i64 x) ∧ x ∈ m ∧ St w g (K + 1) v l W' ∧ W.grownBy W' (some g)) :=
  (num_any g K u m W h.rdr hK hu hm hne).mono fun e W' ⟨x, he, hx, hr, hg⟩ => ⟨x, he, hx, h.grown hg hr, hg⟩

theorem zeros_own (W : World) (base n : Nat) (hb : base ≤ W.heap.size) (hn : n ≤ 61) :
    Own (W.alloc (.cells (reps n (.int .i64 0)).toArray 3)) base (.slice (some ⟨W.heap.size, 0, none⟩) n n) (List.replicate n 0) := by
  have hl : (List.replicate n (0 : Int)).length = n := List.length_replicate
  have := Own.mk' (base := base) (cap := n) (cs := reps n (.int .i64 0)) (l := List.replicate n 0) hb (Blk.new W 3 _) (by rw [hl]; exact Nat.le_refl _) (by omega) (reps_length _ _) (fun j hj => by
    rw [hl] at hj
    rw [reps_get _ hj]
    simp [at_, hj]) (fun x hx => by rw [List.eq_of_mem_replicate hx]; omega)
  rw [hl] at this
  exact this

/-- A drawn list. -/
def DrawnOne (w : World) (hi : Nat) (e : Ending) (w' : World) : Prop :=
  ∃ v l, e = .returned v ∧ Ints w' v l ∧ l.length ≤ hi ∧ Below w.heap.size w w'



end Go.Proofs.Yteemhhgioljmaaa

/-
  What the laws of jobs draw: polynomials that may break the rules, arguments, widths, layouts.
-/
namespace Go.Proofs.Yteemhhgioljmaaa
open Go.RowKit
set_option linter.unusedVariables false
set_option linter.unusedSimpArgs false
set_option maxRecDepth 100000
attribute [local go_sem ↓] Go.wp_at_zero Go.wp_at_succ

theorem St.row {w : World} {g K b n cap : Nat} {l : List Int} {W : World} (h : St w g K (.slice (some ⟨b, 0, none⟩) n cap) l W) : ∃ cs, Blk W b 3 cs ∧ cs.length = cap ∧ l.length ≤ cap ∧ cap ≤ 9223372036854775807 ∧ w.heap.size ≤ b ∧ n = l.length ∧ ∀ j, j < l.length → cs[j]? = some (.int .i64 (at_ l j)) := by
  rcases h.own.form with ⟨q, _⟩ | ⟨b', cap', cs, e, hb', hbl, h1, h2, hcl, h3⟩
  · cases q
  · injection e with e1 e2 e3
    injection e1 with e1
    injection e1 with e1
    subst e1 e2 e3
    exact ⟨cs, hbl, hcl, h1, h2, hb', rfl, h3⟩
theorem St.nil_ {w : World} {g K b n cap : Nat} {l : List Int} {W : World} (h : St w g K (.slice (some ⟨b, 0, none⟩) n cap) l W) : St w g K (.slice (some ⟨b, 0, none⟩) 0 cap) [] W := by
  obtain ⟨cs, hbl, hcl, h1, h2, hb, _, hc⟩ := h.row
  exact ⟨Own.mk' (l := []) hb hbl (Nat.zero_le _) h2 hcl (fun j hj => absurd hj (by simp)) (fun _ q => by simp at q), h.rdr, h.gr, h.lt⟩
theorem St.far {w : World} {g K : Nat} {v : Value} {l : List Int} {W : World} (h : St w g K v l W) (p : Addr) (u : Value) (hp : w.heap.size ≤ p.block) (hv : ∀ k, v.ownBlock = some k → k ≠ p.block) : St w g K v l (W.setCell p u) := by
  have hg := only_setCell (World.grownBy.refl W (some p.block)) (p := p) (.inl rfl) u
  have := h.lt
  exact ⟨⟨h.own.1.kept hg (by
    cases hq : v.ownBlock with
    | none => exact .inl rfl
    | some k => exact .inr fun e => hv k hq (by injection e)), h.own.2⟩, h.rdr.grown hg (fun k hk => by injection hk with hk; omega), grown_trans h.gr hg (fun j hj => .inr (by injection hj with hj; omega)), h.lt⟩

theorem St.setN {w : World} {g K b : Nat} {v : Value} {l : List Int} (hp : w.heap.size ≤ b) (hv : ∀ k, v.ownBlock = some k → k ≠ b) : ∀ (us : List Value) (W : World) (i : Nat), St w g K v l W → St w g K v l (setN W b i us)
  | [], _, _, h => h
  | u :: us, W, i, h => St.setN hp hv us _ _ (h.far ⟨b, i, none⟩ u hp hv)
/-- Blocks apart from the reader and from v's own row are kept. -/
def KeepB (g : Nat) (v : Value) (W : World) (v' : Value) (W' : World) : Prop :=
  W.heap.size ≤ W'.heap.size ∧ ∀ b t cs, Blk W b t cs → b ≠ g → v.ownBlock ≠ some b → Blk W' b t cs ∧ v'.ownBlock ≠ some b
theorem KeepB.refl (g : Nat) (v : Value) (W : World) : KeepB g v W v W := ⟨Nat.le_refl _, fun b t cs h _ h2 => ⟨h, h2⟩⟩
theorem KeepB.trans {g : Nat} {v v' v'' : Value} {a b c : World} (h : KeepB g v a v' b) (k : KeepB g v' b v'' c) : KeepB g v a v'' c :=
  ⟨Nat.le_trans h.1 k.1, fun q t cs h1 h2 h3 => k.2 q t cs (h.2 q t cs h1 h2 h3).1 h2 (h.2 q t cs h1 h2 h3).2⟩
theorem KeepB.grown {g : Nat} {v : Value} {W W' : World} (h : W.grownBy W' (some g)) : KeepB g v W v W' :=
  ⟨h.size, fun b t cs h1 h2 h3 => ⟨h1.grown h (fun e => by injection e with e; exact h2 e), h3⟩⟩
theorem KeepB.bel {g : Nat} {v : Value} {W W' : World} (h : Below W.heap.size W W') : KeepB g v W v W' :=
  ⟨h.size, fun b t cs h1 h2 h3 => ⟨h1.below h h1.lt, h3⟩⟩
theorem KeepB.app {g : Nat} {v v' : Value} {W W' : World} (h : W.grownBy W' v.ownBlock) (hv : v'.ownBlock = v.ownBlock ∨ v'.ownBlock = some W.heap.size) : KeepB g v W v' W' :=
  ⟨h.size, fun b t cs h1 h2 h3 => ⟨h1.grown h (fun e => h3 e.symm), by
    rcases hv with q | q
    · rw [q]; exact h3
    · rw [q]; intro e; injection e with e; have := h1.lt; omega⟩⟩
theorem KeepB.own {g : Nat} {v v' : Value} {W W' : World} (h : KeepB g v W v W') (hv : v'.ownBlock = v.ownBlock) : KeepB g v W v' W' :=
  ⟨h.1, fun b t cs h1 h2 h3 => ⟨(h.2 b t cs h1 h2 h3).1, by rw [hv]; exact h3⟩⟩

/-- A polynomial that may break the rules. -/
def DrawnBad (w : World) (g K' : Nat) (v0 : Value) (w0 : World) (e : Ending) (w' : World) : Prop :=
  ∃ v l, e = .returned v ∧ St w g K' v l w' ∧ l.length ≤ 8 ∧ KeepB g v0 w0 v w'
set_option maxHeartbeats 4000000 in
set_option maxRecDepth 100000 in
theorem l2Bad_any (g K : Nat) (w w0 : World) (v : Value) (l : List Int) (hst : St w g K v l w0) (hl1 : 1 ≤ l.length) (hl2 : l.length ≤ 8) (hK : K ≤ 100000000) :
    Calls Try.prog 166 #[.pointer (some ⟨g, 0, none⟩), v] w0 (DrawnBad w g (K + 3) v w0) := by
  have S1 := Lib.hid hst
  have hgw := hst.lt
  have zw := hst.gr.size
  obtain ⟨b, cap, rfl, hbb, hbw, hlc, hcap, hcells⟩ := hst.own.openN (by omega)
  clear hcells hst
  go_enter Try.func166, Try.ntmps166
  go_wp2_with fail
  refine (pick_k _ S1.out (by omega) (by omega)).mono ?_
  rintro e w2 ⟨m, rfl, ma, mb, hs2, hg2⟩
  obtain ⟨m, rfl⟩ : ∃ n : Nat, m = n := ⟨m.toNat, by omega⟩
  have S2 := Lib.hid hs2
  have K2 := Lib.hid (KeepB.grown (v := .slice (some ⟨b, 0, none⟩) l.length cap) hg2)
  clear hs2 S1 hg2
  go_wp2_with fail
  refine (pick_k 40 S2.out (by omega) (by omega)).mono ?_
  rintro e w3 ⟨q, rfl, qa, qb, hs3, hg3⟩
  have S3 := Lib.hid hs3
  have z3 := hs3.gr.size
  have K3 := Lib.hid (K2.out.trans (KeepB.grown hg3))
  clear hs3 S2 K2 hg3
  cases q0 : (q == 0)
  · cases q1 : (q == 1)
    · cases q2 : (q == 2)
      · go_wp2
        go_ret
        exact ⟨_, l, rfl, ⟨S3.out.own, S3.out.rdr.more (by omega), S3.out.gr, S3.out.lt⟩, by omega, K3.out⟩
      · go_wp2_with fail
        go_loopw [1] (fun r wr => ∃ l' : List Int, l'.length ≤ 8 ∧ St w g (K + 2) r l' wr ∧ KeepB g (.slice (some ⟨b, 0, none⟩) l.length cap) w0 r wr) (fun r _ => match r with | .slice _ n _ => 9 - n | _ => 0)
        case atStart => exact ⟨l, by omega, S3.out, K3.out⟩
        case round =>
          obtain ⟨l', hl', hst, hkp⟩ := hrel
          have S5 := Lib.hid hst
          have K5 := Lib.hid hkp
          have zo := hst.gr.size
          obtain ⟨A5, c5, rfl, hlc5, hc5, hrd5⟩ := hst.own.ints.open_
          clear hst hrd5 S3 K3 hkp
          by_cases h9 : (l'.length : Int) < 8
          · go_wp2_with (at_builtin; refine app_int rfl (.tmp 29) (.tmp 30) (by rfl) w.heap.size _ l' (by rfl) (by exact S5.out.own.bel (bel_alloc _ _)) _ _ 1 (by rfl) (by exact new_cell _ _ _) (by omega) (by omega) (by simp; omega) ?_; intro v4 w4 ho hg hat)
            have S6 := Lib.hid ((S5.out.bel (bel_alloc _ _)).app ho hg)
            have K6 := Lib.hid ((K5.out.trans (KeepB.bel (bel_alloc _ _))).trans (KeepB.app hg hat))
            obtain ⟨A6, c6, rfl, hlc6, hc6, hrd6⟩ := ho.ints.open_
            clear ho hg hrd6 S5 K5 hat
            go_roundw
            case rel => exact ⟨_, by simp; omega, S6.out, K6.out⟩
            case measure => simp; omega
          · go_wp2
            go_ret
            exact ⟨_, l', rfl, ⟨S5.out.own, S5.out.rdr.more (by omega), S5.out.gr, S5.out.lt⟩, by omega, K5.out⟩
    · go_wp2
      go_ret
      have S4 := S3.out.nil_
      exact ⟨_, [], rfl, ⟨S4.own, S4.rdr.more (by omega), S4.gr, S4.lt⟩, by simp, K3.out.own rfl⟩
  · go_wp2_with fail
    refine (num_k _ [100000, 100001, -100000, -100001, 9223372036854775807] (S3.out.bel (bel_alloc _ _)) (by omega) (lit_own _ [100000, 100001, -100000, -100001, 9223372036854775807] _ w.heap.size rfl (by omega) (by simp) (wf_lit (by simp))).ints (by simp) (lit_ne (by omega))).mono ?_
    rintro e w4 ⟨n, rfl, hn, hs4, hg4⟩
    have hn' : -1000000001 ≤ n ∧ n ≤ 9223372036854775807 := by simp at hn; omega
    obtain ⟨b', cap', ev, _, _, _, _, hcells⟩ := hs4.own.openN (by omega)
    injection ev with ev1 ev2 ev3
    injection ev1 with ev1
    injection ev1 with ev1
    subst ev1
    obtain ⟨hc, hf⟩ := hcells m (by omega)
    have S4 := Lib.hid hs4
    have K4 := Lib.hid ((K3.out.trans (KeepB.bel (bel_alloc _ _))).trans (KeepB.grown hg4))
    clear hn hs4 S3 hcells ev2 ev3 hg4 K3
    go_wp2
    go_ret
    have S7 := S4.out.set_ m n (by omega) (by omega)
    exact ⟨_, _, rfl, S7, by rw [List.length_set]; omega, K4.out.trans (KeepB.app (v := .slice (some ⟨b, 0, none⟩) l.length cap) (only_setCell (World.grownBy.refl w4 (some b)) (.inl rfl) _) (.inl rfl))⟩

set_option maxHeartbeats 2000000 in
theorem l2Number_any (g K : Nat) (w w0 : World) (v : Value) (l : List Int) (hst : St w g K v l w0) (hK : K ≤ 100000000) :
    Calls Try.prog 111 #[.pointer (some ⟨g, 0, none⟩)] w0 fun e w' => ∃ m : Int, e = .returned (.int .i64 m) ∧ -9223372036854775808 ≤ m ∧ m ≤ 9223372036854775807 ∧ St w g (K + 2) v l w' := by
  have S0 := Lib.hid hst
  have hgw := hst.lt
  have z0 := hst.gr.size
  clear hst
  go_enter Try.func111, Try.ntmps111
  go_wp2_with fail
  refine (pick_st 12 S0.out (by omega) (by omega)).mono ?_
  rintro e w1 ⟨q, rfl, qa, qb, hs1⟩
  have S1 := Lib.hid hs1
  have z1 := hs1.gr.size
  clear hs1 S0
  cases q0 : (q == 0)
  · go_wp2_with fail
    refine (pick_st 60 S1.out (by omega) (by omega)).mono ?_
    rintro e w2 ⟨n, rfl, na, nb, hs2⟩
    have S2 := Lib.hid hs2
    clear hs2 S1
    go_wp2
    go_ret
    exact ⟨_, rfl, by omega, by omega, S2.out⟩
  · go_wp2_with fail
    refine (num_st _ [200, 201, -200, -201, 9223372036854775807, -9223372036854775808] (S1.out.bel (bel_alloc _ _)) (by omega) (lit_own _ [200, 201, -200, -201, 9223372036854775807, -9223372036854775808] _ w.heap.size rfl (by omega) (by simp) (wf_lit (by simp))).ints (by simp) (lit_ne (by omega))).mono ?_
    rintro e w2 ⟨n, rfl, hn, hs2⟩
    have hn' : -9223372036854775808 ≤ n ∧ n ≤ 9223372036854775807 := by simp at hn; omega
    have S2 := Lib.hid hs2
    clear hs2 S1 hn
    go_wp2
    go_ret
    exact ⟨n, rfl, by omega, by omega, S2.out⟩

set_option maxHeartbeats 2000000 in
theorem l1Wide_any (g K : Nat) (w w0 : World) (v : Value) (l : List Int) (hst : St w g K v l w0) (hK : K ≤ 10000000) :
    Calls Try.prog 112 #[.pointer (some ⟨g, 0, none⟩)] w0 fun e w' => ∃ m : Int, e = .returned (.int .i64 m) ∧ -9223372036854775808 ≤ m ∧ m ≤ 9223372036854775807 ∧ St w g (K + 2) v l w' := by
  have S0 := Lib.hid hst
  have hgw := hst.lt
  have z0 := hst.gr.size
  clear hst
  go_enter Try.func112, Try.ntmps112
  go_wp2_with fail
  refine (pick_st 16 S0.out (by omega) (by omega)).mono ?_
  rintro e w1 ⟨q, rfl, qa, qb, hs1⟩
  have S1 := Lib.hid hs1
  have z1 := hs1.gr.size
  clear hs1 S0
  cases q0 : (q == 0)
  · go_wp2_with fail
    refine (l1Any_any g (K + 1) _ S1.out.rdr (by omega)).mono ?_
    rintro e w2 ⟨n, rfl, na, nb, hr2, hg2⟩
    have S2 := Lib.hid (S1.out.grown hg2 hr2)
    clear hr2 hg2 S1
    go_wp2
    go_ret
    exact ⟨_, rfl, by omega, by omega, S2.out⟩
  · go_wp2_with fail
    refine (num_st _ [0, 13, -1, 9223372036854775807] (S1.out.bel (bel_alloc _ _)) (by omega) (lit_own _ [0, 13, -1, 9223372036854775807] _ w.heap.size rfl (by omega) (by simp) (wf_lit (by simp))).ints (by simp) (lit_ne (by omega))).mono ?_
    rintro e w2 ⟨n, rfl, hn, hs2⟩
    have hn' : -9223372036854775808 ≤ n ∧ n ≤ 9223372036854775807 := by simp at hn; omega
    have S2 := Lib.hid hs2
    clear hs2 S1 hn
    go_wp2
    go_ret
    exact ⟨n, rfl, by omega, by omega, S2.out⟩

end Go.Proofs.Yteemhhgioljmaaa

/-
  Drawn lists of engines, counts and sizes.
-/
namespace Go.Proofs.Yteemhhgioljmaaa
open Go.RowKit
set_option linter.unusedVariables false
set_option linter.unusedSimpArgs false
set_option maxRecDepth 100000
attribute [local go_sem ↓] Go.wp_at_zero Go.wp_at_succ

/-- A growing list whose blocks, and those of its engines, lie at base or above. -/
def EngsZ (w : World) (base : Nat) (v : Value) (ls : List (List ByteArray)) : Prop :=
  ∃ xs, w.ownsRow base 29 1 v ls.length xs ∧ xs.length = ls.length ∧ ls.length ≤ 1048576 ∧ ∀ i, i < ls.length → Strs w (xat xs i) (eat ls i) ∧ Off (xat xs i) (eat ls i) (fun b => v.ownBlock ≠ some b ∧ base ≤ b)
theorem EngsZ.engs {w : World} {base : Nat} {v : Value} {ls : List (List ByteArray)} (h : EngsZ w base v ls) : Engs w v ls := by
  obtain ⟨xs, h1, h2, h3, h4⟩ := h
  exact ⟨xs, Sl.own h1 (by unfold maxLen; omega), h2, fun i hi => (h4 i hi).1⟩
theorem EngsZ.lt {w : World} {base : Nat} {v : Value} {ls : List (List ByteArray)} (h : EngsZ w base v ls) : ∀ k, v.ownBlock = some k → base ≤ k ∧ k < w.heap.size := by
  obtain ⟨xs, h1, _⟩ := h; exact h1.lt
theorem EngsZ.bel {w w' : World} {base : Nat} {v : Value} {ls : List (List ByteArray)} (h : EngsZ w base v ls) (hb : Below w.heap.size w w') : EngsZ w' base v ls := by
  obtain ⟨xs, h1, h2, h3, h4⟩ := h
  exact ⟨xs, h1.kept (row := none) ⟨hb.os, hb.tape, hb.output, hb.size, fun i hi _ => hb.block i hi⟩ (by cases v.ownBlock <;> simp), h2, h3, fun i hi => ⟨(h4 i hi).1.bel hb, (h4 i hi).2⟩⟩
theorem EngsZ.far {w w' : World} {base : Nat} {v : Value} {ls : List (List ByteArray)} {row : Option Nat} (h : EngsZ w base v ls) (hb : w.grownBy w' row) (hr : ∀ k, row = some k → k < base) : EngsZ w' base v ls := by
  obtain ⟨xs, h1, h2, h3, h4⟩ := h
  exact ⟨xs, h1.kept hb (by
    cases hv : v.ownBlock with
    | none => exact .inl rfl
    | some k => exact .inr fun e => by have := (h1.lt k hv).1; have := hr k e.symm; omega), h2, h3, fun i hi => ⟨(h4 i hi).1.rowFar hb ((h4 i hi).2.mono fun b hb2 e => by have := hr b e.symm; omega), (h4 i hi).2⟩⟩
theorem EngsZ.empty (w : World) (base : Nat) (hb : base ≤ w.heap.size) : EngsZ (w.alloc (.cells #[] 29)) base (.slice (some ⟨w.heap.size, 0, none⟩) 0 0) [] :=
  ⟨[], World.ownsRow_made w #[] 0 hb (by unfold maxLen; omega) rfl, rfl, by simp, fun i h => absurd h (by simp)⟩

/-- 'out = append(out, e)'. -/
theorem app_engZ {ops : Array Oper} {rest : List Oper} {o : Oper} {a : Act} {Q : Exit → Act → World → Prop} {w : World} (hgd : o.guard = none) (s x : Operand)
    (ho : o.op = .call { callee := .builtin .append, args := #[s, x], argTypes := #[34, 34] })
    (base : Nat) (v : Value) (ls : List (List ByteArray)) (hs : a.eval s = v) (hown : EngsZ w base v ls) (g c : Nat) (z : Value) (l : List ByteArray) (hx : a.eval x = .slice (some ⟨g, 0, none⟩) 1 c)
    (hcell : w.cell? ⟨g, 0, none⟩ = some z) (hz : Strs w z l) (hzo : Off z l (fun b => v.ownBlock ≠ some b ∧ base ≤ b)) (hl : ls.length + 1 ≤ 1048576) (hbase : base ≤ w.heap.size)
    (h : ∀ v' w', EngsZ w' base v' (ls ++ [l]) → w.grownBy w' v.ownBlock → (v'.ownBlock = v.ownBlock ∨ v'.ownBlock = some w.heap.size) → wpList Try.prog ops Q rest (a.put o.dst v') w') : wpList Try.prog ops Q (o :: rest) a w := by
  obtain ⟨i0, hi, hz0, hz1, hz2⟩ := info_parts Try.infoEng
  obtain ⟨xs, h1, h2, h3, h4⟩ := hown
  obtain ⟨Az, cz, rfl, -, -, -⟩ := hz.open_
  refine wpList_append_own_at (P := Try.prog) w hgd s x 34 ho base 29 i0 _ 1 24 Try.underlying34 hi hz0 hz1 hz2 rfl (by omega) v ls.length xs hs h1 ⟨g, 0, none⟩ 1 c [.slice Az l.length cz] hx rfl ?_ ?_ (by unfold maxLen; omega) (by omega) hbase ?_
  · intro j u hj
    match j, hj with
    | 0, hj => simp at hj; subst hj; simpa [Addr.add] using hcell
  · intro u hu; simp at hu; subst hu; rfl
  · intro v' w' q1 q2 _ q4
    refine h v' w' ⟨xs ++ [.slice Az l.length cz], by rw [List.length_append]; exact q1, by simp [h2], by simp; omega, fun i hi => ?_⟩ q2 q4
    have offT : ∀ {x : Value} {m : List ByteArray}, Strs w x m → Off x m (fun b => v.ownBlock ≠ some b ∧ base ≤ b) → Strs w' x m ∧ Off x m (fun b => v'.ownBlock ≠ some b ∧ base ≤ b) := by
      intro x m hx ho
      refine ⟨hx.rowFar q2 (ho.mono fun b hb e => hb.1 e.symm), ?_⟩
      intro a' n' c' e' hl'
      have p1 := ho a' n' c' e' hl'
      have p2 := hx.low a' n' c' e' hl'
      rcases q4 with q | q
      · rw [q]; exact p1
      · rw [q]; exact ⟨by intro e2; injection e2 with e2; omega, p1.2⟩
    simp at hi
    by_cases e : i < ls.length
    · rw [eat_append_lo e, xat_append_lo (by omega)]
      exact offT (h4 i e).1 (h4 i e).2
    · have e' : i = ls.length := by omega
      subst e'
      rw [eat_append_hi]
      have := xat_append_hi (a := xs) (b := .slice Az l.length cz)
      rw [h2] at this
      rw [this]
      exact offT hz hzo

/-- Where drawing a list of engines stands. -/
structure StZ (w : World) (g K : Nat) (v : Value) (ls : List (List ByteArray)) (W : World) : Prop where
  own : EngsZ W w.heap.size v ls
  rdr : Rdr W g K
  gr : w.grownBy W (some g)
  lt : g < w.heap.size
theorem StZ.bel {w : World} {g K : Nat} {v : Value} {l : List (List ByteArray)} {W W' : World} (h : StZ w g K v l W) (hb : Below W.heap.size W W') : StZ w g K v l W' :=
  ⟨h.own.bel hb, h.rdr.bel hb, only_below h.gr hb, h.lt⟩
theorem StZ.grown {w : World} {g K K' : Nat} {v : Value} {l : List (List ByteArray)} {W W' : World} (h : StZ w g K v l W) (hb : W.grownBy W' (some g)) (hr : Rdr W' g K') : StZ w g K' v l W' :=
  ⟨h.own.far hb (fun k hk => by injection hk with hk; have := h.lt; omega), hr, grown_trans h.gr hb (fun j hj => .inl (by injection hj with hj; exact hj.symm)), h.lt⟩
theorem StZ.app {w : World} {g K : Nat} {v v' : Value} {l l' : List (List ByteArray)} {W W' : World} (h : StZ w g K v l W) (ho : EngsZ W' w.heap.size v' l') (hb : W.grownBy W' v.ownBlock) : StZ w g K v' l' W' :=
  ⟨ho, h.rdr.grown hb (fun k hk => by have h1 := (h.own.lt k hk).1; have := h.lt; omega), grown_trans h.gr hb (fun j hj => .inr (h.own.lt j hj).1), h.lt⟩

end Go.Proofs.Yteemhhgioljmaaa

/-
  Drawn lists of engines: l7List.
-/
namespace Go.Proofs.Yteemhhgioljmaaa
open Go.RowKit
set_option linter.unusedVariables false
set_option linter.unusedSimpArgs false
set_option maxRecDepth 100000
attribute [local go_sem ↓] Go.wp_at_zero Go.wp_at_succ

theorem EngsZ.row {w : World} {base : Nat} {v : Value} {ls : List (List ByteArray)} (h : EngsZ w base v ls) (hn : 0 < ls.length) :
    ∃ b cap cs, v = .slice (some ⟨b, 0, none⟩) ls.length cap ∧ base ≤ b ∧ Blk w b 29 cs ∧ ls.length ≤ cap ∧ cap ≤ 9223372036854775807 ∧ cs.length = cap ∧ ls.length ≤ 1048576 ∧
      ∀ i, i < ls.length → cs[i]? = some (xat cs i) ∧ Strs w (xat cs i) (eat ls i) ∧ Off (xat cs i) (eat ls i) (fun k => k ≠ b ∧ base ≤ k) := by
  obtain ⟨xs, ⟨hl, h⟩, h2, h3, h4⟩ := h
  rcases h with ⟨_, hz⟩ | ⟨g, cap, cur, rfl, hg, hh, hnc, hcm, hsz, ht⟩
  · omega
  · refine ⟨g, cap, cur.toList, rfl, hg, hh, hnc, by unfold maxLen at hcm; omega, by simpa using hsz, h3, fun i hi => ?_⟩
    have e : cur.toList[i]? = some (xat xs i) := by
      have e1 := xat_get (xs := xs) (i := i) (by omega)
      rw [← ht, List.getElem?_take, if_pos (by omega)] at e1
      rw [← ht]
      exact e1
    have e2 : xat cur.toList i = xat xs i := by simp only [xat, List.getD] at e ⊢; rw [e]; rfl
    rw [e2]
    refine ⟨e, (h4 i hi).1, (h4 i hi).2.mono fun k hk => ⟨fun q => hk.1 (by rw [q]; rfl), hk.2⟩⟩
theorem EngsZ.mk' {w : World} {base b cap : Nat} {cs : List Value} {ls : List (List ByteArray)} (hg : base ≤ b) (hb : Blk w b 29 cs) (hl : ls.length ≤ cap) (hc : cap ≤ 9223372036854775807) (hs : cs.length = cap) (hm : ls.length ≤ 1048576)
    (hcs : ∀ i, i < ls.length → Strs w (xat cs i) (eat ls i) ∧ Off (xat cs i) (eat ls i) (fun k => k ≠ b ∧ base ≤ k)) : EngsZ w base (.slice (some ⟨b, 0, none⟩) ls.length cap) ls := by
  have ht : (cs.take ls.length).length = ls.length := by rw [List.length_take]; omega
  have hx : ∀ i, i < ls.length → xat (cs.take ls.length) i = xat cs i := fun i hi => by simp only [xat, List.getD, List.getElem?_take, if_pos hi]
  refine ⟨cs.take ls.length, ⟨by rw [ht]; omega, .inr ⟨b, cap, cs.toArray, rfl, hg, hb, hl, by unfold maxLen; omega, by simpa using hs, ?_⟩⟩, ht, hm, fun i hi => ?_⟩
  · first | rfl | simp
  · rw [hx i hi]
    exact ⟨(hcs i hi).1, (hcs i hi).2.mono fun k hk => ⟨fun q => hk.1 (by injection q with q; exact q.symm), hk.2⟩⟩
theorem StZ.nil_ {w : World} {g K b n cap : Nat} {ls : List (List ByteArray)} {W : World} (h : StZ w g K (.slice (some ⟨b, 0, none⟩) n cap) ls W) (hn : 0 < ls.length) : StZ w g K (.slice (some ⟨b, 0, none⟩) 0 cap) [] W := by
  obtain ⟨b', cap', cs, e, h1, h2, h3, h4, h5, h6, h7⟩ := h.own.row hn
  injection e with e1 e2 e3
  injection e1 with e1
  injection e1 with e1
  subst e1 e3
  exact ⟨EngsZ.mk' (ls := []) h1 h2 (Nat.zero_le _) h4 h5 (by simp) (fun i hi => absurd hi (by simp)), h.rdr, h.gr, h.lt⟩
theorem StZ.set0 {w : World} {g K b n cap : Nat} {ls : List (List ByteArray)} {W : World} (h : StZ w g K (.slice (some ⟨b, 0, none⟩) n cap) ls W) (hn : 0 < ls.length) : StZ w g K (.slice (some ⟨b, 0, none⟩) n cap) (ls.set 0 []) (W.setCell ⟨b, 0, none⟩ (.slice none 0 0)) := by
  obtain ⟨b', cap', cs, e, h1, h2, h3, h4, h5, h6, h7⟩ := h.own.row hn
  injection e with e1 e2 e3
  injection e1 with e1
  injection e1 with e1
  subst e1 e2 e3
  have hg := only_setCell (World.grownBy.refl W (some b)) (p := ⟨b, 0, none⟩) (.inl rfl) (.slice none 0 0)
  have hll : (ls.set 0 []).length = ls.length := List.length_set
  have := h.lt
  refine ⟨?_, h.rdr.grown hg (fun k hk => by injection hk with hk; omega), grown_trans h.gr hg (fun j hj => .inr (by injection hj with hj; omega)), h.lt⟩
  have := EngsZ.mk' (ls := ls.set 0 []) h1 (h2.set_ 0 (.slice none 0 0)) (by rw [hll]; exact h3) h4 (by rw [List.length_set]; exact h5) (by rw [hll]; exact h6) (fun i hi => by
    rw [hll] at hi
    rw [xat_set (by omega)]
    by_cases e : i = 0
    · subst e
      rw [if_pos rfl]
      have : eat (ls.set 0 []) 0 = [] := by simp [eat, List.getD, hn]
      rw [this]
      exact ⟨Strs.nil_ _, fun a n c e hl => absurd hl (by simp)⟩
    · rw [if_neg e]
      have : eat (ls.set 0 []) i = eat ls i := by simp only [eat, List.getD]; rw [List.getElem?_set_ne (by omega)]
      rw [this]
      exact ⟨(h7 i hi).2.1.rowFar hg ((h7 i hi).2.2.mono fun k hk q => hk.1 (by injection q)), (h7 i hi).2.2⟩)
  rw [hll] at this
  exact this

/-- A drawn list of engines. -/
def DrawnEngs (w : World) (g K' : Nat) (e : Ending) (w' : World) : Prop :=
  ∃ v ls, e = .returned v ∧ StZ w g K' v ls w' ∧ ls.length ≤ 11 ∧ ∀ i, i < ls.length → (eat ls i).length ≤ 7
theorem all_app {ls : List (List ByteArray)} {l : List ByteArray} (h : ∀ i, i < ls.length → (eat ls i).length ≤ 7) (hl : l.length ≤ 7) : ∀ i, i < (ls ++ [l]).length → (eat (ls ++ [l]) i).length ≤ 7 := by
  intro i hi
  rw [List.length_append] at hi
  simp at hi
  by_cases e : i < ls.length
  · rw [eat_append_lo e]; exact h i e
  · have e' : i = ls.length := by omega
    subst e'
    rw [eat_append_hi]; exact hl

set_option maxHeartbeats 4000000 in
theorem l7List_any (g K : Nat) (w : World) (hr : Rdr w g K) (hK : K ≤ 100000) :
    Calls Try.prog 82 #[.pointer (some ⟨g, 0, none⟩)] w (DrawnEngs w g (K + 1210)) := by
  have hgw := hr.lt
  have S0 := Lib.hid (show StZ w g K (.slice (some ⟨w.heap.size, 0, none⟩) 0 0) [] (w.alloc (.cells #[] 29)) from
    ⟨EngsZ.empty w w.heap.size (Nat.le_refl _), hr.bel (bel_alloc _ _), only_alloc (World.grownBy.refl w _) _, hgw⟩)
  clear hr
  go_enter Try.func82, Try.ntmps82
  go_wp2_with fail
  refine (pick_any g K 4 _ S0.out.rdr (by omega) (by omega)).mono ?_
  rintro e w1 ⟨m, rfl, hm, -, hr1, hg1⟩
  replace hm := hm (by omega)
  obtain ⟨m, rfl⟩ : ∃ n : Nat, m = n := ⟨m.toNat, by omega⟩
  have S1 := Lib.hid (S0.out.grown hg1 hr1)
  clear hr1 hg1 S0
  go_wp2_with fail
  go_loopw [3, 4] (fun r n wr => ∃ (k K' : Nat) (ls : List (List ByteArray)), n = .int .i64 k ∧ k ≤ 4 ∧ ls.length + k = m + 1 ∧ K' + 300 * k ≤ K + 1201 ∧ StZ w g K' r ls wr ∧ ∀ i, i < ls.length → (eat ls i).length ≤ 7)
    (fun _ n _ => (intOf n).toNat)
  case atStart => exact ⟨m + 1, K + 1, [], by go_num, by omega, by simp, by omega, S1.out, fun i hi => absurd hi (by simp)⟩
  case round =>
    obtain ⟨k, K', ls, rfl, hk, hlk, hK', hst, h7⟩ := hrel
    have zr := hst.gr.size
    have S3 := Lib.hid hst
    have H7 := Lib.hid h7
    clear S1 hst h7
    by_cases hk0 : k = 0
    · subst hk0
      have hrow := S3.out.own.row (by omega)
      obtain ⟨b, cap, cs, rfl, hb1, hb2, hb3, hb4, hb5, hb6, -⟩ := hrow
      clear hb2
      go_wp2_with fail
      refine (pick_any g K' 24 _ S3.out.rdr (by omega) (by omega)).mono ?_
      rintro e w3 ⟨q, rfl, qab, -, hr4, hg4⟩
      replace qab := qab (by omega)
      have S4 := Lib.hid (S3.out.grown hg4 hr4)
      have z4 := S4.out.gr.size
      clear hr4 hg4 S3
      cases q0 : (q == 0)
      · cases q1 : (q == 1)
        · cases q2 : (q == 2)
          · go_wp2
            go_ret
            exact ⟨_, ls, rfl, ⟨S4.out.own, S4.out.rdr.more (by omega), S4.out.gr, S4.out.lt⟩, by omega, H7.out⟩
          · obtain ⟨b', cap', cs', e, -, hb2, -, -, -, -, h7'⟩ := S4.out.own.row (by omega)
            injection e with e1 e2 e3
            injection e1 with e1
            injection e1 with e1
            subst e1
            have c0 := (hb2.cell 0).trans (h7' 0 (by omega)).1
            have f0 := hb2.frozen 0
            clear hb2 h7' e2 e3
            go_wp2
            go_ret
            have S5 := S4.out.set0 (by omega)
            refine ⟨_, _, rfl, ⟨S5.own, S5.rdr.more (by omega), S5.gr, S5.lt⟩, by rw [List.length_set]; omega, fun i hi => ?_⟩
            rw [List.length_set] at hi
            by_cases e : i = 0
            · subst e
              have : eat (ls.set 0 []) 0 = [] := by simp [eat, List.getD, hi]
              rw [this]; simp
            · have : eat (ls.set 0 []) i = eat ls i := by simp only [eat, List.getD]; rw [List.getElem?_set_ne (by omega)]
              rw [this]; exact H7.out i hi
        · go_wp2_with fail
          go_loopw [3] (fun r wr => ∃ ls' : List (List ByteArray), 1 ≤ ls'.length ∧ ls'.length ≤ 11 ∧ StZ w g (K' + 1) r ls' wr ∧ ∀ i, i < ls'.length → (eat ls' i).length ≤ 7) (fun r _ => match r with | .slice _ n _ => 12 - n | _ => 0)
          case atStart => exact ⟨ls, by omega, by omega, S4.out, H7.out⟩
          case round =>
            obtain ⟨ls', hl1, hl11, hst, h7⟩ := hrel
            have S5 := Lib.hid hst
            have H7' := Lib.hid h7
            have zo := hst.gr.size
            obtain ⟨b', cap', cs', rfl, hb1', hb2, hb3', hb4', hb5', hb6', h7'⟩ := hst.own.row (by omega)
            obtain ⟨p1, p2, p3⟩ := h7' 0 (by omega)
            have c0 := (hb2.cell 0).trans p1
            clear hst h7 h7' S4 H7 p1
            by_cases h9 : (ls'.length : Int) < 11
            · obtain ⟨Ae, ce, he, -, -, -⟩ := p2.open_
              rw [he] at p2 p3 c0
              have P2 := Lib.hid p2
              have P3 := Lib.hid p3
              clear p2 p3 hb2
              go_wp2_with (at_builtin; go_must (refine app_engZ rfl (.tmp 29) (.tmp 33) (by rfl) w.heap.size _ ls' (by rfl) (by exact S5.out.own.bel (bel_alloc _ _)) _ _ (.slice Ae (eat ls' 0).length ce) (eat ls' 0) (by rfl) (by exact new_cell _ _ _) (by exact P2.out.bel (bel_alloc _ _)) (by exact P3.out.mono (fun k hk => ⟨fun q => hk.1 (by injection q with q; exact q.symm), hk.2⟩)) (by omega) (by simp; omega) ?_; intro v4 w4 ho hg _))
              have S6 := Lib.hid ((S5.out.bel (bel_alloc _ _)).app ho hg)
              have hl2 : (ls' ++ [eat ls' 0]).length = ls'.length + 1 := by simp
              obtain ⟨A6, c6, xs6, rfl, -, -, -, -⟩ := ho.engs.open_
              clear ho hg S5
              go_roundw
              case rel => exact ⟨_, by omega, by omega, S6.out, all_app H7'.out (H7'.out 0 (by omega))⟩
              case measure => simp; omega
            · clear p2 p3 hb2 c0
              go_wp2
              go_ret
              exact ⟨_, ls', rfl, ⟨S5.out.own, S5.out.rdr.more (by omega), S5.out.gr, S5.out.lt⟩, by omega, H7'.out⟩
      · go_wp2
        go_ret
        have S5 := S4.out.nil_ (by omega)
        exact ⟨_, [], rfl, ⟨S5.own, S5.rdr.more (by omega), S5.gr, S5.lt⟩, by simp, fun i hi => absurd hi (by simp)⟩
    · obtain ⟨k, rfl⟩ : ∃ j, k = j + 1 := ⟨k - 1, by omega⟩
      go_wp2_with fail
      refine (l3Some_any g K' _ S3.out.rdr (by omega)).mono ?_
      rintro e w5 ⟨v5, l5, rfl, ho5, h51, h57, -, hr5, hg5⟩
      have S5 := Lib.hid (S3.out.grown hg5 hr5)
      have z5 := hg5.size
      have OF := Lib.hid (ho5.off.mono (R := fun b => u3.ownBlock ≠ some b ∧ w.heap.size ≤ b) (fun b hb2 => ⟨fun e => by have := (S3.out.own.lt b e).2; omega, by omega⟩))
      obtain ⟨A5, c5, rfl, -, -, -⟩ := ho5.strs.open_
      have O5 := Lib.hid ho5.strs
      clear ho5 hr5 hg5 S3
      go_wp2_with (at_builtin; go_must (refine app_engZ rfl (.tmp 13) (.tmp 16) (by rfl) w.heap.size _ ls (by rfl) (by exact S5.out.own.bel (bel_alloc _ _)) _ _ (.slice A5 l5.length c5) l5 (by rfl) (by exact new_cell _ _ _) (by exact O5.out.bel (bel_alloc _ _)) (by exact OF.out) (by omega) (by simp; omega) ?_; intro v6 w6 ho hg _))
      have S6 := Lib.hid ((S5.out.bel (bel_alloc _ _)).app ho hg)
      have hl2 : (ls ++ [l5]).length = ls.length + 1 := by simp
      clear ho hg S5
      go_roundw
      case rel => exact ⟨k, K' + 300, _, by go_num, by omega, by omega, by omega, S6.out, all_app H7.out h57⟩
      case measure => simp [intOf]

end Go.Proofs.Yteemhhgioljmaaa

/-
  Drawn sizes; the arguments of RunSteps and RunParts.
-/
namespace Go.Proofs.Yteemhhgioljmaaa
open Go.RowKit
set_option linter.unusedVariables false
set_option linter.unusedSimpArgs false
set_option maxRecDepth 100000
attribute [local go_sem ↓] Go.wp_at_zero Go.wp_at_succ

/-- Drawn sizes. -/
def DrawnSizes (w : World) (g K' n : Nat) (e : Ending) (w' : World) : Prop :=
  ∃ v l, e = .returned v ∧ Own w' w.heap.size v l ∧ l.length = n ∧ Rdr w' g K' ∧ w.grownBy w' (some g)
set_option maxHeartbeats 4000000 in
theorem l7Numbers_any (g K n : Nat) (w : World) (hr : Rdr w g K) (hK : K ≤ 1000000) (hn : n ≤ 20) :
    Calls Try.prog 84 #[.pointer (some ⟨g, 0, none⟩), .int .i64 n] w (DrawnSizes w g (K + 30) n) := by
  have hgw := hr.lt
  have S0 := Lib.hid (show St w g K (.slice (some ⟨w.heap.size, 0, none⟩) 0 0) [] (w.alloc (.cells #[] 3)) from
    ⟨Own.empty w w.heap.size (Nat.le_refl _), hr.bel (bel_alloc _ _), only_alloc (World.grownBy.refl w _) _, hgw⟩)
  clear hr
  go_enter Try.func84, Try.ntmps84
  go_wp2_with fail
  go_loopw [5, 6] (fun r i wr => ∃ (k : Nat) (l : List Int), i = .int .i64 k ∧ k ≤ n ∧ l.length = k ∧ St w g (K + k) r l wr)
    (fun _ i _ => n - (intOf i).toNat)
  case atStart => exact ⟨0, [], rfl, Nat.zero_le _, rfl, S0.out⟩
  case round =>
    obtain ⟨k, l, rfl, hk, hlk, hst⟩ := hrel
    have zr := hst.gr.size
    have S3 := Lib.hid hst
    clear S0
    by_cases hlt : k < n
    · clear hst
      go_wp2_with fail
      refine (pick_st 8 S3.out (by omega) (by omega)).mono ?_
      rintro e1 w3 ⟨m1, rfl, a1, b1, hs4⟩
      have S4 := Lib.hid hs4
      have z4 := hs4.gr.size
      clear hs4 S3
      go_wp2_with (at_builtin; refine app_int rfl (.tmp 13) (.tmp 16) (by rfl) w.heap.size _ _ (by rfl) (by exact S4.out.own.bel (bel_alloc _ _)) _ _ _ (by rfl) (by exact new_cell _ _ _) (by omega) (by omega) (by simp; omega) ?_; intro v5 w5 ho hg _)
      have S6 := Lib.hid ((S4.out.bel (bel_alloc _ _)).app ho hg)
      clear ho hg S4
      go_roundw
      case rel => exact ⟨k + 1, _, by go_num, by omega, by simp; omega, S6.out⟩
      case measure => simp [intOf]; omega
    · have hkn : k = n := by omega
      subst hkn
      subst hlk
      by_cases h0 : l.length = 0
      · obtain ⟨A5, c5, rfl, hlc5, hc5, hrd5⟩ := hst.own.ints.open_
        clear hst hrd5
        go_wp2
        go_ret
        exact ⟨_, l, rfl, S3.out.own, rfl, S3.out.rdr.more (by omega), S3.out.gr⟩
      · obtain ⟨b, cap, rfl, hbb, hbw, hlc, hcap, hcells⟩ := hst.own.openN (by omega)
        clear hst hcells
        go_wp2_with fail
        refine (pick_st 16 S3.out (by omega) (by omega)).mono ?_
        rintro e1 w3 ⟨q, rfl, a1, b1, hs4⟩
        have S4 := Lib.hid hs4
        have z4 := hs4.gr.size
        clear hs4 S3
        cases q0 : (q == 0)
        · go_wp2
          go_ret
          exact ⟨_, l, rfl, S4.out.own, rfl, S4.out.rdr.more (by omega), S4.out.gr⟩
        · go_wp2_with fail
          refine (num_st _ [-1, 60, 61, 9223372036854775807] (S4.out.bel (bel_alloc _ _)) (by omega) (lit_own _ [-1, 60, 61, 9223372036854775807] _ w.heap.size rfl (by omega) (by simp) (wf_lit (by simp))).ints (by simp) (lit_ne (by omega))).mono ?_
          rintro e w5 ⟨n5, rfl, hn5, hs5⟩
          have hn' : -1 ≤ n5 ∧ n5 ≤ 9223372036854775807 := by simp at hn5; omega
          obtain ⟨b', cap', ev, _, _, _, _, hcells⟩ := hs5.own.openN (by omega)
          injection ev with ev1 ev2 ev3
          injection ev1 with ev1
          injection ev1 with ev1
          subst ev1
          obtain ⟨hc, hf⟩ := hcells 0 (by omega)
          have S5 := Lib.hid hs5
          clear hn5 hs5 S4 hcells ev2 ev3
          go_wp2
          go_ret
          have S7 := S5.out.set_ 0 n5 (by omega) (by omega)
          exact ⟨_, _, rfl, S7.own, by rw [List.length_set], S7.rdr.more (by omega), S7.gr⟩

/-- A drawn list of engines and a count. -/
def DrawnSteps (w : World) (e : Ending) (w' : World) : Prop :=
  ∃ v ls n, e = .returned (.tuple #[v, .int .i64 n]) ∧ Engs w' v ls ∧ ls.length ≤ 11 ∧ -1 ≤ n ∧ n ≤ 9223372036854775807 ∧ Below w.heap.size w w'
set_option maxHeartbeats 1000000 in
theorem drawSteps_any (v : Value) (code : List Int) (w : World) (hv : Bytes w v code) :
    Calls Try.prog 26 #[v] w (DrawnSteps w) := by
  go_enter Try.func26, Try.ntmps26
  go_wp2_with fail
  refine (l9Open_any v code w hv).mono ?_
  rintro e w1 ⟨g, rfl, hg, hr1, hb1⟩
  have z1 := hb1.size
  have H1 := Lib.hid (And.intro hr1 hb1)
  clear hr1 hb1
  go_wp2_with fail
  refine (l7List_any g 0 _ H1.out.1 (by omega)).mono ?_
  rintro e w2 ⟨vl, ls, rfl, hs2, hl, h7⟩
  have S2 := Lib.hid hs2
  clear hs2
  go_wp2_with fail
  refine (l7Count_any g _ (.slice none 0 0) [] w1 _ ⟨OwnS.nil_ _ _, S2.out.rdr, S2.out.gr, S2.out.lt⟩ (by omega)).mono ?_
  rintro e w3 ⟨n, rfl, n1, n2, hs3, hg3⟩
  have S3 := Lib.hid (S2.out.grown hg3 hs3.rdr)
  clear hs3 hg3
  go_wp2
  go_ret2
  exact ⟨_, ls, n, rfl, S3.out.own.engs, hl, n1, n2, H1.out.2.trans (grown_below (B := w.heap.size) S3.out.gr (by omega) z1)⟩

/-- A drawn list of engines and sizes. -/
def DrawnParts (w : World) (e : Ending) (w' : World) : Prop :=
  ∃ v ls u sz, e = .returned (.tuple #[v, u]) ∧ Engs w' v ls ∧ ls.length ≤ 11 ∧ Ints w' u sz ∧ sz.length ≤ 12 ∧ Below w.heap.size w w'
set_option maxHeartbeats 2000000 in
theorem drawParts_any (v : Value) (code : List Int) (w : World) (hv : Bytes w v code) :
    Calls Try.prog 22 #[v] w (DrawnParts w) := by
  go_enter Try.func22, Try.ntmps22
  go_wp2_with fail
  refine (l9Open_any v code w hv).mono ?_
  rintro e w1 ⟨g, rfl, hg, hr1, hb1⟩
  have z1 := hb1.size
  have H1 := Lib.hid (And.intro hr1 hb1)
  clear hr1 hb1
  go_wp2_with fail
  refine (l7List_any g 0 _ H1.out.1 (by omega)).mono ?_
  rintro e w2 ⟨vl, ls, rfl, hs2, hl, h7⟩
  have S2 := Lib.hid hs2
  obtain ⟨A2, c2, xs2, rfl, -, -, -, -⟩ := hs2.own.engs.open_
  clear hs2
  go_wp2_with fail
  refine (pick_any g _ 12 _ S2.out.rdr (by omega) (by omega)).mono ?_
  rintro e w3 ⟨q, rfl, -, -, hr3, hg3⟩
  have S3 := Lib.hid (S2.out.grown hg3 hr3)
  clear hr3 hg3 S2
  have fin : ∀ m : Nat, m ≤ 12 → ∀ e w4, DrawnSizes w3 g (0 + 1210 + 1 + 30) m e w4 → ∃ u sz, e = .returned u ∧ Engs w4 (.slice A2 ls.length c2) ls ∧ Ints w4 u sz ∧ sz.length ≤ 12 ∧ Below w.heap.size w w4 := by
    rintro m hm e w4 ⟨u, sz, rfl, ho, hlm, hr4, hg4⟩
    have S4 := S3.out.grown hg4 hr4
    exact ⟨u, sz, rfl, S4.own.engs, ho.ints, by omega, H1.out.2.trans (grown_below (B := w.heap.size) S4.gr (by omega) z1)⟩
  have FN := Lib.hid fin
  clear fin
  cases q0 : (q == 0)
  · go_wp2_with fail
    refine (l7Numbers_any g _ ls.length _ S3.out.rdr (by omega) (by omega)).mono ?_
    intro e w4 hd
    obtain ⟨u, sz, rfl, h1, h2, h3, h4⟩ := FN.out _ (by omega) _ _ hd
    have H := Lib.hid (And.intro h1 (And.intro h2 (And.intro h3 h4)))
    clear h1 h2 h3 h4 hd
    go_wp2
    go_ret2
    exact ⟨_, ls, u, sz, rfl, H.out.1, hl, H.out.2.1, H.out.2.2.1, H.out.2.2.2⟩
  · go_wp2_with fail
    rw [show (ls.length : Int) + 1 = ((ls.length + 1 : Nat) : Int) by omega]
    refine (l7Numbers_any g _ (ls.length + 1) _ S3.out.rdr (by omega) (by omega)).mono ?_
    intro e w4 hd
    obtain ⟨u, sz, rfl, h1, h2, h3, h4⟩ := FN.out _ (by omega) _ _ hd
    have H := Lib.hid (And.intro h1 (And.intro h2 (And.intro h3 h4)))
    clear h1 h2 h3 h4 hd
    go_wp2
    go_ret2
    exact ⟨_, ls, u, sz, rfl, H.out.1, hl, H.out.2.1, H.out.2.2.1, H.out.2.2.2⟩

end Go.Proofs.Yteemhhgioljmaaa

/-
  The arguments of PartEngines and StepEngines, drawn.
-/
namespace Go.Proofs.Yteemhhgioljmaaa
open Go.RowKit
set_option linter.unusedVariables false
set_option linter.unusedSimpArgs false
set_option maxRecDepth 100000
attribute [local go_sem ↓] Go.wp_at_zero Go.wp_at_succ

set_option maxHeartbeats 1000000 in
theorem l2Open_any (g K : Nat) (w : World) (hr : Rdr w g K) (hK : K ≤ 1000000) :
    Calls Try.prog 110 #[.pointer (some ⟨g, 0, none⟩)] w fun e w' => ∃ v l, e = .returned v ∧ St w g (K + 23) v l w' ∧ l.length ≤ 8 := by
  have hgw := hr.lt
  go_enter Try.func110, Try.ntmps110
  go_wp2_with fail
  refine (l2Some_any g K _ hr (by omega)).mono ?_
  rintro e w1 ⟨vp, p, rfl, ho1, hp1, hp2, hr1, hg1⟩
  have S1 := Lib.hid (show St w g (K + 20) vp p w1 from ⟨ho1, hr1, hg1, hgw⟩)
  clear ho1 hr1 hg1 hr
  go_wp2_with fail
  refine (l2Bad_any g _ w _ _ _ S1.out hp1 (by omega) (by omega)).mono ?_
  rintro e w2 ⟨v2, l2, rfl, hs2, l8, -⟩
  have S2 := Lib.hid hs2
  clear hs2 S1
  go_wp2
  go_ret
  exact ⟨_, l2, rfl, S2.out, l8⟩
/-- A drawn polynomial, an argument and a width. -/
def DrawnSU (w : World) (e : Ending) (w' : World) : Prop :=
  ∃ v p n k, e = .returned (.tuple #[v, .int .i64 n, .int .i64 k]) ∧ Own w' w.heap.size v p ∧ p.length ≤ 8 ∧ (-9223372036854775808 ≤ n ∧ n ≤ 9223372036854775807) ∧ (-9223372036854775808 ≤ k ∧ k ≤ 9223372036854775807) ∧ Below w.heap.size w w'
set_option maxHeartbeats 1000000 in
theorem drawSetUp_any (v : Value) (code : List Int) (w : World) (hv : Bytes w v code) :
    Calls Try.prog 47 #[v] w (DrawnSU w) := by
  go_enter Try.func47, Try.ntmps47
  go_wp2_with fail
  refine (l9Open_any v code w hv).mono ?_
  rintro e w1 ⟨g, rfl, hg, hr1, hb1⟩
  have z1 := hb1.size
  have H1 := Lib.hid (And.intro hr1 hb1)
  clear hr1 hb1
  go_wp2_with fail
  refine (l2Open_any g 0 _ H1.out.1 (by omega)).mono ?_
  rintro e w2 ⟨vp, p, rfl, hs2, l8⟩
  have S2 := Lib.hid hs2
  clear hs2
  go_wp2_with fail
  refine (l2Number_any g _ w1 _ _ _ S2.out (by omega)).mono ?_
  rintro e w3 ⟨n, rfl, n1, n2, hs3⟩
  have S3 := Lib.hid hs3
  clear hs3 S2
  go_wp2_with fail
  refine (pick_st 3 S3.out (by omega) (by omega)).mono ?_
  rintro e w4 ⟨q, rfl, qa, qb, hs4⟩
  have S4 := Lib.hid hs4
  clear hs4 S3
  by_cases hq : 0 < q
  · go_wp2
    refine bodyPost_ret (v := .tuple #[vp, .int .i64 n, .int .i64 8]) (by simp [results, Try.results47, go_sem]) rfl ⟨_, p, n, 8, rfl, S4.out.own.lower z1, l8, ⟨n1, n2⟩, by omega, H1.out.2.trans (grown_below (B := w.heap.size) S4.out.gr (by omega) z1)⟩
  · go_wp2_with fail
    refine (l1Wide_any g _ w1 _ _ _ S4.out (by omega)).mono ?_
    rintro e w5 ⟨k, rfl, k1, k2, hs5⟩
    have S5 := Lib.hid hs5
    clear hs5 S4
    go_wp2
    refine bodyPost_ret (v := .tuple #[vp, .int .i64 n, .int .i64 k]) (by simp [results, Try.results47, go_sem]) rfl ⟨_, p, n, k, rfl, S5.out.own.lower z1, l8, ⟨n1, n2⟩, ⟨k1, k2⟩, H1.out.2.trans (grown_below (B := w.heap.size) S5.out.gr (by omega) z1)⟩
/-- The drawn arguments of PartEngines. -/
def DrawnPE (w : World) (e : Ending) (w' : World) : Prop :=
  ∃ v p n u sz k, e = .returned (.tuple #[v, .int .i64 n, u, .int .i64 k]) ∧ Ints w' v p ∧ p.length ≤ 8 ∧ Ints w' u sz ∧ sz.length ≤ 4 ∧ (-9223372036854775808 ≤ n ∧ n ≤ 9223372036854775807) ∧ (-9223372036854775808 ≤ k ∧ k ≤ 9223372036854775807) ∧ Below w.heap.size w w'
set_option maxHeartbeats 1000000 in
theorem drawPE_any (v : Value) (code : List Int) (w : World) (hv : Bytes w v code) :
    Calls Try.prog 38 #[v] w (DrawnPE w) := by
  have HV := Lib.hid hv
  clear hv
  go_enter Try.func38, Try.ntmps38
  go_wp2_with fail
  refine (l9Open_any v code w HV.out).mono ?_
  rintro e w1 ⟨g, rfl, hg, hr1, hb1⟩
  have z1 := hb1.size
  have lg := hr1.lt
  have H1 := Lib.hid (And.intro hr1 (And.intro hb1 (HV.out.bel hb1)))
  clear hr1 hb1
  go_wp2_with fail
  refine (drawSetUp_any v code w1 H1.out.2.2).mono ?_
  rintro e w2 ⟨vp, p, n, k, rfl, ho2, p8, nb, kb, hb2⟩
  have z2 := hb2.size
  have H2 := Lib.hid (And.intro ho2 (And.intro (H1.out.1.bel hb2) (bel_trans H1.out.2.1 hb2)))
  clear ho2 hb2
  go_wp2_with fail
  refine (num_any g _ _ [2, 3, 1, 4, 0] _ (H2.out.2.1.bel (bel_alloc _ _)) (by omega) (lit_own _ [2, 3, 1, 4, 0] w2.heap.size 0 rfl (by omega) (by simp) (wf_lit (by simp))).ints (by simp) (lit_ne (by omega))).mono ?_
  rintro e w3 ⟨m, rfl, hm, hr3, hg3⟩
  have hm' : 0 ≤ m ∧ m ≤ 4 := by simp at hm; omega
  obtain ⟨m, rfl⟩ : ∃ q : Nat, m = q := ⟨m.toNat, by omega⟩
  have z3 := hg3.size
  simp at z3
  have H3 := Lib.hid (And.intro ((H2.out.1.bel (bel_alloc _ _)).far hg3 (fun j hj => by injection hj with hj; omega)) (And.intro hr3 ((bel_trans H2.out.2.2 (bel_alloc _ _)).trans (grown_below (B := w.heap.size) hg3 (by omega) (by simp; omega)))))
  clear hr3 hg3 hm
  go_wp2_with fail
  refine (l7Numbers_any g _ m _ H3.out.2.1 (by omega) (by omega)).mono ?_
  rintro e w4 ⟨u, sz, rfl, ho4, hl4, hr4, hg4⟩
  have H4 := Lib.hid (And.intro (H3.out.1.far hg4 (fun j hj => by injection hj with hj; omega)) (And.intro ho4.ints (H3.out.2.2.trans (grown_below (B := w.heap.size) hg4 (by omega) (by omega)))))
  clear ho4 hr4 hg4
  go_wp2
  refine bodyPost_ret (v := .tuple #[vp, .int .i64 n, u, .int .i64 k]) (by simp [results, Try.results38, go_sem]) rfl ⟨_, p, n, _, sz, k, rfl, H4.out.1.ints, p8, H4.out.2.1, by omega, nb, kb, H4.out.2.2⟩
/-- The drawn arguments of StepEngines. -/
def DrawnSE (w : World) (e : Ending) (w' : World) : Prop :=
  ∃ v p n m k, e = .returned (.tuple #[v, .int .i64 n, .int .i64 m, .int .i64 k]) ∧ Ints w' v p ∧ p.length ≤ 8 ∧ (-9223372036854775808 ≤ n ∧ n ≤ 9223372036854775807) ∧ (-1 ≤ m ∧ m ≤ 11) ∧ (-9223372036854775808 ≤ k ∧ k ≤ 9223372036854775807) ∧ Below w.heap.size w w'
set_option maxHeartbeats 1000000 in
theorem drawSE_any (v : Value) (code : List Int) (w : World) (hv : Bytes w v code) :
    Calls Try.prog 42 #[v] w (DrawnSE w) := by
  have HV := Lib.hid hv
  clear hv
  go_enter Try.func42, Try.ntmps42
  go_wp2_with fail
  refine (l9Open_any v code w HV.out).mono ?_
  rintro e w1 ⟨g, rfl, hg, hr1, hb1⟩
  have z1 := hb1.size
  have lg := hr1.lt
  have H1 := Lib.hid (And.intro hr1 (And.intro hb1 (HV.out.bel hb1)))
  clear hr1 hb1
  go_wp2_with fail
  refine (drawSetUp_any v code w1 H1.out.2.2).mono ?_
  rintro e w2 ⟨vp, p, n, k, rfl, ho2, p8, nb, kb, hb2⟩
  have z2 := hb2.size
  have H2 := Lib.hid (And.intro ho2 (And.intro (H1.out.1.bel hb2) (bel_trans H1.out.2.1 hb2)))
  clear ho2 hb2
  go_wp2_with fail
  refine (pick_any g _ 4 _ H2.out.2.1 (by omega) (by omega)).mono ?_
  rintro e w3 ⟨m, rfl, hm, -, hr3, hg3⟩
  have hm' := hm (by omega)
  have z3 := hg3.size
  have H3 := Lib.hid (And.intro (H2.out.1.far hg3 (fun j hj => by injection hj with hj; omega)) (And.intro hr3 (H2.out.2.2.trans (grown_below (B := w.heap.size) hg3 (by omega) (by omega)))))
  clear hr3 hg3 hm H2
  go_wp2_with fail
  refine (pick_any g _ 16 _ H3.out.2.1 (by omega) (by omega)).mono ?_
  rintro e w4 ⟨q, rfl, -, -, hr4, hg4⟩
  have z4 := hg4.size
  have H4 := Lib.hid (And.intro (H3.out.1.far hg4 (fun j hj => by injection hj with hj; omega)) (And.intro hr4 (H3.out.2.2.trans (grown_below (B := w.heap.size) hg4 (by omega) (by omega)))))
  clear hr4 hg4 H3
  cases q0 : (q == 0)
  · go_wp2
    refine bodyPost_ret (v := .tuple #[vp, .int .i64 n, .int .i64 (1 + m), .int .i64 k]) (by simp [results, Try.results42, go_sem]) rfl ⟨_, p, n, 1 + m, k, rfl, H4.out.1.ints, p8, nb, by omega, kb, H4.out.2.2⟩
  · go_wp2_with fail
    refine (num_any g _ _ [0, 10, 11, -1] _ (H4.out.2.1.bel (bel_alloc _ _)) (by omega) (lit_own _ [0, 10, 11, -1] w4.heap.size 0 rfl (by omega) (by simp) (wf_lit (by simp))).ints (by simp) (lit_ne (by omega))).mono ?_
    rintro e w5 ⟨x, rfl, hx, hr5, hg5⟩
    have hx' : -1 ≤ x ∧ x ≤ 11 := by simp at hx; omega
    have H5 := Lib.hid (And.intro ((H4.out.1.bel (bel_alloc _ _)).far hg5 (fun j hj => by injection hj with hj; omega)) ((H4.out.2.2.trans (grown_below (B := w.heap.size) (only_alloc (World.grownBy.refl w4 (some g)) _) (by omega) (by omega))).trans (grown_below (B := w.heap.size) hg5 (by omega) (by simp; omega))))
    clear hr5 hg5 hx
    go_wp2
    refine bodyPost_ret (v := .tuple #[vp, .int .i64 n, .int .i64 x, .int .i64 k]) (by simp [results, Try.results42, go_sem]) rfl ⟨_, p, n, x, k, rfl, H5.out.1.ints, p8, nb, hx', kb, H5.out.2⟩

end Go.Proofs.Yteemhhgioljmaaa

/-
  Engines of polynomials, plainly: a turn is the next argument.
-/
namespace Go.Proofs.Yteemhhgioljmaaa
open Go.RowKit
set_option linter.unusedVariables false
set_option linter.unusedSimpArgs false

theorem cv_colOf (x : Int) (k : Nat) : cv (colOf x k) = md x (ten k) := cv_col (md_lt x (ten_pos k))
/-- What a column shows is the number, if it fits. -/
theorem sg_colOf {x : Int} {k : Nat} (hk : 1 ≤ k) (h : fits x k = true) : sg (colOf x k) = x := by
  have hf := inB_true.1 h
  have hT := ten_half hk
  have hc := md_cast x (ten_pos k)
  have hl := md_lt x (ten_pos k)
  have hcv := cv_colOf x k
  have hs := colOf_size x k
  rcases Int.le_total 0 x with h0 | h0
  · have hm : x % ((ten k : Nat) : Int) = x := Int.emod_eq_of_lt h0 (by omega)
    rw [sg_lo (by rw [hs, hcv]; omega), hcv]; omega
  · by_cases hz : x = 0
    · subst hz
      have hm : (0 : Int) % ((ten k : Nat) : Int) = 0 := Int.zero_emod _
      rw [sg_lo (by rw [hs, hcv]; have := ten_pos k; omega), hcv]; omega
    · have hm : x % ((ten k : Nat) : Int) = x + (ten k : Nat) := by
        rw [← Int.add_emod_right]
        exact Int.emod_eq_of_lt (by omega) (by omega)
      rw [sg_hi (by rw [hs, hcv]; omega), hcv, hs]; omega
theorem md_add (a b : Int) {T : Nat} (hT : 1 ≤ T) : (md a T + md b T) % T = md (a + b) T := by
  have h1 := md_cast a hT
  have h2 := md_cast b hT
  have h3 := md_cast (a + b) hT
  have h4 : (((md a T + md b T) % T : Nat) : Int) = (((md a T : Nat) : Int) + ((md b T : Nat) : Int)) % (T : Int) := by
    rw [Int.natCast_emod, Int.natCast_add]
  rw [h1, h2, ← Int.add_emod, ← h3] at h4
  exact Int.ofNat.inj h4
theorem addC_colOf (a b : Int) (k : Nat) : addC (colOf a k) (colOf b k) = colOf (a + b) k := by
  unfold addC
  rw [colOf_size, cv_colOf, cv_colOf, md_add a b (ten_pos k)]
  rfl

/-- The engine of a polynomial at an argument, whatever fits. -/
def rawE (p : List Int) (n : Int) (k : Nat) : List ByteArray := genS (fun i => colOf (evalI (p.drop i) n) k) p.length
theorem rawE_length (p : List Int) (n : Int) (k : Nat) : (rawE p n k).length = p.length := genS_length _ _
theorem rawE_at {p : List Int} {n : Int} {k i : Nat} (h : i < p.length) : sat (rawE p n k) i = colOf (evalI (p.drop i) n) k := at_genS h
theorem eval_next {p : List Int} (hp : ∀ k, k < p.length → -100000 ≤ at_ p k ∧ at_ p k ≤ 100000) (h7 : p.length ≤ 7) {n : Int} (h0 : -200 ≤ n) (h1 : n ≤ 205) :
    evalI p (n + 1) = evalI p n + evalI (p.drop 1) n := by
  have b1 := eval_bd hp h7 h0 (show n ≤ 206 by omega)
  have b2 := eval_bd hp h7 (show -200 ≤ n + 1 by omega) (show n + 1 ≤ 206 by omega)
  have e := eval_step hp h7 h0 h1
  rw [IntWalk.wrap64_in _ (by omega)] at e
  omega
theorem turn_raw {p : List Int} (hp : ∀ k, k < p.length → -100000 ≤ at_ p k ∧ at_ p k ≤ 100000) (h7 : p.length ≤ 7) {n : Int} (h0 : -200 ≤ n) (h1 : n ≤ 205) (k : Nat) :
    turnS (rawE p n k) = rawE p (n + 1) k := by
  apply slist_ext
  · rw [turnS_length, rawE_length, rawE_length]
  · intro i hi
    rw [turnS_length, rawE_length] at hi
    have e := eval_next (poly_drop hp i) (by rw [List.length_drop]; omega) h0 h1
    rw [List.drop_drop] at e
    rw [turnS_at (by rw [rawE_length]; exact hi), rawE_length, rawE_at hi, rawE_at hi]
    by_cases h : i + 1 < p.length
    · rw [if_pos h, rawE_at h, addC_colOf, e]
    · rw [if_neg h, e]
      have hn : p.drop (i + 1) = [] := List.drop_eq_nil_of_le (by omega)
      rw [hn]
      show _ = colOf (evalI (List.drop i p) n + 0) k
      rw [Int.add_zero]
theorem turns_raw {p : List Int} (hp : ∀ k, k < p.length → -100000 ≤ at_ p k ∧ at_ p k ≤ 100000) (h7 : p.length ≤ 7) {n : Int} (h0 : -200 ≤ n) (k : Nat) :
    ∀ m : Nat, n + (m : Int) ≤ 206 → turnN (rawE p n k) m = rawE p (n + (m : Int)) k
  | 0 => fun _ => by rw [turnN_zero]; simp
  | m + 1 => fun h => by
    rw [turnN_succ, turns_raw hp h7 h0 k m (by omega), turn_raw hp h7 (by omega) (by omega)]
    congr 1
    omega
/-- What an engine that is set up is. -/
theorem set_raw {p : List Int} {n : Int} {k : Int} (h : setOk p n k = true) : argOk p n = true ∧ (1 ≤ k ∧ k ≤ 12) ∧ setE p n k = rawE p n k.toNat ∧ ∀ i, i < p.length → fits (evalI (p.drop i) n) k.toNat = true := by
  have hs : shiftOk p n = true := by
    cases hq : shiftOk p n
    · rw [setOk_s hq] at h; cases h
    · rfl
  have ha : argOk p n = true := by
    cases hq : argOk p n
    · rw [(shift_no hq).1] at hs; cases hs
    · rfl
  obtain ⟨e1, e2⟩ := shift_yes ha
  have hq : polyOk (shiftI p n) = true := by rw [← e1]; exact hs
  rw [chkL_yes hq] at e2
  have hw : 1 ≤ k ∧ k ≤ 12 := by
    cases hw : inB k 1 12
    · rw [setOk_w hw (shiftL_len.2 hs)] at h; cases h
    · exact inB_true.1 hw
  have hc : ∀ i, i < p.length → colOfOk (evalI (p.drop i) n) k = true := by
    intro i hi
    cases hco : colOfOk (evalI (p.drop i) n) k
    · have hl : i < (shiftL p n).length := by rw [e2, shiftI_length]; exact hi
      rw [setOk_at hl (by rw [e2, shiftI, at_gen hi]; exact hco)] at h; cases h
    · rfl
  have hkn : ((k.toNat : Nat) : Int) = k := by omega
  refine ⟨ha, hw, ?_, fun i hi => ?_⟩
  · rw [set_yes h]
    apply slist_ext
    · rw [colsTo_length, e2, shiftI_length, rawE_length]
    · intro i hi
      rw [colsTo_length, e2, shiftI_length] at hi
      rw [rawE_at hi]
      unfold colsTo
      rw [at_genS (by rw [e2, shiftI_length]; exact hi), e2, shiftI, at_gen hi]
      unfold colOfS
      rw [if_pos (hc i hi)]
  · have := hc i hi
    rw [← hkn, colOfOk_nat _ (by omega)] at this
    exact this
/-- What an engine that is set up shows after turns. -/
theorem set_turns {p : List Int} {n : Int} {k : Int} (h : setOk p n k = true) {m : Nat} (hm : n + (m : Int) ≤ 206) : turnN (setE p n k) m = rawE p (n + (m : Int)) k.toNat := by
  obtain ⟨ha, -, e, -⟩ := set_raw h
  obtain ⟨hp, h0, h1⟩ := argOk_true.1 ha
  obtain ⟨p1, p7, hb⟩ := polyOk_true.1 hp
  rw [e, turns_raw hb p7 h0 _ m hm]
theorem set_shows {p : List Int} {n : Int} {k : Int} (h : setOk p n k = true) {m : Nat} (hm : n + (m : Int) ≤ 206) (hf : fits (evalI p (n + (m : Int))) k.toNat = true) : sg (sat (turnN (setE p n k) m) 0) = evalI p (n + (m : Int)) := by
  obtain ⟨ha, hw, e, -⟩ := set_raw h
  obtain ⟨p1, -, -⟩ := polyOk_true.1 (argOk_true.1 ha).1
  rw [set_turns h hm, rawE_at (by omega), List.drop_zero]
  exact sg_colOf (by omega) hf
theorem setE_ok {p : List Int} {n : Int} {k : Int} (h : setOk p n k = true) : engOk (setE p n k) = true := by
  obtain ⟨ha, hw, e, -⟩ := set_raw h
  obtain ⟨p1, p7, -⟩ := polyOk_true.1 (argOk_true.1 ha).1
  rw [e]
  refine engOk_iff.2 ⟨by rw [rawE_length]; exact p1, by rw [rawE_length]; exact p7, fun i hi => ?_⟩
  rw [rawE_length] at hi
  rw [rawE_at hi, rawE_at (by omega)]
  exact ⟨colOk_colOf _ (by omega) (by omega), by rw [colOf_size, colOf_size]⟩

end Go.Proofs.Yteemhhgioljmaaa

/-
  Engines for every m-th value, plainly: they print the values of the polynomial.
-/
namespace Go.Proofs.Yteemhhgioljmaaa
open Go.RowKit
set_option linter.unusedVariables false
set_option linter.unusedSimpArgs false
set_option maxRecDepth 100000

/-- Differences of a row of numbers. -/
def dlt (f : Nat → Int) : Nat → Nat → Int
  | 0, i => f i
  | j + 1, i => dlt f j (i + 1) - dlt f j i
theorem dlt_add (f g : Nat → Int) (c : Int) : ∀ j i, dlt (fun i => f i + c * g i) j i = dlt f j i + c * dlt g j i
  | 0, i => rfl
  | j + 1, i => by
    simp only [dlt]
    rw [dlt_add f g c j, dlt_add f g c j, Int.mul_sub]
    omega
theorem dlt_zero : ∀ j i, dlt (fun _ => 0) j i = 0
  | 0, i => rfl
  | j + 1, i => by simp only [dlt]; rw [dlt_zero j, dlt_zero j]; rfl
def smI (f : Nat → Int) : Nat → Int
  | 0 => 0
  | k + 1 => smI f k + f k
/-- The law of the steps: each binomial is what its own differences tell. -/
def stepAt (m t l k : Nat) : Bool := smI (fun j => dlt (fun i => chooseI ((m : Int) * (i : Int)) l) j 0 * chooseI (t : Int) j) k == chooseI ((m : Int) * (t : Int)) l
def stepAll : Bool := (List.range 11).all fun m => (List.range 25).all fun t => Nat.blt 24 (m * t) || (List.range 8).all fun k => (List.range k).all fun l => Nat.beq m 0 || stepAt m t l k
set_option maxHeartbeats 4000000 in
theorem stepAll_true : stepAll = true := by decide +kernel
theorem step_at {m t l k : Nat} (h1 : 1 ≤ m) (h10 : m ≤ 10) (ht : m * t ≤ 24) (hk : k ≤ 7) (hl : l < k) :
    smI (fun j => dlt (fun i => chooseI ((m : Int) * (i : Int)) l) j 0 * chooseI (t : Int) j) k = chooseI ((m : Int) * (t : Int)) l := by
  have ht' : t ≤ 24 := by
    have : 1 * t ≤ m * t := Nat.mul_le_mul_right t h1
    omega
  have h := stepAll_true
  unfold stepAll at h
  rw [List.all_eq_true] at h
  have h2 := h m (List.mem_range.2 (by omega))
  rw [List.all_eq_true] at h2
  have h3 := h2 t (List.mem_range.2 (by omega))
  rw [Bool.or_eq_true] at h3
  rcases h3 with q | q
  · have : 24 < m * t := Nat.le_of_ble_eq_true q
    omega
  · rw [List.all_eq_true] at q
    have h4 := q k (List.mem_range.2 (by omega))
    rw [List.all_eq_true] at h4
    have h5 := h4 l (List.mem_range.2 hl)
    rw [Bool.or_eq_true] at h5
    rcases h5 with r | r
    · have := Nat.eq_of_beq_eq_true r
      omega
    · unfold stepAt at r
      simpa using r
theorem smI_add (f g : Nat → Int) (h : Nat → Int) (c : Int) (n : Nat) : smI (fun j => (f j + c * g j) * h j) n = smI (fun j => f j * h j) n + c * smI (fun j => g j * h j) n := by
  induction n with
  | zero => simp [smI]
  | succ n ih =>
    simp only [smI]
    rw [ih, Int.add_mul, Int.mul_add, Int.mul_assoc]
    omega
theorem smI_zero (n : Nat) : smI (fun _ => 0) n = 0 := by
  induction n with
  | zero => rfl
  | succ n ih => simp only [smI]; rw [ih]; rfl
theorem evE_smI (p : List Int) (x : Int) (n : Nat) : evE p x n = smI (fun j => at_ p j * chooseI x j) n := by
  induction n with
  | zero => rfl
  | succ n ih => simp only [evE, smI]; rw [ih]
/-- Every m-th value is told by the differences of every m-th value. -/
theorem newton (s : List Int) {m t k : Nat} (h1 : 1 ≤ m) (h10 : m ≤ 10) (ht : m * t ≤ 24) (hk : k ≤ 7) :
    ∀ n, n ≤ k → smI (fun j => dlt (fun i => evE s ((m : Int) * (i : Int)) n) j 0 * chooseI (t : Int) j) k = evE s ((m : Int) * (t : Int)) n := by
  intro n
  induction n with
  | zero =>
    intro _
    have : (fun j => dlt (fun i => evE s ((m : Int) * (i : Int)) 0) j 0 * chooseI (t : Int) j) = fun _ => 0 := by
      funext j
      show dlt (fun _ => 0) j 0 * chooseI (t : Int) j = 0
      rw [dlt_zero, Int.zero_mul]
    rw [this, smI_zero]; rfl
  | succ n ih =>
    intro hn
    have e : (fun j => dlt (fun i => evE s ((m : Int) * (i : Int)) (n + 1)) j 0 * chooseI (t : Int) j) = fun j => (dlt (fun i => evE s ((m : Int) * (i : Int)) n) j 0 + at_ s n * dlt (fun i => chooseI ((m : Int) * (i : Int)) n) j 0) * chooseI (t : Int) j := by
      funext j
      rw [← dlt_add]
      rfl
    rw [e, smI_add, ih (by omega), step_at h1 h10 ht hk (by omega)]
    rfl
theorem two_pow_le {j : Nat} (h : j ≤ 7) : ((2 ^ j : Nat) : Int) ≤ 128 := by
  have : 2 ^ j ≤ 2 ^ 7 := Nat.pow_le_pow_right (by omega) h
  omega
theorem dlt_bd {f : Nat → Int} {B : Int} {N : Nat} (hf : ∀ i, i ≤ N → -B ≤ f i ∧ f i ≤ B) : ∀ j i, i + j ≤ N → -(((2 ^ j : Nat) : Int) * B) ≤ dlt f j i ∧ dlt f j i ≤ ((2 ^ j : Nat) : Int) * B
  | 0, i, h => by
    have := hf i (by omega)
    simp only [dlt, Nat.pow_zero]
    omega
  | j + 1, i, h => by
    have a := dlt_bd hf j i (by omega)
    have b := dlt_bd hf j (i + 1) (by omega)
    have e : (((2 ^ (j + 1) : Nat) : Int)) * B = ((2 ^ j : Nat) : Int) * B + ((2 ^ j : Nat) : Int) * B := by
      rw [Nat.pow_succ, Int.natCast_mul, Int.mul_assoc]
      show _ * (2 * B) = _
      rw [Int.two_mul, Int.mul_add]
    simp only [dlt]
    rw [e]
    omega
theorem rows_dlt {f : Nat → Int} {c : Nat} (hc : c ≤ 7) (hf : ∀ i, i ≤ 6 → -70000000000000000 ≤ f i ∧ f i ≤ 70000000000000000) : ∀ j, rowI (gen f c) j = gen (fun i => dlt f j i) (c - j)
  | 0 => rfl
  | j + 1 => by
    rw [rowI, rows_dlt hc hf j, nextI_gen]
    apply list_ext
    · rw [gen_length, gen_length]; omega
    · intro i hi
      rw [gen_length] at hi
      rw [at_gen hi, at_gen (by omega)]
      have b := dlt_bd (N := 6) (B := 70000000000000000) hf (j + 1) i (by omega)
      have hp : ((2 ^ (j + 1) : Nat) : Int) ≤ 64 := by
        have : 2 ^ (j + 1) ≤ 2 ^ 6 := Nat.pow_le_pow_right (by omega) (by omega)
        omega
      have hp0 : 0 ≤ ((2 ^ (j + 1) : Nat) : Int) := by omega
      rw [IntWalk.wrap64_in]
      · rfl
      · show _ ≤ dlt f (j + 1) i ∧ dlt f (j + 1) i ≤ _
        omega
theorem eval_evE {p : List Int} (hp : polyOk p = true) {n : Int} (h0 : -200 ≤ n) (h1 : n ≤ 206) : evalI p n = evE p n p.length := by
  obtain ⟨p1, p7, hb⟩ := polyOk_true.1 hp
  exact evalTo_eq hb h0 h1 _ (Nat.le_refl _) p7
/-- The polynomial of every m-th value. -/
theorem steps_eval {s : List Int} {m : Nat} (h1 : 1 ≤ m) (h10 : m ≤ 10) (hs : polyOk s = true) (hq : polyOk (stepsI s (m : Int)) = true) {t : Nat} (ht : m * t ≤ 24) :
    evalI (stepsI s (m : Int)) (t : Int) = evalI s ((m : Int) * (t : Int)) := by
  obtain ⟨s1, s7, hb⟩ := polyOk_true.1 hs
  have ht' : t ≤ 24 := by
    have : 1 * t ≤ m * t := Nat.mul_le_mul_right t h1
    omega
  have hmt : ((m * t : Nat) : Int) = (m : Int) * (t : Int) := Int.natCast_mul _ _
  have hl : (stepsI s (m : Int)).length = s.length := by
    unfold stepsI
    rw [diffsI_length, valsI, gen_length]
  rw [eval_evE hq (by omega) (by omega), eval_evE hs (by omega) (by omega), hl, evE_smI (stepsI s (m : Int))]
  rw [← newton s h1 h10 ht s7 s.length (Nat.le_refl _)]
  have key : ∀ j, j < s.length → at_ (stepsI s (m : Int)) j = dlt (fun i => evE s ((m : Int) * (i : Int)) s.length) j 0 := by
    intro j hj
    unfold stepsI diffsI diffsTo
    rw [at_gen (by rw [valsI, gen_length]; exact hj), valsI_zero s (by omega) s7]
    have hmi : ∀ i : Nat, i ≤ 6 → 0 ≤ (m : Int) * (i : Int) ∧ (m : Int) * (i : Int) ≤ 60 := by
      intro i hi
      have : m * i ≤ 10 * 6 := Nat.mul_le_mul h10 hi
      rw [← Int.natCast_mul]
      omega
    rw [rows_dlt s7 (fun i hi => by
      have := hmi i hi
      exact eval_bd hb s7 (by omega) (by omega)), at_gen (by omega)]
    have : ∀ j i, i + j ≤ 6 → dlt (fun i => evalI s ((m : Int) * (i : Int))) j i = dlt (fun i => evE s ((m : Int) * (i : Int)) s.length) j i := by
      intro j
      induction j with
      | zero =>
        intro i hi
        have := hmi i (by omega)
        exact eval_evE hs (by omega) (by omega)
      | succ j ih =>
        intro i hi
        simp only [dlt]
        rw [ih _ (by omega), ih _ (by omega)]
    exact this j 0 (by omega)
  have : ∀ n, n ≤ s.length → smI (fun j => at_ (stepsI s (m : Int)) j * chooseI (t : Int) j) n = smI (fun j => dlt (fun i => evE s ((m : Int) * (i : Int)) s.length) j 0 * chooseI (t : Int) j) n := by
    intro n
    induction n with
    | zero => intro _; rfl
    | succ n ih =>
      intro hn
      simp only [smI]
      rw [ih (by omega), key n (by omega)]
  exact this _ (Nat.le_refl _)
theorem evE_nil (p : List Int) (hp : p.length = 0) (x : Int) (n : Nat) : evE p x n = 0 := by
  induction n with
  | zero => rfl
  | succ n ih =>
    have : at_ p n = 0 := by simp [at_, List.getD, List.getElem?_eq_none (show p.length ≤ n by omega)]
    simp only [evE]
    rw [ih, this, Int.zero_mul]; rfl
theorem eval_zero {p : List Int} (hp : ∀ k, k < p.length → -100000 ≤ at_ p k ∧ at_ p k ≤ 100000) (h7 : p.length ≤ 7) : evalI p 0 = at_ p 0 := by
  unfold evalI
  rw [evalTo_eq hp (by omega) (by omega) _ (Nat.le_refl _) h7]
  have key : ∀ n, n < 7 → evE p 0 (n + 1) = at_ p 0 := by
    intro n
    induction n with
    | zero => intro _; show 0 + at_ p 0 * 1 = _; omega
    | succ n ih =>
      intro hn
      have hz : chooseI 0 (n + 1) = 0 := by
        have h : (List.range 7).all (fun n => chooseI 0 (n + 1) == 0) = true := by decide +kernel
        rw [List.all_eq_true] at h
        simpa using h n (List.mem_range.2 (by omega))
      show evE p 0 (n + 1) + at_ p (n + 1) * chooseI 0 (n + 1) = _
      rw [ih (by omega), hz, Int.mul_zero, Int.add_zero]
  rcases Nat.eq_zero_or_pos p.length with e | e
  · rw [e]
    have : at_ p 0 = 0 := by simp [at_, List.getD, List.getElem?_eq_none (show p.length ≤ 0 by omega)]
    rw [this]; rfl
  · have := key (p.length - 1) (by omega)
    rw [show p.length - 1 + 1 = p.length by omega] at this
    exact this
theorem shift_drop (p : List Int) (n : Int) (i : Nat) : (shiftI p n).drop i = shiftI (p.drop i) n := by
  apply list_ext
  · rw [List.length_drop, shiftI_length, shiftI_length, List.length_drop]
  · intro j hj
    rw [List.length_drop, shiftI_length] at hj
    rw [at_drop, shiftI, shiftI, at_gen (by omega), at_gen (by rw [List.length_drop]; omega), List.drop_drop]
/-- The shifted polynomial is the polynomial further on. -/
theorem shift_eval {n : Int} (h0 : -200 ≤ n) : ∀ (x : Nat) (p : List Int), (∀ k, k < p.length → -100000 ≤ at_ p k ∧ at_ p k ≤ 100000) → p.length ≤ 7 → (∀ k, k < (shiftI p n).length → -100000 ≤ at_ (shiftI p n) k ∧ at_ (shiftI p n) k ≤ 100000) → x ≤ 200 → n + (x : Int) ≤ 206 →
    evalI (shiftI p n) (x : Int) = evalI p (n + (x : Int))
  | 0, p, hp, h7, hs, hx, hn => by
    have e := eval_zero hs (by rw [shiftI_length]; exact h7)
    show evalI (shiftI p n) 0 = evalI p (n + 0)
    rw [e, Int.add_zero]
    rcases Nat.eq_zero_or_pos p.length with q | q
    · have : p = [] := List.eq_nil_of_length_eq_zero q
      subst this; rfl
    · rw [shiftI, at_gen q, List.drop_zero]
  | x + 1, p, hp, h7, hs, hx, hn => by
    have i1 := shift_eval h0 x p hp h7 hs (by omega) (by omega)
    have hs' : ∀ k, k < (shiftI (p.drop 1) n).length → -100000 ≤ at_ (shiftI (p.drop 1) n) k ∧ at_ (shiftI (p.drop 1) n) k ≤ 100000 := by
      rw [← shift_drop]
      exact poly_drop hs 1
    have i2 := shift_eval h0 x (p.drop 1) (poly_drop hp 1) (by rw [List.length_drop]; omega) hs' (by omega) (by omega)
    have a := eval_next hs (by rw [shiftI_length]; exact h7) (n := (x : Int)) (by omega) (by omega)
    have b := eval_next hp h7 (n := n + (x : Int)) (by omega) (by omega)
    rw [shift_drop] at a
    rw [show ((x + 1 : Nat) : Int) = (x : Int) + 1 by omega, a, i1, i2, ← b]
    congr 1
    omega
theorem sg_fits {x : Int} {k : Nat} (hk : 1 ≤ k) : fits (sg (colOf x k)) k = true := by
  have hT := ten_half hk
  have hl := md_lt x (ten_pos k)
  have hcv := cv_colOf x k
  have hs := colOf_size x k
  refine inB_true.2 ?_
  unfold sg
  rw [hs, hcv]
  split <;> omega
theorem sg_iff {x : Int} {k : Nat} (hk : 1 ≤ k) : sg (colOf x k) = x ↔ fits x k = true :=
  ⟨fun h => by rw [← h]; exact sg_fits hk, fun h => sg_colOf hk h⟩
/-- The law's facts. -/
theorem step_law {p : List Int} {a k : Int} {m : Nat} (h : seOk p a (m : Int) k = true) (ha : -9223372036854775808 ≤ a ∧ a ≤ 9223372036854775807) :
    (1 ≤ m ∧ m ≤ 10) ∧ (1 ≤ k ∧ k ≤ 12) ∧ (seL p a (m : Int) k).length = m ∧ allOk (seL p a (m : Int) k) = true ∧
    ∀ j : Nat, j < 25 → a + (j : Int) ≤ 200 → stepV (seL p a (m : Int) k) j = sg (colOf (evalI p (a + (j : Int))) k.toNat) := by
  have h' := h
  simp only [seOk, Bool.and_eq_true] at h'
  have hm := inB_true.1 h'.1
  have hall := allAt_true.1 h'.2
  have hmn : ((m : Int)).toNat = m := by omega
  rw [hmn] at hall
  have hl : seL p a (m : Int) k = genE (seE p a (m : Int) k) m := by simp [seL, h]
  have hat : ∀ i, i < m → shiftOk p (wrap64 (a + (i : Int))) = true ∧ stepOk (seS p a i) (m : Int) = true ∧ setOk (seP p a (m : Int) i) 0 k = true := by
    intro i hi
    have := hall i hi
    simp only [seOkAt, Bool.and_eq_true] at this
    exact ⟨this.1.1, this.1.2, this.2⟩
  have hr : ∀ i, i < m → (-200 ≤ a + (i : Int) ∧ a + (i : Int) ≤ 200) ∧ wrap64 (a + (i : Int)) = a + (i : Int) ∧ polyOk p = true ∧ polyOk (shiftI p (a + (i : Int))) = true ∧ seS p a i = shiftI p (a + (i : Int)) := by
    have ar : ∀ n, shiftOk p n = true → argOk p n = true := by
      intro n hn
      cases hq : argOk p n
      · rw [(shift_no hq).1] at hn; cases hn
      · rfl
    have h0 := (argOk_true.1 (ar _ (hat 0 (by omega)).1)).2
    have e0 : wrap64 (a + ((0 : Nat) : Int)) = a := by rw [show a + ((0 : Nat) : Int) = a by omega]; exact IntWalk.wrap64_in _ ha
    rw [e0] at h0
    intro i hi
    have e1 : wrap64 (a + (i : Int)) = a + (i : Int) := IntWalk.wrap64_in _ (by omega)
    have hs := (hat i hi).1
    rw [e1] at hs
    have hag := ar _ hs
    obtain ⟨y1, y2⟩ := shift_yes hag
    obtain ⟨hp, b⟩ := argOk_true.1 hag
    have hpo : polyOk (shiftI p (a + (i : Int))) = true := by rw [← y1]; exact hs
    refine ⟨b, e1, hp, hpo, ?_⟩
    show shiftL p (wrap64 (a + (i : Int))) = _
    rw [e1, y2, chkL_yes hpo]
  have hk := (set_raw (hat 0 (by omega)).2.2).2.1
  refine ⟨by omega, hk, by rw [hl, genE_length], ?_, ?_⟩
  · rw [hl]
    refine allOk_true.2 ⟨by rw [genE_length]; omega, by rw [genE_length]; omega, fun i hi => ?_⟩
    rw [genE_length] at hi
    rw [eat_genE hi]
    exact setE_ok (hat i hi).2.2
  · intro j hj hja
    have hi : j % m < m := Nat.mod_lt _ (by omega)
    have hdm : m * (j / m) + j % m = j := Nat.div_add_mod j m
    obtain ⟨b, e1, hp, hpo, e2⟩ := hr (j % m) hi
    obtain ⟨o1, o2, o3⟩ := hat (j % m) hi
    rw [e2] at o2
    have hq : polyOk (stepsI (shiftI p (a + ((j % m : Nat) : Int))) (m : Int)) = true ∧ seP p a (m : Int) (j % m) = stepsI (shiftI p (a + ((j % m : Nat) : Int))) (m : Int) := by
      obtain ⟨z1, z2⟩ := stepArg_yes (m := (m : Int)) hpo hm
      rw [z1] at o2
      refine ⟨o2, ?_⟩
      show stepL (seS p a (j % m)) (m : Int) = _
      rw [e2, z2, chkL_yes o2]
    obtain ⟨hq1, hq2⟩ := hq
    unfold stepV
    rw [hl, genE_length, eat_genE hi]
    show sg (sat (turnN (setE (seP p a (m : Int) (j % m)) 0 k) (j / m)) 0) = _
    have hmt : m * (j / m) ≤ 24 := by omega
    have htj : j / m ≤ 24 := Nat.le_trans (Nat.div_le_self j m) (by omega)
    obtain ⟨q1, -, -⟩ := polyOk_true.1 hq1
    rw [set_turns o3 (by omega), hq2, rawE_at (by omega), List.drop_zero, Int.zero_add, steps_eval (by omega) (by omega) hpo hq1 hmt]
    have hcast : ((m * (j / m) : Nat) : Int) = (m : Int) * ((j / m : Nat) : Int) := Int.natCast_mul _ _
    rw [← hcast]
    obtain ⟨-, p7, hb⟩ := polyOk_true.1 hp
    obtain ⟨-, -, hbs⟩ := polyOk_true.1 hpo
    rw [shift_eval b.1 _ p hb p7 hbs (by omega) (by omega)]
    congr 3
    omega

end Go.Proofs.Yteemhhgioljmaaa

/-
  The law FnStepEngines, walked.
-/
namespace Go.Proofs.Yteemhhgioljmaaa
open Go.RowKit
set_option linter.unusedVariables false
set_option linter.unusedSimpArgs false
set_option maxRecDepth 100000
attribute [local go_sem ↓] Go.wp_at_zero Go.wp_at_succ

theorem half_mono {j k : Nat} (h : j ≤ k) : half j ≤ half k := by
  unfold half
  exact Nat.div_le_div_right (Nat.pow_le_pow_right (by omega) h)
theorem fits_mono {n : Int} {j k : Nat} (h : j ≤ k) (hf : fits n j = true) : fits n k = true := by
  have := half_mono h
  have := inB_true.1 hf
  exact inB_true.2 (by omega)
/-- The least width that fits. -/
def WidthIs (n W : Int) : Prop := (W = 0 ∧ ∀ j : Nat, 1 ≤ j → j ≤ 12 → fits n j = false) ∨ ∃ w : Nat, W = w ∧ 1 ≤ w ∧ w ≤ 12 ∧ fits n w = true ∧ ∀ j : Nat, 1 ≤ j → j < w → fits n j = false
theorem width_law {n W : Int} {k : Nat} (h : WidthIs n W) (h1 : 1 ≤ k) (h2 : k ≤ 12) : (decide (0 < W) && decide (W ≤ (k : Int))) = fits n k := by
  rcases h with ⟨rfl, h⟩ | ⟨w, rfl, w1, w2, hf, hn⟩
  · rw [h k h1 h2]; rfl
  · by_cases q : w ≤ k
    · rw [fits_mono q hf]; simp; omega
    · rw [hn k h1 (by omega)]; simp; omega
set_option maxHeartbeats 1000000 in
theorem widthFor_any (n : Int) (w : World) (hn : -9223372036854775808 ≤ n ∧ n ≤ 9223372036854775807) :
    Calls Try.prog 46 #[.int .i64 n] w fun e w' => ∃ W : Int, e = .returned (.int .i64 W) ∧ WidthIs n W ∧ (0 ≤ W ∧ W ≤ 12) ∧ Below w.heap.size w w' := by
  go_enter Try.func46, Try.ntmps46
  go_wp2_with fail
  go_loopw [3] (fun i wr => ∃ k : Nat, 1 ≤ k ∧ k ≤ 13 ∧ i = .int .i64 k ∧ (∀ j : Nat, 1 ≤ j → j < k → fits n j = false) ∧ Below w.heap.size w wr) (fun i _ => 13 - (intOf i).toNat)
  case atStart => exact ⟨1, Nat.le_refl _, by omega, rfl, fun j h1 h2 => absurd h2 (by omega), Below.refl _ _⟩
  case round =>
    obtain ⟨k, h1, h13, rfl, hno, hb⟩ := hrel
    have H := Lib.hid (And.intro hno hb)
    clear hno hb
    by_cases hlt : k < 13
    · go_wp2_with fail
      refine (implColOf_any n k _ hn).mono ?_
      rintro e w2 ⟨rfl, b2⟩
      have HB := Lib.hid (bel_trans H.out.2 b2)
      have hco := colOfOk_nat n (show 1 ≤ k ∧ k ≤ 12 by omega)
      rw [hco]
      clear b2 hco
      cases hf : fits n k
      · have HF := Lib.hid hf
        clear hf
        go_wp2
        go_roundw
        case rel => exact ⟨k + 1, by omega, by omega, by go_num, fun j q1 q2 => by
          by_cases e : j = k
          · subst e; exact HF.out
          · exact H.out.1 j q1 (by omega), HB.out⟩
        case measure => simp [intOf]; omega
      · have HF := Lib.hid hf
        clear hf
        go_wp2
        go_ret
        exact ⟨k, rfl, .inr ⟨k, rfl, h1, by omega, HF.out, H.out.1⟩, by omega, HB.out⟩
    · go_wp2
      go_ret
      exact ⟨0, rfl, .inl ⟨rfl, fun j q1 q2 => H.out.1 j q1 (by omega)⟩, by omega, H.out.2⟩

set_option maxHeartbeats 8000000 in
theorem lawStepEnginesF (v u : Value) (code more : List Int) (w : World) (hv : Bytes w v code) (hu : Bytes w u more) :
    Calls Try.prog 9 #[v, u] w fun e w' => e = .returned (.bool true) ∧ Below w.heap.size w w' := by
  have HV := Lib.hid hv
  obtain ⟨A_c, c_c, rfl, -, hc1, -⟩ := hv.open_
  obtain ⟨A_m, c_m, rfl, hm1, hm2, -⟩ := hu.open_
  clear hv hu
  by_cases hbig : (1048576 : Int) < (code.length : Int)
  · go_enter Try.func9, Try.ntmps9
    go_wp2
    go_ret
    exact ⟨rfl, Below.refl _ _⟩
  · skip
    by_cases hbig2 : (1048576 : Int) < (more.length : Int)
    · go_enter Try.func9, Try.ntmps9
      go_wp2
      go_ret
      exact ⟨rfl, Below.refl _ _⟩
    · skip
      obtain ⟨c, hc⟩ : ∃ c : Nat, c = more.length % 25 := ⟨_, rfl⟩
      have hc25 : c < 25 := by rw [hc]; exact Nat.mod_lt _ (by omega)
      have r1 : (more.length : Int).tmod 25 = (c : Int) := by rw [hc, Int.tmod_eq_emod_of_nonneg (by omega)]; rfl
      have R1 := Lib.hid r1
      clear r1 hc
      go_enter Try.func9, Try.ntmps9
      go_wp2_with fail
      refine (drawSE_any _ code _ HV.out).mono ?_
      rintro e w0 ⟨vp, p, a, m, kk, rfl, hp, p8, ab, mb, kb, b⟩
      have HP := Lib.hid hp
      have HB := Lib.hid b
      clear b
      obtain ⟨Ap, cp, rfl, -, -, -⟩ := hp.open_
      clear hp
      go_wp2_with fail
      refine (implSE_any _ p a m kk _ HP.out ab (by omega)).mono ?_
      rintro e w1 ⟨q1, rfl, o1, b⟩
      replace HP := Lib.hid (HP.out.bel b)
      replace HB := Lib.hid (bel_trans HB.out b)
      have L1 := Lib.hid o1.engs
      obtain ⟨AL, cL, xs, rfl, -, -, -, -⟩ := o1.engs.open_
      clear b o1
      go_wp2_with fail
      refine (specSE_any _ p a m kk _ HP.out ab (by omega)).mono ?_
      rintro e w2 ⟨q2, rfl, o2, b⟩
      replace HP := Lib.hid (HP.out.bel b)
      replace HB := Lib.hid (bel_trans HB.out b)
      replace L1 := Lib.hid (L1.out.bel b)
      have L2 := Lib.hid o2
      obtain ⟨AW, cW, ys, rfl, -, -, -, -⟩ := o2.open_
      clear b o2
      cases hok : seOk p a m kk
      · have HO := Lib.hid hok
        clear hok
        go_wp2
        all_goals
          go_ret
          exact ⟨rfl, HB.out⟩
      · have hm10 : 1 ≤ m ∧ m ≤ 10 := by
          have h' := hok
          simp only [seOk, Bool.and_eq_true] at h'
          exact inB_true.1 h'.1
        obtain ⟨m, rfl⟩ : ∃ q : Nat, m = q := ⟨m.toNat, by omega⟩
        obtain ⟨-, hk12, hLl, hall, hsv⟩ := step_law hok ab
        obtain ⟨K, rfl⟩ : ∃ q : Nat, kk = q := ⟨kk.toNat, by omega⟩
        rw [Int.toNat_natCast] at hsv
        obtain ⟨L, hL⟩ : ∃ L, L = seL p a (m : Int) (K : Int) := ⟨_, rfl⟩
        rw [← hL] at L1 L2 hLl hall hsv ⊢
        subst hLl
        have HF := Lib.hid (And.intro hall hsv)
        clear hok hall hsv hL
        go_wp2_with fail
        go_loopw [13] (fun i wr => ∃ k : Nat, k ≤ L.length ∧ i = .int .i64 k ∧ Below w2.heap.size w2 wr) (fun i _ => L.length - (intOf i).toNat)
        case atStart => exact ⟨0, Nat.zero_le _, rfl, Below.refl _ _⟩
        case round =>
          obtain ⟨k, hk, rfl, hb⟩ := hrel
          have hz := hb.size
          by_cases hlt : k < L.length
          · obtain ⟨A', cc', xs', e', -, -, hrd, hst⟩ := L1.out.open_
            injection e' with q1 q2 q3
            subst q1 q3
            obtain ⟨b, o, rfl, hbb, hcell⟩ := hrd (by omega)
            have hsi := hst k hlt
            obtain ⟨Ai, ci, hxi, -, -, -⟩ := hsi.open_
            have di := hcell k hlt
            rw [hxi] at di hsi
            obtain ⟨A', cc', ys', e', -, -, hrd2, hst2⟩ := L2.out.open_
            injection e' with q1 q4 q3
            subst q1 q3
            obtain ⟨b2, o2, rfl, hbb2, hcell2⟩ := hrd2 (by omega)
            have hsj := hst2 k hlt
            obtain ⟨Aj, cj, hxj, -, -, -⟩ := hsj.open_
            have dj := hcell2 k hlt
            rw [hxj] at dj hsj
            have ci' : wr.cell? ⟨b, o + k, none⟩ = _ := (hb.cell (by exact hbb)).trans di
            have cj' : wr.cell? ⟨b2, o2 + k, none⟩ = _ := (hb.cell (by exact hbb2)).trans dj
            have HSI := Lib.hid (hsi.bel hb)
            have HSJ := Lib.hid (hsj.bel hb)
            have HBW := Lib.hid hb
            have y1 : b < wr.heap.size := by omega
            have y2 : b2 < wr.heap.size := by omega
            have tok1 : True := trivial
            clear hcell hcell2 hrd hrd2 hst hst2 hsi hsj di dj hxi hxj hb q2 q4
            go_wp2_with fail
            go_region_held3 (fun w' => w'.cell? ⟨b, o + k, none⟩ = some (.slice Ai (eat L k).length ci) ∧ w'.cell? ⟨b2, o2 + k, none⟩ = some (.slice Aj (eat L k).length cj)) (first | exact ⟨ci', cj'⟩ | exact ⟨(B7.out.cell (by exact y1)).trans ci', (B7.out.cell (by exact y2)).trans cj'⟩ | go_keep) (first
              | ((try go_simp); go_at_call 41; have _t := tok1; go_loud (refine (deSame_any (.slice Ai (eat L k).length ci) (.slice Aj (eat L k).length cj) (eat L k) (eat L k) _ (by first | exact HSI.out | exact HSI.out.bel ((Below.refl _ _).drew)) (by first | exact HSJ.out | exact HSJ.out.bel ((Below.refl _ _).drew))).mono ?_; rw [show eqS (eat L k) (eat L k) = true from eqS_self _]; rintro e w7 ⟨rfl, b7⟩; have B7 := Lib.hid (show Below wr.heap.size wr w7 from (by first | exact b7 | exact bel_trans ((Below.refl _ _).drew) b7)); clear tok1 b7; (try dsimp only)))
              | fail)
            all_goals
              have HX := Lib.hid (bel_trans HBW.out B7.out)
              clear ci' cj'
              go_wp2
              go_roundw
              case rel => exact ⟨k + 1, by omega, by go_num, HX.out⟩
              case measure => simp [intOf]; omega
          · have HB2 := Lib.hid (bel_trans HB.out hb)
            have L3 := Lib.hid (L1.out.bel hb)
            have P3 := Lib.hid (HP.out.bel hb)
            clear hb
            have r1 := R1.out
            go_wp2_with fail
            clear r1
            refine (implValues_any _ p a (c : Int) _ P3.out ab (by omega)).mono ?_
            rintro e w5 ⟨r5, rfl, o5, b⟩
            replace HB2 := Lib.hid (bel_trans HB2.out b)
            replace L3 := Lib.hid (L3.out.bel b)
            have V5 := Lib.hid o5.ints
            obtain ⟨A5, c5, rfl, -, -, -⟩ := o5.ints.open_
            clear b o5
            obtain ⟨vl, n, hvl, hn, hat, hfn⟩ : ∃ (vl : List Int) (n : Nat), valL p a (c : Int) = vl ∧ vl.length = n ∧ (∀ j : Nat, j < n → at_ vl j = evalI p (a + (j : Int)) ∧ a + (j : Int) ≤ 200 ∧ n = c) ∧ (valOk p a (c : Int) = true → n = c) := by
              cases hvo : valOk p a (c : Int)
              · have e0 : valL p a (c : Int) = [] := by simp [valL, hvo]
                exact ⟨_, _, rfl, rfl, fun j hj => by rw [e0] at hj; exact absurd hj (by simp), fun h => absurd h (by simp)⟩
              · have e0 := val_yes hvo
                have hlen : (valL p a (c : Int)).length = c := by rw [e0, gen_length]
                have := valOk_true.1 hvo
                exact ⟨_, _, rfl, rfl, fun j hj => by rw [hlen] at hj; exact ⟨by rw [e0, at_gen hj], by omega, hlen⟩, fun _ => hlen⟩
            rw [hvl, hn] at V5 ⊢
            have HAT := Lib.hid (And.intro hat (And.intro hfn hn))
            obtain ⟨vo, hvo⟩ : ∃ vo, vo = valOk p a (c : Int) := ⟨_, rfl⟩
            have HVO := Lib.hid hvo
            rw [← hvo]
            clear hat hfn hn hvl hvo
            go_wp2_with fail
            refine (implSteps_any _ L (c : Int) _ L3.out).mono ?_
            rintro e w6 ⟨r6, rfl, o6, b⟩
            have hin : inB (c : Int) 0 60 = true := inB_true.2 (by omega)
            obtain ⟨e1, e2⟩ := rs_yes HF.out.1 hin
            replace HB2 := Lib.hid (bel_trans HB2.out b)
            replace V5 := Lib.hid (V5.out.bel b)
            obtain ⟨rl, hrl, hrn, hra⟩ : ∃ rl : List Int, rsL L (c : Int) = rl ∧ rl.length = c ∧ ∀ j, j < c → at_ rl j = stepV L j := ⟨_, e2, gen_length _ _, fun j hj => at_gen hj⟩
            have V6 := o6.ints
            obtain ⟨A6, c6, rfl, -, -, -⟩ := o6.ints.open_
            rw [hrl, hrn] at V6 ⊢
            rw [e1]
            replace V6 := Lib.hid V6
            have HRA := Lib.hid (And.intro hra hrn)
            clear b o6 e1 e2 hin hrl hra hrn
            go_wp2_with fail
            go_loopw [19] (fun i wr2 => ∃ k2 : Nat, k2 ≤ n ∧ i = .int .i64 k2 ∧ Below w6.heap.size w6 wr2) (fun i _ => n - (intOf i).toNat)
            case atStart => exact ⟨0, Nat.zero_le _, rfl, Below.refl _ _⟩
            case round =>
              obtain ⟨k2, hk2, rfl, hb2⟩ := hrel
              have hz2 := hb2.size
              by_cases hlt2 : k2 < n
              · obtain ⟨hx1, hx2, hx3⟩ := HAT.out.1 k2 hlt2
                obtain ⟨A', cc', e', -, -, hrd5⟩ := V5.out.open_
                injection e' with q1 q2 q3
                subst q1 q3
                obtain ⟨b5, o5, rfl, hbb5, hcell5⟩ := hrd5.ints (by rw [HAT.out.2.2]; omega)
                have d5 := hcell5 k2 (by rw [HAT.out.2.2]; omega)
                have hxb := V5.out.2 _ (at_mem vl k2 (by rw [HAT.out.2.2]; omega))
                obtain ⟨x, hx⟩ : ∃ x, x = at_ vl k2 := ⟨_, rfl⟩
                rw [← hx] at d5 hxb hx1
                obtain ⟨A', cc', e', -, -, hrd6⟩ := V6.out.open_
                injection e' with q1 q4 q3
                subst q1 q3
                obtain ⟨b6, o6, rfl, hbb6, hcell6⟩ := hrd6.ints (by rw [HRA.out.2]; omega)
                have d6 := hcell6 k2 (by rw [HRA.out.2]; omega)
                rw [HRA.out.1 k2 (by omega), HF.out.2 k2 (by omega) hx2, ← hx1] at d6
                have DD := Lib.hid (And.intro d5 d6)
                have c5' := (hb2.cell (by exact hbb5)).trans d5
                have HBW := Lib.hid hb2
                have hk2c : k2 < c := by omega
                clear hcell5 hcell6 hrd5 hrd6 d5 d6 hx hx1 hb2 q2 q4 hx3
                go_wp2_with fail
                refine (widthFor_any x _ hxb).mono ?_
                rintro e w7 ⟨W, rfl, hW, hWb, b7⟩
                have HX := Lib.hid (bel_trans HBW.out b7)
                have c5w : w7.cell? ⟨b5, o5 + k2, none⟩ = some (.int .i64 x) := (HX.out.cell (by exact hbb5)).trans DD.out.1
                have c6w : w7.cell? ⟨b6, o6 + k2, none⟩ = some (.int .i64 (sg (colOf x K))) := (HX.out.cell (by exact hbb6)).trans DD.out.2
                have hwl := width_law hW (show 1 ≤ K by omega) (show K ≤ 12 by omega)
                clear c5' b7 hW
                cases hft : fits x K
                · have hsx : ¬ sg (colOf x K) = x := fun h => by rw [(sg_iff (by omega)).1 h] at hft; cases hft
                  have hbe : (sg (colOf x K) == x) = false := by simp [hsx]
                  rw [hft] at hwl
                  by_cases g1 : 0 < W
                  · have g2 : ¬ W ≤ (K : Int) := by intro h; simp [g1, h] at hwl
                    clear hwl hft
                    go_wp2_with fail
                    go_region_held3 (fun w' => w'.cell? ⟨b5, o5 + k2, none⟩ = some (.int .i64 x) ∧ w'.cell? ⟨b6, o6 + k2, none⟩ = some (.int .i64 (sg (colOf x K)))) (first | exact ⟨c5w, c6w⟩ | go_keep) (first | fail)
                    all_goals
                      clear c5w c6w
                      go_wp2
                      go_roundw
                      case rel => exact ⟨k2 + 1, by omega, by go_num, by first | exact HX.out | exact bel_trans HX.out ((Below.refl _ _).drew)⟩
                      case measure => simp [intOf]; omega
                  · obtain rfl : W = 0 := by omega
                    clear hwl hft
                    go_wp2_with fail
                    refine wp_region_held_drew (S := (fun w' => w'.cell? ⟨b5, o5 + k2, none⟩ = some (.int .i64 x) ∧ w'.cell? ⟨b6, o6 + k2, none⟩ = some (.int .i64 (sg (colOf x K))))) (by kernel_rfl) ?_ (fun hHeld => ?_)
                    · exact ⟨c5w, c6w⟩
                    refine wpAnyH_take (i := 0) (v := ?v0) rfl (by kernel_rfl) (by kernel_rfl) (by kernel_rfl) (fun _ _ _ h => h) (Or.inl ⟨by kernel_rfl, ?hy0⟩) (by assumption) ?rest0
                    case hy0 => (intro w' hSw; (try dsimp only at hSw); go_simp; all_goals with_reducible rfl)
                    try simp only [List.getElem_toArray, List.getElem_cons_succ, List.getElem_cons_zero, Act.put, List.setIfInBounds_toArray, List.set_cons_zero, List.set_cons_succ]
                    refine wpAnyH_take (i := 1) (v := ?v1) rfl (by kernel_rfl) (by kernel_rfl) (by kernel_rfl) (fun _ _ _ h => h) (Or.inl ⟨by kernel_rfl, ?hy1⟩) (by assumption) ?rest1
                    case hy1 => (intro w' hSw; (try dsimp only at hSw); go_simp; all_goals with_reducible rfl)
                    try simp only [List.getElem_toArray, List.getElem_cons_succ, List.getElem_cons_zero, Act.put, List.setIfInBounds_toArray, List.set_cons_zero, List.set_cons_succ]
                    refine wpAnyH_take (i := 2) (v := ?v2) rfl (by kernel_rfl) (by kernel_rfl) (by kernel_rfl) (fun _ _ _ h => h) (Or.inl ⟨by kernel_rfl, ?hy2⟩) (by assumption) ?rest2
                    case hy2 => (intro w' hSw; (try dsimp only at hSw); go_simp; all_goals with_reducible rfl)
                    try simp only [List.getElem_toArray, List.getElem_cons_succ, List.getElem_cons_zero, Act.put, List.setIfInBounds_toArray, List.set_cons_zero, List.set_cons_succ]
                    refine wpAnyH_take (i := 3) (v := ?v3) rfl (by kernel_rfl) (by kernel_rfl) (by kernel_rfl) (fun _ _ _ h => h) (Or.inl ⟨by kernel_rfl, ?hy3⟩) (by assumption) ?rest3
                    case hy3 => (intro w' hSw; (try dsimp only at hSw); go_simp; all_goals with_reducible rfl)
                    try simp only [List.getElem_toArray, List.getElem_cons_succ, List.getElem_cons_zero, Act.put, List.setIfInBounds_toArray, List.set_cons_zero, List.set_cons_succ]
                    refine wpAnyH_take (i := 4) (v := ?v4) rfl (by kernel_rfl) (by kernel_rfl) (by kernel_rfl) (fun _ _ _ h => h) (Or.inl ⟨by kernel_rfl, ?hy4⟩) (by assumption) ?rest4
                    case hy4 => (intro w' hSw; (try dsimp only at hSw); go_simp; all_goals with_reducible rfl)
                    try simp only [List.getElem_toArray, List.getElem_cons_succ, List.getElem_cons_zero, Act.put, List.setIfInBounds_toArray, List.set_cons_zero, List.set_cons_succ]
                    refine wpAnyH_take (i := 5) (v := ?v5) rfl (by kernel_rfl) (by kernel_rfl) (by kernel_rfl) (fun _ _ _ h => h) (Or.inl ⟨by kernel_rfl, ?hy5⟩) (by assumption) ?rest5
                    case hy5 => (intro w' hSw; (try dsimp only at hSw); go_simp; all_goals with_reducible rfl)
                    try simp only [List.getElem_toArray, List.getElem_cons_succ, List.getElem_cons_zero, Act.put, List.setIfInBounds_toArray, List.set_cons_zero, List.set_cons_succ]
                    refine wpAnyH_take (i := 6) (v := ?v6) rfl (by kernel_rfl) (by kernel_rfl) (by kernel_rfl) (fun _ _ _ h => h) (Or.inl ⟨by kernel_rfl, ?hy6⟩) (by assumption) ?rest6
                    case hy6 => (intro w' hSw; (try dsimp only at hSw); go_simp; all_goals with_reducible rfl)
                    try simp only [List.getElem_toArray, List.getElem_cons_succ, List.getElem_cons_zero, Act.put, List.setIfInBounds_toArray, List.set_cons_zero, List.set_cons_succ]
                    refine wpAnyH_take (i := 7) (v := ?v7) rfl (by kernel_rfl) (by kernel_rfl) (by kernel_rfl) (fun _ _ _ h => h) (Or.inl ⟨by kernel_rfl, ?hy7⟩) (by assumption) ?rest7
                    case hy7 => (intro w' hSw; (try dsimp only at hSw); go_simp; all_goals with_reducible rfl)
                    try simp only [List.getElem_toArray, List.getElem_cons_succ, List.getElem_cons_zero, Act.put, List.setIfInBounds_toArray, List.set_cons_zero, List.set_cons_succ]
                    refine wpAnyH_take (i := 8) (v := ?v8) rfl (by kernel_rfl) (by kernel_rfl) (by kernel_rfl) (fun _ _ _ h => h) (Or.inl ⟨by kernel_rfl, ?hy8⟩) (by assumption) ?rest8
                    case hy8 => (intro w' hSw; (try dsimp only at hSw); go_simp; all_goals with_reducible rfl)
                    try simp only [List.getElem_toArray, List.getElem_cons_succ, List.getElem_cons_zero, Act.put, List.setIfInBounds_toArray, List.set_cons_zero, List.set_cons_succ]
                    refine wpAnyH_take (i := 9) (v := ?v9) rfl (by kernel_rfl) (by kernel_rfl) (by kernel_rfl) (fun _ _ _ h => h) (Or.inl ⟨by kernel_rfl, ?hy9⟩) (by assumption) ?rest9
                    case hy9 => (intro w' hSw; (try dsimp only at hSw); go_simp; all_goals with_reducible rfl)
                    try simp only [List.getElem_toArray, List.getElem_cons_succ, List.getElem_cons_zero, Act.put, List.setIfInBounds_toArray, List.set_cons_zero, List.set_cons_succ]
                    refine wpAnyH_take (i := 10) (v := ?v10) rfl (by kernel_rfl) (by kernel_rfl) (by kernel_rfl) (fun _ _ _ h => h) (Or.inl ⟨by kernel_rfl, ?hy10⟩) (by assumption) ?rest10
                    case hy10 => (intro w' hSw; (try dsimp only at hSw); go_simp; all_goals with_reducible rfl)
                    try simp only [List.getElem_toArray, List.getElem_cons_succ, List.getElem_cons_zero, Act.put, List.setIfInBounds_toArray, List.set_cons_zero, List.set_cons_succ]
                    refine wpAnyH_take (i := 11) (v := ?v11) rfl (by kernel_rfl) (by kernel_rfl) (by kernel_rfl) (fun _ _ _ h => h) (Or.inl ⟨by kernel_rfl, ?hy11⟩) (by assumption) ?rest11
                    case hy11 => (intro w' hSw; (try dsimp only at hSw); go_simp; all_goals with_reducible rfl)
                    try simp only [List.getElem_toArray, List.getElem_cons_succ, List.getElem_cons_zero, Act.put, List.setIfInBounds_toArray, List.set_cons_zero, List.set_cons_succ]
                    refine wpAnyH_take (i := 12) (v := undef) rfl (by kernel_rfl) (by kernel_rfl) (by kernel_rfl) (fun _ _ _ h => h) (Or.inr ⟨by kernel_rfl, rfl⟩) (by assumption) ?_
                    try simp only [List.getElem_toArray, List.getElem_cons_succ, List.getElem_cons_zero, Act.put, List.setIfInBounds_toArray, List.set_cons_zero, List.set_cons_succ]
                    refine wpAnyH_take (i := 13) (v := undef) rfl (by kernel_rfl) (by kernel_rfl) (by kernel_rfl) (fun _ _ _ h => h) (Or.inr ⟨by kernel_rfl, rfl⟩) (by assumption) ?_
                    try simp only [List.getElem_toArray, List.getElem_cons_succ, List.getElem_cons_zero, Act.put, List.setIfInBounds_toArray, List.set_cons_zero, List.set_cons_succ]
                    refine wpAnyH_take (i := 14) (v := undef) rfl (by kernel_rfl) (by kernel_rfl) (by kernel_rfl) (fun _ _ _ h => h) (Or.inr ⟨by kernel_rfl, rfl⟩) (by assumption) ?_
                    try simp only [List.getElem_toArray, List.getElem_cons_succ, List.getElem_cons_zero, Act.put, List.setIfInBounds_toArray, List.set_cons_zero, List.set_cons_succ]
                    refine wpAnyH_take (i := 15) (v := ?v15) rfl (by kernel_rfl) (by kernel_rfl) (by kernel_rfl) (fun _ _ _ h => h) (Or.inl ⟨by kernel_rfl, ?hy15⟩) (by assumption) ?rest15
                    case hy15 => (intro w' hSw; (try dsimp only at hSw); go_simp; all_goals with_reducible rfl)
                    try simp only [List.getElem_toArray, List.getElem_cons_succ, List.getElem_cons_zero, Act.put, List.setIfInBounds_toArray, List.set_cons_zero, List.set_cons_succ]
                    refine wpAnyH_take (i := 16) (v := ?v16) rfl (by kernel_rfl) (by kernel_rfl) (by kernel_rfl) (fun _ _ _ h => h) (Or.inl ⟨by kernel_rfl, ?hy16⟩) (by assumption) ?rest16
                    case hy16 => (intro w' hSw; (try dsimp only at hSw); go_simp; all_goals with_reducible rfl)
                    try simp only [List.getElem_toArray, List.getElem_cons_succ, List.getElem_cons_zero, Act.put, List.setIfInBounds_toArray, List.set_cons_zero, List.set_cons_succ]
                    refine wpAnyH_done (by kernel_rfl) ?_ _
                    (try simp only [List.getElem_toArray, List.getElem_cons_succ, List.getElem_cons_zero, Act.put, List.setIfInBounds_toArray, List.set_cons_zero, List.set_cons_succ])
                    clear hHeld c5w c6w hbe hsx hWb
                    all_goals
                      go_wp2
                      go_roundw
                      case rel => exact ⟨k2 + 1, by omega, by go_num, by first | exact HX.out | exact bel_trans HX.out ((Below.refl _ _).drew)⟩
                      case measure => simp [intOf]; omega
                · have hsx : sg (colOf x K) = x := (sg_iff (by omega)).2 hft
                  rw [hft] at hwl
                  have g1 : 0 < W ∧ W ≤ (K : Int) := by simpa using hwl
                  obtain ⟨g1, g2⟩ := g1
                  rw [hsx] at c6w
                  clear hwl hft hsx
                  go_wp2_with fail
                  go_region_held3 (fun w' => w'.cell? ⟨b5, o5 + k2, none⟩ = some (.int .i64 x) ∧ w'.cell? ⟨b6, o6 + k2, none⟩ = some (.int .i64 x)) (first | exact ⟨c5w, c6w⟩ | go_keep) (first | fail)
                  all_goals
                    clear c5w c6w
                    go_wp2
                    go_roundw
                    case rel => exact ⟨k2 + 1, by omega, by go_num, by first | exact HX.out | exact bel_trans HX.out ((Below.refl _ _).drew)⟩
                    case measure => simp [intOf]; omega
              · have hkn : k2 = n := by omega
                subst hkn
                have HX := Lib.hid (bel_trans HB2.out hb2)
                clear hb2
                cases hvv : vo
                · subst hvv
                  go_wp2
                  go_ret
                  exact ⟨rfl, HX.out⟩
                · subst hvv
                  have hnc : k2 = c := HAT.out.2.1 HVO.out.symm
                  subst hnc
                  go_wp2
                  go_ret
                  exact ⟨rfl, HX.out⟩
theorem lawStepEnginesG (v : Value) (code : List Int) (u : Value) (more : List Int) (w : World) (hv : Bytes w v code) (hu : Bytes w u more) :
    Calls Try.prog 9 #[v, u] w fun e w' => e = .returned (.bool true) ∧ Below w.heap.size w w' := lawStepEnginesF v u code more w hv hu

end Go.Proofs.Yteemhhgioljmaaa
