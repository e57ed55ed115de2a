import Derived.Test.YteemhhgioljmaaaDrawB
import Derived.Test.YteemhhgioljmaaaDrawE
import Derived.Test.YteemhhgioljmaaaJob
import Derived.Test.YteemhhgioljmaaaDrawG
import Derived.Test.YteemhhgioljmaaaEngsF
import Derived.Test.YteemhhgioljmaaaTotDraw
import Derived.Test.YteemhhgioljmaaaSetUp
import Derived.Test.YteemhhgioljmaaaPartE
import Derived.Test.YteemhhgioljmaaaSame
import Derived.Test.YteemhhgioljmaaaResult
import Derived.Test.YteemhhgioljmaaaInter
import Derived.Deep.RegionHeld3
/-
  Drawn tables that may break the rules, and the two readers that draw them.
-/
namespace Go.Proofs.Yteemhhgioljmaaa
open Go.RowKit
set_option linter.unusedVariables false
set_option maxRecDepth 100000

/-- A drawn list which is only read. -/
def DrawnRead (g : Nat) (u : Value) (w w0 : World) (hi : Nat) (e : Ending) (w' : World) : Prop :=
  ∃ v l, e = .returned v ∧ Ints w' v l ∧ l.length ≤ hi ∧ w.grownBy w' (some g) ∧ Keeps g u w0 w'
theorem pick_k {w : World} {g K : Nat} {v : Value} {l : List Int} {W : World} (n : Int) (h : St w g K v l W) (hK : K ≤ 1000000000) (hn : 1 ≤ n ∧ n ≤ 9223372036854775807) :
    Calls Try.prog 83 #[.pointer (some ⟨g, 0, none⟩), .int .i64 n] W (fun e W' => ∃ m : Int, e = .returned (.int .i64 m) ∧ 0 ≤ m ∧ m < n ∧ St w g (K + 1) v l W' ∧ W.grownBy W' (some g)) :=
  (pick_any g K n W h.rdr hK (by omega)).mono fun e W' ⟨m, he, hm, _, hr, hg⟩ => ⟨m, he, (hm hn.1).1, (hm hn.1).2, h.grown hg hr, hg⟩
theorem num_k {w : World} {g K : Nat} {v : Value} {l : List Int} {W : World} (u : Value) (m : List Int) (h : St w g K v l W) (hK : K ≤ 1000000000) (hu : Ints W u m) (hm : 0 < m.length) (hne : ∀ a n c, u = .slice (some a) n c → 0 < m.length → a.block ≠ g) :
    Calls Try.prog 102 #[.pointer (some ⟨g, 0, none⟩), u] W (fun e W' => ∃ x : Int, e = .returned (.int .i64 x) ∧ x ∈ m ∧ St w g (K + 1) v l W' ∧ W.grownBy W' (some g)) :=
  (num_any g K u m W h.rdr hK hu hm hne).mono fun e W' ⟨x, he, hx, hr, hg⟩ => ⟨x, he, hx, h.grown hg hr, hg⟩

theorem zeros_own (W : World) (base n : Nat) (hb : base ≤ W.heap.size) (hn : n ≤ 61) :
    Own (W.alloc (.cells (reps n (.int .i64 0)).toArray 3)) base (.slice (some ⟨W.heap.size, 0, none⟩) n n) (List.replicate n 0) := by
  have hl : (List.replicate n (0 : Int)).length = n := List.length_replicate
  have := Own.mk' (base := base) (cap := n) (cs := reps n (.int .i64 0)) (l := List.replicate n 0) hb (Blk.new W 3 _) (by rw [hl]; exact Nat.le_refl _) (by omega) (reps_length _ _) (fun j hj => by
    rw [hl] at hj
    rw [reps_get _ hj]
    simp [at_, hj]) (fun x hx => by rw [List.eq_of_mem_replicate hx]; omega)
  rw [hl] at this
  exact this

/-- A drawn list. -/
def DrawnOne (w : World) (hi : Nat) (e : Ending) (w' : World) : Prop :=
  ∃ v l, e = .returned v ∧ Ints w' v l ∧ l.length ≤ hi ∧ Below w.heap.size w w'



end Go.Proofs.Yteemhhgioljmaaa

/-
  What the laws of jobs draw: polynomials that may break the rules, arguments, widths, layouts.
-/
namespace Go.Proofs.Yteemhhgioljmaaa
open Go.RowKit
set_option linter.unusedVariables false
set_option linter.unusedSimpArgs false
set_option maxRecDepth 100000
attribute [local go_sem ↓] Go.wp_at_zero Go.wp_at_succ

theorem St.row {w : World} {g K b n cap : Nat} {l : List Int} {W : World} (h : St w g K (.slice (some ⟨b, 0, none⟩) n cap) l W) : ∃ cs, Blk W b 3 cs ∧ cs.length = cap ∧ l.length ≤ cap ∧ cap ≤ 9223372036854775807 ∧ w.heap.size ≤ b ∧ n = l.length ∧ ∀ j, j < l.length → cs[j]? = some (.int .i64 (at_ l j)) := by
  rcases h.own.form with ⟨q, _⟩ | ⟨b', cap', cs, e, hb', hbl, h1, h2, hcl, h3⟩
  · cases q
  · injection e with e1 e2 e3
    injection e1 with e1
    injection e1 with e1
    subst e1 e2 e3
    exact ⟨cs, hbl, hcl, h1, h2, hb', rfl, h3⟩
theorem St.nil_ {w : World} {g K b n cap : Nat} {l : List Int} {W : World} (h : St w g K (.slice (some ⟨b, 0, none⟩) n cap) l W) : St w g K (.slice (some ⟨b, 0, none⟩) 0 cap) [] W := by
  obtain ⟨cs, hbl, hcl, h1, h2, hb, _, hc⟩ := h.row
  exact ⟨Own.mk' (l := []) hb hbl (Nat.zero_le _) h2 hcl (fun j hj => absurd hj (by simp)) (fun _ q => by simp at q), h.rdr, h.gr, h.lt⟩
theorem St.far {w : World} {g K : Nat} {v : Value} {l : List Int} {W : World} (h : St w g K v l W) (p : Addr) (u : Value) (hp : w.heap.size ≤ p.block) (hv : ∀ k, v.ownBlock = some k → k ≠ p.block) : St w g K v l (W.setCell p u) := by
  have hg := only_setCell (World.grownBy.refl W (some p.block)) (p := p) (.inl rfl) u
  have := h.lt
  exact ⟨⟨h.own.1.kept hg (by
    cases hq : v.ownBlock with
    | none => exact .inl rfl
    | some k => exact .inr fun e => hv k hq (by injection e)), h.own.2⟩, h.rdr.grown hg (fun k hk => by injection hk with hk; omega), grown_trans h.gr hg (fun j hj => .inr (by injection hj with hj; omega)), h.lt⟩

theorem St.setN {w : World} {g K b : Nat} {v : Value} {l : List Int} (hp : w.heap.size ≤ b) (hv : ∀ k, v.ownBlock = some k → k ≠ b) : ∀ (us : List Value) (W : World) (i : Nat), St w g K v l W → St w g K v l (setN W b i us)
  | [], _, _, h => h
  | u :: us, W, i, h => St.setN hp hv us _ _ (h.far ⟨b, i, none⟩ u hp hv)
/-- Blocks apart from the reader and from v's own row are kept. -/
def KeepB (g : Nat) (v : Value) (W : World) (v' : Value) (W' : World) : Prop :=
  W.heap.size ≤ W'.heap.size ∧ ∀ b t cs, Blk W b t cs → b ≠ g → v.ownBlock ≠ some b → Blk W' b t cs ∧ v'.ownBlock ≠ some b
theorem KeepB.refl (g : Nat) (v : Value) (W : World) : KeepB g v W v W := ⟨Nat.le_refl _, fun b t cs h _ h2 => ⟨h, h2⟩⟩
theorem KeepB.trans {g : Nat} {v v' v'' : Value} {a b c : World} (h : KeepB g v a v' b) (k : KeepB g v' b v'' c) : KeepB g v a v'' c :=
  ⟨Nat.le_trans h.1 k.1, fun q t cs h1 h2 h3 => k.2 q t cs (h.2 q t cs h1 h2 h3).1 h2 (h.2 q t cs h1 h2 h3).2⟩
theorem KeepB.grown {g : Nat} {v : Value} {W W' : World} (h : W.grownBy W' (some g)) : KeepB g v W v W' :=
  ⟨h.size, fun b t cs h1 h2 h3 => ⟨h1.grown h (fun e => by injection e with e; exact h2 e), h3⟩⟩
theorem KeepB.bel {g : Nat} {v : Value} {W W' : World} (h : Below W.heap.size W W') : KeepB g v W v W' :=
  ⟨h.size, fun b t cs h1 h2 h3 => ⟨h1.below h h1.lt, h3⟩⟩
theorem KeepB.app {g : Nat} {v v' : Value} {W W' : World} (h : W.grownBy W' v.ownBlock) (hv : v'.ownBlock = v.ownBlock ∨ v'.ownBlock = some W.heap.size) : KeepB g v W v' W' :=
  ⟨h.size, fun b t cs h1 h2 h3 => ⟨h1.grown h (fun e => h3 e.symm), by
    rcases hv with q | q
    · rw [q]; exact h3
    · rw [q]; intro e; injection e with e; have := h1.lt; omega⟩⟩
theorem KeepB.own {g : Nat} {v v' : Value} {W W' : World} (h : KeepB g v W v W') (hv : v'.ownBlock = v.ownBlock) : KeepB g v W v' W' :=
  ⟨h.1, fun b t cs h1 h2 h3 => ⟨(h.2 b t cs h1 h2 h3).1, by rw [hv]; exact h3⟩⟩

/-- A polynomial that may break the rules. -/
def DrawnBad (w : World) (g K' : Nat) (v0 : Value) (w0 : World) (e : Ending) (w' : World) : Prop :=
  ∃ v l, e = .returned v ∧ St w g K' v l w' ∧ l.length ≤ 8 ∧ KeepB g v0 w0 v w'
set_option maxHeartbeats 4000000 in
set_option maxRecDepth 100000 in
theorem l2Bad_any (g K : Nat) (w w0 : World) (v : Value) (l : List Int) (hst : St w g K v l w0) (hl1 : 1 ≤ l.length) (hl2 : l.length ≤ 8) (hK : K ≤ 100000000) :
    Calls Try.prog 166 #[.pointer (some ⟨g, 0, none⟩), v] w0 (DrawnBad w g (K + 3) v w0) := by
  have S1 := Lib.hid hst
  have hgw := hst.lt
  have zw := hst.gr.size
  obtain ⟨b, cap, rfl, hbb, hbw, hlc, hcap, hcells⟩ := hst.own.openN (by omega)
  clear hcells hst
  go_enter Try.func166, Try.ntmps166
  go_wp2_with fail
  refine (pick_k _ S1.out (by omega) (by omega)).mono ?_
  rintro e w2 ⟨m, rfl, ma, mb, hs2, hg2⟩
  obtain ⟨m, rfl⟩ : ∃ n : Nat, m = n := ⟨m.toNat, by omega⟩
  have S2 := Lib.hid hs2
  have K2 := Lib.hid (KeepB.grown (v := .slice (some ⟨b, 0, none⟩) l.length cap) hg2)
  clear hs2 S1 hg2
  go_wp2_with fail
  refine (pick_k 40 S2.out (by omega) (by omega)).mono ?_
  rintro e w3 ⟨q, rfl, qa, qb, hs3, hg3⟩
  have S3 := Lib.hid hs3
  have z3 := hs3.gr.size
  have K3 := Lib.hid (K2.out.trans (KeepB.grown hg3))
  clear hs3 S2 K2 hg3
  cases q0 : (q == 0)
  · cases q1 : (q == 1)
    · cases q2 : (q == 2)
      · go_wp2
        go_ret
        exact ⟨_, l, rfl, ⟨S3.out.own, S3.out.rdr.more (by omega), S3.out.gr, S3.out.lt⟩, by omega, K3.out⟩
      · go_wp2_with fail
        go_loopw [1] (fun r wr => ∃ l' : List Int, l'.length ≤ 8 ∧ St w g (K + 2) r l' wr ∧ KeepB g (.slice (some ⟨b, 0, none⟩) l.length cap) w0 r wr) (fun r _ => match r with | .slice _ n _ => 9 - n | _ => 0)
        case atStart => exact ⟨l, by omega, S3.out, K3.out⟩
        case round =>
          obtain ⟨l', hl', hst, hkp⟩ := hrel
          have S5 := Lib.hid hst
          have K5 := Lib.hid hkp
          have zo := hst.gr.size
          obtain ⟨A5, c5, rfl, hlc5, hc5, hrd5⟩ := hst.own.ints.open_
          clear hst hrd5 S3 K3 hkp
          by_cases h9 : (l'.length : Int) < 8
          · go_wp2_with (at_builtin; refine app_int rfl (.tmp 29) (.tmp 30) (by rfl) w.heap.size _ l' (by rfl) (by exact S5.out.own.bel (bel_alloc _ _)) _ _ 1 (by rfl) (by exact new_cell _ _ _) (by omega) (by omega) (by simp; omega) ?_; intro v4 w4 ho hg hat)
            have S6 := Lib.hid ((S5.out.bel (bel_alloc _ _)).app ho hg)
            have K6 := Lib.hid ((K5.out.trans (KeepB.bel (bel_alloc _ _))).trans (KeepB.app hg hat))
            obtain ⟨A6, c6, rfl, hlc6, hc6, hrd6⟩ := ho.ints.open_
            clear ho hg hrd6 S5 K5 hat
            go_roundw
            case rel => exact ⟨_, by simp; omega, S6.out, K6.out⟩
            case measure => simp; omega
          · go_wp2
            go_ret
            exact ⟨_, l', rfl, ⟨S5.out.own, S5.out.rdr.more (by omega), S5.out.gr, S5.out.lt⟩, by omega, K5.out⟩
    · go_wp2
      go_ret
      have S4 := S3.out.nil_
      exact ⟨_, [], rfl, ⟨S4.own, S4.rdr.more (by omega), S4.gr, S4.lt⟩, by simp, K3.out.own rfl⟩
  · go_wp2_with fail
    refine (num_k _ [100000, 100001, -100000, -100001, 9223372036854775807] (S3.out.bel (bel_alloc _ _)) (by omega) (lit_own _ [100000, 100001, -100000, -100001, 9223372036854775807] _ w.heap.size rfl (by omega) (by simp) (wf_lit (by simp))).ints (by simp) (lit_ne (by omega))).mono ?_
    rintro e w4 ⟨n, rfl, hn, hs4, hg4⟩
    have hn' : -1000000001 ≤ n ∧ n ≤ 9223372036854775807 := by simp at hn; omega
    obtain ⟨b', cap', ev, _, _, _, _, hcells⟩ := hs4.own.openN (by omega)
    injection ev with ev1 ev2 ev3
    injection ev1 with ev1
    injection ev1 with ev1
    subst ev1
    obtain ⟨hc, hf⟩ := hcells m (by omega)
    have S4 := Lib.hid hs4
    have K4 := Lib.hid ((K3.out.trans (KeepB.bel (bel_alloc _ _))).trans (KeepB.grown hg4))
    clear hn hs4 S3 hcells ev2 ev3 hg4 K3
    go_wp2
    go_ret
    have S7 := S4.out.set_ m n (by omega) (by omega)
    exact ⟨_, _, rfl, S7, by rw [List.length_set]; omega, K4.out.trans (KeepB.app (v := .slice (some ⟨b, 0, none⟩) l.length cap) (only_setCell (World.grownBy.refl w4 (some b)) (.inl rfl) _) (.inl rfl))⟩

set_option maxHeartbeats 2000000 in
theorem l2Number_any (g K : Nat) (w w0 : World) (v : Value) (l : List Int) (hst : St w g K v l w0) (hK : K ≤ 100000000) :
    Calls Try.prog 111 #[.pointer (some ⟨g, 0, none⟩)] w0 fun e w' => ∃ m : Int, e = .returned (.int .i64 m) ∧ -9223372036854775808 ≤ m ∧ m ≤ 9223372036854775807 ∧ St w g (K + 2) v l w' := by
  have S0 := Lib.hid hst
  have hgw := hst.lt
  have z0 := hst.gr.size
  clear hst
  go_enter Try.func111, Try.ntmps111
  go_wp2_with fail
  refine (pick_st 12 S0.out (by omega) (by omega)).mono ?_
  rintro e w1 ⟨q, rfl, qa, qb, hs1⟩
  have S1 := Lib.hid hs1
  have z1 := hs1.gr.size
  clear hs1 S0
  cases q0 : (q == 0)
  · go_wp2_with fail
    refine (pick_st 60 S1.out (by omega) (by omega)).mono ?_
    rintro e w2 ⟨n, rfl, na, nb, hs2⟩
    have S2 := Lib.hid hs2
    clear hs2 S1
    go_wp2
    go_ret
    exact ⟨_, rfl, by omega, by omega, S2.out⟩
  · go_wp2_with fail
    refine (num_st _ [200, 201, -200, -201, 9223372036854775807, -9223372036854775808] (S1.out.bel (bel_alloc _ _)) (by omega) (lit_own _ [200, 201, -200, -201, 9223372036854775807, -9223372036854775808] _ w.heap.size rfl (by omega) (by simp) (wf_lit (by simp))).ints (by simp) (lit_ne (by omega))).mono ?_
    rintro e w2 ⟨n, rfl, hn, hs2⟩
    have hn' : -9223372036854775808 ≤ n ∧ n ≤ 9223372036854775807 := by simp at hn; omega
    have S2 := Lib.hid hs2
    clear hs2 S1 hn
    go_wp2
    go_ret
    exact ⟨n, rfl, by omega, by omega, S2.out⟩

set_option maxHeartbeats 2000000 in
theorem l1Wide_any (g K : Nat) (w w0 : World) (v : Value) (l : List Int) (hst : St w g K v l w0) (hK : K ≤ 10000000) :
    Calls Try.prog 112 #[.pointer (some ⟨g, 0, none⟩)] w0 fun e w' => ∃ m : Int, e = .returned (.int .i64 m) ∧ -9223372036854775808 ≤ m ∧ m ≤ 9223372036854775807 ∧ St w g (K + 2) v l w' := by
  have S0 := Lib.hid hst
  have hgw := hst.lt
  have z0 := hst.gr.size
  clear hst
  go_enter Try.func112, Try.ntmps112
  go_wp2_with fail
  refine (pick_st 16 S0.out (by omega) (by omega)).mono ?_
  rintro e w1 ⟨q, rfl, qa, qb, hs1⟩
  have S1 := Lib.hid hs1
  have z1 := hs1.gr.size
  clear hs1 S0
  cases q0 : (q == 0)
  · go_wp2_with fail
    refine (l1Any_any g (K + 1) _ S1.out.rdr (by omega)).mono ?_
    rintro e w2 ⟨n, rfl, na, nb, hr2, hg2⟩
    have S2 := Lib.hid (S1.out.grown hg2 hr2)
    clear hr2 hg2 S1
    go_wp2
    go_ret
    exact ⟨_, rfl, by omega, by omega, S2.out⟩
  · go_wp2_with fail
    refine (num_st _ [0, 13, -1, 9223372036854775807] (S1.out.bel (bel_alloc _ _)) (by omega) (lit_own _ [0, 13, -1, 9223372036854775807] _ w.heap.size rfl (by omega) (by simp) (wf_lit (by simp))).ints (by simp) (lit_ne (by omega))).mono ?_
    rintro e w2 ⟨n, rfl, hn, hs2⟩
    have hn' : -9223372036854775808 ≤ n ∧ n ≤ 9223372036854775807 := by simp at hn; omega
    have S2 := Lib.hid hs2
    clear hs2 S1 hn
    go_wp2
    go_ret
    exact ⟨n, rfl, by omega, by omega, S2.out⟩

end Go.Proofs.Yteemhhgioljmaaa

/-
  Drawn lists of engines, counts and sizes.
-/
namespace Go.Proofs.Yteemhhgioljmaaa
open Go.RowKit
set_option linter.unusedVariables false
set_option linter.unusedSimpArgs false
set_option maxRecDepth 100000
attribute [local go_sem ↓] Go.wp_at_zero Go.wp_at_succ

/-- A growing list whose blocks, and those of its engines, lie at base or above. -/
def EngsZ (w : World) (base : Nat) (v : Value) (ls : List (List ByteArray)) : Prop :=
  ∃ xs, w.ownsRow base 29 1 v ls.length xs ∧ xs.length = ls.length ∧ ls.length ≤ 1048576 ∧ ∀ i, i < ls.length → Strs w (xat xs i) (eat ls i) ∧ Off (xat xs i) (eat ls i) (fun b => v.ownBlock ≠ some b ∧ base ≤ b)
theorem EngsZ.engs {w : World} {base : Nat} {v : Value} {ls : List (List ByteArray)} (h : EngsZ w base v ls) : Engs w v ls := by
  obtain ⟨xs, h1, h2, h3, h4⟩ := h
  exact ⟨xs, Sl.own h1 (by unfold maxLen; omega), h2, fun i hi => (h4 i hi).1⟩
theorem EngsZ.lt {w : World} {base : Nat} {v : Value} {ls : List (List ByteArray)} (h : EngsZ w base v ls) : ∀ k, v.ownBlock = some k → base ≤ k ∧ k < w.heap.size := by
  obtain ⟨xs, h1, _⟩ := h; exact h1.lt
theorem EngsZ.bel {w w' : World} {base : Nat} {v : Value} {ls : List (List ByteArray)} (h : EngsZ w base v ls) (hb : Below w.heap.size w w') : EngsZ w' base v ls := by
  obtain ⟨xs, h1, h2, h3, h4⟩ := h
  exact ⟨xs, h1.kept (row := none) ⟨hb.os, hb.tape, hb.output, hb.size, fun i hi _ => hb.block i hi⟩ (by cases v.ownBlock <;> simp), h2, h3, fun i hi => ⟨(h4 i hi).1.bel hb, (h4 i hi).2⟩⟩
theorem EngsZ.far {w w' : World} {base : Nat} {v : Value} {ls : List (List ByteArray)} {row : Option Nat} (h : EngsZ w base v ls) (hb : w.grownBy w' row) (hr : ∀ k, row = some k → k < base) : EngsZ w' base v ls := by
  obtain ⟨xs, h1, h2, h3, h4⟩ := h
  exact ⟨xs, h1.kept hb (by
    cases hv : v.ownBlock with
    | none => exact .inl rfl
    | some k => exact .inr fun e => by have := (h1.lt k hv).1; have := hr k e.symm; omega), h2, h3, fun i hi => ⟨(h4 i hi).1.rowFar hb ((h4 i hi).2.mono fun b hb2 e => by have := hr b e.symm; omega), (h4 i hi).2⟩⟩
theorem EngsZ.empty (w : World) (base : Nat) (hb : base ≤ w.heap.size) : EngsZ (w.alloc (.cells #[] 29)) base (.slice (some ⟨w.heap.size, 0, none⟩) 0 0) [] :=
  ⟨[], World.ownsRow_made w #[] 0 hb (by unfold maxLen; omega) rfl, rfl, by simp, fun i h => absurd h (by simp)⟩

/-- 'out = append(out, e)'. -/
theorem app_engZ {ops : Array Oper} {rest : List Oper} {o : Oper} {a : Act} {Q : Exit → Act → World → Prop} {w : World} (hgd : o.guard = none) (s x : Operand)
    (ho : o.op = .call { callee := .builtin .append, args := #[s, x], argTypes := #[34, 34] })
    (base : Nat) (v : Value) (ls : List (List ByteArray)) (hs : a.eval s = v) (hown : EngsZ w base v ls) (g c : Nat) (z : Value) (l : List ByteArray) (hx : a.eval x = .slice (some ⟨g, 0, none⟩) 1 c)
    (hcell : w.cell? ⟨g, 0, none⟩ = some z) (hz : Strs w z l) (hzo : Off z l (fun b => v.ownBlock ≠ some b ∧ base ≤ b)) (hl : ls.length + 1 ≤ 1048576) (hbase : base ≤ w.heap.size)
    (h : ∀ v' w', EngsZ w' base v' (ls ++ [l]) → w.grownBy w' v.ownBlock → (v'.ownBlock = v.ownBlock ∨ v'.ownBlock = some w.heap.size) → wpList Try.prog ops Q rest (a.put o.dst v') w') : wpList Try.prog ops Q (o :: rest) a w := by
  obtain ⟨i0, hi, hz0, hz1, hz2⟩ := info_parts Try.infoEng
  obtain ⟨xs, h1, h2, h3, h4⟩ := hown
  obtain ⟨Az, cz, rfl, -, -, -⟩ := hz.open_
  refine wpList_append_own_at (P := Try.prog) w hgd s x 34 ho base 29 i0 _ 1 24 Try.underlying34 hi hz0 hz1 hz2 rfl (by omega) v ls.length xs hs h1 ⟨g, 0, none⟩ 1 c [.slice Az l.length cz] hx rfl ?_ ?_ (by unfold maxLen; omega) (by omega) hbase ?_
  · intro j u hj
    match j, hj with
    | 0, hj => simp at hj; subst hj; simpa [Addr.add] using hcell
  · intro u hu; simp at hu; subst hu; rfl
  · intro v' w' q1 q2 _ q4
    refine h v' w' ⟨xs ++ [.slice Az l.length cz], by rw [List.length_append]; exact q1, by simp [h2], by simp; omega, fun i hi => ?_⟩ q2 q4
    have offT : ∀ {x : Value} {m : List ByteArray}, Strs w x m → Off x m (fun b => v.ownBlock ≠ some b ∧ base ≤ b) → Strs w' x m ∧ Off x m (fun b => v'.ownBlock ≠ some b ∧ base ≤ b) := by
      intro x m hx ho
      refine ⟨hx.rowFar q2 (ho.mono fun b hb e => hb.1 e.symm), ?_⟩
      intro a' n' c' e' hl'
      have p1 := ho a' n' c' e' hl'
      have p2 := hx.low a' n' c' e' hl'
      rcases q4 with q | q
      · rw [q]; exact p1
      · rw [q]; exact ⟨by intro e2; injection e2 with e2; omega, p1.2⟩
    simp at hi
    by_cases e : i < ls.length
    · rw [eat_append_lo e, xat_append_lo (by omega)]
      exact offT (h4 i e).1 (h4 i e).2
    · have e' : i = ls.length := by omega
      subst e'
      rw [eat_append_hi]
      have := xat_append_hi (a := xs) (b := .slice Az l.length cz)
      rw [h2] at this
      rw [this]
      exact offT hz hzo

/-- Where drawing a list of engines stands. -/
structure StZ (w : World) (g K : Nat) (v : Value) (ls : List (List ByteArray)) (W : World) : Prop where
  own : EngsZ W w.heap.size v ls
  rdr : Rdr W g K
  gr : w.grownBy W (some g)
  lt : g < w.heap.size
theorem StZ.bel {w : World} {g K : Nat} {v : Value} {l : List (List ByteArray)} {W W' : World} (h : StZ w g K v l W) (hb : Below W.heap.size W W') : StZ w g K v l W' :=
  ⟨h.own.bel hb, h.rdr.bel hb, only_below h.gr hb, h.lt⟩
theorem StZ.grown {w : World} {g K K' : Nat} {v : Value} {l : List (List ByteArray)} {W W' : World} (h : StZ w g K v l W) (hb : W.grownBy W' (some g)) (hr : Rdr W' g K') : StZ w g K' v l W' :=
  ⟨h.own.far hb (fun k hk => by injection hk with hk; have := h.lt; omega), hr, grown_trans h.gr hb (fun j hj => .inl (by injection hj with hj; exact hj.symm)), h.lt⟩
theorem StZ.app {w : World} {g K : Nat} {v v' : Value} {l l' : List (List ByteArray)} {W W' : World} (h : StZ w g K v l W) (ho : EngsZ W' w.heap.size v' l') (hb : W.grownBy W' v.ownBlock) : StZ w g K v' l' W' :=
  ⟨ho, h.rdr.grown hb (fun k hk => by have h1 := (h.own.lt k hk).1; have := h.lt; omega), grown_trans h.gr hb (fun j hj => .inr (h.own.lt j hj).1), h.lt⟩

end Go.Proofs.Yteemhhgioljmaaa

/-
  Drawn lists of engines: l7List.
-/
namespace Go.Proofs.Yteemhhgioljmaaa
open Go.RowKit
set_option linter.unusedVariables false
set_option linter.unusedSimpArgs false
set_option maxRecDepth 100000
attribute [local go_sem ↓] Go.wp_at_zero Go.wp_at_succ

theorem EngsZ.row {w : World} {base : Nat} {v : Value} {ls : List (List ByteArray)} (h : EngsZ w base v ls) (hn : 0 < ls.length) :
    ∃ b cap cs, v = .slice (some ⟨b, 0, none⟩) ls.length cap ∧ base ≤ b ∧ Blk w b 29 cs ∧ ls.length ≤ cap ∧ cap ≤ 9223372036854775807 ∧ cs.length = cap ∧ ls.length ≤ 1048576 ∧
      ∀ i, i < ls.length → cs[i]? = some (xat cs i) ∧ Strs w (xat cs i) (eat ls i) ∧ Off (xat cs i) (eat ls i) (fun k => k ≠ b ∧ base ≤ k) := by
  obtain ⟨xs, ⟨hl, h⟩, h2, h3, h4⟩ := h
  rcases h with ⟨_, hz⟩ | ⟨g, cap, cur, rfl, hg, hh, hnc, hcm, hsz, ht⟩
  · omega
  · refine ⟨g, cap, cur.toList, rfl, hg, hh, hnc, by unfold maxLen at hcm; omega, by simpa using hsz, h3, fun i hi => ?_⟩
    have e : cur.toList[i]? = some (xat xs i) := by
      have e1 := xat_get (xs := xs) (i := i) (by omega)
      rw [← ht, List.getElem?_take, if_pos (by omega)] at e1
      rw [← ht]
      exact e1
    have e2 : xat cur.toList i = xat xs i := by simp only [xat, List.getD] at e ⊢; rw [e]; rfl
    rw [e2]
    refine ⟨e, (h4 i hi).1, (h4 i hi).2.mono fun k hk => ⟨fun q => hk.1 (by rw [q]; rfl), hk.2⟩⟩
theorem EngsZ.mk' {w : World} {base b cap : Nat} {cs : List Value} {ls : List (List ByteArray)} (hg : base ≤ b) (hb : Blk w b 29 cs) (hl : ls.length ≤ cap) (hc : cap ≤ 9223372036854775807) (hs : cs.length = cap) (hm : ls.length ≤ 1048576)
    (hcs : ∀ i, i < ls.length → Strs w (xat cs i) (eat ls i) ∧ Off (xat cs i) (eat ls i) (fun k => k ≠ b ∧ base ≤ k)) : EngsZ w base (.slice (some ⟨b, 0, none⟩) ls.length cap) ls := by
  have ht : (cs.take ls.length).length = ls.length := by rw [List.length_take]; omega
  have hx : ∀ i, i < ls.length → xat (cs.take ls.length) i = xat cs i := fun i hi => by simp only [xat, List.getD, List.getElem?_take, if_pos hi]
  refine ⟨cs.take ls.length, ⟨by rw [ht]; omega, .inr ⟨b, cap, cs.toArray, rfl, hg, hb, hl, by unfold maxLen; omega, by simpa using hs, ?_⟩⟩, ht, hm, fun i hi => ?_⟩
  · first | rfl | simp
  · rw [hx i hi]
    exact ⟨(hcs i hi).1, (hcs i hi).2.mono fun k hk => ⟨fun q => hk.1 (by injection q with q; exact q.symm), hk.2⟩⟩
theorem StZ.nil_ {w : World} {g K b n cap : Nat} {ls : List (List ByteArray)} {W : World} (h : StZ w g K (.slice (some ⟨b, 0, none⟩) n cap) ls W) (hn : 0 < ls.length) : StZ w g K (.slice (some ⟨b, 0, none⟩) 0 cap) [] W := by
  obtain ⟨b', cap', cs, e, h1, h2, h3, h4, h5, h6, h7⟩ := h.own.row hn
  injection e with e1 e2 e3
  injection e1 with e1
  injection e1 with e1
  subst e1 e3
  exact ⟨EngsZ.mk' (ls := []) h1 h2 (Nat.zero_le _) h4 h5 (by simp) (fun i hi => absurd hi (by simp)), h.rdr, h.gr, h.lt⟩
theorem StZ.set0 {w : World} {g K b n cap : Nat} {ls : List (List ByteArray)} {W : World} (h : StZ w g K (.slice (some ⟨b, 0, none⟩) n cap) ls W) (hn : 0 < ls.length) : StZ w g K (.slice (some ⟨b, 0, none⟩) n cap) (ls.set 0 []) (W.setCell ⟨b, 0, none⟩ (.slice none 0 0)) := by
  obtain ⟨b', cap', cs, e, h1, h2, h3, h4, h5, h6, h7⟩ := h.own.row hn
  injection e with e1 e2 e3
  injection e1 with e1
  injection e1 with e1
  subst e1 e2 e3
  have hg := only_setCell (World.grownBy.refl W (some b)) (p := ⟨b, 0, none⟩) (.inl rfl) (.slice none 0 0)
  have hll : (ls.set 0 []).length = ls.length := List.length_set
  have := h.lt
  refine ⟨?_, h.rdr.grown hg (fun k hk => by injection hk with hk; omega), grown_trans h.gr hg (fun j hj => .inr (by injection hj with hj; omega)), h.lt⟩
  have := EngsZ.mk' (ls := ls.set 0 []) h1 (h2.set_ 0 (.slice none 0 0)) (by rw [hll]; exact h3) h4 (by rw [List.length_set]; exact h5) (by rw [hll]; exact h6) (fun i hi => by
    rw [hll] at hi
    rw [xat_set (by omega)]
    by_cases e : i = 0
    · subst e
      rw [if_pos rfl]
      have : eat (ls.set 0 []) 0 = [] := by simp [eat, List.getD, hn]
      rw [this]
      exact ⟨Strs.nil_ _, fun a n c e hl => absurd hl (by simp)⟩
    · rw [if_neg e]
      have : eat (ls.set 0 []) i = eat ls i := by simp only [eat, List.getD]; rw [List.getElem?_set_ne (by omega)]
      rw [this]
      exact ⟨(h7 i hi).2.1.rowFar hg ((h7 i hi).2.2.mono fun k hk q => hk.1 (by injection q)), (h7 i hi).2.2⟩)
  rw [hll] at this
  exact this

/-- A drawn list of engines. -/
def DrawnEngs (w : World) (g K' : Nat) (e : Ending) (w' : World) : Prop :=
  ∃ v ls, e = .returned v ∧ StZ w g K' v ls w' ∧ ls.length ≤ 11 ∧ ∀ i, i < ls.length → (eat ls i).length ≤ 7
theorem all_app {ls : List (List ByteArray)} {l : List ByteArray} (h : ∀ i, i < ls.length → (eat ls i).length ≤ 7) (hl : l.length ≤ 7) : ∀ i, i < (ls ++ [l]).length → (eat (ls ++ [l]) i).length ≤ 7 := by
  intro i hi
  rw [List.length_append] at hi
  simp at hi
  by_cases e : i < ls.length
  · rw [eat_append_lo e]; exact h i e
  · have e' : i = ls.length := by omega
    subst e'
    rw [eat_append_hi]; exact hl

set_option maxHeartbeats 4000000 in
theorem l7List_any (g K : Nat) (w : World) (hr : Rdr w g K) (hK : K ≤ 100000) :
    Calls Try.prog 82 #[.pointer (some ⟨g, 0, none⟩)] w (DrawnEngs w g (K + 1210)) := by
  have hgw := hr.lt
  have S0 := Lib.hid (show StZ w g K (.slice (some ⟨w.heap.size, 0, none⟩) 0 0) [] (w.alloc (.cells #[] 29)) from
    ⟨EngsZ.empty w w.heap.size (Nat.le_refl _), hr.bel (bel_alloc _ _), only_alloc (World.grownBy.refl w _) _, hgw⟩)
  clear hr
  go_enter Try.func82, Try.ntmps82
  go_wp2_with fail
  refine (pick_any g K 4 _ S0.out.rdr (by omega) (by omega)).mono ?_
  rintro e w1 ⟨m, rfl, hm, -, hr1, hg1⟩
  replace hm := hm (by omega)
  obtain ⟨m, rfl⟩ : ∃ n : Nat, m = n := ⟨m.toNat, by omega⟩
  have S1 := Lib.hid (S0.out.grown hg1 hr1)
  clear hr1 hg1 S0
  go_wp2_with fail
  go_loopw [3, 4] (fun r n wr => ∃ (k K' : Nat) (ls : List (List ByteArray)), n = .int .i64 k ∧ k ≤ 4 ∧ ls.length + k = m + 1 ∧ K' + 300 * k ≤ K + 1201 ∧ StZ w g K' r ls wr ∧ ∀ i, i < ls.length → (eat ls i).length ≤ 7)
    (fun _ n _ => (intOf n).toNat)
  case atStart => exact ⟨m + 1, K + 1, [], by go_num, by omega, by simp, by omega, S1.out, fun i hi => absurd hi (by simp)⟩
  case round =>
    obtain ⟨k, K', ls, rfl, hk, hlk, hK', hst, h7⟩ := hrel
    have zr := hst.gr.size
    have S3 := Lib.hid hst
    have H7 := Lib.hid h7
    clear S1 hst h7
    by_cases hk0 : k = 0
    · subst hk0
      have hrow := S3.out.own.row (by omega)
      obtain ⟨b, cap, cs, rfl, hb1, hb2, hb3, hb4, hb5, hb6, -⟩ := hrow
      clear hb2
      go_wp2_with fail
      refine (pick_any g K' 24 _ S3.out.rdr (by omega) (by omega)).mono ?_
      rintro e w3 ⟨q, rfl, qab, -, hr4, hg4⟩
      replace qab := qab (by omega)
      have S4 := Lib.hid (S3.out.grown hg4 hr4)
      have z4 := S4.out.gr.size
      clear hr4 hg4 S3
      cases q0 : (q == 0)
      · cases q1 : (q == 1)
        · cases q2 : (q == 2)
          · go_wp2
            go_ret
            exact ⟨_, ls, rfl, ⟨S4.out.own, S4.out.rdr.more (by omega), S4.out.gr, S4.out.lt⟩, by omega, H7.out⟩
          · obtain ⟨b', cap', cs', e, -, hb2, -, -, -, -, h7'⟩ := S4.out.own.row (by omega)
            injection e with e1 e2 e3
            injection e1 with e1
            injection e1 with e1
            subst e1
            have c0 := (hb2.cell 0).trans (h7' 0 (by omega)).1
            have f0 := hb2.frozen 0
            clear hb2 h7' e2 e3
            go_wp2
            go_ret
            have S5 := S4.out.set0 (by omega)
            refine ⟨_, _, rfl, ⟨S5.own, S5.rdr.more (by omega), S5.gr, S5.lt⟩, by rw [List.length_set]; omega, fun i hi => ?_⟩
            rw [List.length_set] at hi
            by_cases e : i = 0
            · subst e
              have : eat (ls.set 0 []) 0 = [] := by simp [eat, List.getD, hi]
              rw [this]; simp
            · have : eat (ls.set 0 []) i = eat ls i := by simp only [eat, List.getD]; rw [List.getElem?_set_ne (by omega)]
              rw [this]; exact H7.out i hi
        · go_wp2_with fail
          go_loopw [3] (fun r wr => ∃ ls' : List (List ByteArray), 1 ≤ ls'.length ∧ ls'.length ≤ 11 ∧ StZ w g (K' + 1) r ls' wr ∧ ∀ i, i < ls'.length → (eat ls' i).length ≤ 7) (fun r _ => match r with | .slice _ n _ => 12 - n | _ => 0)
          case atStart => exact ⟨ls, by omega, by omega, S4.out, H7.out⟩
          case round =>
            obtain ⟨ls', hl1, hl11, hst, h7⟩ := hrel
            have S5 := Lib.hid hst
            have H7' := Lib.hid h7
            have zo := hst.gr.size
            obtain ⟨b', cap', cs', rfl, hb1', hb2, hb3', hb4', hb5', hb6', h7'⟩ := hst.own.row (by omega)
            obtain ⟨p1, p2, p3⟩ := h7' 0 (by omega)
            have c0 := (hb2.cell 0).trans p1
            clear hst h7 h7' S4 H7 p1
            by_cases h9 : (ls'.length : Int) < 11
            · obtain ⟨Ae, ce, he, -, -, -⟩ := p2.open_
              rw [he] at p2 p3 c0
              have P2 := Lib.hid p2
              have P3 := Lib.hid p3
              clear p2 p3 hb2
              go_wp2_with (at_builtin; go_must (refine app_engZ rfl (.tmp 29) (.tmp 33) (by rfl) w.heap.size _ ls' (by rfl) (by exact S5.out.own.bel (bel_alloc _ _)) _ _ (.slice Ae (eat ls' 0).length ce) (eat ls' 0) (by rfl) (by exact new_cell _ _ _) (by exact P2.out.bel (bel_alloc _ _)) (by exact P3.out.mono (fun k hk => ⟨fun q => hk.1 (by injection q with q; exact q.symm), hk.2⟩)) (by omega) (by simp; omega) ?_; intro v4 w4 ho hg _))
              have S6 := Lib.hid ((S5.out.bel (bel_alloc _ _)).app ho hg)
              have hl2 : (ls' ++ [eat ls' 0]).length = ls'.length + 1 := by simp
              obtain ⟨A6, c6, xs6, rfl, -, -, -, -⟩ := ho.engs.open_
              clear ho hg S5
              go_roundw
              case rel => exact ⟨_, by omega, by omega, S6.out, all_app H7'.out (H7'.out 0 (by omega))⟩
              case measure => simp; omega
            · clear p2 p3 hb2 c0
              go_wp2
              go_ret
              exact ⟨_, ls', rfl, ⟨S5.out.own, S5.out.rdr.more (by omega), S5.out.gr, S5.out.lt⟩, by omega, H7'.out⟩
      · go_wp2
        go_ret
        have S5 := S4.out.nil_ (by omega)
        exact ⟨_, [], rfl, ⟨S5.own, S5.rdr.more (by omega), S5.gr, S5.lt⟩, by simp, fun i hi => absurd hi (by simp)⟩
    · obtain ⟨k, rfl⟩ : ∃ j, k = j + 1 := ⟨k - 1, by omega⟩
      go_wp2_with fail
      refine (l3Some_any g K' _ S3.out.rdr (by omega)).mono ?_
      rintro e w5 ⟨v5, l5, rfl, ho5, h51, h57, -, hr5, hg5⟩
      have S5 := Lib.hid (S3.out.grown hg5 hr5)
      have z5 := hg5.size
      have OF := Lib.hid (ho5.off.mono (R := fun b => u3.ownBlock ≠ some b ∧ w.heap.size ≤ b) (fun b hb2 => ⟨fun e => by have := (S3.out.own.lt b e).2; omega, by omega⟩))
      obtain ⟨A5, c5, rfl, -, -, -⟩ := ho5.strs.open_
      have O5 := Lib.hid ho5.strs
      clear ho5 hr5 hg5 S3
      go_wp2_with (at_builtin; go_must (refine app_engZ rfl (.tmp 13) (.tmp 16) (by rfl) w.heap.size _ ls (by rfl) (by exact S5.out.own.bel (bel_alloc _ _)) _ _ (.slice A5 l5.length c5) l5 (by rfl) (by exact new_cell _ _ _) (by exact O5.out.bel (bel_alloc _ _)) (by exact OF.out) (by omega) (by simp; omega) ?_; intro v6 w6 ho hg _))
      have S6 := Lib.hid ((S5.out.bel (bel_alloc _ _)).app ho hg)
      have hl2 : (ls ++ [l5]).length = ls.length + 1 := by simp
      clear ho hg S5
      go_roundw
      case rel => exact ⟨k, K' + 300, _, by go_num, by omega, by omega, by omega, S6.out, all_app H7.out h57⟩
      case measure => simp [intOf]

end Go.Proofs.Yteemhhgioljmaaa

/-
  Drawn sizes; the arguments of RunSteps and RunParts.
-/
namespace Go.Proofs.Yteemhhgioljmaaa
open Go.RowKit
set_option linter.unusedVariables false
set_option linter.unusedSimpArgs false
set_option maxRecDepth 100000
attribute [local go_sem ↓] Go.wp_at_zero Go.wp_at_succ

/-- Drawn sizes. -/
def DrawnSizes (w : World) (g K' n : Nat) (e : Ending) (w' : World) : Prop :=
  ∃ v l, e = .returned v ∧ Own w' w.heap.size v l ∧ l.length = n ∧ Rdr w' g K' ∧ w.grownBy w' (some g)
set_option maxHeartbeats 4000000 in
theorem l7Numbers_any (g K n : Nat) (w : World) (hr : Rdr w g K) (hK : K ≤ 1000000) (hn : n ≤ 20) :
    Calls Try.prog 84 #[.pointer (some ⟨g, 0, none⟩), .int .i64 n] w (DrawnSizes w g (K + 30) n) := by
  have hgw := hr.lt
  have S0 := Lib.hid (show St w g K (.slice (some ⟨w.heap.size, 0, none⟩) 0 0) [] (w.alloc (.cells #[] 3)) from
    ⟨Own.empty w w.heap.size (Nat.le_refl _), hr.bel (bel_alloc _ _), only_alloc (World.grownBy.refl w _) _, hgw⟩)
  clear hr
  go_enter Try.func84, Try.ntmps84
  go_wp2_with fail
  go_loopw [5, 6] (fun r i wr => ∃ (k : Nat) (l : List Int), i = .int .i64 k ∧ k ≤ n ∧ l.length = k ∧ St w g (K + k) r l wr)
    (fun _ i _ => n - (intOf i).toNat)
  case atStart => exact ⟨0, [], rfl, Nat.zero_le _, rfl, S0.out⟩
  case round =>
    obtain ⟨k, l, rfl, hk, hlk, hst⟩ := hrel
    have zr := hst.gr.size
    have S3 := Lib.hid hst
    clear S0
    by_cases hlt : k < n
    · clear hst
      go_wp2_with fail
      refine (pick_st 8 S3.out (by omega) (by omega)).mono ?_
      rintro e1 w3 ⟨m1, rfl, a1, b1, hs4⟩
      have S4 := Lib.hid hs4
      have z4 := hs4.gr.size
      clear hs4 S3
      go_wp2_with (at_builtin; refine app_int rfl (.tmp 13) (.tmp 16) (by rfl) w.heap.size _ _ (by rfl) (by exact S4.out.own.bel (bel_alloc _ _)) _ _ _ (by rfl) (by exact new_cell _ _ _) (by omega) (by omega) (by simp; omega) ?_; intro v5 w5 ho hg _)
      have S6 := Lib.hid ((S4.out.bel (bel_alloc _ _)).app ho hg)
      clear ho hg S4
      go_roundw
      case rel => exact ⟨k + 1, _, by go_num, by omega, by simp; omega, S6.out⟩
      case measure => simp [intOf]; omega
    · have hkn : k = n := by omega
      subst hkn
      subst hlk
      by_cases h0 : l.length = 0
      · obtain ⟨A5, c5, rfl, hlc5, hc5, hrd5⟩ := hst.own.ints.open_
        clear hst hrd5
        go_wp2
        go_ret
        exact ⟨_, l, rfl, S3.out.own, rfl, S3.out.rdr.more (by omega), S3.out.gr⟩
      · obtain ⟨b, cap, rfl, hbb, hbw, hlc, hcap, hcells⟩ := hst.own.openN (by omega)
        clear hst hcells
        go_wp2_with fail
        refine (pick_st 16 S3.out (by omega) (by omega)).mono ?_
        rintro e1 w3 ⟨q, rfl, a1, b1, hs4⟩
        have S4 := Lib.hid hs4
        have z4 := hs4.gr.size
        clear hs4 S3
        cases q0 : (q == 0)
        · go_wp2
          go_ret
          exact ⟨_, l, rfl, S4.out.own, rfl, S4.out.rdr.more (by omega), S4.out.gr⟩
        · go_wp2_with fail
          refine (num_st _ [-1, 60, 61, 9223372036854775807] (S4.out.bel (bel_alloc _ _)) (by omega) (lit_own _ [-1, 60, 61, 9223372036854775807] _ w.heap.size rfl (by omega) (by simp) (wf_lit (by simp))).ints (by simp) (lit_ne (by omega))).mono ?_
          rintro e w5 ⟨n5, rfl, hn5, hs5⟩
          have hn' : -1 ≤ n5 ∧ n5 ≤ 9223372036854775807 := by simp at hn5; omega
          obtain ⟨b', cap', ev, _, _, _, _, hcells⟩ := hs5.own.openN (by omega)
          injection ev with ev1 ev2 ev3
          injection ev1 with ev1
          injection ev1 with ev1
          subst ev1
          obtain ⟨hc, hf⟩ := hcells 0 (by omega)
          have S5 := Lib.hid hs5
          clear hn5 hs5 S4 hcells ev2 ev3
          go_wp2
          go_ret
          have S7 := S5.out.set_ 0 n5 (by omega) (by omega)
          exact ⟨_, _, rfl, S7.own, by rw [List.length_set], S7.rdr.more (by omega), S7.gr⟩

/-- A drawn list of engines and a count. -/
def DrawnSteps (w : World) (e : Ending) (w' : World) : Prop :=
  ∃ v ls n, e = .returned (.tuple #[v, .int .i64 n]) ∧ Engs w' v ls ∧ ls.length ≤ 11 ∧ -1 ≤ n ∧ n ≤ 9223372036854775807 ∧ Below w.heap.size w w'
set_option maxHeartbeats 1000000 in
theorem drawSteps_any (v : Value) (code : List Int) (w : World) (hv : Bytes w v code) :
    Calls Try.prog 26 #[v] w (DrawnSteps w) := by
  go_enter Try.func26, Try.ntmps26
  go_wp2_with fail
  refine (l9Open_any v code w hv).mono ?_
  rintro e w1 ⟨g, rfl, hg, hr1, hb1⟩
  have z1 := hb1.size
  have H1 := Lib.hid (And.intro hr1 hb1)
  clear hr1 hb1
  go_wp2_with fail
  refine (l7List_any g 0 _ H1.out.1 (by omega)).mono ?_
  rintro e w2 ⟨vl, ls, rfl, hs2, hl, h7⟩
  have S2 := Lib.hid hs2
  clear hs2
  go_wp2_with fail
  refine (l7Count_any g _ (.slice none 0 0) [] w1 _ ⟨OwnS.nil_ _ _, S2.out.rdr, S2.out.gr, S2.out.lt⟩ (by omega)).mono ?_
  rintro e w3 ⟨n, rfl, n1, n2, hs3, hg3⟩
  have S3 := Lib.hid (S2.out.grown hg3 hs3.rdr)
  clear hs3 hg3
  go_wp2
  go_ret2
  exact ⟨_, ls, n, rfl, S3.out.own.engs, hl, n1, n2, H1.out.2.trans (grown_below (B := w.heap.size) S3.out.gr (by omega) z1)⟩

/-- A drawn list of engines and sizes. -/
def DrawnParts (w : World) (e : Ending) (w' : World) : Prop :=
  ∃ v ls u sz, e = .returned (.tuple #[v, u]) ∧ Engs w' v ls ∧ ls.length ≤ 11 ∧ Ints w' u sz ∧ sz.length ≤ 12 ∧ Below w.heap.size w w'
set_option maxHeartbeats 2000000 in
theorem drawParts_any (v : Value) (code : List Int) (w : World) (hv : Bytes w v code) :
    Calls Try.prog 22 #[v] w (DrawnParts w) := by
  go_enter Try.func22, Try.ntmps22
  go_wp2_with fail
  refine (l9Open_any v code w hv).mono ?_
  rintro e w1 ⟨g, rfl, hg, hr1, hb1⟩
  have z1 := hb1.size
  have H1 := Lib.hid (And.intro hr1 hb1)
  clear hr1 hb1
  go_wp2_with fail
  refine (l7List_any g 0 _ H1.out.1 (by omega)).mono ?_
  rintro e w2 ⟨vl, ls, rfl, hs2, hl, h7⟩
  have S2 := Lib.hid hs2
  obtain ⟨A2, c2, xs2, rfl, -, -, -, -⟩ := hs2.own.engs.open_
  clear hs2
  go_wp2_with fail
  refine (pick_any g _ 12 _ S2.out.rdr (by omega) (by omega)).mono ?_
  rintro e w3 ⟨q, rfl, -, -, hr3, hg3⟩
  have S3 := Lib.hid (S2.out.grown hg3 hr3)
  clear hr3 hg3 S2
  have fin : ∀ m : Nat, m ≤ 12 → ∀ e w4, DrawnSizes w3 g (0 + 1210 + 1 + 30) m e w4 → ∃ u sz, e = .returned u ∧ Engs w4 (.slice A2 ls.length c2) ls ∧ Ints w4 u sz ∧ sz.length ≤ 12 ∧ Below w.heap.size w w4 := by
    rintro m hm e w4 ⟨u, sz, rfl, ho, hlm, hr4, hg4⟩
    have S4 := S3.out.grown hg4 hr4
    exact ⟨u, sz, rfl, S4.own.engs, ho.ints, by omega, H1.out.2.trans (grown_below (B := w.heap.size) S4.gr (by omega) z1)⟩
  have FN := Lib.hid fin
  clear fin
  cases q0 : (q == 0)
  · go_wp2_with fail
    refine (l7Numbers_any g _ ls.length _ S3.out.rdr (by omega) (by omega)).mono ?_
    intro e w4 hd
    obtain ⟨u, sz, rfl, h1, h2, h3, h4⟩ := FN.out _ (by omega) _ _ hd
    have H := Lib.hid (And.intro h1 (And.intro h2 (And.intro h3 h4)))
    clear h1 h2 h3 h4 hd
    go_wp2
    go_ret2
    exact ⟨_, ls, u, sz, rfl, H.out.1, hl, H.out.2.1, H.out.2.2.1, H.out.2.2.2⟩
  · go_wp2_with fail
    rw [show (ls.length : Int) + 1 = ((ls.length + 1 : Nat) : Int) by omega]
    refine (l7Numbers_any g _ (ls.length + 1) _ S3.out.rdr (by omega) (by omega)).mono ?_
    intro e w4 hd
    obtain ⟨u, sz, rfl, h1, h2, h3, h4⟩ := FN.out _ (by omega) _ _ hd
    have H := Lib.hid (And.intro h1 (And.intro h2 (And.intro h3 h4)))
    clear h1 h2 h3 h4 hd
    go_wp2
    go_ret2
    exact ⟨_, ls, u, sz, rfl, H.out.1, hl, H.out.2.1, H.out.2.2.1, H.out.2.2.2⟩

end Go.Proofs.Yteemhhgioljmaaa

/-
  The arguments of PartEngines and StepEngines, drawn.
-/
namespace Go.Proofs.Yteemhhgioljmaaa
open Go.RowKit
set_option linter.unusedVariables false
set_option linter.unusedSimpArgs false
set_option maxRecDepth 100000
attribute [local go_sem ↓] Go.wp_at_zero Go.wp_at_succ

set_option maxHeartbeats 1000000 in
theorem l2Open_any (g K : Nat) (w : World) (hr : Rdr w g K) (hK : K ≤ 1000000) :
    Calls Try.prog 110 #[.pointer (some ⟨g, 0, none⟩)] w fun e w' => ∃ v l, e = .returned v ∧ St w g (K + 23) v l w' ∧ l.length ≤ 8 := by
  have hgw := hr.lt
  go_enter Try.func110, Try.ntmps110
  go_wp2_with fail
  refine (l2Some_any g K _ hr (by omega)).mono ?_
  rintro e w1 ⟨vp, p, rfl, ho1, hp1, hp2, hr1, hg1⟩
  have S1 := Lib.hid (show St w g (K + 20) vp p w1 from ⟨ho1, hr1, hg1, hgw⟩)
  clear ho1 hr1 hg1 hr
  go_wp2_with fail
  refine (l2Bad_any g _ w _ _ _ S1.out hp1 (by omega) (by omega)).mono ?_
  rintro e w2 ⟨v2, l2, rfl, hs2, l8, -⟩
  have S2 := Lib.hid hs2
  clear hs2 S1
  go_wp2
  go_ret
  exact ⟨_, l2, rfl, S2.out, l8⟩
/-- A drawn polynomial, an argument and a width. -/
def DrawnSU (w : World) (e : Ending) (w' : World) : Prop :=
  ∃ v p n k, e = .returned (.tuple #[v, .int .i64 n, .int .i64 k]) ∧ Own w' w.heap.size v p ∧ p.length ≤ 8 ∧ (-9223372036854775808 ≤ n ∧ n ≤ 9223372036854775807) ∧ (-9223372036854775808 ≤ k ∧ k ≤ 9223372036854775807) ∧ Below w.heap.size w w'
set_option maxHeartbeats 1000000 in
theorem drawSetUp_any (v : Value) (code : List Int) (w : World) (hv : Bytes w v code) :
    Calls Try.prog 47 #[v] w (DrawnSU w) := by
  go_enter Try.func47, Try.ntmps47
  go_wp2_with fail
  refine (l9Open_any v code w hv).mono ?_
  rintro e w1 ⟨g, rfl, hg, hr1, hb1⟩
  have z1 := hb1.size
  have H1 := Lib.hid (And.intro hr1 hb1)
  clear hr1 hb1
  go_wp2_with fail
  refine (l2Open_any g 0 _ H1.out.1 (by omega)).mono ?_
  rintro e w2 ⟨vp, p, rfl, hs2, l8⟩
  have S2 := Lib.hid hs2
  clear hs2
  go_wp2_with fail
  refine (l2Number_any g _ w1 _ _ _ S2.out (by omega)).mono ?_
  rintro e w3 ⟨n, rfl, n1, n2, hs3⟩
  have S3 := Lib.hid hs3
  clear hs3 S2
  go_wp2_with fail
  refine (pick_st 3 S3.out (by omega) (by omega)).mono ?_
  rintro e w4 ⟨q, rfl, qa, qb, hs4⟩
  have S4 := Lib.hid hs4
  clear hs4 S3
  by_cases hq : 0 < q
  · go_wp2
    refine bodyPost_ret (v := .tuple #[vp, .int .i64 n, .int .i64 8]) (by simp [results, Try.results47, go_sem]) rfl ⟨_, p, n, 8, rfl, S4.out.own.lower z1, l8, ⟨n1, n2⟩, by omega, H1.out.2.trans (grown_below (B := w.heap.size) S4.out.gr (by omega) z1)⟩
  · go_wp2_with fail
    refine (l1Wide_any g _ w1 _ _ _ S4.out (by omega)).mono ?_
    rintro e w5 ⟨k, rfl, k1, k2, hs5⟩
    have S5 := Lib.hid hs5
    clear hs5 S4
    go_wp2
    refine bodyPost_ret (v := .tuple #[vp, .int .i64 n, .int .i64 k]) (by simp [results, Try.results47, go_sem]) rfl ⟨_, p, n, k, rfl, S5.out.own.lower z1, l8, ⟨n1, n2⟩, ⟨k1, k2⟩, H1.out.2.trans (grown_below (B := w.heap.size) S5.out.gr (by omega) z1)⟩
/-- The drawn arguments of PartEngines. -/
def DrawnPE (w : World) (e : Ending) (w' : World) : Prop :=
  ∃ v p n u sz k, e = .returned (.tuple #[v, .int .i64 n, u, .int .i64 k]) ∧ Ints w' v p ∧ p.length ≤ 8 ∧ Ints w' u sz ∧ sz.length ≤ 4 ∧ (-9223372036854775808 ≤ n ∧ n ≤ 9223372036854775807) ∧ (-9223372036854775808 ≤ k ∧ k ≤ 9223372036854775807) ∧ Below w.heap.size w w'
set_option maxHeartbeats 1000000 in
theorem drawPE_any (v : Value) (code : List Int) (w : World) (hv : Bytes w v code) :
    Calls Try.prog 38 #[v] w (DrawnPE w) := by
  have HV := Lib.hid hv
  clear hv
  go_enter Try.func38, Try.ntmps38
  go_wp2_with fail
  refine (l9Open_any v code w HV.out).mono ?_
  rintro e w1 ⟨g, rfl, hg, hr1, hb1⟩
  have z1 := hb1.size
  have lg := hr1.lt
  have H1 := Lib.hid (And.intro hr1 (And.intro hb1 (HV.out.bel hb1)))
  clear hr1 hb1
  go_wp2_with fail
  refine (drawSetUp_any v code w1 H1.out.2.2).mono ?_
  rintro e w2 ⟨vp, p, n, k, rfl, ho2, p8, nb, kb, hb2⟩
  have z2 := hb2.size
  have H2 := Lib.hid (And.intro ho2 (And.intro (H1.out.1.bel hb2) (bel_trans H1.out.2.1 hb2)))
  clear ho2 hb2
  go_wp2_with fail
  refine (num_any g _ _ [2, 3, 1, 4, 0] _ (H2.out.2.1.bel (bel_alloc _ _)) (by omega) (lit_own _ [2, 3, 1, 4, 0] w2.heap.size 0 rfl (by omega) (by simp) (wf_lit (by simp))).ints (by simp) (lit_ne (by omega))).mono ?_
  rintro e w3 ⟨m, rfl, hm, hr3, hg3⟩
  have hm' : 0 ≤ m ∧ m ≤ 4 := by simp at hm; omega
  obtain ⟨m, rfl⟩ : ∃ q : Nat, m = q := ⟨m.toNat, by omega⟩
  have z3 := hg3.size
  simp at z3
  have H3 := Lib.hid (And.intro ((H2.out.1.bel (bel_alloc _ _)).far hg3 (fun j hj => by injection hj with hj; omega)) (And.intro hr3 ((bel_trans H2.out.2.2 (bel_alloc _ _)).trans (grown_below (B := w.heap.size) hg3 (by omega) (by simp; omega)))))
  clear hr3 hg3 hm
  go_wp2_with fail
  refine (l7Numbers_any g _ m _ H3.out.2.1 (by omega) (by omega)).mono ?_
  rintro e w4 ⟨u, sz, rfl, ho4, hl4, hr4, hg4⟩
  have H4 := Lib.hid (And.intro (H3.out.1.far hg4 (fun j hj => by injection hj with hj; omega)) (And.intro ho4.ints (H3.out.2.2.trans (grown_below (B := w.heap.size) hg4 (by omega) (by omega)))))
  clear ho4 hr4 hg4
  go_wp2
  refine bodyPost_ret (v := .tuple #[vp, .int .i64 n, u, .int .i64 k]) (by simp [results, Try.results38, go_sem]) rfl ⟨_, p, n, _, sz, k, rfl, H4.out.1.ints, p8, H4.out.2.1, by omega, nb, kb, H4.out.2.2⟩
/-- The drawn arguments of StepEngines. -/
def DrawnSE (w : World) (e : Ending) (w' : World) : Prop :=
  ∃ v p n m k, e = .returned (.tuple #[v, .int .i64 n, .int .i64 m, .int .i64 k]) ∧ Ints w' v p ∧ p.length ≤ 8 ∧ (-9223372036854775808 ≤ n ∧ n ≤ 9223372036854775807) ∧ (-1 ≤ m ∧ m ≤ 11) ∧ (-9223372036854775808 ≤ k ∧ k ≤ 9223372036854775807) ∧ Below w.heap.size w w'
set_option maxHeartbeats 1000000 in
theorem drawSE_any (v : Value) (code : List Int) (w : World) (hv : Bytes w v code) :
    Calls Try.prog 42 #[v] w (DrawnSE w) := by
  have HV := Lib.hid hv
  clear hv
  go_enter Try.func42, Try.ntmps42
  go_wp2_with fail
  refine (l9Open_any v code w HV.out).mono ?_
  rintro e w1 ⟨g, rfl, hg, hr1, hb1⟩
  have z1 := hb1.size
  have lg := hr1.lt
  have H1 := Lib.hid (And.intro hr1 (And.intro hb1 (HV.out.bel hb1)))
  clear hr1 hb1
  go_wp2_with fail
  refine (drawSetUp_any v code w1 H1.out.2.2).mono ?_
  rintro e w2 ⟨vp, p, n, k, rfl, ho2, p8, nb, kb, hb2⟩
  have z2 := hb2.size
  have H2 := Lib.hid (And.intro ho2 (And.intro (H1.out.1.bel hb2) (bel_trans H1.out.2.1 hb2)))
  clear ho2 hb2
  go_wp2_with fail
  refine (pick_any g _ 4 _ H2.out.2.1 (by omega) (by omega)).mono ?_
  rintro e w3 ⟨m, rfl, hm, -, hr3, hg3⟩
  have hm' := hm (by omega)
  have z3 := hg3.size
  have H3 := Lib.hid (And.intro (H2.out.1.far hg3 (fun j hj => by injection hj with hj; omega)) (And.intro hr3 (H2.out.2.2.trans (grown_below (B := w.heap.size) hg3 (by omega) (by omega)))))
  clear hr3 hg3 hm H2
  go_wp2_with fail
  refine (pick_any g _ 16 _ H3.out.2.1 (by omega) (by omega)).mono ?_
  rintro e w4 ⟨q, rfl, -, -, hr4, hg4⟩
  have z4 := hg4.size
  have H4 := Lib.hid (And.intro (H3.out.1.far hg4 (fun j hj => by injection hj with hj; omega)) (And.intro hr4 (H3.out.2.2.trans (grown_below (B := w.heap.size) hg4 (by omega) (by omega)))))
  clear hr4 hg4 H3
  cases q0 : (q == 0)
  · go_wp2
    refine bodyPost_ret (v := .tuple #[vp, .int .i64 n, .int .i64 (1 + m), .int .i64 k]) (by simp [results, Try.results42, go_sem]) rfl ⟨_, p, n, 1 + m, k, rfl, H4.out.1.ints, p8, nb, by omega, kb, H4.out.2.2⟩
  · go_wp2_with fail
    refine (num_any g _ _ [0, 10, 11, -1] _ (H4.out.2.1.bel (bel_alloc _ _)) (by omega) (lit_own _ [0, 10, 11, -1] w4.heap.size 0 rfl (by omega) (by simp) (wf_lit (by simp))).ints (by simp) (lit_ne (by omega))).mono ?_
    rintro e w5 ⟨x, rfl, hx, hr5, hg5⟩
    have hx' : -1 ≤ x ∧ x ≤ 11 := by simp at hx; omega
    have H5 := Lib.hid (And.intro ((H4.out.1.bel (bel_alloc _ _)).far hg5 (fun j hj => by injection hj with hj; omega)) ((H4.out.2.2.trans (grown_below (B := w.heap.size) (only_alloc (World.grownBy.refl w4 (some g)) _) (by omega) (by omega))).trans (grown_below (B := w.heap.size) hg5 (by omega) (by simp; omega))))
    clear hr5 hg5 hx
    go_wp2
    refine bodyPost_ret (v := .tuple #[vp, .int .i64 n, .int .i64 x, .int .i64 k]) (by simp [results, Try.results42, go_sem]) rfl ⟨_, p, n, x, k, rfl, H5.out.1.ints, p8, nb, hx', kb, H5.out.2⟩

end Go.Proofs.Yteemhhgioljmaaa

/-
  Engines of polynomials, plainly: a turn is the next argument.
-/
namespace Go.Proofs.Yteemhhgioljmaaa
open Go.RowKit
set_option linter.unusedVariables false
set_option linter.unusedSimpArgs false

theorem cv_colOf (x : Int) (k : Nat) : cv (colOf x k) = md x (ten k) := cv_col (md_lt x (ten_pos k))
/-- What a column shows is the number, if it fits. -/
theorem sg_colOf {x : Int} {k : Nat} (hk : 1 ≤ k) (h : fits x k = true) : sg (colOf x k) = x := by
  have hf := inB_true.1 h
  have hT := ten_half hk
  have hc := md_cast x (ten_pos k)
  have hl := md_lt x (ten_pos k)
  have hcv := cv_colOf x k
  have hs := colOf_size x k
  rcases Int.le_total 0 x with h0 | h0
  · have hm : x % ((ten k : Nat) : Int) = x := Int.emod_eq_of_lt h0 (by omega)
    rw [sg_lo (by rw [hs, hcv]; omega), hcv]; omega
  · by_cases hz : x = 0
    · subst hz
      have hm : (0 : Int) % ((ten k : Nat) : Int) = 0 := Int.zero_emod _
      rw [sg_lo (by rw [hs, hcv]; have := ten_pos k; omega), hcv]; omega
    · have hm : x % ((ten k : Nat) : Int) = x + (ten k : Nat) := by
        rw [← Int.add_emod_right]
        exact Int.emod_eq_of_lt (by omega) (by omega)
      rw [sg_hi (by rw [hs, hcv]; omega), hcv, hs]; omega
theorem md_add (a b : Int) {T : Nat} (hT : 1 ≤ T) : (md a T + md b T) % T = md (a + b) T := by
  have h1 := md_cast a hT
  have h2 := md_cast b hT
  have h3 := md_cast (a + b) hT
  have h4 : (((md a T + md b T) % T : Nat) : Int) = (((md a T : Nat) : Int) + ((md b T : Nat) : Int)) % (T : Int) := by
    rw [Int.natCast_emod, Int.natCast_add]
  rw [h1, h2, ← Int.add_emod, ← h3] at h4
  exact Int.ofNat.inj h4
theorem addC_colOf (a b : Int) (k : Nat) : addC (colOf a k) (colOf b k) = colOf (a + b) k := by
  unfold addC
  rw [colOf_size, cv_colOf, cv_colOf, md_add a b (ten_pos k)]
  rfl

/-- The engine of a polynomial at an argument, whatever fits. -/
def rawE (p : List Int) (n : Int) (k : Nat) : List ByteArray := genS (fun i => colOf (evalI (p.drop i) n) k) p.length
theorem rawE_length (p : List Int) (n : Int) (k : Nat) : (rawE p n k).length = p.length := genS_length _ _
theorem rawE_at {p : List Int} {n : Int} {k i : Nat} (h : i < p.length) : sat (rawE p n k) i = colOf (evalI (p.drop i) n) k := at_genS h
theorem eval_next {p : List Int} (hp : ∀ k, k < p.length → -100000 ≤ at_ p k ∧ at_ p k ≤ 100000) (h7 : p.length ≤ 7) {n : Int} (h0 : -200 ≤ n) (h1 : n ≤ 205) :
    evalI p (n + 1) = evalI p n + evalI (p.drop 1) n := by
  have b1 := eval_bd hp h7 h0 (show n ≤ 206 by omega)
  have b2 := eval_bd hp h7 (show -200 ≤ n + 1 by omega) (show n + 1 ≤ 206 by omega)
  have e := eval_step hp h7 h0 h1
  rw [IntWalk.wrap64_in _ (by omega)] at e
  omega
theorem turn_raw {p : List Int} (hp : ∀ k, k < p.length → -100000 ≤ at_ p k ∧ at_ p k ≤ 100000) (h7 : p.length ≤ 7) {n : Int} (h0 : -200 ≤ n) (h1 : n ≤ 205) (k : Nat) :
    turnS (rawE p n k) = rawE p (n + 1) k := by
  apply slist_ext
  · rw [turnS_length, rawE_length, rawE_length]
  · intro i hi
    rw [turnS_length, rawE_length] at hi
    have e := eval_next (poly_drop hp i) (by rw [List.length_drop]; omega) h0 h1
    rw [List.drop_drop] at e
    rw [turnS_at (by rw [rawE_length]; exact hi), rawE_length, rawE_at hi, rawE_at hi]
    by_cases h : i + 1 < p.length
    · rw [if_pos h, rawE_at h, addC_colOf, e]
    · rw [if_neg h, e]
      have hn : p.drop (i + 1) = [] := List.drop_eq_nil_of_le (by omega)
      rw [hn]
      show _ = colOf (evalI (List.drop i p) n + 0) k
      rw [Int.add_zero]
theorem turns_raw {p : List Int} (hp : ∀ k, k < p.length → -100000 ≤ at_ p k ∧ at_ p k ≤ 100000) (h7 : p.length ≤ 7) {n : Int} (h0 : -200 ≤ n) (k : Nat) :
    ∀ m : Nat, n + (m : Int) ≤ 206 → turnN (rawE p n k) m = rawE p (n + (m : Int)) k
  | 0 => fun _ => by rw [turnN_zero]; simp
  | m + 1 => fun h => by
    rw [turnN_succ, turns_raw hp h7 h0 k m (by omega), turn_raw hp h7 (by omega) (by omega)]
    congr 1
    omega
/-- What an engine that is set up is. -/
theorem set_raw {p : List Int} {n : Int} {k : Int} (h : setOk p n k = true) : argOk p n = true ∧ (1 ≤ k ∧ k ≤ 12) ∧ setE p n k = rawE p n k.toNat ∧ ∀ i, i < p.length → fits (evalI (p.drop i) n) k.toNat = true := by
  have hs : shiftOk p n = true := by
    cases hq : shiftOk p n
    · rw [setOk_s hq] at h; cases h
    · rfl
  have ha : argOk p n = true := by
    cases hq : argOk p n
    · rw [(shift_no hq).1] at hs; cases hs
    · rfl
  obtain ⟨e1, e2⟩ := shift_yes ha
  have hq : polyOk (shiftI p n) = true := by rw [← e1]; exact hs
  rw [chkL_yes hq] at e2
  have hw : 1 ≤ k ∧ k ≤ 12 := by
    cases hw : inB k 1 12
    · rw [setOk_w hw (shiftL_len.2 hs)] at h; cases h
    · exact inB_true.1 hw
  have hc : ∀ i, i < p.length → colOfOk (evalI (p.drop i) n) k = true := by
    intro i hi
    cases hco : colOfOk (evalI (p.drop i) n) k
    · have hl : i < (shiftL p n).length := by rw [e2, shiftI_length]; exact hi
      rw [setOk_at hl (by rw [e2, shiftI, at_gen hi]; exact hco)] at h; cases h
    · rfl
  have hkn : ((k.toNat : Nat) : Int) = k := by omega
  refine ⟨ha, hw, ?_, fun i hi => ?_⟩
  · rw [set_yes h]
    apply slist_ext
    · rw [colsTo_length, e2, shiftI_length, rawE_length]
    · intro i hi
      rw [colsTo_length, e2, shiftI_length] at hi
      rw [rawE_at hi]
      unfold colsTo
      rw [at_genS (by rw [e2, shiftI_length]; exact hi), e2, shiftI, at_gen hi]
      unfold colOfS
      rw [if_pos (hc i hi)]
  · have := hc i hi
    rw [← hkn, colOfOk_nat _ (by omega)] at this
    exact this
/-- What an engine that is set up shows after turns. -/
theorem set_turns {p : List Int} {n : Int} {k : Int} (h : setOk p n k = true) {m : Nat} (hm : n + (m : Int) ≤ 206) : turnN (setE p n k) m = rawE p (n + (m : Int)) k.toNat := by
  obtain ⟨ha, -, e, -⟩ := set_raw h
  obtain ⟨hp, h0, h1⟩ := argOk_true.1 ha
  obtain ⟨p1, p7, hb⟩ := polyOk_true.1 hp
  rw [e, turns_raw hb p7 h0 _ m hm]
theorem set_shows {p : List Int} {n : Int} {k : Int} (h : setOk p n k = true) {m : Nat} (hm : n + (m : Int) ≤ 206) (hf : fits (evalI p (n + (m : Int))) k.toNat = true) : sg (sat (turnN (setE p n k) m) 0) = evalI p (n + (m : Int)) := by
  obtain ⟨ha, hw, e, -⟩ := set_raw h
  obtain ⟨p1, -, -⟩ := polyOk_true.1 (argOk_true.1 ha).1
  rw [set_turns h hm, rawE_at (by omega), List.drop_zero]
  exact sg_colOf (by omega) hf
theorem setE_ok {p : List Int} {n : Int} {k : Int} (h : setOk p n k = true) : engOk (setE p n k) = true := by
  obtain ⟨ha, hw, e, -⟩ := set_raw h
  obtain ⟨p1, p7, -⟩ := polyOk_true.1 (argOk_true.1 ha).1
  rw [e]
  refine engOk_iff.2 ⟨by rw [rawE_length]; exact p1, by rw [rawE_length]; exact p7, fun i hi => ?_⟩
  rw [rawE_length] at hi
  rw [rawE_at hi, rawE_at (by omega)]
  exact ⟨colOk_colOf _ (by omega) (by omega), by rw [colOf_size, colOf_size]⟩

end Go.Proofs.Yteemhhgioljmaaa

/-
  Plain laws of parts: each part's engine is the first one after turns, and together they print what it prints.
-/
namespace Go.Proofs.Yteemhhgioljmaaa
open Go.RowKit
set_option linter.unusedVariables false
set_option linter.unusedSimpArgs false

theorem turnN_plus (e : List ByteArray) (k n : Nat) : turnN (turnN e k) n = turnN e (k + n) := by
  induction n with
  | zero => rfl
  | succ n ih => rw [turnN_succ, ih]; rfl
theorem runS_plus (e : List ByteArray) (k n : Nat) : runS e (k + n) = runS e k ++ runS (turnN e k) n := by
  induction n with
  | zero => simp [runS, gen]
  | succ n ih =>
    rw [show k + (n + 1) = (k + n) + 1 by omega, runS_succ, runS_succ, ih, List.append_assoc, turnN_plus]
theorem peOk_true {p : List Int} {a : Int} {sz : List Int} {k : Int} (h : peOk p a sz k = true) : sizesOk sz = true ∧ (∀ i, i < sz.length → setOk p (a + sumTo sz i) k = true) ∧ peL p a sz k = genE (fun i => setE p (a + sumTo sz i) k) sz.length := by
  have h' := h
  simp only [peOk, Bool.and_eq_true] at h'
  exact ⟨h'.1.1, allAt_true.1 h'.2, by simp [peL, h]⟩
/-- The law's facts. -/
theorem part_law {p : List Int} {a : Int} {sz : List Int} {k : Int} (h : peOk p a sz k = true) :
    engOk (setE p a k) = true ∧ (∀ i, i < sz.length → eat (peL p a sz k) i = turnN (setE p a k) (sumTo sz i).toNat) ∧ (peL p a sz k).length = sz.length ∧
    rpOk (peL p a sz k) sz = true ∧ runOk (setE p a k) (sumTo sz sz.length) = true ∧ rpL (peL p a sz k) sz = runL (setE p a k) (sumTo sz sz.length) := by
  obtain ⟨hs, hset, hl⟩ := peOk_true h
  obtain ⟨⟨s1, s10⟩, hsz, hsum⟩ := sizesOk_true.1 hs
  have h0 : setOk p a k = true := by
    have := hset 0 (by omega)
    rw [show a + sumTo sz 0 = a by show a + 0 = a; omega] at this
    exact this
  have hlen : (peL p a sz k).length = sz.length := by rw [hl, genE_length]
  have hsb : ∀ i, i ≤ sz.length → 0 ≤ sumTo sz i ∧ sumTo sz i ≤ 60 := fun i hi => ⟨(sumTo_bd i (fun q hq => hsz q (by omega))).1, Int.le_trans (sumTo_mono (fun q hq => (hsz q hq).1) hi (Nat.le_refl _)) hsum⟩
  have ht : ∀ i, i < sz.length → eat (peL p a sz k) i = turnN (setE p a k) (sumTo sz i).toNat := by
    intro i hi
    have hsi := hset i hi
    have hb := hsb i (by omega)
    have e1 : (((sumTo sz i).toNat : Nat) : Int) = sumTo sz i := by omega
    have ha2 := (argOk_true.1 (set_raw hsi).1).2
    rw [hl, eat_genE hi, set_turns h0 (by omega), e1]
    exact (set_raw hsi).2.2.1
  have hall : allOk (peL p a sz k) = true := allOk_true.2 ⟨by omega, by omega, fun i hi => by rw [hlen] at hi; rw [ht i hi]; exact turnN_ok (setE_ok h0) _⟩
  have hrp := rp_yes hall hs hlen
  have hbt := hsb sz.length (Nat.le_refl _)
  have hro : runOk (setE p a k) (sumTo sz sz.length) = true := by simp [runOk, setE_ok h0, inB_true.2 hbt]
  refine ⟨setE_ok h0, ht, hlen, hrp.1, hro, ?_⟩
  have hrl : runL (setE p a k) (sumTo sz sz.length) = runS (setE p a k) (sumTo sz sz.length).toNat := by simp [runL, hro]
  rw [hrp.2, hrl, hlen]
  have key : ∀ i, i ≤ sz.length → partsTo (peL p a sz k) sz i = runS (setE p a k) (sumTo sz i).toNat := by
    intro i
    induction i with
    | zero => intro _; rfl
    | succ i ih =>
      intro hi
      have hb1 := hsb i (by omega)
      have hb2 := hsb (i + 1) hi
      have hz := hsz i (by omega)
      have hr : runL (eat (peL p a sz k) i) (at_ sz i) = runS (eat (peL p a sz k) i) (at_ sz i).toNat := by
        have : runOk (eat (peL p a sz k) i) (at_ sz i) = true := by
          rw [ht i (by omega)]
          simp [runOk, turnN_ok (setE_ok h0), inB_true.2 hz]
        simp [runL, this]
      rw [partsTo_succ, ih (by omega), hr, ht i (by omega), ← runS_plus]
      congr 1
      rw [sumTo_succ]
      omega
  exact key _ (Nat.le_refl _)

end Go.Proofs.Yteemhhgioljmaaa

/-
  The law FnPartEngines, walked.
-/
namespace Go.Proofs.Yteemhhgioljmaaa
open Go.RowKit
set_option linter.unusedVariables false
set_option linter.unusedSimpArgs false
set_option maxRecDepth 100000
attribute [local go_sem ↓] Go.wp_at_zero Go.wp_at_succ

set_option maxHeartbeats 8000000 in
theorem lawPartEnginesF (v : Value) (code : List Int) (w : World) (hv : Bytes w v code) :
    Calls Try.prog 8 #[v] w fun e w' => e = .returned (.bool true) ∧ Below w.heap.size w w' := by
  have HV := Lib.hid hv
  obtain ⟨A_c, c_c, rfl, -, hc1, -⟩ := hv.open_
  clear hv
  by_cases hbig : (1048576 : Int) < (code.length : Int)
  · go_enter Try.func8, Try.ntmps8
    go_wp2
    go_ret
    exact ⟨rfl, Below.refl _ _⟩
  · go_enter Try.func8, Try.ntmps8
    go_wp2_with fail
    refine (drawPE_any _ code _ HV.out).mono ?_
    rintro e w0 ⟨vp, p, a, vs, sz, kk, rfl, hp, p8, hz, hzl, ab, kb, b⟩
    have HP := Lib.hid hp
    have HZ := Lib.hid hz
    have HB := Lib.hid b
    clear b
    obtain ⟨Ap, cp, rfl, -, -, -⟩ := hp.open_
    obtain ⟨Az, cz, rfl, -, -, -⟩ := hz.open_
    clear hp hz
    go_wp2_with fail
    refine (implPE_any _ _ p a sz kk _ HP.out HZ.out (by omega) ab).mono ?_
    rintro e w1 ⟨r1, rfl, o1, b⟩
    replace HP := Lib.hid (HP.out.bel b)
    replace HZ := Lib.hid (HZ.out.bel b)
    replace HB := Lib.hid (bel_trans HB.out b)
    have L1 := Lib.hid o1.engs
    obtain ⟨AL, cL, xs, rfl, -, -, -, -⟩ := o1.engs.open_
    clear b o1
    go_wp2_with fail
    refine (specPE_any _ _ p a sz kk _ HP.out HZ.out (by omega) ab).mono ?_
    rintro e w2 ⟨r2, rfl, o2, b⟩
    replace HZ := Lib.hid (HZ.out.bel b)
    replace HB := Lib.hid (bel_trans HB.out b)
    replace L1 := Lib.hid (L1.out.bel b)
    have L2 := Lib.hid o2
    obtain ⟨AW, cW, ys, rfl, -, -, -, -⟩ := o2.open_
    clear b o2 HP
    cases hok : peOk p a sz kk
    · have HO := Lib.hid hok
      clear hok
      go_wp2
      all_goals
        go_ret
        exact ⟨rfl, HB.out⟩
    · obtain ⟨f1, f2, f3, f4, f5, f6⟩ := part_law hok
      obtain ⟨hs, hset, -⟩ := peOk_true hok
      obtain ⟨⟨s1, s10⟩, hsz, hsum⟩ := sizesOk_true.1 hs
      have hsb : ∀ i, i ≤ sz.length → 0 ≤ sumTo sz i ∧ sumTo sz i ≤ 60 := fun i hi => ⟨(sumTo_bd i (fun q hq => hsz q (by omega))).1, Int.le_trans (sumTo_mono (fun q hq => (hsz q hq).1) hi (Nat.le_refl _)) hsum⟩
      have har := (argOk_true.1 (set_raw (hset 0 (by omega))).1).2
      rw [show a + sumTo sz 0 = a by show a + 0 = a; omega] at har
      obtain ⟨L, hL⟩ : ∃ L, L = peL p a sz kk := ⟨_, rfl⟩
      rw [← hL] at L1 L2 f2 f3 f4 f6 ⊢
      obtain ⟨e0, he0⟩ : ∃ e0, e0 = setE p a kk := ⟨_, rfl⟩
      rw [← he0] at f1 f2 f5 f6
      have HF := Lib.hid (And.intro f1 (And.intro f2 (And.intro f4 (And.intro f5 (And.intro f6 (And.intro hsb hsz))))))
      have HN := Lib.hid f3
      have n1 : 1 ≤ L.length := by omega
      have n4 : L.length ≤ 4 := by omega
      clear hok f1 f2 f3 f4 f5 f6 hs hset hsz hsum hsb hL he0 s1 s10
      go_wp2_with fail
      go_loopw [11, 12] (fun x i wr => ∃ k : Nat, k ≤ L.length ∧ i = .int .i64 k ∧ x = .int .i64 (a + sumTo sz k) ∧ Below w2.heap.size w2 wr) (fun _ i _ => L.length - (intOf i).toNat)
      case atStart => exact ⟨0, Nat.zero_le _, rfl, by show _ = Value.int .i64 (a + 0); rw [Int.add_zero], Below.refl _ _⟩
      case round =>
        obtain ⟨k, hk, rfl, rfl, hb⟩ := hrel
        have hz := hb.size
        have hsk := HF.out.2.2.2.2.2.1 k (by have := HN.out; omega)
        obtain ⟨s, hs⟩ : ∃ s : Nat, sumTo sz k = (s : Int) := ⟨(sumTo sz k).toNat, by omega⟩
        have hw1 : IntKind.i64.wrap (a + (s : Int) - a) = (s : Int) := by rw [show a + (s : Int) - a = (s : Int) by omega, IntWalk.i64_in] <;> omega
        have hw2 : IntKind.i64.wrap (s : Int) = (s : Int) := by rw [IntWalk.i64_in] <;> omega
        obtain ⟨A', cc', xs', e', -, -, hrd, hst⟩ := L1.out.open_
        injection e' with q1 q2 q3
        subst q1 q3
        obtain ⟨b, o, rfl, hbb, hcell⟩ := hrd (by omega)
        have hs0 := hst 0 (by omega)
        obtain ⟨A0, c0, hx0, -, -, -⟩ := hs0.open_
        have d0 := hcell 0 (by omega)
        rw [hx0] at d0 hs0
        rw [Nat.add_zero] at d0
        have ck0 : wr.cell? ⟨b, o, none⟩ = _ := (hb.cell (by exact hbb)).trans d0
        have HS0 := Lib.hid (hs0.bel hb)
        have hE0 : eat L 0 = e0 := (HF.out.2.1 0 (by have := HN.out; omega)).trans rfl
        have hok0 : engOk (eat L 0) = true := by rw [hE0]; exact HF.out.1
        have hs300 : s ≤ 300 := by omega
        by_cases hlt : k < L.length
        · have hsi := hst k hlt
          obtain ⟨Ai, ci, hxi, -, -, -⟩ := hsi.open_
          have di := hcell k hlt
          rw [hxi] at di hsi
          obtain ⟨A', cc', ys', e', -, -, hrd2, hst2⟩ := L2.out.open_
          injection e' with q1 q4 q3
          subst q1 q3
          obtain ⟨b2, o2, rfl, hbb2, hcell2⟩ := hrd2 (by omega)
          have hsj := hst2 k hlt
          obtain ⟨Aj, cj, hxj, -, -, -⟩ := hsj.open_
          have dj := hcell2 k hlt
          rw [hxj] at dj hsj
          obtain ⟨Az', cz', e', -, -, hrdz⟩ := HZ.out.open_
          injection e' with q1 q5 q3
          subst q1 q3
          obtain ⟨bz, oz, rfl, hbz, hcellz⟩ := hrdz.ints (by have := HN.out; omega)
          have D := Lib.hid (And.intro di (And.intro dj (And.intro (hcellz k (by have := HN.out; omega)) (And.intro hsi hsj))))
          have HEQ := Lib.hid (show eqS (eat L k) (turnN (eat L 0) s) = true from by rw [hE0, HF.out.2.1 k (by have := HN.out; omega), hs, Int.toNat_natCast]; exact eqS_self _)
          have hkz : k < sz.length := by have := HN.out; omega
          have hss := sumTo_succ sz k
          have hzk := HF.out.2.2.2.2.2.2 k hkz
          rw [hs] at hss ⊢
          have HSS := Lib.hid hss
          have HBW := Lib.hid hb
          clear hss hcell hcell2 hrd hrd2 hst hst2 hsi hsj hs0 di dj d0 hrdz hcellz hxi hxj hx0 hb hsk hE0 q2 q4 q5
          go_wp2_with fail
          refine (deTurned_any _ (eat L 0) s _ HS0.out hok0 hs300).mono ?_
          rintro e w5 ⟨r5, rfl, o5, b5⟩
          obtain ⟨A5, c5, rfl, -, -, -⟩ := o5.strs.open_
          have K13 := Blk.new' w5 29 (.slice A5 (turnN (eat L 0) s).length c5) _ rfl
          have ba := bel_alloc w5 (.cells #[Value.slice A5 (turnN (eat L 0) s).length c5] 29)
          have O5 := Lib.hid (o5.strs.bel ba)
          have B5 := Lib.hid (bel_trans HBW.out (bel_trans b5 ba))
          clear o5 b5 ba ck0
          obtain ⟨kc, kf⟩ := K13.one
          have hg5 : w5.heap.size < (w5.alloc (.cells #[Value.slice A5 (turnN (eat L 0) s).length c5] 29)).heap.size := by simp
          go_wp2_with fail
          generalize hW : w5.alloc (.cells #[Value.slice A5 (turnN (eat L 0) s).length c5] 29) = W6 at *
          clear hW
          have ci' : W6.cell? ⟨b, o + k, none⟩ = _ := (B5.out.cell (by exact hbb)).trans D.out.1
          have cj' : W6.cell? ⟨b2, o2 + k, none⟩ = _ := (B5.out.cell (by exact hbb2)).trans D.out.2.1
          have HSI := Lib.hid (D.out.2.2.2.1.bel B5.out)
          have HSJ := Lib.hid (D.out.2.2.2.2.bel B5.out)
          have z6 := B5.out.size
          have y1 : b < W6.heap.size := by omega
          have y2 : b2 < W6.heap.size := by omega
          have tok1 : True := trivial
          have tok2 : True := trivial
          go_region_held3 (fun w' => w'.cell? ⟨b, o + k, none⟩ = some (.slice Ai (eat L k).length ci) ∧ w'.cell? ⟨b2, o2 + k, none⟩ = some (.slice Aj (eat L k).length cj) ∧ w'.cell? ⟨w5.heap.size, 0, none⟩ = some (.slice A5 (turnN (eat L 0) s).length c5)) (first | exact ⟨ci', cj', kc⟩ | exact ⟨(B8.out.cell (by exact y1)).trans ci', (B8.out.cell (by exact y2)).trans cj', (B8.out.cell (by exact hg5)).trans kc⟩ | exact ⟨(B7.out.cell (by exact y1)).trans ci', (B7.out.cell (by exact y2)).trans cj', (B7.out.cell (by exact hg5)).trans kc⟩ | go_keep) (first
            | ((try go_simp); go_at_call 41; have _t := tok1; go_loud (refine (deSame_any (.slice Ai (eat L k).length ci) (.slice Aj (eat L k).length cj) (eat L k) (eat L k) _ (by first | exact HSI.out | exact HSI.out.bel ((Below.refl _ _).drew)) (by first | exact HSJ.out | exact HSJ.out.bel ((Below.refl _ _).drew))).mono ?_; rw [show eqS (eat L k) (eat L k) = true from eqS_self _]; rintro e w7 ⟨rfl, b7⟩; have B7 := Lib.hid (show Below W6.heap.size W6 w7 from (by first | exact b7 | exact bel_trans ((Below.refl _ _).drew) b7)); clear tok1 b7; (try dsimp only)))
            | ((try go_simp); go_at_call 41; have _t := tok2; go_loud (refine (deSame_any (.slice Ai (eat L k).length ci) (.slice A5 (turnN (eat L 0) s).length c5) (eat L k) (turnN (eat L 0) s) _ (by first | exact HSI.out.bel B7.out | exact HSI.out.bel (bel_trans B7.out ((Below.refl _ _).drew))) (by first | exact O5.out.bel B7.out | exact O5.out.bel (bel_trans B7.out ((Below.refl _ _).drew)))).mono ?_; rw [HEQ.out]; rintro e w8 ⟨rfl, b8⟩; have B8 := Lib.hid (show Below W6.heap.size W6 w8 from (by first | exact bel_trans B7.out b8 | exact bel_trans B7.out (bel_trans ((Below.refl _ _).drew) b8))); clear tok2 b8; (try dsimp only)))
            | fail)
          all_goals
            have HX := Lib.hid (bel_trans B5.out B8.out)
            have cz' : w8.cell? ⟨bz, oz + k, none⟩ = _ := (HX.out.cell (by exact hbz)).trans D.out.2.2.1
            clear ci' cj' kc kf
            go_wp2
            go_roundw
            case rel => exact ⟨k + 1, by omega, by go_num, by rw [HSS.out, ← Int.add_assoc], HX.out⟩
            case measure => simp [intOf]; omega
        · have hkl : k = L.length := by omega
          subst hkl
          have HX := Lib.hid hb
          have HBX := Lib.hid (bel_trans HB.out hb)
          have L3 := Lib.hid (L1.out.bel hb)
          have Z3 := Lib.hid (HZ.out.bel hb)
          have HE6 := HF.out.2.2.2.2.1
          have hr5 := HF.out.2.2.2.1
          rw [← HN.out, hs] at HE6 hr5
          have HR := Lib.hid (And.intro HF.out.2.2.1 (And.intro HE6 hr5))
          rw [hs]
          have HE0 := Lib.hid hE0
          have HOK0 := Lib.hid hok0
          clear hb hcell hrd hst hs0 d0 hx0 HE6 hr5 hsk hE0 hok0 hs
          go_wp2_with fail
          refine (implParts_any _ _ L sz _ L3.out Z3.out (by omega)).mono ?_
          rw [HR.out.1]
          rintro e w5 ⟨r5, rfl, o5, b5⟩
          obtain ⟨A5, c5, rfl, -, -, -⟩ := o5.ints.open_
          have O5 := Lib.hid o5.ints
          have ck1 : w5.cell? ⟨b, o, none⟩ = _ := (b5.cell (by show b < wr.heap.size; omega)).trans ck0
          have HS1 := Lib.hid (HS0.out.bel b5)
          replace HBX := Lib.hid (bel_trans HBX.out b5)
          clear o5 b5 ck0
          go_wp2_with fail
          refine (implRun_any _ (eat L 0) (s : Int) _ HS1.out (by omega)).mono ?_
          rw [HE0.out, HR.out.2.2]
          rintro e w6 ⟨r6, rfl, o6, b6⟩
          obtain ⟨A6, c6, rfl, -, -, -⟩ := o6.ints.open_
          have O6 := Lib.hid o6.ints
          replace O5 := Lib.hid (O5.out.bel b6)
          replace HBX := Lib.hid (bel_trans HBX.out b6)
          clear o6 b6 ck1
          go_wp2_with fail
          refine (deInts_any _ _ _ _ _ O5.out O6.out).mono ?_
          rw [HR.out.2.1, show eqL (runL e0 (s : Int)) (runL e0 (s : Int)) = true from eqL_self _]
          rintro e w7 ⟨rfl, b7⟩
          replace HBX := Lib.hid (bel_trans HBX.out b7)
          clear b7
          go_wp2
          go_ret
          exact ⟨rfl, HBX.out⟩

end Go.Proofs.Yteemhhgioljmaaa
