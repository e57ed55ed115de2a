/-
  Drawn engines: l3Bad, l3Open, the arguments of SplitEngine.
-/
import Derived.Test.YteemhhgioljmaaaDrawF
import Derived.Test.YteemhhgioljmaaaTurn
import Derived.Deep.RegionHeld3
namespace Go.Proofs.Yteemhhgioljmaaa
open Go.RowKit
set_option linter.unusedVariables false
set_option linter.unusedSimpArgs false
set_option maxRecDepth 100000
attribute [local go_sem ↓] Go.wp_at_zero Go.wp_at_succ

/-- 'append(x, s)', one string, as a step of a region that draws: x is the call's own. -/
theorem step_app_str {ops : Array Oper} {o : Oper} {a : Act} {K : Act → World → Prop} {Q : Exit → Act → World → Prop} {E : Prop} {w : World} (hgd : o.guard = none) (s x : Operand)
    (ho : o.op = .call { callee := .builtin .append, args := #[s, x], argTypes := #[27, 27] })
    (base : Nat) (v : Value) (l : List ByteArray) (hs : a.eval s = v) (hown : OwnS w base v l) (g c : Nat) (z : ByteArray) (hx : a.eval x = .slice (some ⟨g, 0, none⟩) 1 c)
    (hcell : w.cell? ⟨g, 0, none⟩ = some (.string z)) (hz : z.size ≤ 9223372036854775807) (hl : l.length + 1 ≤ 1099511627776) (hbase : base ≤ w.heap.size)
    (h : ∀ A c' w', OwnS w' base (.slice A (l.length + 1) c') (l ++ [z]) → w.grownBy w' v.ownBlock → ((Value.slice A (l.length + 1) c').ownBlock = v.ownBlock ∨ (Value.slice A (l.length + 1) c').ownBlock = some w.heap.size) → K (a.put o.dst (.slice A (l.length + 1) c')) w') :
    if Region.wanted o (yielded ops a.tmps) = true then Oper.wp Try.prog o a w K Q else E := by
  have hw : Region.wanted o (yielded ops a.tmps) = true := by simp [Region.wanted, hgd]
  rw [if_pos hw]
  obtain ⟨i0, hi, hz0, hz1, hz2⟩ := info_parts Try.infoStr
  obtain ⟨v', w', hrun, h2, h3, _, h5⟩ := run_append_own_at (P := Try.prog) w base 27 o.type 9 i0 _ 1 16 Try.underlying27 hi hz0 hz1 hz2 rfl (by omega) v l.length (sv l) hown.1 ⟨g, 0, none⟩ 1 c [.string z] rfl (by
    intro j u hj
    match j, hj with
    | 0, hj => simp at hj; subst hj; simpa [Addr.add] using hcell) (by intro u hu; simp at hu; subst hu; rfl) (by unfold maxLen; omega) (by omega) hbase
  have ho' : OwnS w' base v' (l ++ [z]) := by
    refine ⟨?_, ?_, by unfold maxLen; simp; omega⟩
    · rw [sv_append, List.length_append]; exact h2
    · intro n hn
      rcases List.mem_append.1 hn with hn | hn
      · exact hown.2.1 n hn
      · simp at hn; subst hn; exact hz
  obtain ⟨A', c', hv, _, _, _⟩ := ho'.strs.open_
  rw [show (l ++ [z]).length = l.length + 1 by simp] at hv
  subst hv
  unfold Oper.wp execOp
  simp only [ho, resolve, invoke, builtin, Sem.run_bind, Sem.run_pure, Result.andThen_ok, List.map_toArray, List.map_cons, List.map_nil, hs, hx, hrun]
  exact h _ _ w' ho' h3 h5

/-- Where drawing an engine stands. -/
structure StS (w : World) (g K : Nat) (v : Value) (l : List ByteArray) (W : World) : Prop where
  own : OwnS W w.heap.size v l
  rdr : Rdr W g K
  gr : w.grownBy W (some g)
  lt : g < w.heap.size
theorem StS.bel {w : World} {g K : Nat} {v : Value} {l : List ByteArray} {W W' : World} (h : StS w g K v l W) (hb : Below W.heap.size W W') : StS w g K v l W' :=
  ⟨h.own.bel hb, h.rdr.bel hb, only_below h.gr hb, h.lt⟩
theorem StS.grown {w : World} {g K K' : Nat} {v : Value} {l : List ByteArray} {W W' : World} (h : StS w g K v l W) (hb : W.grownBy W' (some g)) (hr : Rdr W' g K') : StS w g K' v l W' :=
  ⟨h.own.far hb (fun k hk => by injection hk with hk; have := h.lt; omega), hr, grown_trans h.gr hb (fun j hj => .inl (by injection hj with hj; exact hj.symm)), h.lt⟩
theorem StS.app {w : World} {g K : Nat} {v v' : Value} {l l' : List ByteArray} {W W' : World} (h : StS w g K v l W) (ho : OwnS W' w.heap.size v' l') (hb : W.grownBy W' v.ownBlock) : StS w g K v' l' W' :=
  ⟨ho, h.rdr.grown hb (fun k hk => by have h1 := (h.own.lt k hk).1; have := h.lt; omega), grown_ownS h.gr hb h.own (Nat.le_refl _), h.lt⟩
theorem StS.far {w : World} {g K : Nat} {v : Value} {l : List ByteArray} {W : World} (h : StS w g K v l W) (p : Addr) (u : Value) (hp : w.heap.size ≤ p.block) (hv : ∀ k, v.ownBlock = some k → k ≠ p.block) : StS w g K v l (W.setCell p u) := by
  have hg := only_setCell (World.grownBy.refl W (some p.block)) (p := p) (.inl rfl) u
  have := h.lt
  exact ⟨⟨h.own.1.kept hg (by
    cases hq : v.ownBlock with
    | none => exact .inl rfl
    | some k => exact .inr fun e => hv k hq (by injection e)), h.own.2⟩, h.rdr.grown hg (fun k hk => by injection hk with hk; omega), grown_trans h.gr hg (fun j hj => .inr (by injection hj with hj; omega)), h.lt⟩

theorem StS.row {w : World} {g K b n cap : Nat} {l : List ByteArray} {W : World} (h : StS w g K (.slice (some ⟨b, 0, none⟩) n cap) l W) : ∃ cs, Blk W b 9 cs ∧ cs.length = cap ∧ l.length ≤ cap ∧ cap ≤ 9223372036854775807 ∧ w.heap.size ≤ b ∧ n = l.length ∧ ∀ j, j < l.length → cs[j]? = some (.string (sat l j)) := by
  rcases h.own.form with ⟨q, _⟩ | ⟨b', cap', cs, e, hb', hbl, h1, h2, hcl, h3⟩
  · cases q
  · injection e with e1 e2 e3
    injection e1 with e1
    injection e1 with e1
    subst e1 e2 e3
    exact ⟨cs, hbl, hcl, h1, h2, hb', rfl, h3⟩
theorem StS.at {w : World} {g K b n cap : Nat} {l : List ByteArray} {W : World} (h : StS w g K (.slice (some ⟨b, 0, none⟩) n cap) l W) {j : Nat} (hj : j < l.length) : W.cell? ⟨b, j, none⟩ = some (.string (sat l j)) ∧ W.frozen? ⟨b, j, none⟩ = false := by
  obtain ⟨cs, hbl, _, _, _, _, _, hc⟩ := h.row
  exact ⟨(hbl.cell j).trans (hc j hj), hbl.frozen j⟩
theorem StS.nil_ {w : World} {g K b n cap : Nat} {l : List ByteArray} {W : World} (h : StS w g K (.slice (some ⟨b, 0, none⟩) n cap) l W) : StS w g K (.slice (some ⟨b, 0, none⟩) 0 cap) [] W := by
  obtain ⟨cs, hbl, hcl, h1, h2, hb, _, hc⟩ := h.row
  exact ⟨OwnS.mk' (l := []) hb hbl (Nat.zero_le _) h2 hcl (fun j hj => absurd hj (by simp)) (fun _ q => by simp at q), h.rdr, h.gr, h.lt⟩
theorem sat_set {l : List ByteArray} {k j : Nat} {z : ByteArray} (hk : k < l.length) : sat (l.set k z) j = if k = j then z else sat l j := by
  unfold sat
  simp only [List.getD, List.getElem?_set, hk]
  split
  · simp
  · rfl
theorem StS.set_ {w : World} {g K b n cap : Nat} {l : List ByteArray} {W : World} (h : StS w g K (.slice (some ⟨b, 0, none⟩) n cap) l W) {k : Nat} (hk : k < l.length) (z : ByteArray) (hz : z.size ≤ 9223372036854775807) :
    StS w g K (.slice (some ⟨b, 0, none⟩) n cap) (l.set k z) (W.setCell ⟨b, k, none⟩ (.string z)) := by
  obtain ⟨cs, hbl, hcl, h1, h2, hb, hn, hc⟩ := h.row
  have hlt := h.lt
  have hg := only_setCell (World.grownBy.refl W (some b)) (p := ⟨b, k, none⟩) (.inl rfl) (.string z)
  have ho := OwnS.mk' (l := l.set k z) hb (hbl.set_ k (.string z)) (by rw [List.length_set]; exact h1) h2 (by rw [List.length_set]; exact hcl) (fun j hj => by
    rw [List.length_set] at hj
    rw [sat_set hk]
    by_cases e : k = j
    · subst e; rw [if_pos rfl, List.getElem?_set_self (by omega)]
    · rw [if_neg e, List.getElem?_set_ne e]; exact hc j hj) (fun s hs => by
    rcases List.mem_or_eq_of_mem_set hs with q | q
    · exact h.own.2.1 s q
    · rw [q]; exact hz)
  rw [List.length_set, ← hn] at ho
  exact ⟨ho, h.rdr.grown hg (fun j hj => by injection hj with hj; omega), grown_trans h.gr hg (fun j hj => .inr (by injection hj with hj; omega)), h.lt⟩
theorem grown_drew {w w' : World} {row : Option Nat} (h : w.drew.grownBy w' row) : w.grownBy w' row := ⟨h.os, h.tape, h.output, h.size, h.block⟩

/-- A drawn engine, held beside a reader. -/
def DrawnEngS (w : World) (g K' hi shi : Nat) (e : Ending) (w' : World) : Prop :=
  ∃ v l, e = .returned (.agg #[v]) ∧ StS w g K' v l w' ∧ l.length ≤ hi ∧ ∀ s ∈ l, s.size ≤ shi

set_option maxHeartbeats 4000000 in
theorem l3Bad_any (g K : Nat) (v : Value) (l : List ByteArray) (w0 w : World) (hst : StS w0 g K v l w) (hK : K ≤ 10000000) (hl : 1 ≤ l.length ∧ l.length ≤ 7) (hs : ∀ s ∈ l, s.size ≤ 12) :
    Calls Try.prog 140 #[.pointer (some ⟨g, 0, none⟩), .agg #[v]] w (DrawnEngS w0 g (K + 10) 8 40) := by
  have S0 := Lib.hid hst
  have HS := Lib.hid hs
  have hgw := hst.lt
  have hzw := hst.gr.size
  rcases hst.own.form with ⟨_, h0⟩ | ⟨b, cap, cs0, rfl, hb, hblk, hlcap, hcm, hcl0, hcs0⟩
  · exfalso; rw [h0] at hl; simp at hl
  have hbw := hblk.lt
  have H0 := Lib.hid (And.intro hcl0 hcs0)
  clear hst hs hcl0 hcs0 hblk
  have ba : Below w.heap.size w ((w.alloc (.cells #[.slice (some ⟨b, 0, none⟩) l.length cap] 29)).alloc (.cells #[.slice none 0 0] 29)) := (bel_alloc w _).alloc (by simp) _
  have K3 := (Blk.new' w 29 (.slice (some ⟨b, 0, none⟩) l.length cap) w.heap.size rfl).alloc (.cells #[.slice none 0 0] 29)
  have K4 := Blk.new' (w.alloc (.cells #[.slice (some ⟨b, 0, none⟩) l.length cap] 29)) 29 (.slice none 0 0) (w.heap.size + 1) (by simp)
  replace S0 := Lib.hid (S0.out.bel ba)
  clear ba
  obtain ⟨e3, -⟩ := K3.one
  go_enter Try.func140, Try.ntmps140
  go_wp2_with fail
  clear e3
  generalize hW : (w.alloc (.cells #[.slice (some ⟨b, 0, none⟩) l.length cap] 29)).alloc (.cells #[.slice none 0 0] 29) = W at *
  clear hW
  refine (pick_any g K _ _ S0.out.rdr (by omega) (by omega)).mono ?_
  rintro e w1 ⟨k, rfl, hm, -, hr1, hg1⟩
  have hm' := hm (by omega)
  obtain ⟨k, rfl⟩ : ∃ n : Nat, k = n := ⟨k.toNat, by omega⟩
  replace K3 := K3.grown hg1 (fun e => by injection e with e; omega)
  replace K4 := K4.grown hg1 (fun e => by injection e with e; omega)
  have S1 := Lib.hid (S0.out.grown hg1 hr1)
  clear hm hr1 hg1 S0
  go_wp2_with fail
  refine (pick_any g (K + 1) _ _ S1.out.rdr (by omega) (by omega)).mono ?_
  rintro e w2 ⟨m, rfl, hm, -, hr2, hg2⟩
  replace K3 := K3.grown hg2 (fun e => by injection e with e; omega)
  replace K4 := K4.grown hg2 (fun e => by injection e with e; omega)
  have S2 := Lib.hid (S1.out.grown hg2 hr2)
  clear hm hr2 hg2 S1
  obtain ⟨e3, f3⟩ := K3.one
  obtain ⟨e4, f4⟩ := K4.one
  have k3 := K3.lt
  have k4 := K4.lt
  cases m0 : (m == 0)
  · cases m1 : (m == 1)
    · cases m2 : (m == 2)
      · go_wp2
        refine bodyPost_ret (v := .agg #[.slice (some ⟨b, 0, none⟩) l.length cap]) (by simp [results, Try.results140, go_sem, e4]) rfl ⟨_, l, rfl, ?_, by omega, fun s hs => by have := HS.out s hs; omega⟩
        have S3 := S2.out.far ⟨w.heap.size + 1, 0, none⟩ (.slice (some ⟨b, 0, none⟩) l.length cap) (by show w0.heap.size ≤ w.heap.size + 1; omega) (fun j hj => by simp [Value.ownBlock] at hj; show j ≠ w.heap.size + 1; omega)
        exact ⟨S3.own, S3.rdr.more (by omega), S3.gr, S3.lt⟩
      · have P2 := Lib.hid (And.intro S2.out (And.intro K3 K4))
        clear e3 f3 e4 f4 K3 K4
        go_wp2_with fail
        go_loopw [] (fun wr => ∃ (x : Value) (l' : List ByteArray), 1 ≤ l'.length ∧ l'.length ≤ 8 ∧ (∀ s ∈ l', s.size ≤ 12) ∧ StS w0 g (K + 2) x l' wr ∧ Blk wr w.heap.size 29 [x] ∧ Blk wr (w.heap.size + 1) 29 [.slice none 0 0] ∧ (∀ j, x.ownBlock = some j → j ≠ w.heap.size ∧ j ≠ w.heap.size + 1))
          (fun wr => match wr.cell? ⟨w.heap.size, 0, none⟩ with | some (.slice _ n _) => 10 - n | _ => 0)
        case atStart => exact ⟨_, l, hl.1, by omega, HS.out, P2.out.1, P2.out.2.1, P2.out.2.2, fun j hj => by simp [Value.ownBlock] at hj; omega⟩
        case round =>
          clear P2
          obtain ⟨x, l', h1, h8, hs', hst, K3, K4, hne⟩ := hrel
          rcases hst.own.form with ⟨_, q0⟩ | ⟨b', cap', cs', rfl, hb', hbl', hlc', hcm', -, -⟩
          · exfalso; rw [q0] at h1; simp at h1
          have hbz := hbl'.lt
          have hne' := hne b' rfl
          have hzz := hst.gr.size
          obtain ⟨e3, f3⟩ := K3.one
          obtain ⟨e4, f4⟩ := K4.one
          have k3 := K3.lt
          have k4 := K4.lt
          obtain ⟨ck, -⟩ := hst.at (j := 0) (by omega)
          have HT := Lib.hid (And.intro hst (And.intro hs' hne))
          clear hst hs' hne hbl'
          by_cases h7 : l'.length < 8
          · have h7' : (l'.length : Int) < 8 := by omega
            have na : ¬ l' = [] := by intro e; rw [e] at h1; simp at h1
            have pa2 : 0 < l'.length := by omega
            have pa : (0 : Int) < (l'.length : Int) := by omega
            have hsz0 := HT.out.2.1 _ (sat_mem l' 0 (by omega))
            have tok1 : True := trivial
            go_wp2_with fail
            go_region_law (first
              | (have _t := tok1; go_loud (refine step_app_str rfl (.tmp 40) (.tmp 45) (by rfl) w0.heap.size _ l' (by rfl) (HT.out.1.own.bel (by first | exact bel_alloc _ _ | exact (bel_alloc _ _).drew | exact ((Below.refl _ _).drew).alloc (Nat.le_refl _) _)) _ _ (sat l' 0) (by rfl) (by first | exact new_cell _ _ _ | (show (World.alloc _ _).cell? _ = _; exact new_cell _ _ _)) (by omega) (by omega) (by first | omega | (simp; omega)) ?_; intro A5 c5 w5 ho5 hg5 hat5; obtain ⟨X, bX, hg5, hat5⟩ : ∃ X, Below wr.heap.size wr X ∧ X.grownBy w5 (Value.slice (some ⟨b', 0, none⟩) l'.length cap').ownBlock ∧ ((Value.slice A5 (l'.length + 1) c5).ownBlock = (Value.slice (some ⟨b', 0, none⟩) l'.length cap').ownBlock ∨ (Value.slice A5 (l'.length + 1) c5).ownBlock = some X.heap.size) := ⟨_, (by first | exact bel_alloc _ _ | exact (bel_alloc _ _).drew | exact ((Below.refl _ _).drew).alloc (Nat.le_refl _) _), hg5, hat5⟩; have S5 := Lib.hid ((HT.out.1.bel bX).app ho5 hg5); have K3' := (K3.below bX k3).grown hg5 (fun e => by injection e with e; have e' : w.heap.size = b' := e; omega); have K4' := (K4.below bX k4).grown hg5 (fun e => by injection e with e; have e' : w.heap.size + 1 = b' := e; omega); have hX := bX.size; have hne5 : ∀ j, (Value.slice A5 (l'.length + 1) c5).ownBlock = some j → j ≠ w.heap.size ∧ j ≠ w.heap.size + 1 := (fun j hj => by rcases hat5 with q | q <;> rw [hj] at q <;> (try simp [Value.ownBlock] at q) <;> omega); obtain ⟨e3', f3'⟩ := K3'.one; clear tok1 ho5 hg5 hat5 bX))
              | fail)
            all_goals
              have S6 := S5.out.far ⟨w.heap.size, 0, none⟩ (.slice A5 (l'.length + 1) c5) (by show w0.heap.size ≤ w.heap.size; omega) (fun j hj => (hne5 j hj).1)
              have K3n := K3'.set_ 0 (.slice A5 (l'.length + 1) c5)
              have K4n := K4'.far (p := ⟨w.heap.size, 0, none⟩) (by show w.heap.size + 1 ≠ w.heap.size; omega) (.slice A5 (l'.length + 1) c5)
              clear e3 f3 e4 f4 ck
              go_wp2
              go_roundw
              case rel =>
                refine ⟨_, l' ++ [sat l' 0], by simp, by simp; omega, fun s hs => ?_, S6, K3n, K4n, hne5⟩
                rcases List.mem_append.1 hs with q | q
                · exact HT.out.2.1 s q
                · simp at q; rw [q]; exact hsz0
              case measure =>
                have q1 := K3n.one.1
                have q2 := K3.one.1
                simp [q1, q2]; omega
          · have h7' : ¬ (l'.length : Int) < 8 := by omega
            have S3 := (HT.out.1.far ⟨w.heap.size + 1, 0, none⟩ (.slice (some ⟨b', 0, none⟩) l'.length cap') (by show w0.heap.size ≤ w.heap.size + 1; omega) (fun j hj => (HT.out.2.2 j hj).2))
            have S3' := Lib.hid S3
            clear S3
            go_wp2
            refine bodyPost_ret (v := .agg #[.slice (some ⟨b', 0, none⟩) l'.length cap']) (by simp [results, Try.results140, go_sem, e4]) rfl ⟨_, l', rfl, ⟨S3'.out.own, S3'.out.rdr.more (by omega), S3'.out.gr, S3'.out.lt⟩, by omega, fun s hs => by have := HT.out.2.1 s hs; omega⟩
    · have S3 := (S2.out.nil_.far ⟨w.heap.size, 0, none⟩ (.slice (some ⟨b, 0, none⟩) 0 cap) (by show w0.heap.size ≤ w.heap.size; omega) (fun j hj => by simp [Value.ownBlock] at hj; show j ≠ w.heap.size; omega)).far ⟨w.heap.size + 1, 0, none⟩ (.slice (some ⟨b, 0, none⟩) 0 cap) (by show w0.heap.size ≤ w.heap.size + 1; omega) (fun j hj => by simp [Value.ownBlock] at hj; show j ≠ w.heap.size + 1; omega)
      have S3' := Lib.hid S3
      have e4' : (w2.setCell ⟨w.heap.size, 0, none⟩ (.slice (some ⟨b, 0, none⟩) 0 cap)).cell? ⟨w.heap.size + 1, 0, none⟩ = some (.slice none 0 0) := (World.cell?_setCell_other _ _ _ _ (by intro e; injection e with q; omega)).trans e4
      clear S3
      go_wp2
      refine bodyPost_ret (v := .agg #[.slice (some ⟨b, 0, none⟩) 0 cap]) (by simp [results, Try.results140, go_sem, e4, e4']) rfl ⟨_, [], rfl, ⟨S3'.out.own, S3'.out.rdr.more (by omega), S3'.out.gr, S3'.out.lt⟩, by simp, fun s hs => by simp at hs⟩
  · have hk : k < l.length := by omega
    obtain ⟨ck, fk⟩ := S2.out.at hk
    have hks := HS.out _ (sat_mem l k hk)
    have hki : (k : Int) < (l.length : Int) := by omega
    have hki0 : (0 : Int) ≤ (k : Int) := by omega
    have hcat : ¬ 9223372036854775807 < (sat l k).size + 1 := by omega
    have tok1 : True := trivial
    go_wp2_with fail
    go_region_law (first
      | ((try go_simp); go_at_call 179; have _t := tok1; refine (l1Bad_any g (K + 1 + 1) _ _ (by first | exact S2.out.rdr | exact S2.out.rdr.bel ((Below.refl _ _).drew)) (by omega) (by rw [ByteArray.size_append]; show (sat l k).size + 1 ≤ 100; omega)).mono ?_; rintro e w4 ⟨s, rfl, -, hss, hr4, hg4⟩; replace hg4 : w2.grownBy w4 (some g) := (by first | exact hg4 | exact grown_drew hg4); replace K3 := K3.grown hg4 (fun e => by injection e with e; omega); replace K4 := K4.grown hg4 (fun e => by injection e with e; omega); have S4 := Lib.hid (S2.out.grown hg4 hr4); replace e3 := K3.one.1; replace ck := (S4.out.at hk).1; have fk4 := (S4.out.at hk).2; have hss' : s.size ≤ 30 := (by rw [ByteArray.size_append] at hss; have h1 : (⟨#[48]⟩ : ByteArray).size = 1 := rfl; omega); clear tok1 hr4 hg4; (try dsimp only))
      | fail)
    all_goals
      have S5 := S4.out.set_ hk s (by omega)
      have K3n := K3.far (p := ⟨b, k, none⟩) (by show w.heap.size ≠ b; omega) (.string s)
      have K4n := K4.far (p := ⟨b, k, none⟩) (by show w.heap.size + 1 ≠ b; omega) (.string s)
      have S6 := S5.far ⟨w.heap.size + 1, 0, none⟩ (.slice (some ⟨b, 0, none⟩) l.length cap) (by show w0.heap.size ≤ w.heap.size + 1; omega) (fun j hj => by simp [Value.ownBlock] at hj; show j ≠ w.heap.size + 1; omega)
      have S6' := Lib.hid S6
      clear e3 ck S5 S6 K3 K4 e4 f4 f3
      obtain ⟨e3, f3⟩ := K3n.one
      obtain ⟨e4, f4⟩ := K4n.one
      go_wp2
      refine bodyPost_ret (v := .agg #[.slice (some ⟨b, 0, none⟩) l.length cap]) (by simp [results, Try.results140, go_sem, e4]) rfl ⟨_, l.set k s, rfl, (by first | exact ⟨S6'.out.own, S6'.out.rdr.more (by omega), S6'.out.gr, S6'.out.lt⟩), by rw [List.length_set]; omega, fun s' hs' => ?_⟩
      rcases List.mem_or_eq_of_mem_set hs' with q | q
      · have := HS.out s' q; omega
      · rw [q]; omega


/-- The drawn arguments of SplitEngine. -/
def DrawnSplit (w : World) (e : Ending) (w' : World) : Prop :=
  ∃ v l n, e = .returned (.tuple #[.agg #[v], .int .i64 n]) ∧ Strs w' v l ∧ l.length ≤ 8 ∧ -9223372036854775808 ≤ n ∧ n ≤ 9223372036854775807 ∧ Below w.heap.size w w'



end Go.Proofs.Yteemhhgioljmaaa
