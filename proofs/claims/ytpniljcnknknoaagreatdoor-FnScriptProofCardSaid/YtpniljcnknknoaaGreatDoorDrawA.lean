/-
  Drawn lists: l6Entries and the arguments of Interleave.
-/
import Derived.Test.YtpniljcnknknoaaGreatDoorDraw
import Derived.Test.YtpniljcnknknoaaGreatDoorSlices
import Derived.Deep.RegionLaw
import Derived.Deep.RegionWith
import Derived.Deep.DrawnRows
namespace Go.Proofs.YtpniljcnknknoaaGreatDoor
open Go.RowKit
set_option linter.unusedVariables false
set_option maxRecDepth 100000
attribute [local go_sem ↓] Go.wp_at_zero Go.wp_at_succ

theorem step_app_int {ops : Array Oper} {o : Oper} {a : Act} {K : Act → World → Prop} {Q : Exit → Act → World → Prop} {E : Prop} {w : World} (hgd : o.guard = none) (s x : Operand)
    (ho : o.op = .call { callee := .builtin .append, args := #[s, x], argTypes := #[23, 23] })
    (base : Nat) (v : Value) (l : List Int) (hs : a.eval s = v) (hown : Own w base v l) (g c : Nat) (z : Int) (hx : a.eval x = .slice (some ⟨g, 0, none⟩) 1 c)
    (hcell : w.cell? ⟨g, 0, none⟩ = some (.int .i64 z)) (hz : -9223372036854775808 ≤ z ∧ z ≤ 9223372036854775807) (hl : l.length + 1 ≤ 1099511627776) (hbase : base ≤ w.heap.size)
    (h : ∀ v' w', Own w' base v' (l ++ [z]) → w.grownBy w' v.ownBlock → (v'.ownBlock = v.ownBlock ∨ v'.ownBlock = some w.heap.size) → K (a.put o.dst v') w') :
    if Region.wanted o (yielded ops a.tmps) = true then Oper.wp Tryz.prog o a w K Q else E := by
  have hw : Region.wanted o (yielded ops a.tmps) = true := by simp [Region.wanted, hgd]
  rw [if_pos hw]
  obtain ⟨i0, hi, hz0, hz1, hz2⟩ := info_parts Tryz.infoInt
  obtain ⟨v', w', hrun, h2, h3, _, h5⟩ := run_append_own_at (P := Tryz.prog) w base 23 o.type 3 i0 _ 1 8 Tryz.underlying23 hi hz0 hz1 hz2 rfl (by omega) v l.length (iv l) hown.1 ⟨g, 0, none⟩ 1 c [.int .i64 z] rfl (by
    intro j u hj
    match j, hj with
    | 0, hj => simp at hj; subst hj; simpa [Addr.add] using hcell) (by intro u hu; simp at hu; subst hu; rfl) (by unfold maxLen; omega) (by omega) hbase
  unfold Oper.wp execOp
  simp only [ho, resolve, invoke, builtin, Sem.run_bind, Sem.run_pure, Result.andThen_ok, List.map_toArray, List.map_cons, List.map_nil, hs, hx, hrun]
  refine h v' w' ⟨?_, ?_, by unfold maxLen; simp; omega⟩ h3 h5
  · rw [iv_append, List.length_append]; exact h2
  · intro n hn
    rcases List.mem_append.1 hn with hn | hn
    · exact hown.2.1 n hn
    · simp at hn; subst hn; exact hz

theorem grown_trans {a w w' : World} {g : Nat} {row : Option Nat} (h : a.grownBy w (some g)) (k : w.grownBy w' row) (hr : ∀ j, row = some j → j = g ∨ a.heap.size ≤ j) : a.grownBy w' (some g) :=
  ⟨k.os.trans h.os, k.tape.trans h.tape, k.output.trans h.output, Nat.le_trans h.size k.size, fun i hi hne => (k.block i (Nat.lt_of_lt_of_le hi h.size) (fun e => by
    rcases hr i e.symm with q | q
    · exact hne (by rw [q])
    · omega)).trans (h.block i hi hne)⟩
theorem grown_own {a w w' : World} {g : Nat} {v : Value} {l : List Int} (h : a.grownBy w (some g)) (k : w.grownBy w' v.ownBlock) (ho : Own w a.heap.size v l) : a.grownBy w' (some g) :=
  grown_trans h k fun j hj => .inr (ho.lt j hj).1
theorem grown_below {a w : World} {g B : Nat} (h : a.grownBy w (some g)) (hg : B ≤ g) (hB : B ≤ a.heap.size) : Below B a w := (Below.refl B a).grown h hB (fun k hk => by injection hk with hk; omega)

/-- Where a loop of draws stands: it has gathered l in v; the reader is K on. -/
structure St (w : World) (g K : Nat) (v : Value) (l : List Int) (W : World) : Prop where
  own : Own W w.heap.size v l
  rdr : Rdr W g K
  gr : w.grownBy W (some g)
  lt : g < w.heap.size
theorem St.bel {w : World} {g K : Nat} {v : Value} {l : List Int} {W W' : World} (h : St w g K v l W) (hb : Below W.heap.size W W') : St w g K v l W' :=
  ⟨h.own.bel hb, h.rdr.bel hb, only_below h.gr hb, h.lt⟩
theorem St.grown {w : World} {g K K' : Nat} {v : Value} {l : List Int} {W W' : World} (h : St w g K v l W) (hb : W.grownBy W' (some g)) (hr : Rdr W' g K') : St w g K' v l W' :=
  ⟨h.own.far hb (fun k hk => by injection hk with hk; have := h.lt; omega), hr, grown_trans h.gr hb (fun j hj => .inl (by injection hj with hj; exact hj.symm)), h.lt⟩
theorem St.app {w : World} {g K : Nat} {v v' : Value} {l l' : List Int} {W W' : World} (h : St w g K v l W) (ho : Own W' w.heap.size v' l') (hb : W.grownBy W' v.ownBlock) : St w g K v' l' W' :=
  ⟨ho, h.rdr.grown hb (fun k hk => by
    have h1 := (h.own.lt k hk).1
    have := h.lt
    omega), grown_own h.gr hb h.own, h.lt⟩
theorem pick_st {w : World} {g K : Nat} {v : Value} {l : List Int} {W : World} (n : Int) (h : St w g K v l W) (hK : K ≤ 1000000000) (hn : 1 ≤ n ∧ n ≤ 9223372036854775807) :
    Calls Tryz.prog 78 #[.pointer (some ⟨g, 0, none⟩), .int .i64 n] W (fun e W' => ∃ m : Int, e = .returned (.int .i64 m) ∧ 0 ≤ m ∧ m < n ∧ St w g (K + 1) v l W') :=
  (pick_any g K n W h.rdr hK (by omega)).mono fun e W' ⟨m, he, hm, _, hr, hg⟩ => ⟨m, he, (hm hn.1).1, (hm hn.1).2, h.grown hg hr⟩
theorem wrap_bd (x : Int) : -9223372036854775808 ≤ IntKind.i64.wrap x ∧ IntKind.i64.wrap x ≤ 9223372036854775807 := by
  rw [IntKind.wrap_i64]; omega
theorem prod_bd {a b A B : Int} (h0 : 0 ≤ a) (h1 : a < A) (k0 : 0 ≤ b) (k1 : b < B) : 0 ≤ a * b ∧ a * b ≤ A * B :=
  ⟨Int.mul_nonneg h0 k0, Int.mul_le_mul (by omega) (by omega) k0 (by omega)⟩

/-- A list of drawn numbers: behind it the reader is at most K' on. -/
def DrawnInts (g K' : Nat) (w : World) (lo hi : Nat) (e : Ending) (w' : World) : Prop :=
  ∃ v l, e = .returned v ∧ Own w' w.heap.size v l ∧ lo ≤ l.length ∧ l.length ≤ hi ∧ Rdr w' g K' ∧ w.grownBy w' (some g)

set_option maxHeartbeats 4000000 in
set_option maxRecDepth 100000 in
theorem l6Entries_any (g K : Nat) (w : World) (hr : Rdr w g K) (hK : K ≤ 100000000) :
    Calls Tryz.prog 134 #[.pointer (some ⟨g, 0, none⟩)] w (DrawnInts g (K + 70) w 1 20) := by
  have HR := Lib.hid hr
  have hgw := hr.lt
  have OE := Lib.hid (Own.empty w w.heap.size (Nat.le_refl _))
  clear hr
  go_enter Tryz.func134, Tryz.ntmps134
  go_wp2_with fail
  refine (num_any g K _ [100, 1000, 10, 20000] _ ((HR.out.bel (bel_alloc _ _)).bel (bel_alloc _ _)) (by omega) (lit_own _ [100, 1000, 10, 20000] (w.heap.size + 1) 0 (by simp) (by omega) (by simp) (wf_lit (by simp))).ints (by simp) (lit_ne (by omega))).mono ?_
  rintro e w1 ⟨sz, rfl, hsz, hr1, hg1⟩
  have sb : 10 ≤ sz ∧ sz ≤ 20000 := by simp at hsz; omega
  have z1 := hg1.size
  simp at z1
  have H1 := Lib.hid (And.intro hr1 (And.intro (((OE.out.bel (bel_alloc _ _)).far hg1 (fun k hk => by injection hk with hk; omega))) (grown_trans (only_alloc (only_alloc (World.grownBy.refl w (some g)) _) _) hg1 (fun j hj => .inl (by injection hj with hj; exact hj.symm)))))
  clear hsz hr1 hg1
  go_wp2_with fail
  refine (pick_any g (K + 1) 20 _ H1.out.1 (by omega) (by omega)).mono ?_
  rintro e w2 ⟨m, rfl, hm, -, hr2, hg2⟩
  have hm' := hm (by omega)
  have z2 := hg2.size
  obtain ⟨m, rfl⟩ : ∃ n : Nat, m = n := ⟨m.toNat, by omega⟩
  have H2 := Lib.hid (And.intro hr2 (And.intro (H1.out.2.1.far hg2 (fun k hk => by injection hk with hk; omega)) (grown_trans H1.out.2.2 hg2 (fun j hj => .inl (by injection hj with hj; exact hj.symm)))))
  clear hm hr2 hg2 H1
  go_wp2_with fail
  go_loopw [3, 5] (fun r n wr => ∃ (k K' : Nat) (l : List Int), n = .int .i64 k ∧ k ≤ 20 ∧ l.length + k = m + 1 ∧ K' + 3 * k ≤ K + 62 ∧ St w g K' r l wr)
    (fun _ n _ => (intOf n).toNat)
  case atStart => exact ⟨m + 1, K + 2, [], by go_num, by omega, by simp, by omega, H2.out.2.1, H2.out.1, H2.out.2.2, hgw⟩
  case round =>
    obtain ⟨k, K', l, rfl, hk, hlk, hK', hst⟩ := hrel
    have zr := hst.gr.size
    clear H2
    by_cases hk0 : k = 0
    · subst hk0
      have H := Lib.hid hst
      clear hst
      go_wp2
      go_ret
      exact ⟨_, l, rfl, H.out.own, by omega, by omega, H.out.rdr.more (by omega), H.out.gr⟩
    · obtain ⟨k, rfl⟩ : ∃ j, k = j + 1 := ⟨k - 1, by omega⟩
      have hst0 : St w g K' u3 l wr.drew := hst.bel ((Below.refl _ _).drew)
      have hz0 : ¬ sz = 0 := by omega
      have tok1 : True := trivial
      have tok2 : True := trivial
      have tok3 : True := trivial
      clear hst
      go_wp2_with fail
      go_region_law (first
        | (go_simp; go_at_call 78; have _t := tok1; refine (pick_st 256 (by assumption) (by omega) (by omega)).mono ?_; rintro e1 w1' ⟨m1, rfl, a1, b1, hs1⟩; clear tok1 hst0)
        | (go_simp; go_at_call 78; have _t := tok2; refine (pick_st 256 (by assumption) (by omega) (by omega)).mono ?_; rintro e2 w2' ⟨m2, rfl, a2, b2, hs2⟩; clear tok2 hs1)
        | (go_simp; go_at_call 78; have _t := tok3; refine (pick_st 2 (by assumption) (by omega) (by omega)).mono ?_; rintro e3 w3' ⟨m3, rfl, a3, b3, hs3⟩; clear tok3 hs2)
        | (refine step_app_int rfl (.tmp 17) (.tmp 31) (by rfl) w.heap.size _ l (by rfl) (by exact hs3.own.bel (bel_alloc _ _)) _ _ _ (by rfl) (by exact new_cell _ _ _) (wrap_bd _) (by omega) (by have := hs3.gr.size; simp; omega) ?_; intro v4 w4 ho hg _))
      have hst4 := Lib.hid ((hs3.bel (bel_alloc _ _)).app ho hg)
      clear ho hg hs3
      go_wp2
      go_roundw
      case rel => exact ⟨k, K' + 3, _, by go_num, by omega, by simp; omega, by omega, hst4.out⟩
      case measure => simp [intOf]

/-- b[:n] of a slice that reads as numbers. -/
theorem Ints.take {w : World} {A : Option Addr} {c : Nat} {l : List Int} (h : Ints w (.slice A l.length c) l) {n : Nat} (hn : n ≤ l.length) : Ints w (.slice A n c) (l.take n) := by
  obtain ⟨A', c', e, h1, h2, h3⟩ := h.open_
  injection e with e1 _ e3
  subst e1 e3
  have hl : (l.take n).length = n := by rw [List.length_take]; omega
  refine ⟨⟨A, c, by rw [iv_length, hl], by rw [iv_length, hl]; omega, by unfold maxLen; omega, fun h0 => ?_⟩, fun x hx => h.2 x (List.mem_of_mem_take hx)⟩
  rw [iv_length, hl] at h0
  obtain ⟨b, o, e, hb, hc⟩ := h3 (by rw [iv_length]; omega)
  refine ⟨b, o, e, hb, fun k u hu => hc k u ?_⟩
  rw [← hu, iv, iv, List.map_take, List.getElem?_take]
  by_cases hk : k < n
  · rw [if_pos hk]
  · rw [List.getElem?_eq_none (by rw [iv_length, hl]; omega)] at hu; cases hu

/-- Two drawn lists. -/
def DrawnTwo (w : World) (na nb : Nat) (e : Ending) (w' : World) : Prop :=
  ∃ va vb a b, e = .returned (.tuple #[va, vb]) ∧ Ints w' va a ∧ Ints w' vb b ∧ a.length ≤ na ∧ b.length ≤ nb ∧ Below w.heap.size w w'

end Go.Proofs.YtpniljcnknknoaaGreatDoor
