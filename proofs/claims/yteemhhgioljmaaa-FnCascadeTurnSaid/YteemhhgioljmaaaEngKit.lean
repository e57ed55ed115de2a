/-
  Contracts of what the laws do with engines: copies, comparison, marks.
-/
import Derived.Test.YteemhhgioljmaaaMark
namespace Go.Proofs.Yteemhhgioljmaaa
open Go.RowKit
set_option linter.unusedVariables false
set_option maxRecDepth 100000

/-- A block of one value. -/
theorem Blk.one {w : World} {g : Nat} {t : TypeId} {v : Value} (h : Blk w g t [v]) : w.cell? ⟨g, 0, none⟩ = some v ∧ w.frozen? ⟨g, 0, none⟩ = false := ⟨by rw [h.cell]; rfl, h.frozen 0⟩
theorem Blk.new' (w : World) (t : TypeId) (v : Value) (g : Nat) (hg : g = w.heap.size) : Blk (w.alloc (.cells #[v] t)) g t [v] := by subst hg; exact Blk.new w t [v]

theorem OwnS.lower {w : World} {base base' : Nat} {v : Value} {l : List ByteArray} (h : OwnS w base v l) (hb : base' ≤ base) : OwnS w base' v l := by
  refine ⟨⟨h.1.1, ?_⟩, h.2⟩
  rcases h.1.2 with q | ⟨g1, cap, cur, q1, q2, q3⟩
  · exact .inl q
  · exact .inr ⟨g1, cap, cur, q1, by omega, q3⟩
theorem OwnS.setCell {w : World} {base : Nat} {v : Value} {l : List ByteArray} (h : OwnS w base v l) (p : Addr) (u : Value) (hp : p.block < base) : OwnS (w.setCell p u) base v l :=
  h.far (row := some p.block) (only_setCell (World.grownBy.refl w (some p.block)) (.inl rfl) u) (fun k hk => by injection hk with hk; omega)
set_option maxHeartbeats 1000000 in
theorem toEngine_any (v : Value) (l : List ByteArray) (w : World) (hv : Strs w v l) (hl : l.length ≤ 1048576) :
    Calls Try.prog 58 #[.agg #[v]] w fun e w' => ∃ r, e = .returned (.agg #[r]) ∧ OwnS w' w.heap.size r l ∧ Below w.heap.size w w' := by
  have HV := Lib.hid hv
  clear hv
  go_enter Try.func58, Try.ntmps58
  go_wp2_with fail
  have k2 := Lib.hid (And.intro (((Blk.new' (w.alloc (.cells #[v] 72)) 29 (.slice none 0 0) (w.heap.size + 1) (by simp)).alloc (.cells #[.slice none 0 0] 29)))
    (Blk.new' ((w.alloc (.cells #[v] 72)).alloc (.cells #[.slice none 0 0] 29)) 29 (.slice none 0 0) (w.heap.size + 1 + 1) (by simp)))
  have b2 := Lib.hid (show Below w.heap.size w (((w.alloc (.cells #[v] 72)).alloc (.cells #[.slice none 0 0] 29)).alloc (.cells #[.slice none 0 0] 29)) from
    (((bel_alloc w _).alloc (by simp) _).alloc (by simp; omega) _))
  refine (toStringS_any v l _ (HV.out.bel b2.out) hl).mono ?_
  rintro e w2 ⟨r, rfl, ho, hb⟩
  have K1 := k2.out.1.below hb k2.out.1.lt
  have K2 := k2.out.2.below hb k2.out.2.lt
  obtain ⟨c1, f1⟩ := K1.one
  obtain ⟨c2, f2⟩ := K2.one
  have H := Lib.hid (And.intro ho (bel_trans b2.out hb))
  obtain ⟨A, c, rfl, hlc, hc, hrd⟩ := ho.strs.open_
  have hz := hb.size
  simp at hz
  clear ho hb k2 b2 HV hrd
  go_wp2
  refine bodyPost_ret (v := .agg #[.slice A l.length c]) (by simp [results, Try.results58, go_sem, c1]) rfl ⟨_, rfl, ?_, ?_⟩
  · exact ((H.out.1.setCell _ _ (by simp)).setCell _ _ (by simp)).lower (by simp; omega)
  · exact (H.out.2.setCell (by simp; omega) _).setCell (by simp) _

set_option maxHeartbeats 1000000 in
theorem eqEngine_any (v u : Value) (l m : List ByteArray) (w : World) (hv : Strs w v l) (hu : Strs w u m) :
    Calls Try.prog 60 #[.agg #[v], .agg #[u]] w fun e w' => e = .returned (.bool (eqS l m)) ∧ Below w.heap.size w w' := by
  have HV := Lib.hid (And.intro hv hu)
  obtain ⟨A, c, rfl, hlc, hc, hrd⟩ := hv.open_
  obtain ⟨B, d, rfl, hld, hd, hrd2⟩ := hu.open_
  clear hv hu hrd hrd2
  cases he : eqS l m
  all_goals
    go_enter Try.func60, Try.ntmps60
    go_wp2_with fail
    have b2 := Lib.hid (show Below w.heap.size w ((w.alloc (.cells #[.slice A l.length c] 29)).alloc (.cells #[.slice B m.length d] 29)) from
      ((bel_alloc w _).alloc (by simp) _))
    refine (eqStringS_any _ _ l m _ (HV.out.1.bel b2.out) (HV.out.2.bel b2.out)).mono ?_
    rw [he]
    rintro e w2 ⟨rfl, hb⟩
    go_wp2
    go_ret
    exact ⟨rfl, bel_trans b2.out hb⟩

set_option maxHeartbeats 1000000 in
theorem markEngine_any (v : Value) (l : List ByteArray) (k : Nat) (base : Nat) (w : World) (hv : OwnS w base v l) (h1 : k + l.length ≤ 10000000) :
    Calls Try.prog 61 #[.agg #[v], .int .i64 k] w fun e w' => e = .returned (.int .i64 ((k + l.length : Nat) : Int)) ∧ w.grownBy w' v.ownBlock ∧ OwnS w' base v (marksS k l.length) := by
  have HV := Lib.hid hv
  obtain ⟨A, c, rfl, hlc, hc, hrd⟩ := hv.strs.open_
  clear hv hrd
  go_enter Try.func61, Try.ntmps61
  go_wp2_with fail
  refine (markStringS_any _ l k base _ (HV.out.bel (bel_alloc w _)) h1).mono ?_
  rintro e w2 ⟨rfl, hg, ho⟩
  go_wp2
  go_ret
  exact ⟨rfl, ⟨hg.os.trans (bel_alloc w _).os, hg.tape.trans (bel_alloc w _).tape, hg.output.trans (bel_alloc w _).output, Nat.le_trans (bel_alloc w _).size hg.size, fun i hi hne => (hg.block i (Nat.lt_of_lt_of_le hi (bel_alloc w _).size) hne).trans ((bel_alloc w _).block i hi)⟩, ho⟩

set_option maxHeartbeats 1000000 in
theorem heldEngine_any (v : Value) (n k : Nat) (w : World) (hv : Strs w v (marksS k n)) (h1 : k + n ≤ 10000000) :
    Calls Try.prog 62 #[.agg #[v], .int .i64 k] w fun e w' => e = .returned (.int .i64 ((k + n : Nat) : Int)) ∧ Below w.heap.size w w' := by
  have HV := Lib.hid hv
  obtain ⟨A, c, rfl, hlc, hc, hrd⟩ := hv.open_
  clear hv hrd
  go_enter Try.func62, Try.ntmps62
  go_wp2_with fail
  refine (heldStringS_any _ n k _ (HV.out.bel (bel_alloc w _)) h1).mono ?_
  rintro e w2 ⟨rfl, hb⟩
  have hb' := Lib.hid (bel_trans (bel_alloc w _) hb)
  have hneg : ¬ (((k + n : Nat) : Int) < 0) := by omega
  clear hb
  go_wp2
  go_ret
  exact ⟨by first | rfl | (simp; done) | go_num, hb'.out⟩

set_option maxHeartbeats 1000000 in
theorem szEngine_any (v : Value) (l : List ByteArray) (left : Int) (w : World) (hv : Strs w v l) (h0 : 0 ≤ left) (h1 : left ≤ 1048576) :
    Calls Try.prog 56 #[.agg #[v], .int .i64 left] w fun e w' => ∃ r : Int, e = .returned (.int .i64 r) ∧ (r = -1 ∨ 0 ≤ r ∧ r + l.length ≤ left) ∧ Below w.heap.size w w' := by
  have HV := Lib.hid hv
  obtain ⟨A, c, rfl, hlc, hc, hrd⟩ := hv.open_
  clear hv hrd
  go_enter Try.func56, Try.ntmps56
  go_wp2_with fail
  refine (szStringS_any _ l left _ (HV.out.bel (bel_alloc w _)) h0 h1).mono ?_
  rintro e w2 ⟨r, rfl, hr, rfl⟩
  rcases hr with rfl | ⟨r0, r1⟩
  · go_wp2
    go_ret
    exact ⟨_, rfl, .inl rfl, bel_alloc w _⟩
  · go_wp2
    go_ret
    exact ⟨_, rfl, .inr ⟨r0, r1⟩, bel_alloc w _⟩

end Go.Proofs.Yteemhhgioljmaaa
