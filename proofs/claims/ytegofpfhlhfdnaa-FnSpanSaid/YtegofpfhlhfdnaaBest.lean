/-
  Contracts of BestSchedule and LeastSpan.
-/
import Derived.Test.YtegofpfhlhfdnaaNext
import Derived.Laws.CopyOwn
namespace Go.Proofs.Ytegofpfhlhfdnaa
open Go.RowKit
set_option linter.unusedVariables false
set_option maxRecDepth 100000

def spanV (t g : List Int) (e : Nat) : Int := most (loads t g e g.length)
/-- At most m schedules behind g, the best one so far b with span s. -/
def bestN (t : List Int) (e : Nat) : Nat → List Int → List Int → Int → List Int
  | 0, _, b, _ => b
  | m + 1, g, b, s => if nextB g e = true then (if spanV t (nextL g e) e < s then bestN t e m (nextL g e) (nextL g e) (spanV t (nextL g e) e) else bestN t e m (nextL g e) b s) else b
theorem bestN_no {t g b : List Int} {e m : Nat} {s : Int} (h : nextB g e = false) : bestN t e (m + 1) g b s = b := by simp [bestN, h]
theorem bestN_lt {t g b : List Int} {e m : Nat} {s : Int} (h : nextB g e = true) (q : spanV t (nextL g e) e < s) : bestN t e (m + 1) g b s = bestN t e m (nextL g e) (nextL g e) (spanV t (nextL g e) e) := by simp [bestN, h, q]
theorem bestN_ge {t g b : List Int} {e m : Nat} {s : Int} (h : nextB g e = true) (q : ¬ spanV t (nextL g e) e < s) : bestN t e (m + 1) g b s = bestN t e m (nextL g e) b s := by simp [bestN, h, q]
theorem nextB_some {g : List Int} {e : Nat} (he : 1 ≤ e) (hg : namesOk g e = true) (h : nextB g e = true) : namesOk (nextL g e) e = true ∧ (nextL g e).length = g.length ∧ val (nextL g e) e = val g e + 1 := by
  unfold nextB at h
  unfold nextL
  cases q : next g e with
  | none => rw [q] at h; cases h
  | some g' => exact next_some he hg q
def zeros (n : Nat) : List Int := gen (fun _ => 0) n
theorem zeros_length (n : Nat) : (zeros n).length = n := gen_length _ _
theorem zeros_names (n : Nat) {e : Nat} (he : 1 ≤ e) : namesOk (zeros n) e = true := namesOk_mk fun j hj => by rw [zeros_length] at hj; rw [zeros, at_gen hj]; omega
theorem val_zeros (n e : Nat) : val (zeros n) e = 0 := by
  unfold val
  rw [zeros_length]
  have : ∀ m, m ≤ n → valTo (zeros n) e m = 0 := by
    intro m
    induction m with
    | zero => intro _; rfl
    | succ m ih => intro hm; rw [valTo, ih (by omega), zeros, at_gen (by omega)]; simp
  exact this n (Nat.le_refl _)
def best (t : List Int) (e : Int) : List Int := if schedOk t e = true then bestN t e.toNat (e.toNat ^ t.length) (zeros t.length) (zeros t.length) (spanV t (zeros t.length) e.toNat) else []
theorem spanV_bd {t g : List Int} (e : Nat) (ht : ∀ k, 0 ≤ at_ t k ∧ at_ t k ≤ 1000) (hg : g.length ≤ 8) : 0 ≤ spanV t g e ∧ spanV t g e ≤ 8000 := by
  unfold spanV most
  refine maxTo_bd (by omega) (fun k => ?_) _
  by_cases hk : k < e
  · rw [at_loads hk]
    have := load_bd g ht k g.length
    omega
  · have : at_ (loads t g e g.length) k = 0 := by simp [at_, List.getD, List.getElem?_eq_none (show (loads t g e g.length).length ≤ k by rw [loads_length]; omega)]
    omega
theorem bestN_len {t : List Int} {e n : Nat} (he : 1 ≤ e) : ∀ (m : Nat) (g b : List Int) (s : Int), namesOk g e = true → g.length = n → namesOk b e = true → b.length = n → (bestN t e m g b s).length = n ∧ namesOk (bestN t e m g b s) e = true
  | 0, g, b, s, _, _, h3, h4 => ⟨h4, h3⟩
  | m + 1, g, b, s, h1, h2, h3, h4 => by
    unfold bestN
    split
    · next h =>
      obtain ⟨p1, p2, _⟩ := nextB_some he h1 h
      split
      · exact bestN_len he m _ _ _ p1 (by omega) p1 (by omega)
      · exact bestN_len he m _ _ _ p1 (by omega) h3 h4
    · exact ⟨h4, h3⟩
theorem best_len (t : List Int) (e : Int) : (best t e).length ≤ t.length := by
  unfold best
  split
  · next h =>
    obtain ⟨_, e1, e3, _⟩ := schedOk_true h
    rw [(bestN_len (by omega) _ _ _ _ (zeros_names _ (by omega)) (zeros_length _) (zeros_names _ (by omega)) (zeros_length _)).1]
    exact Nat.le_refl _
  · simp

set_option maxHeartbeats 2000000 in
theorem specBest_any (v : Value) (t : List Int) (e : Int) (w : World) (hv : Ints w v t) (he : -9223372036854775808 ≤ e ∧ e ≤ 9223372036854775807) :
    Calls Try.prog 34 #[v, .int .i64 e] w fun x w' => ∃ r, x = .returned r ∧ Own w' w.heap.size r (best t e) ∧ Below w.heap.size w w' := by
  have hv' := Lib.hid hv
  obtain ⟨A, c, rfl, hlc, hc, hrd⟩ := hv.open_
  clear hrd hv
  by_cases h1 : schedOk t e = true
  · obtain ⟨t8, e1, e3, tb⟩ := schedOk_true h1
    have TB := Lib.hid tb
    have HB := Lib.hid (show best t e = bestN t e.toNat (e.toNat ^ t.length) (zeros t.length) (zeros t.length) (spanV t (zeros t.length) e.toNat) from by rw [best, if_pos h1])
    obtain ⟨k, rfl⟩ : ∃ k : Nat, e = k := ⟨e.toNat, by omega⟩
    rw [Int.toNat_natCast] at HB
    have hmk := fun W => Try.mkInts t.length (by omega) W
    have hmk' := Lib.hid hmk
    clear tb
    have OG := Lib.hid (show Own (w.alloc (.cells (reps t.length (.int .i64 0)).toArray 3)) w.heap.size (.slice (some ⟨w.heap.size, 0, none⟩) t.length t.length) (zeros t.length) from
      own_gen (f := fun _ => 0) (Nat.le_refl _) (Blk.new w _ _) (reps_length _ _) (by omega) (fun j hj => reps_get _ hj) (fun _ _ => by omega))
    have OE0 := Own.empty (w.alloc (.cells (reps t.length (.int .i64 0)).toArray 3)) (w.heap.size + 1) (by simp)
    rw [World.size_alloc] at OE0
    have OE := Lib.hid OE0
    clear OE0
    go_enter Try.func34, Try.ntmps34
    go_wp2_with fail
    refine (l8Engines_any _ _ _ _ hv'.out).mono ?_; rintro x w' ⟨rfl, rfl⟩
    clear hmk'
    go_wp2_with (at_builtin; refine app_ints rfl _ _ (by rfl) (w.heap.size + 1) (.slice (some ⟨w.heap.size + 1, 0, none⟩) 0 0) _ [] (zeros t.length) (by rfl) (by exact OE.out) (by rfl) (by exact (OG.out.bel (bel_alloc _ _)).ints) (by rw [zeros_length]; simp only [List.length_nil]; omega) (by simp) ?_; intro v1 w1 ho hg hat)
    have B1 : Below w.heap.size w w1 := by
      refine (bel_trans (bel_alloc w (.cells (reps t.length (.int .i64 0)).toArray 3)) (bel_alloc _ (.cells #[] 3))).trans (below_own hg (by simp; omega) ?_)
      intro k hk
      simp [Value.ownBlock] at hk
      omega
    have G1 : Own w1 w.heap.size (.slice (some ⟨w.heap.size, 0, none⟩) t.length t.length) (zeros t.length) :=
      (OG.out.bel (bel_alloc _ (.cells #[] 3))).apart hg (fun k h1 h2 => by simp [Value.ownBlock] at h1 h2; omega)
    have HO := Lib.hid (And.intro ho (And.intro G1 B1))
    have z1 := B1.size
    clear ho hg hat G1 B1 hmk
    go_wp2_with fail
    refine (l8Loads_any _ _ t (zeros t.length) _ _ (hv'.out.bel HO.out.2.2) HO.out.1.ints (by rw [zeros_length]; exact Nat.le_refl _) h1 (zeros_names _ (by omega))).mono ?_
    rintro x w2 ⟨r2, rfl, o2, b2⟩
    have z2 := b2.size
    have H2 := Lib.hid (And.intro o2 b2)
    clear o2 b2
    go_wp2_with fail
    refine (l8Most_any _ _ _ H2.out.1.ints).mono ?_
    rw [Int.toNat_natCast]
    change ∀ e_1 w', e_1 = Ending.returned (.int .i64 (spanV t (zeros t.length) k)) ∧ w2 = w' → _
    rintro x w' ⟨rfl, rfl⟩
    go_wp2_with fail
    go_loopg [6, 7] (k ^ t.length) (fun m b s wr => ∃ (g bl : List Int) (sv : Int), s = .int .i64 sv ∧ Own wr w.heap.size (.slice (some ⟨w.heap.size, 0, none⟩) t.length t.length) g ∧ Own wr (w.heap.size + 1) b bl ∧ namesOk g k = true ∧ g.length = t.length ∧ bestN t k m g bl sv = best t k ∧ val g k + m = k ^ t.length ∧ (0 ≤ sv ∧ sv ≤ 8000) ∧ Below w.heap.size w wr)
    case atStart =>
      exact ⟨zeros t.length, zeros t.length, spanV t (zeros t.length) k, rfl, HO.out.2.1.bel H2.out.2, HO.out.1.bel H2.out.2, zeros_names _ (by omega), zeros_length _, HB.out.symm, by rw [val_zeros]; omega, spanV_bd k TB.out (by rw [zeros_length]; exact t8), bel_trans HO.out.2.2 H2.out.2⟩
    case round =>
      clear HO H2 OG OE HB
      obtain ⟨g, bl, sv, rfl, og, ob, hgn, hgl, hbest, hval, hsv, hbel⟩ := hrel
      have hlt := val_lt (by omega) hgn
      rw [hgl] at hlt
      obtain ⟨m, rfl⟩ : ∃ m, gk = m + 1 := ⟨gk - 1, by omega⟩
      have H := Lib.hid (And.intro og (And.intro ob (And.intro hgn (And.intro hgl (And.intro hbest (And.intro hval hbel))))))
      have zr := hbel.size
      clear og ob hgn hgl hbest hval hbel hlt
      cases hb : nextB g k
      · go_wp2_with fail
        refine (l8Next_any _ g k _ _ H.out.1 H.out.2.2.1 (by omega) (by omega) (by rw [H.out.2.2.2.1]; exact t8)).mono ?_
        rintro x w3 ⟨rfl, g3, o3⟩
        have H3 := Lib.hid (And.intro g3 o3)
        clear g3 o3
        go_wp2
        go_ret
        have hR := H.out.2.2.2.2.1
        rw [bestN_no hb] at hR
        rw [← hR]
        have ob' := H.out.2.1.apart H3.out.1 (fun j p q => by have := (H.out.2.1.lt j p).1; simp [Value.ownBlock] at q; omega)
        exact ⟨_, rfl, ⟨⟨ob'.1.1, by
          rcases ob'.1.2 with q | ⟨g1, cap, cur, q1, q2, q3⟩
          · exact .inl q
          · exact .inr ⟨g1, cap, cur, q1, by omega, q3⟩⟩, ob'.2⟩, mark_bel H.out.2.2.2.2.2.2 H3.out.1 (fun j q => by simp [Value.ownBlock] at q; omega)⟩
      · obtain ⟨n1, n2, n3⟩ := nextB_some (by omega) H.out.2.2.1 hb
        have N := Lib.hid (And.intro n1 (And.intro n2 n3))
        clear n1 n2 n3
        go_wp2_with fail
        refine (l8Next_any _ g k _ _ H.out.1 H.out.2.2.1 (by omega) (by omega) (by rw [H.out.2.2.2.1]; exact t8)).mono ?_
        rintro x w3 ⟨rfl, g3, o3⟩
        have b3 : Below w.heap.size w w3 := mark_bel H.out.2.2.2.2.2.2 g3 (fun j q => by simp [Value.ownBlock] at q; omega)
        have ob3 := H.out.2.1.apart g3 (fun j p q => by have := (H.out.2.1.lt j p).1; simp [Value.ownBlock] at q; omega)
        have z3 := b3.size
        have H3 := Lib.hid (And.intro b3 (And.intro o3 ob3))
        clear g3 o3 b3 ob3
        go_wp2_with fail
        refine (l8Loads_any _ _ t (nextL g k) _ _ (hv'.out.bel H3.out.1) H3.out.2.1.ints (by rw [N.out.2.1, H.out.2.2.2.1]; exact Nat.le_refl _) h1 N.out.1).mono ?_
        rintro x w4 ⟨r4, rfl, o4, b4⟩
        have z4 := b4.size
        have H4 := Lib.hid (And.intro o4 b4)
        clear o4 b4
        go_wp2_with fail
        refine (l8Most_any _ _ _ H4.out.1.ints).mono ?_
        rw [Int.toNat_natCast]
        change ∀ e_1 w', e_1 = Ending.returned (.int .i64 (spanV t (nextL g k) k)) ∧ w4 = w' → _
        rintro x w' ⟨rfl, rfl⟩
        have sb := spanV_bd (t := t) (g := nextL g k) k TB.out (by rw [N.out.2.1, H.out.2.2.2.1]; exact t8)
        by_cases q : spanV t (nextL g k) k < sv
        · have OE := Lib.hid (Own.empty w4 (w.heap.size + 1) (by have := (H3.out.2.1.lt w.heap.size rfl).2; omega))
          have hsz : w.heap.size + 1 ≤ w4.heap.size := by have := (H3.out.2.1.lt w.heap.size rfl).2; omega
          have Q := Lib.hid q
          go_wp2_with (at_builtin; refine app_ints rfl _ _ (by rfl) (w.heap.size + 1) (.slice (some ⟨w4.heap.size, 0, none⟩) 0 0) _ [] (nextL g k) (by rfl) (by exact OE.out) (by rfl) (by exact ((H3.out.2.1.bel H4.out.2).bel (bel_alloc _ _)).ints) (by rw [N.out.2.1, H.out.2.2.2.1]; simp only [List.length_nil]; omega) (by simp; omega) ?_; intro v5 w5 ho hg hat)
          go_roundg m
          case measure => omega
          case rel =>
            refine ⟨nextL g k, nextL g k, spanV t (nextL g k) k, rfl, ?_, ho, N.out.1, by rw [N.out.2.1, H.out.2.2.2.1], ?_, by rw [N.out.2.2]; have := H.out.2.2.2.2.2.1; omega, sb, ?_⟩
            · exact ((H3.out.2.1.bel H4.out.2).bel (bel_alloc _ (.cells #[] 3))).apart hg (fun j p1 p2 => by simp [Value.ownBlock] at p1 p2; omega)
            · rw [← bestN_lt hb Q.out]; exact H.out.2.2.2.2.1
            · refine (bel_trans (bel_trans H3.out.1 H4.out.2) (bel_alloc _ (.cells #[] 3))).trans (below_own hg (by simp; omega) ?_)
              intro j hj
              simp [Value.ownBlock] at hj
              omega
        · have Q := Lib.hid q
          go_wp2
          go_roundg m
          case measure => omega
          case rel =>
            refine ⟨nextL g k, bl, sv, rfl, H3.out.2.1.bel H4.out.2, H3.out.2.2.bel H4.out.2, N.out.1, by rw [N.out.2.1, H.out.2.2.2.1], ?_, by rw [N.out.2.2]; have := H.out.2.2.2.2.2.1; omega, hsv, bel_trans H3.out.1 H4.out.2⟩
            rw [← bestN_ge (t := t) (b := bl) (s := sv) hb (by have := Q.out; omega)]; exact H.out.2.2.2.2.1
  · have HG := Lib.hid (show best t e = [] from by simp [best, h1])
    have OE := Lib.hid (Own.empty w w.heap.size (Nat.le_refl _))
    go_enter Try.func34, Try.ntmps34
    go_wp2_with fail
    refine (l8Engines_any _ _ _ _ hv'.out).mono ?_; rintro x w' ⟨rfl, rfl⟩
    go_wp2_with fail
    go_ret
    rw [HG.out]
    exact ⟨_, rfl, OE.out, bel_alloc _ _⟩

theorem spanOf_V {t g : List Int} {k : Nat} (h1 : schedOk t k = true) (h2 : g.length = t.length) (h3 : namesOk g k = true) : spanOf t g k = spanV t g k := by
  rw [span_yes h1 h2 h3, Int.toNat_natCast]; rfl
theorem nextB_nil {g : List Int} {e : Int} (h : g.length = 0) : nextB g e = false := by
  obtain rfl := List.eq_nil_of_length_eq_zero h
  rfl
theorem Own.low {w w' : World} {base B : Nat} {v : Value} {l : List Int} (h : Own w base v l) (hb : Below B w w') (hv : ∀ k, v.ownBlock = some k → k < B) : Own w' base v l := by
  refine ⟨⟨h.1.1, ?_⟩, h.2⟩
  rcases h.1.2 with q | ⟨g1, cap, cur, rfl, q2, q3, q4⟩
  · exact .inl q
  · exact .inr ⟨g1, cap, cur, rfl, q2, (hb.block g1 (hv g1 rfl)).trans q3, q4⟩
theorem Try.sizeInt : (Try.prog.info? 3).map (·.size) = some 1 := by kernel_rfl

set_option maxHeartbeats 2000000 in
theorem implBest_any (v : Value) (t : List Int) (e : Int) (w : World) (hv : Ints w v t) (he : -9223372036854775808 ≤ e ∧ e ≤ 9223372036854775807) :
    Calls Try.prog 33 #[v, .int .i64 e] w fun x w' => ∃ r, x = .returned r ∧ Own w' w.heap.size r (best t e) ∧ Below w.heap.size w w' := by
  have hv' := Lib.hid hv
  obtain ⟨A, c, rfl, hlc, hc, hrd⟩ := hv.open_
  clear hrd hv
  by_cases h1 : schedOk t e = true
  · obtain ⟨t8, e1, e3, tb⟩ := schedOk_true h1
    have TB := Lib.hid tb
    have HB := Lib.hid (show best t e = bestN t e.toNat (e.toNat ^ t.length) (zeros t.length) (zeros t.length) (spanV t (zeros t.length) e.toNat) from by rw [best, if_pos h1])
    obtain ⟨k, rfl⟩ : ∃ k : Nat, e = k := ⟨e.toNat, by omega⟩
    rw [Int.toNat_natCast] at HB
    have hmk := fun W => Try.mkInts t.length (by omega) W
    have hmk' := Lib.hid hmk
    clear tb
    have OG := Lib.hid (show Own (w.alloc (.cells (reps t.length (.int .i64 0)).toArray 3)) w.heap.size (.slice (some ⟨w.heap.size, 0, none⟩) t.length t.length) (zeros t.length) from
      own_gen (f := fun _ => 0) (Nat.le_refl _) (Blk.new w _ _) (reps_length _ _) (by omega) (fun j hj => reps_get _ hj) (fun _ _ => by omega))
    have hS0 := spanOf_V h1 (zeros_length t.length) (zeros_names t.length (e := k) (by omega))
    go_enter Try.func33, Try.ntmps33
    go_wp2_with fail
    refine (canSchedule_any _ _ _ _ hv'.out).mono ?_; rintro x w' ⟨rfl, rfl⟩
    clear hmk'
    go_wp2_with fail
    refine (clone_any _ _ _ OG.out.ints (by rw [zeros_length]; omega)).mono ?_; rintro x w1 ⟨v1, rfl, o1, b1⟩
    rw [World.size_alloc] at o1
    have z1 := b1.size
    have B1 := bel_trans (bel_alloc w (.cells (reps t.length (.int .i64 0)).toArray 3)) b1
    have HO := Lib.hid (And.intro o1 (And.intro (OG.out.bel b1) B1))
    have hs0 := Lib.hid hS0
    have zz : w.heap.size + 1 ≤ w1.heap.size := by simpa using z1
    clear o1 b1 hmk B1 hS0 z1
    go_wp2_with fail
    refine (implSpan_any _ _ t (zeros t.length) _ _ (hv'.out.bel HO.out.2.2) HO.out.1.ints (by omega)).mono ?_
    rw [hs0.out]
    rintro x w2 ⟨rfl, b2⟩
    have z2 := b2.size
    have H2 := Lib.hid b2
    clear b2
    go_wp2_with fail
    go_loopg [7] (k ^ t.length) (fun m s wr => ∃ (g bl : List Int) (sv : Int), s = .int .i64 sv ∧ Own wr w.heap.size (.slice (some ⟨w.heap.size, 0, none⟩) t.length t.length) g ∧ Own wr (w.heap.size + 1) v1 bl ∧ namesOk g k = true ∧ g.length = t.length ∧ bl.length = t.length ∧ bestN t k m g bl sv = best t k ∧ val g k + m = k ^ t.length ∧ (0 ≤ sv ∧ sv ≤ 8000) ∧ Below w.heap.size w wr)
    case atStart =>
      exact ⟨zeros t.length, zeros t.length, spanV t (zeros t.length) k, rfl, HO.out.2.1.bel H2.out, HO.out.1.bel H2.out, zeros_names _ (by omega), zeros_length _, zeros_length _, HB.out.symm, by rw [val_zeros]; omega, spanV_bd k TB.out (by rw [zeros_length]; exact t8), bel_trans HO.out.2.2 H2.out⟩
    case round =>
      clear HO H2 OG HB hs0
      obtain ⟨g, bl, sv, rfl, og, ob, hgn, hgl, hbl, hbest, hval, hsv, hbel⟩ := hrel
      have hlt := val_lt (by omega) hgn
      rw [hgl] at hlt
      obtain ⟨m, rfl⟩ : ∃ m, gk = m + 1 := ⟨gk - 1, by omega⟩
      have H := Lib.hid (And.intro og (And.intro ob (And.intro hgn (And.intro hgl (And.intro hbest (And.intro hval hbel))))))
      have HL := Lib.hid hbl
      have zr := hbel.size
      clear og ob hgn hgl hbest hval hbel hlt hbl
      cases hb : nextB g k
      · go_wp2_with fail
        refine (nextSchedule_any _ g k _ _ H.out.1 H.out.2.2.1 (by omega) (by omega) (by rw [H.out.2.2.2.1]; exact t8)).mono ?_
        rintro x w3 ⟨rfl, g3, o3⟩
        have H3 := Lib.hid (And.intro g3 o3)
        clear g3 o3
        go_wp2
        go_ret
        have hR := H.out.2.2.2.2.1
        rw [bestN_no hb] at hR
        rw [← hR]
        have ob' := H.out.2.1.apart H3.out.1 (fun j p q => by have := (H.out.2.1.lt j p).1; simp [Value.ownBlock] at q; omega)
        exact ⟨_, rfl, ob'.lower (by omega), mark_bel H.out.2.2.2.2.2.2 H3.out.1 (fun j q => by simp [Value.ownBlock] at q; omega)⟩
      · obtain ⟨n1, n2, n3⟩ := nextB_some (by omega) H.out.2.2.1 hb
        have hS := spanOf_V h1 (n2.trans H.out.2.2.2.1) n1
        have N := Lib.hid (And.intro n1 (And.intro n2 (And.intro n3 hS)))
        clear n1 n2 n3 hS
        go_wp2_with fail
        refine (nextSchedule_any _ g k _ _ H.out.1 H.out.2.2.1 (by omega) (by omega) (by rw [H.out.2.2.2.1]; exact t8)).mono ?_
        rintro x w3 ⟨rfl, g3, o3⟩
        have b3 : Below w.heap.size w w3 := mark_bel H.out.2.2.2.2.2.2 g3 (fun j q => by simp [Value.ownBlock] at q; omega)
        have ob3 := H.out.2.1.apart g3 (fun j p q => by have := (H.out.2.1.lt j p).1; simp [Value.ownBlock] at q; omega)
        have z3 := b3.size
        have H3 := Lib.hid (And.intro b3 (And.intro o3 ob3))
        clear g3 o3 b3 ob3
        go_wp2_with fail
        refine (implSpan_any _ _ t (nextL g k) _ _ (hv'.out.bel H3.out.1) H3.out.2.1.ints (by omega)).mono ?_
        rw [N.out.2.2.2]
        rintro x w4 ⟨rfl, b4⟩
        have z4 := b4.size
        have H4 := Lib.hid b4
        clear b4
        have sb := spanV_bd (t := t) (g := nextL g k) k TB.out (by rw [N.out.2.1, H.out.2.2.2.1]; exact t8)
        by_cases q : spanV t (nextL g k) k < sv
        · have Q := Lib.hid q
          have og4 := H3.out.2.1.bel H4.out
          have ob4 := H3.out.2.2.bel H4.out
          rcases ob4.form with ⟨_, hnil⟩ | ⟨g1, cap1, cs, rfl, hg1, hblk, hlc1, hcm1, hcl1, hcs1⟩
          · have q1 := HL.out
            rw [hnil] at q1
            have := nextB_nil (e := (k : Int)) (H.out.2.2.2.1.trans q1.symm)
            rw [this] at hb
            cases hb
          · rw [HL.out] at *
            have hgl4 : (nextL g k).length = t.length := N.out.2.1.trans H.out.2.2.2.1
            have O4 := Lib.hid (And.intro og4 (And.intro hblk (And.intro hgl4 hcl1)))
            clear og4 ob4 hblk hcs1 hgl4 hcl1
            go_wp2_with (refine wpList_copy_splice (P := Try.prog) (o := ⟨some 35, _, _, _, _, _⟩) rfl (.tmp 33) (.tmp 34) 23 23 rfl 3 Try.underlying23 Try.sizeInt (some ⟨g1, 0, none⟩) (some ⟨w.heap.size, 0, none⟩) t.length cap1 t.length t.length (by rfl) (by rfl) g1 0 cs 3 O4.out.2.1 (iv (nextL g k)) (by rw [iv_length, O4.out.2.2.1]; exact (Nat.min_self _).symm) (fun _ => ⟨rfl, _, rfl, fun j u hj => (O4.out.1.1.cells (g := w.heap.size) rfl) j u hj⟩) (by rw [iv_length, O4.out.2.2.1, O4.out.2.2.2]; omega) (by intro u hu; simp [iv] at hu; obtain ⟨n, _, rfl⟩ := hu; rfl) g1 w4 (Below.refl _ _) (Nat.le_refl _) ?_; intro w5 hcp hbl5)
            go_roundg m
            case measure => omega
            case rel =>
              have hg4 := O4.out.2.2.1
              have hc4 := O4.out.2.2.2
              refine ⟨nextL g k, nextL g k, spanV t (nextL g k) k, rfl, O4.out.1.low hbl5 (fun j q => by simp [Value.ownBlock] at q; omega), ?_, N.out.1, hg4, hg4, ?_, by rw [N.out.2.2.1]; have := H.out.2.2.2.2.2.1; omega, sb, (bel_trans H3.out.1 H4.out).trans (hbl5.mono (by omega))⟩
              · have ho := Own.mk' (w := w5) (l := nextL g k) (cs := splice cs 0 (iv (nextL g k))) hg1 hcp.out (by rw [hg4]; omega) hcm1 (by rw [length_splice _ _ _ (by rw [iv_length, hg4, hc4]; omega)]; exact hc4) (fun j hj => by
                  simp only [splice, List.take_zero, List.nil_append]
                  rw [List.getElem?_append_left (by rw [iv_length]; exact hj), iv_get _ _ hj]) O4.out.1.2.1
                rwa [hg4] at ho
              · rw [← bestN_lt (t := t) (b := bl) (s := sv) hb (by have := Q.out; omega)]; exact H.out.2.2.2.2.1
        · have Q := Lib.hid q
          go_wp2
          go_roundg m
          case measure => omega
          case rel =>
            refine ⟨nextL g k, bl, sv, rfl, H3.out.2.1.bel H4.out, H3.out.2.2.bel H4.out, N.out.1, by rw [N.out.2.1, H.out.2.2.2.1], HL.out, ?_, by rw [N.out.2.2.1]; have := H.out.2.2.2.2.2.1; omega, hsv, bel_trans H3.out.1 H4.out⟩
            rw [← bestN_ge (t := t) (b := bl) (s := sv) hb (by have := Q.out; omega)]; exact H.out.2.2.2.2.1
  · have HG := Lib.hid (show best t e = [] from by simp [best, h1])
    go_enter Try.func33, Try.ntmps33
    go_wp2_with fail
    refine (canSchedule_any _ _ _ _ hv'.out).mono ?_; rintro x w' ⟨rfl, rfl⟩
    go_wp2_with fail
    go_ret
    rw [HG.out]
    exact ⟨_, rfl, Own.nil_ _ _, Below.refl _ _⟩

theorem best_ok {t : List Int} {k : Nat} (h : schedOk t k = true) : (best t k).length = t.length ∧ namesOk (best t k) k = true := by
  obtain ⟨_, e1, e3, _⟩ := schedOk_true h
  rw [best, if_pos h, Int.toNat_natCast]
  exact bestN_len (by omega) _ _ _ _ (zeros_names _ (by omega)) (zeros_length _) (zeros_names _ (by omega)) (zeros_length _)
def leastSpan (t : List Int) (e : Int) : Int := if schedOk t e = true then spanV t (best t e) e.toNat else -1

set_option maxHeartbeats 1000000 in
theorem specLeast_any (v : Value) (t : List Int) (e : Int) (w : World) (hv : Ints w v t) (he : -9223372036854775808 ≤ e ∧ e ≤ 9223372036854775807) :
    Calls Try.prog 20 #[v, .int .i64 e] w fun x w' => x = .returned (.int .i64 (leastSpan t e)) ∧ Below w.heap.size w w' := by
  have hv' := Lib.hid hv
  by_cases h1 : schedOk t e = true
  · obtain ⟨t8, e1, e3, tb⟩ := schedOk_true h1
    have HL := Lib.hid (show leastSpan t e = spanV t (best t e) e.toNat from by rw [leastSpan, if_pos h1])
    obtain ⟨k, rfl⟩ : ∃ k : Nat, e = k := ⟨e.toNat, by omega⟩
    rw [Int.toNat_natCast] at HL
    have HB := Lib.hid (best_ok h1)
    clear tb
    go_enter Try.func20, Try.ntmps20
    go_wp2_with fail
    refine (l8Engines_any _ _ _ _ hv'.out).mono ?_; rintro x w' ⟨rfl, rfl⟩
    go_wp2_with fail
    refine (specBest_any _ _ _ _ hv'.out (by omega)).mono ?_; rintro x w1 ⟨r1, rfl, o1, b1⟩
    have H1 := Lib.hid (And.intro o1 b1)
    clear o1 b1
    go_wp2_with fail
    refine (l8Loads_any _ _ t (best t k) _ _ (hv'.out.bel H1.out.2) H1.out.1.ints (by rw [HB.out.1]; exact Nat.le_refl _) h1 HB.out.2).mono ?_
    rintro x w2 ⟨r2, rfl, o2, b2⟩
    have H2 := Lib.hid (And.intro o2 b2)
    clear o2 b2
    go_wp2_with fail
    refine (l8Most_any _ _ _ H2.out.1.ints).mono ?_
    rintro x w' ⟨rfl, rfl⟩
    go_wp2
    go_ret
    rw [HL.out]
    exact ⟨rfl, bel_trans H1.out.2 H2.out.2⟩
  · have HL := Lib.hid (show leastSpan t e = -1 from by rw [leastSpan, if_neg h1])
    go_enter Try.func20, Try.ntmps20
    go_wp2_with fail
    refine (l8Engines_any _ _ _ _ hv'.out).mono ?_; rintro x w' ⟨rfl, rfl⟩
    go_wp2_with fail
    go_ret
    exact ⟨ret_int HL.out.symm, Below.refl _ _⟩

set_option maxHeartbeats 1000000 in
theorem implLeast_any (v : Value) (t : List Int) (e : Int) (w : World) (hv : Ints w v t) (he : -9223372036854775808 ≤ e ∧ e ≤ 9223372036854775807) :
    Calls Try.prog 18 #[v, .int .i64 e] w fun x w' => x = .returned (.int .i64 (leastSpan t e)) ∧ Below w.heap.size w w' := by
  have hv' := Lib.hid hv
  by_cases h1 : schedOk t e = true
  · obtain ⟨t8, e1, e3, tb⟩ := schedOk_true h1
    have HL := Lib.hid (show leastSpan t e = spanV t (best t e) e.toNat from by rw [leastSpan, if_pos h1])
    obtain ⟨k, rfl⟩ : ∃ k : Nat, e = k := ⟨e.toNat, by omega⟩
    rw [Int.toNat_natCast] at HL
    have HB := Lib.hid (best_ok h1)
    have HS := Lib.hid (spanOf_V h1 HB.out.1 HB.out.2)
    clear tb
    go_enter Try.func18, Try.ntmps18
    go_wp2_with fail
    refine (canSchedule_any _ _ _ _ hv'.out).mono ?_; rintro x w' ⟨rfl, rfl⟩
    go_wp2_with fail
    refine (implBest_any _ _ _ _ hv'.out (by omega)).mono ?_; rintro x w1 ⟨r1, rfl, o1, b1⟩
    have H1 := Lib.hid (And.intro o1 b1)
    clear o1 b1
    go_wp2_with fail
    refine (implSpan_any _ _ t (best t k) _ _ (hv'.out.bel H1.out.2) H1.out.1.ints (by omega)).mono ?_
    rw [HS.out]
    rintro x w2 ⟨rfl, b2⟩
    go_wp2
    go_ret
    exact ⟨ret_int HL.out.symm, bel_trans H1.out.2 b2⟩
  · have HL := Lib.hid (show leastSpan t e = -1 from by rw [leastSpan, if_neg h1])
    go_enter Try.func18, Try.ntmps18
    go_wp2_with fail
    refine (canSchedule_any _ _ _ _ hv'.out).mono ?_; rintro x w' ⟨rfl, rfl⟩
    go_wp2_with fail
    go_ret
    exact ⟨ret_int HL.out.symm, Below.refl _ _⟩

end Go.Proofs.Ytegofpfhlhfdnaa
