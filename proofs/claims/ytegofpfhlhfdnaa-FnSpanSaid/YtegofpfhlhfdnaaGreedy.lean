/-
  Contracts of GreedySchedule.
-/
import Derived.Test.YtegofpfhlhfdnaaSpan
namespace Go.Proofs.Ytegofpfhlhfdnaa
open Go.RowKit
set_option linter.unusedVariables false
set_option maxRecDepth 100000

/-- The first one of the least of the first n numbers. -/
def freeTo (l : List Int) : Nat → Nat
  | 0 => 0
  | n + 1 => if at_ l n < at_ l (freeTo l n) then n else freeTo l n
theorem freeTo_lt (l : List Int) : ∀ n, freeTo l (n + 1) ≤ n
  | 0 => by simp [freeTo]
  | n + 1 => by
    have := freeTo_lt l n
    rw [freeTo]
    split <;> omega
theorem freeTo_one (l : List Int) : freeTo l 1 = 0 := by simp [freeTo]
def free (l : List Int) : Nat := freeTo l l.length
def greedyTo (t : List Int) (k : Nat) : Nat → List Int
  | 0 => []
  | n + 1 => greedyTo t k n ++ [(free (loads t (greedyTo t k n) k n) : Int)]
def gAt (t : List Int) (k n : Nat) : Int := (free (loads t (greedyTo t k n) k n) : Int)
theorem greedyTo_gen (t : List Int) (k : Nat) : ∀ n, greedyTo t k n = gen (gAt t k) n
  | 0 => by simp [greedyTo, gen]
  | n + 1 => by rw [greedyTo, gen_succ, greedyTo_gen t k n]; rw [gAt, greedyTo_gen t k n]
theorem greedyTo_length (t : List Int) (k n : Nat) : (greedyTo t k n).length = n := by rw [greedyTo_gen, gen_length]
theorem gAt_bd (t : List Int) {k : Nat} (hk : 1 ≤ k) (n : Nat) : 0 ≤ gAt t k n ∧ gAt t k n < k := by
  unfold gAt free
  rw [loads_length]
  obtain ⟨m, rfl⟩ : ∃ m, k = m + 1 := ⟨k - 1, by omega⟩
  have := freeTo_lt (loads t (greedyTo t (m + 1) n) (m + 1) n) m
  omega
theorem greedyTo_names (t : List Int) {k : Nat} (hk : 1 ≤ k) (n : Nat) : namesOk (greedyTo t k n) k = true :=
  namesOk_mk fun j hj => by rw [greedyTo_length] at hj; rw [greedyTo_gen, at_gen hj]; exact gAt_bd t hk j
def greedy (t : List Int) (e : Int) : List Int := if schedOk t e = true then greedyTo t e.toNat t.length else []
theorem greedy_len (t : List Int) (e : Int) : (greedy t e).length ≤ t.length := by
  unfold greedy
  split
  · rw [greedyTo_length]; exact Nat.le_refl _
  · simp
theorem load_congr {t g g' : List Int} {e : Nat} : ∀ n, (∀ j, j < n → at_ g j = at_ g' j) → load t g e n = load t g' e n
  | 0, _ => rfl
  | n + 1, h => by rw [load, load, load_congr n (fun j hj => h j (by omega)), h n (by omega)]

set_option maxHeartbeats 1000000 in
theorem l8Free_any (v : Value) (l : List Int) (w : World) (hv : Ints w v l) (hn : 0 < l.length) :
    Calls Try.prog 73 #[v] w fun x w' => x = .returned (.int .i64 (free l : Int)) ∧ Below w.heap.size w w' := by
  obtain ⟨A, c, rfl, hlc, hc, hrd⟩ := hv.open_
  obtain ⟨b, o, rfl, hb, hcell⟩ := hrd.ints hn
  have HC := Lib.hid hcell
  clear hcell
  go_enter Try.func73, Try.ntmps73
  go_wp2
  go_loopw [3, 4] (fun f i wr => ∃ k : Nat, 1 ≤ k ∧ k ≤ l.length ∧ i = .int .i64 k ∧ f = .int .i64 (freeTo l k) ∧ ∃ n, wr = w.drewN n) (fun _ i _ => l.length - (intOf i).toNat)
  case atStart => exact ⟨1, Nat.le_refl _, hn, rfl, by rw [freeTo_one]; rfl, 0, rfl⟩
  case round =>
    obtain ⟨k, hk1, hk, rfl, rfl, nd, rfl⟩ := hrel
    by_cases hlt : k < l.length
    · have hck := HC.out k hlt
      have hfl : freeTo l k < k := by
        obtain ⟨m, rfl⟩ : ∃ m, k = m + 1 := ⟨k - 1, by omega⟩
        have := freeTo_lt l m
        omega
      have hcf := HC.out (freeTo l k) (by omega)
      have p1 : (k : Int) < (l.length : Int) := by omega
      have p2 : (freeTo l k : Int) < (l.length : Int) := by omega
      have p3 : (0 : Int) ≤ (k : Int) := by omega
      have p4 : (0 : Int) ≤ (freeTo l k : Int) := by omega
      by_cases hm : at_ l k < at_ l (freeTo l k)
      · have HF := Lib.hid (show freeTo l (k + 1) = k from by rw [freeTo, if_pos hm])
        go_wp2
        go_quiet (fail)
        go_wp2
        go_roundw
        case rel => exact ⟨k + 1, by omega, by omega, by go_num, by rw [HF.out], _, rfl⟩
        case measure => simp [intOf]; omega
      · have HF := Lib.hid (show freeTo l (k + 1) = freeTo l k from by rw [freeTo, if_neg hm])
        go_wp2
        go_quiet (fail)
        go_wp2
        go_roundw
        case rel => exact ⟨k + 1, by omega, by omega, by go_num, by rw [HF.out], _, rfl⟩
        case measure => simp [intOf]; omega
    · have hkl : k = l.length := by omega
      subst hkl
      go_wp2
      go_ret
      exact ⟨rfl, below_drewN (Below.refl _ _) _⟩

set_option maxHeartbeats 1000000 in
theorem specGreedy_any (v : Value) (t : List Int) (e : Int) (w : World) (hv : Ints w v t) (he : -9223372036854775808 ≤ e ∧ e ≤ 9223372036854775807) :
    Calls Try.prog 24 #[v, .int .i64 e] w fun x w' => ∃ r, x = .returned r ∧ Own w' w.heap.size r (greedy t e) ∧ Below w.heap.size w w' := by
  have hv' := Lib.hid hv
  obtain ⟨A, c, rfl, hlc, hc, hrd⟩ := hv.open_
  have OE := Lib.hid (Own.empty w w.heap.size (Nat.le_refl _))
  by_cases h1 : schedOk t e = true
  · obtain ⟨t8, e1, e3, tb⟩ := schedOk_true h1
    have HG := Lib.hid (show greedy t e = greedyTo t e.toNat t.length from by simp [greedy, h1])
    obtain ⟨k, rfl⟩ : ∃ k : Nat, e = k := ⟨e.toNat, by omega⟩
    rw [Int.toNat_natCast] at HG
    clear tb hrd hv
    go_enter Try.func24, Try.ntmps24
    go_wp2_with fail
    refine (l8Engines_any _ _ _ _ (hv'.out.bel (bel_alloc _ _))).mono ?_; rintro x w' ⟨rfl, rfl⟩
    go_wp2_with fail
    go_loopw [5, 6] (fun r i wr => ∃ n : Nat, n ≤ t.length ∧ i = .int .i64 n ∧ Own wr w.heap.size r (greedyTo t k n) ∧ Below w.heap.size w wr)
      (fun _ i _ => t.length - (intOf i).toNat)
    case atStart => exact ⟨0, Nat.zero_le _, rfl, OE.out, bel_alloc _ _⟩
    case round =>
      obtain ⟨n, hn, rfl, hown, hbel⟩ := hrel
      have HO := Lib.hid (And.intro hown hbel)
      have hz := hbel.size
      clear hown hbel
      by_cases hlt : n < t.length
      · have gb := gAt_bd t (k := k) (by omega) n
        have GE := Lib.hid (show gAt t k n = (free (loads t (greedyTo t k n) k n) : Int) from rfl)
        go_wp2_with fail
        refine (l8Loads_any _ _ t (greedyTo t k n) _ _ (hv'.out.bel HO.out.2) HO.out.1.ints (by rw [greedyTo_length]; omega) h1 (greedyTo_names t (by omega) n)).mono ?_
        rw [greedyTo_length, Int.toNat_natCast]
        rintro x w1 ⟨r1, rfl, o1, b1⟩
        have z1 := b1.size
        have H1 := Lib.hid (And.intro o1 b1)
        clear o1 b1
        go_wp2_with fail
        refine (l8Free_any _ _ _ H1.out.1.ints (by rw [loads_length]; omega)).mono ?_
        rw [← GE.out]
        rintro x w2 ⟨rfl, b2⟩
        have z2 := b2.size
        have H2 := Lib.hid b2
        clear b2
        go_wp2_with (at_builtin; refine app_int rfl _ _ (by rfl) w.heap.size _ _ (by rfl) (by exact ((HO.out.1.bel H1.out.2).bel H2.out).bel (bel_alloc _ _)) _ _ (gAt t k n) (by rfl) (by exact new_cell _ _ _) (by omega) (by rw [greedyTo_length]; omega) (by simp; omega) ?_; intro v1 w3 ho hg _)
        go_roundw
        case rel => exact ⟨n + 1, by omega, by go_num, ho, app_bel (bel_trans (bel_trans (bel_trans HO.out.2 H1.out.2) H2.out) (bel_alloc _ _)) (by exact ((HO.out.1.bel H1.out.2).bel H2.out).bel (bel_alloc _ _)) hg⟩
        case measure => simp [intOf]; omega
      · have hnl : n = t.length := by omega
        subst hnl
        go_wp2
        go_ret
        rw [HG.out]
        exact ⟨_, rfl, HO.out.1, HO.out.2⟩
  · have HG := Lib.hid (show greedy t e = [] from by simp [greedy, h1])
    go_enter Try.func24, Try.ntmps24
    go_wp2_with fail
    refine (l8Engines_any _ _ _ _ (hv'.out.bel (bel_alloc _ _))).mono ?_; rintro x w' ⟨rfl, rfl⟩
    go_wp2_with fail
    go_ret
    rw [HG.out]
    exact ⟨_, rfl, OE.out, bel_alloc _ _⟩

theorem load_gAt {t : List Int} {k n : Nat} (e : Nat) {m : Nat} (h : m ≤ n) : load t (gen (gAt t k) n) e m = load t (greedyTo t k m) e m :=
  load_congr m fun j hj => by rw [greedyTo_gen, at_gen (by omega), at_gen hj]
/-- The list given by the first n choices and zeros. -/
def given0 (t : List Int) (k n len : Nat) (ds : List Value) : Prop := ds.length = len ∧ (∀ j, j < n → ds[j]? = some (.int .i64 (gAt t k j))) ∧ ∀ j, n ≤ j → j < len → ds[j]? = some (.int .i64 0)
def L_ (t : List Int) (k n : Nat) : List Int := loads t (greedyTo t k n) k n
theorem at_L {t : List Int} {k n j : Nat} (h : j < k) : at_ (L_ t k n) j = load t (greedyTo t k n) j n := at_loads h
theorem L_next {t : List Int} {k n j : Nat} (hk : 1 ≤ k) (hj : j < k) : load t (greedyTo t k (n + 1)) j (n + 1) = if j = freeTo (L_ t k n) k then at_ (L_ t k n) j + at_ t n else at_ (L_ t k n) j := by
  have hg : at_ (greedyTo t k (n + 1)) n = (freeTo (L_ t k n) k : Int) := by
    rw [greedyTo_gen, at_gen (by omega), gAt, free, loads_length]; rfl
  have hl : load t (greedyTo t k (n + 1)) j n = load t (greedyTo t k n) j n := load_congr n fun i hi => by rw [greedyTo_gen, greedyTo_gen, at_gen (by omega), at_gen hi]
  rw [load, hg, hl, at_L hj]
  by_cases e : j = freeTo (L_ t k n) k
  · rw [if_pos e, if_pos (by omega)]
  · rw [if_neg e, if_neg (by omega)]; omega

set_option maxHeartbeats 2000000 in
theorem implGreedy_any (v : Value) (t : List Int) (e : Int) (w : World) (hv : Ints w v t) (he : -9223372036854775808 ≤ e ∧ e ≤ 9223372036854775807) :
    Calls Try.prog 22 #[v, .int .i64 e] w fun x w' => ∃ r, x = .returned r ∧ Own w' w.heap.size r (greedy t e) ∧ Below w.heap.size w w' := by
  have hv' := Lib.hid hv
  obtain ⟨A, c, rfl, hlc, hc, hrd⟩ := hv.open_
  by_cases h1 : schedOk t e = true
  · obtain ⟨t8, e1, e3, tb⟩ := schedOk_true h1
    have TB := Lib.hid tb
    have HG := Lib.hid (show greedy t e = greedyTo t e.toNat t.length from by simp [greedy, h1])
    obtain ⟨k, rfl⟩ : ∃ k : Nat, e = k := ⟨e.toNat, by omega⟩
    rw [Int.toNat_natCast] at HG
    have hmk := fun W => Try.mkInts k (by omega) W
    have hmk2 := fun W => Try.mkInts t.length (by omega) W
    clear tb hv
    go_enter Try.func22, Try.ntmps22
    go_wp2_with fail
    refine (canSchedule_any _ _ _ _ hv'.out).mono ?_; rintro x w' ⟨rfl, rfl⟩
    go_wp2_with fail
    clear hmk hmk2
    go_loopw [22] (fun i wr => ∃ (n : Nat) (cs ds : List Value), n ≤ t.length ∧ i = .int .i64 n ∧ Blk wr w.heap.size 3 cs ∧ cs.length = k ∧ (∀ j, j < k → cs[j]? = some (.int .i64 (at_ (L_ t k n) j))) ∧ Blk wr (w.heap.size + 1) 3 ds ∧ given0 t k n t.length ds ∧ Below w.heap.size w wr)
      (fun i _ => t.length - (intOf i).toNat)
    case atStart =>
      refine ⟨0, _, _, Nat.zero_le _, rfl, (Blk.new w _ _).alloc _, reps_length _ _, fun j hj => by rw [at_L hj]; exact reps_get _ hj, ?_, ⟨reps_length _ _, fun j hj => absurd hj (by omega), fun j _ hj => reps_get _ hj⟩, bel_trans (bel_alloc _ _) (bel_alloc _ _)⟩
      have := Blk.new (w.alloc (.cells (reps k (.int .i64 0)).toArray 3)) 3 (reps t.length (.int .i64 0))
      simpa using this
    case round =>
      obtain ⟨n, cs, ds, hn, rfl, hblk, hcl, hcs, hblk2, hgv, hbel⟩ := hrel
      have HO := Lib.hid (And.intro hcl (And.intro hcs (And.intro hblk (And.intro hblk2 (And.intro hgv hbel)))))
      have hz := hbel.size
      clear hcl hcs hgv hblk hblk2
      obtain ⟨wo, rfl⟩ : ∃ wo : World, wo = wr := ⟨_, rfl⟩
      by_cases hlt : n < t.length
      · obtain ⟨b, o, rfl, hb, hcell⟩ := hrd.ints (by omega)
        have c1 : wo.cell? ⟨b, o + n, none⟩ = some (.int .i64 (at_ t n)) := (hbel.cell (by exact hb)).trans (hcell n hlt)
        have HC := Lib.hid hcell
        have hd0 := HO.out.2.2.2.2.1.2.2 n (Nat.le_refl _) hlt
        clear hcell hbel
        go_wp2
        go_loopw [29] (fun i wr => ∃ (m : Nat) (ds : List Value), m ≤ k ∧ i = .int .i64 m ∧ Blk wr w.heap.size 3 cs ∧ Blk wr (w.heap.size + 1) 3 ds ∧ ds.length = t.length ∧ (∀ j, j < t.length → ds[j]? = some (.int .i64 (if j < n then gAt t k j else if j = n then (freeTo (L_ t k n) m : Int) else 0))) ∧ Below w.heap.size w wr)
          (fun i _ => k - (intOf i).toNat)
        case atStart =>
          refine ⟨0, ds, Nat.zero_le _, rfl, HO.out.2.2.1, HO.out.2.2.2.1, HO.out.2.2.2.2.1.1, fun j hj => ?_, HO.out.2.2.2.2.2⟩
          by_cases q1 : j < n
          · rw [if_pos q1]; exact HO.out.2.2.2.2.1.2.1 j q1
          · rw [if_neg q1, HO.out.2.2.2.2.1.2.2 j (by omega) hj]
            by_cases q2 : j = n
            · rw [if_pos q2]; simp [freeTo]
            · rw [if_neg q2]
        case round =>
          obtain ⟨m, es, hm, rfl, hb1, hb2, hel, hes, hbel⟩ := hrel
          have HE := Lib.hid (And.intro hb1 (And.intro hb2 (And.intro hel (And.intro hes hbel))))
          have hz2 := hbel.size
          have cn : wr.cell? ⟨w.heap.size + 1, n, none⟩ = some (.int .i64 (freeTo (L_ t k n) m)) := by rw [hb2.cell, hes n hlt, if_neg (by omega), if_pos rfl]
          have fn := hb2.frozen n
          have hfk : freeTo (L_ t k n) m < k := by
            cases m with
            | zero => simp only [freeTo]; omega
            | succ m => have := freeTo_lt (L_ t k n) m; omega
          have cf : wr.cell? ⟨w.heap.size, freeTo (L_ t k n) m, none⟩ = some (.int .i64 (at_ (L_ t k n) (freeTo (L_ t k n) m))) := by rw [hb1.cell]; exact HO.out.2.1 _ hfk
          have c1' : wr.cell? ⟨b, o + n, none⟩ = some (.int .i64 (at_ t n)) := (hbel.cell (by exact hb)).trans (HC.out n hlt)
          have fsum := hb1.frozen (freeTo (L_ t k n) m)
          clear hb1 hb2 hel hes hbel
          by_cases hlm : m < k
          · have cm : wr.cell? ⟨w.heap.size, m, none⟩ = some (.int .i64 (at_ (L_ t k n) m)) := by rw [HE.out.1.cell]; exact HO.out.2.1 _ hlm
            by_cases hq : at_ (L_ t k n) m < at_ (L_ t k n) (freeTo (L_ t k n) m)
            · have HF := Lib.hid (show freeTo (L_ t k n) (m + 1) = m from by rw [freeTo, if_pos hq])
              go_wp2
              go_roundw
              case rel =>
                refine ⟨m + 1, _, by omega, by go_num, HE.out.1.far (by simp) _, HE.out.2.1.set_ n _, by rw [List.length_set]; exact HE.out.2.2.1, fun j hj => ?_, (HE.out.2.2.2.2).setCell (by simp) _⟩
                rw [HF.out]
                by_cases q : j = n
                · subst q; rw [List.getElem?_set_self (by rw [HE.out.2.2.1]; exact hj), if_neg (by omega), if_pos rfl]
                · rw [List.getElem?_set_ne (by omega), HE.out.2.2.2.1 j hj]; simp [q]
              case measure => simp [intOf]; omega
            · have HF := Lib.hid (show freeTo (L_ t k n) (m + 1) = freeTo (L_ t k n) m from by rw [freeTo, if_neg hq])
              go_wp2
              go_roundw
              case rel => exact ⟨m + 1, _, by omega, by go_num, HE.out.1, HE.out.2.1, HE.out.2.2.1, by rw [HF.out]; exact HE.out.2.2.2.1, HE.out.2.2.2.2⟩
              case measure => simp [intOf]; omega
          · have hmk : m = k := by omega
            subst hmk
            have lb : 0 ≤ at_ (L_ t m n) (freeTo (L_ t m n) m) ∧ at_ (L_ t m n) (freeTo (L_ t m n) m) ≤ 1000 * (n : Int) := by rw [at_L hfk]; exact load_bd _ TB.out _ n
            have tbn := TB.out n
            go_wp2
            go_roundw
            case rel =>
              refine ⟨n + 1, _, es, by omega, by go_num, HE.out.1.set_ _ _, by rw [List.length_set]; exact HO.out.1, fun j hj => ?_, HE.out.2.1.far (by simp) _, ⟨HE.out.2.2.1, fun j hj => ?_, fun j h1 h2 => ?_⟩, (HE.out.2.2.2.2).setCell (by simp) _⟩
              · rw [at_L hj, L_next (by omega) hj]
                by_cases q : j = freeTo (L_ t m n) m
                · rw [if_pos q, ← q, List.getElem?_set_self (by rw [HO.out.1]; exact hj)]
                · rw [if_neg q, List.getElem?_set_ne (by omega), HO.out.2.1 j hj]
              · rw [HE.out.2.2.2.1 j (by omega)]
                by_cases q : j < n
                · rw [if_pos q]
                · have : j = n := by omega
                  subst this
                  rw [if_neg q, if_pos rfl, gAt, free, loads_length]; rfl
              · rw [HE.out.2.2.2.1 j h2, if_neg (by omega), if_neg (by omega)]
            case measure => simp [intOf]; omega
      · have hnl : n = t.length := by omega
        subst hnl
        go_wp2
        go_ret
        rw [HG.out, greedyTo_gen]
        exact ⟨_, rfl, own_gen (by omega) HO.out.2.2.2.1 HO.out.2.2.2.2.1.1 (by omega) HO.out.2.2.2.2.1.2.1 (fun j _ => by have := gAt_bd t (k := k) (by omega) j; omega), HO.out.2.2.2.2.2⟩
  · have HG := Lib.hid (show greedy t e = [] from by simp [greedy, h1])
    go_enter Try.func22, Try.ntmps22
    go_wp2_with fail
    refine (canSchedule_any _ _ _ _ hv'.out).mono ?_; rintro x w' ⟨rfl, rfl⟩
    go_wp2_with fail
    go_ret
    rw [HG.out]
    exact ⟨_, rfl, Own.nil_ _ _, Below.refl _ _⟩

end Go.Proofs.Ytegofpfhlhfdnaa
