/-
  Contracts of the step to the next schedule.
-/
import Derived.Test.YtegofpfhlhfdnaaSpan
import Derived.Test.YtegofpfhlhfdnaaSlices
import Derived.Deep.LoopGhost
namespace Go.Proofs.Ytegofpfhlhfdnaa
open Go.RowKit
set_option linter.unusedVariables false
set_option maxRecDepth 100000

/-- one more at place i, zeros behind it. -/
def stepF (g : List Int) (i : Nat) (j : Nat) : Int := if j < i then at_ g j else if j = i then at_ g i + 1 else 0
def nextFrom (g : List Int) (e : Int) : Nat → Option (List Int)
  | 0 => none
  | i + 1 => if at_ g i + 1 < e then some (gen (stepF g i) g.length) else nextFrom g e i
def next (g : List Int) (e : Int) : Option (List Int) := nextFrom g e g.length
def nextB (g : List Int) (e : Int) : Bool := (next g e).isSome
def nextL (g : List Int) (e : Int) : List Int := (next g e).getD (gen (fun _ => 0) g.length)
/-- the first n digits as a number. -/
def valTo (g : List Int) (e : Nat) : Nat → Nat
  | 0 => 0
  | n + 1 => valTo g e n * e + (at_ g n).toNat
def val (g : List Int) (e : Nat) : Nat := valTo g e g.length
theorem valTo_lt {g : List Int} {e : Nat} (he : 1 ≤ e) (h : ∀ j, j < g.length → 0 ≤ at_ g j ∧ at_ g j < e) : ∀ n, n ≤ g.length → valTo g e n < e ^ n
  | 0, _ => by simp [valTo]
  | n + 1, hn => by
    have ih := valTo_lt he h n (by omega)
    have hb := h n (by omega)
    rw [valTo, Nat.pow_succ]
    have h1 : (at_ g n).toNat < e := by omega
    have h2 : (valTo g e n + 1) * e ≤ e ^ n * e := Nat.mul_le_mul_right e ih
    rw [Nat.add_mul] at h2
    omega
theorem valTo_congr {g g' : List Int} {e : Nat} : ∀ n, (∀ j, j < n → at_ g j = at_ g' j) → valTo g e n = valTo g' e n
  | 0, _ => rfl
  | n + 1, h => by rw [valTo, valTo, valTo_congr n (fun j hj => h j (by omega)), h n (by omega)]
theorem at_step {g : List Int} {i j : Nat} (hj : j < g.length) : at_ (gen (stepF g i) g.length) j = stepF g i j := at_gen hj
theorem valTo_step {g : List Int} {e : Nat} {i : Nat} (he : 1 ≤ e) (hi : i < g.length) (h : ∀ j, j < g.length → 0 ≤ at_ g j ∧ at_ g j < e) (hl : ∀ j, i < j → j < g.length → at_ g j + 1 = e) :
    ∀ n, i < n → n ≤ g.length → valTo (gen (stepF g i) g.length) e n = valTo g e n + 1
  | 0, h1, _ => absurd h1 (by omega)
  | n + 1, h1, h2 => by
    rw [valTo, valTo, at_step (by omega)]
    by_cases q : n = i
    · subst q
      rw [valTo_congr (g := gen (stepF g n) g.length) (g' := g) n (fun j hj => by rw [at_step (by omega), stepF, if_pos hj]), stepF, if_neg (by omega), if_pos rfl]
      have := h n hi
      omega
    · rw [valTo_step he hi h hl n (by omega) (by omega), stepF, if_neg (by omega), if_neg q]
      have := hl n (by omega) (by omega)
      have := h n (by omega)
      rw [Nat.add_mul]
      omega
theorem nextFrom_some {g g' : List Int} {e : Int} : ∀ n, nextFrom g e n = some g' → ∃ i, i < n ∧ g' = gen (stepF g i) g.length ∧ at_ g i + 1 < e ∧ ∀ j, i < j → j < n → ¬ at_ g j + 1 < e
  | 0, h => by simp [nextFrom] at h
  | n + 1, h => by
    rw [nextFrom] at h
    by_cases q : at_ g n + 1 < e
    · rw [if_pos q] at h
      injection h with h
      exact ⟨n, by omega, h.symm, q, fun j h1 h2 => by omega⟩
    · rw [if_neg q] at h
      obtain ⟨i, h1, h2, h3, h4⟩ := nextFrom_some n h
      refine ⟨i, by omega, h2, h3, fun j p1 p2 => ?_⟩
      by_cases r : j = n
      · rw [r]; exact q
      · exact h4 j p1 (by omega)
theorem next_some {g g' : List Int} {e : Nat} (he : 1 ≤ e) (hg : namesOk g e = true) (h : next g e = some g') : namesOk g' e = true ∧ g'.length = g.length ∧ val g' e = val g e + 1 := by
  obtain ⟨i, hi, rfl, h1, h2⟩ := nextFrom_some _ h
  have hb : ∀ j, j < g.length → 0 ≤ at_ g j ∧ at_ g j < e := fun j hj => namesOk_at hg hj
  refine ⟨namesOk_mk fun j hj => ?_, gen_length _ _, ?_⟩
  · rw [gen_length] at hj
    rw [at_step hj, stepF]
    have := hb j hj
    have := hb i hi
    split
    · omega
    · split <;> omega
  · unfold val
    rw [gen_length]
    exact valTo_step he hi hb (fun j p1 p2 => by have := h2 j p1 p2; have := hb j p2; omega) g.length (by omega) (Nat.le_refl _)
theorem val_lt {g : List Int} {e : Nat} (he : 1 ≤ e) (hg : namesOk g e = true) : val g e < e ^ g.length := valTo_lt he (fun j hj => namesOk_at hg hj) _ (Nat.le_refl _)

/-- the list while the step goes down: places from n on are zero. -/
def zeroFrom (g : List Int) (n : Nat) (cs : List Value) : Prop := ∀ j, j < g.length → cs[j]? = some (.int .i64 (if j < n then at_ g j else 0))

theorem nextFrom_yes {g : List Int} {e : Int} {n : Nat} (h : next g e = nextFrom g e (n + 1)) (q : at_ g n + 1 < e) : nextB g e = true ∧ nextL g e = gen (stepF g n) g.length := by
  rw [nextFrom, if_pos q] at h
  exact ⟨by simp [nextB, h], by simp [nextL, h]⟩
theorem nextFrom_no {g : List Int} {e : Int} {n : Nat} (h : next g e = nextFrom g e (n + 1)) (q : ¬ at_ g n + 1 < e) : next g e = nextFrom g e n := by
  rw [nextFrom, if_neg q] at h; exact h
theorem nextFrom_end {g : List Int} {e : Int} (h : next g e = nextFrom g e 0) : nextB g e = false ∧ nextL g e = gen (fun _ => 0) g.length := by
  rw [nextFrom] at h
  exact ⟨by simp [nextB, h], by simp [nextL, h]⟩

set_option maxHeartbeats 1000000 in
theorem l8Next_any (v : Value) (g : List Int) (e : Nat) (base : Nat) (w : World) (hv : Own w base v g) (hg : namesOk g e = true) (he1 : 1 ≤ e) (he3 : e ≤ 3) (hl : g.length ≤ 8) :
    Calls Try.prog 83 #[v, .int .i64 e] w fun x w' => x = .returned (.bool (nextB g e)) ∧ w.grownBy w' v.ownBlock ∧ Own w' base v (nextL g e) := by
  rcases hv.form with ⟨rfl, rfl⟩ | ⟨b, cap, cs, rfl, hb, hblk, hlc, hcm, hcl, hcs⟩
  · have HE := Lib.hid (nextFrom_end (g := []) (e := (e : Int)) rfl)
    go_enter Try.func83, Try.ntmps83
    go_wp2
    go_loop [5] (fun i => i = .int .i64 (-1)) (fun _ => 0)
    case atStart => rfl
    case round =>
      obtain rfl := hrel
      go_wp2
      go_ret
      rw [HE.out.1, HE.out.2]
      exact ⟨rfl, World.grownBy.refl w _, hv⟩
  · go_enter Try.func83, Try.ntmps83
    go_wp2
    go_loopw [5] (fun i wr => ∃ (n : Nat) (cs : List Value), n ≤ g.length ∧ i = .int .i64 ((n : Int) - 1) ∧ Blk wr b 3 cs ∧ cs.length = cap ∧ zeroFrom g n cs ∧ next g e = nextFrom g e n ∧ w.grownBy wr (some b))
      (fun i _ => (intOf i + 1).toNat)
    case atStart => exact ⟨g.length, cs, Nat.le_refl _, rfl, hblk, hcl, fun j hj => by rw [if_pos hj]; exact hcs j hj, rfl, World.grownBy.refl w _⟩
    case round =>
      clear hblk hcl hcs cs
      obtain ⟨n, cs, hn, rfl, hblk, hcl, hzs, hnx, hgr⟩ := hrel
      have H := Lib.hid (And.intro hcl (And.intro hzs (And.intro hnx (And.intro hgr hblk))))
      rcases n with _ | n
      · clear hcl hzs hnx hgr hblk
        go_wp2
        go_ret
        have HE := nextFrom_end H.out.2.2.1
        have ho : Own wr base (.slice (some ⟨b, 0, none⟩) (gen (fun _ => 0) g.length).length cap) (gen (fun _ => 0) g.length) :=
          Own.mk' hb H.out.2.2.2.2 (by rw [gen_length]; exact hlc) hcm H.out.1 (fun j hj => by rw [gen_length] at hj; rw [at_gen hj, H.out.2.1 j hj, if_neg (by omega)]) (wf_gen fun j _ => by omega)
        rw [gen_length] at ho
        rw [HE.1, HE.2]
        exact ⟨rfl, H.out.2.2.2.1, ho⟩
      · have en : ((n + 1 : Nat) : Int) - 1 = (n : Int) := by omega
        rw [en]
        have hnm := namesOk_at hg (k := n) (by omega)
        have cn : wr.cell? ⟨b, n, none⟩ = some (.int .i64 (at_ g n)) := by rw [hblk.cell, hzs n (by omega), if_pos (by omega)]
        have fn := hblk.frozen n
        clear hcl hzs hnx hgr hblk en
        by_cases q : at_ g n + 1 < (e : Int)
        · have HY := Lib.hid (nextFrom_yes H.out.2.2.1 q)
          go_wp2
          go_ret
          rw [HY.out.1, HY.out.2]
          refine ⟨rfl, only_setCell H.out.2.2.2.1 (.inl rfl) _, ?_⟩
          have ho := Own.mk' (l := gen (stepF g n) g.length) hb (H.out.2.2.2.2.set_ n (.int .i64 (at_ g n + 1))) (by rw [gen_length]; exact hlc) hcm (by rw [List.length_set]; exact H.out.1) (fun j hj => by
            rw [gen_length] at hj
            rw [at_gen hj, stepF]
            by_cases r : j = n
            · subst r; rw [List.getElem?_set_self (by rw [H.out.1]; omega), if_neg (by omega), if_pos rfl]
            · rw [List.getElem?_set_ne (by omega), H.out.2.1 j hj]
              by_cases r2 : j < n
              · rw [if_pos (by omega), if_pos r2]
              · rw [if_neg (by omega), if_neg r2, if_neg r]) (wf_gen fun j hj => by
              have := namesOk_at hg hj
              unfold stepF
              split
              · omega
              · split <;> omega)
          rwa [gen_length] at ho
        · have HN := Lib.hid (nextFrom_no H.out.2.2.1 q)
          go_wp2
          go_roundw
          case rel =>
            refine ⟨n, _, by omega, by go_num, H.out.2.2.2.2.set_ n _, by rw [List.length_set]; exact H.out.1, fun j hj => ?_, HN.out, only_setCell H.out.2.2.2.1 (.inl rfl) _⟩
            by_cases r : j = n
            · subst r; rw [List.getElem?_set_self (by rw [H.out.1]; omega), if_neg (by omega)]
            · rw [List.getElem?_set_ne (by omega), H.out.2.1 j hj]
              by_cases r2 : j < n
              · rw [if_pos (by omega), if_pos r2]
              · rw [if_neg (by omega), if_neg r2]
          case measure => simp [intOf]

set_option maxHeartbeats 1000000 in
theorem nextSchedule_any (v : Value) (g : List Int) (e : Nat) (base : Nat) (w : World) (hv : Own w base v g) (hg : namesOk g e = true) (he1 : 1 ≤ e) (he3 : e ≤ 3) (hl : g.length ≤ 8) :
    Calls Try.prog 82 #[v, .int .i64 e] w fun x w' => x = .returned (.bool (nextB g e)) ∧ w.grownBy w' v.ownBlock ∧ Own w' base v (nextL g e) := by
  rcases hv.form with ⟨rfl, rfl⟩ | ⟨b, cap, cs, rfl, hb, hblk, hlc, hcm, hcl, hcs⟩
  · have HE := Lib.hid (nextFrom_end (g := []) (e := (e : Int)) rfl)
    go_enter Try.func82, Try.ntmps82
    go_wp2
    go_loop [5] (fun i => i = .int .i64 (-1)) (fun _ => 0)
    case atStart => rfl
    case round =>
      obtain rfl := hrel
      go_wp2
      go_ret
      rw [HE.out.1, HE.out.2]
      exact ⟨rfl, World.grownBy.refl w _, hv⟩
  · go_enter Try.func82, Try.ntmps82
    go_wp2
    go_loopw [5] (fun i wr => ∃ (n : Nat) (cs : List Value), n ≤ g.length ∧ i = .int .i64 ((n : Int) - 1) ∧ Blk wr b 3 cs ∧ cs.length = cap ∧ zeroFrom g n cs ∧ next g e = nextFrom g e n ∧ w.grownBy wr (some b))
      (fun i _ => (intOf i + 1).toNat)
    case atStart => exact ⟨g.length, cs, Nat.le_refl _, rfl, hblk, hcl, fun j hj => by rw [if_pos hj]; exact hcs j hj, rfl, World.grownBy.refl w _⟩
    case round =>
      clear hblk hcl hcs cs
      obtain ⟨n, cs, hn, rfl, hblk, hcl, hzs, hnx, hgr⟩ := hrel
      have H := Lib.hid (And.intro hcl (And.intro hzs (And.intro hnx (And.intro hgr hblk))))
      rcases n with _ | n
      · clear hcl hzs hnx hgr hblk
        go_wp2
        go_ret
        have HE := nextFrom_end H.out.2.2.1
        have ho : Own wr base (.slice (some ⟨b, 0, none⟩) (gen (fun _ => 0) g.length).length cap) (gen (fun _ => 0) g.length) :=
          Own.mk' hb H.out.2.2.2.2 (by rw [gen_length]; exact hlc) hcm H.out.1 (fun j hj => by rw [gen_length] at hj; rw [at_gen hj, H.out.2.1 j hj, if_neg (by omega)]) (wf_gen fun j _ => by omega)
        rw [gen_length] at ho
        rw [HE.1, HE.2]
        exact ⟨rfl, H.out.2.2.2.1, ho⟩
      · have en : ((n + 1 : Nat) : Int) - 1 = (n : Int) := by omega
        rw [en]
        have hnm := namesOk_at hg (k := n) (by omega)
        have cn : wr.cell? ⟨b, n, none⟩ = some (.int .i64 (at_ g n)) := by rw [hblk.cell, hzs n (by omega), if_pos (by omega)]
        have fn := hblk.frozen n
        clear hcl hzs hnx hgr hblk en
        by_cases q : at_ g n + 1 < (e : Int)
        · have HY := Lib.hid (nextFrom_yes H.out.2.2.1 q)
          go_wp2
          go_ret
          rw [HY.out.1, HY.out.2]
          refine ⟨rfl, only_setCell H.out.2.2.2.1 (.inl rfl) _, ?_⟩
          have ho := Own.mk' (l := gen (stepF g n) g.length) hb (H.out.2.2.2.2.set_ n (.int .i64 (at_ g n + 1))) (by rw [gen_length]; exact hlc) hcm (by rw [List.length_set]; exact H.out.1) (fun j hj => by
            rw [gen_length] at hj
            rw [at_gen hj, stepF]
            by_cases r : j = n
            · subst r; rw [List.getElem?_set_self (by rw [H.out.1]; omega), if_neg (by omega), if_pos rfl]
            · rw [List.getElem?_set_ne (by omega), H.out.2.1 j hj]
              by_cases r2 : j < n
              · rw [if_pos (by omega), if_pos r2]
              · rw [if_neg (by omega), if_neg r2, if_neg r]) (wf_gen fun j hj => by
              have := namesOk_at hg hj
              unfold stepF
              split
              · omega
              · split <;> omega)
          rwa [gen_length] at ho
        · have HN := Lib.hid (nextFrom_no H.out.2.2.1 q)
          go_wp2
          go_roundw
          case rel =>
            refine ⟨n, _, by omega, by go_num, (H.out.2.2.2.2.set_ n _).set_ n _, by rw [List.length_set, List.length_set]; exact H.out.1, fun j hj => ?_, HN.out, only_setCell (only_setCell H.out.2.2.2.1 (.inl rfl) _) (.inl rfl) _⟩
            by_cases r : j = n
            · subst r; rw [List.getElem?_set_self (by rw [List.length_set, H.out.1]; omega), if_neg (by omega)]
            · rw [List.getElem?_set_ne (by omega), List.getElem?_set_ne (by omega), H.out.2.1 j hj]
              by_cases r2 : j < n
              · rw [if_pos (by omega), if_pos r2]
              · rw [if_neg (by omega), if_neg r2]
          case measure => simp [intOf]

end Go.Proofs.Ytegofpfhlhfdnaa
