/-
  Contracts of RunEngine (spec) and RunCascade (both).
-/
import Derived.Test.YteemhhgioljmaaaCasc
import Derived.Test.YteemhhgioljmaaaJoinB
import Derived.Test.YteemhhgioljmaaaTotal
namespace Go.Proofs.Yteemhhgioljmaaa
open Go.RowKit
set_option linter.unusedVariables false
set_option linter.unusedSimpArgs false
set_option maxRecDepth 100000
attribute [local go_sem ↓] Go.wp_at_zero Go.wp_at_succ

/-- the block of a slice that is not empty. -/
def Off (x : Value) (l : List ByteArray) (Q : Nat → Prop) : Prop := ∀ a n c, x = .slice (some a) n c → 0 < l.length → Q a.block
theorem Off.mono {x : Value} {l : List ByteArray} {Q R : Nat → Prop} (h : Off x l Q) (hk : ∀ k, Q k → R k) : Off x l R := fun a n c e hl => hk _ (h a n c e hl)
theorem Strs.off {w : World} {x : Value} {l : List ByteArray} (h : Strs w x l) : Off x l (fun k => k < w.heap.size) := h.low
theorem OwnS.off {w : World} {base : Nat} {x : Value} {l : List ByteArray} (h : OwnS w base x l) : Off x l (fun k => base ≤ k) := by
  intro a n c e hl
  rcases h.form with ⟨rfl, _⟩ | ⟨g, cap, cs, rfl, hg, _⟩
  · cases e
  · injection e with e1; injection e1 with e1; rw [← e1]; exact hg
theorem Strs.setFar {w : World} {x : Value} {l : List ByteArray} (h : Strs w x l) (p : Addr) (u : Value) (hp : Off x l (fun k => p.block ≠ k)) : Strs (w.setCell p u) x l := by
  obtain ⟨⟨A, c, rfl, h1, h2, h3⟩, hwf⟩ := h
  refine ⟨⟨A, c, rfl, h1, h2, fun hn => ?_⟩, hwf⟩
  obtain ⟨b, o, rfl, hlt, hc⟩ := h3 hn
  have hb := hp _ _ _ rfl (by rw [sv_length] at hn; exact hn)
  exact ⟨b, o, rfl, by simpa using hlt, fun k u hu => (World.cell?_setCell_far _ _ _ _ (by simpa using hb)).trans (hc k u hu)⟩
theorem Strs.rowFar {w w' : World} {x : Value} {l : List ByteArray} {row : Option Nat} (h : Strs w x l) (hg : w.grownBy w' row) (hx : Off x l (fun k => some k ≠ row)) : Strs w' x l := by
  obtain ⟨⟨A, c, rfl, h1, h2, h3⟩, hwf⟩ := h
  refine ⟨⟨A, c, rfl, h1, h2, fun hn => ?_⟩, hwf⟩
  obtain ⟨b, o, rfl, hlt, hc⟩ := h3 hn
  have hb := hx _ _ _ rfl (by rw [sv_length] at hn; exact hn)
  exact ⟨b, o, rfl, Nat.lt_of_lt_of_le hlt hg.size, fun k u hu => hg.cell (hc k u hu) (fun e => hb e)⟩
theorem Own.setCell {w : World} {base : Nat} {v : Value} {l : List Int} (h : Own w base v l) (p : Addr) (u : Value) (hp : p.block < base) : Own (w.setCell p u) base v l :=
  h.far (row := some p.block) (only_setCell (World.grownBy.refl w (some p.block)) (.inl rfl) u) (fun k hk => by injection hk with hk; omega)
theorem runS_succ (l : List ByteArray) (n : Nat) : runS l (n + 1) = runS l n ++ [sg (sat (turnN l n) 0)] := gen_succ _ _
theorem runS_length (l : List ByteArray) (n : Nat) : (runS l n).length = n := gen_length _ _
/-- Numbers of one's own and a bool. -/
def IntsB (w : World) (l : List Int) (q : Bool) (e : Ending) (w' : World) : Prop :=
  ∃ r, e = .returned (.tuple #[r, .bool q]) ∧ Own w' w.heap.size r l ∧ Below w.heap.size w w'
def runOk (l : List ByteArray) (n : Int) : Bool := engOk l && inB n 0 60
def runL (l : List ByteArray) (n : Int) : List Int := if runOk l n = true then runS l n.toNat else []
theorem runOk_e {l : List ByteArray} {n : Int} (h : engOk l = false) : runOk l n = false := by simp [runOk, h]
theorem runOk_n {l : List ByteArray} {n : Int} (h : inB n 0 60 = false) : runOk l n = false := by simp [runOk, h]
theorem runL_no {l : List ByteArray} {n : Int} (h : runOk l n = false) : runL l n = [] := by simp [runL, h]
theorem runL_yes {l : List ByteArray} {n : Nat} (h : runOk l n = true) : runL l n = runS l n := by simp [runL, h]
theorem eng0 {l : List ByteArray} (h : engOk l = true) (n : Nat) : colOk (sat (turnN l n) 0) = true := ((engOk_iff.1 (turnN_ok h n)).2.2 0 (engOk_iff.1 (turnN_ok h n)).1).1

set_option maxHeartbeats 1000000 in
theorem l3Count_any (u : Value) (l : List ByteArray) (n : Int) (w : World) (hu : Strs w u l) :
    Calls Try.prog 146 #[.agg #[u], .int .i64 n] w fun e w' => e = .returned (.bool (runOk l n)) ∧ Below w.heap.size w w' := by
  have HU := Lib.hid hu
  obtain ⟨A, c, rfl, -, -, -⟩ := hu.open_
  clear hu
  have B0 := bel_alloc w (.cells #[.slice A l.length c] 29)
  go_enter Try.func146, Try.ntmps146
  go_wp2_with fail
  refine (specEng_any _ l _ (HU.out.bel B0)).mono ?_
  rintro e w2 ⟨rfl, hb⟩
  have HB := Lib.hid (bel_trans B0 hb)
  clear B0 hb
  cases he : engOk l
  · have HN := Lib.hid (runOk_e (n := n) he)
    go_wp2
    go_ret
    exact ⟨ret_bool HN.out.symm, HB.out⟩
  · have HN := Lib.hid (show runOk l n = inB n 0 60 by simp [runOk, he])
    go_wp2_with (go_at_call 91; refine (l1In_any _ _ _ _).mono ?_; rintro e w' ⟨rfl, rfl⟩)
    go_ret
    exact ⟨ret_bool HN.out.symm, HB.out⟩

set_option maxHeartbeats 4000000 in
theorem specRun_any (u : Value) (l : List ByteArray) (n : Int) (w : World) (hu : Strs w u l) (hn : -9223372036854775808 ≤ n ∧ n ≤ 9223372036854775807) :
    Calls Try.prog 88 #[.agg #[u], .int .i64 n] w (IntsB w (runL l n) (runOk l n)) := by
  have HU := Lib.hid hu
  have HOF := Lib.hid hu.off
  obtain ⟨A, c, rfl, -, -, -⟩ := hu.open_
  clear hu
  have B0 := Lib.hid (show Below w.heap.size w ((w.alloc (.cells #[.slice A l.length c] 29)).alloc (.cells #[] 3)) from (bel_alloc w _).alloc (by simp) _)
  have K0 := (Blk.new' w 29 (.slice A l.length c) w.heap.size rfl).alloc (.cells #[] 3)
  have OE := Own.empty (w.alloc (.cells #[.slice A l.length c] 29)) (w.heap.size + 1) (by simp)
  rw [show (w.alloc (.cells #[.slice A l.length c] 29)).heap.size = w.heap.size + 1 by simp] at OE
  obtain ⟨c0, -⟩ := K0.one
  go_enter Try.func88, Try.ntmps88
  go_wp2_with fail
  clear c0
  generalize hW : (w.alloc (.cells #[.slice A l.length c] 29)).alloc (.cells #[] 3) = W at *
  clear hW
  refine (l3Count_any _ l n _ (HU.out.bel B0.out)).mono ?_
  rintro e w2 ⟨rfl, hb⟩
  have k0 := K0.lt
  replace K0 := K0.below hb K0.lt
  have HOE := Lib.hid (OE.bel hb)
  have HB := Lib.hid (bel_trans B0.out hb)
  have hz := HB.out.size
  clear hb OE
  cases ho : runOk l n
  · have HN := Lib.hid (runL_no ho)
    go_wp2
    go_ret2
    exact ⟨_, by rw [ho]; rfl, by rw [HN.out]; exact HOE.out.lower (by omega), HB.out⟩
  · have ho2 := ho
    simp only [runOk, Bool.and_eq_true] at ho2
    have hn2 := inB_true.1 ho2.2
    obtain ⟨n, rfl⟩ : ∃ k : Nat, n = k := ⟨n.toNat, by omega⟩
    have HY := Lib.hid (And.intro ho (And.intro (runL_yes ho) ho2.1))
    have n60 : n ≤ 60 := by omega
    have HX := Lib.hid (HU.out.bel HB.out)
    clear ho ho2 hn2 hn
    go_wp2_with fail
    go_loopw [6, 7] (fun y i wr => ∃ (k : Nat) (x : Value), k ≤ n ∧ i = .int .i64 k ∧ Own wr (w.heap.size + 1) y (runS l k) ∧ Blk wr w.heap.size 29 [x] ∧ Strs wr x (turnN l k) ∧ Off x (turnN l k) (fun j => j ≠ w.heap.size ∧ some j ≠ y.ownBlock) ∧ Below w.heap.size w wr)
      (fun _ i _ => n - (intOf i).toNat)
    case atStart =>
      refine ⟨0, _, Nat.zero_le _, rfl, HOE.out, K0, HX.out, fun a m c e hl => ?_, HB.out⟩
      have := HOF.out a m c e hl
      refine ⟨by omega, fun e => ?_⟩
      injection e with e
      have e' : a.block = w.heap.size + 1 := e
      omega
    case round =>
      clear HOE K0 HX HB
      obtain ⟨k, x, hk, rfl, hown, K0, hx, hoff, hbel⟩ := hrel
      have H := Lib.hid (And.intro hown (And.intro hx (And.intro hoff hbel)))
      have E0 := eng0 HY.out.2.2 k
      obtain ⟨t1, t7, -⟩ := engOk_iff.1 (turnN_ok HY.out.2.2 k)
      obtain ⟨A4, c4, rfl, -, -, hrd⟩ := hx.open_
      obtain ⟨b, o, rfl, hbb, hcell⟩ := hrd.strs (by omega)
      have ca := hcell 0 (by omega)
      rw [Nat.add_zero] at ca
      clear hown hx hoff hbel hcell hrd
      obtain ⟨e0, f0⟩ := K0.one
      have hzz := H.out.2.2.2.size
      have hrl := runS_length l k
      by_cases hlt : k < n
      · have ca2 : (wr.alloc (.cells #[.int .i64 (sg (sat (turnN l k) 0))] 3)).cell? ⟨w.heap.size, 0, none⟩ = some (.slice (some ⟨b, o, none⟩) (turnN l k).length c4) := ((bel_alloc wr _).cell (by exact K0.lt)).trans e0
        go_wp2_with (first | (go_at_call 93; refine (l1Signed_any _ _ (by assumption)).mono ?_; rintro e w' ⟨rfl, rfl⟩) | (at_builtin; refine app_int rfl (.tmp 19) (.tmp 25) (by rfl) (w.heap.size + 1) u6 _ (by rfl) (by exact H.out.1.bel (bel_alloc _ _)) _ _ (sg (sat (turnN l k) 0)) (by rfl) (by exact new_cell _ _ _) (by have := sg_bd E0; omega) (by rw [hrl]; omega) (by simp; have := K0.lt; omega) ?_; intro v1 w1 ho1 hg1 hat1; have hkl := K0.lt; have hown := H.out.1; have K1 := (K0.alloc (.cells #[.int .i64 (sg (sat (turnN l k) 0))] 3)).grown hg1 (fun e => by have := (hown.lt _ e.symm).1; omega); have hx1 := (H.out.2.1.bel (bel_alloc wr (.cells #[.int .i64 (sg (sat (turnN l k) 0))] 3))).rowFar hg1 (H.out.2.2.1.mono (fun j hj => hj.2)); have hb0 := bel_trans H.out.2.2.2 (bel_alloc wr (.cells #[.int .i64 (sg (sat (turnN l k) 0))] 3)); have hb1 := hb0.trans (below_own hg1 hb0.size (fun j hj => by have := (hown.lt j hj).1; omega)); clear hb0; obtain ⟨e1, f1⟩ := K1.one; clear ca ca2 e0 f0))
        have HP := Lib.hid (And.intro ho1 hb1)
        have hk1 := K1.lt
        clear ho1 hg1 hat1 hb1 hown
        refine (l3Turn_any _ (turnN l k) _ hx1 (turnN_ok HY.out.2.2 k)).mono ?_
        rintro e w3 ⟨r, rfl, ho3, hb3⟩
        replace K1 := K1.below hb3 K1.lt
        have HQ := Lib.hid (And.intro ho3 hb3)
        obtain ⟨A5, c5, rfl, -, -, -⟩ := ho3.strs.open_
        clear ho3 hb3 hx1 e1 f1
        obtain ⟨e1, f1⟩ := K1.one
        go_wp2_with fail
        go_roundw
        case rel =>
          have z1 := HP.out.2.size
          refine ⟨k + 1, .slice A5 (turnS (turnN l k)).length c5, by omega, by go_num, ?_, K1.set_ 0 _, (HQ.out.1.setCell _ _ (by show w.heap.size < w1.heap.size; omega)).strs, ?_, (bel_trans HP.out.2 HQ.out.2).setCell (by show w.heap.size ≤ w.heap.size; omega) _⟩
          · rw [runS_succ]
            exact (HP.out.1.bel HQ.out.2).setCell _ _ (by show w.heap.size < w.heap.size + 1; omega)
          · refine HQ.out.1.off.mono fun j hj => ⟨by omega, fun e => ?_⟩
            have := (HP.out.1.lt j e.symm).2
            omega
        case measure => simp [intOf]; omega
      · have : k = n := by omega
        subst this
        go_wp2
        go_ret2
        exact ⟨_, by rw [HY.out.1]; rfl, by rw [HY.out.2.1]; exact H.out.1.lower (by omega), H.out.2.2.2⟩

end Go.Proofs.Yteemhhgioljmaaa
