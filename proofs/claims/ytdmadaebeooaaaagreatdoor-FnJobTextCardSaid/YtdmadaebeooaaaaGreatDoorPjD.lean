/-
  Numbers parsed: l9Num (spec).
-/
import Derived.Test.YtdmadaebeooaaaaGreatDoorPjC
namespace Go.Proofs.YtdmadaebeooaaaaGreatDoor
open Go.RowKit
set_option linter.unusedVariables false
set_option linter.unusedSimpArgs false
set_option maxRecDepth 100000
attribute [local go_sem ↓] Go.wp_at_zero Go.wp_at_succ

theorem numT_none {s : ByteArray} (h : ∀ n, numT s ≠ some n) : numT s = none := by
  cases hq : numT s with
  | none => rfl
  | some n => exact absurd hq (h n)
/-- What a parser of a number returns. -/
def NumE (s : ByteArray) (e : Ending) : Prop := e = .returned (.tuple #[.int .i64 (numV s), .bool (numT s).isSome])
theorem NumE.bad {s : ByteArray} (h : numT s = none) : NumE s (.returned (.tuple #[.int .i64 0, .bool false])) := by unfold NumE numV; rw [h]; rfl
theorem NumE.good {s : ByteArray} {n : Int} (h : numT s = some n) : NumE s (.returned (.tuple #[.int .i64 n, .bool true])) := by unfold NumE numV; rw [h]; rfl
/-- The digits of a text: behind its sign, if it has one. -/
theorem num_bad {s z : ByteArray} {neg : Bool} (hs : s.data.toList = if neg = true then 45 :: z.data.toList else z.data.toList) (h45 : neg = false → z.data.toList[0]? ≠ some 45) (h : z.size = 0 ∨ 17 < z.size ∨ (z.data.toList[0]? = some 48 ∧ (1 < z.size ∨ neg = true))) : numT s = none := by
  apply numT_none
  intro n hn
  have hz : z.data.toList.length = z.size := rfl
  unfold numT at hn
  rw [hs] at hn
  cases neg
  · obtain ⟨g0, g1, g2, -⟩ := numO_plain (h45 rfl) hn
    rcases h with h | h | ⟨h, h' | h'⟩
    · exact g0 (List.length_eq_zero_iff.1 (by omega))
    · rw [hz] at g1; omega
    · have := g2 h; omega
    · exact absurd h' (by simp)
  · obtain ⟨g0, g1, g2, -⟩ := numO_minus hn
    rcases h with h | h | ⟨h, -⟩
    · exact g0 (List.length_eq_zero_iff.1 (by omega))
    · omega
    · exact g2 h
theorem num_badD {s z : ByteArray} {neg : Bool} (hs : s.data.toList = if neg = true then 45 :: z.data.toList else z.data.toList) (h45 : neg = false → z.data.toList[0]? ≠ some 45) (h : Lib.decFrom 0 z.data.toList = none) : numT s = none := by
  apply numT_none
  intro n hn
  unfold numT at hn
  rw [hs] at hn
  cases neg
  · obtain ⟨-, -, -, m, hm⟩ := numO_plain (h45 rfl) hn
    rw [h] at hm; simp at hm
  · obtain ⟨-, -, -, m, hm⟩ := numO_minus hn
    rw [h] at hm; simp at hm
theorem num_good {s z : ByteArray} {neg : Bool} {m : Nat} (hs : s.data.toList = if neg = true then 45 :: z.data.toList else z.data.toList) (h : ¬ (z.size = 0 ∨ 17 < z.size ∨ (z.data.toList[0]? = some 48 ∧ (1 < z.size ∨ neg = true)))) (hm : Lib.decFrom 0 z.data.toList = some m) : numT s = some (if neg = true then -(m : Int) else (m : Int)) := by
  have hz : z.data.toList.length = z.size := rfl
  have h0 : z.data.toList ≠ [] := fun e => h (.inl (by rw [← hz, e]; rfl))
  have h1 : z.data.toList.length ≤ 17 := Nat.le_of_not_lt fun e => h (.inr (.inl (by rw [← hz]; exact e)))
  unfold numT
  rw [hs]
  cases neg
  · show numO z.data.toList = some (m : Int)
    refine numO_plain_ok h0 h1 (fun e => ?_) hm
    have : ¬ 1 < z.size := fun e2 => h (.inr (.inr ⟨e, .inl e2⟩))
    have : z.data.toList.length ≠ 0 := fun e3 => h0 (List.length_eq_zero_iff.1 e3)
    omega
  · exact numO_minus_ok h0 h1 (fun e => h (.inr (.inr ⟨e, .inr rfl⟩))) hm
theorem dig_ok {b : UInt8} (h : ¬ (b.toNat < 48 ∨ 57 < b.toNat)) : Lib.digitVal b = some (b.toNat - 48) := by unfold Lib.digitVal; rw [if_pos (by omega)]
theorem dig_no {b : UInt8} (h : b.toNat < 48 ∨ 57 < b.toNat) : Lib.digitVal b = none := by unfold Lib.digitVal; rw [if_neg (by omega)]
theorem from_no {l : List UInt8} {k : Nat} {b : UInt8} (hb : l[k]? = some b) (h : Lib.digitVal b = none) : Lib.decFrom 0 l = none := by
  cases hq : Lib.decFrom 0 l with
  | none => rfl
  | some n =>
    obtain ⟨d, hd⟩ := Lib.digit_of_decFrom l 0 n hq k b hb
    rw [h] at hd
    simp at hd
/-- The digits of a text behind its sign; digits that are no number. -/
def Sgn (neg : Bool) (s z : ByteArray) : Prop := (s.data.toList = if neg = true then 45 :: z.data.toList else z.data.toList) ∧ (neg = false → z.data.toList[0]? ≠ some 45)
def ZBad (neg : Bool) (z : ByteArray) : Prop := z.size = 0 ∨ 17 < z.size ∨ (z.data.toList[0]? = some 48 ∧ (1 < z.size ∨ neg = true))
set_option maxHeartbeats 4000000 in
theorem l9Num_any (s : ByteArray) (w : World) (hs : s.size ≤ 1048576) :
    Calls Tryz.prog 73 #[.string s] w fun e w' => NumE s e ∧ w' = w := by
  go_enter Tryz.func73, Tryz.ntmps73
  by_cases h0 : 0 < s.size
  · have hby := byte_at s 0 h0
    cases hq : ((s[0].toNat : Int) == 45)
    · have HS := Lib.hid (show Sgn false s s from ⟨rfl, fun _ e => by
        rw [hby] at e
        rw [Option.some.inj e] at hq
        simp at hq⟩)
      have hq2 : ¬ (s[0].toNat : Int) = 45 := by simpa using hq
      clear hby
      obtain ⟨z, hz⟩ : ∃ z, z = s := ⟨_, rfl⟩
      subst hz
      by_cases hbad : ZBad false z
      · have HX := Lib.hid (num_bad HS.out.1 HS.out.2 hbad)
        rcases hbad with hz | hz | ⟨hz, hz'⟩
        · have e0 : z = ByteArray.empty := ByteArray.size_eq_zero_iff.1 hz
          have e1 : ((z.size : Int) == 0) = true := by simp [hz]
          have e2 : (z.size : Int) = 0 := by omega
          exact absurd h0 (by omega)
        · have e1 : ((z.size : Int) == 0) = false := by simp; rintro rfl; simp at hz
          have e3 : ¬ z = ByteArray.empty := by rintro rfl; simp at hz
          have e2 : (17 : Int) < (z.size : Int) := by omega
          go_wp2
          go_ret2
          exact ⟨NumE.bad HX.out, rfl⟩
        · have hp : 0 < z.size := by
            obtain ⟨hp, -⟩ := List.getElem?_eq_some_iff.1 hz
            exact hp
          have e1 : ((z.size : Int) == 0) = false := by simp; rintro rfl; simp at hp
          have e3 : ¬ z = ByteArray.empty := by rintro rfl; simp at hp
          have e5 : z[0].toNat = 48 := by rw [byte_at z 0 hp] at hz; have := Option.some.inj hz; rw [this]; rfl
          have e6 : (1 : Int) < (z.size : Int) := hz'.elim (fun h => by omega) (fun h => absurd h (by simp))
          clear hz
          by_cases h17 : (17 : Int) < (z.size : Int)
          all_goals
            by_cases h1x : (1 : Int) < (z.size : Int)
            all_goals
              go_wp2
              go_ret2
              exact ⟨NumE.bad HX.out, rfl⟩
      · have HG := Lib.hid hbad
        have hp : 0 < z.size := Nat.pos_of_ne_zero fun e => hbad (.inl e)
        have h17 : z.size ≤ 17 := Nat.le_of_not_lt fun e => hbad (.inr (.inl e))
        have e1 : ((z.size : Int) == 0) = false := by simp; rintro rfl; simp at hp
        have e3 : ¬ z = ByteArray.empty := by rintro rfl; simp at hp
        have e2 : ¬ (17 : Int) < (z.size : Int) := by omega
        have e5 : ¬ ((z[0].toNat : Int) = 48 ∧ (1 : Int) < (z.size : Int)) := by
          intro h
          refine hbad (.inr (.inr ⟨?_, .inl (by omega)⟩))
          rw [byte_at z 0 hp]
          congr 1
          apply UInt8.toNat_inj.1
          have := h.1
          simp
          omega
        clear hbad
        by_cases e7 : (z[0].toNat : Int) = 48
        · have e6 : ((z[0].toNat : Int) == 48) = true := by simpa using e7
          have e8 : ¬ (1 : Int) < (z.size : Int) := fun h => e5 ⟨e7, h⟩
          clear e5
          go_wp2
          go_loopw [5, 6] (fun v i wr => ∃ k m : Nat, v = .int .i64 m ∧ i = .int .i64 k ∧ k ≤ z.size ∧ Lib.decFrom 0 (z.data.toList.take k) = some m ∧ wr = w) (fun _ i _ => z.size - (intOf i).toNat)
          case atStart => exact ⟨0, 0, rfl, rfl, Nat.zero_le _, rfl, rfl⟩
          case round =>
            obtain ⟨k, m, rfl, rfl, hk, hm, rfl⟩ := hrel
            have HM := Lib.hid hm
            have hlt := Lib.decFrom_take_lt hm (by omega)
            clear hm
            by_cases hkz : k < z.size
            · have hby := byte_at z k hkz
              obtain ⟨b, hb⟩ : ∃ b, z[k] = b := ⟨_, rfl⟩
              rw [hb] at hby
              have HBY := Lib.hid hby
              clear hby
              by_cases hd : b.toNat < 48 ∨ 57 < b.toNat
              · have HX := Lib.hid (num_badD HS.out.1 HS.out.2 (from_no HBY.out (dig_no hd)))
                rcases hd with hd | hd
                · have e8 : (b.toNat : Int) < 48 := by omega
                  go_wp2
                  go_ret2
                  exact ⟨NumE.bad HX.out, rfl⟩
                · have e8 : ¬ (b.toNat : Int) < 48 := by omega
                  have e9 : (57 : Int) < (b.toNat : Int) := by omega
                  go_wp2
                  go_ret2
                  exact ⟨NumE.bad HX.out, rfl⟩
              · have HD := Lib.hid (Lib.decFrom_take z.data.toList k 0 m b (b.toNat - 48) HM.out HBY.out (dig_ok hd))
                have e8 : ¬ (b.toNat : Int) < 48 := by omega
                have e9 : ¬ (57 : Int) < (b.toNat : Int) := by omega
                clear hd
                go_wp2
                go_roundw
                case rel => exact ⟨k + 1, m * 10 + (b.toNat - 48), by go_num, by go_num, hkz, HD.out, by first | rfl | trivial⟩
                case measure => simp [intOf]; omega
            · have hke : k = z.size := by omega
              have HN := Lib.hid (num_good HS.out.1 HG.out (by have h := HM.out; rw [hke, show z.size = z.data.toList.length from rfl, List.take_length] at h; exact h))
              clear hke
              go_wp2
              go_ret2
              exact ⟨NumE.good HN.out, rfl⟩
        · have e6 : ((z[0].toNat : Int) == 48) = false := by simpa using e7
          clear e5
          go_wp2
          go_loopw [5, 6] (fun v i wr => ∃ k m : Nat, v = .int .i64 m ∧ i = .int .i64 k ∧ k ≤ z.size ∧ Lib.decFrom 0 (z.data.toList.take k) = some m ∧ wr = w) (fun _ i _ => z.size - (intOf i).toNat)
          case atStart => exact ⟨0, 0, rfl, rfl, Nat.zero_le _, rfl, rfl⟩
          case round =>
            obtain ⟨k, m, rfl, rfl, hk, hm, rfl⟩ := hrel
            have HM := Lib.hid hm
            have hlt := Lib.decFrom_take_lt hm (by omega)
            clear hm
            by_cases hkz : k < z.size
            · have hby := byte_at z k hkz
              obtain ⟨b, hb⟩ : ∃ b, z[k] = b := ⟨_, rfl⟩
              rw [hb] at hby
              have HBY := Lib.hid hby
              clear hby
              by_cases hd : b.toNat < 48 ∨ 57 < b.toNat
              · have HX := Lib.hid (num_badD HS.out.1 HS.out.2 (from_no HBY.out (dig_no hd)))
                rcases hd with hd | hd
                · have e8 : (b.toNat : Int) < 48 := by omega
                  go_wp2
                  go_ret2
                  exact ⟨NumE.bad HX.out, rfl⟩
                · have e8 : ¬ (b.toNat : Int) < 48 := by omega
                  have e9 : (57 : Int) < (b.toNat : Int) := by omega
                  go_wp2
                  go_ret2
                  exact ⟨NumE.bad HX.out, rfl⟩
              · have HD := Lib.hid (Lib.decFrom_take z.data.toList k 0 m b (b.toNat - 48) HM.out HBY.out (dig_ok hd))
                have e8 : ¬ (b.toNat : Int) < 48 := by omega
                have e9 : ¬ (57 : Int) < (b.toNat : Int) := by omega
                clear hd
                go_wp2
                go_roundw
                case rel => exact ⟨k + 1, m * 10 + (b.toNat - 48), by go_num, by go_num, hkz, HD.out, by first | rfl | trivial⟩
                case measure => simp [intOf]; omega
            · have hke : k = z.size := by omega
              have HN := Lib.hid (num_good HS.out.1 HG.out (by have h := HM.out; rw [hke, show z.size = z.data.toList.length from rfl, List.take_length] at h; exact h))
              clear hke
              go_wp2
              go_ret2
              exact ⟨NumE.good HN.out, rfl⟩
    · have HS := Lib.hid (show Sgn true s (s.extract 1 s.size) from ⟨by
        rw [if_pos rfl, show (45 : UInt8) = s[0] from UInt8.toNat_inj.1 (by have : (s[0].toNat : Int) = 45 := by simpa using hq
                                                                            simp; omega)]
        have := drop_at hby
        rw [List.drop_zero] at this
        conv => lhs; rw [this]
        congr 1
        rw [mid_extract, data_baL]
        unfold mid
        rw [List.take_of_length_le]
        rw [List.length_drop]
        exact Nat.le_refl _, fun h => absurd h (by simp)⟩)
      have hq2 : (s[0].toNat : Int) = 45 := by simpa using hq
      have hzs : (s.extract 1 s.size).size ≤ 1048576 := by rw [ByteArray.size_extract]; omega
      clear hby
      obtain ⟨z, hz⟩ : ∃ z, s.extract 1 s.size = z := ⟨_, rfl⟩
      rw [hz] at HS hzs
      by_cases hbad : ZBad true z
      · have HX := Lib.hid (num_bad HS.out.1 HS.out.2 hbad)
        rcases hbad with hz | hz | ⟨hz, hz'⟩
        · have e0 : z = ByteArray.empty := ByteArray.size_eq_zero_iff.1 hz
          have e1 : ((z.size : Int) == 0) = true := by simp [hz]
          have e2 : (z.size : Int) = 0 := by omega
          clear e0
          go_wp2
          go_ret2
          exact ⟨NumE.bad HX.out, rfl⟩
        · have e1 : ((z.size : Int) == 0) = false := by simp; rintro rfl; simp at hz
          have e3 : ¬ z = ByteArray.empty := by rintro rfl; simp at hz
          have e2 : (17 : Int) < (z.size : Int) := by omega
          go_wp2
          go_ret2
          exact ⟨NumE.bad HX.out, rfl⟩
        · have hp : 0 < z.size := by
            obtain ⟨hp, -⟩ := List.getElem?_eq_some_iff.1 hz
            exact hp
          have e1 : ((z.size : Int) == 0) = false := by simp; rintro rfl; simp at hp
          have e3 : ¬ z = ByteArray.empty := by rintro rfl; simp at hp
          have e5 : z[0].toNat = 48 := by rw [byte_at z 0 hp] at hz; have := Option.some.inj hz; rw [this]; rfl
          clear hz'
          clear hz
          by_cases h17 : (17 : Int) < (z.size : Int)
          all_goals
            by_cases h1x : (1 : Int) < (z.size : Int)
            all_goals
              go_wp2
              go_ret2
              exact ⟨NumE.bad HX.out, rfl⟩
      · have HG := Lib.hid hbad
        have hp : 0 < z.size := Nat.pos_of_ne_zero fun e => hbad (.inl e)
        have h17 : z.size ≤ 17 := Nat.le_of_not_lt fun e => hbad (.inr (.inl e))
        have e1 : ((z.size : Int) == 0) = false := by simp; rintro rfl; simp at hp
        have e3 : ¬ z = ByteArray.empty := by rintro rfl; simp at hp
        have e2 : ¬ (17 : Int) < (z.size : Int) := by omega
        have e5 : ¬ (z[0].toNat : Int) = 48 := by
          intro h
          refine hbad (.inr (.inr ⟨?_, .inr rfl⟩))
          rw [byte_at z 0 hp]
          congr 1
          apply UInt8.toNat_inj.1
          have := h
          simp
          omega
        clear hbad
        have e6 : ((z[0].toNat : Int) == 48) = false := by simpa using e5
        clear e5
        go_wp2
        go_loopw [5, 6] (fun v i wr => ∃ k m : Nat, v = .int .i64 m ∧ i = .int .i64 k ∧ k ≤ z.size ∧ Lib.decFrom 0 (z.data.toList.take k) = some m ∧ wr = w) (fun _ i _ => z.size - (intOf i).toNat)
        case atStart => exact ⟨0, 0, rfl, rfl, Nat.zero_le _, rfl, rfl⟩
        case round =>
          obtain ⟨k, m, rfl, rfl, hk, hm, rfl⟩ := hrel
          have HM := Lib.hid hm
          have hlt := Lib.decFrom_take_lt hm (by omega)
          clear hm
          by_cases hkz : k < z.size
          · have hby := byte_at z k hkz
            obtain ⟨b, hb⟩ : ∃ b, z[k] = b := ⟨_, rfl⟩
            rw [hb] at hby
            have HBY := Lib.hid hby
            clear hby
            by_cases hd : b.toNat < 48 ∨ 57 < b.toNat
            · have HX := Lib.hid (num_badD HS.out.1 HS.out.2 (from_no HBY.out (dig_no hd)))
              rcases hd with hd | hd
              · have e8 : (b.toNat : Int) < 48 := by omega
                go_wp2
                go_ret2
                exact ⟨NumE.bad HX.out, rfl⟩
              · have e8 : ¬ (b.toNat : Int) < 48 := by omega
                have e9 : (57 : Int) < (b.toNat : Int) := by omega
                go_wp2
                go_ret2
                exact ⟨NumE.bad HX.out, rfl⟩
            · have HD := Lib.hid (Lib.decFrom_take z.data.toList k 0 m b (b.toNat - 48) HM.out HBY.out (dig_ok hd))
              have e8 : ¬ (b.toNat : Int) < 48 := by omega
              have e9 : ¬ (57 : Int) < (b.toNat : Int) := by omega
              clear hd
              go_wp2
              go_roundw
              case rel => exact ⟨k + 1, m * 10 + (b.toNat - 48), by go_num, by go_num, hkz, HD.out, by first | rfl | trivial⟩
              case measure => simp [intOf]; omega
          · have hke : k = z.size := by omega
            have HN := Lib.hid (num_good HS.out.1 HG.out (by have h := HM.out; rw [hke, show z.size = z.data.toList.length from rfl, List.take_length] at h; exact h))
            clear hke
            go_wp2
            go_ret2
            exact ⟨NumE.good HN.out, rfl⟩
  · have hz : s = ByteArray.empty := ByteArray.size_eq_zero_iff.1 (by omega)
    subst hz
    have HX := Lib.hid (show numT ByteArray.empty = none from by decide)
    go_wp2
    go_ret2
    exact ⟨NumE.bad HX.out, rfl⟩
end Go.Proofs.YtdmadaebeooaaaaGreatDoor
