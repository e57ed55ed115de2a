/-
  Contracts of SumEngine, both.
-/
import Derived.Test.YtllnlndnmdbifaaJoinB
namespace Go.Proofs.Ytllnlndnmdbifaa
open Go.RowKit
set_option linter.unusedVariables false
set_option linter.unusedSimpArgs false
set_option maxRecDepth 100000
attribute [local go_sem ↓] Go.wp_at_zero Go.wp_at_succ

theorem sum_join {e : List ByteArray} {start : Int} (h1 : engOk e = true) (h2 : fits start (sat e 0).size = true) :
    joinE e [colOf start (sat e 0).size] = sumE e start ∧ joinOk e [colOf start (sat e 0).size] = sumOk e start := by
  by_cases h3 : e.length ≤ 6
  · have hs := sumOk_true.2 ⟨h1, h3, h2⟩
    rw [joinE_yes (sum_joinOk hs), sumE_yes hs, sum_joinOk hs, hs]
    exact ⟨rfl, rfl⟩
  · have hs : sumOk e start = false := by simp [sumOk, h3]
    have hj : joinOk e [colOf start (sat e 0).size] = false := joinOk_l (by simp; omega)
    rw [joinE_no hj, sumE_no hs, hj, hs]
    exact ⟨rfl, rfl⟩
theorem sumOk_e {e : List ByteArray} {start : Int} (h : engOk e = false) : sumOk e start = false := by simp [sumOk, h]
theorem sumOk_f {e : List ByteArray} {start : Int} (h : fits start (sat e 0).size = false) : sumOk e start = false := by simp [sumOk, h]
theorem sumOk_l {e : List ByteArray} {start : Int} (h : ¬ e.length ≤ 6) : sumOk e start = false := by simp [sumOk, h]
theorem one_str {w : World} {g : Nat} {c : ByteArray} (h : Blk w g 9 [.string c]) (hc : c.size ≤ 9223372036854775807) : Strs w (.slice (some ⟨g, 0, none⟩) 1 1) [c] :=
  (OwnS.mk' (base := 0) (cap := 1) (l := [c]) (Nat.zero_le _) h (Nat.le_refl _) (by omega) rfl (fun j hj => by
    obtain rfl : j = 0 := by simp at hj; omega
    rfl) (fun s hs => by simp at hs; rw [hs]; exact hc)).strs

set_option maxHeartbeats 2000000 in
theorem implSum_any (u : Value) (l : List ByteArray) (start : Int) (w : World) (hu : Strs w u l) (hn : -9223372036854775808 ≤ start ∧ start ≤ 9223372036854775807) :
    Calls Try.prog 50 #[.agg #[u], .int .i64 start] w (EngB w (sumE l start) (sumOk l start)) := by
  have HU := Lib.hid hu
  obtain ⟨A, c, rfl, -, -, hrd⟩ := hu.open_
  have HR := Lib.hid hrd
  clear hu hrd
  have B0 := Lib.hid (show Below w.heap.size w ((w.alloc (.cells #[.slice A l.length c] 26)).alloc (.cells #[.slice none 0 0] 26)) from (bel_alloc w _).alloc (by simp) _)
  have K0 := (Blk.new' w 26 (.slice A l.length c) w.heap.size rfl).alloc (.cells #[.slice none 0 0] 26)
  have K2 := Blk.new' (w.alloc (.cells #[.slice A l.length c] 26)) 26 (.slice none 0 0) (w.heap.size + 1) (by simp)
  obtain ⟨c0, -⟩ := K0.one
  go_enter Try.func50, Try.ntmps50
  go_wp2_with fail
  clear c0
  generalize hW : (w.alloc (.cells #[.slice A l.length c] 26)).alloc (.cells #[.slice none 0 0] 26) = W at *
  clear hW
  refine (implEng_any _ l _ (HU.out.bel B0.out)).mono ?_
  rintro e w2 ⟨rfl, hb⟩
  replace K0 := K0.below hb K0.lt
  replace K2 := K2.below hb K2.lt
  have HB := Lib.hid (bel_trans B0.out hb)
  have hz := HB.out.size
  clear hb
  obtain ⟨c0, -⟩ := K0.one
  obtain ⟨c2, f2⟩ := K2.one
  cases he : engOk l
  · have HN := Lib.hid (And.intro (sumOk_e (start := start) he) (sumE_no (sumOk_e (start := start) he)))
    go_wp2
    refine bodyPost_ret (v := .tuple #[.agg #[.slice none 0 0], .bool false]) (by simp [results, Try.results50, go_sem, c2]) rfl ⟨.slice none 0 0, by rw [HN.out.1], ?_, ?_⟩
    · rw [HN.out.2]; exact OwnS.nil_ _ _
    · exact HB.out.setCell (by simp) _
  · obtain ⟨l1, l7, hcol⟩ := engOk_iff.1 he
    have hk := colOk_true (hcol 0 (by omega)).1
    have hk12 : 1 ≤ (sat l 0).size ∧ (sat l 0).size ≤ 12 := ⟨hk.1, hk.2.1⟩
    obtain ⟨b, o, rfl, hbb, hcell⟩ := HR.out.strs (by omega)
    have ca := (HB.out.cell (by exact hbb)).trans (hcell 0 (by omega))
    rw [Nat.add_zero] at ca
    clear hcell hcol hk
    go_wp2_with fail
    refine (implColOf_any start (((sat l 0).size : Nat) : Int) _ hn).mono ?_
    rintro e w3 ⟨rfl, hb3⟩
    have hcf := colOfOk_nat start hk12
    replace K0 := K0.below hb3 K0.lt
    replace K2 := K2.below hb3 K2.lt
    have HB3 := Lib.hid (bel_trans HB.out hb3)
    have hz3 := HB3.out.size
    clear hb3 c0 c2 f2 ca
    obtain ⟨c0, -⟩ := K0.one
    obtain ⟨c2, f2⟩ := K2.one
    cases hf : fits start (sat l 0).size
    · have HN := Lib.hid (And.intro (sumOk_f hf) (sumE_no (sumOk_f hf)))
      rw [hf] at hcf
      go_wp2
      refine bodyPost_ret (v := .tuple #[.agg #[.slice none 0 0], .bool false]) (by simp [results, Try.results50, go_sem, c2]) rfl ⟨.slice none 0 0, by rw [HN.out.1], ?_, ?_⟩
      · rw [HN.out.2]; exact OwnS.nil_ _ _
      · exact HB3.out.setCell (by simp) _
    · rw [hf] at hcf
      have hcs : colOfS start (((sat l 0).size : Nat) : Int) = colOf start (sat l 0).size := by rw [colOfS_yes hcf]; rfl
      have HJ := Lib.hid (sum_join he hf)
      have hsz : (colOf start (sat l 0).size).size ≤ 9223372036854775807 := by rw [colOf_size]; omega
      generalize hcc : colOf start (sat l 0).size = cc at *
      clear hcc
      go_wp2_with fail
      generalize hW : w3.alloc (.cells #[.string cc] 9) = W4 at *
      have k23 := K2.lt
      have hb4 : Below w3.heap.size w3 W4 := by rw [← hW]; exact bel_alloc w3 _
      have Kc : Blk W4 w3.heap.size 9 [.string cc] := by rw [← hW]; exact Blk.new w3 9 [.string cc]
      clear hW
      refine (implJoin_any _ _ l [cc] _ (HU.out.bel (bel_trans HB3.out hb4)) (one_str Kc hsz)).mono ?_
      rintro e w5 ⟨r, rfl, ho, hb5⟩
      have hb45 := bel_trans hb4 hb5
      replace K2 := K2.below hb45 K2.lt
      have z4 := hb4.size
      have z5 := k23
      have HO := Lib.hid (And.intro (ho.lower (base' := w.heap.size + 1 + 1) (by omega)) (bel_trans HB3.out hb45))
      clear c2 f2 hb4 hb5 hb45
      obtain ⟨c2, f2⟩ := K2.one
      obtain ⟨A3, d3, rfl, -, -, -⟩ := ho.strs.open_
      clear ho
      generalize hp : (joinE l [cc]).length = p at *
      clear hp
      go_wp2
      refine bodyPost_ret (v := .tuple #[.agg #[.slice A3 p d3], .bool (joinOk l [cc])]) (by simp [results, Try.results50, go_sem, c2]) rfl ⟨_, by rw [HJ.out.2], ?_, ?_⟩
      · rw [← HJ.out.1]; exact (HO.out.1.setCell _ _ (by simp)).lower (by omega)
      · exact HO.out.2.setCell (by simp) _

set_option maxHeartbeats 2000000 in
theorem specSum_any (u : Value) (l : List ByteArray) (start : Int) (w : World) (hu : Strs w u l) (hn : -9223372036854775808 ≤ start ∧ start ≤ 9223372036854775807) :
    Calls Try.prog 51 #[.agg #[u], .int .i64 start] w (EngB w (sumE l start) (sumOk l start)) := by
  have HU := Lib.hid hu
  obtain ⟨A, c, rfl, -, -, hrd⟩ := hu.open_
  have HR := Lib.hid hrd
  clear hu hrd
  have B0 := Lib.hid (show Below w.heap.size w ((w.alloc (.cells #[.slice A l.length c] 26)).alloc (.cells #[.slice none 0 0] 26)) from (bel_alloc w _).alloc (by simp) _)
  have K0 := (Blk.new' w 26 (.slice A l.length c) w.heap.size rfl).alloc (.cells #[.slice none 0 0] 26)
  have K2 := Blk.new' (w.alloc (.cells #[.slice A l.length c] 26)) 26 (.slice none 0 0) (w.heap.size + 1) (by simp)
  obtain ⟨c0, -⟩ := K0.one
  go_enter Try.func51, Try.ntmps51
  go_wp2_with fail
  clear c0
  generalize hW : (w.alloc (.cells #[.slice A l.length c] 26)).alloc (.cells #[.slice none 0 0] 26) = W at *
  clear hW
  refine (specEng_any _ l _ (HU.out.bel B0.out)).mono ?_
  rintro e w2 ⟨rfl, hb⟩
  replace K0 := K0.below hb K0.lt
  replace K2 := K2.below hb K2.lt
  have HB := Lib.hid (bel_trans B0.out hb)
  have hz := HB.out.size
  clear hb
  obtain ⟨c0, -⟩ := K0.one
  obtain ⟨c2, f2⟩ := K2.one
  cases he : engOk l
  · have HN := Lib.hid (And.intro (sumOk_e (start := start) he) (sumE_no (sumOk_e (start := start) he)))
    go_wp2
    refine bodyPost_ret (v := .tuple #[.agg #[.slice none 0 0], .bool false]) (by simp [results, Try.results51, go_sem, c2]) rfl ⟨.slice none 0 0, by rw [HN.out.1], ?_, ?_⟩
    · rw [HN.out.2]; exact OwnS.nil_ _ _
    · exact HB.out.setCell (by simp) _
  · by_cases h6 : l.length ≤ 6
    · obtain ⟨l1, l7, hcol⟩ := engOk_iff.1 he
      have hk := colOk_true (hcol 0 (by omega)).1
      have hk12 : 1 ≤ (sat l 0).size ∧ (sat l 0).size ≤ 12 := ⟨hk.1, hk.2.1⟩
      obtain ⟨b, o, rfl, hbb, hcell⟩ := HR.out.strs (by omega)
      have ca := (HB.out.cell (by exact hbb)).trans (hcell 0 (by omega))
      rw [Nat.add_zero] at ca
      clear hcell hcol hk
      go_wp2_with fail
      refine (specColOf_any start (((sat l 0).size : Nat) : Int) _ hn).mono ?_
      rintro e w3 ⟨rfl, hb3⟩
      have hcf := colOfOk_nat start hk12
      replace K0 := K0.below hb3 K0.lt
      replace K2 := K2.below hb3 K2.lt
      have HB3 := Lib.hid (bel_trans HB.out hb3)
      have hz3 := HB3.out.size
      clear hb3 c0 c2 f2 ca
      obtain ⟨c0, -⟩ := K0.one
      obtain ⟨c2, f2⟩ := K2.one
      cases hf : fits start (sat l 0).size
      · have HN := Lib.hid (And.intro (sumOk_f hf) (sumE_no (sumOk_f hf)))
        rw [hf] at hcf
        go_wp2
        refine bodyPost_ret (v := .tuple #[.agg #[.slice none 0 0], .bool false]) (by simp [results, Try.results51, go_sem, c2]) rfl ⟨.slice none 0 0, by rw [HN.out.1], ?_, ?_⟩
        · rw [HN.out.2]; exact OwnS.nil_ _ _
        · exact HB3.out.setCell (by simp) _
      · rw [hf] at hcf
        have hs := sumOk_true.2 ⟨he, h6, hf⟩
        have HJ := Lib.hid (And.intro (sumE_yes hs) hs)
        have hcs : colOfS start (((sat l 0).size : Nat) : Int) = colOf start (sat l 0).size := by rw [colOfS_yes hcf]; rfl
        have hsz : (colOf start (sat l 0).size).size ≤ 9223372036854775807 := by rw [colOf_size]; omega
        generalize hcc : colOf start (sat l 0).size = cc at *
        clear hcc hs
        go_wp2_with fail
        generalize hW : w3.alloc (.cells #[.string cc] 9) = W4 at *
        have k23 := K2.lt
        have hb4 : Below w3.heap.size w3 W4 := by rw [← hW]; exact bel_alloc w3 _
        have Kc : Blk W4 w3.heap.size 9 [.string cc] := by rw [← hW]; exact Blk.new w3 9 [.string cc]
        clear hW
        refine (l7Join_any _ _ l [cc] _ (HU.out.bel (bel_trans HB3.out hb4)) (one_str Kc hsz) ⟨l1, l7⟩ (by simp)).mono ?_
        rintro e w5 ⟨r, rfl, ho, hb5⟩
        have hb45 := bel_trans hb4 hb5
        replace K2 := K2.below hb45 K2.lt
        have z4 := hb4.size
        have HO := Lib.hid (And.intro (ho.lower (base' := w.heap.size + 1 + 1) (by omega)) (bel_trans HB3.out hb45))
        clear c2 f2 hb4 hb5 hb45
        obtain ⟨c2, f2⟩ := K2.one
        obtain ⟨A3, d3, rfl, -, -, -⟩ := ho.strs.open_
        clear ho
        generalize hp : ([cc] ++ l).length = p at *
        clear hp
        go_wp2
        refine bodyPost_ret (v := .tuple #[.agg #[.slice A3 p d3], .bool true]) (by simp [results, Try.results51, go_sem, c2]) rfl ⟨_, by rw [HJ.out.2], ?_, ?_⟩
        · rw [HJ.out.1]; exact (HO.out.1.setCell _ _ (by simp)).lower (by omega)
        · exact HO.out.2.setCell (by simp) _
    · have HN := Lib.hid (And.intro (sumOk_l (start := start) h6) (sumE_no (sumOk_l (start := start) h6)))
      have h6' : (6 : Int) < (l.length : Int) := by omega
      go_wp2
      refine bodyPost_ret (v := .tuple #[.agg #[.slice none 0 0], .bool false]) (by simp [results, Try.results51, go_sem, c2]) rfl ⟨.slice none 0 0, by rw [HN.out.1], ?_, ?_⟩
      · rw [HN.out.2]; exact OwnS.nil_ _ _
      · exact HB.out.setCell (by simp) _

end Go.Proofs.Ytllnlndnmdbifaa
