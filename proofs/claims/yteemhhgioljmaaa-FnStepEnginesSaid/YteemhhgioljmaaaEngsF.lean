/-
  Lists of engines that grow; copies of them.
-/
import Derived.Test.YteemhhgioljmaaaEngsE
import Derived.Test.YteemhhgioljmaaaSetUp
namespace Go.Proofs.Yteemhhgioljmaaa
open Go.RowKit
set_option linter.unusedVariables false
set_option linter.unusedSimpArgs false
set_option maxRecDepth 100000
attribute [local go_sem ↓] Go.wp_at_zero Go.wp_at_succ

/-- A growing list: a row of one's own whose engines' columns lie apart from it. -/
def EngsX (w : World) (base : Nat) (v : Value) (ls : List (List ByteArray)) : Prop :=
  ∃ xs, w.ownsRow base 29 1 v ls.length xs ∧ xs.length = ls.length ∧ ls.length ≤ 1048576 ∧ ∀ i, i < ls.length → Strs w (xat xs i) (eat ls i) ∧ Off (xat xs i) (eat ls i) (fun b => v.ownBlock ≠ some b)
theorem EngsX.engs {w : World} {base : Nat} {v : Value} {ls : List (List ByteArray)} (h : EngsX w base v ls) : Engs w v ls := by
  obtain ⟨xs, h1, h2, h3, h4⟩ := h
  exact ⟨xs, Sl.own h1 (by unfold maxLen; omega), h2, fun i hi => (h4 i hi).1⟩
theorem EngsX.lt {w : World} {base : Nat} {v : Value} {ls : List (List ByteArray)} (h : EngsX w base v ls) : ∀ k, v.ownBlock = some k → base ≤ k ∧ k < w.heap.size := by
  obtain ⟨xs, h1, _⟩ := h; exact h1.lt
theorem EngsX.bel {w w' : World} {base : Nat} {v : Value} {ls : List (List ByteArray)} (h : EngsX w base v ls) (hb : Below w.heap.size w w') : EngsX w' base v ls := by
  obtain ⟨xs, h1, h2, h3, h4⟩ := h
  exact ⟨xs, h1.kept (row := none) ⟨hb.os, hb.tape, hb.output, hb.size, fun i hi _ => hb.block i hi⟩ (by cases v.ownBlock <;> simp), h2, h3, fun i hi => ⟨(h4 i hi).1.bel hb, (h4 i hi).2⟩⟩
theorem EngsX.nil_ (w : World) (base : Nat) : EngsX w base (.slice none 0 0) [] := ⟨[], World.ownsRow_nil _ _ _ _, rfl, by simp, fun i h => absurd h (by simp)⟩
theorem EngsX.empty (w : World) (base : Nat) (hb : base ≤ w.heap.size) : EngsX (w.alloc (.cells #[] 29)) base (.slice (some ⟨w.heap.size, 0, none⟩) 0 0) [] :=
  ⟨[], World.ownsRow_made w #[] 0 hb (by unfold maxLen; omega) rfl, rfl, by simp, fun i h => absurd h (by simp)⟩
theorem eat_append_lo {a b : List (List ByteArray)} {i : Nat} (h : i < a.length) : eat (a ++ b) i = eat a i := by
  simp [eat, List.getD, List.getElem?_append_left h]
theorem eat_append_hi {a : List (List ByteArray)} {b : List ByteArray} : eat (a ++ [b]) a.length = b := by simp [eat, List.getD]
theorem xat_append_lo {a b : List Value} {i : Nat} (h : i < a.length) : xat (a ++ b) i = xat a i := by
  simp [xat, List.getD, List.getElem?_append_left h]
theorem xat_append_hi {a : List Value} {b : Value} : xat (a ++ [b]) a.length = b := by simp [xat, List.getD]

/-- 'out = append(out, e)': one engine behind the others. -/
theorem app_eng {ops : Array Oper} {rest : List Oper} {o : Oper} {a : Act} {Q : Exit → Act → World → Prop} {w : World} (hgd : o.guard = none) (s x : Operand)
    (ho : o.op = .call { callee := .builtin .append, args := #[s, x], argTypes := #[34, 34] })
    (base : Nat) (v : Value) (ls : List (List ByteArray)) (hs : a.eval s = v) (hown : EngsX w base v ls) (g c : Nat) (z : Value) (l : List ByteArray) (hx : a.eval x = .slice (some ⟨g, 0, none⟩) 1 c)
    (hcell : w.cell? ⟨g, 0, none⟩ = some z) (hz : Strs w z l) (hzo : Off z l (fun b => v.ownBlock ≠ some b)) (hl : ls.length + 1 ≤ 1048576) (hbase : base ≤ w.heap.size)
    (h : ∀ v' w', EngsX w' base v' (ls ++ [l]) → w.grownBy w' v.ownBlock → (v'.ownBlock = v.ownBlock ∨ v'.ownBlock = some w.heap.size) → wpList Try.prog ops Q rest (a.put o.dst v') w') : wpList Try.prog ops Q (o :: rest) a w := by
  obtain ⟨i0, hi, hz0, hz1, hz2⟩ := info_parts Try.infoEng
  obtain ⟨xs, h1, h2, h3, h4⟩ := hown
  obtain ⟨Az, cz, rfl, -, -, -⟩ := hz.open_
  refine wpList_append_own_at (P := Try.prog) w hgd s x 34 ho base 29 i0 _ 1 24 Try.underlying34 hi hz0 hz1 hz2 rfl (by omega) v ls.length xs hs h1 ⟨g, 0, none⟩ 1 c [.slice Az l.length cz] hx rfl ?_ ?_ (by unfold maxLen; omega) (by omega) hbase ?_
  · intro j u hj
    match j, hj with
    | 0, hj => simp at hj; subst hj; simpa [Addr.add] using hcell
  · intro u hu; simp at hu; subst hu; rfl
  · intro v' w' q1 q2 _ q4
    refine h v' w' ⟨xs ++ [.slice Az l.length cz], by rw [List.length_append]; exact q1, by simp [h2], by simp; omega, fun i hi => ?_⟩ q2 q4
    have offT : ∀ {x : Value} {m : List ByteArray}, Strs w x m → Off x m (fun b => v.ownBlock ≠ some b) → Strs w' x m ∧ Off x m (fun b => v'.ownBlock ≠ some b) := by
      intro x m hx ho
      refine ⟨hx.rowFar q2 (ho.mono fun b hb e => hb e.symm), ?_⟩
      intro a' n' c' e' hl'
      have p1 := ho a' n' c' e' hl'
      have p2 := hx.low a' n' c' e' hl'
      rcases q4 with q | q
      · rw [q]; exact p1
      · rw [q]; intro e2; injection e2 with e2; omega
    simp at hi
    by_cases e : i < ls.length
    · rw [eat_append_lo e, xat_append_lo (by omega)]
      exact offT (h4 i e).1 (h4 i e).2
    · have e' : i = ls.length := by omega
      subst e'
      rw [eat_append_hi]
      have := xat_append_hi (a := xs) (b := .slice Az l.length cz)
      rw [h2] at this
      rw [this]
      exact offT hz hzo
/-- What such an append leaves, said of the world in which the call began. -/
theorem app_belX {w0 w w' : World} {v : Value} {ls : List (List ByteArray)} (hb : Below w0.heap.size w0 w) (hown : EngsX w w0.heap.size v ls) (hg : w.grownBy w' v.ownBlock) : Below w0.heap.size w0 w' :=
  hb.trans (below_own hg hb.size fun k hk => (hown.lt k hk).1)

set_option maxHeartbeats 1000000 in
theorem l9OwnEngine_any (v : Value) (l : List ByteArray) (w : World) (hv : Strs w v l) (hl : l.length ≤ 1048576) :
    Calls Try.prog 162 #[.agg #[v]] w fun e w' => ∃ r, e = .returned (.agg #[r]) ∧ OwnS w' w.heap.size r l ∧ Below w.heap.size w w' := by
  have HV := Lib.hid hv
  obtain ⟨A, c, rfl, hlc, hc, hrd⟩ := hv.open_
  clear hv hrd
  have b0 := Lib.hid (show Below w.heap.size w (((w.alloc (.cells #[.slice A l.length c] 29)).alloc (.cells #[.slice none 0 0] 29)).alloc (.cells #[] 9)) from
    (((bel_alloc w _).alloc (by simp) _).alloc (by simp; omega) _))
  have k0 := Lib.hid ((((Blk.new' w 29 (.slice A l.length c) w.heap.size rfl).alloc (.cells #[.slice none 0 0] 29)).alloc (.cells #[] 9)))
  have kk := Lib.hid (((Blk.new' (w.alloc (.cells #[.slice A l.length c] 29)) 29 (.slice none 0 0) (w.heap.size + 1) (by simp)).alloc (.cells #[] 9)))
  have oe := Lib.hid (show OwnS (((w.alloc (.cells #[.slice A l.length c] 29)).alloc (.cells #[.slice none 0 0] 29)).alloc (.cells #[] 9)) (w.heap.size + 1 + 1) (.slice (some ⟨w.heap.size + 1 + 1, 0, none⟩) 0 0) [] by
    have := OwnS.empty ((w.alloc (.cells #[.slice A l.length c] 29)).alloc (.cells #[.slice none 0 0] 29)) (w.heap.size + 1 + 1) (by simp)
    simpa using this)
  go_enter Try.func162, Try.ntmps162
  go_wp2_with (at_builtin; go_must (refine app_strs rfl (.tmp 3) (.tmp 5) (by rfl) (w.heap.size + 1 + 1) _ _ [] l (by rfl) (by exact oe.out) (by rfl) (by exact HV.out.bel b0.out) (by simp; omega) (by simp) ?_; intro v3 w3 ho hg hat; replace ho : OwnS w3 (w.heap.size + 1 + 1) v3 l := ho; have k1 := kk.out.grown hg (fun e => by injection e with e; simp at e); have k2 := k0.out.grown hg (fun e => by injection e with e; have e' : w.heap.size = w.heap.size + 1 + 1 := e; omega); obtain ⟨c1, f1⟩ := k1.one; obtain ⟨c2, f2⟩ := k2.one; have hb := below_own hg (show w.heap.size ≤ _ from b0.out.size) (fun k hk => by injection hk with hk; simp at hk; omega); obtain ⟨A3, c3, rfl, _, _, _⟩ := ho.strs.open_; have H := Lib.hid (And.intro ho (b0.out.trans hb)); clear ho hg hat hb kk oe b0 k0))
  refine bodyPost_ret (v := .agg #[.slice A3 l.length c3]) (by simp [results, Try.results162, go_sem, c1, c2]) rfl ⟨_, rfl, ?_, ?_⟩
  · exact ((H.out.1.setCell _ _ (by simp; omega)).setCell _ _ (by simp)).lower (by omega)
  · exact (H.out.2.setCell (by simp) _).setCell (by simp) _

set_option maxHeartbeats 2000000 in
theorem l9OwnList_any (v : Value) (ls : List (List ByteArray)) (w : World) (hv : Engs w v ls) (hl : ls.length ≤ 1000) (hl2 : ∀ i, i < ls.length → (eat ls i).length ≤ 1048576) :
    Calls Try.prog 105 #[v] w fun e w' => ∃ r, e = .returned r ∧ Engs w' r ls ∧ Below w.heap.size w w' := by
  obtain ⟨A, cc, xs, rfl, hlc, hc, hrd, hst⟩ := hv.open_
  have HR := Lib.hid (And.intro hrd (And.intro hst hl2))
  have OE := Lib.hid (And.intro (EngsX.empty w w.heap.size (Nat.le_refl _)) (bel_alloc w (.cells #[] 29)))
  clear hv hrd hst hl2
  go_enter Try.func105, Try.ntmps105
  go_wp2_with fail
  go_loopw [3, 9] (fun r i wr => ∃ k : Nat, k ≤ ls.length ∧ i = .int .i64 k ∧ EngsX wr w.heap.size r (ls.take k) ∧ Below w.heap.size w wr) (fun _ i _ => ls.length - (intOf i).toNat)
  case atStart => exact ⟨0, Nat.zero_le _, rfl, OE.out.1, OE.out.2⟩
  case round =>
    clear OE
    obtain ⟨k, hk, rfl, ho, hb⟩ := hrel
    have HO := Lib.hid (And.intro ho hb)
    have hz := hb.size
    clear ho
    by_cases hlt : k < ls.length
    · obtain ⟨b, o, rfl, hbb, hcell⟩ := HR.out.1 (by omega)
      have hs := HR.out.2.1 k hlt
      obtain ⟨Ai, ci, hxi, -, -, -⟩ := hs.open_
      have d1 := hcell k hlt
      rw [hxi] at d1 hs
      have ck : wr.cell? ⟨b, o + k, none⟩ = _ := (hb.cell (by exact hbb)).trans d1
      have HS := Lib.hid (hs.bel hb)
      clear hb hcell hs hxi d1
      go_wp2_with fail
      refine (l9OwnEngine_any _ (eat ls k) _ (HS.out.bel (bel_alloc wr (.cells #[.slice Ai (eat ls k).length ci] 29))) (HR.out.2.2 k hlt)).mono ?_
      rintro e w5 ⟨r, rfl, o5, b5⟩
      have B5 := Lib.hid (bel_trans (bel_alloc wr (.cells #[.slice Ai (eat ls k).length ci] 29)) b5)
      have O5 := Lib.hid o5
      obtain ⟨A5, c5, rfl, -, -, -⟩ := o5.strs.open_
      clear ck b5 o5
      have OR := Lib.hid (And.intro (HO.out.1.bel B5.out) (bel_trans HO.out.2 B5.out))
      have hz5 := OR.out.2.size
      have hap := Lib.hid (show ls.take (k + 1) = ls.take k ++ [eat ls k] by
        rw [List.take_succ_eq_append_getElem hlt]; simp [eat, List.getD, hlt])
      have hoff := Lib.hid (O5.out.off.mono (R := fun b => u3.ownBlock ≠ some b) (fun b hb2 e => by have := (HO.out.1.lt b e).2; simp at hb2; omega))
      go_wp2_with (at_builtin; go_must (refine app_eng rfl (.tmp 13) (.tmp 16) (by rfl) w.heap.size _ (ls.take k) (by rfl) (by exact OR.out.1.bel (bel_alloc _ _)) _ _ _ (eat ls k) (by rfl) (by exact new_cell _ _ _) (by exact O5.out.strs.bel (bel_alloc _ _)) (by exact hoff.out) (by rw [List.length_take]; omega) (by simp; omega) ?_; intro v1 w8 ho hg _))
      go_roundw
      case rel => exact ⟨k + 1, by omega, by go_num, by rw [hap.out]; exact ho, app_belX (bel_trans OR.out.2 (bel_alloc _ _)) (OR.out.1.bel (bel_alloc _ _)) hg⟩
      case measure => simp [intOf]; omega
    · have hkc : k = ls.length := by omega
      have HF := Lib.hid (show Engs wr u3 ls by have := HO.out.1.engs; rw [hkc, List.take_length] at this; exact this)
      clear hb hkc
      go_wp2
      go_ret
      exact ⟨_, rfl, HF.out, HO.out.2⟩

end Go.Proofs.Yteemhhgioljmaaa
