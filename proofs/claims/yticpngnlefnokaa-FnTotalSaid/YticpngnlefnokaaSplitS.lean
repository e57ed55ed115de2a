/-
  Contracts of the reference's SplitEngine.
-/
import Derived.Test.YticpngnlefnokaaSplit
import Derived.ArgAppend
namespace Go.Proofs.Yticpngnlefnokaa
open Go.RowKit
set_option linter.unusedVariables false
set_option maxRecDepth 100000
attribute [local go_sem ↓] Go.wp_at_zero Go.wp_at_succ

/-- 'append([]string{}, x...)' as a step of a region that draws: the new list is the call's own. -/
theorem step_app_strs0 {ops : Array Oper} {o : Oper} {a : Act} {K : Act → World → Prop} {Q : Exit → Act → World → Prop} {E : Prop} {w : World} (hgd : o.guard = none) (s x : Operand)
    (ho : o.op = .call { callee := .builtin .append, args := #[s, x], argTypes := #[23, 23] })
    (g : Nat) (hs : a.eval s = .slice (some ⟨g, 0, none⟩) 0 0) (u : Value) (m : List ByteArray) (hx : a.eval x = u) (hm : Strs w u m) (h1 : 1 ≤ m.length) (hl : m.length ≤ 1048576)
    (h : ∀ A c w', OwnS w' w.heap.size (.slice A m.length c) m → m.length ≤ c → c ≤ 9223372036854775807 → Below w.heap.size w w' → K (a.put o.dst (.slice A m.length c)) w') :
    if Region.wanted o (yielded ops a.tmps) = true then Oper.wp Try.prog o a w K Q else E := by
  have hw : Region.wanted o (yielded ops a.tmps) = true := by simp [Region.wanted, hgd]
  rw [if_pos hw]
  obtain ⟨i0, hi, hz0, hz1, hz2⟩ := info_parts Try.infoStr
  have hwf := hm.2
  obtain ⟨A, c, rfl, hlc, hc, hrd⟩ := hm.open_
  obtain ⟨b, f, rfl, hb, hcell⟩ := hrd.strs (by omega)
  obtain ⟨v', w', hrun, h2, h3⟩ := run_append_arg_grows (P := Try.prog) w 23 o.type 9 i0 _ 1 16 Try.underlying23 hi hz0 hz1 hz2 rfl (by omega) ⟨g, 0, none⟩ 0 0 [] rfl (by intro j u hj; simp at hj) ⟨b, f, none⟩ m.length c (sv m) (by rw [sv_length]; omega) (by
    intro j u hj
    have hlt : j < m.length := by
      have := (List.getElem?_eq_some_iff.1 hj).1
      rw [sv_length] at this; exact this
    rw [sv_get m j hlt] at hj
    injection hj with hj
    subst hj
    rw [Addr.add_lit]
    exact hcell j hlt) (by omega) (by unfold maxLen; omega) (by omega)
  have h2' : OwnS w' w.heap.size v' m := ⟨by simpa using h2, hwf, by unfold maxLen; omega⟩
  obtain ⟨A', c', rfl, k1, k2, _⟩ := h2'.strs.open_
  unfold Oper.wp execOp
  simp only [ho, resolve, invoke, builtin, Sem.run_bind, Sem.run_pure, Result.andThen_ok, List.map_toArray, List.map_cons, List.map_nil, hs, hx, hrun]
  exact h A' c' w' h2' k1 k2 ⟨h3.os, h3.tape, h3.output, h3.size, fun i hi => h3.block i hi (by simp)⟩

set_option maxHeartbeats 1000000 in
theorem l3Copy_any (v : Value) (l : List ByteArray) (w : World) (hv : Strs w v l) (hl : l.length ≤ 1048576) :
    Calls Try.prog 58 #[.agg #[v]] w fun e w' => ∃ r, e = .returned (.agg #[r]) ∧ OwnS w' w.heap.size r l ∧ Below w.heap.size w w' := by
  have HV := Lib.hid hv
  obtain ⟨A, c, rfl, hlc, hc, hrd⟩ := hv.open_
  clear hv hrd
  have b0 := Lib.hid (show Below w.heap.size w (((w.alloc (.cells #[.slice A l.length c] 25)).alloc (.cells #[.slice none 0 0] 25)).alloc (.cells #[] 9)) from
    (((bel_alloc w _).alloc (by simp) _).alloc (by simp; omega) _))
  have kk := Lib.hid (((Blk.new' (w.alloc (.cells #[.slice A l.length c] 25)) 25 (.slice none 0 0) (w.heap.size + 1) (by simp)).alloc (.cells #[] 9)))
  have oe := Lib.hid (show OwnS (((w.alloc (.cells #[.slice A l.length c] 25)).alloc (.cells #[.slice none 0 0] 25)).alloc (.cells #[] 9)) (w.heap.size + 1 + 1) (.slice (some ⟨w.heap.size + 1 + 1, 0, none⟩) 0 0) [] by
    have := OwnS.empty ((w.alloc (.cells #[.slice A l.length c] 25)).alloc (.cells #[.slice none 0 0] 25)) (w.heap.size + 1 + 1) (by simp)
    simpa using this)
  go_enter Try.func58, Try.ntmps58
  go_wp2_with (at_builtin; refine app_strs rfl (.tmp 3) (.tmp 5) (by rfl) (w.heap.size + 1 + 1) _ _ [] l (by rfl) (by exact oe.out) (by rfl) (by exact HV.out.bel b0.out) (by simp; omega) (by simp) ?_; intro v3 w3 ho hg hat; replace ho : OwnS w3 (w.heap.size + 1 + 1) v3 l := ho; have k1 := kk.out.grown hg (fun e => by injection e with e; simp at e); obtain ⟨c1, f1⟩ := k1.one; have hb := below_own hg (show w.heap.size ≤ _ from b0.out.size) (fun k hk => by injection hk with hk; simp at hk; omega); obtain ⟨A3, c3, rfl, _, _, _⟩ := ho.strs.open_; have H := Lib.hid (And.intro ho (b0.out.trans hb)); clear ho hg hat hb kk oe b0)
  refine bodyPost_ret (v := .agg #[.slice A3 l.length c3]) (by simp [results, Try.results58, go_sem, c1]) rfl ⟨_, rfl, ?_, ?_⟩
  · exact (H.out.1.setCell _ _ (by simp)).lower (by omega)
  · exact H.out.2.setCell (by simp) _

/-- Two engines of one's own. -/
def PairEng (w : World) (a b : List ByteArray) (e : Ending) (w' : World) : Prop :=
  ∃ r s, e = .returned (.tuple #[.agg #[r], .agg #[s]]) ∧ OwnS w' w.heap.size r a ∧ OwnS w' w.heap.size s b ∧ (∀ k, r.ownBlock = some k → s.ownBlock ≠ some k) ∧ Below w.heap.size w w'


end Go.Proofs.Yticpngnlefnokaa
