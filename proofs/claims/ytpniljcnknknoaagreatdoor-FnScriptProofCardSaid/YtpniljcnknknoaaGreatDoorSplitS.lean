/-
  Contracts of the reference's SplitEngine.
-/
import Derived.Test.YtpniljcnknknoaaGreatDoorSplit
import Derived.ArgAppend
namespace Go.Proofs.YtpniljcnknknoaaGreatDoor
open Go.RowKit
set_option linter.unusedVariables false
set_option maxRecDepth 100000
attribute [local go_sem ↓] Go.wp_at_zero Go.wp_at_succ

/-- 'append([]string{}, x...)' as a step of a region that draws: the new list is the call's own. -/
theorem step_app_strs0 {ops : Array Oper} {o : Oper} {a : Act} {K : Act → World → Prop} {Q : Exit → Act → World → Prop} {E : Prop} {w : World} (hgd : o.guard = none) (s x : Operand)
    (ho : o.op = .call { callee := .builtin .append, args := #[s, x], argTypes := #[46, 46] })
    (g : Nat) (hs : a.eval s = .slice (some ⟨g, 0, none⟩) 0 0) (u : Value) (m : List ByteArray) (hx : a.eval x = u) (hm : Strs w u m) (h1 : 1 ≤ m.length) (hl : m.length ≤ 1048576)
    (h : ∀ A c w', OwnS w' w.heap.size (.slice A m.length c) m → m.length ≤ c → c ≤ 9223372036854775807 → Below w.heap.size w w' → K (a.put o.dst (.slice A m.length c)) w') :
    if Region.wanted o (yielded ops a.tmps) = true then Oper.wp Tryz.prog o a w K Q else E := by
  have hw : Region.wanted o (yielded ops a.tmps) = true := by simp [Region.wanted, hgd]
  rw [if_pos hw]
  obtain ⟨i0, hi, hz0, hz1, hz2⟩ := info_parts Tryz.infoStr
  have hwf := hm.2
  obtain ⟨A, c, rfl, hlc, hc, hrd⟩ := hm.open_
  obtain ⟨b, f, rfl, hb, hcell⟩ := hrd.strs (by omega)
  obtain ⟨v', w', hrun, h2, h3⟩ := run_append_arg_grows (P := Tryz.prog) w 46 o.type 9 i0 _ 1 16 Tryz.underlying46 hi hz0 hz1 hz2 rfl (by omega) ⟨g, 0, none⟩ 0 0 [] rfl (by intro j u hj; simp at hj) ⟨b, f, none⟩ m.length c (sv m) (by rw [sv_length]; omega) (by
    intro j u hj
    have hlt : j < m.length := by
      have := (List.getElem?_eq_some_iff.1 hj).1
      rw [sv_length] at this; exact this
    rw [sv_get m j hlt] at hj
    injection hj with hj
    subst hj
    rw [Addr.add_lit]
    exact hcell j hlt) (by omega) (by unfold maxLen; omega) (by omega)
  have h2' : OwnS w' w.heap.size v' m := ⟨by simpa using h2, hwf, by unfold maxLen; omega⟩
  obtain ⟨A', c', rfl, k1, k2, _⟩ := h2'.strs.open_
  unfold Oper.wp execOp
  simp only [ho, resolve, invoke, builtin, Sem.run_bind, Sem.run_pure, Result.andThen_ok, List.map_toArray, List.map_cons, List.map_nil, hs, hx, hrun]
  exact h A' c' w' h2' k1 k2 ⟨h3.os, h3.tape, h3.output, h3.size, fun i hi => h3.block i hi (by simp)⟩


/-- Two engines of one's own. -/
def PairEng (w : World) (a b : List ByteArray) (e : Ending) (w' : World) : Prop :=
  ∃ r s, e = .returned (.tuple #[.agg #[r], .agg #[s]]) ∧ OwnS w' w.heap.size r a ∧ OwnS w' w.heap.size s b ∧ (∀ k, r.ownBlock = some k → s.ownBlock ≠ some k) ∧ Below w.heap.size w w'


end Go.Proofs.YtpniljcnknknoaaGreatDoor
