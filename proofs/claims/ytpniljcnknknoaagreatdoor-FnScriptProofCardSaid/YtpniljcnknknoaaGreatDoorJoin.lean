/-
  Contracts of JoinEngines and what they call (made by gen_join.py).
-/
import Derived.Test.YtpniljcnknknoaaGreatDoorCols
import Derived.Test.YtpniljcnknknoaaGreatDoorEngLaw
import Derived.Lib.AppendZeros
import Derived.Deep.RegionLaw
import Derived.Deep.RegionWith
import Derived.Deep.DrawnRows
import Derived.Deep.RegionHeld3
namespace Go.Proofs.YtpniljcnknknoaaGreatDoor
open Go.RowKit
set_option linter.unusedVariables false
set_option maxRecDepth 100000
set_option linter.unusedSimpArgs false
attribute [local go_sem ↓] Go.wp_at_zero Go.wp_at_succ

theorem joinOk_a {a b : List ByteArray} (h : engOk a = false) : joinOk a b = false := by simp [joinOk, h]
theorem joinOk_b {a b : List ByteArray} (h : engOk b = false) : joinOk a b = false := by simp [joinOk, h]
theorem joinOk_s {a b : List ByteArray} (h : ¬ (sat a 0).size = (sat b 0).size) : joinOk a b = false := by simp [joinOk, h]
theorem joinOk_l {a b : List ByteArray} (h : ¬ a.length + b.length ≤ 7) : joinOk a b = false := by simp [joinOk, h]

/-- 'append(x, y...)' as a step of a region that draws: x is the call's own. -/
theorem step_app_own {ops : Array Oper} {o : Oper} {a : Act} {K : Act → World → Prop} {Q : Exit → Act → World → Prop} {E : Prop} {w : World} (hgd : o.guard = none) (s x : Operand)
    (ho : o.op = .call { callee := .builtin .append, args := #[s, x], argTypes := #[46, 46] })
    (base : Nat) (v : Value) (l : List ByteArray) (hs : a.eval s = v) (hown : OwnS w base v l) (hbase : base ≤ w.heap.size) (u : Value) (m : List ByteArray) (hx : a.eval x = u) (hm : Strs w u m) (h1 : 1 ≤ m.length) (hl : l.length + m.length ≤ 1048576)
    (h : ∀ A c w', OwnS w' base (.slice A (l ++ m).length c) (l ++ m) → w.grownBy w' v.ownBlock → K (a.put o.dst (.slice A (l ++ m).length c)) w') :
    if Region.wanted o (yielded ops a.tmps) = true then Oper.wp Tryz.prog o a w K Q else E := by
  have hw : Region.wanted o (yielded ops a.tmps) = true := by simp [Region.wanted, hgd]
  rw [if_pos hw]
  obtain ⟨i0, hi, hz0, hz1, hz2⟩ := info_parts Tryz.infoStr
  have hwf := hm.2
  obtain ⟨A, c, rfl, hlc, hc, hrd⟩ := hm.open_
  obtain ⟨b, f, rfl, hb, hcell⟩ := hrd.strs (by omega)
  obtain ⟨v', w', hr, h2, h3, h4, h5⟩ := run_append_own_at (P := Tryz.prog) w base 46 o.type 9 i0 _ 1 16 Tryz.underlying46 hi hz0 hz1 hz2 rfl (by omega) v l.length (sv l) hown.1 ⟨b, f, none⟩ m.length c (sv m) (by rw [sv_length]; omega) (by
    intro j u hj
    have hlt : j < m.length := by
      have := (List.getElem?_eq_some_iff.1 hj).1
      rw [sv_length] at this; exact this
    rw [sv_get m j hlt] at hj
    injection hj with hj
    subst hj
    rw [Addr.add_lit]
    exact hcell j hlt) (by
    intro u hu
    simp [sv] at hu
    obtain ⟨n, _, rfl⟩ := hu
    rfl) (by unfold maxLen; omega) (by omega) hbase
  have h2' : OwnS w' base v' (l ++ m) := by
    refine ⟨?_, ?_, by unfold maxLen; rw [List.length_append]; omega⟩
    · rw [sv_append, List.length_append]; exact h2
    · intro x hx
      rcases List.mem_append.1 hx with q | q
      · exact hown.2.1 x q
      · exact hwf x q
  obtain ⟨A', c', rfl, k1, k2, _⟩ := h2'.strs.open_
  unfold Oper.wp execOp
  simp only [ho, resolve, invoke, builtin, Sem.run_bind, Sem.run_pure, Result.andThen_ok, List.map_toArray, List.map_cons, List.map_nil, hs, hx, hr]
  exact h A' c' w' h2' h3



end Go.Proofs.YtpniljcnknknoaaGreatDoor
