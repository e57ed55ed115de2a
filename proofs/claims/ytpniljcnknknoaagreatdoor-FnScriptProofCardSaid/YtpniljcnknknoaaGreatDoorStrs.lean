/-
  Slices of strings: the twin of what is said of slices of numbers (made by program out of those texts).
-/
import Derived.Test.YtpniljcnknknoaaGreatDoorChecked
import Derived.Test.YtpniljcnknknoaaGreatDoorInts
import Derived.Test.YtpniljcnknknoaaGreatDoorSlices
namespace Go.Proofs.YtpniljcnknknoaaGreatDoor
open Go.RowKit
set_option linter.unusedVariables false
set_option maxRecDepth 100000

/-- element k of a list of strings (the empty one beyond its end): closed to the walk's simp. -/
def sat (l : List ByteArray) (k : Nat) : ByteArray := l.getD k ByteArray.empty

theorem sat_eq (l : List ByteArray) (k : Nat) (h : k < l.length) : sat l k = l[k] := by simp [sat, List.getD, h]

theorem sat_mem (l : List ByteArray) (k : Nat) (h : k < l.length) : sat l k ∈ l := by rw [sat_eq l k h]; exact List.getElem_mem h

theorem sat_getElem? (l : List ByteArray) (k : Nat) (h : k < l.length) : l[k]? = some (sat l k) := by rw [sat_eq l k h]; exact List.getElem?_eq_getElem h

def sv (l : List ByteArray) : List Value := l.map Value.string

theorem sv_length (l : List ByteArray) : (sv l).length = l.length := by simp [sv]

theorem sv_get (l : List ByteArray) (k : Nat) (h : k < l.length) : (sv l)[k]? = some (.string (sat l k)) := by
  simp [sv, sat_getElem? l k h]

theorem sv_append (l m : List ByteArray) : sv (l ++ m) = sv l ++ sv m := by simp [sv]

/-- every string has a length that Go can count. -/
def WfS (l : List ByteArray) : Prop := ∀ s ∈ l, s.size ≤ 9223372036854775807
theorem WfS.at (l : List ByteArray) (h : WfS l) (k : Nat) : (sat l k).size ≤ 9223372036854775807 := by
  by_cases hk : k < l.length
  · exact h _ (sat_mem l k hk)
  · have : sat l k = ByteArray.empty := by simp [sat, List.getD, List.getElem?_eq_none (Nat.le_of_not_lt hk)]
    rw [this]; simp

/-- v reads as the numbers l. -/
def Strs (w : World) (v : Value) (l : List ByteArray) : Prop := Sl w v (sv l) ∧ WfS l

section
variable {w w' : World} {v : Value} {A : Option Addr} {xs : List Value} {l : List ByteArray}

theorem Strs.below {B : Nat} (h : Strs w v l) (hb : Below B w w') (hB : w.heap.size ≤ B) : Strs w' v l := ⟨h.1.below hb hB, h.2⟩

theorem Strs.bel (h : Strs w v l) (hb : Below w.heap.size w w') : Strs w' v l := h.below hb (Nat.le_refl _)

theorem Strs.open_ (h : Strs w v l) : ∃ A c, v = .slice A l.length c ∧ l.length ≤ c ∧ c ≤ 9223372036854775807 ∧ Rd w A (sv l) := by
  obtain ⟨⟨A, c, e, h1, h2, h3⟩, _⟩ := h
  rw [sv_length] at e h1
  exact ⟨A, c, e, h1, by unfold maxLen at h2; omega, h3⟩

/-- The cells of a slice of numbers that is not empty. -/
theorem Rd.strs (h : Rd w A (sv l)) (hn : 0 < l.length) : ∃ b o, A = some ⟨b, o, none⟩ ∧ b < w.heap.size ∧ ∀ k, k < l.length → w.cell? ⟨b, o + k, none⟩ = some (.string (sat l k)) := by
  obtain ⟨b, o, e, hb, hc⟩ := h (by rw [sv_length]; exact hn)
  exact ⟨b, o, e, hb, fun k hk => hc k _ (sv_get l k hk)⟩

end

theorem isSv {cs : List Value} {l : List ByteArray} (hl : cs.length = l.length) (h : ∀ j, j < l.length → cs[j]? = some (.string (sat l j))) : cs = sv l := by
  apply List.ext_getElem?
  intro j
  by_cases hj : j < l.length
  · rw [h j hj, sv_get l j hj]
  · rw [List.getElem?_eq_none (by omega), List.getElem?_eq_none (by rw [sv_length]; omega)]

theorem setToS {cs : List Value} {l : List ByteArray} {k : Nat} (hl : cs.length = l.length) (hk : k < l.length) (h : ∀ j, j < k → cs[j]? = some (.string (sat l j))) :
    ∀ j, j < k + 1 → (cs.set k (.string (sat l k)))[j]? = some (.string (sat l j)) := by
  intro j hj
  by_cases e : j = k
  · subst e; rw [List.getElem?_set_self (by omega)]
  · rw [List.getElem?_set_ne (by omega)]; exact h j (by omega)

/-- Two lists are one: closed to the walk's simp. -/
def eqS (l m : List ByteArray) : Bool := decide (l = m)

theorem eqS_true {l m : List ByteArray} : eqS l m = true ↔ l = m := by simp [eqS]

theorem eqS_false {l m : List ByteArray} : eqS l m = false ↔ l ≠ m := by simp [eqS]

theorem eqS_self (l : List ByteArray) : eqS l l = true := by simp [eqS]

theorem slist_ext {l m : List ByteArray} (hl : l.length = m.length) (h : ∀ j, j < l.length → sat l j = sat m j) : l = m := by
  apply List.ext_getElem hl
  intro i h1 h2
  have := h i h1
  rwa [sat_eq l i h1, sat_eq m i h2] at this

def genS (f : Nat → ByteArray) (n : Nat) : List ByteArray := (List.range n).map f

theorem genS_length (f : Nat → ByteArray) (n : Nat) : (genS f n).length = n := by simp [genS]

theorem at_genS {f : Nat → ByteArray} {n j : Nat} (h : j < n) : sat (genS f n) j = f j := by rw [sat_eq _ _ (by rw [genS_length]; exact h)]; simp [genS]

theorem genS_succ (f : Nat → ByteArray) (n : Nat) : genS f (n + 1) = genS f n ++ [f n] := by simp [genS, List.range_succ]

theorem genS_at (l : List ByteArray) : genS (sat l) l.length = l := slist_ext (genS_length _ _) fun j hj => by rw [genS_length] at hj; exact at_genS hj

theorem wf_genS {f : Nat → ByteArray} {n : Nat} (h : ∀ j, j < n → (f j).size ≤ 9223372036854775807) : WfS (genS f n) := by
  intro x hx
  simp [genS] at hx
  obtain ⟨j, hj, rfl⟩ := hx
  exact h j hj

theorem Strs.nil_ (w : World) : Strs w (.slice none 0 0) [] := ⟨⟨none, 0, rfl, Nat.le_refl _, Nat.zero_le _, fun h => absurd h (by simp [sv])⟩, fun _ h => by simp at h⟩

/-- The reading of an argument, in our words. -/
theorem Strs.of_cells {w : World} {x : Addr} {len cap : Nat} {zs : List ByteArray} (hl : len ≤ cap) (hm : cap ≤ maxLen) (hz : zs.length = cap)
    (hcell : ∀ i, i < zs.length → w.cell? (x.add i) = some (.string (zs.getD i ByteArray.empty))) (hwz : ∀ n ∈ zs, n.size ≤ maxLen) :
    Strs w (.slice (some x) len cap) (zs.take len) := by
  have hlen : (zs.take len).length = len := by rw [List.length_take]; omega
  refine ⟨⟨some x, cap, by rw [sv_length, hlen], by rw [sv_length, hlen]; exact hl, hm, fun hn => ?_⟩, fun n hn => ?_⟩
  · rw [sv_length, hlen] at hn
    obtain ⟨b, off, spot⟩ := x
    have h0 := hcell 0 (by omega)
    have hspot : spot = Option.none := by simpa [Addr.add] using World.cell?_spot h0
    subst hspot
    refine ⟨b, off, rfl, by simpa [Addr.add] using World.block_lt_of_cell? w _ h0, fun k u hu => ?_⟩
    have hk : k < len := by
      rcases Nat.lt_or_ge k len with h | h
      · exact h
      · rw [List.getElem?_eq_none (by rw [sv_length, hlen]; exact h)] at hu; cases hu
    have hg := hcell k (by omega)
    rw [show (⟨b, off, Option.none⟩ : Addr).add k = ⟨b, off + k, Option.none⟩ from by unfold Addr.add; split <;> simp_all] at hg
    rw [hg, ← hu, sv_get _ k (by omega), sat]
    simp [List.getD, hk]
  · have h := hwz n (List.mem_of_mem_take hn)
    unfold maxLen at h
    omega

/-- v, made by the call (its block is not below base), reads as l and may be written. -/
def OwnS (w : World) (base : Nat) (v : Value) (l : List ByteArray) : Prop := w.ownsRow base 9 1 v l.length (sv l) ∧ WfS l ∧ l.length ≤ maxLen

theorem OwnS.strs {w : World} {base : Nat} {v : Value} {l : List ByteArray} (h : OwnS w base v l) : Strs w v l := ⟨Sl.own h.1 h.2.2, h.2.1⟩

theorem Tryz.infoStr : (Tryz.prog.info? 9).map (fun i => (i.zero, i.size, i.bytes)) = some (some (.string ⟨#[]⟩), 1, 16) := by kernel_rfl
theorem Tryz.mkStrs (n : Nat) (hn : n ≤ 17592186044416) (W : World) : (Instr.makeSlice 46 (.int .i64 (n : Int)) (.int .i64 (n : Int))).run Tryz.prog W =
    .ok (.slice (some ⟨W.heap.size, 0, none⟩) n n) (W.alloc (.cells (reps n (.string ⟨#[]⟩)).toArray 9)) :=
  mk_row 46 9 _ 16 Tryz.underlying46 Tryz.infoStr rfl n (by omega) (by omega) W


theorem str_eq {s t : ByteArray} (h : (!s.toList == t.toList) = false) : s = t := by
  have e : s.toList = t.toList := by simpa using h
  rw [ByteArray.toList_eq, ByteArray.toList_eq] at e
  exact ByteArray.ext (Array.ext' e)


theorem OwnS.form {w : World} {base : Nat} {v : Value} {l : List ByteArray} (h : OwnS w base v l) : (v = .slice none 0 0 ∧ l = []) ∨
    ∃ g cap cs, v = .slice (some ⟨g, 0, none⟩) l.length cap ∧ base ≤ g ∧ Blk w g 9 cs ∧ l.length ≤ cap ∧ cap ≤ 9223372036854775807 ∧ cs.length = cap ∧ ∀ j, j < l.length → cs[j]? = some (.string (sat l j)) := by
  obtain ⟨⟨hl, h⟩, _, _⟩ := h
  rcases h with ⟨rfl, hn⟩ | ⟨g, cap, cur, rfl, hg, hh, hnc, hcm, hs, ht⟩
  · exact .inl ⟨rfl, List.eq_nil_of_length_eq_zero hn⟩
  · refine .inr ⟨g, cap, cur.toList, rfl, hg, hh, hnc, by unfold maxLen at hcm; omega, by simpa using hs, fun j hj => ?_⟩
    rw [← sv_get l j hj, ← ht, List.getElem?_take, if_pos (by omega)]

theorem OwnS.mk' {w : World} {base g cap : Nat} {cs : List Value} {l : List ByteArray} (hg : base ≤ g) (hb : Blk w g 9 cs) (hl : l.length ≤ cap) (hc : cap ≤ 9223372036854775807) (hs : cs.length = cap)
    (hcs : ∀ j, j < l.length → cs[j]? = some (.string (sat l j))) (hwf : WfS l) : OwnS w base (.slice (some ⟨g, 0, none⟩) l.length cap) l := by
  refine ⟨⟨by rw [sv_length]; omega, .inr ⟨g, cap, cs.toArray, rfl, hg, hb, hl, by unfold maxLen; omega, by simpa using hs, ?_⟩⟩, hwf, by unfold maxLen; omega⟩
  refine isSv (by simp; omega) fun j hj => ?_
  simp only [List.getElem?_take]
  rw [if_pos (by omega)]
  exact hcs j hj

theorem OwnS.lt {w : World} {base : Nat} {v : Value} {l : List ByteArray} (h : OwnS w base v l) : ∀ k, v.ownBlock = some k → base ≤ k ∧ k < w.heap.size := h.1.lt

theorem OwnS.bel {w w' : World} {base : Nat} {v : Value} {l : List ByteArray} (h : OwnS w base v l) (hb : Below w.heap.size w w') : OwnS w' base v l :=
  ⟨h.1.kept (row := none) ⟨hb.os, hb.tape, hb.output, hb.size, fun i hi _ => hb.block i hi⟩ (by cases v.ownBlock <;> simp), h.2⟩

theorem OwnS.far {w w' : World} {base : Nat} {v : Value} {l : List ByteArray} {row : Option Nat} (h : OwnS w base v l) (hb : w.grownBy w' row) (hr : ∀ k, row = some k → k < base) : OwnS w' base v l :=
  ⟨h.1.kept hb (by
    cases hv : v.ownBlock with
    | none => exact .inl rfl
    | some k => exact .inr fun e => by have := (h.1.lt k hv).1; have := hr k e.symm; omega), h.2⟩

/-- A reading of a slice whose block lies below the one that was written. -/
theorem Strs.far {w w' : World} {v : Value} {l : List ByteArray} {row : Option Nat} {B : Nat} (h : Strs w v l) (hb : w.grownBy w' row) (hB : ∀ k, row = some k → B ≤ k)
    (hv : ∀ a n c, v = .slice (some a) n c → 0 < l.length → a.block < B) : Strs w' v l := by
  obtain ⟨⟨A, c, rfl, h1, h2, h3⟩, hwf⟩ := h
  refine ⟨⟨A, c, rfl, h1, h2, fun hn => ?_⟩, hwf⟩
  obtain ⟨b, o, rfl, hlt, hc⟩ := h3 hn
  have hbB := hv _ _ _ rfl (by rw [sv_length] at hn; exact hn)
  exact ⟨b, o, rfl, Nat.lt_of_lt_of_le hlt hb.size, fun k u hu => hb.cell (hc k u hu) (fun e => by have := hB b e.symm; simp at hbB; omega)⟩

theorem OwnS.nil_ (w : World) (base : Nat) : OwnS w base (.slice none 0 0) [] := ⟨World.ownsRow_nil _ _ _ _, fun _ h => by simp at h, by simp⟩

/-- 'out = append(out, x)': one number behind the others. -/
theorem app_str {ops : Array Oper} {rest : List Oper} {o : Oper} {a : Act} {Q : Exit → Act → World → Prop} {w : World} (hgd : o.guard = none) (s x : Operand)
    (ho : o.op = .call { callee := .builtin .append, args := #[s, x], argTypes := #[46, 46] })
    (base : Nat) (v : Value) (l : List ByteArray) (hs : a.eval s = v) (hown : OwnS w base v l) (g c : Nat) (z : ByteArray) (hx : a.eval x = .slice (some ⟨g, 0, none⟩) 1 c)
    (hcell : w.cell? ⟨g, 0, none⟩ = some (.string z)) (hz : z.size ≤ 9223372036854775807) (hl : l.length + 1 ≤ 1099511627776) (hbase : base ≤ w.heap.size)
    (h : ∀ v' w', OwnS w' base v' (l ++ [z]) → w.grownBy w' v.ownBlock → (v'.ownBlock = v.ownBlock ∨ v'.ownBlock = some w.heap.size) → wpList Tryz.prog ops Q rest (a.put o.dst v') w') : wpList Tryz.prog ops Q (o :: rest) a w := by
  obtain ⟨i0, hi, hz0, hz1, hz2⟩ := info_parts Tryz.infoStr
  refine wpList_append_own_at (P := Tryz.prog) w hgd s x 46 ho base 9 i0 _ 1 16 Tryz.underlying46 hi hz0 hz1 hz2 rfl (by omega) v l.length (sv l) hs hown.1 ⟨g, 0, none⟩ 1 c [.string z] hx rfl ?_ ?_ (by unfold maxLen; omega) (by omega) hbase ?_
  · intro j u hj
    match j, hj with
    | 0, hj => simp at hj; subst hj; simpa [Addr.add] using hcell
  · intro u hu; simp at hu; subst hu; rfl
  · intro v' w' h1 h2 _ h4
    refine h v' w' ⟨?_, ?_, by unfold maxLen; simp; omega⟩ h2 h4
    · rw [sv_append, List.length_append]; exact h1
    · intro n hn
      rcases List.mem_append.1 hn with hn | hn
      · exact hown.2.1 n hn
      · simp at hn; subst hn; exact hz

/-- '[]int{}' -/
theorem OwnS.empty (w : World) (base : Nat) (hb : base ≤ w.heap.size) : OwnS (w.alloc (.cells #[] 9)) base (.slice (some ⟨w.heap.size, 0, none⟩) 0 0) [] :=
  OwnS.mk' (cs := []) (l := []) hb (Blk.new w 9 []) (Nat.le_refl _) (by omega) rfl (fun j hj => absurd hj (by simp)) (fun _ h => by simp at h)

/-- What an append leaves, said of the world in which the call began. -/
theorem app_belS {w0 w w' : World} {v : Value} {l : List ByteArray} (hb : Below w0.heap.size w0 w) (hown : OwnS w w0.heap.size v l) (hg : w.grownBy w' v.ownBlock) : Below w0.heap.size w0 w' :=
  hb.trans ((below_own hg hb.size fun k hk => (hown.lt k hk).1))

theorem OwnS.apart {w w' : World} {base : Nat} {v u : Value} {l : List ByteArray} (h : OwnS w base v l) (hb : w.grownBy w' u.ownBlock) (hne : ∀ k, v.ownBlock = some k → u.ownBlock ≠ some k) : OwnS w' base v l :=
  ⟨h.1.kept hb (by
    cases hv : v.ownBlock with
    | none => exact .inl rfl
    | some k => exact .inr fun e => hne k hv e.symm), h.2⟩

theorem Strs.low {w : World} {v : Value} {l : List ByteArray} (h : Strs w v l) : ∀ a n c, v = .slice (some a) n c → 0 < l.length → a.block < w.heap.size := by
  obtain ⟨⟨A, c, rfl, h1, h2, h3⟩, hwf⟩ := h
  intro a n c' e hl
  injection e with e1
  obtain ⟨b, o, hA, hlt, _⟩ := h3 (by rw [sv_length]; exact hl)
  rw [e1] at hA
  injection hA with hA
  rw [hA]; exact hlt

theorem own_genS {w : World} {base g n : Nat} {cs : List Value} {f : Nat → ByteArray} (hg : base ≤ g) (hb : Blk w g 9 cs) (hl : cs.length = n) (hn : n ≤ 9223372036854775807) (hcs : ∀ j, j < n → cs[j]? = some (.string (f j)))
    (hwf : ∀ j, j < n → (f j).size ≤ 9223372036854775807) : OwnS w base (.slice (some ⟨g, 0, none⟩) n n) (genS f n) := by
  have := OwnS.mk' (l := genS f n) hg hb (by rw [genS_length]; exact Nat.le_refl n) hn hl (fun j hj => by rw [genS_length] at hj; rw [at_genS hj]; exact hcs j hj) (wf_genS hwf)
  rwa [genS_length] at this

/-- 'out = append(out, xs...)' -/
theorem app_strs {ops : Array Oper} {rest : List Oper} {o : Oper} {a : Act} {Q : Exit → Act → World → Prop} {w : World} (hgd : o.guard = none) (s x : Operand)
    (ho : o.op = .call { callee := .builtin .append, args := #[s, x], argTypes := #[46, 46] })
    (base : Nat) (v u : Value) (l m : List ByteArray) (hs : a.eval s = v) (hown : OwnS w base v l) (hx : a.eval x = u) (hm : Strs w u m)
    (hl : l.length + m.length ≤ 1099511627776) (hbase : base ≤ w.heap.size)
    (h : ∀ v' w', OwnS w' base v' (l ++ m) → w.grownBy w' v.ownBlock → (v'.ownBlock = v.ownBlock ∨ v'.ownBlock = some w.heap.size) → wpList Tryz.prog ops Q rest (a.put o.dst v') w') : wpList Tryz.prog ops Q (o :: rest) a w := by
  obtain ⟨i0, hi, hz0, hz1, hz2⟩ := info_parts Tryz.infoStr
  obtain ⟨A, c, rfl, hlc, hc, hrd⟩ := hm.open_
  have hwf : WfS (l ++ m) := by
    intro n hn
    rcases List.mem_append.1 hn with hn | hn
    · exact hown.2.1 n hn
    · exact hm.2 n hn
  rcases A with _ | ad
  · have hm0 : m = [] := by
      rcases Nat.eq_zero_or_pos m.length with h0 | h0
      · exact List.eq_nil_of_length_eq_zero h0
      · obtain ⟨b, o, e, _⟩ := hrd.strs h0
        cases e
    subst hm0
    refine wpList_plain hgd fun K hK => ?_
    have hrun := run_append_of_nil (P := Tryz.prog) w base 46 o.type 9 i0 1 Tryz.underlying46 hi v l.length (sv l) hown.1 c
    unfold Oper.wp execOp
    simp only [ho, resolve, invoke, builtin, Sem.run_bind, Sem.run_pure, Result.andThen_ok, List.map_toArray, List.map_cons, List.map_nil, hs, hx, List.length_nil, hrun]
    exact hK _ _ (h v w (by rw [List.append_nil]; exact hown) (World.grownBy.refl w _) (.inl rfl))
  · refine wpList_append_own_at (P := Tryz.prog) w hgd s x 46 ho base 9 i0 _ 1 16 Tryz.underlying46 hi hz0 hz1 hz2 rfl (by omega) v l.length (sv l) hs hown.1 ad m.length c (sv m) hx (by rw [sv_length]; omega) ?_ ?_ (by unfold maxLen; omega) (by omega) hbase ?_
    · intro j u hj
      have hjm : j < m.length := by
        rcases Nat.lt_or_ge j m.length with q | q
        · exact q
        · rw [List.getElem?_eq_none (by rw [sv_length]; exact q)] at hj; cases hj
      obtain ⟨b, o, e, _, hcell⟩ := hrd.strs (by omega)
      injection e with e
      subst e
      rw [sv_get m j hjm] at hj
      injection hj with hj
      rw [show (⟨b, o, none⟩ : Addr).add j = ⟨b, o + j, none⟩ from by unfold Addr.add; split <;> simp_all, ← hj]
      exact hcell j hjm
    · intro u hu
      simp [sv] at hu
      obtain ⟨n, _, rfl⟩ := hu
      rfl
    · intro v' w' h1 h2 _ h4
      refine h v' w' ⟨?_, hwf, by unfold maxLen; simp; omega⟩ h2 h4
      rw [sv_append, List.length_append]; exact h1

set_option maxHeartbeats 400000 in
theorem cloneS_any (v : Value) (l : List ByteArray) (w : World) (hv : Strs w v l) (hl : l.length ≤ 1048576) :
    Calls Tryz.prog 159 #[v] w fun x w' => ∃ r, x = .returned r ∧ OwnS w' w.heap.size r l ∧ Below w.heap.size w w' := by
  have hv' := Lib.hid hv
  obtain ⟨A, c, rfl, hlc, hc, hrd⟩ := hv.open_
  have hq := fun W => Lib.run_eql_slice_nil (P := Tryz.prog) W 46 9 A l.length c 0 0 Tryz.underlying46
  rcases A with _ | ad
  · have hl0 : l = [] := by
      rcases Nat.eq_zero_or_pos l.length with h0 | h0
      · exact List.eq_nil_of_length_eq_zero h0
      · obtain ⟨b, o, e, _⟩ := hrd.strs h0
        cases e
    subst hl0
    simp only [List.length_nil] at hq
    go_enter Tryz.func159, Tryz.ntmps159
    go_wp2
    go_ret
    exact ⟨_, rfl, OwnS.nil_ _ _, Below.refl _ _⟩
  · have OE := Lib.hid (OwnS.empty w w.heap.size (Nat.le_refl _))
    go_enter Tryz.func159, Tryz.ntmps159
    go_wp2_with (at_builtin; go_must (refine app_strs rfl _ _ (by rfl) w.heap.size _ _ [] l (by rfl) (by exact OE.out) (by rfl) (by exact hv'.out.bel (bel_alloc _ _)) (by simp only [List.length_nil]; omega) (by simp) ?_); intro v1 w1 ho hg _)
    go_ret
    exact ⟨_, rfl, ho, app_belS (bel_alloc _ _) OE.out hg⟩

end Go.Proofs.YtpniljcnknknoaaGreatDoor
