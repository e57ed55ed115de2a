import Derived.Test.YtpniljcnknknoaaGreatDoorAllShPj
import Derived.StillTailTactics
import Derived.Lib.IndexMore
import Derived.Test.YtpniljcnknknoaaGreatDoorFmt
import Derived.Deep.AppendLies
import Derived.Deep.RegionHeld3
import Derived.Deep.RegionLaw
import Derived.Test.YtpniljcnknknoaaGreatDoorJoinB
import Derived.Test.YtpniljcnknknoaaGreatDoorColPlain
import Derived.Test.YtpniljcnknknoaaGreatDoorDrawE
import Derived.Test.YtpniljcnknknoaaGreatDoorEngLaw
import Derived.Test.YtpniljcnknknoaaGreatDoorCols
import Derived.Deep.RegionWith
import Derived.Deep.DrawnRows
import Derived.LoopN
import Derived.Test.YtpniljcnknknoaaGreatDoorJoin
import Derived.Test.YtpniljcnknknoaaGreatDoorSetPlain
import Derived.Test.YtpniljcnknknoaaGreatDoorTxt
import Derived.Test.YtpniljcnknknoaaGreatDoorJdA
import Derived.Deep.SlicePairs
import Derived.LaidLaws
/-
  The desk of a script: how it lies in memory, and what keeps it.
-/
namespace Go.Proofs.YtpniljcnknknoaaGreatDoor
open Go.RowKit
set_option linter.unusedVariables false
set_option linter.unusedSimpArgs false
set_option maxRecDepth 100000

/-- What a desk holds. -/
structure DeskD where
  poly : List Int
  eng : List ByteArray
  tab : List Int
  rw : Nat
  ac : Nat
  wi : Nat
structure DeskD.Ok (d : DeskD) : Prop where
  poly : polyOk d.poly = true
  eng : d.eng = [] ∨ engOk d.eng = true
  tab : d.tab.length ≤ 60
  rw : 1 ≤ d.rw ∧ d.rw ≤ 20
  ac : 1 ≤ d.ac ∧ d.ac ≤ 6
  wi : 1 ≤ d.wi ∧ d.wi ≤ 12
def deskC (p e t : Value) (r a i : Int) : List Value := [p, e, t, .int .i64 r, .int .i64 a, .int .i64 i]
/-- A desk in block b. -/
def Desk (w : World) (b : Nat) (d : DeskD) : Prop := ∃ p e t, Blk w b 79 (deskC p e t d.rw d.ac d.wi) ∧ Own w 0 p d.poly ∧ OwnS w 0 e d.eng ∧ Own w 0 t d.tab
theorem row_ne {w : World} {b : Nat} {t e : TypeId} {cs : List Value} {base n : Nat} {v : Value} {xs : List Value} (hb : Blk w b t cs) (h : w.ownsRow base e 1 v n xs) (hne : t ≠ e) : v.ownBlock ≠ some b := by
  rcases h.2 with ⟨rfl, -⟩ | ⟨g, cap, cur, rfl, -, hg, -⟩
  · simp [Value.ownBlock]
  · intro h1
    have h2 : g = b := Option.some.inj h1
    subst h2
    unfold Blk at hb
    rw [hb] at hg
    injection hg with hg
    injection hg with h3 h4 h5
    exact hne h4
theorem row_kept {w w' : World} {base : Nat} {e : TypeId} {v : Value} {n : Nat} {xs : List Value} {row : Option Nat} (h : w.ownsRow base e 1 v n xs) (hg : w.grownBy w' row) (hr : ∀ k, v.ownBlock = some k → some k ≠ row) : w'.ownsRow base e 1 v n xs := by
  refine ⟨h.1, ?_⟩
  rcases h.2 with h0 | ⟨g, cap, cur, hv, h1, h2, h3⟩
  · exact .inl h0
  · exact .inr ⟨g, cap, cur, hv, h1, (hg.block g (Array.getElem?_eq_some_iff.1 h2).1 (hr g (by rw [hv]; rfl))).trans h2, h3⟩
theorem row_others {w w' : World} {base : Nat} {e u : TypeId} {v : Value} {n bb : Nat} {xs : List Value} (h : w.ownsRow base e 1 v n xs) (hk : Lib.OthersKept u (some bb) w w') (hr : v.ownBlock ≠ some bb) (hne : e ≠ u) : w'.ownsRow base e 1 v n xs := by
  refine ⟨h.1, ?_⟩
  rcases h.2 with h0 | ⟨g, cap, cur, hv, h1, h2, h3⟩
  · exact .inl h0
  · exact .inr ⟨g, cap, cur, hv, h1, hk g _ h2 (fun e => hr (by rw [hv]; exact e)) (fun c fz e => by injection e with _ e1; exact hne e1), h3⟩
theorem Blk.others {w w' : World} {b bb : Nat} {t u : TypeId} {cs : List Value} (h : Blk w b t cs) (hk : Lib.OthersKept u (some bb) w w') (hr : b ≠ bb) (hne : t ≠ u) : Blk w' b t cs :=
  hk b _ h (fun e => hr (Option.some.inj e)) (fun c fz e => by injection e with _ e1; exact hne e1)
theorem Own.low {w : World} {base : Nat} {v : Value} {l : List Int} (h : Own w base v l) : Own w 0 v l := ⟨by
  refine ⟨h.1.1, ?_⟩
  rcases h.1.2 with h0 | ⟨g, cap, cur, hv, -, h2⟩
  · exact .inl h0
  · exact .inr ⟨g, cap, cur, hv, Nat.zero_le _, h2⟩, h.2⟩
theorem OwnS.low {w : World} {base : Nat} {v : Value} {l : List ByteArray} (h : OwnS w base v l) : OwnS w 0 v l := ⟨by
  refine ⟨h.1.1, ?_⟩
  rcases h.1.2 with h0 | ⟨g, cap, cur, hv, -, h2⟩
  · exact .inl h0
  · exact .inr ⟨g, cap, cur, hv, Nat.zero_le _, h2⟩, h.2⟩
theorem Own.at {w : World} {base b : Nat} {v : Value} {l : List Int} {cs : List Value} (h : Own w base v l) (hb : Blk w b 79 cs) {w' : World} (hg : w.grownBy w' (some b)) : Own w' base v l :=
  ⟨row_kept h.1 hg (fun k hk e => row_ne hb h.1 (by decide) (by rw [hk, e])), h.2⟩
theorem OwnS.at {w : World} {base b : Nat} {v : Value} {l : List ByteArray} {cs : List Value} (h : OwnS w base v l) (hb : Blk w b 79 cs) {w' : World} (hg : w.grownBy w' (some b)) : OwnS w' base v l :=
  ⟨row_kept h.1 hg (fun k hk e => row_ne hb h.1 (by decide) (by rw [hk, e])), h.2⟩
theorem Desk.lt {w : World} {b : Nat} {d : DeskD} (h : Desk w b d) : b < w.heap.size := by obtain ⟨p, e, t, h, -⟩ := h; exact h.lt
theorem Desk.bel {w w' : World} {b : Nat} {d : DeskD} (h : Desk w b d) (hb : Below w.heap.size w w') : Desk w' b d := by
  obtain ⟨p, e, t, h0, h1, h2, h3⟩ := h
  exact ⟨p, e, t, h0.below hb h0.lt, h1.bel hb, h2.bel hb, h3.bel hb⟩
theorem Desk.others {w w' : World} {b bb : Nat} {d : DeskD} (h : Desk w b d) (hB : w.shape? bb = some (82, 2)) (hk : Lib.OthersKept 5 (some bb) w w') : Desk w' b d := by
  obtain ⟨p, e, t, h0, h1, h2, h3⟩ := h
  have hn : ∀ {base : Nat} {u : TypeId} {v : Value} {n : Nat} {xs : List Value}, u ≠ 82 → w.ownsRow base u 1 v n xs → v.ownBlock ≠ some bb := by
    intro base u v n xs hu h4 h5
    rcases h4.2 with ⟨rfl, -⟩ | ⟨g, cap, cur, rfl, -, hg, -⟩
    · simp [Value.ownBlock] at h5
    · have h6 : g = bb := Option.some.inj h5
      subst h6
      simp [World.shape?, hg] at hB
      exact hu hB.1
  refine ⟨p, e, t, h0.others hk (fun e => ?_) (by decide), ⟨row_others h1.1 hk (hn (by decide) h1.1) (by decide), h1.2⟩, ⟨row_others h2.1 hk (hn (by decide) h2.1) (by decide), h2.2⟩, ⟨row_others h3.1 hk (hn (by decide) h3.1) (by decide), h3.2⟩⟩
  subst e
  unfold Blk at h0
  simp [World.shape?, h0] at hB
theorem grw_trans {a b c : World} {row : Option Nat} (h : a.grownBy b row) (k : b.grownBy c row) : a.grownBy c row :=
  ⟨k.os.trans h.os, k.tape.trans h.tape, k.output.trans h.output, Nat.le_trans h.size k.size, fun i hi hn => (k.block i (Nat.lt_of_lt_of_le hi h.size) hn).trans (h.block i hi hn)⟩
theorem grw_bel {a b : World} (row : Option Nat) (h : Below a.heap.size a b) : a.grownBy b row := ⟨h.os, h.tape, h.output, h.size, fun i hi _ => h.block i hi⟩
/-- The words of the lines with numbers, and how many numbers each wants. -/
def cmdW : List ByteArray := [⟨#[115, 101, 116, 117, 112]⟩, ⟨#[116, 117, 114, 110, 115]⟩, ⟨#[118, 97, 108, 117, 101, 115]⟩, ⟨#[114, 117, 110]⟩, ⟨#[115, 108, 105, 112]⟩, ⟨#[99, 111, 114, 114, 101, 99, 116]⟩, ⟨#[114, 111, 117, 110, 100]⟩, ⟨#[108, 97, 121, 111, 117, 116]⟩, ⟨#[102, 105, 110, 100]⟩, ⟨#[112, 108, 97, 110]⟩, ⟨#[99, 104, 101, 97, 112]⟩, ⟨#[115, 117, 109, 115]⟩]
def cmdN : List Int := [2, 1, 2, 1, 4, 1, 2, 3, 1, 1, 3, 1]
/-- The table of commands lies as it was laid. -/
def Cmd (w : World) : Prop := ∃ b o c, w.cell? ⟨0, 0, none⟩ = some (.slice (some ⟨b, o, none⟩) 12 c) ∧ 12 ≤ c ∧ c ≤ 9223372036854775807 ∧ b < w.heap.size ∧ ∀ k, k < 12 → w.cell? ⟨b, o + k * 2, none⟩ = some (.string (sat cmdW k)) ∧ w.cell? ⟨b, o + k * 2 + 1, none⟩ = some (.int .i64 (at_ cmdN k))
theorem Cmd.bel {w w' : World} (h : Cmd w) (hb : Below w.heap.size w w') : Cmd w' := by
  obtain ⟨b, o, c, h1, h2, h3, h4, h5⟩ := h
  exact ⟨b, o, c, (hb.cell (World.block_lt_of_cell? _ _ h1)).trans h1, h2, h3, Nat.lt_of_lt_of_le h4 hb.size, fun k hk => ⟨(hb.cell h4).trans (h5 k hk).1, (hb.cell h4).trans (h5 k hk).2⟩⟩
def GlbC (w : World) : Prop := Glb w ∧ Cmd w
theorem GlbC.bel {w w' : World} (h : GlbC w) (hb : Below w.heap.size w w') : GlbC w' := ⟨h.1.bel hb, h.2.bel hb⟩
/-- A world with a desk, in which the package-level variables lie as they lay. -/
def GlbB (b : Nat) (w : World) : Prop := ∃ w0, GlbC w0 ∧ w0.heap.size ≤ b ∧ Below w0.heap.size w0 w
theorem GlbB.glb {b : Nat} {w : World} (h : GlbB b w) : Glb w := by obtain ⟨w0, h0, -, h2⟩ := h; exact h0.1.bel h2
theorem GlbB.cmd {b : Nat} {w : World} (h : GlbB b w) : Cmd w := by obtain ⟨w0, h0, -, h2⟩ := h; exact h0.2.bel h2
theorem GlbB.grown {b : Nat} {w w' : World} (h : GlbB b w) (hg : w.grownBy w' (some b)) : GlbB b w' := by
  obtain ⟨w0, h0, h1, h2⟩ := h
  exact ⟨w0, h0, h1, h2.grown hg h2.size (fun k hk => by cases hk; exact h1)⟩
theorem GlbB.bel {b : Nat} {w w' : World} (h : GlbB b w) (hb : Below w.heap.size w w') : GlbB b w' := h.grown (grw_bel _ hb)
theorem GlbB.from {b B : Nat} {w w' : World} (h : GlbB b w) (hb : Below B w w') (hB : b ≤ B) : GlbB b w' := by
  obtain ⟨w0, h0, h1, h2⟩ := h
  exact ⟨w0, h0, h1, h2.trans (hb.mono (Nat.le_trans h1 hB))⟩
theorem Desk.keepOwn {w w' : World} {b : Nat} {d : DeskD} {v : Value} {l : List Int} (h : Desk w b d) (hv : Own w 0 v l) (hg : w.grownBy w' (some b)) : Own w' 0 v l := by
  obtain ⟨p, e, t, h0, -⟩ := h
  exact hv.at h0 hg
theorem Desk.keepOwnS {w w' : World} {b : Nat} {d : DeskD} {v : Value} {l : List ByteArray} (h : Desk w b d) (hv : OwnS w 0 v l) (hg : w.grownBy w' (some b)) : OwnS w' 0 v l := by
  obtain ⟨p, e, t, h0, -⟩ := h
  exact hv.at h0 hg
/-- A desk with another polynomial, engine, table, layout. -/
theorem Desk.setPoly {w : World} {b : Nat} {d : DeskD} {v : Value} {l : List Int} (h : Desk w b d) (hv : Own w 0 v l) : Desk (w.setCell ⟨b, 0, none⟩ v) b { d with poly := l } := by
  obtain ⟨p, e, t, h0, h1, h2, h3⟩ := h
  have hg := grown_set w b 0 v
  exact ⟨v, e, t, h0.set_ 0 v, hv.at h0 hg, h2.at h0 hg, h3.at h0 hg⟩
theorem Desk.setEng {w : World} {b : Nat} {d : DeskD} {v : Value} {l : List ByteArray} (h : Desk w b d) (hv : OwnS w 0 v l) : Desk (w.setCell ⟨b, 1, none⟩ v) b { d with eng := l } := by
  obtain ⟨p, e, t, h0, h1, h2, h3⟩ := h
  have hg := grown_set w b 1 v
  exact ⟨p, v, t, h0.set_ 1 v, h1.at h0 hg, hv.at h0 hg, h3.at h0 hg⟩
theorem Desk.setTab {w : World} {b : Nat} {d : DeskD} {v : Value} {l : List Int} (h : Desk w b d) (hv : Own w 0 v l) : Desk (w.setCell ⟨b, 2, none⟩ v) b { d with tab := l } := by
  obtain ⟨p, e, t, h0, h1, h2, h3⟩ := h
  have hg := grown_set w b 2 v
  exact ⟨p, e, v, h0.set_ 2 v, h1.at h0 hg, h2.at h0 hg, hv.at h0 hg⟩
theorem Desk.setLay {w : World} {b : Nat} {d : DeskD} (r a i : Nat) (h : Desk w b d) : Desk (((w.setCell ⟨b, 3, none⟩ (.int .i64 r)).setCell ⟨b, 4, none⟩ (.int .i64 a)).setCell ⟨b, 5, none⟩ (.int .i64 i)) b { d with rw := r, ac := a, wi := i } := by
  obtain ⟨p, e, t, h0, h1, h2, h3⟩ := h
  have hg := grw_trans (grw_trans (grown_set w b 3 (.int .i64 r)) (grown_set _ b 4 (.int .i64 a))) (grown_set _ b 5 (.int .i64 i))
  exact ⟨p, e, t, ((h0.set_ 3 _).set_ 4 _).set_ 5 _, h1.at h0 hg, h2.at h0 hg, h3.at h0 hg⟩
/-- What a line does: its output, and the desk behind it. -/
def LineE (w : World) (b : Nat) (out : ByteArray) (d : DeskD) (e : Ending) (w' : World) : Prop := e = .returned (.string out) ∧ Desk w' b d ∧ w.grownBy w' (some b)
end Go.Proofs.YtpniljcnknknoaaGreatDoor

/-
  Scripts: the plain side of their lines.
-/
namespace Go.Proofs.YtpniljcnknknoaaGreatDoor
open Go.RowKit
set_option linter.unusedVariables false
set_option linter.unusedSimpArgs false
set_option maxRecDepth 100000

def nlS : ByteArray := ⟨#[10]⟩
/-- Lines, each with its end. -/
def linesS : List ByteArray → ByteArray
  | [] => ⟨#[]⟩
  | x :: r => x ++ nlS ++ linesS r
theorem joinS_cons (x y : ByteArray) (r : List ByteArray) (sep : ByteArray) : joinS (x :: y :: r) sep = x ++ sep ++ joinS (y :: r) sep := by
  unfold joinS
  rw [List.map_cons, List.map_cons, Lib.join_cons, Lib.join_cons]
  apply ByteArray.ext
  apply Array.toList_inj.1
  simp [Lib.joinTail]
theorem joinS_one (x sep : ByteArray) : joinS [x] sep = x := by
  unfold joinS
  rw [List.map_cons, List.map_nil, Lib.join_one]
theorem lines_join (l : List ByteArray) : linesS l = joinS (l ++ [⟨#[]⟩]) nlS := by
  induction l with
  | nil => exact (joinS_one _ _).symm
  | cons x r ih =>
    cases r with
    | nil =>
      show x ++ nlS ++ ⟨#[]⟩ = joinS (x :: ⟨#[]⟩ :: []) nlS
      rw [joinS_cons, joinS_one]
    | cons y q =>
      show x ++ nlS ++ linesS (y :: q) = joinS (x :: y :: (q ++ [⟨#[]⟩])) nlS
      rw [joinS_cons, ih]
      rfl
/-- The lines of a script, cut again. -/
theorem cut_lines {l : List ByteArray} (h : ∀ x ∈ l, (10 : UInt8) ∉ x.data.toList) : cutS 10 (linesS l) = l ++ [⟨#[]⟩] := by
  rw [lines_join]
  cases l with
  | nil =>
    have := cutS_join (c := 10) (⟨#[]⟩ : ByteArray) [] (fun p hp => by simp at hp; subst hp; simp)
    exact this
  | cons x r =>
    have := cutS_join (c := 10) x (r ++ [⟨#[]⟩]) (fun p hp => by
      rw [← List.cons_append] at hp
      rcases List.mem_append.1 hp with hp | hp
      · exact h p hp
      · simp at hp; subst hp; simp)
    exact this
theorem no_app {c : UInt8} {a b : ByteArray} (ha : c ∉ a.data.toList) (hb : c ∉ b.data.toList) : c ∉ (a ++ b).data.toList := by
  rw [ByteArray.data_append, Array.toList_append]
  intro h
  rcases List.mem_append.1 h with h | h
  · exact ha h
  · exact hb h
/-- A job's text has no line's end. -/
theorem fmt_line (j : JobD) : (10 : UInt8) ∉ (fmtJ j).data.toList := by
  unfold fmtJ
  split
  · have hp : (10 : UInt8) ∉ (polyS j.poly).data.toList := by
      unfold polyS
      split
      · exact numsS_no (by decide) (by decide) (by decide) _
      · simp
    have hn : ∀ l : List Int, (10 : UInt8) ∉ (numsS l).data.toList := fun l => numsS_no (by decide) (by decide) (by decide) l
    have hs : (10 : UInt8) ∉ semi.data.toList := by decide
    exact no_app (no_app (no_app (no_app (no_app (no_app hp hs) (hn _)) hs) (hn _)) hs) (hn _)
  · simp
end Go.Proofs.YtpniljcnknknoaaGreatDoor

/-
  Scripts, plainly: how long the text of a table is; the sums of a page.
-/
namespace Go.Proofs.YtpniljcnknknoaaGreatDoor
open Go.RowKit
set_option linter.unusedVariables false
set_option linter.unusedSimpArgs false
set_option maxRecDepth 100000

theorem col_top {L R r : Nat} : colN L R r ≤ (L + R - 1) / R := Nat.div_le_div_right (by omega)
theorem rows_top (L R : Nat) (hR : 0 < R) : (L + R - 1) / R * min R L ≤ 2 * L := by
  rcases Nat.lt_or_ge L R with h | h
  · have h1 : (L + R - 1) / R < 2 := by rw [Nat.div_lt_iff_lt_mul hR]; omega
    have h2 : (L + R - 1) / R * min R L ≤ 1 * L := Nat.mul_le_mul (by omega) (Nat.min_le_right _ _)
    omega
  · have h1 : (L + R - 1) / R * R ≤ L + R - 1 := Nat.div_mul_le_self _ _
    rw [Nat.min_eq_left h]
    omega
theorem row_top {W : Nat} {e : List Int} {R r : Nat} (h : rowF W e R r) : (rowS W e R r).size ≤ (1 + W) * ((e.length + R - 1) / R) := by
  have h1 := lineS_size h
  exact Nat.le_trans h1 (Nat.mul_le_mul (Nat.le_refl _) col_top)
theorem page_top {W : Nat} {e : List Int} {R : Nat} (a : ByteArray) (h : rowsF W e R (min R e.length)) (hR : 0 < R) (hW : W ≤ 12) : (putL a (rowsL W e R (min R e.length))).size ≤ a.size + 27 * e.length := by
  have h1 := putL_size (a := a) (ls := rowsL W e R (min R e.length)) (B := (1 + W) * ((e.length + R - 1) / R)) (fun s hs => by
    obtain ⟨i, hi, rfl⟩ := List.mem_map.1 hs
    exact row_top (h i (List.mem_range.1 hi)))
  rw [rowsL_len, Nat.add_mul, Nat.mul_assoc] at h1
  have h2 := rows_top e.length R hR
  have h3 : (1 + W) * ((e.length + R - 1) / R * min R e.length) ≤ 13 * (2 * e.length) := Nat.mul_le_mul (by omega) h2
  have h4 : min R e.length ≤ e.length := Nat.min_le_right _ _
  omega
theorem text_top {W : Nat} {l : List Int} {R M n : Nat} (h : pgsF W l R M n) (hR : 0 < R) (hW : W ≤ 12) : (textN W l R M n).size ≤ n + 27 * min (n * M) l.length := by
  induction n with
  | zero => exact Nat.zero_le _
  | succ k ih =>
    have h1 := ih (fun p hp => h p (by omega))
    have h2 := pgE_len l M k
    have h3 := page_top (e := pgE l M k) (if k = 0 then textN W l R M k else textN W l R M k ++ ⟨#[10]⟩) (h k (Nat.lt_succ_self k)) hR hW
    have h5 : (if k = 0 then textN W l R M k else textN W l R M k ++ ⟨#[10]⟩).size ≤ (textN W l R M k).size + 1 := by
      split
      · omega
      · rw [ByteArray.size_append]; exact Nat.le_refl _
    have h6 : textN W l R M (k + 1) = putL (if k = 0 then textN W l R M k else textN W l R M k ++ ⟨#[10]⟩) (pgL W l R M k) := rfl
    have h7 : pgL W l R M k = rowsL W (pgE l M k) R (min R (pgE l M k).length) := rfl
    rw [h6, h7, show (k + 1) * M = k * M + M from Nat.succ_mul k M]
    generalize k * M = q at *
    generalize (putL (if k = 0 then textN W l R M k else textN W l R M k ++ ⟨#[10]⟩) (rowsL W (pgE l M k) R (min R (pgE l M k).length))).size = z at *
    omega
theorem shS_top {W : Nat} {l : List Int} {R A : Nat} (h : shOk W l R A = true) (hR : 0 < R) (hA : 0 < A) (hW : W ≤ 12) (hl : l.length ≤ 60) : (shS W l R A).size ≤ 1680 := by
  have hM : 0 < R * A := Nat.mul_pos hR hA
  have h1 := text_top (of_decide_eq_true h) hR hW
  have h2 := pgN_le (l := l) hM
  have h3 : min (pgN l (R * A) * (R * A)) l.length ≤ l.length := Nat.min_le_right _ _
  unfold shS
  omega

/-- The sum of column c over the first k entries of a page. -/
def psAt (e : List Int) (R c : Nat) : Nat → Int
  | 0 => 0
  | k + 1 => psAt e R c k + if k / R = c then at_ e k else 0
theorem psAt_succ (e : List Int) (R c k : Nat) : psAt e R c (k + 1) = psAt e R c k + if k / R = c then at_ e k else 0 := rfl
theorem psAt_bd {e : List Int} {R c : Nat} (h : ∀ j, j < e.length → -1000000000 ≤ at_ e j ∧ at_ e j ≤ 1000000000) : ∀ k, k ≤ e.length → -1000000000 * (k : Int) ≤ psAt e R c k ∧ psAt e R c k ≤ 1000000000 * (k : Int)
  | 0, _ => by simp [psAt]
  | k + 1, hk => by
    have ih := psAt_bd (R := R) (c := c) h k (by omega)
    have h1 := h k (by omega)
    rw [psAt_succ]
    split <;> omega
/-- The sums of the columns of a page. -/
def psL (e : List Int) (R A k : Nat) : List Int := gen (fun c => psAt e R c k) A
theorem psL_len (e : List Int) (R A k : Nat) : (psL e R A k).length = A := gen_length _ _
theorem psL_zero (e : List Int) (R A : Nat) : psL e R A 0 = (List.range A).map fun _ => 0 := rfl
theorem psL_at {e : List Int} {R A k c : Nat} (h : c < A) : at_ (psL e R A k) c = psAt e R c k := at_gen h
theorem psL_succ {e : List Int} {R A k : Nat} (h : k / R < A) : psL e R A (k + 1) = (psL e R A k).set (k / R) (psAt e R (k / R) k + at_ e k) := by
  apply list_ext
  · rw [psL_len, List.length_set, psL_len]
  · intro j hj
    rw [psL_len] at hj
    rw [psL_at hj, at_set j (by rw [psL_len]; exact h), psAt_succ]
    by_cases e1 : j = k / R
    · rw [if_pos e1, if_pos e1.symm, e1]
    · rw [if_neg e1, if_neg (fun h => e1 h.symm), psL_at hj]
      omega
theorem psL_bd {e : List Int} {R A k : Nat} (h : ∀ j, j < e.length → -1000000000 ≤ at_ e j ∧ at_ e j ≤ 1000000000) (hk : k ≤ e.length) (hl : e.length ≤ 60) : ∀ n ∈ psL e R A k, -100000000000 < n ∧ n < 100000000000 := by
  intro n hn
  simp [psL, gen] at hn
  obtain ⟨c, hc, rfl⟩ := hn
  have := psAt_bd (R := R) (c := c) h k hk
  omega
theorem pgE_in {l : List Int} (h : tableOk l = true) (M p : Nat) : ∀ j, j < (pgE l M p).length → -1000000000 ≤ at_ (pgE l M p) j ∧ at_ (pgE l M p) j ≤ 1000000000 := by
  intro j hj
  rw [pgE_len] at hj
  rw [pgE_at l (by omega)]
  exact (tableOk_true h).2.2 _ (by omega)
/-- What PageSums returns. -/
def sumsL (R A : Nat) (l : List Int) (p : Nat) : List Int := psL (pgE l (R * A) p) R A (pgE l (R * A) p).length
end Go.Proofs.YtpniljcnknknoaaGreatDoor

/-
  The lines of a script, one by one: what the desk does.
-/
namespace Go.Proofs.YtpniljcnknknoaaGreatDoor
open Go.RowKit
set_option linter.unusedVariables false
set_option linter.unusedSimpArgs false
set_option maxRecDepth 100000
attribute [local go_sem ↓] Go.wp_at_zero Go.wp_at_succ

def noS : ByteArray := ⟨#[110, 111, 10]⟩
def okS : ByteArray := ⟨#[111, 107, 10]⟩
def whatS : ByteArray := ⟨#[119, 104, 97, 116, 10]⟩
/-- A text as an output, or no. -/
def showS (s : ByteArray) (k : Bool) : ByteArray := if k = true then s ++ nlS else noS
set_option maxHeartbeats 1000000 in
theorem showT_any (s : ByteArray) (k : Bool) (w : World) (hs : s.size ≤ 1000000000) :
    Calls Tryz.prog 187 #[.string s, .bool k] w fun e w' => e = .returned (.string (showS s k)) ∧ w' = w := by
  have hcat : ¬ 9223372036854775807 < s.size + 1 := by omega
  cases k
  · go_enter Tryz.func187, Tryz.ntmps187
    go_wp2
    go_ret
    exact ⟨rfl, rfl⟩
  · go_enter Tryz.func187, Tryz.ntmps187
    go_wp2
    go_ret
    exact ⟨rfl, rfl⟩
theorem Blk.desk {w : World} {g : Nat} {p e t : Value} {r a i : Int} (h : Blk w g 79 (deskC p e t r a i)) :
    w.cell? ⟨g, 0, none⟩ = some p ∧ w.cell? ⟨g, 1, none⟩ = some e ∧ w.cell? ⟨g, 2, none⟩ = some t ∧ w.cell? ⟨g, 3, none⟩ = some (.int .i64 r) ∧ w.cell? ⟨g, 4, none⟩ = some (.int .i64 a) ∧ w.cell? ⟨g, 5, none⟩ = some (.int .i64 i) := by
  refine ⟨?_, ?_, ?_, ?_, ?_, ?_⟩ <;> rw [h.cell] <;> rfl
theorem Blk.deskF {w : World} {g : Nat} {p e t : Value} {r a i : Int} (h : Blk w g 79 (deskC p e t r a i)) :
    w.frozen? ⟨g, 0, none⟩ = false ∧ w.frozen? ⟨g, 1, none⟩ = false ∧ w.frozen? ⟨g, 2, none⟩ = false ∧ w.frozen? ⟨g, 3, none⟩ = false ∧ w.frozen? ⟨g, 4, none⟩ = false ∧ w.frozen? ⟨g, 5, none⟩ = false :=
  ⟨h.frozen 0, h.frozen 1, h.frozen 2, h.frozen 3, h.frozen 4, h.frozen 5⟩
theorem Blk.desk4 {w : World} {g : Nat} {p e t : Value} {r a i : Int} (h : Blk w g 79 (deskC p e t r a i)) :
    w.cell? ⟨g, 2, none⟩ = some t ∧ w.cell? ⟨g, 3, none⟩ = some (.int .i64 r) ∧ w.cell? ⟨g, 4, none⟩ = some (.int .i64 a) ∧ w.cell? ⟨g, 5, none⟩ = some (.int .i64 i) := h.desk.2.2
theorem bel_drew (w : World) : Below w.heap.size w w.drew := (Below.refl _ _).drew
/-- The line print. -/
def printOk (d : DeskD) : Bool := tableOk d.tab && shOk d.wi d.tab d.rw d.ac
def printS (d : DeskD) : ByteArray := if printOk d = true then shS d.wi d.tab d.rw d.ac else noS
set_option maxHeartbeats 2000000 in
theorem print_any (b : Nat) (d : DeskD) (w : World) (hd : Desk w b d) (ok : d.Ok) (hg : GlbB b w) :
    Calls Tryz.prog 194 #[.pointer (some ⟨b, 0, none⟩)] w fun e w' => LineE w b (printS d) d e w' := by
  have HD := Lib.hid hd
  have HG := Lib.hid hg
  have htl := ok.tab
  obtain ⟨h1, h2, h3⟩ := And.intro ok.rw (And.intro ok.ac ok.wi)
  obtain ⟨p, en, t, k0, -, -, k3⟩ := hd
  have HT := Lib.hid k3.ints
  obtain ⟨A, c, rfl, -, -, -⟩ := k3.ints.open_
  obtain ⟨c0, c1, c2, c3, c4, c5⟩ := k0.desk
  have HK := Lib.hid k0
  clear k0 k3 hg ok
  have hval : ∀ e, TxtE (shS d.wi d.tab d.rw d.ac) (tableOk d.tab = true ∧ shOk d.wi d.tab d.rw d.ac = true) e → e = .returned (.tuple #[.string (if printOk d = true then shS d.wi d.tab d.rw d.ac else ⟨#[]⟩), .bool (printOk d)]) := by
    intro e he
    rcases he with ⟨hP, rfl⟩ | ⟨hP, rfl⟩
    · have : printOk d = true := by unfold printOk; rw [hP.1, hP.2]; rfl
      rw [this]; rfl
    · have : printOk d = false := by
        rw [Bool.eq_false_iff]
        intro h
        unfold printOk at h
        exact hP (by simpa using h)
      rw [this]; rfl
  replace hval := Lib.hid hval
  have HS := Lib.hid (show printS d = if printOk d = true then shS d.wi d.tab d.rw d.ac else noS from rfl)
  rw [HS.out]
  clear HS
  generalize printOk d = kk at hval ⊢
  have tok1 : True := trivial
  go_enter Tryz.func194, Tryz.ntmps194
  go_wp2_with fail
  go_region_held3 (fun w' => w'.cell? ⟨b, 2, none⟩ = some (.slice A d.tab.length c) ∧ w'.cell? ⟨b, 3, none⟩ = some (.int .i64 d.rw) ∧ w'.cell? ⟨b, 4, none⟩ = some (.int .i64 d.ac) ∧ w'.cell? ⟨b, 5, none⟩ = some (.int .i64 d.wi)) (first | exact HK.out.desk4 | exact HK3.out.desk4 | go_keep) (first
    | ((try go_simp); go_at_call 19; have _t := tok1; go_loud (refine (implPT_any d.rw d.ac d.wi (d.rw * d.ac) _ d.tab _ (by first | exact HT.out | exact HT.out.bel (bel_drew _)) h1 h2 h3 htl rfl (by first | exact HG.out.glb.1 | exact (HG.out.bel (bel_drew _)).glb.1)).mono ?_; rintro e w3 ⟨T, b3⟩; obtain rfl := hval.out e T; clear T; replace b3 : Below w.heap.size w w3 := (by first | exact b3 | exact bel_trans (bel_drew _) b3); have HB := Lib.hid b3; have HK3 := Lib.hid (HK.out.below b3 HK.out.lt); clear tok1 b3; (try dsimp only)))
    | fail)
  clear c0 c1 c2 c3 c4 c5
  cases kk
  · go_wp2
    go_ret
    exact ⟨rfl, HD.out.bel HB.out, grw_bel _ HB.out⟩
  · go_wp2
    go_ret
    exact ⟨rfl, HD.out.bel HB.out, grw_bel _ HB.out⟩
def setTabD (d : DeskD) (l : List Int) (k : Bool) : DeskD := if (k && tableOk l) = true then { d with tab := l } else d
set_option maxHeartbeats 2000000 in
theorem setTab_any (b : Nat) (d : DeskD) (v : Value) (l : List Int) (k : Bool) (w : World) (hd : Desk w b d) (hv : Own w 0 v l) (hl : l.length ≤ 1048576) (hg : GlbB b w) :
    Calls Tryz.prog 196 #[.pointer (some ⟨b, 0, none⟩), v, .bool k] w fun e w' => LineE w b (showS (numsS l) (k && tableOk l)) (setTabD d l k) e w' := by
  have HD := Lib.hid hd
  have HG := Lib.hid hg
  have HV := Lib.hid hv
  have hns := numsS_size hv.ints.2
  obtain ⟨A, c, rfl, -, -, -⟩ := hv.ints.open_
  obtain ⟨p, en, t, k0, -, -, -⟩ := hd
  obtain ⟨f0, f1, f2, f3, f4, f5⟩ := k0.deskF
  obtain ⟨c0, c1, c2, c3, c4, c5⟩ := k0.desk
  clear k0 hg hv
  obtain ⟨kk, hkk⟩ : ∃ kk, (k && tableOk l) = kk := ⟨_, rfl⟩
  have HK := Lib.hid hkk
  have HS := Lib.hid (show setTabD d l k = if kk = true then { d with tab := l } else d by unfold setTabD; rw [hkk])
  rw [hkk, HS.out]
  clear hkk
  have tail : ∀ (w2 : World) (q : Bool), Desk w2 b (if q = true then { d with tab := l } else d) → w.grownBy w2 (some b) → Own w2 0 (.slice A l.length c) l → True := fun _ _ _ _ _ => trivial
  cases k
  · obtain rfl : kk = false := HK.out.symm
    go_enter Tryz.func196, Tryz.ntmps196
    go_wp2_with fail
    refine (joinNumbers_any _ l _ HV.out.ints hl HG.out.glb.1).mono ?_
    rintro e w3 ⟨rfl, b3⟩
    have HB := Lib.hid b3
    clear b3 c0 c1 c2 c3 c4 c5 f0 f1 f2 f3 f4 f5
    go_wp2_with fail
    refine (showT_any _ _ _ (by omega)).mono ?_
    rintro e w4 ⟨rfl, rfl⟩
    go_wp2
    go_ret
    exact ⟨rfl, HD.out.bel HB.out, grw_bel _ HB.out⟩
  · obtain rfl : tableOk l = kk := by have := HK.out; rwa [Bool.true_and] at this
    cases hq : tableOk l
    · go_enter Tryz.func196, Tryz.ntmps196
      go_wp2_with fail
      refine (implTable_any _ l _ HV.out.ints).mono ?_
      rw [hq]
      rintro e w2 ⟨rfl, rfl⟩
      go_wp2_with fail
      refine (joinNumbers_any _ l _ HV.out.ints hl HG.out.glb.1).mono ?_
      rintro e w3 ⟨rfl, b3⟩
      have HB := Lib.hid b3
      clear b3 c0 c1 c2 c3 c4 c5 f0 f1 f2 f3 f4 f5
      go_wp2_with fail
      refine (showT_any _ _ _ (by omega)).mono ?_
      rintro e w4 ⟨rfl, rfl⟩
      go_wp2
      go_ret
      exact ⟨rfl, HD.out.bel HB.out, grw_bel _ HB.out⟩
    · go_enter Tryz.func196, Tryz.ntmps196
      go_wp2_with fail
      refine (implTable_any _ l _ HV.out.ints).mono ?_
      rw [hq]
      rintro e w2 ⟨rfl, rfl⟩
      have D2 := Lib.hid (HD.out.setTab HV.out)
      have G2 := Lib.hid (grown_set w b 2 (.slice A l.length c))
      have HV2 := Lib.hid (show Own (w.setCell ⟨b, 2, none⟩ (.slice A l.length c)) 0 (.slice A l.length c) l from by
        obtain ⟨p', e', t', h0, -⟩ := HD.out
        exact HV.out.at h0 G2.out)
      have HG2 := Lib.hid (HG.out.grown G2.out)
      go_wp2_with fail
      generalize hW : w.setCell ⟨b, 2, none⟩ (.slice A l.length c) = w3 at D2 G2 HV2 HG2 ⊢
      clear hW c0 c1 c2 c3 c4 c5 f0 f1 f2 f3 f4 f5
      refine (joinNumbers_any _ l _ HV2.out.ints hl HG2.out.glb.1).mono ?_
      rintro e w4 ⟨rfl, b3⟩
      have HB := Lib.hid b3
      clear b3
      go_wp2_with fail
      refine (showT_any _ _ _ (by omega)).mono ?_
      rintro e w5 ⟨rfl, rfl⟩
      go_wp2
      go_ret
      exact ⟨rfl, D2.out.bel HB.out, grw_trans G2.out (grw_bel _ HB.out)⟩
end Go.Proofs.YtpniljcnknknoaaGreatDoor

/-
  The lines of a script: layout, polynomial, job.
-/
namespace Go.Proofs.YtpniljcnknknoaaGreatDoor
open Go.RowKit
set_option linter.unusedVariables false
set_option linter.unusedSimpArgs false
set_option maxRecDepth 100000
attribute [local go_sem ↓] Go.wp_at_zero Go.wp_at_succ

def setLayD (d : DeskD) (r a i : Int) : DeskD := if layOk r a i = true then { d with rw := r.toNat, ac := a.toNat, wi := i.toNat } else d
def layS (r a i : Int) : ByteArray := if layOk r a i = true then okS else noS
theorem lay_nat {r a i : Int} (h : layOk r a i = true) : ∃ R A W : Nat, r = R ∧ a = A ∧ i = W ∧ (1 ≤ R ∧ R ≤ 20) ∧ (1 ≤ A ∧ A ≤ 6) ∧ (1 ≤ W ∧ W ≤ 12) := by
  simp [layOk, inB] at h
  exact ⟨r.toNat, a.toNat, i.toNat, by omega, by omega, by omega, by omega, by omega, by omega⟩
set_option maxHeartbeats 2000000 in
theorem setLay_any (b : Nat) (d : DeskD) (r a i : Int) (w : World) (hd : Desk w b d) :
    Calls Tryz.prog 199 #[.pointer (some ⟨b, 0, none⟩), .agg #[.int .i64 r, .int .i64 a, .int .i64 i]] w fun e w' => LineE w b (layS r a i) (setLayD d r a i) e w' := by
  have K1 := Blk.new w 25 [.int .i64 r, .int .i64 a, .int .i64 i]
  have B1 := bel_alloc w (.cells #[.int .i64 r, .int .i64 a, .int .i64 i] 25)
  have HD := Lib.hid (hd.bel B1)
  have hdl := hd.lt
  obtain ⟨a0, a1, a2⟩ := K1.lay
  clear hd
  go_enter Tryz.func199, Tryz.ntmps199
  go_wp2_with fail
  refine (implLay_any r a i _).mono ?_
  rintro e w2 ⟨rfl, b2⟩
  replace K1 := K1.below b2 K1.lt
  replace HD := Lib.hid (HD.out.bel b2)
  have HB := Lib.hid (bel_trans B1 b2)
  clear a0 a1 a2 b2 B1
  obtain ⟨a0, a1, a2⟩ := K1.lay
  clear K1
  cases hq : layOk r a i
  · have HS := Lib.hid (show setLayD d r a i = d by unfold setLayD; rw [hq]; rfl)
    have HO := Lib.hid (show layS r a i = noS by unfold layS; rw [hq]; rfl)
    clear hq
    go_wp2
    go_ret
    exact ⟨by rw [HO.out]; rfl, by rw [HS.out]; exact HD.out, grw_bel _ HB.out⟩
  · obtain ⟨R, A, W, rfl, rfl, rfl, h1, h2, h3⟩ := lay_nat hq
    have HS := Lib.hid (show setLayD d R A W = { d with rw := R, ac := A, wi := W } by unfold setLayD; rw [hq]; rfl)
    have HO := Lib.hid (show layS R A W = okS by unfold layS; rw [hq]; rfl)
    obtain ⟨p, en, t, k0, -, -, -⟩ := HD.out
    obtain ⟨f0, f1, f2, f3, f4, f5⟩ := k0.deskF
    obtain ⟨c0, c1, c2, c3, c4, c5⟩ := k0.desk
    clear hq k0
    go_wp2
    go_ret
    exact ⟨by rw [HO.out]; rfl, by rw [HS.out]; exact HD.out.setLay R A W, grw_trans (grw_bel _ HB.out) (grw_trans (grw_trans (grown_set _ b 3 _) (grown_set _ b 4 _)) (grown_set _ b 5 _))⟩
def jobDesk (d : DeskD) (J : JobD) : DeskD := { poly := J.poly, eng := d.eng, tab := jtL J, rw := J.rw.toNat, ac := J.ac.toNat, wi := J.wi.toNat }
noncomputable def jobLn (t : ByteArray) : Bool := (spR t).2 && jtOk (spR t).1
/-- The line job. -/
noncomputable def jobOut (d : DeskD) (t : ByteArray) : ByteArray := if jobLn t = true then printS (jobDesk d (spR t).1) else noS
noncomputable def jobD2 (d : DeskD) (t : ByteArray) : DeskD := if jobLn t = true then jobDesk d (spR t).1 else d
theorem job_no {t : ByteArray} (d : DeskD) (h : jobLn t = false) : jobOut d t = noS ∧ jobD2 d t = d := by simp [jobOut, jobD2, h]
theorem job_yes {t : ByteArray} (d : DeskD) (h : jobLn t = true) : jobOut d t = printS (jobDesk d (spR t).1) ∧ jobD2 d t = jobDesk d (spR t).1 := by simp [jobOut, jobD2, h]
theorem jobDesk_ok {d : DeskD} {J : JobD} (h : d.Ok) (hj : jtOk J = true) : (jobDesk d J).Ok := by
  obtain ⟨R, A, W, e1, e2, e3, h1, h2, h3⟩ := jt_lay hj
  have hq : jobOk J = true := by
    cases hq : jobOk J
    · rw [(jt_no hq).1] at hj; exact hj
    · rfl
  exact ⟨job_poly hq, h.eng, jtL_len J, by unfold jobDesk; rw [e1]; exact h1, by unfold jobDesk; rw [e2]; exact h2, by unfold jobDesk; rw [e3]; exact h3⟩
set_option maxHeartbeats 4000000 in
theorem jobLine_any (b : Nat) (d : DeskD) (t : ByteArray) (w : World) (ht : t.size ≤ 1048576) (hd : Desk w b d) (ok : d.Ok) (hg : GlbB b w) :
    Calls Tryz.prog 206 #[.pointer (some ⟨b, 0, none⟩), .string t] w fun e w' => LineE w b (jobOut d t) (jobD2 d t) e w' := by
  have HD := Lib.hid hd
  have HG := Lib.hid hg
  have hdl := hd.lt
  have HOK := Lib.hid ok
  clear hd hg ok
  obtain ⟨J, T, hR⟩ : ∃ J T, spR t = (J, T) := ⟨_, _, rfl⟩
  have HR := Lib.hid hR
  clear hR
  go_enter Tryz.func206, Tryz.ntmps206
  go_wp2_with fail
  refine (implPJ_any t _ ht HG.out.glb).mono ?_
  rintro e w2 ⟨⟨v, he, o, jin⟩, b2⟩
  rw [HR.out] at he o jin
  subst he
  obtain ⟨A, c, rfl, -, -, -⟩ := o.ints.open_
  have bA : Below w2.heap.size w2 (w2.alloc (.cells (jobC (.slice A J.poly.length c) J).toArray 27)) := bel_alloc w2 _
  have K2 := Blk.new w2 27 (jobC (.slice A J.poly.length c) J)
  have HB := Lib.hid (bel_trans b2 bA)
  have HO := Lib.hid (show Own (w2.alloc (.cells (jobC (.slice A J.poly.length c) J).toArray 27)) w.heap.size (.slice A J.poly.length c) J.poly from o.bel bA)
  have HJ := Lib.hid (show J.In from jin)
  obtain ⟨a0, a1, a2, a3, a4, a5, a6, a7, a8⟩ := K2.job
  have hne : b < w2.heap.size := Nat.lt_of_lt_of_le hdl b2.size
  have hne1 : ¬ w2.heap.size = b := by omega
  have hne2 : ¬ b = w2.heap.size := by omega
  clear b2 bA o jin
  unfold jobV
  cases T
  · have HN := Lib.hid (job_no d (show jobLn t = false by unfold jobLn; rw [HR.out]; rfl))
    clear K2
    go_wp2
    go_ret
    exact ⟨by rw [HN.out.1]; rfl, by rw [HN.out.2]; exact HD.out.bel HB.out, grw_bel _ HB.out⟩
  · go_wp2_with fail
    clear a0 a1 a2 a3 a4 a5 a6 a7 a8
    change Calls _ _ #[jobV (.slice A J.poly.length c) J] (w2.alloc (.cells (jobC (.slice A J.poly.length c) J).toArray 27)) _
    generalize hW : w2.alloc (.cells (jobC (.slice A J.poly.length c) J).toArray 27) = w3 at K2 HB HO ⊢
    clear hW
    refine (implJT_any _ J _ HO.out.ints HJ.out).mono ?_
    rintro e w4 ⟨r, rfl, o1, b1⟩
    replace HB := Lib.hid (bel_trans HB.out b1)
    replace K2 := K2.below b1 K2.lt
    replace HO := Lib.hid (HO.out.bel b1)
    have HL := Lib.hid o1
    obtain ⟨A2, k2, rfl, -, -, -⟩ := o1.ints.open_
    obtain ⟨a0, a1, a2, a3, a4, a5, a6, a7, a8⟩ := K2.job
    clear b1 o1
    cases hq : jtOk J
    · have HN := Lib.hid (job_no d (show jobLn t = false by unfold jobLn; rw [HR.out, hq]; rfl))
      clear K2 hq
      go_wp2
      go_ret
      exact ⟨by rw [HN.out.1]; rfl, by rw [HN.out.2]; exact HD.out.bel HB.out, grw_bel _ HB.out⟩
    · have HN := Lib.hid (job_yes d (show jobLn t = true by unfold jobLn; rw [HR.out, hq]; rfl))
      have HQ := Lib.hid hq
      obtain ⟨R, Ac, W0, e1, e2, e3, h1, h2, h3⟩ := jt_lay hq
      have HE := Lib.hid (And.intro e1 (And.intro e2 e3))
      have HD4 := Lib.hid (HD.out.bel HB.out)
      obtain ⟨p, en, u, k0, -, -, -⟩ := HD4.out
      obtain ⟨f0, f1, f2, f3, f4, f5⟩ := k0.deskF
      obtain ⟨c0, c1, c2, c3, c4, c5⟩ := k0.desk
      clear hq k0
      clear e1 e2 e3
      have G2 : w4.grownBy ((((w4.setCell ⟨b, 0, none⟩ (.slice A J.poly.length c)).setCell ⟨b, 3, none⟩ (.int .i64 J.rw)).setCell ⟨b, 4, none⟩ (.int .i64 J.ac)).setCell ⟨b, 5, none⟩ (.int .i64 J.wi)) (some b) := grw_trans (grw_trans (grw_trans (grown_set _ b 0 _) (grown_set _ b 3 _)) (grown_set _ b 4 _)) (grown_set _ b 5 _)
      have G3 := Lib.hid (show w4.grownBy (((((w4.setCell ⟨b, 0, none⟩ (.slice A J.poly.length c)).setCell ⟨b, 3, none⟩ (.int .i64 J.rw)).setCell ⟨b, 4, none⟩ (.int .i64 J.ac)).setCell ⟨b, 5, none⟩ (.int .i64 J.wi)).setCell ⟨b, 2, none⟩ (.slice A2 (jtL J).length k2)) (some b) from grw_trans G2 (grown_set _ b 2 _))
      have D3 := Lib.hid (show Desk (((((w4.setCell ⟨b, 0, none⟩ (.slice A J.poly.length c)).setCell ⟨b, 3, none⟩ (.int .i64 J.rw)).setCell ⟨b, 4, none⟩ (.int .i64 J.ac)).setCell ⟨b, 5, none⟩ (.int .i64 J.wi)).setCell ⟨b, 2, none⟩ (.slice A2 (jtL J).length k2)) b (jobDesk d J) from by
        have e1 : ((J.rw.toNat : Nat) : Int) = J.rw := by rw [HE.out.1]; rfl
        have e2 : ((J.ac.toNat : Nat) : Int) = J.ac := by rw [HE.out.2.1]; rfl
        have e3 : ((J.wi.toNat : Nat) : Int) = J.wi := by rw [HE.out.2.2]; rfl
        have h := (HD4.out.setPoly HO.out.low).setLay J.rw.toNat J.ac.toNat J.wi.toNat
        rw [e1, e2, e3] at h
        exact h.setTab (HD4.out.keepOwn HL.out.low G2))
      have HG3 := Lib.hid ((HG.out.bel HB.out).grown G3.out)
      clear G2
      go_wp2_with fail
      generalize hW5 : (((((w4.setCell ⟨b, 0, none⟩ (.slice A J.poly.length c)).setCell ⟨b, 3, none⟩ (.int .i64 J.rw)).setCell ⟨b, 4, none⟩ (.int .i64 J.ac)).setCell ⟨b, 5, none⟩ (.int .i64 J.wi)).setCell ⟨b, 2, none⟩ (.slice A2 (jtL J).length k2)) = w5 at D3 G3 HG3 ⊢
      clear hW5 a0 a1 a2 a3 a4 a5 a6 a7 a8 f0 f1 f2 f3 f4 f5 c0 c1 c2 c3 c4 c5
      refine (print_any b (jobDesk d J) _ D3.out (jobDesk_ok HOK.out HQ.out) HG3.out).mono ?_
      rintro e w6 ⟨rfl, d6, g6⟩
      have HF := Lib.hid (And.intro d6 g6)
      clear d6 g6
      go_wp2
      go_ret
      exact ⟨by rw [HN.out.1, HR.out]; rfl, by rw [HN.out.2, HR.out]; exact HF.out.1, grw_trans (grw_bel _ HB.out) (grw_trans G3.out HF.out.2)⟩
end Go.Proofs.YtpniljcnknknoaaGreatDoor

/-
  strings.Cut at one byte.
-/
namespace Go.Proofs.YtpniljcnknknoaaGreatDoor
open Go.RowKit
set_option linter.unusedVariables false
set_option linter.unusedSimpArgs false
set_option maxRecDepth 100000

theorem index_one (c : UInt8) : ∀ (a r : List UInt8), c ∉ a → Lib.index (a ++ c :: r) [c] = (a.length : Int)
  | [], r, _ => by simp [Lib.index, List.isPrefixOf]
  | x :: a, r, h => by
    have hx : (c == x) = false := by rw [beq_eq_false_iff_ne]; intro e; subst e; exact h (by simp)
    have ih := index_one c a r (fun e => h (List.mem_cons_of_mem _ e))
    have : ((a.length : Int) == -1) = false := by rw [beq_eq_false_iff_ne]; omega
    simp [Lib.index, List.isPrefixOf, hx, ih, this]
theorem index_not (c : UInt8) : ∀ (a : List UInt8), c ∉ a → Lib.index a [c] = -1
  | [], _ => rfl
  | x :: a, h => by
    have hx : (c == x) = false := by rw [beq_eq_false_iff_ne]; intro e; subst e; exact h (by simp)
    have ih := index_not c a (fun e => h (List.mem_cons_of_mem _ e))
    simp [Lib.index, List.isPrefixOf, hx, ih]
theorem cut_at {c : UInt8} {a : List UInt8} (r : List UInt8) (h : c ∉ a) : Lib.cut (a ++ c :: r) [c] = (a, r, true) := by
  unfold Lib.cut
  rw [index_one c a r h, if_pos (by omega)]
  simp
theorem cut_not {c : UInt8} {a : List UInt8} (h : c ∉ a) : Lib.cut a [c] = (a, [], false) := by
  unfold Lib.cut
  rw [index_not c a h]
  rfl
theorem ba_self (s : ByteArray) : (⟨s.data.toList.toArray⟩ : ByteArray) = s := by
  apply ByteArray.ext
  apply Array.toList_inj.1
  simp
theorem cutYes_any (a r : ByteArray) (c : UInt8) (w : World) (hs : a.size + r.size ≤ 1048576) (ha : c ∉ a.data.toList) (hg : Glb w) :
    Calls Tryz.prog 127 #[.string (a ++ ⟨#[c]⟩ ++ r), .string ⟨#[c]⟩] w fun e w' => e = .returned (.tuple #[.string a, .string r, .bool true]) ∧ Below w.heap.size w w' := by
  obtain ⟨m, hm⟩ := hg.2.1
  refine (Tryz.strings_Cut _ ⟨#[c]⟩ m w (by rw [ByteArray.size_append, ByteArray.size_append]; have : (⟨#[c]⟩ : ByteArray).size = 1 := rfl; omega) hm).mono ?_
  have h := cut_at r.data.toList ha
  have e : (a ++ ⟨#[c]⟩ ++ r).data.toList = a.data.toList ++ c :: r.data.toList := by simp
  rw [e, show (⟨#[c]⟩ : ByteArray).data.toList = [c] from rfl, h]
  rintro e w' ⟨rfl, n, rfl⟩
  exact ⟨by rw [ba_self, ba_self], below_drewN (Below.refl _ _) n⟩
theorem cutNo_any (a : ByteArray) (c : UInt8) (w : World) (hs : a.size ≤ 1048576) (ha : c ∉ a.data.toList) (hg : Glb w) :
    Calls Tryz.prog 127 #[.string a, .string ⟨#[c]⟩] w fun e w' => e = .returned (.tuple #[.string a, .string ⟨#[]⟩, .bool false]) ∧ Below w.heap.size w w' := by
  obtain ⟨m, hm⟩ := hg.2.1
  refine (Tryz.strings_Cut a ⟨#[c]⟩ m w (by omega) hm).mono ?_
  rw [show (⟨#[c]⟩ : ByteArray).data.toList = [c] from rfl, cut_not ha]
  rintro e w' ⟨rfl, n, rfl⟩
  exact ⟨by rw [ba_self], below_drewN (Below.refl _ _) n⟩
end Go.Proofs.YtpniljcnknknoaaGreatDoor

/-
  A line of a script: execute, over what the three kinds of lines do.
-/
namespace Go.Proofs.YtpniljcnknknoaaGreatDoor
open Go.RowKit
set_option linter.unusedVariables false
set_option linter.unusedSimpArgs false
set_option maxRecDepth 100000
attribute [local go_sem ↓] Go.wp_at_zero Go.wp_at_succ

/-- What a line does, whatever desk it finds that reads as d. -/
def LineC (line : ByteArray) (d : DeskD) (out : ByteArray) (d2 : DeskD) : Prop :=
  ∀ (b : Nat) (w : World), Desk w b d → GlbB b w → Calls Tryz.prog 57 #[.pointer (some ⟨b, 0, none⟩), .string line] w fun e w' => LineE w b out d2 e w'
def WordC (word : ByteArray) (d : DeskD) (out : ByteArray) (d2 : DeskD) : Prop :=
  ∀ (b : Nat) (w : World), Desk w b d → GlbB b w → Calls Tryz.prog 128 #[.pointer (some ⟨b, 0, none⟩), .string word] w fun e w' => LineE w b out d2 e w'
def TextC (word rest : ByteArray) (d : DeskD) (out : ByteArray) (d2 : DeskD) : Prop :=
  ∀ (b : Nat) (w : World), Desk w b d → GlbB b w → Calls Tryz.prog 131 #[.pointer (some ⟨b, 0, none⟩), .string word, .string rest] w fun e w' => LineE w b out d2 e w'
def NumsC (word : ByteArray) (l : List Int) (d : DeskD) (out : ByteArray) (d2 : DeskD) : Prop :=
  ∀ (b : Nat) (v : Value) (w : World), Own w 0 v l → Desk w b d → GlbB b w → Calls Tryz.prog 130 #[.pointer (some ⟨b, 0, none⟩), .string word, v] w fun e w' => LineE w b out d2 e w'
theorem LineE.far {w w1 : World} {b : Nat} {out : ByteArray} {d : DeskD} {e : Ending} {w' : World} (h : LineE w1 b out d e w') (hb : Below w.heap.size w w1) : LineE w b out d e w' := ⟨h.1, h.2.1, grw_trans (grw_bel _ hb) h.2.2⟩
set_option maxHeartbeats 2000000 in
theorem exec_word {word : ByteArray} {d d2 : DeskD} {out : ByteArray} (h32 : (32 : UInt8) ∉ word.data.toList) (hs : word.size ≤ 1048576) (hc : WordC word d out d2) : LineC word d out d2 := by
  intro b w hd hg
  have HD := Lib.hid hd
  have HG := Lib.hid hg
  clear hd hg
  go_enter Tryz.func57, Tryz.ntmps57
  go_wp2_with fail
  refine (cutNo_any word 32 _ hs h32 HG.out.glb).mono ?_
  rintro e w2 ⟨rfl, b2⟩
  have HB := Lib.hid b2
  clear b2
  go_wp2_with fail
  refine (hc b w2 (HD.out.bel HB.out) (HG.out.bel HB.out)).mono ?_
  rintro e w3 ⟨rfl, h2, h3⟩
  have HE := Lib.hid (And.intro h2 h3)
  clear h2 h3
  go_wp2
  go_ret
  exact ⟨rfl, HE.out.1, grw_trans (grw_bel _ HB.out) HE.out.2⟩
set_option maxHeartbeats 4000000 in
theorem exec_text {word rest : ByteArray} {d d2 : DeskD} {out : ByteArray} (h32 : (32 : UInt8) ∉ word.data.toList) (hs : word.size + rest.size ≤ 1048576) (hw : ∀ k, k < 12 → sat cmdW k ≠ word) (hc : TextC word rest d out d2) : LineC (word ++ ⟨#[32]⟩ ++ rest) d out d2 := by
  intro b w hd hg
  have HD := Lib.hid hd
  have HG := Lib.hid hg
  have HW := Lib.hid hw
  clear hd hg hw
  go_enter Tryz.func57, Tryz.ntmps57
  go_wp2_with fail
  refine (cutYes_any word rest 32 _ hs h32 HG.out.glb).mono ?_
  rintro e w2 ⟨rfl, b2⟩
  have HB := Lib.hid b2
  obtain ⟨gb, go, gc, hgl, hgc1, hgc2, hgb, hgt⟩ := (HG.out.bel b2).cmd
  have HC := Lib.hid (And.intro hgb hgt)
  clear b2 hgt hgb
  go_wp2_with fail
  clear hgl
  go_loopw [25] (fun i wr => ∃ k : Nat, k ≤ 12 ∧ i = .int .i64 k ∧ Below w2.heap.size w2 wr) (fun i _ => 12 - (intOf i).toNat)
  case atStart => exact ⟨0, Nat.zero_le _, rfl, Below.refl _ _⟩
  case round =>
    obtain ⟨k, hk, rfl, hb⟩ := hrel
    have HB2 := Lib.hid hb
    have hz := hb.size
    by_cases hlt : k < 12
    · have hc1 := (hb.cell (by exact HC.out.1)).trans (HC.out.2 k hlt).1
      have hc2 := (hb.cell (by exact HC.out.1)).trans (HC.out.2 k hlt).2
      have hne := bne_of2 (HW.out k hlt)
      obtain ⟨Z, hZ⟩ : ∃ Z, sat cmdW k = Z := ⟨_, rfl⟩
      obtain ⟨z, hz2⟩ : ∃ z, at_ cmdN k = z := ⟨_, rfl⟩
      rw [hZ] at hc1 hne
      rw [hz2] at hc2
      clear hb hZ hz2
      go_wp2
      go_roundw
      case rel => exact ⟨k + 1, hlt, by go_num, (HB2.out.alloc hz _)⟩
      case measure => simp [intOf]; omega
    · have hke : k = 12 := by omega
      subst hke
      clear hb
      go_wp2_with fail
      refine (hc b wr (HD.out.bel (bel_trans HB.out HB2.out)) (HG.out.bel (bel_trans HB.out HB2.out))).mono ?_
      rintro e w3 ⟨rfl, h2, h3⟩
      have HE := Lib.hid (And.intro h2 h3)
      clear h2 h3
      go_wp2
      go_ret
      exact ⟨rfl, HE.out.1, grw_trans (grw_bel _ (bel_trans HB.out HB2.out)) HE.out.2⟩
set_option maxHeartbeats 4000000 in
theorem exec_nums {word rest : ByteArray} {j : Nat} {l : List Int} {d d2 : DeskD} {out : ByteArray} (h32 : (32 : UInt8) ∉ word.data.toList) (hs : word.size + rest.size ≤ 1048576)
    (hj : j < 12) (hw : sat cmdW j = word) (hw2 : ∀ k, k < j → sat cmdW k ≠ word) (hn : at_ cmdN j = l.length) (hok : numsOk rest = true) (hl : numsV rest = l) (hc : NumsC word l d out d2) : LineC (word ++ ⟨#[32]⟩ ++ rest) d out d2 := by
  intro b w hd hg
  have HD := Lib.hid hd
  have HG := Lib.hid hg
  have HW := Lib.hid (And.intro hw hw2)
  have HN := Lib.hid hn
  have HL := Lib.hid hl
  have HK := Lib.hid hok
  clear hd hg hw hw2 hn hl hok
  go_enter Tryz.func57, Tryz.ntmps57
  go_wp2_with fail
  refine (cutYes_any word rest 32 _ hs h32 HG.out.glb).mono ?_
  rintro e w2 ⟨rfl, b2⟩
  have HB := Lib.hid b2
  obtain ⟨gb, go, gc, hgl, hgc1, hgc2, hgb, hgt⟩ := (HG.out.bel b2).cmd
  have HC := Lib.hid (And.intro hgb hgt)
  clear b2 hgt hgb
  go_wp2_with fail
  clear hgl
  go_loopw [25] (fun i wr => ∃ k : Nat, k ≤ j ∧ i = .int .i64 k ∧ Below w2.heap.size w2 wr) (fun i _ => 12 - (intOf i).toNat)
  case atStart => exact ⟨0, Nat.zero_le _, rfl, Below.refl _ _⟩
  case round =>
    obtain ⟨k, hk, rfl, hb⟩ := hrel
    have HB2 := Lib.hid hb
    have hz := hb.size
    have h12 : k < 12 := by omega
    have hc1 := (hb.cell (by exact HC.out.1)).trans (HC.out.2 k h12).1
    have hc2 := (hb.cell (by exact HC.out.1)).trans (HC.out.2 k h12).2
    by_cases hlt : k < j
    · have hne := bne_of2 (HW.out.2 k hlt)
      obtain ⟨Z, hZ⟩ : ∃ Z, sat cmdW k = Z := ⟨_, rfl⟩
      obtain ⟨z, hz2⟩ : ∃ z, at_ cmdN k = z := ⟨_, rfl⟩
      rw [hZ] at hc1 hne
      rw [hz2] at hc2
      clear hb hZ hz2
      go_wp2
      go_roundw
      case rel => exact ⟨k + 1, hlt, by go_num, (HB2.out.alloc hz _)⟩
      case measure => simp [intOf]; omega
    · have hke : k = j := by omega
      subst hke
      rw [HW.out.1] at hc1
      rw [HN.out] at hc2
      have heq : (!word.toList == word.toList) = false := by simp
      have BA := bel_alloc wr (.cells #[.string word, .int .i64 l.length] 145)
      have K1 := Blk.new wr 145 [.string word, .int .i64 l.length]
      have HB3 := Lib.hid (bel_trans HB2.out BA)
      clear hb
      go_wp2_with fail
      generalize hW : wr.alloc (.cells #[.string word, .int .i64 l.length] 145) = w4 at *
      refine (splitNum_any rest _ (by omega) (HG.out.bel (bel_trans HB.out HB3.out)).glb).mono ?_
      rw [HK.out]
      rintro e w5 ⟨r, rfl, o, b5⟩
      rw [spL_yes HK.out, HL.out] at o
      have HB5 := Lib.hid (bel_trans HB.out (bel_trans HB3.out b5))
      have HO := Lib.hid o
      replace K1 := K1.below b5 K1.lt
      have a0 : w5.cell? ⟨wr.heap.size, 0, none⟩ = some (.string word) := by rw [K1.cell]; rfl
      have a1 : w5.cell? ⟨wr.heap.size, 1, none⟩ = some (.int .i64 l.length) := by rw [K1.cell]; rfl
      obtain ⟨A, c, rfl, -, -, -⟩ := o.ints.open_
      clear b5 o K1 hW BA hc1 hc2
      go_wp2_with fail
      clear a0 a1
      refine (hc b _ w5 HO.out.low (HD.out.bel HB5.out) (HG.out.bel HB5.out)).mono ?_
      rintro e w3 ⟨rfl, h2, h3⟩
      have HE := Lib.hid (And.intro h2 h3)
      clear h2 h3
      go_wp2
      go_ret
      exact ⟨rfl, HE.out.1, grw_trans (grw_bel _ HB5.out) HE.out.2⟩
end Go.Proofs.YtpniljcnknknoaaGreatDoor

/-
  Sheets: PageSums (impl).
-/
namespace Go.Proofs.YtpniljcnknknoaaGreatDoor
open Go.RowKit
set_option linter.unusedVariables false
set_option linter.unusedSimpArgs false
set_option maxRecDepth 100000
attribute [local go_sem ↓] Go.wp_at_zero Go.wp_at_succ

set_option maxHeartbeats 4000000 in
theorem pageSums_any (R A W M p : Nat) (v : Value) (l : List Int) (w : World) (hv : Ints w v l) (h1 : 1 ≤ R ∧ R ≤ 20) (h2 : 1 ≤ A ∧ A ≤ 6) (h3 : 1 ≤ W ∧ W ≤ 12) (hl : l.length ≤ 60) (hM : R * A = M) (ht : tableOk l = true) (hp : p < pgN l M) :
    Calls Tryz.prog 17 #[.agg #[.int .i64 R, .int .i64 A, .int .i64 W], v, .int .i64 p] w fun e w' => ∃ r, e = .returned r ∧ Own w' w.heap.size r (psL (pgE l M p) R A (pgE l M p).length) ∧ Below w.heap.size w w' := by
  have HV := Lib.hid hv
  have HM := Lib.hid hM
  have HPL := Lib.hid hp
  have HTO := Lib.hid ht
  have hel : (pgE l M p).length ≤ 60 := by rw [pgE_len]; exact Nat.le_trans (Nat.min_le_right _ _) (Nat.le_trans (Nat.sub_le _ _) hl)
  have helM : (pgE l M p).length ≤ M := by rw [pgE_len]; exact Nat.min_le_left _ _
  have HIN := Lib.hid (pgE_in ht M p)
  obtain ⟨E, hE⟩ : ∃ E, pgE l M p = E := ⟨_, rfl⟩
  rw [hE] at hel helM HIN
  rw [hE]
  have EE := Lib.hid hE
  clear hE
  obtain ⟨B, cp, rfl, hlc, hc, hrd⟩ := hv.open_
  have K1 := Blk.new w 25 [.int .i64 R, .int .i64 A, .int .i64 W]
  have B1 := bel_alloc w (.cells #[.int .i64 R, .int .i64 A, .int .i64 W] 25)
  obtain ⟨a0, a1, a2⟩ := K1.lay
  clear hv hrd hM hp ht
  go_enter Tryz.func17, Tryz.ntmps17
  go_wp2_with fail
  refine (pgEx_any R A W M p _ l _ (HV.out.bel B1) h1 h2 h3 hl HM.out HTO.out HPL.out).mono ?_
  rintro e w2 ⟨rfl, b2⟩
  replace K1 := K1.below b2 K1.lt
  have HB := Lib.hid (bel_trans B1 b2)
  clear a0 a1 a2 b2 B1
  obtain ⟨a0, a1, a2⟩ := K1.lay
  have hmk := fun W => Tryz.mkInts A (by omega) W
  have OZ := Own.zeros w2 A (by omega)
  have BZ := bel_alloc w2 (.cells (reps A (.int .i64 0)).toArray 3)
  have KZ := K1.below BZ K1.lt
  have HBZ := Lib.hid (bel_trans HB.out BZ)
  have hk1 := K1.lt
  obtain ⟨d0, d1, d2⟩ := KZ.lay
  go_wp2_with fail
  generalize hW3 : w2.alloc (.cells (reps A (.int .i64 0)).toArray 3) = w3 at *
  clear hW3 d0 d1 d2 a0 a1 a2 hmk BZ
  refine (entries_any R A W M p _ l _ (HV.out.bel HBZ.out) h1 h2 h3 hl HM.out HPL.out).mono ?_
  rintro e w4 ⟨r, rfl, hi, b4⟩
  have HE := Lib.hid (show Ints w r E by rw [← EE.out]; exact hi w HV.out)
  replace KZ := KZ.below b4 KZ.lt
  replace HB := Lib.hid (bel_trans HBZ.out b4)
  have O4 := (OZ.bel b4).lower (base' := w.heap.size + 1) (by omega)
  obtain ⟨A3, c3, rfl, -, -, -⟩ := HE.out.open_
  clear hi b4 OZ HBZ K1
  go_wp2_with fail
  go_loopw [23] (fun i wr => ∃ k : Nat, k ≤ E.length ∧ i = .int .i64 k ∧ Own wr (w.heap.size + 1) (.slice (some ⟨w2.heap.size, 0, none⟩) A A) (psL E R A k) ∧ Below w.heap.size w wr ∧ Blk wr w.heap.size 25 [.int .i64 R, .int .i64 A, .int .i64 W]) (fun i _ => E.length - (intOf i).toNat)
  case atStart => exact ⟨0, Nat.zero_le _, rfl, O4, HB.out, KZ⟩
  case round =>
    obtain ⟨k, hk, rfl, hO, hb, hK⟩ := hrel
    have H := Lib.hid (And.intro hO (And.intro hb hK))
    have kl := hK.lt
    obtain ⟨d0, d1, d2⟩ := hK.lay
    clear hO hb hK O4 KZ
    by_cases hkl : k < E.length
    · obtain ⟨A6, c6, e6, -, -, hrd⟩ := (HE.out.bel H.out.2.1).open_
      cases e6
      obtain ⟨b, o, rfl, hbb, hcell⟩ := hrd.ints (Nat.lt_of_le_of_lt (Nat.zero_le _) hkl)
      have hck := hcell k hkl
      have hx := HIN.out k hkl
      obtain ⟨q, hq⟩ : ∃ q, k / R = q := ⟨_, rfl⟩
      have hqA : q < A := by
        rw [← hq, Nat.div_lt_iff_lt_mul (by omega), Nat.mul_comm, HM.out]
        omega
      have hd1 : (k : Int) / (R : Int) = (q : Int) := by rw [← hq]; rfl
      have hd2 : (k : Int).tdiv (R : Int) = (q : Int) := by rw [← hq]; rfl
      have hps := psAt_bd (R := R) (c := q) HIN.out k hk
      have HSU := Lib.hid (psL_succ (e := E) (R := R) (A := A) (k := k) (by rw [hq]; exact hqA))
      have HAT := Lib.hid (psL_at (e := E) (R := R) (k := k) hqA)
      have hlen := psL_len E R A k
      obtain ⟨g9, c9, e9, -, -, -, -, h9⟩ := H.out.1.openN (by rw [hlen]; omega)
      injection e9 with e1 e2 e3
      injection e1 with e1
      injection e1 with e1
      subst e1
      clear e2 e3
      obtain ⟨f0, f1⟩ := h9 q (by rw [hlen]; exact hqA)
      rw [HAT.out] at f0
      have HQ := Lib.hid hq
      have HLEN := Lib.hid hlen
      obtain ⟨x, hxx⟩ : ∃ x, at_ E k = x := ⟨_, rfl⟩
      obtain ⟨y, hyy⟩ : ∃ y, psAt E R q k = y := ⟨_, rfl⟩
      rw [hxx] at hck hx
      rw [hyy] at f0 hps
      have HX := Lib.hid (And.intro hxx hyy)
      have hzz := H.out.2.1.size
      clear hcell hrd h9 hq hlen hxx hyy
      go_wp2
      go_roundw
      case rel =>
        have hs := H.out.1.set_ q (y + x) (by rw [HLEN.out]; exact hqA) ⟨by omega, by omega⟩
        exact ⟨k + 1, hkl, by go_num, by rw [HSU.out, HQ.out, HX.out.1, HX.out.2]; exact hs, H.out.2.1.setCell (Nat.le_of_lt hk1) _, H.out.2.2.far (by simp; omega) _⟩
      case measure => simp [intOf]; omega
    · have hke : k = E.length := by omega
      subst hke
      go_wp2
      go_ret
      exact ⟨_, rfl, H.out.1.lower (Nat.le_succ _), H.out.2.1⟩
end Go.Proofs.YtpniljcnknknoaaGreatDoor

/-
  The lines of scripts with jobs and tables.
-/
namespace Go.Proofs.YtpniljcnknknoaaGreatDoor
open Go.RowKit
set_option linter.unusedVariables false
set_option linter.unusedSimpArgs false
set_option maxRecDepth 100000
attribute [local go_sem ↓] Go.wp_at_zero Go.wp_at_succ

def wPrint : ByteArray := ⟨#[112, 114, 105, 110, 116]⟩
def wPoly : ByteArray := ⟨#[112, 111, 108, 121]⟩
def wJob : ByteArray := ⟨#[106, 111, 98]⟩
def wTable : ByteArray := ⟨#[116, 97, 98, 108, 101]⟩
def wSums : ByteArray := ⟨#[115, 117, 109, 115]⟩
def wRound : ByteArray := ⟨#[114, 111, 117, 110, 100]⟩
def wLayout : ByteArray := ⟨#[108, 97, 121, 111, 117, 116]⟩
theorem polyS_size (p : List Int) (h : Wf p) : (polyS p).size ≤ 154 := by
  unfold polyS
  split
  · rename_i hp
    have h1 := numsS_size h
    have h2 := (polyOk_true.1 hp).2.1
    omega
  · exact Nat.zero_le _
set_option maxHeartbeats 2000000 in
theorem word_print {d : DeskD} (ok : d.Ok) : WordC wPrint d (printS d) d := by
  intro b w hd hg
  have HD := Lib.hid hd
  have HG := Lib.hid hg
  clear hd hg
  unfold wPrint
  go_enter Tryz.func128, Tryz.ntmps128
  go_wp2_with fail
  refine (print_any b d w HD.out ok HG.out).mono ?_
  rintro e w3 ⟨rfl, h2, h3⟩
  have HE := Lib.hid (And.intro h2 h3)
  clear h2 h3
  go_wp2
  go_ret
  exact ⟨rfl, HE.out.1, HE.out.2⟩
set_option maxHeartbeats 2000000 in
theorem word_poly {d : DeskD} (ok : d.Ok) : WordC wPoly d (polyS d.poly ++ nlS) d := by
  intro b w hd hg
  have HD := Lib.hid hd
  have HG := Lib.hid hg
  obtain ⟨p, en, t, k0, k1, -, -⟩ := hd
  have HP := Lib.hid k1.ints
  obtain ⟨A, c, rfl, -, -, -⟩ := k1.ints.open_
  obtain ⟨c0, c1, c2, c3, c4, c5⟩ := k0.desk
  have hsz := polyS_size _ HP.out.2
  clear hg k0 k1
  unfold wPoly
  go_enter Tryz.func128, Tryz.ntmps128
  go_wp2_with fail
  refine (implFP_any _ d.poly w HP.out HG.out.glb.1).mono ?_
  rintro e w2 ⟨rfl, b2⟩
  have HB := Lib.hid b2
  clear b2
  go_wp2_with fail
  refine (showT_any _ true _ (by omega)).mono ?_
  rintro e w4 ⟨rfl, rfl⟩
  go_wp2
  go_ret
  exact ⟨rfl, HD.out.bel HB.out, grw_bel _ HB.out⟩
set_option maxHeartbeats 2000000 in
theorem text_job {d : DeskD} {t : ByteArray} (ok : d.Ok) (ht : t.size ≤ 1048576) : TextC wJob t d (jobOut d t) (jobD2 d t) := by
  intro b w hd hg
  have HD := Lib.hid hd
  have HG := Lib.hid hg
  clear hd hg
  unfold wJob
  go_enter Tryz.func131, Tryz.ntmps131
  go_wp2_with fail
  refine (jobLine_any b d t w ht HD.out ok HG.out).mono ?_
  rintro e w3 ⟨rfl, h2, h3⟩
  have HE := Lib.hid (And.intro h2 h3)
  clear h2 h3
  go_wp2
  go_ret
  exact ⟨rfl, HE.out.1, HE.out.2⟩
theorem spL_len (t : ByteArray) (ht : t.size ≤ 1000000) : (spL t).length ≤ 1048576 := by
  have := cutS_le 32 t
  unfold spL
  split
  · unfold numsV; rw [List.length_map]; omega
  · exact Nat.zero_le _
set_option maxHeartbeats 2000000 in
theorem text_table {d : DeskD} {t : ByteArray} (ht : t.size ≤ 1000000) : TextC wTable t d (showS (numsS (spL t)) (numsOk t && tableOk (spL t))) (setTabD d (spL t) (numsOk t)) := by
  intro b w hd hg
  have HD := Lib.hid hd
  have HG := Lib.hid hg
  have hlen := spL_len t ht
  clear hd hg
  unfold wTable
  go_enter Tryz.func131, Tryz.ntmps131
  go_wp2_with fail
  refine (splitNum_any t w (by omega) HG.out.glb).mono ?_
  rintro e w2 ⟨r, rfl, o, b2⟩
  have HB := Lib.hid b2
  have HO := Lib.hid o
  clear o b2
  go_wp2_with fail
  refine (setTab_any b d r (spL t) (numsOk t) w2 (HD.out.bel HB.out) HO.out.low hlen (HG.out.bel HB.out)).mono ?_
  rintro e w3 ⟨rfl, h2, h3⟩
  have HE := Lib.hid (And.intro h2 h3)
  clear h2 h3
  go_wp2
  go_ret
  exact ⟨rfl, HE.out.1, grw_trans (grw_bel _ HB.out) HE.out.2⟩
end Go.Proofs.YtpniljcnknknoaaGreatDoor

/-
  The lines of scripts with numbers: sums, round, layout.
-/
namespace Go.Proofs.YtpniljcnknknoaaGreatDoor
open Go.RowKit
set_option linter.unusedVariables false
set_option linter.unusedSimpArgs false
set_option maxRecDepth 100000
attribute [local go_sem ↓] Go.wp_at_zero Go.wp_at_succ

theorem own_get {w : World} {v : Value} {l : List Int} (h : Own w 0 v l) (hl : 0 < l.length) : ∃ g c, v = .slice (some ⟨g, 0, none⟩) l.length c ∧ g < w.heap.size ∧ ∀ k, k < l.length → w.cell? ⟨g, k, none⟩ = some (.int .i64 (at_ l k)) := by
  obtain ⟨g, c, rfl, h1, -, -, -, h9⟩ := h.openN hl
  exact ⟨g, c, rfl, (h.lt g rfl).2, fun k hk => (h9 k hk).1⟩
set_option maxHeartbeats 2000000 in
theorem nums_sums {d : DeskD} {p : Nat} (ok : d.Ok) (ht : tableOk d.tab = true) (hp : p < pgN d.tab (d.rw * d.ac)) : NumsC wSums [(p : Int)] d (showS (numsS (sumsL d.rw d.ac d.tab p)) true) d := by
  intro b v w hv hd hg
  have HD := Lib.hid hd
  have HG := Lib.hid hg
  have htl := ok.tab
  have HTO := Lib.hid ht
  have HP := Lib.hid hp
  obtain ⟨h1, h2, h3⟩ := And.intro ok.rw (And.intro ok.ac ok.wi)
  obtain ⟨pv, en, t, k0, -, -, k3⟩ := hd
  have HT := Lib.hid k3.ints
  have HK := Lib.hid k0
  obtain ⟨A, c, rfl, -, -, -⟩ := k3.ints.open_
  obtain ⟨g, cn, rfl, hgl, hcn⟩ := own_get hv (by simp)
  have n0 : w.cell? ⟨g, 0, none⟩ = some (.int .i64 p) := hcn 0 (by simp)
  obtain ⟨c0, c1, c2, c3, c4, c5⟩ := k0.desk
  have HN := Lib.hid n0
  obtain ⟨L, hL⟩ : ∃ L, sumsL d.rw d.ac d.tab p = L := ⟨_, rfl⟩
  have hpl : L.length = d.ac := by rw [← hL]; exact psL_len _ _ _ _
  have hp0 : 0 < L.length := by omega
  have hp1 : (0 : Int) < (L.length : Int) := by omega
  have hp6 : L.length ≤ 6 := by omega
  have HL := Lib.hid hL
  have HQ : Hid (∀ w3 r, Own w3 0 r (psL (pgE d.tab (d.rw * d.ac) p) d.rw d.ac (pgE d.tab (d.rw * d.ac) p).length) → Own w3 0 r L) := Lib.hid (fun w3 r h => by rw [← hL]; exact h)
  rw [hL]
  clear hL hpl
  have tok1 : True := trivial
  clear k0 k3 hg ok ht hp hv hcn
  unfold wSums
  go_enter Tryz.func130, Tryz.ntmps130
  go_wp2_with fail
  go_region_held3 (fun w' => (w'.cell? ⟨b, 2, none⟩ = some (.slice A d.tab.length c) ∧ w'.cell? ⟨b, 3, none⟩ = some (.int .i64 d.rw) ∧ w'.cell? ⟨b, 4, none⟩ = some (.int .i64 d.ac) ∧ w'.cell? ⟨b, 5, none⟩ = some (.int .i64 d.wi)) ∧ w'.cell? ⟨g, 0, none⟩ = some (.int .i64 p)) (first | exact ⟨HK.out.desk4, HN.out⟩ | exact ⟨HK3.out.desk4, HN3.out⟩ | go_keep) (first
    | ((try go_simp); go_at_call 17; have _t := tok1; go_loud (refine (pageSums_any d.rw d.ac d.wi (d.rw * d.ac) p _ d.tab _ (by first | exact HT.out | exact HT.out.bel (bel_drew _)) h1 h2 h3 htl rfl HTO.out HP.out).mono ?_; rintro e w3 ⟨r, rfl, o3, b3⟩; replace b3 : Below w.heap.size w w3 := (by first | exact b3 | exact bel_trans (bel_drew _) b3); have HB := Lib.hid b3; have HK3 := Lib.hid (HK.out.below b3 HK.out.lt); have HN3 := Lib.hid ((b3.cell (by exact hgl)).trans HN.out); replace o3 := HQ.out _ _ o3.low; have HO := Lib.hid o3; obtain ⟨A3, c6, rfl, -, -, -⟩ := o3.ints.open_; clear tok1 b3 o3; (try dsimp only)))
    | fail)
  clear c0 c1 c2 c3 c4 c5 n0
  have hns := numsS_size HO.out.ints.2
  go_wp2_with fail
  refine (joinNumbers_any _ L _ HO.out.ints (by omega) (HG.out.bel HB.out).glb.1).mono ?_
  rintro e w4 ⟨rfl, b4⟩
  replace HB := Lib.hid (bel_trans HB.out b4)
  clear b4
  go_wp2_with fail
  refine (showT_any _ true _ (by omega)).mono ?_
  rintro e w5 ⟨rfl, rfl⟩
  go_wp2
  go_ret
  exact ⟨rfl, HD.out.bel HB.out, grw_bel _ HB.out⟩
end Go.Proofs.YtpniljcnknknoaaGreatDoor

/-
  The lines of scripts with numbers: round, layout.
-/
namespace Go.Proofs.YtpniljcnknknoaaGreatDoor
open Go.RowKit
set_option linter.unusedVariables false
set_option linter.unusedSimpArgs false
set_option maxRecDepth 100000
attribute [local go_sem ↓] Go.wp_at_zero Go.wp_at_succ

set_option maxHeartbeats 4000000 in
theorem nums_round {d : DeskD} {dg wy : Int} (ok : d.Ok) : NumsC wRound [dg, wy] d (showS (numsS (rtL d.tab dg wy)) (rtOk d.tab dg wy && tableOk (rtL d.tab dg wy))) (setTabD d (rtL d.tab dg wy) (rtOk d.tab dg wy)) := by
  intro b v w hv hd hg
  have HD := Lib.hid hd
  have HG := Lib.hid hg
  have htl := ok.tab
  have hrl : (rtL d.tab dg wy).length ≤ 1048576 := Nat.le_trans (rtL_len _ _ _) (by omega)
  obtain ⟨pv, en, t, k0, -, -, k3⟩ := hd
  have HT := Lib.hid k3.ints
  obtain ⟨A, c, rfl, -, -, -⟩ := k3.ints.open_
  obtain ⟨g, cn, rfl, hgl, hcn⟩ := own_get hv (by simp)
  have n0 : w.cell? ⟨g, 0, none⟩ = some (.int .i64 dg) := hcn 0 (by simp)
  have n1 : w.cell? ⟨g, 1, none⟩ = some (.int .i64 wy) := hcn 1 (by simp)
  obtain ⟨c0, c1, c2, c3, c4, c5⟩ := k0.desk
  clear c0 c1 c3 c4 c5
  have tok1 : True := trivial
  have tok2 : True := trivial
  clear k0 k3 hg ok hv hcn
  unfold wRound
  go_enter Tryz.func130, Tryz.ntmps130
  go_wp2_with fail
  go_region_law (first
    | (go_simp; go_at_call 21; have _t := tok1; refine (implRT_any _ d.tab dg wy _ (by first | exact HT.out | exact HT.out.bel (bel_drew _))).mono ?_; rintro e1 w3 ⟨r, rfl, o3, b3⟩; replace b3 : Below w.heap.size w w3 := (by first | exact b3 | exact bel_trans (bel_drew _) b3); have HB := Lib.hid b3; have HO := Lib.hid o3.low; clear tok1 b3 o3 n0 n1 c2)
    | (go_simp; go_at_call 196; have _t := tok2; refine (setTab_any b d _ (rtL d.tab dg wy) (rtOk d.tab dg wy) _ (HD.out.bel HB.out) HO.out hrl (HG.out.bel HB.out)).mono ?_; rintro e2 w4 ⟨rfl, d4, g4⟩; have HE := Lib.hid (And.intro d4 g4); clear tok2 d4 g4)
    | fail)
  all_goals
    go_wp2
    go_ret
    exact ⟨rfl, HE.out.1, grw_trans (grw_bel _ HB.out) HE.out.2⟩
set_option maxHeartbeats 4000000 in
theorem nums_layout {d : DeskD} {r a i : Int} : NumsC wLayout [r, a, i] d (layS r a i) (setLayD d r a i) := by
  intro b v w hv hd hg
  have HD := Lib.hid hd
  have HV := Lib.hid hv
  obtain ⟨g, cn, rfl, hgl, hcn⟩ := own_get hv (by simp)
  have n0 : w.cell? ⟨g, 0, none⟩ = some (.int .i64 r) := hcn 0 (by simp)
  have n1 : w.cell? ⟨g, 1, none⟩ = some (.int .i64 a) := hcn 1 (by simp)
  have n2 : w.cell? ⟨g, 2, none⟩ = some (.int .i64 i) := hcn 2 (by simp)
  have tok2 : True := trivial
  clear hg hv hcn hd
  unfold wLayout
  go_enter Tryz.func130, Tryz.ntmps130
  go_wp2_with fail
  go_region_law (first
    | (go_simp; go_at_call 199; have _t := tok2; refine (setLay_any b d r a i _ (by first | exact HD.out | exact HD.out.bel (bel_drew _))).mono ?_; rintro e2 w4 ⟨rfl, d4, g4⟩; replace g4 : w.grownBy w4 (some b) := (by first | exact g4 | exact grw_trans (grw_bel _ (bel_drew _)) g4); have HE := Lib.hid (And.intro d4 g4); clear tok2 d4 g4)
    | fail)
  all_goals
    go_wp2
    go_ret
    exact ⟨rfl, HE.out.1, HE.out.2⟩
end Go.Proofs.YtpniljcnknknoaaGreatDoor

/-
  The text of an engine; the remainders of a table; the line that sets an engine (impl).
-/
namespace Go.Proofs.YtpniljcnknknoaaGreatDoor
open Go.RowKit
set_option linter.unusedVariables false
set_option linter.unusedSimpArgs false
set_option maxRecDepth 100000
attribute [local go_sem ↓] Go.wp_at_zero Go.wp_at_succ

/-- The text of an engine. -/
def fmtE (l : List ByteArray) : ByteArray := if engOk l = true then joinS l ⟨#[32]⟩ else ⟨#[]⟩
theorem fmtE_yes {l : List ByteArray} (h : engOk l = true) : fmtE l = joinS l ⟨#[32]⟩ := by simp [fmtE, h]
theorem eng_sizes {l : List ByteArray} (h : engOk l = true) : ∀ s ∈ l, s.size ≤ 12 := by
  intro s hs
  obtain ⟨k, hk, rfl⟩ := List.getElem_of_mem hs
  have := ((engOk_iff.1 h).2.2 k hk).1
  rw [sat_eq l k hk] at this
  exact (colOk_true this).2.1
theorem fmtE_size (l : List ByteArray) : (fmtE l).size ≤ 91 := by
  unfold fmtE
  split
  · rename_i h
    have h1 := join_len (sep := ⟨#[32]⟩) (eng_sizes h)
    have h2 := (engOk_iff.1 h).2.1
    have h3 : (⟨#[32]⟩ : ByteArray).size = 1 := rfl
    rw [h3] at h1
    omega
  · exact Nat.zero_le _
set_option maxHeartbeats 2000000 in
theorem fmtEng_any (v : Value) (l : List ByteArray) (w : World) (hv : Strs w v l) :
    Calls Tryz.prog 29 #[.agg #[v]] w fun e w' => e = .returned (.string (fmtE l)) ∧ Below w.heap.size w w' := by
  have HV := Lib.hid hv
  obtain ⟨A, c, rfl, -, -, -⟩ := hv.open_
  have B0 := bel_alloc w (.cells #[.slice A l.length c] 48)
  have K0 := Blk.new' w 48 (.slice A l.length c) w.heap.size rfl
  obtain ⟨c0, -⟩ := K0.one
  clear hv
  go_enter Tryz.func29, Tryz.ntmps29
  go_wp2_with fail
  clear c0
  refine (implEng_any _ l _ (HV.out.bel B0)).mono ?_
  rintro e w2 ⟨rfl, hb⟩
  replace K0 := K0.below hb K0.lt
  have HB := Lib.hid (bel_trans B0 hb)
  obtain ⟨c0, -⟩ := K0.one
  clear B0 hb
  cases hq : engOk l
  · have HN := Lib.hid (show fmtE l = ⟨#[]⟩ by unfold fmtE; rw [hq]; rfl)
    clear hq
    go_wp2
    go_ret
    exact ⟨by rw [HN.out]; rfl, HB.out⟩
  · have HN := Lib.hid (fmtE_yes hq)
    have HS := Lib.hid (eng_sizes hq)
    have hl := (engOk_iff.1 hq).2.1
    clear hq
    go_wp2_with fail
    refine (joins_any _ l ⟨#[32]⟩ _ (HV.out.bel HB.out) (by omega) 12 HS.out (by omega) (by decide)).mono ?_
    rintro e w3 ⟨rfl, b⟩
    have HB3 := Lib.hid (bel_trans HB.out b)
    clear b c0
    go_wp2
    go_ret
    exact ⟨by rw [HN.out]; rfl, HB3.out⟩
def setEngD (d : DeskD) (l : List ByteArray) (k : Bool) : DeskD := if k = true then { d with eng := l } else d
set_option maxHeartbeats 2000000 in
theorem setEng_any (b : Nat) (d : DeskD) (v : Value) (l : List ByteArray) (k : Bool) (w : World) (hd : Desk w b d) (hv : OwnS w 0 v l) (hg : GlbB b w) :
    Calls Tryz.prog 189 #[.pointer (some ⟨b, 0, none⟩), .agg #[v], .bool k] w fun e w' => LineE w b (showS (fmtE l) k) (setEngD d l k) e w' := by
  have hdl := hd.lt
  have hfs := fmtE_size l
  obtain ⟨A, c, rfl, -, -, -⟩ := hv.strs.open_
  have B0 := bel_alloc w (.cells #[.slice A l.length c] 48)
  have K0 := Blk.new' w 48 (.slice A l.length c) w.heap.size rfl
  have HD := Lib.hid (hd.bel B0)
  have HD0 := Lib.hid hd
  have HV0 := Lib.hid hv
  have HG0 := Lib.hid hg
  have HV := Lib.hid (hv.bel B0)
  have HB := Lib.hid B0
  have HG := Lib.hid (hg.bel B0)
  obtain ⟨c0, -⟩ := K0.one
  clear hv hd hg B0
  cases k
  · go_enter Tryz.func189, Tryz.ntmps189
    go_wp2_with fail
    refine (fmtEng_any _ l _ HV.out.strs).mono ?_
    rintro e w2 ⟨rfl, b2⟩
    have HB2 := Lib.hid b2
    clear b2 c0
    go_wp2_with fail
    refine (showT_any _ false _ (by omega)).mono ?_
    rintro e w3 ⟨rfl, rfl⟩
    go_wp2
    go_ret
    exact ⟨rfl, HD.out.bel HB2.out, grw_bel _ (bel_trans HB.out HB2.out)⟩
  · have hne1 : ¬ w.heap.size = b := by omega
    have hne2 : ¬ b = w.heap.size := by omega
    obtain ⟨p, en, t, k0, -, -, -⟩ := HD.out
    obtain ⟨f0, f1, f2, f3, f4, f5⟩ := k0.deskF
    obtain ⟨d0, d1, d2, d3, d4, d5⟩ := k0.desk
    clear k0
    have G2 := Lib.hid (grw_trans (grown_set w b 1 (.slice A l.length c)) (grw_bel (some b) (bel_alloc (w.setCell ⟨b, 1, none⟩ (.slice A l.length c)) (.cells #[.slice A l.length c] 48))))
    have D2 := Lib.hid ((HD0.out.setEng HV0.out).bel (bel_alloc (w.setCell ⟨b, 1, none⟩ (.slice A l.length c)) (.cells #[.slice A l.length c] 48)))
    have V2 := Lib.hid (HD0.out.keepOwnS HV0.out G2.out)
    have HG2 := Lib.hid (HG0.out.grown G2.out)
    go_enter Tryz.func189, Tryz.ntmps189
    go_wp2_with fail
    generalize hW : (w.setCell ⟨b, 1, none⟩ (.slice A l.length c)).alloc (.cells #[.slice A l.length c] 48) = w2 at D2 G2 V2 HG2 ⊢
    clear hW c0 d0 d1 d2 d3 d4 d5 f0 f1 f2 f3 f4 f5
    refine (fmtEng_any _ l _ V2.out.strs).mono ?_
    rintro e w3 ⟨rfl, b2⟩
    have HB2 := Lib.hid b2
    clear b2
    go_wp2_with fail
    refine (showT_any _ true _ (by omega)).mono ?_
    rintro e w4 ⟨rfl, rfl⟩
    go_wp2
    go_ret
    exact ⟨rfl, D2.out.bel HB2.out, grw_trans G2.out (grw_bel _ HB2.out)⟩
/-- The remainders of a table. -/
def remL (l : List Int) (m : Nat) : List Int := if tableOk l = true then gen (fun i => (md (at_ l i) m : Int)) l.length else []
theorem remL_yes {l : List Int} (m : Nat) (h : tableOk l = true) : remL l m = gen (fun i => (md (at_ l i) m : Int)) l.length := by simp [remL, h]
set_option maxHeartbeats 2000000 in
theorem rem_any (v : Value) (l : List Int) (m : Nat) (w : World) (hv : Ints w v l) (hm : 1 ≤ m ∧ m ≤ 1000) :
    Calls Tryz.prog 90 #[v, .int .i64 m] w fun e w' => ∃ r, e = .returned r ∧ Own w' w.heap.size r (remL l m) ∧ Below w.heap.size w w' := by
  have HV := Lib.hid hv
  obtain ⟨A, c, rfl, -, -, -⟩ := hv.open_
  clear hv
  go_enter Tryz.func90, Tryz.ntmps90
  go_wp2_with fail
  refine (implTable_any _ l _ HV.out).mono ?_
  rintro e wz ⟨rfl, rfl⟩
  cases hq : tableOk l
  · have HN := Lib.hid (show remL l m = [] by unfold remL; rw [hq]; rfl)
    clear hq
    go_wp2
    go_ret
    exact ⟨_, rfl, by rw [HN.out]; exact Own.nil_ _ _, Below.refl _ _⟩
  · have HN := Lib.hid (remL_yes m hq)
    have h60 := (tableOk_true hq).2.1
    have hmk := fun W => Tryz.mkInts l.length (by omega) W
    have OZ := Own.zeros w l.length (by omega)
    have BZ := bel_alloc w (.cells (reps l.length (.int .i64 0)).toArray 3)
    have hz2 := BZ.size
    clear hq
    go_wp2_with fail
    generalize hW : w.alloc (.cells (reps l.length (.int .i64 0)).toArray 3) = w3 at *
    clear hW
    go_loopw [16] (fun i wr => ∃ (k : Nat) (L : List Int), k ≤ l.length ∧ i = .int .i64 k ∧ L.length = l.length ∧ (∀ j, j < k → at_ L j = (md (at_ l j) m : Int)) ∧ Own wr w.heap.size (.slice (some ⟨w.heap.size, 0, none⟩) l.length l.length) L ∧ Below w.heap.size w wr) (fun i _ => l.length - (intOf i).toNat)
    case atStart => exact ⟨0, _, Nat.zero_le _, rfl, zerosL_len _, fun j hj => absurd hj (Nat.not_lt_zero _), OZ, BZ⟩
    case round =>
      obtain ⟨k, L, hk, rfl, hL, hat, hO, hB⟩ := hrel
      have H := Lib.hid (And.intro hat (And.intro hO hB))
      have HLL := Lib.hid hL
      have hz := hB.size
      clear hat hO hB hL OZ BZ
      by_cases hkl : k < l.length
      · obtain ⟨A6, c6, e6, -, -, hrd⟩ := (HV.out.bel H.out.2.2).open_
        cases e6
        obtain ⟨b, o, rfl, hbb, hcell⟩ := hrd.ints (Nat.lt_of_le_of_lt (Nat.zero_le _) hkl)
        have hck := hcell k hkl
        have hml := md_lt (at_ l k) hm.1
        obtain ⟨x, hx⟩ : ∃ x, at_ l k = x := ⟨_, rfl⟩
        rw [hx] at hck hml
        have HX := Lib.hid hx
        obtain ⟨g9, c9, e9, -, -, -, -, h9⟩ := H.out.2.1.openN (by rw [HLL.out]; omega)
        injection e9 with e1 e2 e3
        injection e1 with e1
        injection e1 with e1
        subst e1
        clear e2 e3
        obtain ⟨f0, f1⟩ := h9 k (by rw [HLL.out]; exact hkl)
        clear hcell hrd h9 hx
        go_wp2_with fail
        refine (modulo_any x m _ ⟨hm.1, by omega⟩).mono ?_
        rintro e w5 ⟨rfl, rfl⟩
        go_wp2
        go_roundw
        case rel =>
          refine ⟨k + 1, L.set k (md x m : Int), hkl, by go_num, by rw [List.length_set]; exact HLL.out, fun j hj => ?_, H.out.2.1.set_ k _ (by rw [HLL.out]; exact hkl) ⟨by omega, by omega⟩, H.out.2.2.setCell (Nat.le_refl _) _⟩
          rw [at_set j (by rw [HLL.out]; exact hkl)]
          by_cases e : j = k
          · rw [if_pos e, e, HX.out]
          · rw [if_neg e]; exact H.out.1 j (by omega)
        case measure => simp [intOf]; omega
      · have hke : k = l.length := by omega
        subst hke
        have HE := Lib.hid (show remL l m = L from by
          rw [HN.out]
          refine list_ext (by rw [gen_length, HLL.out]) (fun j hj => ?_)
          rw [gen_length] at hj
          rw [at_gen hj, H.out.1 j hj])
        have HO := Lib.hid H.out.2.1
        have hll := HLL.out
        go_wp2
        go_ret
        refine ⟨_, rfl, ?_, H.out.2.2⟩
        rw [HE.out]
        exact HO.out
set_option maxHeartbeats 1000000 in
theorem nines_any (v : Value) (l : List Int) (w : World) (hv : Ints w v l) :
    Calls Tryz.prog 32 #[v] w fun e w' => ∃ r, e = .returned r ∧ Own w' w.heap.size r (remL l 9) ∧ Below w.heap.size w w' := by
  go_enter Tryz.func32, Tryz.ntmps32
  go_wp2_with fail
  refine (rem_any v l 9 w hv ⟨by omega, by omega⟩).mono ?_
  rintro e w2 ⟨r, rfl, o, b⟩
  go_wp2
  go_ret
  exact ⟨r, rfl, o, b⟩
end Go.Proofs.YtpniljcnknknoaaGreatDoor

/-
  Engines turned back, askew, and in halves: the plain side.
-/
namespace Go.Proofs.YtpniljcnknknoaaGreatDoor
open Go.RowKit
set_option linter.unusedVariables false
set_option linter.unusedSimpArgs false
set_option maxRecDepth 100000

theorem ba_ext {a b : ByteArray} (hs : a.size = b.size) (h : ∀ j, j < b.size → bat a j = bat b j) : a = b := by
  apply ByteArray.ext
  apply Array.ext
  · exact hs
  · intro i h1 h2
    have := h i h2
    rw [bat_eq (show i < a.size from h1), bat_eq (show i < b.size from h2)] at this
    have e : (a[i]'h1).toNat = (b[i]'h2).toNat := by omega
    exact UInt8.toNat_inj.1 e
theorem cvN_div {s : ByteArray} (h : colOk s = true) (k : Nat) : ∀ d, k + d = s.size → cv s / ten d = cvN s k := by
  intro d
  induction d generalizing k with
  | zero =>
    intro e
    have : k = s.size := by omega
    rw [ten_zero, Nat.div_one, this]
    rfl
  | succ d ih =>
    intro e
    have h1 := ih (k + 1) (by omega)
    have h2 := (colOk_true h).2.2 k (by omega)
    rw [ten_succ, ← Nat.div_div_eq_div_mul, h1, cvN_succ]
    omega
theorem col_cv {s : ByteArray} (h : colOk s = true) : col (cv s) s.size = s := by
  apply ba_ext (col_size _ _)
  intro j hj
  have h2 := (colOk_true h).2.2 j hj
  rw [bat_col hj]
  unfold wheel
  rw [cvN_div h (j + 1) (s.size - 1 - j) (by omega), cvN_succ]
  omega
theorem cv_inj {a b : ByteArray} (ha : colOk a = true) (hb : colOk b = true) (hs : a.size = b.size) (h : cv a = cv b) : a = b := by
  rw [← col_cv ha, ← col_cv hb, hs, h]
/-- The difference of two columns. -/
def subC (a b : ByteArray) : ByteArray := col (md ((cv a : Int) - (cv b : Int)) (ten a.size)) a.size
theorem subC_size (a b : ByteArray) : (subC a b).size = a.size := col_size _ _
theorem subC_ok {a b : ByteArray} (h : colOk a = true) : colOk (subC a b) = true := by
  have := colOk_true h
  exact colOk_col _ this.1 this.2.1
theorem add_sub {a b : ByteArray} (ha : colOk a = true) : addC (subC a b) b = a := by
  have hT := ten_pos a.size
  have h1 := md_lt ((cv a : Int) - (cv b : Int)) (m := ten a.size) hT
  have h2 := md_cast ((cv a : Int) - (cv b : Int)) (m := ten a.size) hT
  have h3 := cv_lt ha
  unfold addC
  rw [subC_size]
  have h4 : cv (subC a b) = md ((cv a : Int) - (cv b : Int)) (ten a.size) := by unfold subC; exact cv_col h1
  rw [h4]
  have h5 : (md ((cv a : Int) - (cv b : Int)) (ten a.size) + cv b) % ten a.size = cv a := by
    have e : (((md ((cv a : Int) - (cv b : Int)) (ten a.size) + cv b) % ten a.size : Nat) : Int) = (cv a : Int) := by
      rw [Int.natCast_emod, Int.natCast_add, h2, Int.emod_add_emod]
      rw [show (cv a : Int) - (cv b : Int) + (cv b : Int) = (cv a : Int) by omega]
      exact Int.emod_eq_of_lt (by omega) (by omega)
    omega
  rw [h5]
  exact col_cv ha
theorem sat_cons (x : ByteArray) (l : List ByteArray) (j : Nat) : sat (x :: l) (j + 1) = sat l j := rfl
theorem sat_cons0 (x : ByteArray) (l : List ByteArray) : sat (x :: l) 0 = x := rfl
/-- A turn back. -/
def backS : List ByteArray → List ByteArray
  | [] => []
  | [x] => [x]
  | x :: y :: r => subC x (sat (backS (y :: r)) 0) :: backS (y :: r)
theorem backS_length : ∀ l : List ByteArray, (backS l).length = l.length
  | [] => rfl
  | [x] => rfl
  | x :: y :: r => by
    have := backS_length (y :: r)
    simp [backS] at this ⊢
    exact this
theorem backS_at : ∀ (l : List ByteArray) (j : Nat), j < l.length → sat (backS l) j = if j + 1 < l.length then subC (sat l j) (sat (backS l) (j + 1)) else sat l j
  | [], j, h => absurd h (by simp)
  | [x], j, h => by
    have : j = 0 := by simp at h; exact h
    subst this
    rfl
  | x :: y :: r, 0, h => by
    rw [if_pos (by simp)]
    rfl
  | x :: y :: r, j + 1, h => by
    have ih := backS_at (y :: r) j (by simpa using h)
    show sat (backS (y :: r)) j = _
    rw [ih]
    by_cases h2 : j + 1 < (y :: r).length
    · rw [if_pos h2, if_pos (by simp at h2 ⊢; omega)]
      rfl
    · rw [if_neg h2, if_neg (by simp at h2 ⊢; omega)]
      rfl
theorem backS_colOk {l : List ByteArray} (h : engOk l = true) (j : Nat) (hj : j < l.length) : colOk (sat (backS l) j) = true ∧ (sat (backS l) j).size = (sat l 0).size := by
  obtain ⟨h1, h2, h3⟩ := engOk_iff.1 h
  rw [backS_at l j hj]
  split
  · exact ⟨subC_ok (h3 j hj).1, by rw [subC_size]; exact (h3 j hj).2⟩
  · exact h3 j hj
theorem engOk_back {l : List ByteArray} (h : engOk l = true) : engOk (backS l) = true := by
  obtain ⟨h1, h2, h3⟩ := engOk_iff.1 h
  refine engOk_iff.2 ⟨by rw [backS_length]; exact h1, by rw [backS_length]; exact h2, fun k hk => ?_⟩
  rw [backS_length] at hk
  exact ⟨(backS_colOk h k hk).1, by rw [(backS_colOk h k hk).2, (backS_colOk h 0 (by omega)).2]⟩
theorem ext_sat {a b : List ByteArray} (hl : a.length = b.length) (h : ∀ i, i < b.length → sat a i = sat b i) : a = b := by
  apply List.ext_getElem hl
  intro i h1 h2
  have := h i h2
  rw [sat_eq a i h1, sat_eq b i h2] at this
  exact this
theorem turn_back {l : List ByteArray} (h : engOk l = true) : turnS (backS l) = l := by
  obtain ⟨h1, h2, h3⟩ := engOk_iff.1 h
  apply ext_sat (by rw [turnS_length, backS_length])
  intro i hi
  rw [turnS_at (by rw [backS_length]; exact hi), backS_length]
  by_cases h4 : i + 1 < l.length
  · rw [if_pos h4, backS_at l i hi, if_pos h4]
    exact add_sub (h3 i hi).1
  · rw [if_neg h4, backS_at l i hi, if_neg h4]
def backN (l : List ByteArray) : Nat → List ByteArray
  | 0 => l
  | n + 1 => backS (backN l n)
theorem backN_length (l : List ByteArray) (n : Nat) : (backN l n).length = l.length := by
  induction n with
  | zero => rfl
  | succ n ih => show (backS _).length = _; rw [backS_length, ih]
theorem backN_ok {l : List ByteArray} (h : engOk l = true) (n : Nat) : engOk (backN l n) = true := by
  induction n with
  | zero => exact h
  | succ n ih => exact engOk_back ih
theorem turnN_addW (l : List ByteArray) (a b : Nat) : turnN (turnN l a) b = turnN l (a + b) := by
  induction b with
  | zero => rfl
  | succ b ih => rw [turnN_succ, ih]; rfl
theorem turnN_back {l : List ByteArray} (h : engOk l = true) (m k : Nat) : turnN (backN l (m + k)) k = backN l m := by
  induction k with
  | zero => rfl
  | succ k ih =>
    have e : turnN (backN l (m + (k + 1))) (k + 1) = turnN (turnN (backN l (m + (k + 1))) 1) k := by rw [turnN_addW, Nat.add_comm 1 k]
    rw [e]
    have e2 : turnN (backN l (m + (k + 1))) 1 = backN l (m + k) := turn_back (backN_ok h (m + k))
    rw [e2, ih]
theorem turnN_at (l : List ByteArray) (n i : Nat) (h : i < l.length) : sat (turnN l (n + 1)) i = if i + 1 < l.length then addC (sat (turnN l n) i) (sat (turnN l n) (i + 1)) else sat (turnN l n) i := by
  rw [turnN_succ, turnS_at (by rw [turnN_length]; exact h), turnN_length]
/-- The engine askew; half a turn; turns in halves. -/
def skewS (l : List ByteArray) : List ByteArray := genS (fun i => sat (backN l (i / 2)) i) l.length
def halfS (l : List ByteArray) (f : Nat) : List ByteArray := genS (fun i => if i % 2 = f ∧ i + 1 < l.length then addC (sat l i) (sat l (i + 1)) else sat l i) l.length
theorem halfS_length (l : List ByteArray) (f : Nat) : (halfS l f).length = l.length := genS_length _ _
theorem halfS_at {l : List ByteArray} {f i : Nat} (h : i < l.length) : sat (halfS l f) i = if i % 2 = f ∧ i + 1 < l.length then addC (sat l i) (sat l (i + 1)) else sat l i := at_genS h
def hN (l : List ByteArray) : Nat → List ByteArray
  | 0 => l
  | n + 1 => halfS (halfS (hN l n) 0) 1
theorem hN_length (l : List ByteArray) (n : Nat) : (hN l n).length = l.length := by
  induction n with
  | zero => rfl
  | succ n ih => show (halfS _ _).length = _; rw [halfS_length, halfS_length, ih]
theorem skewS_length (l : List ByteArray) : (skewS l).length = l.length := genS_length _ _
theorem skew_inv {l : List ByteArray} (ok : engOk l = true) (t : Nat) : ∀ i, i < l.length → sat (hN (skewS l) t) i = sat (turnN (backN l 3) (3 + t - i / 2)) i := by
  obtain ⟨h1, h2, h3⟩ := engOk_iff.1 ok
  have hD := backN_length l 3
  induction t with
  | zero =>
    intro i hi
    show sat (skewS l) i = _
    unfold skewS
    rw [at_genS hi]
    have := turnN_back ok (i / 2) (3 - i / 2)
    rw [show i / 2 + (3 - i / 2) = 3 by omega] at this
    rw [show 3 + 0 - i / 2 = 3 - i / 2 by omega, this]
  | succ t ih =>
    have hl := hN_length (skewS l) t
    rw [skewS_length] at hl
    have first : ∀ i, i < l.length → sat (halfS (hN (skewS l) t) 0) i = if i % 2 = 0 then sat (turnN (backN l 3) (3 + t + 1 - i / 2)) i else sat (turnN (backN l 3) (3 + t - i / 2)) i := by
      intro i hi
      rw [halfS_at (by rw [hl]; exact hi), hl]
      by_cases he : i % 2 = 0
      · rw [if_pos he, show 3 + t + 1 - i / 2 = (3 + t - i / 2) + 1 by omega, turnN_at _ _ _ (by rw [hD]; exact hi), hD]
        by_cases h4 : i + 1 < l.length
        · rw [if_pos ⟨he, h4⟩, if_pos h4, ih i hi, ih (i + 1) h4, show (i + 1) / 2 = i / 2 by omega]
        · rw [if_neg (fun h => h4 h.2), if_neg h4, ih i hi]
      · rw [if_neg (fun h => he h.1), if_neg he, ih i hi]
    intro i hi
    show sat (halfS (halfS (hN (skewS l) t) 0) 1) i = _
    rw [halfS_at (by rw [halfS_length, hl]; exact hi), halfS_length, hl]
    by_cases he : i % 2 = 1
    · rw [show 3 + (t + 1) - i / 2 = (3 + t - i / 2) + 1 by omega, turnN_at _ _ _ (by rw [hD]; exact hi), hD]
      have hf := first i hi
      rw [if_neg (by omega)] at hf
      by_cases h4 : i + 1 < l.length
      · have hf1 := first (i + 1) h4
        rw [if_pos (by omega), show 3 + t + 1 - (i + 1) / 2 = 3 + t - i / 2 by omega] at hf1
        rw [if_pos ⟨he, h4⟩, if_pos h4, hf, hf1]
      · rw [if_neg (fun h => h4 h.2), if_neg h4, hf]
    · have hf := first i hi
      rw [if_pos (by omega)] at hf
      rw [if_neg (fun h => he h.1), hf, show 3 + (t + 1) - i / 2 = 3 + t + 1 - i / 2 by omega]
/-- In halves, the first column shows what it shows in whole turns. -/
theorem halves_zero {l : List ByteArray} (ok : engOk l = true) (t : Nat) : sat (hN (skewS l) t) 0 = sat (turnN l t) 0 := by
  obtain ⟨h1, h2, h3⟩ := engOk_iff.1 ok
  rw [skew_inv ok t 0 (by omega), show 3 + t - 0 / 2 = 3 + t by omega, ← turnN_addW]
  have := turnN_back ok 0 3
  rw [Nat.zero_add] at this
  rw [this]
  rfl
theorem hN_ok {l : List ByteArray} (ok : engOk l = true) (t : Nat) : engOk (hN (skewS l) t) = true := by
  obtain ⟨h1, h2, h3⟩ := engOk_iff.1 ok
  have hl := hN_length (skewS l) t
  rw [skewS_length] at hl
  have key : ∀ i, i < l.length → colOk (sat (hN (skewS l) t) i) = true ∧ (sat (hN (skewS l) t) i).size = (sat l 0).size := by
    intro i hi
    rw [skew_inv ok t i hi]
    have hk := turnN_ok (backN_ok ok 3) (3 + t - i / 2)
    obtain ⟨-, -, k3⟩ := engOk_iff.1 hk
    have hz := k3 i (by rw [turnN_length, backN_length]; exact hi)
    have z0 := turnN_size (l := backN l 3) (by rw [backN_length]; omega) (3 + t - i / 2)
    have b0 : (sat (backN l 3) 0).size = (sat l 0).size := by
      have s1 : ∀ x : List ByteArray, engOk x = true → (sat (backS x) 0).size = (sat x 0).size := fun x hx => (backS_colOk hx 0 (by have := (engOk_iff.1 hx).1; omega)).2
      show (sat (backS (backN l 2)) 0).size = _
      rw [s1 _ (backN_ok ok 2)]
      show (sat (backS (backN l 1)) 0).size = _
      rw [s1 _ (backN_ok ok 1)]
      show (sat (backS (backN l 0)) 0).size = _
      rw [s1 _ (backN_ok ok 0)]
      rfl
    exact ⟨hz.1, by rw [hz.2, z0, b0]⟩
  refine engOk_iff.2 ⟨by rw [hl]; exact h1, by rw [hl]; exact h2, fun k hk => ?_⟩
  rw [hl] at hk
  exact ⟨(key k hk).1, by rw [(key k hk).2, (key 0 (by omega)).2]⟩
end Go.Proofs.YtpniljcnknknoaaGreatDoor

/-
  Drawn engines: l3Some, l3Bad, l3Open.
-/
namespace Go.Proofs.YtpniljcnknknoaaGreatDoor
open Go.RowKit
set_option linter.unusedVariables false
set_option linter.unusedSimpArgs false
set_option maxRecDepth 100000
attribute [local go_sem ↓] Go.wp_at_zero Go.wp_at_succ

theorem grown_ownS {a w w' : World} {g base : Nat} {v : Value} {l : List ByteArray} (h : a.grownBy w (some g)) (k : w.grownBy w' v.ownBlock) (ho : OwnS w base v l) (hb : a.heap.size ≤ base) : a.grownBy w' (some g) :=
  grown_trans h k fun j hj => .inr (by have := (ho.lt j hj).1; omega)
/-- A drawn engine: between lo and hi columns, none longer than B. -/
def DrawnEng (g K' : Nat) (w : World) (lo hi slo shi : Nat) (e : Ending) (w' : World) : Prop :=
  ∃ v l, e = .returned (.agg #[v]) ∧ OwnS w' w.heap.size v l ∧ lo ≤ l.length ∧ l.length ≤ hi ∧ (∀ s ∈ l, slo ≤ s.size ∧ s.size ≤ shi) ∧ Rdr w' g K' ∧ w.grownBy w' (some g)


end Go.Proofs.YtpniljcnknknoaaGreatDoor

/-
  Contracts of a turn: turnedOnce (impl) and l3Turn (spec).
-/
namespace Go.Proofs.YtpniljcnknknoaaGreatDoor
open Go.RowKit
set_option linter.unusedVariables false
set_option maxRecDepth 100000
attribute [local go_sem ↓] Go.wp_at_zero Go.wp_at_succ

/-- a turn half done: the first k columns are new. -/
def mixT (l : List ByteArray) (k j : Nat) : ByteArray := if j < k then sat (turnS l) j else sat l j
theorem mixT_zero (l : List ByteArray) (j : Nat) : mixT l 0 j = sat l j := by simp [mixT]
theorem mixT_end {l : List ByteArray} {k j : Nat} (hk : k + 1 = l.length) (hj : j < l.length) : mixT l k j = sat (turnS l) j := by
  unfold mixT
  split
  · rfl
  · rw [turnS_at hj, if_neg (by omega)]
theorem mixT_self (l : List ByteArray) (k : Nat) : mixT l k k = sat l k := by simp [mixT]
theorem mixT_set {l : List ByteArray} {k : Nat} {cs : List Value} (hk : k + 1 < l.length) (hc : l.length ≤ cs.length) (h : ∀ j, j < l.length → cs[j]? = some (.string (mixT l k j))) :
    ∀ j, j < l.length → (cs.set k (.string (addC (sat l k) (sat l (k + 1)))))[j]? = some (.string (mixT l (k + 1) j)) := by
  intro j hj
  by_cases e : j = k
  · subst e
    rw [List.getElem?_set_self (by omega)]
    unfold mixT
    rw [if_pos (by omega), turnS_at hj, if_pos hk]
  · rw [List.getElem?_set_ne (by omega), h j hj]
    unfold mixT
    by_cases h1 : j < k
    · rw [if_pos h1, if_pos (by omega)]
    · rw [if_neg h1, if_neg (by omega)]
theorem own_turn {w : World} {base g cap : Nat} {cs : List Value} {l : List ByteArray} {k : Nat} (ok : engOk l = true) (hk : k + 1 = l.length) (hg : base ≤ g) (hb : Blk w g 9 cs) (hl : l.length ≤ cap) (hc : cap ≤ 9223372036854775807) (hs : cs.length = cap)
    (h : ∀ j, j < l.length → cs[j]? = some (.string (mixT l k j))) : OwnS w base (.slice (some ⟨g, 0, none⟩) l.length cap) (turnS l) := by
  have := OwnS.mk' (l := turnS l) hg hb (by rw [turnS_length]; exact hl) hc hs (fun j hj => by rw [turnS_length] at hj; rw [h j hj, mixT_end hk hj]) (eng_wf (engOk_turn ok))
  rwa [turnS_length] at this

set_option maxHeartbeats 2000000 in
theorem turnedOnce_any (v : Value) (l : List ByteArray) (w : World) (hv : Strs w v l) (ok : engOk l = true) :
    Calls Tryz.prog 156 #[v] w fun e w' => ∃ r, e = .returned r ∧ OwnS w' w.heap.size r (turnS l) ∧ Below w.heap.size w w' := by
  have HV := Lib.hid hv
  obtain ⟨A, c, rfl, hlc, hc, hrd⟩ := hv.open_
  obtain ⟨l1, l7, hcol⟩ := engOk_iff.1 ok
  obtain ⟨b, o, rfl, hb, hcell⟩ := hrd.strs (by omega)
  have HC := Lib.hid hcell
  have HL := Lib.hid hcol
  have OK := Lib.hid ok
  clear hrd hv hcell hcol ok
  go_enter Tryz.func156, Tryz.ntmps156
  go_wp2_with fail
  refine (cloneS_any _ l _ HV.out (by omega)).mono ?_
  rintro e w1 ⟨r, rfl, ho, hb1⟩
  rcases ho.form with ⟨_, h0⟩ | ⟨g, cap, cs0, rfl, hg, hblk0, hlcap, hcm, hcl0, hcs0⟩
  · exfalso; rw [h0] at l1; simp at l1
  · have H0 := Lib.hid (And.intro hcl0 (And.intro hcs0 hb1))
    have hgz := Lib.hid hblk0.lt
    clear hcl0 hcs0 hb1 ho
    go_wp2_with fail
    go_loopw [4] (fun i wr => ∃ (k : Nat) (cs : List Value), k + 1 ≤ l.length ∧ i = .int .i64 k ∧ Blk wr g 9 cs ∧ cs.length = cap ∧ (∀ j, j < l.length → cs[j]? = some (.string (mixT l k j))) ∧ Below w.heap.size w wr)
      (fun i _ => l.length - (intOf i).toNat)
    case atStart => exact ⟨0, cs0, by omega, rfl, hblk0, H0.out.1, fun j hj => by rw [mixT_zero]; exact H0.out.2.1 j hj, H0.out.2.2⟩
    case round =>
      obtain ⟨k, cs, hk, rfl, hblk, hcl, hcs, hbel⟩ := hrel
      have H := Lib.hid (And.intro hcl (And.intro hcs hbel))
      clear hcl hcs hbel H0 hblk0
      by_cases hlt : k + 1 < l.length
      · have hck : wr.cell? ⟨b, o + k, none⟩ = some (.string (sat l k)) := (H.out.2.2.cell (by exact hb)).trans (HC.out k (by omega))
        have hck1 : wr.cell? ⟨b, o + (k + 1), none⟩ = some (.string (sat l (k + 1))) := (H.out.2.2.cell (by exact hb)).trans (HC.out (k + 1) hlt)
        have hcw : wr.cell? ⟨g, k, none⟩ = some (.string (sat l k)) := by rw [hblk.cell, H.out.2.1 k (by omega), mixT_self]
        have hp : (k : Int) + 1 < (l.length : Int) := by omega
        have hp0 : (0 : Int) ≤ (k : Int) + 1 := by omega
        have hwr : IntKind.i64.wrap ((k : Int) + 1) = (k : Int) + 1 := (by first | go_num | (rw [IntWalk.i64_in] <;> omega))
        have htn : ((k : Int) + 1).toNat = k + 1 := by omega
        have hk0 : k < l.length := by omega
        have hz := hblk.lt
        have tok1 : True := trivial
        go_wp2_with fail
        go_region_law (first
          | (go_simp; go_at_call 215; have _t := tok1; refine (implAdd_any _ _ _ (HL.out k hk0).1 (HL.out (k + 1) hlt).1 ((HL.out k hk0).2.trans (HL.out (k + 1) hlt).2.symm)).mono ?_; rintro e w2 ⟨rfl, b2⟩; replace b2 : Below wr.heap.size wr w2 := (by first | exact b2 | exact bel_trans ((Below.refl _ _).drew) b2); have hbl2 := hblk.below b2 hz; have hcw2 : w2.cell? ⟨g, k, none⟩ = some (.string (sat l k)) := (hbl2.cell k).trans ((H.out.2.1 k hk0).trans (by rw [mixT_self])); have hfw2 := hbl2.frozen k; clear tok1))
        all_goals
          go_wp2
          go_roundw
          case rel =>
            have hB := bel_trans (show Below w.heap.size w wr from H.out.2.2) b2
            refine ⟨k + 1, _, by omega, by go_num, (by first | exact hbl2.set_ k _ | exact hbl2.set_ k _), by rw [List.length_set]; exact H.out.1, mixT_set hlt (by rw [H.out.1]; exact hlcap) H.out.2.1, (by first | exact hB.setCell hg _ | exact (hB.setCell hg _).drew)⟩
          case measure => simp [intOf]; omega
      · go_wp2
        go_ret
        exact ⟨_, rfl, own_turn OK.out (by omega) hg hblk hlcap hcm H.out.1 H.out.2.1, H.out.2.2⟩

end Go.Proofs.YtpniljcnknknoaaGreatDoor

/-
  Drawn engines: l3Bad, l3Open, the arguments of SplitEngine.
-/
namespace Go.Proofs.YtpniljcnknknoaaGreatDoor
open Go.RowKit
set_option linter.unusedVariables false
set_option linter.unusedSimpArgs false
set_option maxRecDepth 100000
attribute [local go_sem ↓] Go.wp_at_zero Go.wp_at_succ

/-- 'append(x, s)', one string, as a step of a region that draws: x is the call's own. -/
theorem step_app_str {ops : Array Oper} {o : Oper} {a : Act} {K : Act → World → Prop} {Q : Exit → Act → World → Prop} {E : Prop} {w : World} (hgd : o.guard = none) (s x : Operand)
    (ho : o.op = .call { callee := .builtin .append, args := #[s, x], argTypes := #[46, 46] })
    (base : Nat) (v : Value) (l : List ByteArray) (hs : a.eval s = v) (hown : OwnS w base v l) (g c : Nat) (z : ByteArray) (hx : a.eval x = .slice (some ⟨g, 0, none⟩) 1 c)
    (hcell : w.cell? ⟨g, 0, none⟩ = some (.string z)) (hz : z.size ≤ 9223372036854775807) (hl : l.length + 1 ≤ 1099511627776) (hbase : base ≤ w.heap.size)
    (h : ∀ A c' w', OwnS w' base (.slice A (l.length + 1) c') (l ++ [z]) → w.grownBy w' v.ownBlock → ((Value.slice A (l.length + 1) c').ownBlock = v.ownBlock ∨ (Value.slice A (l.length + 1) c').ownBlock = some w.heap.size) → K (a.put o.dst (.slice A (l.length + 1) c')) w') :
    if Region.wanted o (yielded ops a.tmps) = true then Oper.wp Tryz.prog o a w K Q else E := by
  have hw : Region.wanted o (yielded ops a.tmps) = true := by simp [Region.wanted, hgd]
  rw [if_pos hw]
  obtain ⟨i0, hi, hz0, hz1, hz2⟩ := info_parts Tryz.infoStr
  obtain ⟨v', w', hrun, h2, h3, _, h5⟩ := run_append_own_at (P := Tryz.prog) w base 46 o.type 9 i0 _ 1 16 Tryz.underlying46 hi hz0 hz1 hz2 rfl (by omega) v l.length (sv l) hown.1 ⟨g, 0, none⟩ 1 c [.string z] rfl (by
    intro j u hj
    match j, hj with
    | 0, hj => simp at hj; subst hj; simpa [Addr.add] using hcell) (by intro u hu; simp at hu; subst hu; rfl) (by unfold maxLen; omega) (by omega) hbase
  have ho' : OwnS w' base v' (l ++ [z]) := by
    refine ⟨?_, ?_, by unfold maxLen; simp; omega⟩
    · rw [sv_append, List.length_append]; exact h2
    · intro n hn
      rcases List.mem_append.1 hn with hn | hn
      · exact hown.2.1 n hn
      · simp at hn; subst hn; exact hz
  obtain ⟨A', c', hv, _, _, _⟩ := ho'.strs.open_
  rw [show (l ++ [z]).length = l.length + 1 by simp] at hv
  subst hv
  unfold Oper.wp execOp
  simp only [ho, resolve, invoke, builtin, Sem.run_bind, Sem.run_pure, Result.andThen_ok, List.map_toArray, List.map_cons, List.map_nil, hs, hx, hrun]
  exact h _ _ w' ho' h3 h5

/-- Where drawing an engine stands. -/
structure StS (w : World) (g K : Nat) (v : Value) (l : List ByteArray) (W : World) : Prop where
  own : OwnS W w.heap.size v l
  rdr : Rdr W g K
  gr : w.grownBy W (some g)
  lt : g < w.heap.size
theorem StS.bel {w : World} {g K : Nat} {v : Value} {l : List ByteArray} {W W' : World} (h : StS w g K v l W) (hb : Below W.heap.size W W') : StS w g K v l W' :=
  ⟨h.own.bel hb, h.rdr.bel hb, only_below h.gr hb, h.lt⟩
theorem StS.grown {w : World} {g K K' : Nat} {v : Value} {l : List ByteArray} {W W' : World} (h : StS w g K v l W) (hb : W.grownBy W' (some g)) (hr : Rdr W' g K') : StS w g K' v l W' :=
  ⟨h.own.far hb (fun k hk => by injection hk with hk; have := h.lt; omega), hr, grown_trans h.gr hb (fun j hj => .inl (by injection hj with hj; exact hj.symm)), h.lt⟩
theorem StS.app {w : World} {g K : Nat} {v v' : Value} {l l' : List ByteArray} {W W' : World} (h : StS w g K v l W) (ho : OwnS W' w.heap.size v' l') (hb : W.grownBy W' v.ownBlock) : StS w g K v' l' W' :=
  ⟨ho, h.rdr.grown hb (fun k hk => by have h1 := (h.own.lt k hk).1; have := h.lt; omega), grown_ownS h.gr hb h.own (Nat.le_refl _), h.lt⟩
theorem StS.far {w : World} {g K : Nat} {v : Value} {l : List ByteArray} {W : World} (h : StS w g K v l W) (p : Addr) (u : Value) (hp : w.heap.size ≤ p.block) (hv : ∀ k, v.ownBlock = some k → k ≠ p.block) : StS w g K v l (W.setCell p u) := by
  have hg := only_setCell (World.grownBy.refl W (some p.block)) (p := p) (.inl rfl) u
  have := h.lt
  exact ⟨⟨h.own.1.kept hg (by
    cases hq : v.ownBlock with
    | none => exact .inl rfl
    | some k => exact .inr fun e => hv k hq (by injection e)), h.own.2⟩, h.rdr.grown hg (fun k hk => by injection hk with hk; omega), grown_trans h.gr hg (fun j hj => .inr (by injection hj with hj; omega)), h.lt⟩

theorem StS.row {w : World} {g K b n cap : Nat} {l : List ByteArray} {W : World} (h : StS w g K (.slice (some ⟨b, 0, none⟩) n cap) l W) : ∃ cs, Blk W b 9 cs ∧ cs.length = cap ∧ l.length ≤ cap ∧ cap ≤ 9223372036854775807 ∧ w.heap.size ≤ b ∧ n = l.length ∧ ∀ j, j < l.length → cs[j]? = some (.string (sat l j)) := by
  rcases h.own.form with ⟨q, _⟩ | ⟨b', cap', cs, e, hb', hbl, h1, h2, hcl, h3⟩
  · cases q
  · injection e with e1 e2 e3
    injection e1 with e1
    injection e1 with e1
    subst e1 e2 e3
    exact ⟨cs, hbl, hcl, h1, h2, hb', rfl, h3⟩
theorem StS.at {w : World} {g K b n cap : Nat} {l : List ByteArray} {W : World} (h : StS w g K (.slice (some ⟨b, 0, none⟩) n cap) l W) {j : Nat} (hj : j < l.length) : W.cell? ⟨b, j, none⟩ = some (.string (sat l j)) ∧ W.frozen? ⟨b, j, none⟩ = false := by
  obtain ⟨cs, hbl, _, _, _, _, _, hc⟩ := h.row
  exact ⟨(hbl.cell j).trans (hc j hj), hbl.frozen j⟩
theorem StS.nil_ {w : World} {g K b n cap : Nat} {l : List ByteArray} {W : World} (h : StS w g K (.slice (some ⟨b, 0, none⟩) n cap) l W) : StS w g K (.slice (some ⟨b, 0, none⟩) 0 cap) [] W := by
  obtain ⟨cs, hbl, hcl, h1, h2, hb, _, hc⟩ := h.row
  exact ⟨OwnS.mk' (l := []) hb hbl (Nat.zero_le _) h2 hcl (fun j hj => absurd hj (by simp)) (fun _ q => by simp at q), h.rdr, h.gr, h.lt⟩
theorem sat_set {l : List ByteArray} {k j : Nat} {z : ByteArray} (hk : k < l.length) : sat (l.set k z) j = if k = j then z else sat l j := by
  unfold sat
  simp only [List.getD, List.getElem?_set, hk]
  split
  · simp
  · rfl
theorem StS.set_ {w : World} {g K b n cap : Nat} {l : List ByteArray} {W : World} (h : StS w g K (.slice (some ⟨b, 0, none⟩) n cap) l W) {k : Nat} (hk : k < l.length) (z : ByteArray) (hz : z.size ≤ 9223372036854775807) :
    StS w g K (.slice (some ⟨b, 0, none⟩) n cap) (l.set k z) (W.setCell ⟨b, k, none⟩ (.string z)) := by
  obtain ⟨cs, hbl, hcl, h1, h2, hb, hn, hc⟩ := h.row
  have hlt := h.lt
  have hg := only_setCell (World.grownBy.refl W (some b)) (p := ⟨b, k, none⟩) (.inl rfl) (.string z)
  have ho := OwnS.mk' (l := l.set k z) hb (hbl.set_ k (.string z)) (by rw [List.length_set]; exact h1) h2 (by rw [List.length_set]; exact hcl) (fun j hj => by
    rw [List.length_set] at hj
    rw [sat_set hk]
    by_cases e : k = j
    · subst e; rw [if_pos rfl, List.getElem?_set_self (by omega)]
    · rw [if_neg e, List.getElem?_set_ne e]; exact hc j hj) (fun s hs => by
    rcases List.mem_or_eq_of_mem_set hs with q | q
    · exact h.own.2.1 s q
    · rw [q]; exact hz)
  rw [List.length_set, ← hn] at ho
  exact ⟨ho, h.rdr.grown hg (fun j hj => by injection hj with hj; omega), grown_trans h.gr hg (fun j hj => .inr (by injection hj with hj; omega)), h.lt⟩
theorem grown_drew {w w' : World} {row : Option Nat} (h : w.drew.grownBy w' row) : w.grownBy w' row := ⟨h.os, h.tape, h.output, h.size, h.block⟩

/-- A drawn engine, held beside a reader. -/
def DrawnEngS (w : World) (g K' hi shi : Nat) (e : Ending) (w' : World) : Prop :=
  ∃ v l, e = .returned (.agg #[v]) ∧ StS w g K' v l w' ∧ l.length ≤ hi ∧ ∀ s ∈ l, s.size ≤ shi



/-- The drawn arguments of SplitEngine. -/
def DrawnSplit (w : World) (e : Ending) (w' : World) : Prop :=
  ∃ v l n, e = .returned (.tuple #[.agg #[v], .int .i64 n]) ∧ Strs w' v l ∧ l.length ≤ 8 ∧ -9223372036854775808 ≤ n ∧ n ≤ 9223372036854775807 ∧ Below w.heap.size w w'



end Go.Proofs.YtpniljcnknknoaaGreatDoor

/-
  UnskewEngine, plainly: it undoes what SkewEngine does.
-/
namespace Go.Proofs.YtpniljcnknknoaaGreatDoor
open Go.RowKit
set_option linter.unusedVariables false
set_option linter.unusedSimpArgs false

/-- One step: column i, found again. -/
def unskX (l R : List ByteArray) (i : Nat) : List ByteArray := (backN (R.drop i) (i / 2)).set 0 (sat l i)
def unskZ (l R : List ByteArray) (i : Nat) : ByteArray := sat (turnN (unskX l R i) (i / 2)) 0
/-- The columns behind k steps, from the last one on. -/
def unskN (l : List ByteArray) : Nat → List ByteArray
  | 0 => l
  | k + 1 => (unskN l k).set (l.length - 1 - k) (unskZ l (unskN l k) (l.length - 1 - k))
def unskS (l : List ByteArray) : List ByteArray := unskN l l.length
theorem unskN_length (l : List ByteArray) : ∀ k, (unskN l k).length = l.length
  | 0 => rfl
  | k + 1 => by show (List.set _ _ _).length = _; rw [List.length_set, unskN_length l k]
theorem sat_drop (l : List ByteArray) (i j : Nat) : sat (l.drop i) j = sat l (i + j) := by
  unfold sat
  simp [List.getD]
theorem engOk_drop {l : List ByteArray} (h : engOk l = true) {i : Nat} (hi : i < l.length) : engOk (l.drop i) = true := by
  obtain ⟨h1, h2, h3⟩ := engOk_iff.1 h
  refine engOk_iff.2 ⟨by rw [List.length_drop]; omega, by rw [List.length_drop]; omega, fun k hk => ?_⟩
  rw [List.length_drop] at hk
  rw [sat_drop, sat_drop]
  exact ⟨(h3 _ (by omega)).1, by rw [(h3 _ (by omega)).2, (h3 (i + 0) (by omega)).2]⟩
theorem engOk_set {l : List ByteArray} (h : engOk l = true) {i : Nat} (hi : i < l.length) {z : ByteArray} (hz : colOk z = true) (hs : z.size = (sat l 0).size) : engOk (l.set i z) = true := by
  obtain ⟨h1, h2, h3⟩ := engOk_iff.1 h
  have hsz : ∀ k, k < l.length → (sat (l.set i z) k).size = (sat l 0).size := fun k hk => by
    rw [sat_set hi]
    split
    · exact hs
    · exact (h3 k hk).2
  refine engOk_iff.2 ⟨by rw [List.length_set]; exact h1, by rw [List.length_set]; exact h2, fun k hk => ?_⟩
  rw [List.length_set] at hk
  refine ⟨?_, by rw [hsz k hk, hsz 0 (by omega)]⟩
  rw [sat_set hi]
  split
  · exact hz
  · exact (h3 k hk).1
theorem backN_zero_size {l : List ByteArray} (h : engOk l = true) (n : Nat) : (sat (backN l n) 0).size = (sat l 0).size := by
  obtain ⟨h1, -, -⟩ := engOk_iff.1 h
  induction n with
  | zero => rfl
  | succ n ih =>
    show (sat (backS (backN l n)) 0).size = _
    rw [(backS_colOk (backN_ok h n) 0 (by rw [backN_length]; omega)).2, ih]
theorem unskX_ok {l R : List ByteArray} (hl : engOk l = true) (hR : engOk R = true) (hn : R.length = l.length) (hs : (sat R 0).size = (sat l 0).size) {i : Nat} (hi : i < l.length) : engOk (unskX l R i) = true ∧ (sat (unskX l R i) 0).size = (sat l 0).size := by
  have hd := engOk_drop hR (i := i) (by omega)
  obtain ⟨h1, -, -⟩ := engOk_iff.1 hd
  have h3 := (engOk_iff.1 hl).2.2 i hi
  have h4 := (engOk_iff.1 hR).2.2 i (by omega)
  have hb := backN_ok hd (i / 2)
  have hbl := backN_length (R.drop i) (i / 2)
  refine ⟨engOk_set hb (by rw [hbl]; omega) h3.1 ?_, ?_⟩
  · rw [backN_zero_size hd, sat_drop, Nat.add_zero, h4.2, h3.2, hs]
  · unfold unskX
    rw [sat_set (by rw [hbl]; omega), if_pos rfl]
    exact h3.2
theorem unskZ_ok {l R : List ByteArray} (hl : engOk l = true) (hR : engOk R = true) (hn : R.length = l.length) (hs : (sat R 0).size = (sat l 0).size) {i : Nat} (hi : i < l.length) : colOk (unskZ l R i) = true ∧ (unskZ l R i).size = (sat l 0).size := by
  obtain ⟨h1, h2⟩ := unskX_ok hl hR hn hs hi
  obtain ⟨q1, q2, q3⟩ := engOk_iff.1 (turnN_ok h1 (i / 2))
  exact ⟨(q3 0 (by omega)).1, by unfold unskZ; rw [turnN_size (by rw [turnN_length] at q1; omega)]; exact h2⟩
theorem unskN_ok {l : List ByteArray} (hl : engOk l = true) : ∀ k, k ≤ l.length → engOk (unskN l k) = true ∧ (sat (unskN l k) 0).size = (sat l 0).size
  | 0, _ => ⟨hl, rfl⟩
  | k + 1, hk => by
    obtain ⟨h1, h2⟩ := unskN_ok hl k (by omega)
    have hlen := unskN_length l k
    obtain ⟨z1, z2⟩ := unskZ_ok hl h1 hlen h2 (i := l.length - 1 - k) (by omega)
    refine ⟨engOk_set h1 (by rw [hlen]; omega) z1 (by rw [z2, h2]), ?_⟩
    show (sat (List.set _ _ _) 0).size = _
    rw [sat_set (by rw [hlen]; omega)]
    split
    · exact z2
    · exact h2
theorem unskS_ok {l : List ByteArray} (hl : engOk l = true) : engOk (unskS l) = true := (unskN_ok hl _ (Nat.le_refl _)).1
theorem unskS_length (l : List ByteArray) : (unskS l).length = l.length := unskN_length _ _
/-- A turn back leaves the columns above alone. -/
theorem backS_cons (x : ByteArray) (t : List ByteArray) : ∃ z, backS (x :: t) = z :: backS t := by
  cases t with
  | nil => exact ⟨x, rfl⟩
  | cons y r => exact ⟨_, rfl⟩
theorem backN_cons (x : ByteArray) (t : List ByteArray) : ∀ m, ∃ z, backN (x :: t) m = z :: backN t m
  | 0 => ⟨x, rfl⟩
  | m + 1 => by
    obtain ⟨z, hz⟩ := backN_cons x t m
    show ∃ y, backS (backN (x :: t) m) = y :: backS (backN t m)
    rw [hz]
    exact backS_cons z _
theorem backN_drop (l : List ByteArray) (m : Nat) : ∀ i, backN (l.drop i) m = (backN l m).drop i := by
  intro i
  induction l generalizing i with
  | nil =>
    have : ∀ m, backN ([] : List ByteArray) m = [] := by
      intro m
      induction m with
      | zero => rfl
      | succ m ih => show backS (backN [] m) = []; rw [ih]; rfl
    simp [this]
  | cons x t ih =>
    cases i with
    | zero => rfl
    | succ i =>
      obtain ⟨z, hz⟩ := backN_cons x t m
      rw [List.drop_succ_cons, ih, hz, List.drop_succ_cons]
/-- The engine half found again: the last k columns are the engine's, the others are askew still. -/
def mixE (E : List ByteArray) (k : Nat) : List ByteArray := genS (fun j => if E.length - k ≤ j then sat E j else sat (skewS E) j) E.length
theorem mixE_at {E : List ByteArray} {k j : Nat} (h : j < E.length) : sat (mixE E k) j = if E.length - k ≤ j then sat E j else sat (skewS E) j := at_genS h
theorem mixE_length (E : List ByteArray) (k : Nat) : (mixE E k).length = E.length := genS_length _ _
theorem skewS_at {E : List ByteArray} {i : Nat} (h : i < E.length) : sat (skewS E) i = sat (backN E (i / 2)) i := at_genS h
theorem drop_cons {l : List ByteArray} {i : Nat} (h : i < l.length) : l.drop i = sat l i :: l.drop (i + 1) := by
  rw [List.drop_eq_getElem_cons h, sat_eq l i h]
theorem unskZ_mix {E : List ByteArray} (hE : engOk E = true) {k : Nat} (hk : k < E.length) : unskZ (skewS E) (mixE E k) (E.length - 1 - k) = sat E (E.length - 1 - k) := by
  obtain ⟨i, hi⟩ : ∃ i, E.length - 1 - k = i := ⟨_, rfl⟩
  have hil : i < E.length := by omega
  rw [hi]
  have hdr : (mixE E k).drop (i + 1) = E.drop (i + 1) := by
    apply ext_sat
    · rw [List.length_drop, List.length_drop, mixE_length]
    · intro j hj
      rw [List.length_drop] at hj
      rw [sat_drop, sat_drop, mixE_at (by omega), if_pos (by omega)]
  have hX : unskX (skewS E) (mixE E k) i = backN (E.drop i) (i / 2) := by
    unfold unskX
    rw [drop_cons (l := mixE E k) (by rw [mixE_length]; exact hil), hdr]
    obtain ⟨z, hz⟩ := backN_cons (sat (mixE E k) i) (E.drop (i + 1)) (i / 2)
    rw [hz, skewS_at hil]
    have h2 := drop_cons (l := backN E (i / 2)) (i := i) (by rw [backN_length]; exact hil)
    rw [backN_drop, backN_drop, h2]
    rfl
  unfold unskZ
  rw [hX]
  have := turnN_back (engOk_drop hE hil) 0 (i / 2)
  rw [Nat.zero_add] at this
  rw [this]
  show sat (E.drop i) 0 = _
  rw [sat_drop, Nat.add_zero]
theorem unskN_mix {E : List ByteArray} (hE : engOk E = true) : ∀ k, k ≤ E.length → unskN (skewS E) k = mixE E k
  | 0, _ => by
    apply ext_sat
    · rw [mixE_length]; exact skewS_length E
    · intro j hj
      rw [mixE_length] at hj
      rw [mixE_at hj, if_neg (by omega)]
      rfl
  | k + 1, hk => by
    have ih := unskN_mix hE k (by omega)
    have hl := skewS_length E
    show (unskN (skewS E) k).set ((skewS E).length - 1 - k) (unskZ (skewS E) (unskN (skewS E) k) ((skewS E).length - 1 - k)) = _
    rw [ih, hl, unskZ_mix hE (by omega)]
    apply ext_sat
    · rw [List.length_set, mixE_length, mixE_length]
    · intro j hj
      rw [mixE_length] at hj
      rw [sat_set (by rw [mixE_length]; omega), mixE_at hj, mixE_at hj]
      by_cases e : E.length - 1 - k = j
      · rw [if_pos e, if_pos (by omega), e]
      · rw [if_neg e]
        by_cases h1 : E.length - k ≤ j
        · rw [if_pos h1, if_pos (by omega)]
        · rw [if_neg h1, if_neg (by omega)]
/-- Set askew and back again, an engine is what it was. -/
theorem unskew_skew {E : List ByteArray} (hE : engOk E = true) : unskS (skewS E) = E := by
  unfold unskS
  rw [skewS_length, unskN_mix hE _ (Nat.le_refl _)]
  apply ext_sat
  · exact mixE_length _ _
  · intro j hj
    rw [mixE_at hj, if_pos (by omega)]
theorem skewS_ok {l : List ByteArray} (ok : engOk l = true) : engOk (skewS l) = true := hN_ok ok 0
end Go.Proofs.YtpniljcnknknoaaGreatDoor

/-
  Differences of columns, turns back, half turns (impl; printed by gen_wha.py).
-/
namespace Go.Proofs.YtpniljcnknknoaaGreatDoor
open Go.RowKit
set_option linter.unusedVariables false
set_option linter.unusedSimpArgs false
set_option maxRecDepth 100000
attribute [local go_sem ↓] Go.wp_at_zero Go.wp_at_succ

set_option maxHeartbeats 1000000 in
theorem implSub_any (s t : ByteArray) (w : World) (hs : colOk s = true) (ht : colOk t = true) (he : s.size = t.size) :
    Calls Tryz.prog 247 #[.string s, .string t] w fun e w' => e = .returned (.tuple #[.string (subC s t), .bool true]) ∧ Below w.heap.size w w' := by
  have ha := alikeC_true.2 ⟨hs, ht, he⟩
  have s3 : s.size ≤ 9223372036854775807 := by have := colOk_true hs; omega
  have t3 : t.size ≤ 9223372036854775807 := by have := colOk_true ht; omega
  have k12 := (colOk_true hs).2.1
  have c1 := cv_le hs
  have c2 := cv_le ht
  have hT := ten_le k12
  have hT1 := ten_pos s.size
  have hm : md ((cv s : Int) - (cv t : Int)) (ten s.size) < 1000000000000 := by have := md_lt ((cv s : Int) - (cv t : Int)) hT1; omega
  have HE := Lib.hid he
  clear he
  go_enter Tryz.func247, Tryz.ntmps247
  go_wp2_with (first | (go_at_call 158; refine (implAlike_any _ _ _ (by assumption) (by assumption)).mono ?_; rintro e w' ⟨rfl, rfl⟩) | (go_at_call 211; refine (valueOf_any _ _ (by assumption)).mono ?_; rintro e w' ⟨rfl, rfl⟩) | (go_at_call 140; refine (power_any s.size _ k12).mono ?_; rintro e w' ⟨rfl, rfl⟩))
  refine (modulo_any ((cv s : Int) - (cv t : Int)) (ten s.size) _ ⟨hT1, hT⟩).mono ?_
  rintro e w' ⟨rfl, rfl⟩
  go_wp2_with fail
  refine (show_any _ s.size _ hm k12).mono ?_
  rintro e w' ⟨rfl, hb⟩
  go_wp2
  go_ret2
  exact ⟨rfl, hb⟩


/-- A turn back half done: the columns from k on are new. -/
def mixB (l : List ByteArray) (k j : Nat) : ByteArray := if k ≤ j then sat (backS l) j else sat l j
theorem mixB_start {l : List ByteArray} {k : Nat} (hk : k + 1 = l.length) (j : Nat) (hj : j < l.length) : mixB l k j = sat l j := by
  unfold mixB
  split
  · rw [backS_at l j hj, if_neg (by omega)]
  · rfl
theorem mixB_set {l : List ByteArray} {k : Nat} {cs : List Value} (hk : k + 1 < l.length) (hc : l.length ≤ cs.length) (h : ∀ j, j < l.length → cs[j]? = some (.string (mixB l (k + 1) j))) :
    ∀ j, j < l.length → (cs.set k (.string (subC (sat l k) (sat (backS l) (k + 1)))))[j]? = some (.string (mixB l k j)) := by
  intro j hj
  by_cases e : j = k
  · subst e
    rw [List.getElem?_set_self (by omega)]
    unfold mixB
    rw [if_pos (by omega), backS_at l j hj, if_pos hk]
  · rw [List.getElem?_set_ne (by omega), h j hj]
    unfold mixB
    by_cases h1 : k + 1 ≤ j
    · rw [if_pos h1, if_pos (by omega)]
    · rw [if_neg h1, if_neg (by omega)]
theorem own_back {w : World} {base g cap : Nat} {cs : List Value} {l : List ByteArray} (ok : engOk l = true) (hg : base ≤ g) (hb : Blk w g 9 cs) (hl : l.length ≤ cap) (hc : cap ≤ 9223372036854775807) (hs : cs.length = cap)
    (h : ∀ j, j < l.length → cs[j]? = some (.string (mixB l 0 j))) : OwnS w base (.slice (some ⟨g, 0, none⟩) l.length cap) (backS l) := by
  have := OwnS.mk' (l := backS l) hg hb (by rw [backS_length]; exact hl) hc hs (fun j hj => by rw [backS_length] at hj; rw [h j hj]; unfold mixB; rw [if_pos (Nat.zero_le _)]) (eng_wf (engOk_back ok))
  rwa [backS_length] at this

set_option maxHeartbeats 2000000 in
theorem turnedBack_any (v : Value) (l : List ByteArray) (w : World) (hv : Strs w v l) (ok : engOk l = true) :
    Calls Tryz.prog 216 #[v] w fun e w' => ∃ r, e = .returned r ∧ OwnS w' w.heap.size r (backS l) ∧ Below w.heap.size w w' := by
  have HV := Lib.hid hv
  obtain ⟨A, c, rfl, hlc, hc, hrd⟩ := hv.open_
  obtain ⟨l1, l7, hcol⟩ := engOk_iff.1 ok
  obtain ⟨b, o, rfl, hb, hcell⟩ := hrd.strs (by omega)
  have HC := Lib.hid hcell
  have HL := Lib.hid hcol
  have OK := Lib.hid ok
  clear hrd hv hcell hcol ok
  go_enter Tryz.func216, Tryz.ntmps216
  go_wp2_with fail
  refine (cloneS_any _ l _ HV.out (by omega)).mono ?_
  rintro e w1 ⟨r, rfl, ho, hb1⟩
  rcases ho.form with ⟨_, h0⟩ | ⟨g, cap, cs0, rfl, hg, hblk0, hlcap, hcm, hcl0, hcs0⟩
  · exfalso; rw [h0] at l1; simp at l1
  · have H0 := Lib.hid (And.intro hcl0 (And.intro hcs0 hb1))
    have hgz := Lib.hid hblk0.lt
    clear hcl0 hcs0 hb1 ho
    go_wp2_with fail
    go_loopw [4] (fun i wr => ∃ (k : Nat) (cs : List Value), k < l.length ∧ i = .int .i64 ((k : Int) - 1) ∧ Blk wr g 9 cs ∧ cs.length = cap ∧ (∀ j, j < l.length → cs[j]? = some (.string (mixB l k j))) ∧ Below w.heap.size w wr)
      (fun i _ => ((intOf i) + 1).toNat)
    case atStart => exact ⟨l.length - 1, cs0, by omega, by go_num, hblk0, H0.out.1, fun j hj => by rw [mixB_start (by omega) j hj]; exact H0.out.2.1 j hj, H0.out.2.2⟩
    case round =>
      obtain ⟨k, cs, hk, rfl, hblk, hcl, hcs, hbel⟩ := hrel
      have H := Lib.hid (And.intro hcl (And.intro hcs hbel))
      clear hcl hcs hbel H0 hblk0
      cases k with
      | zero =>
        go_wp2
        go_ret
        exact ⟨_, rfl, own_back OK.out hg hblk hlcap hcm H.out.1 H.out.2.1, H.out.2.2⟩
      | succ k =>
        have hck : wr.cell? ⟨b, o + k, none⟩ = some (.string (sat l k)) := (H.out.2.2.cell (by exact hb)).trans (HC.out k (by omega))
        have hcn : wr.cell? ⟨g, k + 1, none⟩ = some (.string (sat (backS l) (k + 1))) := by rw [hblk.cell, H.out.2.1 (k + 1) hk]; unfold mixB; rw [if_pos (Nat.le_refl _)]
        have hcw : wr.cell? ⟨g, k, none⟩ = some (.string (sat l k)) := by rw [hblk.cell, H.out.2.1 k (by omega)]; unfold mixB; rw [if_neg (by omega)]
        have hkk : (((k + 1 : Nat) : Int) - 1) = (k : Int) := by omega
        rw [hkk]
        have hp : (k : Int) + 1 < (l.length : Int) := by omega
        have hp0 : (0 : Int) ≤ (k : Int) + 1 := by omega
        have hwr : IntKind.i64.wrap ((k : Int) + 1) = (k : Int) + 1 := (by first | go_num | (rw [IntWalk.i64_in] <;> omega))
        have htn : ((k : Int) + 1).toNat = k + 1 := by omega
        have hk0 : k < l.length := by omega
        have hz := hblk.lt
        have BK := Lib.hid (backS_colOk OK.out (k + 1) hk)
        have tok1 : True := trivial
        go_wp2_with fail
        go_region_law (first
          | (go_simp; go_at_call 247; have _t := tok1; refine (implSub_any _ _ _ (HL.out k hk0).1 BK.out.1 ((HL.out k hk0).2.trans BK.out.2.symm)).mono ?_; rintro e w2 ⟨rfl, b2⟩; replace b2 : Below wr.heap.size wr w2 := (by first | exact b2 | exact bel_trans ((Below.refl _ _).drew) b2); have hbl2 := hblk.below b2 hz; have hcw2 : w2.cell? ⟨g, k, none⟩ = some (.string (sat l k)) := (b2.cell hz).trans hcw; have hfw2 := hbl2.frozen k; clear tok1))
        all_goals
          go_wp2
          go_roundw
          case rel =>
            have hB := bel_trans (show Below w.heap.size w wr from H.out.2.2) b2
            refine ⟨k, _, by omega, by go_num, (by first | exact hbl2.set_ k _ | exact hbl2.set_ k _), by rw [List.length_set]; exact H.out.1, mixB_set hk (by rw [H.out.1]; exact hlcap) H.out.2.1, (by first | exact hB.setCell hg _ | exact (hB.setCell hg _).drew)⟩
          case measure => simp [intOf]


/-- Half a turn half done: of the columns of f's kind those ahead of k are new. -/
def mixH (l : List ByteArray) (f k j : Nat) : ByteArray := if j < k then sat (halfS l f) j else sat l j
theorem mixH_set {l : List ByteArray} {f k : Nat} {cs : List Value} (hf : k % 2 = f) (hk : k + 1 < l.length) (hc : l.length ≤ cs.length) (h : ∀ j, j < l.length → cs[j]? = some (.string (mixH l f k j))) :
    ∀ j, j < l.length → (cs.set k (.string (addC (sat l k) (sat l (k + 1)))))[j]? = some (.string (mixH l f (k + 2) j)) := by
  intro j hj
  by_cases e : j = k
  · subst e
    rw [List.getElem?_set_self (by omega)]
    unfold mixH
    rw [if_pos (by omega), halfS_at hj, if_pos ⟨hf, hk⟩]
  · rw [List.getElem?_set_ne (by omega), h j hj]
    unfold mixH
    by_cases h1 : j < k
    · rw [if_pos h1, if_pos (by omega)]
    · rw [if_neg h1]
      by_cases h2 : j < k + 2
      · rw [if_pos h2, halfS_at hj, if_neg (fun h => by omega)]
      · rw [if_neg h2]
theorem mixH_start (l : List ByteArray) (f j : Nat) (hf : f ≤ 1) (hj : j < l.length) : mixH l f f j = sat l j := by
  unfold mixH
  split
  · rw [halfS_at hj, if_neg (fun h => by omega)]
  · rfl
theorem mixH_end {l : List ByteArray} {f k j : Nat} (hf : k % 2 = f) (hk : ¬ k + 1 < l.length) (hj : j < l.length) : mixH l f k j = sat (halfS l f) j := by
  unfold mixH
  split
  · rfl
  · rw [halfS_at hj, if_neg (fun h => by omega)]
theorem engOk_half {l : List ByteArray} (h : engOk l = true) (f : Nat) : engOk (halfS l f) = true := by
  obtain ⟨h1, h2, h3⟩ := engOk_iff.1 h
  have key : ∀ i, i < l.length → colOk (sat (halfS l f) i) = true ∧ (sat (halfS l f) i).size = (sat l 0).size := by
    intro i hi
    rw [halfS_at hi]
    split
    · exact ⟨addC_ok (h3 i hi).1, by rw [addC_size]; exact (h3 i hi).2⟩
    · exact h3 i hi
  refine engOk_iff.2 ⟨by rw [halfS_length]; exact h1, by rw [halfS_length]; exact h2, fun k hk => ?_⟩
  rw [halfS_length] at hk
  exact ⟨(key k hk).1, by rw [(key k hk).2, (key 0 (by omega)).2]⟩
theorem own_half {w : World} {base g cap : Nat} {cs : List Value} {l : List ByteArray} {f : Nat} (ok : engOk l = true) (hg : base ≤ g) (hb : Blk w g 9 cs) (hl : l.length ≤ cap) (hc : cap ≤ 9223372036854775807) (hs : cs.length = cap)
    (h : ∀ j, j < l.length → cs[j]? = some (.string (sat (halfS l f) j))) : OwnS w base (.slice (some ⟨g, 0, none⟩) l.length cap) (halfS l f) := by
  have := OwnS.mk' (l := halfS l f) hg hb (by rw [halfS_length]; exact hl) hc hs (fun j hj => by rw [halfS_length] at hj; exact h j hj) (eng_wf (engOk_half ok f))
  rwa [halfS_length] at this

set_option maxHeartbeats 2000000 in
theorem turnedHalf_any (v : Value) (l : List ByteArray) (f : Nat) (w : World) (hf : f ≤ 1) (hv : Strs w v l) (ok : engOk l = true) :
    Calls Tryz.prog 262 #[v, .int .i64 f] w fun e w' => ∃ r, e = .returned r ∧ OwnS w' w.heap.size r (halfS l f) ∧ Below w.heap.size w w' := by
  have HV := Lib.hid hv
  obtain ⟨A, c, rfl, hlc, hc, hrd⟩ := hv.open_
  obtain ⟨l1, l7, hcol⟩ := engOk_iff.1 ok
  obtain ⟨b, o, rfl, hb, hcell⟩ := hrd.strs (by omega)
  have HC := Lib.hid hcell
  have HL := Lib.hid hcol
  have OK := Lib.hid ok
  clear hrd hv hcell hcol ok
  go_enter Tryz.func262, Tryz.ntmps262
  go_wp2_with fail
  refine (cloneS_any _ l _ HV.out (by omega)).mono ?_
  rintro e w1 ⟨r, rfl, ho, hb1⟩
  rcases ho.form with ⟨_, h0⟩ | ⟨g, cap, cs0, rfl, hg, hblk0, hlcap, hcm, hcl0, hcs0⟩
  · exfalso; rw [h0] at l1; simp at l1
  · have H0 := Lib.hid (And.intro hcl0 (And.intro hcs0 hb1))
    have hgz := Lib.hid hblk0.lt
    clear hcl0 hcs0 hb1 ho
    go_wp2_with fail
    go_loopw [6] (fun i wr => ∃ (k : Nat) (cs : List Value), (k % 2 = f ∧ k ≤ l.length + 1) ∧ i = .int .i64 k ∧ Blk wr g 9 cs ∧ cs.length = cap ∧ (∀ j, j < l.length → cs[j]? = some (.string (mixH l f k j))) ∧ Below w.heap.size w wr)
      (fun i _ => l.length + 2 - (intOf i).toNat)
    case atStart => exact ⟨f, cs0, ⟨by omega, by omega⟩, rfl, hblk0, H0.out.1, fun j hj => by rw [mixH_start l f j hf hj]; exact H0.out.2.1 j hj, H0.out.2.2⟩
    case round =>
      obtain ⟨k, cs, hk, rfl, hblk, hcl, hcs, hbel⟩ := hrel
      have H := Lib.hid (And.intro hcl (And.intro hcs hbel))
      clear hcl hcs hbel H0 hblk0
      by_cases hlt : k + 1 < l.length
      · have hck : wr.cell? ⟨b, o + k, none⟩ = some (.string (sat l k)) := (H.out.2.2.cell (by exact hb)).trans (HC.out k (by omega))
        have hck1 : wr.cell? ⟨b, o + (k + 1), none⟩ = some (.string (sat l (k + 1))) := (H.out.2.2.cell (by exact hb)).trans (HC.out (k + 1) hlt)
        have hcw : wr.cell? ⟨g, k, none⟩ = some (.string (sat l k)) := by rw [hblk.cell, H.out.2.1 k (by omega)]; unfold mixH; rw [if_neg (by omega)]
        have hp : (k : Int) + 1 < (l.length : Int) := by omega
        have hp0 : (0 : Int) ≤ (k : Int) + 1 := by omega
        have hwr : IntKind.i64.wrap ((k : Int) + 1) = (k : Int) + 1 := (by first | go_num | (rw [IntWalk.i64_in] <;> omega))
        have htn : ((k : Int) + 1).toNat = k + 1 := by omega
        have hk0 : k < l.length := by omega
        have hz := hblk.lt
        have tok1 : True := trivial
        go_wp2_with fail
        go_region_law (first
          | (go_simp; go_at_call 215; have _t := tok1; refine (implAdd_any _ _ _ (HL.out k hk0).1 (HL.out (k + 1) hlt).1 ((HL.out k hk0).2.trans (HL.out (k + 1) hlt).2.symm)).mono ?_; rintro e w2 ⟨rfl, b2⟩; replace b2 : Below wr.heap.size wr w2 := (by first | exact b2 | exact bel_trans ((Below.refl _ _).drew) b2); have hbl2 := hblk.below b2 hz; have hcw2 : w2.cell? ⟨g, k, none⟩ = some (.string (sat l k)) := (b2.cell hz).trans hcw; have hfw2 := hbl2.frozen k; clear tok1))
        all_goals
          go_wp2
          go_roundw
          case rel =>
            have hB := bel_trans (show Below w.heap.size w wr from H.out.2.2) b2
            refine ⟨k + 2, _, ⟨by omega, by omega⟩, by go_num, (by first | exact hbl2.set_ k _ | exact hbl2.set_ k _), by rw [List.length_set]; exact H.out.1, mixH_set hk.1 hlt (by rw [H.out.1]; exact hlcap) H.out.2.1, (by first | exact hB.setCell hg _ | exact (hB.setCell hg _).drew)⟩
          case measure => simp [intOf]; omega
      · go_wp2
        go_ret
        exact ⟨_, rfl, own_half OK.out hg hblk hlcap hcm H.out.1 (fun j hj => by rw [H.out.2.1 j hj, mixH_end hk.1 hlt hj]), H.out.2.2⟩

end Go.Proofs.YtpniljcnknknoaaGreatDoor

/-
  Contracts of l3Turn, l3Many (spec), turnedMany (impl; turns forwards).
-/
namespace Go.Proofs.YtpniljcnknknoaaGreatDoor
open Go.RowKit
set_option linter.unusedVariables false
set_option linter.unusedSimpArgs false
set_option maxRecDepth 100000
attribute [local go_sem ↓] Go.wp_at_zero Go.wp_at_succ


set_option maxHeartbeats 2000000 in
theorem turnedMany_any (v : Value) (l : List ByteArray) (n : Nat) (w : World) (hv : Strs w v l) (ok : engOk l = true) (hn : n ≤ 300) :
    Calls Tryz.prog 157 #[v, .int .i64 n] w fun e w' => ∃ r, e = .returned r ∧ OwnS w' w.heap.size r (turnN l n) ∧ Below w.heap.size w w' := by
  have HV := Lib.hid hv
  obtain ⟨A, c, rfl, hlc, hc, hrd⟩ := hv.open_
  have l7 := (engOk_iff.1 ok).2.1
  have OK := Lib.hid ok
  clear hrd hv ok
  go_enter Tryz.func157, Tryz.ntmps157
  go_wp2_with fail
  refine (cloneS_any _ l _ HV.out (by omega)).mono ?_
  rintro e w1 ⟨r, rfl, ho, hb1⟩
  have H0 := Lib.hid (And.intro ho hb1)
  clear ho hb1
  go_wp2_with fail
  go_loopw [1, 5] (fun m x wr => ∃ (k : Nat), k ≤ n ∧ m = .int .i64 ((n : Int) - (k : Int)) ∧ OwnS wr w.heap.size x (turnN l k) ∧ Below w.heap.size w wr) (fun m _ _ => (intOf m).toNat)
  case atStart => exact ⟨0, by omega, by simp, H0.out.1, H0.out.2⟩
  case round =>
    clear H0
    obtain ⟨k, hk, rfl, hox, hbel⟩ := hrel
    have H := Lib.hid (And.intro hox hbel)
    clear hox hbel
    by_cases hlt : k < n
    · go_wp2_with fail
      refine (turnedOnce_any _ (turnN l k) _ H.out.1.strs (turnN_ok OK.out k)).mono ?_
      rintro e w2 ⟨r2, rfl, ho2, hb2⟩
      have H2 := Lib.hid (And.intro (ho2.lower (base' := w.heap.size) H.out.2.size) (bel_trans H.out.2 hb2))
      clear ho2 hb2
      go_wp2_with fail
      go_roundw
      case rel => exact ⟨k + 1, by omega, by go_num, H2.out.1, H2.out.2⟩
      case measure => simp [intOf]; omega
    · have : k = n := by omega
      subst this
      go_wp2_with fail
      refine wp_loop_rounds 1 ?_
      rw [rounds_succ]
      go_wp2_with fail
      go_ret
      exact ⟨_, rfl, H.out.1, H.out.2⟩


end Go.Proofs.YtpniljcnknknoaaGreatDoor

/-
  The contract of impl.CascadeTurn.
-/
namespace Go.Proofs.YtpniljcnknknoaaGreatDoor
open Go.RowKit
set_option linter.unusedVariables false
set_option linter.unusedSimpArgs false
set_option maxRecDepth 100000
attribute [local go_sem ↓] Go.wp_at_zero Go.wp_at_succ

def cA (a b : List ByteArray) : List ByteArray := if joinOk a b = true then turnS a else []
def cB (a b : List ByteArray) : List ByteArray := if joinOk a b = true then cascB a b else []
theorem cAB_no {a b : List ByteArray} (h : joinOk a b = false) : cA a b = [] ∧ cB a b = [] := by simp [cA, cB, h]
theorem cAB_yes {a b : List ByteArray} (h : joinOk a b = true) : cA a b = turnS a ∧ cB a b = cascB a b := by simp [cA, cB, h]
theorem cA_len {a b : List ByteArray} : (cA a b).length ≤ a.length := by
  unfold cA; split
  · rw [turnS_length]; exact Nat.le_refl _
  · simp
theorem cB_len {a b : List ByteArray} : (cB a b).length ≤ b.length := by
  unfold cB; split
  · rw [cascB_length]; exact Nat.le_refl _
  · simp
theorem casc_set {a b : List ByteArray} {cs : List Value} {k : Nat} (hk : k + 1 = b.length) (hc : b.length ≤ cs.length) (h : ∀ j, j < b.length → cs[j]? = some (.string (sat (turnS b) j))) :
    ∀ j, j < b.length → (cs.set k (.string (addC (sat b k) (sat a 0))))[j]? = some (.string (sat (cascB a b) j)) := by
  intro j hj
  by_cases e : j = k
  · subst e
    rw [List.getElem?_set_self (by omega), cascB, at_genS hj, if_neg (by omega)]
  · rw [List.getElem?_set_ne (by omega), h j hj, cascB, at_genS hj, turnS_at hj, if_pos (by omega), if_pos (by omega)]
theorem own_casc {w : World} {base g cap : Nat} {cs : List Value} {a b : List ByteArray} (ok : joinOk a b = true) (hg : base ≤ g) (hb : Blk w g 9 cs) (hl : b.length ≤ cap) (hc : cap ≤ 9223372036854775807) (hs : cs.length = cap)
    (h : ∀ j, j < b.length → cs[j]? = some (.string (sat (cascB a b) j))) : OwnS w base (.slice (some ⟨g, 0, none⟩) b.length cap) (cascB a b) := by
  have := OwnS.mk' (l := cascB a b) hg hb (by rw [cascB_length]; exact hl) hc hs (fun j hj => by rw [cascB_length] at hj; exact h j hj) (eng_wf (joinOk_true.1 (joinOk_turn ok)).2.1)
  rwa [cascB_length] at this


end Go.Proofs.YtpniljcnknknoaaGreatDoor

/-
  Contracts of SumEngine, both.
-/
namespace Go.Proofs.YtpniljcnknknoaaGreatDoor
open Go.RowKit
set_option linter.unusedVariables false
set_option linter.unusedSimpArgs false
set_option maxRecDepth 100000
attribute [local go_sem ↓] Go.wp_at_zero Go.wp_at_succ

theorem sum_join {e : List ByteArray} {start : Int} (h1 : engOk e = true) (h2 : fits start (sat e 0).size = true) :
    joinE e [colOf start (sat e 0).size] = sumE e start ∧ joinOk e [colOf start (sat e 0).size] = sumOk e start := by
  by_cases h3 : e.length ≤ 6
  · have hs := sumOk_true.2 ⟨h1, h3, h2⟩
    rw [joinE_yes (sum_joinOk hs), sumE_yes hs, sum_joinOk hs, hs]
    exact ⟨rfl, rfl⟩
  · have hs : sumOk e start = false := by simp [sumOk, h3]
    have hj : joinOk e [colOf start (sat e 0).size] = false := joinOk_l (by simp; omega)
    rw [joinE_no hj, sumE_no hs, hj, hs]
    exact ⟨rfl, rfl⟩
theorem sumOk_e {e : List ByteArray} {start : Int} (h : engOk e = false) : sumOk e start = false := by simp [sumOk, h]
theorem sumOk_f {e : List ByteArray} {start : Int} (h : fits start (sat e 0).size = false) : sumOk e start = false := by simp [sumOk, h]
theorem sumOk_l {e : List ByteArray} {start : Int} (h : ¬ e.length ≤ 6) : sumOk e start = false := by simp [sumOk, h]
theorem one_str {w : World} {g : Nat} {c : ByteArray} (h : Blk w g 9 [.string c]) (hc : c.size ≤ 9223372036854775807) : Strs w (.slice (some ⟨g, 0, none⟩) 1 1) [c] :=
  (OwnS.mk' (base := 0) (cap := 1) (l := [c]) (Nat.zero_le _) h (Nat.le_refl _) (by omega) rfl (fun j hj => by
    obtain rfl : j = 0 := by simp at hj; omega
    rfl) (fun s hs => by simp at hs; rw [hs]; exact hc)).strs



end Go.Proofs.YtpniljcnknknoaaGreatDoor

/-
  Contracts of TotalOf, both (made by gen_total.py).
-/
namespace Go.Proofs.YtpniljcnknknoaaGreatDoor
open Go.RowKit
set_option linter.unusedVariables false
set_option linter.unusedSimpArgs false
set_option maxRecDepth 100000
attribute [local go_sem ↓] Go.wp_at_zero Go.wp_at_succ

set_option maxHeartbeats 400000 in
theorem countValid_any (n : Int) (w : World) :
    Calls Tryz.prog 136 #[.int .i64 n] w fun e w' => e = .returned (.bool (inB n 0 60)) ∧ w = w' := by
  go_enter Tryz.func136, Tryz.ntmps136
  go_wp2
  all_goals (go_ret; refine ⟨?_, rfl⟩; simp_all [inB])
  all_goals omega

theorem Tryz.fieldEng (A : Option Addr) (n c : Nat) (W : World) : (Instr.field 48 (.agg #[.slice A n c]) 0).run Tryz.prog W = .ok (.slice A n c) W := by kernel_rfl

def totOk (l : List ByteArray) (n : Int) : Bool := sumOk l 0 && inB n 0 60
def tot (l : List ByteArray) (n : Int) : Int := if totOk l n = true then sg (sat (turnN (sumE l 0) n.toNat) 0) else 0
theorem totOk_true {l : List ByteArray} {n : Int} : totOk l n = true ↔ sumOk l 0 = true ∧ inB n 0 60 = true := by simp [totOk]
theorem tot_no {l : List ByteArray} {n : Int} (h : totOk l n = false) : tot l n = 0 := by simp [tot, h]
theorem tot_yes {l : List ByteArray} {n : Nat} (h : totOk l n = true) : tot l n = sg (sat (turnN (sumE l 0) n) 0) := by simp [tot, h]
theorem totOk_s {l : List ByteArray} {n : Int} (h : sumOk l 0 = false) : totOk l n = false := by simp [totOk, h]
theorem totOk_n {l : List ByteArray} {n : Int} (h : inB n 0 60 = false) : totOk l n = false := by simp [totOk, h]
theorem sumE_ok {l : List ByteArray} {s : Int} (h : sumOk l s = true) : engOk (sumE l s) = true := by
  rw [sumE_yes h]; exact engOk_append (sum_joinOk h)
theorem tot_bd (l : List ByteArray) (n : Int) : -9223372036854775808 ≤ tot l n ∧ tot l n ≤ 9223372036854775807 := by
  cases h : totOk l n
  · rw [tot_no h]; omega
  · unfold tot
    rw [if_pos h]
    have hs := (totOk_true.1 h).1
    have hl : 0 < (turnN (sumE l 0) n.toNat).length := (engOk_iff.1 (turnN_ok (sumE_ok hs) n.toNat)).1
    have := sg_bd ((engOk_iff.1 (turnN_ok (sumE_ok hs) n.toNat)).2.2 0 hl).1
    omega



end Go.Proofs.YtpniljcnknknoaaGreatDoor

/-
  Contracts of RunEngine (spec) and RunCascade (both).
-/
namespace Go.Proofs.YtpniljcnknknoaaGreatDoor
open Go.RowKit
set_option linter.unusedVariables false
set_option linter.unusedSimpArgs false
set_option maxRecDepth 100000
attribute [local go_sem ↓] Go.wp_at_zero Go.wp_at_succ

/-- the block of a slice that is not empty. -/
def Off (x : Value) (l : List ByteArray) (Q : Nat → Prop) : Prop := ∀ a n c, x = .slice (some a) n c → 0 < l.length → Q a.block
theorem Off.mono {x : Value} {l : List ByteArray} {Q R : Nat → Prop} (h : Off x l Q) (hk : ∀ k, Q k → R k) : Off x l R := fun a n c e hl => hk _ (h a n c e hl)
theorem Strs.off {w : World} {x : Value} {l : List ByteArray} (h : Strs w x l) : Off x l (fun k => k < w.heap.size) := h.low
theorem OwnS.off {w : World} {base : Nat} {x : Value} {l : List ByteArray} (h : OwnS w base x l) : Off x l (fun k => base ≤ k) := by
  intro a n c e hl
  rcases h.form with ⟨rfl, _⟩ | ⟨g, cap, cs, rfl, hg, _⟩
  · cases e
  · injection e with e1; injection e1 with e1; rw [← e1]; exact hg
theorem Strs.setFar {w : World} {x : Value} {l : List ByteArray} (h : Strs w x l) (p : Addr) (u : Value) (hp : Off x l (fun k => p.block ≠ k)) : Strs (w.setCell p u) x l := by
  obtain ⟨⟨A, c, rfl, h1, h2, h3⟩, hwf⟩ := h
  refine ⟨⟨A, c, rfl, h1, h2, fun hn => ?_⟩, hwf⟩
  obtain ⟨b, o, rfl, hlt, hc⟩ := h3 hn
  have hb := hp _ _ _ rfl (by rw [sv_length] at hn; exact hn)
  exact ⟨b, o, rfl, by simpa using hlt, fun k u hu => (World.cell?_setCell_far _ _ _ _ (by simpa using hb)).trans (hc k u hu)⟩
theorem Strs.rowFar {w w' : World} {x : Value} {l : List ByteArray} {row : Option Nat} (h : Strs w x l) (hg : w.grownBy w' row) (hx : Off x l (fun k => some k ≠ row)) : Strs w' x l := by
  obtain ⟨⟨A, c, rfl, h1, h2, h3⟩, hwf⟩ := h
  refine ⟨⟨A, c, rfl, h1, h2, fun hn => ?_⟩, hwf⟩
  obtain ⟨b, o, rfl, hlt, hc⟩ := h3 hn
  have hb := hx _ _ _ rfl (by rw [sv_length] at hn; exact hn)
  exact ⟨b, o, rfl, Nat.lt_of_lt_of_le hlt hg.size, fun k u hu => hg.cell (hc k u hu) (fun e => hb e)⟩
theorem Own.setCell {w : World} {base : Nat} {v : Value} {l : List Int} (h : Own w base v l) (p : Addr) (u : Value) (hp : p.block < base) : Own (w.setCell p u) base v l :=
  h.far (row := some p.block) (only_setCell (World.grownBy.refl w (some p.block)) (.inl rfl) u) (fun k hk => by injection hk with hk; omega)
theorem runS_succ (l : List ByteArray) (n : Nat) : runS l (n + 1) = runS l n ++ [sg (sat (turnN l n) 0)] := gen_succ _ _
theorem runS_length (l : List ByteArray) (n : Nat) : (runS l n).length = n := gen_length _ _
/-- Numbers of one's own and a bool. -/
def IntsB (w : World) (l : List Int) (q : Bool) (e : Ending) (w' : World) : Prop :=
  ∃ r, e = .returned (.tuple #[r, .bool q]) ∧ Own w' w.heap.size r l ∧ Below w.heap.size w w'
def runOk (l : List ByteArray) (n : Int) : Bool := engOk l && inB n 0 60
def runL (l : List ByteArray) (n : Int) : List Int := if runOk l n = true then runS l n.toNat else []
theorem runOk_e {l : List ByteArray} {n : Int} (h : engOk l = false) : runOk l n = false := by simp [runOk, h]
theorem runOk_n {l : List ByteArray} {n : Int} (h : inB n 0 60 = false) : runOk l n = false := by simp [runOk, h]
theorem runL_no {l : List ByteArray} {n : Int} (h : runOk l n = false) : runL l n = [] := by simp [runL, h]
theorem runL_yes {l : List ByteArray} {n : Nat} (h : runOk l n = true) : runL l n = runS l n := by simp [runL, h]
theorem eng0 {l : List ByteArray} (h : engOk l = true) (n : Nat) : colOk (sat (turnN l n) 0) = true := ((engOk_iff.1 (turnN_ok h n)).2.2 0 (engOk_iff.1 (turnN_ok h n)).1).1



end Go.Proofs.YtpniljcnknknoaaGreatDoor

/-
  Contracts of impl.TurnWhole, resultsOf, impl.RunEngine.
-/
namespace Go.Proofs.YtpniljcnknknoaaGreatDoor
open Go.RowKit
set_option linter.unusedVariables false
set_option linter.unusedSimpArgs false
set_option maxRecDepth 100000
attribute [local go_sem ↓] Go.wp_at_zero Go.wp_at_succ

def turnW (l : List ByteArray) : List ByteArray := if engOk l = true then turnS l else []
theorem turnW_yes {l : List ByteArray} (h : engOk l = true) : turnW l = turnS l := by simp [turnW, h]
theorem turnW_no {l : List ByteArray} (h : engOk l = false) : turnW l = [] := by simp [turnW, h]

set_option maxHeartbeats 2000000 in
theorem turnWhole_any (v : Value) (l : List ByteArray) (w : World) (hv : Strs w v l) :
    Calls Tryz.prog 85 #[.agg #[v]] w (EngB w (turnW l) (engOk l)) := by
  have HV := Lib.hid hv
  obtain ⟨A, c, rfl, -, -, -⟩ := hv.open_
  clear hv
  have B0 := Lib.hid (show Below w.heap.size w ((w.alloc (.cells #[.slice A l.length c] 48)).alloc (.cells #[.slice none 0 0] 48)) from (bel_alloc w _).alloc (by simp) _)
  have K0 := (Blk.new' w 48 (.slice A l.length c) w.heap.size rfl).alloc (.cells #[.slice none 0 0] 48)
  have K2 := Blk.new' (w.alloc (.cells #[.slice A l.length c] 48)) 48 (.slice none 0 0) (w.heap.size + 1) (by simp)
  obtain ⟨c0, -⟩ := K0.one
  go_enter Tryz.func85, Tryz.ntmps85
  go_wp2_with fail
  clear c0
  generalize hW : (w.alloc (.cells #[.slice A l.length c] 48)).alloc (.cells #[.slice none 0 0] 48) = W at *
  clear hW
  refine (implEng_any _ l _ (HV.out.bel B0.out)).mono ?_
  rintro e w2 ⟨rfl, hb⟩
  replace K0 := K0.below hb K0.lt
  replace K2 := K2.below hb K2.lt
  have HB := Lib.hid (bel_trans B0.out hb)
  have hz := HB.out.size
  clear hb
  obtain ⟨c0, -⟩ := K0.one
  obtain ⟨c2, f2⟩ := K2.one
  cases he : engOk l
  · have HN := Lib.hid (turnW_no he)
    go_wp2
    refine bodyPost_ret (v := .tuple #[.agg #[.slice none 0 0], .bool false]) (by simp [results, Tryz.results85, go_sem, c2]) rfl ⟨.slice none 0 0, by rw [he], ?_, ?_⟩
    · rw [HN.out]; exact OwnS.nil_ _ _
    · exact HB.out.setCell (by simp) _
  · have HY := Lib.hid (And.intro (turnW_yes he) he)
    clear he
    go_wp2_with fail
    refine (turnedOnce_any _ l _ (HV.out.bel HB.out) HY.out.2).mono ?_
    rintro e w3 ⟨r, rfl, ho, hb3⟩
    have k2 := K2.lt
    replace K2 := K2.below hb3 K2.lt
    have HO := Lib.hid (And.intro (ho.lower (base' := w.heap.size + 1 + 1) (by omega)) (bel_trans HB.out hb3))
    obtain ⟨A3, d3, rfl, -, -, -⟩ := ho.strs.open_
    clear ho hb3 c2 f2
    obtain ⟨c2, f2⟩ := K2.one
    generalize hp : (turnS l).length = p at *
    clear hp
    go_wp2
    refine bodyPost_ret (v := .tuple #[.agg #[.slice A3 p d3], .bool true]) (by simp [results, Tryz.results85, go_sem, c2]) rfl ⟨_, by rw [HY.out.2], ?_, ?_⟩
    · rw [HY.out.1]; exact (HO.out.1.setCell _ _ (by simp)).lower (by omega)
    · exact HO.out.2.setCell (by simp) _

set_option maxHeartbeats 4000000 in
theorem resultsOf_any (u : Value) (l : List ByteArray) (n : Int) (w : World) (hu : Strs w u l) (hn : -9223372036854775808 ≤ n ∧ n ≤ 9223372036854775807) :
    Calls Tryz.prog 84 #[.agg #[u], .int .i64 n, .func (Fn.func 85) #[] #[]] w (IntsB w (runL l n) (runOk l n)) := by
  have HU := Lib.hid hu
  have HOF := Lib.hid hu.off
  obtain ⟨A, c, rfl, -, -, -⟩ := hu.open_
  clear hu
  have B0 := Lib.hid (show Below w.heap.size w (w.alloc (.cells #[.slice A l.length c] 48)) from bel_alloc w _)
  have K0 := Blk.new' w 48 (.slice A l.length c) w.heap.size rfl
  obtain ⟨c0, -⟩ := K0.one
  go_enter Tryz.func84, Tryz.ntmps84
  go_wp2_with fail
  clear c0
  generalize hW : w.alloc (.cells #[.slice A l.length c] 48) = W at *
  clear hW
  refine (implEng_any _ l _ (HU.out.bel B0.out)).mono ?_
  rintro e w2 ⟨rfl, hb⟩
  have k0 := K0.lt
  have hbz := hb.size
  replace K0 := K0.below hb K0.lt
  have HB := Lib.hid (bel_trans B0.out hb)
  have hz := HB.out.size
  clear hb
  cases he : engOk l
  · have HN := Lib.hid (And.intro (runOk_e (n := n) he) (runL_no (runOk_e (n := n) he)))
    go_wp2_with fail
    go_ret2
    exact ⟨_, by rw [HN.out.1]; rfl, by rw [HN.out.2]; exact Own.nil_ _ _, HB.out⟩
  · cases hc : inB n 0 60
    · have HN := Lib.hid (And.intro (runOk_n (l := l) hc) (runL_no (runOk_n (l := l) hc)))
      have hc' := inB_false.1 hc
      by_cases hlo : n < 0
      · go_wp2_with fail
        go_ret2
        exact ⟨_, by rw [HN.out.1]; rfl, by rw [HN.out.2]; exact Own.nil_ _ _, HB.out⟩
      · have hhi : 60 < n := by omega
        go_wp2_with fail
        go_ret2
        exact ⟨_, by rw [HN.out.1]; rfl, by rw [HN.out.2]; exact Own.nil_ _ _, HB.out⟩
    · have hn2 := inB_true.1 hc
      obtain ⟨n, rfl⟩ : ∃ k : Nat, n = k := ⟨n.toNat, by omega⟩
      have n60 : n ≤ 60 := by omega
      have hrc : runOk l n = true := by simp [runOk, he, hc]
      have HY := Lib.hid (And.intro hrc (And.intro (runL_yes hrc) he))
      have hmk := fun W => Tryz.mkInts n (by omega) W
      have HS0 := Lib.hid (And.intro (HU.out.bel HB.out) K0)
      have hlo : ¬ ((n : Int) < 0) := by omega
      have hhi : ¬ (60 < (n : Int)) := by omega
      clear hrc hn2 hn he hc K0
      go_wp2_with fail
      go_loopw [25] (fun i wr => ∃ (k : Nat) (cs : List Value) (x : Value), k ≤ n ∧ i = .int .i64 k ∧ Blk wr w2.heap.size 3 cs ∧ cs.length = n ∧ (∀ j, j < k → cs[j]? = some (.int .i64 (sg (sat (turnN l j) 0)))) ∧
          Blk wr w.heap.size 48 [x] ∧ Strs wr x (turnN l k) ∧ Off x (turnN l k) (fun j => j ≠ w.heap.size ∧ j ≠ w2.heap.size) ∧ Below w.heap.size w wr)
        (fun i _ => n - (intOf i).toNat)
      case atStart =>
        refine ⟨0, _, _, Nat.zero_le _, rfl, Blk.new w2 _ _, reps_length _ _, fun j hj => absurd hj (by omega), HS0.out.2.alloc _, HS0.out.1.bel (bel_alloc w2 _), ?_, bel_trans HB.out (bel_alloc w2 _)⟩
        exact HOF.out.mono fun j hj => by omega
      case round =>
        clear HS0
        obtain ⟨k, cs, x, hk, rfl, hblk, hcl, hcs, K0, hx, ox, hbel⟩ := hrel
        have E0 := eng0 HY.out.2.2 k
        obtain ⟨t1, t7, -⟩ := engOk_iff.1 (turnN_ok HY.out.2.2 k)
        obtain ⟨Ax, cx, rfl, -, -, hrd⟩ := hx.open_
        obtain ⟨bb, ob, rfl, hbb, hcell⟩ := hrd.strs (by omega)
        have ca := hcell 0 (by omega)
        rw [Nat.add_zero] at ca
        have H := Lib.hid (And.intro hcl (And.intro hcs (And.intro hbel (And.intro hx ox))))
        clear hcl hcs hbel hx ox hcell hrd
        have hsz := H.out.2.2.1.size
        by_cases hlt : k < n
        · obtain ⟨e0, -⟩ := K0.one
          have hcw : wr.cell? ⟨w2.heap.size, k, none⟩ = some (cs[k]'(by rw [H.out.1]; exact hlt)) := by rw [hblk.cell]; exact List.getElem?_eq_getElem _
          have hfw := hblk.frozen k
          have e0' : (wr.setCell ⟨w2.heap.size, k, none⟩ (.int .i64 (sg (sat (turnN l k) 0)))).cell? ⟨w.heap.size, 0, none⟩ = _ := (World.cell?_setCell_other _ _ _ _ (by intro e; injection e with q; omega)).trans e0
          go_wp2_with (go_at_call 155; refine (signed_any _ _ (by assumption)).mono ?_; rintro e w' ⟨rfl, rfl⟩)
          have Kg := hblk.set_ k (.int .i64 (sg (sat (turnN l k) 0)))
          replace K0 := K0.far (p := ⟨w2.heap.size, k, none⟩) (by show w.heap.size ≠ w2.heap.size; omega) (.int .i64 (sg (sat (turnN l k) 0)))
          have sx := H.out.2.2.2.1.setFar ⟨w2.heap.size, k, none⟩ (.int .i64 (sg (sat (turnN l k) 0))) (H.out.2.2.2.2.mono fun j hj => by show w2.heap.size ≠ j; omega)
          have hB5 := H.out.2.2.1.setCell (p := ⟨w2.heap.size, k, none⟩) (by show w.heap.size ≤ w2.heap.size; omega) (.int .i64 (sg (sat (turnN l k) 0)))
          clear e0 e0' ca hcw hfw hblk
          generalize hW5 : wr.setCell ⟨w2.heap.size, k, none⟩ (.int .i64 (sg (sat (turnN l k) 0))) = W5 at *
          clear hW5
          refine (turnWhole_any _ (turnN l k) _ sx).mono ?_
          rintro e w6 ⟨r, rfl, oa, hb6⟩
          rw [turnW_yes (turnN_ok HY.out.2.2 k)] at oa
          have kg := Kg.lt
          have k05 := K0.lt
          replace K0 := K0.below hb6 K0.lt
          replace Kg := Kg.below hb6 Kg.lt
          have HQ := Lib.hid (And.intro oa (bel_trans hB5 hb6))
          obtain ⟨A6, c6, rfl, -, -, -⟩ := oa.strs.open_
          clear oa hb6 sx hB5
          obtain ⟨e0, f0⟩ := K0.one
          go_wp2_with fail
          go_roundw
          case rel =>
            refine ⟨k + 1, _, .slice A6 (turnS (turnN l k)).length c6, by omega, by go_num, Kg.far (by show w2.heap.size ≠ w.heap.size; omega) _, by rw [List.length_set]; exact H.out.1, fun j hj => ?_, K0.set_ 0 _, (HQ.out.1.setCell _ _ (by show w.heap.size < W5.heap.size; omega)).strs, ?_, HQ.out.2.setCell (by show w.heap.size ≤ w.heap.size; omega) _⟩
            · by_cases e : j = k
              · subst e; rw [List.getElem?_set_self (by rw [H.out.1]; omega)]
              · rw [List.getElem?_set_ne (by omega)]; exact H.out.2.1 j (by omega)
            · exact HQ.out.1.off.mono fun j hj => by omega
          case measure => simp [intOf]; omega
        · have : k = n := by omega
          subst this
          go_wp2_with fail
          go_ret2
          refine ⟨_, by rw [HY.out.1]; rfl, ?_, H.out.2.2.1⟩
          rw [HY.out.2.1]
          refine own_gen hz hblk H.out.1 (by omega) H.out.2.1 (fun j hj => ?_)
          have hc2 := sg_bd (eng0 HY.out.2.2 j)
          omega

set_option maxHeartbeats 2000000 in
theorem implRun_any (u : Value) (l : List ByteArray) (n : Int) (w : World) (hu : Strs w u l) (hn : -9223372036854775808 ≤ n ∧ n ≤ 9223372036854775807) :
    Calls Tryz.prog 27 #[.agg #[u], .int .i64 n] w (IntsB w (runL l n) (runOk l n)) := by
  have HU := Lib.hid hu
  obtain ⟨A, c, rfl, -, -, -⟩ := hu.open_
  clear hu
  go_enter Tryz.func27, Tryz.ntmps27
  go_wp2_with fail
  refine (resultsOf_any _ l n _ (HU.out.bel (bel_alloc w _)) hn).mono ?_
  rintro e w2 ⟨r, rfl, ho, hb⟩
  have HF := Lib.hid (And.intro (ho.lower (base' := w.heap.size) (by simp)) (bel_trans (bel_alloc w (.cells #[.slice A l.length c] 48)) hb))
  obtain ⟨A3, d3, rfl, -, -, -⟩ := ho.ints.open_
  clear ho hb
  go_wp2
  go_ret2
  exact ⟨_, rfl, HF.out.1, HF.out.2⟩

end Go.Proofs.YtpniljcnknknoaaGreatDoor

/-
  Turns back, half turns, turns in halves (impl; printed by gen_whb.py).
-/
namespace Go.Proofs.YtpniljcnknknoaaGreatDoor
open Go.RowKit
set_option linter.unusedVariables false
set_option linter.unusedSimpArgs false
set_option maxRecDepth 100000
attribute [local go_sem ↓] Go.wp_at_zero Go.wp_at_succ

set_option maxHeartbeats 2000000 in
theorem turnedManyB_any (v : Value) (l : List ByteArray) (n : Nat) (w : World) (hv : Strs w v l) (ok : engOk l = true) (hn : n ≤ 300) :
    Calls Tryz.prog 157 #[v, .int .i64 (-(n : Int))] w fun e w' => ∃ r, e = .returned r ∧ OwnS w' w.heap.size r (backN l n) ∧ Below w.heap.size w w' := by
  have HV := Lib.hid hv
  obtain ⟨A, c, rfl, hlc, hc, hrd⟩ := hv.open_
  have l7 := (engOk_iff.1 ok).2.1
  have OK := Lib.hid ok
  clear hrd hv ok
  go_enter Tryz.func157, Tryz.ntmps157
  go_wp2_with fail
  refine (cloneS_any _ l _ HV.out (by omega)).mono ?_
  rintro e w1 ⟨r, rfl, ho, hb1⟩
  have H0 := Lib.hid (And.intro ho hb1)
  clear ho hb1
  go_wp2_with fail
  refine wp_loop_rounds 1 ?_
  rw [rounds_succ]
  go_wp2_with fail
  go_loopw [1, 5] (fun m x wr => ∃ (k : Nat), k ≤ n ∧ m = .int .i64 ((k : Int) - (n : Int)) ∧ OwnS wr w.heap.size x (backN l k) ∧ Below w.heap.size w wr) (fun m _ _ => (-(intOf m)).toNat)
  case atStart => exact ⟨0, by omega, by simp, H0.out.1, H0.out.2⟩
  case round =>
    clear H0
    obtain ⟨k, hk, rfl, hox, hbel⟩ := hrel
    have H := Lib.hid (And.intro hox hbel)
    clear hox hbel
    by_cases hlt : k < n
    · go_wp2_with fail
      refine (turnedBack_any _ (backN l k) _ H.out.1.strs (backN_ok OK.out k)).mono ?_
      rintro e w2 ⟨r2, rfl, ho2, hb2⟩
      have H2 := Lib.hid (And.intro (ho2.lower (base' := w.heap.size) H.out.2.size) (bel_trans H.out.2 hb2))
      clear ho2 hb2
      go_wp2_with fail
      go_roundw
      case rel => exact ⟨k + 1, by omega, by go_num, H2.out.1, H2.out.2⟩
      case measure => simp [intOf]; omega
    · have : k = n := by omega
      subst this
      go_wp2_with fail
      go_ret
      exact ⟨_, rfl, H.out.1, H.out.2⟩


def halfW (f : Nat) (l : List ByteArray) : List ByteArray := if engOk l = true then halfS l f else []
theorem halfW_yes (f : Nat) {l : List ByteArray} (h : engOk l = true) : halfW f l = halfS l f := by simp [halfW, h]
theorem halfW_no (f : Nat) {l : List ByteArray} (h : engOk l = false) : halfW f l = [] := by simp [halfW, h]

set_option maxHeartbeats 2000000 in
theorem turnFirst_any (v : Value) (l : List ByteArray) (w : World) (hv : Strs w v l) :
    Calls Tryz.prog 232 #[.agg #[v]] w (EngB w (halfW 0 l) (engOk l)) := by
  have HV := Lib.hid hv
  obtain ⟨A, c, rfl, -, -, -⟩ := hv.open_
  clear hv
  have B0 := Lib.hid (show Below w.heap.size w ((w.alloc (.cells #[.slice A l.length c] 48)).alloc (.cells #[.slice none 0 0] 48)) from (bel_alloc w _).alloc (by simp) _)
  have K0 := (Blk.new' w 48 (.slice A l.length c) w.heap.size rfl).alloc (.cells #[.slice none 0 0] 48)
  have K2 := Blk.new' (w.alloc (.cells #[.slice A l.length c] 48)) 48 (.slice none 0 0) (w.heap.size + 1) (by simp)
  obtain ⟨c0, -⟩ := K0.one
  go_enter Tryz.func232, Tryz.ntmps232
  go_wp2_with fail
  clear c0
  generalize hW : (w.alloc (.cells #[.slice A l.length c] 48)).alloc (.cells #[.slice none 0 0] 48) = W at *
  clear hW
  refine (implEng_any _ l _ (HV.out.bel B0.out)).mono ?_
  rintro e w2 ⟨rfl, hb⟩
  replace K0 := K0.below hb K0.lt
  replace K2 := K2.below hb K2.lt
  have HB := Lib.hid (bel_trans B0.out hb)
  have hz := HB.out.size
  clear hb
  obtain ⟨c0, -⟩ := K0.one
  obtain ⟨c2, f2⟩ := K2.one
  cases he : engOk l
  · have HN := Lib.hid (halfW_no 0 he)
    go_wp2
    refine bodyPost_ret (v := .tuple #[.agg #[.slice none 0 0], .bool false]) (by simp [results, Tryz.results232, go_sem, c2]) rfl ⟨.slice none 0 0, by rw [he], ?_, ?_⟩
    · rw [HN.out]; exact OwnS.nil_ _ _
    · exact HB.out.setCell (by simp) _
  · have HY := Lib.hid (And.intro (halfW_yes 0 he) he)
    clear he
    go_wp2_with fail
    refine (turnedHalf_any _ l 0 _ (by omega) (HV.out.bel HB.out) HY.out.2).mono ?_
    rintro e w3 ⟨r, rfl, ho, hb3⟩
    have k2 := K2.lt
    replace K2 := K2.below hb3 K2.lt
    have HO := Lib.hid (And.intro (ho.lower (base' := w.heap.size + 1 + 1) (by omega)) (bel_trans HB.out hb3))
    obtain ⟨A3, d3, rfl, -, -, -⟩ := ho.strs.open_
    clear ho hb3 c2 f2
    obtain ⟨c2, f2⟩ := K2.one
    generalize hp : (halfS l 0).length = p at *
    clear hp
    go_wp2
    refine bodyPost_ret (v := .tuple #[.agg #[.slice A3 p d3], .bool true]) (by simp [results, Tryz.results232, go_sem, c2]) rfl ⟨_, by rw [HY.out.2], ?_, ?_⟩
    · rw [HY.out.1]; exact (HO.out.1.setCell _ _ (by simp)).lower (by omega)
    · exact HO.out.2.setCell (by simp) _

set_option maxHeartbeats 2000000 in
theorem turnSecond_any (v : Value) (l : List ByteArray) (w : World) (hv : Strs w v l) :
    Calls Tryz.prog 233 #[.agg #[v]] w (EngB w (halfW 1 l) (engOk l)) := by
  have HV := Lib.hid hv
  obtain ⟨A, c, rfl, -, -, -⟩ := hv.open_
  clear hv
  have B0 := Lib.hid (show Below w.heap.size w ((w.alloc (.cells #[.slice A l.length c] 48)).alloc (.cells #[.slice none 0 0] 48)) from (bel_alloc w _).alloc (by simp) _)
  have K0 := (Blk.new' w 48 (.slice A l.length c) w.heap.size rfl).alloc (.cells #[.slice none 0 0] 48)
  have K2 := Blk.new' (w.alloc (.cells #[.slice A l.length c] 48)) 48 (.slice none 0 0) (w.heap.size + 1) (by simp)
  obtain ⟨c0, -⟩ := K0.one
  go_enter Tryz.func233, Tryz.ntmps233
  go_wp2_with fail
  clear c0
  generalize hW : (w.alloc (.cells #[.slice A l.length c] 48)).alloc (.cells #[.slice none 0 0] 48) = W at *
  clear hW
  refine (implEng_any _ l _ (HV.out.bel B0.out)).mono ?_
  rintro e w2 ⟨rfl, hb⟩
  replace K0 := K0.below hb K0.lt
  replace K2 := K2.below hb K2.lt
  have HB := Lib.hid (bel_trans B0.out hb)
  have hz := HB.out.size
  clear hb
  obtain ⟨c0, -⟩ := K0.one
  obtain ⟨c2, f2⟩ := K2.one
  cases he : engOk l
  · have HN := Lib.hid (halfW_no 1 he)
    go_wp2
    refine bodyPost_ret (v := .tuple #[.agg #[.slice none 0 0], .bool false]) (by simp [results, Tryz.results233, go_sem, c2]) rfl ⟨.slice none 0 0, by rw [he], ?_, ?_⟩
    · rw [HN.out]; exact OwnS.nil_ _ _
    · exact HB.out.setCell (by simp) _
  · have HY := Lib.hid (And.intro (halfW_yes 1 he) he)
    clear he
    go_wp2_with fail
    refine (turnedHalf_any _ l 1 _ (by omega) (HV.out.bel HB.out) HY.out.2).mono ?_
    rintro e w3 ⟨r, rfl, ho, hb3⟩
    have k2 := K2.lt
    replace K2 := K2.below hb3 K2.lt
    have HO := Lib.hid (And.intro (ho.lower (base' := w.heap.size + 1 + 1) (by omega)) (bel_trans HB.out hb3))
    obtain ⟨A3, d3, rfl, -, -, -⟩ := ho.strs.open_
    clear ho hb3 c2 f2
    obtain ⟨c2, f2⟩ := K2.one
    generalize hp : (halfS l 1).length = p at *
    clear hp
    go_wp2
    refine bodyPost_ret (v := .tuple #[.agg #[.slice A3 p d3], .bool true]) (by simp [results, Tryz.results233, go_sem, c2]) rfl ⟨_, by rw [HY.out.2], ?_, ?_⟩
    · rw [HY.out.1]; exact (HO.out.1.setCell _ _ (by simp)).lower (by omega)
    · exact HO.out.2.setCell (by simp) _

set_option maxHeartbeats 2000000 in
theorem turnHalves_any (v : Value) (l : List ByteArray) (w : World) (hv : Strs w v l) (ok : engOk l = true) :
    Calls Tryz.prog 192 #[.agg #[v]] w (EngB w (halfS (halfS l 0) 1) true) := by
  have HV := Lib.hid hv
  have OK := Lib.hid ok
  obtain ⟨A, c, rfl, -, -, -⟩ := hv.open_
  clear hv ok
  have B0 := Lib.hid (show Below w.heap.size w ((w.alloc (.cells #[.slice A l.length c] 48)).alloc (.cells #[.slice none 0 0] 48)) from (bel_alloc w _).alloc (by simp) _)
  have K2 := Blk.new' (w.alloc (.cells #[.slice A l.length c] 48)) 48 (.slice none 0 0) (w.heap.size + 1) (by simp)
  go_enter Tryz.func192, Tryz.ntmps192
  go_wp2_with fail
  generalize hW : (w.alloc (.cells #[.slice A l.length c] 48)).alloc (.cells #[.slice none 0 0] 48) = W at *
  have hWz : W.heap.size = w.heap.size + 2 := by rw [← hW]; simp
  clear hW
  refine (turnFirst_any _ l _ (HV.out.bel B0.out)).mono ?_
  rintro e w2 ⟨r, rfl, o1, b1⟩
  rw [halfW_yes 0 OK.out] at o1
  rw [OK.out]
  obtain ⟨A1, d1, rfl, -, -, -⟩ := o1.strs.open_
  have OK1 := Lib.hid (engOk_half OK.out 0)
  obtain ⟨L, hL⟩ : ∃ L, halfS l 0 = L := ⟨_, rfl⟩
  rw [hL] at o1 OK1 ⊢
  replace hL := Lib.hid hL
  have bA : Below w2.heap.size w2 (w2.alloc (.cells #[.slice A1 L.length d1] 48)) := bel_alloc w2 _
  have bb := bel_trans b1 bA
  have hz2 := b1.size
  replace K2 := Lib.hid (K2.below bb K2.lt)
  have HB := Lib.hid (bel_trans B0.out bb)
  have O1 := Lib.hid (o1.strs.bel bA)
  have K4 := Blk.new' w2 48 (.slice A1 L.length d1) w2.heap.size rfl
  obtain ⟨c4, -⟩ := K4.one
  clear b1 bA bb o1 K4
  go_wp2_with fail
  clear c4
  generalize hW : w2.alloc (.cells #[.slice A1 L.length d1] 48) = w3 at *
  have hWz3 : w3.heap.size = w2.heap.size + 1 := by rw [← hW]; simp
  clear hW
  refine (turnSecond_any _ L _ O1.out).mono ?_
  rintro e w4 ⟨r, rfl, o2, b2⟩
  rw [halfW_yes 1 OK1.out] at o2
  rw [OK1.out]
  obtain ⟨A2, d2, rfl, -, -, -⟩ := o2.strs.open_
  replace K2 := K2.out.below b2 K2.out.lt
  replace HB := Lib.hid (bel_trans HB.out b2)
  have HO := Lib.hid (o2.lower (base' := w.heap.size + 1 + 1) (by omega))
  obtain ⟨M, hM⟩ : ∃ M, halfS L 1 = M := ⟨_, rfl⟩
  rw [hM] at HO ⊢
  have HLM := Lib.hid (show halfS (halfS l 0) 1 = M by rw [hL.out, hM])
  clear o2 b2 hM
  obtain ⟨c2, f2⟩ := K2.one
  generalize hp : M.length = p at *
  clear hp
  go_wp2
  refine bodyPost_ret (v := .tuple #[.agg #[.slice A2 p d2], .bool true]) (by simp [results, Tryz.results192, go_sem, c2]) rfl ⟨_, rfl, by rw [HLM.out]; exact (HO.out.setCell ⟨w.heap.size + 1, 0, none⟩ _ (by show w.heap.size + 1 < w.heap.size + 1 + 1; omega)).lower (base' := w.heap.size) (by omega), HB.out.setCell (p := ⟨w.heap.size + 1, 0, none⟩) (by show w.heap.size ≤ w.heap.size + 1; omega) _⟩
end Go.Proofs.YtpniljcnknknoaaGreatDoor

/-
  Results of turns in halves, engines askew (impl; printed by gen_whc.py).
-/
namespace Go.Proofs.YtpniljcnknknoaaGreatDoor
open Go.RowKit
set_option linter.unusedVariables false
set_option linter.unusedSimpArgs false
set_option maxRecDepth 100000
attribute [local go_sem ↓] Go.wp_at_zero Go.wp_at_succ

def hvS (l : List ByteArray) (n : Nat) : List Int := gen (fun i => sg (sat (hN l i) 0)) n
def rhL (l : List ByteArray) (n : Int) : List Int := if runOk l n = true then hvS l n.toNat else []
theorem rhL_no {l : List ByteArray} {n : Int} (h : runOk l n = false) : rhL l n = [] := by simp [rhL, h]
theorem rhL_yes {l : List ByteArray} {n : Nat} (h : runOk l n = true) : rhL l n = hvS l n := by simp [rhL, h]
theorem hN_ok2 {l : List ByteArray} (h : engOk l = true) (n : Nat) : engOk (hN l n) = true := by
  induction n with
  | zero => exact h
  | succ n ih => exact engOk_half (engOk_half ih 0) 1
theorem hN_eng0 {l : List ByteArray} (h : engOk l = true) (n : Nat) : colOk (sat (hN l n) 0) = true := by
  obtain ⟨h1, -, h3⟩ := engOk_iff.1 (hN_ok2 h n)
  exact (h3 0 (by omega)).1

set_option maxHeartbeats 4000000 in
theorem resultsOfH_any (u : Value) (l : List ByteArray) (n : Int) (w : World) (hu : Strs w u l) (hn : -9223372036854775808 ≤ n ∧ n ≤ 9223372036854775807) :
    Calls Tryz.prog 84 #[.agg #[u], .int .i64 n, .func (Fn.func 192) #[] #[]] w (IntsB w (rhL l n) (runOk l n)) := by
  have HU := Lib.hid hu
  have HOF := Lib.hid hu.off
  obtain ⟨A, c, rfl, -, -, -⟩ := hu.open_
  clear hu
  have B0 := Lib.hid (show Below w.heap.size w (w.alloc (.cells #[.slice A l.length c] 48)) from bel_alloc w _)
  have K0 := Blk.new' w 48 (.slice A l.length c) w.heap.size rfl
  obtain ⟨c0, -⟩ := K0.one
  go_enter Tryz.func84, Tryz.ntmps84
  go_wp2_with fail
  clear c0
  generalize hW : w.alloc (.cells #[.slice A l.length c] 48) = W at *
  clear hW
  refine (implEng_any _ l _ (HU.out.bel B0.out)).mono ?_
  rintro e w2 ⟨rfl, hb⟩
  have k0 := K0.lt
  have hbz := hb.size
  replace K0 := K0.below hb K0.lt
  have HB := Lib.hid (bel_trans B0.out hb)
  have hz := HB.out.size
  clear hb
  cases he : engOk l
  · have HN := Lib.hid (And.intro (runOk_e (n := n) he) (rhL_no (runOk_e (n := n) he)))
    go_wp2_with fail
    go_ret2
    exact ⟨_, by rw [HN.out.1]; rfl, by rw [HN.out.2]; exact Own.nil_ _ _, HB.out⟩
  · cases hc : inB n 0 60
    · have HN := Lib.hid (And.intro (runOk_n (l := l) hc) (rhL_no (runOk_n (l := l) hc)))
      have hc' := inB_false.1 hc
      by_cases hlo : n < 0
      · go_wp2_with fail
        go_ret2
        exact ⟨_, by rw [HN.out.1]; rfl, by rw [HN.out.2]; exact Own.nil_ _ _, HB.out⟩
      · have hhi : 60 < n := by omega
        go_wp2_with fail
        go_ret2
        exact ⟨_, by rw [HN.out.1]; rfl, by rw [HN.out.2]; exact Own.nil_ _ _, HB.out⟩
    · have hn2 := inB_true.1 hc
      obtain ⟨n, rfl⟩ : ∃ k : Nat, n = k := ⟨n.toNat, by omega⟩
      have n60 : n ≤ 60 := by omega
      have hrc : runOk l n = true := by simp [runOk, he, hc]
      have HY := Lib.hid (And.intro hrc (And.intro (rhL_yes hrc) he))
      have hmk := fun W => Tryz.mkInts n (by omega) W
      have HS0 := Lib.hid (And.intro (HU.out.bel HB.out) K0)
      have hlo : ¬ ((n : Int) < 0) := by omega
      have hhi : ¬ (60 < (n : Int)) := by omega
      clear hrc hn2 hn he hc K0
      go_wp2_with fail
      go_loopw [25] (fun i wr => ∃ (k : Nat) (cs : List Value) (x : Value), k ≤ n ∧ i = .int .i64 k ∧ Blk wr w2.heap.size 3 cs ∧ cs.length = n ∧ (∀ j, j < k → cs[j]? = some (.int .i64 (sg (sat (hN l j) 0)))) ∧
          Blk wr w.heap.size 48 [x] ∧ Strs wr x (hN l k) ∧ Off x (hN l k) (fun j => j ≠ w.heap.size ∧ j ≠ w2.heap.size) ∧ Below w.heap.size w wr)
        (fun i _ => n - (intOf i).toNat)
      case atStart =>
        refine ⟨0, _, _, Nat.zero_le _, rfl, Blk.new w2 _ _, reps_length _ _, fun j hj => absurd hj (by omega), HS0.out.2.alloc _, HS0.out.1.bel (bel_alloc w2 _), ?_, bel_trans HB.out (bel_alloc w2 _)⟩
        exact HOF.out.mono fun j hj => by omega
      case round =>
        clear HS0
        obtain ⟨k, cs, x, hk, rfl, hblk, hcl, hcs, K0, hx, ox, hbel⟩ := hrel
        have E0 := hN_eng0 HY.out.2.2 k
        obtain ⟨t1, t7, -⟩ := engOk_iff.1 (hN_ok2 HY.out.2.2 k)
        obtain ⟨Ax, cx, rfl, -, -, hrd⟩ := hx.open_
        obtain ⟨bb, ob, rfl, hbb, hcell⟩ := hrd.strs (by omega)
        have ca := hcell 0 (by omega)
        rw [Nat.add_zero] at ca
        have H := Lib.hid (And.intro hcl (And.intro hcs (And.intro hbel (And.intro hx ox))))
        clear hcl hcs hbel hx ox hcell hrd
        have hsz := H.out.2.2.1.size
        by_cases hlt : k < n
        · obtain ⟨e0, -⟩ := K0.one
          have hcw : wr.cell? ⟨w2.heap.size, k, none⟩ = some (cs[k]'(by rw [H.out.1]; exact hlt)) := by rw [hblk.cell]; exact List.getElem?_eq_getElem _
          have hfw := hblk.frozen k
          have e0' : (wr.setCell ⟨w2.heap.size, k, none⟩ (.int .i64 (sg (sat (hN l k) 0)))).cell? ⟨w.heap.size, 0, none⟩ = _ := (World.cell?_setCell_other _ _ _ _ (by intro e; injection e with q; omega)).trans e0
          go_wp2_with (go_at_call 155; refine (signed_any _ _ (by assumption)).mono ?_; rintro e w' ⟨rfl, rfl⟩)
          have Kg := hblk.set_ k (.int .i64 (sg (sat (hN l k) 0)))
          replace K0 := K0.far (p := ⟨w2.heap.size, k, none⟩) (by show w.heap.size ≠ w2.heap.size; omega) (.int .i64 (sg (sat (hN l k) 0)))
          have sx := H.out.2.2.2.1.setFar ⟨w2.heap.size, k, none⟩ (.int .i64 (sg (sat (hN l k) 0))) (H.out.2.2.2.2.mono fun j hj => by show w2.heap.size ≠ j; omega)
          have hB5 := H.out.2.2.1.setCell (p := ⟨w2.heap.size, k, none⟩) (by show w.heap.size ≤ w2.heap.size; omega) (.int .i64 (sg (sat (hN l k) 0)))
          clear e0 e0' ca hcw hfw hblk
          generalize hW5 : wr.setCell ⟨w2.heap.size, k, none⟩ (.int .i64 (sg (sat (hN l k) 0))) = W5 at *
          clear hW5
          refine (turnHalves_any _ (hN l k) _ sx (hN_ok2 HY.out.2.2 k)).mono ?_
          rintro e w6 ⟨r, rfl, oa, hb6⟩
          have kg := Kg.lt
          have k05 := K0.lt
          replace K0 := K0.below hb6 K0.lt
          replace Kg := Kg.below hb6 Kg.lt
          have HQ := Lib.hid (And.intro oa (bel_trans hB5 hb6))
          obtain ⟨A6, c6, rfl, -, -, -⟩ := oa.strs.open_
          clear oa hb6 sx hB5
          obtain ⟨e0, f0⟩ := K0.one
          go_wp2_with fail
          go_roundw
          case rel =>
            refine ⟨k + 1, _, .slice A6 (halfS (halfS (hN l k) 0) 1).length c6, by omega, by go_num, Kg.far (by show w2.heap.size ≠ w.heap.size; omega) _, by rw [List.length_set]; exact H.out.1, fun j hj => ?_, K0.set_ 0 _, (HQ.out.1.setCell _ _ (by show w.heap.size < W5.heap.size; omega)).strs, ?_, HQ.out.2.setCell (by show w.heap.size ≤ w.heap.size; omega) _⟩
            · by_cases e : j = k
              · subst e; rw [List.getElem?_set_self (by rw [H.out.1]; omega)]
              · rw [List.getElem?_set_ne (by omega)]; exact H.out.2.1 j (by omega)
            · exact HQ.out.1.off.mono fun j hj => by omega
          case measure => simp [intOf]; omega
        · have : k = n := by omega
          subst this
          go_wp2_with fail
          go_ret2
          refine ⟨_, by rw [HY.out.1]; rfl, ?_, H.out.2.2.1⟩
          rw [HY.out.2.1]
          refine own_gen hz hblk H.out.1 (by omega) H.out.2.1 (fun j hj => ?_)
          have hc2 := sg_bd (hN_eng0 HY.out.2.2 j)
          omega



/-- An engine half askew. -/
def mixK (l : List ByteArray) (k j : Nat) : ByteArray := if j < k then sat (skewS l) j else sat l j
theorem mixK_set {l : List ByteArray} {k : Nat} {cs : List Value} (hk : k < l.length) (hc : l.length ≤ cs.length) (h : ∀ j, j < l.length → cs[j]? = some (.string (mixK l k j))) :
    ∀ j, j < l.length → (cs.set k (.string (sat (backN l (k / 2)) k)))[j]? = some (.string (mixK l (k + 1) j)) := by
  intro j hj
  by_cases e : j = k
  · subst e
    rw [List.getElem?_set_self (by omega)]
    unfold mixK
    rw [if_pos (by omega)]
    unfold skewS
    rw [at_genS hj]
  · rw [List.getElem?_set_ne (by omega), h j hj]
    unfold mixK
    by_cases h1 : j < k
    · rw [if_pos h1, if_pos (by omega)]
    · rw [if_neg h1, if_neg (by omega)]
theorem skew_wf {l : List ByteArray} (ok : engOk l = true) : WfS (skewS l) := eng_wf (by have := hN_ok ok 0; exact this)
theorem own_skew {w : World} {base g cap : Nat} {cs : List Value} {l : List ByteArray} (ok : engOk l = true) (hg : base ≤ g) (hb : Blk w g 9 cs) (hl : l.length ≤ cap) (hc : cap ≤ 9223372036854775807) (hs : cs.length = cap)
    (h : ∀ j, j < l.length → cs[j]? = some (.string (mixK l l.length j))) : OwnS w base (.slice (some ⟨g, 0, none⟩) l.length cap) (skewS l) := by
  have := OwnS.mk' (l := skewS l) hg hb (by rw [skewS_length]; exact hl) hc hs (fun j hj => by rw [skewS_length] at hj; rw [h j hj]; unfold mixK; rw [if_pos hj]) (skew_wf ok)
  rwa [skewS_length] at this
set_option maxHeartbeats 4000000 in
theorem skew_any (v : Value) (l : List ByteArray) (w : World) (hv : Strs w v l) (ok : engOk l = true) :
    Calls Tryz.prog 88 #[.agg #[v]] w (EngB w (skewS l) true) := by
  have HV := Lib.hid hv
  have OK := Lib.hid ok
  obtain ⟨l1, l7, -⟩ := engOk_iff.1 ok
  obtain ⟨A, c, rfl, -, -, -⟩ := hv.open_
  clear hv ok
  have B0 := Lib.hid (show Below w.heap.size w ((w.alloc (.cells #[.slice A l.length c] 48)).alloc (.cells #[.slice none 0 0] 48)) from (bel_alloc w _).alloc (by simp) _)
  have K0 := (Blk.new' w 48 (.slice A l.length c) w.heap.size rfl).alloc (.cells #[.slice none 0 0] 48)
  have K2 := Blk.new' (w.alloc (.cells #[.slice A l.length c] 48)) 48 (.slice none 0 0) (w.heap.size + 1) (by simp)
  obtain ⟨c0, -⟩ := K0.one
  go_enter Tryz.func88, Tryz.ntmps88
  go_wp2_with fail
  clear c0
  generalize hW : (w.alloc (.cells #[.slice A l.length c] 48)).alloc (.cells #[.slice none 0 0] 48) = W at *
  have hWz : W.heap.size = w.heap.size + 2 := by rw [← hW]; simp
  clear hW
  refine (implEng_any _ l _ (HV.out.bel B0.out)).mono ?_
  rintro e w2 ⟨rfl, hb⟩
  rw [OK.out]
  replace K0 := K0.below hb K0.lt
  replace K2 := K2.below hb K2.lt
  have HB := Lib.hid (bel_trans B0.out hb)
  have hz2 := hb.size
  clear hb
  obtain ⟨c0, -⟩ := K0.one
  go_wp2_with fail
  clear c0
  refine (cloneS_any _ l _ (HV.out.bel HB.out) (by omega)).mono ?_
  rintro e w3 ⟨r, rfl, ho, hb1⟩
  rcases ho.form with ⟨_, h0⟩ | ⟨g, cap, cs0, rfl, hg, hblk0, hlcap, hcm, hcl0, hcs0⟩
  · exfalso; rw [h0] at l1; simp at l1
  · replace K0 := Lib.hid (K0.below hb1 K0.lt)
    replace K2 := Lib.hid (K2.below hb1 K2.lt)
    have HB3 := Lib.hid (bel_trans HB.out hb1)
    have H0 := Lib.hid (And.intro hcl0 hcs0)
    clear hb1 ho hcl0 hcs0
    go_wp2_with fail
    go_loopw [15] (fun i wr => ∃ (k : Nat) (cs : List Value), k ≤ l.length ∧ i = .int .i64 k ∧ Blk wr g 9 cs ∧ cs.length = cap ∧ (∀ j, j < l.length → cs[j]? = some (.string (mixK l k j))) ∧ Blk wr w.heap.size 48 [.slice A l.length c] ∧ Blk wr (w.heap.size + 1) 48 [.slice none 0 0] ∧ Below w.heap.size w wr)
      (fun i _ => l.length - (intOf i).toNat)
    case atStart => exact ⟨0, cs0, Nat.zero_le _, rfl, hblk0, H0.out.1, fun j hj => by unfold mixK; rw [if_neg (by omega)]; exact H0.out.2 j hj, K0.out, K2.out, HB3.out⟩
    case round =>
      obtain ⟨k, cs, hk, rfl, hblk, hcl, hcs, k0, k2, hbel⟩ := hrel
      have H := Lib.hid (And.intro hcl (And.intro hcs (And.intro k0 (And.intro k2 hbel))))
      have hbz := hblk.lt
      have HBK := Lib.hid hblk
      clear hcl hcs k0 k2 hbel H0 hblk0 hblk K0 K2
      by_cases hlt : k < l.length
      · obtain ⟨c0, -⟩ := H.out.2.2.1.one
        have hq : (k : Int).tdiv 2 = ((k / 2 : Nat) : Int) := by rw [Int.tdiv_eq_ediv_of_nonneg (by omega)]; omega
        obtain ⟨d, hd⟩ : ∃ d, k / 2 = d := ⟨_, rfl⟩
        rw [hd] at hq
        have hd3 : d ≤ 3 := by omega
        replace hd := Lib.hid hd
        have hng : IntKind.i64.wrap (-(d : Int)) = -(d : Int) := (IntWalk.i64_left _).trans (IntWalk.wrap64_in _ (by omega))
        go_wp2_with fail
        refine (turnedManyB_any _ l d _ (HV.out.bel H.out.2.2.2.2) OK.out (by omega)).mono ?_
        rintro e w4 ⟨r, rfl, o4, b4⟩
        have hlB := backN_length l d
        have HMX := Lib.hid (show sat (backN l (k / 2)) k = sat (backN l d) k by rw [hd.out])
        obtain ⟨A4, c4, rfl, hlc4, -, hrd⟩ := o4.strs.open_
        obtain ⟨b4', o4', rfl, hbb, hcell⟩ := hrd.strs (by omega)
        have ck := hcell k (by omega)
        have hbl4 := HBK.out.below b4 hbz
        have hcw : w4.cell? ⟨g, k, none⟩ = some (.string (mixK l k k)) := (b4.cell hbz).trans ((HBK.out.cell k).trans (H.out.2.1 k hlt))
        have hfw := hbl4.frozen k
        have HB4 := Lib.hid (bel_trans H.out.2.2.2.2 b4)
        have K04 := Lib.hid (H.out.2.2.1.below b4 H.out.2.2.1.lt)
        have K24 := Lib.hid (H.out.2.2.2.1.below b4 H.out.2.2.2.1.lt)
        have HBL := Lib.hid hbl4
        rw [hlB] at *
        obtain ⟨Z, hZ⟩ : ∃ Z, sat (backN l d) k = Z := ⟨_, rfl⟩
        rw [hZ] at ck HMX
        clear hcell hrd o4 b4 c0 hbl4 hZ
        go_wp2_with fail
        go_roundw
        case rel =>
          refine ⟨k + 1, cs.set k (.string Z), by omega, by go_num, HBL.out.set_ k _, by rw [List.length_set]; exact H.out.1, by rw [← HMX.out]; exact mixK_set hlt (by rw [H.out.1]; exact hlcap) H.out.2.1, K04.out.far (by show w.heap.size ≠ g; omega) _, K24.out.far (by show w.heap.size + 1 ≠ g; omega) _, HB4.out.setCell (by show w.heap.size ≤ g; omega) _⟩
        case measure => simp [intOf]; omega
      · have hke : k = l.length := by omega
        subst hke
        obtain ⟨c2, f2⟩ := H.out.2.2.2.1.one
        have HO := Lib.hid (own_skew OK.out hg HBK.out hlcap hcm H.out.1 H.out.2.1)
        go_wp2
        refine bodyPost_ret (v := .tuple #[.agg #[.slice (some ⟨g, 0, none⟩) l.length cap], .bool true]) (by simp [results, Tryz.results88, go_sem, c2]) rfl ⟨_, rfl, (HO.out.setCell ⟨w.heap.size + 1, 0, none⟩ _ (by show w.heap.size + 1 < w2.heap.size; omega)).lower (base' := w.heap.size) (by omega), H.out.2.2.2.2.setCell (p := ⟨w.heap.size + 1, 0, none⟩) (by show w.heap.size ≤ w.heap.size + 1; omega) _⟩
set_option maxHeartbeats 2000000 in
theorem deSkewed_any (v : Value) (l : List ByteArray) (w : World) (hv : Strs w v l) (ok : engOk l = true) :
    Calls Tryz.prog 30 #[.agg #[v]] w fun e w' => ∃ r, e = .returned (.agg #[r]) ∧ OwnS w' w.heap.size r (skewS l) ∧ Below w.heap.size w w' := by
  have HV := Lib.hid hv
  have OK := Lib.hid ok
  obtain ⟨A, c, rfl, -, -, -⟩ := hv.open_
  clear hv ok
  have B0 := Lib.hid (show Below w.heap.size w ((w.alloc (.cells #[.slice A l.length c] 48)).alloc (.cells #[.slice none 0 0] 48)) from (bel_alloc w _).alloc (by simp) _)
  have K2 := Blk.new' (w.alloc (.cells #[.slice A l.length c] 48)) 48 (.slice none 0 0) (w.heap.size + 1) (by simp)
  go_enter Tryz.func30, Tryz.ntmps30
  go_wp2_with fail
  generalize hW : (w.alloc (.cells #[.slice A l.length c] 48)).alloc (.cells #[.slice none 0 0] 48) = W at *
  have hWz : W.heap.size = w.heap.size + 2 := by rw [← hW]; simp
  clear hW
  refine (skew_any _ l _ (HV.out.bel B0.out) OK.out).mono ?_
  rintro e w2 ⟨r, rfl, o1, b1⟩
  obtain ⟨A1, d1, rfl, -, -, -⟩ := o1.strs.open_
  have hz2 := b1.size
  have k2 := K2.lt
  have KK := K2.below b1 K2.lt
  have HO := Lib.hid (((o1.bel (bel_alloc w2 (.cells #[.slice A1 (skewS l).length d1] 48)))).lower (base' := w.heap.size + 1 + 1) (by omega))
  have HB := Lib.hid (bel_trans B0.out (bel_trans b1 (bel_alloc w2 (.cells #[.slice A1 (skewS l).length d1] 48))))
  have K4 := Blk.new' w2 48 (.slice A1 (skewS l).length d1) w2.heap.size rfl
  have K5 := KK.alloc (.cells #[.slice A1 (skewS l).length d1] 48)
  obtain ⟨c4, -⟩ := K4.one
  obtain ⟨c2, f2⟩ := K5.one
  clear b1 o1 K4 K5 KK K2
  generalize hp : (skewS l).length = p at *
  clear hp
  go_wp2
  refine bodyPost_ret (v := .agg #[.slice A1 p d1]) (by simp [results, Tryz.results30, go_sem, c2]) rfl ⟨_, rfl, (HO.out.setCell ⟨w.heap.size + 1, 0, none⟩ _ (by show w.heap.size + 1 < w.heap.size + 1 + 1; omega)).lower (base' := w.heap.size) (by omega), HB.out.setCell (p := ⟨w.heap.size + 1, 0, none⟩) (by show w.heap.size ≤ w.heap.size + 1; omega) _⟩
end Go.Proofs.YtpniljcnknknoaaGreatDoor

/-
  The contract of impl.UnskewEngine.
-/
namespace Go.Proofs.YtpniljcnknknoaaGreatDoor
open Go.RowKit
set_option linter.unusedVariables false
set_option linter.unusedSimpArgs false
set_option maxRecDepth 100000
attribute [local go_sem ↓] Go.wp_at_zero Go.wp_at_succ

theorem strs_drop {w : World} {g cap i : Nat} {cs : List Value} {R : List ByteArray} (hb : Blk w g 9 cs) (hcl : cs.length = cap) (hlc : R.length ≤ cap) (hcm : cap ≤ 9223372036854775807)
    (hcs : ∀ j, j < R.length → cs[j]? = some (.string (sat R j))) (hi : i < R.length) (hwf : WfS R) : Strs w (.slice (some ⟨g, i, none⟩) (R.length - i) (cap - i)) (R.drop i) := by
  have hl : (sv (R.drop i)).length = R.length - i := by rw [sv_length, List.length_drop]
  refine ⟨⟨some ⟨g, i, none⟩, cap - i, by rw [hl], by rw [hl]; omega, by unfold maxLen; omega, fun _ => ⟨g, i, rfl, hb.lt, fun k u hu => ?_⟩⟩, fun s hs => hwf s (List.mem_of_mem_drop hs)⟩
  have hk : k < R.length - i := by
    rcases Nat.lt_or_ge k (R.length - i) with h | h
    · exact h
    · rw [List.getElem?_eq_none (by rw [hl]; exact h)] at hu; cases hu
  rw [sv_get _ k (by rw [List.length_drop]; exact hk), sat_drop] at hu
  rw [hb.cell, hcs _ (by omega), ← hu]
theorem unskN_step {l : List ByteArray} {i : Nat} (hi : i < l.length) : unskN l (l.length - i) = (unskN l (l.length - (i + 1))).set i (unskZ l (unskN l (l.length - (i + 1))) i) := by
  obtain ⟨k, hk⟩ : ∃ k, l.length - (i + 1) = k := ⟨_, rfl⟩
  have e1 : l.length - i = k + 1 := by omega
  have e2 : l.length - 1 - k = i := by omega
  rw [e1, hk]
  show (unskN l k).set (l.length - 1 - k) (unskZ l (unskN l k) (l.length - 1 - k)) = _
  rw [e2]
set_option maxHeartbeats 4000000 in
theorem unskew_any (v : Value) (l : List ByteArray) (w : World) (hv : Strs w v l) (ok : engOk l = true) :
    Calls Tryz.prog 191 #[.agg #[v]] w (EngB w (unskS l) true) := by
  have HV := Lib.hid hv
  have OK := Lib.hid ok
  obtain ⟨l1, l7, -⟩ := engOk_iff.1 ok
  obtain ⟨A, c, rfl, hlc, hcm, hrd⟩ := hv.open_
  obtain ⟨ba, oa, rfl, hba, hca⟩ := hrd.strs (by omega)
  have HCA := Lib.hid (And.intro hba hca)
  clear hv ok hrd hba hca
  have B0 := Lib.hid (show Below w.heap.size w ((w.alloc (.cells #[.slice (some ⟨ba, oa, none⟩) l.length c] 48)).alloc (.cells #[.slice none 0 0] 48)) from (bel_alloc w _).alloc (by simp) _)
  have K0 := (Blk.new' w 48 (.slice (some ⟨ba, oa, none⟩) l.length c) w.heap.size rfl).alloc (.cells #[.slice none 0 0] 48)
  have K2 := Blk.new' (w.alloc (.cells #[.slice (some ⟨ba, oa, none⟩) l.length c] 48)) 48 (.slice none 0 0) (w.heap.size + 1) (by simp)
  obtain ⟨c0, -⟩ := K0.one
  go_enter Tryz.func191, Tryz.ntmps191
  go_wp2_with fail
  clear c0
  generalize hW : (w.alloc (.cells #[.slice (some ⟨ba, oa, none⟩) l.length c] 48)).alloc (.cells #[.slice none 0 0] 48) = W at *
  have hWz : W.heap.size = w.heap.size + 2 := by rw [← hW]; simp
  clear hW
  refine (implEng_any _ l _ (HV.out.bel B0.out)).mono ?_
  rintro e w2 ⟨rfl, hb⟩
  rw [OK.out]
  replace K0 := K0.below hb K0.lt
  replace K2 := K2.below hb K2.lt
  have HB := Lib.hid (bel_trans B0.out hb)
  have hz2 := hb.size
  clear hb
  obtain ⟨c0, -⟩ := K0.one
  go_wp2_with fail
  clear c0
  refine (cloneS_any _ l _ (HV.out.bel HB.out) (by omega)).mono ?_
  rintro e w3 ⟨r, rfl, ho, hb1⟩
  rcases ho.form with ⟨_, h0⟩ | ⟨g, cap, cs0, rfl, hg, hblk0, hlcap, hcm3, hcl0, hcs0⟩
  · exfalso; rw [h0] at l1; simp at l1
  · replace K0 := Lib.hid (K0.below hb1 K0.lt)
    replace K2 := Lib.hid (K2.below hb1 K2.lt)
    have HB3 := Lib.hid (bel_trans HB.out hb1)
    have H0 := Lib.hid (And.intro hcl0 hcs0)
    clear hb1 ho hcl0 hcs0
    go_wp2_with fail
    go_loopw [5] (fun i wr => ∃ (m : Nat) (R : List ByteArray) (cs : List Value), m ≤ l.length ∧ i = .int .i64 ((m : Int) - 1) ∧ R = unskN l (l.length - m) ∧ Blk wr g 9 cs ∧ cs.length = cap ∧ (∀ j, j < l.length → cs[j]? = some (.string (sat R j))) ∧ Blk wr w.heap.size 48 [.slice (some ⟨ba, oa, none⟩) l.length c] ∧ Blk wr (w.heap.size + 1) 48 [.slice none 0 0] ∧ Below w.heap.size w wr)
      (fun i _ => (intOf i + 1).toNat)
    case atStart => exact ⟨l.length, l, cs0, Nat.le_refl _, by go_num, by rw [Nat.sub_self]; rfl, hblk0, H0.out.1, H0.out.2, K0.out, K2.out, HB3.out⟩
    case round =>
      obtain ⟨m, R, cs, hm, rfl, hR, hblk, hcl, hcs, k0, k2, hbel⟩ := hrel
      have H := Lib.hid (And.intro hR (And.intro hcl (And.intro hcs (And.intro k0 (And.intro k2 hbel)))))
      have hbz := hblk.lt
      have HBK := Lib.hid hblk
      clear hR hcl hcs k0 k2 hbel H0 hblk0 hblk K0 K2
      by_cases hm0 : m = 0
      · subst hm0
        rw [show (((0 : Nat) : Int) - 1) = -1 from rfl]
        obtain ⟨c2, f2⟩ := H.out.2.2.2.2.1.one
        have hlen := unskS_length l
        have HO := Lib.hid (show OwnS wr w2.heap.size (.slice (some ⟨g, 0, none⟩) l.length cap) (unskS l) from by
          have := OwnS.mk' (base := w2.heap.size) (l := unskS l) hg HBK.out (by rw [hlen]; exact hlcap) hcm3 H.out.2.1 (fun j hj => by rw [hlen] at hj; rw [H.out.2.2.1 j hj, H.out.1]; rfl) (eng_wf (unskS_ok OK.out))
          rwa [hlen] at this)
        clear hlen
        go_wp2
        refine bodyPost_ret (v := .tuple #[.agg #[.slice (some ⟨g, 0, none⟩) l.length cap], .bool true]) (by simp [results, Tryz.results191, go_sem, c2]) rfl ⟨_, rfl, (HO.out.setCell ⟨w.heap.size + 1, 0, none⟩ _ (by show w.heap.size + 1 < w2.heap.size; omega)).lower (base' := w.heap.size) (by omega), H.out.2.2.2.2.2.setCell (p := ⟨w.heap.size + 1, 0, none⟩) (by show w.heap.size ≤ w.heap.size + 1; omega) _⟩
      · obtain ⟨i, rfl⟩ : ∃ j, m = j + 1 := ⟨m - 1, by omega⟩
        rw [show (((i + 1 : Nat) : Int) - 1) = (i : Int) from by omega]
        have hil : i < l.length := by omega
        obtain ⟨c0, -⟩ := H.out.2.2.2.1.one
        have hq : (i : Int).tdiv 2 = ((i / 2 : Nat) : Int) := by rw [Int.tdiv_eq_ediv_of_nonneg (by omega)]; omega
        obtain ⟨d, hd⟩ : ∃ d, i / 2 = d := ⟨_, rfl⟩
        rw [hd] at hq
        have hd3 : d ≤ 3 := by omega
        replace hd := Lib.hid hd
        have hng : IntKind.i64.wrap (-(d : Int)) = -(d : Int) := (IntWalk.i64_left _).trans (IntWalk.wrap64_in _ (by omega))
        have hci : ¬ cap = i := by omega
        have hic : i ≤ l.length := by omega
        obtain ⟨ro, rz⟩ := unskN_ok OK.out (l.length - (i + 1)) (by omega)
        have hRl := unskN_length l (l.length - (i + 1))
        rw [← H.out.1] at ro rz hRl
        obtain ⟨xo, xz⟩ := unskX_ok OK.out ro hRl rz hil
        obtain ⟨zo, zz⟩ := unskZ_ok OK.out ro hRl rz hil
        have hdo := engOk_drop ro (i := i) (by omega)
        have hsd := strs_drop HBK.out H.out.2.1 (by rw [hRl]; exact hlcap) hcm3 (fun j hj => H.out.2.2.1 j (by omega)) (by omega) (eng_wf ro) (i := i)
        rw [hRl] at hsd
        have HSD := Lib.hid hsd
        have HX := Lib.hid (And.intro hdo (And.intro xo (And.intro hRl zo)))
        clear ro rz xz zz xo zo hdo hsd hRl
        go_wp2_with fail
        refine (turnedManyB_any _ (R.drop i) d _ HSD.out HX.out.1 (by omega)).mono ?_
        rintro e w4 ⟨r, rfl, o4, b4⟩
        have hlX : (backN (R.drop i) d).length = l.length - i := by rw [backN_length, List.length_drop, HX.out.2.2.1]
        rcases o4.form with ⟨_, h0⟩ | ⟨g4, cap4, cs4, rfl, hg4, hblk4, hlc4, hcm4, hcl4, hcs4⟩
        · exfalso; rw [h0] at hlX; simp at hlX; omega
        · have hXe : unskX l R i = (backN (R.drop i) d).set 0 (sat l i) := by unfold unskX; rw [hd.out]
          have hne4 : g4 ≠ g := by omega
          have HB4 := Lib.hid (bel_trans H.out.2.2.2.2.2 b4)
          have HBL := Lib.hid (HBK.out.below b4 hbz)
          have K04 := Lib.hid (H.out.2.2.2.1.below b4 H.out.2.2.2.1.lt)
          have K24 := Lib.hid (H.out.2.2.2.2.1.below b4 H.out.2.2.2.2.1.lt)
          obtain ⟨c0, -⟩ := K04.out.one
          have hw4 : w.heap.size + 2 ≤ wr.heap.size := by have := HBK.out.lt; omega
          have ck := (HB4.out.cell (by exact HCA.out.1)).trans (HCA.out.2 i hil)
          have ce : w4.cell? ⟨g4, 0, none⟩ = some (.string (sat (backN (R.drop i) d) 0)) := by rw [hblk4.cell]; exact hcs4 0 (by omega)
          have fe := hblk4.frozen 0
          have hX0 : 0 < l.length - i := by omega
          have HB4k := Lib.hid hblk4
          have HC4 := Lib.hid (And.intro hlc4 (And.intro hcl4 hcs4))
          obtain ⟨Z0, hZ0⟩ : ∃ Z, sat l i = Z := ⟨_, rfl⟩
          rw [hZ0] at ck hXe
          have HSX := Lib.hid (show OwnS (w4.setCell ⟨g4, 0, none⟩ (.string Z0)) wr.heap.size (.slice (some ⟨g4, 0, none⟩) (l.length - i) cap4) (unskX l R i) from by
            have hl5 : (unskX l R i).length = l.length - i := by rw [hXe, List.length_set, hlX]
            have := OwnS.mk' (base := wr.heap.size) (l := unskX l R i) hg4 (hblk4.set_ 0 (.string Z0)) (by rw [hl5]; omega) hcm4 (by rw [List.length_set]; exact hcl4) (fun j hj => by
              rw [hl5] at hj
              rw [hXe, sat_set (by omega)]
              by_cases e : 0 = j
              · subst e; rw [List.getElem?_set_self (by omega), if_pos rfl]
              · rw [List.getElem?_set_ne e, if_neg e]; exact hcs4 j (by omega)) (eng_wf HX.out.2.1)
            rwa [hl5] at this)
          have HBS := Lib.hid (b4.setCell (p := ⟨g4, 0, none⟩) (by exact hg4) (.string Z0))
          rw [hlX]
          clear o4 b4 hlX hblk4 hlc4 hcl4 hcs4 hZ0
          go_wp2_with fail
          generalize hW5 : w4.setCell ⟨g4, 0, none⟩ (.string Z0) = w5 at HSX HBS ⊢
          clear hW5 c0 ck ce fe
          refine (turnedMany_any _ (unskX l R i) d _ HSX.out.strs HX.out.2.1 (by omega)).mono ?_
          rintro e w6 ⟨r, rfl, o6, b6⟩
          have hlY : (turnN (unskX l R i) d).length = l.length - i := by rw [turnN_length, hXe, List.length_set, backN_length, List.length_drop, HX.out.2.2.1]
          obtain ⟨A6, c6, rfl, hlc6, -, hrd6⟩ := o6.strs.open_
          obtain ⟨b6', o6', rfl, hbb6, hcell6⟩ := hrd6.strs (by omega)
          have ck := hcell6 0 (by omega)
          rw [Nat.add_zero] at ck
          have HB6 := Lib.hid (bel_trans HBS.out b6)
          have HBw := Lib.hid (bel_trans H.out.2.2.2.2.2 HB6.out)
          have HBL6 := HBK.out.below HB6.out hbz
          have cg : w6.cell? ⟨g, i, none⟩ = some (.string (sat R i)) := (HBL6.cell i).trans (H.out.2.2.1 i hil)
          have fg := HBL6.frozen i
          have HK6 := Lib.hid HBL6
          have K06 := Lib.hid (H.out.2.2.2.1.below HB6.out H.out.2.2.2.1.lt)
          have K26 := Lib.hid (H.out.2.2.2.2.1.below HB6.out H.out.2.2.2.2.1.lt)
          have hZe : sat (turnN (unskX l R i) d) 0 = unskZ l R i := by unfold unskZ; rw [hd.out]
          rw [hZe] at ck
          obtain ⟨Z, hZ⟩ : ∃ Z, unskZ l R i = Z := ⟨_, rfl⟩
          rw [hZ] at ck
          have HR2 := Lib.hid (show R.set i Z = unskN l (l.length - i) by rw [unskN_step hil, ← H.out.1, hZ])
          have HRl := Lib.hid HX.out.2.2.1
          rw [hlY]
          clear o6 b6 hlY hrd6 hcell6 HBL6 hZe hZ hXe
          go_wp2_with fail
          go_roundw
          case rel =>
            refine ⟨i, R.set i Z, cs.set i (.string Z), by omega, by go_num, HR2.out, HK6.out.set_ i _, by rw [List.length_set]; exact H.out.2.1, fun j hj => ?_, K06.out.far (by show w.heap.size ≠ g; omega) _, K26.out.far (by show w.heap.size + 1 ≠ g; omega) _, HBw.out.setCell (by show w.heap.size ≤ g; omega) _⟩
            rw [sat_set (by rw [HRl.out]; exact hil)]
            by_cases e : i = j
            · subst e; rw [List.getElem?_set_self (by rw [H.out.2.1]; omega), if_pos rfl]
            · rw [List.getElem?_set_ne e, if_neg e]; exact H.out.2.2.1 j hj
          case measure => simp [intOf]
end Go.Proofs.YtpniljcnknknoaaGreatDoor

/-
  TurnMany, deTurned, deTen; the drawn arguments of TotalOf.
-/
namespace Go.Proofs.YtpniljcnknknoaaGreatDoor
open Go.RowKit
set_option linter.unusedVariables false
set_option linter.unusedSimpArgs false
set_option maxRecDepth 100000
attribute [local go_sem ↓] Go.wp_at_zero Go.wp_at_succ

set_option maxHeartbeats 400000 in
theorem within_nat (k m : Nat) (w : World) (h : k ≤ m) (hm : m ≤ 1000000) :
    Calls Tryz.prog 110 #[.int .i64 k, .int .i64 m] w fun e w' => e = .returned (.bool true) ∧ w = w' := by
  have h1 : -(m : Int) ≤ (k : Int) := by omega
  have h2 : (k : Int) ≤ (m : Int) := by omega
  go_enter Tryz.func110, Tryz.ntmps110
  go_wp2
  go_ret
  exact ⟨by simp_all, rfl⟩

set_option maxHeartbeats 2000000 in
theorem turnManyE_any (v : Value) (l : List ByteArray) (n : Nat) (w : World) (hv : Strs w v l) (ok : engOk l = true) (hn : n ≤ 300) :
    Calls Tryz.prog 86 #[.agg #[v], .int .i64 n] w (EngB w (turnN l n) true) := by
  have HV := Lib.hid hv
  obtain ⟨A, c, rfl, -, -, -⟩ := hv.open_
  clear hv
  have B0 := Lib.hid (show Below w.heap.size w ((w.alloc (.cells #[.slice A l.length c] 48)).alloc (.cells #[.slice none 0 0] 48)) from (bel_alloc w _).alloc (by simp) _)
  have K0 := (Blk.new' w 48 (.slice A l.length c) w.heap.size rfl).alloc (.cells #[.slice none 0 0] 48)
  have K2 := Blk.new' (w.alloc (.cells #[.slice A l.length c] 48)) 48 (.slice none 0 0) (w.heap.size + 1) (by simp)
  obtain ⟨c0, -⟩ := K0.one
  go_enter Tryz.func86, Tryz.ntmps86
  go_wp2_with fail
  clear c0
  generalize hW : (w.alloc (.cells #[.slice A l.length c] 48)).alloc (.cells #[.slice none 0 0] 48) = W at *
  clear hW
  refine (implEng_any _ l _ (HV.out.bel B0.out)).mono ?_
  rintro e w2 ⟨rfl, hb⟩
  rw [ok]
  replace K0 := K0.below hb K0.lt
  replace K2 := K2.below hb K2.lt
  have HB := Lib.hid (bel_trans B0.out hb)
  have hz := HB.out.size
  have HOK := Lib.hid ok
  clear hb ok
  obtain ⟨c0, -⟩ := K0.one
  obtain ⟨c2, f2⟩ := K2.one
  go_wp2_with fail
  refine (within_nat n 300 _ hn (by omega)).mono ?_
  rintro e w2' ⟨rfl, rfl⟩
  go_wp2_with fail
  refine (turnedMany_any _ l n _ (HV.out.bel HB.out) HOK.out hn).mono ?_
  rintro e w3 ⟨r, rfl, ho, hb3⟩
  have k2 := K2.lt
  replace K2 := K2.below hb3 K2.lt
  have HO := Lib.hid (And.intro (ho.lower (base' := w.heap.size + 1 + 1) (by omega)) (bel_trans HB.out hb3))
  obtain ⟨A3, d3, rfl, -, -, -⟩ := ho.strs.open_
  clear ho hb3 c2 f2
  obtain ⟨c2, f2⟩ := K2.one
  generalize hp : (turnN l n).length = p at *
  clear hp
  go_wp2
  refine bodyPost_ret (v := .tuple #[.agg #[.slice A3 p d3], .bool true]) (by simp [results, Tryz.results86, go_sem, c2]) rfl ⟨_, rfl, ?_, ?_⟩
  · exact (HO.out.1.setCell _ _ (by simp)).lower (by omega)
  · exact HO.out.2.setCell (by simp) _

set_option maxHeartbeats 2000000 in
theorem deTurned_any (v : Value) (l : List ByteArray) (n : Nat) (w : World) (hv : Strs w v l) (ok : engOk l = true) (hn : n ≤ 300) :
    Calls Tryz.prog 28 #[.agg #[v], .int .i64 n] w fun e w' => ∃ r, e = .returned (.agg #[r]) ∧ OwnS w' w.heap.size r (turnN l n) ∧ Below w.heap.size w w' := by
  have HV := Lib.hid hv
  obtain ⟨A, c, rfl, -, -, -⟩ := hv.open_
  clear hv
  have B0 := Lib.hid (show Below w.heap.size w ((w.alloc (.cells #[.slice A l.length c] 48)).alloc (.cells #[.slice none 0 0] 48)) from (bel_alloc w _).alloc (by simp) _)
  have K0 := (Blk.new' w 48 (.slice A l.length c) w.heap.size rfl).alloc (.cells #[.slice none 0 0] 48)
  have K2 := Blk.new' (w.alloc (.cells #[.slice A l.length c] 48)) 48 (.slice none 0 0) (w.heap.size + 1) (by simp)
  obtain ⟨c0, -⟩ := K0.one
  go_enter Tryz.func28, Tryz.ntmps28
  go_wp2_with fail
  clear c0
  generalize hW : (w.alloc (.cells #[.slice A l.length c] 48)).alloc (.cells #[.slice none 0 0] 48) = W at *
  clear hW
  have k2 := K2.lt
  refine (turnManyE_any _ l n _ (HV.out.bel B0.out) ok hn).mono ?_
  rintro e w2 ⟨r, rfl, ho, hb⟩
  replace K2 := K2.below hb K2.lt
  have HO := Lib.hid (And.intro ((ho.lower (base' := w.heap.size + 1 + 1) (by omega)).bel (bel_alloc w2 (.cells #[r] 48))) (bel_trans (bel_trans B0.out hb) (bel_alloc w2 (.cells #[r] 48))))
  obtain ⟨A3, d3, rfl, -, -, -⟩ := ho.strs.open_
  replace K2 := K2.alloc (.cells #[.slice A3 (turnN l n).length d3] 48)
  clear ho hb
  obtain ⟨c2, f2⟩ := K2.one
  generalize hp : (turnN l n).length = p at *
  clear hp
  go_wp2
  refine bodyPost_ret (v := .agg #[.slice A3 p d3]) (by simp [results, Tryz.results28, go_sem, c2]) rfl ⟨_, rfl, ?_, ?_⟩
  · exact (HO.out.1.setCell _ _ (by simp)).lower (by omega)
  · exact HO.out.2.setCell (by simp) _

end Go.Proofs.YtpniljcnknknoaaGreatDoor

/-
  The lines of scripts with engines: poly, setup, turns, skew, unskew, run, nines.
-/
namespace Go.Proofs.YtpniljcnknknoaaGreatDoor
open Go.RowKit
set_option linter.unusedVariables false
set_option linter.unusedSimpArgs false
set_option maxRecDepth 100000
attribute [local go_sem ↓] Go.wp_at_zero Go.wp_at_succ

def wSetup : ByteArray := ⟨#[115, 101, 116, 117, 112]⟩
def wTurns : ByteArray := ⟨#[116, 117, 114, 110, 115]⟩
def wRun : ByteArray := ⟨#[114, 117, 110]⟩
def wSkew : ByteArray := ⟨#[115, 107, 101, 119]⟩
def wUnskew : ByteArray := ⟨#[117, 110, 115, 107, 101, 119]⟩
def wNines : ByteArray := ⟨#[110, 105, 110, 101, 115]⟩
def polyOut (t : ByteArray) : ByteArray := if ppOk t = true then okS else noS
def polyD (d : DeskD) (t : ByteArray) : DeskD := if ppOk t = true then { d with poly := ppL t } else d
set_option maxHeartbeats 2000000 in
theorem text_poly {d : DeskD} {t : ByteArray} (ht : t.size ≤ 1000000) : TextC wPoly t d (polyOut t) (polyD d t) := by
  intro b w hd hg
  have HD := Lib.hid hd
  have HG := Lib.hid hg
  clear hd hg
  unfold wPoly
  go_enter Tryz.func131, Tryz.ntmps131
  go_wp2_with fail
  refine (implPP_any t w (by omega) HG.out.glb).mono ?_
  rintro e w2 ⟨r, rfl, o, b2⟩
  have HB := Lib.hid b2
  have HO := Lib.hid o.low
  clear o b2
  cases hq : ppOk t
  · have HN := Lib.hid (show polyOut t = noS ∧ polyD d t = d by unfold polyOut polyD; rw [hq]; exact ⟨rfl, rfl⟩)
    clear hq
    go_wp2
    go_ret
    exact ⟨by rw [HN.out.1]; rfl, by rw [HN.out.2]; exact HD.out.bel HB.out, grw_bel _ HB.out⟩
  · have HN := Lib.hid (show polyOut t = okS ∧ polyD d t = { d with poly := ppL t } by unfold polyOut polyD; rw [hq]; exact ⟨rfl, rfl⟩)
    have HD2 := Lib.hid (HD.out.bel HB.out)
    obtain ⟨p, en, u, k0, -, -, -⟩ := HD2.out
    obtain ⟨f0, f1, f2, f3, f4, f5⟩ := k0.deskF
    obtain ⟨c0, c1, c2, c3, c4, c5⟩ := k0.desk
    obtain ⟨A, c, rfl, -, -, -⟩ := HO.out.ints.open_
    clear hq k0
    go_wp2
    go_ret
    exact ⟨by rw [HN.out.1]; rfl, by rw [HN.out.2]; exact HD2.out.setPoly HO.out, grw_trans (grw_bel _ HB.out) (grown_set _ b 0 _)⟩
set_option maxHeartbeats 2000000 in
theorem word_skew {d : DeskD} (he : engOk d.eng = true) : WordC wSkew d (fmtE (skewS d.eng) ++ nlS) { d with eng := skewS d.eng } := by
  intro b w hd hg
  have HD := Lib.hid hd
  have HG := Lib.hid hg
  obtain ⟨p, en, t, k0, -, k2, -⟩ := hd
  have HE := Lib.hid k2.strs
  obtain ⟨A, c, rfl, -, -, -⟩ := k2.strs.open_
  obtain ⟨c0, c1, c2, c3, c4, c5⟩ := k0.desk
  have HOK := Lib.hid he
  clear hg k0 k2 he
  unfold wSkew
  go_enter Tryz.func128, Tryz.ntmps128
  go_wp2_with fail
  refine (skew_any _ d.eng w HE.out HOK.out).mono ?_
  rintro e w2 ⟨r, rfl, o, b2⟩
  have HB := Lib.hid b2
  have HO := Lib.hid o.low
  clear o b2 c0 c1 c2 c3 c4 c5
  go_wp2_with fail
  refine (setEng_any b d r (skewS d.eng) true w2 (HD.out.bel HB.out) HO.out (HG.out.bel HB.out)).mono ?_
  rintro e w3 ⟨rfl, h2, h3⟩
  have HF := Lib.hid (And.intro h2 h3)
  clear h2 h3
  go_wp2
  go_ret
  exact ⟨rfl, HF.out.1, grw_trans (grw_bel _ HB.out) HF.out.2⟩
set_option maxHeartbeats 2000000 in
theorem word_unskew {d : DeskD} (he : engOk d.eng = true) : WordC wUnskew d (fmtE (unskS d.eng) ++ nlS) { d with eng := unskS d.eng } := by
  intro b w hd hg
  have HD := Lib.hid hd
  have HG := Lib.hid hg
  obtain ⟨p, en, t, k0, -, k2, -⟩ := hd
  have HE := Lib.hid k2.strs
  obtain ⟨A, c, rfl, -, -, -⟩ := k2.strs.open_
  obtain ⟨c0, c1, c2, c3, c4, c5⟩ := k0.desk
  have HOK := Lib.hid he
  clear hg k0 k2 he
  unfold wUnskew
  go_enter Tryz.func128, Tryz.ntmps128
  go_wp2_with fail
  refine (unskew_any _ d.eng w HE.out HOK.out).mono ?_
  rintro e w2 ⟨r, rfl, o, b2⟩
  have HB := Lib.hid b2
  have HO := Lib.hid o.low
  clear o b2 c0 c1 c2 c3 c4 c5
  go_wp2_with fail
  refine (setEng_any b d r (unskS d.eng) true w2 (HD.out.bel HB.out) HO.out (HG.out.bel HB.out)).mono ?_
  rintro e w3 ⟨rfl, h2, h3⟩
  have HF := Lib.hid (And.intro h2 h3)
  clear h2 h3
  go_wp2
  go_ret
  exact ⟨rfl, HF.out.1, grw_trans (grw_bel _ HB.out) HF.out.2⟩
set_option maxHeartbeats 4000000 in
theorem nums_setup {d : DeskD} {n k : Int} (hn : -9223372036854775808 ≤ n ∧ n ≤ 9223372036854775807) : NumsC wSetup [n, k] d (showS (fmtE (setE d.poly n k)) (setOk d.poly n k)) (setEngD d (setE d.poly n k) (setOk d.poly n k)) := by
  intro b v w hv hd hg
  have HD := Lib.hid hd
  have HG := Lib.hid hg
  obtain ⟨pv, en, t, k0, k1, -, -⟩ := hd
  have HP := Lib.hid k1.ints
  obtain ⟨A, c, rfl, -, -, -⟩ := k1.ints.open_
  obtain ⟨g, cn, rfl, hgl, hcn⟩ := own_get hv (by simp)
  have n0 : w.cell? ⟨g, 0, none⟩ = some (.int .i64 n) := hcn 0 (by simp)
  have n1 : w.cell? ⟨g, 1, none⟩ = some (.int .i64 k) := hcn 1 (by simp)
  obtain ⟨c0, c1, c2, c3, c4, c5⟩ := k0.desk
  have HN := Lib.hid hn
  clear c1 c2 c3 c4 c5
  have tok1 : True := trivial
  have tok2 : True := trivial
  clear k0 k1 hg hv hcn hn
  unfold wSetup
  go_enter Tryz.func130, Tryz.ntmps130
  go_wp2_with fail
  go_region_law (first
    | (go_simp; go_at_call 24; have _t := tok1; refine (implSetUp_any _ d.poly n k _ (by first | exact HP.out | exact HP.out.bel (bel_drew _)) HN.out).mono ?_; rintro e1 w3 ⟨r, rfl, o3, b3⟩; replace b3 : Below w.heap.size w w3 := (by first | exact b3 | exact bel_trans (bel_drew _) b3); have HB := Lib.hid b3; have HO := Lib.hid o3.low; clear tok1 b3 o3 n0 n1 c0)
    | (go_simp; go_at_call 189; have _t := tok2; refine (setEng_any b d _ (setE d.poly n k) (setOk d.poly n k) _ (HD.out.bel HB.out) HO.out (HG.out.bel HB.out)).mono ?_; rintro e2 w4 ⟨rfl, d4, g4⟩; have HE := Lib.hid (And.intro d4 g4); clear tok2 d4 g4)
    | fail)
  all_goals
    go_wp2
    go_ret
    exact ⟨rfl, HE.out.1, grw_trans (grw_bel _ HB.out) HE.out.2⟩
set_option maxHeartbeats 4000000 in
theorem nums_turns {d : DeskD} {n : Nat} (he : engOk d.eng = true) (hn : n ≤ 300) : NumsC wTurns [(n : Int)] d (fmtE (turnN d.eng n) ++ nlS) { d with eng := turnN d.eng n } := by
  intro b v w hv hd hg
  have HD := Lib.hid hd
  have HG := Lib.hid hg
  obtain ⟨pv, en, t, k0, -, k2, -⟩ := hd
  have HP := Lib.hid k2.strs
  obtain ⟨A, c, rfl, -, -, -⟩ := k2.strs.open_
  obtain ⟨g, cn, rfl, hgl, hcn⟩ := own_get hv (by simp)
  have n0 : w.cell? ⟨g, 0, none⟩ = some (.int .i64 n) := hcn 0 (by simp)
  obtain ⟨c0, c1, c2, c3, c4, c5⟩ := k0.desk
  have HOK := Lib.hid he
  clear c0 c2 c3 c4 c5
  have tok1 : True := trivial
  have tok2 : True := trivial
  clear k0 k2 hg hv hcn he
  unfold wTurns
  go_enter Tryz.func130, Tryz.ntmps130
  go_wp2_with fail
  go_region_law (first
    | (go_simp; go_at_call 86; have _t := tok1; refine (turnManyE_any _ d.eng n _ (by first | exact HP.out | exact HP.out.bel (bel_drew _)) HOK.out hn).mono ?_; rintro e1 w3 ⟨r, rfl, o3, b3⟩; replace b3 : Below w.heap.size w w3 := (by first | exact b3 | exact bel_trans (bel_drew _) b3); have HB := Lib.hid b3; have HO := Lib.hid o3.low; clear tok1 b3 o3 n0 c1)
    | (go_simp; go_at_call 189; have _t := tok2; refine (setEng_any b d _ (turnN d.eng n) true _ (HD.out.bel HB.out) HO.out (HG.out.bel HB.out)).mono ?_; rintro e2 w4 ⟨rfl, d4, g4⟩; have HE := Lib.hid (And.intro d4 g4); clear tok2 d4 g4)
    | fail)
  all_goals
    go_wp2
    go_ret
    exact ⟨rfl, HE.out.1, grw_trans (grw_bel _ HB.out) HE.out.2⟩
theorem runL_le (l : List ByteArray) (n : Int) : (runL l n).length ≤ 1048576 := by
  unfold runL
  split
  · rename_i h
    simp only [runOk, Bool.and_eq_true] at h
    have := inB_true.1 h.2
    rw [runS_length]; omega
  · simp
set_option maxHeartbeats 4000000 in
theorem nums_run {d : DeskD} {n : Int} (hn : -9223372036854775808 ≤ n ∧ n ≤ 9223372036854775807) : NumsC wRun [n] d (showS (numsS (runL d.eng n)) (runOk d.eng n && tableOk (runL d.eng n))) (setTabD d (runL d.eng n) (runOk d.eng n)) := by
  intro b v w hv hd hg
  have HD := Lib.hid hd
  have HG := Lib.hid hg
  obtain ⟨pv, en, t, k0, -, k2, -⟩ := hd
  have HP := Lib.hid k2.strs
  obtain ⟨A, c, rfl, -, -, -⟩ := k2.strs.open_
  obtain ⟨g, cn, rfl, hgl, hcn⟩ := own_get hv (by simp)
  have n0 : w.cell? ⟨g, 0, none⟩ = some (.int .i64 n) := hcn 0 (by simp)
  obtain ⟨c0, c1, c2, c3, c4, c5⟩ := k0.desk
  have HN := Lib.hid hn
  have hrl := runL_le d.eng n
  clear c0 c2 c3 c4 c5
  have tok1 : True := trivial
  have tok2 : True := trivial
  clear k0 k2 hg hv hcn hn
  unfold wRun
  go_enter Tryz.func130, Tryz.ntmps130
  go_wp2_with fail
  go_region_law (first
    | (go_simp; go_at_call 27; have _t := tok1; refine (implRun_any _ d.eng n _ (by first | exact HP.out | exact HP.out.bel (bel_drew _)) HN.out).mono ?_; rintro e1 w3 ⟨r, rfl, o3, b3⟩; replace b3 : Below w.heap.size w w3 := (by first | exact b3 | exact bel_trans (bel_drew _) b3); have HB := Lib.hid b3; have HO := Lib.hid o3.low; clear tok1 b3 o3 n0 c1)
    | (go_simp; go_at_call 196; have _t := tok2; refine (setTab_any b d _ (runL d.eng n) (runOk d.eng n) _ (HD.out.bel HB.out) HO.out hrl (HG.out.bel HB.out)).mono ?_; rintro e2 w4 ⟨rfl, d4, g4⟩; have HE := Lib.hid (And.intro d4 g4); clear tok2 d4 g4)
    | fail)
  all_goals
    go_wp2
    go_ret
    exact ⟨rfl, HE.out.1, grw_trans (grw_bel _ HB.out) HE.out.2⟩
theorem remL_size (l : List Int) (h : l.length ≤ 60) : (numsS (remL l 9)).size ≤ 1320 ∧ (remL l 9).length ≤ 60 := by
  unfold remL
  split
  · have hl := gen_length (fun i => ((md (at_ l i) 9 : Nat) : Int)) l.length
    have h1 := numsS_size (l := gen (fun i => ((md (at_ l i) 9 : Nat) : Int)) l.length) (wf_gen fun j hj => by have := md_lt (at_ l j) (show 1 ≤ 9 by omega); omega)
    rw [hl] at h1 ⊢
    omega
  · exact ⟨Nat.zero_le _, Nat.zero_le _⟩
set_option maxHeartbeats 4000000 in
theorem word_nines {d : DeskD} (ok : d.Ok) : WordC wNines d (showS (numsS (remL d.tab 9)) (tableOk d.tab)) d := by
  intro b w hd hg
  have HD := Lib.hid hd
  have HG := Lib.hid hg
  have hz := remL_size d.tab ok.tab
  obtain ⟨pv, en, t, k0, -, -, k3⟩ := hd
  have HT := Lib.hid k3.ints
  have HK := Lib.hid k0
  obtain ⟨A, c, rfl, -, -, -⟩ := k3.ints.open_
  obtain ⟨c0, c1, c2, c3, c4, c5⟩ := k0.desk
  have tok1 : True := trivial
  have tok2 : True := trivial
  have tok3 : True := trivial
  have tok4 : True := trivial
  clear k0 k3 hg ok
  unfold wNines
  go_enter Tryz.func128, Tryz.ntmps128
  go_wp2_with fail
  go_region_held3 (fun w' => w'.cell? ⟨b, 2, none⟩ = some (.slice A d.tab.length c)) (first | exact HK.out.desk4.1 | exact HK3.out.desk4.1 | exact HK4.out.desk4.1 | go_keep) (first
    | ((try go_simp); go_at_call 32; have _t := tok1; go_loud (refine (nines_any _ d.tab _ (by first | exact HT.out | exact HT.out.bel (bel_drew _))).mono ?_; rintro e w3 ⟨r, rfl, o3, b3⟩; replace b3 : Below w.heap.size w w3 := (by first | exact b3 | exact bel_trans (bel_drew _) b3); have HB := Lib.hid b3; have HK3 := Lib.hid (HK.out.below b3 HK.out.lt); have HO := Lib.hid o3.ints; obtain ⟨A3, c6, rfl, -, -, -⟩ := o3.ints.open_; clear tok1 b3 o3; (try dsimp only)))
    | ((try go_simp); go_at_call 52; have _t := tok2; go_loud (refine (joinNumbers_any _ (remL d.tab 9) _ HO.out (by omega) (HG.out.bel HB.out).glb.1).mono ?_; rintro e w4 ⟨rfl, b3⟩; have HB4 := Lib.hid (bel_trans HB.out b3); have HK4 := Lib.hid (HK3.out.below b3 HK3.out.lt); have HT4 := Lib.hid (HT.out.bel HB4.out); clear tok2 b3; (try dsimp only)))
    | ((try go_simp); go_at_call 31; have _t := tok3; go_loud (refine (implTable_any _ d.tab _ HT4.out).mono ?_; rintro e w5 ⟨rfl, rfl⟩; clear tok3; (try dsimp only)))
    | ((try go_simp); go_at_call 187; have _t := tok4; go_loud (refine (showT_any _ (tableOk d.tab) _ (by omega)).mono ?_; rintro e w6 ⟨rfl, rfl⟩; clear tok4; (try dsimp only)))
    | fail)
  clear c0 c1 c2 c3 c4 c5
  go_wp2
  go_ret
  exact ⟨rfl, HD.out.bel HB4.out, grw_bel _ HB4.out⟩
end Go.Proofs.YtpniljcnknknoaaGreatDoor

/-
  A script: RunScript (impl), over what its lines do.
-/
namespace Go.Proofs.YtpniljcnknknoaaGreatDoor
open Go.RowKit
set_option linter.unusedVariables false
set_option linter.unusedSimpArgs false
set_option maxRecDepth 100000
attribute [local go_sem ↓] Go.wp_at_zero Go.wp_at_succ

theorem Bld.shape {w : World} {b : Nat} {T : ByteArray} (h : Bld w b T) : w.shape? b = some (82, 2) := h.elim (fun x => x.shape) (fun x => x.shape)
theorem bldAt_grw {w w' : World} {B bb b : Nat} {p : Value} {bs : List Value} {cs : List Value} (h : Lib.BuilderAtF 82 5 B bb p bs w) (hd : Blk w b 79 cs) (hg : w.grownBy w' (some b)) (hne : bb ≠ b) : Lib.BuilderAtF 82 5 B bb p bs w' := by
  have hlt := h.lt
  obtain ⟨hB, v, hh, hown, hn⟩ := h
  exact ⟨hB, v, (hg.block bb hlt (fun e => hne (Option.some.inj e))).trans hh, hown.kept hg (.inr (Lib.ownBlock_neF hown hd (by decide))), hn⟩
theorem Bld.grw {w w' : World} {bb b : Nat} {T : ByteArray} {d : DeskD} (h : Bld w bb T) (hd : Desk w b d) (hg : w.grownBy w' (some b)) (hne : bb ≠ b) : Bld w' bb T := by
  obtain ⟨p, e, t, h0, -⟩ := hd
  exact h.elim (fun x => .inl (bldAt_grw x h0 hg hne)) (fun x => .inr (bldAt_grw x h0 hg hne))
theorem OwnS.others {w w' : World} {base bb : Nat} {v : Value} {l : List ByteArray} {T : ByteArray} (h : OwnS w base v l) (hB : Bld w bb T) (hk : Lib.OthersKept 5 (some bb) w w') : OwnS w' base v l := by
  refine ⟨row_others h.1 hk (fun h5 => ?_) (by decide), h.2⟩
  have hs := hB.shape
  rcases h.1.2 with ⟨rfl, -⟩ | ⟨g, cap, cur, rfl, -, hg, -⟩
  · simp [Value.ownBlock] at h5
  · have h6 : g = bb := Option.some.inj h5
    subst h6
    simp [World.shape?, hg] at hs
/-- What a row of lines does, one after the other. -/
inductive Ran : DeskD → List ByteArray → ByteArray → Prop
  | done (d : DeskD) : Ran d [] ⟨#[]⟩
  | skip {d : DeskD} {ls : List ByteArray} {out : ByteArray} (h : Ran d ls out) : Ran d (⟨#[]⟩ :: ls) out
  | line {d d2 : DeskD} {l o out : ByteArray} {ls : List ByteArray} (hl : l ≠ ⟨#[]⟩) (hc : LineC l d o d2) (h : Ran d2 ls out) : Ran d (l :: ls) (o ++ out)
theorem own_zero {w : World} {g : Nat} (h : Blk w g 3 [.int .i64 0]) : Own w 0 (.slice (some ⟨g, 0, none⟩) 1 1) [0] := by
  refine Own.mk' (cs := [.int .i64 0]) (l := [0]) (Nat.zero_le _) h (Nat.le_refl _) (by decide) rfl (fun j hj => ?_) (fun n hn => ?_)
  · have : j = 0 := by simp at hj; exact hj
    subst this
    rfl
  · simp at hn
    omega
theorem Ran.inv {d : DeskD} {l R : ByteArray} {ls : List ByteArray} (h : Ran d (l :: ls) R) (hl : l ≠ ⟨#[]⟩) : ∃ o d2 out, LineC l d o d2 ∧ Ran d2 ls out ∧ R = o ++ out := by
  cases h with
  | skip h => exact absurd rfl hl
  | line h1 h2 h3 => exact ⟨_, _, _, h2, h3, rfl⟩
theorem Ran.inv0 {d : DeskD} {R : ByteArray} {ls : List ByteArray} (h : Ran d (⟨#[]⟩ :: ls) R) : Ran d ls R := by
  cases h with
  | skip h => exact h
  | line h1 h2 h3 => exact absurd rfl h1
theorem Ran.invE {d : DeskD} {R : ByteArray} (h : Ran d [] R) : R = ⟨#[]⟩ := by
  cases h
  rfl
theorem tol_ne {x : ByteArray} (h : x.toList.isEmpty = false) : x ≠ ⟨#[]⟩ := by
  rintro rfl
  rw [ByteArray.toList_eq] at h
  exact absurd h (by decide)
theorem tol_eq {x : ByteArray} (h : x.toList.isEmpty = true) : x = ⟨#[]⟩ := by
  rw [ByteArray.toList_eq] at h
  apply ByteArray.ext
  apply Array.toList_inj.1
  simpa using h
theorem app_none (x : ByteArray) : x ++ ⟨#[]⟩ = x := by
  apply ByteArray.ext
  apply Array.toList_inj.1
  simp
/-- The desk at a script's start. -/
def desk0 : DeskD := ⟨[0], [], [], 5, 2, 8⟩
theorem ba_size_app (a b : ByteArray) : (a ++ b).size = a.size + b.size := ByteArray.size_append
theorem drop_sat {l : List ByteArray} {k : Nat} (h : k < l.length) : l.drop k = sat l k :: l.drop (k + 1) := by
  rw [List.drop_eq_getElem_cons h, sat_eq l k h]
theorem ne_tol {x : ByteArray} (h : x ≠ ⟨#[]⟩) : x.toList.isEmpty = false := by
  cases hq : x.toList.isEmpty
  · rfl
  · rw [ByteArray.toList_eq] at hq
    exact absurd (ByteArray.ext (Array.toList_inj.1 (by simpa using hq))) h
set_option maxHeartbeats 4000000 in
theorem runScript_any (t out : ByteArray) (w : World) (hs : t.size ≤ 20000) (hg : GlbC w) (hR : Ran desk0 (cutS 10 t) out) (hn : (cutS 10 t).length ≤ 100) (ho : out.size ≤ 40000) :
    Calls Tryz.prog 14 #[.string t] w fun e w' => e = .returned (.string out) ∧ Below w.heap.size w w' := by
  have HG := Lib.hid hg
  have HR := Lib.hid hR
  clear hg hR
  have h2 : ¬ (20000 : Int) < (t.size : Int) := by omega
  have B1 : Below w.heap.size w (w.alloc (.cells #[.int .i64 0] 3)) := bel_alloc w _
  have B2 : Below w.heap.size w ((w.alloc (.cells #[.int .i64 0] 3)).alloc (.cells #[.slice (some ⟨w.heap.size, 0, none⟩) 1 1, .slice none 0 0, .slice none 0 0, .int .i64 5, .int .i64 2, .int .i64 8] 79)) := B1.alloc (by simp) _
  have B3 : Below w.heap.size w (((w.alloc (.cells #[.int .i64 0] 3)).alloc (.cells #[.slice (some ⟨w.heap.size, 0, none⟩) 1 1, .slice none 0 0, .slice none 0 0, .int .i64 5, .int .i64 2, .int .i64 8] 79)).alloc (.cells #[.pointer none, .slice none 0 0] 82)) := B2.alloc (by simp; omega) _
  have K0 : Blk (((w.alloc (.cells #[.int .i64 0] 3)).alloc (.cells #[.slice (some ⟨w.heap.size, 0, none⟩) 1 1, .slice none 0 0, .slice none 0 0, .int .i64 5, .int .i64 2, .int .i64 8] 79)).alloc (.cells #[.pointer none, .slice none 0 0] 82)) w.heap.size 3 [.int .i64 0] := ((Blk.new w 3 [.int .i64 0]).alloc _).alloc _
  have KD : Blk (((w.alloc (.cells #[.int .i64 0] 3)).alloc (.cells #[.slice (some ⟨w.heap.size, 0, none⟩) 1 1, .slice none 0 0, .slice none 0 0, .int .i64 5, .int .i64 2, .int .i64 8] 79)).alloc (.cells #[.pointer none, .slice none 0 0] 82)) (w.heap.size + 1) 79 (deskC (.slice (some ⟨w.heap.size, 0, none⟩) 1 1) (.slice none 0 0) (.slice none 0 0) 5 2 8) := by
    have h := (Blk.new (w.alloc (.cells #[.int .i64 0] 3)) 79 (deskC (.slice (some ⟨w.heap.size, 0, none⟩) 1 1) (.slice none 0 0) (.slice none 0 0) 5 2 8)).alloc (.cells #[.pointer none, .slice none 0 0] 82)
    rw [World.size_alloc] at h
    exact h
  have BN : Bld (((w.alloc (.cells #[.int .i64 0] 3)).alloc (.cells #[.slice (some ⟨w.heap.size, 0, none⟩) 1 1, .slice none 0 0, .slice none 0 0, .int .i64 5, .int .i64 2, .int .i64 8] 79)).alloc (.cells #[.pointer none, .slice none 0 0] 82)) (w.heap.size + 1 + 1) ⟨#[]⟩ := by
    have h := Bld.new ((w.alloc (.cells #[.int .i64 0] 3)).alloc (.cells #[.slice (some ⟨w.heap.size, 0, none⟩) 1 1, .slice none 0 0, .slice none 0 0, .int .i64 5, .int .i64 2, .int .i64 8] 79))
    rw [World.size_alloc, World.size_alloc] at h
    exact h
  have D0 : Desk (((w.alloc (.cells #[.int .i64 0] 3)).alloc (.cells #[.slice (some ⟨w.heap.size, 0, none⟩) 1 1, .slice none 0 0, .slice none 0 0, .int .i64 5, .int .i64 2, .int .i64 8] 79)).alloc (.cells #[.pointer none, .slice none 0 0] 82)) (w.heap.size + 1) desk0 := ⟨_, _, _, KD, own_zero K0, OwnS.nil_ _ _, Own.nil_ _ _⟩
  clear B1 B2 K0 KD
  have HG0 : GlbB (w.heap.size + 1) (((w.alloc (.cells #[.int .i64 0] 3)).alloc (.cells #[.slice (some ⟨w.heap.size, 0, none⟩) 1 1, .slice none 0 0, .slice none 0 0, .int .i64 5, .int .i64 2, .int .i64 8] 79)).alloc (.cells #[.pointer none, .slice none 0 0] 82)) := ⟨w, HG.out, Nat.le_succ _, B3⟩
  go_enter Tryz.func14, Tryz.ntmps14
  go_wp2_with fail
  generalize hW : (((w.alloc (.cells #[.int .i64 0] 3)).alloc (.cells #[.slice (some ⟨w.heap.size, 0, none⟩) 1 1, .slice none 0 0, .slice none 0 0, .int .i64 5, .int .i64 2, .int .i64 8] 79)).alloc (.cells #[.pointer none, .slice none 0 0] 82)) = w0 at B3 BN D0 HG0 ⊢
  clear hW
  refine (split_any t 10 _ (by omega) HG0.glb).mono ?_
  rintro e w1 ⟨A, rfl, o, b⟩
  have BN1 := BN.bel b
  have D1 := D0.bel b
  have HG1 := HG0.bel b
  have HB1 := bel_trans B3 b
  obtain ⟨ls, hls⟩ : ∃ ls, cutS 10 t = ls := ⟨_, rfl⟩
  rw [hls] at o hn
  rw [hls]
  replace HR := Lib.hid (show Ran desk0 ls out by rw [← hls]; exact HR.out)
  have HMS := Lib.hid (show ∀ s ∈ ls, s.size ≤ t.size from fun s h => cutS_mem_size (c := 10) (by rw [hls]; exact h))
  have O1 := o.low
  have hne2 : w.heap.size + 1 + 1 ≠ w.heap.size + 1 := by omega
  clear B3 BN D0 HG0 b o hls
  go_wp2_with fail
  go_loopw [16] (fun i wr => ∃ (k : Nat) (T R : ByteArray) (d : DeskD), k ≤ ls.length ∧ i = .int .i64 k ∧ T ++ R = out ∧ Ran d (ls.drop k) R ∧ Desk wr (w.heap.size + 1) d ∧ Bld wr (w.heap.size + 1 + 1) T ∧ OwnS wr 0 (.slice A ls.length ls.length) ls ∧ GlbB (w.heap.size + 1) wr ∧ Below w.heap.size w wr) (fun i _ => ls.length - (intOf i).toNat)
  case atStart => exact ⟨0, ⟨#[]⟩, out, desk0, Nat.zero_le _, rfl, by apply ByteArray.ext; apply Array.toList_inj.1; simp, HR.out, D1, BN1, O1, HG1, HB1⟩
  case round =>
    obtain ⟨k, T, R, d, hk, rfl, hTR, hRan, hD, hBd, hO, hGB, hB⟩ := hrel
    have H := Lib.hid (And.intro hTR (And.intro hRan (And.intro hD (And.intro hBd (And.intro hO (And.intro hGB hB))))))
    have hTs : T.size ≤ 40000 := by rw [← hTR, ba_size_app] at ho; omega
    have hbl := hBd.lt
    clear hTR hRan hD hBd hO hGB hB D1 BN1 O1 HG1 HB1
    by_cases hlt : k < ls.length
    · obtain ⟨A6, c6, e6, -, -, hrd⟩ := H.out.2.2.2.2.1.strs.open_
      cases e6
      obtain ⟨lb, lo, rfl, hbb, hcell⟩ := hrd.strs (Nat.lt_of_le_of_lt (Nat.zero_le _) hlt)
      have hck := hcell k hlt
      have hsz := HMS.out _ (sat_mem ls k hlt)
      have hnext := H.out.2.1
      rw [drop_sat hlt] at hnext
      have h100 : ¬ 100 ≤ k := by omega
      have h100i : ¬ (100 : Int) ≤ (k : Int) := by omega
      obtain ⟨Z, hZ⟩ : ∃ Z, sat ls k = Z := ⟨_, rfl⟩
      rw [hZ] at hck hsz hnext
      have HN := Lib.hid hnext
      clear hcell hrd hZ hnext
      cases hq : Z.toList.isEmpty
      · have hlen := Lib.byteCells_length T.data.toList
        have hlT : T.data.toList.length = T.size := rfl
        rw [hlT] at hlen
        have hTi : ¬ (40000 : Int) < (T.size : Int) := by omega
        go_wp2_with fail
        refine (Tryz.Builder_Len_f (w.heap.size + 1 + 1) (w.heap.size + 1 + 1) _ wr H.out.2.2.2.1).mono ?_
        rw [hlen]
        rintro e w2 ⟨rfl, rfl⟩
        obtain ⟨o, d2, R2, hc, hr2, hRe⟩ := HN.out.inv (tol_ne hq)
        have HR2 := Lib.hid (And.intro hr2 hRe)
        have HC := Lib.hid hc
        have hos : o.size ≤ 40000 := by
          have h5 := ho
          rw [← H.out.1, hRe, ba_size_app, ba_size_app] at h5
          omega
        clear hc hr2 hRe hlen
        go_wp2_with fail
        refine (HC.out _ w2 H.out.2.2.1 H.out.2.2.2.2.2.1).mono ?_
        rintro e w3 ⟨rfl, d3, g3⟩
        have B3 := H.out.2.2.2.1.grw H.out.2.2.1 g3 hne2
        have O3 := H.out.2.2.1.keepOwnS H.out.2.2.2.2.1 g3
        have G3 := H.out.2.2.2.2.2.1.grown g3
        have W3 := H.out.2.2.2.2.2.2.grown g3 H.out.2.2.2.2.2.2.size (fun k hk => by cases hk; exact Nat.le_succ _)
        have HX := Lib.hid (And.intro d3 (And.intro B3 (And.intro O3 (And.intro G3 W3))))
        clear d3 B3 O3 G3 W3 g3 hck
        go_wp2_with fail
        refine (Bld.str (w.heap.size + 1 + 1) T o _ HX.out.2.1 (by omega) (by omega)).mono ?_
        rintro e w4 ⟨rfl, bd4, b4, k4⟩
        have D4 := HX.out.1.others HX.out.2.1.shape k4
        have O4 := HX.out.2.2.1.others HX.out.2.1 k4
        have G4 := HX.out.2.2.2.1.from b4 (Nat.le_succ _)
        have W4 := HX.out.2.2.2.2.trans (b4.mono (by omega))
        have HY := Lib.hid (And.intro D4 (And.intro bd4 (And.intro O4 (And.intro G4 W4))))
        clear D4 O4 G4 W4 bd4 b4 k4
        go_wp2
        go_roundw
        case rel => exact ⟨k + 1, T ++ o, R2, d2, hlt, by go_num, by rw [ByteArray.append_assoc, ← HR2.out.2]; exact H.out.1, HR2.out.1, HY.out.1, HY.out.2.1, HY.out.2.2.1, HY.out.2.2.2.1, HY.out.2.2.2.2⟩
        case measure => simp [intOf]; omega
      · obtain rfl := tol_eq hq
        go_wp2
        go_roundw
        case rel => exact ⟨k + 1, T, R, d, hlt, by go_num, H.out.1, HN.out.inv0, H.out.2.2.1, H.out.2.2.2.1, H.out.2.2.2.2.1, H.out.2.2.2.2.2.1, H.out.2.2.2.2.2.2⟩
        case measure => simp [intOf]; omega
    · have hke : k = ls.length := by omega
      subst hke
      have HE := Lib.hid (show T = out from by
        have h5 := H.out.2.1
        rw [List.drop_length] at h5
        rw [← H.out.1, h5.invE, app_none])
      go_wp2_with fail
      refine (Tryz.Builder_String_any_k (w.heap.size + 1 + 1) (w.heap.size + 1 + 1) T.data.toList _ H.out.2.2.2.1 (Nat.le_of_lt hbl)).mono ?_
      rw [ba_self]
      rintro e w5 ⟨rfl, -, b5, -⟩
      go_wp2
      go_ret
      exact ⟨by rw [HE.out]; rfl, H.out.2.2.2.2.2.2.trans (b5.mono (by omega))⟩
end Go.Proofs.YtpniljcnknknoaaGreatDoor

/-
  The script of a job, plainly: its lines, and what they do.
-/
namespace Go.Proofs.YtpniljcnknknoaaGreatDoor
open Go.RowKit
set_option linter.unusedVariables false
set_option linter.unusedSimpArgs false
set_option maxRecDepth 100000

theorem ba_eq {a b : ByteArray} (h : a.data.toList = b.data.toList) : a = b := ByteArray.ext (Array.toList_inj.1 h)
theorem Ran.rest {d : DeskD} : Ran d [⟨#[]⟩] ⟨#[]⟩ := .skip (.done d)
/-- The script of a job. -/
def jobScript (F : ByteArray) : ByteArray := ⟨#[106, 111, 98, 32]⟩ ++ F ++ ⟨#[10, 112, 111, 108, 121, 10, 112, 114, 105, 110, 116, 10, 115, 117, 109, 115, 32, 48, 10]⟩
def zeroS : ByteArray := ⟨#[48]⟩
theorem jobScript_lines (F : ByteArray) : jobScript F = linesS [wJob ++ ⟨#[32]⟩ ++ F, wPoly, wPrint, wSums ++ ⟨#[32]⟩ ++ zeroS] := by
  apply ba_eq
  simp [jobScript, linesS, wJob, wPoly, wPrint, wSums, zeroS, nlS]
theorem zeroS_nums : numsOk zeroS = true ∧ numsV zeroS = [0] := by
  have h := numsOk_of (l := [0]) (by simp) (fun n hn => by simp at hn; omega)
  have e : numsS [0] = zeroS := by decide +kernel
  rw [e] at h
  exact h
theorem jobScript_cut {F : ByteArray} (h : (10 : UInt8) ∉ F.data.toList) : cutS 10 (jobScript F) = [wJob ++ ⟨#[32]⟩ ++ F, wPoly, wPrint, wSums ++ ⟨#[32]⟩ ++ zeroS, ⟨#[]⟩] := by
  rw [jobScript_lines]
  refine cut_lines (fun x hx => ?_)
  simp at hx
  rcases hx with rfl | rfl | rfl | rfl
  · simp [wJob]
    simpa using h
  · simp [wPoly]
  · simp [wPrint]
  · simp [wSums, zeroS]
theorem desk0_ok : desk0.Ok := ⟨by decide, .inl rfl, by decide, by decide, by decide, by decide⟩
theorem line_sums {d : DeskD} (ok : d.Ok) (ht : tableOk d.tab = true) : LineC (wSums ++ ⟨#[32]⟩ ++ zeroS) d (numsS (sumsL d.rw d.ac d.tab 0) ++ nlS) d := by
  have hp : 0 < pgN d.tab (d.rw * d.ac) := (pgN_iff 0 (Nat.mul_pos ok.rw.1 ok.ac.1)).1 (by have := (tableOk_true ht).1; omega)
  exact exec_nums (j := 11) (l := [((0 : Nat) : Int)]) (by decide) (by decide) (by decide) rfl (fun k hk => by
    have : k = 0 ∨ k = 1 ∨ k = 2 ∨ k = 3 ∨ k = 4 ∨ k = 5 ∨ k = 6 ∨ k = 7 ∨ k = 8 ∨ k = 9 ∨ k = 10 := by omega
    rcases this with rfl | rfl | rfl | rfl | rfl | rfl | rfl | rfl | rfl | rfl | rfl <;> decide) rfl zeroS_nums.1 zeroS_nums.2 (nums_sums ok ht hp)
theorem line_job {d : DeskD} {t : ByteArray} (ok : d.Ok) (ht : t.size ≤ 1000000) : LineC (wJob ++ ⟨#[32]⟩ ++ t) d (jobOut d t) (jobD2 d t) :=
  exec_text (by decide) (by have : wJob.size = 3 := rfl; omega) (fun k hk => by
    have : k = 0 ∨ k = 1 ∨ k = 2 ∨ k = 3 ∨ k = 4 ∨ k = 5 ∨ k = 6 ∨ k = 7 ∨ k = 8 ∨ k = 9 ∨ k = 10 ∨ k = 11 := by omega
    rcases this with rfl | rfl | rfl | rfl | rfl | rfl | rfl | rfl | rfl | rfl | rfl | rfl <;> decide) (text_job ok (by omega))
/-- What the script of a job tells. -/
def jobTold (S P N : ByteArray) : ByteArray := S ++ P ++ ⟨#[10]⟩ ++ S ++ N ++ ⟨#[10]⟩
theorem ran_job {j : JobD} (hin : j.In) (hs : sjOk j) (hz : (fmtJ j).size ≤ 400) :
    Ran desk0 (cutS 10 (jobScript (fmtJ j))) (jobTold (shJ j) (polyS j.poly) (numsS (sumsL j.rw.toNat j.ac.toNat (jtL j) 0))) := by
  have hq : jobOk j = true := by
    cases hq : jobOk j
    · have := hs.1; rw [(jt_no hq).1] at this; exact this
    · rfl
  have hR := parse_fmt hin hq
  have hL : jobLn (fmtJ j) = true := by unfold jobLn; rw [hR, hs.1]; rfl
  obtain ⟨e1, e2⟩ := job_yes desk0 hL
  rw [hR] at e1 e2
  have ok := jobDesk_ok desk0_ok hs.1
  have hp : printS (jobDesk desk0 j) = shJ j := by
    unfold printS
    rw [if_pos]
    · rfl
    · unfold printOk jobDesk
      rw [hs.2.1, hs.2.2]
      rfl
  rw [jobScript_cut (fmt_line j)]
  have h4 := Ran.line (by decide) (line_sums ok hs.2.1) Ran.rest
  have h3 := Ran.line (by decide) (exec_word (by decide) (by decide) (word_print ok)) h4
  have h2 := Ran.line (by decide) (exec_word (by decide) (by decide) (word_poly ok)) h3
  have l1 := line_job desk0_ok (t := fmtJ j) (by omega)
  rw [e1, e2] at l1
  have h1 := Ran.line (fun e => by have h := congrArg ByteArray.size e; rw [ba_size_app, ba_size_app, show wJob.size = 3 from rfl, show (⟨#[]⟩ : ByteArray).size = 0 from rfl] at h; omega) l1 h2
  rw [hp] at h1
  have : jobTold (shJ j) (polyS j.poly) (numsS (sumsL j.rw.toNat j.ac.toNat (jtL j) 0)) = shJ j ++ (polyS j.poly ++ nlS ++ (shJ j ++ (numsS (sumsL j.rw.toNat j.ac.toNat (jtL j) 0) ++ nlS ++ ⟨#[]⟩))) := by
    apply ba_eq
    simp [jobTold, nlS]
  rw [this]
  exact h1
end Go.Proofs.YtpniljcnknknoaaGreatDoor

/-
  Rounded numbers are no longer than what they are rounded from: plain.
-/
namespace Go.Proofs.YtpniljcnknknoaaGreatDoor
open Go.RowKit
set_option linter.unusedVariables false
set_option linter.unusedSimpArgs false
set_option maxRecDepth 100000

theorem dec_mono : ∀ (v u : Nat), u ≤ v → (Lib.decDigits u).length ≤ (Lib.decDigits v).length := by
  intro v
  induction v using Nat.strongRecOn with
  | _ v ih =>
    intro u h
    rw [Lib.decDigits.eq_1 u, Lib.decDigits.eq_1 v]
    by_cases hv : v < 10
    · have hu : u < 10 := by omega
      simp [hv, hu]
    · by_cases hu : u < 10
      · simp [hv, hu]
      · have := ih (v / 10) (by omega) (u / 10) (by omega)
        simp [hv, hu]
        exact this
theorem itoa_mono {m n : Int} (h1 : m.natAbs ≤ n.natAbs) (h2 : m < 0 → n < 0) : (itoaS m).size ≤ (itoaS n).size := by
  show (Lib.itoa m).length ≤ (Lib.itoa n).length
  unfold Lib.itoa
  by_cases hm : m < 0
  · have hn := h2 hm
    rw [if_pos hm, if_pos hn]
    have := dec_mono n.natAbs m.natAbs h1
    simp only [List.length_cons]
    omega
  · have h3 : m.toNat = m.natAbs := by omega
    rw [if_neg hm, h3]
    by_cases hn : n < 0
    · rw [if_pos hn]
      have := dec_mono n.natAbs m.natAbs h1
      simp only [List.length_cons]
      omega
    · have h4 : n.toNat = n.natAbs := by omega
      rw [if_neg hn, h4]
      exact dec_mono _ _ h1
theorem low_mul (n : Int) (d : Nat) : (ten d : Int) * lowI n d = n - (md n (ten d) : Int) := by
  have hT := ten_pos d
  have hc := md_cast n hT
  have hm := Int.emod_add_mul_ediv n (ten d)
  have he : n - (md n (ten d) : Int) = (ten d : Int) * (n / (ten d : Int)) := by omega
  unfold lowI
  rw [he, Int.mul_tdiv_cancel_left _ (by omega)]
theorem round_two (n : Int) (d : Nat) : roundI n d 2 = lowI n d ∧ 2 * md n (ten d) ≤ ten d ∨ roundI n d 2 = lowI n d + 1 ∧ ten d ≤ 2 * md n (ten d) := by
  rcases low_cases (n := n) (d := d) (y := 2) (by omega) with ⟨h1, h2⟩ | ⟨-, h1, h2⟩ | ⟨h1, -⟩ | ⟨h1, -⟩ | ⟨-, h1, h2⟩
  · exact .inl ⟨h2, by omega⟩
  · exact .inr ⟨h2, by omega⟩
  · omega
  · omega
  · rcases md2 (lowI n d) with h3 | h3
    · exact .inl ⟨by rw [h2, h3]; simp, by omega⟩
    · exact .inr ⟨by rw [h2, h3]; rfl, by omega⟩
/-- Rounded in the even way, a number is no further from 0, and on the same side. -/
theorem round_small (n : Int) {d : Nat} (hd : d ≤ 3) : (roundI n d 2).natAbs ≤ n.natAbs ∧ (roundI n d 2 < 0 → n < 0) := by
  have hl := low_mul n d
  have hm := md_lt n (ten_pos d)
  have h2 := round_two n d
  generalize roundI n d 2 = r at *
  generalize lowI n d = q at *
  generalize md n (ten d) = m at *
  have : d = 0 ∨ d = 1 ∨ d = 2 ∨ d = 3 := by omega
  rcases this with rfl | rfl | rfl | rfl
  · rw [show ten 0 = 1 from rfl] at *; omega
  · rw [show ten 1 = 10 from rfl] at *; omega
  · rw [show ten 2 = 100 from rfl] at *; omega
  · rw [show ten 3 = 1000 from rfl] at *; omega
theorem round_len (n : Int) {d : Nat} (hd : d ≤ 3) : (itoaS (roundI n d 2)).size ≤ (itoaS n).size := itoa_mono (round_small n hd).1 (round_small n hd).2
/-- A table, rounded in the even way. -/
theorem rtL_even {l : List Int} {d : Nat} (hd : d ≤ 3) (h : tableOk l = true) : rtOk l d 2 = true ∧ (rtL l d 2).length = l.length ∧ tableOk (rtL l d 2) = true ∧ ∀ i, (itoaS (at_ (rtL l d 2) i)).size ≤ (itoaS (at_ l i)).size := by
  obtain ⟨h1, h2⟩ := rt_yes (d := d) (y := 2) h (wayOk_true.2 ⟨by omega, by omega⟩)
  have hl : (rtL l d 2).length = l.length := by rw [h2, gen_length]
  have hat : ∀ i, i < l.length → at_ (rtL l d 2) i = roundI (at_ l i) d 2 := fun i hi => by rw [h2, at_gen hi]
  obtain ⟨t1, t2, t3⟩ := tableOk_true h
  refine ⟨h1, hl, ?_, fun i => ?_⟩
  · simp only [tableOk, Bool.and_eq_true]
    refine ⟨inB_true.2 (by rw [hl]; omega), allTo (fun j hj => ?_)⟩
    rw [hl] at hj
    rw [hat j hj]
    have hs := round_small (at_ l j) hd
    have := t3 j hj
    exact inB_true.2 (by omega)
  · by_cases hi : i < l.length
    · rw [hat i hi]; exact round_len _ hd
    · have e1 : at_ (rtL l d 2) i = 0 := by simp [at_, List.getD, List.getElem?_eq_none (show (rtL l d 2).length ≤ i by omega)]
      have e2 : at_ l i = 0 := by simp [at_, List.getD, List.getElem?_eq_none (show l.length ≤ i by omega)]
      rw [e1, e2]
      exact Nat.le_refl _
/-- A table whose entries are no longer fits where the other one fits. -/
theorem shOk_mono {W : Nat} {l l' : List Int} {R A : Nat} (hl : l'.length = l.length) (hs : ∀ i, (itoaS (at_ l' i)).size ≤ (itoaS (at_ l i)).size) (hR : 0 < R) (hA : 0 < A) (h : shOk W l R A = true) : shOk W l' R A = true := by
  have hM : 0 < R * A := Nat.mul_pos hR hA
  have h1 := of_decide_eq_true h
  refine decide_eq_true ?_
  have hn : pgN l' (R * A) = pgN l (R * A) := by unfold pgN; rw [hl]
  rw [hn]
  intro p hp
  have hpl : (pgE l' (R * A) p).length = (pgE l (R * A) p).length := by rw [pgE_len, pgE_len, hl]
  intro r hr
  have hr' : r < pgRows l R (R * A) p := by unfold pgRows at hr ⊢; rw [hpl] at hr; exact hr
  intro i hi
  rw [hpl] at hi
  have h2 := h1 p hp r hr' i hi
  have hlt : r + i * R < (pgE l (R * A) p).length := (colN_iff i hR).2 hi
  have hlM : r + i * R < R * A := by rw [pgE_len] at hlt; omega
  rw [pgE_at l' hlM]
  rw [pgE_at l hlM] at h2
  exact Nat.le_trans (hs _) h2
end Go.Proofs.YtpniljcnknknoaaGreatDoor

/-
  The script of a printed table, plainly: its lines, and what they do.
-/
namespace Go.Proofs.YtpniljcnknknoaaGreatDoor
open Go.RowKit
set_option linter.unusedVariables false
set_option linter.unusedSimpArgs false
set_option maxRecDepth 100000

theorem numsS_one' (a : Int) : numsS [a] = itoaS a := numsS_one a
theorem numsS_two (a b : Int) : numsS [a, b] = itoaS a ++ ⟨#[32]⟩ ++ itoaS b := by
  have h := numsS_snoc (l := [a]) (by simp) b
  rw [numsS_one'] at h
  exact h
theorem numsS_three (a b c : Int) : numsS [a, b, c] = itoaS a ++ ⟨#[32]⟩ ++ itoaS b ++ ⟨#[32]⟩ ++ itoaS c := by
  have h := numsS_snoc (l := [a, b]) (by simp) c
  rw [numsS_two] at h
  exact h
theorem itoaS_two : itoaS 2 = ⟨#[50]⟩ := by decide +kernel
theorem ten_not (l : List Int) : (10 : UInt8) ∉ (numsS l).data.toList := numsS_no (by decide) (by decide) (by decide) l
/-- A line of a word and the numbers that it wants. -/
theorem line_nums {word : ByteArray} {l : List Int} {j : Nat} {d d2 : DeskD} {out : ByteArray} (h32 : (32 : UInt8) ∉ word.data.toList) (hws : word.size ≤ 10) (hj : j < 12) (hw : sat cmdW j = word) (hw2 : ∀ k, k < j → sat cmdW k ≠ word) (hn : at_ cmdN j = l.length)
    (h0 : l ≠ []) (hs : Sm l) (hz : (numsS l).size ≤ 1000000) (hc : NumsC word l d out d2) : LineC (word ++ ⟨#[32]⟩ ++ numsS l) d out d2 := by
  obtain ⟨h1, h2⟩ := numsOk_of h0 hs
  exact exec_nums h32 (by omega) hj hw hw2 hn h1 h2 hc
theorem line_table {d : DeskD} {l : List Int} (ht : tableOk l = true) (hwf : Wf l) : LineC (wTable ++ ⟨#[32]⟩ ++ numsS l) d (numsS l ++ nlS) { d with tab := l } := by
  obtain ⟨t1, t2, t3⟩ := tableOk_true ht
  have h0 : l ≠ [] := fun e => by rw [e] at t1; simp at t1
  obtain ⟨h1, h2⟩ := numsOk_of h0 (fun n hn => by
    obtain ⟨k, hk, rfl⟩ := List.getElem_of_mem hn
    have := t3 k hk
    rw [at_eq l k hk] at this
    omega)
  have hz := numsS_size hwf
  have h := exec_text (word := wTable) (rest := numsS l) (d := d) (by decide) (by have : wTable.size = 5 := rfl; omega) (fun k hk => by
    have : k = 0 ∨ k = 1 ∨ k = 2 ∨ k = 3 ∨ k = 4 ∨ k = 5 ∨ k = 6 ∨ k = 7 ∨ k = 8 ∨ k = 9 ∨ k = 10 ∨ k = 11 := by omega
    rcases this with rfl | rfl | rfl | rfl | rfl | rfl | rfl | rfl | rfl | rfl | rfl | rfl <;> decide) (text_table (t := numsS l) (by omega))
  rw [spL_yes h1, h2, h1, ht] at h
  have e1 : setTabD d l true = { d with tab := l } := by unfold setTabD; rw [ht]; rfl
  rw [e1] at h
  exact h
def prScript (R A W D : ByteArray) (V : ByteArray) : ByteArray :=
  ⟨#[108, 97, 121, 111, 117, 116, 32]⟩ ++ R ++ ⟨#[32]⟩ ++ A ++ ⟨#[32]⟩ ++ W ++ ⟨#[10, 116, 97, 98, 108, 101, 32]⟩ ++ V ++ ⟨#[10, 112, 114, 105, 110, 116, 10, 115, 117, 109, 115, 32, 48, 10, 114, 111, 117, 110, 100, 32]⟩ ++ D ++ ⟨#[32, 50, 10, 112, 114, 105, 110, 116, 10]⟩
theorem prScript_lines (R A W D : Int) (l : List Int) : prScript (itoaS R) (itoaS A) (itoaS W) (itoaS D) (numsS l) = linesS [wLayout ++ ⟨#[32]⟩ ++ numsS [R, A, W], wTable ++ ⟨#[32]⟩ ++ numsS l, wPrint, wSums ++ ⟨#[32]⟩ ++ zeroS, wRound ++ ⟨#[32]⟩ ++ numsS [D, 2], wPrint] := by
  rw [numsS_three, numsS_two, itoaS_two]
  apply ba_eq
  simp [prScript, linesS, wLayout, wTable, wPrint, wSums, zeroS, wRound, nlS]
theorem prScript_cut (R A W D : Int) (l : List Int) : cutS 10 (prScript (itoaS R) (itoaS A) (itoaS W) (itoaS D) (numsS l)) = [wLayout ++ ⟨#[32]⟩ ++ numsS [R, A, W], wTable ++ ⟨#[32]⟩ ++ numsS l, wPrint, wSums ++ ⟨#[32]⟩ ++ zeroS, wRound ++ ⟨#[32]⟩ ++ numsS [D, 2], wPrint, ⟨#[]⟩] := by
  rw [prScript_lines]
  refine cut_lines (fun x hx => ?_)
  simp at hx
  rcases hx with rfl | rfl | rfl | rfl | rfl | rfl
  · have := ten_not [R, A, W]
    simp [wLayout]
    simpa using this
  · have := ten_not l
    simp [wTable]
    simpa using this
  · simp [wPrint]
  · simp [wSums, zeroS]
  · have := ten_not [D, 2]
    simp [wRound]
    simpa using this
  · simp [wPrint]
def prTold (V T S N U : ByteArray) : ByteArray := ⟨#[111, 107, 10]⟩ ++ V ++ ⟨#[10]⟩ ++ T ++ S ++ ⟨#[10]⟩ ++ N ++ ⟨#[10]⟩ ++ U
theorem line_ne {word rest : ByteArray} (h : 0 < word.size) : word ++ ⟨#[32]⟩ ++ rest ≠ ⟨#[]⟩ := fun e => by
  have h2 := congrArg ByteArray.size e
  rw [ba_size_app, ba_size_app, show (⟨#[]⟩ : ByteArray).size = 0 from rfl] at h2
  omega
theorem ran_pr {R A W D : Nat} {l : List Int} (h1 : 1 ≤ R ∧ R ≤ 20) (h2 : 1 ≤ A ∧ A ≤ 6) (h3 : 1 ≤ W ∧ W ≤ 12) (hD : D ≤ 3) (ht : tableOk l = true) (hs : shOk W l R A = true) (hwf : Wf l) :
    Ran desk0 (cutS 10 (prScript (itoaS R) (itoaS A) (itoaS W) (itoaS D) (numsS l))) (prTold (numsS l) (shS W l R A) (numsS (sumsL R A l 0)) (numsS (rtL l D 2)) (shS W (rtL l D 2) R A)) := by
  obtain ⟨r1, r2, r3, r4⟩ := rtL_even hD ht
  have r5 := shOk_mono r2 r4 (Nat.lt_of_lt_of_le Nat.zero_lt_one h1.1) (Nat.lt_of_lt_of_le Nat.zero_lt_one h2.1) hs
  have t60 := (tableOk_true ht).2.1
  have ok1 : DeskD.Ok { desk0 with rw := R, ac := A, wi := W } := ⟨desk0_ok.poly, desk0_ok.eng, desk0_ok.tab, h1, h2, h3⟩
  have ok2 : DeskD.Ok { desk0 with rw := R, ac := A, wi := W, tab := l } := ⟨desk0_ok.poly, desk0_ok.eng, t60, h1, h2, h3⟩
  have ok3 : DeskD.Ok { desk0 with rw := R, ac := A, wi := W, tab := rtL l D 2 } := ⟨desk0_ok.poly, desk0_ok.eng, by show (rtL l D 2).length ≤ 60; rw [r2]; exact t60, h1, h2, h3⟩
  rw [prScript_cut]
  have p2 : printS { desk0 with rw := R, ac := A, wi := W, tab := l } = shS W l R A := by
    unfold printS printOk
    rw [if_pos (by rw [ht, hs]; rfl)]
  have p3 : printS { desk0 with rw := R, ac := A, wi := W, tab := rtL l D 2 } = shS W (rtL l D 2) R A := by
    unfold printS printOk
    rw [if_pos (by rw [r3, r5]; rfl)]
  have l6 := Ran.line (by decide) (exec_word (by decide) (by decide) (word_print ok3)) Ran.rest
  have z5 := numsS_size (l := [(D : Int), 2]) (fun n hn => by simp at hn; omega)
  have c5 := nums_round (dg := D) (wy := 2) ok2
  have e5 : setTabD { desk0 with rw := R, ac := A, wi := W, tab := l } (rtL l D 2) (rtOk l D 2) = { desk0 with rw := R, ac := A, wi := W, tab := rtL l D 2 } := by unfold setTabD; rw [r1, r3]; rfl
  have e5' : showS (numsS (rtL l D 2)) (rtOk l D 2 && tableOk (rtL l D 2)) = numsS (rtL l D 2) ++ nlS := by rw [r1, r3]; rfl
  rw [e5, e5'] at c5
  have l5 := Ran.line (line_ne (by decide)) (line_nums (word := wRound) (j := 6) (by decide) (by decide) (by decide) (by decide) (fun k hk => by
    have : k = 0 ∨ k = 1 ∨ k = 2 ∨ k = 3 ∨ k = 4 ∨ k = 5 := by omega
    rcases this with rfl | rfl | rfl | rfl | rfl | rfl <;> decide) rfl (by simp) (fun n hn => by simp at hn; omega) (by simp at z5; omega) c5) l6
  have l4 := Ran.line (by decide) (line_sums ok2 ht) l5
  have l3 := Ran.line (by decide) (exec_word (by decide) (by decide) (word_print ok2)) l4
  have l2 := Ran.line (line_ne (by decide)) (line_table (d := { desk0 with rw := R, ac := A, wi := W }) ht hwf) l3
  have z1 := numsS_size (l := [(R : Int), A, W]) (fun n hn => by simp at hn; omega)
  have c1 := nums_layout (d := desk0) (r := R) (a := A) (i := W)
  have hlay := layOk_nat h1 h2 h3
  have e1 : setLayD desk0 R A W = { desk0 with rw := R, ac := A, wi := W } := by unfold setLayD; rw [hlay]; rfl
  have e1' : layS R A W = okS := by unfold layS; rw [hlay]; rfl
  rw [e1, e1'] at c1
  have l1 := Ran.line (line_ne (by decide)) (line_nums (word := wLayout) (j := 7) (by decide) (by decide) (by decide) (by decide) (fun k hk => by
    have : k = 0 ∨ k = 1 ∨ k = 2 ∨ k = 3 ∨ k = 4 ∨ k = 5 ∨ k = 6 := by omega
    rcases this with rfl | rfl | rfl | rfl | rfl | rfl | rfl <;> decide) rfl (by simp) (fun n hn => by simp at hn; omega) (by simp at z1; omega) c1) l2
  rw [p2, p3] at l1
  have : prTold (numsS l) (shS W l R A) (numsS (sumsL R A l 0)) (numsS (rtL l D 2)) (shS W (rtL l D 2) R A) = okS ++ (numsS l ++ nlS ++ (shS W l R A ++ (numsS (sumsL R A l 0) ++ nlS ++ (numsS (rtL l D 2) ++ nlS ++ (shS W (rtL l D 2) R A ++ ⟨#[]⟩))))) := by
    apply ba_eq
    simp [prTold, nlS, okS]
  rw [this]
  exact l1
end Go.Proofs.YtpniljcnknknoaaGreatDoor

/-
  The script of an engine, plainly: its lines, and what they do.
-/
namespace Go.Proofs.YtpniljcnknknoaaGreatDoor
open Go.RowKit
set_option linter.unusedVariables false
set_option linter.unusedSimpArgs false
set_option maxRecDepth 100000

theorem itoaS_seven : itoaS 7 = ⟨#[55]⟩ := by decide +kernel
/-- A polynomial's line. -/
theorem line_poly {d : DeskD} {p : List Int} (hp : polyOk p = true) : LineC (wPoly ++ ⟨#[32]⟩ ++ numsS p) d okS { d with poly := p } := by
  obtain ⟨t1, t2, t3⟩ := polyOk_true.1 hp
  have h0 : p ≠ [] := fun e => by rw [e] at t1; simp at t1
  have hb : ∀ n ∈ p, -100000 ≤ n ∧ n ≤ 100000 := fun n hn => by
    obtain ⟨k, hk, rfl⟩ := List.getElem_of_mem hn
    have := t3 k hk
    rwa [at_eq p k hk] at this
  obtain ⟨h1, h2⟩ := numsOk_of h0 (fun n hn => by have := hb n hn; omega)
  have hz := numsS_size (l := p) (fun n hn => by have := hb n hn; omega)
  have h := exec_text (word := wPoly) (rest := numsS p) (d := d) (by decide) (by have : wPoly.size = 4 := rfl; omega) (fun k hk => by
    have : k = 0 ∨ k = 1 ∨ k = 2 ∨ k = 3 ∨ k = 4 ∨ k = 5 ∨ k = 6 ∨ k = 7 ∨ k = 8 ∨ k = 9 ∨ k = 10 ∨ k = 11 := by omega
    rcases this with rfl | rfl | rfl | rfl | rfl | rfl | rfl | rfl | rfl | rfl | rfl | rfl <;> decide) (text_poly (t := numsS p) (by omega))
  have e1 : ppOk (numsS p) = true := by unfold ppOk; rw [h1, spL_yes h1, h2, hp]; rfl
  have e2 : ppL (numsS p) = p := by unfold ppL; rw [spL_yes h1, h2, chkL_yes hp]
  have e3 : polyOut (numsS p) = okS := by unfold polyOut; rw [if_pos e1]
  have e4 : polyD d (numsS p) = { d with poly := p } := by unfold polyD; rw [if_pos e1, e2]
  rw [e3, e4] at h
  exact h
def enScript (P N W K : ByteArray) : ByteArray :=
  ⟨#[112, 111, 108, 121, 32]⟩ ++ P ++ ⟨#[10, 115, 101, 116, 117, 112, 32]⟩ ++ N ++ ⟨#[32]⟩ ++ W ++ ⟨#[10, 116, 117, 114, 110, 115, 32]⟩ ++ K ++ ⟨#[10, 115, 107, 101, 119, 10, 117, 110, 115, 107, 101, 119, 10]⟩
def enLines (p : List Int) (n w k : Int) : List ByteArray := [wPoly ++ ⟨#[32]⟩ ++ numsS p, wSetup ++ ⟨#[32]⟩ ++ numsS [n, w], wTurns ++ ⟨#[32]⟩ ++ numsS [k], wSkew, wUnskew]
def runLines : List ByteArray := [wRun ++ ⟨#[32]⟩ ++ numsS [7], wNines]
def runText : ByteArray := ⟨#[114, 117, 110, 32, 55, 10, 110, 105, 110, 101, 115, 10]⟩
theorem enScript_lines (p : List Int) (n w k : Int) : enScript (numsS p) (itoaS n) (itoaS w) (itoaS k) = linesS (enLines p n w k) := by
  unfold enLines
  rw [numsS_two, numsS_one']
  apply ba_eq
  simp [enScript, linesS, wPoly, wSetup, wTurns, wSkew, wUnskew, nlS]
theorem runScript_lines (p : List Int) (n w k : Int) : enScript (numsS p) (itoaS n) (itoaS w) (itoaS k) ++ runText = linesS (enLines p n w k ++ runLines) := by
  unfold enLines runLines
  rw [numsS_two, numsS_one', numsS_one', itoaS_seven]
  apply ba_eq
  simp [enScript, runText, linesS, wPoly, wSetup, wTurns, wSkew, wUnskew, wRun, wNines, nlS]
theorem enLines_no (p : List Int) (n w k : Int) : ∀ x ∈ enLines p n w k, (10 : UInt8) ∉ x.data.toList := by
  intro x hx
  simp [enLines] at hx
  rcases hx with rfl | rfl | rfl | rfl | rfl
  · have := ten_not p
    simp [wPoly]
    simpa using this
  · have := ten_not [n, w]
    simp [wSetup]
    simpa using this
  · have := ten_not [k]
    simp [wTurns]
    simpa using this
  · simp [wSkew]
  · simp [wUnskew]
theorem runLines_no : ∀ x ∈ runLines, (10 : UInt8) ∉ x.data.toList := by
  intro x hx
  simp [runLines] at hx
  rcases hx with rfl | rfl
  · have := ten_not [7]
    simp [wRun]
    simpa using this
  · simp [wNines]
def enTold (A B C : ByteArray) : ByteArray := ⟨#[111, 107, 10]⟩ ++ A ++ ⟨#[10]⟩ ++ B ++ ⟨#[10]⟩ ++ C ++ ⟨#[10]⟩ ++ B ++ ⟨#[10]⟩
/-- The engine's lines, ahead of others. -/
theorem ran_en {p : List Int} {n w : Int} {k : Nat} {rest : List ByteArray} {out : ByteArray} (h : setOk p n w = true) (hk : k ≤ 20)
    (hr : Ran { desk0 with poly := p, eng := turnN (setE p n w) k } rest out) :
    Ran desk0 (enLines p n w k ++ rest) (enTold (fmtE (setE p n w)) (fmtE (turnN (setE p n w) k)) (fmtE (skewS (turnN (setE p n w) k))) ++ out) := by
  obtain ⟨ha, hw, -, -⟩ := set_raw h
  obtain ⟨hp, n1, n2⟩ := argOk_true.1 ha
  have oE := setE_ok h
  have oF := turnN_ok oE k
  have oG := skewS_ok oF
  have z2 := numsS_size (l := [n, w]) (fun x hx => by simp at hx; omega)
  have z3 := numsS_size (l := [(k : Int)]) (fun x hx => by simp at hx; omega)
  generalize hE : setE p n w = E at *
  have c5 := word_unskew (d := { desk0 with poly := p, eng := skewS (turnN E k) }) oG
  have e5 : unskS (skewS (turnN E k)) = turnN E k := unskew_skew oF
  have l5 := Ran.line (by decide) (exec_word (by decide) (by decide) c5) (by
    show Ran { desk0 with poly := p, eng := unskS (skewS (turnN E k)) } rest out
    rw [e5]; exact hr)
  have c4 := word_skew (d := { desk0 with poly := p, eng := turnN E k }) oF
  have l4 := Ran.line (by decide) (exec_word (by decide) (by decide) c4) l5
  have c3 := nums_turns (d := { desk0 with poly := p, eng := E }) (n := k) oE (by omega)
  have l3 := Ran.line (line_ne (by decide)) (line_nums (word := wTurns) (j := 1) (by decide) (by decide) (by decide) (by decide) (fun k hk => by
    have : k = 0 := by omega
    subst this; decide) rfl (by simp) (fun x hx => by simp at hx; omega) (by simp at z3; omega) c3) l4
  have c2 := nums_setup (d := { desk0 with poly := p }) (n := n) (k := w) (by omega)
  have e2 : setEngD { desk0 with poly := p } (setE p n w) (setOk p n w) = { desk0 with poly := p, eng := E } := by unfold setEngD; rw [h, hE]; rfl
  have e2' : showS (fmtE (setE p n w)) (setOk p n w) = fmtE E ++ nlS := by rw [h, hE]; rfl
  replace c2 : NumsC wSetup [n, w] { desk0 with poly := p } (fmtE E ++ nlS) { desk0 with poly := p, eng := E } := by rw [← e2, ← e2']; exact c2
  have l2 := Ran.line (line_ne (by decide)) (line_nums (word := wSetup) (j := 0) (by decide) (by decide) (by decide) (by decide) (fun k hk => by omega) rfl (by simp) (fun x hx => by simp at hx; omega) (by simp at z2; omega) c2) l3
  have l1 := Ran.line (line_ne (by decide)) (line_poly (d := desk0) hp) l2
  have : enTold (fmtE E) (fmtE (turnN E k)) (fmtE (skewS (turnN E k))) ++ out = okS ++ (fmtE E ++ nlS ++ (fmtE (turnN E k) ++ nlS ++ (fmtE (skewS (turnN E k)) ++ nlS ++ (fmtE (unskS (skewS (turnN E k))) ++ nlS ++ out)))) := by
    rw [e5]
    apply ba_eq
    simp [enTold, nlS, okS]
  rw [this]
  exact l1
theorem ran_one {p : List Int} {n w : Int} {k : Nat} (h : setOk p n w = true) (hk : k ≤ 20) :
    Ran desk0 (cutS 10 (enScript (numsS p) (itoaS n) (itoaS w) (itoaS k))) (enTold (fmtE (setE p n w)) (fmtE (turnN (setE p n w) k)) (fmtE (skewS (turnN (setE p n w) k)))) := by
  rw [enScript_lines, cut_lines (enLines_no p n w k)]
  have := ran_en h hk (Ran.rest (d := { desk0 with poly := p, eng := turnN (setE p n w) k }))
  rwa [show ∀ x : ByteArray, x ++ ⟨#[]⟩ = x from fun x => by apply ba_eq; simp] at this
theorem ran_two {p : List Int} {n w : Int} {k : Nat} (h : setOk p n w = true) (hk : k ≤ 20) (ht : tableOk (runL (turnN (setE p n w) k) 7) = true) :
    Ran desk0 (cutS 10 (enScript (numsS p) (itoaS n) (itoaS w) (itoaS k) ++ runText)) (enTold (fmtE (setE p n w)) (fmtE (turnN (setE p n w) k)) (fmtE (skewS (turnN (setE p n w) k))) ++ (numsS (runL (turnN (setE p n w) k) 7) ++ nlS ++ (numsS (remL (runL (turnN (setE p n w) k) 7) 9) ++ nlS))) := by
  obtain ⟨ha, hw, -, -⟩ := set_raw h
  obtain ⟨hp, n1, n2⟩ := argOk_true.1 ha
  have oF := turnN_ok (setE_ok h) k
  rw [runScript_lines, cut_lines (fun x hx => by
    rcases List.mem_append.1 hx with h1 | h1
    · exact enLines_no p n w k x h1
    · exact runLines_no x h1), List.append_assoc]
  refine ran_en h hk ?_
  generalize turnN (setE p n w) k = F at *
  have rok : runOk F 7 = true := by unfold runOk; rw [oF]; rfl
  have t60 := (tableOk_true ht).2.1
  have ok : DeskD.Ok { desk0 with poly := p, eng := F, tab := runL F 7 } := ⟨hp, .inr oF, t60, desk0_ok.rw, desk0_ok.ac, desk0_ok.wi⟩
  have c2 := word_nines ok
  have e2 : showS (numsS (remL (runL F 7) 9)) (tableOk (runL F 7)) = numsS (remL (runL F 7) 9) ++ nlS := by rw [ht]; rfl
  replace c2 : WordC wNines { desk0 with poly := p, eng := F, tab := runL F 7 } (numsS (remL (runL F 7) 9) ++ nlS) { desk0 with poly := p, eng := F, tab := runL F 7 } := by rw [← e2]; exact c2
  have l2 := Ran.line (by decide) (exec_word (by decide) (by decide) c2) Ran.rest
  have c1 := nums_run (d := { desk0 with poly := p, eng := F }) (n := 7) (by omega)
  have e1 : setTabD { desk0 with poly := p, eng := F } (runL F 7) (runOk F 7) = { desk0 with poly := p, eng := F, tab := runL F 7 } := by unfold setTabD; rw [rok, ht]; rfl
  have e1' : showS (numsS (runL F 7)) (runOk F 7 && tableOk (runL F 7)) = numsS (runL F 7) ++ nlS := by rw [rok, ht]; rfl
  replace c1 : NumsC wRun [7] { desk0 with poly := p, eng := F } (numsS (runL F 7) ++ nlS) { desk0 with poly := p, eng := F, tab := runL F 7 } := by rw [← e1, ← e1']; exact c1
  have z1 := numsS_size (l := [(7 : Int)]) (fun x hx => by simp at hx; omega)
  have l1 := Ran.line (line_ne (by decide)) (line_nums (word := wRun) (j := 3) (by decide) (by decide) (by decide) (by decide) (fun k hk => by
    have : k = 0 ∨ k = 1 ∨ k = 2 := by omega
    rcases this with rfl | rfl | rfl <;> decide) rfl (by simp) (fun x hx => by simp at hx; omega) (by simp at z1; omega) c1) l2
  have : numsS (runL F 7) ++ nlS ++ (numsS (remL (runL F 7) 9) ++ nlS) = numsS (runL F 7) ++ nlS ++ (numsS (remL (runL F 7) 9) ++ nlS ++ ⟨#[]⟩) := by
    apply ba_eq
    simp
  rw [this]
  exact l1
end Go.Proofs.YtpniljcnknknoaaGreatDoor

/-
  The laws' own words for numbers: deNumber, deNumbers (printed by gen_scn.py).
-/
namespace Go.Proofs.YtpniljcnknknoaaGreatDoor
open Go.RowKit
set_option linter.unusedVariables false
set_option linter.unusedSimpArgs false
set_option maxRecDepth 100000

/-- Numbers that a column of twelve wheels shows. -/
def Sm5 (l : List Int) : Prop := ∀ n ∈ l, -500000000000 ≤ n ∧ n < 500000000000
set_option maxHeartbeats 1000000 in
theorem fmtSg_any (s : ByteArray) (w : World) (hs : colOk s = true) (ht : Tab w) :
    Calls Tryz.prog 74 #[.string s] w fun e w' => e = .returned (.string (itoaS (sg s))) ∧ Below w.heap.size w w' := by
  have hb := sg_bd hs
  have HS := Lib.hid hs
  have HT := Lib.hid ht
  clear hs ht
  go_enter Tryz.func74, Tryz.ntmps74
  go_wp2_with fail
  refine (signedOf_any s _ HS.out).mono ?_
  rintro e w2 ⟨rfl, rfl⟩
  go_wp2_with fail
  refine (itoa_any _ _ ⟨by omega, by omega⟩ HT.out).mono ?_
  rintro e w2 ⟨rfl, b⟩
  go_wp2
  go_ret
  exact ⟨rfl, b⟩
theorem sm_ok {n : Int} (h : -500000000000 ≤ n ∧ n < 500000000000) : colOfOk n 12 = true ∧ colOfS n 12 = colOf n 12 ∧ sg (colOf n 12) = n := by
  have hf : fits n 12 = true := inB_true.2 (by have : half 12 = 500000000000 := by decide +kernel
                                               omega)
  have h1 : colOfOk n ((12 : Nat) : Int) = true := by rw [colOfOk_nat n ⟨by decide, by decide⟩]; exact hf
  exact ⟨h1, colOfS_yes h1, sg_colOf (by decide) hf⟩
set_option maxHeartbeats 1000000 in
theorem deNum_any (n : Int) (w : World) (hn : -500000000000 ≤ n ∧ n < 500000000000) (ht : Tab w) :
    Calls Tryz.prog 22 #[.int .i64 n] w fun e w' => e = .returned (.string (itoaS n)) ∧ Below w.heap.size w w' := by
  have HT := Lib.hid ht
  have HK := Lib.hid (sm_ok hn)
  clear ht
  go_enter Tryz.func22, Tryz.ntmps22
  go_wp2_with fail
  refine (implColOf_any n 12 _ ⟨by omega, by omega⟩).mono ?_
  rw [HK.out.1, HK.out.2.1]
  rintro e w2 ⟨rfl, b⟩
  have HB := Lib.hid b
  clear b
  go_wp2_with fail
  refine (fmtSg_any _ _ (colOk_colOf n (by decide) (by decide)) (HT.out.bel HB.out)).mono ?_
  rw [HK.out.2.2]
  rintro e w3 ⟨rfl, b⟩
  have HB3 := Lib.hid (bel_trans HB.out b)
  clear b
  go_wp2
  go_ret
  exact ⟨rfl, HB3.out⟩
set_option maxHeartbeats 1000000 in
theorem deNums_any (v : Value) (l : List Int) (w : World) (hv : Ints w v l) (hl : l.length ≤ 1048576) (hs : Sm5 l) (ht : Tab w) :
    Calls Tryz.prog 16 #[v] w fun e w' => e = .returned (.string (numsS l)) ∧ Below w.heap.size w w' := by
  have HW := Lib.hid hv.2
  have HS := Lib.hid hs
  have HT := Lib.hid ht
  obtain ⟨A, c, rfl, hlc, hc, hrd⟩ := hv.open_
  have HR := Lib.hid hrd
  clear hv hrd hs ht
  go_enter Tryz.func16, Tryz.ntmps16
  go_wp2
  go_loopw [3, 4] (fun s i wr => ∃ k : Nat, k ≤ l.length ∧ i = .int .i64 k ∧ s = .string (numsS (l.take k)) ∧ Below w.heap.size w wr) (fun _ i _ => l.length - (intOf i).toNat)
  case atStart => exact ⟨0, Nat.zero_le _, rfl, rfl, Below.refl _ _⟩
  case round =>
    obtain ⟨k, hk, rfl, rfl, hb⟩ := hrel
    have HB := Lib.hid hb
    have hz := hb.size
    by_cases hlt : k < l.length
    · obtain ⟨b, o, rfl, hbb, hcell⟩ := HR.out.ints (by omega)
      have hck := (hb.cell (by exact hbb)).trans (hcell k hlt)
      have hx := HW.out.at _ k
      have hy := HS.out _ (at_mem l k hlt)
      have hs := numsS_size (l := l.take k) (fun n hn => HW.out n (List.mem_of_mem_take hn))
      have htk : (l.take k).length = k := by rw [List.length_take]; omega
      have hne0 : 0 < k → l.take k ≠ [] := fun h e => by rw [e] at htk; simp at htk; omega
      rw [htk] at hs
      have hi := itoaS_size hx.1 hx.2
      have TS := Lib.hid (take_snocI l hlt)
      clear hcell hb htk
      by_cases h0 : 0 < k
      · have hne := hne0 h0
        have NS := Lib.hid (numsS_snoc hne (at_ l k))
        have hcat : ¬ 9223372036854775807 < (numsS (l.take k)).size + 1 := by omega
        have hs2 : (numsS (l.take k) ++ ⟨#[32]⟩).size = (numsS (l.take k)).size + 1 := by rw [ByteArray.size_append]; rfl
        have hcat2 : ¬ 9223372036854775807 < (numsS (l.take k) ++ ⟨#[32]⟩).size + (itoaS (at_ l k)).size := by omega
        have hcat3 : ¬ 9223372036854775807 < (numsS (l.take k)).size + 1 + (itoaS (at_ l k)).size := by omega
        clear hne hne0
        go_wp2_with fail
        refine (deNum_any (at_ l k) _ hy (HT.out.bel HB.out)).mono ?_
        rintro e w2 ⟨rfl, b2⟩
        have HB2 := Lib.hid (bel_trans HB.out b2)
        clear b2
        go_wp2
        go_roundw
        case rel => exact ⟨k + 1, by omega, by go_num, by rw [TS.out, NS.out], HB2.out⟩
        case measure => simp [intOf]; omega
      · have e0 : l.take k = [] := by
          have : k = 0 := by omega
          rw [this, List.take_zero]
        have NS := Lib.hid (show numsS (l.take k ++ [at_ l k]) = numsS (l.take k) ++ itoaS (at_ l k) by rw [e0, numsS_one, numsS_nil]; apply ByteArray.ext; apply Array.toList_inj.1; simp)
        have hcat : ¬ 9223372036854775807 < (numsS (l.take k)).size + (itoaS (at_ l k)).size := by omega
        clear e0 hne0
        go_wp2_with fail
        refine (deNum_any (at_ l k) _ hy (HT.out.bel HB.out)).mono ?_
        rintro e w2 ⟨rfl, b2⟩
        have HB2 := Lib.hid (bel_trans HB.out b2)
        clear b2
        go_wp2
        go_roundw
        case rel => exact ⟨k + 1, by omega, by go_num, by rw [TS.out, NS.out], HB2.out⟩
        case measure => simp [intOf]; omega
    · have hkl : k = l.length := by omega
      subst hkl
      clear hb
      go_wp2
      go_ret
      exact ⟨by rw [List.take_length]; rfl, HB.out⟩
end Go.Proofs.YtpniljcnknknoaaGreatDoor

/-
  The arguments of SetUp, drawn (as XSu has them).
-/
namespace Go.Proofs.YtpniljcnknknoaaGreatDoor
open Go.RowKit
set_option linter.unusedVariables false
set_option linter.unusedSimpArgs false
set_option maxRecDepth 100000
attribute [local go_sem ↓] Go.wp_at_zero Go.wp_at_succ

set_option maxHeartbeats 1000000 in
theorem l2Open_any (g K : Nat) (w : World) (hr : Rdr w g K) (hK : K ≤ 1000000) :
    Calls Tryz.prog 76 #[.pointer (some ⟨g, 0, none⟩)] w fun e w' => ∃ v l, e = .returned v ∧ St w g (K + 23) v l w' ∧ l.length ≤ 8 := by
  have hgw := hr.lt
  go_enter Tryz.func76, Tryz.ntmps76
  go_wp2_with fail
  refine (l2Some_any g K _ hr (by omega)).mono ?_
  rintro e w1 ⟨vp, p, rfl, ho1, hp1, hp2, hr1, hg1⟩
  have S1 := Lib.hid (show St w g (K + 20) vp p w1 from ⟨ho1, hr1, hg1, hgw⟩)
  clear ho1 hr1 hg1 hr
  go_wp2_with fail
  refine (l2Bad_any g _ w _ _ _ S1.out hp1 (by omega) (by omega)).mono ?_
  rintro e w2 ⟨v2, l2, rfl, hs2, l8, -⟩
  have S2 := Lib.hid hs2
  clear hs2 S1
  go_wp2
  go_ret
  exact ⟨_, l2, rfl, S2.out, l8⟩
/-- A drawn polynomial, an argument and a width. -/
def DrawnSU (w : World) (e : Ending) (w' : World) : Prop :=
  ∃ v p n k, e = .returned (.tuple #[v, .int .i64 n, .int .i64 k]) ∧ Own w' w.heap.size v p ∧ p.length ≤ 8 ∧ (-9223372036854775808 ≤ n ∧ n ≤ 9223372036854775807) ∧ (-9223372036854775808 ≤ k ∧ k ≤ 9223372036854775807) ∧ Below w.heap.size w w'
set_option maxHeartbeats 1000000 in
theorem drawSetUp_any (v : Value) (code : List Int) (w : World) (hv : Bytes w v code) :
    Calls Tryz.prog 23 #[v] w (DrawnSU w) := by
  go_enter Tryz.func23, Tryz.ntmps23
  go_wp2_with fail
  refine (l9Open_any v code w hv).mono ?_
  rintro e w1 ⟨g, rfl, hg, hr1, hb1⟩
  have z1 := hb1.size
  have H1 := Lib.hid (And.intro hr1 hb1)
  clear hr1 hb1
  go_wp2_with fail
  refine (l2Open_any g 0 _ H1.out.1 (by omega)).mono ?_
  rintro e w2 ⟨vp, p, rfl, hs2, l8⟩
  have S2 := Lib.hid hs2
  clear hs2
  go_wp2_with fail
  refine (l2Number_any g _ w1 _ _ _ S2.out (by omega)).mono ?_
  rintro e w3 ⟨n, rfl, n1, n2, hs3⟩
  have S3 := Lib.hid hs3
  clear hs3 S2
  go_wp2_with fail
  refine (pick_st 3 S3.out (by omega) (by omega)).mono ?_
  rintro e w4 ⟨q, rfl, qa, qb, hs4⟩
  have S4 := Lib.hid hs4
  clear hs4 S3
  by_cases hq : 0 < q
  · go_wp2
    refine bodyPost_ret (v := .tuple #[vp, .int .i64 n, .int .i64 8]) (by simp [results, Tryz.results23, go_sem]) rfl ⟨_, p, n, 8, rfl, S4.out.own.lower z1, l8, ⟨n1, n2⟩, by omega, H1.out.2.trans (grown_below (B := w.heap.size) S4.out.gr (by omega) z1)⟩
  · go_wp2_with fail
    refine (l1Wide_any g _ w1 _ _ _ S4.out (by omega)).mono ?_
    rintro e w5 ⟨k, rfl, k1, k2, hs5⟩
    have S5 := Lib.hid hs5
    clear hs5 S4
    go_wp2
    refine bodyPost_ret (v := .tuple #[vp, .int .i64 n, .int .i64 k]) (by simp [results, Tryz.results23, go_sem]) rfl ⟨_, p, n, k, rfl, S5.out.own.lower z1, l8, ⟨n1, n2⟩, ⟨k1, k2⟩, H1.out.2.trans (grown_below (B := w.heap.size) S5.out.gr (by omega) z1)⟩
end Go.Proofs.YtpniljcnknknoaaGreatDoor

/-
  The contract of laws.deSame: two engines have the same columns.
-/
namespace Go.Proofs.YtpniljcnknknoaaGreatDoor
open Go.RowKit
set_option linter.unusedVariables false
set_option linter.unusedSimpArgs false
set_option maxRecDepth 100000

set_option maxHeartbeats 2000000 in
theorem deSame_any (u v : Value) (l m : List ByteArray) (w : World) (hu : Strs w u l) (hv : Strs w v m) :
    Calls Tryz.prog 26 #[.agg #[u], .agg #[v]] w fun e w' => e = .returned (.bool (eqS l m)) ∧ Below w.heap.size w w' := by
  have HU := Lib.hid hu
  have HV := Lib.hid hv
  obtain ⟨A, c, rfl, hlc, hc, hrd⟩ := hu.open_
  obtain ⟨B, d, rfl, hld, hd, hrd2⟩ := hv.open_
  clear hu hv
  have B0 := Lib.hid (show Below w.heap.size w ((w.alloc (.cells #[.slice A l.length c] 48)).alloc (.cells #[.slice B m.length d] 48)) from (bel_alloc w _).alloc (by simp) _)
  have K0 := (Blk.new' w 48 (.slice A l.length c) w.heap.size rfl).alloc (.cells #[.slice B m.length d] 48)
  have K1 := Blk.new' (w.alloc (.cells #[.slice A l.length c] 48)) 48 (.slice B m.length d) (w.heap.size + 1) (by simp)
  obtain ⟨e0, -⟩ := K0.one
  obtain ⟨e1, -⟩ := K1.one
  by_cases he : l.length = m.length
  · have h1 : ((l.length : Int) != (m.length : Int)) = false := by simp [he]
    have HE := Lib.hid he
    clear he
    go_enter Tryz.func26, Tryz.ntmps26
    go_wp2_with fail
    generalize hW : (w.alloc (.cells #[.slice A l.length c] 48)).alloc (.cells #[.slice B m.length d] 48) = W at *
    clear hW K0 K1
    go_loopw [5] (fun i wr => ∃ k : Nat, k ≤ l.length ∧ i = .int .i64 k ∧ (∀ j, j < k → sat l j = sat m j) ∧ ∃ n, wr = W.drewN n) (fun i _ => l.length - (intOf i).toNat)
    case atStart => exact ⟨0, Nat.zero_le _, rfl, fun j hj => absurd hj (by omega), 0, rfl⟩
    case round =>
      obtain ⟨k, hk, rfl, hall, nd, rfl⟩ := hrel
      have HA := Lib.hid hall
      clear hall
      by_cases hlt : k < l.length
      · have hltm : k < m.length := by have := HE.out; omega
        obtain ⟨b, o, rfl, hb, hcell⟩ := hrd.strs (by omega)
        obtain ⟨b2, o2, rfl, hb2, hcell2⟩ := hrd2.strs (by omega)
        have hck := (B0.out.cell (by exact hb)).trans (hcell k hlt)
        have hck2 := (B0.out.cell (by exact hb2)).trans (hcell2 k hltm)
        have p1 : (k : Int) < (l.length : Int) := by omega
        have p2 : (k : Int) < (m.length : Int) := by omega
        have p3 : (0 : Int) ≤ (k : Int) := by omega
        clear hcell hcell2
        go_wp2_with fail
        go_quiet (fail)
        go_wp2
        · have h : (!(sat l k).toList == (sat m k).toList) = true := by assumption
          go_ret
          exact ⟨ret_bool (eqS_false.2 (fun e => by rw [e] at h; simp at h)).symm, below_drewN (below_drewN B0.out _) _⟩
        · have h : (!(sat l k).toList == (sat m k).toList) = false := by assumption
          go_roundw
          case rel => exact ⟨k + 1, by omega, by go_num, toSucc HA.out (str_eq h), _, rfl⟩
          case measure => simp [intOf]; omega
      · go_wp2
        go_ret
        exact ⟨ret_bool (eqS_true.2 (slist_ext HE.out (fun j hj => HA.out j (by omega)))).symm, below_drewN B0.out _⟩
  · have h1 : ((l.length : Int) != (m.length : Int)) = true := by simp; omega
    go_enter Tryz.func26, Tryz.ntmps26
    go_wp2
    go_ret
    exact ⟨ret_bool (eqS_false.2 (fun h => he (by rw [h]))).symm, B0.out⟩

end Go.Proofs.YtpniljcnknknoaaGreatDoor

/-
  The law FnScriptEngine, walked (printed by gen_lawscg.py).
-/
namespace Go.Proofs.YtpniljcnknknoaaGreatDoor
open Go.RowKit
set_option linter.unusedVariables false
set_option linter.unusedSimpArgs false
set_option maxRecDepth 100000
attribute [local go_sem ↓] Go.wp_at_zero Go.wp_at_succ

theorem table_five {l : List Int} (h : tableOk l = true) : Sm5 l := by
  intro n hn
  obtain ⟨k, hk, rfl⟩ := List.getElem_of_mem hn
  have := (tableOk_true h).2.2 k hk
  rw [at_eq l k hk] at this
  omega
theorem table_wf {l : List Int} (h : tableOk l = true) : Wf l := fun n hn => by have := table_five h n hn; omega
theorem rem_five (l : List Int) : Sm5 (remL l 9) := by
  intro n hn
  unfold remL at hn
  split at hn
  · obtain ⟨k, hk, rfl⟩ := List.getElem_of_mem hn
    rw [gen_length] at hk
    have e := at_eq (gen (fun i => ((md (at_ l i) 9 : Nat) : Int)) l.length) k (by rw [gen_length]; exact hk)
    rw [at_gen hk] at e
    have := md_lt (at_ l k) (show 1 ≤ 9 by omega)
    omega
  · cases hn
theorem small_size {n : Int} (h : -1000000 ≤ n ∧ n ≤ 1000000) : (itoaS n).size ≤ 21 := itoaS_size (by omega) (by omega)
theorem sizeQX {P iN iW iK : ByteArray} (hP : P.size ≤ 154) (hiN : iN.size ≤ 21) (hiW : iW.size ≤ 21) (hiK : iK.size ≤ 21) : ¬ 9223372036854775807 < 5 + P.size ∧ ¬ 9223372036854775807 < 5 + P.size + 7 ∧ ¬ 9223372036854775807 < 5 + P.size + 7 + iN.size ∧ ¬ 9223372036854775807 < 5 + P.size + 7 + iN.size + 1 ∧ ¬ 9223372036854775807 < 5 + P.size + 7 + iN.size + 1 + iW.size ∧ ¬ 9223372036854775807 < 5 + P.size + 7 + iN.size + 1 + iW.size + 7 ∧ ¬ 9223372036854775807 < 5 + P.size + 7 + iN.size + 1 + iW.size + 7 + iK.size ∧ ¬ 9223372036854775807 < 5 + P.size + 7 + iN.size + 1 + iW.size + 7 + iK.size + 13 ∧ ¬ 9223372036854775807 < 5 + P.size + 7 + iN.size + 1 + iW.size + 7 + iK.size + 13 + 12 := by
  refine ⟨?_, ?_, ?_, ?_, ?_, ?_, ?_, ?_, ?_⟩ <;> omega
theorem sizeRX (P iN iW iK : ByteArray) : (⟨#[112, 111, 108, 121, 32]⟩ ++ P).size = 5 + P.size ∧ (⟨#[112, 111, 108, 121, 32]⟩ ++ P ++ ⟨#[10, 115, 101, 116, 117, 112, 32]⟩).size = 5 + P.size + 7 ∧ (⟨#[112, 111, 108, 121, 32]⟩ ++ P ++ ⟨#[10, 115, 101, 116, 117, 112, 32]⟩ ++ iN).size = 5 + P.size + 7 + iN.size ∧ (⟨#[112, 111, 108, 121, 32]⟩ ++ P ++ ⟨#[10, 115, 101, 116, 117, 112, 32]⟩ ++ iN ++ ⟨#[32]⟩).size = 5 + P.size + 7 + iN.size + 1 ∧ (⟨#[112, 111, 108, 121, 32]⟩ ++ P ++ ⟨#[10, 115, 101, 116, 117, 112, 32]⟩ ++ iN ++ ⟨#[32]⟩ ++ iW).size = 5 + P.size + 7 + iN.size + 1 + iW.size ∧ (⟨#[112, 111, 108, 121, 32]⟩ ++ P ++ ⟨#[10, 115, 101, 116, 117, 112, 32]⟩ ++ iN ++ ⟨#[32]⟩ ++ iW ++ ⟨#[10, 116, 117, 114, 110, 115, 32]⟩).size = 5 + P.size + 7 + iN.size + 1 + iW.size + 7 ∧ (⟨#[112, 111, 108, 121, 32]⟩ ++ P ++ ⟨#[10, 115, 101, 116, 117, 112, 32]⟩ ++ iN ++ ⟨#[32]⟩ ++ iW ++ ⟨#[10, 116, 117, 114, 110, 115, 32]⟩ ++ iK).size = 5 + P.size + 7 + iN.size + 1 + iW.size + 7 + iK.size ∧ (⟨#[112, 111, 108, 121, 32]⟩ ++ P ++ ⟨#[10, 115, 101, 116, 117, 112, 32]⟩ ++ iN ++ ⟨#[32]⟩ ++ iW ++ ⟨#[10, 116, 117, 114, 110, 115, 32]⟩ ++ iK ++ ⟨#[10, 115, 107, 101, 119, 10, 117, 110, 115, 107, 101, 119, 10]⟩).size = 5 + P.size + 7 + iN.size + 1 + iW.size + 7 + iK.size + 13 := by
  refine ⟨?_, ?_, ?_, ?_, ?_, ?_, ?_, ?_⟩ <;> (simp only [ba_size_app]; rfl)
theorem sizeQY {A B C : ByteArray} (hA : A.size ≤ 91) (hB : B.size ≤ 91) (hC : C.size ≤ 91) : ¬ 9223372036854775807 < 3 + A.size ∧ ¬ 9223372036854775807 < 3 + A.size + 1 ∧ ¬ 9223372036854775807 < 3 + A.size + 1 + B.size ∧ ¬ 9223372036854775807 < 3 + A.size + 1 + B.size + 1 ∧ ¬ 9223372036854775807 < 3 + A.size + 1 + B.size + 1 + C.size ∧ ¬ 9223372036854775807 < 3 + A.size + 1 + B.size + 1 + C.size + 1 ∧ ¬ 9223372036854775807 < 3 + A.size + 1 + B.size + 1 + C.size + 1 + B.size ∧ ¬ 9223372036854775807 < 3 + A.size + 1 + B.size + 1 + C.size + 1 + B.size + 1 := by
  refine ⟨?_, ?_, ?_, ?_, ?_, ?_, ?_, ?_⟩ <;> omega
theorem sizeRY (A B C : ByteArray) : (⟨#[111, 107, 10]⟩ ++ A).size = 3 + A.size ∧ (⟨#[111, 107, 10]⟩ ++ A ++ ⟨#[10]⟩).size = 3 + A.size + 1 ∧ (⟨#[111, 107, 10]⟩ ++ A ++ ⟨#[10]⟩ ++ B).size = 3 + A.size + 1 + B.size ∧ (⟨#[111, 107, 10]⟩ ++ A ++ ⟨#[10]⟩ ++ B ++ ⟨#[10]⟩).size = 3 + A.size + 1 + B.size + 1 ∧ (⟨#[111, 107, 10]⟩ ++ A ++ ⟨#[10]⟩ ++ B ++ ⟨#[10]⟩ ++ C).size = 3 + A.size + 1 + B.size + 1 + C.size ∧ (⟨#[111, 107, 10]⟩ ++ A ++ ⟨#[10]⟩ ++ B ++ ⟨#[10]⟩ ++ C ++ ⟨#[10]⟩).size = 3 + A.size + 1 + B.size + 1 + C.size + 1 ∧ (⟨#[111, 107, 10]⟩ ++ A ++ ⟨#[10]⟩ ++ B ++ ⟨#[10]⟩ ++ C ++ ⟨#[10]⟩ ++ B).size = 3 + A.size + 1 + B.size + 1 + C.size + 1 + B.size := by
  refine ⟨?_, ?_, ?_, ?_, ?_, ?_, ?_⟩ <;> (simp only [ba_size_app]; rfl)
theorem sizeQZ {A B C V N : ByteArray} (hA : A.size ≤ 91) (hB : B.size ≤ 91) (hC : C.size ≤ 91) (hV : V.size ≤ 1320) (hN : N.size ≤ 1320) : ¬ 9223372036854775807 < 3 + A.size ∧ ¬ 9223372036854775807 < 3 + A.size + 1 ∧ ¬ 9223372036854775807 < 3 + A.size + 1 + B.size ∧ ¬ 9223372036854775807 < 3 + A.size + 1 + B.size + 1 ∧ ¬ 9223372036854775807 < 3 + A.size + 1 + B.size + 1 + C.size ∧ ¬ 9223372036854775807 < 3 + A.size + 1 + B.size + 1 + C.size + 1 ∧ ¬ 9223372036854775807 < 3 + A.size + 1 + B.size + 1 + C.size + 1 + B.size ∧ ¬ 9223372036854775807 < 3 + A.size + 1 + B.size + 1 + C.size + 1 + B.size + 1 ∧ ¬ 9223372036854775807 < 3 + A.size + 1 + B.size + 1 + C.size + 1 + B.size + 1 + V.size ∧ ¬ 9223372036854775807 < 3 + A.size + 1 + B.size + 1 + C.size + 1 + B.size + 1 + V.size + 1 ∧ ¬ 9223372036854775807 < 3 + A.size + 1 + B.size + 1 + C.size + 1 + B.size + 1 + V.size + 1 + N.size ∧ ¬ 9223372036854775807 < 3 + A.size + 1 + B.size + 1 + C.size + 1 + B.size + 1 + V.size + 1 + N.size + 1 := by
  refine ⟨?_, ?_, ?_, ?_, ?_, ?_, ?_, ?_, ?_, ?_, ?_, ?_⟩ <;> omega
theorem sizeRZ (A B C V N : ByteArray) : (⟨#[111, 107, 10]⟩ ++ A).size = 3 + A.size ∧ (⟨#[111, 107, 10]⟩ ++ A ++ ⟨#[10]⟩).size = 3 + A.size + 1 ∧ (⟨#[111, 107, 10]⟩ ++ A ++ ⟨#[10]⟩ ++ B).size = 3 + A.size + 1 + B.size ∧ (⟨#[111, 107, 10]⟩ ++ A ++ ⟨#[10]⟩ ++ B ++ ⟨#[10]⟩).size = 3 + A.size + 1 + B.size + 1 ∧ (⟨#[111, 107, 10]⟩ ++ A ++ ⟨#[10]⟩ ++ B ++ ⟨#[10]⟩ ++ C).size = 3 + A.size + 1 + B.size + 1 + C.size ∧ (⟨#[111, 107, 10]⟩ ++ A ++ ⟨#[10]⟩ ++ B ++ ⟨#[10]⟩ ++ C ++ ⟨#[10]⟩).size = 3 + A.size + 1 + B.size + 1 + C.size + 1 ∧ (⟨#[111, 107, 10]⟩ ++ A ++ ⟨#[10]⟩ ++ B ++ ⟨#[10]⟩ ++ C ++ ⟨#[10]⟩ ++ B).size = 3 + A.size + 1 + B.size + 1 + C.size + 1 + B.size ∧ (⟨#[111, 107, 10]⟩ ++ A ++ ⟨#[10]⟩ ++ B ++ ⟨#[10]⟩ ++ C ++ ⟨#[10]⟩ ++ B ++ ⟨#[10]⟩).size = 3 + A.size + 1 + B.size + 1 + C.size + 1 + B.size + 1 ∧ (⟨#[111, 107, 10]⟩ ++ A ++ ⟨#[10]⟩ ++ B ++ ⟨#[10]⟩ ++ C ++ ⟨#[10]⟩ ++ B ++ ⟨#[10]⟩ ++ V).size = 3 + A.size + 1 + B.size + 1 + C.size + 1 + B.size + 1 + V.size ∧ (⟨#[111, 107, 10]⟩ ++ A ++ ⟨#[10]⟩ ++ B ++ ⟨#[10]⟩ ++ C ++ ⟨#[10]⟩ ++ B ++ ⟨#[10]⟩ ++ V ++ ⟨#[10]⟩).size = 3 + A.size + 1 + B.size + 1 + C.size + 1 + B.size + 1 + V.size + 1 ∧ (⟨#[111, 107, 10]⟩ ++ A ++ ⟨#[10]⟩ ++ B ++ ⟨#[10]⟩ ++ C ++ ⟨#[10]⟩ ++ B ++ ⟨#[10]⟩ ++ V ++ ⟨#[10]⟩ ++ N).size = 3 + A.size + 1 + B.size + 1 + C.size + 1 + B.size + 1 + V.size + 1 + N.size := by
  refine ⟨?_, ?_, ?_, ?_, ?_, ?_, ?_, ?_, ?_, ?_, ?_⟩ <;> (simp only [ba_size_app]; rfl)
theorem poly_size {p : List Int} {n k : Int} (h : setOk p n k = true) : polyOk p = true ∧ (numsS p).size ≤ 154 ∧ (itoaS n).size ≤ 21 ∧ (itoaS k).size ≤ 21 := by
  obtain ⟨ha, hw, -, -⟩ := set_raw h
  obtain ⟨hp, n1, n2⟩ := argOk_true.1 ha
  obtain ⟨t1, t2, t3⟩ := polyOk_true.1 hp
  have hz := numsS_size (l := p) (fun n hn => by
    obtain ⟨k, hk, rfl⟩ := List.getElem_of_mem hn
    have := t3 k hk
    rw [at_eq p k hk] at this
    omega)
  exact ⟨hp, by omega, small_size (by omega), small_size (by omega)⟩
theorem run_one {p : List Int} {n k : Int} {K : Nat} (h : setOk p n k = true) (hK : K ≤ 20) (w : World) (hg : GlbC w) :
    Calls Tryz.prog 14 #[.string (enScript (numsS p) (itoaS n) (itoaS k) (itoaS K))] w fun e w' => e = .returned (.string (enTold (fmtE (setE p n k)) (fmtE (turnN (setE p n k) K)) (fmtE (skewS (turnN (setE p n k) K))))) ∧ Below w.heap.size w w' := by
  obtain ⟨-, i0, i1, i2⟩ := poly_size h
  have i3 := small_size (n := K) (by omega)
  have z1 := fmtE_size (setE p n k)
  have z2 := fmtE_size (turnN (setE p n k) K)
  have z3 := fmtE_size (skewS (turnN (setE p n k) K))
  refine runScript_any _ _ w ?_ hg (ran_one h hK) ?_ ?_
  · unfold enScript
    simp only [ba_size_app]
    have x0 : (⟨#[112, 111, 108, 121, 32]⟩ : ByteArray).size = 5 := rfl
    have x2 : (⟨#[10, 115, 101, 116, 117, 112, 32]⟩ : ByteArray).size = 7 := rfl
    have x4 : (⟨#[32]⟩ : ByteArray).size = 1 := rfl
    have x6 : (⟨#[10, 116, 117, 114, 110, 115, 32]⟩ : ByteArray).size = 7 := rfl
    have x8 : (⟨#[10, 115, 107, 101, 119, 10, 117, 110, 115, 107, 101, 119, 10]⟩ : ByteArray).size = 13 := rfl
    omega
  · rw [enScript_lines, cut_lines (enLines_no p n k K)]
    show 6 ≤ 100
    decide
  · unfold enTold
    simp only [ba_size_app]
    have x0 : (⟨#[111, 107, 10]⟩ : ByteArray).size = 3 := rfl
    have x2 : (⟨#[10]⟩ : ByteArray).size = 1 := rfl
    have x4 : (⟨#[10]⟩ : ByteArray).size = 1 := rfl
    have x6 : (⟨#[10]⟩ : ByteArray).size = 1 := rfl
    have x8 : (⟨#[10]⟩ : ByteArray).size = 1 := rfl
    omega
theorem run_two {p : List Int} {n k : Int} {K : Nat} (h : setOk p n k = true) (hK : K ≤ 20) (ht : tableOk (runL (turnN (setE p n k) K) 7) = true) (w : World) (hg : GlbC w) :
    Calls Tryz.prog 14 #[.string (enScript (numsS p) (itoaS n) (itoaS k) (itoaS K) ++ runText)] w fun e w' => e = .returned (.string ((enTold (fmtE (setE p n k)) (fmtE (turnN (setE p n k) K)) (fmtE (skewS (turnN (setE p n k) K)))) ++ (numsS (runL (turnN (setE p n k) K) 7) ++ nlS ++ (numsS (remL (runL (turnN (setE p n k) K) 7) 9) ++ nlS)))) ∧ Below w.heap.size w w' := by
  obtain ⟨-, i0, i1, i2⟩ := poly_size h
  have i3 := small_size (n := K) (by omega)
  have z1 := fmtE_size (setE p n k)
  have z2 := fmtE_size (turnN (setE p n k) K)
  have z3 := fmtE_size (skewS (turnN (setE p n k) K))
  have z4 := numsS_size (table_wf ht)
  have t60 := (tableOk_true ht).2.1
  have z5 := (remL_size _ t60).1
  refine runScript_any _ _ w ?_ hg (ran_two h hK ht) ?_ ?_
  · unfold enScript runText
    simp only [ba_size_app]
    have x0 : (⟨#[112, 111, 108, 121, 32]⟩ : ByteArray).size = 5 := rfl
    have x2 : (⟨#[10, 115, 101, 116, 117, 112, 32]⟩ : ByteArray).size = 7 := rfl
    have x4 : (⟨#[32]⟩ : ByteArray).size = 1 := rfl
    have x6 : (⟨#[10, 116, 117, 114, 110, 115, 32]⟩ : ByteArray).size = 7 := rfl
    have x8 : (⟨#[10, 115, 107, 101, 119, 10, 117, 110, 115, 107, 101, 119, 10]⟩ : ByteArray).size = 13 := rfl
    have x9 : (⟨#[114, 117, 110, 32, 55, 10, 110, 105, 110, 101, 115, 10]⟩ : ByteArray).size = 12 := rfl
    omega
  · rw [runScript_lines, cut_lines (fun x hx => by
      rcases List.mem_append.1 hx with h1 | h1
      · exact enLines_no p n k K x h1
      · exact runLines_no x h1)]
    show 8 ≤ 100
    decide
  · unfold enTold nlS
    simp only [ba_size_app]
    have x0 : (⟨#[111, 107, 10]⟩ : ByteArray).size = 3 := rfl
    have x2 : (⟨#[10]⟩ : ByteArray).size = 1 := rfl
    have x4 : (⟨#[10]⟩ : ByteArray).size = 1 := rfl
    have x6 : (⟨#[10]⟩ : ByteArray).size = 1 := rfl
    have x8 : (⟨#[10]⟩ : ByteArray).size = 1 := rfl
    omega
set_option maxHeartbeats 16000000 in
theorem lawScriptEngine (v : Value) (code : List Int) (u : Value) (more : List Int) (w : World) (hv : Bytes w v code) (hu : Bytes w u more) (hg : GlbC w) :
    Calls Tryz.prog 5 #[v, u] w fun e w' => e = .returned (.bool true) ∧ Below w.heap.size w w' := by
  have HV := Lib.hid hv
  have HG := Lib.hid hg
  obtain ⟨A_c, c_c, rfl, -, hc1, -⟩ := hv.open_
  obtain ⟨A_m, c_m, rfl, -, hc2, -⟩ := hu.open_
  clear hv hg hu
  go_enter Tryz.func5, Tryz.ntmps5
  by_cases hbig : (1048576 : Int) < (code.length : Int)
  · go_wp2
    go_ret
    exact ⟨rfl, Below.refl _ _⟩
  · by_cases hbig2 : (1048576 : Int) < (more.length : Int)
    · go_wp2
      go_ret
      exact ⟨rfl, Below.refl _ _⟩
    · go_wp2_with fail
      refine (drawSetUp_any _ code _ HV.out).mono ?_
      rintro e w0 ⟨vp, p, n, k, rfl, ho, p8, nb, kb, b⟩
      have HP := Lib.hid ho.ints
      obtain ⟨Ap, cp, rfl, -, -, -⟩ := ho.ints.open_
      have HB := Lib.hid b
      clear ho b HV
      obtain ⟨E, hE⟩ : ∃ x, setE p n k = x := ⟨_, rfl⟩
      cases hq : setOk p n k
      · have HI : Hid (∀ w, Ints w (.slice Ap p.length cp) p → Calls Tryz.prog 24 #[.slice Ap p.length cp, .int .i64 n, .int .i64 k] w (EngB w E false)) := Lib.hid fun w h => by rw [← hE, ← hq]; exact implSetUp_any _ p n k w h nb
        have HJ : Hid (∀ w, Ints w (.slice Ap p.length cp) p → Calls Tryz.prog 25 #[.slice Ap p.length cp, .int .i64 n, .int .i64 k] w (EngB w E false)) := Lib.hid fun w h => by rw [← hE, ← hq]; exact specSetUp_any _ p n k w h nb
        go_wp2_with fail
        refine (HI.out _ HP.out).mono ?_
        rintro e w1 ⟨r1, rfl, o1, b⟩
        obtain ⟨A1, c1, rfl, -, -, -⟩ := o1.strs.open_
        replace b := bel_trans b (bel_alloc w1 (.cells #[.slice A1 E.length c1] 48))
        have S1 := Lib.hid (o1.strs.bel (bel_alloc w1 (.cells #[.slice A1 E.length c1] 48)))
        have K1 := Lib.hid (Blk.new' w1 48 (.slice A1 E.length c1) _ rfl)
        replace HB := Lib.hid (bel_trans HB.out b)
        replace HP := Lib.hid (HP.out.bel b)
        clear b o1
        go_wp2_with fail
        generalize hW : (w1.alloc (.cells #[.slice A1 E.length c1] 48)) = W1 at S1 K1 HB HP ⊢
        clear hW
        refine (HJ.out _ HP.out).mono ?_
        rintro e w2 ⟨r2, rfl, o2, b⟩
        obtain ⟨A2, c2, rfl, -, -, -⟩ := o2.strs.open_
        replace b := bel_trans b (bel_alloc w2 (.cells #[.slice A2 E.length c2] 48))
        have S2 := Lib.hid (o2.strs.bel (bel_alloc w2 (.cells #[.slice A2 E.length c2] 48)))
        have K2 := Lib.hid (Blk.new' w2 48 (.slice A2 E.length c2) _ rfl)
        replace HB := Lib.hid (bel_trans HB.out b)
        replace HP := Lib.hid (HP.out.bel b)
        replace S1 := Lib.hid (S1.out.bel b)
        replace K1 := Lib.hid (K1.out.below b K1.out.lt)
        clear b o2
        obtain ⟨k1, -⟩ := K1.out.one
        obtain ⟨k2, -⟩ := K2.out.one
        go_wp2_with fail
        clear k1 k2
        generalize hW : (w2.alloc (.cells #[.slice A2 E.length c2] 48)) = W2 at S1 S2 K1 K2 HB HP ⊢
        clear hW
        refine (deSame_any _ _ E E _ S1.out S2.out).mono ?_
        rw [eqS_self]
        rintro e w3 ⟨rfl, b⟩
        replace HB := Lib.hid (bel_trans HB.out b)
        replace HP := Lib.hid (HP.out.bel b)
        replace S1 := Lib.hid (S1.out.bel b)
        replace S2 := Lib.hid (S2.out.bel b)
        replace K1 := Lib.hid (K1.out.below b K1.out.lt)
        replace K2 := Lib.hid (K2.out.below b K2.out.lt)
        clear b
        obtain ⟨k1, -⟩ := K1.out.one
        obtain ⟨k2, -⟩ := K2.out.one
        go_wp2_with fail
        clear k1 k2
        refine (deSame_any _ _ E E _ S1.out S2.out).mono ?_
        rw [eqS_self]
        rintro e w4 ⟨rfl, b⟩
        replace HB := Lib.hid (bel_trans HB.out b)
        go_wp2
        go_ret
        exact ⟨rfl, HB.out⟩
      · obtain ⟨hpo, i0, i1, i2⟩ := poly_size hq
        obtain ⟨K, hK⟩ : ∃ K, more.length % 20 = K := ⟨_, rfl⟩
        have hK20 : K < 20 := by omega
        have hd1 : (more.length : Int) % 20 = (K : Int) := by omega
        have hd2 : (more.length : Int).tmod 20 = (K : Int) := by rw [← hK]; rfl
        have i3 := small_size (n := K) (by omega)
        have oE := setE_ok hq
        have hw := set_raw hq
        have hn9 := argOk_true.1 hw.1
        have hw9 := hw.2.1
        have z1 := fmtE_size (setE p n k)
        have z2 := fmtE_size (turnN (setE p n k) K)
        have z3 := fmtE_size (skewS (turnN (setE p n k) K))
        have hrl := runL_le (turnN (setE p n k) K) 7
        obtain ⟨P, hP⟩ : ∃ x, numsS p = x := ⟨_, rfl⟩
        obtain ⟨iN, hiN⟩ : ∃ x, itoaS n = x := ⟨_, rfl⟩
        obtain ⟨iW, hiW⟩ : ∃ x, itoaS k = x := ⟨_, rfl⟩
        obtain ⟨iK, hiK⟩ : ∃ x, itoaS (K : Int) = x := ⟨_, rfl⟩
        obtain ⟨F, hF⟩ : ∃ x, turnN (setE p n k) K = x := ⟨_, rfl⟩
        obtain ⟨G, hG⟩ : ∃ x, skewS F = x := ⟨_, rfl⟩
        obtain ⟨A, hA⟩ : ∃ x, fmtE (setE p n k) = x := ⟨_, rfl⟩
        obtain ⟨B, hB⟩ : ∃ x, fmtE F = x := ⟨_, rfl⟩
        obtain ⟨C, hC⟩ : ∃ x, fmtE G = x := ⟨_, rfl⟩
        obtain ⟨L5, hL5⟩ : ∃ x, runL F 7 = x := ⟨_, rfl⟩
        have oF : engOk F = true := by rw [← hF]; exact turnN_ok oE K
        have HRS : Hid (∀ w, GlbC w → Calls Tryz.prog 14 #[.string (⟨#[112, 111, 108, 121, 32]⟩ ++ P ++ ⟨#[10, 115, 101, 116, 117, 112, 32]⟩ ++ iN ++ ⟨#[32]⟩ ++ iW ++ ⟨#[10, 116, 117, 114, 110, 115, 32]⟩ ++ iK ++ ⟨#[10, 115, 107, 101, 119, 10, 117, 110, 115, 107, 101, 119, 10]⟩)] w fun e w' => e = .returned (.string (⟨#[111, 107, 10]⟩ ++ A ++ ⟨#[10]⟩ ++ B ++ ⟨#[10]⟩ ++ C ++ ⟨#[10]⟩ ++ B ++ ⟨#[10]⟩)) ∧ Below w.heap.size w w') := Lib.hid (fun w hg => by
          have h := run_one hq (K := K) (by omega) w hg
          unfold enScript enTold at h
          rw [hP, hiN, hiW, hiK, hA, hF, hB, hG, hC] at h
          exact h)
        have HRT : Hid (tableOk L5 = true → ∀ w, GlbC w → Calls Tryz.prog 14 #[.string (⟨#[112, 111, 108, 121, 32]⟩ ++ P ++ ⟨#[10, 115, 101, 116, 117, 112, 32]⟩ ++ iN ++ ⟨#[32]⟩ ++ iW ++ ⟨#[10, 116, 117, 114, 110, 115, 32]⟩ ++ iK ++ ⟨#[10, 115, 107, 101, 119, 10, 117, 110, 115, 107, 101, 119, 10]⟩ ++ ⟨#[114, 117, 110, 32, 55, 10, 110, 105, 110, 101, 115, 10]⟩)] w fun e w' => e = .returned (.string (⟨#[111, 107, 10]⟩ ++ A ++ ⟨#[10]⟩ ++ B ++ ⟨#[10]⟩ ++ C ++ ⟨#[10]⟩ ++ B ++ ⟨#[10]⟩ ++ (numsS L5 ++ nlS ++ (numsS (remL L5 9) ++ nlS)))) ∧ Below w.heap.size w w') := Lib.hid (fun ht w hg => by
          have h := run_two hq (K := K) (by omega) (by rw [hF, hL5]; exact ht) w hg
          unfold enScript enTold runText at h
          rw [hP, hiN, hiW, hiK, hA, hF, hB, hG, hC, hL5] at h
          exact h)
        have HFP : Hid (∀ w, Ints w (.slice Ap p.length cp) p → Tab w → Calls Tryz.prog 15 #[.slice Ap p.length cp] w fun e w' => e = .returned (.string P) ∧ Below w.heap.size w w') := Lib.hid (fun w h ht => by
          rw [← hP, ← polyS_yes hpo]
          exact implFP_any _ p w h ht)
        have HNN : Hid (∀ w, Tab w → Calls Tryz.prog 22 #[.int .i64 n] w fun e w' => e = .returned (.string iN) ∧ Below w.heap.size w w') := Lib.hid (fun w ht => by rw [← hiN]; exact deNum_any n w ⟨by omega, by omega⟩ ht)
        have HNW : Hid (∀ w, Tab w → Calls Tryz.prog 22 #[.int .i64 k] w fun e w' => e = .returned (.string iW) ∧ Below w.heap.size w w') := Lib.hid (fun w ht => by rw [← hiW]; exact deNum_any k w ⟨by omega, by omega⟩ ht)
        have HNK : Hid (∀ w, Tab w → Calls Tryz.prog 22 #[.int .i64 (K : Int)] w fun e w' => e = .returned (.string iK) ∧ Below w.heap.size w w') := Lib.hid (fun w ht => by rw [← hiK]; exact deNum_any K w ⟨by omega, by omega⟩ ht)
        have HRE : Hid (∀ w v, Strs w v F → Calls Tryz.prog 27 #[.agg #[v], .int .i64 7] w (IntsB w L5 true)) := Lib.hid (fun w v h => by
          have hr : runOk F 7 = true := by unfold runOk; rw [oF]; rfl
          rw [← hL5, ← hr]
          exact implRun_any _ F 7 w h ⟨by omega, by omega⟩)
        have HFF : Hid (∀ w v, Strs w v F → Calls Tryz.prog 29 #[.agg #[v]] w fun e w' => e = .returned (.string B) ∧ Below w.heap.size w w') := Lib.hid (fun w v h => by rw [← hB]; exact fmtEng_any _ F w h)
        have HFG : Hid (∀ w v, Strs w v G → Calls Tryz.prog 29 #[.agg #[v]] w fun e w' => e = .returned (.string C) ∧ Below w.heap.size w w') := Lib.hid (fun w v h => by rw [← hC]; exact fmtEng_any _ G w h)
        have HSK : Hid (∀ w v, Strs w v F → Calls Tryz.prog 30 #[.agg #[v]] w fun e w' => ∃ r, e = .returned (.agg #[r]) ∧ OwnS w' w.heap.size r G ∧ Below w.heap.size w w') := Lib.hid (fun w v h => by rw [← hG]; exact deSkewed_any _ F w h oF)
        rw [hF] at z2 z3 hrl
        rw [hG, hC] at z3
        rw [hB] at z2
        rw [hA] at z1
        rw [hP] at i0
        rw [hiN] at i1
        rw [hiW] at i2
        rw [hiK] at i3
        rw [hE] at hF hA oE
        have HFE : Hid (∀ w v, Strs w v E → Calls Tryz.prog 29 #[.agg #[v]] w fun e w' => e = .returned (.string A) ∧ Below w.heap.size w w') := Lib.hid (fun w v h => by rw [← hA]; exact fmtEng_any _ E w h)
        have HDT : Hid (∀ w v, Strs w v E → Calls Tryz.prog 28 #[.agg #[v], .int .i64 (K : Int)] w fun e w' => ∃ r, e = .returned (.agg #[r]) ∧ OwnS w' w.heap.size r F ∧ Below w.heap.size w w') := Lib.hid (fun w v h => by rw [← hF]; exact deTurned_any _ E K w h oE (by omega))
        obtain ⟨Xq0, Xq1, Xq2, Xq3, Xq4, Xq5, Xq6, Xq7, Xq8⟩ := sizeQX (show P.size ≤ 154 by omega) (show iN.size ≤ 21 by omega) (show iW.size ≤ 21 by omega) (show iK.size ≤ 21 by omega)
        obtain ⟨Xr0, Xr1, Xr2, Xr3, Xr4, Xr5, Xr6, Xr7⟩ := sizeRX P iN iW iK
        obtain ⟨Yq0, Yq1, Yq2, Yq3, Yq4, Yq5, Yq6, Yq7⟩ := sizeQY (show A.size ≤ 91 by omega) (show B.size ≤ 91 by omega) (show C.size ≤ 91 by omega)
        obtain ⟨Yr0, Yr1, Yr2, Yr3, Yr4, Yr5, Yr6⟩ := sizeRY A B C
        replace oE := Lib.hid oE
        replace oF := Lib.hid oF
        have HZZ := Lib.hid (And.intro z1 (And.intro z2 z3))
        clear hP hiN hiW hiK hF hG hA hB hC hL5 hw hn9 hw9 hrl hpo i0 i1 i2 i3 z1 z2 z3

        have HI : Hid (∀ w, Ints w (.slice Ap p.length cp) p → Calls Tryz.prog 24 #[.slice Ap p.length cp, .int .i64 n, .int .i64 k] w (EngB w E true)) := Lib.hid fun w h => by rw [← hE, ← hq]; exact implSetUp_any _ p n k w h nb
        have HJ : Hid (∀ w, Ints w (.slice Ap p.length cp) p → Calls Tryz.prog 25 #[.slice Ap p.length cp, .int .i64 n, .int .i64 k] w (EngB w E true)) := Lib.hid fun w h => by rw [← hE, ← hq]; exact specSetUp_any _ p n k w h nb
        go_wp2_with fail
        refine (HI.out _ HP.out).mono ?_
        rintro e w1 ⟨r1, rfl, o1, b⟩
        obtain ⟨A1, c1, rfl, -, -, -⟩ := o1.strs.open_
        replace b := bel_trans b (bel_alloc w1 (.cells #[.slice A1 E.length c1] 48))
        have S1 := Lib.hid (o1.strs.bel (bel_alloc w1 (.cells #[.slice A1 E.length c1] 48)))
        have K1 := Lib.hid (Blk.new' w1 48 (.slice A1 E.length c1) _ rfl)
        replace HB := Lib.hid (bel_trans HB.out b)
        replace HP := Lib.hid (HP.out.bel b)
        clear b o1
        go_wp2_with fail
        generalize hW : (w1.alloc (.cells #[.slice A1 E.length c1] 48)) = W1 at S1 K1 HB HP ⊢
        clear hW
        refine (HJ.out _ HP.out).mono ?_
        rintro e w2 ⟨r2, rfl, o2, b⟩
        obtain ⟨A2, c2, rfl, -, -, -⟩ := o2.strs.open_
        replace b := bel_trans b (bel_alloc w2 (.cells #[.slice A2 E.length c2] 48))
        have S2 := Lib.hid (o2.strs.bel (bel_alloc w2 (.cells #[.slice A2 E.length c2] 48)))
        have K2 := Lib.hid (Blk.new' w2 48 (.slice A2 E.length c2) _ rfl)
        replace HB := Lib.hid (bel_trans HB.out b)
        replace HP := Lib.hid (HP.out.bel b)
        replace S1 := Lib.hid (S1.out.bel b)
        replace K1 := Lib.hid (K1.out.below b K1.out.lt)
        clear b o2
        obtain ⟨k1, -⟩ := K1.out.one
        obtain ⟨k2, -⟩ := K2.out.one
        go_wp2_with fail
        clear k1 k2
        generalize hW : (w2.alloc (.cells #[.slice A2 E.length c2] 48)) = W2 at S1 S2 K1 K2 HB HP ⊢
        clear hW
        refine (deSame_any _ _ E E _ S1.out S2.out).mono ?_
        rw [eqS_self]
        rintro e w3 ⟨rfl, b⟩
        replace HB := Lib.hid (bel_trans HB.out b)
        replace HP := Lib.hid (HP.out.bel b)
        replace S1 := Lib.hid (S1.out.bel b)
        replace S2 := Lib.hid (S2.out.bel b)
        replace K1 := Lib.hid (K1.out.below b K1.out.lt)
        replace K2 := Lib.hid (K2.out.below b K2.out.lt)
        clear b
        obtain ⟨k1, -⟩ := K1.out.one
        obtain ⟨k2, -⟩ := K2.out.one
        go_wp2_with fail
        clear k2 HI HJ S2 K2
        refine (HDT.out _ _ S1.out).mono ?_
        rintro e w4 ⟨r4, rfl, o4, b⟩
        replace HB := Lib.hid (bel_trans HB.out b)
        replace HP := Lib.hid (HP.out.bel b)
        replace S1 := Lib.hid (S1.out.bel b)
        replace K1 := Lib.hid (K1.out.below b K1.out.lt)
        clear b k1
        have X4 := Lib.hid o4.strs
        clear o4
        go_wp2_with fail
        refine (HRE.out _ _ X4.out).mono ?_
        rintro e w5 ⟨r5, rfl, o5, b⟩
        replace HB := Lib.hid (bel_trans HB.out b)
        replace HP := Lib.hid (HP.out.bel b)
        replace S1 := Lib.hid (S1.out.bel b)
        replace K1 := Lib.hid (K1.out.below b K1.out.lt)
        clear b
        obtain ⟨A5, c5, rfl, -, -, -⟩ := o5.ints.open_
        have R5 := Lib.hid o5.ints
        clear o5 X4
        go_wp2_with fail
        refine (HFP.out _ HP.out (HG.out.bel HB.out).1.1).mono ?_
        rintro e w6 ⟨rfl, b⟩
        replace HB := Lib.hid (bel_trans HB.out b)
        replace S1 := Lib.hid (S1.out.bel b)
        replace K1 := Lib.hid (K1.out.below b K1.out.lt)
        replace R5 := Lib.hid (R5.out.bel b)
        clear b HP
        go_wp2_with fail
        refine (HNN.out _ (HG.out.bel HB.out).1.1).mono ?_
        rintro e w7 ⟨rfl, b⟩
        replace HB := Lib.hid (bel_trans HB.out b)
        replace S1 := Lib.hid (S1.out.bel b)
        replace K1 := Lib.hid (K1.out.below b K1.out.lt)
        replace R5 := Lib.hid (R5.out.bel b)
        clear b
        go_wp2_with fail
        refine (HNW.out _ (HG.out.bel HB.out).1.1).mono ?_
        rintro e w8 ⟨rfl, b⟩
        replace HB := Lib.hid (bel_trans HB.out b)
        replace S1 := Lib.hid (S1.out.bel b)
        replace K1 := Lib.hid (K1.out.below b K1.out.lt)
        replace R5 := Lib.hid (R5.out.bel b)
        clear b
        go_wp2_with fail
        refine (HNK.out _ (HG.out.bel HB.out).1.1).mono ?_
        rintro e w9 ⟨rfl, b⟩
        replace HB := Lib.hid (bel_trans HB.out b)
        replace S1 := Lib.hid (S1.out.bel b)
        replace K1 := Lib.hid (K1.out.below b K1.out.lt)
        replace R5 := Lib.hid (R5.out.bel b)
        clear b
        have HB9 := HB
        have S9 := S1
        have K9 := K1
        have R9 := R5
        clear HB S1 K1 R5
        obtain ⟨k1, -⟩ := K9.out.one
        have tok1 : True := trivial
        have tok2 : True := trivial
        have tok3 : True := trivial
        have tok4 : True := trivial
        have tok5 : True := trivial
        have tok6 : True := trivial
        have tok7 : True := trivial
        have tok8 : True := trivial
        go_wp2_with fail
        go_region_held3 (fun w' => w'.cell? ⟨w1.heap.size, 0, none⟩ = some (.slice A1 E.length c1)) (first | exact K9.out.one.1 | exact K10.out.one.1 | exact K11.out.one.1 | exact K12.out.one.1 | exact K13.out.one.1 | exact K14.out.one.1 | exact K15.out.one.1 | exact K16.out.one.1 | exact K17.out.one.1 | go_keep) (first
          | ((try go_simp); go_at_call 29; have _t := tok1; go_loud (refine (HFE.out _ _ (by first | exact S9.out | exact S9.out.bel (bel_drew _))).mono ?_; rintro e w10 ⟨rfl, b⟩; replace b : Below w9.heap.size w9 w10 := (by first | exact b | exact bel_trans (bel_drew _) b); have K10 := Lib.hid (K9.out.below b K9.out.lt); have HB10 := Lib.hid (bel_trans HB9.out b); have S10 := Lib.hid (S9.out.bel b); have R10 := Lib.hid (R9.out.bel b); clear tok1 b; (try dsimp only)))
          | ((try go_simp); go_at_call 28; have _t := tok2; go_loud (refine (HDT.out _ _ S10.out).mono ?_; rintro e w11 ⟨r11, rfl, o11, b⟩; have K11 := Lib.hid (K10.out.below b K10.out.lt); have HB11 := Lib.hid (bel_trans HB10.out b); have S11 := Lib.hid (S10.out.bel b); have R11 := Lib.hid (R10.out.bel b); have X11 := Lib.hid o11.strs; clear o11; clear tok2 b; (try dsimp only)))
          | ((try go_simp); go_at_call 29; have _t := tok3; go_loud (refine (HFF.out _ _ X11.out).mono ?_; rintro e w12 ⟨rfl, b⟩; have K12 := Lib.hid (K11.out.below b K11.out.lt); have HB12 := Lib.hid (bel_trans HB11.out b); have S12 := Lib.hid (S11.out.bel b); have R12 := Lib.hid (R11.out.bel b); clear tok3 b; (try dsimp only)))
          | ((try go_simp); go_at_call 28; have _t := tok4; go_loud (refine (HDT.out _ _ S12.out).mono ?_; rintro e w13 ⟨r13, rfl, o13, b⟩; have K13 := Lib.hid (K12.out.below b K12.out.lt); have HB13 := Lib.hid (bel_trans HB12.out b); have S13 := Lib.hid (S12.out.bel b); have R13 := Lib.hid (R12.out.bel b); have X13 := Lib.hid o13.strs; clear o13; clear tok4 b; (try dsimp only)))
          | ((try go_simp); go_at_call 30; have _t := tok5; go_loud (refine (HSK.out _ _ X13.out).mono ?_; rintro e w14 ⟨r14, rfl, o14, b⟩; have K14 := Lib.hid (K13.out.below b K13.out.lt); have HB14 := Lib.hid (bel_trans HB13.out b); have S14 := Lib.hid (S13.out.bel b); have R14 := Lib.hid (R13.out.bel b); have X14 := Lib.hid o14.strs; clear o14; clear tok5 b; (try dsimp only)))
          | ((try go_simp); go_at_call 29; have _t := tok6; go_loud (refine (HFG.out _ _ X14.out).mono ?_; rintro e w15 ⟨rfl, b⟩; have K15 := Lib.hid (K14.out.below b K14.out.lt); have HB15 := Lib.hid (bel_trans HB14.out b); have S15 := Lib.hid (S14.out.bel b); have R15 := Lib.hid (R14.out.bel b); clear tok6 b; (try dsimp only)))
          | ((try go_simp); go_at_call 28; have _t := tok7; go_loud (refine (HDT.out _ _ S15.out).mono ?_; rintro e w16 ⟨r16, rfl, o16, b⟩; have K16 := Lib.hid (K15.out.below b K15.out.lt); have HB16 := Lib.hid (bel_trans HB15.out b); have S16 := Lib.hid (S15.out.bel b); have R16 := Lib.hid (R15.out.bel b); have X16 := Lib.hid o16.strs; clear o16; clear tok7 b; (try dsimp only)))
          | ((try go_simp); go_at_call 29; have _t := tok8; go_loud (refine (HFF.out _ _ X16.out).mono ?_; rintro e w17 ⟨rfl, b⟩; have K17 := Lib.hid (K16.out.below b K16.out.lt); have HB17 := Lib.hid (bel_trans HB16.out b); have S17 := Lib.hid (S16.out.bel b); have R17 := Lib.hid (R16.out.bel b); clear tok8 b; (try dsimp only)))
          | fail)
        clear k1
        cases htab : tableOk L5
        · go_wp2_with fail
          refine (implTable_any _ L5 _ R17.out).mono ?_
          rw [htab]
          rintro e w18 ⟨rfl, rfl⟩
          go_wp2_with fail
          refine (HRS.out _ (HG.out.bel HB17.out)).mono ?_
          rintro e w19 ⟨rfl, b⟩
          have HB19 := Lib.hid (bel_trans HB17.out b)
          clear b
          go_wp2
          go_ret
          exact ⟨rfl, HB19.out⟩
        · have t60 := (tableOk_true htab).2.1
          have v1 := numsS_size (table_wf htab)
          have v2 := remL_size L5 t60
          have f5 := table_five htab
          have f6 := rem_five L5
          have HR2 : Hid (∀ w, GlbC w → Calls Tryz.prog 14 #[.string (⟨#[112, 111, 108, 121, 32]⟩ ++ P ++ ⟨#[10, 115, 101, 116, 117, 112, 32]⟩ ++ iN ++ ⟨#[32]⟩ ++ iW ++ ⟨#[10, 116, 117, 114, 110, 115, 32]⟩ ++ iK ++ ⟨#[10, 115, 107, 101, 119, 10, 117, 110, 115, 107, 101, 119, 10]⟩ ++ ⟨#[114, 117, 110, 32, 55, 10, 110, 105, 110, 101, 115, 10]⟩)] w fun e w' => e = .returned (.string (⟨#[111, 107, 10]⟩ ++ A ++ ⟨#[10]⟩ ++ B ++ ⟨#[10]⟩ ++ C ++ ⟨#[10]⟩ ++ B ++ ⟨#[10]⟩ ++ (numsS L5 ++ nlS ++ (numsS (remL L5 9) ++ nlS)))) ∧ Below w.heap.size w w') := Lib.hid (fun w hg => HRT.out htab w hg)
          go_wp2_with fail
          refine (implTable_any _ L5 _ R17.out).mono ?_
          rw [htab]
          rintro e w18 ⟨rfl, rfl⟩
          obtain ⟨V, hV⟩ : ∃ x, numsS L5 = x := ⟨_, rfl⟩
          obtain ⟨L6, hL6⟩ : ∃ x, remL L5 9 = x := ⟨_, rfl⟩
          rw [hL6] at f6 v2
          obtain ⟨N, hN⟩ : ∃ x, numsS L6 = x := ⟨_, rfl⟩
          rw [hV] at v1
          rw [hN] at v2
          replace HR2 : Hid (∀ w, GlbC w → Calls Tryz.prog 14 #[.string (⟨#[112, 111, 108, 121, 32]⟩ ++ P ++ ⟨#[10, 115, 101, 116, 117, 112, 32]⟩ ++ iN ++ ⟨#[32]⟩ ++ iW ++ ⟨#[10, 116, 117, 114, 110, 115, 32]⟩ ++ iK ++ ⟨#[10, 115, 107, 101, 119, 10, 117, 110, 115, 107, 101, 119, 10]⟩ ++ ⟨#[114, 117, 110, 32, 55, 10, 110, 105, 110, 101, 115, 10]⟩)] w fun e w' => e = .returned (.string (⟨#[111, 107, 10]⟩ ++ A ++ ⟨#[10]⟩ ++ B ++ ⟨#[10]⟩ ++ C ++ ⟨#[10]⟩ ++ B ++ ⟨#[10]⟩ ++ V ++ ⟨#[10]⟩ ++ N ++ ⟨#[10]⟩)) ∧ Below w.heap.size w w') := Lib.hid (fun w hg => by
            have h := HR2.out w hg
            rw [hV, hL6, hN] at h
            have e : ⟨#[111, 107, 10]⟩ ++ A ++ ⟨#[10]⟩ ++ B ++ ⟨#[10]⟩ ++ C ++ ⟨#[10]⟩ ++ B ++ ⟨#[10]⟩ ++ (V ++ nlS ++ (N ++ nlS)) = ⟨#[111, 107, 10]⟩ ++ A ++ ⟨#[10]⟩ ++ B ++ ⟨#[10]⟩ ++ C ++ ⟨#[10]⟩ ++ B ++ ⟨#[10]⟩ ++ V ++ ⟨#[10]⟩ ++ N ++ ⟨#[10]⟩ := by apply ba_eq; simp [nlS]
            rw [e] at h
            exact h)
          have HDV : Hid (∀ w r, Ints w r L5 → Tab w → Calls Tryz.prog 16 #[r] w fun e w' => e = .returned (.string V) ∧ Below w.heap.size w w') := Lib.hid (fun w r h ht => by
            rw [← hV]
            exact deNums_any _ L5 w h (by omega) f5 ht)
          have HDN : Hid (∀ w r, Ints w r L6 → Tab w → Calls Tryz.prog 16 #[r] w fun e w' => e = .returned (.string N) ∧ Below w.heap.size w w') := Lib.hid (fun w r h ht => by
            rw [← hN]
            exact deNums_any _ L6 w h (by omega) f6 ht)
          have HNI : Hid (∀ w r, Ints w r L5 → Calls Tryz.prog 32 #[r] w fun e w' => ∃ q, e = .returned q ∧ Own w' w.heap.size q L6 ∧ Below w.heap.size w w') := Lib.hid (fun w r h => by
            rw [← hL6]
            exact nines_any _ L5 w h)
          obtain ⟨z1, z2, z3⟩ := HZZ.out
          obtain ⟨Zq0, Zq1, Zq2, Zq3, Zq4, Zq5, Zq6, Zq7, Zq8, Zq9, Zq10, Zq11⟩ := sizeQZ (show A.size ≤ 91 by omega) (show B.size ≤ 91 by omega) (show C.size ≤ 91 by omega) (show V.size ≤ 1320 by omega) (show N.size ≤ 1320 by omega)
          obtain ⟨Zr0, Zr1, Zr2, Zr3, Zr4, Zr5, Zr6, Zr7, Zr8, Zr9, Zr10⟩ := sizeRZ A B C V N
          clear hV hL6 hN f5 f6 htab
          go_wp2_with fail
          refine (HR2.out _ (HG.out.bel HB17.out)).mono ?_
          rintro e w19 ⟨rfl, b⟩
          have HB19 := Lib.hid (bel_trans HB17.out b)
          have R19 := Lib.hid (R17.out.bel b)
          clear b
          go_wp2_with fail
          refine (HDV.out _ _ R19.out (HG.out.bel HB19.out).1.1).mono ?_
          rintro e w20 ⟨rfl, b⟩
          have HB20 := Lib.hid (bel_trans HB19.out b)
          have R20 := Lib.hid (R19.out.bel b)
          clear b
          go_wp2_with fail
          refine (HNI.out _ _ R20.out).mono ?_
          rintro e w21 ⟨q, rfl, o21, b⟩
          have HB21 := Lib.hid (bel_trans HB20.out b)
          have R21 := Lib.hid o21.ints
          clear b o21
          go_wp2_with fail
          refine (HDN.out _ _ R21.out (HG.out.bel HB21.out).1.1).mono ?_
          rintro e w22 ⟨rfl, b⟩
          have HB22 := Lib.hid (bel_trans HB21.out b)
          clear b
          go_wp2
          go_ret
          exact ⟨rfl, HB22.out⟩
end Go.Proofs.YtpniljcnknknoaaGreatDoor

/-
  The table of commands, out of a row's list of laid variables.
-/
namespace Go.Proofs.YtpniljcnknknoaaGreatDoor
open Go.RowKit Go.ChangeShapes Go.WideShapes
set_option linter.unusedVariables false
set_option linter.unusedSimpArgs false
set_option maxRecDepth 100000

def cmdData : List (DataW Unit) := (List.range 12).map fun k => .agg [.lit (.string (sat cmdW k).data.toList), .lit (.int .i64 (at_ cmdN k))]
theorem gCmd : Tryz.prog.globalNamed "loop.example/differenceengine/impl.commands" = some 0 := by kernel_rfl
theorem gCmdType : (Tryz.prog.globals[0]?).map (·.type) = some 143 := by kernel_rfl
theorem cmd_of_head {W : World} {rest : List (String × DataW Unit)} (h : laidMet Tryz.prog (("loop.example/differenceengine/impl.commands", .slice cmdData []) :: rest) W) : Cmd W := by
  obtain ⟨ps, ⟨g, t, cs, fuel, p, q, hg, ht, hvar, hd, _, _⟩, _⟩ := h
  obtain rfl := Option.some.inj (gCmd.symm.trans hg)
  obtain rfl := Option.some.inj (gCmdType.symm.trans ht)
  rcases Deep.open_slice_pairs Tryz.underlying143 Tryz.underlying145 (by kernel_rfl) rfl rfl (by kernel_rfl) (by kernel_rfl) hd with ⟨hcs, hx⟩ | ⟨a, len, cap, m, n, V0, V1, D0, D1, P0, P1, hcs, hb, hl, hm, hmm, hx, hall⟩
  · simp at hx
  · simp only [Prod.mk.injEq, DataW.slice.injEq] at hx
    obtain ⟨⟨hx, -⟩, -⟩ := hx
    have hlen := congrArg List.length hx
    simp [cmdData] at hlen
    subst hlen
    have hmc : m = cap := by rw [hmm]; rfl
    have hc0 : W.cell? ⟨0, 0, none⟩ = some (.slice (some a) 12 cap) := by
      have h1 := World.var?_cell hg hvar 0
      rw [h1, ← Array.getElem?_toList, hcs]
      rfl
    have hD : ∀ k, k < 12 → D0 k = .lit (.string (sat cmdW k).data.toList) ∧ D1 k = .lit (.int .i64 (at_ cmdN k)) := by
      intro k hk
      have h1 := congrArg (fun l => l[k]?) hx
      simp [cmdData, hk] at h1
      exact ⟨h1.1.symm, h1.2.symm⟩
    have h00 := (hall 0 (by omega)).1
    obtain ⟨b, off, spot⟩ := a
    have hspot : spot = Option.none := by simpa [Addr.add] using World.cell?_spot h00
    subst hspot
    refine ⟨b, off, cap, hc0, hl, by unfold maxLen at hm; omega, by simpa [Addr.add] using World.block_lt_of_cell? W _ h00, fun k hk => ?_⟩
    obtain ⟨c0, c1, t0, t1⟩ := hall k (by omega)
    obtain ⟨s, e0, e1, -⟩ := DataW.trod_string Tryz.underlying9 t0
    obtain ⟨z, f0, f1, -⟩ := DataW.trod_int Tryz.underlying3 t1
    have hs : s = sat cmdW k := by
      have h1 := congrArg Prod.fst e1
      rw [(hD k hk).1] at h1
      simp at h1
      exact (ByteArray.ext (Array.toList_inj.1 (by simpa using h1))).symm
    have hz : z = at_ cmdN k := by
      have h1 := congrArg Prod.fst f1
      rw [(hD k hk).2] at h1
      simp at h1
      exact h1.symm
    have a0 : (⟨b, off, Option.none⟩ : Addr).add (k * 2) = ⟨b, off + k * 2, Option.none⟩ := by unfold Addr.add; split <;> simp_all
    have a1 : (⟨b, off, Option.none⟩ : Addr).add (k * 2 + 1) = ⟨b, off + k * 2 + 1, Option.none⟩ := by unfold Addr.add; split <;> simp_all [Nat.add_assoc]
    rw [a0] at c0
    rw [a1] at c1
    have v0 : V0 k = .string s := by simpa using e0
    have v1 : V1 k = .int .i64 z := by simpa using f0
    exact ⟨by rw [c0, v0, hs], by rw [c1, v1, hz]⟩
end Go.Proofs.YtpniljcnknknoaaGreatDoor
