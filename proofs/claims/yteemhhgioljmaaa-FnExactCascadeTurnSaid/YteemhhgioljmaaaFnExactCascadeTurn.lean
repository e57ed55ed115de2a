/-
  The law FnExactCascadeTurn holds: for every input the call returns true and the arguments read as before. No condition.
-/
import Derived.Test.YteemhhgioljmaaaRows
import Derived.Test.YteemhhgioljmaaaFacts
import Derived.Test.YteemhhgioljmaaaLawCasc
import Derived.ProofKit
import Derived.OpenShut
import Derived.ShutString
import Derived.ChangeOld
import Derived.Lib.SmallJoins
import Derived.SliceStrings
namespace Go.Proofs.Yteemhhgioljmaaa.fnExactCascadeTurn
open Go.ChangeShapes Go.WideShapes Go.ChangeAt Go.RowKit
open Go.ChangeMaps (open_string shut_string)
set_option linter.unusedVariables false

theorem own : ownKnob Try.prog.godebug = none := by kernel_rfl
theorem laidOut : laidOutB Try.prog = true := by kernel_rfl

set_option maxRecDepth 100000 in
set_option maxHeartbeats 2000000 in
theorem lifted (os : Os) (started : os.Started) (H : Type) (enc : TypeId × Value → H) :
    ReturnsInHanded {} Try.checked os 11 .any (Rows.fnExactCascadeTurnSpec.pre6 enc Try.prog Try.f11 Rows.fnExactCascadeTurnRow.domain false) (Rows.fnExactCascadeTurnSpec.post enc Try.prog Try.f11 false true false false) := by
  refine returnsInHanded_of_change (C := Try.checked) own started (by kernel_rfl) Try.func11
    (ChangeSpec.witness6 (enc := enc) (C := Try.checked) false ⟨#[], #[.agg #[.slice none 0 0], .agg #[.slice none 0 0]], []⟩ 8 (by kernel_rfl) (by kernel_rfl) (by kernel_rfl) (by kernel_rfl)) ?_
  intro W base args ds gs before hval0 hW hcnd _
  have hval : ∀ (j : Nat) t v, Try.f11.params[j]? = some t → args[j]? = some v → Value.okWide Try.prog W .any base t v := hval0
  have hW' := hW
  obtain ⟨p, q, hA0, hV, rfl, hfz, hnd⟩ := hW
  have hA : DataW.TrodAll enc Try.prog W 0 (fun _ => true) true Try.f11.params.toList args.toList ds p := hA0
  rw [Try.params11] at hA hval
  obtain ⟨v0, vs0, d0, ds0, p0, q0, hargs, rfl, rfl, h0, r0⟩ := trodAll_cons hA
  obtain ⟨v1, vs1, d1, ds1, p1, q1, rfl, rfl, rfl, h1, r1⟩ := trodAll_cons r0
  obtain ⟨rfl, rfl, rfl⟩ := trodAll_nil r1
  obtain rfl : args = #[v0, v1] := by cases args; simp_all
  obtain ⟨rfl, rfl⟩ := trodVars_none hV
  have k0 := h0
  have lt0 : ∀ x ∈ p0, x.block < W.heap.size := by obtain ⟨m, hm⟩ := k0; exact DataW.trod_lt m _ _ _ hm
  obtain ⟨b0, rfl, hz0, -⟩ : ∃ cs, v0 = .agg cs ∧ cs.size = Try.prog.cellsOf 72 ∧ Row.okWide Try.prog W .any base 72 cs := by simpa [Value.okWide, Try.underlying72] using hval 0 72 v0 rfl rfl
  obtain ⟨y0, rfl⟩ : ∃ x, b0 = #[x] := Array.size_eq_one_iff.1 (hz0.trans (by kernel_rfl))
  obtain ⟨l0, w0⟩ : ∃ l, Strs W y0 l := by
    obtain ⟨fuel, hf⟩ := h0
    obtain ⟨z0, n0, _, _, hf0⟩ := trod_struct1 Try.underlying72 hf
    have hf1 : DataW.trod _ _ _ _ _ _ n0 27 [y0] = some z0 := hf0
    rcases open_strings Try.underlying27 Try.underlying9 (by kernel_rfl) hf1 with ⟨hcs, _⟩ | ⟨x, l, c, zs, hcs, _, hl, hm, hz, _, hcell, hwz⟩
    · simp at hcs
      subst hcs
      exact ⟨[], Strs.nil_ _⟩
    · simp at hcs
      subst hcs
      exact ⟨_, Strs.of_cells hl hm (by simpa using hz) hcell hwz⟩
  have k1 := h1
  have lt1 : ∀ x ∈ p1, x.block < W.heap.size := by obtain ⟨m, hm⟩ := k1; exact DataW.trod_lt m _ _ _ hm
  obtain ⟨b1, rfl, hz1, -⟩ : ∃ cs, v1 = .agg cs ∧ cs.size = Try.prog.cellsOf 72 ∧ Row.okWide Try.prog W .any base 72 cs := by simpa [Value.okWide, Try.underlying72] using hval 1 72 v1 rfl rfl
  obtain ⟨y1, rfl⟩ : ∃ x, b1 = #[x] := Array.size_eq_one_iff.1 (hz1.trans (by kernel_rfl))
  obtain ⟨l1, w1⟩ : ∃ l, Strs W y1 l := by
    obtain ⟨fuel, hf⟩ := h1
    obtain ⟨z0, n0, _, _, hf0⟩ := trod_struct1 Try.underlying72 hf
    have hf1 : DataW.trod _ _ _ _ _ _ n0 27 [y1] = some z0 := hf0
    rcases open_strings Try.underlying27 Try.underlying9 (by kernel_rfl) hf1 with ⟨hcs, _⟩ | ⟨x, l, c, zs, hcs, _, hl, hm, hz, _, hcell, hwz⟩
    · simp at hcs
      subst hcs
      exact ⟨[], Strs.nil_ _⟩
    · simp at hcs
      subst hcs
      exact ⟨_, Strs.of_cells hl hm (by simpa using hz) hcell hwz⟩
  clear hA0 hval0
  refine (lawCascadeTurn _ l0 _ l1 W w0 w1).mono fun e W' ⟨he, bel⟩ => ?_
  subst he
  exact ⟨_, rfl, _, _, _, [], _, [], hW', trodAll_mk1 (shut_bool Try.underlying4 _), (trodAll_cons_mk (Below.trod laidOut (by kernel_rfl) (of_decide_eq_true (by kernel_rfl)) k0 bel lt0) (trodAll_cons_mk (Below.trod laidOut (by kernel_rfl) (of_decide_eq_true (by kernel_rfl)) k1 bel lt1) trodAll_mk0)), rfl, bel.frame _, fun h => by cases h⟩

theorem j0 : (Rows.fnExactCascadeTurnRow.wf (OpenSpec.ofChange Rows.fnExactCascadeTurnSpec)) = true := by kernel_rfl
theorem j1 : (laidOutB Try.pinned.checked.prog) = true := Facts.g1
theorem j2 : (mapsRowed Try.pinned.checked.prog) = true := Facts.g2
theorem j3 : (Try.f11.params.all (Try.pinned.checked.prog.readableRec ·)) = true := by kernel_rfl
theorem j4 : (namedTie Try.pinned.checked.prog Rows.fnExactCascadeTurnRow.named Rows.fnExactCascadeTurnSpec.vars) = true := by kernel_rfl
theorem j5 : ((Rows.fnExactCascadeTurnRow.stops == [])) = true := by kernel_rfl
theorem j6 : ((Try.pinned.checked.prog.stops == [])) = true := Facts.g6
theorem j7 : ((Rows.fnExactCascadeTurnRow.knobs == [])) = true := by kernel_rfl
theorem j8 : ((Try.pinned.checked.prog.stopKnobs == [])) = true := Facts.g8
theorem j9 : ((Rows.fnExactCascadeTurnRow.inPlace == Try.pinned.checked.prog.inPlace 11)) = true := by kernel_rfl
theorem j10 : ((Rows.fnExactCascadeTurnRow.unfollowed == Try.pinned.checked.prog.unfollowed 11)) = true := by kernel_rfl
theorem j11 : ((Rows.fnExactCascadeTurnRow.recurses == Try.pinned.checked.prog.recurses 11)) = true := by kernel_rfl
theorem j12 : ((Rows.fnExactCascadeTurnRow.named == Try.pinned.checked.prog.varsNamed 11)) = true := by kernel_rfl
theorem j13 : ((Rows.fnExactCascadeTurnRow.maps == (Try.f11.params.toList ++ Rows.fnExactCascadeTurnSpec.plain.varTypes Try.pinned.checked.prog).any (Try.pinned.checked.prog.mapsRec ·))) = true := by kernel_rfl
theorem j14 : ((Rows.fnExactCascadeTurnRow.ifaces == (Try.f11.params.toList ++ Rows.fnExactCascadeTurnSpec.plain.varTypes Try.pinned.checked.prog).any (Try.pinned.checked.prog.ifacesRec ·))) = true := by kernel_rfl
theorem j15 : ((Rows.fnExactCascadeTurnRow.mapsOut == Try.pinned.checked.prog.mapsAmong Try.f11.resultTypes.toList)) = true := by kernel_rfl
theorem j16 : ((Rows.fnExactCascadeTurnRow.loops == (Try.f11.params.toList ++ Rows.fnExactCascadeTurnSpec.plain.varTypes Try.pinned.checked.prog).any (Try.pinned.checked.prog.loopsFrom ·))) = true := by kernel_rfl
theorem j17 : ((Rows.fnExactCascadeTurnRow.wideKeys == (Try.f11.params.toList ++ Rows.fnExactCascadeTurnSpec.plain.varTypes Try.pinned.checked.prog ++ Try.f11.resultTypes.toList).any (Try.pinned.checked.prog.wideKeysFrom ·))) = true := by kernel_rfl
theorem j18 : (Rows.fnExactCascadeTurnSpec.vars.all (Try.pinned.checked.prog.varReadable ·)) = true := by kernel_rfl
theorem j19 : (Try.f11.resultTypes.all (fun t => Try.pinned.checked.prog.readableRec t && decide (t < Try.pinned.checked.prog.types.size))) = true := by kernel_rfl
theorem j20 : ((Rows.fnExactCascadeTurnRow.ifacesOut == Try.f11.resultTypes.toList.any (Try.pinned.checked.prog.ifacesRec ·))) = true := by kernel_rfl
theorem j21 : ((Rows.fnExactCascadeTurnRow.loopsOut == Try.f11.resultTypes.toList.any (Try.pinned.checked.prog.loopsFrom ·))) = true := by kernel_rfl
theorem j22 : ((Rows.fnExactCascadeTurnRow.plainKeys == Try.pinned.checked.prog.plainKeys)) = true := Facts.g22
theorem j23 : (Rows.fnExactCascadeTurnRow.shortTexts.isNone) = true := by kernel_rfl
theorem j24 : (Try.pinned.checked.prog.stopsHeard) = true := Facts.g24
theorem j25 : (Try.pinned.checked.prog.mayEnter) = true := Facts.g25
theorem j26 : ((Rows.fnExactCascadeTurnRow.lifted == Try.pinned.checked.prog.liftsFinal)) = true := Facts.g26
theorem j27 : ((Try.pinned.checked.prog.make == some Rows.fnExactCascadeTurnRow.make)) = true := Facts.g27
theorem j28 : ((Rows.fnExactCascadeTurnRow.kinds == (if Rows.fnExactCascadeTurnRow.domain.isEmpty then [] else Try.f11.params.toList.map fun t => match Try.pinned.checked.prog.underlying t with | some (.int k) => some k | _ => none))) = true := by kernel_rfl
theorem j29 : ((Rows.fnExactCascadeTurnRow.pinned == Rows.fnExactCascadeTurnRow.pinnedBy)) = true := by kernel_rfl
theorem j30 : ((Rows.fnExactCascadeTurnRow.veiled == (Try.f11.params.toList ++ Rows.fnExactCascadeTurnSpec.plain.varTypes Try.pinned.checked.prog ++ Try.f11.resultTypes.toList).any (Try.pinned.checked.prog.veiledRec ·))) = true := by kernel_rfl
theorem j31 : (Rows.fnExactCascadeTurnRow.veiledFits Try.pinned.checked.prog Try.f11.params.toList (Try.f11.params.toList ++ Rows.fnExactCascadeTurnSpec.plain.varTypes Try.pinned.checked.prog ++ Try.f11.resultTypes.toList)) = true := by kernel_rfl
theorem and_tt {a b : Bool} (h : a = true) (k : b = true) : (a && b) = true := by rw [h, k]; rfl
set_option maxRecDepth 100000 in
theorem closed : joinedFacts Try.pinned.checked.prog 11 Try.f11 Rows.fnExactCascadeTurnSpec Rows.fnExactCascadeTurnRow = true := (and_tt (and_tt (and_tt (and_tt (and_tt (and_tt (and_tt (and_tt (and_tt (and_tt (and_tt (and_tt (and_tt (and_tt (and_tt (and_tt (and_tt (and_tt (and_tt (and_tt (and_tt (and_tt (and_tt (and_tt (and_tt (and_tt (and_tt (and_tt (and_tt (and_tt (and_tt j0 j1) j2) j3) j4) j5) j6) j7) j8) j9) j10) j11) j12) j13) j14) j15) j16) j17) j18) j19) j20) j21) j22) j23) j24) j25) j26) j27) j28) j29) j30) j31)

theorem over : Rows.fnExactCascadeTurnRow.holds Try.pinned (OpenSpec.ofChange Rows.fnExactCascadeTurnSpec) :=
  OpenClaim.holds_of_wide 11 Try.f11 rfl rfl rfl rfl rfl rfl rfl ⟨rfl, rfl, rfl, rfl, rfl⟩ rfl rfl rfl rfl rfl (by kernel_rfl) Try.func11 closed
    (of_decide_eq_true (by kernel_rfl)) (by unfold Func.isWrapper; first | (rw [if_pos (by decide +kernel)]; kernel_rfl) | (rw [if_neg (by decide +kernel)]; exact ⟨rfl, rfl⟩))
    (fun os started H enc _ => lifted os started H enc)

theorem proved : Rows.FnExactCascadeTurnSaid := over
#print axioms proved
end Go.Proofs.Yteemhhgioljmaaa.fnExactCascadeTurn
