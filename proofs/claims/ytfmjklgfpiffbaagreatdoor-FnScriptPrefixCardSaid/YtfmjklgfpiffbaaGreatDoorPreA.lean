/-
  Parts of the frame of the law FnScriptPrefix: facts on the program and its tables. The law holds: for every input the call returns true and the arguments read as before. No condition: the laid tables are tied to the text.
-/
import Derived.Test.YtfmjklgfpiffbaaGreatDoorRows
import Derived.Test.YtfmjklgfpiffbaaGreatDoorFacts
import Derived.ProofKit
import Derived.OpenShut
import Derived.ShutString
import Derived.ChangeOld
import Derived.Lib.SmallJoins
import Derived.SliceStrings
import Derived.LaidMore
import Derived.Stop.Joined
import Derived.Stop.LaidErr
import Derived.SevenTiedAt
import Derived.Shelf.Vars
import Derived.Lay
import Derived.Handed
import Derived.Test.YtfmjklgfpiffbaaGreatDoorCards
import Derived.Test.YtfmjklgfpiffbaaGreatDoorTie
import Derived.Test.YtfmjklgfpiffbaaGreatDoorR32
import Derived.ChangeVars
import Derived.WalkSmall
namespace Go.Proofs.YtfmjklgfpiffbaaGreatDoor.fnScriptPrefix
open Go.ChangeShapes Go.WideShapes Go.ChangeAt Go.RowKit
open Go.ChangeMaps (open_string shut_string)
set_option linter.unusedVariables false

theorem own : ownKnob Tryz.prog.godebug = none := by kernel_rfl
theorem laidOut : laidOutB Tryz.prog = true := by kernel_rfl

def laidL : List (String × DataW Unit) := [("math/bits.deBruijn32tab", Rows.laid_math_bits_deBruijn32tab), ("math/bits.deBruijn64tab", Rows.laid_math_bits_deBruijn64tab), ("internal/strconv.uint64pow10", Rows.laid_internal_strconv_uint64pow10), ("unicode/utf8.acceptRanges", Rows.laid_unicode_utf8_acceptRanges), ("strconv.ErrRange", Rows.laid_strconv_ErrRange), ("strconv.ErrSyntax", Rows.laid_strconv_ErrSyntax), ("loop.example/differenceengine/impl.commands", Rows.laid_loop_example_differenceengine_impl_commands), ("unicode/utf8.first", Rows.laid_unicode_utf8_first)]
set_option maxRecDepth 100000 in
theorem door_met (os : Os) (args : Array Value) : laidMetH Tryz.prog laidL ((World.laidAll Tryz.prog os laidL).forCall (fun _ _ => 0) ⟨#[], args, []⟩).memory := by
  rw [MakeChecks.laidMetH_plain _ _ _ (by kernel_rfl)]
  exact laidMet_laidAll _ (by kernel_rfl) (by kernel_rfl)
theorem tab_of {W : World} (h : laidMetH Tryz.prog laidL W) : Tab W := by
  rw [MakeChecks.laidMetH_plain _ _ _ (by kernel_rfl)] at h
  have h2 : laidMet Tryz.prog (("internal/strconv.uint64pow10", Lib.tabData .u64 Lib.pow10Tab) :: laidL.drop 3) W := h.tail.tail
  exact Lib.tabIs_of_head (n := 20) (g := 4) (t := 214) (e := 200) (by kernel_rfl) (by kernel_rfl) (by kernel_rfl) (by kernel_rfl) (by kernel_rfl) (by kernel_rfl) h2
theorem star : "*" ++ "errors.errorString" = "*errors.errorString" := by decide
theorem rowP (u : TypeId) (h : Tryz.prog.typeName? 3 u = some "*errors.errorString") : u = 230 :=
  typeName_ptr_named (nm := "errors.errorString") (by rw [star]; kernel_rfl) (by kernel_rfl) (by decide) u (by rw [star]; exact h)
theorem glb_of {W : World} (h0 : laidMetH Tryz.prog laidL W) (hs : W.ShapedOpen Tryz.prog) : Glb W := by
  refine ⟨tab_of h0, Go.Proofs.cell_of_shapedOpen_int (zero := #[.int .i64 0]) (t := 3) hs (of_decide_eq_true (by kernel_rfl)) (by kernel_rfl) rfl (by kernel_rfl) (by kernel_rfl) Tryz.underlying3, ?_⟩
  have h := h0
  rw [MakeChecks.laidMetH_plain _ _ _ (by kernel_rfl)] at h
  have h2 : laidMet Tryz.prog (("strconv.ErrSyntax", .iface "*errors.errorString" (.ptr (.agg [.lit (.string [105, 110, 118, 97, 108, 105, 100, 32, 115, 121, 110, 116, 97, 120])]))) :: laidL.drop 6) W := h.tail.tail.tail.tail.tail
  have gO : Tryz.prog.globalNamed "strconv.ErrSyntax" = some 5 := by kernel_rfl
  obtain ⟨a1, s1, hv1, -, -, -⟩ := laid_sentinel h2 gO (ti := 48) (by kernel_rfl) Tryz.underlying48 (tp := 230) (rowP) (te := 232) Tryz.underlying230 Tryz.underlying232 rfl rfl (ts := 9) Tryz.underlying9 (by kernel_rfl) (by kernel_rfl)
  exact ⟨_, _, by simpa using World.var?_cell gO hv1 0⟩
theorem cmd_of {W : World} (h0 : laidMetH Tryz.prog laidL W) : Cmd W := by
  have h := h0
  rw [MakeChecks.laidMetH_plain _ _ _ (by kernel_rfl)] at h
  have h2 : laidMet Tryz.prog (("loop.example/differenceengine/impl.commands", .slice cmdData []) :: laidL.drop 7) W := h.tail.tail.tail.tail.tail.tail
  exact cmd_of_head h2
theorem glbc_of {W : World} (h0 : laidMetH Tryz.prog laidL W) (hs : W.ShapedOpen Tryz.prog) : GlbC W := ⟨glb_of h0 hs, cmd_of h0⟩
theorem j0 : (Rows.fnScriptPrefixRow.wf (OpenSpec.ofChange Rows.fnScriptPrefixSpec)) = true := by kernel_rfl
theorem j1 : (laidOutB Tryz.pinned.checked.prog) = true := Facts.g1
theorem j2 : (mapsRowed Tryz.pinned.checked.prog) = true := Facts.g2
theorem j3 : (Tryz.f4.params.all (Tryz.pinned.checked.prog.readableRec ·)) = true := by kernel_rfl
theorem j4 : (namedTie Tryz.pinned.checked.prog Rows.fnScriptPrefixRow.named Rows.fnScriptPrefixSpec.vars) = true := by kernel_rfl
theorem j5 : ((Rows.fnScriptPrefixRow.stops == [])) = true := by kernel_rfl
theorem j6 : ((Tryz.pinned.checked.prog.stops == [])) = true := Facts.g6
theorem j7 : ((Rows.fnScriptPrefixRow.knobs == [])) = true := by kernel_rfl
theorem j8 : ((Tryz.pinned.checked.prog.stopKnobs == [])) = true := Facts.g8
theorem j9 : ((Rows.fnScriptPrefixRow.inPlace == Tryz.pinned.checked.prog.inPlace 4)) = true := by kernel_rfl
theorem j10 : ((Rows.fnScriptPrefixRow.unfollowed == Tryz.pinned.checked.prog.unfollowed 4)) = true := by kernel_rfl
theorem j11 : ((Rows.fnScriptPrefixRow.recurses == Tryz.pinned.checked.prog.recurses 4)) = true := by kernel_rfl
theorem j12 : ((Rows.fnScriptPrefixRow.named == Tryz.pinned.checked.prog.varsNamed 4)) = true := by kernel_rfl
theorem j13 : ((Rows.fnScriptPrefixRow.maps == (Tryz.f4.params.toList ++ Rows.fnScriptPrefixSpec.plain.varTypes Tryz.pinned.checked.prog).any (Tryz.pinned.checked.prog.mapsRec ·))) = true := by kernel_rfl
theorem j14 : ((Rows.fnScriptPrefixRow.ifaces == (Tryz.f4.params.toList ++ Rows.fnScriptPrefixSpec.plain.varTypes Tryz.pinned.checked.prog).any (Tryz.pinned.checked.prog.ifacesRec ·))) = true := by kernel_rfl
theorem j15 : ((Rows.fnScriptPrefixRow.mapsOut == Tryz.pinned.checked.prog.mapsAmong Tryz.f4.resultTypes.toList)) = true := by kernel_rfl
theorem j16 : ((Rows.fnScriptPrefixRow.loops == (Tryz.f4.params.toList ++ Rows.fnScriptPrefixSpec.plain.varTypes Tryz.pinned.checked.prog).any (Tryz.pinned.checked.prog.loopsFrom ·))) = true := by kernel_rfl
theorem j17 : ((Rows.fnScriptPrefixRow.wideKeys == (Tryz.f4.params.toList ++ Rows.fnScriptPrefixSpec.plain.varTypes Tryz.pinned.checked.prog ++ Tryz.f4.resultTypes.toList).any (Tryz.pinned.checked.prog.wideKeysFrom ·))) = true := by kernel_rfl
theorem j18 : (Rows.fnScriptPrefixSpec.vars.all (Tryz.pinned.checked.prog.varReadable ·)) = true := by kernel_rfl
theorem j19 : (Tryz.f4.resultTypes.all (fun t => Tryz.pinned.checked.prog.readableRec t && decide (t < Tryz.pinned.checked.prog.types.size))) = true := by kernel_rfl
theorem j20 : ((Rows.fnScriptPrefixRow.ifacesOut == Tryz.f4.resultTypes.toList.any (Tryz.pinned.checked.prog.ifacesRec ·))) = true := by kernel_rfl
theorem j21 : ((Rows.fnScriptPrefixRow.loopsOut == Tryz.f4.resultTypes.toList.any (Tryz.pinned.checked.prog.loopsFrom ·))) = true := by kernel_rfl
theorem j22 : ((Rows.fnScriptPrefixRow.plainKeys == Tryz.pinned.checked.prog.plainKeys)) = true := Facts.g22
theorem j23 : (Rows.fnScriptPrefixRow.shortTexts.isNone) = true := by kernel_rfl
theorem j24 : (Tryz.pinned.checked.prog.stopsHeard) = true := Facts.g24
theorem j25 : (Tryz.pinned.checked.prog.mayEnter) = true := Facts.g25
theorem j26 : ((Rows.fnScriptPrefixRow.lifted == Tryz.pinned.checked.prog.liftsFinal)) = true := Facts.g26
theorem j27 : ((Tryz.pinned.checked.prog.make == some Rows.fnScriptPrefixRow.make)) = true := Facts.g27
theorem j28 : ((Rows.fnScriptPrefixRow.kinds == (if Rows.fnScriptPrefixRow.domain.isEmpty then [] else Tryz.f4.params.toList.map fun t => match Tryz.pinned.checked.prog.underlying t with | some (.int k) => some k | _ => none))) = true := by kernel_rfl
theorem j29 : ((Rows.fnScriptPrefixRow.pinned == Rows.fnScriptPrefixRow.pinnedBy)) = true := by kernel_rfl
theorem j30 : ((Rows.fnScriptPrefixRow.veiled == (Tryz.f4.params.toList ++ Rows.fnScriptPrefixSpec.plain.varTypes Tryz.pinned.checked.prog ++ Tryz.f4.resultTypes.toList).any (Tryz.pinned.checked.prog.veiledRec ·))) = true := by kernel_rfl
theorem j31 : (Rows.fnScriptPrefixRow.veiledFits Tryz.pinned.checked.prog Tryz.f4.params.toList (Tryz.f4.params.toList ++ Rows.fnScriptPrefixSpec.plain.varTypes Tryz.pinned.checked.prog ++ Tryz.f4.resultTypes.toList)) = true := by kernel_rfl
theorem and_tt {a b : Bool} (h : a = true) (k : b = true) : (a && b) = true := by rw [h, k]; rfl
set_option maxRecDepth 100000 in
theorem closed : joinedFacts Tryz.pinned.checked.prog 4 Tryz.f4 Rows.fnScriptPrefixSpec Rows.fnScriptPrefixRow = true := (and_tt (and_tt (and_tt (and_tt (and_tt (and_tt (and_tt (and_tt (and_tt (and_tt (and_tt (and_tt (and_tt (and_tt (and_tt (and_tt (and_tt (and_tt (and_tt (and_tt (and_tt (and_tt (and_tt (and_tt (and_tt (and_tt (and_tt (and_tt (and_tt (and_tt (and_tt j0 j1) j2) j3) j4) j5) j6) j7) j8) j9) j10) j11) j12) j13) j14) j15) j16) j17) j18) j19) j20) j21) j22) j23) j24) j25) j26) j27) j28) j29) j30) j31)

theorem pw : Rows.fnScriptPrefixRow.wfByText (OpenSpec.ofChange Rows.fnScriptPrefixSpec) = true := by kernel_rfl
theorem pm : Tryz.pinned.checked.prog.mainIs = some ((true : Bool), ("cf6806a6fd17c18edf57ba6c42281eacc413a56d77578544c9d411acb0f4fe9f" : String).toList) := by kernel_rfl
theorem pl : true = Tryz.prog.looks [] := by kernel_rfl
theorem pg : false = Rows.fnScriptPrefixRow.goesBy Tryz.pinned.checked.prog := by kernel_rfl
theorem pf : Tryz.prog.funcNamed "loop.example/differenceengine/laws.FnScriptPrefix" = some 4 := by kernel_rfl
theorem pa : ([24, 24].all fun u => !Tryz.prog.wantsStandIn u) = true := by kernel_rfl
end Go.Proofs.YtfmjklgfpiffbaaGreatDoor.fnScriptPrefix
