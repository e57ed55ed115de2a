/-
  The law FnExactRunScript holds: for every input the call returns true and the arguments read as before. No condition: the laid tables are tied to the text.
-/
import Derived.Test.YtfmjklgfpiffbaaGreatDoorRows
import Derived.Test.YtfmjklgfpiffbaaGreatDoorFacts
import Derived.Test.YtfmjklgfpiffbaaGreatDoorQ36
import Derived.ProofKit
import Derived.OpenShut
import Derived.ShutString
import Derived.ChangeOld
import Derived.Lib.SmallJoins
import Derived.SliceStrings
import Derived.LaidMore
import Derived.Stop.Joined
import Derived.Stop.LaidErr
import Derived.SevenTiedAt
import Derived.Shelf.Vars
import Derived.Lay
import Derived.Handed
import Derived.Test.YtfmjklgfpiffbaaGreatDoorCards
import Derived.Test.YtfmjklgfpiffbaaGreatDoorTie
import Derived.Test.YtfmjklgfpiffbaaGreatDoorQ31
import Derived.ChangeVars
import Derived.WalkSmall
namespace Go.Proofs.YtfmjklgfpiffbaaGreatDoor.fnExactRunScript
open Go.ChangeShapes Go.WideShapes Go.ChangeAt Go.RowKit
open Go.ChangeMaps (open_string shut_string)
set_option linter.unusedVariables false

theorem own : ownKnob Tryz.prog.godebug = none := by kernel_rfl
theorem laidOut : laidOutB Tryz.prog = true := by kernel_rfl

def laidL : List (String × DataW Unit) := [("math/bits.deBruijn32tab", Rows.laid_math_bits_deBruijn32tab), ("math/bits.deBruijn64tab", Rows.laid_math_bits_deBruijn64tab), ("internal/strconv.uint64pow10", Rows.laid_internal_strconv_uint64pow10), ("unicode/utf8.acceptRanges", Rows.laid_unicode_utf8_acceptRanges), ("strconv.ErrRange", Rows.laid_strconv_ErrRange), ("strconv.ErrSyntax", Rows.laid_strconv_ErrSyntax), ("loop.example/differenceengine/impl.commands", Rows.laid_loop_example_differenceengine_impl_commands), ("unicode/utf8.first", Rows.laid_unicode_utf8_first)]
set_option maxRecDepth 100000 in
theorem door_met (os : Os) (args : Array Value) : laidMetH Tryz.prog laidL ((World.laidAll Tryz.prog os laidL).forCall (fun _ _ => 0) ⟨#[], args, []⟩).memory := by
  rw [MakeChecks.laidMetH_plain _ _ _ (by kernel_rfl)]
  exact laidMet_laidAll _ (by kernel_rfl) (by kernel_rfl)
theorem tab_of {W : World} (h : laidMetH Tryz.prog laidL W) : Tab W := by
  rw [MakeChecks.laidMetH_plain _ _ _ (by kernel_rfl)] at h
  have h2 : laidMet Tryz.prog (("internal/strconv.uint64pow10", Lib.tabData .u64 Lib.pow10Tab) :: laidL.drop 3) W := h.tail.tail
  exact Lib.tabIs_of_head (n := 20) (g := 4) (t := 214) (e := 200) (by kernel_rfl) (by kernel_rfl) (by kernel_rfl) (by kernel_rfl) (by kernel_rfl) (by kernel_rfl) h2
theorem star : "*" ++ "errors.errorString" = "*errors.errorString" := by decide
theorem rowP (u : TypeId) (h : Tryz.prog.typeName? 3 u = some "*errors.errorString") : u = 230 :=
  typeName_ptr_named (nm := "errors.errorString") (by rw [star]; kernel_rfl) (by kernel_rfl) (by decide) u (by rw [star]; exact h)
theorem glb_of {W : World} (h0 : laidMetH Tryz.prog laidL W) (hs : W.ShapedOpen Tryz.prog) : Glb W := by
  refine ⟨tab_of h0, Go.Proofs.cell_of_shapedOpen_int (zero := #[.int .i64 0]) (t := 3) hs (of_decide_eq_true (by kernel_rfl)) (by kernel_rfl) rfl (by kernel_rfl) (by kernel_rfl) Tryz.underlying3, ?_⟩
  have h := h0
  rw [MakeChecks.laidMetH_plain _ _ _ (by kernel_rfl)] at h
  have h2 : laidMet Tryz.prog (("strconv.ErrSyntax", .iface "*errors.errorString" (.ptr (.agg [.lit (.string [105, 110, 118, 97, 108, 105, 100, 32, 115, 121, 110, 116, 97, 120])]))) :: laidL.drop 6) W := h.tail.tail.tail.tail.tail
  have gO : Tryz.prog.globalNamed "strconv.ErrSyntax" = some 5 := by kernel_rfl
  obtain ⟨a1, s1, hv1, -, -, -⟩ := laid_sentinel h2 gO (ti := 48) (by kernel_rfl) Tryz.underlying48 (tp := 230) (rowP) (te := 232) Tryz.underlying230 Tryz.underlying232 rfl rfl (ts := 9) Tryz.underlying9 (by kernel_rfl) (by kernel_rfl)
  exact ⟨_, _, by simpa using World.var?_cell gO hv1 0⟩
theorem cmd_of {W : World} (h0 : laidMetH Tryz.prog laidL W) : Cmd W := by
  have h := h0
  rw [MakeChecks.laidMetH_plain _ _ _ (by kernel_rfl)] at h
  have h2 : laidMet Tryz.prog (("loop.example/differenceengine/impl.commands", .slice cmdData []) :: laidL.drop 7) W := h.tail.tail.tail.tail.tail.tail
  exact cmd_of_head h2
theorem glbc_of {W : World} (h0 : laidMetH Tryz.prog laidL W) (hs : W.ShapedOpen Tryz.prog) : GlbC W := ⟨glb_of h0 hs, cmd_of h0⟩
set_option maxRecDepth 100000 in
set_option maxHeartbeats 2000000 in
theorem lifted (os : Os) (started : os.Started) (H : Type) (enc : TypeId × Value → H) :
    ReturnsInHanded {} Tryz.checked os 3 .any (fun w args => (Rows.fnExactRunScriptSpec.pre enc Tryz.prog Tryz.f3 [] false w args ∧ laidMetH Tryz.prog laidL w) ∧ sizedMet enc Tryz.prog Tryz.f3 (OpenSpec.ofChange Rows.fnExactRunScriptSpec) false w args) (Rows.fnExactRunScriptSpec.post enc Tryz.prog Tryz.f3 false true false false) := by
  have main : ∀ (W : World) (base : Nat) (args : Array Value) (ds gs : List (DataW H)) (before : List MemPlace), (∀ (j : Nat) t v, Tryz.f3.params[j]? = some t → args[j]? = some v → Value.okWide Tryz.checked.prog W .any base t v) → DataW.Whole enc Tryz.checked.prog Tryz.f3.params.toList Rows.fnExactRunScriptSpec.vars false W args.toList ds gs before → laidMetH Tryz.prog laidL W → W.ShapedOpen Tryz.checked.prog → Calls Tryz.checked.prog 3 args W fun e W' => ∃ v, e = .returned v ∧ Rows.fnExactRunScriptSpec.post enc Tryz.checked.prog Tryz.f3 false true false false W args v W' := by
    intro W base args ds gs before hval0 hW hL hS
    have hval : ∀ (j : Nat) t v, Tryz.f3.params[j]? = some t → args[j]? = some v → Value.okWide Tryz.prog W .any base t v := hval0
    have hW' := hW
    obtain ⟨p, q, hA0, hV0, rfl, hfz, hnd⟩ := hW
    have hV : DataW.TrodVars enc Tryz.prog W (fun _ => true) ["loop.example/differenceengine/impl.commands"] gs q := hV0
    have hA : DataW.TrodAll enc Tryz.prog W 0 (fun _ => true) true Tryz.f3.params.toList args.toList ds p := hA0
    rw [Tryz.params3] at hA hval
    obtain ⟨v0, vs0, d0, ds0, p0, q0, hargs, rfl, rfl, h0, r0⟩ := trodAll_cons hA
    obtain ⟨rfl, rfl, rfl⟩ := trodAll_nil r0
    obtain rfl : args = #[v0] := by cases args; simp_all
    obtain ⟨gv, tv, csv, fuelv, dv, pv, rfl, hgv, htv, hvar, hdv, rfl⟩ := trodVars_one hV
    obtain rfl := Option.some.inj (gCmd.symm.trans hgv)
    obtain rfl := Option.some.inj (gCmdType.symm.trans htv)
    have hltv : ∀ x ∈ pv, x.block < W.heap.size := fun x hx => hW'.lt x (List.mem_append_right _ (List.mem_append_right _ hx))
    obtain ⟨vv, hcsv⟩ : ∃ vv, csv.toList = [vv] := by
      rcases Deep.open_slice Tryz.underlying86 hdv with ⟨h9, _⟩ | ⟨_, _, _, _, _, _, _, h9, _⟩ <;> exact ⟨_, h9⟩
    have hlgv : 0 < W.heap.size := hW'.lt (.cell 0 0) (List.mem_append_right _ (List.mem_append_left _ (MemPlace.mem_row.2 ⟨0, by rw [show csv.size = 1 by rw [← Array.length_toList, hcsv]; rfl]; omega, rfl⟩)))
    have hvc : vv.cells = #[vv] := by
      have h8 := hdv
      rw [hcsv] at h8
      rcases Deep.open_slice Tryz.underlying86 h8 with ⟨h9, _⟩ | ⟨_, _, _, _, _, _, _, h9, _⟩ <;> (injection h9 with h9; rw [h9]; rfl)
    have htr : DataW.Trod enc Tryz.prog W 0 (fun _ => true) true 86 vv dv pv := ⟨fuelv, by rw [hvc]; rw [hcsv] at hdv; exact hdv⟩
    have hvv : vv.cells.toList = csv.toList := by rw [hvc, hcsv]
    obtain ⟨s0, rfl, rfl, rfl, w0⟩ := open_string Tryz.underlying9 (hval 0 9 v0 rfl rfl) h0
    have hT := glbc_of hL hS
    clear hA0 hval0 hL hS hV0 hV
    refine (lawRunScript s0 W w0 hT).mono fun e W' ⟨he, bel⟩ => ?_
    subst he
    obtain ⟨fuelw, hdw⟩ := Below.trod laidOut (by kernel_rfl) (of_decide_eq_true (by kernel_rfl)) htr bel hltv
    rw [hvv] at hdw
    have hv2 := trodVars_mk1 (enc := enc) (spare := fun b => decide (b < W.heap.size)) hgv htv (var?_below bel hgv hlgv hvar) hdw
    exact ⟨_, rfl, _, _, _, [], _, _, hW', trodAll_mk1 (shut_bool Tryz.underlying4 _), (trodAll_cons_mk (shut_string Tryz.underlying9 w0) trodAll_mk0), hv2, bel.frame _, fun h => by cases h⟩

  refine returnsInHanded_of_calls own started (by kernel_rfl)
    (ChangeSpec.witness_shaped (enc := enc) (C := Tryz.checked) (os := os) (X := fun w _ => laidMetH Tryz.prog laidL w) false (World.laidAll Tryz.prog os laidL) #[.string ⟨#[]⟩] 8 (World.laidAll_os _ _ _) (World.shaped_of_ZipB (by kernel_rfl) (by kernel_rfl)) (by kernel_rfl) (by kernel_rfl) (by kernel_rfl) (door_met os _)) ?_
  intro w tape i _ hsh _ hok hpre _
  obtain ⟨_, _, _, fn0, hfn0, _, _, _, _, hval⟩ := hok
  obtain rfl : fn0 = Tryz.f3 := Option.some.inj (hfn0.symm.trans Tryz.func3)
  obtain ⟨⟨⟨ds, gs, before, hw, _⟩, hL⟩, _⟩ := hpre
  refine (main (w.forCall tape i) w.heap.size i.args ds gs before hval (hw.of_heap (by rfl)) (hL.of_heap (by rfl)) hsh).mono fun e W' ⟨v, he, hp⟩ => ?_
  subst he
  exact ChangeSpec.post_blind hp

theorem j0 : (Rows.fnExactRunScriptRow.wf (OpenSpec.ofChange Rows.fnExactRunScriptSpec)) = true := by kernel_rfl
theorem j1 : (laidOutB Tryz.pinned.checked.prog) = true := Facts.g1
theorem j2 : (mapsRowed Tryz.pinned.checked.prog) = true := Facts.g2
theorem j3 : (Tryz.f3.params.all (Tryz.pinned.checked.prog.readableRec ·)) = true := by kernel_rfl
theorem j4 : (namedTie Tryz.pinned.checked.prog Rows.fnExactRunScriptRow.named Rows.fnExactRunScriptSpec.vars) = true := by kernel_rfl
theorem j5 : ((Rows.fnExactRunScriptRow.stops == [])) = true := by kernel_rfl
theorem j6 : ((Tryz.pinned.checked.prog.stops == [])) = true := Facts.g6
theorem j7 : ((Rows.fnExactRunScriptRow.knobs == [])) = true := by kernel_rfl
theorem j8 : ((Tryz.pinned.checked.prog.stopKnobs == [])) = true := Facts.g8
theorem j9 : ((Rows.fnExactRunScriptRow.inPlace == Tryz.pinned.checked.prog.inPlace 3)) = true := by kernel_rfl
theorem j10 : ((Rows.fnExactRunScriptRow.unfollowed == Tryz.pinned.checked.prog.unfollowed 3)) = true := by kernel_rfl
theorem j11 : ((Rows.fnExactRunScriptRow.recurses == Tryz.pinned.checked.prog.recurses 3)) = true := by kernel_rfl
theorem j12 : ((Rows.fnExactRunScriptRow.named == Tryz.pinned.checked.prog.varsNamed 3)) = true := by kernel_rfl
theorem j13 : ((Rows.fnExactRunScriptRow.maps == (Tryz.f3.params.toList ++ Rows.fnExactRunScriptSpec.plain.varTypes Tryz.pinned.checked.prog).any (Tryz.pinned.checked.prog.mapsRec ·))) = true := by kernel_rfl
theorem j14 : ((Rows.fnExactRunScriptRow.ifaces == (Tryz.f3.params.toList ++ Rows.fnExactRunScriptSpec.plain.varTypes Tryz.pinned.checked.prog).any (Tryz.pinned.checked.prog.ifacesRec ·))) = true := by kernel_rfl
theorem j15 : ((Rows.fnExactRunScriptRow.mapsOut == Tryz.pinned.checked.prog.mapsAmong Tryz.f3.resultTypes.toList)) = true := by kernel_rfl
theorem j16 : ((Rows.fnExactRunScriptRow.loops == (Tryz.f3.params.toList ++ Rows.fnExactRunScriptSpec.plain.varTypes Tryz.pinned.checked.prog).any (Tryz.pinned.checked.prog.loopsFrom ·))) = true := by kernel_rfl
theorem j17 : ((Rows.fnExactRunScriptRow.wideKeys == (Tryz.f3.params.toList ++ Rows.fnExactRunScriptSpec.plain.varTypes Tryz.pinned.checked.prog ++ Tryz.f3.resultTypes.toList).any (Tryz.pinned.checked.prog.wideKeysFrom ·))) = true := by kernel_rfl
theorem j18 : (Rows.fnExactRunScriptSpec.vars.all (Tryz.pinned.checked.prog.varReadable ·)) = true := by kernel_rfl
theorem j19 : (Tryz.f3.resultTypes.all (fun t => Tryz.pinned.checked.prog.readableRec t && decide (t < Tryz.pinned.checked.prog.types.size))) = true := by kernel_rfl
theorem j20 : ((Rows.fnExactRunScriptRow.ifacesOut == Tryz.f3.resultTypes.toList.any (Tryz.pinned.checked.prog.ifacesRec ·))) = true := by kernel_rfl
theorem j21 : ((Rows.fnExactRunScriptRow.loopsOut == Tryz.f3.resultTypes.toList.any (Tryz.pinned.checked.prog.loopsFrom ·))) = true := by kernel_rfl
theorem j22 : ((Rows.fnExactRunScriptRow.plainKeys == Tryz.pinned.checked.prog.plainKeys)) = true := Facts.g22
theorem j23 : (Rows.fnExactRunScriptRow.shortTexts.isNone) = true := by kernel_rfl
theorem j24 : (Tryz.pinned.checked.prog.stopsHeard) = true := Facts.g24
theorem j25 : (Tryz.pinned.checked.prog.mayEnter) = true := Facts.g25
theorem j26 : ((Rows.fnExactRunScriptRow.lifted == Tryz.pinned.checked.prog.liftsFinal)) = true := Facts.g26
theorem j27 : ((Tryz.pinned.checked.prog.make == some Rows.fnExactRunScriptRow.make)) = true := Facts.g27
theorem j28 : ((Rows.fnExactRunScriptRow.kinds == (if Rows.fnExactRunScriptRow.domain.isEmpty then [] else Tryz.f3.params.toList.map fun t => match Tryz.pinned.checked.prog.underlying t with | some (.int k) => some k | _ => none))) = true := by kernel_rfl
theorem j29 : ((Rows.fnExactRunScriptRow.pinned == Rows.fnExactRunScriptRow.pinnedBy)) = true := by kernel_rfl
theorem j30 : ((Rows.fnExactRunScriptRow.veiled == (Tryz.f3.params.toList ++ Rows.fnExactRunScriptSpec.plain.varTypes Tryz.pinned.checked.prog ++ Tryz.f3.resultTypes.toList).any (Tryz.pinned.checked.prog.veiledRec ·))) = true := by kernel_rfl
theorem j31 : (Rows.fnExactRunScriptRow.veiledFits Tryz.pinned.checked.prog Tryz.f3.params.toList (Tryz.f3.params.toList ++ Rows.fnExactRunScriptSpec.plain.varTypes Tryz.pinned.checked.prog ++ Tryz.f3.resultTypes.toList)) = true := by kernel_rfl
theorem and_tt {a b : Bool} (h : a = true) (k : b = true) : (a && b) = true := by rw [h, k]; rfl
set_option maxRecDepth 100000 in
theorem closed : joinedFacts Tryz.pinned.checked.prog 3 Tryz.f3 Rows.fnExactRunScriptSpec Rows.fnExactRunScriptRow = true := (and_tt (and_tt (and_tt (and_tt (and_tt (and_tt (and_tt (and_tt (and_tt (and_tt (and_tt (and_tt (and_tt (and_tt (and_tt (and_tt (and_tt (and_tt (and_tt (and_tt (and_tt (and_tt (and_tt (and_tt (and_tt (and_tt (and_tt (and_tt (and_tt (and_tt (and_tt j0 j1) j2) j3) j4) j5) j6) j7) j8) j9) j10) j11) j12) j13) j14) j15) j16) j17) j18) j19) j20) j21) j22) j23) j24) j25) j26) j27) j28) j29) j30) j31)

theorem over : Rows.fnExactRunScriptRow.holds Tryz.pinned (OpenSpec.ofChange Rows.fnExactRunScriptSpec) :=
  OpenClaim.holds_of_wide 3 Tryz.f3 rfl rfl rfl rfl rfl rfl rfl ⟨rfl, rfl, rfl, rfl, rfl⟩ rfl rfl rfl rfl rfl (by kernel_rfl) Tryz.func3 closed
    (of_decide_eq_true (by kernel_rfl)) (by unfold Func.isWrapper; first | (rw [if_pos (by decide +kernel)]; kernel_rfl) | (rw [if_neg (by decide +kernel)]; exact ⟨rfl, rfl⟩))
    (fun os started H enc _ => lifted os started H enc)

theorem pw : Rows.fnExactRunScriptRow.wfByText (OpenSpec.ofChange Rows.fnExactRunScriptSpec) = true := by kernel_rfl
theorem pm : Tryz.pinned.checked.prog.mainIs = some ((true : Bool), ("cf6806a6fd17c18edf57ba6c42281eacc413a56d77578544c9d411acb0f4fe9f" : String).toList) := by kernel_rfl
theorem pl : true = Tryz.prog.looks [] := by kernel_rfl
theorem pg : false = Rows.fnExactRunScriptRow.goesBy Tryz.pinned.checked.prog := by kernel_rfl
theorem pf : Tryz.prog.funcNamed "loop.example/differenceengine/laws.FnExactRunScript" = some 3 := by kernel_rfl
theorem pa : ([9].all fun u => !Tryz.prog.wantsStandIn u) = true := by kernel_rfl
theorem proved : Rows.FnExactRunScriptCardSaid :=
  Claim7.holds_tied_plain_at .later [] [.data, .data, .data, .data, .sentinel, .sentinel, .data, .pinned] true (true, "cf6806a6fd17c18edf57ba6c42281eacc413a56d77578544c9d411acb0f4fe9f") true over (fun _ h => by cases h) pw (fun _ h => by cases h) fnExactRunScript_row_tie rfl ⟨rfl, rfl⟩ pm rfl
    (fun f fn hf hfn => by
      obtain rfl : f = 3 := Option.some.inj (pf.symm.trans hf) |>.symm
      obtain rfl : fn = Tryz.f3 := (Option.some.inj (Tryz.func3.symm.trans hfn)).symm
      exact ⟨pl, fun j t ht => by
        rw [Tryz.params3] at ht
        have hm : t ∈ [9] := by simpa using Array.mem_of_getElem? ht
        exact (show Tryz.prog.wantsStandIn t = false by simpa using List.all_eq_true.1 pa t hm)⟩)
    pg
#print axioms proved
end Go.Proofs.YtfmjklgfpiffbaaGreatDoor.fnExactRunScript
