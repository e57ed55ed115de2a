/-
  The law FnScriptPrefix holds: for every input the call returns true and the arguments read as before. No condition: the laid tables are tied to the text.
-/
import Derived.Test.YtfmjklgfpiffbaaGreatDoorRows
import Derived.Test.YtfmjklgfpiffbaaGreatDoorFacts
import Derived.Test.YtfmjklgfpiffbaaGreatDoorPreA
import Derived.Test.YtfmjklgfpiffbaaGreatDoorR40
import Derived.ProofKit
import Derived.OpenShut
import Derived.ShutString
import Derived.ChangeOld
import Derived.Lib.SmallJoins
import Derived.SliceStrings
import Derived.LaidMore
import Derived.Stop.Joined
import Derived.Stop.LaidErr
import Derived.SevenTiedAt
import Derived.Shelf.Vars
import Derived.Lay
import Derived.Handed
import Derived.Test.YtfmjklgfpiffbaaGreatDoorCards
import Derived.Test.YtfmjklgfpiffbaaGreatDoorTie
import Derived.Test.YtfmjklgfpiffbaaGreatDoorR32
import Derived.ChangeVars
import Derived.WalkSmall
namespace Go.Proofs.YtfmjklgfpiffbaaGreatDoor
open Go.RowKit
set_option linter.unusedVariables false
set_option linter.unusedSimpArgs false
theorem Bytes.nil_ (w : World) : Bytes w (.slice none 0 0) [] := ⟨⟨none, 0, rfl, Nat.le_refl _, Nat.zero_le _, fun h => absurd h (by simp [bv])⟩, fun _ h => by simp at h⟩
theorem Bytes.of_cells {w : World} {x : Addr} {len cap : Nat} {zs : List Int} (hl : len ≤ cap) (hm : cap ≤ maxLen) (hz : zs.length = cap)
    (hcell : ∀ i, i < zs.length → w.cell? (x.add i) = some (.int .u8 (zs.getD i 0))) (hwz : ∀ n ∈ zs, (Lit.int .u8 n).wf = true) :
    Bytes w (.slice (some x) len cap) (zs.take len) := by
  have hlen : (zs.take len).length = len := by rw [List.length_take]; omega
  refine ⟨⟨some x, cap, by rw [dZ, hlen], by rw [dZ, hlen]; exact hl, hm, fun hn => ?_⟩, fun n hn => ?_⟩
  · rw [dZ, hlen] at hn
    obtain ⟨b, off, spot⟩ := x
    have h0 := hcell 0 (by omega)
    have hspot : spot = Option.none := by simpa [Addr.add] using World.cell?_spot h0
    subst hspot
    refine ⟨b, off, rfl, by simpa [Addr.add] using World.block_lt_of_cell? w _ h0, fun k u hu => ?_⟩
    have hk : k < len := by
      rcases Nat.lt_or_ge k len with h | h
      · exact h
      · rw [List.getElem?_eq_none (by rw [dZ, hlen]; exact h)] at hu; cases hu
    have hg := hcell k (by omega)
    rw [show (⟨b, off, Option.none⟩ : Addr).add k = ⟨b, off + k, Option.none⟩ from by unfold Addr.add; split <;> simp_all] at hg
    rw [hg, ← hu, Hs _ k (by omega), at_]
    simp [List.getD, hk]
  · have h := hwz n (List.mem_of_mem_take hn)
    simp [Lit.wf, IntKind.min, IntKind.max, IntKind.signed, IntKind.bits] at h
    omega

end Go.Proofs.YtfmjklgfpiffbaaGreatDoor
namespace Go.Proofs.YtfmjklgfpiffbaaGreatDoor.fnScriptPrefix
open Go.ChangeShapes Go.WideShapes Go.ChangeAt Go.RowKit
open Go.ChangeMaps (open_string shut_string)
set_option linter.unusedVariables false

set_option maxRecDepth 100000 in
set_option maxHeartbeats 2000000 in
theorem lifted (os : Os) (started : os.Started) (H : Type) (enc : TypeId × Value → H) :
    ReturnsInHanded {} Tryz.checked os 4 .any (fun w args => (Rows.fnScriptPrefixSpec.pre enc Tryz.prog Tryz.f4 [] false w args ∧ laidMetH Tryz.prog laidL w) ∧ sizedMet enc Tryz.prog Tryz.f4 (OpenSpec.ofChange Rows.fnScriptPrefixSpec) false w args) (Rows.fnScriptPrefixSpec.post enc Tryz.prog Tryz.f4 false true false false) := by
  have main : ∀ (W : World) (base : Nat) (args : Array Value) (ds gs : List (DataW H)) (before : List MemPlace), (∀ (j : Nat) t v, Tryz.f4.params[j]? = some t → args[j]? = some v → Value.okWide Tryz.checked.prog W .any base t v) → DataW.Whole enc Tryz.checked.prog Tryz.f4.params.toList Rows.fnScriptPrefixSpec.vars false W args.toList ds gs before → laidMetH Tryz.prog laidL W → W.ShapedOpen Tryz.checked.prog → Calls Tryz.checked.prog 4 args W fun e W' => ∃ v, e = .returned v ∧ Rows.fnScriptPrefixSpec.post enc Tryz.checked.prog Tryz.f4 false true false false W args v W' := by
    intro W base args ds gs before hval0 hW hL hS
    have hval : ∀ (j : Nat) t v, Tryz.f4.params[j]? = some t → args[j]? = some v → Value.okWide Tryz.prog W .any base t v := hval0
    have hW' := hW
    obtain ⟨p, q, hA0, hV0, rfl, hfz, hnd⟩ := hW
    have hV : DataW.TrodVars enc Tryz.prog W (fun _ => true) ["loop.example/differenceengine/impl.commands"] gs q := hV0
    have hA : DataW.TrodAll enc Tryz.prog W 0 (fun _ => true) true Tryz.f4.params.toList args.toList ds p := hA0
    rw [Tryz.params4] at hA hval
    obtain ⟨v0, vs0, d0, ds0, p0, q0, hargs, rfl, rfl, h0, r0⟩ := trodAll_cons hA
    obtain ⟨v1, vs1, d1, ds1, p1, q1, rfl, rfl, rfl, h1, r1⟩ := trodAll_cons r0
    obtain ⟨rfl, rfl, rfl⟩ := trodAll_nil r1
    obtain rfl : args = #[v0, v1] := by cases args; simp_all
    obtain ⟨gv, tv, csv, fuelv, dv, pv, rfl, hgv, htv, hvar, hdv, rfl⟩ := trodVars_one hV
    obtain rfl := Option.some.inj (gCmd.symm.trans hgv)
    obtain rfl := Option.some.inj (gCmdType.symm.trans htv)
    have hltv : ∀ x ∈ pv, x.block < W.heap.size := fun x hx => hW'.lt x (List.mem_append_right _ (List.mem_append_right _ hx))
    obtain ⟨vv, hcsv⟩ : ∃ vv, csv.toList = [vv] := by
      rcases Deep.open_slice Tryz.underlying86 hdv with ⟨h9, _⟩ | ⟨_, _, _, _, _, _, _, h9, _⟩ <;> exact ⟨_, h9⟩
    have hlgv : 0 < W.heap.size := hW'.lt (.cell 0 0) (List.mem_append_right _ (List.mem_append_left _ (MemPlace.mem_row.2 ⟨0, by rw [show csv.size = 1 by rw [← Array.length_toList, hcsv]; rfl]; omega, rfl⟩)))
    have hvc : vv.cells = #[vv] := by
      have h8 := hdv
      rw [hcsv] at h8
      rcases Deep.open_slice Tryz.underlying86 h8 with ⟨h9, _⟩ | ⟨_, _, _, _, _, _, _, h9, _⟩ <;> (injection h9 with h9; rw [h9]; rfl)
    have htr : DataW.Trod enc Tryz.prog W 0 (fun _ => true) true 86 vv dv pv := ⟨fuelv, by rw [hvc]; rw [hcsv] at hdv; exact hdv⟩
    have hvv : vv.cells.toList = csv.toList := by rw [hvc, hcsv]
    have k0 := h0
    have lt0 : ∀ x ∈ p0, x.block < W.heap.size := by obtain ⟨m, hm⟩ := k0; exact DataW.trod_lt m _ _ _ hm
    obtain ⟨a0, len0, cap0, rfl⟩ := okWide_slice Tryz.underlying24 (hval 0 24 v0 rfl rfl)
    obtain ⟨l0, w0⟩ : ∃ l, Bytes W (.slice a0 len0 cap0) l := by
      obtain ⟨fuel, hf⟩ := h0
      rcases open_ints Tryz.underlying24 Tryz.underlying5 (by kernel_rfl) hf with ⟨hcs, _⟩ | ⟨x, l, c, zs, hcs, _, hl, hm, hz, _, hcell, hwz⟩
      · simp [Value.cells] at hcs
        obtain ⟨rfl, rfl, rfl⟩ := hcs
        exact ⟨[], Bytes.nil_ _⟩
      · simp [Value.cells] at hcs
        obtain ⟨rfl, rfl, rfl⟩ := hcs
        exact ⟨_, Bytes.of_cells hl hm (by simpa using hz) hcell hwz⟩
    have k1 := h1
    have lt1 : ∀ x ∈ p1, x.block < W.heap.size := by obtain ⟨m, hm⟩ := k1; exact DataW.trod_lt m _ _ _ hm
    obtain ⟨a1, len1, cap1, rfl⟩ := okWide_slice Tryz.underlying24 (hval 1 24 v1 rfl rfl)
    obtain ⟨l1, w1⟩ : ∃ l, Bytes W (.slice a1 len1 cap1) l := by
      obtain ⟨fuel, hf⟩ := h1
      rcases open_ints Tryz.underlying24 Tryz.underlying5 (by kernel_rfl) hf with ⟨hcs, _⟩ | ⟨x, l, c, zs, hcs, _, hl, hm, hz, _, hcell, hwz⟩
      · simp [Value.cells] at hcs
        obtain ⟨rfl, rfl, rfl⟩ := hcs
        exact ⟨[], Bytes.nil_ _⟩
      · simp [Value.cells] at hcs
        obtain ⟨rfl, rfl, rfl⟩ := hcs
        exact ⟨_, Bytes.of_cells hl hm (by simpa using hz) hcell hwz⟩
    have hT := glbc_of hL hS
    clear hA0 hval0 hL hS hV0 hV
    refine (lawScriptPrefix _ l0 _ l1 W w0 w1 hT).mono fun e W' ⟨he, bel⟩ => ?_
    subst he
    obtain ⟨fuelw, hdw⟩ := Below.trod laidOut (by kernel_rfl) (of_decide_eq_true (by kernel_rfl)) htr bel hltv
    rw [hvv] at hdw
    have hv2 := trodVars_mk1 (enc := enc) (spare := fun b => decide (b < W.heap.size)) hgv htv (var?_below bel hgv hlgv hvar) hdw
    exact ⟨_, rfl, _, _, _, [], _, _, hW', trodAll_mk1 (shut_bool Tryz.underlying4 _), (trodAll_cons_mk (Below.trod laidOut (by kernel_rfl) (of_decide_eq_true (by kernel_rfl)) k0 bel lt0) (trodAll_cons_mk (Below.trod laidOut (by kernel_rfl) (of_decide_eq_true (by kernel_rfl)) k1 bel lt1) trodAll_mk0)), hv2, bel.frame _, fun h => by cases h⟩

  refine returnsInHanded_of_calls own started (by kernel_rfl)
    (ChangeSpec.witness_shaped (enc := enc) (C := Tryz.checked) (os := os) (X := fun w _ => laidMetH Tryz.prog laidL w) false (World.laidAll Tryz.prog os laidL) #[.slice none 0 0, .slice none 0 0] 8 (World.laidAll_os _ _ _) (World.shaped_of_ZipB (by kernel_rfl) (by kernel_rfl)) (by kernel_rfl) (by kernel_rfl) (by kernel_rfl) (door_met os _)) ?_
  intro w tape i _ hsh _ hok hpre _
  obtain ⟨_, _, _, fn0, hfn0, _, _, _, _, hval⟩ := hok
  obtain rfl : fn0 = Tryz.f4 := Option.some.inj (hfn0.symm.trans Tryz.func4)
  obtain ⟨⟨⟨ds, gs, before, hw, _⟩, hL⟩, _⟩ := hpre
  refine (main (w.forCall tape i) w.heap.size i.args ds gs before hval (hw.of_heap (by rfl)) (hL.of_heap (by rfl)) hsh).mono fun e W' ⟨v, he, hp⟩ => ?_
  subst he
  exact ChangeSpec.post_blind hp

theorem over : Rows.fnScriptPrefixRow.holds Tryz.pinned (OpenSpec.ofChange Rows.fnScriptPrefixSpec) :=
  OpenClaim.holds_of_wide 4 Tryz.f4 rfl rfl rfl rfl rfl rfl rfl ⟨rfl, rfl, rfl, rfl, rfl⟩ rfl rfl rfl rfl rfl (by kernel_rfl) Tryz.func4 closed
    (of_decide_eq_true (by kernel_rfl)) (by unfold Func.isWrapper; first | (rw [if_pos (by decide +kernel)]; kernel_rfl) | (rw [if_neg (by decide +kernel)]; exact ⟨rfl, rfl⟩))
    (fun os started H enc _ => lifted os started H enc)

theorem proved : Rows.FnScriptPrefixCardSaid :=
  Claim7.holds_tied_plain_at .later [] [.data, .data, .data, .data, .sentinel, .sentinel, .data, .pinned] true (true, "cf6806a6fd17c18edf57ba6c42281eacc413a56d77578544c9d411acb0f4fe9f") true over (fun _ h => by cases h) pw (fun _ h => by cases h) fnScriptPrefix_row_tie rfl ⟨rfl, rfl⟩ pm rfl
    (fun f fn hf hfn => by
      obtain rfl : f = 4 := Option.some.inj (pf.symm.trans hf) |>.symm
      obtain rfl : fn = Tryz.f4 := (Option.some.inj (Tryz.func4.symm.trans hfn)).symm
      exact ⟨pl, fun j t ht => by
        rw [Tryz.params4] at ht
        have hm : t ∈ [24, 24] := by simpa using Array.mem_of_getElem? ht
        exact (show Tryz.prog.wantsStandIn t = false by simpa using List.all_eq_true.1 pa t hm)⟩)
    pg
#print axioms proved
end Go.Proofs.YtfmjklgfpiffbaaGreatDoor.fnScriptPrefix
