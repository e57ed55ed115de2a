/-
  Parts of the proof of one statement, merged: Draw.
-/
import Derived.Test.YtfmjklgfpiffbaaGreatDoorQ2
namespace Go.Proofs.YtfmjklgfpiffbaaGreatDoor
open Go.RowKit
set_option linter.unusedVariables false
set_option maxRecDepth 100000
def bv (l:List Int):List Value:=l.map (Value.int .u8)
theorem AJ (l:List Int):(bv l).length=l.length:=by simp[bv]
theorem Gp (l:List Int) (k:Nat) (h:k<l.length):(bv l)[k]?=some (.int .u8 (at_ l k)):=by simp[bv,pW l k h]
def zX (w:World) (v:Value) (l:List Int):Prop:=Sl w v (bv l)∧∀n∈l,0≤n∧n≤255
section
variable {w w':World} {v:Value} {A:Option Addr} {l:List Int}
theorem zX.at (h:zX w v l) (k:Nat):0≤at_ l k∧at_ l k≤255:=by
 by_cases hk:k<l.length
 ·exact h.2 _ (bN l k hk)
 ·have:at_ l k=0:=by simp[at_,List.getD,List.getElem?_eq_none (Nat.le_of_not_lt hk)]
  omega
theorem Rd.bytes (h:Rd w A (bv l)) (hn:0<l.length):∃b o,A=some ⟨b,o,none⟩∧b<w.heap.size∧∀k,k<l.length→w.cell? ⟨b,o+k,none⟩=some (.int .u8 (at_ l k)):=by
 obtain⟨b,o,e,hb,hc⟩:=h (by rw[AJ];exact hn)
 exact⟨b,o,e,hb,fun k hk=>hc k _ (Gp l k hk)⟩
end
def Rdr (w:World) (g K:Nat):Prop:=
 ∃(A:Option Addr) (c:Nat) (l:List Int) (p:Nat),Blk w g 93 [.slice A l.length c,.int .i64 p]∧zX w (.slice A l.length c) l∧l.length≤2000∧p≤K∧∀a,A=some a→0<l.length→a.block<g
end Go.Proofs.YtfmjklgfpiffbaaGreatDoor
