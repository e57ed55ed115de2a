/-
  Parts of the proof of one statement, merged: CmdOpen.
-/
import Derived.Deep.SlicePairs
import Derived.Test.YtfmjklgfpiffbaaGreatDoorR29
namespace Go.Proofs.YtfmjklgfpiffbaaGreatDoor
open Go.RowKit Go.ChangeShapes Go.WideShapes
set_option linter.unusedVariables false
set_option linter.unusedSimpArgs false
set_option maxRecDepth 100000
def cmdData:List (DataW Unit):=(List.range 12).map fun k=>.agg [.lit (.string (sat cN k).data.toList),.lit (.int .i64 (at_ bT k))]
theorem gCmd : Tryz.prog.globalNamed "loop.example/differenceengine/impl.commands" = some 0 := by kernel_rfl
theorem gCmdType:(Tryz.prog.globals[0]?).map (·.type)=some 86:=by kernel_rfl
theorem cmd_of_head {W : World} {rest : List (String × DataW Unit)} (h : laidMet Tryz.prog (("loop.example/differenceengine/impl.commands", .slice cmdData []) :: rest) W) : Cmd W := by
 obtain⟨ps,⟨g,t,cs,fuel,p,q,hg,ht,hvar,hd,_,_⟩,_⟩:=h;obtain rfl:=Option.some.inj (gCmd.symm.trans hg);obtain rfl:=Option.some.inj (gCmdType.symm.trans ht)
 rcases Deep.open_slice_pairs Tryz.underlying86 Tryz.underlying88 (by kernel_rfl) rfl rfl (by kernel_rfl) (by kernel_rfl) hd with ⟨hcs,hx⟩|⟨a,len,cap,m,n,V0,V1,D0,D1,P0,P1,hcs,hb,hl,hm,hmm,hx,hall⟩
 ·simp at hx
 ·simp only[Prod.mk.injEq,DataW.slice.injEq] at hx;obtain⟨⟨hx,-⟩,-⟩:=hx;have hlen:=congrArg List.length hx;simp[cmdData] at hlen;subst hlen;have hmc:m=cap:=by rw[hmm];rfl
  have hc0:W.cell? ⟨0,0,none⟩=some (.slice (some a) 12 cap):=by
   have h1:=World.var?_cell hg hvar 0;rw[h1,←Array.getElem?_toList,hcs]
   rfl
  have hD:∀k,k<12→D0 k=.lit (.string (sat cN k).data.toList)∧D1 k=.lit (.int .i64 (at_ bT k)):=by
   intro k hk;have h1:=congrArg (fun l=>l[k]?) hx;simp[cmdData,hk] at h1;exact⟨h1.1.symm,h1.2.symm⟩
  have h00:=(hall 0 (by omega)).1;obtain⟨b,off,spot⟩:=a;have hspot:spot=Option.none:=by simpa[Addr.add] using World.cell?_spot h00
  subst hspot;refine⟨b,off,cap,hc0,hl,by unfold maxLen at hm;omega,by simpa[Addr.add] using World.block_lt_of_cell? W _ h00,fun k hk=>?_⟩;obtain⟨c0,c1,t0,t1⟩:=hall k (by omega);obtain⟨s,e0,e1,-⟩:=DataW.trod_string Tryz.underlying9 t0;obtain⟨z,f0,f1,-⟩:=DataW.trod_int Tryz.underlying3 t1;have hs:s=sat cN k:=by
   have h1:=congrArg Prod.fst e1;rw[(hD k hk).1] at h1;simp at h1;exact(ByteArray.ext (Array.toList_inj.1 (by simpa using h1))).symm
  have hz:z=at_ bT k:=by
   have h1:=congrArg Prod.fst f1;rw[(hD k hk).2] at h1;simp at h1;exact h1.symm
  have a0:(⟨b,off,Option.none⟩:Addr).add (k*2)=⟨b,off+k*2,Option.none⟩:=by unfold Addr.add;split <;> simp_all
  have a1:(⟨b,off,Option.none⟩:Addr).add (k*2+1)=⟨b,off+k*2+1,Option.none⟩:=by unfold Addr.add;split <;> simp_all [Nat.add_assoc]
  rw[a0] at c0;rw[a1] at c1;have v0:V0 k=.string s:=by simpa using e0
  have v1:V1 k=.int .i64 z:=by simpa using f0
  exact⟨by rw[c0,v0,hs],by rw[c1,v1,hz]⟩
end Go.Proofs.YtfmjklgfpiffbaaGreatDoor
