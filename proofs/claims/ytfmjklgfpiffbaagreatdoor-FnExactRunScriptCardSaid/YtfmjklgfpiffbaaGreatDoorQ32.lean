/-
  Parts of the proof of one statement, merged: ScD ScE EsE SlG PtG EsV SlI EsS EsU.
-/
import Derived.Test.YtfmjklgfpiffbaaGreatDoorQ20
import Derived.Test.YtfmjklgfpiffbaaGreatDoorQ28
import Derived.Test.YtfmjklgfpiffbaaGreatDoorQ30
namespace Go.Proofs.YtfmjklgfpiffbaaGreatDoor
open Go.RowKit Go.Proofs.Tryz
set_option linter.unusedVariables false
set_option linter.unusedSimpArgs false
set_option maxRecDepth 100000
set_option maxHeartbeats 8000000
attribute [local go_sem ↓] Go.wp_at_zero Go.wp_at_succ
def noS:ByteArray:=⟨#[110,111,10]⟩
def okS:ByteArray:=⟨#[111,107,10]⟩
def ey:ByteArray:=⟨#[119,104,97,116,10]⟩
def aj (s:ByteArray) (k:Bool):ByteArray:=if k=true then s++nlS else noS
theorem cB (s:ByteArray) (k:Bool) (w:World) (hs:s.size≤1000000000):
  Calls prog 102 #[.string s,.bool k] w fun e w'=>e=.returned (.string (aj s k))∧w'=w:=by
 have hcat:¬ 9223372036854775807<s.size+1:=by omega
 cases k
 ·go_enter func102,ntmps102
  go_wp2
  go_ret
  exact⟨rfl,rfl⟩
 ·go_enter func102,ntmps102
  go_wp2
  go_ret
  exact⟨rfl,rfl⟩
theorem Blk.desk {w:World} {g:Nat} {p e t:Value} {r a i:Int} (h:Blk w g 41 (pt p e t r a i)):
  w.cell? ⟨g,0,none⟩=some p∧w.cell? ⟨g,1,none⟩=some e∧w.cell? ⟨g,2,none⟩=some t∧w.cell? ⟨g,3,none⟩=some (.int .i64 r)∧w.cell? ⟨g,4,none⟩=some (.int .i64 a)∧w.cell? ⟨g,5,none⟩=some (.int .i64 i):=by
 refine⟨?_,?_,?_,?_,?_,?_⟩ <;> rw[h.cell] <;> rfl
theorem Blk.deskF {w:World} {g:Nat} {p e t:Value} {r a i:Int} (h:Blk w g 41 (pt p e t r a i)):
  w.frozen? ⟨g,0,none⟩=false∧w.frozen? ⟨g,1,none⟩=false∧w.frozen? ⟨g,2,none⟩=false∧w.frozen? ⟨g,3,none⟩=false∧w.frozen? ⟨g,4,none⟩=false∧w.frozen? ⟨g,5,none⟩=false:=
 ⟨h.frozen 0,h.frozen 1,h.frozen 2,h.frozen 3,h.frozen 4,h.frozen 5⟩
theorem Blk.desk4 {w:World} {g:Nat} {p e t:Value} {r a i:Int} (h:Blk w g 41 (pt p e t r a i)):
  w.cell? ⟨g,2,none⟩=some t∧w.cell? ⟨g,3,none⟩=some (.int .i64 r)∧w.cell? ⟨g,4,none⟩=some (.int .i64 a)∧w.cell? ⟨g,5,none⟩=some (.int .i64 i):=h.desk.2.2
theorem ah (w:World):Below w.heap.size w w.drew:=(Below.refl _ _).drew
def dQ (d:ae):Bool:=ag d.tab&&mA d.wi d.tab d.rw d.ac
def df (d:ae):ByteArray:=if dQ d=true then shS d.wi d.tab d.rw d.ac else noS
theorem s9 (b:Nat) (d:ae) (w:World) (hd:bR w b d) (ok:d.Ok) (hg:dV b w):
  Calls prog 118 #[.pointer (some ⟨b,0,none⟩)] w fun e w'=>ja w b (df d) d e w':=by
 have HD:=Hy hd
 have HG:=Hy hg
 have htl:=ok.tab
 obtain⟨h1,h2,h3⟩:=Ie ok.rw (Ie ok.ac ok.wi)
 obtain⟨p,en,t,k0,-,-,k3⟩:=hd
 have HT:=Hy k3.ints
 obtain⟨A,c,rfl,-,-,-⟩:=k3.ints.open_
 obtain⟨c0,c1,c2,c3,c4,c5⟩:=k0.desk
 have HK:=Hy k0
 clear k0 k3 hg ok
 have hval:∀e,vh (shS d.wi d.tab d.rw d.ac) (ag d.tab=true∧mA d.wi d.tab d.rw d.ac=true) e→e=.returned (.tuple #[.string (if dQ d=true then shS d.wi d.tab d.rw d.ac else⟨#[]⟩),.bool (dQ d)]):=by
  intro e he
  rcases he with ⟨hP,rfl⟩|⟨hP,rfl⟩
  ·have:dQ d=true:=by unfold dQ;rw[hP.1,hP.2];rfl
   rw[this];rfl
  ·have:dQ d=false:=by
    rw[Bool.eq_false_iff]
    intro h
    unfold dQ at h
    exact hP (by simpa using h)
   rw[this];rfl
 replace hval:=Hy hval
 have HS:=Hy (show df d=if dQ d=true then shS d.wi d.tab d.rw d.ac else noS from rfl)
 rw[HS.out]
 clear HS
 generalize dQ d=kk at hval ⊢
 have tok1:True:=trivial
 go_enter func118,ntmps118
 go_wp2_with fail
 go_region_held3 (fun w'=>w'.cell? ⟨b,2,none⟩=some (.slice A d.tab.length c)∧w'.cell? ⟨b,3,none⟩=some (.int .i64 d.rw)∧w'.cell? ⟨b,4,none⟩=some (.int .i64 d.ac)∧w'.cell? ⟨b,5,none⟩=some (.int .i64 d.wi)) (first|exact HK.out.desk4|exact HK3.out.desk4|go_keep) (first
  |((try go_simp);go_at_call 194;have _t:=tok1;go_loud (refine(re d.rw d.ac d.wi (d.rw*d.ac) _ d.tab _ (by first|exact HT.out|exact HT.out.bel (ah _)) h1 h2 h3 htl rfl (by first|exact HG.out.glb.1|exact(HG.out.bel (ah _)).glb.1)).mono ?_;rintro e w3 ⟨T,b3⟩;obtain rfl:=hval.out e T;clear T;replace b3:Below w.heap.size w w3:=(by first|exact b3|exact aa (ah _) b3);have HB:=Hy b3;have HK3:=Hy (HK.out.below b3 HK.out.lt);clear tok1 b3;(try dsimp only)))
  |fail)
 clear c0 c1 c2 c3 c4 c5
 cases kk
 ·go_wp2
  go_ret
  exact⟨rfl,HD.out.bel HB.out,aC _ HB.out⟩
 ·go_wp2
  go_ret
  exact⟨rfl,HD.out.bel HB.out,aC _ HB.out⟩
def aJ (d:ae) (l:List Int) (k:Bool):ae:=if (k&&ag l)=true then { d with tab:=l } else d
theorem mu (b:Nat) (d:ae) (v:Value) (l:List Int) (k:Bool) (w:World) (hd:bR w b d) (hv:Own w 0 v l) (hl:l.length≤1048576) (hg:dV b w):
  Calls prog 122 #[.pointer (some ⟨b,0,none⟩),v,.bool k] w fun e w'=>ja w b (aj (aw l) (k&&ag l)) (aJ d l k) e w'∧∀j,j≠2→w'.cell? ⟨b,j,none⟩=w.cell? ⟨b,j,none⟩:=by
 have hlt:=hd.lt
 have HLT:=Hy hlt
 clear hlt
 have HD:=Hy hd
 have HG:=Hy hg
 have HV:=Hy hv
 have hns:=cr hv.ints.2
 obtain⟨A,c,rfl,-,-,-⟩:=hv.ints.open_
 obtain⟨p,en,t,k0,-,-,-⟩:=hd
 obtain⟨f0,f1,f2,f3,f4,f5⟩:=k0.deskF
 obtain⟨c0,c1,c2,c3,c4,c5⟩:=k0.desk
 clear k0 hg hv
 obtain⟨kk,hkk⟩:∃kk,(k&&ag l)=kk:=⟨_,rfl⟩
 have HK:=Hy hkk
 have HS:=Hy (show aJ d l k=if kk=true then { d with tab:=l } else d by unfold aJ;rw[hkk])
 rw[hkk,HS.out]
 clear hkk
 have tail:∀(w2:World) (q:Bool),bR w2 b (if q=true then { d with tab:=l } else d)→w.grownBy w2 (some b)→Own w2 0 (.slice A l.length c) l→True:=fun _ _ _ _ _=>trivial
 cases k
 ·obtain rfl:kk=false:=HK.out.symm
  go_enter func122,ntmps122
  go_wp2_with fail
  refine(dz _ l _ HV.out.ints hl HG.out.glb.1).mono ?_
  rintro e w3 ⟨rfl,b3⟩
  have HB:=Hy b3
  clear b3 c0 c1 c2 c3 c4 c5 f0 f1 f2 f3 f4 f5
  go_wp2_with fail
  refine(cB _ _ _ (by omega)).mono ?_
  rintro e w4 ⟨rfl,rfl⟩
  go_wp2
  go_ret
  exact⟨⟨rfl,HD.out.bel HB.out,aC _ HB.out⟩,fun j _=>HB.out.cell HLT.out⟩
 ·obtain rfl:ag l=kk:=by have:=HK.out;rwa[Bool.true_and] at this
  cases hq:ag l
  ·go_enter func122,ntmps122
   go_wp2_with fail
   refine(aF _ l _ HV.out.ints).mono ?_
   rw[hq]
   rintro e w2 ⟨rfl,rfl⟩
   go_wp2_with fail
   refine(dz _ l _ HV.out.ints hl HG.out.glb.1).mono ?_
   rintro e w3 ⟨rfl,b3⟩
   have HB:=Hy b3
   clear b3 c0 c1 c2 c3 c4 c5 f0 f1 f2 f3 f4 f5
   go_wp2_with fail
   refine(cB _ _ _ (by omega)).mono ?_
   rintro e w4 ⟨rfl,rfl⟩
   go_wp2
   go_ret
   exact⟨⟨rfl,HD.out.bel HB.out,aC _ HB.out⟩,fun j _=>HB.out.cell HLT.out⟩
  ·go_enter func122,ntmps122
   go_wp2_with fail
   refine(aF _ l _ HV.out.ints).mono ?_
   rw[hq]
   rintro e w2 ⟨rfl,rfl⟩
   have D2:=Hy (HD.out.setTab HV.out)
   have G2:=Hy (aI w b 2 (.slice A l.length c))
   have HC2:=Hy (show ∀j,j≠2→(w.setCell ⟨b,2,none⟩ (.slice A l.length c)).cell? ⟨b,j,none⟩=w.cell? ⟨b,j,none⟩ from fun j hj=>Ij _ _ _ _ (by intro e;injection e with q1 q2;omega))
   have HL2:=Hy (show b<(w.setCell ⟨b,2,none⟩ (.slice A l.length c)).heap.size by simpa[World.setCell] using HLT.out)
   have HV2:=Hy (show Own (w.setCell ⟨b,2,none⟩ (.slice A l.length c)) 0 (.slice A l.length c) l from by
    obtain⟨p',e',t',h0,-⟩:=HD.out
    exact HV.out.at h0 G2.out)
   have HG2:=Hy (HG.out.grown G2.out)
   go_wp2_with fail
   generalize hW:w.setCell ⟨b,2,none⟩ (.slice A l.length c)=w3 at D2 G2 HV2 HG2 HC2 HL2 ⊢
   clear hW c0 c1 c2 c3 c4 c5 f0 f1 f2 f3 f4 f5
   refine(dz _ l _ HV2.out.ints hl HG2.out.glb.1).mono ?_
   rintro e w4 ⟨rfl,b3⟩
   have HB:=Hy b3
   clear b3
   go_wp2_with fail
   refine(cB _ _ _ (by omega)).mono ?_
   rintro e w5 ⟨rfl,rfl⟩
   go_wp2
   go_ret
   exact⟨⟨rfl,D2.out.bel HB.out,az G2.out (aC _ HB.out)⟩,fun j hj=>(HB.out.cell HL2.out).trans (HC2.out j hj)⟩
theorem jP (b:Nat) (d:ae) (v:Value) (l:List Int) (k:Bool) (w:World) (hd:bR w b d) (hv:Own w 0 v l) (hl:l.length≤1048576) (hg:dV b w):
  Calls prog 122 #[.pointer (some ⟨b,0,none⟩),v,.bool k] w fun e w'=>ja w b (aj (aw l) (k&&ag l)) (aJ d l k) e w':=
 (mu b d v l k w hd hv hl hg).mono fun e w' h=>h.1
def eJ (d:ae) (r a i:Int):ae:=if dA r a i=true then { d with rw:=r.toNat,ac:=a.toNat,wi:=i.toNat } else d
def jU (r a i:Int):ByteArray:=if dA r a i=true then okS else noS
theorem mS {r a i:Int} (h:dA r a i=true):∃R A W:Nat,r=R∧a=A∧i=W∧(1≤R∧R≤20)∧(1≤A∧A≤6)∧(1≤W∧W≤12):=by
 simp[dA,inB] at h
 exact⟨r.toNat,a.toNat,i.toNat,by omega,by omega,by omega,by omega,by omega,by omega⟩
theorem yC (b:Nat) (d:ae) (r a i:Int) (w:World) (hd:bR w b d):
  Calls prog 128 #[.pointer (some ⟨b,0,none⟩),.agg #[.int .i64 r,.int .i64 a,.int .i64 i]] w fun e w'=>ja w b (jU r a i) (eJ d r a i) e w':=by
 have K1:=Blk.new w 29 [.int .i64 r,.int .i64 a,.int .i64 i]
 have B1:=ab w (.cells #[.int .i64 r,.int .i64 a,.int .i64 i] 29)
 have HD:=Hy (hd.bel B1)
 have hdl:=hd.lt
 obtain⟨a0,a1,a2⟩:=K1.lay
 clear hd
 go_enter func128,ntmps128
 go_wp2_with fail
 refine(eD r a i _).mono ?_
 rintro e w2 ⟨rfl,b2⟩
 replace K1:=K1.below b2 K1.lt
 replace HD:=Hy (HD.out.bel b2)
 have HB:=Hy (aa B1 b2)
 clear a0 a1 a2 b2 B1
 obtain⟨a0,a1,a2⟩:=K1.lay
 clear K1
 cases hq:dA r a i
 ·have HS:=Hy (show eJ d r a i=d by unfold eJ;rw[hq];rfl)
  have HO:=Hy (show jU r a i=noS by unfold jU;rw[hq];rfl)
  clear hq
  go_wp2
  go_ret
  exact⟨by rw[HO.out];rfl,by rw[HS.out];exact HD.out,aC _ HB.out⟩
 ·obtain⟨R,A,W,rfl,rfl,rfl,h1,h2,h3⟩:=mS hq
  have HS:=Hy (show eJ d R A W={ d with rw:=R,ac:=A,wi:=W } by unfold eJ;rw[hq];rfl)
  have HO:=Hy (show jU R A W=okS by unfold jU;rw[hq];rfl)
  obtain⟨p,en,t,k0,-,-,-⟩:=HD.out
  obtain⟨f0,f1,f2,f3,f4,f5⟩:=k0.deskF
  obtain⟨c0,c1,c2,c3,c4,c5⟩:=k0.desk
  clear hq k0
  go_wp2
  go_ret
  exact⟨by rw[HO.out];rfl,by rw[HS.out];exact HD.out.setLay R A W,az (aC _ HB.out) (az (az (aI _ b 3 _) (aI _ b 4 _)) (aI _ b 5 _))⟩
def eI (d:ae) (J:cm):ae:={ poly:=J.poly,eng:=d.eng,tab:=jtL J,rw:=J.rw.toNat,ac:=J.ac.toNat,wi:=J.wi.toNat }
noncomputable def dZ (t:ByteArray):Bool:=(spR t).2&&k8 (spR t).1
noncomputable def gk (d:ae) (t:ByteArray):ByteArray:=if dZ t=true then df (eI d (spR t).1) else noS
noncomputable def iX (d:ae) (t:ByteArray):ae:=if dZ t=true then eI d (spR t).1 else d
theorem mW {t:ByteArray} (d:ae) (h:dZ t=false):gk d t=noS∧iX d t=d:=by simp[gk,iX,h]
theorem po {t:ByteArray} (d:ae) (h:dZ t=true):gk d t=df (eI d (spR t).1)∧iX d t=eI d (spR t).1:=by simp[gk,iX,h]
theorem lh {d:ae} {J:cm} (h:d.Ok) (hj:k8 J=true):(eI d J).Ok:=by
 obtain⟨R,A,W,e1,e2,e3,h1,h2,h3⟩:=uF hj
 have hq:bQ J=true:=by
  cases hq:bQ J
  ·rw[(uh hq).1] at hj;exact hj
  ·rfl
 exact⟨qn hq,h.eng,FV J,by unfold eI;rw[e1];exact h1,by unfold eI;rw[e2];exact h2,by unfold eI;rw[e3];exact h3⟩
theorem xy (b:Nat) (d:ae) (t:ByteArray) (w:World) (ht:t.size≤1048576) (hd:bR w b d) (ok:d.Ok) (hg:dV b w):
  Calls prog 141 #[.pointer (some ⟨b,0,none⟩),.string t] w fun e w'=>ja w b (gk d t) (iX d t) e w':=by
 have HD:=Hy hd
 have HG:=Hy hg
 have hdl:=hd.lt
 have HOK:=Hy ok
 clear hd hg ok
 obtain⟨J,T,hR⟩:∃J T,spR t=(J,T):=⟨_,_,rfl⟩
 have HR:=Hy hR
 clear hR
 go_enter func141,ntmps141
 go_wp2_with fail
 refine(zm t _ ht HG.out.glb).mono ?_
 rintro e w2 ⟨⟨v,he,o,jin⟩,b2⟩
 rw[HR.out] at he o jin
 subst he
 obtain⟨A,c,rfl,-,-,-⟩:=o.ints.open_
 have bA:Below w2.heap.size w2 (w2.alloc (.cells (bh (.slice A J.poly.length c) J).toArray 97)):=ab w2 _
 have K2:=Blk.new w2 97 (bh (.slice A J.poly.length c) J)
 have HB:=Hy (aa b2 bA)
 have HO:=Hy (show Own (w2.alloc (.cells (bh (.slice A J.poly.length c) J).toArray 97)) w.heap.size (.slice A J.poly.length c) J.poly from o.bel bA)
 have HJ:=Hy (show J.In from jin)
 obtain⟨a0,a1,a2,a3,a4,a5,a6,a7,a8⟩:=K2.job
 have hne:b<w2.heap.size:=Im hdl b2.size
 have hne1:¬w2.heap.size=b:=by omega
 have hne2:¬b=w2.heap.size:=by omega
 clear b2 bA o jin
 unfold bE
 cases T
 ·have HN:=Hy (mW d (show dZ t=false by unfold dZ;rw[HR.out];rfl))
  clear K2
  go_wp2
  go_ret
  exact⟨by rw[HN.out.1];rfl,by rw[HN.out.2];exact HD.out.bel HB.out,aC _ HB.out⟩
 ·go_wp2_with fail
  clear a0 a1 a2 a3 a4 a5 a6 a7 a8
  change Calls _ _ #[bE (.slice A J.poly.length c) J] (w2.alloc (.cells (bh (.slice A J.poly.length c) J).toArray 97)) _
  generalize hW:w2.alloc (.cells (bh (.slice A J.poly.length c) J).toArray 97)=w3 at K2 HB HO ⊢
  clear hW
  refine(yQ _ J _ HO.out.ints HJ.out).mono ?_
  rintro e w4 ⟨r,rfl,o1,b1⟩
  replace HB:=Hy (aa HB.out b1)
  replace K2:=K2.below b1 K2.lt
  replace HO:=Hy (HO.out.bel b1)
  have HL:=Hy o1
  obtain⟨A2,k2,rfl,-,-,-⟩:=o1.ints.open_
  obtain⟨a0,a1,a2,a3,a4,a5,a6,a7,a8⟩:=K2.job
  clear b1 o1
  cases hq:k8 J
  ·have HN:=Hy (mW d (show dZ t=false by unfold dZ;rw[HR.out,hq];rfl))
   clear K2 hq
   go_wp2
   go_ret
   exact⟨by rw[HN.out.1];rfl,by rw[HN.out.2];exact HD.out.bel HB.out,aC _ HB.out⟩
  ·have HN:=Hy (po d (show dZ t=true by unfold dZ;rw[HR.out,hq];rfl))
   have HQ:=Hy hq
   obtain⟨R,Ac,W0,e1,e2,e3,h1,h2,h3⟩:=uF hq
   have HE:=Hy (Ie e1 (Ie e2 e3))
   have HD4:=Hy (HD.out.bel HB.out)
   obtain⟨p,en,u,k0,-,-,-⟩:=HD4.out
   obtain⟨f0,f1,f2,f3,f4,f5⟩:=k0.deskF
   obtain⟨c0,c1,c2,c3,c4,c5⟩:=k0.desk
   clear hq k0
   clear e1 e2 e3
   have G2:w4.grownBy ((((w4.setCell ⟨b,0,none⟩ (.slice A J.poly.length c)).setCell ⟨b,3,none⟩ (.int .i64 J.rw)).setCell ⟨b,4,none⟩ (.int .i64 J.ac)).setCell ⟨b,5,none⟩ (.int .i64 J.wi)) (some b):=az (az (az (aI _ b 0 _) (aI _ b 3 _)) (aI _ b 4 _)) (aI _ b 5 _)
   have G3:=Hy (show w4.grownBy (((((w4.setCell ⟨b,0,none⟩ (.slice A J.poly.length c)).setCell ⟨b,3,none⟩ (.int .i64 J.rw)).setCell ⟨b,4,none⟩ (.int .i64 J.ac)).setCell ⟨b,5,none⟩ (.int .i64 J.wi)).setCell ⟨b,2,none⟩ (.slice A2 (jtL J).length k2)) (some b) from az G2 (aI _ b 2 _))
   have D3:=Hy (show bR (((((w4.setCell ⟨b,0,none⟩ (.slice A J.poly.length c)).setCell ⟨b,3,none⟩ (.int .i64 J.rw)).setCell ⟨b,4,none⟩ (.int .i64 J.ac)).setCell ⟨b,5,none⟩ (.int .i64 J.wi)).setCell ⟨b,2,none⟩ (.slice A2 (jtL J).length k2)) b (eI d J) from by
    have e1:((J.rw.toNat:Nat):Int)=J.rw:=by rw[HE.out.1];rfl
    have e2:((J.ac.toNat:Nat):Int)=J.ac:=by rw[HE.out.2.1];rfl
    have e3:((J.wi.toNat:Nat):Int)=J.wi:=by rw[HE.out.2.2];rfl
    have h:=(HD4.out.setPoly HO.out.low).setLay J.rw.toNat J.ac.toNat J.wi.toNat
    rw[e1,e2,e3] at h
    exact h.setTab (HD4.out.keepOwn HL.out.low G2))
   have HG3:=Hy ((HG.out.bel HB.out).grown G3.out)
   clear G2
   go_wp2_with fail
   generalize hW5:(((((w4.setCell ⟨b,0,none⟩ (.slice A J.poly.length c)).setCell ⟨b,3,none⟩ (.int .i64 J.rw)).setCell ⟨b,4,none⟩ (.int .i64 J.ac)).setCell ⟨b,5,none⟩ (.int .i64 J.wi)).setCell ⟨b,2,none⟩ (.slice A2 (jtL J).length k2))=w5 at D3 G3 HG3 ⊢
   clear hW5 a0 a1 a2 a3 a4 a5 a6 a7 a8 f0 f1 f2 f3 f4 f5 c0 c1 c2 c3 c4 c5
   refine(s9 b (eI d J) _ D3.out (lh HOK.out HQ.out) HG3.out).mono ?_
   rintro e w6 ⟨rfl,d6,g6⟩
   have HF:=Hy (Ie d6 g6)
   clear d6 g6
   go_wp2
   go_ret
   exact⟨by rw[HN.out.1,HR.out];rfl,by rw[HN.out.2,HR.out];exact HF.out.1,az (aC _ HB.out) (az G3.out HF.out.2)⟩
theorem GL (n:Nat) : -1≤sgI n∧sgI n≤1:=by
 unfold sgI
 split <;> omega
theorem zP (n:Nat) (w:World) (hn:n≤1000000):
  Calls prog 293 #[.int .i64 n] w fun e w'=>e=.returned (.int .i64 (sgI n))∧w=w':=by
 have ht:(n:Int).tmod 2=((n % 2:Nat):Int):=by rw[Int.tmod_eq_emod_of_nonneg (by omega)];omega
 by_cases h:n % 2=0
 ·have HE:=Hy (show sgI n=1 by unfold sgI;rw[if_pos h])
  rw[h] at ht
  clear h
  go_enter func293,ntmps293
  go_wp2
  go_ret
  exact⟨by rw[HE.out];rfl,rfl⟩
 ·have HE:=Hy (show sgI n = -1 by unfold sgI;rw[if_neg h])
  rw[show n % 2=1 by omega] at ht
  clear h
  go_enter func293,ntmps293
  go_wp2
  go_ret
  exact⟨by rw[HE.out];rfl,rfl⟩
theorem vL (o p j:Nat) (w:World) (ho:o≤7) (hp:p≤1000) (hj:j≤1000):
  Calls prog 274 #[.int .i64 o,.int .i64 p,.int .i64 j] w fun e w'=>e=.returned (.int .i64 (coI o p j))∧Below w.heap.size w w':=by
 by_cases h1:p<j
 ·have HE:=Hy (show coI o p j=0 by unfold coI;rw[if_pos (.inl h1)])
  have hi:(p:Int)<(j:Int):=by omega
  go_enter func274,ntmps274
  go_wp2
  go_ret
  exact⟨by rw[HE.out];rfl,Below.refl _ _⟩
 ·have hi:¬(p:Int)<(j:Int):=by omega
  by_cases h2:j+o<p
  ·have HE:=Hy (show coI o p j=0 by unfold coI;rw[if_pos (.inr h2)])
   have hi2:(j:Int)+(o:Int)<(p:Int):=by omega
   go_enter func274,ntmps274
   go_wp2
   go_ret
   exact⟨by rw[HE.out];rfl,Below.refl _ _⟩
  ·have hi2:¬(j:Int)+(o:Int)<(p:Int):=by omega
   obtain⟨a,ha⟩:∃a,j+o-p=a:=⟨_,rfl⟩
   obtain⟨k,hk⟩:∃k,p-j=k:=⟨_,rfl⟩
   have HE:=Hy (show coI o p j=sgI a*aY (o:Int) k by unfold coI;rw[if_neg (by omega),ha,hk])
   have e1:(j:Int)+(o:Int)-(p:Int)=(a:Int):=by omega
   have e2:(p:Int)-(j:Int)=(k:Int):=by omega
   have hs:=GL a
   have hc : -35≤sgI a*aY (o:Int) k∧sgI a*aY (o:Int) k≤35:=by
    have:=yH (o:=o) (p:=p) (j:=j) ho
    rwa[HE.out] at this
   have wz:IntKind.i64.wrap (sgI a*aY (o:Int) k)=sgI a*aY (o:Int) k:=(IntWalk.i64_left _).trans (IntWalk.wrap64_in _ (by omega))
   have ha2:a≤1000000:=by omega
   have hk2:k≤1000000000:=by omega
   have HS:=Hy (fun w=>zP a w ha2)
   have HC:=Hy (fun w=>lI (o:Int) k w (by omega) hk2)
   clear ha hk
   go_enter func274,ntmps274
   go_wp2_with fail
   refine(HS.out _).mono ?_
   rintro e w2 ⟨rfl,rfl⟩
   go_wp2_with fail
   refine(HC.out _).mono ?_
   rintro e w2 ⟨rfl,rfl⟩
   go_wp2
   go_ret
   exact⟨by rw[HE.out];rfl,Below.refl _ _⟩
theorem Dd {D:List Int} {l o p j:Nat} (ho:o≤7) (hD:D.length=l-o) (hp:p<l) (hj:j<D.length) (hb:∀i,i<j→coI o p i=0) (h:coI o p j≠0):j=p-o:=by
 have h1:p≤j+o∧j≤p:=by
  by_cases hc:p≤j+o∧j≤p
  ·exact hc
  ·exact absurd (qY hc) h
 rcases Nat.lt_or_ge (p-o) j with h2|h2
 ·have:=hb (p-o) h2
  rw[xZ ho] at this
  omega
 ·omega
theorem Dq {D:List Int} {l o p:Nat} (ho:o≤7) (hD:D.length=l-o) (hol:o<l) (hp:p<l) (hb:∀i,i<D.length→coI o p i=0):False:=by
 have:=hb (p-o) (by omega)
 rw[xZ ho] at this
 omega
theorem yN {o p:Nat} (ho:o≤7):coI o p (p-o)=cH o (o-p):=by
 rw[qA ho (by omega),show p-o+o-p=o-p by omega]
theorem xO (v:Value) (D:List Int) (l o p:Nat) (w:World) (hv:ai w v D) (hB:BdD D) (ho:o≤7) (hD:D.length=l-o) (hol:o<l) (hp:p<l) (hl:l≤60):
  Calls prog 235 #[v,.int .i64 o,.int .i64 p] w fun e w'=>e=.returned (.int .i64 (gsI D o p))∧Below w.heap.size w w':=by
 obtain⟨A,c,rfl,hlc,hc,hrd⟩:=hv.open_
 have HR:=Hy hrd
 have HB:=Hy hB
 clear hrd hv hB
 go_enter func235,ntmps235
 go_wp2
 go_loopw [7] (fun i wr=>∃k:Nat,k≤D.length∧i=.int .i64 k∧(∀q,q<k→coI o p q=0)∧Below w.heap.size w wr) (fun i _=>D.length-(intOf i).toNat)
 case atStart=>exact⟨0,Ip _,rfl,fun q hq=>absurd hq (by omega),Below.refl _ _⟩
 case round=>
  obtain⟨k,hk,rfl,hall,hbel⟩:=hrel
  have H:=Hy (Ie hall hbel)
  by_cases hlt:k<D.length
  ·obtain⟨b,f,rfl,hbb,hcell⟩:=HR.out.ints (by omega)
   have HC:=Hy (Ie hbb (hcell k hlt))
   have hbd:=HB.out k hlt
   have hcb:=yH (o:=o) (p:=p) (j:=k) ho
   have HD:=Hy hD
   clear hall hbel hcell hbb hD
   go_wp2_with fail
   refine(vL o p k _ ho (by omega) (by have:=HD.out;omega)).mono ?_
   rintro e w2 ⟨rfl,b2⟩
   have H2:=Hy (aa H.out.2 b2)
   clear b2
   by_cases h0:coI o p k=0
   ·have HA:=Hy (cO (q:=fun q=>coI o p q=0) H.out.1 h0)
    rw[h0]
    clear h0 hcb
    go_wp2
    go_roundw
    case rel=>exact⟨k+1,hlt,by go_num,HA.out,H2.out⟩
    case measure=>simp[intOf];omega
   ·have hkp:=Dd ho HD.out hp hlt H.out.1 h0
    have hcu:coI o p k=cH o (o-p):=by rw[hkp];exact yN ho
    have hck:=(H2.out.cell (by exact HC.out.1)).trans HC.out.2
    obtain⟨x,hx⟩:∃x,at_ D k=x:=⟨_,rfl⟩
    obtain⟨u,hu⟩:∃u,coI o p k=u:=⟨_,rfl⟩
    rw[hx] at hck hbd
    rw[hu] at hcb h0 ⊢
    have hbf:(u==0)=false:=by rw[beq_eq_false_iff_ne];exact h0
    have hu1:cH o (o-p)=u:=by rw[←hcu,hu]
    have hx1:at_ D (p-o)=x:=by rw[←hkp,hx]
    have htd:=yx (a:=x) (b:=u) (B:=128000000000) hbd
    have hbt:(u==0)=false:=hbf
    have hu0:¬u=0:=h0
    by_cases hm:x.tmod u=0
    ·have HE:=Hy (show gsI D o p=x.tdiv u by unfold gsI gL;rw[hx1,hu1,if_neg (by simpa using hm)])
     have wz:IntKind.i64.wrap (x.tdiv u)=x.tdiv u:=(IntWalk.i64_left _).trans (IntWalk.wrap64_in _ (by omega))
     have wm:IntKind.i64.wrap (x.tmod u)=0:=by rw[hm];rfl
     clear hu1 hx1 hx hu hcu hkp htd
     go_wp2
     go_ret
     exact⟨by rw[HE.out];rfl,by first|exact H2.out|exact be H2.out _⟩
    ·have HE:=Hy (show gsI D o p=0 by unfold gsI;rw[hx1,hu1,if_pos hm])
     have hmb:(x.tmod u).natAbs≤x.natAbs:=by rw[Int.natAbs_tmod];exact Nat.mod_le _ _
     have wm:IntKind.i64.wrap (x.tmod u)=x.tmod u:=(IntWalk.i64_left _).trans (IntWalk.wrap64_in _ (by omega))
     have hmn:(x.tmod u != 0)=true:=by rw[bne_iff_ne];exact hm
     clear hu1 hx1 hx hu hcu hkp htd
     go_wp2
     go_ret
     exact⟨by rw[HE.out];rfl,by first|exact H2.out|exact be H2.out _⟩
  ·exact(Dq ho hD hol hp (fun i hi=>hall i (by omega))).elim
theorem Hf {D:List Int} {o p:Nat} {a:Int} {k:Nat} (hk:k<D.length) (h:at_ D k≠a*coI o p k):mq D o p a=false:=by
 rw[Bool.eq_false_iff]
 exact fun e=>h (nS.1 e k hk)
theorem CL (v:Value) (D:List Int) (o p:Nat) (a:Int) (w:World) (hv:ai w v D) (hB:BdD D) (ho:o≤7) (hl:D.length≤60) (hp:p≤60) (ha : -128000000000≤a∧a≤128000000000):
  Calls prog 236 #[v,.int .i64 o,.int .i64 p,.int .i64 a] w fun e w'=>e=.returned (.bool (mq D o p a))∧Below w.heap.size w w':=by
 obtain⟨A,c,rfl,hlc,hc,hrd⟩:=hv.open_
 have HR:=Hy hrd
 have HB:=Hy hB
 clear hrd hv hB
 go_enter func236,ntmps236
 go_wp2
 go_loopw [9] (fun i wr=>∃k:Nat,k≤D.length∧i=.int .i64 k∧(∀q,q<k→at_ D q=a*coI o p q)∧Below w.heap.size w wr) (fun i _=>D.length-(intOf i).toNat)
 case atStart=>exact⟨0,Ip _,rfl,fun q hq=>absurd hq (by omega),Below.refl _ _⟩
 case round=>
  obtain⟨k,hk,rfl,hall,hbel⟩:=hrel
  have H:=Hy (Ie hall hbel)
  by_cases hlt:k<D.length
  ·obtain⟨b,f,rfl,hbb,hcell⟩:=HR.out.ints (by omega)
   have hck:=(hbel.cell (by exact hbb)).trans (hcell k hlt)
   have hbw:b<wr.heap.size:=Im hbb hbel.size
   have hcb:=yH (o:=o) (p:=p) (j:=k) ho
   have hmul:=ri (A:=128000000000) (B:=35) ha.1 ha.2 hcb.1 hcb.2
   have HCO:=Hy (fun w=>vL o p k w ho (by omega) (by omega))
   have HNO:=Hy (fun h=>Hf (o:=o) (p:=p) (a:=a) hlt h)
   have HYES:=Hy (fun h=>cO (q:=fun q=>at_ D q=a*coI o p q) H.out.1 h)
   obtain⟨x,hx⟩:∃x,at_ D k=x:=⟨_,rfl⟩
   obtain⟨u,hu⟩:∃u,coI o p k=u:=⟨_,rfl⟩
   rw[hu] at hmul HCO
   have wz:IntKind.i64.wrap (a*u)=a*u:=(IntWalk.i64_left _).trans (IntWalk.wrap64_in _ (by omega))
   have HXU:=Hy (Ie hx hu)
   rw[hx] at hck
   clear hall hbel hcell hx hu
   have tok1:True:=trivial
   by_cases he:x=a*u
   ·have hne:(x != a*u)=false:=by simp[he]
    have HA:=Hy (HYES.out (by show at_ D k=a*coI o p k;rw[HXU.out.1,HXU.out.2];exact he))
    clear he
    go_wp2_with fail
    go_region_law (first
     |((try go_simp);go_at_call 274;have _t:=tok1;go_loud (refine(HCO.out _).mono ?_;rintro e w2 ⟨rfl,b2⟩;replace b2:Below wr.heap.size wr w2:=(by first|exact b2|exact aa (ah _) b2);have hck2:=(b2.cell (by exact hbw)).trans hck;have HB2:=Hy (aa H.out.2 b2);clear tok1 b2;(try dsimp only)))
     |fail)
    all_goals
     go_wp2
     go_roundw
     case rel=>exact⟨k+1,hlt,by go_num,HA.out,by first|exact HB2.out|exact HB2.out.drew⟩
     case measure=>simp[intOf];omega
   ·have hne:(x != a*u)=true:=by simp[he]
    have HZ:=Hy (HNO.out (by rw[HXU.out.1,HXU.out.2];exact he))
    clear he
    go_wp2_with fail
    go_region_law (first
     |((try go_simp);go_at_call 274;have _t:=tok1;go_loud (refine(HCO.out _).mono ?_;rintro e w2 ⟨rfl,b2⟩;replace b2:Below wr.heap.size wr w2:=(by first|exact b2|exact aa (ah _) b2);have hck2:=(b2.cell (by exact hbw)).trans hck;have HB2:=Hy (aa H.out.2 b2);clear tok1 b2;(try dsimp only)))
     |fail)
    all_goals
     go_wp2
     go_ret
     exact⟨by rw[HZ.out];rfl,by first|exact HB2.out|exact HB2.out.drew⟩
  ·obtain rfl:k=D.length:=by omega
   have HZ:=Hy (show mq D o p a=true from nS.2 hall)
   go_wp2
   go_ret
   exact⟨by rw[HZ.out];rfl,H.out.2⟩
theorem oL (v:Value) (l:List Int) (d:Int) (w:World) (hv:ai w v l):
  Calls prog 166 #[v,.int .i64 d] w fun e w'=>FdE l d e∧Below w.heap.size w w':=by
 have HV:=Hy hv
 obtain⟨A,c,rfl,hlc,hc,-⟩:=hv.open_
 clear hv
 go_enter func166,ntmps166
 cases ht:ag l
 ·have HN:=Hy (FdE.of (jX (l:=l) (d:=d) (by unfold fdV;rw[ht];rfl)))
  go_wp2_with fail
  refine(ax _ l _ HV.out).mono ?_
  rw[ht]
  rintro e w1 ⟨rfl,rfl⟩
  go_wp2
  refine bodyPost_ret (v:=.tuple #[.int .i64 0,.int .i64 0,.int .i64 3]) (by simp[results,results166,go_sem]) rfl ⟨HN.out,Below.refl _ _⟩
 ·cases hdg:inB d 0 6
  ·have HN:=Hy (FdE.of (jX (l:=l) (d:=d) (by unfold fdV;rw[ht,hdg];rfl)))
   go_wp2_with fail
   refine(ax _ l _ HV.out).mono ?_
   rw[ht]
   rintro e w1 ⟨rfl,rfl⟩
   go_wp2_with fail
   refine(lQ _ _).mono ?_
   rw[hdg]
   rintro e w1 ⟨rfl,rfl⟩
   go_wp2
   refine bodyPost_ret (v:=.tuple #[.int .i64 0,.int .i64 0,.int .i64 3]) (by simp[results,results166,go_sem]) rfl ⟨HN.out,Below.refl _ _⟩
  ·have hd':=am.1 hdg
   by_cases h3:(l.length:Int)<d+3
   ·have HN:=Hy (FdE.of (jX (l:=l) (d:=d) (by
     unfold fdV
     rw[ht,hdg,decide_eq_false (by omega)]
     rfl)))
    go_wp2_with fail
    refine(ax _ l _ HV.out).mono ?_
    rw[ht]
    rintro e w1 ⟨rfl,rfl⟩
    go_wp2_with fail
    refine(lQ _ _).mono ?_
    rw[hdg]
    rintro e w1 ⟨rfl,rfl⟩
    go_wp2
    refine bodyPost_ret (v:=.tuple #[.int .i64 0,.int .i64 0,.int .i64 3]) (by simp[results,results166,go_sem]) rfl ⟨HN.out,Below.refl _ _⟩
   ·have HVV:=Hy (show fdV l d=true by unfold fdV;rw[ht,hdg,decide_eq_true (by omega)];rfl)
    obtain⟨t1,t60,-⟩:=ay ht
    obtain⟨o,rfl⟩:∃o:Nat,d=o:=⟨d.toNat,by omega⟩
    have HDD:=Hy (show fdD l (o:Int)=bg l (o+1) from rfl)
    have HOO:=Hy (show((o:Int)+1).toNat=o+1 by omega)
    have hrl:=bn l (o+1)
    have HLB:=Hy (su (l:=l) ht (o:=o+1) (by omega))
    have HDF:=Hy (show ∀w v,ai w v l→Calls prog 234 #[v,.int .i64 ((o:Int)+1)] w (E2 w (bg l (o+1))) from fun w v h=>by
     have:=Bl v l (o+1) w h (by omega) (by omega)
     rwa[show((o+1:Nat):Int)=(o:Int)+1 by omega] at this)
    obtain⟨D,hD⟩:∃D,bg l (o+1)=D:=⟨_,rfl⟩
    rw[hD] at hrl HLB HDF HDD
    have HGS:=Hy (show ∀w v (p:Nat),ai w v D→p<l.length→Calls prog 235 #[v,.int .i64 ((o:Int)+1),.int .i64 p] w fun e w'=>e=.returned (.int .i64 (gsI D (o+1) p))∧Below w.heap.size w w' from fun w v p h hp=>by
     have:=xO v D l.length (o+1) p w h HLB.out (by omega) hrl (by omega) hp t60
     rwa[show((o+1:Nat):Int)=(o:Int)+1 by omega] at this)
    have HEX:=Hy (show ∀w v (p:Nat) (a:Int),ai w v D→p<l.length→(-128000000000≤a∧a≤128000000000)→Calls prog 236 #[v,.int .i64 ((o:Int)+1),.int .i64 p,.int .i64 a] w fun e w'=>e=.returned (.bool (mq D (o+1) p a))∧Below w.heap.size w w' from fun w v p a h hp ha=>by
     have:=CL v D (o+1) p a w h HLB.out (by omega) (by omega) (by omega) ha
     rwa[show((o+1:Nat):Int)=(o:Int)+1 by omega] at this)
    have HRL:=Hy hrl
    have HT:=Hy ht
    clear hD hrl
    go_wp2_with fail
    refine(ax _ l _ HV.out).mono ?_
    rw[ht]
    rintro e w1 ⟨rfl,rfl⟩
    go_wp2_with fail
    refine(lQ _ _).mono ?_
    rw[hdg]
    rintro e w1 ⟨rfl,rfl⟩
    clear ht hdg
    go_wp2_with fail
    refine(HDF.out _ _ HV.out).mono ?_
    rintro e w2 ⟨r,rfl,o2,b2⟩
    have HO:=Hy o2
    have HB:=Hy b2
    obtain⟨A2,c2,rfl,-,-,-⟩:=o2.open_
    clear o2 b2
    go_wp2_with fail
    refine(gZ _ _ _ HO.out).mono ?_
    rintro e w3 ⟨rfl,rfl⟩
    cases hz:cu D
    ·have HZ:=Hy hz
     clear hz
     go_wp2_with fail
     go_loopw [8] (fun i wr=>∃k:Nat,k≤l.length∧i=.int .i64 k∧(∀q,q<k→dW D (o+1) q=false)∧Below w2.heap.size w2 wr) (fun i _=>l.length-(intOf i).toNat)
     case atStart=>exact⟨0,Ip _,rfl,fun q hq=>absurd hq (by omega),Below.refl _ _⟩
     case round=>
      obtain⟨k,hk,rfl,hall,hbl⟩:=hrel
      have H:=Hy (Ie hall hbl)
      clear hall hbl
      by_cases hlt:k<l.length
      ·have hkD:k-(o+1)<D.length:=by have:=HRL.out;omega
       go_wp2_with fail
       refine(HGS.out _ _ k (HO.out.bel H.out.2) hlt).mono ?_
       rintro e w4 ⟨rfl,b4⟩
       have HB4:=Hy (aa H.out.2 b4)
       have hgb:=Hj HLB.out (o+1) k
       have HGN:=Hy (fun h=>Fi (D:=D) (o:=o+1) (p:=k) (by omega) HZ.out hkD h)
       have HGF:=Hy (fun h0 h=>Eh (D:=D) (o:=o+1) (p:=k) (by omega) h0 h)
       obtain⟨G,hG⟩:∃G,gsI D (o+1) k=G:=⟨_,rfl⟩
       rw[hG] at hgb HGN HGF ⊢
       clear b4 hG
       by_cases hg0:G=0
       ·have HALL:=Hy (cO (q:=fun q=>dW D (o+1) q=false) H.out.1 (HGN.out (.inl hg0)))
        subst hg0
        go_wp2
        go_roundw
        case rel=>exact⟨k+1,hlt,by go_num,HALL.out,HB4.out⟩
        case measure=>simp[intOf];omega
       ·have hgn:(G != 0)=true:=by rw[bne_iff_ne];exact hg0
        go_wp2_with fail
        refine(HEX.out _ _ k G (HO.out.bel HB4.out) hlt hgb).mono ?_
        rintro e w5 ⟨rfl,b5⟩
        have HB5:=Hy (aa HB4.out b5)
        clear b5
        cases hx:mq D (o+1) k G
        ·have HALL:=Hy (cO (q:=fun q=>dW D (o+1) q=false) H.out.1 (HGN.out (.inr hx)))
         clear hx
         go_wp2
         go_roundw
         case rel=>exact⟨k+1,hlt,by go_num,HALL.out,HB5.out⟩
         case measure=>simp[intOf];omega
        ·obtain⟨q1,q2⟩:=HGF.out hg0 hx
         have HN:=Hy (FdE.of (Cv (l:=l) (d:=(o:Int)) (p:=k) HVV.out (by rw[HDD.out];exact HZ.out) hlt (by rw[HDD.out,HOO.out];exact H.out.1) (by rw[HDD.out,HOO.out];exact q1)))
         have HG2:=Hy (show gL (fdD l (o:Int)) ((o:Int)+1).toNat k=G by rw[HDD.out,HOO.out];exact q2.symm)
         clear hx q1 q2
         go_wp2
         refine bodyPost_ret (v:=.tuple #[.int .i64 k,.int .i64 G,.int .i64 1]) (by simp[results,results166,go_sem]) rfl ⟨by have:=HN.out;rw[HG2.out] at this;exact this,aa HB.out HB5.out⟩
      ·obtain rfl:k=l.length:=by omega
       have HN:=Hy (FdE.of (yh (l:=l) (d:=(o:Int)) HVV.out (by rw[HDD.out];exact HZ.out) (by rw[HDD.out,HOO.out];exact H.out.1)))
       go_wp2
       refine bodyPost_ret (v:=.tuple #[.int .i64 0,.int .i64 0,.int .i64 2]) (by simp[results,results166,go_sem]) rfl ⟨HN.out,aa HB.out H.out.2⟩
    ·have HN:=Hy (FdE.of (uo (l:=l) (d:=(o:Int)) HVV.out (by rw[HDD.out];exact hz)))
     clear hz
     go_wp2
     refine bodyPost_ret (v:=.tuple #[.int .i64 0,.int .i64 0,.int .i64 0]) (by simp[results,results166,go_sem]) rfl ⟨HN.out,HB.out⟩
end Go.Proofs.YtfmjklgfpiffbaaGreatDoor
namespace Go.Proofs.YtfmjklgfpiffbaaGreatDoor
open Go.RowKit Go.Proofs.Tryz
set_option linter.unusedVariables false
set_option linter.unusedSimpArgs false
set_option maxRecDepth 100000
set_option maxHeartbeats 8000000
def kC (l:List ByteArray) (c:Nat) (a:Int):List ByteArray:=l.set c (kw (sat l c) a)
theorem jK (l:List ByteArray) (c:Nat) (a:Int):(kC l c a).length=l.length:=List.length_set
theorem Em {l:List ByteArray} (c:Nat) (a:Int) {i:Nat} (hi:i<l.length):sat (kC l c a) i=if i=c then kw (sat l c) a else sat l i:=by
 unfold kC
 rw[bX _ i (by rw[List.length_set];exact hi),List.getElem_set]
 by_cases h:i=c
 ·rw[if_pos h.symm,if_pos h]
 ·rw[if_neg (fun e=>h e.symm),if_neg h,bX l i hi]
theorem Di {l:List ByteArray} (h:af l=true) (c:Nat) (a:Int):af (kC l c a)=true:=by
 obtain⟨h1,h2,h3⟩:=ap.1 h
 have key:∀k,k<l.length→aU (sat (kC l c a) k)=true∧(sat (kC l c a) k).size=(sat l 0).size:=by
  intro k hk
  rw[Em c a hk]
  split
  ·rename_i e
   subst e
   exact⟨Ea (h3 k hk).1 a,by rw[nW];exact(h3 k hk).2⟩
  ·exact h3 k hk
 refine ap.2 ⟨by rw[jK];exact h1,by rw[jK];exact h2,fun k hk=>?_⟩
 rw[jK] at hk
 exact⟨(key k hk).1,by rw[(key k hk).2,(key 0 (by omega)).2]⟩
def slT (l:List ByteArray) (t c:Nat) (a:Int) (k:Nat):List ByteArray:=if k=t then kC l c a else l
theorem oz {l:List ByteArray} (h:af l=true) (t c:Nat) (a:Int) (k:Nat):af (slT l t c a k)=true:=by
 unfold slT
 split
 ·exact Di h c a
 ·exact h
theorem qE (l:List ByteArray) (t c:Nat) (a:Int) (k:Nat):(slT l t c a k).length=l.length:=by
 unfold slT
 split
 ·exact jK _ _ _
 ·rfl
def fd (l:List ByteArray) (t c:Nat) (a:Int):Nat→List ByteArray
 |0=>l
 |k+1=>bB (slT (fd l t c a k) t c a k)
theorem mU {l:List ByteArray} (h:af l=true) (t c:Nat) (a:Int):∀k,af (fd l t c a k)=true
 |0=>h
 |k+1=>lm (oz (mU h t c a k) t c a k)
theorem my (l:List ByteArray) (t c:Nat) (a:Int):∀k,(fd l t c a k).length=l.length
 |0=>rfl
 |k+1=>by show(bB _).length=_;rw[b9,qE,my l t c a k]
def slR (l:List ByteArray) (t c:Nat) (a:Int) (k:Nat):Int:=sg (sat (slT (fd l t c a k) t c a k) 0)
def slV (l:List ByteArray) (t c:Nat) (a:Int) (n:Nat):List Int:=gen (slR l t c a) n
theorem rC (l:List ByteArray) (t c:Nat) (a:Int) (n:Nat):(slV l t c a n).length=n:=aq _ _
theorem EP (l:List ByteArray) (t c:Nat) (a:Int) (n:Nat):slV l t c a (n+1)=slV l t c a n++[slR l t c a n]:=fC _ _
theorem AO {l:List ByteArray} (h:af l=true) (t c:Nat) (a:Int) (k:Nat) : -1000000000000≤slR l t c a k∧slR l t c a k≤1000000000000:=
 nV ((ap.1 (oz (mU h t c a k) t c a k)).2.2 0 (ap.1 (oz (mU h t c a k) t c a k)).1).1
def slN (c t a:Int):Bool:=(inB c 0 6&&inB t 0 59)&&inB a (-100000) 100000
def dk (l:List ByteArray) (n t c a:Int):Bool:=((af l&&inB n 0 60)&&slN c t a)&&decide (c<(l.length:Int))
def eY (l:List ByteArray) (n t c a:Int):List Int:=if dk l n t c a=true then slV l t.toNat c.toNat a n.toNat else[]
theorem vu {l:List ByteArray} {n t c a:Int} (h:dk l n t c a=false):eY l n t c a=[]:=by simp[eY,h]
theorem yo {l:List ByteArray} {n t c:Nat} {a:Int} (h:dk l n t c a=true):eY l n t c a=slV l t c a n:=by simp[eY,h]
def nF (d:ae) (p:Int):Bool:=ag d.tab&&decide (0≤p∧p<(pgN d.tab (d.rw*d.ac):Int))
def dX (d:ae) (p:Int):List Int:=if nF d p=true then iu d.rw d.ac d.tab p.toNat else[]
end Go.Proofs.YtfmjklgfpiffbaaGreatDoor
namespace Go.Proofs.YtfmjklgfpiffbaaGreatDoor
open Go.RowKit Go.Proofs.Tryz
set_option linter.unusedVariables false
set_option linter.unusedSimpArgs false
set_option maxRecDepth 100000
set_option maxHeartbeats 8000000
attribute [local go_sem ↓] Go.wp_at_zero Go.wp_at_succ
def iF (r a i:Int) (l:List Int):Bool:=dA r a i&&ag l&&mA i.toNat l r.toNat a.toNat
def ptS (r a i:Int) (l:List Int):ByteArray:=shS i.toNat l r.toNat a.toNat
theorem Hc (r a i:Int) (v:Value) (l:List Int) (w:World) (hv:ai w v l) (hT:Tab w):
  Calls prog 194 #[.agg #[.int .i64 r,.int .i64 a,.int .i64 i],v] w fun e w'=>vh (ptS r a i l) (iF r a i l=true) e∧Below w.heap.size w w':=by
 cases hq:dA r a i
 ·have HN:=Hy (show ¬iF r a i l=true by unfold iF;rw[hq];simp)
  obtain⟨B,cp,rfl,-,-,-⟩:=hv.open_
  have K1:=Blk.new w 29 [.int .i64 r,.int .i64 a,.int .i64 i]
  have B1:=ab w (.cells #[.int .i64 r,.int .i64 a,.int .i64 i] 29)
  obtain⟨a0,a1,a2⟩:=K1.lay
  clear hv
  go_enter func194,ntmps194
  go_wp2_with fail
  refine(eD r a i _).mono ?_
  rintro e w2 ⟨rfl,b2⟩
  have HB:=Hy (aa B1 b2)
  rw[hq]
  clear hq a0 a1 a2 b2 B1 K1
  go_wp2
  go_ret2
  exact⟨.inr ⟨HN.out,rfl⟩,HB.out⟩
 ·obtain⟨R,A,W,rfl,rfl,rfl,h1,h2,h3⟩:=mS hq
  cases ht:ag l
  ·have HN:=Hy (show ¬iF R A W l=true by unfold iF;rw[ht];simp)
   have HV:=Hy hv
   obtain⟨B,cp,rfl,-,-,-⟩:=hv.open_
   have K1:=Blk.new w 29 [.int .i64 R,.int .i64 A,.int .i64 W]
   have B1:=ab w (.cells #[.int .i64 R,.int .i64 A,.int .i64 W] 29)
   obtain⟨a0,a1,a2⟩:=K1.lay
   clear hv
   go_enter func194,ntmps194
   go_wp2_with fail
   refine(eD R A W _).mono ?_
   rintro e w2 ⟨rfl,b2⟩
   have HB:=Hy (aa B1 b2)
   rw[hq]
   clear hq a0 a1 a2 b2 B1 K1
   go_wp2_with fail
   refine(aF _ l _ (HV.out.bel HB.out)).mono ?_
   rw[ht]
   rintro e w3 ⟨rfl,rfl⟩
   go_wp2
   go_ret2
   exact⟨.inr ⟨HN.out,rfl⟩,HB.out⟩
  ·refine(re R A W (R*A) v l w hv h1 h2 h3 (ay ht).2.1 rfl hT).mono fun e w' ⟨T,b⟩=>⟨?_,b⟩
   have hS:ptS R A W l=shS W l R A:=rfl
   have hO:iF R A W l=true↔ag l=true∧mA W l R A=true:=by
    unfold iF
    rw[hq]
    simp
   rcases T with ⟨hP,rfl⟩|⟨hP,rfl⟩
   ·exact .inl ⟨hO.2 hP,by rw[hS]⟩
   ·exact .inr ⟨fun h=>hP (hO.1 h),rfl⟩
theorem xm (r a i:Int) (v:Value) (l:List Int) (w:World) (hv:ai w v l):
  Calls prog 77 #[.agg #[.int .i64 r,.int .i64 a,.int .i64 i],v] w fun e w'=>vh (ptS r a i l) (iF r a i l=true) e∧Below w.heap.size w w':=by
 cases hq:dA r a i
 ·have HN:=Hy (show ¬iF r a i l=true by unfold iF;rw[hq];simp)
  obtain⟨B,cp,rfl,-,-,-⟩:=hv.open_
  have K1:=Blk.new w 29 [.int .i64 r,.int .i64 a,.int .i64 i]
  have B1:=ab w (.cells #[.int .i64 r,.int .i64 a,.int .i64 i] 29)
  obtain⟨a0,a1,a2⟩:=K1.lay
  clear hv
  go_enter func77,ntmps77
  go_wp2_with fail
  refine(eE r a i _).mono ?_
  rintro e w2 ⟨rfl,b2⟩
  have HB:=Hy (aa B1 b2)
  rw[hq]
  clear hq a0 a1 a2 b2 B1 K1
  go_wp2
  go_ret2
  exact⟨.inr ⟨HN.out,rfl⟩,HB.out⟩
 ·obtain⟨R,A,W,rfl,rfl,rfl,h1,h2,h3⟩:=mS hq
  cases ht:ag l
  ·have HN:=Hy (show ¬iF R A W l=true by unfold iF;rw[ht];simp)
   have HV:=Hy hv
   obtain⟨B,cp,rfl,-,-,-⟩:=hv.open_
   have K1:=Blk.new w 29 [.int .i64 R,.int .i64 A,.int .i64 W]
   have B1:=ab w (.cells #[.int .i64 R,.int .i64 A,.int .i64 W] 29)
   obtain⟨a0,a1,a2⟩:=K1.lay
   clear hv
   go_enter func77,ntmps77
   go_wp2_with fail
   refine(eE R A W _).mono ?_
   rintro e w2 ⟨rfl,b2⟩
   have HB:=Hy (aa B1 b2)
   rw[hq]
   clear hq a0 a1 a2 b2 B1 K1
   go_wp2_with fail
   refine(ax _ l _ (HV.out.bel HB.out)).mono ?_
   rw[ht]
   rintro e w3 ⟨rfl,rfl⟩
   go_wp2
   go_ret2
   exact⟨.inr ⟨HN.out,rfl⟩,HB.out⟩
  ·refine(yD R A W (R*A) v l w hv h1 h2 h3 (ay ht).2.1 rfl).mono fun e w' ⟨T,b⟩=>⟨?_,b⟩
   have hS:ptS R A W l=shS W l R A:=rfl
   have hO:iF R A W l=true↔ag l=true∧mA W l R A=true:=by
    unfold iF
    rw[hq]
    simp
   rcases T with ⟨hP,rfl⟩|⟨hP,rfl⟩
   ·exact .inl ⟨hO.2 hP,by rw[hS]⟩
   ·exact .inr ⟨fun h=>hP (hO.1 h),rfl⟩
theorem FI {a:ByteArray} {ls:List ByteArray} (h:ls≠[]):∃U,cC a ls=U++⟨#[10]⟩:=by
 obtain⟨s,x,rfl⟩:∃s x,ls=s++[x]:=⟨ls.dropLast,ls.getLast h,(List.dropLast_concat_getLast h).symm⟩
 rw[tA,←ByteArray.append_assoc]
 exact⟨_,rfl⟩
theorem Dc {l:List Int} {R M p:Nat} (hR:1≤R) (hM:1≤M) (hp:p<pgN l M):0<eT l R M p:=by
 have h1:p*M<l.length:=by
  unfold pgN at hp
  have h2:=(Nat.le_div_iff_mul_le (show 0<M by omega)).1 (show p+1≤(l.length+M-1) / M by omega)
  rw[Nat.succ_mul] at h2
  omega
 unfold eT
 have h3:=dF l M p
 omega
theorem GO {W:Nat} {l:List Int} {R A:Nat} (ht:ag l=true) (hR:1≤R) (hA:1≤A):∃U,shS W l R A=U++⟨#[10]⟩:=by
 have hM:1≤R*A:=Nat.mul_pos hR hA
 have t1:=(ay ht).1
 have hn:1≤pgN l (R*A):=by
  unfold pgN
  rw[Nat.le_div_iff_mul_le (by omega)]
  omega
 unfold shS
 obtain⟨n,hn2⟩:∃n,pgN l (R*A)=n+1:=⟨pgN l (R*A)-1,by omega⟩
 rw[hn2]
 show ∃U,cC _ (pgL W l R (R*A) n)=U++⟨#[10]⟩
 refine FI fun e=>?_
 have h1:=rW W l R (R*A) n
 rw[e] at h1
 have h2:=Dc (l:=l) (R:=R) (M:=R*A) (p:=n) hR hM (by omega)
 simp at h1
 omega
def jT (d:ae):ByteArray:=if dQ d=true then(df d).extract 0 ((df d).size-1) else⟨#[110,111]⟩
theorem Gh (U:ByteArray):(U++⟨#[10]⟩).extract 0 ((U++⟨#[10]⟩).size-1)=U:=by
 have e:(U++(⟨#[10]⟩:ByteArray)).size-1=U.size:=by rw[Ii];rfl
 rw[e,gF]
 unfold mid
 have hl:(U++(⟨#[10]⟩:ByteArray)).data.toList=U.data.toList++[10]:=by simp
 have hs:U.data.toList.length=U.size:=Array.length_toList
 rw[hl,List.drop_zero,Nat.sub_zero,List.take_append_of_le_length (by omega),List.take_of_length_le (by omega)]
 exact gg U
theorem kK {d:ae} (ok:d.Ok):jT d++⟨#[10]⟩=df d:=by
 unfold jT
 split
 ·rename_i h
  have h2:=h
  unfold dQ at h2
  rw[Is] at h2
  obtain⟨U,hU⟩:=GO (W:=d.wi) (l:=d.tab) (R:=d.rw) (A:=d.ac) h2.1 ok.rw.1 ok.ac.1
  have e:df d=U++⟨#[10]⟩:=by unfold df;rw[if_pos h];exact hU
  rw[e,Gh]
 ·rename_i h
  unfold df
  rw[if_neg h]
  rfl
theorem Eo {d:ae} (ok:d.Ok):iF d.rw d.ac d.wi d.tab=dQ d:=by
 unfold iF dQ
 have:dA (d.rw:Int) (d.ac:Int) (d.wi:Int)=true:=fl ok.rw ok.ac ok.wi
 rw[this]
 rfl
theorem pU (d:ae) (v:Value) (w:World) (hv:ai w v d.tab) (ok:d.Ok):
  Calls prog 37 #[.agg #[.int .i64 d.rw,.int .i64 d.ac,.int .i64 d.wi],v] w fun e w'=>e=.returned (.string (jT d))∧Below w.heap.size w w':=by
 have HV:=Hy hv
 have OK:=Hy ok
 have K1:=Blk.new w 29 [.int .i64 d.rw,.int .i64 d.ac,.int .i64 d.wi]
 have B1:=ab w (.cells #[.int .i64 d.rw,.int .i64 d.ac,.int .i64 d.wi] 29)
 obtain⟨a0,a1,a2⟩:=K1.lay
 obtain⟨A,c,rfl,-,-,-⟩:=hv.open_
 clear hv ok
 have HB1:=Hy B1
 have HP:=Hy (Eo OK.out)
 clear B1 K1
 go_enter func37,ntmps37
 go_wp2_with fail
 refine(xm d.rw d.ac d.wi _ d.tab _ (HV.out.bel HB1.out)).mono ?_
 rintro e w2 ⟨T,b2⟩
 have HB:=Hy (aa HB1.out b2)
 clear a0 a1 a2 b2
 rcases T with ⟨hP,rfl⟩|⟨hP,rfl⟩
 ·rw[HP.out] at hP
  have HS:=Hy (show jT d=(df d).extract 0 ((df d).size-1) by unfold jT;rw[if_pos hP])
  have e1:ptS d.rw d.ac d.wi d.tab=df d:=by unfold df;rw[if_pos hP];rfl
  have hz:=congrArg ByteArray.size (kK OK.out)
  rw[Ii] at hz
  have h1:(⟨#[10]⟩:ByteArray).size=1:=rfl
  have hmx:(df d).size≤30000:=by
   have h2:=hP
   unfold dQ at h2
   rw[Is] at h2
   have:=yd h2.2 OK.out.rw.1 OK.out.ac.1 OK.out.wi.2 OK.out.tab
   unfold df
   rw[if_pos hP]
   omega
  obtain⟨T,hT⟩:∃T,df d=T:=⟨_,rfl⟩
  rw[e1,hT]
  rw[hT] at HS hz hmx
  obtain⟨m,hm⟩:∃m,T.size-1=m:=⟨_,rfl⟩
  rw[hm] at HS
  have hmi:(T.size:Int)-1=(m:Int):=by omega
  have hm0:(m:Int)≤(T.size:Int):=by omega
  have hm1:(0:Int)≤(m:Int):=by omega
  have hm2:IntKind.i64.wrap ((T.size:Int)-1)=(m:Int):=(IntWalk.i64_left _).trans ((IntWalk.wrap64_in _ (by omega)).trans hmi)
  have hm3:m≤T.size:=by omega
  clear e1 hT hP hz h1 hmi hm
  go_wp2
  go_ret
  exact⟨by rw[HS.out];rfl,HB.out⟩
 ·rw[HP.out] at hP
  have HS:=Hy (show jT d=⟨#[110,111]⟩ by unfold jT;rw[if_neg hP])
  clear hP
  go_wp2
  go_ret
  exact⟨by rw[HS.out];rfl,HB.out⟩
theorem qJ (c t a:Int) (w:World):
  Calls prog 203 #[.int .i64 c,.int .i64 t,.int .i64 a] w fun e w'=>e=.returned (.bool (slN c t a))∧w'=w:=by
 cases h1:inB c 0 6
 ·have HN:=Hy (show slN c t a=false by unfold slN;rw[h1];rfl)
  go_enter func203,ntmps203
  go_wp2_with fail
  refine(dm c _).mono ?_
  rw[h1]
  rintro e w2 ⟨rfl,rfl⟩
  go_wp2
  go_ret
  exact⟨by rw[HN.out];rfl,rfl⟩
 ·by_cases h2:0≤t∧t<60
  ·obtain⟨h2a,h2b⟩:=h2
   have HN:=Hy (show slN c t a=inB a (-100000) 100000 by unfold slN;rw[h1,am.2 (show 0≤t∧t≤59 by omega)];rfl)
   go_enter func203,ntmps203
   go_wp2_with fail
   refine(dm c _).mono ?_
   rw[h1]
   rintro e w2 ⟨rfl,rfl⟩
   go_wp2_with fail
   refine(aZ a 100000 _ (by omega) (by omega)).mono ?_
   rintro e w3 ⟨rfl,rfl⟩
   go_wp2
   go_ret
   exact⟨by rw[HN.out];rfl,rfl⟩
  ·have HN:=Hy (show slN c t a=false by unfold slN;rw[br.2 (show ¬(0≤t∧t≤59) by omega)];simp)
   by_cases h2a:0≤t
   ·have h2b:¬t<60:=by omega
    go_enter func203,ntmps203
    go_wp2_with fail
    refine(dm c _).mono ?_
    rw[h1]
    rintro e w2 ⟨rfl,rfl⟩
    go_wp2
    go_ret
    exact⟨by rw[HN.out];rfl,rfl⟩
   ·go_enter func203,ntmps203
    go_wp2_with fail
    refine(dm c _).mono ?_
    rw[h1]
    rintro e w2 ⟨rfl,rfl⟩
    go_wp2
    go_ret
    exact⟨by rw[HN.out];rfl,rfl⟩
theorem yK (u:Value) (l:List ByteArray) (n t cc:Nat) (a:Int) (w:World) (hu:aG w u l) (ok:af l=true) (hn:n≤60) (ht:t<60) (hcc6:cc≤6) (hcc:cc<l.length) (ha : -100000≤a∧a≤100000):
  Calls prog 125 #[.agg #[u],.int .i64 n,.int .i64 t,.int .i64 cc,.int .i64 a] w fun e w'=>∃r,e=.returned (.tuple #[r,.bool true])∧Own w' w.heap.size r (slV l t cc a n)∧Below w.heap.size w w':=by
 have HU:=Hy hu
 have OK:=Hy ok
 obtain⟨l1,l7,-⟩:=ap.1 ok
 obtain⟨A,c,rfl,-,-,-⟩:=hu.open_
 clear hu ok
 have B0:=Hy (show Below w.heap.size w (w.alloc (.cells #[.slice A l.length c] 32)) from ab w _)
 have K0:=Blk.new' w 32 (.slice A l.length c) w.heap.size rfl
 obtain⟨c0,-⟩:=K0.one
 have hn1:(0:Int)≤(n:Int):=by omega
 have hn2:(n:Int)≤60:=by omega
 have hl1:(0:Int)<(l.length:Int):=by omega
 have hl2:¬(l.length:Int)≤(cc:Int):=by omega
 have HSL:=Hy (show slN cc t a=true by unfold slN;rw[am.2 (show(0:Int)≤(cc:Int)∧(cc:Int)≤6 by omega),am.2 (show(0:Int)≤(t:Int)∧(t:Int)≤59 by omega),am.2 ha];rfl)
 have hci1:(0:Int)≤(cc:Int):=by omega
 have hci2:(cc:Int)<(l.length:Int):=by omega
 have hlne:¬l=[]:=by rintro rfl;simp at l1
 go_enter func125,ntmps125
 go_wp2_with fail
 clear c0
 generalize hW:w.alloc (.cells #[.slice A l.length c] 32)=W at *
 have hWz:W.heap.size=w.heap.size+1:=by rw[←hW];simp
 clear hW
 refine(bK _ l _ (HU.out.bel B0.out)).mono ?_
 rintro e w2 ⟨rfl,hb⟩
 rw[OK.out]
 replace K0:=K0.below hb K0.lt
 have HB:=Hy (aa B0.out hb)
 have hz2:=hb.size
 clear hb
 obtain⟨c0,-⟩:=K0.one
 go_wp2_with fail
 refine(show Calls prog 202 #[.int .i64 n] w2 fun e w'=>e=.returned (.bool true)∧w'=w2 by
  clear c0 K0
  go_enter func202,ntmps202
  go_wp2
  go_ret
  exact⟨rfl,rfl⟩).mono ?_
 rintro e w2' ⟨rfl,rfl⟩
 go_wp2_with fail
 refine(qJ cc t a _).mono ?_
 rw[HSL.out]
 rintro e w2'' ⟨rfl,rfl⟩
 go_wp2_with fail
 refine(fy _ l _ (HU.out.bel HB.out) (by omega)).mono ?_
 rintro e w3 ⟨r,rfl,ho,hb1⟩
 have HB3:=Hy (aa HB.out hb1)
 have hmk:=fun W=>Tryz.mkInts n (by omega) W
 have hz3:=hb1.size
 have HO:=Hy (ho.bel (ab w3 (.cells (bD n (.int .i64 0)).toArray 3)))
 have HN:=Hy (show ∀q,r.ownBlock=some q→w3.heap.size≠q from fun q hq=>by have:=(ho.lt q hq).2;omega)
 have HB4:=Hy (aa HB3.out (ab w3 (.cells (bD n (.int .i64 0)).toArray 3)))
 have KR:=Blk.new w3 3 (bD n (.int .i64 0))
 obtain⟨A3,c3,rfl,-,-,-⟩:=ho.strs.open_
 clear c0 K0 hb1 ho
 go_wp2_with fail
 generalize hW:w3.alloc (.cells (bD n (.int .i64 0)).toArray 3)=w4 at *
 clear hW
 go_loopw [12,44] (fun x i wr=>∃(k:Nat) (cs:List Value),k≤n∧i=.int .i64 k∧Blk wr w3.heap.size 3 cs∧cs.length=n∧(∀j,j<k→cs[j]?=some (.int .i64 (slR l t cc a j)))∧ak wr w.heap.size x (fd l t cc a k)∧(∀q,x.ownBlock=some q→w3.heap.size≠q)∧Below w.heap.size w wr)
  (fun _ i _=>n-(intOf i).toNat)
 case atStart=>exact⟨0,_,Ip _,rfl,KR,bm _ _,fun j hj=>absurd hj (Nat.not_lt_zero _),HO.out.lower (by omega),HN.out,HB4.out⟩
 case round=>
  obtain⟨k,cs,hk,rfl,hblk,hcl,hcs,hx,hne,hbel⟩:=hrel
  have H:=Hy (Ie hcl (Ie hcs (Ie hx (Ie hne hbel))))
  have HBK:=Hy hblk
  have hbz:=hblk.lt
  have hlP:=my l t cc a k
  have OP:=Hy (mU OK.out t cc a k)
  clear hcl hcs hx hne hbel hblk KR
  by_cases hlt:k<n
  ·obtain⟨P,hP⟩:∃P,fd l t cc a k=P:=⟨_,rfl⟩
   have HSP:=Hy (show slT (fd l t cc a k) t cc a k=if k=t then kC (fd l t cc a k) cc a else fd l t cc a k from rfl)
   rw[hP] at hlP OP HSP
   have HPQ:=Hy hP
   have HX:=Hy (show ak wr w.heap.size _ P by rw[←hP];exact H.out.2.2.1)
   clear hP
   obtain⟨g,cap,rfl,-,hgz,-,-,hcell⟩:=HX.out.openS (by omega)
   obtain⟨ca,fa⟩:=hcell cc (by omega)
   obtain⟨cb,fb⟩:=hcell 0 (by omega)
   have E0:=((ap.1 OP.out).2.2 cc (by omega)).1
   have EB:=((ap.1 OP.out).2.2 0 (by omega)).1
   have s12:=(aT E0)
   have hgr:=H.out.2.2.2.1 g rfl
   have hcw:wr.cell? ⟨w3.heap.size,k,none⟩=some (cs[k]'(by rw[H.out.1];exact hlt)):=by rw[HBK.out.cell];exact List.getElem?_eq_getElem _
   have hfw:=HBK.out.frozen k
   rw[hlP] at HX ⊢
   clear hcell
   by_cases hkt:k=t
   ·subst hkt
    have HS0:=Hy (show slT P k cc a k=kC P cc a by rw[HSP.out,if_pos rfl])
    clear cb fb EB
    obtain⟨Z,hZ⟩:∃Z,sat P cc=Z:=⟨_,rfl⟩
    rw[hZ] at ca E0 s12
    have HZ:=Hy hZ
    have k12:=s12.2.1
    have c1:=iA E0
    have hT:=eh k12
    have hT1:=fL Z.size
    have hm:md ((cv Z:Int)+a) (ten Z.size)<1000000000000:=by have:=gP ((cv Z:Int)+a) hT1;omega
    clear hZ s12
    go_wp2_with (first|(go_at_call 204;refine(iL _ _ (by assumption)).mono ?_;rintro e w' ⟨rfl,rfl⟩)|(go_at_call 207;refine(dh Z.size _ k12).mono ?_;rintro e w' ⟨rfl,rfl⟩))
    refine(dj ((cv Z:Int)+a) (ten Z.size) _ ⟨hT1,hT⟩).mono ?_
    rintro e w' ⟨rfl,rfl⟩
    go_wp2_with fail
    refine(nn _ Z.size _ hm k12).mono ?_
    rintro e w5 ⟨rfl,b5⟩
    have hsc:col (md ((cv Z:Int)+a) (ten Z.size)) Z.size=kw Z a:=rfl
    rw[hsc]
    obtain⟨Y,hY⟩:∃Y,kw Z a=Y:=⟨_,rfl⟩
    have hYs:Y.size≤9223372036854775807:=by rw[←hY,nW];omega
    rw[hY]
    have HX5:=Hy (HX.out.bel b5)
    obtain⟨g5,cap5,e5,-,-,-,-,hcell5⟩:=HX5.out.openS (by omega)
    have hg5:g=g5:=by injection e5 with e5 _ _;injection e5 with e5;injection e5
    subst hg5
    obtain⟨ca5,fa5⟩:=hcell5 cc (by omega)
    rw[HZ.out] at ca5
    have HXt:=Hy (HX5.out.setJ cc Y (by omega) hYs)
    obtain⟨g6,cap6,e6,-,-,-,-,hcell6⟩:=HXt.out.openS (by rw[List.length_set];omega)
    have hg6:g=g6:=by injection e6 with e6 _ _;injection e6 with e6;injection e6
    subst hg6
    obtain⟨ca6,-⟩:=hcell6 0 (by rw[List.length_set];omega)
    have HS:=Hy (show slT P k cc a k=P.set cc Y by rw[HS0.out,←hY,←HZ.out];rfl)
    have OS:=Hy (show af (P.set cc Y)=true by rw[←HS.out];exact oz OP.out k cc a k)
    obtain⟨S,hS⟩:∃S,P.set cc Y=S:=⟨_,rfl⟩
    obtain⟨W0,hS0⟩:∃W0,sat S 0=W0:=⟨_,rfl⟩
    rw[hS] at HXt HS OS
    have HBKt:=Hy ((HBK.out.below b5 hbz).far (p:=⟨g,cc,none⟩) (by show w3.heap.size≠g;exact hgr) (.string Y))
    have HBt:=Hy ((aa H.out.2.2.2.2 b5).setCell (p:=⟨g,cc,none⟩) (by show w.heap.size≤g;have:=(HX5.out.lt g rfl).1;exact this) (.string Y))
    have hcw6:(w5.setCell ⟨g,cc,none⟩ (.string Y)).cell? ⟨w3.heap.size,k,none⟩=some (cs[k]'(by rw[H.out.1];exact hlt)):=by rw[HBKt.out.cell];exact List.getElem?_eq_getElem _
    have hfw6:=HBKt.out.frozen k
    have ES:=(ap.1 OS.out).2.2 0 (by rw[←hS,List.length_set];omega)
    replace ES:=ES.1
    have ca7:(w5.setCell ⟨g,cc,none⟩ (.string Y)).cell? ⟨g,0,none⟩=some (.string W0):=by rw[ca6];rw[show sat (P.set cc Y) 0=W0 by rw[hS];exact hS0]
    rw[hS0] at ES
    have HS00:=Hy hS0
    clear hS hS0 hcell5 hcell6 e5 e6 b5 hcw hfw ca fa ca6 hY E0
    go_wp2_with fail
    generalize hW:w5.setCell ⟨g,cc,none⟩ (.string Y)=wt at HXt HBKt HBt hcw6 hfw6 ca7 ⊢
    clear hW
    rw[←HS00.out] at ES ⊢
    refine(ln (sat S 0) _ ES).mono ?_
    rintro e wt' ⟨rfl,hwt⟩
    subst hwt
    obtain⟨V,hV⟩:∃V,sg (sat S 0)=V:=⟨_,rfl⟩
    have hVb:=nV ES
    rw[hV] at hVb ⊢
    have HV2:=Hy hV
    clear hV
    have HX2:=Hy (HXt.out.apart (u:=.slice (some ⟨w3.heap.size,0,none⟩) n n) (jI _ w3.heap.size k (.int .i64 V)) (fun q hq e=>by have h1:g=q:=It hq;have h2:w3.heap.size=q:=It e;exact hgr (h2.trans h1.symm)))
    have KR2:=Hy (HBKt.out.set_ k (.int .i64 V))
    have HB2:=Hy (HBt.out.setCell (p:=⟨w3.heap.size,k,none⟩) (by show w.heap.size≤w3.heap.size;omega) (.int .i64 V))
    have hgr2:=KR2.out.lt
    go_wp2_with fail
    generalize hW:wt.setCell ⟨w3.heap.size,k,none⟩ (.int .i64 V)=w7 at HX2 KR2 HB2 hgr2 ⊢
    clear hW
    refine(iz _ S _ HX2.out.strs OS.out).mono ?_
    rintro e w8 ⟨r8,rfl,o8,b8⟩
    have HO8:=Hy (o8.lower (base':=w.heap.size) (by have:=HB2.out.size;omega))
    have HN8:=Hy (show ∀q,r8.ownBlock=some q→w3.heap.size≠q from fun q hq e=>by have:=(o8.lt q hq).1;omega)
    have KR8:=Hy (KR2.out.below b8 hgr2)
    have HB8:=Hy (aa HB2.out b8)
    obtain⟨A8,c8,rfl,-,-,-⟩:=o8.strs.open_
    clear o8 b8
    go_wp2_with fail
    go_roundw
    case rel=>
     refine⟨k+1,cs.set k (.int .i64 V),by omega,by go_num,KR8.out,by rw[List.length_set];exact H.out.1,fun j hj=>?_,by show ak _ _ _ (bB (slT (fd l k cc a k) k cc a k));rw[HPQ.out,HS.out];exact HO8.out,HN8.out,HB8.out⟩
     by_cases e:j=k
     ·subst e
      rw[List.getElem?_set_self (by rw[H.out.1];exact hlt),show slR l j cc a j=sg (sat (slT (fd l j cc a j) j cc a j) 0) from rfl,HPQ.out,HS.out,HV2.out]
     ·rw[List.getElem?_set_ne (by omega)]
      exact H.out.2.1 j (by omega)
    case measure=>simp[intOf];omega
   ·have hkti:¬(k:Int)=(t:Int):=by omega
    have hktb:((k:Int)==(t:Int))=false:=by simp[hkti]
    have HS:=Hy (show slT P t cc a k=P by rw[HSP.out,if_neg hkt])
    have HXt:=HX
    have HBKt:=HBK
    have OS:=OP
    obtain⟨S,hS⟩:∃S,P=S:=⟨_,rfl⟩
    subst hS
    have ES:=EB
    have HBt:=Hy H.out.2.2.2.2
    obtain⟨wt,hwt⟩:∃wt,wt=wr:=⟨_,rfl⟩
    subst hwt
    clear hkt
    go_wp2_with fail
    refine(ln (sat P 0) _ ES).mono ?_
    rintro e wt' ⟨rfl,hwt⟩
    subst hwt
    obtain⟨V,hV⟩:∃V,sg (sat P 0)=V:=⟨_,rfl⟩
    have hVb:=nV ES
    rw[hV] at hVb ⊢
    have HV2:=Hy hV
    clear hV
    have HX2:=Hy (HXt.out.apart (u:=.slice (some ⟨w3.heap.size,0,none⟩) n n) (jI _ w3.heap.size k (.int .i64 V)) (fun q hq e=>by have h1:g=q:=It hq;have h2:w3.heap.size=q:=It e;exact hgr (h2.trans h1.symm)))
    have KR2:=Hy (HBKt.out.set_ k (.int .i64 V))
    have HB2:=Hy (HBt.out.setCell (p:=⟨w3.heap.size,k,none⟩) (by show w.heap.size≤w3.heap.size;omega) (.int .i64 V))
    have hgr2:=KR2.out.lt
    go_wp2_with fail
    generalize hW:wt.setCell ⟨w3.heap.size,k,none⟩ (.int .i64 V)=w7 at HX2 KR2 HB2 hgr2 ⊢
    clear hW
    refine(iz _ P _ HX2.out.strs OS.out).mono ?_
    rintro e w8 ⟨r8,rfl,o8,b8⟩
    have HO8:=Hy (o8.lower (base':=w.heap.size) (by have:=HB2.out.size;omega))
    have HN8:=Hy (show ∀q,r8.ownBlock=some q→w3.heap.size≠q from fun q hq e=>by have:=(o8.lt q hq).1;omega)
    have KR8:=Hy (KR2.out.below b8 hgr2)
    have HB8:=Hy (aa HB2.out b8)
    obtain⟨A8,c8,rfl,-,-,-⟩:=o8.strs.open_
    clear o8 b8
    go_wp2_with fail
    go_roundw
    case rel=>
     refine⟨k+1,cs.set k (.int .i64 V),by omega,by go_num,KR8.out,by rw[List.length_set];exact H.out.1,fun j hj=>?_,by show ak _ _ _ (bB (slT (fd l t cc a k) t cc a k));rw[HPQ.out,HS.out];exact HO8.out,HN8.out,HB8.out⟩
     by_cases e:j=k
     ·subst e
      rw[List.getElem?_set_self (by rw[H.out.1];exact hlt),show slR l t cc a j=sg (sat (slT (fd l t cc a j) t cc a j) 0) from rfl,HPQ.out,HS.out,HV2.out]
     ·rw[List.getElem?_set_ne (by omega)]
      exact H.out.2.1 j (by omega)
    case measure=>simp[intOf];omega
  ·have hke:k=n:=by omega
   subst hke
   go_wp2_with fail
   go_ret2
   refine⟨_,rfl,?_,H.out.2.2.2.2⟩
   exact ji (f:=fun j=>slR l t cc a j) (by omega) HBK.out H.out.1 (by omega) H.out.2.1 (fun j hj=>by
    have hc2:=AO OK.out t cc a j
    omega)
theorem Aa (n:Int) (w:World):Calls prog 202 #[.int .i64 n] w fun e w'=>e=.returned (.bool (inB n 0 60))∧w'=w:=by
 by_cases h1:0≤n
 ·by_cases h2:n≤60
  ·have HN:=Hy (show inB n 0 60=true from am.2 ⟨h1,h2⟩)
   go_enter func202,ntmps202
   go_wp2
   go_ret
   exact⟨by rw[HN.out];rfl,rfl⟩
  ·have HN:=Hy (show inB n 0 60=false from br.2 (by omega))
   go_enter func202,ntmps202
   go_wp2
   go_ret
   exact⟨by rw[HN.out];rfl,rfl⟩
 ·have HN:=Hy (show inB n 0 60=false from br.2 (by omega))
  go_enter func202,ntmps202
  go_wp2
  go_ret
  exact⟨by rw[HN.out];rfl,rfl⟩
theorem CB (u:Value) (l:List ByteArray) (n t cc a:Int) (w:World) (hu:aG w u l) (h:dk l n t cc a=false):
  Calls prog 125 #[.agg #[u],.int .i64 n,.int .i64 t,.int .i64 cc,.int .i64 a] w (cK w [] false):=by
 have HU:=Hy hu
 obtain⟨A,c,rfl,-,-,-⟩:=hu.open_
 clear hu
 have B0:=Hy (show Below w.heap.size w (w.alloc (.cells #[.slice A l.length c] 32)) from ab w _)
 have K0:=Blk.new' w 32 (.slice A l.length c) w.heap.size rfl
 obtain⟨c0,-⟩:=K0.one
 have HS:=Hy h
 clear h
 go_enter func125,ntmps125
 go_wp2_with fail
 clear c0
 generalize hW:w.alloc (.cells #[.slice A l.length c] 32)=W at *
 clear hW
 refine(bK _ l _ (HU.out.bel B0.out)).mono ?_
 rintro e w2 ⟨rfl,hb⟩
 replace K0:=K0.below hb K0.lt
 have HB:=Hy (aa B0.out hb)
 clear hb
 obtain⟨c0,-⟩:=K0.one
 cases he:af l
 ·clear he
  go_wp2
  go_ret2
  exact⟨_,rfl,Own.nil_ _ _,HB.out⟩
 ·go_wp2_with fail
  refine(Aa n _).mono ?_
  rintro e w3 ⟨rfl,rfl⟩
  cases hn:inB n 0 60
  ·clear he hn
   go_wp2
   go_ret2
   exact⟨_,rfl,Own.nil_ _ _,HB.out⟩
  ·go_wp2_with fail
   refine(qJ cc t a _).mono ?_
   rintro e w3 ⟨rfl,rfl⟩
   cases hs:slN cc t a
   ·clear he hn hs
    go_wp2
    go_ret2
    exact⟨_,rfl,Own.nil_ _ _,HB.out⟩
   ·have hle:(l.length:Int)≤cc:=by
     have:=HS.out
     unfold dk at this
     rw[he,hn,hs] at this
     have:=of_decide_eq_false (by simpa using this:decide (cc<(l.length:Int))=false)
     omega
    clear he hn hs
    go_wp2
    go_ret2
    exact⟨_,rfl,Own.nil_ _ _,HB.out⟩
theorem pu {l:List ByteArray} {n t c a:Int} (h:dk l n t c a=true):af l=true∧(0≤n∧n≤60)∧(0≤c∧c≤6)∧(0≤t∧t≤59)∧(-100000≤a∧a≤100000)∧c<(l.length:Int):=by
 unfold dk slN at h
 rw[Is,Is,Is,Is,Is] at h
 obtain⟨⟨⟨h1,h2⟩,⟨h3,h4⟩,h5⟩,h6⟩:=h
 exact⟨h1,am.1 h2,am.1 h3,am.1 h4,am.1 h5,of_decide_eq_true h6⟩
theorem y9 (u:Value) (l:List ByteArray) (n t cc a:Int) (w:World) (hu:aG w u l):
  Calls prog 125 #[.agg #[u],.int .i64 n,.int .i64 t,.int .i64 cc,.int .i64 a] w (cK w (eY l n t cc a) (dk l n t cc a)):=by
 cases h:dk l n t cc a
 ·rw[vu h]
  exact CB u l n t cc a w hu h
 ·obtain⟨h1,h2,h3,h4,h5,h6⟩:=pu h
  obtain⟨n,rfl⟩:∃k:Nat,n=k:=⟨n.toNat,by omega⟩
  obtain⟨t,rfl⟩:∃k:Nat,t=k:=⟨t.toNat,by omega⟩
  obtain⟨cc,rfl⟩:∃k:Nat,cc=k:=⟨cc.toNat,by omega⟩
  rw[yo h]
  exact yK u l n t cc a w hu h1 (by omega) (by omega) (by omega) (by omega) h5
theorem rv (c t a:Int) (w:World):
  Calls prog 161 #[.int .i64 c,.int .i64 t,.int .i64 a] w fun e w'=>e=.returned (.bool (slN c t a))∧w=w':=by
 have HN:=Hy (show slN c t a=((inB c 0 6&&inB t 0 59)&&inB a (-100000) 100000) from rfl)
 go_enter func161,ntmps161
 go_wp2_with fail
 refine(aL _ _ _ _).mono ?_
 rintro e w2 ⟨rfl,rfl⟩
 cases h1:inB c 0 6
 ·rw[h1] at HN
  go_wp2
  go_ret
  exact⟨by rw[HN.out];rfl,rfl⟩
 ·rw[h1] at HN
  go_wp2_with fail
  refine(aL _ _ _ _).mono ?_
  rintro e w2 ⟨rfl,rfl⟩
  cases h2:inB t 0 59
  ·rw[h2] at HN
   go_wp2
   go_ret
   exact⟨by rw[HN.out];rfl,rfl⟩
  ·rw[h2] at HN
   go_wp2_with fail
   refine(aL _ _ _ _).mono ?_
   rintro e w2 ⟨rfl,rfl⟩
   go_wp2
   go_ret
   exact⟨by rw[HN.out];rfl,rfl⟩
theorem AV (u:Value) (l:List ByteArray) (n t cc a:Int) (w:World) (hu:aG w u l) (h:dk l n t cc a=false):
  Calls prog 87 #[.agg #[u],.int .i64 n,.int .i64 t,.int .i64 cc,.int .i64 a] w (cK w [] false):=by
 have HU:=Hy hu
 obtain⟨A,c,rfl,-,-,-⟩:=hu.open_
 clear hu
 have B0:=Hy (show Below w.heap.size w ((w.alloc (.cells #[.slice A l.length c] 32)).alloc (.cells #[] 3)) from(ab w _).alloc (by simp) _)
 have K0:=(Blk.new' w 32 (.slice A l.length c) w.heap.size rfl).alloc (.cells #[] 3)
 have OE:=Own.empty (w.alloc (.cells #[.slice A l.length c] 32)) (w.heap.size+1) (by simp)
 rw[show(w.alloc (.cells #[.slice A l.length c] 32)).heap.size=w.heap.size+1 by simp] at OE
 obtain⟨c0,-⟩:=K0.one
 have HS:=Hy h
 clear h
 go_enter func87,ntmps87
 go_wp2_with fail
 clear c0
 generalize hW:(w.alloc (.cells #[.slice A l.length c] 32)).alloc (.cells #[] 3)=W at *
 clear hW
 refine(mv _ l n _ (HU.out.bel B0.out)).mono ?_
 rintro e w2 ⟨rfl,hb⟩
 replace K0:=K0.below hb K0.lt
 have HOE:=Hy (OE.bel hb)
 have HB:=Hy (aa B0.out hb)
 have hz:=HB.out.size
 clear hb OE
 obtain⟨c0,-⟩:=K0.one
 cases hn:ci l n
 ·clear hn
  go_wp2
  go_ret2
  exact⟨_,rfl,HOE.out.lower (by omega),HB.out⟩
 ·go_wp2_with fail
  refine(rv cc t a _).mono ?_
  rintro e w3 ⟨rfl,rfl⟩
  cases hs:slN cc t a
  ·clear hn hs
   go_wp2
   go_ret2
   exact⟨_,rfl,HOE.out.lower (by omega),HB.out⟩
  ·have hle:(l.length:Int)≤cc:=by
    have:=HS.out
    unfold dk at this
    unfold ci at hn
    rw[hn,hs] at this
    have:=of_decide_eq_false (by simpa using this:decide (cc<(l.length:Int))=false)
    omega
   clear hn hs
   go_wp2
   go_ret2
   exact⟨_,rfl,HOE.out.lower (by omega),HB.out⟩
theorem Aj (u:Value) (l:List ByteArray) (n t cc:Nat) (a:Int) (w:World) (hu:aG w u l) (h:dk l n t cc a=true):
  Calls prog 87 #[.agg #[u],.int .i64 n,.int .i64 t,.int .i64 cc,.int .i64 a] w (cK w (slV l t cc a n) true):=by
 obtain⟨ok,hn,hc6,ht,ha,hcl⟩:=pu h
 have HRO:=Hy (show ci l n=true by unfold ci;rw[ok,am.2 hn];rfl)
 have HSL:=Hy (show slN cc t a=true by unfold slN;rw[am.2 hc6,am.2 ht,am.2 ha];rfl)
 have HU:=Hy hu
 have OK:=Hy ok
 obtain⟨l1,l7,-⟩:=ap.1 ok
 obtain⟨A,c,rfl,-,-,-⟩:=hu.open_
 clear hu h ok
 have B0:=Hy (show Below w.heap.size w ((w.alloc (.cells #[.slice A l.length c] 32)).alloc (.cells #[] 3)) from(ab w _).alloc (by simp) _)
 have K0:=(Blk.new' w 32 (.slice A l.length c) w.heap.size rfl).alloc (.cells #[] 3)
 have OE:=Own.empty (w.alloc (.cells #[.slice A l.length c] 32)) (w.heap.size+1) (by simp)
 rw[show(w.alloc (.cells #[.slice A l.length c] 32)).heap.size=w.heap.size+1 by simp] at OE
 obtain⟨c0,-⟩:=K0.one
 have hl2:¬(l.length:Int)≤(cc:Int):=by omega
 go_enter func87,ntmps87
 go_wp2_with fail
 clear c0
 generalize hW:(w.alloc (.cells #[.slice A l.length c] 32)).alloc (.cells #[] 3)=W at *
 have hWz:W.heap.size=w.heap.size+2:=by rw[←hW];simp
 clear hW
 refine(mv _ l n _ (HU.out.bel B0.out)).mono ?_
 rw[HRO.out]
 rintro e w2 ⟨rfl,hb⟩
 replace K0:=K0.below hb K0.lt
 have HOE:=OE.bel hb
 have HB:=Hy (aa B0.out hb)
 have hz2:=hb.size
 clear hb OE
 obtain⟨c0,-⟩:=K0.one
 go_wp2_with fail
 refine(rv cc t a _).mono ?_
 rw[HSL.out]
 rintro e w3 ⟨rfl,rfl⟩
 go_wp2_with fail
 refine(fs _ l _ (HU.out.bel HB.out) (by omega)).mono ?_
 rintro e w1 ⟨r,rfl,ho,hb1⟩
 obtain⟨A1,c1,rfl,-,-,-⟩:=ho.strs.open_
 have hz1:=hb1.size
 have ba:Below w1.heap.size w1 (w1.alloc (.cells #[.slice A1 l.length c1] 32)):=ab w1 _
 have K3:=Hy (Blk.new' w1 32 (.slice A1 l.length c1) _ rfl)
 have hlt1:=fun k hk=>(ho.lt k hk)
 have HO:=Hy ((ho.bel ba).lower (base':=w.heap.size+2) (by omega))
 have HN:=Hy (show ∀q,(Value.slice A1 l.length c1).ownBlock=some q→q≠w1.heap.size∧some q≠(Value.slice (some ⟨w.heap.size+1,0,none⟩) 0 0).ownBlock from fun q hq=>by
  have:=hlt1 q hq
  refine⟨by omega,fun e=>?_⟩
  simp[Value.ownBlock] at e
  omega)
 have HY0:=Hy ((HOE.bel hb1).bel ba)
 have HB4:=Hy (aa HB.out (aa hb1 ba))
 have hR1:w.heap.size+2≤w1.heap.size:=by omega
 have hYN:∀q,(Value.slice (some ⟨w.heap.size+1,0,none⟩) 0 0).ownBlock=some q→q≠w1.heap.size:=fun q hq=>by simp[Value.ownBlock] at hq;omega
 have HYN:=Hy hYN
 clear ho hb1 K0 c0 HOE hlt1 hYN
 go_wp2_with fail
 generalize hW3:w1.alloc (.cells #[.slice A1 l.length c1] 32)=W3 at *
 clear hW3 ba
 go_loopw [12,14] (fun y i wr=>∃(k:Nat) (x:Value),k≤n∧i=.int .i64 k∧Own wr (w.heap.size+1) y (slV l t cc a k)∧Blk wr w1.heap.size 32 [x]∧ak wr (w.heap.size+2) x (fd l t cc a k)∧(∀q,x.ownBlock=some q→q≠w1.heap.size∧some q≠y.ownBlock)∧(∀q,y.ownBlock=some q→q≠w1.heap.size)∧Below w.heap.size w wr)
  (fun _ i _=>n-(intOf i).toNat)
 case atStart=>exact⟨0,_,Ip _,rfl,HY0.out,K3.out,HO.out,HN.out,HYN.out,HB4.out⟩
 case round=>
  obtain⟨k,x,hk,rfl,hy,hK,hx,hxn,hyn,hbel⟩:=hrel
  have H:=Hy (Ie hy (Ie hK (Ie hx (Ie hxn (Ie hyn hbel)))))
  have hlP:=my l t cc a k
  have OP:=Hy (mU OK.out t cc a k)
  have hlV:=rC l t cc a k
  by_cases hlt:k<n
  ·have HVS:=Hy (EP l t cc a k)
   have HPS:=Hy (show fd l t cc a (k+1)=bB (slT (fd l t cc a k) t cc a k) from rfl)
   have HRR:=Hy (show slR l t cc a k=sg (sat (slT (fd l t cc a k) t cc a k) 0) from rfl)
   have HSP:=Hy (show slT (fd l t cc a k) t cc a k=if k=t then kC (fd l t cc a k) cc a else fd l t cc a k from rfl)
   have hslr:=AO OK.out t cc a k
   have OT:=Hy (oz OP.out t cc a k)
   have hlT:=qE (fd l t cc a k) t cc a k
   obtain⟨P,hP⟩:∃P,fd l t cc a k=P:=⟨_,rfl⟩
   rw[hP] at hlP OP HPS HRR HSP OT hlT
   have HX:=Hy (show ak wr (w.heap.size+2) x P by rw[←hP];exact hx)
   clear hP
   obtain⟨g,cap,rfl,hg2,hgz,hlc,hcm,hcell⟩:=HX.out.openS (by omega)
   have hP0:0<P.length:=by omega
   have hPc:cc<P.length:=by omega
   have HLT:=Hy hlT
   clear hlP hlT
   have hgs:=hxn g rfl
   have HSEP:=Hy (Ie hgs.2 hyn)
   have hg1:=hgs.1
   have hst0:=hK.lt
   have HKB:=Hy hK
   have HYB:=Hy hy
   have HBL:=Hy hbel
   clear hK hy hbel hx hxn hyn H
   by_cases hkt:k=t
   ·have HS0:=Hy (show slT P t cc a k=P.set cc (kw (sat P cc) a) by rw[HSP.out,if_pos hkt];rfl)
    obtain⟨ca,fa⟩:=hcell cc (by omega)
    have E0:=((ap.1 OP.out).2.2 cc (by omega)).1
    obtain⟨e3,-⟩:=HKB.out.one
    have hkti:(k:Int)=(t:Int):=by omega
    have hktb:((k:Int)==(t:Int))=true:=by simp[hkti]
    have hcc1:(cc:Int)<(P.length:Int):=by omega
    have hcc2:(0:Int)≤(cc:Int):=by omega
    obtain⟨Z,hZ⟩:∃Z,sat P cc=Z:=⟨_,rfl⟩
    rw[hZ] at ca E0 HS0
    have s12:=aT E0
    have c1:=iA E0
    have wz:IntKind.i64.wrap ((cv Z:Int)+a)=(cv Z:Int)+a:=(IntWalk.i64_left _).trans (IntWalk.wrap64_in _ (by omega))
    have HSH:=Hy (fun w=>lv ((cv Z:Int)+a) Z.size w (by omega) ⟨s12.1,s12.2.1⟩)
    have hsc:col (md ((cv Z:Int)+a) (ten Z.size)) Z.size=kw Z a:=rfl
    rw[hsc] at HSH
    have hYs:(kw Z a).size≤9223372036854775807:=by rw[nW];omega
    obtain⟨Y,hY⟩:∃Y,kw Z a=Y:=⟨_,rfl⟩
    rw[hY] at HSH HS0 hYs
    clear hZ hsc hY hcell hkt hkti s12
    have tok1:True:=trivial
    have tok2:True:=trivial
    go_wp2_with fail
    go_region_law (first
     |((try go_simp);go_at_call 149;have _t:=tok1;go_loud (refine(iJ Z _ E0).mono ?_;rintro e5 w5 ⟨rfl,rfl⟩;clear tok1;(try dsimp only)))
     |((try go_simp);go_at_call 162;have _t:=tok2;go_loud (refine(HSH.out _).mono ?_;rintro e5 w5 ⟨rfl,b5⟩;replace b5:Below wr.heap.size wr w5:=(by first|exact b5|exact aa ((Below.refl _ _).drew) b5);have K5:=Hy (HKB.out.below b5 hst0);obtain⟨e5,-⟩:=K5.out.one;have HX5:=Hy (HX.out.bel b5);have HB5:=Hy (aa HBL.out b5);have HY5:=Hy (HYB.out.bel b5);have ca5:=(b5.cell (by exact hgz)).trans ca;have fa5:w5.frozen? ⟨g,cc,none⟩=false:=(by obtain⟨g5,cap5,ex5,-,-,-,-,hc5⟩:=HX5.out.openS (by omega);have hg5:g=g5:=(by injection ex5 with q1 _ _;injection q1 with q1;injection q1);subst hg5;exact(hc5 cc (by omega)).2);clear tok2 b5;(try dsimp only)))
     |fail)
    all_goals
     have XT:=Hy (show ak (w5.setCell ⟨g,cc,none⟩ (.string Y)) (w.heap.size+2) (.slice (some ⟨g,0,none⟩) P.length cap) (slT P t cc a k) by rw[HS0.out];exact HX5.out.setJ cc Y (by omega) hYs)
     have KT:=Hy (K5.out.far (p:=⟨g,cc,none⟩) (by show w1.heap.size≠g;omega) (.string Y))
     have YT:=Hy (HY5.out.apart (u:=.slice (some ⟨g,0,none⟩) P.length cap) (jI w5 g cc (.string Y)) (fun q hq e=>HSEP.out.1 (by rw[hq];exact e)))
     have BT:=Hy (HB5.out.setCell (p:=⟨g,cc,none⟩) (by show w.heap.size≤g;omega) (.string Y))
     obtain⟨wt,hwt⟩:∃wt,w5.setCell ⟨g,cc,none⟩ (.string Y)=wt:=⟨_,rfl⟩
     rw[hwt] at XT KT YT BT
     first|rw[hwt]|skip
     clear hwt e3 ca fa
     obtain⟨g',cap',ex,-,-,-,-,hcS⟩:=XT.out.openS (by rw[HLT.out];omega)
     have hgg:g=g':=by injection ex with e1 _ _;injection e1 with e1;injection e1
     subst hgg
     have ca0:=(hcS 0 (by rw[HLT.out];omega)).1
     have ES:=((ap.1 OT.out).2.2 0 (by rw[HLT.out];omega)).1
     have hst:=KT.out.lt
     obtain⟨e3,-⟩:=KT.out.one
     have HVV:=Hy HRR.out.symm
     obtain⟨V,hV⟩:∃V,slR l t cc a k=V:=⟨_,rfl⟩
     rw[hV] at hslr HVS HVV
     have XS:=Hy XT.out.strs
     obtain⟨S,hS⟩:∃S,slT P t cc a k=S:=⟨_,rfl⟩
     rw[hS] at ca0 ES OT HPS HVV XS
     have XTS:=Hy (show ak wt (w.heap.size+2) (.slice (some ⟨g,0,none⟩) P.length cap) S by rw[←hS];exact XT.out)
     clear hcS ex hV hS
     go_wp2_with fail
     refine(jE _ _ ES).mono ?_
     rintro e wt2 ⟨rfl,hwt2⟩
     subst hwt2
     rw[HVV.out]
     have c3:(wt.alloc (.cells #[.int .i64 V] 3)).cell? ⟨w1.heap.size,0,none⟩=some (.slice (some ⟨g,0,none⟩) P.length cap):=((ab wt _).cell (by exact hst)).trans e3
     go_wp2_with (at_builtin;refine ec rfl (.tmp 64) (.tmp 70) (by rfl) (w.heap.size+1) u12 _ (by rfl) (by exact YT.out.bel (ab _ _)) _ _ V (by rfl) (by exact bF _ _ _) (by omega) (by rw[hlV];omega) (by simp;omega) ?_;intro v6 w6 ho6 hg6 hat6;have K6:=(KT.out.alloc (.cells #[.int .i64 V] 3)).grown hg6 (fun e=>HSEP.out.2 _ e.symm rfl);obtain⟨y3,g3⟩:=K6.one;clear e3 c3 ca0)
     have B6:=Hy ((aa BT.out (ab wt (.cells #[.int .i64 V] 3))).trans (bT hg6 (aa BT.out (ab wt (.cells #[.int .i64 V] 3))).size (fun j hj=>by have:=(YT.out.lt j hj).1;omega)))
     have X6:=Hy ((XTS.out.bel (ab wt (.cells #[.int .i64 V] 3))).apart hg6 (fun q hq e=>HSEP.out.1 (show some g=u12.ownBlock from Eq.trans (show some g=some q from hq) e.symm)))
     have H6:=Hy (Ie ho6 hat6)
     have k6:=K6.lt
     have HK6:=Hy K6
     have hz6:=B6.out.size
     clear ho6 hg6 hat6 K6
     refine(jB _ S _ X6.out.strs OT.out).mono ?_
     rintro e w7 ⟨r7,rfl,o7,b7⟩
     have K7:=HK6.out.below b7 k6
     have O7:=Hy o7
     have B7:=Hy (aa B6.out b7)
     have Y7:=Hy (H6.out.1.bel b7)
     obtain⟨A7,c7,rfl,-,-,-⟩:=o7.strs.open_
     have hsep7:∀q,v6.ownBlock=some q→q≠w1.heap.size:=fun q hq=>by
      rcases H6.out.2 with h|h
      ·exact HSEP.out.2 q (by rw[←h];exact hq)
      ·rw[hq] at h
       have:=It h
       rw[Iu] at this
       omega
     have HS7:=Hy hsep7
     have hx7:∀q,(Value.slice A7 (bB S).length c7).ownBlock=some q→w6.heap.size≤q:=fun q hq=>(O7.out.lt q hq).1
     have hv6lt:∀q,v6.ownBlock=some q→q<w6.heap.size:=fun q hq=>(H6.out.1.lt q hq).2
     have HX7:=Hy (Ie hx7 hv6lt)
     obtain⟨y7,g7⟩:=K7.one
     have HK7:=Hy K7
     clear o7 b7 hsep7 hx7 hv6lt K7 y3 g3
     go_wp2_with fail
     go_roundw
     case rel=>
      refine⟨k+1,.slice A7 (bB S).length c7,by omega,by go_num,?_,HK7.out.set_ 0 _,?_,fun q hq=>⟨?_,fun e=>?_⟩,HS7.out,B7.out.setCell (p:=⟨w1.heap.size,0,none⟩) (by show w.heap.size≤w1.heap.size;omega) _⟩
      ·rw[HVS.out]
       exact Y7.out.apart (u:=.slice (some ⟨w1.heap.size,0,none⟩) 1 1) (jI _ w1.heap.size 0 _) (fun q hq e=>HS7.out q hq (It e).symm)
      ·rw[HPS.out]
       exact(O7.out.setCell ⟨w1.heap.size,0,none⟩ _ (by show w1.heap.size<w6.heap.size;exact k6)).lower (by omega)
      ·have:=HX7.out.1 q hq
       omega
      ·have h1:=HX7.out.1 q hq
       have h2:=HX7.out.2 q e.symm
       omega
     case measure=>simp[intOf];omega
   ·have hkti:¬(k:Int)=(t:Int):=by omega
    have hktb:((k:Int)==(t:Int))=false:=by simp[hkti]
    have XT:=Hy (show ak wr (w.heap.size+2) (.slice (some ⟨g,0,none⟩) P.length cap) (slT P t cc a k) by rw[HSP.out,if_neg hkt];exact HX.out)
    have KT:=HKB
    have YT:=HYB
    have BT:=HBL
    clear hkt hcell
    obtain⟨g',cap',ex,-,-,-,-,hcS⟩:=XT.out.openS (by rw[HLT.out];omega)
    have hgg:g=g':=by injection ex with e1 _ _;injection e1 with e1;injection e1
    subst hgg
    have ca0:=(hcS 0 (by rw[HLT.out];omega)).1
    have ES:=((ap.1 OT.out).2.2 0 (by rw[HLT.out];omega)).1
    have hst:=KT.out.lt
    obtain⟨e3,-⟩:=KT.out.one
    have HVV:=Hy HRR.out.symm
    obtain⟨V,hV⟩:∃V,slR l t cc a k=V:=⟨_,rfl⟩
    rw[hV] at hslr HVS HVV
    have XS:=Hy XT.out.strs
    obtain⟨S,hS⟩:∃S,slT P t cc a k=S:=⟨_,rfl⟩
    rw[hS] at ca0 ES OT HPS HVV XS
    have XTS:=Hy (show ak wr (w.heap.size+2) (.slice (some ⟨g,0,none⟩) P.length cap) S by rw[←hS];exact XT.out)
    clear hcS ex hV hS
    go_wp2_with fail
    refine(jE _ _ ES).mono ?_
    rintro e wr2 ⟨rfl,hwt2⟩
    subst hwt2
    rw[HVV.out]
    have c3:(wr.alloc (.cells #[.int .i64 V] 3)).cell? ⟨w1.heap.size,0,none⟩=some (.slice (some ⟨g,0,none⟩) P.length cap):=((ab wr _).cell (by exact hst)).trans e3
    go_wp2_with (at_builtin;refine ec rfl (.tmp 64) (.tmp 70) (by rfl) (w.heap.size+1) u12 _ (by rfl) (by exact YT.out.bel (ab _ _)) _ _ V (by rfl) (by exact bF _ _ _) (by omega) (by rw[hlV];omega) (by simp;omega) ?_;intro v6 w6 ho6 hg6 hat6;have K6:=(KT.out.alloc (.cells #[.int .i64 V] 3)).grown hg6 (fun e=>HSEP.out.2 _ e.symm rfl);obtain⟨y3,g3⟩:=K6.one;clear e3 c3 ca0)
    have B6:=Hy ((aa BT.out (ab wr (.cells #[.int .i64 V] 3))).trans (bT hg6 (aa BT.out (ab wr (.cells #[.int .i64 V] 3))).size (fun j hj=>by have:=(YT.out.lt j hj).1;omega)))
    have X6:=Hy ((XTS.out.bel (ab wr (.cells #[.int .i64 V] 3))).apart hg6 (fun q hq e=>HSEP.out.1 (show some g=u12.ownBlock from Eq.trans (show some g=some q from hq) e.symm)))
    have H6:=Hy (Ie ho6 hat6)
    have k6:=K6.lt
    have HK6:=Hy K6
    have hz6:=B6.out.size
    clear ho6 hg6 hat6 K6
    refine(jB _ S _ X6.out.strs OT.out).mono ?_
    rintro e w7 ⟨r7,rfl,o7,b7⟩
    have K7:=HK6.out.below b7 k6
    have O7:=Hy o7
    have B7:=Hy (aa B6.out b7)
    have Y7:=Hy (H6.out.1.bel b7)
    obtain⟨A7,c7,rfl,-,-,-⟩:=o7.strs.open_
    have hsep7:∀q,v6.ownBlock=some q→q≠w1.heap.size:=fun q hq=>by
     rcases H6.out.2 with h|h
     ·exact HSEP.out.2 q (by rw[←h];exact hq)
     ·rw[hq] at h
      have:=It h
      rw[Iu] at this
      omega
    have HS7:=Hy hsep7
    have hx7:∀q,(Value.slice A7 (bB S).length c7).ownBlock=some q→w6.heap.size≤q:=fun q hq=>(O7.out.lt q hq).1
    have hv6lt:∀q,v6.ownBlock=some q→q<w6.heap.size:=fun q hq=>(H6.out.1.lt q hq).2
    have HX7:=Hy (Ie hx7 hv6lt)
    obtain⟨y7,g7⟩:=K7.one
    have HK7:=Hy K7
    clear o7 b7 hsep7 hx7 hv6lt K7 y3 g3
    go_wp2_with fail
    go_roundw
    case rel=>
     refine⟨k+1,.slice A7 (bB S).length c7,by omega,by go_num,?_,HK7.out.set_ 0 _,?_,fun q hq=>⟨?_,fun e=>?_⟩,HS7.out,B7.out.setCell (p:=⟨w1.heap.size,0,none⟩) (by show w.heap.size≤w1.heap.size;omega) _⟩
     ·rw[HVS.out]
      exact Y7.out.apart (u:=.slice (some ⟨w1.heap.size,0,none⟩) 1 1) (jI _ w1.heap.size 0 _) (fun q hq e=>HS7.out q hq (It e).symm)
     ·rw[HPS.out]
      exact(O7.out.setCell ⟨w1.heap.size,0,none⟩ _ (by show w1.heap.size<w6.heap.size;exact k6)).lower (by omega)
     ·have:=HX7.out.1 q hq
      omega
     ·have h1:=HX7.out.1 q hq
      have h2:=HX7.out.2 q e.symm
      omega
    case measure=>simp[intOf];omega
  ·obtain rfl:k=n:=by omega
   clear hK hx
   go_wp2
   go_ret2
   exact⟨_,rfl,hy.lower (by omega),hbel⟩
theorem yz (u:Value) (l:List ByteArray) (n t cc a:Int) (w:World) (hu:aG w u l):
  Calls prog 87 #[.agg #[u],.int .i64 n,.int .i64 t,.int .i64 cc,.int .i64 a] w (cK w (eY l n t cc a) (dk l n t cc a)):=by
 cases h:dk l n t cc a
 ·rw[vu h]
  exact AV u l n t cc a w hu h
 ·obtain⟨h1,h2,h3,h4,h5,h6⟩:=pu h
  obtain⟨n,rfl⟩:∃k:Nat,n=k:=⟨n.toNat,by omega⟩
  obtain⟨t,rfl⟩:∃k:Nat,t=k:=⟨t.toNat,by omega⟩
  obtain⟨cc,rfl⟩:∃k:Nat,cc=k:=⟨cc.toNat,by omega⟩
  rw[yo h]
  exact Aj u l n t cc a w hu h
def csT (l:List Int) (R A p c:Nat):Nat→Int
 |0=>0
 |k+1=>csT l R A p c k+at_ l (p*R*A+c*R+k)
theorem AX {l:List Int} (h:ag l=true) (R A p c:Nat):∀k:Nat,-(1000000000*(k:Int))≤csT l R A p c k∧csT l R A p c k≤1000000000*(k:Int)
 |0=>by simp[csT]
 |k+1=>by
  have ih:=AX h R A p c k
  have hb : -1000000000≤at_ l (p*R*A+c*R+k)∧at_ l (p*R*A+c*R+k)≤1000000000:=by
   rcases Nat.lt_or_ge (p*R*A+c*R+k) l.length with q|q
   ·exact(ay h).2.2 _ q
   ·have:at_ l (p*R*A+c*R+k)=0:=by simp[at_,List.getD,List.getElem?_eq_none q]
    omega
  simp only[csT]
  omega
def fS (e:List Int) (b:Nat):Nat→Int
 |0=>0
 |m+1=>fS e b m+at_ e (b+m)
theorem AQ {e:List Int} {R c:Nat} (hR:1≤R):∀k,kn e R c k=fS e (c*R) (min (k-c*R) R)
 |0=>by simp[kn,fS]
 |k+1=>by
  rw[pk,AQ hR k]
  by_cases h:k / R=c
  ·have h1:=Nat.div_mul_le_self k R
   have h2:=Nat.lt_div_mul_add (a:=k) (b:=R) (by omega)
   rw[h] at h1 h2
   rw[if_pos h,show min (k-c*R) R=k-c*R by omega,show min (k+1-c*R) R=(k-c*R)+1 by omega]
   show _=fS e (c*R) (k-c*R)+at_ e (c*R+(k-c*R))
   rw[show c*R+(k-c*R)=k by omega]
  ·rw[if_neg h,Int.add_zero]
   by_cases h1:k<c*R
   ·rw[show min (k-c*R) R=0 by omega,show min (k+1-c*R) R=0 by omega]
   ·by_cases h2:k<c*R+R
    ·exact absurd (Nat.div_eq_of_lt_le (by omega) (by rw[Nat.succ_mul];exact h2)) h
    ·rw[show min (k-c*R) R=R by omega,show min (k+1-c*R) R=R by omega]
theorem Fh {l:List Int} {M p i:Nat} (h:i<(pgE l M p).length):at_ (pgE l M p) i=at_ l (p*M+i):=by
 rw[dF] at h
 unfold pgE at_
 simp only[List.getD,List.getElem?_take,List.getElem?_drop]
 rw[if_pos (by omega)]
theorem Gz {l:List Int} {R A p c:Nat} (hc:c<A):∀m,m≤R→csT l R A p c m=fS (pgE l (R*A) p) (c*R) (min ((pgE l (R*A) p).length-c*R) m)
 |0,_=>by simp[csT,fS]
 |m+1,hm=>by
  have ih:=Gz (l:=l) (R:=R) (A:=A) (p:=p) hc m (by omega)
  have hcm:c*R+m<R*A:=by
   have:=Nat.mul_le_mul_right R (show c+1≤A by omega)
   rw[Nat.succ_mul,Nat.mul_comm A R] at this
   omega
  have hel:=dF l (R*A) p
  show csT l R A p c m+at_ l (p*R*A+c*R+m)=_
  rw[ih]
  have ep:p*R*A=p*(R*A):=Nat.mul_assoc _ _ _
  by_cases h:c*R+m<(pgE l (R*A) p).length
  ·rw[show min ((pgE l (R*A) p).length-c*R) m=m by omega,show min ((pgE l (R*A) p).length-c*R) (m+1)=m+1 by omega]
   show _=fS (pgE l (R*A) p) (c*R) m+at_ (pgE l (R*A) p) (c*R+m)
   rw[Fh h,ep,Nat.add_assoc]
  ·rw[show min ((pgE l (R*A) p).length-c*R) m=(pgE l (R*A) p).length-c*R by omega,show min ((pgE l (R*A) p).length-c*R) (m+1)=(pgE l (R*A) p).length-c*R by omega]
   have hz:at_ l (p*R*A+c*R+m)=0:=by
    have:l.length≤p*R*A+c*R+m:=by rw[ep];omega
    simp[at_,List.getD,List.getElem?_eq_none this]
   rw[hz,Int.add_zero]
theorem FF {l:List Int} {R A p c:Nat} (hc:c<A) (hR:1≤R):kn (pgE l (R*A) p) R c (pgE l (R*A) p).length=csT l R A p c R:=by
 rw[AQ hR,Gz hc R (Ig _)]
def cuL (l:List Int) (R A p k:Nat):List Int:=gen (fun c=>csT l R A p c R) k
theorem nH (l:List Int) (R A p k:Nat):(cuL l R A p k).length=k:=aq _ _
theorem EI (l:List Int) (R A p k:Nat):cuL l R A p (k+1)=cuL l R A p k++[csT l R A p k R]:=fC _ _
theorem DD {l:List Int} {R A p:Nat} (hR:1≤R):cuL l R A p A=iu R A l p:=by
 unfold iu
 apply fT
 ·rw[nH,gD]
 ·intro j hj
  rw[nH] at hj
  rw[qy hj,FF hj hR]
  exact bS hj
theorem BG (R A W:Nat) (p:Int) (v:Value) (l:List Int) (w:World) (hv:ai w v l) (h1:1≤R∧R≤20) (h2:1≤A∧A≤6) (h3:1≤W∧W≤12) (hl:l.length≤60) (hno:¬(ag l=true∧0≤p∧p<(pgN l (R*A):Int))):
  Calls prog 95 #[.agg #[.int .i64 R,.int .i64 A,.int .i64 W],v,.int .i64 p] w fun e w'=>∃r,e=.returned r∧Own w' w.heap.size r []∧Below w.heap.size w w':=by
 have HV:=Hy hv
 have HNO:=Hy hno
 have hlay:=fl h1 h2 h3
 have hM0:0<R*A:=Nat.mul_pos h1.1 h2.1
 have hq60:pgN l (R*A)≤60:=Ih (jQ hM0) hl
 have HPN:=Hy (fun w=>nh R A W l w h1 h2 h3 hl)
 obtain⟨q0,hq0⟩:∃q,pgN l (R*A)=q:=⟨_,rfl⟩
 rw[hq0] at hq60 HNO HPN
 clear hq0 hno
 obtain⟨B,cp,rfl,hlc,hc,hrd⟩:=hv.open_
 have K1:=(Blk.new w 29 [.int .i64 R,.int .i64 A,.int .i64 W]).alloc (.cells #[] 3)
 have B1:=(ab w (.cells #[.int .i64 R,.int .i64 A,.int .i64 W] 29)).alloc (by simp) (.cells #[] 3)
 have OE:=Own.empty (w.alloc (.cells #[.int .i64 R,.int .i64 A,.int .i64 W] 29)) (w.heap.size+1) (by simp)
 rw[show(w.alloc (.cells #[.int .i64 R,.int .i64 A,.int .i64 W] 29)).heap.size=w.heap.size+1 by simp] at OE
 obtain⟨a0,a1,a2⟩:=K1.lay
 clear hv hrd
 go_enter func95,ntmps95
 go_wp2_with fail
 generalize hW:(w.alloc (.cells #[.int .i64 R,.int .i64 A,.int .i64 W] 29)).alloc (.cells #[] 3)=X at *
 clear hW
 refine(eE R A W _).mono ?_
 rintro e w2 ⟨rfl,b2⟩
 rw[hlay]
 replace K1:=K1.below b2 K1.lt
 have HB:=Hy (aa B1 b2)
 have HOE:=Hy (OE.bel b2)
 have hz:=HB.out.size
 clear a0 a1 a2 b2 B1 OE
 obtain⟨a0,a1,a2⟩:=K1.lay
 go_wp2_with fail
 refine(ax _ l _ (HV.out.bel HB.out)).mono ?_
 rintro e w3 ⟨rfl,rfl⟩
 cases ht:ag l
 ·clear ht
  go_wp2
  go_ret
  exact⟨_,rfl,HOE.out.lower (by omega),HB.out⟩
 ·have hpn:inB p 0 ((q0:Int)-1)=false:=br.2 (fun h=>HNO.out ⟨ht,h.1,by omega⟩)
  clear ht
  go_wp2_with fail
  refine(HPN.out _).mono ?_
  rintro e w4 ⟨rfl,b4⟩
  have HB4:=Hy (aa HB.out b4)
  have HO4:=Hy (HOE.out.bel b4)
  clear a0 a1 a2 b4
  go_wp2_with fail
  refine(aL _ _ _ _).mono ?_
  rw[hpn]
  rintro e w5 ⟨rfl,rfl⟩
  go_wp2
  go_ret
  exact⟨_,rfl,HO4.out.lower (by omega),HB4.out⟩
theorem zV (R A W p:Nat) (v:Value) (l:List Int) (w:World) (hv:ai w v l) (h1:1≤R∧R≤20) (h2:1≤A∧A≤6) (h3:1≤W∧W≤12) (hl:l.length≤60) (ht:ag l=true) (hp:p<pgN l (R*A)):
  Calls prog 95 #[.agg #[.int .i64 R,.int .i64 A,.int .i64 W],v,.int .i64 p] w fun e w'=>∃r,e=.returned r∧Own w' w.heap.size r (iu R A l p)∧Below w.heap.size w w':=by
 have HV:=Hy hv
 have hlay:=fl h1 h2 h3
 have hM0:0<R*A:=Nat.mul_pos h1.1 h2.1
 have hq60:pgN l (R*A)≤60:=Ih (jQ hM0) hl
 have HPN:=Hy (fun w=>nh R A W l w h1 h2 h3 hl)
 obtain⟨q0,hq0⟩:∃q,pgN l (R*A)=q:=⟨_,rfl⟩
 rw[hq0] at hq60 HPN hp
 have HTO:=Hy ht
 have HSM:=Hy (DD (l:=l) (A:=A) (p:=p) h1.1)
 have HBD:=Hy (fun c k=>AX ht R A p c k)
 clear hq0 ht
 obtain⟨B,cp,rfl,hlc,hc,hrd⟩:=hv.open_
 have HR:=Hy hrd
 have K1:=(Blk.new w 29 [.int .i64 R,.int .i64 A,.int .i64 W]).alloc (.cells #[] 3)
 have B1:=(ab w (.cells #[.int .i64 R,.int .i64 A,.int .i64 W] 29)).alloc (by simp) (.cells #[] 3)
 have OE:=Own.empty (w.alloc (.cells #[.int .i64 R,.int .i64 A,.int .i64 W] 29)) (w.heap.size+1) (by simp)
 rw[show(w.alloc (.cells #[.int .i64 R,.int .i64 A,.int .i64 W] 29)).heap.size=w.heap.size+1 by simp] at OE
 obtain⟨a0,a1,a2⟩:=K1.lay
 have hpn:inB (p:Int) 0 ((q0:Int)-1)=true:=am.2 (by omega)
 clear hv hrd
 go_enter func95,ntmps95
 go_wp2_with fail
 generalize hW:(w.alloc (.cells #[.int .i64 R,.int .i64 A,.int .i64 W] 29)).alloc (.cells #[] 3)=X at *
 clear hW
 refine(eE R A W _).mono ?_
 rintro e w2 ⟨rfl,b2⟩
 rw[hlay]
 replace K1:=K1.below b2 K1.lt
 have HB:=Hy (aa B1 b2)
 have HOE:=Hy (OE.bel b2)
 have hz:=HB.out.size
 clear a0 a1 a2 b2 B1 OE
 obtain⟨a0,a1,a2⟩:=K1.lay
 go_wp2_with fail
 refine(ax _ l _ (HV.out.bel HB.out)).mono ?_
 rw[HTO.out]
 rintro e w3 ⟨rfl,rfl⟩
 go_wp2_with fail
 refine(HPN.out _).mono ?_
 rintro e w4 ⟨rfl,b4⟩
 have HB4:=Hy (aa HB.out b4)
 have HO4:=Hy (HOE.out.bel b4)
 have HK4:=Hy (K1.below b4 K1.lt)
 clear a0 a1 a2 b4 K1
 go_wp2_with fail
 refine(aL _ _ _ _).mono ?_
 rw[hpn]
 rintro e w5 ⟨rfl,rfl⟩
 clear hpn
 go_wp2_with fail
 go_loopw [7,8] (fun y i wr=>∃k:Nat,k≤A∧i=.int .i64 k∧Own wr (w.heap.size+1) y (cuL l R A p k)∧Blk wr w.heap.size 29 [.int .i64 R,.int .i64 A,.int .i64 W]∧Below w.heap.size w wr) (fun _ i _=>A-(intOf i).toNat)
 case atStart=>exact⟨0,Ip _,rfl,HO4.out,HK4.out,HB4.out⟩
 case round=>
  obtain⟨k,hk,rfl,ho,hK,hb⟩:=hrel
  have H:=Hy (Ie ho (Ie hK hb))
  obtain⟨a0,a1,a2⟩:=hK.lay
  have hkl:=hK.lt
  have hlk:=nH l R A p k
  by_cases hlt:k<A
  ·have HBDk:=Hy (HBD.out k)
   clear ho hK hb
   go_wp2_with fail
   go_loopw [9,10] (fun n i wq=>∃m:Nat,m≤R∧i=.int .i64 m∧n=.int .i64 (csT l R A p k m)∧wq=wr) (fun _ i _=>R-(intOf i).toNat)
   case atStart=>exact⟨0,Ip _,rfl,rfl,rfl⟩
   case round=>
    obtain⟨m,hm,rfl,rfl,rfl⟩:=hrel
    by_cases hml:m<R
    ·obtain⟨x,hx⟩:∃x,p*R*A+k*R+m=x:=⟨_,rfl⟩
     obtain⟨y1,hy1⟩:∃y,p*R=y:=⟨_,rfl⟩
     obtain⟨y2,hy2⟩:∃y,y1*A=y:=⟨_,rfl⟩
     obtain⟨y3,hy3⟩:∃y,k*R=y:=⟨_,rfl⟩
     have b1:y1≤60*20:=by rw[←hy1];exact Nat.mul_le_mul (by omega) h1.2
     have b2:y2≤1200*6:=by rw[←hy2];exact Nat.mul_le_mul b1 h2.2
     have b3:y3≤6*20:=by rw[←hy3];exact Nat.mul_le_mul (by omega) h1.2
     have i1:IntKind.i64.wrap ((p:Int)*(R:Int))=(y1:Int):=(IntWalk.i64_left _).trans (by rw[←hy1,Int.natCast_mul];exact IntWalk.wrap64_in _ (by rw[←Int.natCast_mul,hy1];omega))
     have i2:IntKind.i64.wrap ((y1:Int)*(A:Int))=(y2:Int):=(IntWalk.i64_left _).trans (by rw[←hy2,Int.natCast_mul];exact IntWalk.wrap64_in _ (by rw[←Int.natCast_mul,hy2];omega))
     have i3:IntKind.i64.wrap ((k:Int)*(R:Int))=(y3:Int):=(IntWalk.i64_left _).trans (by rw[←hy3,Int.natCast_mul];exact IntWalk.wrap64_in _ (by rw[←Int.natCast_mul,hy3];omega))
     have hxy:y2+y3+m=x:=by rw[←hx,←hy2,←hy1,←hy3]
     have i4:IntKind.i64.wrap ((y2:Int)+(y3:Int))=(y2:Int)+(y3:Int):=(IntWalk.i64_left _).trans (IntWalk.wrap64_in _ (by omega))
     have i5:IntKind.i64.wrap ((y2:Int)+(y3:Int)+(m:Int))=(x:Int):=(IntWalk.i64_left _).trans ((IntWalk.wrap64_in _ (by omega)).trans (by omega))
     have i7:(y2:Int)+(y3:Int)+(m:Int)=(x:Int):=by omega
     have hbk:=HBDk.out m
     have HCS:=Hy (show csT l R A p k (m+1)=csT l R A p k m+at_ l x by rw[←hx];rfl)
     have hxb:x≤100000:=by omega
     obtain⟨S,hS⟩:∃S,csT l R A p k m=S:=⟨_,rfl⟩
     rw[hS] at hbk HCS ⊢
     clear hx hy1 hy2 hy3 hxy hS
     by_cases hxl:x<l.length
     ·obtain⟨b,o,rfl,hbb,hcell⟩:=HR.out.ints (by omega)
      have hck:=(H.out.2.2.cell (by exact hbb)).trans (hcell x hxl)
      have hxv:=(ay HTO.out).2.2 x hxl
      have hxi:(x:Int)<(l.length:Int):=by omega
      obtain⟨V,hV⟩:∃V,at_ l x=V:=⟨_,rfl⟩
      rw[hV] at hck hxv HCS
      have i6:IntKind.i64.wrap (S+V)=S+V:=(IntWalk.i64_left _).trans (IntWalk.wrap64_in _ (by omega))
      clear hcell hV
      go_wp2
      go_roundw
      case rel=>exact⟨m+1,by omega,by go_num,by rw[HCS.out],by first|rfl|trivial⟩
      case measure=>simp[intOf] <;> omega
     ·have hz:at_ l x=0:=by simp[at_,List.getD,List.getElem?_eq_none (show l.length≤x by omega)]
      have HZ:=Hy hz
      have hxi:¬(x:Int)<(l.length:Int):=by omega
      clear hz
      go_wp2
      go_roundw
      case rel=>exact⟨m+1,by omega,by go_num,by rw[HCS.out,HZ.out,Int.add_zero],by first|rfl|trivial⟩
      case measure=>simp[intOf] <;> omega
    ·obtain rfl:m=R:=by omega
     have hbk:=HBDk.out m
     go_wp2_with (at_builtin;refine ec rfl (.tmp 68) (.tmp 70) (by rfl) (w.heap.size+1) u7 _ (by rfl) (by exact H.out.1.bel (ab _ _)) _ _ (csT l m A p k m) (by rfl) (by exact bF _ _ _) (by omega) (by rw[hlk];omega) (by simp;omega) ?_;intro v1 w6 ho hg hat)
     have K6:=(H.out.2.1.alloc (.cells #[.int .i64 (csT l m A p k m)] 3)).grown hg (fun e=>by have:=(H.out.1.lt _ e.symm).1;omega)
     have B6:=(aa H.out.2.2 (ab wr (.cells #[.int .i64 (csT l m A p k m)] 3))).trans (bT hg (aa H.out.2.2 (ab wr (.cells #[.int .i64 (csT l m A p k m)] 3))).size (fun j hj=>by have:=(H.out.1.lt j hj).1;omega))
     go_roundw
     case rel=>exact⟨k+1,by omega,by go_num,by rw[EI];exact ho,K6,B6⟩
     case measure=>simp[intOf];omega
  ·obtain rfl:k=A:=by omega
   clear ho hK hb
   go_wp2
   go_ret
   exact⟨_,rfl,by rw[←HSM.out];exact H.out.1.lower (by omega),H.out.2.2⟩
end Go.Proofs.YtfmjklgfpiffbaaGreatDoor
