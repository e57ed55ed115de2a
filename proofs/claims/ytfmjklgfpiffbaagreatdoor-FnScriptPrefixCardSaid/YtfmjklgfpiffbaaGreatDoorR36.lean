/-
  Parts of the proof of one statement, merged: EsS.
-/
import Derived.Test.YtfmjklgfpiffbaaGreatDoorR33
namespace Go.Proofs.YtfmjklgfpiffbaaGreatDoor
open Go.RowKit Go.Proofs.Tryz
set_option linter.unusedVariables false
set_option linter.unusedSimpArgs false
set_option maxRecDepth 100000
set_option maxHeartbeats 8000000
attribute [local go_sem ↓] Go.wp_at_zero Go.wp_at_succ
theorem rG (c t a:Int) (w:World):
  Calls prog 161 #[.int .i64 c,.int .i64 t,.int .i64 a] w fun e w'=>e=.returned (.bool (slN c t a))∧w=w':=by
 have HN:=Jj (show slN c t a=((inB c 0 6&&inB t 0 59)&&inB a (-100000) 100000) from rfl)
 go_enter func161,ntmps161
 go_wp2_with fail
 refine(aL _ _ _ _).mono ?_;rintro e w2 ⟨rfl,rfl⟩;cases h1:inB c 0 6
 ·rw[h1] at HN;go_wp2;go_ret;exact⟨by rw[HN.out];rfl,rfl⟩
 ·rw[h1] at HN
  go_wp2_with fail
  refine(aL _ _ _ _).mono ?_;rintro e w2 ⟨rfl,rfl⟩;cases h2:inB t 0 59
  ·rw[h2] at HN;go_wp2;go_ret;exact⟨by rw[HN.out];rfl,rfl⟩
  ·rw[h2] at HN
   go_wp2_with fail
   refine(aL _ _ _ _).mono ?_;rintro e w2 ⟨rfl,rfl⟩;go_wp2;go_ret;exact⟨by rw[HN.out];rfl,rfl⟩
theorem DN (u:Value) (l:List ByteArray) (n t cc a:Int) (w:World) (hu:aG w u l) (h:dG l n t cc a=false):
  Calls prog 87 #[.agg #[u],.int .i64 n,.int .i64 t,.int .i64 cc,.int .i64 a] w (cK w [] false):=by
 have HU:=Jj hu;obtain⟨A,c,rfl,-,-,-⟩:=hu.open_;clear hu;have B0:=Jj (show Below w.heap.size w ((w.alloc (.cells #[.slice A l.length c] 32)).alloc (.cells #[] 3)) from(ab w _).alloc (by simp) _);have K0:=(Blk.new' w 32 (.slice A l.length c) w.heap.size rfl).alloc (.cells #[] 3);have OE:=Own.empty (w.alloc (.cells #[.slice A l.length c] 32)) (w.heap.size+1) (by simp);rw[show(w.alloc (.cells #[.slice A l.length c] 32)).heap.size=w.heap.size+1 by simp] at OE;obtain⟨c0,-⟩:=K0.one;have HS:=Jj h;clear h
 go_enter func87,ntmps87
 go_wp2_with fail
 clear c0;generalize hW:(w.alloc (.cells #[.slice A l.length c] 32)).alloc (.cells #[] 3)=W at *;clear hW;refine(mG _ l n _ (HU.out.bel B0.out)).mono ?_;rintro e w2 ⟨rfl,hb⟩;replace K0:=K0.below hb K0.lt;have HOE:=Jj (OE.bel hb);have HB:=Jj (aa B0.out hb);have hz:=HB.out.size;clear hb OE;obtain⟨c0,-⟩:=K0.one;cases hn:cu l n
 ·clear hn;go_wp2;go_ret2;exact⟨_,rfl,HOE.out.lower (by omega),HB.out⟩
 ·go_wp2_with fail
  refine(rG cc t a _).mono ?_;rintro e w3 ⟨rfl,rfl⟩;cases hs:slN cc t a
  ·clear hn hs;go_wp2;go_ret2;exact⟨_,rfl,HOE.out.lower (by omega),HB.out⟩
  ·have hle:(l.length:Int)≤cc:=by
    have:=HS.out;unfold dG at this;unfold cu at hn;rw[hn,hs] at this;have:=of_decide_eq_false (by simpa using this:decide (cc<(l.length:Int))=false);omega
   clear hn hs;go_wp2;go_ret2;exact⟨_,rfl,HOE.out.lower (by omega),HB.out⟩
theorem Bd (u:Value) (l:List ByteArray) (n t cc:Nat) (a:Int) (w:World) (hu:aG w u l) (h:dG l n t cc a=true):
  Calls prog 87 #[.agg #[u],.int .i64 n,.int .i64 t,.int .i64 cc,.int .i64 a] w (cK w (slV l t cc a n) true):=by
 obtain⟨ok,hn,hc6,ht,ha,hcl⟩:=qc h;have HRO:=Jj (show cu l n=true by unfold cu;rw[ok,am.2 hn];rfl);have HSL:=Jj (show slN cc t a=true by unfold slN;rw[am.2 hc6,am.2 ht,am.2 ha];rfl);have HU:=Jj hu;have OK:=Jj ok;obtain⟨l1,l7,-⟩:=ap.1 ok;obtain⟨A,c,rfl,-,-,-⟩:=hu.open_;clear hu h ok;have B0:=Jj (show Below w.heap.size w ((w.alloc (.cells #[.slice A l.length c] 32)).alloc (.cells #[] 3)) from(ab w _).alloc (by simp) _);have K0:=(Blk.new' w 32 (.slice A l.length c) w.heap.size rfl).alloc (.cells #[] 3);have OE:=Own.empty (w.alloc (.cells #[.slice A l.length c] 32)) (w.heap.size+1) (by simp);rw[show(w.alloc (.cells #[.slice A l.length c] 32)).heap.size=w.heap.size+1 by simp] at OE;obtain⟨c0,-⟩:=K0.one;have hl2:¬(l.length:Int)≤(cc:Int):=by omega
 go_enter func87,ntmps87
 go_wp2_with fail
 clear c0;generalize hW:(w.alloc (.cells #[.slice A l.length c] 32)).alloc (.cells #[] 3)=W at *;have hWz:W.heap.size=w.heap.size+2:=by rw[←hW];simp
 clear hW;refine(mG _ l n _ (HU.out.bel B0.out)).mono ?_;rw[HRO.out];rintro e w2 ⟨rfl,hb⟩;replace K0:=K0.below hb K0.lt;have HOE:=OE.bel hb;have HB:=Jj (aa B0.out hb);have hz2:=hb.size;clear hb OE;obtain⟨c0,-⟩:=K0.one
 go_wp2_with fail
 refine(rG cc t a _).mono ?_;rw[HSL.out];rintro e w3 ⟨rfl,rfl⟩
 go_wp2_with fail
 refine(fm _ l _ (HU.out.bel HB.out) (by omega)).mono ?_;rintro e w1 ⟨r,rfl,ho,hb1⟩;obtain⟨A1,c1,rfl,-,-,-⟩:=ho.strs.open_;have hz1:=hb1.size;have ba:Below w1.heap.size w1 (w1.alloc (.cells #[.slice A1 l.length c1] 32)):=ab w1 _;have K3:=Jj (Blk.new' w1 32 (.slice A1 l.length c1) _ rfl);have hlt1:=fun k hk=>(ho.lt k hk);have HO:=Jj ((ho.bel ba).lower (base':=w.heap.size+2) (by omega));have HN:=Jj (show ∀q,(Value.slice A1 l.length c1).ownBlock=some q→q≠w1.heap.size∧some q≠(Value.slice (some ⟨w.heap.size+1,0,none⟩) 0 0).ownBlock from fun q hq=>by
  have:=hlt1 q hq;refine⟨by omega,fun e=>?_⟩;simp[Value.ownBlock] at e;omega)
 have HY0:=Jj ((HOE.bel hb1).bel ba);have HB4:=Jj (aa HB.out (aa hb1 ba));have hR1:w.heap.size+2≤w1.heap.size:=by omega
 have hYN:∀q,(Value.slice (some ⟨w.heap.size+1,0,none⟩) 0 0).ownBlock=some q→q≠w1.heap.size:=fun q hq=>by simp[Value.ownBlock] at hq;omega
 have HYN:=Jj hYN;clear ho hb1 K0 c0 HOE hlt1 hYN
 go_wp2_with fail
 generalize hW3:w1.alloc (.cells #[.slice A1 l.length c1] 32)=W3 at *;clear hW3 ba
 go_loopw [12,14] (fun y i wr=>∃(k:Nat) (x:Value),k≤n∧i=.int .i64 k∧Own wr (w.heap.size+1) y (slV l t cc a k)∧Blk wr w1.heap.size 32 [x]∧aj wr (w.heap.size+2) x (eZ l t cc a k)∧(∀q,x.ownBlock=some q→q≠w1.heap.size∧some q≠y.ownBlock)∧(∀q,y.ownBlock=some q→q≠w1.heap.size)∧Below w.heap.size w wr)
  (fun _ i _=>n-(intOf i).toNat)
 case atStart=>exact⟨0,_,Jy _,rfl,HY0.out,K3.out,HO.out,HN.out,HYN.out,HB4.out⟩
 case round=>
  obtain⟨k,x,hk,rfl,hy,hK,hx,hxn,hyn,hbel⟩:=hrel;have H:=Jj (Jq hy (Jq hK (Jq hx (Jq hxn (Jq hyn hbel)))));have hlP:=mO l t cc a k;have OP:=Jj (nu OK.out t cc a k);have hlV:=rY l t cc a k;by_cases hlt:k<n
  ·have HVS:=Jj (FE l t cc a k);have HPS:=Jj (show eZ l t cc a (k+1)=bu (slT (eZ l t cc a k) t cc a k) from rfl);have HRR:=Jj (show slR l t cc a k=sg (sat (slT (eZ l t cc a k) t cc a k) 0) from rfl);have HSP:=Jj (show slT (eZ l t cc a k) t cc a k=if k=t then kG (eZ l t cc a k) cc a else eZ l t cc a k from rfl);have hslr:=DK OK.out t cc a k;have OT:=Jj (pF OP.out t cc a k);have hlT:=rX (eZ l t cc a k) t cc a k;obtain⟨P,hP⟩:∃P,eZ l t cc a k=P:=⟨_,rfl⟩;rw[hP] at hlP OP HPS HRR HSP OT hlT;have HX:=Jj (show aj wr (w.heap.size+2) x P by rw[←hP];exact hx);clear hP;obtain⟨g,cap,rfl,hg2,hgz,hlc,hcm,hcell⟩:=HX.out.openS (by omega);have hP0:0<P.length:=by omega
   have hPc:cc<P.length:=by omega
   have HLT:=Jj hlT;clear hlP hlT;have hgs:=hxn g rfl;have HSEP:=Jj (Jq hgs.2 hyn);have hg1:=hgs.1;have hst0:=hK.lt;have HKB:=Jj hK;have HYB:=Jj hy;have HBL:=Jj hbel;clear hK hy hbel hx hxn hyn H;by_cases hkt:k=t
   ·have HS0:=Jj (show slT P t cc a k=P.set cc (kL (sat P cc) a) by rw[HSP.out,if_pos hkt];rfl);obtain⟨ca,fa⟩:=hcell cc (by omega);have E0:=((ap.1 OP.out).2.2 cc (by omega)).1;obtain⟨e3,-⟩:=HKB.out.one;have hkti:(k:Int)=(t:Int):=by omega
    have hktb:((k:Int)==(t:Int))=true:=by simp[hkti]
    have hcc1:(cc:Int)<(P.length:Int):=by omega
    have hcc2:(0:Int)≤(cc:Int):=by omega
    obtain⟨Z,hZ⟩:∃Z,sat P cc=Z:=⟨_,rfl⟩;rw[hZ] at ca E0 HS0;have s12:=aQ E0;have c1:=iz E0;have wz:IntKind.i64.wrap ((cv Z:Int)+a)=(cv Z:Int)+a:=(IntWalk.i64_left _).trans (IntWalk.wrap64_in _ (by omega));have HSH:=Jj (fun w=>lE ((cv Z:Int)+a) Z.size w (by omega) ⟨s12.1,s12.2.1⟩);have hsc:col (md ((cv Z:Int)+a) (ten Z.size)) Z.size=kL Z a:=rfl;rw[hsc] at HSH;have hYs:(kL Z a).size≤9223372036854775807:=by rw[ow];omega
    obtain⟨Y,hY⟩:∃Y,kL Z a=Y:=⟨_,rfl⟩;rw[hY] at HSH HS0 hYs;clear hZ hsc hY hcell hkt hkti s12;have tok1:True:=trivial;have tok2:True:=trivial
    go_wp2_with fail
    go_region_law (first
     |((try go_simp);go_at_call 149;have _t:=tok1;go_loud (refine(iU Z _ E0).mono ?_;rintro e5 w5 ⟨rfl,rfl⟩;clear tok1;(try dsimp only)))
     |((try go_simp);go_at_call 162;have _t:=tok2;go_loud (refine(HSH.out _).mono ?_;rintro e5 w5 ⟨rfl,b5⟩;replace b5:Below wr.heap.size wr w5:=(by first|exact b5|exact aa ((Below.refl _ _).drew) b5);have K5:=Jj (HKB.out.below b5 hst0);obtain⟨e5,-⟩:=K5.out.one;have HX5:=Jj (HX.out.bel b5);have HB5:=Jj (aa HBL.out b5);have HY5:=Jj (HYB.out.bel b5);have ca5:=(b5.cell (by exact hgz)).trans ca;have fa5:w5.frozen? ⟨g,cc,none⟩=false:=(by obtain⟨g5,cap5,ex5,-,-,-,-,hc5⟩:=HX5.out.openS (by omega);have hg5:g=g5:=(by injection ex5 with q1 _ _;injection q1 with q1;injection q1);subst hg5;exact(hc5 cc (by omega)).2);clear tok2 b5;(try dsimp only)))
     |fail)
    all_goals
     have XT:=Jj (show aj (w5.setCell ⟨g,cc,none⟩ (.string Y)) (w.heap.size+2) (.slice (some ⟨g,0,none⟩) P.length cap) (slT P t cc a k) by rw[HS0.out];exact HX5.out.setJ cc Y (by omega) hYs);have KT:=Jj (K5.out.far (p:=⟨g,cc,none⟩) (by show w1.heap.size≠g;omega) (.string Y));have YT:=Jj (HY5.out.apart (u:=.slice (some ⟨g,0,none⟩) P.length cap) (jH w5 g cc (.string Y)) (fun q hq e=>HSEP.out.1 (by rw[hq];exact e)));have BT:=Jj (HB5.out.setCell (p:=⟨g,cc,none⟩) (by show w.heap.size≤g;omega) (.string Y));obtain⟨wt,hwt⟩:∃wt,w5.setCell ⟨g,cc,none⟩ (.string Y)=wt:=⟨_,rfl⟩;rw[hwt] at XT KT YT BT
     first|rw[hwt]|skip
     clear hwt e3 ca fa;obtain⟨g',cap',ex,-,-,-,-,hcS⟩:=XT.out.openS (by rw[HLT.out];omega);have hgg:g=g':=by injection ex with e1 _ _;injection e1 with e1;injection e1
     subst hgg;have ca0:=(hcS 0 (by rw[HLT.out];omega)).1;have ES:=((ap.1 OT.out).2.2 0 (by rw[HLT.out];omega)).1;have hst:=KT.out.lt;obtain⟨e3,-⟩:=KT.out.one;have HVV:=Jj HRR.out.symm;obtain⟨V,hV⟩:∃V,slR l t cc a k=V:=⟨_,rfl⟩;rw[hV] at hslr HVS HVV;have XS:=Jj XT.out.strs;obtain⟨S,hS⟩:∃S,slT P t cc a k=S:=⟨_,rfl⟩;rw[hS] at ca0 ES OT HPS HVV XS;have XTS:=Jj (show aj wt (w.heap.size+2) (.slice (some ⟨g,0,none⟩) P.length cap) S by rw[←hS];exact XT.out);clear hcS ex hV hS
     go_wp2_with fail
     refine(jL _ _ ES).mono ?_;rintro e wt2 ⟨rfl,hwt2⟩;subst hwt2;rw[HVV.out];have c3:(wt.alloc (.cells #[.int .i64 V] 3)).cell? ⟨w1.heap.size,0,none⟩=some (.slice (some ⟨g,0,none⟩) P.length cap):=((ab wt _).cell (by exact hst)).trans e3
     go_wp2_with (at_builtin;refine du rfl (.tmp 64) (.tmp 70) (by rfl) (w.heap.size+1) u12 _ (by rfl) (by exact YT.out.bel (ab _ _)) _ _ V (by rfl) (by exact bh _ _ _) (by omega) (by rw[hlV];omega) (by simp;omega) ?_;intro v6 w6 ho6 hg6 hat6;have K6:=(KT.out.alloc (.cells #[.int .i64 V] 3)).grown hg6 (fun e=>HSEP.out.2 _ e.symm rfl);obtain⟨y3,g3⟩:=K6.one;clear e3 c3 ca0)
     have B6:=Jj ((aa BT.out (ab wt (.cells #[.int .i64 V] 3))).trans (bQ hg6 (aa BT.out (ab wt (.cells #[.int .i64 V] 3))).size (fun j hj=>by have:=(YT.out.lt j hj).1;omega)));have X6:=Jj ((XTS.out.bel (ab wt (.cells #[.int .i64 V] 3))).apart hg6 (fun q hq e=>HSEP.out.1 (show some g=u12.ownBlock from Eq.trans (show some g=some q from hq) e.symm)));have H6:=Jj (Jq ho6 hat6);have k6:=K6.lt;have HK6:=Jj K6;have hz6:=B6.out.size;clear ho6 hg6 hat6 K6;refine(jO _ S _ X6.out.strs OT.out).mono ?_;rintro e w7 ⟨r7,rfl,o7,b7⟩;have K7:=HK6.out.below b7 k6;have O7:=Jj o7;have B7:=Jj (aa B6.out b7);have Y7:=Jj (H6.out.1.bel b7);obtain⟨A7,c7,rfl,-,-,-⟩:=o7.strs.open_;have hsep7:∀q,v6.ownBlock=some q→q≠w1.heap.size:=fun q hq=>by
      rcases H6.out.2 with h|h
      ·exact HSEP.out.2 q (by rw[←h];exact hq)
      ·rw[hq] at h;have:=JC h;rw[JD] at this;omega
     have HS7:=Jj hsep7;have hx7:∀q,(Value.slice A7 (bu S).length c7).ownBlock=some q→w6.heap.size≤q:=fun q hq=>(O7.out.lt q hq).1;have hv6lt:∀q,v6.ownBlock=some q→q<w6.heap.size:=fun q hq=>(H6.out.1.lt q hq).2;have HX7:=Jj (Jq hx7 hv6lt);obtain⟨y7,g7⟩:=K7.one;have HK7:=Jj K7;clear o7 b7 hsep7 hx7 hv6lt K7 y3 g3
     go_wp2_with fail
     go_roundw
     case rel=>
      refine⟨k+1,.slice A7 (bu S).length c7,by omega,by go_num,?_,HK7.out.set_ 0 _,?_,fun q hq=>⟨?_,fun e=>?_⟩,HS7.out,B7.out.setCell (p:=⟨w1.heap.size,0,none⟩) (by show w.heap.size≤w1.heap.size;omega) _⟩
      ·rw[HVS.out];exact Y7.out.apart (u:=.slice (some ⟨w1.heap.size,0,none⟩) 1 1) (jH _ w1.heap.size 0 _) (fun q hq e=>HS7.out q hq (JC e).symm)
      ·rw[HPS.out];exact(O7.out.setCell ⟨w1.heap.size,0,none⟩ _ (by show w1.heap.size<w6.heap.size;exact k6)).lower (by omega)
      ·have:=HX7.out.1 q hq;omega
      ·have h1:=HX7.out.1 q hq;have h2:=HX7.out.2 q e.symm;omega
     case measure=>simp[intOf];omega
   ·have hkti:¬(k:Int)=(t:Int):=by omega
    have hktb:((k:Int)==(t:Int))=false:=by simp[hkti]
    have XT:=Jj (show aj wr (w.heap.size+2) (.slice (some ⟨g,0,none⟩) P.length cap) (slT P t cc a k) by rw[HSP.out,if_neg hkt];exact HX.out);have KT:=HKB;have YT:=HYB;have BT:=HBL;clear hkt hcell;obtain⟨g',cap',ex,-,-,-,-,hcS⟩:=XT.out.openS (by rw[HLT.out];omega);have hgg:g=g':=by injection ex with e1 _ _;injection e1 with e1;injection e1
    subst hgg;have ca0:=(hcS 0 (by rw[HLT.out];omega)).1;have ES:=((ap.1 OT.out).2.2 0 (by rw[HLT.out];omega)).1;have hst:=KT.out.lt;obtain⟨e3,-⟩:=KT.out.one;have HVV:=Jj HRR.out.symm;obtain⟨V,hV⟩:∃V,slR l t cc a k=V:=⟨_,rfl⟩;rw[hV] at hslr HVS HVV;have XS:=Jj XT.out.strs;obtain⟨S,hS⟩:∃S,slT P t cc a k=S:=⟨_,rfl⟩;rw[hS] at ca0 ES OT HPS HVV XS;have XTS:=Jj (show aj wr (w.heap.size+2) (.slice (some ⟨g,0,none⟩) P.length cap) S by rw[←hS];exact XT.out);clear hcS ex hV hS
    go_wp2_with fail
    refine(jL _ _ ES).mono ?_;rintro e wr2 ⟨rfl,hwt2⟩;subst hwt2;rw[HVV.out];have c3:(wr.alloc (.cells #[.int .i64 V] 3)).cell? ⟨w1.heap.size,0,none⟩=some (.slice (some ⟨g,0,none⟩) P.length cap):=((ab wr _).cell (by exact hst)).trans e3
    go_wp2_with (at_builtin;refine du rfl (.tmp 64) (.tmp 70) (by rfl) (w.heap.size+1) u12 _ (by rfl) (by exact YT.out.bel (ab _ _)) _ _ V (by rfl) (by exact bh _ _ _) (by omega) (by rw[hlV];omega) (by simp;omega) ?_;intro v6 w6 ho6 hg6 hat6;have K6:=(KT.out.alloc (.cells #[.int .i64 V] 3)).grown hg6 (fun e=>HSEP.out.2 _ e.symm rfl);obtain⟨y3,g3⟩:=K6.one;clear e3 c3 ca0)
    have B6:=Jj ((aa BT.out (ab wr (.cells #[.int .i64 V] 3))).trans (bQ hg6 (aa BT.out (ab wr (.cells #[.int .i64 V] 3))).size (fun j hj=>by have:=(YT.out.lt j hj).1;omega)));have X6:=Jj ((XTS.out.bel (ab wr (.cells #[.int .i64 V] 3))).apart hg6 (fun q hq e=>HSEP.out.1 (show some g=u12.ownBlock from Eq.trans (show some g=some q from hq) e.symm)));have H6:=Jj (Jq ho6 hat6);have k6:=K6.lt;have HK6:=Jj K6;have hz6:=B6.out.size;clear ho6 hg6 hat6 K6;refine(jO _ S _ X6.out.strs OT.out).mono ?_;rintro e w7 ⟨r7,rfl,o7,b7⟩;have K7:=HK6.out.below b7 k6;have O7:=Jj o7;have B7:=Jj (aa B6.out b7);have Y7:=Jj (H6.out.1.bel b7);obtain⟨A7,c7,rfl,-,-,-⟩:=o7.strs.open_;have hsep7:∀q,v6.ownBlock=some q→q≠w1.heap.size:=fun q hq=>by
     rcases H6.out.2 with h|h
     ·exact HSEP.out.2 q (by rw[←h];exact hq)
     ·rw[hq] at h;have:=JC h;rw[JD] at this;omega
    have HS7:=Jj hsep7;have hx7:∀q,(Value.slice A7 (bu S).length c7).ownBlock=some q→w6.heap.size≤q:=fun q hq=>(O7.out.lt q hq).1;have hv6lt:∀q,v6.ownBlock=some q→q<w6.heap.size:=fun q hq=>(H6.out.1.lt q hq).2;have HX7:=Jj (Jq hx7 hv6lt);obtain⟨y7,g7⟩:=K7.one;have HK7:=Jj K7;clear o7 b7 hsep7 hx7 hv6lt K7 y3 g3
    go_wp2_with fail
    go_roundw
    case rel=>
     refine⟨k+1,.slice A7 (bu S).length c7,by omega,by go_num,?_,HK7.out.set_ 0 _,?_,fun q hq=>⟨?_,fun e=>?_⟩,HS7.out,B7.out.setCell (p:=⟨w1.heap.size,0,none⟩) (by show w.heap.size≤w1.heap.size;omega) _⟩
     ·rw[HVS.out];exact Y7.out.apart (u:=.slice (some ⟨w1.heap.size,0,none⟩) 1 1) (jH _ w1.heap.size 0 _) (fun q hq e=>HS7.out q hq (JC e).symm)
     ·rw[HPS.out];exact(O7.out.setCell ⟨w1.heap.size,0,none⟩ _ (by show w1.heap.size<w6.heap.size;exact k6)).lower (by omega)
     ·have:=HX7.out.1 q hq;omega
     ·have h1:=HX7.out.1 q hq;have h2:=HX7.out.2 q e.symm;omega
    case measure=>simp[intOf];omega
  ·obtain rfl:k=n:=by omega
   clear hK hx;go_wp2;go_ret2;exact⟨_,rfl,hy.lower (by omega),hbel⟩
theorem Bc (u:Value) (l:List ByteArray) (n t cc a:Int) (w:World) (hu:aG w u l):
  Calls prog 87 #[.agg #[u],.int .i64 n,.int .i64 t,.int .i64 cc,.int .i64 a] w (cK w (fU l n t cc a) (dG l n t cc a)):=by
 cases h:dG l n t cc a
 ·rw[xg h];exact DN u l n t cc a w hu h
 ·obtain⟨h1,h2,h3,h4,h5,h6⟩:=qc h;obtain⟨n,rfl⟩:∃k:Nat,n=k:=⟨n.toNat,by omega⟩;obtain⟨t,rfl⟩:∃k:Nat,t=k:=⟨t.toNat,by omega⟩;obtain⟨cc,rfl⟩:∃k:Nat,cc=k:=⟨cc.toNat,by omega⟩;rw[zq h];exact Bd u l n t cc a w hu h
end Go.Proofs.YtfmjklgfpiffbaaGreatDoor
