/-
  Parts of the proof of one statement, merged: Unsk ExA EsB EsK.
-/
import Derived.Test.YtfmjklgfpiffbaaGreatDoorQ16
import Derived.Test.YtfmjklgfpiffbaaGreatDoorQ20
namespace Go.Proofs.YtfmjklgfpiffbaaGreatDoor
open Go.RowKit Go.Proofs.Tryz
set_option linter.unusedVariables false
set_option linter.unusedSimpArgs false
set_option maxRecDepth 100000
set_option maxHeartbeats 8000000
attribute [local go_sem ↓] Go.wp_at_zero Go.wp_at_succ
theorem ta {w:World} {g cap i:Nat} {cs:List Value} {R:List ByteArray} (hb:Blk w g 9 cs) (hcl:cs.length=cap) (hlc:R.length≤cap) (hcm:cap≤9223372036854775807)
  (hcs:∀j,j<R.length→cs[j]?=some (.string (sat R j))) (hi:i<R.length) (hwf:WfS R):aG w (.slice (some ⟨g,i,none⟩) (R.length-i) (cap-i)) (R.drop i):=by
 have hl:(sv (R.drop i)).length=R.length-i:=by rw[eB,List.length_drop]
 refine⟨⟨some ⟨g,i,none⟩,cap-i,by rw[hl],by rw[hl];omega,by unfold maxLen;omega,fun _=>⟨g,i,rfl,hb.lt,fun k u hu=>?_⟩⟩,fun s hs=>hwf s (List.mem_of_mem_drop hs)⟩
 have hk:k<R.length-i:=by
  rcases Nat.lt_or_ge k (R.length-i) with h|h
  ·exact h
  ·rw[List.getElem?_eq_none (by rw[hl];exact h)] at hu;cases hu
 rw[oV _ k (by rw[List.length_drop];exact hk),lS] at hu
 rw[hb.cell,hcs _ (by omega),←hu]
theorem ru {l:List ByteArray} {i:Nat} (hi:i<l.length):fk l (l.length-i)=(fk l (l.length-(i+1))).set i (gS l (fk l (l.length-(i+1))) i):=by
 obtain⟨k,hk⟩:∃k,l.length-(i+1)=k:=⟨_,rfl⟩
 have e1:l.length-i=k+1:=by omega
 have e2:l.length-1-k=i:=by omega
 rw[e1,hk]
 show(fk l k).set (l.length-1-k) (gS l (fk l k) (l.length-1-k))=_
 rw[e2]
theorem Ag (v:Value) (l:List ByteArray) (w:World) (hv:aG w v l) (ok:af l=true):
  Calls prog 110 #[.agg #[v]] w (cw w (du l) true):=by
 have HV:=Hy hv
 have OK:=Hy ok
 obtain⟨l1,l7,-⟩:=ap.1 ok
 obtain⟨A,c,rfl,hlc,hcm,hrd⟩:=hv.open_
 obtain⟨ba,oa,rfl,hba,hca⟩:=hrd.strs (by omega)
 have HCA:=Hy (Ie hba hca)
 clear hv ok hrd hba hca
 have B0:=Hy (show Below w.heap.size w ((w.alloc (.cells #[.slice (some ⟨ba,oa,none⟩) l.length c] 32)).alloc (.cells #[.slice none 0 0] 32)) from(ab w _).alloc (by simp) _)
 have K0:=(Blk.new' w 32 (.slice (some ⟨ba,oa,none⟩) l.length c) w.heap.size rfl).alloc (.cells #[.slice none 0 0] 32)
 have K2:=Blk.new' (w.alloc (.cells #[.slice (some ⟨ba,oa,none⟩) l.length c] 32)) 32 (.slice none 0 0) (w.heap.size+1) (by simp)
 obtain⟨c0,-⟩:=K0.one
 go_enter func110,ntmps110
 go_wp2_with fail
 clear c0
 generalize hW:(w.alloc (.cells #[.slice (some ⟨ba,oa,none⟩) l.length c] 32)).alloc (.cells #[.slice none 0 0] 32)=W at *
 have hWz:W.heap.size=w.heap.size+2:=by rw[←hW];simp
 clear hW
 refine(bK _ l _ (HV.out.bel B0.out)).mono ?_
 rintro e w2 ⟨rfl,hb⟩
 rw[OK.out]
 replace K0:=K0.below hb K0.lt
 replace K2:=K2.below hb K2.lt
 have HB:=Hy (aa B0.out hb)
 have hz2:=hb.size
 clear hb
 obtain⟨c0,-⟩:=K0.one
 go_wp2_with fail
 clear c0
 refine(fy _ l _ (HV.out.bel HB.out) (by omega)).mono ?_
 rintro e w3 ⟨r,rfl,ho,hb1⟩
 rcases ho.form with ⟨_,h0⟩|⟨g,cap,cs0,rfl,hg,hblk0,hlcap,hcm3,hcl0,hcs0⟩
 ·exfalso;rw[h0] at l1;simp at l1
 ·replace K0:=Hy (K0.below hb1 K0.lt)
  replace K2:=Hy (K2.below hb1 K2.lt)
  have HB3:=Hy (aa HB.out hb1)
  have H0:=Hy (Ie hcl0 hcs0)
  clear hb1 ho hcl0 hcs0
  go_wp2_with fail
  go_loopw [5] (fun i wr=>∃(m:Nat) (R:List ByteArray) (cs:List Value),m≤l.length∧i=.int .i64 ((m:Int)-1)∧R=fk l (l.length-m)∧Blk wr g 9 cs∧cs.length=cap∧(∀j,j<l.length→cs[j]?=some (.string (sat R j)))∧Blk wr w.heap.size 32 [.slice (some ⟨ba,oa,none⟩) l.length c]∧Blk wr (w.heap.size+1) 32 [.slice none 0 0]∧Below w.heap.size w wr)
   (fun i _=>(intOf i+1).toNat)
  case atStart=>exact⟨l.length,l,cs0,Ig _,by go_num,by rw[Nat.sub_self];rfl,hblk0,H0.out.1,H0.out.2,K0.out,K2.out,HB3.out⟩
  case round=>
   obtain⟨m,R,cs,hm,rfl,hR,hblk,hcl,hcs,k0,k2,hbel⟩:=hrel
   have H:=Hy (Ie hR (Ie hcl (Ie hcs (Ie k0 (Ie k2 hbel)))))
   have hbz:=hblk.lt
   have HBK:=Hy hblk
   clear hR hcl hcs k0 k2 hbel H0 hblk0 hblk K0 K2
   by_cases hm0:m=0
   ·subst hm0
    rw[show(((0:Nat):Int)-1) = -1 from rfl]
    obtain⟨c2,f2⟩:=H.out.2.2.2.2.1.one
    have hlen:=oo l
    have HO:=Hy (show ak wr w2.heap.size (.slice (some ⟨g,0,none⟩) l.length cap) (du l) from by
     have:=ak.mk' (base:=w2.heap.size) (l:=du l) hg HBK.out (by rw[hlen];exact hlcap) hcm3 H.out.2.1 (fun j hj=>by rw[hlen] at hj;rw[H.out.2.2.1 j hj,H.out.1];rfl) (iM (qg OK.out))
     rwa[hlen] at this)
    clear hlen
    go_wp2
    refine bodyPost_ret (v:=.tuple #[.agg #[.slice (some ⟨g,0,none⟩) l.length cap],.bool true]) (by simp[results,results110,go_sem,c2]) rfl ⟨_,rfl,(HO.out.setCell ⟨w.heap.size+1,0,none⟩ _ (by show w.heap.size+1<w2.heap.size;omega)).lower (base':=w.heap.size) (by omega),H.out.2.2.2.2.2.setCell (p:=⟨w.heap.size+1,0,none⟩) (by show w.heap.size≤w.heap.size+1;omega) _⟩
   ·obtain⟨i,rfl⟩:∃j,m=j+1:=⟨m-1,by omega⟩
    rw[show(((i+1:Nat):Int)-1)=(i:Int) from by omega]
    have hil:i<l.length:=by omega
    obtain⟨c0,-⟩:=H.out.2.2.2.1.one
    have hq:(i:Int).tdiv 2=((i / 2:Nat):Int):=by rw[Int.tdiv_eq_ediv_of_nonneg (by omega)];omega
    obtain⟨d,hd⟩:∃d,i / 2=d:=⟨_,rfl⟩
    rw[hd] at hq
    have hd3:d≤3:=by omega
    replace hd:=Hy hd
    have hng:IntKind.i64.wrap (-(d:Int)) = -(d:Int):=(IntWalk.i64_left _).trans (IntWalk.wrap64_in _ (by omega))
    have hci:¬cap=i:=by omega
    have hic:i≤l.length:=by omega
    obtain⟨ro,rz⟩:=nY OK.out (l.length-(i+1)) (by omega)
    have hRl:=hH l (l.length-(i+1))
    rw[←H.out.1] at ro rz hRl
    obtain⟨xo,xz⟩:=uL OK.out ro hRl rz hil
    obtain⟨zo,zz⟩:=vy OK.out ro hRl rz hil
    have hdo:=lf ro (i:=i) (by omega)
    have hsd:=ta HBK.out H.out.2.1 (by rw[hRl];exact hlcap) hcm3 (fun j hj=>H.out.2.2.1 j (by omega)) (by omega) (iM ro) (i:=i)
    rw[hRl] at hsd
    have HSD:=Hy hsd
    have HX:=Hy (Ie hdo (Ie xo (Ie hRl zo)))
    clear ro rz xz zz xo zo hdo hsd hRl
    go_wp2_with fail
    refine(jx _ (R.drop i) d _ HSD.out HX.out.1 (by omega)).mono ?_
    rintro e w4 ⟨r,rfl,o4,b4⟩
    have hlX:(aV (R.drop i) d).length=l.length-i:=by rw[cN,List.length_drop,HX.out.2.2.1]
    rcases o4.form with ⟨_,h0⟩|⟨g4,cap4,cs4,rfl,hg4,hblk4,hlc4,hcm4,hcl4,hcs4⟩
    ·exfalso;rw[h0] at hlX;simp at hlX;omega
    ·have hXe:iC l R i=(aV (R.drop i) d).set 0 (sat l i):=by unfold iC;rw[hd.out]
     have hne4:g4≠g:=by omega
     have HB4:=Hy (aa H.out.2.2.2.2.2 b4)
     have HBL:=Hy (HBK.out.below b4 hbz)
     have K04:=Hy (H.out.2.2.2.1.below b4 H.out.2.2.2.1.lt)
     have K24:=Hy (H.out.2.2.2.2.1.below b4 H.out.2.2.2.2.1.lt)
     obtain⟨c0,-⟩:=K04.out.one
     have hw4:w.heap.size+2≤wr.heap.size:=by have:=HBK.out.lt;omega
     have ck:=(HB4.out.cell (by exact HCA.out.1)).trans (HCA.out.2 i hil)
     have ce:w4.cell? ⟨g4,0,none⟩=some (.string (sat (aV (R.drop i) d) 0)):=by rw[hblk4.cell];exact hcs4 0 (by omega)
     have fe:=hblk4.frozen 0
     have hX0:0<l.length-i:=by omega
     have HB4k:=Hy hblk4
     have HC4:=Hy (Ie hlc4 (Ie hcl4 hcs4))
     obtain⟨Z0,hZ0⟩:∃Z,sat l i=Z:=⟨_,rfl⟩
     rw[hZ0] at ck hXe
     have HSX:=Hy (show ak (w4.setCell ⟨g4,0,none⟩ (.string Z0)) wr.heap.size (.slice (some ⟨g4,0,none⟩) (l.length-i) cap4) (iC l R i) from by
      have hl5:(iC l R i).length=l.length-i:=by rw[hXe,List.length_set,hlX]
      have:=ak.mk' (base:=wr.heap.size) (l:=iC l R i) hg4 (hblk4.set_ 0 (.string Z0)) (by rw[hl5];omega) hcm4 (by rw[List.length_set];exact hcl4) (fun j hj=>by
       rw[hl5] at hj
       rw[hXe,kd (by omega)]
       by_cases e:0=j
       ·subst e;rw[List.getElem?_set_self (by omega),if_pos rfl]
       ·rw[List.getElem?_set_ne e,if_neg e];exact hcs4 j (by omega)) (iM HX.out.2.1)
      rwa[hl5] at this)
     have HBS:=Hy (b4.setCell (p:=⟨g4,0,none⟩) (by exact hg4) (.string Z0))
     rw[hlX]
     clear o4 b4 hlX hblk4 hlc4 hcl4 hcs4 hZ0
     go_wp2_with fail
     generalize hW5:w4.setCell ⟨g4,0,none⟩ (.string Z0)=w5 at HSX HBS ⊢
     clear hW5 c0 ck ce fe
     refine(mY _ (iC l R i) d _ HSX.out.strs HX.out.2.1 (by omega)).mono ?_
     rintro e w6 ⟨r,rfl,o6,b6⟩
     have hlY:(aH (iC l R i) d).length=l.length-i:=by rw[eP,hXe,List.length_set,cN,List.length_drop,HX.out.2.2.1]
     obtain⟨A6,c6,rfl,hlc6,-,hrd6⟩:=o6.strs.open_
     obtain⟨b6',o6',rfl,hbb6,hcell6⟩:=hrd6.strs (by omega)
     have ck:=hcell6 0 (by omega)
     rw[Nat.add_zero] at ck
     have HB6:=Hy (aa HBS.out b6)
     have HBw:=Hy (aa H.out.2.2.2.2.2 HB6.out)
     have HBL6:=HBK.out.below HB6.out hbz
     have cg:w6.cell? ⟨g,i,none⟩=some (.string (sat R i)):=(HBL6.cell i).trans (H.out.2.2.1 i hil)
     have fg:=HBL6.frozen i
     have HK6:=Hy HBL6
     have K06:=Hy (H.out.2.2.2.1.below HB6.out H.out.2.2.2.1.lt)
     have K26:=Hy (H.out.2.2.2.2.1.below HB6.out H.out.2.2.2.2.1.lt)
     have hZe:sat (aH (iC l R i) d) 0=gS l R i:=by unfold gS;rw[hd.out]
     rw[hZe] at ck
     obtain⟨Z,hZ⟩:∃Z,gS l R i=Z:=⟨_,rfl⟩
     rw[hZ] at ck
     have HR2:=Hy (show R.set i Z=fk l (l.length-i) by rw[ru hil,←H.out.1,hZ])
     have HRl:=Hy HX.out.2.2.1
     rw[hlY]
     clear o6 b6 hlY hrd6 hcell6 HBL6 hZe hZ hXe
     go_wp2_with fail
     go_roundw
     case rel=>
      refine⟨i,R.set i Z,cs.set i (.string Z),by omega,by go_num,HR2.out,HK6.out.set_ i _,by rw[List.length_set];exact H.out.2.1,fun j hj=>?_,K06.out.far (by show w.heap.size≠g;omega) _,K26.out.far (by show w.heap.size+1≠g;omega) _,HBw.out.setCell (by show w.heap.size≤g;omega) _⟩
      rw[kd (by rw[HRl.out];exact hil)]
      by_cases e:i=j
      ·subst e;rw[List.getElem?_set_self (by rw[H.out.2.1];omega),if_pos rfl]
      ·rw[List.getElem?_set_ne e,if_neg e];exact H.out.2.2.1 j hj
     case measure=>simp[intOf]
def aS (f:List ByteArray→List ByteArray) (l:List ByteArray):List ByteArray:=if af l=true then f l else[]
theorem dP {f:List ByteArray→List ByteArray} {l:List ByteArray} (h:af l=true):aS f l=f l:=by simp[aS,h]
theorem jj {f:List ByteArray→List ByteArray} {l:List ByteArray} (h:af l=false):aS f l=[]:=by simp[aS,h]
theorem cw.of {w:World} {f:List ByteArray→List ByteArray} {l:List ByteArray} {F:FuncId} {args:Array Value} (hy:af l=true→Calls prog F args w (cw w (f l) true)) (hn:af l=false→Calls prog F args w (cw w [] false)):Calls prog F args w (cw w (aS f l) (af l)):=by
 cases h:af l
 ·rw[jj h];exact hn h
 ·rw[dP h];exact hy h
theorem uH (v:Value) (l:List ByteArray) (w:World) (hv:aG w v l) (he:af l=true):
  Calls prog 108 #[.agg #[v]] w (cw w (aW l) true):=by
 have HV:=Hy hv
 obtain⟨A,c,rfl,-,-,-⟩:=hv.open_
 clear hv
 have B0:=Hy (show Below w.heap.size w ((w.alloc (.cells #[.slice A l.length c] 32)).alloc (.cells #[.slice none 0 0] 32)) from(ab w _).alloc (by simp) _)
 have K0:=(Blk.new' w 32 (.slice A l.length c) w.heap.size rfl).alloc (.cells #[.slice none 0 0] 32)
 have K2:=Blk.new' (w.alloc (.cells #[.slice A l.length c] 32)) 32 (.slice none 0 0) (w.heap.size+1) (by simp)
 obtain⟨c0,-⟩:=K0.one
 go_enter func108,ntmps108
 go_wp2_with fail
 clear c0
 generalize hW:(w.alloc (.cells #[.slice A l.length c] 32)).alloc (.cells #[.slice none 0 0] 32)=W at *
 clear hW
 refine(bK _ l _ (HV.out.bel B0.out)).mono ?_
 rintro e w2 ⟨rfl,hb⟩
 replace K0:=K0.below hb K0.lt
 replace K2:=K2.below hb K2.lt
 have HB:=Hy (aa B0.out hb)
 have hz:=HB.out.size
 clear hb
 obtain⟨c0,-⟩:=K0.one
 obtain⟨c2,f2⟩:=K2.one
 rw[he]
 have HE:=Hy he
 go_wp2_with fail
 refine(m6 _ l _ (HV.out.bel HB.out) HE.out).mono ?_
 rintro e w3 ⟨r,rfl,ho,hb3⟩
 have k2:=K2.lt
 replace K2:=K2.below hb3 K2.lt
 have HO:=Hy (Ie (ho.lower (base':=w.heap.size+1+1) (by omega)) (aa HB.out hb3))
 obtain⟨A3,d3,rfl,-,-,-⟩:=ho.strs.open_
 clear ho hb3 c2 f2
 obtain⟨c2,f2⟩:=K2.one
 generalize hp:(aW l).length=p at *
 clear hp
 go_wp2
 refine bodyPost_ret (v:=.tuple #[.agg #[.slice A3 p d3],.bool true]) (by simp[results,results108,go_sem,c2]) rfl ⟨_,rfl,(HO.out.1.setCell _ _ (by simp)).lower (by omega),HO.out.2.setCell (by simp) _⟩
theorem xf (v:Value) (l:List ByteArray) (w:World) (hv:aG w v l) (he:af l=false):
  Calls prog 108 #[.agg #[v]] w (cw w [] false):=by
 have HV:=Hy hv
 obtain⟨A,c,rfl,-,-,-⟩:=hv.open_
 clear hv
 have B0:=Hy (show Below w.heap.size w ((w.alloc (.cells #[.slice A l.length c] 32)).alloc (.cells #[.slice none 0 0] 32)) from(ab w _).alloc (by simp) _)
 have K0:=(Blk.new' w 32 (.slice A l.length c) w.heap.size rfl).alloc (.cells #[.slice none 0 0] 32)
 have K2:=Blk.new' (w.alloc (.cells #[.slice A l.length c] 32)) 32 (.slice none 0 0) (w.heap.size+1) (by simp)
 obtain⟨c0,-⟩:=K0.one
 go_enter func108,ntmps108
 go_wp2_with fail
 clear c0
 generalize hW:(w.alloc (.cells #[.slice A l.length c] 32)).alloc (.cells #[.slice none 0 0] 32)=W at *
 clear hW
 refine(bK _ l _ (HV.out.bel B0.out)).mono ?_
 rintro e w2 ⟨rfl,hb⟩
 replace K0:=K0.below hb K0.lt
 replace K2:=K2.below hb K2.lt
 have HB:=Hy (aa B0.out hb)
 have hz:=HB.out.size
 clear hb
 obtain⟨c0,-⟩:=K0.one
 obtain⟨c2,f2⟩:=K2.one
 rw[he]
 go_wp2
 refine bodyPost_ret (v:=.tuple #[.agg #[.slice none 0 0],.bool false]) (by simp[results,results108,go_sem,c2]) rfl ⟨.slice none 0 0,rfl,ak.nil_ _ _,HB.out.setCell (by simp) _⟩
theorem Fl (v:Value) (l:List ByteArray) (w:World) (hv:aG w v l) (he:af l=false):
  Calls prog 109 #[.agg #[v]] w (cw w [] false):=by
 have HV:=Hy hv
 obtain⟨A,c,rfl,-,-,-⟩:=hv.open_
 clear hv
 have B0:=Hy (show Below w.heap.size w ((w.alloc (.cells #[.slice A l.length c] 32)).alloc (.cells #[.slice none 0 0] 32)) from(ab w _).alloc (by simp) _)
 have K0:=(Blk.new' w 32 (.slice A l.length c) w.heap.size rfl).alloc (.cells #[.slice none 0 0] 32)
 have K2:=Blk.new' (w.alloc (.cells #[.slice A l.length c] 32)) 32 (.slice none 0 0) (w.heap.size+1) (by simp)
 obtain⟨c0,-⟩:=K0.one
 go_enter func109,ntmps109
 go_wp2_with fail
 clear c0
 generalize hW:(w.alloc (.cells #[.slice A l.length c] 32)).alloc (.cells #[.slice none 0 0] 32)=W at *
 clear hW
 refine(bK _ l _ (HV.out.bel B0.out)).mono ?_
 rintro e w2 ⟨rfl,hb⟩
 replace K0:=K0.below hb K0.lt
 replace K2:=K2.below hb K2.lt
 have HB:=Hy (aa B0.out hb)
 have hz:=HB.out.size
 clear hb
 obtain⟨c0,-⟩:=K0.one
 obtain⟨c2,f2⟩:=K2.one
 rw[he]
 go_wp2
 refine bodyPost_ret (v:=.tuple #[.agg #[.slice none 0 0],.bool false]) (by simp[results,results109,go_sem,c2]) rfl ⟨.slice none 0 0,rfl,ak.nil_ _ _,HB.out.setCell (by simp) _⟩
theorem CM (v:Value) (l:List ByteArray) (w:World) (hv:aG w v l) (he:af l=false):
  Calls prog 110 #[.agg #[v]] w (cw w [] false):=by
 have HV:=Hy hv
 obtain⟨A,c,rfl,-,-,-⟩:=hv.open_
 clear hv
 have B0:=Hy (show Below w.heap.size w ((w.alloc (.cells #[.slice A l.length c] 32)).alloc (.cells #[.slice none 0 0] 32)) from(ab w _).alloc (by simp) _)
 have K0:=(Blk.new' w 32 (.slice A l.length c) w.heap.size rfl).alloc (.cells #[.slice none 0 0] 32)
 have K2:=Blk.new' (w.alloc (.cells #[.slice A l.length c] 32)) 32 (.slice none 0 0) (w.heap.size+1) (by simp)
 obtain⟨c0,-⟩:=K0.one
 go_enter func110,ntmps110
 go_wp2_with fail
 clear c0
 generalize hW:(w.alloc (.cells #[.slice A l.length c] 32)).alloc (.cells #[.slice none 0 0] 32)=W at *
 clear hW
 refine(bK _ l _ (HV.out.bel B0.out)).mono ?_
 rintro e w2 ⟨rfl,hb⟩
 replace K0:=K0.below hb K0.lt
 replace K2:=K2.below hb K2.lt
 have HB:=Hy (aa B0.out hb)
 have hz:=HB.out.size
 clear hb
 obtain⟨c0,-⟩:=K0.one
 obtain⟨c2,f2⟩:=K2.one
 rw[he]
 go_wp2
 refine bodyPost_ret (v:=.tuple #[.agg #[.slice none 0 0],.bool false]) (by simp[results,results110,go_sem,c2]) rfl ⟨.slice none 0 0,rfl,ak.nil_ _ _,HB.out.setCell (by simp) _⟩
theorem By (v:Value) (l:List ByteArray) (w:World) (hv:aG w v l) (he:af l=false):
  Calls prog 111 #[.agg #[v]] w (cw w [] false):=by
 have HV:=Hy hv
 have HE:=Hy he
 obtain⟨A,c,rfl,-,-,-⟩:=hv.open_
 clear hv he
 have B0:=Hy (show Below w.heap.size w ((w.alloc (.cells #[.slice A l.length c] 32)).alloc (.cells #[.slice none 0 0] 32)) from(ab w _).alloc (by simp) _)
 have K2:=Blk.new' (w.alloc (.cells #[.slice A l.length c] 32)) 32 (.slice none 0 0) (w.heap.size+1) (by simp)
 go_enter func111,ntmps111
 go_wp2_with fail
 generalize hW:(w.alloc (.cells #[.slice A l.length c] 32)).alloc (.cells #[.slice none 0 0] 32)=W at *
 have hWz:W.heap.size=w.heap.size+2:=by rw[←hW];simp
 clear hW
 refine(oh _ l _ (HV.out.bel B0.out)).mono ?_
 rintro e w2 ⟨r,rfl,o1,b1⟩
 rw[HE.out]
 obtain⟨A1,d1,rfl,-,-,-⟩:=o1.strs.open_
 obtain⟨L,hL⟩:∃L,(nQ 0 l).length=L:=⟨_,rfl⟩
 rw[hL]
 have bA:Below w2.heap.size w2 (w2.alloc (.cells #[.slice A1 L d1] 32)):=ab w2 _
 have bb:=aa b1 bA
 have hz2:=b1.size
 have hk2:=K2.lt
 replace K2:=K2.below bb K2.lt
 have HB:=Hy (aa B0.out bb)
 obtain⟨c2,f2⟩:=K2.one
 clear b1 bA bb o1 hL
 go_wp2
 refine bodyPost_ret (v:=.tuple #[.agg #[.slice none 0 0],.bool false]) (by simp[results,results111,go_sem,c2]) rfl ⟨.slice none 0 0,rfl,ak.nil_ _ _,HB.out.setCell (by simp) _⟩
theorem tT (v:Value) (l:List ByteArray) (w:World) (hv:aG w v l):Calls prog 108 #[.agg #[v]] w (cw w (aS aW l) (af l)):=cw.of (uH v l w hv) (xf v l w hv)
theorem C4 (v:Value) (l:List ByteArray) (w:World) (hv:aG w v l):Calls prog 109 #[.agg #[v]] w (cw w (aS bI l) (af l)):=cw.of (D7 v l w hv) (Fl v l w hv)
theorem xA (v:Value) (l:List ByteArray) (w:World) (hv:aG w v l):Calls prog 110 #[.agg #[v]] w (cw w (aS du l) (af l)):=cw.of (Ag v l w hv) (CM v l w hv)
theorem xx (v:Value) (l:List ByteArray) (w:World) (hv:aG w v l):Calls prog 111 #[.agg #[v]] w (cw w (aS (fun l=>bf (bf l 0) 1) l) (af l)):=cw.of (sA v l w hv) (By v l w hv)
def tmS (l:List ByteArray) (n:Int):List ByteArray:=if 0≤n then aH l n.toNat else aV l (-n).toNat
def cD (l:List ByteArray) (n:Int):Bool:=af l&&inB n (-300) 300
def tmL (l:List ByteArray) (n:Int):List ByteArray:=if cD l n=true then tmS l n else[]
theorem sn {l:List ByteArray} {n:Int} (h:cD l n=true):tmL l n=tmS l n:=by simp[tmL,h]
theorem rk {l:List ByteArray} {n:Int} (h:cD l n=false):tmL l n=[]:=by simp[tmL,h]
theorem qH (v:Value) (l:List ByteArray) (n:Int) (w:World) (hv:aG w v l) (ok:af l=true) (hn : -300≤n∧n≤300):
  Calls prog 184 #[v,.int .i64 n] w fun e w'=>∃r,e=.returned r∧ak w' w.heap.size r (tmS l n)∧Below w.heap.size w w':=by
 unfold tmS
 by_cases h:0≤n
 ·rw[if_pos h]
  have:=mY v l n.toNat w hv ok (by omega)
  rwa[Int.toNat_of_nonneg h] at this
 ·rw[if_neg h]
  have:=jx v l (-n).toNat w hv ok (by omega)
  rwa[Int.toNat_of_nonneg (by omega),Int.neg_neg] at this
theorem tQ (v:Value) (l:List ByteArray) (n:Int) (w:World) (hv:aG w v l):
  Calls prog 121 #[.agg #[v],.int .i64 n] w (cw w (tmL l n) (cD l n)):=by
 have HV:=Hy hv
 obtain⟨A,c,rfl,-,-,-⟩:=hv.open_
 clear hv
 have B0:=Hy (show Below w.heap.size w ((w.alloc (.cells #[.slice A l.length c] 32)).alloc (.cells #[.slice none 0 0] 32)) from(ab w _).alloc (by simp) _)
 have K0:=(Blk.new' w 32 (.slice A l.length c) w.heap.size rfl).alloc (.cells #[.slice none 0 0] 32)
 have K2:=Blk.new' (w.alloc (.cells #[.slice A l.length c] 32)) 32 (.slice none 0 0) (w.heap.size+1) (by simp)
 obtain⟨c0,-⟩:=K0.one
 go_enter func121,ntmps121
 go_wp2_with fail
 clear c0
 generalize hW:(w.alloc (.cells #[.slice A l.length c] 32)).alloc (.cells #[.slice none 0 0] 32)=W at *
 clear hW
 refine(bK _ l _ (HV.out.bel B0.out)).mono ?_
 rintro e w2 ⟨rfl,hb⟩
 replace K0:=K0.below hb K0.lt
 replace K2:=K2.below hb K2.lt
 have HB:=Hy (aa B0.out hb)
 have hz:=HB.out.size
 clear hb
 obtain⟨c0,-⟩:=K0.one
 obtain⟨c2,f2⟩:=K2.one
 cases he:af l
 ·have HN:=Hy (show cD l n=false∧tmL l n=[] from⟨by unfold cD;rw[he];rfl,rk (by unfold cD;rw[he];rfl)⟩)
  go_wp2
  rw[HN.out.1,HN.out.2]
  refine bodyPost_ret (v:=.tuple #[.agg #[.slice none 0 0],.bool false]) (by simp[results,results121,go_sem,c2]) rfl ⟨.slice none 0 0,rfl,ak.nil_ _ _,HB.out.setCell (by simp) _⟩
 ·cases hn:inB n (-300) 300
  ·have HN:=Hy (show cD l n=false∧tmL l n=[] from⟨by unfold cD;rw[hn];simp,rk (by unfold cD;rw[hn];simp)⟩)
   clear he
   go_wp2_with fail
   refine(aZ n 300 _ (by omega) (by omega)).mono ?_
   rw[hn]
   rintro e w2' ⟨rfl,rfl⟩
   go_wp2
   rw[HN.out.1,HN.out.2]
   refine bodyPost_ret (v:=.tuple #[.agg #[.slice none 0 0],.bool false]) (by simp[results,results121,go_sem,c2]) rfl ⟨.slice none 0 0,rfl,ak.nil_ _ _,HB.out.setCell (by simp) _⟩
  ·have HN:=Hy (show cD l n=true∧tmL l n=tmS l n from⟨by unfold cD;rw[he,hn];rfl,sn (by unfold cD;rw[he,hn];rfl)⟩)
   have HE:=Hy (Ie he (am.1 hn))
   clear he
   go_wp2_with fail
   refine(aZ n 300 _ (by omega) (by omega)).mono ?_
   rw[hn]
   rintro e w2' ⟨rfl,rfl⟩
   clear hn
   go_wp2_with fail
   refine(qH _ l n _ (HV.out.bel HB.out) HE.out.1 HE.out.2).mono ?_
   rintro e w3 ⟨r,rfl,ho,hb3⟩
   have k2:=K2.lt
   replace K2:=K2.below hb3 K2.lt
   have HO:=Hy (Ie (ho.lower (base':=w.heap.size+1+1) (by omega)) (aa HB.out hb3))
   obtain⟨A3,d3,rfl,-,-,-⟩:=ho.strs.open_
   clear ho hb3 c2 f2
   obtain⟨c2,f2⟩:=K2.one
   generalize hp:(tmS l n).length=p at *
   clear hp
   go_wp2
   rw[HN.out.1,HN.out.2]
   refine bodyPost_ret (v:=.tuple #[.agg #[.slice A3 p d3],.bool true]) (by simp[results,results121,go_sem,c2]) rfl ⟨_,rfl,(HO.out.1.setCell _ _ (by simp)).lower (by omega),HO.out.2.setCell (by simp) _⟩
theorem z7 (v:Value) (l:List ByteArray) (w:World) (hv:aG w v l):
  Calls prog 22 #[.agg #[v]] w (cw w (aS bB l) (af l)):=by
 have HV:=Hy hv
 obtain⟨A,c,rfl,-,-,-⟩:=hv.open_
 clear hv
 have B0:=Hy (show Below w.heap.size w ((w.alloc (.cells #[.slice A l.length c] 32)).alloc (.cells #[.slice none 0 0] 32)) from(ab w _).alloc (by simp) _)
 have K0:=(Blk.new' w 32 (.slice A l.length c) w.heap.size rfl).alloc (.cells #[.slice none 0 0] 32)
 have K2:=Blk.new' (w.alloc (.cells #[.slice A l.length c] 32)) 32 (.slice none 0 0) (w.heap.size+1) (by simp)
 obtain⟨c0,-⟩:=K0.one
 go_enter func22,ntmps22
 go_wp2_with fail
 clear c0
 generalize hW:(w.alloc (.cells #[.slice A l.length c] 32)).alloc (.cells #[.slice none 0 0] 32)=W at *
 clear hW
 refine(dT _ l _ (HV.out.bel B0.out)).mono ?_
 rintro e w2 ⟨rfl,hb⟩
 replace K0:=K0.below hb K0.lt
 replace K2:=K2.below hb K2.lt
 have HB:=Hy (aa B0.out hb)
 have hz:=HB.out.size
 clear hb
 obtain⟨c0,-⟩:=K0.one
 obtain⟨c2,f2⟩:=K2.one
 cases he:af l
 ·have HN:=Hy (Ie (jj (f:=bB) he) he)
  go_wp2
  rw[HN.out.1,HN.out.2]
  refine bodyPost_ret (v:=.tuple #[.agg #[.slice none 0 0],.bool false]) (by simp[results,results22,go_sem,c2]) rfl ⟨.slice none 0 0,rfl,ak.nil_ _ _,HB.out.setCell (by simp) _⟩
 ·have HY:=Hy (Ie (dP (f:=bB) he) he)
  have HE:=Hy he
  clear he
  go_wp2_with fail
  refine(jB _ l _ (HV.out.bel HB.out) HE.out).mono ?_
  rintro e w3 ⟨r,rfl,ho,hb3⟩
  have k2:=K2.lt
  replace K2:=K2.below hb3 K2.lt
  have HO:=Hy (Ie (ho.lower (base':=w.heap.size+1+1) (by omega)) (aa HB.out hb3))
  obtain⟨A3,d3,rfl,-,-,-⟩:=ho.strs.open_
  clear ho hb3 c2 f2
  obtain⟨c2,f2⟩:=K2.one
  generalize hp:(bB l).length=p at *
  clear hp
  go_wp2
  rw[HY.out.1,HY.out.2]
  refine bodyPost_ret (v:=.tuple #[.agg #[.slice A3 p d3],.bool true]) (by simp[results,results22,go_sem,c2]) rfl ⟨_,rfl,(HO.out.1.setCell _ _ (by simp)).lower (by omega),HO.out.2.setCell (by simp) _⟩
theorem zb (v:Value) (l:List ByteArray) (w:World) (hv:aG w v l):
  Calls prog 24 #[.agg #[v]] w (cw w (aS aW l) (af l)):=by
 have HV:=Hy hv
 obtain⟨A,c,rfl,-,-,-⟩:=hv.open_
 clear hv
 have B0:=Hy (show Below w.heap.size w ((w.alloc (.cells #[.slice A l.length c] 32)).alloc (.cells #[.slice none 0 0] 32)) from(ab w _).alloc (by simp) _)
 have K0:=(Blk.new' w 32 (.slice A l.length c) w.heap.size rfl).alloc (.cells #[.slice none 0 0] 32)
 have K2:=Blk.new' (w.alloc (.cells #[.slice A l.length c] 32)) 32 (.slice none 0 0) (w.heap.size+1) (by simp)
 obtain⟨c0,-⟩:=K0.one
 go_enter func24,ntmps24
 go_wp2_with fail
 clear c0
 generalize hW:(w.alloc (.cells #[.slice A l.length c] 32)).alloc (.cells #[.slice none 0 0] 32)=W at *
 clear hW
 refine(dT _ l _ (HV.out.bel B0.out)).mono ?_
 rintro e w2 ⟨rfl,hb⟩
 replace K0:=K0.below hb K0.lt
 replace K2:=K2.below hb K2.lt
 have HB:=Hy (aa B0.out hb)
 have hz:=HB.out.size
 clear hb
 obtain⟨c0,-⟩:=K0.one
 obtain⟨c2,f2⟩:=K2.one
 cases he:af l
 ·have HN:=Hy (Ie (jj (f:=aW) he) he)
  go_wp2
  rw[HN.out.1,HN.out.2]
  refine bodyPost_ret (v:=.tuple #[.agg #[.slice none 0 0],.bool false]) (by simp[results,results24,go_sem,c2]) rfl ⟨.slice none 0 0,rfl,ak.nil_ _ _,HB.out.setCell (by simp) _⟩
 ·have HY:=Hy (Ie (dP (f:=aW) he) he)
  have HE:=Hy he
  clear he
  go_wp2_with fail
  refine(rE _ l _ (HV.out.bel HB.out) HE.out).mono ?_
  rintro e w3 ⟨r,rfl,ho,hb3⟩
  have k2:=K2.lt
  replace K2:=K2.below hb3 K2.lt
  have HO:=Hy (Ie (ho.lower (base':=w.heap.size+1+1) (by omega)) (aa HB.out hb3))
  obtain⟨A3,d3,rfl,-,-,-⟩:=ho.strs.open_
  clear ho hb3 c2 f2
  obtain⟨c2,f2⟩:=K2.one
  generalize hp:(aW l).length=p at *
  clear hp
  go_wp2
  rw[HY.out.1,HY.out.2]
  refine bodyPost_ret (v:=.tuple #[.agg #[.slice A3 p d3],.bool true]) (by simp[results,results24,go_sem,c2]) rfl ⟨_,rfl,(HO.out.1.setCell _ _ (by simp)).lower (by omega),HO.out.2.setCell (by simp) _⟩
theorem Al (v:Value) (l:List ByteArray) (w:World) (hv:aG w v l):
  Calls prog 27 #[.agg #[v]] w (cw w (aS (fun l=>bf (bf l 0) 1) l) (af l)):=by
 have HV:=Hy hv
 obtain⟨A,c,rfl,-,-,-⟩:=hv.open_
 clear hv
 have B0:=Hy (show Below w.heap.size w ((w.alloc (.cells #[.slice A l.length c] 32)).alloc (.cells #[.slice none 0 0] 32)) from(ab w _).alloc (by simp) _)
 have K0:=(Blk.new' w 32 (.slice A l.length c) w.heap.size rfl).alloc (.cells #[.slice none 0 0] 32)
 have K2:=Blk.new' (w.alloc (.cells #[.slice A l.length c] 32)) 32 (.slice none 0 0) (w.heap.size+1) (by simp)
 obtain⟨c0,-⟩:=K0.one
 go_enter func27,ntmps27
 go_wp2_with fail
 clear c0
 generalize hW:(w.alloc (.cells #[.slice A l.length c] 32)).alloc (.cells #[.slice none 0 0] 32)=W at *
 clear hW
 refine(dT _ l _ (HV.out.bel B0.out)).mono ?_
 rintro e w2 ⟨rfl,hb⟩
 replace K0:=K0.below hb K0.lt
 replace K2:=K2.below hb K2.lt
 have HB:=Hy (aa B0.out hb)
 have hz:=HB.out.size
 clear hb
 obtain⟨c0,-⟩:=K0.one
 obtain⟨c2,f2⟩:=K2.one
 cases he:af l
 ·have HN:=Hy (Ie (jj (f:=(fun l=>bf (bf l 0) 1)) he) he)
  go_wp2
  rw[HN.out.1,HN.out.2]
  refine bodyPost_ret (v:=.tuple #[.agg #[.slice none 0 0],.bool false]) (by simp[results,results27,go_sem,c2]) rfl ⟨.slice none 0 0,rfl,ak.nil_ _ _,HB.out.setCell (by simp) _⟩
 ·have HY:=Hy (Ie (dP (f:=(fun l=>bf (bf l 0) 1)) he) he)
  have HE:=Hy he
  clear he
  go_wp2_with fail
  refine(uQ _ l _ (HV.out.bel HB.out) HE.out).mono ?_
  rintro e w3 ⟨r,rfl,ho,hb3⟩
  have k2:=K2.lt
  replace K2:=K2.below hb3 K2.lt
  have HO:=Hy (Ie (ho.lower (base':=w.heap.size+1+1) (by omega)) (aa HB.out hb3))
  obtain⟨A3,d3,rfl,-,-,-⟩:=ho.strs.open_
  clear ho hb3 c2 f2
  obtain⟨c2,f2⟩:=K2.one
  generalize hp:(bf (bf l 0) 1).length=p at *
  clear hp
  go_wp2
  rw[HY.out.1,HY.out.2]
  refine bodyPost_ret (v:=.tuple #[.agg #[.slice A3 p d3],.bool true]) (by simp[results,results27,go_sem,c2]) rfl ⟨_,rfl,(HO.out.1.setCell _ _ (by simp)).lower (by omega),HO.out.2.setCell (by simp) _⟩
theorem wV (v:Value) (l:List ByteArray) (n:Int) (w:World) (hv:aG w v l) (ok:af l=true) (hn : -300≤n∧n≤300):
  Calls prog 147 #[.agg #[v],.int .i64 n] w fun e w'=>∃r,e=.returned (.agg #[r])∧ak w' w.heap.size r (tmS l n)∧Below w.heap.size w w':=by
 unfold tmS
 by_cases h:0≤n
 ·rw[if_pos h]
  have:=zr v l n.toNat w hv ok (by omega)
  rwa[Int.toNat_of_nonneg h] at this
 ·rw[if_neg h]
  have:=mm v l (-n).toNat w hv ok (by omega)
  rwa[Int.toNat_of_nonneg (by omega),Int.neg_neg] at this
theorem qL (v:Value) (l:List ByteArray) (n:Int) (w:World) (hv:aG w v l):
  Calls prog 85 #[.agg #[v],.int .i64 n] w (cw w (tmL l n) (cD l n)):=by
 have HV:=Hy hv
 obtain⟨A,c,rfl,-,-,-⟩:=hv.open_
 clear hv
 have B0:=Hy (show Below w.heap.size w ((w.alloc (.cells #[.slice A l.length c] 32)).alloc (.cells #[.slice none 0 0] 32)) from(ab w _).alloc (by simp) _)
 have K0:=(Blk.new' w 32 (.slice A l.length c) w.heap.size rfl).alloc (.cells #[.slice none 0 0] 32)
 have K2:=Blk.new' (w.alloc (.cells #[.slice A l.length c] 32)) 32 (.slice none 0 0) (w.heap.size+1) (by simp)
 obtain⟨c0,-⟩:=K0.one
 go_enter func85,ntmps85
 go_wp2_with fail
 clear c0
 generalize hW:(w.alloc (.cells #[.slice A l.length c] 32)).alloc (.cells #[.slice none 0 0] 32)=W at *
 clear hW
 refine(dT _ l _ (HV.out.bel B0.out)).mono ?_
 rintro e w2 ⟨rfl,hb⟩
 replace K0:=K0.below hb K0.lt
 replace K2:=K2.below hb K2.lt
 have HB:=Hy (aa B0.out hb)
 have hz:=HB.out.size
 clear hb
 obtain⟨c0,-⟩:=K0.one
 obtain⟨c2,f2⟩:=K2.one
 cases he:af l
 ·have HN:=Hy (show cD l n=false∧tmL l n=[] from⟨by unfold cD;rw[he];rfl,rk (by unfold cD;rw[he];rfl)⟩)
  go_wp2
  rw[HN.out.1,HN.out.2]
  refine bodyPost_ret (v:=.tuple #[.agg #[.slice none 0 0],.bool false]) (by simp[results,results85,go_sem,c2]) rfl ⟨.slice none 0 0,rfl,ak.nil_ _ _,HB.out.setCell (by simp) _⟩
 ·cases hn:inB n (-300) 300
  ·have HN:=Hy (show cD l n=false∧tmL l n=[] from⟨by unfold cD;rw[hn];simp,rk (by unfold cD;rw[hn];simp)⟩)
   clear he
   go_wp2_with fail
   refine(aL n (-300) 300 _).mono ?_
   rw[hn]
   rintro e w2' ⟨rfl,rfl⟩
   go_wp2
   rw[HN.out.1,HN.out.2]
   refine bodyPost_ret (v:=.tuple #[.agg #[.slice none 0 0],.bool false]) (by simp[results,results85,go_sem,c2]) rfl ⟨.slice none 0 0,rfl,ak.nil_ _ _,HB.out.setCell (by simp) _⟩
  ·have HN:=Hy (show cD l n=true∧tmL l n=tmS l n from⟨by unfold cD;rw[he,hn];rfl,sn (by unfold cD;rw[he,hn];rfl)⟩)
   have HE:=Hy (Ie he (am.1 hn))
   clear he
   go_wp2_with fail
   refine(aL n (-300) 300 _).mono ?_
   rw[hn]
   rintro e w2' ⟨rfl,rfl⟩
   clear hn
   go_wp2_with fail
   refine(wV _ l n _ (HV.out.bel HB.out) HE.out.1 HE.out.2).mono ?_
   rintro e w3 ⟨r,rfl,ho,hb3⟩
   have k2:=K2.lt
   replace K2:=K2.below hb3 K2.lt
   have HO:=Hy (Ie (ho.lower (base':=w.heap.size+1+1) (by omega)) (aa HB.out hb3))
   obtain⟨A3,d3,rfl,-,-,-⟩:=ho.strs.open_
   clear ho hb3 c2 f2
   obtain⟨c2,f2⟩:=K2.one
   generalize hp:(tmS l n).length=p at *
   clear hp
   go_wp2
   rw[HN.out.1,HN.out.2]
   refine bodyPost_ret (v:=.tuple #[.agg #[.slice A3 p d3],.bool true]) (by simp[results,results85,go_sem,c2]) rfl ⟨_,rfl,(HO.out.1.setCell _ _ (by simp)).lower (by omega),HO.out.2.setCell (by simp) _⟩
theorem zp (v:Value) (l:List ByteArray) (w:World) (hv:aG w v l) (ok:af l=true):
  Calls prog 66 #[.agg #[v]] w fun e w'=>∃r,e=.returned (.agg #[r])∧ak w' w.heap.size r (bI l)∧Below w.heap.size w w':=by
 have HV:=Hy hv
 obtain⟨A,c,rfl,hlc,hc,hrd⟩:=hv.open_
 obtain⟨l1,l7,hcol⟩:=ap.1 ok
 have OK:=Hy ok
 clear hrd hv hcol ok
 have B0:=Hy (show Below w.heap.size w ((w.alloc (.cells #[.slice A l.length c] 32)).alloc (.cells #[.slice none 0 0] 32)) from(ab w _).alloc (by simp) _)
 have K1:=(Blk.new' w 32 (.slice A l.length c) w.heap.size rfl).alloc (.cells #[.slice none 0 0] 32)
 have K2:=Blk.new' (w.alloc (.cells #[.slice A l.length c] 32)) 32 (.slice none 0 0) (w.heap.size+1) (by simp)
 obtain⟨c0,-⟩:=K1.one
 go_enter func66,ntmps66
 go_wp2_with fail
 clear c0
 generalize hW:(w.alloc (.cells #[.slice A l.length c] 32)).alloc (.cells #[.slice none 0 0] 32)=W at *
 have hWz:W.heap.size=w.heap.size+2:=by rw[←hW];simp
 clear hW
 refine(fs _ l _ (HV.out.bel B0.out) (by omega)).mono ?_
 rintro e w1 ⟨r,rfl,ho,hb1⟩
 have k2:=K2.lt
 replace K1:=K1.below hb1 K1.lt
 replace K2:=K2.below hb1 K2.lt
 have HB1:=Hy (aa B0.out hb1)
 rcases ho.form with ⟨_,h0⟩|⟨g,cap,cs0,rfl,hg,hblk0,hlcap,hcm,hcl0,hcs0⟩
 ·exfalso;rw[h0] at l1;simp at l1
 ·have H0:=Hy (Ie hcl0 hcs0)
  have hg2:w.heap.size+1<g:=by omega
  have hgz:=hblk0.lt
  have hz1:=HB1.out.size
  clear hcl0 hcs0 hb1 ho
  have ba:Below w1.heap.size w1 (w1.alloc (.cells #[.slice (some ⟨g,0,none⟩) l.length cap] 32)):=ab w1 _
  have K3:=Blk.new' w1 32 (.slice (some ⟨g,0,none⟩) l.length cap) _ rfl
  replace K1:=K1.below ba K1.lt
  replace K2:=K2.below ba K2.lt
  have hblk:=hblk0.below ba hgz
  have HB:=Hy (aa HB1.out ba)
  go_wp2_with fail
  generalize hW3:w1.alloc (.cells #[.slice (some ⟨g,0,none⟩) l.length cap] 32)=W3 at *
  clear hW3 ba hblk0
  have HK:=Hy (Ie K1 (Ie K2 K3))
  clear K1 K2 K3 k2
  go_loopw [4] (fun i wr=>∃(k:Nat) (cs:List Value),k≤l.length∧i=.int .i64 k∧Blk wr g 9 cs∧cs.length=cap∧(∀j,j<l.length→cs[j]?=some (.string (kR l k j)))∧Below w.heap.size w wr∧Blk wr w.heap.size 32 [.slice A l.length c]∧Blk wr (w.heap.size+1) 32 [.slice none 0 0]∧Blk wr w1.heap.size 32 [.slice (some ⟨g,0,none⟩) l.length cap])
   (fun i _=>l.length-(intOf i).toNat)
  case atStart=>exact⟨0,cs0,Ip _,rfl,hblk,H0.out.1,fun j hj=>by unfold kR;rw[if_neg (by omega)];exact H0.out.2 j hj,HB.out,HK.out.1,HK.out.2.1,HK.out.2.2⟩
  case round=>
   clear HK HB hblk
   obtain⟨k,cs,hk,rfl,hblk,hcl,hcs,hbel,K1,K2,K3⟩:=hrel
   have H:=Hy (Ie hcl (Ie hcs hbel))
   clear hcl hcs hbel H0
   obtain⟨e1,-⟩:=K1.one
   obtain⟨e2,f2⟩:=K2.one
   obtain⟨e3,-⟩:=K3.one
   by_cases hlt:k<l.length
   ·have hq:(k:Int).tdiv 2=((k / 2:Nat):Int):=by rw[Int.tdiv_eq_ediv_of_nonneg (by omega)];omega
    obtain⟨d,hd⟩:∃d,k / 2=d:=⟨_,rfl⟩
    rw[hd] at hq
    have hd3:d≤3:=by omega
    replace hd:=Hy hd
    have hng:IntKind.i64.wrap (-(d:Int)) = -(d:Int):=(IntWalk.i64_left _).trans (IntWalk.wrap64_in _ (by omega))
    have hwd:IntKind.i64.wrap (d:Int)=(d:Int):=(IntWalk.i64_left _).trans (IntWalk.wrap64_in _ (by omega))
    have hz:=hblk.lt
    have HVr:=Hy (HV.out.bel H.out.2.2)
    have HK:=Hy (Ie K1 (Ie K2 K3))
    have HBK:=Hy hblk
    have hlB:=cN l d
    clear e2 f2 K1 K2 K3 hblk
    have hfd:=fun A n c W=>Tryz.fieldEng A n c W
    have tok1:True:=trivial
    go_wp2_with fail
    go_region_law
     (first
     |((try go_simp);go_at_call 147;have _t:=tok1;go_loud (refine(mm _ l d _ (by first|exact HVr.out|exact HVr.out.bel (Below.drew (Below.refl _ _))) OK.out (by omega)).mono ?_;rintro e w4 ⟨r,rfl,o4,b4⟩;replace b4:Below wr.heap.size wr w4:=(by first|exact b4|exact aa ((Below.refl _ _).drew) b4);have HK4:=Hy (Ie (HK.out.1.below b4 HK.out.1.lt) (Ie (HK.out.2.1.below b4 HK.out.2.1.lt) (HK.out.2.2.below b4 HK.out.2.2.lt)));have HBL:=Hy (HBK.out.below b4 hz);have HB4:=Hy (aa H.out.2.2 b4);obtain⟨A4,c4,rfl,hlc4,-,hrd⟩:=o4.strs.open_;obtain⟨b4',o4',rfl,hbb,hcell⟩:=hrd.strs (by omega);have ck:=hcell k (by omega);have hfw:=HBL.out.frozen k;have hcw:w4.cell? ⟨g,k,none⟩=some (.string (kR l k k)):=(b4.cell hz).trans ((HBK.out.cell k).trans (H.out.2.1 k hlt));rw[hlB] at *;obtain⟨y1,-⟩:=HK4.out.1.one;obtain⟨y3,-⟩:=HK4.out.2.2.one;clear tok1 hcell hrd o4 b4;(try dsimp only)))
     |fail)
    all_goals
     have HMX:=Hy (show sat (aV l (k / 2)) k=sat (aV l d) k by rw[hd.out])
     go_wp2
     go_roundw
     case rel=>
      exact⟨k+1,_,by omega,by go_num,HBL.out.set_ k _,by rw[List.length_set];exact H.out.1,(by have:=ut hlt (by rw[H.out.1];exact hlcap) H.out.2.1;rw[HMX.out] at this;exact this),(by first|exact HB4.out.setCell (by show w.heap.size≤g;omega) _|exact(HB4.out.setCell (p:=⟨g,k,none⟩) (by show w.heap.size≤g;omega) _).drew),HK4.out.1.far (by show w.heap.size≠g;omega) _,HK4.out.2.1.far (by show w.heap.size+1≠g;omega) _,HK4.out.2.2.far (by show w1.heap.size≠g;omega) _⟩
     case measure=>simp[intOf];omega
   ·obtain rfl:k=l.length:=by omega
    have HO:=Hy (Ie (wl OK.out (show w.heap.size+1+1≤g by omega) hblk hlcap hcm H.out.1 H.out.2.1) H.out.2.2)
    go_wp2
    refine bodyPost_ret (v:=.agg #[.slice (some ⟨g,0,none⟩) l.length cap]) (by simp[results,results66,go_sem,e2]) rfl ⟨_,rfl,?_,?_⟩
    ·exact(HO.out.1.setCell _ _ (by simp)).lower (by omega)
    ·exact HO.out.2.setCell (by simp) _
theorem Ao (v:Value) (l:List ByteArray) (w:World) (hv:aG w v l):
  Calls prog 25 #[.agg #[v]] w (cw w (aS bI l) (af l)):=by
 have HV:=Hy hv
 obtain⟨A,c,rfl,-,-,-⟩:=hv.open_
 clear hv
 have B0:=Hy (show Below w.heap.size w ((w.alloc (.cells #[.slice A l.length c] 32)).alloc (.cells #[.slice none 0 0] 32)) from(ab w _).alloc (by simp) _)
 have K0:=(Blk.new' w 32 (.slice A l.length c) w.heap.size rfl).alloc (.cells #[.slice none 0 0] 32)
 have K2:=Blk.new' (w.alloc (.cells #[.slice A l.length c] 32)) 32 (.slice none 0 0) (w.heap.size+1) (by simp)
 obtain⟨c0,-⟩:=K0.one
 go_enter func25,ntmps25
 go_wp2_with fail
 clear c0
 generalize hW:(w.alloc (.cells #[.slice A l.length c] 32)).alloc (.cells #[.slice none 0 0] 32)=W at *
 clear hW
 refine(dT _ l _ (HV.out.bel B0.out)).mono ?_
 rintro e w2 ⟨rfl,hb⟩
 replace K0:=K0.below hb K0.lt
 replace K2:=K2.below hb K2.lt
 have HB:=Hy (aa B0.out hb)
 have hz:=HB.out.size
 clear hb
 obtain⟨c0,-⟩:=K0.one
 obtain⟨c2,f2⟩:=K2.one
 cases he:af l
 ·have HN:=Hy (Ie (jj (f:=bI) he) he)
  go_wp2
  rw[HN.out.1,HN.out.2]
  refine bodyPost_ret (v:=.tuple #[.agg #[.slice none 0 0],.bool false]) (by simp[results,results25,go_sem,c2]) rfl ⟨.slice none 0 0,rfl,ak.nil_ _ _,HB.out.setCell (by simp) _⟩
 ·have HY:=Hy (Ie (dP (f:=bI) he) he)
  have HE:=Hy he
  clear he
  go_wp2_with fail
  refine(zp _ l _ (HV.out.bel HB.out) HE.out).mono ?_
  rintro e w3 ⟨r,rfl,ho,hb3⟩
  have k2:=K2.lt
  replace K2:=K2.below hb3 K2.lt
  have HO:=Hy (Ie (ho.lower (base':=w.heap.size+1+1) (by omega)) (aa HB.out hb3))
  obtain⟨A3,d3,rfl,-,-,-⟩:=ho.strs.open_
  clear ho hb3 c2 f2
  obtain⟨c2,f2⟩:=K2.one
  generalize hp:(bI l).length=p at *
  clear hp
  go_wp2
  rw[HY.out.1,HY.out.2]
  refine bodyPost_ret (v:=.tuple #[.agg #[.slice A3 p d3],.bool true]) (by simp[results,results25,go_sem,c2]) rfl ⟨_,rfl,(HO.out.1.setCell _ _ (by simp)).lower (by omega),HO.out.2.setCell (by simp) _⟩
theorem CN {R:List ByteArray} {c:ByteArray} (hR:af R=true) (hc:aU c=true) (hs:c.size=(sat R 0).size):∀k,aU (ahS R c k)=true∧(ahS R c k).size=c.size
 |0=>⟨hc,rfl⟩
 |k+1=>by
  obtain⟨h1,h2⟩:=CN hR hc hs k
  exact⟨sh h1,by show(bU _ _).size=_;rw[ou];exact h2⟩
theorem pK (A:Option Addr) (cp m:Int) (cq:Nat) (c:ByteArray) (w:World):
  Calls prog 68 #[.string c,.slice A 0 cq,.int .i64 m] w fun e w'=>e=.returned (.string c)∧Below w.heap.size w w':=by
 go_enter func68,ntmps68
 go_wp2
 go_ret
 exact⟨rfl,Below.refl _ _⟩
theorem xq (v:Value) (R:List ByteArray) (c:ByteArray) (m:Nat) (w:World) (hv:aG w v R) (hR:af R=true) (hc:aU c=true) (hs:c.size=(sat R 0).size) (hm:m≤3):
  Calls prog 68 #[.string c,v,.int .i64 m] w fun e w'=>e=.returned (.string (ahS R c m))∧Below w.heap.size w w':=by
 have HV:=Hy hv
 have HR:=Hy hR
 have HS:=Hy (CN hR hc hs)
 obtain⟨l1,l7,-⟩:=ap.1 hR
 have HZ:=Hy hs
 obtain⟨A,cp,rfl,-,-,-⟩:=hv.open_
 have B0:=Hy (show Below w.heap.size w (w.alloc (.cells #[.slice A R.length cp] 32)) from ab w _)
 have K0:=Hy (Blk.new' w 32 (.slice A R.length cp) w.heap.size rfl)
 have hne:((R.length:Int)==0)=false:=by rw[beq_eq_false_iff_ne];omega
 have hne2:¬R.length=0:=by omega
 have hne3:¬R=[]:=by rintro rfl;simp at l1
 have hfd:=fun A n c W=>Tryz.fieldEng A n c W
 clear hv hR hc hs
 go_enter func68,ntmps68
 go_wp2_with fail
 generalize hW:w.alloc (.cells #[.slice A R.length cp] 32)=W at *
 clear hW
 go_loopw [0,8] (fun x s wr=>∃k:Nat,k≤m∧s=.int .i64 ((k:Int)+1)∧x=.string (ahS R c k)∧Below W.heap.size W wr) (fun _ s _=>m+2-(intOf s).toNat)
 case atStart=>exact⟨0,Ip _,rfl,rfl,Below.refl _ _⟩
 case round=>
  obtain⟨k,hk,rfl,rfl,hb⟩:=hrel
  have HB:=Hy hb
  obtain⟨c0,-⟩:=(K0.out.below hb K0.out.lt).one
  have HVr:=Hy (HV.out.bel (aa B0.out hb))
  clear hb
  by_cases hlt:k<m
  ·have hle:(k:Int)+1≤(m:Int):=by omega
   have hng:IntKind.i64.wrap (-((k:Int)+1)) = -(((k+1:Nat)):Int):=(IntWalk.i64_left _).trans ((IntWalk.wrap64_in _ (by omega)).trans (by omega))
   go_wp2_with fail
   refine(mm _ R (k+1) _ HVr.out HR.out (by omega)).mono ?_
   rintro e w4 ⟨r,rfl,o4,b4⟩
   have hlB:=cN R (k+1)
   have HB4:=Hy (aa HB.out b4)
   have hko:=ee HR.out (k+1)
   have hk0:=(ap.1 hko).2.2 0 (by rw[hlB];omega)
   have hsz:=ma HR.out (k+1)
   obtain⟨A4,c4,rfl,hlc4,-,hrd⟩:=o4.strs.open_
   obtain⟨b4',o4',rfl,hbb,hcell⟩:=hrd.strs (by rw[hlB];omega)
   have ck:=hcell 0 (by rw[hlB];omega)
   rw[Nat.add_zero] at ck
   rw[hlB] at *
   have hs1:=HS.out k
   have HNX:=Hy (show ahS R c (k+1)=bU (ahS R c k) (sat (aV R (k+1)) 0) from rfl)
   have HPA:=Hy (Ie hs1.1 (Ie hk0.1 (show(ahS R c k).size=(sat (aV R (k+1)) 0).size by rw[hs1.2,HZ.out,hsz])))
   obtain⟨Z,hZ⟩:∃Z,sat (aV R (k+1)) 0=Z:=⟨_,rfl⟩
   obtain⟨Y,hY⟩:∃Y,ahS R c k=Y:=⟨_,rfl⟩
   rw[hZ] at ck HNX HPA
   rw[hY] at HNX HPA ⊢
   clear hcell hrd o4 b4 hk0 hsz hs1 hko hlB hZ hY
   go_wp2_with fail
   refine(nU _ _ _ HPA.out.1 HPA.out.2.1 HPA.out.2.2).mono ?_
   rintro e w5 ⟨rfl,b5⟩
   have HB5:=Hy (aa HB4.out b5)
   clear b5 ck
   go_wp2
   go_roundw
   case rel=>exact⟨k+1,by omega,by go_num,by rw[HNX.out],HB5.out⟩
   case measure=>simp[intOf];omega
  ·obtain rfl:k=m:=by omega
   have hle:¬(k:Int)+1≤(k:Int):=by omega
   go_wp2
   go_ret
   exact⟨rfl,aa B0.out HB.out⟩
theorem un {l R:List ByteArray} {i cap:Nat} {z:ByteArray} (hn:R.length=l.length) (hi:i<l.length) (hc:l.length≤cap):∀cs:List Value,cs.length=cap→(∀j,j<l.length→cs[j]?=some (.string (sat R j)))→∀j,j<l.length→(cs.set i (.string z))[j]?=some (.string (sat (R.set i z) j)):=by
 intro cs hl h j hj
 rw[kd (by omega)]
 by_cases e:i=j
 ·subst e
  rw[List.getElem?_set_self (by omega),if_pos rfl]
 ·rw[List.getElem?_set_ne e,if_neg e]
  exact h j hj
theorem yJ (v:Value) (l:List ByteArray) (w:World) (hv:aG w v l):
  Calls prog 26 #[.agg #[v]] w (cw w (aS du l) (af l)):=by
 have HV:=Hy hv
 obtain⟨A,c,rfl,-,-,-⟩:=hv.open_
 clear hv
 have B0:=Hy (show Below w.heap.size w ((w.alloc (.cells #[.slice A l.length c] 32)).alloc (.cells #[.slice none 0 0] 32)) from(ab w _).alloc (by simp) _)
 have K0:=(Blk.new' w 32 (.slice A l.length c) w.heap.size rfl).alloc (.cells #[.slice none 0 0] 32)
 have K2:=Blk.new' (w.alloc (.cells #[.slice A l.length c] 32)) 32 (.slice none 0 0) (w.heap.size+1) (by simp)
 obtain⟨c0,-⟩:=K0.one
 go_enter func26,ntmps26
 go_wp2_with fail
 clear c0
 generalize hW:(w.alloc (.cells #[.slice A l.length c] 32)).alloc (.cells #[.slice none 0 0] 32)=W at *
 clear hW
 refine(dT _ l _ (HV.out.bel B0.out)).mono ?_
 rintro e w2 ⟨rfl,hb⟩
 replace K0:=K0.below hb K0.lt
 replace K2:=K2.below hb K2.lt
 have HB:=Hy (aa B0.out hb)
 have hz:=HB.out.size
 clear hb
 obtain⟨c0,-⟩:=K0.one
 obtain⟨c2,f2⟩:=K2.one
 cases he:af l
 ·have HN:=Hy (Ie (jj (f:=du) he) he)
  go_wp2
  rw[HN.out.1,HN.out.2]
  refine bodyPost_ret (v:=.tuple #[.agg #[.slice none 0 0],.bool false]) (by simp[results,results26,go_sem,c2]) rfl ⟨.slice none 0 0,rfl,ak.nil_ _ _,HB.out.setCell (by simp) _⟩
 ·have HY:=Hy (Ie (dP (f:=du) he) he)
  have OK:=Hy he
  obtain⟨l1,l7,-⟩:=ap.1 he
  obtain⟨A',c',e',hlc,hcm,hrd⟩:=(HV.out).open_
  obtain⟨ba,oa,rfl,hba,hca⟩:=hrd.strs (by omega)
  injection e' with e1' e2' e3'
  subst e1' e3'
  have HCA:=Hy (Ie hba hca)
  clear he hrd hba hca e2'
  go_wp2_with fail
  refine(fs _ l _ (HV.out.bel HB.out) (by omega)).mono ?_
  rintro e w3 ⟨r,rfl,ho,hb1⟩
  have k2:=K2.lt
  replace K0:=K0.below hb1 K0.lt
  replace K2:=K2.below hb1 K2.lt
  have HB1:=Hy (aa HB.out hb1)
  rcases ho.form with ⟨_,h0⟩|⟨g,cap,cs0,rfl,hg,hblk0,hlcap,hcm3,hcl0,hcs0⟩
  ·exfalso;rw[h0] at l1;simp at l1
  ·have H0:=Hy (Ie hcl0 hcs0)
   have hg2:w.heap.size+1<g:=by omega
   have hgz:=hblk0.lt
   have hz1:=HB1.out.size
   clear hcl0 hcs0 hb1 ho c0 c2 f2
   have ba1:Below w3.heap.size w3 (w3.alloc (.cells #[.slice (some ⟨g,0,none⟩) l.length cap] 32)):=ab w3 _
   have K3:=Blk.new' w3 32 (.slice (some ⟨g,0,none⟩) l.length cap) _ rfl
   replace K0:=K0.below ba1 K0.lt
   replace K2:=K2.below ba1 K2.lt
   have hblk:=hblk0.below ba1 hgz
   have HB3:=Hy (aa HB1.out ba1)
   obtain⟨y1,-⟩:=K0.one
   go_wp2_with fail
   clear y1
   generalize hW3:w3.alloc (.cells #[.slice (some ⟨g,0,none⟩) l.length cap] 32)=W3 at *
   clear hW3 ba1 hblk0
   have HK:=Hy (Ie K0 (Ie K2 K3))
   clear K0 K2 K3 k2
   go_loopw [5] (fun i wr=>∃(m:Nat) (R:List ByteArray) (cs:List Value),m≤l.length∧i=.int .i64 ((m:Int)-1)∧R=fk l (l.length-m)∧Blk wr g 9 cs∧cs.length=cap∧(∀j,j<l.length→cs[j]?=some (.string (sat R j)))∧Below w.heap.size w wr∧Blk wr w.heap.size 32 [.slice (some ⟨ba,oa,none⟩) l.length c]∧Blk wr (w.heap.size+1) 32 [.slice none 0 0]∧Blk wr w3.heap.size 32 [.slice (some ⟨g,0,none⟩) l.length cap])
    (fun i _=>(intOf i+1).toNat)
   case atStart=>exact⟨l.length,l,cs0,Ig _,by go_num,by rw[Nat.sub_self];rfl,hblk,H0.out.1,H0.out.2,HB3.out,HK.out.1,HK.out.2.1,HK.out.2.2⟩
   case round=>
    clear HK HB3 hblk
    obtain⟨m,R,cs,hm,rfl,hR,hblk,hcl,hcs,hbel,K1,K2,K3⟩:=hrel
    have H:=Hy (Ie hR (Ie hcl (Ie hcs hbel)))
    clear hR hcl hcs hbel H0
    obtain⟨e1,-⟩:=K1.one
    obtain⟨e2,f2⟩:=K2.one
    obtain⟨e3,-⟩:=K3.one
    have hz:=hblk.lt
    have HBK:=Hy hblk
    have HK:=Hy (Ie K1 (Ie K2 K3))
    clear K1 K2 K3
    by_cases hm0:m=0
    ·subst hm0
     rw[show(((0:Nat):Int)-1) = -1 from rfl]
     have hlen:=oo l
     have HO:=Hy (show ak wr (w.heap.size+1+1) (.slice (some ⟨g,0,none⟩) l.length cap) (du l) from by
      have:=ak.mk' (base:=w.heap.size+1+1) (l:=du l) (by omega) HBK.out (by rw[hlen];exact hlcap) hcm3 H.out.2.1 (fun j hj=>by rw[hlen] at hj;rw[H.out.2.2.1 j hj,H.out.1];rfl) (iM (qg OK.out))
      rwa[hlen] at this)
     clear hlen hblk e1
     go_wp2
     rw[HY.out.1,HY.out.2]
     refine bodyPost_ret (v:=.tuple #[.agg #[.slice (some ⟨g,0,none⟩) l.length cap],.bool true]) (by simp[results,results26,go_sem,e2]) rfl ⟨_,rfl,(HO.out.setCell _ _ (by simp)).lower (by omega),H.out.2.2.2.setCell (by simp) _⟩
    ·obtain⟨i,rfl⟩:∃j,m=j+1:=⟨m-1,by omega⟩
     rw[show(((i+1:Nat):Int)-1)=(i:Int) from by omega]
     have hil:i<l.length:=by omega
     have hq:(i:Int).tdiv 2=((i / 2:Nat):Int):=by rw[Int.tdiv_eq_ediv_of_nonneg (by omega)];omega
     obtain⟨d,hd⟩:∃d,i / 2=d:=⟨_,rfl⟩
     rw[hd] at hq
     have hd3:d≤3:=by omega
     have hwd:IntKind.i64.wrap (d:Int)=(d:Int):=(IntWalk.i64_left _).trans (IntWalk.wrap64_in _ (by omega))
     have hzb:ba<wr.heap.size:=by have:=HCA.out.1;have:=H.out.2.2.2.size;omega
     have hck:wr.cell? ⟨ba,oa+i,none⟩=some (.string (sat l i)):=(H.out.2.2.2.cell (by exact HCA.out.1)).trans (HCA.out.2 i hil)
     have hbag:ba≠g:=by have:=HCA.out.1;omega
     obtain⟨ro,rz⟩:=nY OK.out (l.length-(i+1)) (by omega)
     have hRl:=hH l (l.length-(i+1))
     rw[←H.out.1] at ro rz hRl
     have hzz:=Ek (l:=l) ro (i:=i) (by omega)
     rw[hd] at hzz
     have HZQ0:=Hy (show R.set i (gS l R i)=fk l (l.length-i) by rw[ru hil,←H.out.1])
     have hp1:(i:Int)+1≤(l.length:Int):=by omega
     have hp0:(0:Int)≤(i:Int)+1:=by omega
     have hp2:(i:Int)<(l.length:Int):=by omega
     have hp3:(0:Int)≤(i:Int):=by omega
     have hpc:(i:Int)+1≤(cap:Int):=by omega
     have htn:((i:Int)+1).toNat=i+1:=by omega
     have hwi:IntKind.i64.wrap ((i:Int)+1)=(i:Int)+1:=(IntWalk.i64_left _).trans (IntWalk.wrap64_in _ (by omega))
     have hlt2:i+1≤l.length:=by omega
     have hlt3:i+1≤cap:=by omega
     replace hd:=Hy hd
     have hcol:=(ap.1 OK.out).2.2 i hil
     clear e2 f2 hblk
     have tok1:True:=trivial
     by_cases hil1:i+1<l.length
     ·have hzA:gS l R i=ahS (R.drop (i+1)) (sat l i) d:=by
       rw[hzz]
       unfold ahC
       rw[if_neg (fun e=>by have h5:=congrArg List.length e;rw[List.length_drop] at h5;simp at h5;omega)]
      have hdo:=lf ro (i:=i+1) (by omega)
      have hsd:=ta HBK.out H.out.2.1 (by rw[hRl];exact hlcap) hcm3 (fun j hj=>H.out.2.2.1 j (by omega)) (by omega) (iM ro) (i:=i+1)
      rw[hRl] at hsd
      have hsz0:(sat l i).size=(sat (R.drop (i+1)) 0).size:=by
       rw[lS,Nat.add_zero,hcol.2,←rz]
       exact((ap.1 ro).2.2 (i+1) (by omega)).2.symm
      have hci:¬cap=i+1:=by omega
      have HX:=Hy (Ie hsd (Ie hdo (Ie hcol.1 hsz0)))
      have HZQ:=Hy (show R.set i (ahS (R.drop (i+1)) (sat l i) d)=fk l (l.length-i) by rw[←hzA];exact HZQ0.out)
      have HZS:=Hy (un (z:=ahS (R.drop (i+1)) (sat l i) d) hRl hil hlcap)
      obtain⟨Z,hZ⟩:∃Z,ahS (R.drop (i+1)) (sat l i) d=Z:=⟨_,rfl⟩
      have HZ:=Hy hZ
      rw[hZ] at HZQ HZS
      clear hZ hzA hzz hdo hsd hsz0 ro rz hRl hcol
      go_wp2_with fail
      go_region_held3 (fun w'=>w'.cell? ⟨w.heap.size,0,none⟩=some (.slice (some ⟨ba,oa,none⟩) l.length c)∧w'.cell? ⟨w3.heap.size,0,none⟩=some (.slice (some ⟨g,0,none⟩) l.length cap)∧w'.cell? ⟨ba,oa+i,none⟩=some (.string (sat l i)))
      (first|exact⟨e1,e3,hck⟩|exact⟨HK4.out.1.one.1,HK4.out.2.2.1.one.1,HK4.out.2.2.2⟩|exact⟨(HK4.out.1.far (p:=⟨g,i,none⟩) (by show w.heap.size≠g;omega) _).one.1,(HK4.out.2.2.1.far (p:=⟨g,i,none⟩) (by show w3.heap.size≠g;omega) _).one.1,(Ij _ _ _ _ (by intro e;injection e with q;omega)).trans HK4.out.2.2.2⟩|go_keep)
     (first
     |((try go_simp);go_at_call 68;have _t:=tok1;go_loud (refine(xq _ (R.drop (i+1)) _ d _ (by first|exact HX.out.1|exact HX.out.1.bel (Below.drew (Below.refl _ _))) HX.out.2.1 HX.out.2.2.1 HX.out.2.2.2 hd3).mono ?_;rintro e w4 ⟨rfl,b4⟩;rw[HZ.out];replace b4:Below wr.heap.size wr w4:=(by first|exact b4|exact aa ((Below.refl _ _).drew) b4);have HK4:=Hy (Ie (HK.out.1.below b4 HK.out.1.lt) (Ie (HK.out.2.1.below b4 HK.out.2.1.lt) (Ie (HK.out.2.2.below b4 HK.out.2.2.lt) ((b4.cell (by exact hzb)).trans hck))));have HBL:=Hy (HBK.out.below b4 hz);have HB4:=Hy (aa H.out.2.2.2 b4);have hfw:=HBL.out.frozen i;have hcw:w4.cell? ⟨g,i,none⟩=some (.string (sat R i)):=(b4.cell hz).trans ((HBK.out.cell i).trans (H.out.2.2.1 i hil));clear tok1 b4;(try dsimp only)))
     |fail)
      all_goals
       go_wp2
       go_roundw
       case rel=>
        refine⟨i,R.set i Z,_,by omega,by go_num,?_,HBL.out.set_ i _,by rw[List.length_set];exact H.out.2.1,fun j hj=>?_,(by first|exact HB4.out.setCell (by show w.heap.size≤g;omega) _|exact(HB4.out.setCell (p:=⟨g,i,none⟩) (by show w.heap.size≤g;omega) _).drew),HK4.out.1.far (by show w.heap.size≠g;omega) _,HK4.out.2.1.far (by show w.heap.size+1≠g;omega) _,HK4.out.2.2.1.far (by show w3.heap.size≠g;omega) _⟩
        ·exact HZQ.out
        ·exact HZS.out _ H.out.2.1 H.out.2.2.1 j hj
       case measure=>simp[intOf]
     ·have hie:l.length-(i+1)=0:=by omega
      have hzA:gS l R i=sat l i:=by
       rw[hzz]
       unfold ahC
       rw[if_pos (List.drop_eq_nil_of_le (by omega))]
      have HZQ:=Hy (show R.set i (sat l i)=fk l (l.length-i) by rw[←hzA];exact HZQ0.out)
      have HZS:=Hy (un (z:=sat l i) hRl hil hlcap)
      clear hzA hzz ro rz hRl hcol
      by_cases hci:cap=i+1
      ·subst hci
       go_wp2_with fail
       go_region_held3 (fun w'=>w'.cell? ⟨w.heap.size,0,none⟩=some (.slice (some ⟨ba,oa,none⟩) l.length c)∧w'.cell? ⟨w3.heap.size,0,none⟩=some (.slice (some ⟨g,0,none⟩) l.length (i+1))∧w'.cell? ⟨ba,oa+i,none⟩=some (.string (sat l i)))
       (first|exact⟨e1,e3,hck⟩|exact⟨HK4.out.1.one.1,HK4.out.2.2.1.one.1,HK4.out.2.2.2⟩|exact⟨(HK4.out.1.far (p:=⟨g,i,none⟩) (by show w.heap.size≠g;omega) _).one.1,(HK4.out.2.2.1.far (p:=⟨g,i,none⟩) (by show w3.heap.size≠g;omega) _).one.1,(Ij _ _ _ _ (by intro e;injection e with q;omega)).trans HK4.out.2.2.2⟩|go_keep)
     (first
     |((try go_simp);go_at_call 68;have _t:=tok1;go_loud (refine(pK _ 0 _ _ _ _).mono ?_;rintro e w4 ⟨rfl,b4⟩;replace b4:Below wr.heap.size wr w4:=(by first|exact b4|exact aa ((Below.refl _ _).drew) b4);have HK4:=Hy (Ie (HK.out.1.below b4 HK.out.1.lt) (Ie (HK.out.2.1.below b4 HK.out.2.1.lt) (Ie (HK.out.2.2.below b4 HK.out.2.2.lt) ((b4.cell (by exact hzb)).trans hck))));have HBL:=Hy (HBK.out.below b4 hz);have HB4:=Hy (aa H.out.2.2.2 b4);have hfw:=HBL.out.frozen i;have hcw:w4.cell? ⟨g,i,none⟩=some (.string (sat R i)):=(b4.cell hz).trans ((HBK.out.cell i).trans (H.out.2.2.1 i hil));clear tok1 b4;(try dsimp only)))
     |fail)
       all_goals
        go_wp2
        go_roundw
        case rel=>
         refine⟨i,R.set i (sat l i),_,by omega,by go_num,?_,HBL.out.set_ i _,by rw[List.length_set];exact H.out.2.1,fun j hj=>?_,(by first|exact HB4.out.setCell (by show w.heap.size≤g;omega) _|exact(HB4.out.setCell (p:=⟨g,i,none⟩) (by show w.heap.size≤g;omega) _).drew),HK4.out.1.far (by show w.heap.size≠g;omega) _,HK4.out.2.1.far (by show w.heap.size+1≠g;omega) _,HK4.out.2.2.1.far (by show w3.heap.size≠g;omega) _⟩
         ·exact HZQ.out
         ·exact HZS.out _ H.out.2.1 H.out.2.2.1 j hj
        case measure=>simp[intOf]
      ·go_wp2_with fail
       go_region_held3 (fun w'=>w'.cell? ⟨w.heap.size,0,none⟩=some (.slice (some ⟨ba,oa,none⟩) l.length c)∧w'.cell? ⟨w3.heap.size,0,none⟩=some (.slice (some ⟨g,0,none⟩) l.length cap)∧w'.cell? ⟨ba,oa+i,none⟩=some (.string (sat l i)))
       (first|exact⟨e1,e3,hck⟩|exact⟨HK4.out.1.one.1,HK4.out.2.2.1.one.1,HK4.out.2.2.2⟩|exact⟨(HK4.out.1.far (p:=⟨g,i,none⟩) (by show w.heap.size≠g;omega) _).one.1,(HK4.out.2.2.1.far (p:=⟨g,i,none⟩) (by show w3.heap.size≠g;omega) _).one.1,(Ij _ _ _ _ (by intro e;injection e with q;omega)).trans HK4.out.2.2.2⟩|go_keep)
     (first
     |((try go_simp);go_at_call 68;have _t:=tok1;go_loud (refine(pK _ 0 _ _ _ _).mono ?_;rintro e w4 ⟨rfl,b4⟩;replace b4:Below wr.heap.size wr w4:=(by first|exact b4|exact aa ((Below.refl _ _).drew) b4);have HK4:=Hy (Ie (HK.out.1.below b4 HK.out.1.lt) (Ie (HK.out.2.1.below b4 HK.out.2.1.lt) (Ie (HK.out.2.2.below b4 HK.out.2.2.lt) ((b4.cell (by exact hzb)).trans hck))));have HBL:=Hy (HBK.out.below b4 hz);have HB4:=Hy (aa H.out.2.2.2 b4);have hfw:=HBL.out.frozen i;have hcw:w4.cell? ⟨g,i,none⟩=some (.string (sat R i)):=(b4.cell hz).trans ((HBK.out.cell i).trans (H.out.2.2.1 i hil));clear tok1 b4;(try dsimp only)))
     |fail)
       all_goals
        go_wp2
        go_roundw
        case rel=>
         refine⟨i,R.set i (sat l i),_,by omega,by go_num,?_,HBL.out.set_ i _,by rw[List.length_set];exact H.out.2.1,fun j hj=>?_,(by first|exact HB4.out.setCell (by show w.heap.size≤g;omega) _|exact(HB4.out.setCell (p:=⟨g,i,none⟩) (by show w.heap.size≤g;omega) _).drew),HK4.out.1.far (by show w.heap.size≠g;omega) _,HK4.out.2.1.far (by show w.heap.size+1≠g;omega) _,HK4.out.2.2.1.far (by show w3.heap.size≠g;omega) _⟩
         ·exact HZQ.out
         ·exact HZS.out _ H.out.2.1 H.out.2.2.1 j hj
        case measure=>simp[intOf]
end Go.Proofs.YtfmjklgfpiffbaaGreatDoor
