/-
  Parts of the proof of one statement, merged: Unsk ExA EsB EsK.
-/
import Derived.Test.YtfmjklgfpiffbaaGreatDoorR20
import Derived.Test.YtfmjklgfpiffbaaGreatDoorR21
namespace Go.Proofs.YtfmjklgfpiffbaaGreatDoor
open Go.RowKit Go.Proofs.Tryz
set_option linter.unusedVariables false
set_option linter.unusedSimpArgs false
set_option maxRecDepth 100000
set_option maxHeartbeats 8000000
attribute [local go_sem ↓] Go.wp_at_zero Go.wp_at_succ
theorem uo {w:World} {g cap i:Nat} {cs:List Value} {R:List ByteArray} (hb:Blk w g 9 cs) (hcl:cs.length=cap) (hlc:R.length≤cap) (hcm:cap≤9223372036854775807)
  (hcs:∀j,j<R.length→cs[j]?=some (.string (sat R j))) (hi:i<R.length) (hwf:WfS R):aG w (.slice (some ⟨g,i,none⟩) (R.length-i) (cap-i)) (R.drop i):=by
 have hl:(sv (R.drop i)).length=R.length-i:=by rw[ed,List.length_drop]
 refine⟨⟨some ⟨g,i,none⟩,cap-i,by rw[hl],by rw[hl];omega,by unfold maxLen;omega,fun _=>⟨g,i,rfl,hb.lt,fun k u hu=>?_⟩⟩,fun s hs=>hwf s (List.mem_of_mem_drop hs)⟩;have hk:k<R.length-i:=by
  rcases Nat.lt_or_ge k (R.length-i) with h|h
  ·exact h
  ·rw[List.getElem?_eq_none (by rw[hl];exact h)] at hu;cases hu
 rw[pK _ k (by rw[List.length_drop];exact hk),mf] at hu;rw[hb.cell,hcs _ (by omega),←hu]
theorem su {l:List ByteArray} {i:Nat} (hi:i<l.length):fx l (l.length-i)=(fx l (l.length-(i+1))).set i (gZ l (fx l (l.length-(i+1))) i):=by
 obtain⟨k,hk⟩:∃k,l.length-(i+1)=k:=⟨_,rfl⟩;have e1:l.length-i=k+1:=by omega
 have e2:l.length-1-k=i:=by omega
 rw[e1,hk]
 show(fx l k).set (l.length-1-k) (gZ l (fx l k) (l.length-1-k))=_
 rw[e2]
theorem Br (v:Value) (l:List ByteArray) (w:World) (hv:aG w v l) (ok:af l=true):
  Calls prog 110 #[.agg #[v]] w (cj w (eD l) true):=by
 have HV:=Jj hv;have OK:=Jj ok;obtain⟨l1,l7,-⟩:=ap.1 ok;obtain⟨A,c,rfl,hlc,hcm,hrd⟩:=hv.open_;obtain⟨ba,oa,rfl,hba,hca⟩:=hrd.strs (by omega);have HCA:=Jj (Jq hba hca);clear hv ok hrd hba hca;have B0:=Jj (show Below w.heap.size w ((w.alloc (.cells #[.slice (some ⟨ba,oa,none⟩) l.length c] 32)).alloc (.cells #[.slice none 0 0] 32)) from(ab w _).alloc (by simp) _);have K0:=(Blk.new' w 32 (.slice (some ⟨ba,oa,none⟩) l.length c) w.heap.size rfl).alloc (.cells #[.slice none 0 0] 32);have K2:=Blk.new' (w.alloc (.cells #[.slice (some ⟨ba,oa,none⟩) l.length c] 32)) 32 (.slice none 0 0) (w.heap.size+1) (by simp);obtain⟨c0,-⟩:=K0.one
 go_enter func110,ntmps110
 go_wp2_with fail
 clear c0;generalize hW:(w.alloc (.cells #[.slice (some ⟨ba,oa,none⟩) l.length c] 32)).alloc (.cells #[.slice none 0 0] 32)=W at *;have hWz:W.heap.size=w.heap.size+2:=by rw[←hW];simp
 clear hW;refine(bF _ l _ (HV.out.bel B0.out)).mono ?_;rintro e w2 ⟨rfl,hb⟩;rw[OK.out];replace K0:=K0.below hb K0.lt;replace K2:=K2.below hb K2.lt;have HB:=Jj (aa B0.out hb);have hz2:=hb.size;clear hb;obtain⟨c0,-⟩:=K0.one
 go_wp2_with fail
 clear c0;refine(fj _ l _ (HV.out.bel HB.out) (by omega)).mono ?_;rintro e w3 ⟨r,rfl,ho,hb1⟩
 rcases ho.form with ⟨_,h0⟩|⟨g,cap,cs0,rfl,hg,hblk0,hlcap,hcm3,hcl0,hcs0⟩
 ·exfalso;rw[h0] at l1;simp at l1
 ·replace K0:=Jj (K0.below hb1 K0.lt);replace K2:=Jj (K2.below hb1 K2.lt);have HB3:=Jj (aa HB.out hb1);have H0:=Jj (Jq hcl0 hcs0);clear hb1 ho hcl0 hcs0
  go_wp2_with fail
  go_loopw [5] (fun i wr=>∃(m:Nat) (R:List ByteArray) (cs:List Value),m≤l.length∧i=.int .i64 ((m:Int)-1)∧R=fx l (l.length-m)∧Blk wr g 9 cs∧cs.length=cap∧(∀j,j<l.length→cs[j]?=some (.string (sat R j)))∧Blk wr w.heap.size 32 [.slice (some ⟨ba,oa,none⟩) l.length c]∧Blk wr (w.heap.size+1) 32 [.slice none 0 0]∧Below w.heap.size w wr)
   (fun i _=>(intOf i+1).toNat)
  case atStart=>exact⟨l.length,l,cs0,Jr _,by go_num,by rw[Nat.sub_self];rfl,hblk0,H0.out.1,H0.out.2,K0.out,K2.out,HB3.out⟩
  case round=>
   obtain⟨m,R,cs,hm,rfl,hR,hblk,hcl,hcs,k0,k2,hbel⟩:=hrel;have H:=Jj (Jq hR (Jq hcl (Jq hcs (Jq k0 (Jq k2 hbel)))));have hbz:=hblk.lt;have HBK:=Jj hblk;clear hR hcl hcs k0 k2 hbel H0 hblk0 hblk K0 K2;by_cases hm0:m=0
   ·subst hm0;rw[show(((0:Nat):Int)-1) = -1 from rfl];obtain⟨c2,f2⟩:=H.out.2.2.2.2.1.one;have hlen:=pN l;have HO:=Jj (show aj wr w2.heap.size (.slice (some ⟨g,0,none⟩) l.length cap) (eD l) from by
     have:=aj.mk' (base:=w2.heap.size) (l:=eD l) hg HBK.out (by rw[hlen];exact hlcap) hcm3 H.out.2.1 (fun j hj=>by rw[hlen] at hj;rw[H.out.2.2.1 j hj,H.out.1];rfl) (iS (qZ OK.out));rwa[hlen] at this)
    clear hlen;go_wp2;refine bodyPost_ret (v:=.tuple #[.agg #[.slice (some ⟨g,0,none⟩) l.length cap],.bool true]) (by simp[results,results110,go_sem,c2]) rfl ⟨_,rfl,(HO.out.setCell ⟨w.heap.size+1,0,none⟩ _ (by show w.heap.size+1<w2.heap.size;omega)).lower (base':=w.heap.size) (by omega),H.out.2.2.2.2.2.setCell (p:=⟨w.heap.size+1,0,none⟩) (by show w.heap.size≤w.heap.size+1;omega) _⟩
   ·obtain⟨i,rfl⟩:∃j,m=j+1:=⟨m-1,by omega⟩;rw[show(((i+1:Nat):Int)-1)=(i:Int) from by omega];have hil:i<l.length:=by omega
    obtain⟨c0,-⟩:=H.out.2.2.2.1.one;have hq:(i:Int).tdiv 2=((i / 2:Nat):Int):=by rw[Int.tdiv_eq_ediv_of_nonneg (by omega)];omega
    obtain⟨d,hd⟩:∃d,i / 2=d:=⟨_,rfl⟩;rw[hd] at hq;have hd3:d≤3:=by omega
    replace hd:=Jj hd;have hng:IntKind.i64.wrap (-(d:Int)) = -(d:Int):=(IntWalk.i64_left _).trans (IntWalk.wrap64_in _ (by omega));have hci:¬cap=i:=by omega
    have hic:i≤l.length:=by omega
    obtain⟨ro,rz⟩:=oF OK.out (l.length-(i+1)) (by omega);have hRl:=ix l (l.length-(i+1));rw[←H.out.1] at ro rz hRl;obtain⟨xo,xz⟩:=xq OK.out ro hRl rz hil;obtain⟨zo,zz⟩:=xr OK.out ro hRl rz hil;have hdo:=ly ro (i:=i) (by omega);have hsd:=uo HBK.out H.out.2.1 (by rw[hRl];exact hlcap) hcm3 (fun j hj=>H.out.2.2.1 j (by omega)) (by omega) (iS ro) (i:=i);rw[hRl] at hsd;have HSD:=Jj hsd;have HX:=Jj (Jq hdo (Jq xo (Jq hRl zo)));clear ro rz xz zz xo zo hdo hsd hRl
    go_wp2_with fail
    refine(ka _ (R.drop i) d _ HSD.out HX.out.1 (by omega)).mono ?_;rintro e w4 ⟨r,rfl,o4,b4⟩;have hlX:(aT (R.drop i) d).length=l.length-i:=by rw[cL,List.length_drop,HX.out.2.2.1]
    rcases o4.form with ⟨_,h0⟩|⟨g4,cap4,cs4,rfl,hg4,hblk4,hlc4,hcm4,hcl4,hcs4⟩
    ·exfalso;rw[h0] at hlX;simp at hlX;omega
    ·have hXe:iK l R i=(aT (R.drop i) d).set 0 (sat l i):=by unfold iK;rw[hd.out]
     have hne4:g4≠g:=by omega
     have HB4:=Jj (aa H.out.2.2.2.2.2 b4);have HBL:=Jj (HBK.out.below b4 hbz);have K04:=Jj (H.out.2.2.2.1.below b4 H.out.2.2.2.1.lt);have K24:=Jj (H.out.2.2.2.2.1.below b4 H.out.2.2.2.2.1.lt);obtain⟨c0,-⟩:=K04.out.one;have hw4:w.heap.size+2≤wr.heap.size:=by have:=HBK.out.lt;omega
     have ck:=(HB4.out.cell (by exact HCA.out.1)).trans (HCA.out.2 i hil);have ce:w4.cell? ⟨g4,0,none⟩=some (.string (sat (aT (R.drop i) d) 0)):=by rw[hblk4.cell];exact hcs4 0 (by omega)
     have fe:=hblk4.frozen 0;have hX0:0<l.length-i:=by omega
     have HB4k:=Jj hblk4;have HC4:=Jj (Jq hlc4 (Jq hcl4 hcs4));obtain⟨Z0,hZ0⟩:∃Z,sat l i=Z:=⟨_,rfl⟩;rw[hZ0] at ck hXe;have HSX:=Jj (show aj (w4.setCell ⟨g4,0,none⟩ (.string Z0)) wr.heap.size (.slice (some ⟨g4,0,none⟩) (l.length-i) cap4) (iK l R i) from by
      have hl5:(iK l R i).length=l.length-i:=by rw[hXe,List.length_set,hlX]
      have:=aj.mk' (base:=wr.heap.size) (l:=iK l R i) hg4 (hblk4.set_ 0 (.string Z0)) (by rw[hl5];omega) hcm4 (by rw[List.length_set];exact hcl4) (fun j hj=>by
       rw[hl5] at hj;rw[hXe,kC (by omega)];by_cases e:0=j
       ·subst e;rw[List.getElem?_set_self (by omega),if_pos rfl]
       ·rw[List.getElem?_set_ne e,if_neg e];exact hcs4 j (by omega)) (iS HX.out.2.1)
      rwa[hl5] at this)
     have HBS:=Jj (b4.setCell (p:=⟨g4,0,none⟩) (by exact hg4) (.string Z0));rw[hlX];clear o4 b4 hlX hblk4 hlc4 hcl4 hcs4 hZ0
     go_wp2_with fail
     generalize hW5:w4.setCell ⟨g4,0,none⟩ (.string Z0)=w5 at HSX HBS ⊢;clear hW5 c0 ck ce fe;refine(nA _ (iK l R i) d _ HSX.out.strs HX.out.2.1 (by omega)).mono ?_;rintro e w6 ⟨r,rfl,o6,b6⟩;have hlY:(aH (iK l R i) d).length=l.length-i:=by rw[eQ,hXe,List.length_set,cL,List.length_drop,HX.out.2.2.1]
     obtain⟨A6,c6,rfl,hlc6,-,hrd6⟩:=o6.strs.open_;obtain⟨b6',o6',rfl,hbb6,hcell6⟩:=hrd6.strs (by omega);have ck:=hcell6 0 (by omega);rw[Nat.add_zero] at ck;have HB6:=Jj (aa HBS.out b6);have HBw:=Jj (aa H.out.2.2.2.2.2 HB6.out);have HBL6:=HBK.out.below HB6.out hbz;have cg:w6.cell? ⟨g,i,none⟩=some (.string (sat R i)):=(HBL6.cell i).trans (H.out.2.2.1 i hil);have fg:=HBL6.frozen i;have HK6:=Jj HBL6;have K06:=Jj (H.out.2.2.2.1.below HB6.out H.out.2.2.2.1.lt);have K26:=Jj (H.out.2.2.2.2.1.below HB6.out H.out.2.2.2.2.1.lt);have hZe:sat (aH (iK l R i) d) 0=gZ l R i:=by unfold gZ;rw[hd.out]
     rw[hZe] at ck;obtain⟨Z,hZ⟩:∃Z,gZ l R i=Z:=⟨_,rfl⟩;rw[hZ] at ck;have HR2:=Jj (show R.set i Z=fx l (l.length-i) by rw[su hil,←H.out.1,hZ]);have HRl:=Jj HX.out.2.2.1;rw[hlY];clear o6 b6 hlY hrd6 hcell6 HBL6 hZe hZ hXe
     go_wp2_with fail
     go_roundw
     case rel=>
      refine⟨i,R.set i Z,cs.set i (.string Z),by omega,by go_num,HR2.out,HK6.out.set_ i _,by rw[List.length_set];exact H.out.2.1,fun j hj=>?_,K06.out.far (by show w.heap.size≠g;omega) _,K26.out.far (by show w.heap.size+1≠g;omega) _,HBw.out.setCell (by show w.heap.size≤g;omega) _⟩;rw[kC (by rw[HRl.out];exact hil)];by_cases e:i=j
      ·subst e;rw[List.getElem?_set_self (by rw[H.out.2.1];omega),if_pos rfl]
      ·rw[List.getElem?_set_ne e,if_neg e];exact H.out.2.2.1 j hj
     case measure=>simp[intOf]
def bw (f:List ByteArray→List ByteArray) (l:List ByteArray):List ByteArray:=if af l=true then f l else[]
theorem dO {f:List ByteArray→List ByteArray} {l:List ByteArray} (h:af l=true):bw f l=f l:=by simp[bw,h]
theorem jr {f:List ByteArray→List ByteArray} {l:List ByteArray} (h:af l=false):bw f l=[]:=by simp[bw,h]
theorem cj.of {w:World} {f:List ByteArray→List ByteArray} {l:List ByteArray} {F:FuncId} {args:Array Value} (hy:af l=true→Calls prog F args w (cj w (f l) true)) (hn:af l=false→Calls prog F args w (cj w [] false)):Calls prog F args w (cj w (bw f l) (af l)):=by
 cases h:af l
 ·rw[jr h];exact hn h
 ·rw[dO h];exact hy h
theorem xl (v:Value) (l:List ByteArray) (w:World) (hv:aG w v l) (he:af l=true):
  Calls prog 108 #[.agg #[v]] w (cj w (aY l) true):=by
 have HV:=Jj hv;obtain⟨A,c,rfl,-,-,-⟩:=hv.open_;clear hv;have B0:=Jj (show Below w.heap.size w ((w.alloc (.cells #[.slice A l.length c] 32)).alloc (.cells #[.slice none 0 0] 32)) from(ab w _).alloc (by simp) _);have K0:=(Blk.new' w 32 (.slice A l.length c) w.heap.size rfl).alloc (.cells #[.slice none 0 0] 32);have K2:=Blk.new' (w.alloc (.cells #[.slice A l.length c] 32)) 32 (.slice none 0 0) (w.heap.size+1) (by simp);obtain⟨c0,-⟩:=K0.one
 go_enter func108,ntmps108
 go_wp2_with fail
 clear c0;generalize hW:(w.alloc (.cells #[.slice A l.length c] 32)).alloc (.cells #[.slice none 0 0] 32)=W at *;clear hW;refine(bF _ l _ (HV.out.bel B0.out)).mono ?_;rintro e w2 ⟨rfl,hb⟩;replace K0:=K0.below hb K0.lt;replace K2:=K2.below hb K2.lt;have HB:=Jj (aa B0.out hb);have hz:=HB.out.size;clear hb;obtain⟨c0,-⟩:=K0.one;obtain⟨c2,f2⟩:=K2.one;rw[he];have HE:=Jj he
 go_wp2_with fail
 refine(ny _ l _ (HV.out.bel HB.out) HE.out).mono ?_;rintro e w3 ⟨r,rfl,ho,hb3⟩;have k2:=K2.lt;replace K2:=K2.below hb3 K2.lt;have HO:=Jj (Jq (ho.lower (base':=w.heap.size+1+1) (by omega)) (aa HB.out hb3));obtain⟨A3,d3,rfl,-,-,-⟩:=ho.strs.open_;clear ho hb3 c2 f2;obtain⟨c2,f2⟩:=K2.one;generalize hp:(aY l).length=p at *;clear hp;go_wp2;refine bodyPost_ret (v:=.tuple #[.agg #[.slice A3 p d3],.bool true]) (by simp[results,results108,go_sem,c2]) rfl ⟨_,rfl,(HO.out.1.setCell _ _ (by simp)).lower (by omega),HO.out.2.setCell (by simp) _⟩
theorem yG (v:Value) (l:List ByteArray) (w:World) (hv:aG w v l) (he:af l=false):
  Calls prog 108 #[.agg #[v]] w (cj w [] false):=by
 have HV:=Jj hv;obtain⟨A,c,rfl,-,-,-⟩:=hv.open_;clear hv;have B0:=Jj (show Below w.heap.size w ((w.alloc (.cells #[.slice A l.length c] 32)).alloc (.cells #[.slice none 0 0] 32)) from(ab w _).alloc (by simp) _);have K0:=(Blk.new' w 32 (.slice A l.length c) w.heap.size rfl).alloc (.cells #[.slice none 0 0] 32);have K2:=Blk.new' (w.alloc (.cells #[.slice A l.length c] 32)) 32 (.slice none 0 0) (w.heap.size+1) (by simp);obtain⟨c0,-⟩:=K0.one
 go_enter func108,ntmps108
 go_wp2_with fail
 clear c0;generalize hW:(w.alloc (.cells #[.slice A l.length c] 32)).alloc (.cells #[.slice none 0 0] 32)=W at *;clear hW;refine(bF _ l _ (HV.out.bel B0.out)).mono ?_;rintro e w2 ⟨rfl,hb⟩;replace K0:=K0.below hb K0.lt;replace K2:=K2.below hb K2.lt;have HB:=Jj (aa B0.out hb);have hz:=HB.out.size;clear hb;obtain⟨c0,-⟩:=K0.one;obtain⟨c2,f2⟩:=K2.one;rw[he];go_wp2;refine bodyPost_ret (v:=.tuple #[.agg #[.slice none 0 0],.bool false]) (by simp[results,results108,go_sem,c2]) rfl ⟨.slice none 0 0,rfl,aj.nil_ _ _,HB.out.setCell (by simp) _⟩
theorem Hg (v:Value) (l:List ByteArray) (w:World) (hv:aG w v l) (he:af l=false):
  Calls prog 109 #[.agg #[v]] w (cj w [] false):=by
 have HV:=Jj hv;obtain⟨A,c,rfl,-,-,-⟩:=hv.open_;clear hv;have B0:=Jj (show Below w.heap.size w ((w.alloc (.cells #[.slice A l.length c] 32)).alloc (.cells #[.slice none 0 0] 32)) from(ab w _).alloc (by simp) _);have K0:=(Blk.new' w 32 (.slice A l.length c) w.heap.size rfl).alloc (.cells #[.slice none 0 0] 32);have K2:=Blk.new' (w.alloc (.cells #[.slice A l.length c] 32)) 32 (.slice none 0 0) (w.heap.size+1) (by simp);obtain⟨c0,-⟩:=K0.one
 go_enter func109,ntmps109
 go_wp2_with fail
 clear c0;generalize hW:(w.alloc (.cells #[.slice A l.length c] 32)).alloc (.cells #[.slice none 0 0] 32)=W at *;clear hW;refine(bF _ l _ (HV.out.bel B0.out)).mono ?_;rintro e w2 ⟨rfl,hb⟩;replace K0:=K0.below hb K0.lt;replace K2:=K2.below hb K2.lt;have HB:=Jj (aa B0.out hb);have hz:=HB.out.size;clear hb;obtain⟨c0,-⟩:=K0.one;obtain⟨c2,f2⟩:=K2.one;rw[he];go_wp2;refine bodyPost_ret (v:=.tuple #[.agg #[.slice none 0 0],.bool false]) (by simp[results,results109,go_sem,c2]) rfl ⟨.slice none 0 0,rfl,aj.nil_ _ _,HB.out.setCell (by simp) _⟩
theorem DW (v:Value) (l:List ByteArray) (w:World) (hv:aG w v l) (he:af l=false):
  Calls prog 110 #[.agg #[v]] w (cj w [] false):=by
 have HV:=Jj hv;obtain⟨A,c,rfl,-,-,-⟩:=hv.open_;clear hv;have B0:=Jj (show Below w.heap.size w ((w.alloc (.cells #[.slice A l.length c] 32)).alloc (.cells #[.slice none 0 0] 32)) from(ab w _).alloc (by simp) _);have K0:=(Blk.new' w 32 (.slice A l.length c) w.heap.size rfl).alloc (.cells #[.slice none 0 0] 32);have K2:=Blk.new' (w.alloc (.cells #[.slice A l.length c] 32)) 32 (.slice none 0 0) (w.heap.size+1) (by simp);obtain⟨c0,-⟩:=K0.one
 go_enter func110,ntmps110
 go_wp2_with fail
 clear c0;generalize hW:(w.alloc (.cells #[.slice A l.length c] 32)).alloc (.cells #[.slice none 0 0] 32)=W at *;clear hW;refine(bF _ l _ (HV.out.bel B0.out)).mono ?_;rintro e w2 ⟨rfl,hb⟩;replace K0:=K0.below hb K0.lt;replace K2:=K2.below hb K2.lt;have HB:=Jj (aa B0.out hb);have hz:=HB.out.size;clear hb;obtain⟨c0,-⟩:=K0.one;obtain⟨c2,f2⟩:=K2.one;rw[he];go_wp2;refine bodyPost_ret (v:=.tuple #[.agg #[.slice none 0 0],.bool false]) (by simp[results,results110,go_sem,c2]) rfl ⟨.slice none 0 0,rfl,aj.nil_ _ _,HB.out.setCell (by simp) _⟩
theorem CH (v:Value) (l:List ByteArray) (w:World) (hv:aG w v l) (he:af l=false):
  Calls prog 111 #[.agg #[v]] w (cj w [] false):=by
 have HV:=Jj hv;have HE:=Jj he;obtain⟨A,c,rfl,-,-,-⟩:=hv.open_;clear hv he;have B0:=Jj (show Below w.heap.size w ((w.alloc (.cells #[.slice A l.length c] 32)).alloc (.cells #[.slice none 0 0] 32)) from(ab w _).alloc (by simp) _);have K2:=Blk.new' (w.alloc (.cells #[.slice A l.length c] 32)) 32 (.slice none 0 0) (w.heap.size+1) (by simp)
 go_enter func111,ntmps111
 go_wp2_with fail
 generalize hW:(w.alloc (.cells #[.slice A l.length c] 32)).alloc (.cells #[.slice none 0 0] 32)=W at *;have hWz:W.heap.size=w.heap.size+2:=by rw[←hW];simp
 clear hW;refine(oK _ l _ (HV.out.bel B0.out)).mono ?_;rintro e w2 ⟨r,rfl,o1,b1⟩;rw[HE.out];obtain⟨A1,d1,rfl,-,-,-⟩:=o1.strs.open_;obtain⟨L,hL⟩:∃L,(nQ 0 l).length=L:=⟨_,rfl⟩;rw[hL];have bA:Below w2.heap.size w2 (w2.alloc (.cells #[.slice A1 L d1] 32)):=ab w2 _;have bb:=aa b1 bA;have hz2:=b1.size;have hk2:=K2.lt;replace K2:=K2.below bb K2.lt;have HB:=Jj (aa B0.out bb);obtain⟨c2,f2⟩:=K2.one;clear b1 bA bb o1 hL;go_wp2;refine bodyPost_ret (v:=.tuple #[.agg #[.slice none 0 0],.bool false]) (by simp[results,results111,go_sem,c2]) rfl ⟨.slice none 0 0,rfl,aj.nil_ _ _,HB.out.setCell (by simp) _⟩
theorem uL (v:Value) (l:List ByteArray) (w:World) (hv:aG w v l):Calls prog 108 #[.agg #[v]] w (cj w (bw aY l) (af l)):=cj.of (xl v l w hv) (yG v l w hv)
theorem DJ (v:Value) (l:List ByteArray) (w:World) (hv:aG w v l):Calls prog 109 #[.agg #[v]] w (cj w (bw bY l) (af l)):=cj.of (FC v l w hv) (Hg v l w hv)
theorem yH (v:Value) (l:List ByteArray) (w:World) (hv:aG w v l):Calls prog 110 #[.agg #[v]] w (cj w (bw eD l) (af l)):=cj.of (Br v l w hv) (DW v l w hv)
theorem xJ (v:Value) (l:List ByteArray) (w:World) (hv:aG w v l):Calls prog 111 #[.agg #[v]] w (cj w (bw (fun l=>aZ (aZ l 0) 1) l) (af l)):=cj.of (tl v l w hv) (CH v l w hv)
def tmS (l:List ByteArray) (n:Int):List ByteArray:=if 0≤n then aH l n.toNat else aT l (-n).toNat
def cC (l:List ByteArray) (n:Int):Bool:=af l&&inB n (-300) 300
def tmL (l:List ByteArray) (n:Int):List ByteArray:=if cC l n=true then tmS l n else[]
theorem th {l:List ByteArray} {n:Int} (h:cC l n=true):tmL l n=tmS l n:=by simp[tmL,h]
theorem sn {l:List ByteArray} {n:Int} (h:cC l n=false):tmL l n=[]:=by simp[tmL,h]
theorem sr (v:Value) (l:List ByteArray) (n:Int) (w:World) (hv:aG w v l) (ok:af l=true) (hn : -300≤n∧n≤300):
  Calls prog 184 #[v,.int .i64 n] w fun e w'=>∃r,e=.returned r∧aj w' w.heap.size r (tmS l n)∧Below w.heap.size w w':=by
 unfold tmS;by_cases h:0≤n
 ·rw[if_pos h];have:=nA v l n.toNat w hv ok (by omega);rwa[Int.toNat_of_nonneg h] at this
 ·rw[if_neg h];have:=ka v l (-n).toNat w hv ok (by omega);rwa[Int.toNat_of_nonneg (by omega),Int.neg_neg] at this
theorem uM (v:Value) (l:List ByteArray) (n:Int) (w:World) (hv:aG w v l):
  Calls prog 121 #[.agg #[v],.int .i64 n] w (cj w (tmL l n) (cC l n)):=by
 have HV:=Jj hv;obtain⟨A,c,rfl,-,-,-⟩:=hv.open_;clear hv;have B0:=Jj (show Below w.heap.size w ((w.alloc (.cells #[.slice A l.length c] 32)).alloc (.cells #[.slice none 0 0] 32)) from(ab w _).alloc (by simp) _);have K0:=(Blk.new' w 32 (.slice A l.length c) w.heap.size rfl).alloc (.cells #[.slice none 0 0] 32);have K2:=Blk.new' (w.alloc (.cells #[.slice A l.length c] 32)) 32 (.slice none 0 0) (w.heap.size+1) (by simp);obtain⟨c0,-⟩:=K0.one
 go_enter func121,ntmps121
 go_wp2_with fail
 clear c0;generalize hW:(w.alloc (.cells #[.slice A l.length c] 32)).alloc (.cells #[.slice none 0 0] 32)=W at *;clear hW;refine(bF _ l _ (HV.out.bel B0.out)).mono ?_;rintro e w2 ⟨rfl,hb⟩;replace K0:=K0.below hb K0.lt;replace K2:=K2.below hb K2.lt;have HB:=Jj (aa B0.out hb);have hz:=HB.out.size;clear hb;obtain⟨c0,-⟩:=K0.one;obtain⟨c2,f2⟩:=K2.one;cases he:af l
 ·have HN:=Jj (show cC l n=false∧tmL l n=[] from⟨by unfold cC;rw[he];rfl,sn (by unfold cC;rw[he];rfl)⟩);go_wp2;rw[HN.out.1,HN.out.2];refine bodyPost_ret (v:=.tuple #[.agg #[.slice none 0 0],.bool false]) (by simp[results,results121,go_sem,c2]) rfl ⟨.slice none 0 0,rfl,aj.nil_ _ _,HB.out.setCell (by simp) _⟩
 ·cases hn:inB n (-300) 300
  ·have HN:=Jj (show cC l n=false∧tmL l n=[] from⟨by unfold cC;rw[hn];simp,sn (by unfold cC;rw[hn];simp)⟩);clear he
   go_wp2_with fail
   refine(aX n 300 _ (by omega) (by omega)).mono ?_;rw[hn];rintro e w2' ⟨rfl,rfl⟩;go_wp2;rw[HN.out.1,HN.out.2];refine bodyPost_ret (v:=.tuple #[.agg #[.slice none 0 0],.bool false]) (by simp[results,results121,go_sem,c2]) rfl ⟨.slice none 0 0,rfl,aj.nil_ _ _,HB.out.setCell (by simp) _⟩
  ·have HN:=Jj (show cC l n=true∧tmL l n=tmS l n from⟨by unfold cC;rw[he,hn];rfl,th (by unfold cC;rw[he,hn];rfl)⟩);have HE:=Jj (Jq he (am.1 hn));clear he
   go_wp2_with fail
   refine(aX n 300 _ (by omega) (by omega)).mono ?_;rw[hn];rintro e w2' ⟨rfl,rfl⟩;clear hn
   go_wp2_with fail
   refine(sr _ l n _ (HV.out.bel HB.out) HE.out.1 HE.out.2).mono ?_;rintro e w3 ⟨r,rfl,ho,hb3⟩;have k2:=K2.lt;replace K2:=K2.below hb3 K2.lt;have HO:=Jj (Jq (ho.lower (base':=w.heap.size+1+1) (by omega)) (aa HB.out hb3));obtain⟨A3,d3,rfl,-,-,-⟩:=ho.strs.open_;clear ho hb3 c2 f2;obtain⟨c2,f2⟩:=K2.one;generalize hp:(tmS l n).length=p at *;clear hp;go_wp2;rw[HN.out.1,HN.out.2];refine bodyPost_ret (v:=.tuple #[.agg #[.slice A3 p d3],.bool true]) (by simp[results,results121,go_sem,c2]) rfl ⟨_,rfl,(HO.out.1.setCell _ _ (by simp)).lower (by omega),HO.out.2.setCell (by simp) _⟩
theorem Bg (v:Value) (l:List ByteArray) (w:World) (hv:aG w v l):
  Calls prog 22 #[.agg #[v]] w (cj w (bw bu l) (af l)):=by
 have HV:=Jj hv;obtain⟨A,c,rfl,-,-,-⟩:=hv.open_;clear hv;have B0:=Jj (show Below w.heap.size w ((w.alloc (.cells #[.slice A l.length c] 32)).alloc (.cells #[.slice none 0 0] 32)) from(ab w _).alloc (by simp) _);have K0:=(Blk.new' w 32 (.slice A l.length c) w.heap.size rfl).alloc (.cells #[.slice none 0 0] 32);have K2:=Blk.new' (w.alloc (.cells #[.slice A l.length c] 32)) 32 (.slice none 0 0) (w.heap.size+1) (by simp);obtain⟨c0,-⟩:=K0.one
 go_enter func22,ntmps22
 go_wp2_with fail
 clear c0;generalize hW:(w.alloc (.cells #[.slice A l.length c] 32)).alloc (.cells #[.slice none 0 0] 32)=W at *;clear hW;refine(dX _ l _ (HV.out.bel B0.out)).mono ?_;rintro e w2 ⟨rfl,hb⟩;replace K0:=K0.below hb K0.lt;replace K2:=K2.below hb K2.lt;have HB:=Jj (aa B0.out hb);have hz:=HB.out.size;clear hb;obtain⟨c0,-⟩:=K0.one;obtain⟨c2,f2⟩:=K2.one;cases he:af l
 ·have HN:=Jj (Jq (jr (f:=bu) he) he);go_wp2;rw[HN.out.1,HN.out.2];refine bodyPost_ret (v:=.tuple #[.agg #[.slice none 0 0],.bool false]) (by simp[results,results22,go_sem,c2]) rfl ⟨.slice none 0 0,rfl,aj.nil_ _ _,HB.out.setCell (by simp) _⟩
 ·have HY:=Jj (Jq (dO (f:=bu) he) he);have HE:=Jj he;clear he
  go_wp2_with fail
  refine(jO _ l _ (HV.out.bel HB.out) HE.out).mono ?_;rintro e w3 ⟨r,rfl,ho,hb3⟩;have k2:=K2.lt;replace K2:=K2.below hb3 K2.lt;have HO:=Jj (Jq (ho.lower (base':=w.heap.size+1+1) (by omega)) (aa HB.out hb3));obtain⟨A3,d3,rfl,-,-,-⟩:=ho.strs.open_;clear ho hb3 c2 f2;obtain⟨c2,f2⟩:=K2.one;generalize hp:(bu l).length=p at *;clear hp;go_wp2;rw[HY.out.1,HY.out.2];refine bodyPost_ret (v:=.tuple #[.agg #[.slice A3 p d3],.bool true]) (by simp[results,results22,go_sem,c2]) rfl ⟨_,rfl,(HO.out.1.setCell _ _ (by simp)).lower (by omega),HO.out.2.setCell (by simp) _⟩
theorem Be (v:Value) (l:List ByteArray) (w:World) (hv:aG w v l):
  Calls prog 24 #[.agg #[v]] w (cj w (bw aY l) (af l)):=by
 have HV:=Jj hv;obtain⟨A,c,rfl,-,-,-⟩:=hv.open_;clear hv;have B0:=Jj (show Below w.heap.size w ((w.alloc (.cells #[.slice A l.length c] 32)).alloc (.cells #[.slice none 0 0] 32)) from(ab w _).alloc (by simp) _);have K0:=(Blk.new' w 32 (.slice A l.length c) w.heap.size rfl).alloc (.cells #[.slice none 0 0] 32);have K2:=Blk.new' (w.alloc (.cells #[.slice A l.length c] 32)) 32 (.slice none 0 0) (w.heap.size+1) (by simp);obtain⟨c0,-⟩:=K0.one
 go_enter func24,ntmps24
 go_wp2_with fail
 clear c0;generalize hW:(w.alloc (.cells #[.slice A l.length c] 32)).alloc (.cells #[.slice none 0 0] 32)=W at *;clear hW;refine(dX _ l _ (HV.out.bel B0.out)).mono ?_;rintro e w2 ⟨rfl,hb⟩;replace K0:=K0.below hb K0.lt;replace K2:=K2.below hb K2.lt;have HB:=Jj (aa B0.out hb);have hz:=HB.out.size;clear hb;obtain⟨c0,-⟩:=K0.one;obtain⟨c2,f2⟩:=K2.one;cases he:af l
 ·have HN:=Jj (Jq (jr (f:=aY) he) he);go_wp2;rw[HN.out.1,HN.out.2];refine bodyPost_ret (v:=.tuple #[.agg #[.slice none 0 0],.bool false]) (by simp[results,results24,go_sem,c2]) rfl ⟨.slice none 0 0,rfl,aj.nil_ _ _,HB.out.setCell (by simp) _⟩
 ·have HY:=Jj (Jq (dO (f:=aY) he) he);have HE:=Jj he;clear he
  go_wp2_with fail
  refine(rF _ l _ (HV.out.bel HB.out) HE.out).mono ?_;rintro e w3 ⟨r,rfl,ho,hb3⟩;have k2:=K2.lt;replace K2:=K2.below hb3 K2.lt;have HO:=Jj (Jq (ho.lower (base':=w.heap.size+1+1) (by omega)) (aa HB.out hb3));obtain⟨A3,d3,rfl,-,-,-⟩:=ho.strs.open_;clear ho hb3 c2 f2;obtain⟨c2,f2⟩:=K2.one;generalize hp:(aY l).length=p at *;clear hp;go_wp2;rw[HY.out.1,HY.out.2];refine bodyPost_ret (v:=.tuple #[.agg #[.slice A3 p d3],.bool true]) (by simp[results,results24,go_sem,c2]) rfl ⟨_,rfl,(HO.out.1.setCell _ _ (by simp)).lower (by omega),HO.out.2.setCell (by simp) _⟩
theorem Bf (v:Value) (l:List ByteArray) (w:World) (hv:aG w v l):
  Calls prog 27 #[.agg #[v]] w (cj w (bw (fun l=>aZ (aZ l 0) 1) l) (af l)):=by
 have HV:=Jj hv;obtain⟨A,c,rfl,-,-,-⟩:=hv.open_;clear hv;have B0:=Jj (show Below w.heap.size w ((w.alloc (.cells #[.slice A l.length c] 32)).alloc (.cells #[.slice none 0 0] 32)) from(ab w _).alloc (by simp) _);have K0:=(Blk.new' w 32 (.slice A l.length c) w.heap.size rfl).alloc (.cells #[.slice none 0 0] 32);have K2:=Blk.new' (w.alloc (.cells #[.slice A l.length c] 32)) 32 (.slice none 0 0) (w.heap.size+1) (by simp);obtain⟨c0,-⟩:=K0.one
 go_enter func27,ntmps27
 go_wp2_with fail
 clear c0;generalize hW:(w.alloc (.cells #[.slice A l.length c] 32)).alloc (.cells #[.slice none 0 0] 32)=W at *;clear hW;refine(dX _ l _ (HV.out.bel B0.out)).mono ?_;rintro e w2 ⟨rfl,hb⟩;replace K0:=K0.below hb K0.lt;replace K2:=K2.below hb K2.lt;have HB:=Jj (aa B0.out hb);have hz:=HB.out.size;clear hb;obtain⟨c0,-⟩:=K0.one;obtain⟨c2,f2⟩:=K2.one;cases he:af l
 ·have HN:=Jj (Jq (jr (f:=(fun l=>aZ (aZ l 0) 1)) he) he);go_wp2;rw[HN.out.1,HN.out.2];refine bodyPost_ret (v:=.tuple #[.agg #[.slice none 0 0],.bool false]) (by simp[results,results27,go_sem,c2]) rfl ⟨.slice none 0 0,rfl,aj.nil_ _ _,HB.out.setCell (by simp) _⟩
 ·have HY:=Jj (Jq (dO (f:=(fun l=>aZ (aZ l 0) 1)) he) he);have HE:=Jj he;clear he
  go_wp2_with fail
  refine(vU _ l _ (HV.out.bel HB.out) HE.out).mono ?_;rintro e w3 ⟨r,rfl,ho,hb3⟩;have k2:=K2.lt;replace K2:=K2.below hb3 K2.lt;have HO:=Jj (Jq (ho.lower (base':=w.heap.size+1+1) (by omega)) (aa HB.out hb3));obtain⟨A3,d3,rfl,-,-,-⟩:=ho.strs.open_;clear ho hb3 c2 f2;obtain⟨c2,f2⟩:=K2.one;generalize hp:(aZ (aZ l 0) 1).length=p at *;clear hp;go_wp2;rw[HY.out.1,HY.out.2];refine bodyPost_ret (v:=.tuple #[.agg #[.slice A3 p d3],.bool true]) (by simp[results,results27,go_sem,c2]) rfl ⟨_,rfl,(HO.out.1.setCell _ _ (by simp)).lower (by omega),HO.out.2.setCell (by simp) _⟩
theorem xX (v:Value) (l:List ByteArray) (n:Int) (w:World) (hv:aG w v l) (ok:af l=true) (hn : -300≤n∧n≤300):
  Calls prog 147 #[.agg #[v],.int .i64 n] w fun e w'=>∃r,e=.returned (.agg #[r])∧aj w' w.heap.size r (tmS l n)∧Below w.heap.size w w':=by
 unfold tmS;by_cases h:0≤n
 ·rw[if_pos h];have:=Aa v l n.toNat w hv ok (by omega);rwa[Int.toNat_of_nonneg h] at this
 ·rw[if_neg h];have:=mH v l (-n).toNat w hv ok (by omega);rwa[Int.toNat_of_nonneg (by omega),Int.neg_neg] at this
theorem sh (v:Value) (l:List ByteArray) (n:Int) (w:World) (hv:aG w v l):
  Calls prog 85 #[.agg #[v],.int .i64 n] w (cj w (tmL l n) (cC l n)):=by
 have HV:=Jj hv;obtain⟨A,c,rfl,-,-,-⟩:=hv.open_;clear hv;have B0:=Jj (show Below w.heap.size w ((w.alloc (.cells #[.slice A l.length c] 32)).alloc (.cells #[.slice none 0 0] 32)) from(ab w _).alloc (by simp) _);have K0:=(Blk.new' w 32 (.slice A l.length c) w.heap.size rfl).alloc (.cells #[.slice none 0 0] 32);have K2:=Blk.new' (w.alloc (.cells #[.slice A l.length c] 32)) 32 (.slice none 0 0) (w.heap.size+1) (by simp);obtain⟨c0,-⟩:=K0.one
 go_enter func85,ntmps85
 go_wp2_with fail
 clear c0;generalize hW:(w.alloc (.cells #[.slice A l.length c] 32)).alloc (.cells #[.slice none 0 0] 32)=W at *;clear hW;refine(dX _ l _ (HV.out.bel B0.out)).mono ?_;rintro e w2 ⟨rfl,hb⟩;replace K0:=K0.below hb K0.lt;replace K2:=K2.below hb K2.lt;have HB:=Jj (aa B0.out hb);have hz:=HB.out.size;clear hb;obtain⟨c0,-⟩:=K0.one;obtain⟨c2,f2⟩:=K2.one;cases he:af l
 ·have HN:=Jj (show cC l n=false∧tmL l n=[] from⟨by unfold cC;rw[he];rfl,sn (by unfold cC;rw[he];rfl)⟩);go_wp2;rw[HN.out.1,HN.out.2];refine bodyPost_ret (v:=.tuple #[.agg #[.slice none 0 0],.bool false]) (by simp[results,results85,go_sem,c2]) rfl ⟨.slice none 0 0,rfl,aj.nil_ _ _,HB.out.setCell (by simp) _⟩
 ·cases hn:inB n (-300) 300
  ·have HN:=Jj (show cC l n=false∧tmL l n=[] from⟨by unfold cC;rw[hn];simp,sn (by unfold cC;rw[hn];simp)⟩);clear he
   go_wp2_with fail
   refine(aL n (-300) 300 _).mono ?_;rw[hn];rintro e w2' ⟨rfl,rfl⟩;go_wp2;rw[HN.out.1,HN.out.2];refine bodyPost_ret (v:=.tuple #[.agg #[.slice none 0 0],.bool false]) (by simp[results,results85,go_sem,c2]) rfl ⟨.slice none 0 0,rfl,aj.nil_ _ _,HB.out.setCell (by simp) _⟩
  ·have HN:=Jj (show cC l n=true∧tmL l n=tmS l n from⟨by unfold cC;rw[he,hn];rfl,th (by unfold cC;rw[he,hn];rfl)⟩);have HE:=Jj (Jq he (am.1 hn));clear he
   go_wp2_with fail
   refine(aL n (-300) 300 _).mono ?_;rw[hn];rintro e w2' ⟨rfl,rfl⟩;clear hn
   go_wp2_with fail
   refine(xX _ l n _ (HV.out.bel HB.out) HE.out.1 HE.out.2).mono ?_;rintro e w3 ⟨r,rfl,ho,hb3⟩;have k2:=K2.lt;replace K2:=K2.below hb3 K2.lt;have HO:=Jj (Jq (ho.lower (base':=w.heap.size+1+1) (by omega)) (aa HB.out hb3));obtain⟨A3,d3,rfl,-,-,-⟩:=ho.strs.open_;clear ho hb3 c2 f2;obtain⟨c2,f2⟩:=K2.one;generalize hp:(tmS l n).length=p at *;clear hp;go_wp2;rw[HN.out.1,HN.out.2];refine bodyPost_ret (v:=.tuple #[.agg #[.slice A3 p d3],.bool true]) (by simp[results,results85,go_sem,c2]) rfl ⟨_,rfl,(HO.out.1.setCell _ _ (by simp)).lower (by omega),HO.out.2.setCell (by simp) _⟩
theorem Ab (v:Value) (l:List ByteArray) (w:World) (hv:aG w v l) (ok:af l=true):
  Calls prog 66 #[.agg #[v]] w fun e w'=>∃r,e=.returned (.agg #[r])∧aj w' w.heap.size r (bY l)∧Below w.heap.size w w':=by
 have HV:=Jj hv;obtain⟨A,c,rfl,hlc,hc,hrd⟩:=hv.open_;obtain⟨l1,l7,hcol⟩:=ap.1 ok;have OK:=Jj ok;clear hrd hv hcol ok;have B0:=Jj (show Below w.heap.size w ((w.alloc (.cells #[.slice A l.length c] 32)).alloc (.cells #[.slice none 0 0] 32)) from(ab w _).alloc (by simp) _);have K1:=(Blk.new' w 32 (.slice A l.length c) w.heap.size rfl).alloc (.cells #[.slice none 0 0] 32);have K2:=Blk.new' (w.alloc (.cells #[.slice A l.length c] 32)) 32 (.slice none 0 0) (w.heap.size+1) (by simp);obtain⟨c0,-⟩:=K1.one
 go_enter func66,ntmps66
 go_wp2_with fail
 clear c0;generalize hW:(w.alloc (.cells #[.slice A l.length c] 32)).alloc (.cells #[.slice none 0 0] 32)=W at *;have hWz:W.heap.size=w.heap.size+2:=by rw[←hW];simp
 clear hW;refine(fm _ l _ (HV.out.bel B0.out) (by omega)).mono ?_;rintro e w1 ⟨r,rfl,ho,hb1⟩;have k2:=K2.lt;replace K1:=K1.below hb1 K1.lt;replace K2:=K2.below hb1 K2.lt;have HB1:=Jj (aa B0.out hb1)
 rcases ho.form with ⟨_,h0⟩|⟨g,cap,cs0,rfl,hg,hblk0,hlcap,hcm,hcl0,hcs0⟩
 ·exfalso;rw[h0] at l1;simp at l1
 ·have H0:=Jj (Jq hcl0 hcs0);have hg2:w.heap.size+1<g:=by omega
  have hgz:=hblk0.lt;have hz1:=HB1.out.size;clear hcl0 hcs0 hb1 ho;have ba:Below w1.heap.size w1 (w1.alloc (.cells #[.slice (some ⟨g,0,none⟩) l.length cap] 32)):=ab w1 _;have K3:=Blk.new' w1 32 (.slice (some ⟨g,0,none⟩) l.length cap) _ rfl;replace K1:=K1.below ba K1.lt;replace K2:=K2.below ba K2.lt;have hblk:=hblk0.below ba hgz;have HB:=Jj (aa HB1.out ba)
  go_wp2_with fail
  generalize hW3:w1.alloc (.cells #[.slice (some ⟨g,0,none⟩) l.length cap] 32)=W3 at *;clear hW3 ba hblk0;have HK:=Jj (Jq K1 (Jq K2 K3));clear K1 K2 K3 k2
  go_loopw [4] (fun i wr=>∃(k:Nat) (cs:List Value),k≤l.length∧i=.int .i64 k∧Blk wr g 9 cs∧cs.length=cap∧(∀j,j<l.length→cs[j]?=some (.string (lk l k j)))∧Below w.heap.size w wr∧Blk wr w.heap.size 32 [.slice A l.length c]∧Blk wr (w.heap.size+1) 32 [.slice none 0 0]∧Blk wr w1.heap.size 32 [.slice (some ⟨g,0,none⟩) l.length cap])
   (fun i _=>l.length-(intOf i).toNat)
  case atStart=>exact⟨0,cs0,Jy _,rfl,hblk,H0.out.1,fun j hj=>by unfold lk;rw[if_neg (by omega)];exact H0.out.2 j hj,HB.out,HK.out.1,HK.out.2.1,HK.out.2.2⟩
  case round=>
   clear HK HB hblk;obtain⟨k,cs,hk,rfl,hblk,hcl,hcs,hbel,K1,K2,K3⟩:=hrel;have H:=Jj (Jq hcl (Jq hcs hbel));clear hcl hcs hbel H0;obtain⟨e1,-⟩:=K1.one;obtain⟨e2,f2⟩:=K2.one;obtain⟨e3,-⟩:=K3.one;by_cases hlt:k<l.length
   ·have hq:(k:Int).tdiv 2=((k / 2:Nat):Int):=by rw[Int.tdiv_eq_ediv_of_nonneg (by omega)];omega
    obtain⟨d,hd⟩:∃d,k / 2=d:=⟨_,rfl⟩;rw[hd] at hq;have hd3:d≤3:=by omega
    replace hd:=Jj hd;have hng:IntKind.i64.wrap (-(d:Int)) = -(d:Int):=(IntWalk.i64_left _).trans (IntWalk.wrap64_in _ (by omega));have hwd:IntKind.i64.wrap (d:Int)=(d:Int):=(IntWalk.i64_left _).trans (IntWalk.wrap64_in _ (by omega));have hz:=hblk.lt;have HVr:=Jj (HV.out.bel H.out.2.2);have HK:=Jj (Jq K1 (Jq K2 K3));have HBK:=Jj hblk;have hlB:=cL l d;clear e2 f2 K1 K2 K3 hblk;have hfd:=fun A n c W=>Tryz.fieldEng A n c W;have tok1:True:=trivial
    go_wp2_with fail
    go_region_law
     (first
     |((try go_simp);go_at_call 147;have _t:=tok1;go_loud (refine(mH _ l d _ (by first|exact HVr.out|exact HVr.out.bel (Below.drew (Below.refl _ _))) OK.out (by omega)).mono ?_;rintro e w4 ⟨r,rfl,o4,b4⟩;replace b4:Below wr.heap.size wr w4:=(by first|exact b4|exact aa ((Below.refl _ _).drew) b4);have HK4:=Jj (Jq (HK.out.1.below b4 HK.out.1.lt) (Jq (HK.out.2.1.below b4 HK.out.2.1.lt) (HK.out.2.2.below b4 HK.out.2.2.lt)));have HBL:=Jj (HBK.out.below b4 hz);have HB4:=Jj (aa H.out.2.2 b4);obtain⟨A4,c4,rfl,hlc4,-,hrd⟩:=o4.strs.open_;obtain⟨b4',o4',rfl,hbb,hcell⟩:=hrd.strs (by omega);have ck:=hcell k (by omega);have hfw:=HBL.out.frozen k;have hcw:w4.cell? ⟨g,k,none⟩=some (.string (lk l k k)):=(b4.cell hz).trans ((HBK.out.cell k).trans (H.out.2.1 k hlt));rw[hlB] at *;obtain⟨y1,-⟩:=HK4.out.1.one;obtain⟨y3,-⟩:=HK4.out.2.2.one;clear tok1 hcell hrd o4 b4;(try dsimp only)))
     |fail)
    all_goals
     have HMX:=Jj (show sat (aT l (k / 2)) k=sat (aT l d) k by rw[hd.out]);go_wp2;go_roundw
     case rel=>
      exact⟨k+1,_,by omega,by go_num,HBL.out.set_ k _,by rw[List.length_set];exact H.out.1,(by have:=wj hlt (by rw[H.out.1];exact hlcap) H.out.2.1;rw[HMX.out] at this;exact this),(by first|exact HB4.out.setCell (by show w.heap.size≤g;omega) _|exact(HB4.out.setCell (p:=⟨g,k,none⟩) (by show w.heap.size≤g;omega) _).drew),HK4.out.1.far (by show w.heap.size≠g;omega) _,HK4.out.2.1.far (by show w.heap.size+1≠g;omega) _,HK4.out.2.2.far (by show w1.heap.size≠g;omega) _⟩
     case measure=>simp[intOf];omega
   ·obtain rfl:k=l.length:=by omega
    have HO:=Jj (Jq (wx OK.out (show w.heap.size+1+1≤g by omega) hblk hlcap hcm H.out.1 H.out.2.1) H.out.2.2);go_wp2;refine bodyPost_ret (v:=.agg #[.slice (some ⟨g,0,none⟩) l.length cap]) (by simp[results,results66,go_sem,e2]) rfl ⟨_,rfl,?_,?_⟩
    ·exact(HO.out.1.setCell _ _ (by simp)).lower (by omega)
    ·exact HO.out.2.setCell (by simp) _
theorem Bb (v:Value) (l:List ByteArray) (w:World) (hv:aG w v l):
  Calls prog 25 #[.agg #[v]] w (cj w (bw bY l) (af l)):=by
 have HV:=Jj hv;obtain⟨A,c,rfl,-,-,-⟩:=hv.open_;clear hv;have B0:=Jj (show Below w.heap.size w ((w.alloc (.cells #[.slice A l.length c] 32)).alloc (.cells #[.slice none 0 0] 32)) from(ab w _).alloc (by simp) _);have K0:=(Blk.new' w 32 (.slice A l.length c) w.heap.size rfl).alloc (.cells #[.slice none 0 0] 32);have K2:=Blk.new' (w.alloc (.cells #[.slice A l.length c] 32)) 32 (.slice none 0 0) (w.heap.size+1) (by simp);obtain⟨c0,-⟩:=K0.one
 go_enter func25,ntmps25
 go_wp2_with fail
 clear c0;generalize hW:(w.alloc (.cells #[.slice A l.length c] 32)).alloc (.cells #[.slice none 0 0] 32)=W at *;clear hW;refine(dX _ l _ (HV.out.bel B0.out)).mono ?_;rintro e w2 ⟨rfl,hb⟩;replace K0:=K0.below hb K0.lt;replace K2:=K2.below hb K2.lt;have HB:=Jj (aa B0.out hb);have hz:=HB.out.size;clear hb;obtain⟨c0,-⟩:=K0.one;obtain⟨c2,f2⟩:=K2.one;cases he:af l
 ·have HN:=Jj (Jq (jr (f:=bY) he) he);go_wp2;rw[HN.out.1,HN.out.2];refine bodyPost_ret (v:=.tuple #[.agg #[.slice none 0 0],.bool false]) (by simp[results,results25,go_sem,c2]) rfl ⟨.slice none 0 0,rfl,aj.nil_ _ _,HB.out.setCell (by simp) _⟩
 ·have HY:=Jj (Jq (dO (f:=bY) he) he);have HE:=Jj he;clear he
  go_wp2_with fail
  refine(Ab _ l _ (HV.out.bel HB.out) HE.out).mono ?_;rintro e w3 ⟨r,rfl,ho,hb3⟩;have k2:=K2.lt;replace K2:=K2.below hb3 K2.lt;have HO:=Jj (Jq (ho.lower (base':=w.heap.size+1+1) (by omega)) (aa HB.out hb3));obtain⟨A3,d3,rfl,-,-,-⟩:=ho.strs.open_;clear ho hb3 c2 f2;obtain⟨c2,f2⟩:=K2.one;generalize hp:(bY l).length=p at *;clear hp;go_wp2;rw[HY.out.1,HY.out.2];refine bodyPost_ret (v:=.tuple #[.agg #[.slice A3 p d3],.bool true]) (by simp[results,results25,go_sem,c2]) rfl ⟨_,rfl,(HO.out.1.setCell _ _ (by simp)).lower (by omega),HO.out.2.setCell (by simp) _⟩
theorem BF {R:List ByteArray} {c:ByteArray} (hR:af R=true) (hc:aP c=true) (hs:c.size=(sat R 0).size):∀k,aP (ahS R c k)=true∧(ahS R c k).size=c.size
 |0=>⟨hc,rfl⟩
 |k+1=>by
  obtain⟨h1,h2⟩:=BF hR hc hs k;exact⟨sA h1,by show(bS _ _).size=_;rw[oN];exact h2⟩
theorem qn (A:Option Addr) (cp m:Int) (cq:Nat) (c:ByteArray) (w:World):
  Calls prog 68 #[.string c,.slice A 0 cq,.int .i64 m] w fun e w'=>e=.returned (.string c)∧Below w.heap.size w w':=by
 go_enter func68,ntmps68
 go_wp2;go_ret;exact⟨rfl,Below.refl _ _⟩
theorem xW (v:Value) (R:List ByteArray) (c:ByteArray) (m:Nat) (w:World) (hv:aG w v R) (hR:af R=true) (hc:aP c=true) (hs:c.size=(sat R 0).size) (hm:m≤3):
  Calls prog 68 #[.string c,v,.int .i64 m] w fun e w'=>e=.returned (.string (ahS R c m))∧Below w.heap.size w w':=by
 have HV:=Jj hv;have HR:=Jj hR;have HS:=Jj (BF hR hc hs);obtain⟨l1,l7,-⟩:=ap.1 hR;have HZ:=Jj hs;obtain⟨A,cp,rfl,-,-,-⟩:=hv.open_;have B0:=Jj (show Below w.heap.size w (w.alloc (.cells #[.slice A R.length cp] 32)) from ab w _);have K0:=Jj (Blk.new' w 32 (.slice A R.length cp) w.heap.size rfl);have hne:((R.length:Int)==0)=false:=by rw[beq_eq_false_iff_ne];omega
 have hne2:¬R.length=0:=by omega
 have hne3:¬R=[]:=by rintro rfl;simp at l1
 have hfd:=fun A n c W=>Tryz.fieldEng A n c W;clear hv hR hc hs
 go_enter func68,ntmps68
 go_wp2_with fail
 generalize hW:w.alloc (.cells #[.slice A R.length cp] 32)=W at *;clear hW
 go_loopw [0,8] (fun x s wr=>∃k:Nat,k≤m∧s=.int .i64 ((k:Int)+1)∧x=.string (ahS R c k)∧Below W.heap.size W wr) (fun _ s _=>m+2-(intOf s).toNat)
 case atStart=>exact⟨0,Jy _,rfl,rfl,Below.refl _ _⟩
 case round=>
  obtain⟨k,hk,rfl,rfl,hb⟩:=hrel;have HB:=Jj hb;obtain⟨c0,-⟩:=(K0.out.below hb K0.out.lt).one;have HVr:=Jj (HV.out.bel (aa B0.out hb));clear hb;by_cases hlt:k<m
  ·have hle:(k:Int)+1≤(m:Int):=by omega
   have hng:IntKind.i64.wrap (-((k:Int)+1)) = -(((k+1:Nat)):Int):=(IntWalk.i64_left _).trans ((IntWalk.wrap64_in _ (by omega)).trans (by omega))
   go_wp2_with fail
   refine(mH _ R (k+1) _ HVr.out HR.out (by omega)).mono ?_;rintro e w4 ⟨r,rfl,o4,b4⟩;have hlB:=cL R (k+1);have HB4:=Jj (aa HB.out b4);have hko:=ek HR.out (k+1);have hk0:=(ap.1 hko).2.2 0 (by rw[hlB];omega);have hsz:=mn HR.out (k+1);obtain⟨A4,c4,rfl,hlc4,-,hrd⟩:=o4.strs.open_;obtain⟨b4',o4',rfl,hbb,hcell⟩:=hrd.strs (by rw[hlB];omega);have ck:=hcell 0 (by rw[hlB];omega);rw[Nat.add_zero] at ck;rw[hlB] at *;have hs1:=HS.out k;have HNX:=Jj (show ahS R c (k+1)=bS (ahS R c k) (sat (aT R (k+1)) 0) from rfl);have HPA:=Jj (Jq hs1.1 (Jq hk0.1 (show(ahS R c k).size=(sat (aT R (k+1)) 0).size by rw[hs1.2,HZ.out,hsz])));obtain⟨Z,hZ⟩:∃Z,sat (aT R (k+1)) 0=Z:=⟨_,rfl⟩;obtain⟨Y,hY⟩:∃Y,ahS R c k=Y:=⟨_,rfl⟩;rw[hZ] at ck HNX HPA;rw[hY] at HNX HPA ⊢;clear hcell hrd o4 b4 hk0 hsz hs1 hko hlB hZ hY
   go_wp2_with fail
   refine(nW _ _ _ HPA.out.1 HPA.out.2.1 HPA.out.2.2).mono ?_;rintro e w5 ⟨rfl,b5⟩;have HB5:=Jj (aa HB4.out b5);clear b5 ck;go_wp2;go_roundw
   case rel=>exact⟨k+1,by omega,by go_num,by rw[HNX.out],HB5.out⟩
   case measure=>simp[intOf];omega
  ·obtain rfl:k=m:=by omega
   have hle:¬(k:Int)+1≤(k:Int):=by omega
   go_wp2;go_ret;exact⟨rfl,aa B0.out HB.out⟩
theorem xt {l R:List ByteArray} {i cap:Nat} {z:ByteArray} (hn:R.length=l.length) (hi:i<l.length) (hc:l.length≤cap):∀cs:List Value,cs.length=cap→(∀j,j<l.length→cs[j]?=some (.string (sat R j)))→∀j,j<l.length→(cs.set i (.string z))[j]?=some (.string (sat (R.set i z) j)):=by
 intro cs hl h j hj;rw[kC (by omega)];by_cases e:i=j
 ·subst e;rw[List.getElem?_set_self (by omega),if_pos rfl]
 ·rw[List.getElem?_set_ne e,if_neg e];exact h j hj
theorem Bh (v:Value) (l:List ByteArray) (w:World) (hv:aG w v l):
  Calls prog 26 #[.agg #[v]] w (cj w (bw eD l) (af l)):=by
 have HV:=Jj hv;obtain⟨A,c,rfl,-,-,-⟩:=hv.open_;clear hv;have B0:=Jj (show Below w.heap.size w ((w.alloc (.cells #[.slice A l.length c] 32)).alloc (.cells #[.slice none 0 0] 32)) from(ab w _).alloc (by simp) _);have K0:=(Blk.new' w 32 (.slice A l.length c) w.heap.size rfl).alloc (.cells #[.slice none 0 0] 32);have K2:=Blk.new' (w.alloc (.cells #[.slice A l.length c] 32)) 32 (.slice none 0 0) (w.heap.size+1) (by simp);obtain⟨c0,-⟩:=K0.one
 go_enter func26,ntmps26
 go_wp2_with fail
 clear c0;generalize hW:(w.alloc (.cells #[.slice A l.length c] 32)).alloc (.cells #[.slice none 0 0] 32)=W at *;clear hW;refine(dX _ l _ (HV.out.bel B0.out)).mono ?_;rintro e w2 ⟨rfl,hb⟩;replace K0:=K0.below hb K0.lt;replace K2:=K2.below hb K2.lt;have HB:=Jj (aa B0.out hb);have hz:=HB.out.size;clear hb;obtain⟨c0,-⟩:=K0.one;obtain⟨c2,f2⟩:=K2.one;cases he:af l
 ·have HN:=Jj (Jq (jr (f:=eD) he) he);go_wp2;rw[HN.out.1,HN.out.2];refine bodyPost_ret (v:=.tuple #[.agg #[.slice none 0 0],.bool false]) (by simp[results,results26,go_sem,c2]) rfl ⟨.slice none 0 0,rfl,aj.nil_ _ _,HB.out.setCell (by simp) _⟩
 ·have HY:=Jj (Jq (dO (f:=eD) he) he);have OK:=Jj he;obtain⟨l1,l7,-⟩:=ap.1 he;obtain⟨A',c',e',hlc,hcm,hrd⟩:=(HV.out).open_;obtain⟨ba,oa,rfl,hba,hca⟩:=hrd.strs (by omega);injection e' with e1' e2' e3';subst e1' e3';have HCA:=Jj (Jq hba hca);clear he hrd hba hca e2'
  go_wp2_with fail
  refine(fm _ l _ (HV.out.bel HB.out) (by omega)).mono ?_;rintro e w3 ⟨r,rfl,ho,hb1⟩;have k2:=K2.lt;replace K0:=K0.below hb1 K0.lt;replace K2:=K2.below hb1 K2.lt;have HB1:=Jj (aa HB.out hb1)
  rcases ho.form with ⟨_,h0⟩|⟨g,cap,cs0,rfl,hg,hblk0,hlcap,hcm3,hcl0,hcs0⟩
  ·exfalso;rw[h0] at l1;simp at l1
  ·have H0:=Jj (Jq hcl0 hcs0);have hg2:w.heap.size+1<g:=by omega
   have hgz:=hblk0.lt;have hz1:=HB1.out.size;clear hcl0 hcs0 hb1 ho c0 c2 f2;have ba1:Below w3.heap.size w3 (w3.alloc (.cells #[.slice (some ⟨g,0,none⟩) l.length cap] 32)):=ab w3 _;have K3:=Blk.new' w3 32 (.slice (some ⟨g,0,none⟩) l.length cap) _ rfl;replace K0:=K0.below ba1 K0.lt;replace K2:=K2.below ba1 K2.lt;have hblk:=hblk0.below ba1 hgz;have HB3:=Jj (aa HB1.out ba1);obtain⟨y1,-⟩:=K0.one
   go_wp2_with fail
   clear y1;generalize hW3:w3.alloc (.cells #[.slice (some ⟨g,0,none⟩) l.length cap] 32)=W3 at *;clear hW3 ba1 hblk0;have HK:=Jj (Jq K0 (Jq K2 K3));clear K0 K2 K3 k2
   go_loopw [5] (fun i wr=>∃(m:Nat) (R:List ByteArray) (cs:List Value),m≤l.length∧i=.int .i64 ((m:Int)-1)∧R=fx l (l.length-m)∧Blk wr g 9 cs∧cs.length=cap∧(∀j,j<l.length→cs[j]?=some (.string (sat R j)))∧Below w.heap.size w wr∧Blk wr w.heap.size 32 [.slice (some ⟨ba,oa,none⟩) l.length c]∧Blk wr (w.heap.size+1) 32 [.slice none 0 0]∧Blk wr w3.heap.size 32 [.slice (some ⟨g,0,none⟩) l.length cap])
    (fun i _=>(intOf i+1).toNat)
   case atStart=>exact⟨l.length,l,cs0,Jr _,by go_num,by rw[Nat.sub_self];rfl,hblk,H0.out.1,H0.out.2,HB3.out,HK.out.1,HK.out.2.1,HK.out.2.2⟩
   case round=>
    clear HK HB3 hblk;obtain⟨m,R,cs,hm,rfl,hR,hblk,hcl,hcs,hbel,K1,K2,K3⟩:=hrel;have H:=Jj (Jq hR (Jq hcl (Jq hcs hbel)));clear hR hcl hcs hbel H0;obtain⟨e1,-⟩:=K1.one;obtain⟨e2,f2⟩:=K2.one;obtain⟨e3,-⟩:=K3.one;have hz:=hblk.lt;have HBK:=Jj hblk;have HK:=Jj (Jq K1 (Jq K2 K3));clear K1 K2 K3;by_cases hm0:m=0
    ·subst hm0;rw[show(((0:Nat):Int)-1) = -1 from rfl];have hlen:=pN l;have HO:=Jj (show aj wr (w.heap.size+1+1) (.slice (some ⟨g,0,none⟩) l.length cap) (eD l) from by
      have:=aj.mk' (base:=w.heap.size+1+1) (l:=eD l) (by omega) HBK.out (by rw[hlen];exact hlcap) hcm3 H.out.2.1 (fun j hj=>by rw[hlen] at hj;rw[H.out.2.2.1 j hj,H.out.1];rfl) (iS (qZ OK.out));rwa[hlen] at this)
     clear hlen hblk e1;go_wp2;rw[HY.out.1,HY.out.2];refine bodyPost_ret (v:=.tuple #[.agg #[.slice (some ⟨g,0,none⟩) l.length cap],.bool true]) (by simp[results,results26,go_sem,e2]) rfl ⟨_,rfl,(HO.out.setCell _ _ (by simp)).lower (by omega),H.out.2.2.2.setCell (by simp) _⟩
    ·obtain⟨i,rfl⟩:∃j,m=j+1:=⟨m-1,by omega⟩;rw[show(((i+1:Nat):Int)-1)=(i:Int) from by omega];have hil:i<l.length:=by omega
     have hq:(i:Int).tdiv 2=((i / 2:Nat):Int):=by rw[Int.tdiv_eq_ediv_of_nonneg (by omega)];omega
     obtain⟨d,hd⟩:∃d,i / 2=d:=⟨_,rfl⟩;rw[hd] at hq;have hd3:d≤3:=by omega
     have hwd:IntKind.i64.wrap (d:Int)=(d:Int):=(IntWalk.i64_left _).trans (IntWalk.wrap64_in _ (by omega));have hzb:ba<wr.heap.size:=by have:=HCA.out.1;have:=H.out.2.2.2.size;omega
     have hck:wr.cell? ⟨ba,oa+i,none⟩=some (.string (sat l i)):=(H.out.2.2.2.cell (by exact HCA.out.1)).trans (HCA.out.2 i hil);have hbag:ba≠g:=by have:=HCA.out.1;omega
     obtain⟨ro,rz⟩:=oF OK.out (l.length-(i+1)) (by omega);have hRl:=ix l (l.length-(i+1));rw[←H.out.1] at ro rz hRl;have hzz:=FQ (l:=l) ro (i:=i) (by omega);rw[hd] at hzz;have HZQ0:=Jj (show R.set i (gZ l R i)=fx l (l.length-i) by rw[su hil,←H.out.1]);have hp1:(i:Int)+1≤(l.length:Int):=by omega
     have hp0:(0:Int)≤(i:Int)+1:=by omega
     have hp2:(i:Int)<(l.length:Int):=by omega
     have hp3:(0:Int)≤(i:Int):=by omega
     have hpc:(i:Int)+1≤(cap:Int):=by omega
     have htn:((i:Int)+1).toNat=i+1:=by omega
     have hwi:IntKind.i64.wrap ((i:Int)+1)=(i:Int)+1:=(IntWalk.i64_left _).trans (IntWalk.wrap64_in _ (by omega));have hlt2:i+1≤l.length:=by omega
     have hlt3:i+1≤cap:=by omega
     replace hd:=Jj hd;have hcol:=(ap.1 OK.out).2.2 i hil;clear e2 f2 hblk;have tok1:True:=trivial;by_cases hil1:i+1<l.length
     ·have hzA:gZ l R i=ahS (R.drop (i+1)) (sat l i) d:=by
       rw[hzz];unfold ahC;rw[if_neg (fun e=>by have h5:=congrArg List.length e;rw[List.length_drop] at h5;simp at h5;omega)]
      have hdo:=ly ro (i:=i+1) (by omega);have hsd:=uo HBK.out H.out.2.1 (by rw[hRl];exact hlcap) hcm3 (fun j hj=>H.out.2.2.1 j (by omega)) (by omega) (iS ro) (i:=i+1);rw[hRl] at hsd;have hsz0:(sat l i).size=(sat (R.drop (i+1)) 0).size:=by
       rw[mf,Nat.add_zero,hcol.2,←rz];exact((ap.1 ro).2.2 (i+1) (by omega)).2.symm
      have hci:¬cap=i+1:=by omega
      have HX:=Jj (Jq hsd (Jq hdo (Jq hcol.1 hsz0)));have HZQ:=Jj (show R.set i (ahS (R.drop (i+1)) (sat l i) d)=fx l (l.length-i) by rw[←hzA];exact HZQ0.out);have HZS:=Jj (xt (z:=ahS (R.drop (i+1)) (sat l i) d) hRl hil hlcap);obtain⟨Z,hZ⟩:∃Z,ahS (R.drop (i+1)) (sat l i) d=Z:=⟨_,rfl⟩;have HZ:=Jj hZ;rw[hZ] at HZQ HZS;clear hZ hzA hzz hdo hsd hsz0 ro rz hRl hcol
      go_wp2_with fail
      go_region_held3 (fun w'=>w'.cell? ⟨w.heap.size,0,none⟩=some (.slice (some ⟨ba,oa,none⟩) l.length c)∧w'.cell? ⟨w3.heap.size,0,none⟩=some (.slice (some ⟨g,0,none⟩) l.length cap)∧w'.cell? ⟨ba,oa+i,none⟩=some (.string (sat l i)))
      (first|exact⟨e1,e3,hck⟩|exact⟨HK4.out.1.one.1,HK4.out.2.2.1.one.1,HK4.out.2.2.2⟩|exact⟨(HK4.out.1.far (p:=⟨g,i,none⟩) (by show w.heap.size≠g;omega) _).one.1,(HK4.out.2.2.1.far (p:=⟨g,i,none⟩) (by show w3.heap.size≠g;omega) _).one.1,(Ju _ _ _ _ (by intro e;injection e with q;omega)).trans HK4.out.2.2.2⟩|go_keep)
     (first
     |((try go_simp);go_at_call 68;have _t:=tok1;go_loud (refine(xW _ (R.drop (i+1)) _ d _ (by first|exact HX.out.1|exact HX.out.1.bel (Below.drew (Below.refl _ _))) HX.out.2.1 HX.out.2.2.1 HX.out.2.2.2 hd3).mono ?_;rintro e w4 ⟨rfl,b4⟩;rw[HZ.out];replace b4:Below wr.heap.size wr w4:=(by first|exact b4|exact aa ((Below.refl _ _).drew) b4);have HK4:=Jj (Jq (HK.out.1.below b4 HK.out.1.lt) (Jq (HK.out.2.1.below b4 HK.out.2.1.lt) (Jq (HK.out.2.2.below b4 HK.out.2.2.lt) ((b4.cell (by exact hzb)).trans hck))));have HBL:=Jj (HBK.out.below b4 hz);have HB4:=Jj (aa H.out.2.2.2 b4);have hfw:=HBL.out.frozen i;have hcw:w4.cell? ⟨g,i,none⟩=some (.string (sat R i)):=(b4.cell hz).trans ((HBK.out.cell i).trans (H.out.2.2.1 i hil));clear tok1 b4;(try dsimp only)))
     |fail)
      all_goals
       go_wp2;go_roundw
       case rel=>
        refine⟨i,R.set i Z,_,by omega,by go_num,?_,HBL.out.set_ i _,by rw[List.length_set];exact H.out.2.1,fun j hj=>?_,(by first|exact HB4.out.setCell (by show w.heap.size≤g;omega) _|exact(HB4.out.setCell (p:=⟨g,i,none⟩) (by show w.heap.size≤g;omega) _).drew),HK4.out.1.far (by show w.heap.size≠g;omega) _,HK4.out.2.1.far (by show w.heap.size+1≠g;omega) _,HK4.out.2.2.1.far (by show w3.heap.size≠g;omega) _⟩
        ·exact HZQ.out
        ·exact HZS.out _ H.out.2.1 H.out.2.2.1 j hj
       case measure=>simp[intOf]
     ·have hie:l.length-(i+1)=0:=by omega
      have hzA:gZ l R i=sat l i:=by
       rw[hzz];unfold ahC;rw[if_pos (List.drop_eq_nil_of_le (by omega))]
      have HZQ:=Jj (show R.set i (sat l i)=fx l (l.length-i) by rw[←hzA];exact HZQ0.out);have HZS:=Jj (xt (z:=sat l i) hRl hil hlcap);clear hzA hzz ro rz hRl hcol;by_cases hci:cap=i+1
      ·subst hci
       go_wp2_with fail
       go_region_held3 (fun w'=>w'.cell? ⟨w.heap.size,0,none⟩=some (.slice (some ⟨ba,oa,none⟩) l.length c)∧w'.cell? ⟨w3.heap.size,0,none⟩=some (.slice (some ⟨g,0,none⟩) l.length (i+1))∧w'.cell? ⟨ba,oa+i,none⟩=some (.string (sat l i)))
       (first|exact⟨e1,e3,hck⟩|exact⟨HK4.out.1.one.1,HK4.out.2.2.1.one.1,HK4.out.2.2.2⟩|exact⟨(HK4.out.1.far (p:=⟨g,i,none⟩) (by show w.heap.size≠g;omega) _).one.1,(HK4.out.2.2.1.far (p:=⟨g,i,none⟩) (by show w3.heap.size≠g;omega) _).one.1,(Ju _ _ _ _ (by intro e;injection e with q;omega)).trans HK4.out.2.2.2⟩|go_keep)
     (first
     |((try go_simp);go_at_call 68;have _t:=tok1;go_loud (refine(qn _ 0 _ _ _ _).mono ?_;rintro e w4 ⟨rfl,b4⟩;replace b4:Below wr.heap.size wr w4:=(by first|exact b4|exact aa ((Below.refl _ _).drew) b4);have HK4:=Jj (Jq (HK.out.1.below b4 HK.out.1.lt) (Jq (HK.out.2.1.below b4 HK.out.2.1.lt) (Jq (HK.out.2.2.below b4 HK.out.2.2.lt) ((b4.cell (by exact hzb)).trans hck))));have HBL:=Jj (HBK.out.below b4 hz);have HB4:=Jj (aa H.out.2.2.2 b4);have hfw:=HBL.out.frozen i;have hcw:w4.cell? ⟨g,i,none⟩=some (.string (sat R i)):=(b4.cell hz).trans ((HBK.out.cell i).trans (H.out.2.2.1 i hil));clear tok1 b4;(try dsimp only)))
     |fail)
       all_goals
        go_wp2;go_roundw
        case rel=>
         refine⟨i,R.set i (sat l i),_,by omega,by go_num,?_,HBL.out.set_ i _,by rw[List.length_set];exact H.out.2.1,fun j hj=>?_,(by first|exact HB4.out.setCell (by show w.heap.size≤g;omega) _|exact(HB4.out.setCell (p:=⟨g,i,none⟩) (by show w.heap.size≤g;omega) _).drew),HK4.out.1.far (by show w.heap.size≠g;omega) _,HK4.out.2.1.far (by show w.heap.size+1≠g;omega) _,HK4.out.2.2.1.far (by show w3.heap.size≠g;omega) _⟩
         ·exact HZQ.out
         ·exact HZS.out _ H.out.2.1 H.out.2.2.1 j hj
        case measure=>simp[intOf]
      ·go_wp2_with fail
       go_region_held3 (fun w'=>w'.cell? ⟨w.heap.size,0,none⟩=some (.slice (some ⟨ba,oa,none⟩) l.length c)∧w'.cell? ⟨w3.heap.size,0,none⟩=some (.slice (some ⟨g,0,none⟩) l.length cap)∧w'.cell? ⟨ba,oa+i,none⟩=some (.string (sat l i)))
       (first|exact⟨e1,e3,hck⟩|exact⟨HK4.out.1.one.1,HK4.out.2.2.1.one.1,HK4.out.2.2.2⟩|exact⟨(HK4.out.1.far (p:=⟨g,i,none⟩) (by show w.heap.size≠g;omega) _).one.1,(HK4.out.2.2.1.far (p:=⟨g,i,none⟩) (by show w3.heap.size≠g;omega) _).one.1,(Ju _ _ _ _ (by intro e;injection e with q;omega)).trans HK4.out.2.2.2⟩|go_keep)
     (first
     |((try go_simp);go_at_call 68;have _t:=tok1;go_loud (refine(qn _ 0 _ _ _ _).mono ?_;rintro e w4 ⟨rfl,b4⟩;replace b4:Below wr.heap.size wr w4:=(by first|exact b4|exact aa ((Below.refl _ _).drew) b4);have HK4:=Jj (Jq (HK.out.1.below b4 HK.out.1.lt) (Jq (HK.out.2.1.below b4 HK.out.2.1.lt) (Jq (HK.out.2.2.below b4 HK.out.2.2.lt) ((b4.cell (by exact hzb)).trans hck))));have HBL:=Jj (HBK.out.below b4 hz);have HB4:=Jj (aa H.out.2.2.2 b4);have hfw:=HBL.out.frozen i;have hcw:w4.cell? ⟨g,i,none⟩=some (.string (sat R i)):=(b4.cell hz).trans ((HBK.out.cell i).trans (H.out.2.2.1 i hil));clear tok1 b4;(try dsimp only)))
     |fail)
       all_goals
        go_wp2;go_roundw
        case rel=>
         refine⟨i,R.set i (sat l i),_,by omega,by go_num,?_,HBL.out.set_ i _,by rw[List.length_set];exact H.out.2.1,fun j hj=>?_,(by first|exact HB4.out.setCell (by show w.heap.size≤g;omega) _|exact(HB4.out.setCell (p:=⟨g,i,none⟩) (by show w.heap.size≤g;omega) _).drew),HK4.out.1.far (by show w.heap.size≠g;omega) _,HK4.out.2.1.far (by show w.heap.size+1≠g;omega) _,HK4.out.2.2.1.far (by show w3.heap.size≠g;omega) _⟩
         ·exact HZQ.out
         ·exact HZS.out _ H.out.2.1 H.out.2.2.1 j hj
        case measure=>simp[intOf]
end Go.Proofs.YtfmjklgfpiffbaaGreatDoor
