/-
  Parts of the proof of one statement, merged: EsMe EsXd EsZ LawRS LawSP.
-/
import Derived.Test.YtfmjklgfpiffbaaGreatDoorR38
import Derived.Test.YtfmjklgfpiffbaaGreatDoorR39
namespace Go.Proofs.YtfmjklgfpiffbaaGreatDoor
open Go.RowKit Go.Proofs.Tryz
set_option linter.unusedVariables false
set_option linter.unusedSimpArgs false
set_option maxRecDepth 100000
set_option maxHeartbeats 8000000
attribute [local go_sem ↓] Go.wp_at_zero Go.wp_at_succ
theorem ye (P:Nat→Prop) (v n:Value) (d:ae) (s:ByteArray) (l:List Int) (w:World) (ok:d.Ok) (hs:SxR P w v d) (hn:SxN P w) (hl:ai w n l) (hj:bI s<12) (hll:(l.length:Int)=at_ bT (bI s)):Calls prog 50 #[v,.string s,n] w (SxQ P w (aK d s l)):=by
 have ht:=ok.tab;have hw:=Cb hj;clear hj;simp only[df,Jz,JA,or_false] at hw
 rcases hw with rfl|rfl|rfl|rfl|rfl|rfl|rfl|rfl|rfl|rfl|rfl|rfl
 ·exact xH P v n d l w hs hn hl (by have h:at_ bT (bI eU)=2:=(by decide +kernel);omega)
 ·exact xI P v n d l w hs hn hl (by have h:at_ bT (bI eV)=1:=(by decide +kernel);omega)
 ·exact(jG P v d w ht hs hn).2.2.1 n l hl (by have h:at_ bT (bI dT)=2:=(by decide +kernel);omega)
 ·exact(jG P v d w ht hs hn).1 n l hl (by have h:at_ bT (bI jp)=1:=(by decide +kernel);omega)
 ·exact(jG P v d w ht hs hn).2.2.2.2 n l hl (by have h:at_ bT (bI gn)=4:=(by decide +kernel);omega)
 ·exact(jG P v d w ht hs hn).2.1 n l hl (by have h:at_ bT (bI dt)=1:=(by decide +kernel);omega)
 ·exact(jG P v d w ht hs hn).2.2.2.1 n l hl (by have h:at_ bT (bI eT)=2:=(by decide +kernel);omega)
 ·exact vL P v n d l w hs hn hl (by have h:at_ bT (bI dS)=3:=(by decide +kernel);omega)
 ·exact zO P v n d l w hs hn hl (by have h:at_ bT (bI gk)=1:=(by decide +kernel);omega)
 ·exact zP P v n d l w hs hn hl (by have h:at_ bT (bI gl)=1:=(by decide +kernel);omega)
 ·exact xG P v n d l w hs hn hl (by have h:at_ bT (bI eS)=3:=(by decide +kernel);omega)
 ·exact zQ P v n d l w ok hs hn hl (by have h:at_ bT (bI eW)=1:=(by decide +kernel);omega)
theorem By (P:Nat→Prop) (v:Value) (d:ae) (s g:ByteArray) (w:World) (hg:g.size≤1000000) (ok:d.Ok) (hs:SxR P w v d) (hn:SxN P w) (h:s∉dy):Calls prog 11 #[v,.string s,.string g] w (SxQ P w (gX d s g)):=by
 have HOK:=Jj ok;have HM0:=Jj h;simp only[dy,Jz,JA,or_false,not_or] at h;obtain⟨h1,h2,h3,h4,h5,h6,h7⟩:=h;replace h1:=bB (l:=[112,111,108,121]) h1;replace h2:=bB (l:=[112,111,119,101,114,115]) h2;replace h3:=bB (l:=[101,110,103,105,110,101]) h3;replace h4:=bB (l:=[116,97,98,108,101]) h4;replace h5:=bB (l:=[101,114,114,97,116,97]) h5;replace h6:=bB (l:=[97,112,112,108,121]) h6;replace h7:=bB (l:=[106,111,98]) h7;clear ok;obtain⟨p,e,t,rfl,hs0⟩:=hs.s;obtain⟨Ap,cp,rfl,-,-,-⟩:=hs0.1.1.open_;obtain⟨Ae,ce,rfl,-,-,-⟩:=hs0.2.1.1.open_;obtain⟨At,ct,rfl,-,-,-⟩:=hs0.2.2.1.open_;have HS:=Jj (Sxn.first hs0 hn);have HSAME:=Jj (SxS.same hs0 hn);obtain⟨c0,c1,c2,c3,c4,c5⟩:=HS.out.box.cells;obtain⟨f0,f1,f2,f3,f4,f5⟩:=HS.out.out.frz;obtain⟨z0,z1,z2,z3,z4,z5⟩:=HS.out.out.cells;obtain⟨r,hr⟩:∃r:ByteArray×ae,gX d s g=r:=⟨_,rfl⟩;have HRR:=Jj hr;rw[hr];clear hs hs0 hn hr;obtain⟨K,hK⟩:∃K,fD s=K:=⟨_,rfl⟩;have HK:=Jj hK;clear hK;by_cases hj:bI s=12
 ·have HW:=Jj (show gX d s g=(eF,d) by unfold gX;rw[if_pos hj];exact qY d g s (fun w hw e=>HM0.out (e▸hw)));have hK1:K = -1:=HK.out.symm.trans (ER hj);subst hK1;clear hj
  go_enter func11,ntmps11
  go_wp2_with fail
  generalize hW:World.alloc _ _=W at HS c0 c1 c2 c3 c4 c5 f0 f1 f2 f3 f4 f5 z0 z1 z2 z3 z4 z5 ⊢;clear hW;refine(lY s _).mono ?_;rintro e1 w1 ⟨rfl,rfl⟩;rw[HK.out];go_wp2;obtain⟨kk,ss,bb⟩:=HS.out.done HS.out.sta;generalize World.setCell _ _ _=w9 at kk ss bb ⊢;obtain⟨x0,x1,x2,x3,x4,x5⟩:=kk.cells;refine bodyPost_ret (v:=.tuple #[.agg #[(.slice Ap d.poly.length cp),(.slice Ae d.eng.length ce),(.slice At d.tab.length ct),.int .i64 d.rw,.int .i64 d.ac,.int .i64 d.wi],.string ⟨#[119,104,97,116,10]⟩]) (by simp[results,results11,go_sem,x0,x1,x2,x3,x4,x5]) rfl ?_;rw[show r=(⟨#[119,104,97,116,10]⟩,d) from HRR.out.symm.trans (HW.out)];exact⟨_,rfl,ss,bb⟩
 ·obtain⟨k,hk4,hkf,hkn⟩:=ET (s:=s) (by have:=(jq s).1;omega);have HJ:=Jj (show bI s<12 by have:=(jq s).1;omega);have hK1:K=(k:Int):=HK.out.symm.trans hkf;subst hK1;have HN:=Jj hkn;have HF:=Jj (vI (g:=g) hkn);have hkneg:¬(k:Int)<0:=by omega
  clear hkf hkn
  go_enter func11,ntmps11
  go_wp2_with fail
  generalize hW:World.alloc _ _=W at HS c0 c1 c2 c3 c4 c5 f0 f1 f2 f3 f4 f5 z0 z1 z2 z3 z4 z5 ⊢;clear hW;refine(lY s _).mono ?_;rintro e1 w1 ⟨rfl,rfl⟩;rw[HK.out]
  go_wp2_with fail
  refine(lY s _).mono ?_;rintro e1 w1 ⟨rfl,rfl⟩;rw[HK.out]
  go_wp2_with fail
  refine(nl g k _ (by omega) (by omega)).mono ?_;rintro e1 w1 ⟨x1,rfl,o1,b1⟩;have H1:=Jj (HS.out.next b1);have HX1:=Jj o1.ints;clear c0 c1 c2 c3 c4 c5 f0 f1 f2 f3 f4 f5 z0 z1 z2 z3 z4 z5 b1 o1;cases hq:iA g k
  ·have HW:=Jj (show gX d s g=(eF,d) by unfold gX;rw[if_neg (by have:=HJ.out;omega),HF.out,hq];rfl);obtain⟨A1,k1,rfl,-,-,-⟩:=HX1.out.open_;clear hq;obtain⟨c0,c1,c2,c3,c4,c5⟩:=H1.out.box.cells;obtain⟨f0,f1,f2,f3,f4,f5⟩:=H1.out.out.frz;obtain⟨z0,z1,z2,z3,z4,z5⟩:=H1.out.out.cells;go_wp2;obtain⟨kk,ss,bb⟩:=H1.out.done H1.out.sta;generalize World.setCell _ _ _=w9 at kk ss bb ⊢;obtain⟨x0,x1,x2,x3,x4,x5⟩:=kk.cells;refine bodyPost_ret (v:=.tuple #[.agg #[(.slice Ap d.poly.length cp),(.slice Ae d.eng.length ce),(.slice At d.tab.length ct),.int .i64 d.rw,.int .i64 d.ac,.int .i64 d.wi],.string ⟨#[119,104,97,116,10]⟩]) (by simp[results,results11,go_sem,x0,x1,x2,x3,x4,x5]) rfl ?_;rw[show r=(⟨#[119,104,97,116,10]⟩,d) from HRR.out.symm.trans (HW.out)];exact⟨_,rfl,ss,bb⟩
  ·have HE:=Jj (vx hq);have HW:=Jj (show gX d s g=aK d s (bg g) by unfold gX;rw[if_neg (by have:=HJ.out;omega),HF.out,hq];rfl);have HX2:=Jj (show ai w1 x1 (bg g) from HE.out.1▸HX1.out);clear hq HX1;obtain⟨A1,k1,rfl,-,-,-⟩:=HX2.out.open_;obtain⟨c0,c1,c2,c3,c4,c5⟩:=H1.out.box.cells;obtain⟨f0,f1,f2,f3,f4,f5⟩:=H1.out.out.frz;obtain⟨z0,z1,z2,z3,z4,z5⟩:=H1.out.out.cells
   go_wp2_with fail
   have HM:=ye _ _ _ d s (bg g) w1 HOK.out H1.out.sta.r H1.out.new HX2.out HJ.out (by rw[HE.out.2,HN.out]);obtain⟨q,hq⟩:∃q:ByteArray×ae,aK d s (bg g)=q:=⟨_,rfl⟩;have HRQ:=Jj (show r=q from HRR.out.symm.trans (HW.out.trans hq));rw[hq] at HM;clear hq;refine HM.mono ?_;rintro e3 w3 ⟨v3,rfl,s3,b3⟩;have H3:=Jj (H1.out.next b3);obtain⟨p2,e2,t2,rfl,sq⟩:=s3.s;obtain⟨Ap2,cp2,rfl,-,-,-⟩:=sq.1.1.open_;obtain⟨Ae2,ce2,rfl,-,-,-⟩:=sq.2.1.1.open_;obtain⟨At2,ct2,rfl,-,-,-⟩:=sq.2.2.1.open_;have SQ:=Jj sq;clear sq;clear b3 HM c0 c1 c2 c3 c4 c5 f0 f1 f2 f3 f4 f5 z0 z1 z2 z3 z4 z5;obtain⟨c0,c1,c2,c3,c4,c5⟩:=H3.out.box.cells;obtain⟨f0,f1,f2,f3,f4,f5⟩:=H3.out.out.frz;obtain⟨z0,z1,z2,z3,z4,z5⟩:=H3.out.out.cells;go_wp2;obtain⟨kk,ss,bb⟩:=H3.out.done SQ.out;generalize World.setCell _ _ _=w9 at kk ss bb ⊢;obtain⟨x0,x1,x2,x3,x4,x5⟩:=kk.cells;refine bodyPost_ret (v:=.tuple #[.agg #[(.slice Ap2 q.2.poly.length cp2),(.slice Ae2 q.2.eng.length ce2),(.slice At2 q.2.tab.length ct2),.int .i64 q.2.rw,.int .i64 q.2.ac,.int .i64 q.2.wi],.string q.1]) (by simp[results,results11,go_sem,x0,x1,x2,x3,x4,x5]) rfl ?_;rw[HRQ.out];exact⟨_,rfl,ss,bb⟩
theorem yh (P:Nat→Prop) (v:Value) (d:ae) (s g:ByteArray) (w:World) (hg:g.size≤1000000) (ok:d.Ok) (hs:SxR P w v d) (hn:SxN P w):Calls prog 11 #[v,.string s,.string g] w (SxQ P w (gX d s g)):=by
 have ht:=ok.tab;by_cases h:s∈dy
 ·have e:gX d s g=bC d s g:=by unfold gX;rw[if_pos (FK h)]
  rw[e];clear e;simp only[dy,Jz,JA,or_false] at h
  rcases h with rfl|rfl|rfl|rfl|rfl|rfl|rfl
  ·exact Bz P v d g w hg hs hn
  ·exact xB P v d g w hg hs hn
  ·exact xy P v d g w hg hs hn
  ·exact yK P v d g w hg hs hn
  ·exact xA P v d g w hg hs hn
  ·exact yJ P v d g w hg ht hs hn
  ·exact D8 P v d g w hg ok hs hn
 ·exact By P v d s g w hg ok hs hn h
structure RsS (w:World) (b:Nat) (A:Option Addr) (c:Nat) (ls:List ByteArray) (p e t:Value) (d:ae) (X:World):Prop where
 box:SxB X b p e t d
 sta:SxS (fun j=>j≠b) X p e t d
 lin:aG X (.slice A ls.length c) ls
 off:Off (.slice A ls.length c) ls (fun j=>j≠b)
 bel:Below w.heap.size w X
 pos:w.heap.size≤b
theorem RsS.next {w:World} {b:Nat} {A:Option Addr} {c:Nat} {ls:List ByteArray} {p e t:Value} {d:ae} {X Y:World} (h:RsS w b A c ls p e t d X) (hb:Below X.heap.size X Y):RsS w b A c ls p e t d Y:=
 ⟨h.box.below hb h.box.lt,h.sta.bel hb,h.lin.bel hb,h.off,aa h.bel hb,h.pos⟩
theorem RsS.new {w:World} {b:Nat} {A:Option Addr} {c:Nat} {ls:List ByteArray} {p e t:Value} {d:ae} {X:World} (h:RsS w b A c ls p e t d X):SxN (fun j=>j≠b) X:=fun j hj=>by
 have:=h.box.lt;omega
theorem RsS.put {w:World} {b:Nat} {A:Option Addr} {c:Nat} {ls:List ByteArray} {p e t p' e' t':Value} {d d':ae} {X:World} (h:RsS w b A c ls p e t d X) (s:SxS (fun j=>j≠b) X p' e' t' d'):RsS w b A c ls p' e' t' d' ((((((X.setCell ⟨b,0,none⟩ p').setCell ⟨b,1,none⟩ e').setCell ⟨b,2,none⟩ t').setCell ⟨b,3,none⟩ (.int .i64 d'.rw)).setCell ⟨b,4,none⟩ (.int .i64 d'.ac)).setCell ⟨b,5,none⟩ (.int .i64 d'.wi)):=by
 obtain⟨h1,h2⟩:=wI h.box p' e' t' d';exact⟨h1,s.row (fun j hj=>hj) h2,h.lin.rowFar h2 (h.off.mono fun j hj e=>hj (JC e)),h.off,h.bel.grown h2 h.bel.size (fun k hk=>by cases hk;exact h.pos),h.pos⟩
theorem sf (t:ByteArray) (w:World) (hs:t.size≤20000):
  Calls prog 5 #[.string t] w fun e w'=>e=.returned (.string (fQ b9 gV 0 ⟨#[]⟩ (aq 10 t)))∧Below w.heap.size w w':=by
 have h2:¬(20000:Int)<(t.size:Int):=by omega
 have B2:Below w.heap.size w ((w.alloc (.cells #[.int .i64 0] 3)).alloc (.cells #[.slice (some ⟨w.heap.size,0,none⟩) 1 1,.slice none 0 0,.slice none 0 0,.int .i64 5,.int .i64 2,.int .i64 8] 34)):=(ab w _).alloc (by simp) _;have K0:Blk ((w.alloc (.cells #[.int .i64 0] 3)).alloc (.cells #[.slice (some ⟨w.heap.size,0,none⟩) 1 1,.slice none 0 0,.slice none 0 0,.int .i64 5,.int .i64 2,.int .i64 8] 34)) w.heap.size 3 [.int .i64 0]:=(Blk.new w 3 [.int .i64 0]).alloc _;have KD:SxB ((w.alloc (.cells #[.int .i64 0] 3)).alloc (.cells #[.slice (some ⟨w.heap.size,0,none⟩) 1 1,.slice none 0 0,.slice none 0 0,.int .i64 5,.int .i64 2,.int .i64 8] 34)) (w.heap.size+1) (.slice (some ⟨w.heap.size,0,none⟩) 1 1) (.slice none 0 0) (.slice none 0 0) gV:=by
  have h:=Blk.new (w.alloc (.cells #[.int .i64 0] 3)) 34 [.slice (some ⟨w.heap.size,0,none⟩) 1 1,.slice none 0 0,.slice none 0 0,.int .i64 5,.int .i64 2,.int .i64 8];rw[JD] at h;exact h
 have S0:SxS (fun j=>j≠w.heap.size+1) ((w.alloc (.cells #[.int .i64 0] 3)).alloc (.cells #[.slice (some ⟨w.heap.size,0,none⟩) 1 1,.slice none 0 0,.slice none 0 0,.int .i64 5,.int .i64 2,.int .i64 8] 34)) (.slice (some ⟨w.heap.size,0,none⟩) 1 1) (.slice none 0 0) (.slice none 0 0) gV:=
  ⟨⟨(wB K0).ints,fun a n c e _=>by cases e;show w.heap.size≠w.heap.size+1;omega⟩,⟨(aj.nil_ _ 0).strs,fun a n c e _=>by cases e⟩,⟨(Own.nil_ _ 0).ints,fun a n c e _=>by cases e⟩⟩
 have HK:=Jj (Jq KD (Jq S0 B2));have hwz:w.heap.size+2≤((w.alloc (.cells #[.int .i64 0] 3)).alloc (.cells #[.slice (some ⟨w.heap.size,0,none⟩) 1 1,.slice none 0 0,.slice none 0 0,.int .i64 5,.int .i64 2,.int .i64 8] 34)).heap.size:=by simp
 clear B2 K0 KD S0
 go_enter func5,ntmps5
 go_wp2_with fail
 generalize hW:((w.alloc (.cells #[.int .i64 0] 3)).alloc (.cells #[.slice (some ⟨w.heap.size,0,none⟩) 1 1,.slice none 0 0,.slice none 0 0,.int .i64 5,.int .i64 2,.int .i64 8] 34))=w0 at HK hwz ⊢;clear hW;refine(ip t 10 _ (by omega)).mono ?_;rintro e w1 ⟨r,rfl,o,b1⟩;obtain⟨ls,hls⟩:∃ls,aq 10 t=ls:=⟨_,rfl⟩;have hln:=ff 10 t;rw[hls] at o hln;obtain⟨A,c,rfl,-,-,-⟩:=o.strs.open_;obtain⟨out,hout⟩:∃out,fQ b9 gV 0 ⟨#[]⟩ ls=out:=⟨_,rfl⟩;have HOUT:=Jj hout;have HLS:=Jj hls;have HMS:=Jj (show ∀s∈ls,s.size≤t.size from fun s h=>cT (c:=10) (by rw[hls];exact h));have HR0:=Jj (show RsS w (w.heap.size+1) A c ls (.slice (some ⟨w.heap.size,0,none⟩) 1 1) (.slice none 0 0) (.slice none 0 0) gV w1 from⟨HK.out.1.below b1 HK.out.1.lt,HK.out.2.1.bel b1,o.strs,o.off.mono fun j hj=>by omega,aa HK.out.2.2 b1,Nat.le_succ _⟩);clear b1 o hls hout HK hwz
 go_wp2_with fail
 obtain⟨b,hb⟩:∃b,w.heap.size+1=b:=⟨_,rfl⟩;rw[hb] at HR0 ⊢;clear hb
 go_loopw [4,6] (fun u i wr=>∃(k:Nat) (T:ByteArray) (d:ae) (p e s:Value),k≤ls.length∧i=.int .i64 k∧u=.string T∧T.size≤70000∧(fQ b9 d k T (ls.drop k)=out∧d.Ok)∧RsS w b A c ls p e s d wr) (fun _ i _=>ls.length-(intOf i).toNat)
 case atStart=>exact⟨0,⟨#[]⟩,gV,_,_,_,Jy _,rfl,rfl,by decide,⟨HOUT.out,vs⟩,HR0.out⟩
 case round=>
  obtain⟨k,T,d,p,e,s,hk,rfl,rfl,hTs,hRan,hR⟩:=hrel;have HRN:=Jj hRan;have HR:=Jj hR;clear HR0 hRan hR;by_cases hlt:k<ls.length
  ·obtain⟨A6,c6,e6,-,-,hrd⟩:=HR.out.lin.open_;cases e6;obtain⟨lb,lo,rfl,hbb,hcell⟩:=hrd.strs (Nat.lt_of_le_of_lt (Jy _) hlt);have hck:=hcell k hlt;have hsz:=HMS.out _ (cJ ls k hlt);have hnext:=HRN.out.1;rw[vw hlt] at hnext;obtain⟨Z,hZ⟩:∃Z,sat ls k=Z:=⟨_,rfl⟩;rw[hZ] at hck hsz hnext;have HN:=Jj hnext;clear hcell hrd hZ hnext;cases hq:Z.toList.isEmpty
   ·by_cases h100:100≤k
    ·have h100i:(100:Int)≤(k:Int):=by omega
     have HE:=Jj (show T++⟨#[102,117,108,108,10]⟩=out from(ft (nx hq) (.inl h100)).symm.trans HN.out);have hcat:¬ 9223372036854775807<T.size+5:=by omega
     go_wp2;go_ret;exact⟨by rw[HLS.out,HOUT.out,←HE.out];rfl,HR.out.bel⟩
    ·have h100i:¬(100:Int)≤(k:Int):=by omega
     by_cases hT4:40000<T.size
     ·have hTi:(40000:Int)<(T.size:Int):=by omega
      have HE:=Jj (show T++⟨#[102,117,108,108,10]⟩=out from(ft (nx hq) (.inr hT4)).symm.trans HN.out);have hcat:¬ 9223372036854775807<T.size+5:=by omega
      go_wp2;go_ret;exact⟨by rw[HLS.out,HOUT.out,←HE.out];rfl,HR.out.bel⟩
     ·have hTi:¬(40000:Int)<(T.size:Int):=by omega
      have hnx:=iq (F:=b9) (d:=d) (k:=k) (T:=T) (r:=ls.drop (k+1)) (nx hq) (by omega) (by omega);obtain⟨hinv,hos⟩:=vG HRN.out.2 Z;obtain⟨q,hq2⟩:∃q,b9 d Z=q:=⟨_,rfl⟩;rw[hq2] at hnx hinv hos;have HR2:=Jj (show fQ b9 q.2 (k+1) (T++q.1) (ls.drop (k+1))=out∧q.2.Ok from⟨hnx.symm.trans HN.out,hinv⟩);have hto:(T++q.1).size≤70000:=by rw[qe];omega
      have HTO:=Jj hto;have hcat:¬ 9223372036854775807<T.size+q.1.size:=by omega
      have HQ2:=Jj hq2;have HOK:=Jj HRN.out.2;clear hnx hinv hto hq2 HN HRN;obtain⟨Ap,cp,rfl,-,-,-⟩:=HR.out.sta.1.1.open_;obtain⟨Ae,ce,rfl,-,-,-⟩:=HR.out.sta.2.1.1.open_;obtain⟨At,ct,rfl,-,-,-⟩:=HR.out.sta.2.2.1.open_
      go_wp2_with fail
      refine(nX Z 32 _ (by omega)).mono ?_;rintro e w2 ⟨rfl,rfl⟩;obtain⟨c0,c1,c2,c3,c4,c5⟩:=HR.out.box.cells;obtain⟨g0,g1,g2,g3,g4,g5⟩:=HR.out.box.frz;have HBB:=Jj hbb;cases hh:bL 32 Z
      ·have HEX:=Jj (show aM d Z=q from(zM hh).symm.trans HQ2.out);rw[rx hh];clear hh;have tok1:True:=trivial
       go_wp2_with fail
       go_region_law (first
        |((try go_simp);go_at_call 10;have _t:=tok1;go_loud (refine(CT (fun j=>j≠b) _ d Z _ HOK.out (by first|exact HR.out.sta.r|exact(HR.out.next (ah _)).sta.r) (by first|exact HR.out.new|exact(HR.out.next (ah _)).new)).mono ?_;rw[HEX.out];rintro e5 w5 ⟨v5,rfl,s5,b5⟩;replace b5:Below wr.heap.size wr w5:=(by first|exact b5|exact aa (ah _) b5);have H5:=Jj (HR.out.next b5);obtain⟨p2,e2,t2,rfl,sq⟩:=s5.s;obtain⟨Ap2,cp2,rfl,-,-,-⟩:=sq.1.1.open_;obtain⟨Ae2,ce2,rfl,-,-,-⟩:=sq.2.1.1.open_;obtain⟨At2,ct2,rfl,-,-,-⟩:=sq.2.2.1.open_;have SQ:=Jj sq;clear sq s5;obtain⟨c0,c1,c2,c3,c4,c5⟩:=H5.out.box.cells;obtain⟨g0,g1,g2,g3,g4,g5⟩:=H5.out.box.frz;have hck:=(b5.cell (by exact HBB.out)).trans hck;clear tok1 b5;(try dsimp only)))
        |fail)
       all_goals
        have HRQ:=Jj (H5.out.put SQ.out);clear c0 c1 c2 c3 c4 c5 g0 g1 g2 g3 g4 g5
        (try clear hck)
        generalize hW6:(((((w5.setCell ⟨b,0,none⟩ (.slice Ap2 q.2.poly.length cp2)).setCell ⟨b,1,none⟩ (.slice Ae2 q.2.eng.length ce2)).setCell ⟨b,2,none⟩ (.slice At2 q.2.tab.length ct2)).setCell ⟨b,3,none⟩ (.int .i64 q.2.rw)).setCell ⟨b,4,none⟩ (.int .i64 q.2.ac)).setCell ⟨b,5,none⟩ (.int .i64 q.2.wi)=w6 at HRQ ⊢;clear hW6;go_wp2;go_roundw
        case rel=>exact⟨k+1,T++q.1,q.2,_,_,_,hlt,by go_num,rfl,HTO.out,HR2.out,HRQ.out⟩
        case measure=>simp[intOf];omega
      ·have HEX:=Jj (show gX d (bef 32 Z) (aft 32 Z)=q from(zL hh).symm.trans HQ2.out);obtain⟨x1,x2,x3⟩:=sF hh;rw[nj hh];obtain⟨m,hm⟩:∃m,(bef 32 Z).size=m:=⟨_,rfl⟩;rw[hm] at x1 x2 x3 ⊢;have hm1:¬(m:Int)<0:=by omega
       have hm2:m≤Z.size:=by omega
       have hm3:m+1≤Z.size:=by omega
       have hm4:(m:Int)≤(Z.size:Int):=by omega
       have hm5:(m:Int)+1≤(Z.size:Int):=by omega
       have hm6:(0:Int)≤(m:Int)+1:=by omega
       have hm7:((m:Int)+1).toNat=m+1:=by omega
       have hm8:IntKind.i64.wrap ((m:Int)+1)=(m:Int)+1:=by rw[IntWalk.i64_in] <;> omega
       have har:(aft 32 Z).size≤1000000:=by omega
       have HWD:=Jj (show ∀(v:Value) (X:World),SxR (fun j=>j≠b) X v d→SxN (fun j=>j≠b) X→Calls prog 11 #[v,.string (Z.extract 0 m),.string (Z.extract (m+1) Z.size)] X (SxQ (fun j=>j≠b) X q) from fun v X h1 h2=>by rw[x1,x2,←HEX.out];exact yh _ v d _ _ X har HOK.out h1 h2);clear hh hm x1 x2 x3 har;have tok1:True:=trivial
       go_wp2_with fail
       go_region_law (first
        |((try go_simp);go_at_call 11;have _t:=tok1;go_loud (refine(HWD.out _ _ (by first|exact HR.out.sta.r|exact(HR.out.next (ah _)).sta.r) (by first|exact HR.out.new|exact(HR.out.next (ah _)).new)).mono ?_;rintro e5 w5 ⟨v5,rfl,s5,b5⟩;replace b5:Below wr.heap.size wr w5:=(by first|exact b5|exact aa (ah _) b5);have H5:=Jj (HR.out.next b5);obtain⟨p2,e2,t2,rfl,sq⟩:=s5.s;obtain⟨Ap2,cp2,rfl,-,-,-⟩:=sq.1.1.open_;obtain⟨Ae2,ce2,rfl,-,-,-⟩:=sq.2.1.1.open_;obtain⟨At2,ct2,rfl,-,-,-⟩:=sq.2.2.1.open_;have SQ:=Jj sq;clear sq s5;obtain⟨c0,c1,c2,c3,c4,c5⟩:=H5.out.box.cells;obtain⟨g0,g1,g2,g3,g4,g5⟩:=H5.out.box.frz;have hck:=(b5.cell (by exact HBB.out)).trans hck;clear tok1 b5;(try dsimp only)))
        |fail)
       all_goals
        have HRQ:=Jj (H5.out.put SQ.out);clear c0 c1 c2 c3 c4 c5 g0 g1 g2 g3 g4 g5
        (try clear hck)
        generalize hW6:(((((w5.setCell ⟨b,0,none⟩ (.slice Ap2 q.2.poly.length cp2)).setCell ⟨b,1,none⟩ (.slice Ae2 q.2.eng.length ce2)).setCell ⟨b,2,none⟩ (.slice At2 q.2.tab.length ct2)).setCell ⟨b,3,none⟩ (.int .i64 q.2.rw)).setCell ⟨b,4,none⟩ (.int .i64 q.2.ac)).setCell ⟨b,5,none⟩ (.int .i64 q.2.wi)=w6 at HRQ ⊢;clear hW6;go_wp2;go_roundw
        case rel=>exact⟨k+1,T++q.1,q.2,_,_,_,hlt,by go_num,rfl,HTO.out,HR2.out,HRQ.out⟩
        case measure=>simp[intOf];omega
   ·obtain rfl:=DT hq;go_wp2;go_roundw
    case rel=>exact⟨k+1,T,d,_,_,_,hlt,by go_num,rfl,hTs,⟨(fu (F:=b9) (d:=d) (k:=k) (T:=T) (r:=ls.drop (k+1))).symm.trans HN.out,HRN.out.2⟩,HR.out⟩
    case measure=>simp[intOf];omega
  ·have hke:k=ls.length:=by omega
   subst hke;have HE:=Jj (show T=out from by
    have h5:=HRN.out.1;rw[List.drop_length] at h5;exact h5)
   go_wp2;go_ret;exact⟨by rw[HLS.out,HOUT.out,←HE.out];rfl,HR.out.bel⟩
theorem si (t:ByteArray) (w:World) (hs:20000<t.size):Calls prog 5 #[.string t] w fun e w'=>e=.returned (.string Ar)∧Below w.heap.size w w':=by
 have h1:(20000:Int)<(t.size:Int):=by omega
 go_enter func5,ntmps5
 go_wp2;go_ret;exact⟨rfl,Below.refl _ _⟩
theorem nw (t:ByteArray) (w:World):Calls prog 5 #[.string t] w fun e w'=>e=.returned (.string (fT b9 t))∧Below w.heap.size w w':=by
 unfold fT;by_cases h:20000<t.size
 ·rw[if_pos h];exact si t w h
 ·rw[if_neg h];exact sf t w (by omega)
theorem Is (t:ByteArray) (w:World) (ht:t.size≤9223372036854775807) (hg:GlbC w):
  Calls prog 3 #[.string t] w fun e w'=>e=.returned (.bool true)∧Below w.heap.size w w':=by
 have HG:=Jj hg;clear hg
 go_enter func3,ntmps3
 by_cases hbig:(1048576:Int)<(t.size:Int)
 ·go_wp2;go_ret;exact⟨rfl,Below.refl _ _⟩
 ·obtain⟨out,ho⟩:∃out,fT b9 t=out:=⟨_,rfl⟩;have HO:=Jj ho;clear ho
  go_wp2_with fail
  refine(nw t _).mono ?_;rw[HO.out];rintro e w1 ⟨rfl,b1⟩;have B1:=Jj b1;clear b1
  go_wp2_with fail
  refine(ku t _ (HG.out.bel B1.out)).mono ?_;rw[HO.out];rintro e w2 ⟨rfl,b2⟩;have B2:=Jj (aa B1.out b2);clear b2;go_wp2;go_ret;exact⟨rfl,B2.out⟩
theorem Fo (F S:ByteArray):(F++S).extract 0 F.size=F∧F.size≤(F++S).size:=by
 refine⟨?_,by rw[Jt];omega⟩
 apply ByteArray.ext
 apply Array.toList_inj.1
 have h0:∀(X:ByteArray) (n:Nat),(X.extract 0 n).data.toList=X.data.toList.take n:=by intro X n;simp
 have h2:(F++S).data.toList=F.data.toList++S.data.toList:=by simp
 rw[h0,h2];exact List.take_left' rfl
theorem lawScriptPrefix (v:Value) (code:List Int) (u:Value) (more:List Int) (w:World) (hv:Bytes w v code) (hu:Bytes w u more) (hg:GlbC w):
  Calls prog 4 #[v,u] w fun e w'=>e=.returned (.bool true)∧Below w.heap.size w w':=by
 have HV:=Jj hv;have HG:=Jj hg;obtain⟨A_c,c_c,rfl,-,hc1,-⟩:=hv.open_;obtain⟨A_m,c_m,rfl,-,hc2,-⟩:=hu.open_;clear hv hg hu
 go_enter func4,ntmps4
 by_cases hbig:(1048576:Int)<(code.length:Int)
 ·go_wp2;go_ret;exact⟨rfl,Below.refl _ _⟩
 ·by_cases hbig2:(1048576:Int)<(more.length:Int)
  ·go_wp2;go_ret;exact⟨rfl,Below.refl _ _⟩
  ·go_wp2_with fail
   refine(sK _ code _ HV.out).mono ?_;rintro e w1 ⟨T,rfl,hT,b1⟩;have HB:=Jj b1;clear b1 HV;obtain⟨O,hO⟩:∃O,fT b9 T=O:=⟨_,rfl⟩;have HO:=Jj hO;clear hO
   go_wp2_with fail
   refine(ku T _ (HG.out.bel HB.out)).mono ?_;rw[HO.out];rintro e w2 ⟨rfl,b⟩;replace HB:=Jj (aa HB.out b);clear b
   go_wp2_with fail
   refine(nw T _).mono ?_;rw[HO.out];rintro e w3 ⟨rfl,b⟩;replace HB:=Jj (aa HB.out b);clear b;obtain⟨r,hr⟩:∃r,r=more.length % 12:=⟨_,rfl⟩;have r1:(more.length:Int).tmod 12=(r:Int):=by rw[hr,Int.tmod_eq_emod_of_nonneg (by omega)];omega
   have r2:r<12:=by omega
   have r3:IntKind.i64.wrap (r:Int)=(r:Int):=by rw[IntWalk.i64_in] <;> omega
   have HMR:=Jj hr;clear hr
   go_wp2_with fail
   go_loopw [7,8,9] (fun a c i wr=>∃n p k:Nat,k≤T.size∧i=.int .i64 k∧a=.int .i64 n∧n≤k∧c=.int .i64 p∧p≤k∧FX T p∧Below w.heap.size w wr) (fun _ _ i _=>T.size-(intOf i).toNat)
   case atStart=>exact⟨0,0,0,Jy _,rfl,rfl,Jr _,rfl,Jr _,.inl rfl,HB.out⟩
   case round=>
    obtain⟨n,p,k,hk,rfl,rfl,hn,rfl,hp,hcp,hbw⟩:=hrel;have HC:=Jj hcp;clear HB;have HB:=Jj hbw;clear hcp hbw;by_cases hlt:k<T.size
    ·have hki:(k:Int)<(T.size:Int):=by omega
     cases hq:((T[k].toNat:Int)==10)
     ·go_wp2;go_roundw
      case rel=>exact⟨n,p,k+1,hlt,by go_num,rfl,by omega,rfl,by omega,HC.out,HB.out⟩
      case measure=>simp[intOf];omega
     ·have HQ:=Jj (show T.data.toList[k]?=some 10 by
       have e:(T[k].toNat:Int)=10:=(by simpa using hq);have e2:T[k]=10:=UInt8.toNat_inj.1 (by show T[k].toNat=10;omega);rw[List.getElem?_eq_getElem (by simpa using hlt)];exact congrArg some e2)
      by_cases hl:n+1≤1+r
      ·have hl1:(n:Int)+1≤1+(r:Int):=by omega
       go_wp2;go_roundw
       case rel=>exact⟨n+1,k+1,k+1,hlt,by go_num,by go_num,by omega,by go_num,by omega,.inr ⟨k,rfl,HQ.out⟩,HB.out⟩
       case measure=>simp[intOf];omega
      ·have hl1:¬(n:Int)+1≤1+(r:Int):=by omega
       go_wp2;go_roundw
       case rel=>exact⟨n+1,p,k+1,hlt,by go_num,by go_num,by omega,rfl,by omega,HC.out,HB.out⟩
       case measure=>simp[intOf];omega
    ·have hki:¬(k:Int)<(T.size:Int):=by omega
     have hp0:(0:Int)≤(p:Int):=by omega
     have hp1:(p:Int)≤(T.size:Int):=by omega
     obtain⟨F,hF⟩:∃F,fT b9 (T.extract 0 p)=F:=⟨_,rfl⟩;have HF:=Jj hF;clear hF
     go_wp2_with fail
     refine(ku (T.extract 0 p) _ (HG.out.bel HB.out)).mono ?_;rw[HF.out];rintro e w4 ⟨rfl,b⟩;replace HB:=Jj (aa HB.out b);clear b;by_cases h2:20000<T.size
     ·have h2i:(20000:Int)<(T.size:Int):=by omega
      go_wp2;go_ret;exact⟨rfl,HB.out⟩
     ·have h2i:¬(20000:Int)<(T.size:Int):=by omega
      obtain⟨S,hS⟩:=yt b9 HC.out (by omega);rw[HO.out,HF.out] at hS;obtain⟨x1,x2⟩:=Fo F S;rw[←hS] at x1 x2;have x3:(F.size:Int)≤(O.size:Int):=by omega
      have x4:(0:Int)≤(F.size:Int):=by omega
      clear hS;go_wp2;go_ret;exact⟨rfl,HB.out⟩
end Go.Proofs.YtfmjklgfpiffbaaGreatDoor
