/-
  Parts of the proof of one statement, merged: EsTd EsEn EsXp EsX EsXb EsXc.
-/
import Derived.Test.YtfmjklgfpiffbaaGreatDoorR37
namespace Go.Proofs.YtfmjklgfpiffbaaGreatDoor
open Go.RowKit Go.Proofs.Tryz
set_option linter.unusedVariables false
set_option linter.unusedSimpArgs false
set_option maxRecDepth 100000
set_option maxHeartbeats 8000000
attribute [local go_sem ↓] Go.wp_at_zero Go.wp_at_succ
theorem Bi {w:World} {base base2:Nat} {v u:Value} {es:List Etm} {l:List ByteArray} (hv:EtO w base v es) (hu:aj w base2 u l):∀k,u.ownBlock=some k→v.ownBlock≠some k:=by
 intro k hk e
 rcases hv.1.2 with ⟨rfl,-⟩|⟨g,cap,cur,rfl,-,hh,-⟩
 ·cases e
 ·injection e with e;subst e
  rcases hu.1.2 with ⟨rfl,-⟩|⟨g2,cap2,cur2,rfl,-,hh2,-⟩
  ·cases hk
  ·injection hk with hk;subst hk;rw[hh] at hh2;injection hh2 with hh2;injection hh2 with _ hh2;exact absurd hh2 (by decide)
theorem yD {w:World} {base base2:Nat} {v u:Value} {es:List Int} {l:List ByteArray} (hv:Own w base v es) (hu:aj w base2 u l):∀k,u.ownBlock=some k→v.ownBlock≠some k:=by
 intro k hk e
 rcases hv.1.2 with ⟨rfl,-⟩|⟨g,cap,cur,rfl,-,hh,-⟩
 ·cases e
 ·injection e with e;subst e
  rcases hu.1.2 with ⟨rfl,-⟩|⟨g2,cap2,cur2,rfl,-,hh2,-⟩
  ·cases hk
  ·injection hk with hk;subst hk;rw[hh] at hh2;injection hh2 with hh2;injection hh2 with _ hh2;exact absurd hh2 (by decide)
theorem Fx {ls:List ByteArray} {k:Nat} (h:k<ls.length):ls.take (k+1)=ls.take k++[sat ls k]:=by
 rw[List.take_add_one,List.getElem?_eq_getElem h];unfold sat;simp[List.getD,h]
theorem Ic {ls:List ByteArray} {k:Nat} (h:k<ls.length) (hq:etT (sat ls k)=false):fq ls=false:=by
 unfold fq;rw[List.all_eq_false];exact⟨sat ls k,cJ ls k h,by rw[hq];simp⟩
theorem Ib {ls:List ByteArray} (h:∀j,j<ls.length→etT (sat ls j)=true):fq ls=true:=by
 unfold fq;rw[List.all_eq_true];intro x hx;obtain⟨j,hj,rfl⟩:=List.getElem_of_mem hx;have:=h j hj;unfold sat at this;simpa[List.getD,hj] using this
theorem I5 {t:ByteArray} (h:fq (aq 59 t)=true):t≠⟨#[]⟩:=by
 rintro rfl;exact absurd h (by decide)
theorem AV (t:ByteArray) (w:World) (ht:t.size≤1048575):
  Calls prog 45 #[.string t] w (EtQ w (peL t) (iP t)):=by
 have O0:=Jj (EtO.empty w w.heap.size (Jr _));have B0:=Jj (ab w (.cells #[] 111))
 go_enter func45,ntmps45
 by_cases h45:t=⟨#[45]⟩
 ·subst h45;have hp:iP ⟨#[45]⟩=true∧peL ⟨#[45]⟩=[]:=⟨by unfold iP;simp,by unfold peL;simp⟩;have HP:=Jj hp;clear hp;go_wp2;go_ret2;exact⟨_,by rw[HP.out.1];rfl,by rw[HP.out.2];exact O0.out,B0.out⟩
 ·have H45:=Jj h45;have z1:(t.toList==[45])=false:=by
   have:=gD h45;rw[show(⟨#[45]⟩:ByteArray).toList=[45] from by simp] at this;simpa using this
  clear h45
  go_wp2_with fail
  refine(ip t 59 _ (by omega)).mono ?_;rintro e w2 ⟨r,rfl,o,b⟩;have HO:=Jj (O0.out.bel b);have HB:=Jj (aa B0.out b);have HP:=Jj o;have hcl:=ff 59 t;have hc1:=IE t;obtain⟨ls,hls⟩:∃ls,aq 59 t=ls:=⟨_,rfl⟩;have HLS:=Jj hls;rw[hls] at HP hcl hc1;obtain⟨A,c,rfl,hlc,-,-⟩:=HP.out.strs.open_;have hz0:=HP.out.strs;clear O0 B0 o b hls hz0
  go_wp2_with fail
  go_loopw [4,6] (fun v i wr=>∃k:Nat,k≤ls.length∧k≤61∧i=.int .i64 k∧(∀j,j<k→etT (sat ls j)=true)∧EtO wr w.heap.size v ((ls.take k).map etV)∧aj wr (w.heap.size+1) (.slice A ls.length c) ls∧Below w.heap.size w wr) (fun _ i _=>61-(intOf i).toNat)
  case atStart=>exact⟨0,Jy _,Jy _,rfl,fun j hj=>absurd hj (Nat.not_lt_zero _),HO.out,by simpa using HP.out,HB.out⟩
  case round=>
   obtain⟨k,hk,hk61,rfl,hok,hO,hb,hB⟩:=hrel;have H:=Jj (Jq hok (Jq hO (Jq hb hB)));have hz:=hB.size;have hlm:((ls.take k).map etV).length=k:=by rw[List.length_map,List.length_take];omega
   clear hok hO hb hB HO;by_cases hkn:k<ls.length
   ·have hki:(k:Int)<(ls.length:Int):=by omega
    by_cases hk60:k≤60
    ·have hk6:(k:Int)≤60:=by omega
     obtain⟨A6,c6,e6,-,-,hrd⟩:=H.out.2.2.1.strs.open_;cases e6;obtain⟨b,o,rfl,hbb,hcell⟩:=hrd.strs (Nat.lt_of_le_of_lt (Jy _) hkn);have hck:=hcell k hkn;have hss:(sat ls k).size≤1048576:=Js (cT (c:=59) (s:=t) (by rw[HLS.out];exact cJ ls k hkn)) (by omega);have HBAD:=Jj (fun h=>Ic hkn h);have HOK:=Jj (fun h=>cS H.out.1 (show(fun j=>etT (sat ls j)=true) k from h));have HTK:=Jj (show(ls.take (k+1)).map etV=(ls.take k).map etV++[etV (sat ls k)] by rw[Fx hkn,List.map_append];rfl);obtain⟨es,hes⟩:∃es,(ls.take k).map etV=es:=⟨_,rfl⟩;have HO:=Jj (show EtO wr w.heap.size _ es by rw[←hes];exact H.out.2.1);rw[hes] at hlm HTK;obtain⟨Z,hZ⟩:∃Z,sat ls k=Z:=⟨_,rfl⟩;rw[hZ] at hck hss HBAD HOK HTK;clear hcell hrd hes hZ
     go_wp2_with fail
     refine(E4 Z _ hss).mono ?_;rintro e w3 ⟨x1,x2,x3,rfl,hv3,hin,b3⟩;have B3:=Jj (aa H.out.2.2.2 b3);have HIN:=Jj hin;have HV3:=Jj hv3;have HO3:=Jj (HO.out.bel b3);have HP3:=Jj (H.out.2.2.1.bel b3);have hz3:=B3.out.size;clear b3 hin hv3;cases hq:etT Z
     ·have HZ:=Jj (rN (t:=t) H45.out (.inl (by rw[HLS.out];exact HBAD.out hq)));have EME:=Jj (EtO.empty (w3.alloc (.cells #[.int .i64 x1,.int .i64 x2,.int .i64 x3] 111)) w.heap.size (by simp;omega));rw[JD] at EME;clear hq;go_wp2;go_ret2;exact⟨_,by rw[HZ.out.1];rfl,by rw[HZ.out.2];exact EME.out,by first|exact aa (aa B3.out (ab _ _)) (ab _ _)|exact aa B3.out (ab _ _)⟩
     ·have HQ:=Jj (HOK.out hq);have HVZ:=Jj (HV3.out hq);have b4:Below w3.heap.size w3 (w3.alloc (.cells #[.int .i64 x1,.int .i64 x2,.int .i64 x3] 111)):=ab _ _;have K4:=Blk.new w3 111 [.int .i64 x1,.int .i64 x2,.int .i64 x3];obtain⟨t0,t1,t2⟩:=K4.three;have B4:=Jj (aa B3.out b4);have HO4:=Jj (HO3.out.bel b4);have HP4:=Jj (HP3.out.bel b4);clear hq b4 K4;have Q1:=HO4.out.bel (ab (w3.alloc (.cells #[.int .i64 x1,.int .i64 x2,.int .i64 x3] 111)) (.cells #[.int .i64 x1,.int .i64 x2,.int .i64 x3] 111));have Q2:Blk ((w3.alloc (.cells #[.int .i64 x1,.int .i64 x2,.int .i64 x3] 111)).alloc (.cells #[.int .i64 x1,.int .i64 x2,.int .i64 x3] 111)) (w3.heap.size+1) 111 [.int .i64 x1,.int .i64 x2,.int .i64 x3]:=Blk.newG _ _ [.int .i64 x1,.int .i64 x2,.int .i64 x3] _ (by simp);have Q3:es.length+1≤1048576:=by omega
      have Q4:w.heap.size≤((w3.alloc (.cells #[.int .i64 x1,.int .i64 x2,.int .i64 x3] 111)).alloc (.cells #[.int .i64 x1,.int .i64 x2,.int .i64 x3] 111)).heap.size:=by simp;omega
      have Q5:=aa B4.out (ab (w3.alloc (.cells #[.int .i64 x1,.int .i64 x2,.int .i64 x3] 111)) (.cells #[.int .i64 x1,.int .i64 x2,.int .i64 x3] 111));have Q6:=HP4.out.bel (ab (w3.alloc (.cells #[.int .i64 x1,.int .i64 x2,.int .i64 x3] 111)) (.cells #[.int .i64 x1,.int .i64 x2,.int .i64 x3] 111));have Q7:=Jj (Jq Q1 (Jq Q2 (Jq Q3 (Jq Q4 (Jq Q5 Q6)))));clear Q1 Q2 Q3 Q4 Q5 Q6
      go_wp2_with (at_builtin;go_loud (refine Hq rfl (.tmp 36) (.tmp 38) (by rfl) w.heap.size _ es (by rfl) (by exact Q7.out.1) _ _ (x1,x2,x3) (by rfl) (by exact Q7.out.2.1) HIN.out Q7.out.2.2.1 Q7.out.2.2.2.1 ?_;intro v6 w6 ho6 hg6 hat6;have B6:=Jj (kc Q7.out.2.2.2.2.1 Q7.out.1 hg6);have P6:=Jj (Q7.out.2.2.2.2.2.apart hg6 (Bi Q7.out.1 Q7.out.2.2.2.2.2));have O6:=Jj ho6;clear ho6 hg6 hat6))
      go_roundw
      case rel=>exact⟨k+1,hkn,by omega,by go_num,HQ.out,by rw[HTK.out,←HVZ.out];exact O6.out,P6.out,B6.out⟩
      case measure=>simp[intOf];omega
    ·obtain rfl:k=61:=by omega
     have hl61:61<ls.length:=hkn;have HES:=Jj (show dz ((ls.take 61).map etV)=false by
      rw[Bool.eq_false_iff];intro h;have:=ni h;omega)
     have HES2:=Jj (show dz (ls.map etV)=false by
      rw[Bool.eq_false_iff];intro h;have:=ni h;rw[List.length_map] at this;omega)
     have HZ:=Jj (rN (t:=t) H45.out (.inr (by rw[HLS.out];exact HES2.out)));obtain⟨es,hes⟩:∃es,(ls.take 61).map etV=es:=⟨_,rfl⟩;have HO:=Jj (show EtO wr w.heap.size _ es by rw[←hes];exact H.out.2.1);rw[hes] at HES hlm;clear hes;by_cases hte:t=⟨#[]⟩
     ·exact absurd (show(61:Nat)<ls.length from hl61) (by rw[←HLS.out,hte];decide)
     ·have hte2:(t.toList==[])=false:=by
       have:=gD hte;rw[show(⟨#[]⟩:ByteArray).toList=[] from by simp] at this;simpa using this
      have hte3:t.toList.isEmpty=false:=by
       cases hc:t.toList with
       |nil=>rw[hc] at hte2;simp at hte2
       |cons a r=>rfl
      have hte4:=gD (x:=⟨#[]⟩) (y:=t) (fun e=>hte e.symm);clear hte
      go_wp2_with fail
      refine(ld _ es _ HO.out.read (by omega)).mono ?_;rintro e w5 ⟨rfl,b5⟩;rw[show cm es=⟨#[]⟩ by simp[cm,HES.out]];have B5:=Jj (aa H.out.2.2.2 b5);have hz5:=B5.out.size;clear b5;go_wp2;go_ret2;exact⟨_,by rw[HZ.out.1];rfl,by rw[HZ.out.2];exact EtO.empty _ _ hz5,aa B5.out (ab _ _)⟩
   ·obtain rfl:k=ls.length:=by omega
    have HPA:=Jj (show fq (aq 59 t)=true by rw[HLS.out];exact Ib H.out.1);have HTX:=Jj (EN HPA.out);have hki:¬(ls.length:Int)<(ls.length:Int):=by omega
    rw[List.take_length] at hlm;obtain⟨es,hes⟩:∃es,ls.map etV=es:=⟨_,rfl⟩;have HES:=Jj hes;have HO:=Jj (show EtO wr w.heap.size _ es by rw[←hes];have:=H.out.2.1;rwa[List.take_length] at this);rw[hes] at hlm;clear hes;cases hq:dz es
    ·have HZ:=Jj (rN (t:=t) H45.out (.inr (by rw[HLS.out,HES.out];exact hq)));have HS:=Jj (show cm es=⟨#[]⟩ by simp[cm,hq]);have hte:=I5 HPA.out;have hte2:(t.toList==[])=false:=by
      have:=gD hte;rw[show(⟨#[]⟩:ByteArray).toList=[] from by simp] at this;simpa using this
     have hte3:t.toList.isEmpty=false:=by
      cases hc:t.toList with
      |nil=>rw[hc] at hte2;simp at hte2
      |cons a r=>rfl
     have hte4:=gD (x:=⟨#[]⟩) (y:=t) (fun e=>hte e.symm);clear hq hte
     go_wp2_with fail
     refine(ld _ es _ HO.out.read (by omega)).mono ?_;rintro e w5 ⟨rfl,b5⟩;rw[HS.out];have B5:=Jj (aa H.out.2.2.2 b5);have hz5:=B5.out.size;clear b5;go_wp2;go_ret2;exact⟨_,by rw[HZ.out.1];rfl,by rw[HZ.out.2];exact EtO.empty _ _ hz5,aa B5.out (ab _ _)⟩
    ·have HZ:=Jj (Dj (t:=t) H45.out HPA.out (by rw[HLS.out,HES.out];exact hq));have HS:=Jj (show cm es=t by
      rw[←HTX.out,HLS.out,HES.out,cm,if_pos hq,if_neg];intro e;have h0:es.length=0:=by rw[e];rfl
      omega)
     clear hq
     go_wp2_with fail
     refine(ld _ es _ HO.out.read (by omega)).mono ?_;rintro e w5 ⟨rfl,b5⟩;rw[HS.out];have O5:=Jj (HO.out.bel b5);have B5:=Jj (aa H.out.2.2.2 b5);clear b5;go_wp2;go_ret2;exact⟨_,by rw[HZ.out.1];rfl,by rw[HZ.out.2,HLS.out,HES.out];exact O5.out,B5.out⟩
def fD (s:ByteArray):Int:=if bI s=12 then -1 else at_ bT (bI s)
theorem tD:cN=df:=rfl
theorem Ca {s:ByteArray} (h:s∉df):bI s=12:=by
 obtain⟨c1,c2,c3⟩:=jq s
 rcases Nat.lt_or_ge (bI s) 12 with hj|hj
 ·exact absurd (by rw[←tD,←c3 hj];exact cJ cN _ hj) h
 ·omega
theorem Cb {s:ByteArray} (h:bI s<12):s∈df:=by
 rw[←tD,←(jq s).2.2 h];exact cJ cN _ h
theorem lY (s:ByteArray) (w:World):
  Calls prog 48 #[.string s] w fun e w'=>e=.returned (.int .i64 (fD s))∧w=w':=by
 by_cases h:s∈df
 ·simp only[df,Jz,JA,or_false] at h
  rcases h with rfl|rfl|rfl|rfl|rfl|rfl|rfl|rfl|rfl|rfl|rfl|rfl
  all_goals
   first|rw[show fD eU=2 by decide]|rw[show fD eV=1 by decide]|rw[show fD dT=2 by decide]|rw[show fD jp=1 by decide]|rw[show fD gn=4 by decide]|rw[show fD dt=1 by decide]|rw[show fD eT=2 by decide]|rw[show fD dS=3 by decide]|rw[show fD gk=1 by decide]|rw[show fD gl=1 by decide]|rw[show fD eS=3 by decide]|rw[show fD eW=1 by decide]
   first|unfold eU|unfold eV|unfold dT|unfold jp|unfold gn|unfold dt|unfold eT|unfold dS|unfold gk|unfold gl|unfold eS|unfold eW
   go_enter func48,ntmps48
   go_wp2;go_ret;exact⟨rfl,rfl⟩
 ·have HZ:=Jj (show fD s = -1 by unfold fD;rw[if_pos (Ca h)]);simp only[df,Jz,JA,or_false,not_or] at h;obtain⟨h1,h2,h3,h4,h5,h6,h7,h8,h9,h10,h11,h12⟩:=h;replace h1:=bB (l:=[115,101,116,117,112]) h1;replace h2:=bB (l:=[116,117,114,110,115]) h2;replace h3:=bB (l:=[118,97,108,117,101,115]) h3;replace h4:=bB (l:=[114,117,110]) h4;replace h5:=bB (l:=[115,108,105,112]) h5;replace h6:=bB (l:=[99,111,114,114,101,99,116]) h6;replace h7:=bB (l:=[114,111,117,110,100]) h7;replace h8:=bB (l:=[108,97,121,111,117,116]) h8;replace h9:=bB (l:=[102,105,110,100]) h9;replace h10:=bB (l:=[112,108,97,110]) h10;replace h11:=bB (l:=[99,104,101,97,112]) h11;replace h12:=bB (l:=[115,117,109,115]) h12
  go_enter func48,ntmps48
  go_wp2;go_ret;exact⟨by rw[HZ.out];rfl,rfl⟩
def enT (t:ByteArray):Bool:=sB ((aq 32 t).take 61)
def enL (t:ByteArray):List Int:=if enT t=true then aN (aq 32 t) 61 else[]
def enK (t:ByteArray):Bool:=ag (enL t)
theorem vA {t:ByteArray} (h:enT t=false):enL t=[]∧enK t=false:=by
 have:enL t=[]:=by unfold enL;rw[h];rfl
 exact⟨this,by unfold enK;rw[this];rfl⟩
theorem Gu (t:ByteArray):(enL t).length≤61:=by
 unfold enL
 split
 ·unfold aN;rw[List.length_map,List.length_take];omega
 ·simp
theorem Co (t:ByteArray):enK t=(aE t&&ag (bg t)):=by
 rcases Nat.lt_or_ge 60 (aq 32 t).length with h|h
 ·have e1:ag (bg t)=false:=by
   rw[Bool.eq_false_iff];intro h2;have:=(aA h2).2.1;unfold bg at this;rw[List.length_map] at this;omega
  rw[e1,Bool.and_false];cases hq:enT t
  ·exact(vA hq).2
  ·unfold enK;rw[Bool.eq_false_iff];intro h2;have:=(aA h2).2.1;unfold enL at this;rw[if_pos hq] at this;unfold aN at this;rw[List.length_map,List.length_take] at this;omega
 ·have e:(aq 32 t).take 61=aq 32 t:=List.take_of_length_le (by omega);have e2:enT t=aE t:=by unfold enT aE;rw[e]
  cases hq:enT t
  ·rw[(vA hq).2,←e2,hq];rfl
  ·rw[←e2,hq,Bool.true_and];unfold enK enL aN bg;rw[if_pos hq,e]
theorem Gt {t:ByteArray} (h:enK t=true):aE t=true∧enL t=bg t:=by
 have h2:=h;rw[Co,JB] at h2;refine⟨h2.1,?_⟩;have h3:=(aA h2.2).2.1;unfold bg at h3;rw[List.length_map] at h3;have e:(aq 32 t).take 61=aq 32 t:=List.take_of_length_le (by omega);have e2:enT t=true:=by unfold enT;rw[e];exact h2.1
 unfold enL aN bg;rw[if_pos e2,e]
theorem Db {ls:List ByteArray} {k:Nat} (h:qQ ls k):sB (ls.take k)=true:=by
 apply List.all_eq_true.2
 intro x hx;obtain⟨j,hj,rfl⟩:=List.getElem_of_mem hx;rw[List.length_take] at hj;rw[List.getElem_take,←bV ls j (by omega)];exact h j (by omega)
theorem GR {ls:List ByteArray} {k:Nat} (hk:k<ls.length) (h61:k<61) (h:(bn (sat ls k)).isSome=false):sB (ls.take 61)=false:=by
 rw[Bool.eq_false_iff];intro h2;have:=List.all_eq_true.1 h2 (sat ls k) (by
  rw[bV ls k hk];exact List.mem_iff_getElem.2 ⟨k,by rw[List.length_take];omega,by rw[List.getElem_take]⟩)
 rw[h] at this;cases this
theorem oJ (t:ByteArray) (w:World) (ht:t.size≤1048576):
  Calls prog 41 #[.string t] w (cK w (enL t) (enK t)):=by
 have O0:=Own.empty w w.heap.size (Jr _);have B0:=ab w (.cells #[] 3)
 go_enter func41,ntmps41
 go_wp2_with fail
 refine(ip t 32 _ ht).mono ?_;rintro e w2 ⟨r,rfl,o,b⟩;have HO:=Jj (O0.bel b);have HB:=Jj (aa B0 b);have HP:=Jj o;have hcl:=ff 32 t;obtain⟨ls,hls⟩:∃ls,aq 32 t=ls:=⟨_,rfl⟩;have HLS:=Jj hls;rw[hls] at HP hcl;obtain⟨A,c,rfl,hlc,-,-⟩:=HP.out.strs.open_;clear O0 B0 o b hls
 go_wp2_with fail
 go_loopw [4,6] (fun v i wr=>∃k:Nat,k≤ls.length∧k≤61∧i=.int .i64 k∧qQ ls k∧Own wr w.heap.size v (aN ls k)∧aj wr (w.heap.size+1) (.slice A ls.length c) ls∧Below w.heap.size w wr) (fun _ i _=>61-(intOf i).toNat)
 case atStart=>exact⟨0,Jy _,Jy _,rfl,fun j hj=>absurd hj (Nat.not_lt_zero _),HO.out,by simpa using HP.out,HB.out⟩
 case round=>
  obtain⟨k,hk,hk61,rfl,hok,hO,hb,hB⟩:=hrel;have H:=Jj (Jq hok (Jq hO (Jq hb hB)));have hz:=hB.size;have hlT:=lH (l:=ls) (k:=k) hk;clear hok hO hb hB HO;by_cases hgo:k<ls.length∧k≤60
  ·obtain⟨hkn,hk60⟩:=hgo;have hki:(k:Int)<(ls.length:Int):=by omega
   have hk6:(k:Int)≤60:=by omega
   obtain⟨A6,c6,e6,-,-,hrd⟩:=H.out.2.2.1.strs.open_;cases e6;obtain⟨b,o,rfl,hbb,hcell⟩:=hrd.strs (Nat.lt_of_le_of_lt (Jy _) hkn);have hck:=hcell k hkn;have hss:(sat ls k).size≤1048576:=Js (cT (c:=32) (s:=t) (by rw[HLS.out];exact cJ ls k hkn)) ht;have hbd:=fM (sat ls k);have HTS:=Jj (mI hkn);have HNO:=Jj (fun h=>GR hkn (by omega) h);have HOS:=Jj (fun hq=>py H.out.1 hq);obtain⟨L,hL⟩:∃L,aN ls k=L:=⟨_,rfl⟩;have HO:=Jj (show Own wr w.heap.size _ L by rw[←hL];exact H.out.2.1);obtain⟨Z,hZ⟩:∃Z,sat ls k=Z:=⟨_,rfl⟩;rw[hZ] at hck hss hbd HTS HNO HOS;rw[hL] at hlT HTS;clear hcell hrd hL hZ
   go_wp2_with fail
   refine(js Z _ hss).mono ?_;rintro e w3 ⟨he,rfl⟩;unfold cV at he;subst he;obtain⟨z,hz2⟩:∃z,cA Z=z:=⟨_,rfl⟩;rw[hz2] at HTS hbd;rw[hz2];cases hq:(bn Z).isSome
   ·have HZ:=Jj (vA (t:=t) (by unfold enT;rw[HLS.out];exact HNO.out hq));clear hz2;go_wp2;go_ret2;exact⟨_,by rw[HZ.out.2];rfl,by rw[HZ.out.1];exact Own.empty _ _ hz,aa H.out.2.2.2 (ab _ _)⟩
   ·have HQ:=Jj (HOS.out hq);clear hz2;have Q1:=HO.out.bel (ab w3 (.cells #[.int .i64 z] 3));have Q5:=aa H.out.2.2.2 (ab w3 (.cells #[.int .i64 z] 3));have Q6:=H.out.2.2.1.bel (ab w3 (.cells #[.int .i64 z] 3));have Q7:=Jj (Jq Q1 (Jq Q5 Q6));clear Q1 Q5 Q6
    go_wp2_with (at_builtin;go_must (refine du rfl (.tmp 33) (.tmp 35) (by rfl) w.heap.size _ L (by rfl) (by exact Q7.out.1) _ _ z (by rfl) (by exact bh _ _ _) (by omega) (by omega) (by simp;omega) ?_;intro v6 w6 ho6 hg6 hat6;have B6:=Jj (dN Q7.out.2.1 Q7.out.1 hg6);have P6:=Jj (Q7.out.2.2.apart hg6 (yD Q7.out.1 Q7.out.2.2));have O6:=Jj ho6;clear ho6 hg6 hat6))
    go_roundw
    case rel=>exact⟨k+1,hkn,by omega,by go_num,HQ.out,by rw[HTS.out];exact O6.out,P6.out,B6.out⟩
    case measure=>simp[intOf];omega
  ·have HE:=Jj (show aN ls k=enL t∧ag (aN ls k)=enK t by
    have e1:ls.take k=ls.take 61:=by
     rcases Nat.lt_or_ge k ls.length with h|h
     ·obtain rfl:k=61:=by omega
      rfl
     ·rw[List.take_of_length_le h,List.take_of_length_le (by omega)]
    have e2:enT t=true:=by unfold enT;rw[HLS.out,←e1];exact Db H.out.1
    have e3:aN ls k=enL t:=by unfold enL;rw[if_pos e2,HLS.out];unfold aN;rw[e1]
    exact⟨e3,by unfold enK;rw[e3]⟩)
   clear hlT;have HO:=Jj (show Own wr w.heap.size _ (enL t) by rw[←HE.out.1];exact H.out.2.1)
   rcases Nat.lt_or_ge k ls.length with hkl|hkl
   ·obtain rfl:k=61:=by omega
    have hki:(61:Int)<(ls.length:Int):=by omega
    obtain⟨Av,cv,rfl,-,-,-⟩:=HO.out.ints.open_;clear hgo
    go_wp2_with fail
    refine(az _ _ _ HO.out.ints).mono ?_;rintro e w5 ⟨rfl,rfl⟩;go_wp2;go_ret2;exact⟨_,rfl,HO.out,H.out.2.2.2⟩
   ·obtain rfl:k=ls.length:=by omega
    have hki:¬(ls.length:Int)<(ls.length:Int):=by omega
    obtain⟨Av,cv,rfl,-,-,-⟩:=HO.out.ints.open_;clear hgo
    go_wp2_with fail
    refine(az _ _ _ HO.out.ints).mono ?_;rintro e w5 ⟨rfl,rfl⟩;go_wp2;go_ret2;exact⟨_,rfl,HO.out,H.out.2.2.2⟩
end Go.Proofs.YtfmjklgfpiffbaaGreatDoor
namespace Go.Proofs.YtfmjklgfpiffbaaGreatDoor
open Go.RowKit Go.Proofs.Tryz
set_option linter.unusedVariables false
set_option linter.unusedSimpArgs false
set_option maxRecDepth 100000
set_option maxHeartbeats 8000000
theorem FY {t:ByteArray} (h:enK t=false):(aE t&&ag (spL t))=false:=by
 rw[Co] at h;cases hq:aE t
 ·rfl
 ·rw[dI hq];rw[hq] at h;exact h
theorem Cp {t:ByteArray} (h:enK t=true):aE t=true∧spL t=enL t:=by
 obtain⟨h1,h2⟩:=Gt h;exact⟨h1,by rw[dI h1,h2]⟩
theorem IR (d:ae) (t:ByteArray):(ak (aw (spL t)) (aE t&&ag (spL t)),aR d (spL t) (aE t))=(ak (aw (enL t)) (enK t&&ag (enL t)),aR d (enL t) (enK t)):=by
 cases h:enK t
 ·have hn:=FY h;unfold aR;rw[hn]
  rfl
 ·obtain⟨h1,h2⟩:=Cp h;rw[h1,h2]
theorem Cs (d:ae) (t:ByteArray):ak (cm (cl (spL t) d.tab)) (aE t&&bt (spL t) d.tab)=ak (cm (cl (enL t) d.tab)) (enK t&&bt (enL t) d.tab):=by
 cases h:enK t
 ·have hn:=FY h;have he:(aE t&&bt (spL t) d.tab)=false:=by
   unfold bt;cases hq:aE t
   ·rfl
   ·rw[hq,Bool.true_and] at hn;rw[hn]
    rfl
  rw[he]
  rfl
 ·obtain⟨h1,h2⟩:=Cp h;rw[h1,h2]
theorem tR (k:Bool) (s:ByteArray) (w:World) (hs:s.size≤1000000000):
  Calls prog 29 #[.bool k,.string s,.string ⟨#[110,111]⟩] w fun e w'=>e=.returned (.string (ak s k))∧Below w.heap.size w w':=
 (dD k s w hs).mono (by rintro e w' ⟨rfl,rfl⟩;exact⟨rfl,Below.refl _ _⟩)
theorem qB (t:ByteArray) (w:World) (ht:t.size≤1048576):
  Calls prog 38 #[.string t] w fun e w'=>∃r,e=.returned (.tuple #[r,.bool (cP t)])∧Own w' w.heap.size r (ppL t)∧Below w.heap.size w w':=by
 have h:=qA t w ht;rw[(F9 t).1,(F9 t).2] at h;exact h
noncomputable def gX (d:ae) (s g:ByteArray):ByteArray×ae:=
 if bI s=12 then bC d s g else if fC (bI s) g=true then aK d s (bg g) else(eF,d)
theorem zL {d:ae} {l:ByteArray} (h:bL 32 l=true):b9 d l=gX d (bef 32 l) (aft 32 l):=by
 unfold b9 gX;rw[if_neg (by rw[h];simp)]
theorem zM {d:ae} {l:ByteArray} (h:bL 32 l=false):b9 d l=aM d l:=by
 unfold b9;rw[if_pos h]
theorem FK {s:ByteArray} (h:s∈dy):bI s=12:=by
 simp only[dy,Jz,JA,or_false] at h
 rcases h with rfl|rfl|rfl|rfl|rfl|rfl|rfl <;> decide +kernel
theorem tW (g:ByteArray):(bg g).length=(aq 32 g).length:=by unfold bg;rw[List.length_map]
theorem vI {j k:Nat} {g:ByteArray} (h:at_ bT j=(k:Int)):fC j g=iA g k:=by
 unfold fC iA;rw[h,tW];cases aE g
 ·simp
 ·simp only[Bool.true_and,and_true];exact decide_eq_decide.2 (by omega)
theorem vx {k:Nat} {g:ByteArray} (h:iA g k=true):bp g k=bg g∧(bg g).length=k:=by
 unfold iA at h;obtain⟨h1,h2⟩:=of_decide_eq_true h;exact⟨oZ h1 h2,by rw[tW,h1]⟩
theorem ER {s:ByteArray} (h:bI s=12):fD s = -1:=by unfold fD;rw[if_pos h]
theorem ET {s:ByteArray} (h:bI s<12):∃k:Nat,k≤4∧fD s=(k:Int)∧at_ bT (bI s)=(k:Int):=by
 have e:fD s=at_ bT (bI s):=by unfold fD;rw[if_neg (by omega)]
 rw[e];obtain⟨j,hj⟩:∃j,bI s=j:=⟨_,rfl⟩;rw[hj] at h ⊢;have hc:j=0∨j=1∨j=2∨j=3∨j=4∨j=5∨j=6∨j=7∨j=8∨j=9∨j=10∨j=11:=by omega
 rcases hc with rfl|rfl|rfl|rfl|rfl|rfl|rfl|rfl|rfl|rfl|rfl|rfl
 ·exact⟨2,by omega,rfl,rfl⟩
 ·exact⟨1,by omega,rfl,rfl⟩
 ·exact⟨2,by omega,rfl,rfl⟩
 ·exact⟨1,by omega,rfl,rfl⟩
 ·exact⟨4,by omega,rfl,rfl⟩
 ·exact⟨1,by omega,rfl,rfl⟩
 ·exact⟨2,by omega,rfl,rfl⟩
 ·exact⟨3,by omega,rfl,rfl⟩
 ·exact⟨1,by omega,rfl,rfl⟩
 ·exact⟨1,by omega,rfl,rfl⟩
 ·exact⟨3,by omega,rfl,rfl⟩
 ·exact⟨1,by omega,rfl,rfl⟩
attribute [local go_sem ↓] Go.wp_at_zero Go.wp_at_succ
theorem Bz (P:Nat→Prop) (v:Value) (d:ae) (g:ByteArray) (w:World) (hg:g.size≤1000000) (hs:SxR P w v d) (hn:SxN P w):Calls prog 11 #[v,.string ej,.string g] w (SxQ P w (bC d ej g)):=by
 obtain⟨p,e,t,rfl,hs0⟩:=hs.s;obtain⟨Ap,cp,rfl,-,-,-⟩:=hs0.1.1.open_;obtain⟨Ae,ce,rfl,-,-,-⟩:=hs0.2.1.1.open_;obtain⟨At,ct,rfl,-,-,-⟩:=hs0.2.2.1.open_;have HS:=Jj (Sxn.first hs0 hn);have HSAME:=Jj (SxS.same hs0 hn);obtain⟨c0,c1,c2,c3,c4,c5⟩:=HS.out.box.cells;obtain⟨f0,f1,f2,f3,f4,f5⟩:=HS.out.out.frz;obtain⟨z0,z1,z2,z3,z4,z5⟩:=HS.out.out.cells;obtain⟨r,hr⟩:∃r:ByteArray×ae,bC d ej g=r:=⟨_,rfl⟩;have HRR:=Jj hr;rw[hr];clear hs hs0 hn hr;unfold ej
 go_enter func11,ntmps11
 go_wp2_with fail
 generalize hW:World.alloc _ _=W at HS c0 c1 c2 c3 c4 c5 f0 f1 f2 f3 f4 f5 z0 z1 z2 z3 z4 z5 ⊢;clear hW;refine(qB g _ (by omega)).mono ?_;rintro e1 w1 ⟨x1,rfl,o1,b1⟩;obtain⟨A1,k1,rfl,-,-,-⟩:=o1.ints.open_;have H1:=Jj (HS.out.next b1);have HX1:=Jj o1.ints;have HXO1:=Jj (HS.out.polyO o1);clear c0 c1 c2 c3 c4 c5 f0 f1 f2 f3 f4 f5 z0 z1 z2 z3 z4 z5 o1 b1;cases hq:cP g
 ·have HQ:=Jj hq;clear hq;obtain⟨c0,c1,c2,c3,c4,c5⟩:=H1.out.box.cells;obtain⟨f0,f1,f2,f3,f4,f5⟩:=H1.out.out.frz;obtain⟨z0,z1,z2,z3,z4,z5⟩:=H1.out.out.cells;have HB:=Jj (show ∀X,Below w1.heap.size w1 X→(X.cell? ⟨w.heap.size,0,none⟩=some (.slice Ap d.poly.length cp)∧X.cell? ⟨w.heap.size,1,none⟩=some (.slice Ae d.eng.length ce)∧X.cell? ⟨w.heap.size,2,none⟩=some (.slice At d.tab.length ct)∧X.cell? ⟨w.heap.size,3,none⟩=some (.int .i64 d.rw)∧X.cell? ⟨w.heap.size,4,none⟩=some (.int .i64 d.ac)∧X.cell? ⟨w.heap.size,5,none⟩=some (.int .i64 d.wi)) from fun X h=>(H1.out.next h).box.cells);have tok2:True:=trivial;have tok3:True:=trivial
  go_wp2_with fail
  go_region_held3 (fun w'=>w'.cell? ⟨w.heap.size,0,none⟩=some (.slice Ap d.poly.length cp)∧w'.cell? ⟨w.heap.size,1,none⟩=some (.slice Ae d.eng.length ce)∧w'.cell? ⟨w.heap.size,2,none⟩=some (.slice At d.tab.length ct)∧w'.cell? ⟨w.heap.size,3,none⟩=some (.int .i64 d.rw)∧w'.cell? ⟨w.heap.size,4,none⟩=some (.int .i64 d.ac)∧w'.cell? ⟨w.heap.size,5,none⟩=some (.int .i64 d.wi)) (first|with_reducible exact⟨c0,c1,c2,c3,c4,c5⟩|with_reducible exact G7.out.kept (.slice Ap d.poly.length cp) (.slice Ae d.eng.length ce) (.slice At d.tab.length ct) d|exact⟨c0,c1,c2,c3,c4,c5⟩|exact G7.out.kept (.slice Ap d.poly.length cp) (.slice Ae d.eng.length ce) (.slice At d.tab.length ct) d|go_keep)
  (first
  |((try go_simp);go_at_call 29;have _t:=tok3;go_loud (refine(tR (false) (⟨#[111,107]⟩) _ (by decide)).mono ?_;rintro e7 w7 ⟨rfl,b7⟩;replace b7:Below w1.heap.size w1 w7:=(by first|exact b7|exact aa (ah _) b7);have B7:=Jj b7;have G7:=Jj (H1.out.next b7);obtain⟨c0,c1,c2,c3,c4,c5⟩:=HB.out _ b7;obtain⟨f0,f1,f2,f3,f4,f5⟩:=G7.out.out.frz;obtain⟨z0,z1,z2,z3,z4,z5⟩:=G7.out.out.cells;clear tok3 b7;(try dsimp only)))
  |fail)
  all_goals
   go_wp2;obtain⟨kk,ss,bb⟩:=G7.out.done G7.out.sta;generalize World.setCell _ _ _=w9 at kk ss bb ⊢;obtain⟨x0,x1,x2,x3,x4,x5⟩:=kk.cells;refine bodyPost_ret (v:=.tuple #[.agg #[(.slice Ap d.poly.length cp),(.slice Ae d.eng.length ce),(.slice At d.tab.length ct),.int .i64 d.rw,.int .i64 d.ac,.int .i64 d.wi],.string (ak (⟨#[111,107]⟩) (false))]) (by simp[results,results11,go_sem,x0,x1,x2,x3,x4,x5]) rfl ?_;rw[show r=(ak (⟨#[111,107]⟩) (false),d) from HRR.out.symm.trans ((kM d g).trans (by unfold fO jU;rw[HQ.out];rfl))];exact⟨_,rfl,ss,bb⟩
 ·have HQ:=Jj hq;clear hq;have HP:=Jj (H1.out.poly HX1.out HXO1.out);have HX9:=Jj (show ai (w1.setCell ⟨w.heap.size,0,none⟩ (.slice A1 (ppL g).length k1)) _ (ppL g) from HP.out.sta.1.1);obtain⟨c0,c1,c2,c3,c4,c5⟩:=H1.out.box.cells;obtain⟨f0,f1,f2,f3,f4,f5⟩:=H1.out.out.frz;obtain⟨z0,z1,z2,z3,z4,z5⟩:=H1.out.out.cells;obtain⟨g0,g1,g2,g3,g4,g5⟩:=H1.out.box.frz
  go_wp2_with fail
  generalize hW2:w1.setCell ⟨w.heap.size,0,none⟩ (.slice A1 (ppL g).length k1)=W2 at HP HX9 ⊢;clear hW2 c0 c1 c2 c3 c4 c5 f0 f1 f2 f3 f4 f5 z0 z1 z2 z3 z4 z5 g0 g1 g2 g3 g4 g5;obtain⟨c0,c1,c2,c3,c4,c5⟩:=HP.out.box.cells;obtain⟨f0,f1,f2,f3,f4,f5⟩:=HP.out.out.frz;obtain⟨z0,z1,z2,z3,z4,z5⟩:=HP.out.out.cells;have HB:=Jj (show ∀X,Below W2.heap.size W2 X→(X.cell? ⟨w.heap.size,0,none⟩=some (.slice A1 (ppL g).length k1)∧X.cell? ⟨w.heap.size,1,none⟩=some (.slice Ae d.eng.length ce)∧X.cell? ⟨w.heap.size,2,none⟩=some (.slice At d.tab.length ct)∧X.cell? ⟨w.heap.size,3,none⟩=some (.int .i64 { d with poly:=ppL g }.rw)∧X.cell? ⟨w.heap.size,4,none⟩=some (.int .i64 { d with poly:=ppL g }.ac)∧X.cell? ⟨w.heap.size,5,none⟩=some (.int .i64 { d with poly:=ppL g }.wi)) from fun X h=>(HP.out.next h).box.cells);have tok2:True:=trivial;have tok3:True:=trivial
  go_region_held3 (fun w'=>w'.cell? ⟨w.heap.size,0,none⟩=some (.slice A1 (ppL g).length k1)∧w'.cell? ⟨w.heap.size,1,none⟩=some (.slice Ae d.eng.length ce)∧w'.cell? ⟨w.heap.size,2,none⟩=some (.slice At d.tab.length ct)∧w'.cell? ⟨w.heap.size,3,none⟩=some (.int .i64 { d with poly:=ppL g }.rw)∧w'.cell? ⟨w.heap.size,4,none⟩=some (.int .i64 { d with poly:=ppL g }.ac)∧w'.cell? ⟨w.heap.size,5,none⟩=some (.int .i64 { d with poly:=ppL g }.wi)) (first|with_reducible exact⟨c0,c1,c2,c3,c4,c5⟩|with_reducible exact G7.out.kept (.slice A1 (ppL g).length k1) (.slice Ae d.eng.length ce) (.slice At d.tab.length ct) { d with poly:=ppL g }|exact⟨c0,c1,c2,c3,c4,c5⟩|exact G7.out.kept (.slice A1 (ppL g).length k1) (.slice Ae d.eng.length ce) (.slice At d.tab.length ct) { d with poly:=ppL g }|go_keep)
  (first
  |((try go_simp);go_at_call 29;have _t:=tok3;go_loud (refine(tR (true) (⟨#[111,107]⟩) _ (by decide)).mono ?_;rintro e7 w7 ⟨rfl,b7⟩;replace b7:Below W2.heap.size W2 w7:=(by first|exact b7|exact aa (ah _) b7);have B7:=Jj b7;have G7:=Jj (HP.out.next b7);obtain⟨c0,c1,c2,c3,c4,c5⟩:=HB.out _ b7;obtain⟨f0,f1,f2,f3,f4,f5⟩:=G7.out.out.frz;obtain⟨z0,z1,z2,z3,z4,z5⟩:=G7.out.out.cells;clear tok3 b7;(try dsimp only)))
  |fail)
  all_goals
   go_wp2;obtain⟨kk,ss,bb⟩:=G7.out.done G7.out.sta;generalize World.setCell _ _ _=w9 at kk ss bb ⊢;obtain⟨x0,x1,x2,x3,x4,x5⟩:=kk.cells;refine bodyPost_ret (v:=.tuple #[.agg #[(.slice A1 (ppL g).length k1),(.slice Ae d.eng.length ce),(.slice At d.tab.length ct),.int .i64 { d with poly:=ppL g }.rw,.int .i64 { d with poly:=ppL g }.ac,.int .i64 { d with poly:=ppL g }.wi],.string (ak (⟨#[111,107]⟩) (true))]) (by simp[results,results11,go_sem,x0,x1,x2,x3,x4,x5]) rfl ?_;rw[show r=(ak (⟨#[111,107]⟩) (true),{ d with poly:=ppL g }) from HRR.out.symm.trans ((kM d g).trans (by unfold fO jU;rw[HQ.out];rfl))];exact⟨_,rfl,ss,bb⟩
theorem xB (P:Nat→Prop) (v:Value) (d:ae) (g:ByteArray) (w:World) (hg:g.size≤1000000) (hs:SxR P w v d) (hn:SxN P w):Calls prog 11 #[v,.string gP,.string g] w (SxQ P w (bC d gP g)):=by
 have hsz:=fs (fpL (ppL g));obtain⟨p,e,t,rfl,hs0⟩:=hs.s;obtain⟨Ap,cp,rfl,-,-,-⟩:=hs0.1.1.open_;obtain⟨Ae,ce,rfl,-,-,-⟩:=hs0.2.1.1.open_;obtain⟨At,ct,rfl,-,-,-⟩:=hs0.2.2.1.open_;have HS:=Jj (Sxn.first hs0 hn);have HSAME:=Jj (SxS.same hs0 hn);obtain⟨c0,c1,c2,c3,c4,c5⟩:=HS.out.box.cells;obtain⟨f0,f1,f2,f3,f4,f5⟩:=HS.out.out.frz;obtain⟨z0,z1,z2,z3,z4,z5⟩:=HS.out.out.cells;obtain⟨r,hr⟩:∃r:ByteArray×ae,bC d gP g=r:=⟨_,rfl⟩;have HRR:=Jj hr;rw[hr];clear hs hs0 hn hr;unfold gP
 go_enter func11,ntmps11
 go_wp2_with fail
 generalize hW:World.alloc _ _=W at HS c0 c1 c2 c3 c4 c5 f0 f1 f2 f3 f4 f5 z0 z1 z2 z3 z4 z5 ⊢;clear hW;refine(qB g _ (by omega)).mono ?_;rintro e1 w1 ⟨x1,rfl,o1,b1⟩;obtain⟨A1,k1,rfl,-,-,-⟩:=o1.ints.open_;have H1:=Jj (HS.out.next b1);have HX1:=Jj o1.ints;have HXO1:=Jj (HS.out.polyO o1);clear c0 c1 c2 c3 c4 c5 f0 f1 f2 f3 f4 f5 z0 z1 z2 z3 z4 z5 o1 b1;obtain⟨c0,c1,c2,c3,c4,c5⟩:=H1.out.box.cells;obtain⟨f0,f1,f2,f3,f4,f5⟩:=H1.out.out.frz;obtain⟨z0,z1,z2,z3,z4,z5⟩:=H1.out.out.cells
 go_wp2_with fail
 refine(yy _ (ppL g) _ HX1.out).mono ?_;rintro e2 w2 ⟨x2,rfl,o2,b2⟩;obtain⟨A2,k2,rfl,-,-,-⟩:=o2.ints.open_;have H2:=Jj (H1.out.next b2);have HX2:=Jj o2.ints;have HXO2:=Jj (H1.out.polyO o2);clear c0 c1 c2 c3 c4 c5 f0 f1 f2 f3 f4 f5 z0 z1 z2 z3 z4 z5 o2 b2;cases hq:cP g
 ·have HQ:=Jj hq;clear hq;obtain⟨c0,c1,c2,c3,c4,c5⟩:=H2.out.box.cells;obtain⟨f0,f1,f2,f3,f4,f5⟩:=H2.out.out.frz;obtain⟨z0,z1,z2,z3,z4,z5⟩:=H2.out.out.cells;have HB:=Jj (show ∀X,Below w2.heap.size w2 X→(X.cell? ⟨w.heap.size,0,none⟩=some (.slice Ap d.poly.length cp)∧X.cell? ⟨w.heap.size,1,none⟩=some (.slice Ae d.eng.length ce)∧X.cell? ⟨w.heap.size,2,none⟩=some (.slice At d.tab.length ct)∧X.cell? ⟨w.heap.size,3,none⟩=some (.int .i64 d.rw)∧X.cell? ⟨w.heap.size,4,none⟩=some (.int .i64 d.ac)∧X.cell? ⟨w.heap.size,5,none⟩=some (.int .i64 d.wi)) from fun X h=>(H2.out.next h).box.cells);have tok2:True:=trivial;have tok3:True:=trivial
  go_wp2_with fail
  refine wp_region_held_drew (S:=(fun w'=>w'.cell? ⟨w.heap.size,0,none⟩=some (.slice Ap d.poly.length cp)∧w'.cell? ⟨w.heap.size,1,none⟩=some (.slice Ae d.eng.length ce)∧w'.cell? ⟨w.heap.size,2,none⟩=some (.slice At d.tab.length ct)∧w'.cell? ⟨w.heap.size,3,none⟩=some (.int .i64 d.rw)∧w'.cell? ⟨w.heap.size,4,none⟩=some (.int .i64 d.ac)∧w'.cell? ⟨w.heap.size,5,none⟩=some (.int .i64 d.wi))) (by kernel_rfl) ?_ (fun hHeld=>?_)
  ·exact⟨c0,c1,c2,c3,c4,c5⟩
  refine wpAnyH_take (i:=0) (v:=?v0) rfl (by kernel_rfl) (by kernel_rfl) (by kernel_rfl) (fun _ _ _ h=>h) (Or.inl ⟨by kernel_rfl,?hy0⟩) (by assumption) ?rest0
  case hy0=>(intro w' hSw;(try dsimp only at hSw);go_simp;all_goals with_reducible rfl)
  try simp only[Act.put,Jp,Jo,Jn,Jm,Jk,Jl]
  refine wpAnyH_take (i:=1) (v:=?v1) rfl (by kernel_rfl) (by kernel_rfl) (by kernel_rfl) (fun _ _ _ h=>h) (Or.inl ⟨by kernel_rfl,?hy1⟩) (by assumption) ?rest1
  case hy1=>(intro w' hSw;(try dsimp only at hSw);go_simp;all_goals with_reducible rfl)
  try simp only[Act.put,Jp,Jo,Jn,Jm,Jk,Jl]
  refine wpAnyH_take (i:=2) (v:=?v2) rfl (by kernel_rfl) (by kernel_rfl) (by kernel_rfl) (fun _ _ _ h=>h) (Or.inl ⟨by kernel_rfl,?hy2⟩) (by assumption) ?rest2
  case hy2=>(intro w' hSw;(try dsimp only at hSw);go_simp;all_goals with_reducible rfl)
  try simp only[Act.put,Jp,Jo,Jn,Jm,Jk,Jl]
  refine wpAnyH_take (i:=3) (v:=undef) rfl (by kernel_rfl) (by kernel_rfl) (by kernel_rfl) (fun _ _ _ h=>h) (Or.inr ⟨by kernel_rfl,rfl⟩) (by assumption) ?_
  try simp only[Act.put,Jp,Jo,Jn,Jm,Jk,Jl]
  refine wpAnyH_take (i:=4) (v:=?v4) rfl (by kernel_rfl) (by kernel_rfl) (by kernel_rfl) (fun _ _ _ h=>h) (Or.inl ⟨by kernel_rfl,?hy4⟩) (by assumption) ?rest4
  case hy4=>(intro w' hSw;(try dsimp only at hSw);go_simp;all_goals with_reducible rfl)
  try simp only[Act.put,Jp,Jo,Jn,Jm,Jk,Jl]
  refine wpAnyH_take (i:=5) (v:=?v5) rfl (by kernel_rfl) (by kernel_rfl) (by kernel_rfl) (fun _ _ _ h=>h) (Or.inl ⟨by kernel_rfl,?hy5⟩) (by assumption) ?rest5
  case hy5=>(intro w' hSw;(try dsimp only at hSw);go_simp;all_goals with_reducible rfl)
  try simp only[Act.put,Jp,Jo,Jn,Jm,Jk,Jl]
  refine wpAnyH_ready (rs:=[6]) (by kernel_rfl) (by simp) ?_;refine AllReadyH.cons rfl (fun K hK=>?_) AllReadyH.nil
  ((try go_simp);go_at_call 30;have _t:=tok2;go_loud (refine(bE _ (fpL (ppL g)) _ (by first|exact HX2.out|exact HX2.out.bel (ah _))).mono ?_;rintro e7 w7 ⟨rfl,b7⟩;replace b7:Below w2.heap.size w2 w7:=(by first|exact b7|exact aa (ah _) b7);have B7:=Jj b7;have G7:=Jj (H2.out.next b7);obtain⟨c0,c1,c2,c3,c4,c5⟩:=HB.out _ b7;obtain⟨f0,f1,f2,f3,f4,f5⟩:=G7.out.out.frz;obtain⟨z0,z1,z2,z3,z4,z5⟩:=G7.out.out.cells;clear tok2 b7;(try dsimp only)))
  refine hK.out _ _ ?_ (fun hHeld=>?_)
  ·first|exact⟨c0,c1,c2,c3,c4,c5⟩|exact hHeld
  clear hK K
  try simp only[Act.put,Jp,Jo,Jn,Jm,Jk,Jl]
  refine wpAnyH_ready (rs:=[7]) (by kernel_rfl) (by simp) ?_;refine AllReadyH.cons rfl (fun K hK=>?_) AllReadyH.nil
  ((try go_simp);go_at_call 29;have _t:=tok3;go_loud (refine(dD (false) (ax (fpL (ppL g))) _ (by omega)).mono ?_;rintro e8 w8 ⟨rfl,rfl⟩;clear tok3;(try dsimp only)))
  refine hK.out _ _ ?_ (fun hHeld=>?_)
  ·first|exact⟨c0,c1,c2,c3,c4,c5⟩|exact hHeld
  clear hK K
  try simp only[Act.put,Jp,Jo,Jn,Jm,Jk,Jl]
  refine wpAnyH_ready (rs:=[8]) (by kernel_rfl) (by simp) ?_;refine AllReadyH.cons rfl (fun K hK=>?_) AllReadyH.nil
  go_simp
  refine hK.out _ _ ?_ (fun hHeld=>?_)
  ·first|exact G7.out.kept (.slice Ap d.poly.length cp) (.slice Ae d.eng.length ce) (.slice At d.tab.length ct) d|exact hHeld
  clear hK K
  try simp only[Act.put,Jp,Jo,Jn,Jm,Jk,Jl]
  refine wpAnyH_take (i:=9) (v:=?v9) rfl (by kernel_rfl) (by kernel_rfl) (by kernel_rfl) (fun _ _ _ h=>h) (Or.inl ⟨by kernel_rfl,?hy9⟩) (by assumption) ?rest9
  case hy9=>(intro w' hSw;(try dsimp only at hSw);go_simp;all_goals with_reducible rfl)
  try simp only[Act.put,Jp,Jo,Jn,Jm,Jk,Jl]
  refine wpAnyH_done (by kernel_rfl) ?_ _;go_wp2;obtain⟨kk,ss,bb⟩:=G7.out.done G7.out.sta;generalize World.setCell _ _ _=w9 at kk ss bb ⊢;obtain⟨x0,x1,x2,x3,x4,x5⟩:=kk.cells;refine bodyPost_ret (v:=.tuple #[.agg #[(.slice Ap d.poly.length cp),(.slice Ae d.eng.length ce),(.slice At d.tab.length ct),.int .i64 d.rw,.int .i64 d.ac,.int .i64 d.wi],.string (ak (ax (fpL (ppL g))) (false))]) (by simp[results,results11,go_sem,x0,x1,x2,x3,x4,x5]) rfl ?_;rw[show r=(ak (ax (fpL (ppL g))) (false),d) from HRR.out.symm.trans ((gB d g).trans (by unfold dF;rw[HQ.out,Bool.false_and];rfl))];exact⟨_,rfl,ss,bb⟩
 ·cases hq2:iO (ppL g)
  ·have HQ:=Jj (Jq hq hq2);clear hq hq2;obtain⟨c0,c1,c2,c3,c4,c5⟩:=H2.out.box.cells;obtain⟨f0,f1,f2,f3,f4,f5⟩:=H2.out.out.frz;obtain⟨z0,z1,z2,z3,z4,z5⟩:=H2.out.out.cells;have HB:=Jj (show ∀X,Below w2.heap.size w2 X→(X.cell? ⟨w.heap.size,0,none⟩=some (.slice Ap d.poly.length cp)∧X.cell? ⟨w.heap.size,1,none⟩=some (.slice Ae d.eng.length ce)∧X.cell? ⟨w.heap.size,2,none⟩=some (.slice At d.tab.length ct)∧X.cell? ⟨w.heap.size,3,none⟩=some (.int .i64 d.rw)∧X.cell? ⟨w.heap.size,4,none⟩=some (.int .i64 d.ac)∧X.cell? ⟨w.heap.size,5,none⟩=some (.int .i64 d.wi)) from fun X h=>(H2.out.next h).box.cells);have tok2:True:=trivial;have tok3:True:=trivial
   go_wp2_with fail
   go_region_held3 (fun w'=>w'.cell? ⟨w.heap.size,0,none⟩=some (.slice Ap d.poly.length cp)∧w'.cell? ⟨w.heap.size,1,none⟩=some (.slice Ae d.eng.length ce)∧w'.cell? ⟨w.heap.size,2,none⟩=some (.slice At d.tab.length ct)∧w'.cell? ⟨w.heap.size,3,none⟩=some (.int .i64 d.rw)∧w'.cell? ⟨w.heap.size,4,none⟩=some (.int .i64 d.ac)∧w'.cell? ⟨w.heap.size,5,none⟩=some (.int .i64 d.wi)) (first|with_reducible exact⟨c0,c1,c2,c3,c4,c5⟩|with_reducible exact G7.out.kept (.slice Ap d.poly.length cp) (.slice Ae d.eng.length ce) (.slice At d.tab.length ct) d|exact⟨c0,c1,c2,c3,c4,c5⟩|exact G7.out.kept (.slice Ap d.poly.length cp) (.slice Ae d.eng.length ce) (.slice At d.tab.length ct) d|go_keep)
   (first
   |((try go_simp);go_at_call 30;have _t:=tok2;go_loud (refine(bE _ (fpL (ppL g)) _ (by first|exact HX2.out|exact HX2.out.bel (ah _))).mono ?_;rintro e7 w7 ⟨rfl,b7⟩;replace b7:Below w2.heap.size w2 w7:=(by first|exact b7|exact aa (ah _) b7);have B7:=Jj b7;have G7:=Jj (H2.out.next b7);obtain⟨c0,c1,c2,c3,c4,c5⟩:=HB.out _ b7;obtain⟨f0,f1,f2,f3,f4,f5⟩:=G7.out.out.frz;obtain⟨z0,z1,z2,z3,z4,z5⟩:=G7.out.out.cells;clear tok2 b7;(try dsimp only)))
   |((try go_simp);go_at_call 29;have _t:=tok3;go_loud (refine(dD (false) (ax (fpL (ppL g))) _ (by omega)).mono ?_;rintro e8 w8 ⟨rfl,rfl⟩;clear tok3;(try dsimp only)))
   |fail)
   all_goals
    go_wp2;obtain⟨kk,ss,bb⟩:=G7.out.done G7.out.sta;generalize World.setCell _ _ _=w9 at kk ss bb ⊢;obtain⟨x0,x1,x2,x3,x4,x5⟩:=kk.cells;refine bodyPost_ret (v:=.tuple #[.agg #[(.slice Ap d.poly.length cp),(.slice Ae d.eng.length ce),(.slice At d.tab.length ct),.int .i64 d.rw,.int .i64 d.ac,.int .i64 d.wi],.string (ak (ax (fpL (ppL g))) (false))]) (by simp[results,results11,go_sem,x0,x1,x2,x3,x4,x5]) rfl ?_;rw[show r=(ak (ax (fpL (ppL g))) (false),d) from HRR.out.symm.trans ((gB d g).trans (by unfold dF;rw[HQ.out.1,HQ.out.2,Bool.true_and];rfl))];exact⟨_,rfl,ss,bb⟩
  ·have HQ:=Jj (Jq hq hq2);clear hq hq2;have HP:=Jj (H2.out.poly HX2.out HXO2.out);have HX9:=Jj (show ai (w2.setCell ⟨w.heap.size,0,none⟩ (.slice A2 (fpL (ppL g)).length k2)) _ (fpL (ppL g)) from HP.out.sta.1.1);obtain⟨c0,c1,c2,c3,c4,c5⟩:=H2.out.box.cells;obtain⟨f0,f1,f2,f3,f4,f5⟩:=H2.out.out.frz;obtain⟨z0,z1,z2,z3,z4,z5⟩:=H2.out.out.cells;obtain⟨g0,g1,g2,g3,g4,g5⟩:=H2.out.box.frz
   go_wp2_with fail
   generalize hW2:w2.setCell ⟨w.heap.size,0,none⟩ (.slice A2 (fpL (ppL g)).length k2)=W2 at HP HX9 ⊢;clear hW2 c0 c1 c2 c3 c4 c5 f0 f1 f2 f3 f4 f5 z0 z1 z2 z3 z4 z5 g0 g1 g2 g3 g4 g5;obtain⟨c0,c1,c2,c3,c4,c5⟩:=HP.out.box.cells;obtain⟨f0,f1,f2,f3,f4,f5⟩:=HP.out.out.frz;obtain⟨z0,z1,z2,z3,z4,z5⟩:=HP.out.out.cells;have HB:=Jj (show ∀X,Below W2.heap.size W2 X→(X.cell? ⟨w.heap.size,0,none⟩=some (.slice A2 (fpL (ppL g)).length k2)∧X.cell? ⟨w.heap.size,1,none⟩=some (.slice Ae d.eng.length ce)∧X.cell? ⟨w.heap.size,2,none⟩=some (.slice At d.tab.length ct)∧X.cell? ⟨w.heap.size,3,none⟩=some (.int .i64 { d with poly:=fpL (ppL g) }.rw)∧X.cell? ⟨w.heap.size,4,none⟩=some (.int .i64 { d with poly:=fpL (ppL g) }.ac)∧X.cell? ⟨w.heap.size,5,none⟩=some (.int .i64 { d with poly:=fpL (ppL g) }.wi)) from fun X h=>(HP.out.next h).box.cells);have tok2:True:=trivial;have tok3:True:=trivial
   go_region_held3 (fun w'=>w'.cell? ⟨w.heap.size,0,none⟩=some (.slice A2 (fpL (ppL g)).length k2)∧w'.cell? ⟨w.heap.size,1,none⟩=some (.slice Ae d.eng.length ce)∧w'.cell? ⟨w.heap.size,2,none⟩=some (.slice At d.tab.length ct)∧w'.cell? ⟨w.heap.size,3,none⟩=some (.int .i64 { d with poly:=fpL (ppL g) }.rw)∧w'.cell? ⟨w.heap.size,4,none⟩=some (.int .i64 { d with poly:=fpL (ppL g) }.ac)∧w'.cell? ⟨w.heap.size,5,none⟩=some (.int .i64 { d with poly:=fpL (ppL g) }.wi)) (first|with_reducible exact⟨c0,c1,c2,c3,c4,c5⟩|with_reducible exact G7.out.kept (.slice A2 (fpL (ppL g)).length k2) (.slice Ae d.eng.length ce) (.slice At d.tab.length ct) { d with poly:=fpL (ppL g) }|exact⟨c0,c1,c2,c3,c4,c5⟩|exact G7.out.kept (.slice A2 (fpL (ppL g)).length k2) (.slice Ae d.eng.length ce) (.slice At d.tab.length ct) { d with poly:=fpL (ppL g) }|go_keep)
   (first
   |((try go_simp);go_at_call 30;have _t:=tok2;go_loud (refine(bE _ (fpL (ppL g)) _ (by first|exact HX9.out|exact HX9.out.bel (ah _))).mono ?_;rintro e7 w7 ⟨rfl,b7⟩;replace b7:Below W2.heap.size W2 w7:=(by first|exact b7|exact aa (ah _) b7);have B7:=Jj b7;have G7:=Jj (HP.out.next b7);obtain⟨c0,c1,c2,c3,c4,c5⟩:=HB.out _ b7;obtain⟨f0,f1,f2,f3,f4,f5⟩:=G7.out.out.frz;obtain⟨z0,z1,z2,z3,z4,z5⟩:=G7.out.out.cells;clear tok2 b7;(try dsimp only)))
   |((try go_simp);go_at_call 29;have _t:=tok3;go_loud (refine(dD (true) (ax (fpL (ppL g))) _ (by omega)).mono ?_;rintro e8 w8 ⟨rfl,rfl⟩;clear tok3;(try dsimp only)))
   |fail)
   all_goals
    go_wp2;obtain⟨kk,ss,bb⟩:=G7.out.done G7.out.sta;generalize World.setCell _ _ _=w9 at kk ss bb ⊢;obtain⟨x0,x1,x2,x3,x4,x5⟩:=kk.cells;refine bodyPost_ret (v:=.tuple #[.agg #[(.slice A2 (fpL (ppL g)).length k2),(.slice Ae d.eng.length ce),(.slice At d.tab.length ct),.int .i64 { d with poly:=fpL (ppL g) }.rw,.int .i64 { d with poly:=fpL (ppL g) }.ac,.int .i64 { d with poly:=fpL (ppL g) }.wi],.string (ak (ax (fpL (ppL g))) (true))]) (by simp[results,results11,go_sem,x0,x1,x2,x3,x4,x5]) rfl ?_;rw[show r=(ak (ax (fpL (ppL g))) (true),{ d with poly:=fpL (ppL g) }) from HRR.out.symm.trans ((gB d g).trans (by unfold dF;rw[HQ.out.1,HQ.out.2,Bool.true_and];rfl))];exact⟨_,rfl,ss,bb⟩
theorem xy (P:Nat→Prop) (v:Value) (d:ae) (g:ByteArray) (w:World) (hg:g.size≤1000000) (hs:SxR P w v d) (hn:SxN P w):Calls prog 11 #[v,.string gL,.string g] w (SxQ P w (bC d gL g)):=by
 obtain⟨p,e,t,rfl,hs0⟩:=hs.s;obtain⟨Ap,cp,rfl,-,-,-⟩:=hs0.1.1.open_;obtain⟨Ae,ce,rfl,-,-,-⟩:=hs0.2.1.1.open_;obtain⟨At,ct,rfl,-,-,-⟩:=hs0.2.2.1.open_;have HS:=Jj (Sxn.first hs0 hn);have HSAME:=Jj (SxS.same hs0 hn);obtain⟨c0,c1,c2,c3,c4,c5⟩:=HS.out.box.cells;obtain⟨f0,f1,f2,f3,f4,f5⟩:=HS.out.out.frz;obtain⟨z0,z1,z2,z3,z4,z5⟩:=HS.out.out.cells;obtain⟨r,hr⟩:∃r:ByteArray×ae,bC d gL g=r:=⟨_,rfl⟩;have HRR:=Jj hr;rw[hr];clear hs hs0 hn hr;unfold gL
 go_enter func11,ntmps11
 go_wp2_with fail
 generalize hW:World.alloc _ _=W at HS c0 c1 c2 c3 c4 c5 f0 f1 f2 f3 f4 f5 z0 z1 z2 z3 z4 z5 ⊢;clear hW;refine(yz g _ (by omega)).mono ?_;rintro e1 w1 ⟨x1,rfl,o1,b1⟩;obtain⟨A1,k1,rfl,-,-,-⟩:=o1.strs.open_;have ba:Below w1.heap.size w1 (w1.alloc (.cells #[.slice A1 (peE g).length k1] 32)):=ab w1 _;have KE:=Blk.new' w1 32 (.slice A1 (peE g).length k1) w1.heap.size rfl;have H1:=Jj (HS.out.next (aa b1 ba));have HX:=Jj (o1.strs.bel ba);have HXO:=Jj (HS.out.engO o1);clear c0 c1 c2 c3 c4 c5 f0 f1 f2 f3 f4 f5 z0 z1 z2 z3 z4 z5 b1 ba o1;obtain⟨c0,c1,c2,c3,c4,c5⟩:=H1.out.box.cells;obtain⟨f0,f1,f2,f3,f4,f5⟩:=H1.out.out.frz;obtain⟨z0,z1,z2,z3,z4,z5⟩:=H1.out.out.cells;obtain⟨u0,-⟩:=KE.one
 go_wp2_with fail
 generalize hW1:w1.alloc (.cells #[.slice A1 (peE g).length k1] 32)=W1 at H1 HX ⊢;clear hW1 c0 c1 c2 c3 c4 c5 f0 f1 f2 f3 f4 f5 z0 z1 z2 z3 z4 z5 u0 KE;have HM:=lF _ _ _ d (peE g) (af (aq 32 g)) W1 H1.out.sta.r HX.out HXO.out H1.out.new;obtain⟨q,hq⟩:∃q:ByteArray×ae,(ak (bD (peE g)) (af (aq 32 g)),bd d (peE g) (af (aq 32 g)))=q:=⟨_,rfl⟩;have HRQ:=Jj (show r=q from HRR.out.symm.trans ((lq d g).trans hq));rw[hq] at HM;clear hq;refine HM.mono ?_;rintro e3 w3 ⟨v3,rfl,s3,b3⟩;have H3:=Jj (H1.out.next b3);obtain⟨p2,e2,t2,rfl,sq⟩:=s3.s;obtain⟨Ap2,cp2,rfl,-,-,-⟩:=sq.1.1.open_;obtain⟨Ae2,ce2,rfl,-,-,-⟩:=sq.2.1.1.open_;obtain⟨At2,ct2,rfl,-,-,-⟩:=sq.2.2.1.open_;have SQ:=Jj sq;clear sq;clear b3 HM;obtain⟨c0,c1,c2,c3,c4,c5⟩:=H3.out.box.cells;obtain⟨f0,f1,f2,f3,f4,f5⟩:=H3.out.out.frz;obtain⟨z0,z1,z2,z3,z4,z5⟩:=H3.out.out.cells;go_wp2;obtain⟨kk,ss,bb⟩:=H3.out.done SQ.out;generalize World.setCell _ _ _=w9 at kk ss bb ⊢;obtain⟨x0,x1,x2,x3,x4,x5⟩:=kk.cells;refine bodyPost_ret (v:=.tuple #[.agg #[(.slice Ap2 q.2.poly.length cp2),(.slice Ae2 q.2.eng.length ce2),(.slice At2 q.2.tab.length ct2),.int .i64 q.2.rw,.int .i64 q.2.ac,.int .i64 q.2.wi],.string q.1]) (by simp[results,results11,go_sem,x0,x1,x2,x3,x4,x5]) rfl ?_;rw[HRQ.out];exact⟨_,rfl,ss,bb⟩
theorem yK (P:Nat→Prop) (v:Value) (d:ae) (g:ByteArray) (w:World) (hg:g.size≤1000000) (hs:SxR P w v d) (hn:SxN P w):Calls prog 11 #[v,.string jb,.string g] w (SxQ P w (bC d jb g)):=by
 obtain⟨p,e,t,rfl,hs0⟩:=hs.s;obtain⟨Ap,cp,rfl,-,-,-⟩:=hs0.1.1.open_;obtain⟨Ae,ce,rfl,-,-,-⟩:=hs0.2.1.1.open_;obtain⟨At,ct,rfl,-,-,-⟩:=hs0.2.2.1.open_;have HS:=Jj (Sxn.first hs0 hn);have HSAME:=Jj (SxS.same hs0 hn);obtain⟨c0,c1,c2,c3,c4,c5⟩:=HS.out.box.cells;obtain⟨f0,f1,f2,f3,f4,f5⟩:=HS.out.out.frz;obtain⟨z0,z1,z2,z3,z4,z5⟩:=HS.out.out.cells;obtain⟨r,hr⟩:∃r:ByteArray×ae,bC d jb g=r:=⟨_,rfl⟩;have HRR:=Jj hr;rw[hr];clear hs hs0 hn hr;unfold jb
 go_enter func11,ntmps11
 go_wp2_with fail
 generalize hW:World.alloc _ _=W at HS c0 c1 c2 c3 c4 c5 f0 f1 f2 f3 f4 f5 z0 z1 z2 z3 z4 z5 ⊢;clear hW;refine(oJ g _ (by omega)).mono ?_;rintro e1 w1 ⟨x1,rfl,o1,b1⟩;obtain⟨A1,k1,rfl,-,-,-⟩:=o1.ints.open_;have H1:=Jj (HS.out.next b1);have HX1:=Jj o1.ints;have HXO1:=Jj (HS.out.tabO o1);clear c0 c1 c2 c3 c4 c5 f0 f1 f2 f3 f4 f5 z0 z1 z2 z3 z4 z5 o1 b1;obtain⟨c0,c1,c2,c3,c4,c5⟩:=H1.out.box.cells;obtain⟨f0,f1,f2,f3,f4,f5⟩:=H1.out.out.frz;obtain⟨z0,z1,z2,z3,z4,z5⟩:=H1.out.out.cells
 go_wp2_with fail
 have HM:=my _ _ _ d (enL g) (enK g) w1 H1.out.sta.r HX1.out HXO1.out (Js (Gu g) (by omega)) H1.out.new;obtain⟨q,hq⟩:∃q:ByteArray×ae,(ak (aw (enL g)) ((enK g)&&ag (enL g)),aR d (enL g) (enK g))=q:=⟨_,rfl⟩;have HRQ:=Jj (show r=q from HRR.out.symm.trans (((mh d g).trans (IR d g)).trans hq));rw[hq] at HM;clear hq;refine HM.mono ?_;rintro e3 w3 ⟨v3,rfl,s3,b3⟩;have H3:=Jj (H1.out.next b3);obtain⟨p2,e2,t2,rfl,sq⟩:=s3.s;obtain⟨Ap2,cp2,rfl,-,-,-⟩:=sq.1.1.open_;obtain⟨Ae2,ce2,rfl,-,-,-⟩:=sq.2.1.1.open_;obtain⟨At2,ct2,rfl,-,-,-⟩:=sq.2.2.1.open_;have SQ:=Jj sq;clear sq;clear b3 HM c0 c1 c2 c3 c4 c5 f0 f1 f2 f3 f4 f5 z0 z1 z2 z3 z4 z5;obtain⟨c0,c1,c2,c3,c4,c5⟩:=H3.out.box.cells;obtain⟨f0,f1,f2,f3,f4,f5⟩:=H3.out.out.frz;obtain⟨z0,z1,z2,z3,z4,z5⟩:=H3.out.out.cells;go_wp2;obtain⟨kk,ss,bb⟩:=H3.out.done SQ.out;generalize World.setCell _ _ _=w9 at kk ss bb ⊢;obtain⟨x0,x1,x2,x3,x4,x5⟩:=kk.cells;refine bodyPost_ret (v:=.tuple #[.agg #[(.slice Ap2 q.2.poly.length cp2),(.slice Ae2 q.2.eng.length ce2),(.slice At2 q.2.tab.length ct2),.int .i64 q.2.rw,.int .i64 q.2.ac,.int .i64 q.2.wi],.string q.1]) (by simp[results,results11,go_sem,x0,x1,x2,x3,x4,x5]) rfl ?_;rw[HRQ.out];exact⟨_,rfl,ss,bb⟩
theorem D8 (P:Nat→Prop) (v:Value) (d:ae) (g:ByteArray) (w:World) (hg:g.size≤1000000) (ok:d.Ok) (hs:SxR P w v d) (hn:SxN P w):Calls prog 11 #[v,.string mX,.string g] w (SxQ P w (bC d mX g)):=by
 have HOK:=Jj ok;clear ok;obtain⟨p,e,t,rfl,hs0⟩:=hs.s;obtain⟨Ap,cp,rfl,-,-,-⟩:=hs0.1.1.open_;obtain⟨Ae,ce,rfl,-,-,-⟩:=hs0.2.1.1.open_;obtain⟨At,ct,rfl,-,-,-⟩:=hs0.2.2.1.open_;have HS:=Jj (Sxn.first hs0 hn);have HSAME:=Jj (SxS.same hs0 hn);obtain⟨c0,c1,c2,c3,c4,c5⟩:=HS.out.box.cells;obtain⟨f0,f1,f2,f3,f4,f5⟩:=HS.out.out.frz;obtain⟨z0,z1,z2,z3,z4,z5⟩:=HS.out.out.cells;obtain⟨r,hr⟩:∃r:ByteArray×ae,bC d mX g=r:=⟨_,rfl⟩;have HRR:=Jj hr;rw[hr];clear hs hs0 hn hr;unfold mX
 go_enter func11,ntmps11
 go_wp2_with fail
 generalize hW:World.alloc _ _=W at HS c0 c1 c2 c3 c4 c5 f0 f1 f2 f3 f4 f5 z0 z1 z2 z3 z4 z5 ⊢;clear hW;have HM:=CS _ _ d g W (by omega) HOK.out HS.out.sta.r HS.out.new;obtain⟨q,hq⟩:∃q:ByteArray×ae,(gx d g,jh d g)=q:=⟨_,rfl⟩;have HRQ:=Jj (show r=q from HRR.out.symm.trans ((oB d g).trans hq));rw[hq] at HM;clear hq;refine HM.mono ?_;rintro e3 w3 ⟨v3,rfl,s3,b3⟩;have H3:=Jj (HS.out.next b3);obtain⟨p2,e2,t2,rfl,sq⟩:=s3.s;obtain⟨Ap2,cp2,rfl,-,-,-⟩:=sq.1.1.open_;obtain⟨Ae2,ce2,rfl,-,-,-⟩:=sq.2.1.1.open_;obtain⟨At2,ct2,rfl,-,-,-⟩:=sq.2.2.1.open_;have SQ:=Jj sq;clear sq;clear b3 HM c0 c1 c2 c3 c4 c5 f0 f1 f2 f3 f4 f5 z0 z1 z2 z3 z4 z5;obtain⟨c0,c1,c2,c3,c4,c5⟩:=H3.out.box.cells;obtain⟨f0,f1,f2,f3,f4,f5⟩:=H3.out.out.frz;obtain⟨z0,z1,z2,z3,z4,z5⟩:=H3.out.out.cells;go_wp2;obtain⟨kk,ss,bb⟩:=H3.out.done SQ.out;generalize World.setCell _ _ _=w9 at kk ss bb ⊢;obtain⟨x0,x1,x2,x3,x4,x5⟩:=kk.cells;refine bodyPost_ret (v:=.tuple #[.agg #[(.slice Ap2 q.2.poly.length cp2),(.slice Ae2 q.2.eng.length ce2),(.slice At2 q.2.tab.length ct2),.int .i64 q.2.rw,.int .i64 q.2.ac,.int .i64 q.2.wi],.string q.1]) (by simp[results,results11,go_sem,x0,x1,x2,x3,x4,x5]) rfl ?_;rw[HRQ.out];exact⟨_,rfl,ss,bb⟩
theorem Gw (r p:List Int):∀k,k<(cl r p).length→kr (aC (cl r p) k):=fun k hk=>by
 rw[iC hk];exact yV r p _ (List.getElem_mem hk)
theorem xA (P:Nat→Prop) (v:Value) (d:ae) (g:ByteArray) (w:World) (hg:g.size≤1000000) (hs:SxR P w v d) (hn:SxN P w):Calls prog 11 #[v,.string gM,.string g] w (SxQ P w (bC d gM g)):=by
 have hsz:=pd _ (Gw (enL g) d.tab);obtain⟨p,e,t,rfl,hs0⟩:=hs.s;obtain⟨Ap,cp,rfl,-,-,-⟩:=hs0.1.1.open_;obtain⟨Ae,ce,rfl,-,-,-⟩:=hs0.2.1.1.open_;obtain⟨At,ct,rfl,-,-,-⟩:=hs0.2.2.1.open_;have HS:=Jj (Sxn.first hs0 hn);have HSAME:=Jj (SxS.same hs0 hn);obtain⟨c0,c1,c2,c3,c4,c5⟩:=HS.out.box.cells;obtain⟨f0,f1,f2,f3,f4,f5⟩:=HS.out.out.frz;obtain⟨z0,z1,z2,z3,z4,z5⟩:=HS.out.out.cells;obtain⟨r,hr⟩:∃r:ByteArray×ae,bC d gM g=r:=⟨_,rfl⟩;have HRR:=Jj hr;rw[hr];clear hs hs0 hn hr;unfold gM
 go_enter func11,ntmps11
 go_wp2_with fail
 generalize hW:World.alloc _ _=W at HS c0 c1 c2 c3 c4 c5 f0 f1 f2 f3 f4 f5 z0 z1 z2 z3 z4 z5 ⊢;clear hW;refine(oJ g _ (by omega)).mono ?_;rintro e1 w1 ⟨x1,rfl,o1,b1⟩;obtain⟨A1,k1,rfl,-,-,-⟩:=o1.ints.open_;have H1:=Jj (HS.out.next b1);have HX1:=Jj o1.ints;have HXO1:=Jj (HS.out.tabO o1);have HT1:=Jj H1.out.sta.2.2.1;clear c0 c1 c2 c3 c4 c5 f0 f1 f2 f3 f4 f5 z0 z1 z2 z3 z4 z5 o1 b1;obtain⟨c0,c1,c2,c3,c4,c5⟩:=H1.out.box.cells;obtain⟨f0,f1,f2,f3,f4,f5⟩:=H1.out.out.frz;obtain⟨z0,z1,z2,z3,z4,z5⟩:=H1.out.out.cells
 go_wp2_with fail
 refine(yx _ _ (enL g) d.tab _ HX1.out HT1.out).mono ?_;rintro e2 w2 ⟨x2,rfl,o2,b2⟩;have H2:=Jj (H1.out.next b2);have HX2:=Jj o2.read;have HL2:=Jj o2.2.1;obtain⟨A2,k2,rfl,-,-,-⟩:=o2.read;clear c0 c1 c2 c3 c4 c5 f0 f1 f2 f3 f4 f5 z0 z1 z2 z3 z4 z5 o2 b2;cases hq:enK g
 ·have HQ:=Jj hq;clear hq;obtain⟨c0,c1,c2,c3,c4,c5⟩:=H2.out.box.cells;obtain⟨f0,f1,f2,f3,f4,f5⟩:=H2.out.out.frz;obtain⟨z0,z1,z2,z3,z4,z5⟩:=H2.out.out.cells;have HB:=Jj (show ∀X,Below w2.heap.size w2 X→(X.cell? ⟨w.heap.size,0,none⟩=some (.slice Ap d.poly.length cp)∧X.cell? ⟨w.heap.size,1,none⟩=some (.slice Ae d.eng.length ce)∧X.cell? ⟨w.heap.size,2,none⟩=some (.slice At d.tab.length ct)∧X.cell? ⟨w.heap.size,3,none⟩=some (.int .i64 d.rw)∧X.cell? ⟨w.heap.size,4,none⟩=some (.int .i64 d.ac)∧X.cell? ⟨w.heap.size,5,none⟩=some (.int .i64 d.wi)) from fun X h=>(H2.out.next h).box.cells);have tok2:True:=trivial;have tok3:True:=trivial
  go_wp2_with fail
  refine wp_region_held_drew (S:=(fun w'=>w'.cell? ⟨w.heap.size,0,none⟩=some (.slice Ap d.poly.length cp)∧w'.cell? ⟨w.heap.size,1,none⟩=some (.slice Ae d.eng.length ce)∧w'.cell? ⟨w.heap.size,2,none⟩=some (.slice At d.tab.length ct)∧w'.cell? ⟨w.heap.size,3,none⟩=some (.int .i64 d.rw)∧w'.cell? ⟨w.heap.size,4,none⟩=some (.int .i64 d.ac)∧w'.cell? ⟨w.heap.size,5,none⟩=some (.int .i64 d.wi))) (by kernel_rfl) ?_ (fun hHeld=>?_)
  ·exact⟨c0,c1,c2,c3,c4,c5⟩
  refine wpAnyH_take (i:=0) (v:=?v0) rfl (by kernel_rfl) (by kernel_rfl) (by kernel_rfl) (fun _ _ _ h=>h) (Or.inl ⟨by kernel_rfl,?hy0⟩) (by assumption) ?rest0
  case hy0=>(intro w' hSw;(try dsimp only at hSw);go_simp;all_goals with_reducible rfl)
  try simp only[Act.put,Jp,Jo,Jn,Jm,Jk,Jl]
  refine wpAnyH_take (i:=1) (v:=?v1) rfl (by kernel_rfl) (by kernel_rfl) (by kernel_rfl) (fun _ _ _ h=>h) (Or.inl ⟨by kernel_rfl,?hy1⟩) (by assumption) ?rest1
  case hy1=>(intro w' hSw;(try dsimp only at hSw);go_simp;all_goals with_reducible rfl)
  try simp only[Act.put,Jp,Jo,Jn,Jm,Jk,Jl]
  refine wpAnyH_take (i:=2) (v:=?v2) rfl (by kernel_rfl) (by kernel_rfl) (by kernel_rfl) (fun _ _ _ h=>h) (Or.inl ⟨by kernel_rfl,?hy2⟩) (by assumption) ?rest2
  case hy2=>(intro w' hSw;(try dsimp only at hSw);go_simp;all_goals with_reducible rfl)
  try simp only[Act.put,Jp,Jo,Jn,Jm,Jk,Jl]
  refine wpAnyH_take (i:=3) (v:=undef) rfl (by kernel_rfl) (by kernel_rfl) (by kernel_rfl) (fun _ _ _ h=>h) (Or.inr ⟨by kernel_rfl,rfl⟩) (by assumption) ?_
  try simp only[Act.put,Jp,Jo,Jn,Jm,Jk,Jl]
  refine wpAnyH_take (i:=4) (v:=?v4) rfl (by kernel_rfl) (by kernel_rfl) (by kernel_rfl) (fun _ _ _ h=>h) (Or.inl ⟨by kernel_rfl,?hy4⟩) (by assumption) ?rest4
  case hy4=>(intro w' hSw;(try dsimp only at hSw);go_simp;all_goals with_reducible rfl)
  try simp only[Act.put,Jp,Jo,Jn,Jm,Jk,Jl]
  refine wpAnyH_take (i:=5) (v:=?v5) rfl (by kernel_rfl) (by kernel_rfl) (by kernel_rfl) (fun _ _ _ h=>h) (Or.inl ⟨by kernel_rfl,?hy5⟩) (by assumption) ?rest5
  case hy5=>(intro w' hSw;(try dsimp only at hSw);go_simp;all_goals with_reducible rfl)
  try simp only[Act.put,Jp,Jo,Jn,Jm,Jk,Jl]
  refine wpAnyH_ready (rs:=[6]) (by kernel_rfl) (by simp) ?_;refine AllReadyH.cons rfl (fun K hK=>?_) AllReadyH.nil
  ((try go_simp);go_at_call 44;have _t:=tok2;go_loud (refine(ld _ (cl (enL g) d.tab) _ (by first|exact HX2.out|exact HX2.out.bel (ah _)) HL2.out).mono ?_;rintro e7 w7 ⟨rfl,b7⟩;replace b7:Below w2.heap.size w2 w7:=(by first|exact b7|exact aa (ah _) b7);have B7:=Jj b7;have G7:=Jj (H2.out.next b7);obtain⟨c0,c1,c2,c3,c4,c5⟩:=HB.out _ b7;obtain⟨f0,f1,f2,f3,f4,f5⟩:=G7.out.out.frz;obtain⟨z0,z1,z2,z3,z4,z5⟩:=G7.out.out.cells;clear tok2 b7;(try dsimp only)))
  refine hK.out _ _ ?_ (fun hHeld=>?_)
  ·first|exact⟨c0,c1,c2,c3,c4,c5⟩|exact hHeld
  clear hK K
  try simp only[Act.put,Jp,Jo,Jn,Jm,Jk,Jl]
  refine wpAnyH_ready (rs:=[7]) (by kernel_rfl) (by simp) ?_;refine AllReadyH.cons rfl (fun K hK=>?_) AllReadyH.nil
  ((try go_simp);go_at_call 29;have _t:=tok3;go_loud (refine(dD (false) (cm (cl (enL g) d.tab)) _ (by omega)).mono ?_;rintro e8 w8 ⟨rfl,rfl⟩;clear tok3;(try dsimp only)))
  refine hK.out _ _ ?_ (fun hHeld=>?_)
  ·first|exact⟨c0,c1,c2,c3,c4,c5⟩|exact hHeld
  clear hK K
  try simp only[Act.put,Jp,Jo,Jn,Jm,Jk,Jl]
  refine wpAnyH_ready (rs:=[8]) (by kernel_rfl) (by simp) ?_;refine AllReadyH.cons rfl (fun K hK=>?_) AllReadyH.nil
  go_simp
  refine hK.out _ _ ?_ (fun hHeld=>?_)
  ·first|exact G7.out.kept (.slice Ap d.poly.length cp) (.slice Ae d.eng.length ce) (.slice At d.tab.length ct) d|exact hHeld
  clear hK K
  try simp only[Act.put,Jp,Jo,Jn,Jm,Jk,Jl]
  refine wpAnyH_take (i:=9) (v:=?v9) rfl (by kernel_rfl) (by kernel_rfl) (by kernel_rfl) (fun _ _ _ h=>h) (Or.inl ⟨by kernel_rfl,?hy9⟩) (by assumption) ?rest9
  case hy9=>(intro w' hSw;(try dsimp only at hSw);go_simp;all_goals with_reducible rfl)
  try simp only[Act.put,Jp,Jo,Jn,Jm,Jk,Jl]
  refine wpAnyH_done (by kernel_rfl) ?_ _;go_wp2;obtain⟨kk,ss,bb⟩:=G7.out.done G7.out.sta;generalize World.setCell _ _ _=w9 at kk ss bb ⊢;obtain⟨x0,x1,x2,x3,x4,x5⟩:=kk.cells;refine bodyPost_ret (v:=.tuple #[.agg #[(.slice Ap d.poly.length cp),(.slice Ae d.eng.length ce),(.slice At d.tab.length ct),.int .i64 d.rw,.int .i64 d.ac,.int .i64 d.wi],.string (ak (cm (cl (enL g) d.tab)) (false))]) (by simp[results,results11,go_sem,x0,x1,x2,x3,x4,x5]) rfl ?_;rw[show r=(ak (cm (cl (enL g) d.tab)) (false),d) from HRR.out.symm.trans ((jk d g).trans (by rw[Cs,HQ.out];rfl))];exact⟨_,rfl,ss,bb⟩
 ·have HQ:=Jj hq;clear hq;obtain⟨c0,c1,c2,c3,c4,c5⟩:=H2.out.box.cells;obtain⟨f0,f1,f2,f3,f4,f5⟩:=H2.out.out.frz;obtain⟨z0,z1,z2,z3,z4,z5⟩:=H2.out.out.cells;have HB:=Jj (show ∀X,Below w2.heap.size w2 X→(X.cell? ⟨w.heap.size,0,none⟩=some (.slice Ap d.poly.length cp)∧X.cell? ⟨w.heap.size,1,none⟩=some (.slice Ae d.eng.length ce)∧X.cell? ⟨w.heap.size,2,none⟩=some (.slice At d.tab.length ct)∧X.cell? ⟨w.heap.size,3,none⟩=some (.int .i64 d.rw)∧X.cell? ⟨w.heap.size,4,none⟩=some (.int .i64 d.ac)∧X.cell? ⟨w.heap.size,5,none⟩=some (.int .i64 d.wi)) from fun X h=>(H2.out.next h).box.cells);have tok2:True:=trivial;have tok3:True:=trivial
  go_wp2_with fail
  go_region_held3 (fun w'=>w'.cell? ⟨w.heap.size,0,none⟩=some (.slice Ap d.poly.length cp)∧w'.cell? ⟨w.heap.size,1,none⟩=some (.slice Ae d.eng.length ce)∧w'.cell? ⟨w.heap.size,2,none⟩=some (.slice At d.tab.length ct)∧w'.cell? ⟨w.heap.size,3,none⟩=some (.int .i64 d.rw)∧w'.cell? ⟨w.heap.size,4,none⟩=some (.int .i64 d.ac)∧w'.cell? ⟨w.heap.size,5,none⟩=some (.int .i64 d.wi)) (first|with_reducible exact⟨c0,c1,c2,c3,c4,c5⟩|with_reducible exact G7.out.kept (.slice Ap d.poly.length cp) (.slice Ae d.eng.length ce) (.slice At d.tab.length ct) d|exact⟨c0,c1,c2,c3,c4,c5⟩|exact G7.out.kept (.slice Ap d.poly.length cp) (.slice Ae d.eng.length ce) (.slice At d.tab.length ct) d|go_keep)
  (first
  |((try go_simp);go_at_call 44;have _t:=tok2;go_loud (refine(ld _ (cl (enL g) d.tab) _ (by first|exact HX2.out|exact HX2.out.bel (ah _)) HL2.out).mono ?_;rintro e7 w7 ⟨rfl,b7⟩;replace b7:Below w2.heap.size w2 w7:=(by first|exact b7|exact aa (ah _) b7);have B7:=Jj b7;have G7:=Jj (H2.out.next b7);obtain⟨c0,c1,c2,c3,c4,c5⟩:=HB.out _ b7;obtain⟨f0,f1,f2,f3,f4,f5⟩:=G7.out.out.frz;obtain⟨z0,z1,z2,z3,z4,z5⟩:=G7.out.out.cells;clear tok2 b7;(try dsimp only)))
  |((try go_simp);go_at_call 29;have _t:=tok3;go_loud (refine(dD (bt (enL g) d.tab) (cm (cl (enL g) d.tab)) _ (by omega)).mono ?_;rintro e8 w8 ⟨rfl,rfl⟩;clear tok3;(try dsimp only)))
  |fail)
  all_goals
   go_wp2;obtain⟨kk,ss,bb⟩:=G7.out.done G7.out.sta;generalize World.setCell _ _ _=w9 at kk ss bb ⊢;obtain⟨x0,x1,x2,x3,x4,x5⟩:=kk.cells;refine bodyPost_ret (v:=.tuple #[.agg #[(.slice Ap d.poly.length cp),(.slice Ae d.eng.length ce),(.slice At d.tab.length ct),.int .i64 d.rw,.int .i64 d.ac,.int .i64 d.wi],.string (ak (cm (cl (enL g) d.tab)) (bt (enL g) d.tab))]) (by simp[results,results11,go_sem,x0,x1,x2,x3,x4,x5]) rfl ?_;rw[show r=(ak (cm (cl (enL g) d.tab)) (bt (enL g) d.tab),d) from HRR.out.symm.trans ((jk d g).trans (by rw[Cs,HQ.out];rfl))];exact⟨_,rfl,ss,bb⟩
theorem yJ (P:Nat→Prop) (v:Value) (d:ae) (g:ByteArray) (w:World) (hg:g.size≤1000000) (ht:d.tab.length≤60) (hs:SxR P w v d) (hn:SxN P w):Calls prog 11 #[v,.string iY,.string g] w (SxQ P w (bC d iY g)):=by
 obtain⟨p,e,t,rfl,hs0⟩:=hs.s;obtain⟨Ap,cp,rfl,-,-,-⟩:=hs0.1.1.open_;obtain⟨Ae,ce,rfl,-,-,-⟩:=hs0.2.1.1.open_;obtain⟨At,ct,rfl,-,-,-⟩:=hs0.2.2.1.open_;have HS:=Jj (Sxn.first hs0 hn);have HSAME:=Jj (SxS.same hs0 hn);obtain⟨c0,c1,c2,c3,c4,c5⟩:=HS.out.box.cells;obtain⟨f0,f1,f2,f3,f4,f5⟩:=HS.out.out.frz;obtain⟨z0,z1,z2,z3,z4,z5⟩:=HS.out.out.cells;obtain⟨r,hr⟩:∃r:ByteArray×ae,bC d iY g=r:=⟨_,rfl⟩;have HRR:=Jj hr;rw[hr];clear hs hs0 hn hr;unfold iY
 go_enter func11,ntmps11
 go_wp2_with fail
 generalize hW:World.alloc _ _=W at HS c0 c1 c2 c3 c4 c5 f0 f1 f2 f3 f4 f5 z0 z1 z2 z3 z4 z5 ⊢;clear hW;refine(AV g _ (by omega)).mono ?_;rintro e1 w1 ⟨x1,rfl,o1,b1⟩;have H1:=Jj (HS.out.next b1);have HX1:=Jj o1.read;have HL1:=Jj o1.2.1;have HT1:=Jj H1.out.sta.2.2.1;obtain⟨A1,k1,rfl,-,-,-⟩:=o1.read;clear c0 c1 c2 c3 c4 c5 f0 f1 f2 f3 f4 f5 z0 z1 z2 z3 z4 z5 o1 b1;obtain⟨c0,c1,c2,c3,c4,c5⟩:=H1.out.box.cells;obtain⟨f0,f1,f2,f3,f4,f5⟩:=H1.out.out.frz;obtain⟨z0,z1,z2,z3,z4,z5⟩:=H1.out.out.cells
 go_wp2_with fail
 refine(yv _ _ d.tab (peL g) _ HT1.out HX1.out HL1.out).mono ?_;rintro e2 w2 ⟨x2,rfl,o2,b2⟩;obtain⟨A2,k2,rfl,-,-,-⟩:=o2.ints.open_;have H2:=Jj (H1.out.next b2);have HX2:=Jj o2.ints;have HXO2:=Jj (H1.out.tabO o2);clear c0 c1 c2 c3 c4 c5 f0 f1 f2 f3 f4 f5 z0 z1 z2 z3 z4 z5 o2 b2;cases hq:iP g
 ·have HQ:=Jj hq;clear hq;obtain⟨c0,c1,c2,c3,c4,c5⟩:=H2.out.box.cells;obtain⟨f0,f1,f2,f3,f4,f5⟩:=H2.out.out.frz;obtain⟨z0,z1,z2,z3,z4,z5⟩:=H2.out.out.cells
  go_wp2_with fail
  have HM:=my _ _ _ d (apL d.tab (peL g)) (false) w2 H2.out.sta.r HX2.out HXO2.out (Js (sC d.tab (peL g) ht) (by omega)) H2.out.new;obtain⟨q,hq⟩:∃q:ByteArray×ae,(ak (aw (apL d.tab (peL g))) ((false)&&ag (apL d.tab (peL g))),aR d (apL d.tab (peL g)) (false))=q:=⟨_,rfl⟩;have HRQ:=Jj (show r=q from HRR.out.symm.trans (((jZ d g).trans (by rw[show ee d g=false by unfold ee;rw[HQ.out];rfl])).trans hq));rw[hq] at HM;clear hq;refine HM.mono ?_;rintro e3 w3 ⟨v3,rfl,s3,b3⟩;have H3:=Jj (H2.out.next b3);obtain⟨p2,e2,t2,rfl,sq⟩:=s3.s;obtain⟨Ap2,cp2,rfl,-,-,-⟩:=sq.1.1.open_;obtain⟨Ae2,ce2,rfl,-,-,-⟩:=sq.2.1.1.open_;obtain⟨At2,ct2,rfl,-,-,-⟩:=sq.2.2.1.open_;have SQ:=Jj sq;clear sq;clear b3 HM c0 c1 c2 c3 c4 c5 f0 f1 f2 f3 f4 f5 z0 z1 z2 z3 z4 z5;obtain⟨c0,c1,c2,c3,c4,c5⟩:=H3.out.box.cells;obtain⟨f0,f1,f2,f3,f4,f5⟩:=H3.out.out.frz;obtain⟨z0,z1,z2,z3,z4,z5⟩:=H3.out.out.cells;go_wp2;obtain⟨kk,ss,bb⟩:=H3.out.done SQ.out;generalize World.setCell _ _ _=w9 at kk ss bb ⊢;obtain⟨x0,x1,x2,x3,x4,x5⟩:=kk.cells;refine bodyPost_ret (v:=.tuple #[.agg #[(.slice Ap2 q.2.poly.length cp2),(.slice Ae2 q.2.eng.length ce2),(.slice At2 q.2.tab.length ct2),.int .i64 q.2.rw,.int .i64 q.2.ac,.int .i64 q.2.wi],.string q.1]) (by simp[results,results11,go_sem,x0,x1,x2,x3,x4,x5]) rfl ?_;rw[HRQ.out];exact⟨_,rfl,ss,bb⟩
 ·have HQ:=Jj hq;clear hq;obtain⟨c0,c1,c2,c3,c4,c5⟩:=H2.out.box.cells;obtain⟨f0,f1,f2,f3,f4,f5⟩:=H2.out.out.frz;obtain⟨z0,z1,z2,z3,z4,z5⟩:=H2.out.out.cells
  go_wp2_with fail
  have HM:=my _ _ _ d (apL d.tab (peL g)) (eX d.tab (peL g)) w2 H2.out.sta.r HX2.out HXO2.out (Js (sC d.tab (peL g) ht) (by omega)) H2.out.new;obtain⟨q,hq⟩:∃q:ByteArray×ae,(ak (aw (apL d.tab (peL g))) ((eX d.tab (peL g))&&ag (apL d.tab (peL g))),aR d (apL d.tab (peL g)) (eX d.tab (peL g)))=q:=⟨_,rfl⟩;have HRQ:=Jj (show r=q from HRR.out.symm.trans (((jZ d g).trans (by rw[show ee d g=eX d.tab (peL g) by unfold ee;rw[HQ.out];rfl])).trans hq));rw[hq] at HM;clear hq;refine HM.mono ?_;rintro e3 w3 ⟨v3,rfl,s3,b3⟩;have H3:=Jj (H2.out.next b3);obtain⟨p2,e2,t2,rfl,sq⟩:=s3.s;obtain⟨Ap2,cp2,rfl,-,-,-⟩:=sq.1.1.open_;obtain⟨Ae2,ce2,rfl,-,-,-⟩:=sq.2.1.1.open_;obtain⟨At2,ct2,rfl,-,-,-⟩:=sq.2.2.1.open_;have SQ:=Jj sq;clear sq;clear b3 HM c0 c1 c2 c3 c4 c5 f0 f1 f2 f3 f4 f5 z0 z1 z2 z3 z4 z5;obtain⟨c0,c1,c2,c3,c4,c5⟩:=H3.out.box.cells;obtain⟨f0,f1,f2,f3,f4,f5⟩:=H3.out.out.frz;obtain⟨z0,z1,z2,z3,z4,z5⟩:=H3.out.out.cells;go_wp2;obtain⟨kk,ss,bb⟩:=H3.out.done SQ.out;generalize World.setCell _ _ _=w9 at kk ss bb ⊢;obtain⟨x0,x1,x2,x3,x4,x5⟩:=kk.cells;refine bodyPost_ret (v:=.tuple #[.agg #[(.slice Ap2 q.2.poly.length cp2),(.slice Ae2 q.2.eng.length ce2),(.slice At2 q.2.tab.length ct2),.int .i64 q.2.rw,.int .i64 q.2.ac,.int .i64 q.2.wi],.string q.1]) (by simp[results,results11,go_sem,x0,x1,x2,x3,x4,x5]) rfl ?_;rw[HRQ.out];exact⟨_,rfl,ss,bb⟩
end Go.Proofs.YtfmjklgfpiffbaaGreatDoor
