/-
  Parts of the proof of one statement, merged: EsTd EsEn EsMe EsXp EsX EsXb EsXc EsXd EsZ LawRS.
-/
import Derived.Test.YtfmjklgfpiffbaaGreatDoorQ35
namespace Go.Proofs.YtfmjklgfpiffbaaGreatDoor
open Go.RowKit Go.Proofs.Tryz
set_option linter.unusedVariables false
set_option linter.unusedSimpArgs false
set_option maxRecDepth 100000
set_option maxHeartbeats 8000000
attribute [local go_sem ↓] Go.wp_at_zero Go.wp_at_succ
theorem yF {w:World} {base base2:Nat} {v u:Value} {es:List Etm} {l:List ByteArray} (hv:EtO w base v es) (hu:ak w base2 u l):∀k,u.ownBlock=some k→v.ownBlock≠some k:=by
 intro k hk e
 rcases hv.1.2 with ⟨rfl,-⟩|⟨g,cap,cur,rfl,-,hh,-⟩
 ·cases e
 ·injection e with e
  subst e
  rcases hu.1.2 with ⟨rfl,-⟩|⟨g2,cap2,cur2,rfl,-,hh2,-⟩
  ·cases hk
  ·injection hk with hk
   subst hk
   rw[hh] at hh2
   injection hh2 with hh2
   injection hh2 with _ hh2
   exact absurd hh2 (by decide)
theorem wL {w:World} {base base2:Nat} {v u:Value} {es:List Int} {l:List ByteArray} (hv:Own w base v es) (hu:ak w base2 u l):∀k,u.ownBlock=some k→v.ownBlock≠some k:=by
 intro k hk e
 rcases hv.1.2 with ⟨rfl,-⟩|⟨g,cap,cur,rfl,-,hh,-⟩
 ·cases e
 ·injection e with e
  subst e
  rcases hu.1.2 with ⟨rfl,-⟩|⟨g2,cap2,cur2,rfl,-,hh2,-⟩
  ·cases hk
  ·injection hk with hk
   subst hk
   rw[hh] at hh2
   injection hh2 with hh2
   injection hh2 with _ hh2
   exact absurd hh2 (by decide)
theorem DQ {ls:List ByteArray} {k:Nat} (h:k<ls.length):ls.take (k+1)=ls.take k++[sat ls k]:=by
 rw[List.take_add_one,List.getElem?_eq_getElem h]
 unfold sat
 simp[List.getD,h]
theorem Gy {ls:List ByteArray} {k:Nat} (h:k<ls.length) (hq:etT (sat ls k)=false):fj ls=false:=by
 unfold fj
 rw[List.all_eq_false]
 exact⟨sat ls k,cY ls k h,by rw[hq];simp⟩
theorem GI {ls:List ByteArray} (h:∀j,j<ls.length→etT (sat ls j)=true):fj ls=true:=by
 unfold fj
 rw[List.all_eq_true]
 intro x hx
 obtain⟨j,hj,rfl⟩:=List.getElem_of_mem hx
 have:=h j hj
 unfold sat at this
 simpa[List.getD,hj] using this
theorem Hp {t:ByteArray} (h:fj (au 59 t)=true):t≠⟨#[]⟩:=by
 rintro rfl
 exact absurd h (by decide)
theorem yX (t:ByteArray) (w:World) (ht:t.size≤1048575):
  Calls prog 45 #[.string t] w (EtQ w (peL t) (iH t)):=by
 have O0:=Hy (EtO.empty w w.heap.size (Ig _))
 have B0:=Hy (ab w (.cells #[] 111))
 go_enter func45,ntmps45
 by_cases h45:t=⟨#[45]⟩
 ·subst h45
  have hp:iH ⟨#[45]⟩=true∧peL ⟨#[45]⟩=[]:=⟨by unfold iH;simp,by unfold peL;simp⟩
  have HP:=Hy hp
  clear hp
  go_wp2
  go_ret2
  exact⟨_,by rw[HP.out.1];rfl,by rw[HP.out.2];exact O0.out,B0.out⟩
 ·have H45:=Hy h45
  have z1:(t.toList==[45])=false:=by
   have:=gJ h45
   rw[show(⟨#[45]⟩:ByteArray).toList=[45] from by simp] at this
   simpa using this
  clear h45
  go_wp2_with fail
  refine(ik t 59 _ (by omega)).mono ?_
  rintro e w2 ⟨r,rfl,o,b⟩
  have HO:=Hy (O0.out.bel b)
  have HB:=Hy (aa B0.out b)
  have HP:=Hy o
  have hcl:=fi 59 t
  have hc1:=Gg t
  obtain⟨ls,hls⟩:∃ls,au 59 t=ls:=⟨_,rfl⟩
  have HLS:=Hy hls
  rw[hls] at HP hcl hc1
  obtain⟨A,c,rfl,hlc,-,-⟩:=HP.out.strs.open_
  have hz0:=HP.out.strs
  clear O0 B0 o b hls hz0
  go_wp2_with fail
  go_loopw [4,6] (fun v i wr=>∃k:Nat,k≤ls.length∧k≤61∧i=.int .i64 k∧(∀j,j<k→etT (sat ls j)=true)∧EtO wr w.heap.size v ((ls.take k).map etV)∧ak wr (w.heap.size+1) (.slice A ls.length c) ls∧Below w.heap.size w wr) (fun _ i _=>61-(intOf i).toNat)
  case atStart=>exact⟨0,Ip _,Ip _,rfl,fun j hj=>absurd hj (Nat.not_lt_zero _),HO.out,by simpa using HP.out,HB.out⟩
  case round=>
   obtain⟨k,hk,hk61,rfl,hok,hO,hb,hB⟩:=hrel
   have H:=Hy (Ie hok (Ie hO (Ie hb hB)))
   have hz:=hB.size
   have hlm:((ls.take k).map etV).length=k:=by rw[List.length_map,List.length_take];omega
   clear hok hO hb hB HO
   by_cases hkn:k<ls.length
   ·have hki:(k:Int)<(ls.length:Int):=by omega
    by_cases hk60:k≤60
    ·have hk6:(k:Int)≤60:=by omega
     obtain⟨A6,c6,e6,-,-,hrd⟩:=H.out.2.2.1.strs.open_
     cases e6
     obtain⟨b,o,rfl,hbb,hcell⟩:=hrd.strs (Nat.lt_of_le_of_lt (Ip _) hkn)
     have hck:=hcell k hkn
     have hss:(sat ls k).size≤1048576:=Ih (cT (c:=59) (s:=t) (by rw[HLS.out];exact cY ls k hkn)) (by omega)
     have HBAD:=Hy (fun h=>Gy hkn h)
     have HOK:=Hy (fun h=>cO H.out.1 (show(fun j=>etT (sat ls j)=true) k from h))
     have HTK:=Hy (show(ls.take (k+1)).map etV=(ls.take k).map etV++[etV (sat ls k)] by rw[DQ hkn,List.map_append];rfl)
     obtain⟨es,hes⟩:∃es,(ls.take k).map etV=es:=⟨_,rfl⟩
     have HO:=Hy (show EtO wr w.heap.size _ es by rw[←hes];exact H.out.2.1)
     rw[hes] at hlm HTK
     obtain⟨Z,hZ⟩:∃Z,sat ls k=Z:=⟨_,rfl⟩
     rw[hZ] at hck hss HBAD HOK HTK
     clear hcell hrd hes hZ
     go_wp2_with fail
     refine(EG Z _ hss).mono ?_
     rintro e w3 ⟨x1,x2,x3,rfl,hv3,hin,b3⟩
     have B3:=Hy (aa H.out.2.2.2 b3)
     have HIN:=Hy hin
     have HV3:=Hy hv3
     have HO3:=Hy (HO.out.bel b3)
     have HP3:=Hy (H.out.2.2.1.bel b3)
     have hz3:=B3.out.size
     clear b3 hin hv3
     cases hq:etT Z
     ·have HZ:=Hy (qz (t:=t) H45.out (.inl (by rw[HLS.out];exact HBAD.out hq)))
      have EME:=Hy (EtO.empty (w3.alloc (.cells #[.int .i64 x1,.int .i64 x2,.int .i64 x3] 111)) w.heap.size (by simp;omega))
      rw[Iu] at EME
      clear hq
      go_wp2
      go_ret2
      exact⟨_,by rw[HZ.out.1];rfl,by rw[HZ.out.2];exact EME.out,by first|exact aa (aa B3.out (ab _ _)) (ab _ _)|exact aa B3.out (ab _ _)⟩
     ·have HQ:=Hy (HOK.out hq)
      have HVZ:=Hy (HV3.out hq)
      have b4:Below w3.heap.size w3 (w3.alloc (.cells #[.int .i64 x1,.int .i64 x2,.int .i64 x3] 111)):=ab _ _
      have K4:=Blk.new w3 111 [.int .i64 x1,.int .i64 x2,.int .i64 x3]
      obtain⟨t0,t1,t2⟩:=K4.three
      have B4:=Hy (aa B3.out b4)
      have HO4:=Hy (HO3.out.bel b4)
      have HP4:=Hy (HP3.out.bel b4)
      clear hq b4 K4
      have Q1:=HO4.out.bel (ab (w3.alloc (.cells #[.int .i64 x1,.int .i64 x2,.int .i64 x3] 111)) (.cells #[.int .i64 x1,.int .i64 x2,.int .i64 x3] 111))
      have Q2:Blk ((w3.alloc (.cells #[.int .i64 x1,.int .i64 x2,.int .i64 x3] 111)).alloc (.cells #[.int .i64 x1,.int .i64 x2,.int .i64 x3] 111)) (w3.heap.size+1) 111 [.int .i64 x1,.int .i64 x2,.int .i64 x3]:=Blk.newG _ _ [.int .i64 x1,.int .i64 x2,.int .i64 x3] _ (by simp)
      have Q3:es.length+1≤1048576:=by omega
      have Q4:w.heap.size≤((w3.alloc (.cells #[.int .i64 x1,.int .i64 x2,.int .i64 x3] 111)).alloc (.cells #[.int .i64 x1,.int .i64 x2,.int .i64 x3] 111)).heap.size:=by simp;omega
      have Q5:=aa B4.out (ab (w3.alloc (.cells #[.int .i64 x1,.int .i64 x2,.int .i64 x3] 111)) (.cells #[.int .i64 x1,.int .i64 x2,.int .i64 x3] 111))
      have Q6:=HP4.out.bel (ab (w3.alloc (.cells #[.int .i64 x1,.int .i64 x2,.int .i64 x3] 111)) (.cells #[.int .i64 x1,.int .i64 x2,.int .i64 x3] 111))
      have Q7:=Hy (Ie Q1 (Ie Q2 (Ie Q3 (Ie Q4 (Ie Q5 Q6)))))
      clear Q1 Q2 Q3 Q4 Q5 Q6
      go_wp2_with (at_builtin;go_loud (refine GC rfl (.tmp 36) (.tmp 38) (by rfl) w.heap.size _ es (by rfl) (by exact Q7.out.1) _ _ (x1,x2,x3) (by rfl) (by exact Q7.out.2.1) HIN.out Q7.out.2.2.1 Q7.out.2.2.2.1 ?_;intro v6 w6 ho6 hg6 hat6;have B6:=Hy (jZ Q7.out.2.2.2.2.1 Q7.out.1 hg6);have P6:=Hy (Q7.out.2.2.2.2.2.apart hg6 (yF Q7.out.1 Q7.out.2.2.2.2.2));have O6:=Hy ho6;clear ho6 hg6 hat6))
      go_roundw
      case rel=>exact⟨k+1,hkn,by omega,by go_num,HQ.out,by rw[HTK.out,←HVZ.out];exact O6.out,P6.out,B6.out⟩
      case measure=>simp[intOf];omega
    ·obtain rfl:k=61:=by omega
     have hl61:61<ls.length:=hkn
     have HES:=Hy (show dt ((ls.take 61).map etV)=false by
      rw[Bool.eq_false_iff]
      intro h
      have:=m8 h
      omega)
     have HES2:=Hy (show dt (ls.map etV)=false by
      rw[Bool.eq_false_iff]
      intro h
      have:=m8 h
      rw[List.length_map] at this
      omega)
     have HZ:=Hy (qz (t:=t) H45.out (.inr (by rw[HLS.out];exact HES2.out)))
     obtain⟨es,hes⟩:∃es,(ls.take 61).map etV=es:=⟨_,rfl⟩
     have HO:=Hy (show EtO wr w.heap.size _ es by rw[←hes];exact H.out.2.1)
     rw[hes] at HES hlm
     clear hes
     by_cases hte:t=⟨#[]⟩
     ·exact absurd (show(61:Nat)<ls.length from hl61) (by rw[←HLS.out,hte];decide)
     ·have hte2:(t.toList==[])=false:=by
       have:=gJ hte
       rw[show(⟨#[]⟩:ByteArray).toList=[] from by simp] at this
       simpa using this
      have hte3:t.toList.isEmpty=false:=by
       cases hc:t.toList with
       |nil=>rw[hc] at hte2;simp at hte2
       |cons a r=>rfl
      have hte4:=gJ (x:=⟨#[]⟩) (y:=t) (fun e=>hte e.symm)
      clear hte
      go_wp2_with fail
      refine(kI _ es _ HO.out.read (by omega)).mono ?_
      rintro e w5 ⟨rfl,b5⟩
      rw[show cz es=⟨#[]⟩ by simp[cz,HES.out]]
      have B5:=Hy (aa H.out.2.2.2 b5)
      have hz5:=B5.out.size
      clear b5
      go_wp2
      go_ret2
      exact⟨_,by rw[HZ.out.1];rfl,by rw[HZ.out.2];exact EtO.empty _ _ hz5,aa B5.out (ab _ _)⟩
   ·obtain rfl:k=ls.length:=by omega
    have HPA:=Hy (show fj (au 59 t)=true by rw[HLS.out];exact GI H.out.1)
    have HTX:=Hy (Ev HPA.out)
    have hki:¬(ls.length:Int)<(ls.length:Int):=by omega
    rw[List.take_length] at hlm
    obtain⟨es,hes⟩:∃es,ls.map etV=es:=⟨_,rfl⟩
    have HES:=Hy hes
    have HO:=Hy (show EtO wr w.heap.size _ es by rw[←hes];have:=H.out.2.1;rwa[List.take_length] at this)
    rw[hes] at hlm
    clear hes
    cases hq:dt es
    ·have HZ:=Hy (qz (t:=t) H45.out (.inr (by rw[HLS.out,HES.out];exact hq)))
     have HS:=Hy (show cz es=⟨#[]⟩ by simp[cz,hq])
     have hte:=Hp HPA.out
     have hte2:(t.toList==[])=false:=by
      have:=gJ hte
      rw[show(⟨#[]⟩:ByteArray).toList=[] from by simp] at this
      simpa using this
     have hte3:t.toList.isEmpty=false:=by
      cases hc:t.toList with
      |nil=>rw[hc] at hte2;simp at hte2
      |cons a r=>rfl
     have hte4:=gJ (x:=⟨#[]⟩) (y:=t) (fun e=>hte e.symm)
     clear hq hte
     go_wp2_with fail
     refine(kI _ es _ HO.out.read (by omega)).mono ?_
     rintro e w5 ⟨rfl,b5⟩
     rw[HS.out]
     have B5:=Hy (aa H.out.2.2.2 b5)
     have hz5:=B5.out.size
     clear b5
     go_wp2
     go_ret2
     exact⟨_,by rw[HZ.out.1];rfl,by rw[HZ.out.2];exact EtO.empty _ _ hz5,aa B5.out (ab _ _)⟩
    ·have HZ:=Hy (Ba (t:=t) H45.out HPA.out (by rw[HLS.out,HES.out];exact hq))
     have HS:=Hy (show cz es=t by
      rw[←HTX.out,HLS.out,HES.out,cz,if_pos hq,if_neg]
      intro e
      have h0:es.length=0:=by rw[e];rfl
      omega)
     clear hq
     go_wp2_with fail
     refine(kI _ es _ HO.out.read (by omega)).mono ?_
     rintro e w5 ⟨rfl,b5⟩
     rw[HS.out]
     have O5:=Hy (HO.out.bel b5)
     have B5:=Hy (aa H.out.2.2.2 b5)
     clear b5
     go_wp2
     go_ret2
     exact⟨_,by rw[HZ.out.1];rfl,by rw[HZ.out.2,HLS.out,HES.out];exact O5.out,B5.out⟩
def fJ (s:ByteArray):Int:=if bL s=12 then -1 else at_ bV (bL s)
theorem tg:cM=db:=rfl
theorem AP {s:ByteArray} (h:s∉db):bL s=12:=by
 obtain⟨c1,c2,c3⟩:=jp s
 rcases Nat.lt_or_ge (bL s) 12 with hj|hj
 ·exact absurd (by rw[←tg,←c3 hj];exact cY cM _ hj) h
 ·omega
theorem BO {s:ByteArray} (h:bL s<12):s∈db:=by
 rw[←tg,←(jp s).2.2 h]
 exact cY cM _ h
theorem lW (s:ByteArray) (w:World):
  Calls prog 48 #[.string s] w fun e w'=>e=.returned (.int .i64 (fJ s))∧w=w':=by
 by_cases h:s∈db
 ·simp only[db,Iq,Ir,or_false] at h
  rcases h with rfl|rfl|rfl|rfl|rfl|rfl|rfl|rfl|rfl|rfl|rfl|rfl
  all_goals
   first|rw[show fJ eQ=2 by decide]|rw[show fJ eO=1 by decide]|rw[show fJ dK=2 by decide]|rw[show fJ jf=1 by decide]|rw[show fJ fY=4 by decide]|rw[show fJ dn=1 by decide]|rw[show fJ eM=2 by decide]|rw[show fJ dN=3 by decide]|rw[show fJ gh=1 by decide]|rw[show fJ fU=1 by decide]|rw[show fJ eK=3 by decide]|rw[show fJ eV=1 by decide]
   first|unfold eQ|unfold eO|unfold dK|unfold jf|unfold fY|unfold dn|unfold eM|unfold dN|unfold gh|unfold fU|unfold eK|unfold eV
   go_enter func48,ntmps48
   go_wp2
   go_ret
   exact⟨rfl,rfl⟩
 ·have HZ:=Hy (show fJ s = -1 by unfold fJ;rw[if_pos (AP h)])
  simp only[db,Iq,Ir,or_false,not_or] at h
  obtain⟨h1,h2,h3,h4,h5,h6,h7,h8,h9,h10,h11,h12⟩:=h
  replace h1:=bG (l:=[115,101,116,117,112]) h1
  replace h2:=bG (l:=[116,117,114,110,115]) h2
  replace h3:=bG (l:=[118,97,108,117,101,115]) h3
  replace h4:=bG (l:=[114,117,110]) h4
  replace h5:=bG (l:=[115,108,105,112]) h5
  replace h6:=bG (l:=[99,111,114,114,101,99,116]) h6
  replace h7:=bG (l:=[114,111,117,110,100]) h7
  replace h8:=bG (l:=[108,97,121,111,117,116]) h8
  replace h9:=bG (l:=[102,105,110,100]) h9
  replace h10:=bG (l:=[112,108,97,110]) h10
  replace h11:=bG (l:=[99,104,101,97,112]) h11
  replace h12:=bG (l:=[115,117,109,115]) h12
  go_enter func48,ntmps48
  go_wp2
  go_ret
  exact⟨by rw[HZ.out];rfl,rfl⟩
def enT (t:ByteArray):Bool:=sf ((au 32 t).take 61)
def enL (t:ByteArray):List Int:=if enT t=true then aQ (au 32 t) 61 else[]
def enK (t:ByteArray):Bool:=ag (enL t)
theorem wj {t:ByteArray} (h:enT t=false):enL t=[]∧enK t=false:=by
 have:enL t=[]:=by unfold enL;rw[h];rfl
 exact⟨this,by unfold enK;rw[this];rfl⟩
theorem FD (t:ByteArray):(enL t).length≤61:=by
 unfold enL
 split
 ·unfold aQ;rw[List.length_map,List.length_take];omega
 ·simp
theorem Az (t:ByteArray):enK t=(aE t&&ag (bj t)):=by
 rcases Nat.lt_or_ge 60 (au 32 t).length with h|h
 ·have e1:ag (bj t)=false:=by
   rw[Bool.eq_false_iff]
   intro h2
   have:=(ay h2).2.1
   unfold bj at this
   rw[List.length_map] at this
   omega
  rw[e1,Bool.and_false]
  cases hq:enT t
  ·exact(wj hq).2
  ·unfold enK
   rw[Bool.eq_false_iff]
   intro h2
   have:=(ay h2).2.1
   unfold enL at this
   rw[if_pos hq] at this
   unfold aQ at this
   rw[List.length_map,List.length_take] at this
   omega
 ·have e:(au 32 t).take 61=au 32 t:=List.take_of_length_le (by omega)
  have e2:enT t=aE t:=by unfold enT aE;rw[e]
  cases hq:enT t
  ·rw[(wj hq).2,←e2,hq];rfl
  ·rw[←e2,hq,Bool.true_and]
   unfold enK enL aQ bj
   rw[if_pos hq,e]
theorem Fs {t:ByteArray} (h:enK t=true):aE t=true∧enL t=bj t:=by
 have h2:=h
 rw[Az,Is] at h2
 refine⟨h2.1,?_⟩
 have h3:=(ay h2.2).2.1
 unfold bj at h3
 rw[List.length_map] at h3
 have e:(au 32 t).take 61=au 32 t:=List.take_of_length_le (by omega)
 have e2:enT t=true:=by unfold enT;rw[e];exact h2.1
 unfold enL aQ bj
 rw[if_pos e2,e]
theorem AL {ls:List ByteArray} {k:Nat} (h:qq ls k):sf (ls.take k)=true:=by
 apply List.all_eq_true.2
 intro x hx
 obtain⟨j,hj,rfl⟩:=List.getElem_of_mem hx
 rw[List.length_take] at hj
 rw[List.getElem_take,←bX ls j (by omega)]
 exact h j (by omega)
theorem FX {ls:List ByteArray} {k:Nat} (hk:k<ls.length) (h61:k<61) (h:(bp (sat ls k)).isSome=false):sf (ls.take 61)=false:=by
 rw[Bool.eq_false_iff]
 intro h2
 have:=List.all_eq_true.1 h2 (sat ls k) (by
  rw[bX ls k hk]
  exact List.mem_iff_getElem.2 ⟨k,by rw[List.length_take];omega,by rw[List.getElem_take]⟩)
 rw[h] at this
 cases this
theorem oc (t:ByteArray) (w:World) (ht:t.size≤1048576):
  Calls prog 41 #[.string t] w (cK w (enL t) (enK t)):=by
 have O0:=Own.empty w w.heap.size (Ig _)
 have B0:=ab w (.cells #[] 3)
 go_enter func41,ntmps41
 go_wp2_with fail
 refine(ik t 32 _ ht).mono ?_
 rintro e w2 ⟨r,rfl,o,b⟩
 have HO:=Hy (O0.bel b)
 have HB:=Hy (aa B0 b)
 have HP:=Hy o
 have hcl:=fi 32 t
 obtain⟨ls,hls⟩:∃ls,au 32 t=ls:=⟨_,rfl⟩
 have HLS:=Hy hls
 rw[hls] at HP hcl
 obtain⟨A,c,rfl,hlc,-,-⟩:=HP.out.strs.open_
 clear O0 B0 o b hls
 go_wp2_with fail
 go_loopw [4,6] (fun v i wr=>∃k:Nat,k≤ls.length∧k≤61∧i=.int .i64 k∧qq ls k∧Own wr w.heap.size v (aQ ls k)∧ak wr (w.heap.size+1) (.slice A ls.length c) ls∧Below w.heap.size w wr) (fun _ i _=>61-(intOf i).toNat)
 case atStart=>exact⟨0,Ip _,Ip _,rfl,fun j hj=>absurd hj (Nat.not_lt_zero _),HO.out,by simpa using HP.out,HB.out⟩
 case round=>
  obtain⟨k,hk,hk61,rfl,hok,hO,hb,hB⟩:=hrel
  have H:=Hy (Ie hok (Ie hO (Ie hb hB)))
  have hz:=hB.size
  have hlT:=lp (l:=ls) (k:=k) hk
  clear hok hO hb hB HO
  by_cases hgo:k<ls.length∧k≤60
  ·obtain⟨hkn,hk60⟩:=hgo
   have hki:(k:Int)<(ls.length:Int):=by omega
   have hk6:(k:Int)≤60:=by omega
   obtain⟨A6,c6,e6,-,-,hrd⟩:=H.out.2.2.1.strs.open_
   cases e6
   obtain⟨b,o,rfl,hbb,hcell⟩:=hrd.strs (Nat.lt_of_le_of_lt (Ip _) hkn)
   have hck:=hcell k hkn
   have hss:(sat ls k).size≤1048576:=Ih (cT (c:=32) (s:=t) (by rw[HLS.out];exact cY ls k hkn)) ht
   have hbd:=fM (sat ls k)
   have HTS:=Hy (mo hkn)
   have HNO:=Hy (fun h=>FX hkn (by omega) h)
   have HOS:=Hy (fun hq=>oE H.out.1 hq)
   obtain⟨L,hL⟩:∃L,aQ ls k=L:=⟨_,rfl⟩
   have HO:=Hy (show Own wr w.heap.size _ L by rw[←hL];exact H.out.2.1)
   obtain⟨Z,hZ⟩:∃Z,sat ls k=Z:=⟨_,rfl⟩
   rw[hZ] at hck hss hbd HTS HNO HOS
   rw[hL] at hlT HTS
   clear hcell hrd hL hZ
   go_wp2_with fail
   refine(jo Z _ hss).mono ?_
   rintro e w3 ⟨he,rfl⟩
   unfold cV at he
   subst he
   obtain⟨z,hz2⟩:∃z,cE Z=z:=⟨_,rfl⟩
   rw[hz2] at HTS hbd
   rw[hz2]
   cases hq:(bp Z).isSome
   ·have HZ:=Hy (wj (t:=t) (by unfold enT;rw[HLS.out];exact HNO.out hq))
    clear hz2
    go_wp2
    go_ret2
    exact⟨_,by rw[HZ.out.2];rfl,by rw[HZ.out.1];exact Own.empty _ _ hz,aa H.out.2.2.2 (ab _ _)⟩
   ·have HQ:=Hy (HOS.out hq)
    clear hz2
    have Q1:=HO.out.bel (ab w3 (.cells #[.int .i64 z] 3))
    have Q5:=aa H.out.2.2.2 (ab w3 (.cells #[.int .i64 z] 3))
    have Q6:=H.out.2.2.1.bel (ab w3 (.cells #[.int .i64 z] 3))
    have Q7:=Hy (Ie Q1 (Ie Q5 Q6))
    clear Q1 Q5 Q6
    go_wp2_with (at_builtin;go_must (refine ec rfl (.tmp 33) (.tmp 35) (by rfl) w.heap.size _ L (by rfl) (by exact Q7.out.1) _ _ z (by rfl) (by exact bF _ _ _) (by omega) (by omega) (by simp;omega) ?_;intro v6 w6 ho6 hg6 hat6;have B6:=Hy (dO Q7.out.2.1 Q7.out.1 hg6);have P6:=Hy (Q7.out.2.2.apart hg6 (wL Q7.out.1 Q7.out.2.2));have O6:=Hy ho6;clear ho6 hg6 hat6))
    go_roundw
    case rel=>exact⟨k+1,hkn,by omega,by go_num,HQ.out,by rw[HTS.out];exact O6.out,P6.out,B6.out⟩
    case measure=>simp[intOf];omega
  ·have HE:=Hy (show aQ ls k=enL t∧ag (aQ ls k)=enK t by
    have e1:ls.take k=ls.take 61:=by
     rcases Nat.lt_or_ge k ls.length with h|h
     ·obtain rfl:k=61:=by omega
      rfl
     ·rw[List.take_of_length_le h,List.take_of_length_le (by omega)]
    have e2:enT t=true:=by unfold enT;rw[HLS.out,←e1];exact AL H.out.1
    have e3:aQ ls k=enL t:=by unfold enL;rw[if_pos e2,HLS.out];unfold aQ;rw[e1]
    exact⟨e3,by unfold enK;rw[e3]⟩)
   clear hlT
   have HO:=Hy (show Own wr w.heap.size _ (enL t) by rw[←HE.out.1];exact H.out.2.1)
   rcases Nat.lt_or_ge k ls.length with hkl|hkl
   ·obtain rfl:k=61:=by omega
    have hki:(61:Int)<(ls.length:Int):=by omega
    obtain⟨Av,cv,rfl,-,-,-⟩:=HO.out.ints.open_
    clear hgo
    go_wp2_with fail
    refine(ax _ _ _ HO.out.ints).mono ?_
    rintro e w5 ⟨rfl,rfl⟩
    go_wp2
    go_ret2
    exact⟨_,rfl,HO.out,H.out.2.2.2⟩
   ·obtain rfl:k=ls.length:=by omega
    have hki:¬(ls.length:Int)<(ls.length:Int):=by omega
    obtain⟨Av,cv,rfl,-,-,-⟩:=HO.out.ints.open_
    clear hgo
    go_wp2_with fail
    refine(ax _ _ _ HO.out.ints).mono ?_
    rintro e w5 ⟨rfl,rfl⟩
    go_wp2
    go_ret2
    exact⟨_,rfl,HO.out,H.out.2.2.2⟩
theorem wP (P:Nat→Prop) (v n:Value) (d:ae) (s:ByteArray) (l:List Int) (w:World) (ok:d.Ok) (hs:SxR P w v d) (hn:SxN P w) (hl:ai w n l) (hj:bL s<12) (hll:(l.length:Int)=at_ bV (bL s)):Calls prog 50 #[v,.string s,n] w (SxQ P w (aK d s l)):=by
 have ht:=ok.tab
 have hw:=BO hj
 clear hj
 simp only[db,Iq,Ir,or_false] at hw
 rcases hw with rfl|rfl|rfl|rfl|rfl|rfl|rfl|rfl|rfl|rfl|rfl|rfl
 ·exact wW P v n d l w hs hn hl (by have h:at_ bV (bL eQ)=2:=(by decide +kernel);omega)
 ·exact xr P v n d l w hs hn hl (by have h:at_ bV (bL eO)=1:=(by decide +kernel);omega)
 ·exact vx P v n d l w hs hn hl (by have h:at_ bV (bL dK)=2:=(by decide +kernel);omega)
 ·exact Da P v n d l w hs hn hl (by have h:at_ bV (bL jf)=1:=(by decide +kernel);omega)
 ·exact yU P v n d l w hs hn hl (by have h:at_ bV (bL fY)=4:=(by decide +kernel);omega)
 ·exact tU P v n d l w ht hs hn hl (by have h:at_ bV (bL dn)=1:=(by decide +kernel);omega)
 ·exact xu P v n d l w ht hs hn hl (by have h:at_ bV (bL eM)=2:=(by decide +kernel);omega)
 ·exact uD P v n d l w hs hn hl (by have h:at_ bV (bL dN)=3:=(by decide +kernel);omega)
 ·exact yS P v n d l w hs hn hl (by have h:at_ bV (bL gh)=1:=(by decide +kernel);omega)
 ·exact yV P v n d l w hs hn hl (by have h:at_ bV (bL fU)=1:=(by decide +kernel);omega)
 ·exact wK P v n d l w hs hn hl (by have h:at_ bV (bL eK)=3:=(by decide +kernel);omega)
 ·exact yI P v n d l w ok hs hn hl (by have h:at_ bV (bL eV)=1:=(by decide +kernel);omega)
end Go.Proofs.YtfmjklgfpiffbaaGreatDoor
namespace Go.Proofs.YtfmjklgfpiffbaaGreatDoor
open Go.RowKit Go.Proofs.Tryz
set_option linter.unusedVariables false
set_option linter.unusedSimpArgs false
set_option maxRecDepth 100000
set_option maxHeartbeats 8000000
theorem EW {t:ByteArray} (h:enK t=false):(aE t&&ag (spL t))=false:=by
 rw[Az] at h
 cases hq:aE t
 ·rfl
 ·rw[dE hq];rw[hq] at h;exact h
theorem BW {t:ByteArray} (h:enK t=true):aE t=true∧spL t=enL t:=by
 obtain⟨h1,h2⟩:=Fs h
 exact⟨h1,by rw[dE h1,h2]⟩
theorem GH (d:ae) (t:ByteArray):(aj (aw (spL t)) (aE t&&ag (spL t)),aJ d (spL t) (aE t))=(aj (aw (enL t)) (enK t&&ag (enL t)),aJ d (enL t) (enK t)):=by
 cases h:enK t
 ·have hn:=EW h
  unfold aJ
  rw[hn]
  rfl
 ·obtain⟨h1,h2⟩:=BW h
  rw[h1,h2]
theorem AU (d:ae) (t:ByteArray):aj (cz (cA (spL t) d.tab)) (aE t&&bz (spL t) d.tab)=aj (cz (cA (enL t) d.tab)) (enK t&&bz (enL t) d.tab):=by
 cases h:enK t
 ·have hn:=EW h
  have he:(aE t&&bz (spL t) d.tab)=false:=by
   unfold bz
   cases hq:aE t
   ·rfl
   ·rw[hq,Bool.true_and] at hn
    rw[hn]
    rfl
  rw[he]
  rfl
 ·obtain⟨h1,h2⟩:=BW h
  rw[h1,h2]
theorem td (k:Bool) (s:ByteArray) (w:World) (hs:s.size≤1000000000):
  Calls prog 29 #[.bool k,.string s,.string ⟨#[110,111]⟩] w fun e w'=>e=.returned (.string (aj s k))∧Below w.heap.size w w':=
 (dB k s w hs).mono (by rintro e w' ⟨rfl,rfl⟩;exact⟨rfl,Below.refl _ _⟩)
theorem pG (t:ByteArray) (w:World) (ht:t.size≤1048576):
  Calls prog 38 #[.string t] w fun e w'=>∃r,e=.returned (.tuple #[r,.bool (cS t)])∧Own w' w.heap.size r (ppL t)∧Below w.heap.size w w':=by
 have h:=pY t w ht
 rw[(Fb t).1,(Fb t).2] at h
 exact h
noncomputable def gN (d:ae) (s g:ByteArray):ByteArray×ae:=
 if bL s=12 then bH d s g else if fA (bL s) g=true then aK d s (bj g) else(ey,d)
theorem Af {d:ae} {l:ByteArray} (h:bO 32 l=true):cL d l=gN d (bef 32 l) (aft 32 l):=by
 unfold cL gN
 rw[if_neg (by rw[h];simp)]
theorem zx {d:ae} {l:ByteArray} (h:bO 32 l=false):cL d l=aP d l:=by
 unfold cL
 rw[if_pos h]
theorem Dz {s:ByteArray} (h:s∈dr):bL s=12:=by
 simp only[dr,Iq,Ir,or_false] at h
 rcases h with rfl|rfl|rfl|rfl|rfl|rfl|rfl <;> decide +kernel
theorem s7 (g:ByteArray):(bj g).length=(au 32 g).length:=by unfold bj;rw[List.length_map]
theorem vc {j k:Nat} {g:ByteArray} (h:at_ bV j=(k:Int)):fA j g=it g k:=by
 unfold fA it
 rw[h,s7]
 cases aE g
 ·simp
 ·simp only[Bool.true_and,and_true]
  exact decide_eq_decide.2 (by omega)
theorem uy {k:Nat} {g:ByteArray} (h:it g k=true):bu g k=bj g∧(bj g).length=k:=by
 unfold it at h
 obtain⟨h1,h2⟩:=of_decide_eq_true h
 exact⟨ot h1 h2,by rw[s7,h1]⟩
theorem DA {s:ByteArray} (h:bL s=12):fJ s = -1:=by unfold fJ;rw[if_pos h]
theorem DG {s:ByteArray} (h:bL s<12):∃k:Nat,k≤4∧fJ s=(k:Int)∧at_ bV (bL s)=(k:Int):=by
 have e:fJ s=at_ bV (bL s):=by unfold fJ;rw[if_neg (by omega)]
 rw[e]
 obtain⟨j,hj⟩:∃j,bL s=j:=⟨_,rfl⟩
 rw[hj] at h ⊢
 have hc:j=0∨j=1∨j=2∨j=3∨j=4∨j=5∨j=6∨j=7∨j=8∨j=9∨j=10∨j=11:=by omega
 rcases hc with rfl|rfl|rfl|rfl|rfl|rfl|rfl|rfl|rfl|rfl|rfl|rfl
 ·exact⟨2,by omega,rfl,rfl⟩
 ·exact⟨1,by omega,rfl,rfl⟩
 ·exact⟨2,by omega,rfl,rfl⟩
 ·exact⟨1,by omega,rfl,rfl⟩
 ·exact⟨4,by omega,rfl,rfl⟩
 ·exact⟨1,by omega,rfl,rfl⟩
 ·exact⟨2,by omega,rfl,rfl⟩
 ·exact⟨3,by omega,rfl,rfl⟩
 ·exact⟨1,by omega,rfl,rfl⟩
 ·exact⟨1,by omega,rfl,rfl⟩
 ·exact⟨3,by omega,rfl,rfl⟩
 ·exact⟨1,by omega,rfl,rfl⟩
end Go.Proofs.YtfmjklgfpiffbaaGreatDoor
namespace Go.Proofs.YtfmjklgfpiffbaaGreatDoor
open Go.RowKit Go.Proofs.Tryz
set_option linter.unusedVariables false
set_option linter.unusedSimpArgs false
set_option maxRecDepth 100000
set_option maxHeartbeats 8000000
attribute [local go_sem ↓] Go.wp_at_zero Go.wp_at_succ
theorem zC (P:Nat→Prop) (v:Value) (d:ae) (g:ByteArray) (w:World) (hg:g.size≤1000000) (hs:SxR P w v d) (hn:SxN P w):Calls prog 11 #[v,.string d8,.string g] w (SxQ P w (bH d d8 g)):=by
 obtain⟨p,e,t,rfl,hs0⟩:=hs.s
 obtain⟨Ap,cp,rfl,-,-,-⟩:=hs0.1.1.open_
 obtain⟨Ae,ce,rfl,-,-,-⟩:=hs0.2.1.1.open_
 obtain⟨At,ct,rfl,-,-,-⟩:=hs0.2.2.1.open_
 have HS:=Hy (Sxn.first hs0 hn)
 have HSAME:=Hy (SxS.same hs0 hn)
 obtain⟨c0,c1,c2,c3,c4,c5⟩:=HS.out.box.cells
 obtain⟨f0,f1,f2,f3,f4,f5⟩:=HS.out.out.frz
 obtain⟨z0,z1,z2,z3,z4,z5⟩:=HS.out.out.cells
 obtain⟨r,hr⟩:∃r:ByteArray×ae,bH d d8 g=r:=⟨_,rfl⟩
 have HRR:=Hy hr
 rw[hr]
 clear hs hs0 hn hr
 unfold d8
 go_enter func11,ntmps11
 go_wp2_with fail
 generalize hW:World.alloc _ _=W at HS c0 c1 c2 c3 c4 c5 f0 f1 f2 f3 f4 f5 z0 z1 z2 z3 z4 z5 ⊢
 clear hW
 refine(pG g _ (by omega)).mono ?_
 rintro e1 w1 ⟨x1,rfl,o1,b1⟩
 obtain⟨A1,k1,rfl,-,-,-⟩:=o1.ints.open_
 have H1:=Hy (HS.out.next b1)
 have HX1:=Hy o1.ints
 have HXO1:=Hy (HS.out.polyO o1)
 clear c0 c1 c2 c3 c4 c5 f0 f1 f2 f3 f4 f5 z0 z1 z2 z3 z4 z5 o1 b1
 cases hq:cS g
 ·have HQ:=Hy hq
  clear hq
  obtain⟨c0,c1,c2,c3,c4,c5⟩:=H1.out.box.cells
  obtain⟨f0,f1,f2,f3,f4,f5⟩:=H1.out.out.frz
  obtain⟨z0,z1,z2,z3,z4,z5⟩:=H1.out.out.cells
  have HB:=Hy (show ∀X,Below w1.heap.size w1 X→(X.cell? ⟨w.heap.size,0,none⟩=some (.slice Ap d.poly.length cp)∧X.cell? ⟨w.heap.size,1,none⟩=some (.slice Ae d.eng.length ce)∧X.cell? ⟨w.heap.size,2,none⟩=some (.slice At d.tab.length ct)∧X.cell? ⟨w.heap.size,3,none⟩=some (.int .i64 d.rw)∧X.cell? ⟨w.heap.size,4,none⟩=some (.int .i64 d.ac)∧X.cell? ⟨w.heap.size,5,none⟩=some (.int .i64 d.wi)) from fun X h=>(H1.out.next h).box.cells)
  have tok2:True:=trivial
  have tok3:True:=trivial
  go_wp2_with fail
  go_region_held3 (fun w'=>w'.cell? ⟨w.heap.size,0,none⟩=some (.slice Ap d.poly.length cp)∧w'.cell? ⟨w.heap.size,1,none⟩=some (.slice Ae d.eng.length ce)∧w'.cell? ⟨w.heap.size,2,none⟩=some (.slice At d.tab.length ct)∧w'.cell? ⟨w.heap.size,3,none⟩=some (.int .i64 d.rw)∧w'.cell? ⟨w.heap.size,4,none⟩=some (.int .i64 d.ac)∧w'.cell? ⟨w.heap.size,5,none⟩=some (.int .i64 d.wi)) (first|with_reducible exact⟨c0,c1,c2,c3,c4,c5⟩|with_reducible exact G7.out.kept (.slice Ap d.poly.length cp) (.slice Ae d.eng.length ce) (.slice At d.tab.length ct) d|exact⟨c0,c1,c2,c3,c4,c5⟩|exact G7.out.kept (.slice Ap d.poly.length cp) (.slice Ae d.eng.length ce) (.slice At d.tab.length ct) d|go_keep)
  (first
  |((try go_simp);go_at_call 29;have _t:=tok3;go_loud (refine(td (false) (⟨#[111,107]⟩) _ (by decide)).mono ?_;rintro e7 w7 ⟨rfl,b7⟩;replace b7:Below w1.heap.size w1 w7:=(by first|exact b7|exact aa (ah _) b7);have B7:=Hy b7;have G7:=Hy (H1.out.next b7);obtain⟨c0,c1,c2,c3,c4,c5⟩:=HB.out _ b7;obtain⟨f0,f1,f2,f3,f4,f5⟩:=G7.out.out.frz;obtain⟨z0,z1,z2,z3,z4,z5⟩:=G7.out.out.cells;clear tok3 b7;(try dsimp only)))
  |fail)
  all_goals
   go_wp2
   obtain⟨kk,ss,bb⟩:=G7.out.done G7.out.sta
   generalize World.setCell _ _ _=w9 at kk ss bb ⊢
   obtain⟨x0,x1,x2,x3,x4,x5⟩:=kk.cells
   refine bodyPost_ret (v:=.tuple #[.agg #[(.slice Ap d.poly.length cp),(.slice Ae d.eng.length ce),(.slice At d.tab.length ct),.int .i64 d.rw,.int .i64 d.ac,.int .i64 d.wi],.string (aj (⟨#[111,107]⟩) (false))]) (by simp[results,results11,go_sem,x0,x1,x2,x3,x4,x5]) rfl ?_
   rw[show r=(aj (⟨#[111,107]⟩) (false),d) from HRR.out.symm.trans ((kB d g).trans (by unfold fO jt;rw[HQ.out];rfl))]
   exact⟨_,rfl,ss,bb⟩
 ·have HQ:=Hy hq
  clear hq
  have HP:=Hy (H1.out.poly HX1.out HXO1.out)
  have HX9:=Hy (show ai (w1.setCell ⟨w.heap.size,0,none⟩ (.slice A1 (ppL g).length k1)) _ (ppL g) from HP.out.sta.1.1)
  obtain⟨c0,c1,c2,c3,c4,c5⟩:=H1.out.box.cells
  obtain⟨f0,f1,f2,f3,f4,f5⟩:=H1.out.out.frz
  obtain⟨z0,z1,z2,z3,z4,z5⟩:=H1.out.out.cells
  obtain⟨g0,g1,g2,g3,g4,g5⟩:=H1.out.box.frz
  go_wp2_with fail
  generalize hW2:w1.setCell ⟨w.heap.size,0,none⟩ (.slice A1 (ppL g).length k1)=W2 at HP HX9 ⊢
  clear hW2 c0 c1 c2 c3 c4 c5 f0 f1 f2 f3 f4 f5 z0 z1 z2 z3 z4 z5 g0 g1 g2 g3 g4 g5
  obtain⟨c0,c1,c2,c3,c4,c5⟩:=HP.out.box.cells
  obtain⟨f0,f1,f2,f3,f4,f5⟩:=HP.out.out.frz
  obtain⟨z0,z1,z2,z3,z4,z5⟩:=HP.out.out.cells
  have HB:=Hy (show ∀X,Below W2.heap.size W2 X→(X.cell? ⟨w.heap.size,0,none⟩=some (.slice A1 (ppL g).length k1)∧X.cell? ⟨w.heap.size,1,none⟩=some (.slice Ae d.eng.length ce)∧X.cell? ⟨w.heap.size,2,none⟩=some (.slice At d.tab.length ct)∧X.cell? ⟨w.heap.size,3,none⟩=some (.int .i64 { d with poly:=ppL g }.rw)∧X.cell? ⟨w.heap.size,4,none⟩=some (.int .i64 { d with poly:=ppL g }.ac)∧X.cell? ⟨w.heap.size,5,none⟩=some (.int .i64 { d with poly:=ppL g }.wi)) from fun X h=>(HP.out.next h).box.cells)
  have tok2:True:=trivial
  have tok3:True:=trivial
  go_region_held3 (fun w'=>w'.cell? ⟨w.heap.size,0,none⟩=some (.slice A1 (ppL g).length k1)∧w'.cell? ⟨w.heap.size,1,none⟩=some (.slice Ae d.eng.length ce)∧w'.cell? ⟨w.heap.size,2,none⟩=some (.slice At d.tab.length ct)∧w'.cell? ⟨w.heap.size,3,none⟩=some (.int .i64 { d with poly:=ppL g }.rw)∧w'.cell? ⟨w.heap.size,4,none⟩=some (.int .i64 { d with poly:=ppL g }.ac)∧w'.cell? ⟨w.heap.size,5,none⟩=some (.int .i64 { d with poly:=ppL g }.wi)) (first|with_reducible exact⟨c0,c1,c2,c3,c4,c5⟩|with_reducible exact G7.out.kept (.slice A1 (ppL g).length k1) (.slice Ae d.eng.length ce) (.slice At d.tab.length ct) { d with poly:=ppL g }|exact⟨c0,c1,c2,c3,c4,c5⟩|exact G7.out.kept (.slice A1 (ppL g).length k1) (.slice Ae d.eng.length ce) (.slice At d.tab.length ct) { d with poly:=ppL g }|go_keep)
  (first
  |((try go_simp);go_at_call 29;have _t:=tok3;go_loud (refine(td (true) (⟨#[111,107]⟩) _ (by decide)).mono ?_;rintro e7 w7 ⟨rfl,b7⟩;replace b7:Below W2.heap.size W2 w7:=(by first|exact b7|exact aa (ah _) b7);have B7:=Hy b7;have G7:=Hy (HP.out.next b7);obtain⟨c0,c1,c2,c3,c4,c5⟩:=HB.out _ b7;obtain⟨f0,f1,f2,f3,f4,f5⟩:=G7.out.out.frz;obtain⟨z0,z1,z2,z3,z4,z5⟩:=G7.out.out.cells;clear tok3 b7;(try dsimp only)))
  |fail)
  all_goals
   go_wp2
   obtain⟨kk,ss,bb⟩:=G7.out.done G7.out.sta
   generalize World.setCell _ _ _=w9 at kk ss bb ⊢
   obtain⟨x0,x1,x2,x3,x4,x5⟩:=kk.cells
   refine bodyPost_ret (v:=.tuple #[.agg #[(.slice A1 (ppL g).length k1),(.slice Ae d.eng.length ce),(.slice At d.tab.length ct),.int .i64 { d with poly:=ppL g }.rw,.int .i64 { d with poly:=ppL g }.ac,.int .i64 { d with poly:=ppL g }.wi],.string (aj (⟨#[111,107]⟩) (true))]) (by simp[results,results11,go_sem,x0,x1,x2,x3,x4,x5]) rfl ?_
   rw[show r=(aj (⟨#[111,107]⟩) (true),{ d with poly:=ppL g }) from HRR.out.symm.trans ((kB d g).trans (by unfold fO jt;rw[HQ.out];rfl))]
   exact⟨_,rfl,ss,bb⟩
theorem uM (P:Nat→Prop) (v:Value) (d:ae) (g:ByteArray) (w:World) (hg:g.size≤1000000) (hs:SxR P w v d) (hn:SxN P w):Calls prog 11 #[v,.string gG,.string g] w (SxQ P w (bH d gG g)):=by
 have hsz:=fv (fpL (ppL g))
 obtain⟨p,e,t,rfl,hs0⟩:=hs.s
 obtain⟨Ap,cp,rfl,-,-,-⟩:=hs0.1.1.open_
 obtain⟨Ae,ce,rfl,-,-,-⟩:=hs0.2.1.1.open_
 obtain⟨At,ct,rfl,-,-,-⟩:=hs0.2.2.1.open_
 have HS:=Hy (Sxn.first hs0 hn)
 have HSAME:=Hy (SxS.same hs0 hn)
 obtain⟨c0,c1,c2,c3,c4,c5⟩:=HS.out.box.cells
 obtain⟨f0,f1,f2,f3,f4,f5⟩:=HS.out.out.frz
 obtain⟨z0,z1,z2,z3,z4,z5⟩:=HS.out.out.cells
 obtain⟨r,hr⟩:∃r:ByteArray×ae,bH d gG g=r:=⟨_,rfl⟩
 have HRR:=Hy hr
 rw[hr]
 clear hs hs0 hn hr
 unfold gG
 go_enter func11,ntmps11
 go_wp2_with fail
 generalize hW:World.alloc _ _=W at HS c0 c1 c2 c3 c4 c5 f0 f1 f2 f3 f4 f5 z0 z1 z2 z3 z4 z5 ⊢
 clear hW
 refine(pG g _ (by omega)).mono ?_
 rintro e1 w1 ⟨x1,rfl,o1,b1⟩
 obtain⟨A1,k1,rfl,-,-,-⟩:=o1.ints.open_
 have H1:=Hy (HS.out.next b1)
 have HX1:=Hy o1.ints
 have HXO1:=Hy (HS.out.polyO o1)
 clear c0 c1 c2 c3 c4 c5 f0 f1 f2 f3 f4 f5 z0 z1 z2 z3 z4 z5 o1 b1
 obtain⟨c0,c1,c2,c3,c4,c5⟩:=H1.out.box.cells
 obtain⟨f0,f1,f2,f3,f4,f5⟩:=H1.out.out.frz
 obtain⟨z0,z1,z2,z3,z4,z5⟩:=H1.out.out.cells
 go_wp2_with fail
 refine(xw _ (ppL g) _ HX1.out).mono ?_
 rintro e2 w2 ⟨x2,rfl,o2,b2⟩
 obtain⟨A2,k2,rfl,-,-,-⟩:=o2.ints.open_
 have H2:=Hy (H1.out.next b2)
 have HX2:=Hy o2.ints
 have HXO2:=Hy (H1.out.polyO o2)
 clear c0 c1 c2 c3 c4 c5 f0 f1 f2 f3 f4 f5 z0 z1 z2 z3 z4 z5 o2 b2
 cases hq:cS g
 ·have HQ:=Hy hq
  clear hq
  obtain⟨c0,c1,c2,c3,c4,c5⟩:=H2.out.box.cells
  obtain⟨f0,f1,f2,f3,f4,f5⟩:=H2.out.out.frz
  obtain⟨z0,z1,z2,z3,z4,z5⟩:=H2.out.out.cells
  have HB:=Hy (show ∀X,Below w2.heap.size w2 X→(X.cell? ⟨w.heap.size,0,none⟩=some (.slice Ap d.poly.length cp)∧X.cell? ⟨w.heap.size,1,none⟩=some (.slice Ae d.eng.length ce)∧X.cell? ⟨w.heap.size,2,none⟩=some (.slice At d.tab.length ct)∧X.cell? ⟨w.heap.size,3,none⟩=some (.int .i64 d.rw)∧X.cell? ⟨w.heap.size,4,none⟩=some (.int .i64 d.ac)∧X.cell? ⟨w.heap.size,5,none⟩=some (.int .i64 d.wi)) from fun X h=>(H2.out.next h).box.cells)
  have tok2:True:=trivial
  have tok3:True:=trivial
  go_wp2_with fail
  refine wp_region_held_drew (S:=(fun w'=>w'.cell? ⟨w.heap.size,0,none⟩=some (.slice Ap d.poly.length cp)∧w'.cell? ⟨w.heap.size,1,none⟩=some (.slice Ae d.eng.length ce)∧w'.cell? ⟨w.heap.size,2,none⟩=some (.slice At d.tab.length ct)∧w'.cell? ⟨w.heap.size,3,none⟩=some (.int .i64 d.rw)∧w'.cell? ⟨w.heap.size,4,none⟩=some (.int .i64 d.ac)∧w'.cell? ⟨w.heap.size,5,none⟩=some (.int .i64 d.wi))) (by kernel_rfl) ?_ (fun hHeld=>?_)
  ·exact⟨c0,c1,c2,c3,c4,c5⟩
  refine wpAnyH_take (i:=0) (v:=?v0) rfl (by kernel_rfl) (by kernel_rfl) (by kernel_rfl) (fun _ _ _ h=>h) (Or.inl ⟨by kernel_rfl,?hy0⟩) (by assumption) ?rest0
  case hy0=>(intro w' hSw;(try dsimp only at hSw);go_simp;all_goals with_reducible rfl)
  try simp only[Act.put,Ic,Ib,Ia,H9,Hz,H8]
  refine wpAnyH_take (i:=1) (v:=?v1) rfl (by kernel_rfl) (by kernel_rfl) (by kernel_rfl) (fun _ _ _ h=>h) (Or.inl ⟨by kernel_rfl,?hy1⟩) (by assumption) ?rest1
  case hy1=>(intro w' hSw;(try dsimp only at hSw);go_simp;all_goals with_reducible rfl)
  try simp only[Act.put,Ic,Ib,Ia,H9,Hz,H8]
  refine wpAnyH_take (i:=2) (v:=?v2) rfl (by kernel_rfl) (by kernel_rfl) (by kernel_rfl) (fun _ _ _ h=>h) (Or.inl ⟨by kernel_rfl,?hy2⟩) (by assumption) ?rest2
  case hy2=>(intro w' hSw;(try dsimp only at hSw);go_simp;all_goals with_reducible rfl)
  try simp only[Act.put,Ic,Ib,Ia,H9,Hz,H8]
  refine wpAnyH_take (i:=3) (v:=undef) rfl (by kernel_rfl) (by kernel_rfl) (by kernel_rfl) (fun _ _ _ h=>h) (Or.inr ⟨by kernel_rfl,rfl⟩) (by assumption) ?_
  try simp only[Act.put,Ic,Ib,Ia,H9,Hz,H8]
  refine wpAnyH_take (i:=4) (v:=?v4) rfl (by kernel_rfl) (by kernel_rfl) (by kernel_rfl) (fun _ _ _ h=>h) (Or.inl ⟨by kernel_rfl,?hy4⟩) (by assumption) ?rest4
  case hy4=>(intro w' hSw;(try dsimp only at hSw);go_simp;all_goals with_reducible rfl)
  try simp only[Act.put,Ic,Ib,Ia,H9,Hz,H8]
  refine wpAnyH_take (i:=5) (v:=?v5) rfl (by kernel_rfl) (by kernel_rfl) (by kernel_rfl) (fun _ _ _ h=>h) (Or.inl ⟨by kernel_rfl,?hy5⟩) (by assumption) ?rest5
  case hy5=>(intro w' hSw;(try dsimp only at hSw);go_simp;all_goals with_reducible rfl)
  try simp only[Act.put,Ic,Ib,Ia,H9,Hz,H8]
  refine wpAnyH_ready (rs:=[6]) (by kernel_rfl) (by simp) ?_
  refine AllReadyH.cons rfl (fun K hK=>?_) AllReadyH.nil
  ((try go_simp);go_at_call 30;have _t:=tok2;go_loud (refine(bJ _ (fpL (ppL g)) _ (by first|exact HX2.out|exact HX2.out.bel (ah _))).mono ?_;rintro e7 w7 ⟨rfl,b7⟩;replace b7:Below w2.heap.size w2 w7:=(by first|exact b7|exact aa (ah _) b7);have B7:=Hy b7;have G7:=Hy (H2.out.next b7);obtain⟨c0,c1,c2,c3,c4,c5⟩:=HB.out _ b7;obtain⟨f0,f1,f2,f3,f4,f5⟩:=G7.out.out.frz;obtain⟨z0,z1,z2,z3,z4,z5⟩:=G7.out.out.cells;clear tok2 b7;(try dsimp only)))
  refine hK.out _ _ ?_ (fun hHeld=>?_)
  ·first|exact⟨c0,c1,c2,c3,c4,c5⟩|exact hHeld
  clear hK K
  try simp only[Act.put,Ic,Ib,Ia,H9,Hz,H8]
  refine wpAnyH_ready (rs:=[7]) (by kernel_rfl) (by simp) ?_
  refine AllReadyH.cons rfl (fun K hK=>?_) AllReadyH.nil
  ((try go_simp);go_at_call 29;have _t:=tok3;go_loud (refine(dB (false) (av (fpL (ppL g))) _ (by omega)).mono ?_;rintro e8 w8 ⟨rfl,rfl⟩;clear tok3;(try dsimp only)))
  refine hK.out _ _ ?_ (fun hHeld=>?_)
  ·first|exact⟨c0,c1,c2,c3,c4,c5⟩|exact hHeld
  clear hK K
  try simp only[Act.put,Ic,Ib,Ia,H9,Hz,H8]
  refine wpAnyH_ready (rs:=[8]) (by kernel_rfl) (by simp) ?_
  refine AllReadyH.cons rfl (fun K hK=>?_) AllReadyH.nil
  go_simp
  refine hK.out _ _ ?_ (fun hHeld=>?_)
  ·first|exact G7.out.kept (.slice Ap d.poly.length cp) (.slice Ae d.eng.length ce) (.slice At d.tab.length ct) d|exact hHeld
  clear hK K
  try simp only[Act.put,Ic,Ib,Ia,H9,Hz,H8]
  refine wpAnyH_take (i:=9) (v:=?v9) rfl (by kernel_rfl) (by kernel_rfl) (by kernel_rfl) (fun _ _ _ h=>h) (Or.inl ⟨by kernel_rfl,?hy9⟩) (by assumption) ?rest9
  case hy9=>(intro w' hSw;(try dsimp only at hSw);go_simp;all_goals with_reducible rfl)
  try simp only[Act.put,Ic,Ib,Ia,H9,Hz,H8]
  refine wpAnyH_done (by kernel_rfl) ?_ _
  go_wp2
  obtain⟨kk,ss,bb⟩:=G7.out.done G7.out.sta
  generalize World.setCell _ _ _=w9 at kk ss bb ⊢
  obtain⟨x0,x1,x2,x3,x4,x5⟩:=kk.cells
  refine bodyPost_ret (v:=.tuple #[.agg #[(.slice Ap d.poly.length cp),(.slice Ae d.eng.length ce),(.slice At d.tab.length ct),.int .i64 d.rw,.int .i64 d.ac,.int .i64 d.wi],.string (aj (av (fpL (ppL g))) (false))]) (by simp[results,results11,go_sem,x0,x1,x2,x3,x4,x5]) rfl ?_
  rw[show r=(aj (av (fpL (ppL g))) (false),d) from HRR.out.symm.trans ((gn d g).trans (by unfold dD;rw[HQ.out,Bool.false_and];rfl))]
  exact⟨_,rfl,ss,bb⟩
 ·cases hq2:iG (ppL g)
  ·have HQ:=Hy (Ie hq hq2)
   clear hq hq2
   obtain⟨c0,c1,c2,c3,c4,c5⟩:=H2.out.box.cells
   obtain⟨f0,f1,f2,f3,f4,f5⟩:=H2.out.out.frz
   obtain⟨z0,z1,z2,z3,z4,z5⟩:=H2.out.out.cells
   have HB:=Hy (show ∀X,Below w2.heap.size w2 X→(X.cell? ⟨w.heap.size,0,none⟩=some (.slice Ap d.poly.length cp)∧X.cell? ⟨w.heap.size,1,none⟩=some (.slice Ae d.eng.length ce)∧X.cell? ⟨w.heap.size,2,none⟩=some (.slice At d.tab.length ct)∧X.cell? ⟨w.heap.size,3,none⟩=some (.int .i64 d.rw)∧X.cell? ⟨w.heap.size,4,none⟩=some (.int .i64 d.ac)∧X.cell? ⟨w.heap.size,5,none⟩=some (.int .i64 d.wi)) from fun X h=>(H2.out.next h).box.cells)
   have tok2:True:=trivial
   have tok3:True:=trivial
   go_wp2_with fail
   go_region_held3 (fun w'=>w'.cell? ⟨w.heap.size,0,none⟩=some (.slice Ap d.poly.length cp)∧w'.cell? ⟨w.heap.size,1,none⟩=some (.slice Ae d.eng.length ce)∧w'.cell? ⟨w.heap.size,2,none⟩=some (.slice At d.tab.length ct)∧w'.cell? ⟨w.heap.size,3,none⟩=some (.int .i64 d.rw)∧w'.cell? ⟨w.heap.size,4,none⟩=some (.int .i64 d.ac)∧w'.cell? ⟨w.heap.size,5,none⟩=some (.int .i64 d.wi)) (first|with_reducible exact⟨c0,c1,c2,c3,c4,c5⟩|with_reducible exact G7.out.kept (.slice Ap d.poly.length cp) (.slice Ae d.eng.length ce) (.slice At d.tab.length ct) d|exact⟨c0,c1,c2,c3,c4,c5⟩|exact G7.out.kept (.slice Ap d.poly.length cp) (.slice Ae d.eng.length ce) (.slice At d.tab.length ct) d|go_keep)
   (first
   |((try go_simp);go_at_call 30;have _t:=tok2;go_loud (refine(bJ _ (fpL (ppL g)) _ (by first|exact HX2.out|exact HX2.out.bel (ah _))).mono ?_;rintro e7 w7 ⟨rfl,b7⟩;replace b7:Below w2.heap.size w2 w7:=(by first|exact b7|exact aa (ah _) b7);have B7:=Hy b7;have G7:=Hy (H2.out.next b7);obtain⟨c0,c1,c2,c3,c4,c5⟩:=HB.out _ b7;obtain⟨f0,f1,f2,f3,f4,f5⟩:=G7.out.out.frz;obtain⟨z0,z1,z2,z3,z4,z5⟩:=G7.out.out.cells;clear tok2 b7;(try dsimp only)))
   |((try go_simp);go_at_call 29;have _t:=tok3;go_loud (refine(dB (false) (av (fpL (ppL g))) _ (by omega)).mono ?_;rintro e8 w8 ⟨rfl,rfl⟩;clear tok3;(try dsimp only)))
   |fail)
   all_goals
    go_wp2
    obtain⟨kk,ss,bb⟩:=G7.out.done G7.out.sta
    generalize World.setCell _ _ _=w9 at kk ss bb ⊢
    obtain⟨x0,x1,x2,x3,x4,x5⟩:=kk.cells
    refine bodyPost_ret (v:=.tuple #[.agg #[(.slice Ap d.poly.length cp),(.slice Ae d.eng.length ce),(.slice At d.tab.length ct),.int .i64 d.rw,.int .i64 d.ac,.int .i64 d.wi],.string (aj (av (fpL (ppL g))) (false))]) (by simp[results,results11,go_sem,x0,x1,x2,x3,x4,x5]) rfl ?_
    rw[show r=(aj (av (fpL (ppL g))) (false),d) from HRR.out.symm.trans ((gn d g).trans (by unfold dD;rw[HQ.out.1,HQ.out.2,Bool.true_and];rfl))]
    exact⟨_,rfl,ss,bb⟩
  ·have HQ:=Hy (Ie hq hq2)
   clear hq hq2
   have HP:=Hy (H2.out.poly HX2.out HXO2.out)
   have HX9:=Hy (show ai (w2.setCell ⟨w.heap.size,0,none⟩ (.slice A2 (fpL (ppL g)).length k2)) _ (fpL (ppL g)) from HP.out.sta.1.1)
   obtain⟨c0,c1,c2,c3,c4,c5⟩:=H2.out.box.cells
   obtain⟨f0,f1,f2,f3,f4,f5⟩:=H2.out.out.frz
   obtain⟨z0,z1,z2,z3,z4,z5⟩:=H2.out.out.cells
   obtain⟨g0,g1,g2,g3,g4,g5⟩:=H2.out.box.frz
   go_wp2_with fail
   generalize hW2:w2.setCell ⟨w.heap.size,0,none⟩ (.slice A2 (fpL (ppL g)).length k2)=W2 at HP HX9 ⊢
   clear hW2 c0 c1 c2 c3 c4 c5 f0 f1 f2 f3 f4 f5 z0 z1 z2 z3 z4 z5 g0 g1 g2 g3 g4 g5
   obtain⟨c0,c1,c2,c3,c4,c5⟩:=HP.out.box.cells
   obtain⟨f0,f1,f2,f3,f4,f5⟩:=HP.out.out.frz
   obtain⟨z0,z1,z2,z3,z4,z5⟩:=HP.out.out.cells
   have HB:=Hy (show ∀X,Below W2.heap.size W2 X→(X.cell? ⟨w.heap.size,0,none⟩=some (.slice A2 (fpL (ppL g)).length k2)∧X.cell? ⟨w.heap.size,1,none⟩=some (.slice Ae d.eng.length ce)∧X.cell? ⟨w.heap.size,2,none⟩=some (.slice At d.tab.length ct)∧X.cell? ⟨w.heap.size,3,none⟩=some (.int .i64 { d with poly:=fpL (ppL g) }.rw)∧X.cell? ⟨w.heap.size,4,none⟩=some (.int .i64 { d with poly:=fpL (ppL g) }.ac)∧X.cell? ⟨w.heap.size,5,none⟩=some (.int .i64 { d with poly:=fpL (ppL g) }.wi)) from fun X h=>(HP.out.next h).box.cells)
   have tok2:True:=trivial
   have tok3:True:=trivial
   go_region_held3 (fun w'=>w'.cell? ⟨w.heap.size,0,none⟩=some (.slice A2 (fpL (ppL g)).length k2)∧w'.cell? ⟨w.heap.size,1,none⟩=some (.slice Ae d.eng.length ce)∧w'.cell? ⟨w.heap.size,2,none⟩=some (.slice At d.tab.length ct)∧w'.cell? ⟨w.heap.size,3,none⟩=some (.int .i64 { d with poly:=fpL (ppL g) }.rw)∧w'.cell? ⟨w.heap.size,4,none⟩=some (.int .i64 { d with poly:=fpL (ppL g) }.ac)∧w'.cell? ⟨w.heap.size,5,none⟩=some (.int .i64 { d with poly:=fpL (ppL g) }.wi)) (first|with_reducible exact⟨c0,c1,c2,c3,c4,c5⟩|with_reducible exact G7.out.kept (.slice A2 (fpL (ppL g)).length k2) (.slice Ae d.eng.length ce) (.slice At d.tab.length ct) { d with poly:=fpL (ppL g) }|exact⟨c0,c1,c2,c3,c4,c5⟩|exact G7.out.kept (.slice A2 (fpL (ppL g)).length k2) (.slice Ae d.eng.length ce) (.slice At d.tab.length ct) { d with poly:=fpL (ppL g) }|go_keep)
   (first
   |((try go_simp);go_at_call 30;have _t:=tok2;go_loud (refine(bJ _ (fpL (ppL g)) _ (by first|exact HX9.out|exact HX9.out.bel (ah _))).mono ?_;rintro e7 w7 ⟨rfl,b7⟩;replace b7:Below W2.heap.size W2 w7:=(by first|exact b7|exact aa (ah _) b7);have B7:=Hy b7;have G7:=Hy (HP.out.next b7);obtain⟨c0,c1,c2,c3,c4,c5⟩:=HB.out _ b7;obtain⟨f0,f1,f2,f3,f4,f5⟩:=G7.out.out.frz;obtain⟨z0,z1,z2,z3,z4,z5⟩:=G7.out.out.cells;clear tok2 b7;(try dsimp only)))
   |((try go_simp);go_at_call 29;have _t:=tok3;go_loud (refine(dB (true) (av (fpL (ppL g))) _ (by omega)).mono ?_;rintro e8 w8 ⟨rfl,rfl⟩;clear tok3;(try dsimp only)))
   |fail)
   all_goals
    go_wp2
    obtain⟨kk,ss,bb⟩:=G7.out.done G7.out.sta
    generalize World.setCell _ _ _=w9 at kk ss bb ⊢
    obtain⟨x0,x1,x2,x3,x4,x5⟩:=kk.cells
    refine bodyPost_ret (v:=.tuple #[.agg #[(.slice A2 (fpL (ppL g)).length k2),(.slice Ae d.eng.length ce),(.slice At d.tab.length ct),.int .i64 { d with poly:=fpL (ppL g) }.rw,.int .i64 { d with poly:=fpL (ppL g) }.ac,.int .i64 { d with poly:=fpL (ppL g) }.wi],.string (aj (av (fpL (ppL g))) (true))]) (by simp[results,results11,go_sem,x0,x1,x2,x3,x4,x5]) rfl ?_
    rw[show r=(aj (av (fpL (ppL g))) (true),{ d with poly:=fpL (ppL g) }) from HRR.out.symm.trans ((gn d g).trans (by unfold dD;rw[HQ.out.1,HQ.out.2,Bool.true_and];rfl))]
    exact⟨_,rfl,ss,bb⟩
theorem wD (P:Nat→Prop) (v:Value) (d:ae) (g:ByteArray) (w:World) (hg:g.size≤1000000) (hs:SxR P w v d) (hn:SxN P w):Calls prog 11 #[v,.string gI,.string g] w (SxQ P w (bH d gI g)):=by
 obtain⟨p,e,t,rfl,hs0⟩:=hs.s
 obtain⟨Ap,cp,rfl,-,-,-⟩:=hs0.1.1.open_
 obtain⟨Ae,ce,rfl,-,-,-⟩:=hs0.2.1.1.open_
 obtain⟨At,ct,rfl,-,-,-⟩:=hs0.2.2.1.open_
 have HS:=Hy (Sxn.first hs0 hn)
 have HSAME:=Hy (SxS.same hs0 hn)
 obtain⟨c0,c1,c2,c3,c4,c5⟩:=HS.out.box.cells
 obtain⟨f0,f1,f2,f3,f4,f5⟩:=HS.out.out.frz
 obtain⟨z0,z1,z2,z3,z4,z5⟩:=HS.out.out.cells
 obtain⟨r,hr⟩:∃r:ByteArray×ae,bH d gI g=r:=⟨_,rfl⟩
 have HRR:=Hy hr
 rw[hr]
 clear hs hs0 hn hr
 unfold gI
 go_enter func11,ntmps11
 go_wp2_with fail
 generalize hW:World.alloc _ _=W at HS c0 c1 c2 c3 c4 c5 f0 f1 f2 f3 f4 f5 z0 z1 z2 z3 z4 z5 ⊢
 clear hW
 refine(xP g _ (by omega)).mono ?_
 rintro e1 w1 ⟨x1,rfl,o1,b1⟩
 obtain⟨A1,k1,rfl,-,-,-⟩:=o1.strs.open_
 have ba:Below w1.heap.size w1 (w1.alloc (.cells #[.slice A1 (peE g).length k1] 32)):=ab w1 _
 have KE:=Blk.new' w1 32 (.slice A1 (peE g).length k1) w1.heap.size rfl
 have H1:=Hy (HS.out.next (aa b1 ba))
 have HX:=Hy (o1.strs.bel ba)
 have HXO:=Hy (HS.out.engO o1)
 clear c0 c1 c2 c3 c4 c5 f0 f1 f2 f3 f4 f5 z0 z1 z2 z3 z4 z5 b1 ba o1
 obtain⟨c0,c1,c2,c3,c4,c5⟩:=H1.out.box.cells
 obtain⟨f0,f1,f2,f3,f4,f5⟩:=H1.out.out.frz
 obtain⟨z0,z1,z2,z3,z4,z5⟩:=H1.out.out.cells
 obtain⟨u0,-⟩:=KE.one
 go_wp2_with fail
 generalize hW1:w1.alloc (.cells #[.slice A1 (peE g).length k1] 32)=W1 at H1 HX ⊢
 clear hW1 c0 c1 c2 c3 c4 c5 f0 f1 f2 f3 f4 f5 z0 z1 z2 z3 z4 z5 u0 KE
 have HM:=fm _ _ _ d (peE g) (af (au 32 g)) W1 H1.out.sta.r HX.out HXO.out H1.out.new
 obtain⟨q,hq⟩:∃q:ByteArray×ae,(aj (bx (peE g)) (af (au 32 g)),aX d (peE g) (af (au 32 g)))=q:=⟨_,rfl⟩
 have HRQ:=Hy (show r=q from HRR.out.symm.trans ((kV d g).trans hq))
 rw[hq] at HM
 clear hq
 refine HM.mono ?_
 rintro e3 w3 ⟨v3,rfl,s3,b3⟩
 have H3:=Hy (H1.out.next b3)
 obtain⟨p2,e2,t2,rfl,sq⟩:=s3.s
 obtain⟨Ap2,cp2,rfl,-,-,-⟩:=sq.1.1.open_
 obtain⟨Ae2,ce2,rfl,-,-,-⟩:=sq.2.1.1.open_
 obtain⟨At2,ct2,rfl,-,-,-⟩:=sq.2.2.1.open_
 have SQ:=Hy sq
 clear sq
 clear b3 HM
 obtain⟨c0,c1,c2,c3,c4,c5⟩:=H3.out.box.cells
 obtain⟨f0,f1,f2,f3,f4,f5⟩:=H3.out.out.frz
 obtain⟨z0,z1,z2,z3,z4,z5⟩:=H3.out.out.cells
 go_wp2
 obtain⟨kk,ss,bb⟩:=H3.out.done SQ.out
 generalize World.setCell _ _ _=w9 at kk ss bb ⊢
 obtain⟨x0,x1,x2,x3,x4,x5⟩:=kk.cells
 refine bodyPost_ret (v:=.tuple #[.agg #[(.slice Ap2 q.2.poly.length cp2),(.slice Ae2 q.2.eng.length ce2),(.slice At2 q.2.tab.length ct2),.int .i64 q.2.rw,.int .i64 q.2.ac,.int .i64 q.2.wi],.string q.1]) (by simp[results,results11,go_sem,x0,x1,x2,x3,x4,x5]) rfl ?_
 rw[HRQ.out]
 exact⟨_,rfl,ss,bb⟩
theorem xb (P:Nat→Prop) (v:Value) (d:ae) (g:ByteArray) (w:World) (hg:g.size≤1000000) (hs:SxR P w v d) (hn:SxN P w):Calls prog 11 #[v,.string iI,.string g] w (SxQ P w (bH d iI g)):=by
 obtain⟨p,e,t,rfl,hs0⟩:=hs.s
 obtain⟨Ap,cp,rfl,-,-,-⟩:=hs0.1.1.open_
 obtain⟨Ae,ce,rfl,-,-,-⟩:=hs0.2.1.1.open_
 obtain⟨At,ct,rfl,-,-,-⟩:=hs0.2.2.1.open_
 have HS:=Hy (Sxn.first hs0 hn)
 have HSAME:=Hy (SxS.same hs0 hn)
 obtain⟨c0,c1,c2,c3,c4,c5⟩:=HS.out.box.cells
 obtain⟨f0,f1,f2,f3,f4,f5⟩:=HS.out.out.frz
 obtain⟨z0,z1,z2,z3,z4,z5⟩:=HS.out.out.cells
 obtain⟨r,hr⟩:∃r:ByteArray×ae,bH d iI g=r:=⟨_,rfl⟩
 have HRR:=Hy hr
 rw[hr]
 clear hs hs0 hn hr
 unfold iI
 go_enter func11,ntmps11
 go_wp2_with fail
 generalize hW:World.alloc _ _=W at HS c0 c1 c2 c3 c4 c5 f0 f1 f2 f3 f4 f5 z0 z1 z2 z3 z4 z5 ⊢
 clear hW
 refine(oc g _ (by omega)).mono ?_
 rintro e1 w1 ⟨x1,rfl,o1,b1⟩
 obtain⟨A1,k1,rfl,-,-,-⟩:=o1.ints.open_
 have H1:=Hy (HS.out.next b1)
 have HX1:=Hy o1.ints
 have HXO1:=Hy (HS.out.tabO o1)
 clear c0 c1 c2 c3 c4 c5 f0 f1 f2 f3 f4 f5 z0 z1 z2 z3 z4 z5 o1 b1
 obtain⟨c0,c1,c2,c3,c4,c5⟩:=H1.out.box.cells
 obtain⟨f0,f1,f2,f3,f4,f5⟩:=H1.out.out.frz
 obtain⟨z0,z1,z2,z3,z4,z5⟩:=H1.out.out.cells
 go_wp2_with fail
 have HM:=fQ _ _ _ d (enL g) (enK g) w1 H1.out.sta.r HX1.out HXO1.out (Ih (FD g) (by omega)) H1.out.new
 obtain⟨q,hq⟩:∃q:ByteArray×ae,(aj (aw (enL g)) ((enK g)&&ag (enL g)),aJ d (enL g) (enK g))=q:=⟨_,rfl⟩
 have HRQ:=Hy (show r=q from HRR.out.symm.trans (((lT d g).trans (GH d g)).trans hq))
 rw[hq] at HM
 clear hq
 refine HM.mono ?_
 rintro e3 w3 ⟨v3,rfl,s3,b3⟩
 have H3:=Hy (H1.out.next b3)
 obtain⟨p2,e2,t2,rfl,sq⟩:=s3.s
 obtain⟨Ap2,cp2,rfl,-,-,-⟩:=sq.1.1.open_
 obtain⟨Ae2,ce2,rfl,-,-,-⟩:=sq.2.1.1.open_
 obtain⟨At2,ct2,rfl,-,-,-⟩:=sq.2.2.1.open_
 have SQ:=Hy sq
 clear sq
 clear b3 HM c0 c1 c2 c3 c4 c5 f0 f1 f2 f3 f4 f5 z0 z1 z2 z3 z4 z5
 obtain⟨c0,c1,c2,c3,c4,c5⟩:=H3.out.box.cells
 obtain⟨f0,f1,f2,f3,f4,f5⟩:=H3.out.out.frz
 obtain⟨z0,z1,z2,z3,z4,z5⟩:=H3.out.out.cells
 go_wp2
 obtain⟨kk,ss,bb⟩:=H3.out.done SQ.out
 generalize World.setCell _ _ _=w9 at kk ss bb ⊢
 obtain⟨x0,x1,x2,x3,x4,x5⟩:=kk.cells
 refine bodyPost_ret (v:=.tuple #[.agg #[(.slice Ap2 q.2.poly.length cp2),(.slice Ae2 q.2.eng.length ce2),(.slice At2 q.2.tab.length ct2),.int .i64 q.2.rw,.int .i64 q.2.ac,.int .i64 q.2.wi],.string q.1]) (by simp[results,results11,go_sem,x0,x1,x2,x3,x4,x5]) rfl ?_
 rw[HRQ.out]
 exact⟨_,rfl,ss,bb⟩
theorem CA (P:Nat→Prop) (v:Value) (d:ae) (g:ByteArray) (w:World) (hg:g.size≤1000000) (ok:d.Ok) (hs:SxR P w v d) (hn:SxN P w):Calls prog 11 #[v,.string ms,.string g] w (SxQ P w (bH d ms g)):=by
 have HOK:=Hy ok
 clear ok
 obtain⟨p,e,t,rfl,hs0⟩:=hs.s
 obtain⟨Ap,cp,rfl,-,-,-⟩:=hs0.1.1.open_
 obtain⟨Ae,ce,rfl,-,-,-⟩:=hs0.2.1.1.open_
 obtain⟨At,ct,rfl,-,-,-⟩:=hs0.2.2.1.open_
 have HS:=Hy (Sxn.first hs0 hn)
 have HSAME:=Hy (SxS.same hs0 hn)
 obtain⟨c0,c1,c2,c3,c4,c5⟩:=HS.out.box.cells
 obtain⟨f0,f1,f2,f3,f4,f5⟩:=HS.out.out.frz
 obtain⟨z0,z1,z2,z3,z4,z5⟩:=HS.out.out.cells
 obtain⟨r,hr⟩:∃r:ByteArray×ae,bH d ms g=r:=⟨_,rfl⟩
 have HRR:=Hy hr
 rw[hr]
 clear hs hs0 hn hr
 unfold ms
 go_enter func11,ntmps11
 go_wp2_with fail
 generalize hW:World.alloc _ _=W at HS c0 c1 c2 c3 c4 c5 f0 f1 f2 f3 f4 f5 z0 z1 z2 z3 z4 z5 ⊢
 clear hW
 have HM:=C8 _ _ d g W (by omega) HOK.out HS.out.sta.r HS.out.new
 obtain⟨q,hq⟩:∃q:ByteArray×ae,(gk d g,iX d g)=q:=⟨_,rfl⟩
 have HRQ:=Hy (show r=q from HRR.out.symm.trans ((nk d g).trans hq))
 rw[hq] at HM
 clear hq
 refine HM.mono ?_
 rintro e3 w3 ⟨v3,rfl,s3,b3⟩
 have H3:=Hy (HS.out.next b3)
 obtain⟨p2,e2,t2,rfl,sq⟩:=s3.s
 obtain⟨Ap2,cp2,rfl,-,-,-⟩:=sq.1.1.open_
 obtain⟨Ae2,ce2,rfl,-,-,-⟩:=sq.2.1.1.open_
 obtain⟨At2,ct2,rfl,-,-,-⟩:=sq.2.2.1.open_
 have SQ:=Hy sq
 clear sq
 clear b3 HM c0 c1 c2 c3 c4 c5 f0 f1 f2 f3 f4 f5 z0 z1 z2 z3 z4 z5
 obtain⟨c0,c1,c2,c3,c4,c5⟩:=H3.out.box.cells
 obtain⟨f0,f1,f2,f3,f4,f5⟩:=H3.out.out.frz
 obtain⟨z0,z1,z2,z3,z4,z5⟩:=H3.out.out.cells
 go_wp2
 obtain⟨kk,ss,bb⟩:=H3.out.done SQ.out
 generalize World.setCell _ _ _=w9 at kk ss bb ⊢
 obtain⟨x0,x1,x2,x3,x4,x5⟩:=kk.cells
 refine bodyPost_ret (v:=.tuple #[.agg #[(.slice Ap2 q.2.poly.length cp2),(.slice Ae2 q.2.eng.length ce2),(.slice At2 q.2.tab.length ct2),.int .i64 q.2.rw,.int .i64 q.2.ac,.int .i64 q.2.wi],.string q.1]) (by simp[results,results11,go_sem,x0,x1,x2,x3,x4,x5]) rfl ?_
 rw[HRQ.out]
 exact⟨_,rfl,ss,bb⟩
theorem FY (r p:List Int):∀k,k<(cA r p).length→kr (aB (cA r p) k):=fun k hk=>by
 rw[io hk]
 exact yp r p _ (List.getElem_mem hk)
theorem uj (P:Nat→Prop) (v:Value) (d:ae) (g:ByteArray) (w:World) (hg:g.size≤1000000) (hs:SxR P w v d) (hn:SxN P w):Calls prog 11 #[v,.string gz,.string g] w (SxQ P w (bH d gz g)):=by
 have hsz:=oS _ (FY (enL g) d.tab)
 obtain⟨p,e,t,rfl,hs0⟩:=hs.s
 obtain⟨Ap,cp,rfl,-,-,-⟩:=hs0.1.1.open_
 obtain⟨Ae,ce,rfl,-,-,-⟩:=hs0.2.1.1.open_
 obtain⟨At,ct,rfl,-,-,-⟩:=hs0.2.2.1.open_
 have HS:=Hy (Sxn.first hs0 hn)
 have HSAME:=Hy (SxS.same hs0 hn)
 obtain⟨c0,c1,c2,c3,c4,c5⟩:=HS.out.box.cells
 obtain⟨f0,f1,f2,f3,f4,f5⟩:=HS.out.out.frz
 obtain⟨z0,z1,z2,z3,z4,z5⟩:=HS.out.out.cells
 obtain⟨r,hr⟩:∃r:ByteArray×ae,bH d gz g=r:=⟨_,rfl⟩
 have HRR:=Hy hr
 rw[hr]
 clear hs hs0 hn hr
 unfold gz
 go_enter func11,ntmps11
 go_wp2_with fail
 generalize hW:World.alloc _ _=W at HS c0 c1 c2 c3 c4 c5 f0 f1 f2 f3 f4 f5 z0 z1 z2 z3 z4 z5 ⊢
 clear hW
 refine(oc g _ (by omega)).mono ?_
 rintro e1 w1 ⟨x1,rfl,o1,b1⟩
 obtain⟨A1,k1,rfl,-,-,-⟩:=o1.ints.open_
 have H1:=Hy (HS.out.next b1)
 have HX1:=Hy o1.ints
 have HXO1:=Hy (HS.out.tabO o1)
 have HT1:=Hy H1.out.sta.2.2.1
 clear c0 c1 c2 c3 c4 c5 f0 f1 f2 f3 f4 f5 z0 z1 z2 z3 z4 z5 o1 b1
 obtain⟨c0,c1,c2,c3,c4,c5⟩:=H1.out.box.cells
 obtain⟨f0,f1,f2,f3,f4,f5⟩:=H1.out.out.frz
 obtain⟨z0,z1,z2,z3,z4,z5⟩:=H1.out.out.cells
 go_wp2_with fail
 refine(xH _ _ (enL g) d.tab _ HX1.out HT1.out).mono ?_
 rintro e2 w2 ⟨x2,rfl,o2,b2⟩
 have H2:=Hy (H1.out.next b2)
 have HX2:=Hy o2.read
 have HL2:=Hy o2.2.1
 obtain⟨A2,k2,rfl,-,-,-⟩:=o2.read
 clear c0 c1 c2 c3 c4 c5 f0 f1 f2 f3 f4 f5 z0 z1 z2 z3 z4 z5 o2 b2
 cases hq:enK g
 ·have HQ:=Hy hq
  clear hq
  obtain⟨c0,c1,c2,c3,c4,c5⟩:=H2.out.box.cells
  obtain⟨f0,f1,f2,f3,f4,f5⟩:=H2.out.out.frz
  obtain⟨z0,z1,z2,z3,z4,z5⟩:=H2.out.out.cells
  have HB:=Hy (show ∀X,Below w2.heap.size w2 X→(X.cell? ⟨w.heap.size,0,none⟩=some (.slice Ap d.poly.length cp)∧X.cell? ⟨w.heap.size,1,none⟩=some (.slice Ae d.eng.length ce)∧X.cell? ⟨w.heap.size,2,none⟩=some (.slice At d.tab.length ct)∧X.cell? ⟨w.heap.size,3,none⟩=some (.int .i64 d.rw)∧X.cell? ⟨w.heap.size,4,none⟩=some (.int .i64 d.ac)∧X.cell? ⟨w.heap.size,5,none⟩=some (.int .i64 d.wi)) from fun X h=>(H2.out.next h).box.cells)
  have tok2:True:=trivial
  have tok3:True:=trivial
  go_wp2_with fail
  refine wp_region_held_drew (S:=(fun w'=>w'.cell? ⟨w.heap.size,0,none⟩=some (.slice Ap d.poly.length cp)∧w'.cell? ⟨w.heap.size,1,none⟩=some (.slice Ae d.eng.length ce)∧w'.cell? ⟨w.heap.size,2,none⟩=some (.slice At d.tab.length ct)∧w'.cell? ⟨w.heap.size,3,none⟩=some (.int .i64 d.rw)∧w'.cell? ⟨w.heap.size,4,none⟩=some (.int .i64 d.ac)∧w'.cell? ⟨w.heap.size,5,none⟩=some (.int .i64 d.wi))) (by kernel_rfl) ?_ (fun hHeld=>?_)
  ·exact⟨c0,c1,c2,c3,c4,c5⟩
  refine wpAnyH_take (i:=0) (v:=?v0) rfl (by kernel_rfl) (by kernel_rfl) (by kernel_rfl) (fun _ _ _ h=>h) (Or.inl ⟨by kernel_rfl,?hy0⟩) (by assumption) ?rest0
  case hy0=>(intro w' hSw;(try dsimp only at hSw);go_simp;all_goals with_reducible rfl)
  try simp only[Act.put,Ic,Ib,Ia,H9,Hz,H8]
  refine wpAnyH_take (i:=1) (v:=?v1) rfl (by kernel_rfl) (by kernel_rfl) (by kernel_rfl) (fun _ _ _ h=>h) (Or.inl ⟨by kernel_rfl,?hy1⟩) (by assumption) ?rest1
  case hy1=>(intro w' hSw;(try dsimp only at hSw);go_simp;all_goals with_reducible rfl)
  try simp only[Act.put,Ic,Ib,Ia,H9,Hz,H8]
  refine wpAnyH_take (i:=2) (v:=?v2) rfl (by kernel_rfl) (by kernel_rfl) (by kernel_rfl) (fun _ _ _ h=>h) (Or.inl ⟨by kernel_rfl,?hy2⟩) (by assumption) ?rest2
  case hy2=>(intro w' hSw;(try dsimp only at hSw);go_simp;all_goals with_reducible rfl)
  try simp only[Act.put,Ic,Ib,Ia,H9,Hz,H8]
  refine wpAnyH_take (i:=3) (v:=undef) rfl (by kernel_rfl) (by kernel_rfl) (by kernel_rfl) (fun _ _ _ h=>h) (Or.inr ⟨by kernel_rfl,rfl⟩) (by assumption) ?_
  try simp only[Act.put,Ic,Ib,Ia,H9,Hz,H8]
  refine wpAnyH_take (i:=4) (v:=?v4) rfl (by kernel_rfl) (by kernel_rfl) (by kernel_rfl) (fun _ _ _ h=>h) (Or.inl ⟨by kernel_rfl,?hy4⟩) (by assumption) ?rest4
  case hy4=>(intro w' hSw;(try dsimp only at hSw);go_simp;all_goals with_reducible rfl)
  try simp only[Act.put,Ic,Ib,Ia,H9,Hz,H8]
  refine wpAnyH_take (i:=5) (v:=?v5) rfl (by kernel_rfl) (by kernel_rfl) (by kernel_rfl) (fun _ _ _ h=>h) (Or.inl ⟨by kernel_rfl,?hy5⟩) (by assumption) ?rest5
  case hy5=>(intro w' hSw;(try dsimp only at hSw);go_simp;all_goals with_reducible rfl)
  try simp only[Act.put,Ic,Ib,Ia,H9,Hz,H8]
  refine wpAnyH_ready (rs:=[6]) (by kernel_rfl) (by simp) ?_
  refine AllReadyH.cons rfl (fun K hK=>?_) AllReadyH.nil
  ((try go_simp);go_at_call 44;have _t:=tok2;go_loud (refine(kI _ (cA (enL g) d.tab) _ (by first|exact HX2.out|exact HX2.out.bel (ah _)) HL2.out).mono ?_;rintro e7 w7 ⟨rfl,b7⟩;replace b7:Below w2.heap.size w2 w7:=(by first|exact b7|exact aa (ah _) b7);have B7:=Hy b7;have G7:=Hy (H2.out.next b7);obtain⟨c0,c1,c2,c3,c4,c5⟩:=HB.out _ b7;obtain⟨f0,f1,f2,f3,f4,f5⟩:=G7.out.out.frz;obtain⟨z0,z1,z2,z3,z4,z5⟩:=G7.out.out.cells;clear tok2 b7;(try dsimp only)))
  refine hK.out _ _ ?_ (fun hHeld=>?_)
  ·first|exact⟨c0,c1,c2,c3,c4,c5⟩|exact hHeld
  clear hK K
  try simp only[Act.put,Ic,Ib,Ia,H9,Hz,H8]
  refine wpAnyH_ready (rs:=[7]) (by kernel_rfl) (by simp) ?_
  refine AllReadyH.cons rfl (fun K hK=>?_) AllReadyH.nil
  ((try go_simp);go_at_call 29;have _t:=tok3;go_loud (refine(dB (false) (cz (cA (enL g) d.tab)) _ (by omega)).mono ?_;rintro e8 w8 ⟨rfl,rfl⟩;clear tok3;(try dsimp only)))
  refine hK.out _ _ ?_ (fun hHeld=>?_)
  ·first|exact⟨c0,c1,c2,c3,c4,c5⟩|exact hHeld
  clear hK K
  try simp only[Act.put,Ic,Ib,Ia,H9,Hz,H8]
  refine wpAnyH_ready (rs:=[8]) (by kernel_rfl) (by simp) ?_
  refine AllReadyH.cons rfl (fun K hK=>?_) AllReadyH.nil
  go_simp
  refine hK.out _ _ ?_ (fun hHeld=>?_)
  ·first|exact G7.out.kept (.slice Ap d.poly.length cp) (.slice Ae d.eng.length ce) (.slice At d.tab.length ct) d|exact hHeld
  clear hK K
  try simp only[Act.put,Ic,Ib,Ia,H9,Hz,H8]
  refine wpAnyH_take (i:=9) (v:=?v9) rfl (by kernel_rfl) (by kernel_rfl) (by kernel_rfl) (fun _ _ _ h=>h) (Or.inl ⟨by kernel_rfl,?hy9⟩) (by assumption) ?rest9
  case hy9=>(intro w' hSw;(try dsimp only at hSw);go_simp;all_goals with_reducible rfl)
  try simp only[Act.put,Ic,Ib,Ia,H9,Hz,H8]
  refine wpAnyH_done (by kernel_rfl) ?_ _
  go_wp2
  obtain⟨kk,ss,bb⟩:=G7.out.done G7.out.sta
  generalize World.setCell _ _ _=w9 at kk ss bb ⊢
  obtain⟨x0,x1,x2,x3,x4,x5⟩:=kk.cells
  refine bodyPost_ret (v:=.tuple #[.agg #[(.slice Ap d.poly.length cp),(.slice Ae d.eng.length ce),(.slice At d.tab.length ct),.int .i64 d.rw,.int .i64 d.ac,.int .i64 d.wi],.string (aj (cz (cA (enL g) d.tab)) (false))]) (by simp[results,results11,go_sem,x0,x1,x2,x3,x4,x5]) rfl ?_
  rw[show r=(aj (cz (cA (enL g) d.tab)) (false),d) from HRR.out.symm.trans ((iT d g).trans (by rw[AU,HQ.out];rfl))]
  exact⟨_,rfl,ss,bb⟩
 ·have HQ:=Hy hq
  clear hq
  obtain⟨c0,c1,c2,c3,c4,c5⟩:=H2.out.box.cells
  obtain⟨f0,f1,f2,f3,f4,f5⟩:=H2.out.out.frz
  obtain⟨z0,z1,z2,z3,z4,z5⟩:=H2.out.out.cells
  have HB:=Hy (show ∀X,Below w2.heap.size w2 X→(X.cell? ⟨w.heap.size,0,none⟩=some (.slice Ap d.poly.length cp)∧X.cell? ⟨w.heap.size,1,none⟩=some (.slice Ae d.eng.length ce)∧X.cell? ⟨w.heap.size,2,none⟩=some (.slice At d.tab.length ct)∧X.cell? ⟨w.heap.size,3,none⟩=some (.int .i64 d.rw)∧X.cell? ⟨w.heap.size,4,none⟩=some (.int .i64 d.ac)∧X.cell? ⟨w.heap.size,5,none⟩=some (.int .i64 d.wi)) from fun X h=>(H2.out.next h).box.cells)
  have tok2:True:=trivial
  have tok3:True:=trivial
  go_wp2_with fail
  go_region_held3 (fun w'=>w'.cell? ⟨w.heap.size,0,none⟩=some (.slice Ap d.poly.length cp)∧w'.cell? ⟨w.heap.size,1,none⟩=some (.slice Ae d.eng.length ce)∧w'.cell? ⟨w.heap.size,2,none⟩=some (.slice At d.tab.length ct)∧w'.cell? ⟨w.heap.size,3,none⟩=some (.int .i64 d.rw)∧w'.cell? ⟨w.heap.size,4,none⟩=some (.int .i64 d.ac)∧w'.cell? ⟨w.heap.size,5,none⟩=some (.int .i64 d.wi)) (first|with_reducible exact⟨c0,c1,c2,c3,c4,c5⟩|with_reducible exact G7.out.kept (.slice Ap d.poly.length cp) (.slice Ae d.eng.length ce) (.slice At d.tab.length ct) d|exact⟨c0,c1,c2,c3,c4,c5⟩|exact G7.out.kept (.slice Ap d.poly.length cp) (.slice Ae d.eng.length ce) (.slice At d.tab.length ct) d|go_keep)
  (first
  |((try go_simp);go_at_call 44;have _t:=tok2;go_loud (refine(kI _ (cA (enL g) d.tab) _ (by first|exact HX2.out|exact HX2.out.bel (ah _)) HL2.out).mono ?_;rintro e7 w7 ⟨rfl,b7⟩;replace b7:Below w2.heap.size w2 w7:=(by first|exact b7|exact aa (ah _) b7);have B7:=Hy b7;have G7:=Hy (H2.out.next b7);obtain⟨c0,c1,c2,c3,c4,c5⟩:=HB.out _ b7;obtain⟨f0,f1,f2,f3,f4,f5⟩:=G7.out.out.frz;obtain⟨z0,z1,z2,z3,z4,z5⟩:=G7.out.out.cells;clear tok2 b7;(try dsimp only)))
  |((try go_simp);go_at_call 29;have _t:=tok3;go_loud (refine(dB (bz (enL g) d.tab) (cz (cA (enL g) d.tab)) _ (by omega)).mono ?_;rintro e8 w8 ⟨rfl,rfl⟩;clear tok3;(try dsimp only)))
  |fail)
  all_goals
   go_wp2
   obtain⟨kk,ss,bb⟩:=G7.out.done G7.out.sta
   generalize World.setCell _ _ _=w9 at kk ss bb ⊢
   obtain⟨x0,x1,x2,x3,x4,x5⟩:=kk.cells
   refine bodyPost_ret (v:=.tuple #[.agg #[(.slice Ap d.poly.length cp),(.slice Ae d.eng.length ce),(.slice At d.tab.length ct),.int .i64 d.rw,.int .i64 d.ac,.int .i64 d.wi],.string (aj (cz (cA (enL g) d.tab)) (bz (enL g) d.tab))]) (by simp[results,results11,go_sem,x0,x1,x2,x3,x4,x5]) rfl ?_
   rw[show r=(aj (cz (cA (enL g) d.tab)) (bz (enL g) d.tab),d) from HRR.out.symm.trans ((iT d g).trans (by rw[AU,HQ.out];rfl))]
   exact⟨_,rfl,ss,bb⟩
theorem xJ (P:Nat→Prop) (v:Value) (d:ae) (g:ByteArray) (w:World) (hg:g.size≤1000000) (ht:d.tab.length≤60) (hs:SxR P w v d) (hn:SxN P w):Calls prog 11 #[v,.string iQ,.string g] w (SxQ P w (bH d iQ g)):=by
 obtain⟨p,e,t,rfl,hs0⟩:=hs.s
 obtain⟨Ap,cp,rfl,-,-,-⟩:=hs0.1.1.open_
 obtain⟨Ae,ce,rfl,-,-,-⟩:=hs0.2.1.1.open_
 obtain⟨At,ct,rfl,-,-,-⟩:=hs0.2.2.1.open_
 have HS:=Hy (Sxn.first hs0 hn)
 have HSAME:=Hy (SxS.same hs0 hn)
 obtain⟨c0,c1,c2,c3,c4,c5⟩:=HS.out.box.cells
 obtain⟨f0,f1,f2,f3,f4,f5⟩:=HS.out.out.frz
 obtain⟨z0,z1,z2,z3,z4,z5⟩:=HS.out.out.cells
 obtain⟨r,hr⟩:∃r:ByteArray×ae,bH d iQ g=r:=⟨_,rfl⟩
 have HRR:=Hy hr
 rw[hr]
 clear hs hs0 hn hr
 unfold iQ
 go_enter func11,ntmps11
 go_wp2_with fail
 generalize hW:World.alloc _ _=W at HS c0 c1 c2 c3 c4 c5 f0 f1 f2 f3 f4 f5 z0 z1 z2 z3 z4 z5 ⊢
 clear hW
 refine(yX g _ (by omega)).mono ?_
 rintro e1 w1 ⟨x1,rfl,o1,b1⟩
 have H1:=Hy (HS.out.next b1)
 have HX1:=Hy o1.read
 have HL1:=Hy o1.2.1
 have HT1:=Hy H1.out.sta.2.2.1
 obtain⟨A1,k1,rfl,-,-,-⟩:=o1.read
 clear c0 c1 c2 c3 c4 c5 f0 f1 f2 f3 f4 f5 z0 z1 z2 z3 z4 z5 o1 b1
 obtain⟨c0,c1,c2,c3,c4,c5⟩:=H1.out.box.cells
 obtain⟨f0,f1,f2,f3,f4,f5⟩:=H1.out.out.frz
 obtain⟨z0,z1,z2,z3,z4,z5⟩:=H1.out.out.cells
 go_wp2_with fail
 refine(xN _ _ d.tab (peL g) _ HT1.out HX1.out HL1.out).mono ?_
 rintro e2 w2 ⟨x2,rfl,o2,b2⟩
 obtain⟨A2,k2,rfl,-,-,-⟩:=o2.ints.open_
 have H2:=Hy (H1.out.next b2)
 have HX2:=Hy o2.ints
 have HXO2:=Hy (H1.out.tabO o2)
 clear c0 c1 c2 c3 c4 c5 f0 f1 f2 f3 f4 f5 z0 z1 z2 z3 z4 z5 o2 b2
 cases hq:iH g
 ·have HQ:=Hy hq
  clear hq
  obtain⟨c0,c1,c2,c3,c4,c5⟩:=H2.out.box.cells
  obtain⟨f0,f1,f2,f3,f4,f5⟩:=H2.out.out.frz
  obtain⟨z0,z1,z2,z3,z4,z5⟩:=H2.out.out.cells
  go_wp2_with fail
  have HM:=fQ _ _ _ d (apL d.tab (peL g)) (false) w2 H2.out.sta.r HX2.out HXO2.out (Ih (rL d.tab (peL g) ht) (by omega)) H2.out.new
  obtain⟨q,hq⟩:∃q:ByteArray×ae,(aj (aw (apL d.tab (peL g))) ((false)&&ag (apL d.tab (peL g))),aJ d (apL d.tab (peL g)) (false))=q:=⟨_,rfl⟩
  have HRQ:=Hy (show r=q from HRR.out.symm.trans (((jH d g).trans (by rw[show d9 d g=false by unfold d9;rw[HQ.out];rfl])).trans hq))
  rw[hq] at HM
  clear hq
  refine HM.mono ?_
  rintro e3 w3 ⟨v3,rfl,s3,b3⟩
  have H3:=Hy (H2.out.next b3)
  obtain⟨p2,e2,t2,rfl,sq⟩:=s3.s
  obtain⟨Ap2,cp2,rfl,-,-,-⟩:=sq.1.1.open_
  obtain⟨Ae2,ce2,rfl,-,-,-⟩:=sq.2.1.1.open_
  obtain⟨At2,ct2,rfl,-,-,-⟩:=sq.2.2.1.open_
  have SQ:=Hy sq
  clear sq
  clear b3 HM c0 c1 c2 c3 c4 c5 f0 f1 f2 f3 f4 f5 z0 z1 z2 z3 z4 z5
  obtain⟨c0,c1,c2,c3,c4,c5⟩:=H3.out.box.cells
  obtain⟨f0,f1,f2,f3,f4,f5⟩:=H3.out.out.frz
  obtain⟨z0,z1,z2,z3,z4,z5⟩:=H3.out.out.cells
  go_wp2
  obtain⟨kk,ss,bb⟩:=H3.out.done SQ.out
  generalize World.setCell _ _ _=w9 at kk ss bb ⊢
  obtain⟨x0,x1,x2,x3,x4,x5⟩:=kk.cells
  refine bodyPost_ret (v:=.tuple #[.agg #[(.slice Ap2 q.2.poly.length cp2),(.slice Ae2 q.2.eng.length ce2),(.slice At2 q.2.tab.length ct2),.int .i64 q.2.rw,.int .i64 q.2.ac,.int .i64 q.2.wi],.string q.1]) (by simp[results,results11,go_sem,x0,x1,x2,x3,x4,x5]) rfl ?_
  rw[HRQ.out]
  exact⟨_,rfl,ss,bb⟩
 ·have HQ:=Hy hq
  clear hq
  obtain⟨c0,c1,c2,c3,c4,c5⟩:=H2.out.box.cells
  obtain⟨f0,f1,f2,f3,f4,f5⟩:=H2.out.out.frz
  obtain⟨z0,z1,z2,z3,z4,z5⟩:=H2.out.out.cells
  go_wp2_with fail
  have HM:=fQ _ _ _ d (apL d.tab (peL g)) (fc d.tab (peL g)) w2 H2.out.sta.r HX2.out HXO2.out (Ih (rL d.tab (peL g) ht) (by omega)) H2.out.new
  obtain⟨q,hq⟩:∃q:ByteArray×ae,(aj (aw (apL d.tab (peL g))) ((fc d.tab (peL g))&&ag (apL d.tab (peL g))),aJ d (apL d.tab (peL g)) (fc d.tab (peL g)))=q:=⟨_,rfl⟩
  have HRQ:=Hy (show r=q from HRR.out.symm.trans (((jH d g).trans (by rw[show d9 d g=fc d.tab (peL g) by unfold d9;rw[HQ.out];rfl])).trans hq))
  rw[hq] at HM
  clear hq
  refine HM.mono ?_
  rintro e3 w3 ⟨v3,rfl,s3,b3⟩
  have H3:=Hy (H2.out.next b3)
  obtain⟨p2,e2,t2,rfl,sq⟩:=s3.s
  obtain⟨Ap2,cp2,rfl,-,-,-⟩:=sq.1.1.open_
  obtain⟨Ae2,ce2,rfl,-,-,-⟩:=sq.2.1.1.open_
  obtain⟨At2,ct2,rfl,-,-,-⟩:=sq.2.2.1.open_
  have SQ:=Hy sq
  clear sq
  clear b3 HM c0 c1 c2 c3 c4 c5 f0 f1 f2 f3 f4 f5 z0 z1 z2 z3 z4 z5
  obtain⟨c0,c1,c2,c3,c4,c5⟩:=H3.out.box.cells
  obtain⟨f0,f1,f2,f3,f4,f5⟩:=H3.out.out.frz
  obtain⟨z0,z1,z2,z3,z4,z5⟩:=H3.out.out.cells
  go_wp2
  obtain⟨kk,ss,bb⟩:=H3.out.done SQ.out
  generalize World.setCell _ _ _=w9 at kk ss bb ⊢
  obtain⟨x0,x1,x2,x3,x4,x5⟩:=kk.cells
  refine bodyPost_ret (v:=.tuple #[.agg #[(.slice Ap2 q.2.poly.length cp2),(.slice Ae2 q.2.eng.length ce2),(.slice At2 q.2.tab.length ct2),.int .i64 q.2.rw,.int .i64 q.2.ac,.int .i64 q.2.wi],.string q.1]) (by simp[results,results11,go_sem,x0,x1,x2,x3,x4,x5]) rfl ?_
  rw[HRQ.out]
  exact⟨_,rfl,ss,bb⟩
theorem zt (P:Nat→Prop) (v:Value) (d:ae) (s g:ByteArray) (w:World) (hg:g.size≤1000000) (ok:d.Ok) (hs:SxR P w v d) (hn:SxN P w) (h:s∉dr):Calls prog 11 #[v,.string s,.string g] w (SxQ P w (gN d s g)):=by
 have HOK:=Hy ok
 have HM0:=Hy h
 simp only[dr,Iq,Ir,or_false,not_or] at h
 obtain⟨h1,h2,h3,h4,h5,h6,h7⟩:=h
 replace h1:=bG (l:=[112,111,108,121]) h1
 replace h2:=bG (l:=[112,111,119,101,114,115]) h2
 replace h3:=bG (l:=[101,110,103,105,110,101]) h3
 replace h4:=bG (l:=[116,97,98,108,101]) h4
 replace h5:=bG (l:=[101,114,114,97,116,97]) h5
 replace h6:=bG (l:=[97,112,112,108,121]) h6
 replace h7:=bG (l:=[106,111,98]) h7
 clear ok
 obtain⟨p,e,t,rfl,hs0⟩:=hs.s
 obtain⟨Ap,cp,rfl,-,-,-⟩:=hs0.1.1.open_
 obtain⟨Ae,ce,rfl,-,-,-⟩:=hs0.2.1.1.open_
 obtain⟨At,ct,rfl,-,-,-⟩:=hs0.2.2.1.open_
 have HS:=Hy (Sxn.first hs0 hn)
 have HSAME:=Hy (SxS.same hs0 hn)
 obtain⟨c0,c1,c2,c3,c4,c5⟩:=HS.out.box.cells
 obtain⟨f0,f1,f2,f3,f4,f5⟩:=HS.out.out.frz
 obtain⟨z0,z1,z2,z3,z4,z5⟩:=HS.out.out.cells
 obtain⟨r,hr⟩:∃r:ByteArray×ae,gN d s g=r:=⟨_,rfl⟩
 have HRR:=Hy hr
 rw[hr]
 clear hs hs0 hn hr
 obtain⟨K,hK⟩:∃K,fJ s=K:=⟨_,rfl⟩
 have HK:=Hy hK
 clear hK
 by_cases hj:bL s=12
 ·have HW:=Hy (show gN d s g=(ey,d) by unfold gN;rw[if_pos hj];exact qw d g s (fun w hw e=>HM0.out (e▸hw)))
  have hK1:K = -1:=HK.out.symm.trans (DA hj)
  subst hK1
  clear hj
  go_enter func11,ntmps11
  go_wp2_with fail
  generalize hW:World.alloc _ _=W at HS c0 c1 c2 c3 c4 c5 f0 f1 f2 f3 f4 f5 z0 z1 z2 z3 z4 z5 ⊢
  clear hW
  refine(lW s _).mono ?_
  rintro e1 w1 ⟨rfl,rfl⟩
  rw[HK.out]
  go_wp2
  obtain⟨kk,ss,bb⟩:=HS.out.done HS.out.sta
  generalize World.setCell _ _ _=w9 at kk ss bb ⊢
  obtain⟨x0,x1,x2,x3,x4,x5⟩:=kk.cells
  refine bodyPost_ret (v:=.tuple #[.agg #[(.slice Ap d.poly.length cp),(.slice Ae d.eng.length ce),(.slice At d.tab.length ct),.int .i64 d.rw,.int .i64 d.ac,.int .i64 d.wi],.string ⟨#[119,104,97,116,10]⟩]) (by simp[results,results11,go_sem,x0,x1,x2,x3,x4,x5]) rfl ?_
  rw[show r=(⟨#[119,104,97,116,10]⟩,d) from HRR.out.symm.trans (HW.out)]
  exact⟨_,rfl,ss,bb⟩
 ·obtain⟨k,hk4,hkf,hkn⟩:=DG (s:=s) (by have:=(jp s).1;omega)
  have HJ:=Hy (show bL s<12 by have:=(jp s).1;omega)
  have hK1:K=(k:Int):=HK.out.symm.trans hkf
  subst hK1
  have HN:=Hy hkn
  have HF:=Hy (vc (g:=g) hkn)
  have hkneg:¬(k:Int)<0:=by omega
  clear hkf hkn
  go_enter func11,ntmps11
  go_wp2_with fail
  generalize hW:World.alloc _ _=W at HS c0 c1 c2 c3 c4 c5 f0 f1 f2 f3 f4 f5 z0 z1 z2 z3 z4 z5 ⊢
  clear hW
  refine(lW s _).mono ?_
  rintro e1 w1 ⟨rfl,rfl⟩
  rw[HK.out]
  go_wp2_with fail
  refine(lW s _).mono ?_
  rintro e1 w1 ⟨rfl,rfl⟩
  rw[HK.out]
  go_wp2_with fail
  refine(mT g k _ (by omega) (by omega)).mono ?_
  rintro e1 w1 ⟨x1,rfl,o1,b1⟩
  have H1:=Hy (HS.out.next b1)
  have HX1:=Hy o1.ints
  clear c0 c1 c2 c3 c4 c5 f0 f1 f2 f3 f4 f5 z0 z1 z2 z3 z4 z5 b1 o1
  cases hq:it g k
  ·have HW:=Hy (show gN d s g=(ey,d) by unfold gN;rw[if_neg (by have:=HJ.out;omega),HF.out,hq];rfl)
   obtain⟨A1,k1,rfl,-,-,-⟩:=HX1.out.open_
   clear hq
   obtain⟨c0,c1,c2,c3,c4,c5⟩:=H1.out.box.cells
   obtain⟨f0,f1,f2,f3,f4,f5⟩:=H1.out.out.frz
   obtain⟨z0,z1,z2,z3,z4,z5⟩:=H1.out.out.cells
   go_wp2
   obtain⟨kk,ss,bb⟩:=H1.out.done H1.out.sta
   generalize World.setCell _ _ _=w9 at kk ss bb ⊢
   obtain⟨x0,x1,x2,x3,x4,x5⟩:=kk.cells
   refine bodyPost_ret (v:=.tuple #[.agg #[(.slice Ap d.poly.length cp),(.slice Ae d.eng.length ce),(.slice At d.tab.length ct),.int .i64 d.rw,.int .i64 d.ac,.int .i64 d.wi],.string ⟨#[119,104,97,116,10]⟩]) (by simp[results,results11,go_sem,x0,x1,x2,x3,x4,x5]) rfl ?_
   rw[show r=(⟨#[119,104,97,116,10]⟩,d) from HRR.out.symm.trans (HW.out)]
   exact⟨_,rfl,ss,bb⟩
  ·have HE:=Hy (uy hq)
   have HW:=Hy (show gN d s g=aK d s (bj g) by unfold gN;rw[if_neg (by have:=HJ.out;omega),HF.out,hq];rfl)
   have HX2:=Hy (show ai w1 x1 (bj g) from HE.out.1▸HX1.out)
   clear hq HX1
   obtain⟨A1,k1,rfl,-,-,-⟩:=HX2.out.open_
   obtain⟨c0,c1,c2,c3,c4,c5⟩:=H1.out.box.cells
   obtain⟨f0,f1,f2,f3,f4,f5⟩:=H1.out.out.frz
   obtain⟨z0,z1,z2,z3,z4,z5⟩:=H1.out.out.cells
   go_wp2_with fail
   have HM:=wP _ _ _ d s (bj g) w1 HOK.out H1.out.sta.r H1.out.new HX2.out HJ.out (by rw[HE.out.2,HN.out])
   obtain⟨q,hq⟩:∃q:ByteArray×ae,aK d s (bj g)=q:=⟨_,rfl⟩
   have HRQ:=Hy (show r=q from HRR.out.symm.trans (HW.out.trans hq))
   rw[hq] at HM
   clear hq
   refine HM.mono ?_
   rintro e3 w3 ⟨v3,rfl,s3,b3⟩
   have H3:=Hy (H1.out.next b3)
   obtain⟨p2,e2,t2,rfl,sq⟩:=s3.s
   obtain⟨Ap2,cp2,rfl,-,-,-⟩:=sq.1.1.open_
   obtain⟨Ae2,ce2,rfl,-,-,-⟩:=sq.2.1.1.open_
   obtain⟨At2,ct2,rfl,-,-,-⟩:=sq.2.2.1.open_
   have SQ:=Hy sq
   clear sq
   clear b3 HM c0 c1 c2 c3 c4 c5 f0 f1 f2 f3 f4 f5 z0 z1 z2 z3 z4 z5
   obtain⟨c0,c1,c2,c3,c4,c5⟩:=H3.out.box.cells
   obtain⟨f0,f1,f2,f3,f4,f5⟩:=H3.out.out.frz
   obtain⟨z0,z1,z2,z3,z4,z5⟩:=H3.out.out.cells
   go_wp2
   obtain⟨kk,ss,bb⟩:=H3.out.done SQ.out
   generalize World.setCell _ _ _=w9 at kk ss bb ⊢
   obtain⟨x0,x1,x2,x3,x4,x5⟩:=kk.cells
   refine bodyPost_ret (v:=.tuple #[.agg #[(.slice Ap2 q.2.poly.length cp2),(.slice Ae2 q.2.eng.length ce2),(.slice At2 q.2.tab.length ct2),.int .i64 q.2.rw,.int .i64 q.2.ac,.int .i64 q.2.wi],.string q.1]) (by simp[results,results11,go_sem,x0,x1,x2,x3,x4,x5]) rfl ?_
   rw[HRQ.out]
   exact⟨_,rfl,ss,bb⟩
theorem xF (P:Nat→Prop) (v:Value) (d:ae) (s g:ByteArray) (w:World) (hg:g.size≤1000000) (ok:d.Ok) (hs:SxR P w v d) (hn:SxN P w):Calls prog 11 #[v,.string s,.string g] w (SxQ P w (gN d s g)):=by
 have ht:=ok.tab
 by_cases h:s∈dr
 ·have e:gN d s g=bH d s g:=by unfold gN;rw[if_pos (Dz h)]
  rw[e]
  clear e
  simp only[dr,Iq,Ir,or_false] at h
  rcases h with rfl|rfl|rfl|rfl|rfl|rfl|rfl
  ·exact zC P v d g w hg hs hn
  ·exact uM P v d g w hg hs hn
  ·exact wD P v d g w hg hs hn
  ·exact xb P v d g w hg hs hn
  ·exact uj P v d g w hg hs hn
  ·exact xJ P v d g w hg ht hs hn
  ·exact CA P v d g w hg ok hs hn
 ·exact zt P v d s g w hg ok hs hn h
structure RsS (w:World) (b:Nat) (A:Option Addr) (c:Nat) (ls:List ByteArray) (p e t:Value) (d:ae) (X:World):Prop where
 box:SxB X b p e t d
 sta:SxS (fun j=>j≠b) X p e t d
 lin:aG X (.slice A ls.length c) ls
 off:Off (.slice A ls.length c) ls (fun j=>j≠b)
 bel:Below w.heap.size w X
 pos:w.heap.size≤b
theorem RsS.next {w:World} {b:Nat} {A:Option Addr} {c:Nat} {ls:List ByteArray} {p e t:Value} {d:ae} {X Y:World} (h:RsS w b A c ls p e t d X) (hb:Below X.heap.size X Y):RsS w b A c ls p e t d Y:=
 ⟨h.box.below hb h.box.lt,h.sta.bel hb,h.lin.bel hb,h.off,aa h.bel hb,h.pos⟩
theorem RsS.new {w:World} {b:Nat} {A:Option Addr} {c:Nat} {ls:List ByteArray} {p e t:Value} {d:ae} {X:World} (h:RsS w b A c ls p e t d X):SxN (fun j=>j≠b) X:=fun j hj=>by
 have:=h.box.lt
 omega
theorem RsS.put {w:World} {b:Nat} {A:Option Addr} {c:Nat} {ls:List ByteArray} {p e t p' e' t':Value} {d d':ae} {X:World} (h:RsS w b A c ls p e t d X) (s:SxS (fun j=>j≠b) X p' e' t' d'):RsS w b A c ls p' e' t' d' ((((((X.setCell ⟨b,0,none⟩ p').setCell ⟨b,1,none⟩ e').setCell ⟨b,2,none⟩ t').setCell ⟨b,3,none⟩ (.int .i64 d'.rw)).setCell ⟨b,4,none⟩ (.int .i64 d'.ac)).setCell ⟨b,5,none⟩ (.int .i64 d'.wi)):=by
 obtain⟨h1,h2⟩:=up h.box p' e' t' d'
 exact⟨h1,s.row (fun j hj=>hj) h2,h.lin.rowFar h2 (h.off.mono fun j hj e=>hj (It e)),h.off,h.bel.grown h2 h.bel.size (fun k hk=>by cases hk;exact h.pos),h.pos⟩
theorem rr (t:ByteArray) (w:World) (hs:t.size≤20000):
  Calls prog 5 #[.string t] w fun e w'=>e=.returned (.string (jd cL gR 0 ⟨#[]⟩ (au 10 t)))∧Below w.heap.size w w':=by
 have h2:¬(20000:Int)<(t.size:Int):=by omega
 have B2:Below w.heap.size w ((w.alloc (.cells #[.int .i64 0] 3)).alloc (.cells #[.slice (some ⟨w.heap.size,0,none⟩) 1 1,.slice none 0 0,.slice none 0 0,.int .i64 5,.int .i64 2,.int .i64 8] 34)):=(ab w _).alloc (by simp) _
 have K0:Blk ((w.alloc (.cells #[.int .i64 0] 3)).alloc (.cells #[.slice (some ⟨w.heap.size,0,none⟩) 1 1,.slice none 0 0,.slice none 0 0,.int .i64 5,.int .i64 2,.int .i64 8] 34)) w.heap.size 3 [.int .i64 0]:=(Blk.new w 3 [.int .i64 0]).alloc _
 have KD:SxB ((w.alloc (.cells #[.int .i64 0] 3)).alloc (.cells #[.slice (some ⟨w.heap.size,0,none⟩) 1 1,.slice none 0 0,.slice none 0 0,.int .i64 5,.int .i64 2,.int .i64 8] 34)) (w.heap.size+1) (.slice (some ⟨w.heap.size,0,none⟩) 1 1) (.slice none 0 0) (.slice none 0 0) gR:=by
  have h:=Blk.new (w.alloc (.cells #[.int .i64 0] 3)) 34 [.slice (some ⟨w.heap.size,0,none⟩) 1 1,.slice none 0 0,.slice none 0 0,.int .i64 5,.int .i64 2,.int .i64 8]
  rw[Iu] at h
  exact h
 have S0:SxS (fun j=>j≠w.heap.size+1) ((w.alloc (.cells #[.int .i64 0] 3)).alloc (.cells #[.slice (some ⟨w.heap.size,0,none⟩) 1 1,.slice none 0 0,.slice none 0 0,.int .i64 5,.int .i64 2,.int .i64 8] 34)) (.slice (some ⟨w.heap.size,0,none⟩) 1 1) (.slice none 0 0) (.slice none 0 0) gR:=
  ⟨⟨(vI K0).ints,fun a n c e _=>by cases e;show w.heap.size≠w.heap.size+1;omega⟩,⟨(ak.nil_ _ 0).strs,fun a n c e _=>by cases e⟩,⟨(Own.nil_ _ 0).ints,fun a n c e _=>by cases e⟩⟩
 have HK:=Hy (Ie KD (Ie S0 B2))
 have hwz:w.heap.size+2≤((w.alloc (.cells #[.int .i64 0] 3)).alloc (.cells #[.slice (some ⟨w.heap.size,0,none⟩) 1 1,.slice none 0 0,.slice none 0 0,.int .i64 5,.int .i64 2,.int .i64 8] 34)).heap.size:=by simp
 clear B2 K0 KD S0
 go_enter func5,ntmps5
 go_wp2_with fail
 generalize hW:((w.alloc (.cells #[.int .i64 0] 3)).alloc (.cells #[.slice (some ⟨w.heap.size,0,none⟩) 1 1,.slice none 0 0,.slice none 0 0,.int .i64 5,.int .i64 2,.int .i64 8] 34))=w0 at HK hwz ⊢
 clear hW
 refine(ik t 10 _ (by omega)).mono ?_
 rintro e w1 ⟨r,rfl,o,b1⟩
 obtain⟨ls,hls⟩:∃ls,au 10 t=ls:=⟨_,rfl⟩
 have hln:=fi 10 t
 rw[hls] at o hln
 obtain⟨A,c,rfl,-,-,-⟩:=o.strs.open_
 obtain⟨out,hout⟩:∃out,jd cL gR 0 ⟨#[]⟩ ls=out:=⟨_,rfl⟩
 have HOUT:=Hy hout
 have HLS:=Hy hls
 have HMS:=Hy (show ∀s∈ls,s.size≤t.size from fun s h=>cT (c:=10) (by rw[hls];exact h))
 have HR0:=Hy (show RsS w (w.heap.size+1) A c ls (.slice (some ⟨w.heap.size,0,none⟩) 1 1) (.slice none 0 0) (.slice none 0 0) gR w1 from⟨HK.out.1.below b1 HK.out.1.lt,HK.out.2.1.bel b1,o.strs,o.off.mono fun j hj=>by omega,aa HK.out.2.2 b1,Nat.le_succ _⟩)
 clear b1 o hls hout HK hwz
 go_wp2_with fail
 obtain⟨b,hb⟩:∃b,w.heap.size+1=b:=⟨_,rfl⟩
 rw[hb] at HR0 ⊢
 clear hb
 go_loopw [4,6] (fun u i wr=>∃(k:Nat) (T:ByteArray) (d:ae) (p e s:Value),k≤ls.length∧i=.int .i64 k∧u=.string T∧T.size≤70000∧(jd cL d k T (ls.drop k)=out∧d.Ok)∧RsS w b A c ls p e s d wr) (fun _ i _=>ls.length-(intOf i).toNat)
 case atStart=>exact⟨0,⟨#[]⟩,gR,_,_,_,Ip _,rfl,rfl,by decide,⟨HOUT.out,uU⟩,HR0.out⟩
 case round=>
  obtain⟨k,T,d,p,e,s,hk,rfl,rfl,hTs,hRan,hR⟩:=hrel
  have HRN:=Hy hRan
  have HR:=Hy hR
  clear HR0 hRan hR
  by_cases hlt:k<ls.length
  ·obtain⟨A6,c6,e6,-,-,hrd⟩:=HR.out.lin.open_
   cases e6
   obtain⟨lb,lo,rfl,hbb,hcell⟩:=hrd.strs (Nat.lt_of_le_of_lt (Ip _) hlt)
   have hck:=hcell k hlt
   have hsz:=HMS.out _ (cY ls k hlt)
   have hnext:=HRN.out.1
   rw[uR hlt] at hnext
   obtain⟨Z,hZ⟩:∃Z,sat ls k=Z:=⟨_,rfl⟩
   rw[hZ] at hck hsz hnext
   have HN:=Hy hnext
   clear hcell hrd hZ hnext
   cases hq:Z.toList.isEmpty
   ·by_cases h100:100≤k
    ·have h100i:(100:Int)≤(k:Int):=by omega
     have HE:=Hy (show T++⟨#[102,117,108,108,10]⟩=out from(mc (mP hq) (.inl h100)).symm.trans HN.out)
     have hcat:¬ 9223372036854775807<T.size+5:=by omega
     go_wp2
     go_ret
     exact⟨by rw[HLS.out,HOUT.out,←HE.out];rfl,HR.out.bel⟩
    ·have h100i:¬(100:Int)≤(k:Int):=by omega
     by_cases hT4:40000<T.size
     ·have hTi:(40000:Int)<(T.size:Int):=by omega
      have HE:=Hy (show T++⟨#[102,117,108,108,10]⟩=out from(mc (mP hq) (.inr hT4)).symm.trans HN.out)
      have hcat:¬ 9223372036854775807<T.size+5:=by omega
      go_wp2
      go_ret
      exact⟨by rw[HLS.out,HOUT.out,←HE.out];rfl,HR.out.bel⟩
     ·have hTi:¬(40000:Int)<(T.size:Int):=by omega
      have hnx:=tF (F:=cL) (d:=d) (k:=k) (T:=T) (r:=ls.drop (k+1)) (mP hq) (by omega) (by omega)
      obtain⟨hinv,hos⟩:=uW HRN.out.2 Z
      obtain⟨q,hq2⟩:∃q,cL d Z=q:=⟨_,rfl⟩
      rw[hq2] at hnx hinv hos
      have HR2:=Hy (show jd cL q.2 (k+1) (T++q.1) (ls.drop (k+1))=out∧q.2.Ok from⟨hnx.symm.trans HN.out,hinv⟩)
      have hto:(T++q.1).size≤70000:=by rw[pL];omega
      have HTO:=Hy hto
      have hcat:¬ 9223372036854775807<T.size+q.1.size:=by omega
      have HQ2:=Hy hq2
      have HOK:=Hy HRN.out.2
      clear hnx hinv hto hq2 HN HRN
      obtain⟨Ap,cp,rfl,-,-,-⟩:=HR.out.sta.1.1.open_
      obtain⟨Ae,ce,rfl,-,-,-⟩:=HR.out.sta.2.1.1.open_
      obtain⟨At,ct,rfl,-,-,-⟩:=HR.out.sta.2.2.1.open_
      go_wp2_with fail
      refine(nZ Z 32 _ (by omega)).mono ?_
      rintro e w2 ⟨rfl,rfl⟩
      obtain⟨c0,c1,c2,c3,c4,c5⟩:=HR.out.box.cells
      obtain⟨g0,g1,g2,g3,g4,g5⟩:=HR.out.box.frz
      have HBB:=Hy hbb
      cases hh:bO 32 Z
      ·have HEX:=Hy (show aP d Z=q from(zx hh).symm.trans HQ2.out)
       rw[rh hh]
       clear hh
       have tok1:True:=trivial
       go_wp2_with fail
       go_region_law (first
        |((try go_simp);go_at_call 10;have _t:=tok1;go_loud (refine(BP (fun j=>j≠b) _ d Z _ HOK.out (by first|exact HR.out.sta.r|exact(HR.out.next (ah _)).sta.r) (by first|exact HR.out.new|exact(HR.out.next (ah _)).new)).mono ?_;rw[HEX.out];rintro e5 w5 ⟨v5,rfl,s5,b5⟩;replace b5:Below wr.heap.size wr w5:=(by first|exact b5|exact aa (ah _) b5);have H5:=Hy (HR.out.next b5);obtain⟨p2,e2,t2,rfl,sq⟩:=s5.s;obtain⟨Ap2,cp2,rfl,-,-,-⟩:=sq.1.1.open_;obtain⟨Ae2,ce2,rfl,-,-,-⟩:=sq.2.1.1.open_;obtain⟨At2,ct2,rfl,-,-,-⟩:=sq.2.2.1.open_;have SQ:=Hy sq;clear sq s5;obtain⟨c0,c1,c2,c3,c4,c5⟩:=H5.out.box.cells;obtain⟨g0,g1,g2,g3,g4,g5⟩:=H5.out.box.frz;have hck:=(b5.cell (by exact HBB.out)).trans hck;clear tok1 b5;(try dsimp only)))
        |fail)
       all_goals
        have HRQ:=Hy (H5.out.put SQ.out)
        clear c0 c1 c2 c3 c4 c5 g0 g1 g2 g3 g4 g5
        (try clear hck)
        generalize hW6:(((((w5.setCell ⟨b,0,none⟩ (.slice Ap2 q.2.poly.length cp2)).setCell ⟨b,1,none⟩ (.slice Ae2 q.2.eng.length ce2)).setCell ⟨b,2,none⟩ (.slice At2 q.2.tab.length ct2)).setCell ⟨b,3,none⟩ (.int .i64 q.2.rw)).setCell ⟨b,4,none⟩ (.int .i64 q.2.ac)).setCell ⟨b,5,none⟩ (.int .i64 q.2.wi)=w6 at HRQ ⊢
        clear hW6
        go_wp2
        go_roundw
        case rel=>exact⟨k+1,T++q.1,q.2,_,_,_,hlt,by go_num,rfl,HTO.out,HR2.out,HRQ.out⟩
        case measure=>simp[intOf];omega
      ·have HEX:=Hy (show gN d (bef 32 Z) (aft 32 Z)=q from(Af hh).symm.trans HQ2.out)
       obtain⟨x1,x2,x3⟩:=si hh
       rw[mZ hh]
       obtain⟨m,hm⟩:∃m,(bef 32 Z).size=m:=⟨_,rfl⟩
       rw[hm] at x1 x2 x3 ⊢
       have hm1:¬(m:Int)<0:=by omega
       have hm2:m≤Z.size:=by omega
       have hm3:m+1≤Z.size:=by omega
       have hm4:(m:Int)≤(Z.size:Int):=by omega
       have hm5:(m:Int)+1≤(Z.size:Int):=by omega
       have hm6:(0:Int)≤(m:Int)+1:=by omega
       have hm7:((m:Int)+1).toNat=m+1:=by omega
       have hm8:IntKind.i64.wrap ((m:Int)+1)=(m:Int)+1:=by rw[IntWalk.i64_in] <;> omega
       have har:(aft 32 Z).size≤1000000:=by omega
       have HWD:=Hy (show ∀(v:Value) (X:World),SxR (fun j=>j≠b) X v d→SxN (fun j=>j≠b) X→Calls prog 11 #[v,.string (Z.extract 0 m),.string (Z.extract (m+1) Z.size)] X (SxQ (fun j=>j≠b) X q) from fun v X h1 h2=>by rw[x1,x2,←HEX.out];exact xF _ v d _ _ X har HOK.out h1 h2)
       clear hh hm x1 x2 x3 har
       have tok1:True:=trivial
       go_wp2_with fail
       go_region_law (first
        |((try go_simp);go_at_call 11;have _t:=tok1;go_loud (refine(HWD.out _ _ (by first|exact HR.out.sta.r|exact(HR.out.next (ah _)).sta.r) (by first|exact HR.out.new|exact(HR.out.next (ah _)).new)).mono ?_;rintro e5 w5 ⟨v5,rfl,s5,b5⟩;replace b5:Below wr.heap.size wr w5:=(by first|exact b5|exact aa (ah _) b5);have H5:=Hy (HR.out.next b5);obtain⟨p2,e2,t2,rfl,sq⟩:=s5.s;obtain⟨Ap2,cp2,rfl,-,-,-⟩:=sq.1.1.open_;obtain⟨Ae2,ce2,rfl,-,-,-⟩:=sq.2.1.1.open_;obtain⟨At2,ct2,rfl,-,-,-⟩:=sq.2.2.1.open_;have SQ:=Hy sq;clear sq s5;obtain⟨c0,c1,c2,c3,c4,c5⟩:=H5.out.box.cells;obtain⟨g0,g1,g2,g3,g4,g5⟩:=H5.out.box.frz;have hck:=(b5.cell (by exact HBB.out)).trans hck;clear tok1 b5;(try dsimp only)))
        |fail)
       all_goals
        have HRQ:=Hy (H5.out.put SQ.out)
        clear c0 c1 c2 c3 c4 c5 g0 g1 g2 g3 g4 g5
        (try clear hck)
        generalize hW6:(((((w5.setCell ⟨b,0,none⟩ (.slice Ap2 q.2.poly.length cp2)).setCell ⟨b,1,none⟩ (.slice Ae2 q.2.eng.length ce2)).setCell ⟨b,2,none⟩ (.slice At2 q.2.tab.length ct2)).setCell ⟨b,3,none⟩ (.int .i64 q.2.rw)).setCell ⟨b,4,none⟩ (.int .i64 q.2.ac)).setCell ⟨b,5,none⟩ (.int .i64 q.2.wi)=w6 at HRQ ⊢
        clear hW6
        go_wp2
        go_roundw
        case rel=>exact⟨k+1,T++q.1,q.2,_,_,_,hlt,by go_num,rfl,HTO.out,HR2.out,HRQ.out⟩
        case measure=>simp[intOf];omega
   ·obtain rfl:=CF hq
    go_wp2
    go_roundw
    case rel=>exact⟨k+1,T,d,_,_,_,hlt,by go_num,rfl,hTs,⟨(sT (F:=cL) (d:=d) (k:=k) (T:=T) (r:=ls.drop (k+1))).symm.trans HN.out,HRN.out.2⟩,HR.out⟩
    case measure=>simp[intOf];omega
  ·have hke:k=ls.length:=by omega
   subst hke
   have HE:=Hy (show T=out from by
    have h5:=HRN.out.1
    rw[List.drop_length] at h5
    exact h5)
   go_wp2
   go_ret
   exact⟨by rw[HLS.out,HOUT.out,←HE.out];rfl,HR.out.bel⟩
theorem qF (t:ByteArray) (w:World) (hs:20000<t.size):Calls prog 5 #[.string t] w fun e w'=>e=.returned (.string zU)∧Below w.heap.size w w':=by
 have h1:(20000:Int)<(t.size:Int):=by omega
 go_enter func5,ntmps5
 go_wp2
 go_ret
 exact⟨rfl,Below.refl _ _⟩
theorem sd (t:ByteArray) (w:World):Calls prog 5 #[.string t] w fun e w'=>e=.returned (.string (lC cL t))∧Below w.heap.size w w':=by
 unfold lC
 by_cases h:20000<t.size
 ·rw[if_pos h]
  exact qF t w h
 ·rw[if_neg h]
  exact rr t w (by omega)
theorem lawRunScript (t:ByteArray) (w:World) (ht:t.size≤9223372036854775807) (hg:GlbC w):
  Calls prog 3 #[.string t] w fun e w'=>e=.returned (.bool true)∧Below w.heap.size w w':=by
 have HG:=Hy hg
 clear hg
 go_enter func3,ntmps3
 by_cases hbig:(1048576:Int)<(t.size:Int)
 ·go_wp2
  go_ret
  exact⟨rfl,Below.refl _ _⟩
 ·obtain⟨out,ho⟩:∃out,lC cL t=out:=⟨_,rfl⟩
  have HO:=Hy ho
  clear ho
  go_wp2_with fail
  refine(sd t _).mono ?_
  rw[HO.out]
  rintro e w1 ⟨rfl,b1⟩
  have B1:=Hy b1
  clear b1
  go_wp2_with fail
  refine(rX t _ (HG.out.bel B1.out)).mono ?_
  rw[HO.out]
  rintro e w2 ⟨rfl,b2⟩
  have B2:=Hy (aa B1.out b2)
  clear b2
  go_wp2
  go_ret
  exact⟨rfl,B2.out⟩
end Go.Proofs.YtfmjklgfpiffbaaGreatDoor
