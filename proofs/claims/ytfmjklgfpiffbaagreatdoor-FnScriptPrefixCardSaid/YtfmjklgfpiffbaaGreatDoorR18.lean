/-
  Parts of the proof of one statement, merged: Deg Itp Lng Grd Che Chb Chf Chn Chr Chw ErA ErB ErI EsG.
-/
import Derived.Deep.DrawnRows
import Derived.Test.YtfmjklgfpiffbaaGreatDoorR13
namespace Go.Proofs.YtfmjklgfpiffbaaGreatDoor
open Go.RowKit Go.Proofs.Tryz
set_option linter.unusedVariables false
set_option linter.unusedSimpArgs false
set_option maxRecDepth 100000
set_option maxHeartbeats 8000000
attribute [local go_sem ↓] Go.wp_at_zero Go.wp_at_succ
theorem jJ (v:Value) (l:List Int) (w:World) (hv:ai w v l):
  Calls prog 189 #[v] w fun e w'=>e=.returned (.bool (ci l))∧w=w':=by
 have HV:=Jj hv;obtain⟨A,c,rfl,hlc,hc,hrd⟩:=hv.open_;clear hv hrd
 go_enter func189,ntmps189
 go_wp2_with fail
 refine(fd _ l 0 _ HV.out (by omega) (by omega)).mono ?_;rintro e w' ⟨rfl,rfl⟩;go_wp2;go_ret;exact⟨rfl,rfl⟩
theorem iu (v:Value) (l:List Int) (w:World) (hv:ai w v l):
  Calls prog 74 #[v] w fun e w'=>e=.returned (.bool (ci l))∧w=w':=by
 obtain⟨A,c,rfl,hlc,hc,hrd⟩:=hv.open_
 go_enter func74,ntmps74
 go_wp2
 go_loop [3] (fun i=>∃k:Nat,k≤l.length∧i=.int .i64 k∧∀j,j<k→at_ l j=0) (fun i=>l.length-(intOf i).toNat)
 case atStart=>exact⟨0,Jy _,rfl,fun j hj=>absurd hj (by omega)⟩
 case round=>
  obtain⟨k,hk,rfl,hall⟩:=hrel;have HA:=Jj hall;clear hall;by_cases hlt:k<l.length
  ·obtain⟨bb,o,rfl,hb,hcell⟩:=hrd.ints (by omega);have hck:=hcell k hlt;clear hcell;by_cases hz:at_ l k=0
   ·have HZ:=Jj hz;have hz1:(at_ l k != 0)=false:=by simp[hz]
    clear hz;go_wp2
    go_round
    case rel=>exact⟨k+1,by omega,by go_num,cS HA.out HZ.out⟩
    case measure=>simp[intOf];omega
   ·have hz1:(at_ l k != 0)=true:=by simp[hz]
    have HZ:=Jj (show ci l=false by
     cases hq:ci l with
     |false=>rfl
     |true=>exact absurd (jx.1 hq k hlt) hz)
    clear hz;go_wp2;go_ret;exact⟨aD HZ.out.symm,rfl⟩
  ·have HZ:=Jj (show ci l=true from jx.2 (fun j hj=>HA.out j (by omega)));go_wp2;go_ret;exact⟨aD HZ.out.symm,rfl⟩
theorem mE (v:Value) (l:List Int) (w:World) (hv:ai w v l) (hl:l.length≤1048576):
  Calls prog 114 #[v] w fun e w'=>e=.returned (.int .i64 (ew l))∧Below w.heap.size w w':=by
 have HV:=Jj hv;obtain⟨A,c,rfl,hlc,hc,-⟩:=hv.open_;clear hv
 go_enter func114,ntmps114
 cases ht:ag l
 ·have HD:=Jj (ng ht)
  go_wp2_with (go_at_call 115;refine(aF _ _ _ HV.out).mono ?_;rintro e w' ⟨rfl,rfl⟩)
  go_ret;exact⟨by rw[HD.out];rfl,Below.refl _ _⟩
 ·have HD:=Jj (ko ht)
  go_wp2_with (go_at_call 115;refine(aF _ _ _ HV.out).mono ?_;rintro e w' ⟨rfl,rfl⟩)
  go_loopw [3,4] (fun s k wr=>∃j:Nat,j≤8∧k=.int .i64 ((j:Int)-1)∧ai wr s (bc l j)∧(∀i,i<j→ci (bc l i)=false)∧Below w.heap.size w wr) (fun _ k _=>8-(intOf k+1).toNat)
  case atStart=>exact⟨0,by omega,rfl,HV.out,fun i hi=>absurd hi (by omega),Below.refl _ _⟩
  case round=>
   obtain⟨j,hj,rfl,hi,hno,hb⟩:=hrel;have H:=Jj (Jq hi (Jq hno hb));have hrl:=bj l j;have HRL:=Jj (show(bc l j).length≤1048576 by omega);obtain⟨A1,c1,rfl,-,-,-⟩:=hi.open_;clear hi hno hb hrl;by_cases hlt:j<8
   ·have p1:(j:Int)-1≤6:=by omega
    cases hz:ci (bc l j)
    ·go_wp2_with fail
     refine(jJ _ _ _ H.out.1).mono ?_;rw[hz];rintro e w' ⟨rfl,rfl⟩
     go_wp2_with fail
     refine(ll _ _ _ H.out.1 HRL.out).mono ?_;rintro e w2 ⟨r,rfl,o2,b2⟩;have HI:=Jj o2.ints;have HB:=Jj (aa H.out.2.2 b2);have hz':=Jj hz;clear o2 b2 hz;go_wp2;go_roundw
     case rel=>exact⟨j+1,hlt,by go_num,HI.out,cS H.out.2.1 hz'.out,HB.out⟩
     case measure=>simp[intOf];omega
    ·go_wp2_with fail
     refine(jJ _ _ _ H.out.1).mono ?_;rw[hz];rintro e w' ⟨rfl,rfl⟩;have hd:=Jj (sI hlt H.out.2.1 hz);clear hz;go_wp2;go_ret;exact⟨by rw[HD.out,hd.out];rfl,H.out.2.2⟩
   ·have p1:¬(j:Int)-1≤6:=by omega
    obtain rfl:j=8:=by omega
    have hd:=Jj (yU H.out.2.1);go_wp2;go_ret;exact⟨by rw[HD.out,hd.out];rfl,H.out.2.2⟩
theorem mT (v:Value) (l:List Int) (w:World) (hv:ai w v l) (hl:l.length≤1048576):
  Calls prog 34 #[v] w fun e w'=>e=.returned (.int .i64 (ew l))∧Below w.heap.size w w':=by
 have HV:=Jj hv;obtain⟨A,c,rfl,hlc,hc,-⟩:=hv.open_;clear hv
 go_enter func34,ntmps34
 cases ht:ag l
 ·have HD:=Jj (ng ht)
  go_wp2_with (go_at_call 32;refine(az _ _ _ HV.out).mono ?_;rintro e w' ⟨rfl,rfl⟩)
  go_ret;exact⟨by rw[HD.out];rfl,Below.refl _ _⟩
 ·have HD:=Jj (ko ht)
  go_wp2_with (go_at_call 32;refine(az _ _ _ HV.out).mono ?_;rintro e w' ⟨rfl,rfl⟩)
  go_loopw [3,4] (fun s k wr=>∃j:Nat,j≤7∧k=.int .i64 ((j:Int)-1)∧ai wr s (bc l j)∧(∀i,i<j→ci (bc l i)=false)∧Below w.heap.size w wr) (fun _ k _=>8-(intOf k+1).toNat)
  case atStart=>exact⟨0,by omega,rfl,HV.out,fun i hi=>absurd hi (by omega),Below.refl _ _⟩
  case round=>
   obtain⟨j,hj,rfl,hi,hno,hb⟩:=hrel;have H:=Jj (Jq hi (Jq hno hb));have hrl:=bj l j;have HRL:=Jj (show(bc l j).length≤1048576 by omega);obtain⟨A1,c1,rfl,-,-,-⟩:=hi.open_;clear hi hno hb hrl;by_cases hlt:j<7
   ·have p1:(j:Int)-1<6:=by omega
    cases hz:ci (bc l j)
    ·go_wp2_with fail
     refine(iu _ _ _ H.out.1).mono ?_;rw[hz];rintro e w' ⟨rfl,rfl⟩
     go_wp2_with fail
     refine(nV _ _ _ H.out.1 HRL.out).mono ?_;rintro e w2 ⟨r,rfl,o2,b2⟩;have HI:=Jj o2.ints;have HB:=Jj (aa H.out.2.2 b2);have hz':=Jj hz;clear o2 b2 hz;go_wp2;go_roundw
     case rel=>exact⟨j+1,hlt,by go_num,HI.out,cS H.out.2.1 hz'.out,HB.out⟩
     case measure=>simp[intOf];omega
    ·go_wp2_with fail
     refine(iu _ _ _ H.out.1).mono ?_;rw[hz];rintro e w' ⟨rfl,rfl⟩;have hd:=Jj (sI (by omega) H.out.2.1 hz);clear hz;go_wp2;go_ret;exact⟨by rw[HD.out,hd.out];rfl,H.out.2.2⟩
   ·have p1:¬(j:Int)-1<6:=by omega
    obtain rfl:j=7:=by omega
    cases hz:ci (bc l 7)
    ·go_wp2_with fail
     refine(iu _ _ _ H.out.1).mono ?_;rw[hz];rintro e w' ⟨rfl,rfl⟩;have hd:=Jj (yU (cS H.out.2.1 hz));clear hz;go_wp2;go_ret;exact⟨by rw[HD.out,hd.out];rfl,H.out.2.2⟩
    ·go_wp2_with fail
     refine(iu _ _ _ H.out.1).mono ?_;rw[hz];rintro e w' ⟨rfl,rfl⟩;have hd:=Jj (sI (by omega) H.out.2.1 hz);clear hz;go_wp2;go_ret;exact⟨by rw[HD.out,hd.out];rfl,H.out.2.2⟩
theorem vS {l:List Int} (h:ag l=false):eB l=false∧itL l=[]:=by simp[eB,itL,h]
theorem CK {l:List Int} (h:¬dJ l≤7):eB l=false∧itL l=[]:=by simp[eB,itL,h]
theorem CL {l:List Int} (ht:ag l=true) (hd:dJ l≤7):eB l=av (itD l)∧itL l=gS (itD l):=by
 have:eB l=av (itD l):=by simp[eB,ht,hd]
 refine⟨this,?_⟩;unfold itL gS;rw[this]
theorem ai.takeN {w:World} {b o c:Nat} {l:List Int} (h:ai w (.slice (some ⟨b,o,none⟩) l.length c) l) {n:Nat} (hn:n≤l.length):ai w (.slice (some ⟨b,o,none⟩) n c) (l.take n):=by
 obtain⟨⟨A,c',e,h1,h2,h3⟩,hwf⟩:=h;injection e with e1 e2 e3;subst e1 e3;have hl:(l.take n).length=n:=by rw[List.length_take];omega
 rw[be] at h1;refine⟨⟨some ⟨b,o,none⟩,c,by rw[be,hl],by rw[be,hl];omega,h2,fun hp=>?_⟩,fun x hx=>hwf x (List.mem_of_mem_take hx)⟩;rw[be,hl] at hp;obtain⟨b2,o2,e,hlt,hc⟩:=h3 (by rw[be];omega);injection e with e;injection e with e1 e2;subst e1 e2;refine⟨b,o,rfl,hlt,fun k u hu=>hc k u ?_⟩;rw[←hu];have hk:k<n:=by
  rcases Nat.lt_or_ge k n with q|q
  ·exact q
  ·rw[List.getElem?_eq_none (by rw[be,hl];exact q)] at hu;cases hu
 rw[lV _ k (by omega),lV _ k (by omega),jl hk]
theorem ry (v:Value) (l:List Int) (w:World) (hv:ai w v l) (hl:l.length≤1048576):
  Calls prog 105 #[v] w (cK w (itL l) (eB l)):=by
 have HV:=Jj hv;obtain⟨A,c,rfl,hlc,hc,hrd⟩:=hv.open_;have HR:=Jj hrd;clear hv hrd
 go_enter func105,ntmps105
 go_wp2_with fail
 refine(mE _ l _ HV.out hl).mono ?_;rintro e w2 ⟨rfl,b2⟩;have HB:=Jj b2;clear b2;cases ht:ag l
 ·have HN:=Jj (vS ht);rw[ng ht];go_wp2;go_ret2;exact⟨_,by rw[HN.out.1];rfl,by rw[HN.out.2];exact Own.nil_ _ _,HB.out⟩
 ·rw[ko ht];have hle:=nL l;have h1:=(aA ht).1;obtain⟨D,hD⟩:∃D,dJ l=D:=⟨_,rfl⟩;rw[hD] at hle ⊢;have q1:(((D:Int)-1) == -2)=false:=by rw[beq_eq_false_iff_ne];omega
  by_cases h7:D≤7
  ·have q2:¬(D:Int)-1>6:=by omega
   have HY:=Jj (CL ht (by omega));obtain⟨b,o,rfl,hb,hcell⟩:=HR.out.ints (by omega);clear hcell
   rcases Nat.eq_zero_or_pos D with h0|h0
   ·subst h0;have HT:=Jj (show ai w2 (.slice (some ⟨b,o,none⟩) 1 c) (l.take 1) from ai.takeN (HV.out.bel HB.out) h1);have HE:=Jj (show itD l=dw (l.take 1) by unfold itD;rw[hD];rfl);have HL:=Jj (show(l.take 1).length≤1048576 by rw[List.length_take];omega);have q4:(1:Int)≤(c:Int):=by omega
    rw[show(((0:Nat):Int)-1) = -1 from rfl] at q1 q2 ⊢;clear hD hle
    go_wp2_with fail
    refine(lh _ _ _ HT.out HL.out).mono ?_;rintro e w3 ⟨r,rfl,o3,b3⟩;have HO:=Jj o3;have HB3:=Jj (aa HB.out b3);obtain⟨A3,c3,rfl,-,-,-⟩:=o3.ints.open_;clear o3 b3
    go_wp2_with fail
    refine(gF _ _ _ HO.out.ints).mono ?_;rintro e w4 ⟨rfl,rfl⟩;go_wp2;go_ret2;exact⟨_,by rw[HY.out.1,HE.out];rfl,by rw[HY.out.2,HE.out];exact(HO.out.lower HB.out.size).chk,HB3.out⟩
   ·obtain⟨k,rfl⟩:∃k,D=k+1:=⟨D-1,by omega⟩;have hkl:k+1≤l.length:=by omega
    have HT:=Jj (show ai w2 (.slice (some ⟨b,o,none⟩) (k+1) c) (l.take (k+1)) from ai.takeN (HV.out.bel HB.out) hkl);have HE:=Jj (show itD l=dw (l.take (k+1)) by unfold itD;rw[hD,Nat.max_eq_left (by omega)]);have HL:=Jj (show(l.take (k+1)).length≤1048576 by rw[List.length_take];omega);have q4:(k:Int)+1≤(c:Int):=by omega
    have q5:(0:Int)≤(k:Int)+1:=by omega
    have q6:((k:Int)+1).toNat=k+1:=by omega
    have q7:IntKind.i64.wrap ((k:Int)+1)=(k:Int)+1:=by rw[IntWalk.i64_in] <;> omega
    have q8:¬(k:Int)<0:=by omega
    have q9:¬(k:Int)>6:=by omega
    rw[show(((k+1:Nat):Int)-1)=(k:Int) from by omega] at q1 ⊢;clear hD hle q2
    go_wp2_with fail
    refine(lh _ _ _ HT.out HL.out).mono ?_;rintro e w3 ⟨r,rfl,o3,b3⟩;have HO:=Jj o3;have HB3:=Jj (aa HB.out b3);obtain⟨A3,c3,rfl,-,-,-⟩:=o3.ints.open_;clear o3 b3
    go_wp2_with fail
    refine(gF _ _ _ HO.out.ints).mono ?_;rintro e w4 ⟨rfl,rfl⟩;go_wp2;go_ret2;exact⟨_,by rw[HY.out.1,HE.out];rfl,by rw[HY.out.2,HE.out];exact(HO.out.lower HB.out.size).chk,HB3.out⟩
  ·have HN:=Jj (CK (l:=l) (by omega));have q2:(D:Int)-1>6:=by omega
   clear hD;go_wp2;go_ret2;exact⟨_,by rw[HN.out.1];rfl,by rw[HN.out.2];exact Own.nil_ _ _,HB.out⟩
theorem sd (v:Value) (l:List Int) (w:World) (hv:ai w v l) (hl:l.length≤1048576):
  Calls prog 31 #[v] w (cK w (itL l) (eB l)):=by
 have HV:=Jj hv;obtain⟨A,c,rfl,hlc,hc,hrd⟩:=hv.open_;have HR:=Jj hrd;clear hv hrd
 go_enter func31,ntmps31
 go_wp2_with fail
 refine(mT _ l _ HV.out hl).mono ?_;rintro e w2 ⟨rfl,b2⟩;have HB:=Jj b2;clear b2;cases ht:ag l
 ·have HN:=Jj (vS ht);rw[ng ht];have OE:=Jj (Own.empty w2 w.heap.size HB.out.size)
  go_wp2_with fail
  refine(aL _ _ _ _).mono ?_;rintro e w3 ⟨rfl,rfl⟩;rw[show inB (-2) (-1) 6=false from rfl];go_wp2;go_ret2;exact⟨_,by rw[HN.out.1];rfl,by rw[HN.out.2];exact OE.out,aa HB.out (ab _ _)⟩
 ·rw[ko ht];have hle:=nL l;have h1:=(aA ht).1;obtain⟨D,hD⟩:∃D,dJ l=D:=⟨_,rfl⟩;rw[hD] at hle ⊢;have OE:=Jj (Own.empty w2 w.heap.size HB.out.size)
  go_wp2_with fail
  refine(aL _ _ _ _).mono ?_;rintro e w3 ⟨rfl,rfl⟩;by_cases h7:D≤7
  ·have HY:=Jj (CL ht (by omega));obtain⟨b,o,rfl,hb,hcell⟩:=HR.out.ints (by omega);clear hcell;rw[show inB ((D:Int)-1) (-1) 6=true from am.2 (by omega)]
   rcases Nat.eq_zero_or_pos D with h0|h0
   ·subst h0;have HT:=Jj (show ai w2 (.slice (some ⟨b,o,none⟩) 1 c) (l.take 1) from ai.takeN (HV.out.bel HB.out) h1);have HE:=Jj (show itD l=dw (l.take 1) by unfold itD;rw[hD];rfl);have HL:=Jj (show(l.take 1).length≤1048576 by rw[List.length_take];omega);have q4:(1:Int)≤(c:Int):=by omega
    rw[show(((0:Nat):Int)-1) = -1 from rfl] at ⊢;clear hD hle
    go_wp2_with fail
    refine(jM _ _ _ HT.out HL.out).mono ?_;rintro e w3 ⟨r,rfl,o3,b3⟩;have HO:=Jj (o3.lower HB.out.size);have HB3:=Jj (aa HB.out b3);obtain⟨A3,c3,rfl,-,-,-⟩:=o3.ints.open_;clear o3 b3;go_wp2;go_ret2;exact⟨_,by rw[HY.out.1,HE.out];rfl,by rw[HY.out.2,HE.out];exact HO.out,HB3.out⟩
   ·obtain⟨k,rfl⟩:∃k,D=k+1:=⟨D-1,by omega⟩;have hkl:k+1≤l.length:=by omega
    have HT:=Jj (show ai w2 (.slice (some ⟨b,o,none⟩) (k+1) c) (l.take (k+1)) from ai.takeN (HV.out.bel HB.out) hkl);have HE:=Jj (show itD l=dw (l.take (k+1)) by unfold itD;rw[hD,Nat.max_eq_left (by omega)]);have HL:=Jj (show(l.take (k+1)).length≤1048576 by rw[List.length_take];omega);have q4:(k:Int)+1≤(c:Int):=by omega
    have q5:(0:Int)≤(k:Int)+1:=by omega
    have q6:((k:Int)+1).toNat=k+1:=by omega
    have q7:IntKind.i64.wrap ((k:Int)+1)=(k:Int)+1:=by rw[IntWalk.i64_in] <;> omega
    have q8:¬(k:Int)+1<1:=by omega
    rw[show(((k+1:Nat):Int)-1)=(k:Int) from by omega] at ⊢;clear hD hle
    go_wp2_with fail
    refine(jM _ _ _ HT.out HL.out).mono ?_;rintro e w3 ⟨r,rfl,o3,b3⟩;have HO:=Jj (o3.lower HB.out.size);have HB3:=Jj (aa HB.out b3);obtain⟨A3,c3,rfl,-,-,-⟩:=o3.ints.open_;clear o3 b3;go_wp2;go_ret2;exact⟨_,by rw[HY.out.1,HE.out];rfl,by rw[HY.out.2,HE.out];exact HO.out,HB3.out⟩
  ·have HN:=Jj (CK (l:=l) (by omega));rw[show inB ((D:Int)-1) (-1) 6=false from bm.2 (by omega)];clear hD;go_wp2;go_ret2;exact⟨_,by rw[HN.out.1];rfl,by rw[HN.out.2];exact OE.out,aa HB.out (ab _ _)⟩
theorem pC (v:Value) (l:List Int) (d:Int) (w:World) (hv:ai w v l) (hl:l.length≤1048576) (hd:0≤d):
  Calls prog 219 #[v,.int .i64 d] w (cK w (rnL l d) (bN l d)):=by
 have HV:=Jj hv;obtain⟨A,c,rfl,-,-,-⟩:=hv.open_;clear hv
 go_enter func219,ntmps219
 go_wp2_with fail
 refine(mE _ l _ HV.out hl).mono ?_;rintro e w2 ⟨rfl,b2⟩;have HB:=Jj b2;clear b2;cases ht:ag l
 ·have HN:=Jj (show bN l d=false∧rnL l d=[] by simp[bN,rnL,vS ht]);rw[ng ht];go_wp2;go_ret2;exact⟨_,by rw[HN.out.1];rfl,by rw[HN.out.2];exact Own.nil_ _ _,HB.out⟩
 ·have hdg:=ko ht;obtain⟨D,hD⟩:∃D,ew l=D:=⟨_,rfl⟩;rw[hD] at hdg ⊢;have q1:(D == -2)=false:=by rw[beq_eq_false_iff_ne];omega
  clear hdg;by_cases h7:D≤d
  ·have HY:=Jj (Du (l:=l) (d:=d) (by omega));have q2:¬D>d:=by omega
   clear hD
   go_wp2_with fail
   refine(ry _ l _ (HV.out.bel HB.out) hl).mono ?_;rintro e w3 ⟨r,rfl,o3,b3⟩;have HO:=Jj (o3.lower HB.out.size);have HB3:=Jj (aa HB.out b3);obtain⟨A3,c3,rfl,-,-,-⟩:=o3.ints.open_;clear o3 b3;go_wp2;go_ret2;exact⟨_,by rw[HY.out.1];rfl,by rw[HY.out.2];exact HO.out,HB3.out⟩
  ·have HN:=Jj (Dv (l:=l) (d:=d) (by omega));have q2:D>d:=by omega
   clear hD;go_wp2;go_ret2;exact⟨_,by rw[HN.out.1];rfl,by rw[HN.out.2];exact Own.nil_ _ _,HB.out⟩
theorem jY (v:Value) (l:List Int) (d:Int) (w:World) (hv:ai w v l) (hl:l.length≤1048576):
  Calls prog 239 #[v,.int .i64 d] w (cK w (rnL l d) (bN l d)):=by
 have HV:=Jj hv;obtain⟨A,c,rfl,-,-,-⟩:=hv.open_;clear hv
 go_enter func239,ntmps239
 go_wp2_with fail
 refine(mT _ l _ HV.out hl).mono ?_;rintro e w2 ⟨rfl,b2⟩;have HB:=Jj b2;clear b2;have OE:=Jj (Own.empty w2 w.heap.size HB.out.size);obtain⟨D,hD⟩:∃D,ew l=D:=⟨_,rfl⟩;rw[hD];by_cases h7:D≤d
 ·have HY:=Jj (Du (l:=l) (d:=d) (by omega));have q2:¬D>d:=by omega
  clear hD
  go_wp2_with fail
  refine(sd _ l _ (HV.out.bel HB.out) hl).mono ?_;rintro e w3 ⟨r,rfl,o3,b3⟩;have HO:=Jj (o3.lower HB.out.size);have HB3:=Jj (aa HB.out b3);obtain⟨A3,c3,rfl,-,-,-⟩:=o3.ints.open_;clear o3 b3;go_wp2;go_ret2;exact⟨_,by rw[HY.out.1];rfl,by rw[HY.out.2];exact HO.out,HB3.out⟩
 ·have HN:=Jj (Dv (l:=l) (d:=d) (by omega));have q2:D>d:=by omega
  clear hD;go_wp2;go_ret2;exact⟨_,by rw[HN.out.1];rfl,by rw[HN.out.2];exact OE.out,aa HB.out (ab _ _)⟩
theorem cU (v:Value) (l:List Int) (w:World) (hv:ai w v l):
  Calls prog 213 #[v] w fun e w'=>e=.returned (.bool (cI l))∧w=w':=by
 have HV:=Jj hv;obtain⟨A,c,rfl,-,-,-⟩:=hv.open_;have hs:cI l=(ag l&&l.all fun t=>inB t (-1500) 1500):=rfl;rw[hs];clear hv hs
 go_enter func213,ntmps213
 cases ht:ag l
 ·go_wp2_with (go_at_call 115;refine(aF _ _ _ HV.out).mono ?_;rintro e w' ⟨rfl,rfl⟩)
  go_ret;exact⟨rfl,rfl⟩
 ·go_wp2_with (first
   |(go_at_call 115;refine(aF _ _ _ HV.out).mono ?_;rintro e w' ⟨rfl,rfl⟩)
   |(go_at_call 191;refine(fd _ l 1500 _ HV.out (by omega) (by omega)).mono ?_;rintro e w' ⟨rfl,rfl⟩))
  go_ret;exact⟨rfl,rfl⟩
theorem dq (d:Int) (w:World):
  Calls prog 214 #[.int .i64 d] w fun e w'=>e=.returned (.bool (inB d 0 6))∧w=w':=by
 go_enter func214,ntmps214
 go_wp2
 all_goals (go_ret;refine⟨?_,rfl⟩;first|(simp_all [inB];done)|(simp_all [inB];omega))
theorem kT (d:Int) (w:World):
  Calls prog 233 #[.int .i64 d] w fun e w'=>e=.returned (.bool (inB d 0 6))∧w=w':=by
 go_enter func233,ntmps233
 go_wp2_with fail
 refine(aL _ _ _ _).mono ?_;rintro e w' ⟨rfl,rfl⟩;go_wp2;go_ret;exact⟨rfl,rfl⟩
theorem el (v:Value) (l:List Int) (w:World) (hv:ai w v l):
  Calls prog 237 #[v] w fun e w'=>e=.returned (.bool (cI l))∧w=w':=by
 have HV:=Jj hv;obtain⟨A,c,rfl,hlc,hc,hrd⟩:=hv.open_;clear hv
 go_enter func237,ntmps237
 go_wp2
 go_loop [3] (fun i=>∃k:Nat,k≤l.length∧i=.int .i64 k∧∀j,j<k→inB (at_ l j) (-1500) 1500=true) (fun i=>l.length-(intOf i).toNat)
 case atStart=>exact⟨0,Jy _,rfl,fun j hj=>absurd hj (by omega)⟩
 case round=>
  obtain⟨k,hk,rfl,hall⟩:=hrel;have HA:=Jj hall;clear hall;by_cases hlt:k<l.length
  ·obtain⟨bb,o,rfl,hb,hcell⟩:=hrd.ints (by omega);have hck:=hcell k hlt;clear hcell
   go_wp2_with (go_at_call 72;refine(aL _ _ _ _).mono ?_;rintro e w' ⟨rfl,rfl⟩)
   ·have h:(!inB (at_ l k) (-1500) 1500)=true:=by assumption
    have HZ:=Jj (show cI l=false by
     have:=oO (p:=fun t=>inB t (-1500) 1500) hlt (by simpa using h);unfold cI;rw[this,Bool.and_false])
    go_ret;exact⟨aD HZ.out.symm,rfl⟩
   ·have h:(!inB (at_ l k) (-1500) 1500)=false:=by assumption
    go_round
    case rel=>exact⟨k+1,by omega,by go_num,cS HA.out (by simpa using h)⟩
    case measure=>simp[intOf];omega
  ·have HZ:=Jj (show cI l=ag l by
    have:=rd (p:=fun t=>inB t (-1500) 1500) (fun j hj=>HA.out j (by omega));unfold cI;rw[this,Bool.and_true])
   go_wp2_with fail
   refine(az _ _ _ HV.out).mono ?_;rintro e w' ⟨rfl,rfl⟩;go_wp2;go_ret;exact⟨aD HZ.out.symm,rfl⟩
theorem rH (s c:Int) (w:World):
  Calls prog 242 #[.int .i64 s,.int .i64 c] w fun e w'=>e=.returned (.bool (inB s 0 1000&&inB c 0 1000))∧w=w':=by
 go_enter func242,ntmps242
 cases hs:inB s 0 1000
 ·go_wp2_with (go_at_call 72;refine(aL _ _ _ _).mono ?_;rintro e w' ⟨rfl,rfl⟩)
  go_ret;exact⟨rfl,rfl⟩
 ·go_wp2_with (go_at_call 72;refine(aL _ _ _ _).mono ?_;rintro e w' ⟨rfl,rfl⟩)
  go_ret;exact⟨rfl,rfl⟩
theorem pJ (v:Value) (l:List Int) (d:Int) (w:World) (hv:ai w v l) (hl:l.length≤1000000):
  Calls prog 238 #[v,.int .i64 d] w fun e w'=>e=.returned (.int .i64 (lgN l d:Nat))∧Below w.heap.size w w':=by
 have HV:=Jj hv;obtain⟨A,c,rfl,hlc,hc,hrd⟩:=hv.open_;have HR:=Jj hrd;clear hv hrd
 go_enter func238,ntmps238
 go_wp2
 go_loopw [5] (fun i wr=>∃n:Nat,n≤l.length∧i=.int .i64 n∧(∀j,j<n→bN (l.take (j+1)) d=true)∧Below w.heap.size w wr) (fun i _=>l.length-(intOf i).toNat)
 case atStart=>exact⟨0,Jy _,rfl,fun j hj=>absurd hj (by omega),Below.refl _ _⟩
 case round=>
  obtain⟨n,hn,rfl,hall,hb⟩:=hrel;have H:=Jj (Jq hall hb);clear hall hb;by_cases hlt:n<l.length
  ·obtain⟨b,o,rfl,hbb,hcell⟩:=HR.out.ints (by omega);have HT:=Jj (show ai wr (.slice (some ⟨b,o,none⟩) (n+1) c) (l.take (n+1)) from ai.takeN (HV.out.bel H.out.2) hlt);have HL:=Jj (show(l.take (n+1)).length≤1048576 by rw[List.length_take];omega);have q4:(n:Int)+1≤(c:Int):=by omega
   have q5:(0:Int)≤(n:Int)+1:=by omega
   have q6:((n:Int)+1).toNat=n+1:=by omega
   have q7:IntKind.i64.wrap ((n:Int)+1)=(n:Int)+1:=by rw[IntWalk.i64_in] <;> omega
   clear hcell
   go_wp2_with fail
   refine(jY _ _ d _ HT.out HL.out).mono ?_;rintro e w3 ⟨r,rfl,o3,b3⟩;obtain⟨A3,c3,rfl,-,-,-⟩:=o3.ints.open_;have HB3:=Jj (aa H.out.2 b3);clear o3 b3;cases hr:bN (l.take (n+1)) d
   ·have HZ:=Jj (pr hn H.out.1 (.inr hr));clear hr;go_wp2;go_ret;exact⟨by rw[HZ.out];rfl,HB3.out⟩
   ·have HZ:=Jj (cS H.out.1 hr);clear hr;go_wp2;go_roundw
    case rel=>exact⟨n+1,hlt,by go_num,HZ.out,HB3.out⟩
    case measure=>simp[intOf];omega
  ·have HZ:=Jj (pr hn H.out.1 (.inl (by omega)));go_wp2;go_ret;exact⟨by rw[HZ.out];rfl,H.out.2⟩
theorem ai.midN {w:World} {b o c:Nat} {l:List Int} (h:ai w (.slice (some ⟨b,o,none⟩) l.length c) l) {lo n:Nat} (hn:lo+n≤l.length):ai w (.slice (some ⟨b,o+lo,none⟩) n (c-lo)) ((l.drop lo).take n):=by
 have hd:=h.dropN (n:=lo) (by omega);have e:(l.drop lo).length=l.length-lo:=List.length_drop ..;rw[←e] at hd;exact hd.takeN (by rw[e];omega)
theorem vP (v:Value) (l:List Int) (i:Nat) (d:Int) (w:World) (hv:ai w v l) (hs:cI l=true) (hd:inB d 0 6=true) (hi:i<l.length):
  Calls prog 216 #[v,.int .i64 i,.int .i64 d] w fun e w'=>e=.returned (.int .i64 (lgN (l.drop i) d:Nat))∧Below w.heap.size w w':=by
 have HV:=Jj hv;have HS:=Jj hs;have HD:=Jj hd;obtain⟨A,c,rfl,hlc,hc,hrd⟩:=hv.open_;obtain⟨b,o,rfl,hbb,hcell⟩:=hrd.ints (by omega);obtain⟨l1,l60,-⟩:=cd.1 hs;have hd':=am.1 hd;obtain⟨m,hm⟩:∃m,l.length-i=m:=⟨_,rfl⟩;have hmI:(l.length:Int)-(i:Int)=(m:Int):=by omega
 have q0:decide ((i:Int)<0)=false:=decide_eq_false (by omega);have q1:decide ((l.length:Int)<(i:Int))=false:=decide_eq_false (by omega);have q00:decide (l.length<i)=false:=decide_eq_false (by omega);clear hv hrd hcell hs hd
 go_enter func216,ntmps216
 go_wp2_with (first
  |(go_at_call 213;refine(cU _ _ _ HV.out).mono ?_;rw[HS.out];rintro e w' ⟨rfl,rfl⟩)
  |(go_at_call 214;refine(dq _ _).mono ?_;rw[HD.out];rintro e w' ⟨rfl,rfl⟩))
 go_loopw [7] (fun t wr=>∃n:Nat,n≤m∧t=.int .i64 n∧(∀j,n<j→j≤m→bN ((l.drop i).take j) d=false)∧Below w.heap.size w wr) (fun t _=>(intOf t).toNat)
 case atStart=>exact⟨m,Jr _,rfl,fun j h1 h2=>absurd h1 (by omega),Below.refl _ _⟩
 case round=>
  obtain⟨n,hn,rfl,hall,hb⟩:=hrel;have H:=Jj (Jq hall hb);clear hall hb;have hdl:(l.drop i).length=m:=by rw[List.length_drop];exact hm
  by_cases hn0:n=0
  ·exfalso
   have:=H.out.1 1 (by omega) (by omega);rw[Dw (fY HS.out hi) hd'.1 hd'.2] at this;cases this
  ·have HT:=Jj (show ai wr (.slice (some ⟨b,o+i,none⟩) n (c-i)) ((l.drop i).take n) from ai.midN (HV.out.bel H.out.2) (by omega));have HL:=Jj (show((l.drop i).take n).length≤1048576 by rw[List.length_take];omega);have q3:(n:Int)>0:=by omega
   have q4:(i:Int)+(n:Int)≤(c:Int):=by omega
   have q5:(0:Int)≤(i:Int)+(n:Int):=by omega
   have q6:((i:Int)+(n:Int)).toNat=i+n:=by omega
   have q7:IntKind.i64.wrap ((i:Int)+(n:Int))=(i:Int)+(n:Int):=by rw[IntWalk.i64_in] <;> omega
   have q8:(i:Int)≤(i:Int)+(n:Int):=by omega
   have q9:i+n-i=n:=by omega
   have q10:¬c=i:=by omega
   have q11:(0:Int)≤(i:Int):=by omega
   have HDL:=Jj hdl;clear hdl
   go_wp2_with fail
   refine(pC _ ((l.drop i).take n) d _ HT.out HL.out hd'.1).mono ?_;rintro e w3 ⟨r,rfl,o3,b3⟩;obtain⟨A3,c3,rfl,-,-,-⟩:=o3.ints.open_;have HB3:=Jj (aa H.out.2 b3);clear o3 b3;cases hr:bN ((l.drop i).take n) d
   ·have HZ:=Jj (show ∀j,n-1<j→j≤m→bN ((l.drop i).take j) d=false from fun j h1 h2=>by
     by_cases e:j=n
     ·rw[e];exact hr
     ·exact H.out.1 j (by omega) h2)
    clear hr;go_wp2;go_roundw
    case rel=>exact⟨n-1,by omega,by go_num,HZ.out,HB3.out⟩
    case measure=>simp[intOf];omega
   ·have HZ:=Jj (E5 (fY HS.out hi) hd'.1 hd'.2 (by rw[HDL.out];exact hn) (by omega) hr (fun j h1 h2=>H.out.1 j h1 (by rw[HDL.out] at h2;exact h2)));clear hr;go_wp2;go_ret;exact⟨by rw[HZ.out];rfl,HB3.out⟩
theorem Own.putCell {w:World} {base:Nat} {v:Value} {l:List Int} (h:Own w base v l) (p:Addr) (u:Value) (hp:p.block<base):Own (w.setCell p u) base v l:=
 h.far (row:=some p.block) (dl (World.grownBy.refl w (some p.block)) (.inl rfl) u) (fun k hk=>by injection hk with hk;omega)
theorem Blk.two {w:World} {g:Nat} {t:TypeId} {a b:Value} (h:Blk w g t [a,b]):w.cell? ⟨g,0,none⟩=some a∧w.cell? ⟨g,1,none⟩=some b∧w.frozen? ⟨g,0,none⟩=false∧w.frozen? ⟨g,1,none⟩=false:=
 ⟨by rw[h.cell];rfl,by rw[h.cell];rfl,h.frozen 0,h.frozen 1⟩
theorem Blk.newG (w:World) (t:TypeId) (cs:List Value) (g:Nat) (hg:g=w.heap.size):Blk (w.alloc (.cells cs.toArray t)) g t cs:=by subst hg;exact Blk.new w t cs
theorem DA (v:Value) (l:List Int) (i n:Nat) (d:Int) (w:World) (hv:ai w v l) (hs:cI l=true) (hd:inB d 0 6=true) (hi:i<l.length) (hn:1≤n∧n≤l.length-i) (hr:bN ((l.drop i).take n) d=true):
  Calls prog 215 #[v,.int .i64 i,.int .i64 n,.int .i64 d] w fun e w'=>∃r,e=.returned (.tuple #[.agg #[.int .i64 n,r],.bool true])∧Own w' w.heap.size r (itD ((l.drop i).take n))∧Below w.heap.size w w':=by
 have HV:=Jj hv;have HS:=Jj hs;have HD:=Jj hd;have HR:=Jj hr;obtain⟨A,c,rfl,hlc,hc,hrd⟩:=hv.open_;obtain⟨b,o,rfl,hbb,hcell⟩:=hrd.ints (by omega);obtain⟨l1,l60,-⟩:=cd.1 hs;have hd':=am.1 hd;have K0:=Blk.new w 159 [.int .i64 0,.slice none 0 0];have B0:=Jj (ab w (.cells #[.int .i64 0,.slice none 0 0] 159));have hmI:(n:Int)≤(l.length:Int)-(i:Int):=by omega
 have q0:decide ((i:Int)<0)=false:=decide_eq_false (by omega);have q1:decide ((l.length:Int)≤(i:Int))=false:=decide_eq_false (by omega);have q00:decide (l.length≤i)=false:=decide_eq_false (by omega);have q2:decide ((n:Int)<1)=false:=decide_eq_false (by omega);have q3:decide ((l.length:Int)-(i:Int)<(n:Int))=false:=decide_eq_false (by omega);have q4:(i:Int)+(n:Int)≤(c:Int):=by omega
 have q5:(0:Int)≤(i:Int)+(n:Int):=by omega
 have q6:((i:Int)+(n:Int)).toNat=i+n:=by omega
 have q7:IntKind.i64.wrap ((i:Int)+(n:Int))=(i:Int)+(n:Int):=by rw[IntWalk.i64_in] <;> omega
 have q8:(i:Int)≤(i:Int)+(n:Int):=by omega
 have q9:i+n-i=n:=by omega
 have q10:¬c=i:=by omega
 have q11:(0:Int)≤(i:Int):=by omega
 clear hv hrd hcell hs hd hr
 go_enter func215,ntmps215
 go_wp2_with fail
 have HT:=Jj (show ai (w.alloc (.cells #[.int .i64 0,.slice none 0 0] 159)) (.slice (some ⟨b,o+i,none⟩) n (c-i)) ((l.drop i).take n) from ai.midN (HV.out.bel B0.out) (by omega));refine(cU _ _ _ (HV.out.bel B0.out)).mono ?_;rw[HS.out];rintro e w' ⟨rfl,rfl⟩
 go_wp2_with (go_at_call 214;refine(dq _ _).mono ?_;rw[HD.out];rintro e w' ⟨rfl,rfl⟩)
 have HL:=Jj (show((l.drop i).take n).length≤1048576 by rw[List.length_take];omega);refine(pC _ ((l.drop i).take n) d _ HT.out HL.out hd'.1).mono ?_;rw[HR.out,nv HR.out];rintro e w3 ⟨r,rfl,o3,b3⟩;obtain⟨A3,c3,rfl,-,-,-⟩:=o3.ints.open_;have K3:=Jj (K0.below b3 K0.lt);have HO:=Jj o3;have HB3:=Jj (aa B0.out b3);have hz:=b3.size;clear o3 b3 K0;obtain⟨x0,x1,x2,x3⟩:=K3.out.two;go_wp2;clear x0 x1 x2 x3;have K4:Blk ((w3.setCell ⟨w.heap.size,0,none⟩ (.int .i64 n)).setCell ⟨w.heap.size,1,none⟩ (.slice A3 (itD ((l.drop i).take n)).length c3)) w.heap.size 159 [.int .i64 n,.slice A3 (itD ((l.drop i).take n)).length c3]:=(K3.out.set_ 0 (.int .i64 n)).set_ 1 (.slice A3 (itD ((l.drop i).take n)).length c3);obtain⟨x0,x1,-,-⟩:=K4.two;refine bodyPost_ret (v:=.tuple #[.agg #[.int .i64 n,.slice A3 (itD ((l.drop i).take n)).length c3],.bool true]) (by simp[results,results215,go_sem,x0,x1]) rfl ⟨_,rfl,((HO.out.putCell ⟨w.heap.size,0,none⟩ _ (by simp)).putCell ⟨w.heap.size,1,none⟩ _ (by simp)).lower (base':=w.heap.size) (by simp),(HB3.out.setCell (p:=⟨w.heap.size,0,none⟩) (Jr _) _).setCell (p:=⟨w.heap.size,1,none⟩) (Jr _) _⟩
def lf (w:World) (ps:List (Nat×List Int)) (q:Bool) (e:Ending) (w':World):Prop:=∃r,e=.returned (.tuple #[r,.bool q])∧bZ w' w.heap.size r ps∧Below w.heap.size w w'
def eA (l:List Int) (d:Int):Bool:=cI l&&inB d 0 6
def grP (l:List Int) (d:Int):List (Nat×List Int):=if eA l d=true then grL l d else[]
theorem kb {w0 w w':World} {v:Value} {ps:List (Nat×List Int)} (hb:Below w0.heap.size w0 w) (hown:bZ w w0.heap.size v ps) (hg:w.grownBy w' v.ownBlock):Below w0.heap.size w0 w':=
 hb.trans ((bQ hg hb.size fun k hk=>(hown.lt k hk).1))
theorem sP (v:Value) (l:List Int) (d:Int) (w:World) (hv:ai w v l):
  Calls prog 130 #[v,.int .i64 d] w (lf w (grP l d) (eA l d)):=by
 have HV:=Jj hv;obtain⟨A,c,rfl,hlc,hc,-⟩:=hv.open_;clear hv
 go_enter func130,ntmps130
 cases hs:cI l
 ·have HN:=Jj (show eA l d=false∧grP l d=[] by simp[eA,grP,hs])
  go_wp2_with (go_at_call 213;refine(cU _ _ _ HV.out).mono ?_;rw[hs];rintro e w' ⟨rfl,rfl⟩)
  go_ret2;exact⟨_,by rw[HN.out.1];rfl,by rw[HN.out.2];exact bZ.nil_ _ _,Below.refl _ _⟩
 ·cases hd:inB d 0 6
  ·have HN:=Jj (show eA l d=false∧grP l d=[] by simp[eA,grP,hd])
   go_wp2_with (first
    |(go_at_call 213;refine(cU _ _ _ HV.out).mono ?_;rw[hs];rintro e w' ⟨rfl,rfl⟩)
    |(go_at_call 214;refine(dq _ _).mono ?_;rw[hd];rintro e w' ⟨rfl,rfl⟩))
   go_ret2;exact⟨_,by rw[HN.out.1];rfl,by rw[HN.out.2];exact bZ.nil_ _ _,Below.refl _ _⟩
  ·have HN:=Jj (show eA l d=true∧grP l d=grL l d by simp[eA,grP,hs,hd]);have HS:=Jj hs;have HD:=Jj hd;obtain⟨l1,l60,-⟩:=cd.1 hs;have hd':=am.1 hd;have HP:=Jj (show ∀i,i<l.length→1≤lgN (l.drop i) d from fun i hi=>nr (fY hs hi) hd'.1 hd'.2)
   go_wp2_with (first
    |(go_at_call 213;refine(cU _ _ _ HV.out).mono ?_;rw[hs];rintro e w' ⟨rfl,rfl⟩)
    |(go_at_call 214;refine(dq _ _).mono ?_;rw[hd];rintro e w' ⟨rfl,rfl⟩))
   clear hs hd
   go_loopw [6,7] (fun s t wr=>∃(i:Nat) (ps:List (Nat×List Int)),i≤l.length∧t=.int .i64 i∧bZ wr w.heap.size s ps∧ps.length≤i∧ps++sgL l (fun i=>lgN (l.drop i) d) i=grL l d∧Below w.heap.size w wr) (fun _ t _=>l.length-(intOf t).toNat)
   case atStart=>exact⟨0,[],Jy _,rfl,bZ.nil_ _ _,Jr _,rfl,Below.refl _ _⟩
   case round=>
    obtain⟨i,ps,hi,rfl,ho,hp,he,hb⟩:=hrel;have H:=Jj (Jq ho (Jq hp (Jq he hb)));clear ho hp he hb;by_cases hlt:i<l.length
    ·have h1:=HP.out i hlt;have h2:=jP (l.drop i) d;rw[List.length_drop] at h2;have HE:=Jj (rV HP.out hlt);have HRn:=Jj (np (l:=l.drop i) (d:=d) h1 (Jr _));obtain⟨n,hn⟩:∃n,lgN (l.drop i) d=n:=⟨_,rfl⟩;rw[hn] at h1 h2 HE HRn;have HNn:=Jj hn;clear hn
     go_wp2_with fail
     refine(vP _ l i d _ (HV.out.bel H.out.2.2.2) HS.out HD.out hlt).mono ?_;rw[HNn.out];rintro e w2 ⟨rfl,b2⟩;have HB2:=Jj (aa H.out.2.2.2 b2);have HO2:=Jj (H.out.1.bel b2);clear b2
     go_wp2_with fail
     refine(DA _ l i n d _ (HV.out.bel HB2.out) HS.out HD.out hlt ⟨h1,h2⟩ HRn.out).mono ?_;rintro e w3 ⟨r,rfl,o3,b3⟩;obtain⟨X,hX⟩:∃X,itD ((l.drop i).take n)=X:=⟨_,rfl⟩;rw[hX] at o3 HE;clear hX;obtain⟨A3,c3,rfl,-,-,-⟩:=o3.ints.open_;have HB3:=Jj (aa HB2.out b3);have HO3:=Jj (HO2.out.bel b3);have HX:=Jj o3;clear o3 b3;have K4:=Blk.new w3 159 [.int .i64 n,.slice A3 X.length c3];have BX:=Jj (show Below w3.heap.size w3 ((w3.alloc (.cells #[.int .i64 n,.slice A3 X.length c3] 159)).alloc (.cells #[.int .i64 n,.slice A3 X.length c3] 159)) from(ab w3 _).alloc (by simp) _);have hlp:ps.length+1≤1048576:=by have:=H.out.2.1;omega
     go_wp2_with (at_builtin;go_must (refine lO rfl (.tmp 35) (.tmp 37) (by rfl) w.heap.size _ ps (by rfl) (by exact HO3.out.bel BX.out) _ _ n X (.slice A3 X.length c3) (by rfl) (by exact Blk.newG _ _ [.int .i64 n,.slice A3 X.length c3] _ (by simp)) (by exact(HX.out.lower (Jy _)).bel BX.out) hlp (by have:=HB3.out.size;have:=BX.out.size;omega) ?_;intro v4 w4 ho4 hg4 hat4;have K5:=(K4.alloc (.cells #[.int .i64 n,.slice A3 X.length c3] 159)).grown hg4 (fun e=>by have:=(HO3.out.lt _ e.symm).2;omega);obtain⟨y0,y1,-,-⟩:=K5.two;clear K4 K5))
     have HB4:=Jj (kb (w0:=w) (aa HB3.out BX.out) (HO3.out.bel BX.out) hg4);have hps:(ps++[(n,X)]).length≤i+n:=by rw[Jv];have:=H.out.2.1;simp;omega
     have HEQ:=Jj (show(ps++[(n,X)])++sgL l (fun i=>lgN (l.drop i) d) (i+n)=grL l d by have:=H.out.2.2.1;rw[HE.out] at this;rw[←this];simp);go_roundw
     case rel=>exact⟨i+n,ps++[(n,X)],by omega,by go_num,ho4,hps,HEQ.out,HB4.out⟩
     case measure=>simp[intOf];omega
    ·obtain rfl:i=l.length:=by omega
     have HE:=Jj (show ps=grL l d by have:=H.out.2.2.1;rwa[pZ (Jr _),List.append_nil] at this);go_wp2;go_ret2;exact⟨_,by rw[HN.out.1];rfl,by rw[HN.out.2,←HE.out];exact H.out.1,H.out.2.2.2⟩
def jj (n:Nat):List Value:=(madeCells #[.int .i64 0,.slice none 0 0] (n*2)).toList
theorem DB (n:Nat):(jj n).length=n*2:=by simp[jj,madeCells]
theorem wV {n i:Nat} (h:i<n):(jj n)[i*2]?=some (.int .i64 0)∧(jj n)[i*2+1]?=some (.slice none 0 0):=by
 unfold jj madeCells;have h1:i*2<n*2:=by omega
 have h2:i*2+1<n*2:=by omega
 have m1:i*2 % 2=0:=by omega
 have m2:(i*2+1) % 2=1:=by omega
 constructor
 ·simp[h1]
 ·simp[h2]
theorem Tryz.mkSegs (n:Nat) (hn:n≤1000) (W:World):(Instr.makeSlice 125 (.int .i64 (n:Int)) (.int .i64 (n:Int))).run prog W =
  .ok (.slice (some ⟨W.heap.size,0,none⟩) n n) (W.alloc (.cells (jj n).toArray 159)):=by
 obtain⟨i0,hi,hz0,hz1,hz2⟩:=k8 Tryz.infoSeg;have:=run_make (P:=prog) W 125 159 i0 _ Tryz.underlying125 hi hz0 .i64 .i64 n n (by omega) (Int.le_refl _) (by rw[hz2];omega) (by omega);rw[this,hz1];simp[jj,Value.cells]
theorem GK (l:List Int):itD (l.take 0)=[]:=by
 rw[List.take_zero];exact List.eq_nil_of_length_eq_zero (by unfold itD;rw[gw];simp)
def bR (w:World) (g L:Nat) (F:Nat→Int):Prop:=∃cs,Blk w g 3 cs∧cs.length=L+1∧∀j,j<L+1→cs[j]?=some (.int .i64 (F j))
def eo (w:World) (g B:Nat) (l:List Int) (C:Nat→Nat):Prop:=
 ∃cs,Blk w g 159 cs∧cs.length=l.length*2∧∀j,j<l.length→∃u,cs[j*2]?=some (.int .i64 (C j:Int))∧cs[j*2+1]?=some u∧Own w B u (itD ((l.drop j).take (C j)))
theorem bR.bel {w w':World} {g L:Nat} {F:Nat→Int} (h:bR w g L F) (hb:Below w.heap.size w w'):bR w' g L F:=by
 obtain⟨cs,h1,h2,h3⟩:=h;exact⟨cs,h1.below hb h1.lt,h2,h3⟩
theorem eo.bel {w w':World} {g B:Nat} {l:List Int} {C:Nat→Nat} (h:eo w g B l C) (hb:Below w.heap.size w w'):eo w' g B l C:=by
 obtain⟨cs,h1,h2,h3⟩:=h;refine⟨cs,h1.below hb h1.lt,h2,fun j hj=>?_⟩;obtain⟨u,a,b,c⟩:=h3 j hj;exact⟨u,a,b,c.bel hb⟩
theorem bR.congr {w:World} {g L:Nat} {F G:Nat→Int} (h:bR w g L F) (he:∀j,j<L+1→F j=G j):bR w g L G:=by
 obtain⟨cs,h1,h2,h3⟩:=h;exact⟨cs,h1,h2,fun j hj=>by rw[h3 j hj,he j hj]⟩
theorem eo.congr {w:World} {g B:Nat} {l:List Int} {C D:Nat→Nat} (h:eo w g B l C) (he:∀j,j<l.length→C j=D j):eo w g B l D:=by
 obtain⟨cs,h1,h2,h3⟩:=h;refine⟨cs,h1,h2,fun j hj=>?_⟩;obtain⟨u,a,b,c⟩:=h3 j hj;rw[he j hj] at a c;exact⟨u,a,b,c⟩
theorem bR.at {w:World} {g L:Nat} {F:Nat→Int} (h:bR w g L F) {j:Nat} (hj:j<L+1):w.cell? ⟨g,j,none⟩=some (.int .i64 (F j))∧w.frozen? ⟨g,j,none⟩=false:=by
 obtain⟨cs,h1,h2,h3⟩:=h;exact⟨by rw[h1.cell];exact h3 j hj,h1.frozen j⟩
theorem eo.at {w:World} {g B:Nat} {l:List Int} {C:Nat→Nat} (h:eo w g B l C) {j:Nat} (hj:j<l.length):∃u,w.cell? ⟨g,j*2,none⟩=some (.int .i64 (C j:Int))∧w.cell? ⟨g,j*2+1,none⟩=some u∧w.frozen? ⟨g,j*2,none⟩=false∧w.frozen? ⟨g,j*2+1,none⟩=false∧Own w B u (itD ((l.drop j).take (C j))):=by
 obtain⟨cs,h1,h2,h3⟩:=h;obtain⟨u,a,b,c⟩:=h3 j hj;exact⟨u,by rw[h1.cell];exact a,by rw[h1.cell];exact b,h1.frozen _,h1.frozen _,c⟩
def upd {α:Type} (F:Nat→α) (i:Nat) (x:α) (j:Nat):α:=if j=i then x else F j
theorem bR.put {w:World} {g L:Nat} {F:Nat→Int} (h:bR w g L F) {i:Nat} (hi:i<L+1) (x:Int):bR (w.setCell ⟨g,i,none⟩ (.int .i64 x)) g L (upd F i x):=by
 obtain⟨cs,h1,h2,h3⟩:=h;refine⟨_,h1.set_ i _,by rw[List.length_set];exact h2,fun j hj=>?_⟩;unfold upd;by_cases e:j=i
 ·subst e;rw[List.getElem?_set_self (by omega),if_pos rfl]
 ·rw[List.getElem?_set_ne (by omega),if_neg e];exact h3 j hj
theorem eo.far {w:World} {g B:Nat} {l:List Int} {C:Nat→Nat} (h:eo w g B l C) (p:Addr) (u:Value) (hp:p.block<B) (hne:g≠p.block):eo (w.setCell p u) g B l C:=by
 obtain⟨cs,h1,h2,h3⟩:=h;refine⟨cs,h1.far hne u,h2,fun j hj=>?_⟩;obtain⟨z,a,b,c⟩:=h3 j hj;exact⟨z,a,b,c.putCell p u hp⟩
theorem bR.far {w:World} {g L:Nat} {F:Nat→Int} (h:bR w g L F) (p:Addr) (u:Value) (hne:g≠p.block):bR (w.setCell p u) g L F:=by
 obtain⟨cs,h1,h2,h3⟩:=h;exact⟨cs,h1.far hne u,h2,h3⟩
theorem eo.put {w:World} {g B:Nat} {l:List Int} {C:Nat→Nat} (h:eo w g B l C) {i:Nat} (hi:i<l.length) (hg:g<B) (n:Nat) (u:Value) (hu:Own w B u (itD ((l.drop i).take n))):
  eo ((w.setCell ⟨g,i*2,none⟩ (.int .i64 (n:Int))).setCell ⟨g,i*2+1,none⟩ u) g B l (upd C i n):=by
 obtain⟨cs,h1,h2,h3⟩:=h;refine⟨_,(h1.set_ (i*2) _).set_ (i*2+1) u,by rw[List.length_set,List.length_set];exact h2,fun j hj=>?_⟩;unfold upd;by_cases e:j=i
 ·subst e;rw[if_pos rfl];refine⟨u,?_,?_,(hu.putCell _ _ hg).putCell _ _ hg⟩
  ·rw[List.getElem?_set_ne (by omega),List.getElem?_set_self (by omega)]
  ·rw[List.getElem?_set_self (by rw[List.length_set];omega)]
 ·obtain⟨z,a,b,c⟩:=h3 j hj;rw[if_neg e];refine⟨z,?_,?_,(c.putCell _ _ hg).putCell _ _ hg⟩
  ·rw[List.getElem?_set_ne (by omega),List.getElem?_set_ne (by omega)];exact a
  ·rw[List.getElem?_set_ne (by omega),List.getElem?_set_ne (by omega)];exact b
def lsF (v:List Int) (d s c:Int) (k:Nat) (x:Int) (j:Nat):Int:=if k≤j then at_ (csL v d s c (v.length-j)) 0 else if j+1=k then x else 0
def bsF (v:List Int) (d s c:Int) (k x:Nat) (j:Nat):Nat:=if k≤j then chN v d s c j else if j+1=k then x else 0
theorem sQ (v:List Int) (d s c:Int) (i:Nat) (x y:Int) (j:Nat):upd (lsF v d s c (i+1) x) i y j=lsF v d s c (i+1) y j:=by
 unfold upd lsF;by_cases e:j=i
 ·subst e;rw[if_pos rfl,if_neg (by omega),if_pos rfl]
 ·rw[if_neg e];by_cases h:i+1≤j
  ·rw[if_pos h,if_pos h]
  ·rw[if_neg h,if_neg h,if_neg (by omega),if_neg (by omega)]
theorem Gi (v:List Int) (d s c:Int) (i x y j:Nat):upd (bsF v d s c (i+1) x) i y j=bsF v d s c (i+1) y j:=by
 unfold upd bsF;by_cases e:j=i
 ·subst e;rw[if_pos rfl,if_neg (by omega),if_pos rfl]
 ·rw[if_neg e];by_cases h:i+1≤j
  ·rw[if_pos h,if_pos h]
  ·rw[if_neg h,if_neg h,if_neg (by omega),if_neg (by omega)]
theorem vZ (v:List Int) (d s c:Int) (i:Nat) (x:Int):lsF v d s c (i+1) x i=x:=by unfold lsF;rw[if_neg (by omega),if_pos rfl]
theorem Ek (v:List Int) (d s c:Int) (i x:Nat):bsF v d s c (i+1) x i=x:=by unfold bsF;rw[if_neg (by omega),if_pos rfl]
theorem tU (v:List Int) (d s c:Int) {i n:Nat} (x:Int) (hn:1≤n) (h:i+n≤v.length):lsF v d s c (i+1) x (i+n)=at_ (csL v d s c (v.length-(i+1))) (n-1):=by
 unfold lsF;rw[if_pos (by omega)];exact(qG v d s c _ _ _ (by omega)).symm
theorem E8 {v:List Int} {d s c:Int} (hv:cI v=true) (hd0:0≤d) (hd6:d≤6) (h0:0≤s) (h1:s≤1000) (h2:0≤c) (h3:c≤1000) {i:Nat} (hi:i<v.length) (j:Nat):
  lsF v d s c (i+1) (bx (cfA v d s c i) (lgN (v.drop i) d) (lgN (v.drop i) d)).1 j=lsF v d s c i 0 j:=by
 rw[←FV hv hd0 hd6 h0 h1 h2 h3 hi];unfold lsF;by_cases e:j=i
 ·subst e;rw[if_neg (by omega),if_pos rfl,if_pos (Jr _)]
 ·by_cases h:i+1≤j
  ·rw[if_pos h,if_pos (by omega)]
  ·rw[if_neg h,if_neg (by omega),if_neg (by omega)]
   split <;> rfl
theorem Ej (v:List Int) (d s c:Int) (i j:Nat):bsF v d s c (i+1) (bx (cfA v d s c i) (lgN (v.drop i) d) (lgN (v.drop i) d)).2 j=bsF v d s c i 0 j:=by
 have:(bx (cfA v d s c i) (lgN (v.drop i) d) (lgN (v.drop i) d)).2=chN v d s c i:=rfl;rw[this];unfold bsF;by_cases e:j=i
 ·subst e;rw[if_neg (by omega),if_pos rfl,if_pos (Jr _)]
 ·by_cases h:i+1≤j
  ·rw[if_pos h,if_pos (by omega)]
  ·rw[if_neg h,if_neg (by omega),if_neg (by omega)]
   split <;> rfl
def eu (l:List Int) (d s c:Int):Bool:=((cI l&&inB d 0 6)&&inB s 0 1000)&&inB c 0 1000
def chP (l:List Int) (d s c:Int):List (Nat×List Int):=if eu l d s c=true then chL l d s c else[]
theorem FW {l:List Int} {d s c:Int} (h:eu l d s c=false):chP l d s c=[]:=by simp[chP,h]
theorem vY {v:List Int} {d s c:Int} {i:Nat} (hi:i<v.length) (j:Nat):lsF v d s c (i+1) (msF (cfA v d s c i) (lgN (v.drop i) d)) j=lsF v d s c i 0 j:=by
 unfold lsF;by_cases e:j=i
 ·subst e;rw[if_neg (by omega),if_pos rfl,if_pos (Jr _),Cc hi]
  rfl
 ·by_cases h:i+1≤j
  ·rw[if_pos h,if_pos (by omega)]
  ·rw[if_neg h,if_neg (by omega),if_neg (by omega)]
   split <;> rfl
theorem Iy (q a:Int):(if a<q then a else q)=min q a:=by rw[Int.min_def];split <;> split <;> omega
theorem BP (v:Value) (l:List Int) (d s c:Int) (w:World) (hv:ai w v l) (hs:cI l=true) (d':0≤d∧d≤6) (s':0≤s∧s≤1000) (c':0≤c∧c≤1000):
  Calls prog 243 #[v,.int .i64 d,.int .i64 s,.int .i64 c] w fun e w'=>e=.returned (.slice (some ⟨w.heap.size,0,none⟩) (l.length+1) (l.length+1))∧bR w' w.heap.size l.length (lsF l d s c 0 0)∧Below w.heap.size w w':=by
 have HV:=Jj hv;obtain⟨A,cp,rfl,hlc,hc,hrd⟩:=hv.open_;obtain⟨l1,l60,-⟩:=cd.1 hs;have H1:=Jj hs;obtain⟨b,o,rfl,hbb,hcell⟩:=hrd.ints (by omega);have hmk1:=fun W=>Tryz.mkInts (l.length+1) (by omega) W;rw[show((l.length+1:Nat):Int)=(l.length:Int)+1 from by omega] at hmk1;have w1:IntKind.i64.wrap ((l.length:Int)+1)=(l.length:Int)+1:=by rw[IntWalk.i64_in] <;> omega
 clear hv hrd hcell hs
 go_enter func243,ntmps243
 go_wp2_with fail
 have KL:=Blk.new w 3 (bz (l.length+1) (.int .i64 0));have B0:=ab w (.cells (bz (l.length+1) (.int .i64 0)).toArray 3);have LB0:bR (w.alloc (.cells (bz (l.length+1) (.int .i64 0)).toArray 3)) w.heap.size l.length (lsF l d s c l.length 0):=⟨_,KL,bi _ _,fun j hj=>by
  rw[oh _ hj];unfold lsF;by_cases e:l.length≤j
  ·rw[if_pos e,show l.length-j=0 by omega];rfl
  ·rw[if_neg e];split <;> rfl⟩
 generalize hW:w.alloc (.cells (bz (l.length+1) (.int .i64 0)).toArray 3)=W at *;have hWz:W.heap.size=w.heap.size+1:=by rw[←hW];simp
 clear hW KL
 go_loopw [10] (fun t wr=>∃k:Nat,k≤l.length∧t=.int .i64 ((k:Int)-1)∧bR wr w.heap.size l.length (lsF l d s c k 0)∧Below w.heap.size w wr∧w.heap.size+1≤wr.heap.size) (fun t _=>(intOf t+1).toNat)
 case atStart=>exact⟨l.length,Jr _,by go_num,LB0,B0,by omega⟩
 case round=>
  obtain⟨k,hk,rfl,hL,hb,hz⟩:=hrel;have H:=Jj (Jq hL hb);clear hL hb LB0 B0;by_cases hk0:k=0
  ·subst hk0;rw[show(((0:Nat):Int)-1) = -1 from rfl];go_wp2;go_ret;exact⟨rfl,H.out.1,H.out.2⟩
  ·obtain⟨i,rfl⟩:∃i,k=i+1:=⟨k-1,by omega⟩;rw[show(((i+1:Nat):Int)-1)=(i:Int) from by omega];have hil:i<l.length:=by omega
   obtain⟨N,hN⟩:∃N,lgN (l.drop i) d=N:=⟨_,rfl⟩;have hNm:N≤l.length-i:=by have:=jP (l.drop i) d;rw[List.length_drop] at this;omega
   have HNN:=Jj hN;obtain⟨y1,y1f⟩:=H.out.1.at (j:=i) (by omega);have HL0:=Jj ((H.out.1.put (i:=i) (by omega) 1099511627776).congr (G:=lsF l d s c (i+1) (msF (cfA l d s c i) 0)) (fun j hj=>sQ l d s c i _ _ j));have HB0:=Jj (H.out.2.setCell (p:=⟨w.heap.size,i,none⟩) (Jr _) (.int .i64 1099511627776));have hz0:w.heap.size+1≤(wr.setCell ⟨w.heap.size,i,none⟩ (.int .i64 1099511627776)).heap.size:=by simp only[World.setCell,Array.size_modify];omega
   have HZ0:=Jj hz0;clear hN hz0
   go_wp2_with fail
   go_loopw [11] (fun t wc=>∃n:Nat,n≤l.length-i∧t=.int .i64 ((n:Int)+1)∧(∀j,1≤j→j≤n→bN ((l.drop i).take j) d=true)∧bR wc w.heap.size l.length (lsF l d s c (i+1) (msF (cfA l d s c i) n))∧Below w.heap.size w wc∧w.heap.size+1≤wc.heap.size) (fun t _=>l.length+1-(intOf t).toNat)
   case atStart=>exact⟨0,Jy _,by go_num,fun j h1 h2=>absurd h1 (by omega),HL0.out,HB0.out,HZ0.out⟩
   case round=>
    obtain⟨n,hn,rfl,hall,hL,hb,hz2⟩:=hrel;have M:=Jj (Jq hall (Jq hL hb));clear hall hL hb HL0 HB0 HZ0 y1 y1f;by_cases hlast:n=l.length-i
    ·have HLf:=Jj (M.out.2.1.congr (G:=lsF l d s c i 0) (fun j hj=>by
      have:lgN (l.drop i) d=n:=pr (by rw[List.length_drop];omega) (fun q hq=>M.out.1 (q+1) (by omega) (by omega)) (.inl (by rw[List.length_drop];omega));rw[←this];exact vY hil j))
     have t1:¬(i:Int)+((n:Int)+1)≤(l.length:Int):=by omega
     go_wp2;go_roundw
     case rel=>exact⟨i,by omega,by go_num,HLf.out,M.out.2.2,hz2⟩
     case measure=>first|(simp[intOf];done)|(simp[intOf];omega)
    ·have HT:=Jj (show ai wr (.slice (some ⟨b,o+i,none⟩) (n+1) (cp-i)) ((l.drop i).take (n+1)) from ai.midN (HV.out.bel M.out.2.2) (by omega));have HL:=Jj (show((l.drop i).take (n+1)).length≤1048576 by rw[List.length_take];omega);have t1:(i:Int)+((n:Int)+1)≤(l.length:Int):=by omega
     have q4:(i:Int)+((n:Int)+1)≤(cp:Int):=by omega
     have q5:(0:Int)≤(i:Int)+((n:Int)+1):=by omega
     have q6:((i:Int)+((n:Int)+1)).toNat=i+(n+1):=by omega
     have q7:IntKind.i64.wrap ((i:Int)+((n:Int)+1))=(i:Int)+((n:Int)+1):=by rw[IntWalk.i64_in] <;> omega
     have q8:(i:Int)≤(i:Int)+((n:Int)+1):=by omega
     have q9:i+(n+1)-i=n+1:=by omega
     have q10:¬cp=i:=by omega
     have q11:(0:Int)≤(i:Int):=by omega
     go_wp2_with fail
     refine(jY _ ((l.drop i).take (n+1)) d _ HT.out HL.out).mono ?_;rintro e w3 ⟨r,rfl,o3,b3⟩;obtain⟨A3,c3,rfl,-,-,-⟩:=o3.ints.open_;have HB3:=Jj (aa M.out.2.2 b3);have HL3:=Jj (M.out.2.1.bel b3);have z3:=b3.size;clear o3 b3;cases hr:bN ((l.drop i).take (n+1)) d
     ·have HLf:=Jj (HL3.out.congr (G:=lsF l d s c i 0) (fun j hj=>by
       have:lgN (l.drop i) d=n:=pr (by rw[List.length_drop];omega) (fun q hq=>M.out.1 (q+1) (by omega) (by omega)) (.inr hr);rw[←this];exact vY hil j))
      clear hr;go_wp2;go_roundw
      case rel=>exact⟨i,by omega,by go_num,HLf.out,HB3.out,by omega⟩
      case measure=>first|(simp[intOf];done)|(simp[intOf];omega)
     ·have hX:=vR hr;have hcs:=oT (s:=s) (c:=c) H1.out d'.1 d'.2 s'.1 s'.2 c'.1 c'.2 (l.length-(i+1)) (by omega) n (by omega);have hlz:=tU l d s c (i:=i) (n:=n+1) (msF (cfA l d s c i) n) (by omega) (by omega);rw[Nat.add_sub_cancel] at hlz;have hcf:cfA l d s c i (n+1)=s+c*((itD ((l.drop i).take (n+1))).length:Int)+at_ (csL l d s c (l.length-(i+1))) n:=rfl;have hcb:=nf s'.1 s'.2 c'.1 c'.2 hX.2;have HALL:=Jj (show ∀j,1≤j→j≤n+1→bN ((l.drop i).take j) d=true from fun j h1 h2=>by
       rcases Nat.lt_or_ge n j with h|h
       ·rw[show j=n+1 by omega];exact hr
       ·exact M.out.1 j h1 h)
      obtain⟨Z,hZ⟩:∃Z,at_ (csL l d s c (l.length-(i+1))) n=Z:=⟨_,rfl⟩;rw[hZ] at hcs hlz hcf;obtain⟨y0,yf⟩:=HL3.out.at (j:=i+(n+1)) (by omega);obtain⟨y1,y1f⟩:=HL3.out.at (j:=i) (by omega);rw[hlz] at y0;rw[vZ] at y1;rw[nv hr];have HMS:=Jj (show msF (cfA l d s c i) (n+1)=min (msF (cfA l d s c i) n) (cfA l d s c i (n+1)) from rfl);obtain⟨Q,hQ⟩:∃Q,msF (cfA l d s c i) n=Q:=⟨_,rfl⟩;rw[hQ] at y1 HMS;obtain⟨X,hX2⟩:∃X,itD ((l.drop i).take (n+1))=X:=⟨_,rfl⟩;rw[hX2] at hcf hcb hX ⊢;obtain⟨P,hP⟩:∃P,c*(X.length:Int)=P:=⟨_,rfl⟩;rw[hP] at hcf hcb;have g1:IntKind.i64.wrap (c*(X.length:Int))=P:=by rw[hP,IntWalk.i64_in] <;> omega
      have g2:IntKind.i64.wrap (s+P)=s+P:=by rw[IntWalk.i64_in] <;> omega
      have g3:IntKind.i64.wrap (s+P+Z)=s+P+Z:=by rw[IntWalk.i64_in] <;> omega
      rw[hcf] at HMS;have HL4:=Jj ((HL3.out.put (i:=i) (by omega) (if s+P+Z<Q then s+P+Z else Q)).congr (G:=lsF l d s c (i+1) (msF (cfA l d s c i) (n+1))) (fun j hj=>by rw[HMS.out,←Iy];exact sQ l d s c i _ _ j));have HB5:=Jj (HB3.out.setCell (p:=⟨w.heap.size,i,none⟩) (Jr _) (.int .i64 (if s+P+Z<Q then s+P+Z else Q)));have HZ5:=Jj (show w.heap.size+1≤(w3.setCell ⟨w.heap.size,i,none⟩ (.int .i64 (if s+P+Z<Q then s+P+Z else Q))).heap.size by simp only[World.setCell,Array.size_modify];omega);clear hr hcs hlz hcf hQ hX2 hP hZ yf
      go_wp2_with fail
      have p1:(i:Int)<(l.length:Int)+1:=by omega
      have p2:(i:Int)+((n:Int)+1)<(l.length:Int)+1:=by omega
      go_region_law (fail)
      all_goals
       obtain⟨W5,hW5⟩:∃W5,w3.setCell ⟨w.heap.size,i,none⟩ (.int .i64 (if s+P+Z<Q then s+P+Z else Q))=W5:=⟨_,rfl⟩;rw[hW5] at HL4 HB5 HZ5 ⊢;clear hW5 y0 y1 y1f;have HL6:=Jj (HL4.out.bel ((Below.refl _ W5).drew));have HB6:=Jj (aa HB5.out ((Below.refl _ W5).drew));have HZ6:=Jj (show w.heap.size+1≤W5.drew.heap.size from HZ5.out);go_wp2;go_roundw
       case rel=>exact⟨n+1,by omega,by go_num,HALL.out,HL6.out,HB6.out,HZ6.out⟩
       case measure=>simp[intOf];omega
theorem vh (v:Value) (l:List Int) (d s c:Int) (w:World) (hv:ai w v l) (h:eu l d s c=true):
  Calls prog 132 #[v,.int .i64 d,.int .i64 s,.int .i64 c] w (lf w (chL l d s c) true):=by
 have HV:=Jj hv;obtain⟨A,cp,rfl,hlc,hc,hrd⟩:=hv.open_;unfold eu at h;rw[JB,JB,JB] at h;obtain⟨⟨⟨h1,h2⟩,h3⟩,h4⟩:=h;obtain⟨l1,l60,-⟩:=cd.1 h1;have d':=am.1 h2;have s':=am.1 h3;have c':=am.1 h4;have H1:=Jj h1;have H2:=Jj h2;have H3:=Jj h3;have H4:=Jj h4;obtain⟨b,o,rfl,hbb,hcell⟩:=hrd.ints (by omega);have hmk1:=fun W=>Tryz.mkInts (l.length+1) (by omega) W;have hmk2:=fun W=>Tryz.mkSegs l.length (by omega) W;rw[show((l.length+1:Nat):Int)=(l.length:Int)+1 from by omega] at hmk1;have w1:IntKind.i64.wrap ((l.length:Int)+1)=(l.length:Int)+1:=by rw[IntWalk.i64_in] <;> omega
 have HP:=Jj (show ∀i,i<l.length→1≤chN l d s c i from fun i hi=>(oR h1 d'.1 d'.2 hi).1);clear hv hrd hcell h1 h2 h3 h4
 go_enter func132,ntmps132
 go_wp2_with (first
  |(go_at_call 213;refine(cU _ _ _ HV.out).mono ?_;rw[H1.out];rintro e w' ⟨rfl,rfl⟩)
  |(go_at_call 214;refine(dq _ _).mono ?_;rw[H2.out];rintro e w' ⟨rfl,rfl⟩)
  |(go_at_call 218;refine(gu s _).mono ?_;rw[H3.out];rintro e w' ⟨rfl,rfl⟩)
  |(go_at_call 218;refine(gu c _).mono ?_;rw[H4.out];rintro e w' ⟨rfl,rfl⟩))
 have KL:=Blk.new w 3 (bz (l.length+1) (.int .i64 0));have KB:=Blk.new (w.alloc (.cells (bz (l.length+1) (.int .i64 0)).toArray 3)) 159 (jj l.length);have B0:Below w.heap.size w ((w.alloc (.cells (bz (l.length+1) (.int .i64 0)).toArray 3)).alloc (.cells (jj l.length).toArray 159)):=(ab w _).alloc (by simp) _;have LB0:bR ((w.alloc (.cells (bz (l.length+1) (.int .i64 0)).toArray 3)).alloc (.cells (jj l.length).toArray 159)) w.heap.size l.length (lsF l d s c l.length 0):=⟨_,KL.alloc _,bi _ _,fun j hj=>by
  rw[oh _ hj];unfold lsF;by_cases e:l.length≤j
  ·rw[if_pos e,show l.length-j=0 by omega];rfl
  ·rw[if_neg e];split <;> rfl⟩
 have BB0:eo ((w.alloc (.cells (bz (l.length+1) (.int .i64 0)).toArray 3)).alloc (.cells (jj l.length).toArray 159)) (w.heap.size+1) (w.heap.size+2) l (bsF l d s c l.length 0):=by
  have e1:(w.alloc (.cells (bz (l.length+1) (.int .i64 0)).toArray 3)).heap.size=w.heap.size+1:=by simp
  rw[e1] at KB;refine⟨_,KB,DB _,fun j hj=>⟨.slice none 0 0,?_,(wV hj).2,?_⟩⟩
  ·rw[(wV hj).1];unfold bsF;rw[if_neg (by omega)]
   split <;> rfl
  ·have:bsF l d s c l.length 0 j=0:=by unfold bsF;rw[if_neg (by omega)];split <;> rfl
   rw[this,GK];exact Own.nil_ _ _
 generalize hW:(w.alloc (.cells (bz (l.length+1) (.int .i64 0)).toArray 3)).alloc (.cells (jj l.length).toArray 159)=W at *;have hWz:W.heap.size=w.heap.size+2:=by rw[←hW];simp
 clear hW KL KB
 go_loopw [12] (fun t wr=>∃k:Nat,k≤l.length∧t=.int .i64 ((k:Int)-1)∧bR wr w.heap.size l.length (lsF l d s c k 0)∧eo wr (w.heap.size+1) (w.heap.size+2) l (bsF l d s c k 0)∧Below w.heap.size w wr∧w.heap.size+2≤wr.heap.size) (fun t _=>(intOf t+1).toNat)
 case atStart=>exact⟨l.length,Jr _,by go_num,LB0,BB0,B0,by omega⟩
 case round=>
  obtain⟨k,hk,rfl,hL,hB,hb,hz⟩:=hrel;have H:=Jj (Jq hL (Jq hB hb));clear hL hB hb LB0 BB0 B0;by_cases hk0:k=0
  ·subst hk0;rw[show(((0:Nat):Int)-1) = -1 from rfl];have HBB:=Jj (H.out.2.1.congr (D:=chN l d s c) (fun j hj=>by unfold bsF;rw[if_pos (Jy _)]));obtain⟨wo,hwo⟩:∃wo,wo=wr:=⟨_,rfl⟩;subst hwo
   go_wp2_with fail
   go_loopw [17,18] (fun s1 t wr=>∃(i:Nat) (ps:List (Nat×List Int)),i≤l.length∧t=.int .i64 i∧bZ wr wo.heap.size s1 ps∧ps.length≤i∧ps++sgL l (chN l d s c) i=chL l d s c∧Below wo.heap.size wo wr) (fun _ t _=>l.length-(intOf t).toNat)
   case atStart=>exact⟨0,[],Jy _,rfl,bZ.nil_ _ _,Jr _,rfl,Below.refl _ _⟩
   case round=>
    obtain⟨i,ps,hi,rfl,ho,hp,he,hb⟩:=hrel;have G:=Jj (Jq ho (Jq hp (Jq he hb)));have hgz:=hb.size;clear ho hp he hb;by_cases hlt:i<l.length
    ·obtain⟨q1,q2,q3⟩:=oR (s:=s) (c:=c) H1.out d'.1 d'.2 hlt;have HE:=Jj (rV HP.out hlt);obtain⟨u,x0,x1,-,-,xo⟩:=(HBB.out.bel G.out.2.2.2).at hlt;obtain⟨n,hn⟩:∃n,chN l d s c i=n:=⟨_,rfl⟩;obtain⟨X,hX⟩:∃X,itD ((l.drop i).take n)=X:=⟨_,rfl⟩;rw[hn] at q1 q2 x0 xo HE;rw[hX] at xo HE;have HNX:=Jj (Jq hn hX);obtain⟨A3,c3,rfl,-,-,-⟩:=xo.ints.open_;have HX:=Jj (xo.lower (Jy _));clear hn hX xo;have BX:=Jj (ab wr (.cells #[.int .i64 n,.slice A3 X.length c3] 159));have hlp:ps.length+1≤1048576:=by have:=G.out.2.1;omega
     go_wp2_with (at_builtin;go_must (refine lO rfl (.tmp 120) (.tmp 125) (by rfl) wo.heap.size _ ps (by rfl) (by exact G.out.1.bel BX.out) _ _ n X (.slice A3 X.length c3) (by rfl) (by exact Blk.newG _ _ [.int .i64 n,.slice A3 X.length c3] _ (by simp)) (by exact HX.out.bel BX.out) hlp (by have:=BX.out.size;omega) ?_;intro v4 w4 ho4 hg4 hat4;have HB4:=Jj (kb (w0:=wo) (aa G.out.2.2.2 BX.out) (G.out.1.bel BX.out) hg4);obtain⟨u2,y0,-⟩:=(HBB.out.bel HB4.out).at hlt;rw[HNX.out.1] at y0))
     have hps:(ps++[(n,X)]).length≤i+n:=by rw[Jv];have:=G.out.2.1;simp;omega
     have HEQ:=Jj (show(ps++[(n,X)])++sgL l (chN l d s c) (i+n)=chL l d s c by have:=G.out.2.2.1;rw[HE.out] at this;rw[←this];simp);go_roundw
     case rel=>exact⟨i+n,ps++[(n,X)],by omega,by go_num,ho4,hps,HEQ.out,HB4.out⟩
     case measure=>simp[intOf];omega
    ·obtain rfl:i=l.length:=by omega
     have HE:=Jj (show ps=chL l d s c by have:=G.out.2.2.1;rwa[pZ (Jr _),List.append_nil] at this);have HO:=Jj (G.out.1.lower (base':=w.heap.size) (by have:=H.out.2.2.size;omega));have HB:=Jj (H.out.2.2.trans (G.out.2.2.2.mono (by have:=H.out.2.2.size;omega)));go_wp2;go_ret2;exact⟨_,rfl,by rw[←HE.out];exact HO.out,HB.out⟩
  ·obtain⟨i,rfl⟩:∃i,k=i+1:=⟨k-1,by omega⟩;rw[show(((i+1:Nat):Int)-1)=(i:Int) from by omega];have hil:i<l.length:=by omega
   obtain⟨m,hm⟩:∃m,l.length-i=m:=⟨_,rfl⟩;have hmI:(l.length:Int)-(i:Int)=(m:Int):=by omega
   obtain⟨N,hN⟩:∃N,lgN (l.drop i) d=N:=⟨_,rfl⟩;have hNm:N≤m:=by have:=jP (l.drop i) d;rw[List.length_drop] at this;omega
   have HNN:=Jj hN;have HL0:=Jj (show bR wr w.heap.size l.length (lsF l d s c (i+1) (bx (cfA l d s c i) N (N-m)).1) by rw[show N-m=0 by omega];exact H.out.1);have HB0:=Jj (show eo wr (w.heap.size+1) (w.heap.size+2) l (bsF l d s c (i+1) (bx (cfA l d s c i) N (N-m)).2) by rw[show N-m=0 by omega];exact H.out.2.1);have HBel:=Jj H.out.2.2;clear hN
   go_wp2_with fail
   go_loopw [13] (fun t wc=>∃n:Nat,n≤m∧t=.int .i64 n∧bR wc w.heap.size l.length (lsF l d s c (i+1) (bx (cfA l d s c i) N (N-n)).1)∧eo wc (w.heap.size+1) (w.heap.size+2) l (bsF l d s c (i+1) (bx (cfA l d s c i) N (N-n)).2)∧Below w.heap.size w wc∧w.heap.size+2≤wc.heap.size) (fun t _=>(intOf t).toNat)
   case atStart=>exact⟨m,Jr _,rfl,HL0.out,HB0.out,HBel.out,hz⟩
   case round=>
    obtain⟨n,hn,rfl,hL,hB,hb,hz2⟩:=hrel;have M:=Jj (Jq hL (Jq hB hb));clear hL hB hb HL0 HB0;by_cases hn0:n=0
    ·subst hn0;have HLf:=Jj (M.out.1.congr (G:=lsF l d s c i 0) (fun j hj=>by rw[Nat.sub_zero,←HNN.out];exact E8 H1.out d'.1 d'.2 s'.1 s'.2 c'.1 c'.2 hil j));have HBf:=Jj (M.out.2.1.congr (D:=bsF l d s c i 0) (fun j hj=>by rw[Nat.sub_zero,←HNN.out];exact Ej l d s c i j));go_wp2;go_roundw
     case rel=>exact⟨i,by omega,by go_num,HLf.out,HBf.out,M.out.2.2,hz2⟩
     case measure=>first|(simp[intOf];done)|(simp[intOf];omega)
    ·obtain⟨A0,c0,e0,-,-,hr0⟩:=HV.out.open_;cases e0;have hdl:(l.drop i).length=m:=by rw[List.length_drop];exact hm
     have HT:=Jj (show ai wr (.slice (some ⟨b,o+i,none⟩) n (cp-i)) ((l.drop i).take n) from ai.midN (HV.out.bel M.out.2.2) (by omega));have HL:=Jj (show((l.drop i).take n).length≤1048576 by rw[List.length_take];omega);have q3:(n:Int)>0:=by omega
     have q4:(i:Int)+(n:Int)≤(cp:Int):=by omega
     have q5:(0:Int)≤(i:Int)+(n:Int):=by omega
     have q6:((i:Int)+(n:Int)).toNat=i+n:=by omega
     have q7:IntKind.i64.wrap ((i:Int)+(n:Int))=(i:Int)+(n:Int):=by rw[IntWalk.i64_in] <;> omega
     have q8:(i:Int)≤(i:Int)+(n:Int):=by omega
     have q9:i+n-i=n:=by omega
     have q10:¬cp=i:=by omega
     have q11:(0:Int)≤(i:Int):=by omega
     clear hr0 hdl
     go_wp2_with fail
     refine(pC _ ((l.drop i).take n) d _ HT.out HL.out d'.1).mono ?_;rintro e w3 ⟨r,rfl,o3,b3⟩;obtain⟨A3,c3,rfl,-,-,-⟩:=o3.ints.open_;have HB3:=Jj (aa M.out.2.2 b3);have HL3:=Jj (M.out.1.bel b3);have HS3:=Jj (M.out.2.1.bel b3);have HO3:=Jj (o3.lower hz2);have z3:=b3.size;clear o3 b3;cases hr:bN ((l.drop i).take n) d
     ·have hnN:N<n:=by
       rcases Nat.lt_or_ge N n with h|h
       ·exact h
       ·have:=np (l:=l.drop i) (d:=d) (n:=n) (by omega) (by rw[HNN.out];exact h);rw[hr] at this;cases this
      have HLn:=Jj (show bR w3 w.heap.size l.length (lsF l d s c (i+1) (bx (cfA l d s c i) N (N-(n-1))).1) by rw[show N-(n-1)=N-n by omega];exact HL3.out);have HBn:=Jj (show eo w3 (w.heap.size+1) (w.heap.size+2) l (bsF l d s c (i+1) (bx (cfA l d s c i) N (N-(n-1))).2) by rw[show N-(n-1)=N-n by omega];exact HS3.out);clear hr;go_wp2;go_roundw
      case rel=>exact⟨n-1,by omega,by go_num,HLn.out,HBn.out,HB3.out,by omega⟩
      case measure=>first|(simp[intOf];done)|(simp[intOf];omega)
     ·have hnN:n≤N:=by
       rcases Nat.lt_or_ge N n with h|h
       ·have:=E6 (fY H1.out hil) d'.1 d'.2 (n:=n) (by rw[HNN.out];exact h) (by rw[List.length_drop];omega);rw[hr] at this;cases this
       ·exact h
      have hX:=vR hr;have hcs:=oT (s:=s) (c:=c) H1.out d'.1 d'.2 s'.1 s'.2 c'.1 c'.2 (l.length-(i+1)) (by omega) (n-1) (by omega);have hlz:=tU l d s c (i:=i) (n:=n) (bx (cfA l d s c i) N (N-n)).1 (by omega) (by omega);have hcf:cfA l d s c i n=s+c*((itD ((l.drop i).take n)).length:Int)+at_ (csL l d s c (l.length-(i+1))) (n-1):=rfl;rw[nv hr] at HO3;have hcb:=nf s'.1 s'.2 c'.1 c'.2 hX.2;obtain⟨Z,hZ⟩:∃Z,at_ (csL l d s c (l.length-(i+1))) (n-1)=Z:=⟨_,rfl⟩;rw[hZ] at hcs hlz hcf;obtain⟨y0,yf⟩:=HL3.out.at (j:=i+n) (by omega);obtain⟨y1,y1f⟩:=HL3.out.at (j:=i) (by omega);obtain⟨u,t0,t1,t0f,t1f,tO⟩:=HS3.out.at hil;rw[hlz] at y0;rw[vZ] at y1;rw[Ek] at t0;rw[nv hr];have hsel:=Jj (Jq (uk (f:=cfA l d s c i) (N:=N) (q:=N-n)) (uj (f:=cfA l d s c i) (N:=N) (q:=N-n)));obtain⟨Q,hQ⟩:∃Q,bx (cfA l d s c i) N (N-n)=Q:=⟨_,rfl⟩;rw[hQ] at y1 t0 hsel;have HQ:=Jj hQ;obtain⟨X,hX2⟩:∃X,itD ((l.drop i).take n)=X:=⟨_,rfl⟩;rw[hX2] at HO3 hcf hcb hX ⊢;have HXX:=Jj hX2;obtain⟨P,hP⟩:∃P,c*(X.length:Int)=P:=⟨_,rfl⟩;rw[hP] at hcf hcb;have g1:IntKind.i64.wrap (c*(X.length:Int))=P:=by rw[hP,IntWalk.i64_in] <;> omega
      have g2:IntKind.i64.wrap (s+P)=s+P:=by rw[IntWalk.i64_in] <;> omega
      have g3:IntKind.i64.wrap (s+P+Z)=s+P+Z:=by rw[IntWalk.i64_in] <;> omega
      have HCF:=Jj hcf;clear hr hcs hlz hcf hQ hX2 hP hZ yf tO;have hq1:N-(N-n)=n:=by omega
      have hq2:N-n+1=N-(n-1):=by omega
      rw[hq1,hq2,HCF.out] at hsel;have HL4:=Jj (((HL3.out.put (i:=i) (by omega) (s+P+Z)).congr (G:=lsF l d s c (i+1) (s+P+Z)) (fun j hj=>sQ l d s c i _ _ j)).far ⟨w.heap.size+1,i*2,none⟩ (.int .i64 n) (by show w.heap.size≠w.heap.size+1;omega));have HL5:=Jj (HL4.out.far ⟨w.heap.size+1,i*2+1,none⟩ (.slice A3 X.length c3) (by show w.heap.size≠w.heap.size+1;omega));have HS4:=Jj (((HS3.out.far ⟨w.heap.size,i,none⟩ (.int .i64 (s+P+Z)) (by show w.heap.size<w.heap.size+2;omega) (by show w.heap.size+1≠w.heap.size;omega)).put hil (by omega) n (.slice A3 X.length c3) (by rw[HXX.out];exact HO3.out.putCell _ _ (by show w.heap.size<w.heap.size+2;omega))).congr (D:=bsF l d s c (i+1) n) (fun j hj=>Gi l d s c i _ n j));have HB5:=Jj (((HB3.out.setCell (p:=⟨w.heap.size,i,none⟩) (Jr _) (.int .i64 (s+P+Z))).setCell (p:=⟨w.heap.size+1,i*2,none⟩) (by show w.heap.size≤w.heap.size+1;omega) (.int .i64 n)).setCell (p:=⟨w.heap.size+1,i*2+1,none⟩) (by show w.heap.size≤w.heap.size+1;omega) (.slice A3 X.length c3));have hz5:w.heap.size+2≤(((w3.setCell ⟨w.heap.size,i,none⟩ (.int .i64 (s+P+Z))).setCell ⟨w.heap.size+1,i*2,none⟩ (.int .i64 n)).setCell ⟨w.heap.size+1,i*2+1,none⟩ (.slice A3 X.length c3)).heap.size:=by simp only[World.setCell,Array.size_modify];omega
      have HZ5:=Jj hz5;clear hz5 hq1 hq2;by_cases hq0:Q.2=0
      ·have t2:(((Q.2:Nat):Int)==0)=true:=by rw[hq0];rfl
       have HSL:=Jj (hsel.out.1 (.inl hq0));clear hq0;go_wp2;go_roundw
       case rel=>exact⟨n-1,by omega,by go_num,by rw[HSL.out];exact HL5.out,by rw[HSL.out];exact HS4.out,HB5.out,HZ5.out⟩
       case measure=>first|(simp[intOf];done)|(simp[intOf];omega)
      ·have t2:(((Q.2:Nat):Int)==0)=false:=by rw[beq_eq_false_iff_ne];omega
       by_cases hlt:s+P+Z<Q.1
       ·have t3:decide (s+P+Z<Q.1)=true:=decide_eq_true hlt;have HSL:=Jj (hsel.out.1 (.inr hlt));clear hq0;go_wp2;go_roundw
        case rel=>exact⟨n-1,by omega,by go_num,by rw[HSL.out];exact HL5.out,by rw[HSL.out];exact HS4.out,HB5.out,HZ5.out⟩
        case measure=>first|(simp[intOf];done)|(simp[intOf];omega)
       ·have t3:decide (s+P+Z<Q.1)=false:=decide_eq_false hlt;have HSL:=Jj ((hsel.out.2 (fun e=>e.elim hq0 hlt)).trans HQ.out.symm);clear hq0;go_wp2;go_roundw
        case rel=>exact⟨n-1,by omega,by go_num,by rw[HSL.out];exact HL3.out,by rw[HSL.out];exact HS3.out,HB3.out,by omega⟩
        case measure=>first|(simp[intOf];done)|(simp[intOf];omega)
theorem xD (v:Value) (l:List Int) (d s c:Int) (w:World) (hv:ai w v l) (h:eu l d s c=false):
  Calls prog 132 #[v,.int .i64 d,.int .i64 s,.int .i64 c] w (lf w [] false):=by
 have HV:=Jj hv;have HN:=Jj h;obtain⟨A,cp,rfl,-,-,-⟩:=hv.open_;clear hv h
 go_enter func132,ntmps132
 cases h1:cI l
 ·go_wp2_with (go_at_call 213;refine(cU _ _ _ HV.out).mono ?_;rw[h1];rintro e w' ⟨rfl,rfl⟩)
  go_ret2;exact⟨_,rfl,bZ.nil_ _ _,Below.refl _ _⟩
 ·cases h2:inB d 0 6
  ·go_wp2_with (first
    |(go_at_call 213;refine(cU _ _ _ HV.out).mono ?_;rw[h1];rintro e w' ⟨rfl,rfl⟩)
    |(go_at_call 214;refine(dq _ _).mono ?_;rw[h2];rintro e w' ⟨rfl,rfl⟩))
   go_ret2;exact⟨_,rfl,bZ.nil_ _ _,Below.refl _ _⟩
  ·cases h3:inB s 0 1000
   ·go_wp2_with (first
     |(go_at_call 213;refine(cU _ _ _ HV.out).mono ?_;rw[h1];rintro e w' ⟨rfl,rfl⟩)
     |(go_at_call 214;refine(dq _ _).mono ?_;rw[h2];rintro e w' ⟨rfl,rfl⟩)
     |(go_at_call 218;refine(gu s _).mono ?_;rw[h3];rintro e w' ⟨rfl,rfl⟩))
    go_ret2;exact⟨_,rfl,bZ.nil_ _ _,Below.refl _ _⟩
   ·have h4:inB c 0 1000=false:=by have:=HN.out;simpa[eu,h1,h2,h3] using this
    go_wp2_with (first
     |(go_at_call 213;refine(cU _ _ _ HV.out).mono ?_;rw[h1];rintro e w' ⟨rfl,rfl⟩)
     |(go_at_call 214;refine(dq _ _).mono ?_;rw[h2];rintro e w' ⟨rfl,rfl⟩)
     |(go_at_call 218;refine(gu s _).mono ?_;rw[h3];rintro e w' ⟨rfl,rfl⟩)
     |(go_at_call 218;refine(gu c _).mono ?_;rw[h4];rintro e w' ⟨rfl,rfl⟩))
    go_ret2;exact⟨_,rfl,bZ.nil_ _ _,Below.refl _ _⟩
theorem bZ.empty (w:World) (base:Nat) (hb:base≤w.heap.size):bZ (w.alloc (.cells #[] 159)) base (.slice (some ⟨w.heap.size,0,none⟩) 0 0) []:=
 ⟨[],rfl,⟨rfl,.inr ⟨w.heap.size,0,#[],rfl,hb,heap_alloc_new w _,Jr _,Jy _,rfl,rfl⟩⟩,by simp,fun k hk=>absurd hk (by simp)⟩
theorem Hf {ps:List (Nat×List Int)} {k:Nat} (h:k<ps.length):ps.take (k+1)=ps.take k++[(sgn ps k,sgp ps k)]:=by
 have e:(sgn ps k,sgp ps k)=ps[k]:=by simp[sgn,sgp,List.getD,h]
 rw[e,List.take_add_one,List.getElem?_eq_getElem h]
 rfl
theorem AI (n:Nat) (u:Value) (X:List Int) (w:World) (hu:ai w u X) (hX:X.length≤1048576):
  Calls prog 240 #[.agg #[.int .i64 n,u]] w fun e w'=>∃r,e=.returned (.agg #[.int .i64 n,r])∧Own w' w.heap.size r X∧Below w.heap.size w w':=by
 have HU:=Jj hu;obtain⟨A,c,rfl,hlc,hc,-⟩:=hu.open_;have K1:=Blk.new w 159 [.int .i64 n,.slice A X.length c];have K2:=Blk.newG (w.alloc (.cells #[.int .i64 n,.slice A X.length c] 159)) 159 [.int .i64 0,.slice none 0 0] (w.heap.size+1) (by simp);have K1':=(K1.alloc (.cells #[.int .i64 0,.slice none 0 0] 159)).alloc (.cells #[] 3);have K2':=K2.alloc (.cells #[] 3);obtain⟨x0,x1,x2,x3⟩:=K1'.two;have B2:=Jj (show Below w.heap.size w (((w.alloc (.cells #[.int .i64 n,.slice A X.length c] 159)).alloc (.cells #[.int .i64 0,.slice none 0 0] 159)).alloc (.cells #[] 3)) from((ab w _).alloc (by simp) _).alloc (by simp;omega) _);have OE0:=Own.empty ((w.alloc (.cells #[.int .i64 n,.slice A X.length c] 159)).alloc (.cells #[.int .i64 0,.slice none 0 0] 159)) (w.heap.size+2) (by simp);rw[show((w.alloc (.cells #[.int .i64 n,.slice A X.length c] 159)).alloc (.cells #[.int .i64 0,.slice none 0 0] 159)).heap.size=w.heap.size+1+1 by simp] at OE0;have OE:=Jj OE0;clear OE0;clear hu
 go_enter func240,ntmps240
 go_wp2_with (at_builtin;go_must (refine kd rfl _ _ (by rfl) (w.heap.size+2) _ _ [] X (by rfl) (by exact OE.out) (by rfl) (by exact HU.out.bel B2.out) (by simp only[List.length_nil];omega) (by simp) ?_);intro v4 w4 ho4 hg4 hat4;rw[List.nil_append] at ho4;obtain⟨A4,c4,e4,-,-,-⟩:=ho4.ints.open_;subst e4;have Q1:=K1'.grown hg4 (fun e=>by have:=(OE.out.lt _ e.symm).1;omega);have Q2:=K2'.grown hg4 (fun e=>by have:=(OE.out.lt _ e.symm).1;omega);obtain⟨y0,y1,y2,y3⟩:=Q1.two;obtain⟨z0,z1,z2,z3⟩:=Q2.two)
 have HB4:=Jj (dN (w0:=w) B2.out (OE.out.lower (base':=w.heap.size) (by omega)) hg4);clear x0 x1 x2 x3 y0 y1 y2 y3 z0 z1 z2 z3 hg4 hat4 K1 K2 K1' K2';have R2:Blk (((w4.setCell ⟨w.heap.size,1,none⟩ (.slice A4 X.length c4)).setCell ⟨w.heap.size+1,0,none⟩ (.int .i64 n)).setCell ⟨w.heap.size+1,1,none⟩ (.slice A4 X.length c4)) (w.heap.size+1) 159 [.int .i64 n,.slice A4 X.length c4]:=((Q2.far (p:=⟨w.heap.size,1,none⟩) (by show w.heap.size+1≠w.heap.size;omega) _).set_ 0 _).set_ 1 _;have O2:=Jj (((ho4.putCell ⟨w.heap.size,1,none⟩ (.slice A4 X.length c4) (by show w.heap.size<w.heap.size+2;omega)).putCell ⟨w.heap.size+1,0,none⟩ (.int .i64 n) (by show w.heap.size+1<w.heap.size+2;omega)).putCell ⟨w.heap.size+1,1,none⟩ (.slice A4 X.length c4) (by show w.heap.size+1<w.heap.size+2;omega));have HB5:=Jj (((HB4.out.setCell (p:=⟨w.heap.size,1,none⟩) (Jr _) (.slice A4 X.length c4)).setCell (p:=⟨w.heap.size+1,0,none⟩) (by show w.heap.size≤w.heap.size+1;omega) (.int .i64 n)).setCell (p:=⟨w.heap.size+1,1,none⟩) (by show w.heap.size≤w.heap.size+1;omega) (.slice A4 X.length c4));obtain⟨z0,z1,-,-⟩:=R2.two;refine bodyPost_ret (v:=.agg #[.int .i64 n,.slice A4 X.length c4]) (by simp[results,results240,go_sem,z0,z1]) rfl ⟨_,rfl,O2.out.lower (base':=w.heap.size) (by omega),HB5.out⟩
theorem qp (v:Value) (ps:List (Nat×List Int)) (w:World) (hv:oM w v ps) (hX:∀k,k<ps.length→(sgp ps k).length≤1048576) (hl:ps.length≤1000000):
  Calls prog 169 #[v] w fun e w'=>∃r,e=.returned r∧bZ w' w.heap.size r ps∧Below w.heap.size w w':=by
 have HV:=Jj hv;have HX:=Jj hX;obtain⟨us,A,c,h1,rfl,h3,h4,h5,h6⟩:=hv;have H5:=Jj h5;have H6:=Jj h6;have OE:=Jj (bZ.empty w w.heap.size (Jr _));clear h5 h6 hX
 go_enter func169,ntmps169
 go_wp2
 go_loopw [3,9] (fun s t wr=>∃k:Nat,k≤ps.length∧t=.int .i64 k∧bZ wr w.heap.size s (ps.take k)∧Below w.heap.size w wr) (fun _ t _=>ps.length-(intOf t).toNat)
 case atStart=>exact⟨0,Jy _,rfl,by rw[List.take_zero];exact OE.out,ab _ _⟩
 case round=>
  obtain⟨k,hk,rfl,ho,hb⟩:=hrel;have H:=Jj (Jq ho hb);have hz:=hb.size;clear ho hb;by_cases hlt:k<ps.length
  ·obtain⟨b,o,rfl,hbb,hcell⟩:=H5.out (by omega);obtain⟨e0,e1⟩:=hcell k hlt;have y0:=(H.out.2.cell (p:=⟨b,o+k*2,none⟩) hbb).trans e0;have y1:=(H.out.2.cell (p:=⟨b,o+k*2+1,none⟩) hbb).trans e1;have HI:=Jj ((H6.out k hlt).bel H.out.2);have HXk:=Jj (HX.out k hlt);have HT:=Jj (Hf hlt);have HTL:=Jj (show(ps.take k).length+1≤1048576 by rw[List.length_take];omega);obtain⟨n,hn⟩:∃n,sgn ps k=n:=⟨_,rfl⟩;obtain⟨X,hX⟩:∃X,sgp ps k=X:=⟨_,rfl⟩;obtain⟨u,hu⟩:∃u,sgu us k=u:=⟨_,rfl⟩;rw[hn] at y0 HT;rw[hu] at y1 HI;rw[hX] at HT HI HXk;clear hn hX hu e0 e1 hcell;obtain⟨A3,c3,rfl,-,-,-⟩:=HI.out.open_;have K5:=Blk.new wr 159 [.int .i64 n,.slice A3 X.length c3];have BX:=Jj (ab wr (.cells #[.int .i64 n,.slice A3 X.length c3] 159));obtain⟨t0,t1,t2,t3⟩:=K5.two;have HK5:=Jj (K5);clear t0 t1 t2 t3 K5
   go_wp2_with fail
   refine(AI n _ X _ (HI.out.bel BX.out) HXk.out).mono ?_;rintro e w5 ⟨r,rfl,o5,b5⟩;obtain⟨A5,c5,rfl,-,-,-⟩:=o5.ints.open_;have B5:=Jj (aa BX.out b5);have O5:=Jj (o5.lower (Jy _));have HS5:=Jj (H.out.1.bel B5.out);have BY:=Jj (ab w5 (.cells #[.int .i64 n,.slice A5 X.length c5] 159));have z5:=B5.out.size;clear o5 b5
   go_wp2_with (at_builtin;go_must (refine lO rfl _ _ (by rfl) w.heap.size _ (ps.take k) (by rfl) (by exact HS5.out.bel BY.out) _ _ n X (.slice A5 X.length c5) (by rfl) (by exact Blk.newG _ _ [.int .i64 n,.slice A5 X.length c5] _ (by simp)) (by exact O5.out.bel BY.out) HTL.out (by simp;omega) ?_;intro v6 w6 ho6 hg6 hat6;have HB6:=Jj (kb (w0:=w) (aa (aa H.out.2 B5.out) BY.out) (HS5.out.bel BY.out) hg6)))
   go_roundw
   case rel=>exact⟨k+1,hlt,by go_num,by rw[HT.out];exact ho6,HB6.out⟩
   case measure=>simp[intOf];omega
  ·obtain rfl:k=ps.length:=by omega
   have HO:=Jj (show bZ wr w.heap.size u3 ps by have:=H.out.1;rwa[List.take_length] at this);go_wp2;go_ret;exact⟨_,rfl,HO.out,H.out.2⟩
theorem yu {w:World} {base g:Nat} {v:Value} {ps:List (Nat×List Int)} {cs:List Value} (h:bZ w base v ps) (hb:Blk w g 3 cs):some g≠v.ownBlock:=by
 intro e;obtain⟨us,h1,h2,h3,h4⟩:=h
 rcases h2.2 with ⟨rfl,-⟩|⟨g2,cap,cur,rfl,-,hh,-⟩
 ·cases e
 ·injection e with e;subst e;unfold Blk at hb;rw[hh] at hb;injection hb with hb;injection hb with _ hb;exact absurd hb (by decide)
theorem bR.grown {w w':World} {g L:Nat} {F:Nat→Int} {base:Nat} {v:Value} {ps:List (Nat×List Int)} (h:bR w g L F) (hv:bZ w base v ps) (hg:w.grownBy w' v.ownBlock):bR w' g L F:=by
 obtain⟨cs,h1,h2,h3⟩:=h;exact⟨cs,h1.grown hg (yu hv h1),h2,h3⟩
theorem Ds (v:Value) (l:List Int) (d s c:Int) (w:World) (hv:ai w v l) (h:eu l d s c=false):
  Calls prog 171 #[v,.int .i64 d,.int .i64 s,.int .i64 c] w (lf w [] false):=by
 have HV:=Jj hv;have HN:=Jj h;obtain⟨A,cp,rfl,-,-,-⟩:=hv.open_;have OE:=Jj (bZ.empty w w.heap.size (Jr _));have BE:=Jj (ab w (.cells #[] 159));clear hv h
 go_enter func171,ntmps171
 cases h1:cI l
 ·go_wp2_with (go_at_call 237;refine(el _ _ _ (HV.out.bel BE.out)).mono ?_;rw[h1];rintro e w' ⟨rfl,rfl⟩)
  go_ret2;exact⟨_,rfl,OE.out,BE.out⟩
 ·cases h2:inB d 0 6
  ·go_wp2_with (first
    |(go_at_call 237;refine(el _ _ _ (HV.out.bel BE.out)).mono ?_;rw[h1];rintro e w' ⟨rfl,rfl⟩)
    |(go_at_call 233;refine(kT _ _).mono ?_;rw[h2];rintro e w' ⟨rfl,rfl⟩))
   go_ret2;exact⟨_,rfl,OE.out,BE.out⟩
  ·have h3:(inB s 0 1000&&inB c 0 1000)=false:=by
    have:=HN.out;simp only[eu,h1,h2,Bool.true_and] at this;exact this
   go_wp2_with (first
    |(go_at_call 237;refine(el _ _ _ (HV.out.bel BE.out)).mono ?_;rw[h1];rintro e w' ⟨rfl,rfl⟩)
    |(go_at_call 233;refine(kT _ _).mono ?_;rw[h2];rintro e w' ⟨rfl,rfl⟩)
    |(go_at_call 242;refine(rH _ _ _).mono ?_;rw[h3];rintro e w' ⟨rfl,rfl⟩))
   go_ret2;exact⟨_,rfl,OE.out,BE.out⟩
theorem AM (v:Value) (l:List Int) (d s c:Int) (w:World) (hv:ai w v l) (h:eu l d s c=true):
  Calls prog 171 #[v,.int .i64 d,.int .i64 s,.int .i64 c] w (lf w (chL l d s c) true):=by
 have HV:=Jj hv;obtain⟨A,cp,rfl,hlc,hc,hrd⟩:=hv.open_;unfold eu at h;rw[JB,JB,JB] at h;obtain⟨⟨⟨h1,h2⟩,h3⟩,h4⟩:=h;obtain⟨l1,l60,-⟩:=cd.1 h1;have d':=am.1 h2;have s':=am.1 h3;have c':=am.1 h4;have H1:=Jj h1;have H2:=Jj h2;have H3:=Jj (show(inB s 0 1000&&inB c 0 1000)=true by rw[h3,h4];rfl);obtain⟨b,o,rfl,hbb,hcell⟩:=hrd.ints (by omega);have HP:=Jj (show ∀i,i<l.length→1≤chN l d s c i from fun i hi=>(oR h1 d'.1 d'.2 hi).1);have OE:=bZ.empty w w.heap.size (Jr _);have BE:=ab w (.cells #[] 159);clear hv hrd hcell h1 h2 h3 h4
 go_enter func171,ntmps171
 go_wp2_with fail
 generalize hW:w.alloc (.cells #[] 159)=W at *;have HB:=Jj BE;have HO:=Jj OE;have hzW:w.heap.size≤W.heap.size:=BE.size;clear hW OE BE;refine(el _ _ _ (HV.out.bel HB.out)).mono ?_;rw[H1.out];rintro e w' ⟨rfl,rfl⟩
 go_wp2_with (first
  |(go_at_call 233;refine(kT _ _).mono ?_;rw[H2.out];rintro e w' ⟨rfl,rfl⟩)
  |(go_at_call 242;refine(rH _ _ _).mono ?_;rw[H3.out];rintro e w' ⟨rfl,rfl⟩))
 refine(BP _ l d s c _ (HV.out.bel HB.out) H1.out d' s' c').mono ?_;rintro e w3 ⟨rfl,hL,b3⟩;have HL:=Jj (hL.congr (G:=fun j=>at_ (csL l d s c (l.length-j)) 0) (fun j hj=>by unfold lsF;rw[if_pos (Jy _)]));have HB3:=Jj (aa HB.out b3);have HO3:=Jj (HO.out.bel b3);have hz3:=b3.size;clear hL b3 HO HB
 go_wp2_with fail
 go_loopw [10,12] (fun s1 t wr=>∃(i:Nat) (ps:List (Nat×List Int)),i≤l.length∧t=.int .i64 i∧bZ wr w.heap.size s1 ps∧ps.length≤i∧ps++sgL l (chN l d s c) i=chL l d s c∧Below w.heap.size w wr∧bR wr W.heap.size l.length (fun j=>at_ (csL l d s c (l.length-j)) 0)) (fun _ t _=>l.length-(intOf t).toNat)
 case atStart=>exact⟨0,[],Jy _,rfl,HO3.out,Jr _,rfl,HB3.out,HL.out⟩
 case round=>
  obtain⟨i,ps,hi,rfl,ho,hp,he,hb,hl⟩:=hrel;have H:=Jj (Jq ho (Jq hp (Jq he (Jq hb hl))));have hz:=hb.size;clear ho hp he hb hl;by_cases hil:i<l.length
  ·obtain⟨N,hN⟩:∃N,lgN (l.drop i) d=N:=⟨_,rfl⟩;obtain⟨k1,k2,k3⟩:=oR (s:=s) (c:=c) H1.out d'.1 d'.2 hil;have HSM:=Jj (show at_ (csL l d s c (l.length-i)) 0=(bx (cfA l d s c i) N N).1 by rw[←hN];exact FV H1.out d'.1 d'.2 s'.1 s'.2 c'.1 c'.2 hil);have HCN:=Jj (show chN l d s c i=(bx (cfA l d s c i) N N).2 by rw[←hN];rfl);rw[hN] at k2 k3;have HNN:=Jj hN;have HSP:=Jj (show cfA l d s c i (chN l d s c i)=(bx (cfA l d s c i) N N).1 by
    rw[HCN.out];obtain⟨q,hq⟩:∃q,N=q+1:=⟨N-1,by omega⟩;rw[hq];exact(mg (cfA l d s c i) (q+1) q (Jr _)).2.2.1)
   have HE:=Jj (rV HP.out hil);have HD:=Jj (show ai wr (.slice (some ⟨b,o+i,none⟩) (l.length-i) (cp-i)) (l.drop i) from(HV.out.bel H.out.2.2.2.1).dropN (by omega));have hdl:(l.drop i).length≤1000000:=by rw[List.length_drop];omega
   have HDL:=Jj hdl;have q1:(i:Int)≤(l.length:Int):=by omega
   have q2:(0:Int)≤(i:Int):=by omega
   have q3:¬cp=i:=by omega
   obtain⟨wo,hwo⟩:∃wo,wo=wr:=⟨_,rfl⟩;subst hwo;clear hN hdl
   go_wp2_with fail
   refine(pJ _ (l.drop i) d _ HD.out HDL.out).mono ?_;rw[HNN.out];rintro e w4 ⟨rfl,b4⟩;have HB4:=Jj b4;clear b4
   go_wp2_with fail
   obtain⟨S0,hS0⟩:∃S0,S0=u10:=⟨_,rfl⟩
   go_loopw [10,12,13] (fun s2 t2 t wc=>∃n:Nat,n≤N∧s2=S0∧t2=.int .i64 i∧t=.int .i64 n∧(∀j,n<j→j≤N→cfA l d s c i j≠(bx (cfA l d s c i) N N).1)∧Below wo.heap.size wo wc) (fun _ _ t _=>(intOf t).toNat)
   case atStart=>exact⟨N,Jr _,hS0.symm,rfl,rfl,fun j h1 h2=>absurd h1 (by omega),HB4.out⟩
   case round=>
    obtain⟨n,hn,rfl,rfl,rfl,hno,hb⟩:=hrel;have M:=Jj (Jq hno hb);have hz2:=hb.size;clear hno hb;have hcn:chN l d s c i≤n:=by
     rcases Nat.lt_or_ge n (chN l d s c i) with h|h
     ·exact absurd HSP.out (M.out.1 _ h k2)
     ·exact h
    have hrn:bN ((l.drop i).take n) d=true:=np (by omega) (by rw[HNN.out];exact hn);have HT:=Jj (show ai wr (.slice (some ⟨b,o+i,none⟩) n (cp-i)) ((l.drop i).take n) from ai.midN (HV.out.bel (H.out.2.2.2.1.trans (M.out.2.mono hz))) (by omega));have HTL:=Jj (show((l.drop i).take n).length≤1048576 by rw[List.length_take];omega);have t0:(n:Int)>0:=by omega
    have t1:(i:Int)+(n:Int)≤(cp:Int):=by omega
    have t2:(0:Int)≤(i:Int)+(n:Int):=by omega
    have t3:((i:Int)+(n:Int)).toNat=i+n:=by omega
    have t4:IntKind.i64.wrap ((i:Int)+(n:Int))=(i:Int)+(n:Int):=by rw[IntWalk.i64_in] <;> omega
    have t5:(i:Int)≤(i:Int)+(n:Int):=by omega
    have t6:i+n-i=n:=by omega
    have HRN:=Jj hrn;have HCC:=Jj hcn;clear hrn hcn
    go_wp2_with fail
    refine(jY _ ((l.drop i).take n) d _ HT.out HTL.out).mono ?_;rw[HRN.out,nv HRN.out];rintro e w5 ⟨r,rfl,o5,b5⟩;have HB5:=Jj (aa M.out.2 b5);have hX:=vR HRN.out;have hcb:=nf s'.1 s'.2 c'.1 c'.2 hX.2;have hcs:=oT (s:=s) (c:=c) H1.out d'.1 d'.2 s'.1 s'.2 c'.1 c'.2 (l.length-(i+n)) (by omega) 0 (by omega);have hcf:cfA l d s c i n=s+c*((itD ((l.drop i).take n)).length:Int)+at_ (csL l d s c (l.length-(i+1))) (n-1):=rfl;have htail:=qG l d s c (l.length-(i+1)) (n-1) (l.length-(i+n)) (by have:=HCC.out;omega);rw[htail] at hcf;have HL5:=Jj (H.out.2.2.2.2.bel HB5.out);obtain⟨y0,-⟩:=HL5.out.at (j:=i+n) (by omega);obtain⟨y1,-⟩:=HL5.out.at (j:=i) (by omega);obtain⟨Z,hZ⟩:∃Z,at_ (csL l d s c (l.length-(i+n))) 0=Z:=⟨_,rfl⟩;rw[hZ] at y0 hcs hcf;rw[HSM.out] at y1;obtain⟨Q,hQ⟩:∃Q,(bx (cfA l d s c i) N N).1=Q:=⟨_,rfl⟩;rw[hQ] at y1;have HQ:=Jj hQ;obtain⟨X,hX2⟩:∃X,itD ((l.drop i).take n)=X:=⟨_,rfl⟩;rw[hX2] at o5 hcf hcb hX;have HXX:=Jj hX2;obtain⟨P,hP⟩:∃P,c*(X.length:Int)=P:=⟨_,rfl⟩;rw[hP] at hcf hcb;have g1:IntKind.i64.wrap (c*(X.length:Int))=P:=by rw[hP,IntWalk.i64_in] <;> omega
    have g2:IntKind.i64.wrap (s+P)=s+P:=by rw[IntWalk.i64_in] <;> omega
    have g3:IntKind.i64.wrap (s+P+Z)=s+P+Z:=by rw[IntWalk.i64_in] <;> omega
    have p1:(i:Int)<(l.length:Int)+1:=by omega
    have p2:(i:Int)+(n:Int)<(l.length:Int)+1:=by omega
    have HCF:=Jj hcf;obtain⟨A5,c5,rfl,-,-,-⟩:=o5.ints.open_;have HO5:=Jj (o5.lower (Jy _));clear hcs hcf htail hZ hQ hX2 hP o5 b5;by_cases heq:s+P+Z=Q
    ·have e1:(s+P+Z==Q)=true:=by rw[heq];simp
     have HN1:=Jj (show n=chN l d s c i by
      rw[HCN.out];exact DD (by omega) (by omega) hn (by rw[HCF.out,HQ.out];exact heq) (fun j h1 h2=>M.out.1 j h1 h2))
     clear heq
     go_wp2_with fail
     go_quiet (fail)
     have bq:Below w5.heap.size w5 (w5.drewN nq):=aV (Below.refl _ _) nq;generalize hW6:w5.drewN nq=W6 at *;clear hW6;have HB6:=Jj (aa HB5.out bq);have HO6:=Jj (HO5.out.bel bq);have HS6:=Jj (H.out.1.bel HB6.out);have HL6:=Jj (H.out.2.2.2.2.bel HB6.out);have hlp:ps.length+1≤1048576:=by have:=H.out.2.1;omega
     have BY:=Jj (ab W6 (.cells #[.int .i64 n,.slice A5 X.length c5] 159));have z6:=HB6.out.size;clear bq y0 y1
     go_wp2_with (at_builtin;go_must (refine lO rfl (.tmp 79) (.tmp 83) (by rfl) w.heap.size _ ps (by rfl) (by exact HS6.out.bel BY.out) _ _ n X (.slice A5 X.length c5) (by rfl) (by exact Blk.newG _ _ [.int .i64 n,.slice A5 X.length c5] _ (by simp)) (by exact HO6.out.bel BY.out) hlp (by simp;omega) ?_;intro v7 w7 ho7 hg7 hat7;have HB7:=Jj (kb (w0:=w) (aa (H.out.2.2.2.1.trans (HB6.out.mono hz)) BY.out) (HS6.out.bel BY.out) hg7);have HL7:=Jj ((HL6.out.bel BY.out).grown (HS6.out.bel BY.out) hg7)))
     have hps:(ps++[(n,X)]).length≤i+n:=by rw[Jv];have:=H.out.2.1;simp;omega
     have HEQ:=Jj (show(ps++[(n,X)])++sgL l (chN l d s c) (i+n)=chL l d s c by have:=H.out.2.2.1;rw[HE.out,←HN1.out,HXX.out] at this;rw[←this];simp);go_roundw
     case rel=>exact⟨i+n,ps++[(n,X)],by omega,by go_num,ho7,hps,HEQ.out,HB7.out,HL7.out⟩
     case measure=>simp[intOf];omega
    ·have e1:(s+P+Z==Q)=false:=by rw[beq_eq_false_iff_ne];exact heq
     have HNO:=Jj (show ∀j,n-1<j→j≤N→cfA l d s c i j≠(bx (cfA l d s c i) N N).1 from fun j h1 h2=>by
      by_cases h:j=n
      ·rw[h,HCF.out,HQ.out];exact heq
      ·exact M.out.1 j (by omega) h2)
     clear heq
     go_wp2_with fail
     go_quiet (fail)
     have bq:Below w5.heap.size w5 (w5.drewN nq):=aV (Below.refl _ _) nq;generalize hW6:w5.drewN nq=W6 at *;clear hW6;have HB6:=Jj (aa HB5.out bq);clear bq y0 y1;go_wp2;go_roundw
     case rel=>exact⟨n-1,by omega,hS0.symm,rfl,by go_num,HNO.out,HB6.out⟩
     case measure=>first|(simp[intOf];done)|(simp[intOf];omega)
  ·obtain rfl:i=l.length:=by omega
   have HE:=Jj (show ps=chL l d s c by have:=H.out.2.2.1;rwa[pZ (Jr _),List.append_nil] at this);go_wp2;go_ret2;exact⟨_,rfl,by rw[←HE.out];exact H.out.1,H.out.2.2.2.1⟩
theorem Ik (l:List Int):(itD l).length≤l.length:=by
 unfold itD;rw[gw,List.length_take];exact Nat.min_le_right _ _
theorem pE {v:List Int} {g:Nat→Nat} (h60:v.length≤60):∀f i,(sgF v g f i).length≤f∧∀k,k<(sgF v g f i).length→(sgp (sgF v g f i) k).length≤60
 |0,i=>⟨Jr _,fun k hk=>absurd hk (by simp[sgF])⟩
 |f+1,i=>by
  obtain⟨h1,h2⟩:=pE (g:=g) h60 f (i+g i);unfold sgF;by_cases hi:i<v.length
  ·rw[if_pos hi];refine⟨by simpa using h1,fun k hk=>?_⟩;cases k with
   |zero=>
    have a:=Ik ((v.drop i).take (g i));rw[List.length_take,List.length_drop] at a
    show(itD ((v.drop i).take (g i))).length≤60
    omega
   |succ k=>exact h2 k (by simpa using hk)
  ·rw[if_neg hi];exact⟨Jy _,fun k hk=>absurd hk (by simp)⟩
theorem oS (l:List Int) (d s c:Int):(chP l d s c).length≤60∧∀k,k<(chP l d s c).length→(sgp (chP l d s c) k).length≤60:=by
 unfold chP
 split
 ·rename_i h
  have h60:l.length≤60:=by
   unfold eu at h;rw[JB,JB,JB] at h;exact(cd.1 h.1.1.1).2.1
  obtain⟨q1,q2⟩:=pE (g:=chN l d s c) h60 (l.length-0) 0;unfold chL sgL;exact⟨by omega,q2⟩
 ·exact⟨Jy _,fun k hk=>absurd hk (by simp)⟩
theorem pk (l:List Int) (d:Int):(grP l d).length≤60∧∀k,k<(grP l d).length→(sgp (grP l d) k).length≤60:=by
 unfold grP
 split
 ·rename_i h
  have h60:l.length≤60:=by
   unfold eA at h;rw[JB] at h;exact(cd.1 h.1).2.1
  obtain⟨q1,q2⟩:=pE (g:=fun i=>lgN (l.drop i) d) h60 (l.length-0) 0;unfold grL sgL;exact⟨by omega,q2⟩
 ·exact⟨Jy _,fun k hk=>absurd hk (by simp)⟩
theorem uG (v:Value) (l:List Int) (d s c:Int) (w:World) (hv:ai w v l):
  Calls prog 94 #[v,.int .i64 d,.int .i64 s,.int .i64 c] w (lf w (chP l d s c) (eu l d s c)):=by
 have HV:=Jj hv;obtain⟨A,cp,rfl,-,-,-⟩:=hv.open_;have HR:=Jj (show Calls prog 171 #[.slice A l.length cp,.int .i64 d,.int .i64 s,.int .i64 c] w (lf w (chP l d s c) (eu l d s c)) by
  cases h:eu l d s c
  ·rw[FW h];exact Ds _ l d s c w hv h
  ·have:chP l d s c=chL l d s c:=by simp[chP,h]
   rw[this];exact AM _ l d s c w hv h)
 clear hv
 go_enter func94,ntmps94
 go_wp2_with fail
 refine HR.out.mono ?_;rintro e w2 ⟨r,rfl,o2,b2⟩;have HO:=Jj o2.read;have HB:=Jj b2;have hpl:(chP l d s c).length≤1000000∧∀k,k<(chP l d s c).length→(sgp (chP l d s c) k).length≤1048576:=by
  obtain⟨q1,q2⟩:=oS l d s c;exact⟨by omega,fun k hk=>by have:=q2 k hk;omega⟩
 have HPL:=Jj hpl;obtain⟨us,A2,c2,-,rfl,-⟩:=HO.out;clear o2 b2 hpl
 go_wp2_with fail
 refine(qp _ _ _ HO.out HPL.out.2 HPL.out.1).mono ?_;rintro e w3 ⟨r3,rfl,o3,b3⟩;have HO3:=Jj (o3.lower (base':=w.heap.size) HB.out.size);have HB3:=Jj (aa HB.out b3);obtain⟨us3,A3,c3,-,rfl,-⟩:=o3.read;clear o3 b3;go_wp2;go_ret2;exact⟨_,rfl,HO3.out,HB3.out⟩
theorem Cl (v:Value) (l:List Int) (t:Nat) (w:World) (hv:ai w v l) (hl:l.length≤1048576) (ht:t≤8):
  Calls prog 265 #[v,.int .i64 t] w (nB w (bc l t)):=by
 have HV:=Jj hv;obtain⟨A,c,rfl,-,-,-⟩:=hv.open_;clear hv
 go_enter func265,ntmps265
 go_wp2_with fail
 refine(mp _ l _ HV.out hl).mono ?_;rintro e w1 ⟨r1,rfl,o1,b1⟩;have HO:=Jj o1;have HB:=Jj b1;clear o1 b1
 go_wp2_with fail
 go_loopw [5,9] (fun s i wr=>∃k:Nat,k≤t∧i=.int .i64 k∧Own wr w.heap.size s (bc l k)∧Below w.heap.size w wr) (fun _ i _=>t-(intOf i).toNat)
 case atStart=>exact⟨0,Jy _,rfl,HO.out,HB.out⟩
 case round=>
  obtain⟨k,hk,rfl,ho,hb⟩:=hrel;have H:=Jj (Jq ho hb);have hz:=hb.size;have hrl:=bj l k;obtain⟨A1,c1,rfl,-,-,-⟩:=ho.ints.open_;have HR:=Jj (show(bc l k).length≤1048576 by omega);clear ho hb hrl;by_cases hlt:k<t
  ·go_wp2_with fail
   refine(ll _ _ _ H.out.1.ints HR.out).mono ?_;rintro e w2 ⟨r,rfl,o2,b2⟩;have HI:=Jj (show Own w2 w.heap.size r (iH (bc l k)) from o2.lower hz);have HB2:=Jj (aa H.out.2 b2);clear o2 b2;go_wp2;go_roundw
   case rel=>exact⟨k+1,hlt,by go_num,HI.out,HB2.out⟩
   case measure=>simp[intOf];omega
  ·obtain rfl:k=t:=by omega
   go_wp2;go_ret;exact⟨_,rfl,H.out.1,H.out.2⟩
theorem yo (o:Nat) (w:World) (ho:o≤7):
  Calls prog 289 #[.int .i64 o,.int .i64 1] w (nB w (gen (cF o) (o+1))):=by
 have hmk:∀W,(Instr.makeSlice 27 (.int .i64 ((o:Int)+1)) (.int .i64 ((o:Int)+1))).run prog W=.ok (.slice (some ⟨W.heap.size,0,none⟩) (o+1) (o+1)) (W.alloc (.cells (bz (o+1) (.int .i64 0)).toArray 3)):=fun W=>by
  have:=Tryz.mkInts (o+1) (by omega) W;rwa[show(((o+1:Nat):Int))=(o:Int)+1 by omega] at this
 go_enter func289,ntmps289
 go_wp2
 go_loopw [12] (fun i wr=>∃(k:Nat) (cs:List Value),k≤o+1∧i=.int .i64 k∧Blk wr w.heap.size 3 cs∧cs.length=o+1∧(∀j,j<k→cs[j]?=some (.int .i64 (cF o j)))∧Below w.heap.size w wr)
  (fun i _=>o+1-(intOf i).toNat)
 case atStart=>exact⟨0,_,Jy _,rfl,Blk.new _ _ _,bi _ _,fun j hj=>absurd hj (by omega),(Below.refl _ _).alloc (Jr _) _⟩
 case round=>
  obtain⟨k,cs,hk,rfl,hblk,hcl,hcs,hbel⟩:=hrel;have H:=Jj (Jq hcl (Jq hcs hbel));have hz:=hbel.size;clear hcs hbel;by_cases hlt:k<o+1
  ·have hck:wr.cell? ⟨w.heap.size,k,none⟩=some (cs[k]'(by omega)):=by rw[hblk.cell];exact List.getElem?_eq_getElem _
   have hfw:=hblk.frozen k;have hkc:k<cs.length:=by omega
   have hub:=lS ho (show k≤o by omega);have p3:(0:Int)≤(k:Int):=by omega
   have p4:(k:Int)<(o:Int)+1:=by omega
   have HCH:=Jj (rh (o:Int) k wr (by omega) (by omega));have HU:=Jj (show cF o k=if k % 2=1 then -(aU (o:Int) k) else aU (o:Int) k from rfl);obtain⟨C,hC⟩:∃C,aU (o:Int) k=C:=⟨_,rfl⟩;have hCb : -35≤C∧C≤35:=by
    have:=HU.out;rw[hC] at this;rw[this] at hub
    split at hub <;> omega
   rw[hC] at HCH HU;clear hub hC;have HB:=Jj hblk
   go_wp2_with fail
   refine HCH.out.mono ?_;rintro e w2 ⟨rfl,rfl⟩;have K1:=hblk.set_ k (.int .i64 C);have c1:(wr.setCell ⟨w.heap.size,k,none⟩ (.int .i64 C)).cell? ⟨w.heap.size,k,none⟩=some (.int .i64 C):=by rw[K1.cell,List.getElem?_set_self hkc]
   have f1:=K1.frozen k;have B1:=Jj (H.out.2.2.setCell (p:=⟨w.heap.size,k,none⟩) (Jr _) (.int .i64 C));by_cases hodd:k % 2=1
   ·have m1:(k:Int) % 2=1:=by omega
    have m2:(k:Int).tmod 2=1:=by rw[show(k:Int).tmod 2=((k % 2:Nat):Int) from rfl,hodd];rfl
    have HUE:=Jj (show cF o k = -C by rw[HU.out,if_pos hodd]);clear hblk;go_wp2;go_roundw
    case rel=>exact⟨k+1,_,by omega,by go_num,K1.set_ k _,by rw[List.length_set,List.length_set];exact H.out.1,by
     intro j hj;by_cases e:j=k
     ·subst e;rw[List.getElem?_set_self (by rw[List.length_set];exact hkc),HUE.out]
     ·rw[List.getElem?_set_ne (by omega),List.getElem?_set_ne (by omega)];exact H.out.2.1 j (by omega),B1.out.setCell (p:=⟨w.heap.size,k,none⟩) (Jr _) _⟩
    case measure=>simp[intOf];omega
   ·have m1:(k:Int) % 2=0:=by omega
    have m2:(k:Int).tmod 2=0:=by rw[show(k:Int).tmod 2=((k % 2:Nat):Int) from rfl,show k % 2=0 by omega];rfl
    have HUE:=Jj (show cF o k=C by rw[HU.out,if_neg hodd]);clear hblk;go_wp2;go_roundw
    case rel=>exact⟨k+1,_,by omega,by go_num,K1,by rw[List.length_set];exact H.out.1,by
     intro j hj;by_cases e:j=k
     ·subst e;rw[List.getElem?_set_self hkc,HUE.out]
     ·rw[List.getElem?_set_ne (by omega)];exact H.out.2.1 j (by omega),B1.out⟩
    case measure=>simp[intOf];omega
  ·obtain rfl:k=o+1:=by omega
   have HI:=Jj (show cs=iv (gen (cF o) (o+1)) from Ii (by rw[ar];exact hcl) (fun j hj=>by rw[ar] at hj;rw[bP hj];exact H.out.2.1 j hj));have HO:=Jj (show Own wr w.heap.size (.slice (some ⟨w.heap.size,0,none⟩) (o+1) (o+1)) (gen (cF o) (o+1)) from by
    have h:=hblk.own (Jr _) hcl (by unfold maxLen;omega);rw[HI.out] at h;refine⟨by rw[ar];exact h,xu (fun j hj=>?_),by rw[ar];unfold maxLen;omega⟩;have:=(lS ho (show j≤o by omega)).2;omega)
   go_wp2;go_ret;exact⟨_,rfl,HO.out,H.out.2.2⟩
def exM (D:List Int) (o p:Nat):Int:=if d9 D o p=true then gR D o p else 0
theorem vF {D:List Int} {o p:Nat} (h:d9 D o p=false):exM D o p=0:=by unfold exM;rw[h];rfl
theorem y8 {D:List Int} {o p:Nat} (h:d9 D o p=true):exM D o p=gR D o p:=by unfold exM;rw[h];rfl
theorem Cr (v:Value) (D:List Int) (o p:Nat) (w:World) (hv:ai w v D) (hb:BdD D) (ho:1≤o∧o≤7) (h1:1≤D.length) (hp:p<D.length+o) (h60:D.length≤60):
  Calls prog 266 #[v,.int .i64 o,.int .i64 p] w fun e w'=>e=.returned (.tuple #[.int .i64 (exM D o p),.bool (d9 D o p)])∧Below w.heap.size w w':=by
 have HV:=Jj hv;have HBD:=Jj hb;obtain⟨A,c,rfl,hlc,hc,hrd⟩:=hv.open_;obtain⟨b,q,rfl,hbb,hcell⟩:=hrd.ints (by omega);have HC:=Jj hcell;clear hv hrd hcell hb
 go_enter func266,ntmps266
 go_wp2_with fail
 refine(yo o _ ho.2).mono ?_;rintro e w1 ⟨r,rfl,o1,b1⟩;have HO:=Jj o1;have HB:=Jj b1;obtain⟨g,cap,cs,e1,hg,hblk,hle,hcap,hcl,hcs⟩:=o1.form.resolve_left (by rintro⟨-,h⟩;exact absurd (congrArg List.length h) (by rw[ar];simp));rw[ar] at e1 hle hcs;subst e1;have HP:=Jj (show ∀k,k<o+1→w1.cell? ⟨g,k,none⟩=some (.int .i64 (cF o k)) from fun k hk=>by rw[hblk.cell,hcs k hk,bP hk]);clear o1 b1 hblk hcs hcl cs;have hT:=BO HBD.out (p-o);have x1:w1.cell? ⟨b,q+(p-o),none⟩=some (.int .i64 (at_ D (p-o))):=(HB.out.cell hbb).trans (HC.out (p-o) (by omega));have x2:w1.cell? ⟨g,o-p,none⟩=some (.int .i64 (cF o (o-p))):=HP.out (o-p) (by omega);have hu:=lS ho.2 (show o-p≤o by omega);have HAM:=Jj (show gR D o p=(at_ D (p-o)).tdiv (cF o (o-p)) from rfl);have hab:=uX HBD.out o p;have HEB:=Jj (fun j=>H9 HBD.out ho.2 p j hab);have HEX:=Jj (qJ (D:=D) (o:=o) (p:=p));obtain⟨f,hf⟩:∃f:Nat,p-o=f:=⟨_,rfl⟩;obtain⟨u,hu2⟩:∃u:Nat,o-p=u:=⟨_,rfl⟩;obtain⟨T,hT2⟩:∃T,at_ D (p-o)=T:=⟨_,rfl⟩;obtain⟨U,hU⟩:∃U,cF o (o-p)=U:=⟨_,rfl⟩;obtain⟨a,ha⟩:∃a,gR D o p=a:=⟨_,rfl⟩;obtain⟨F,hF⟩:∃F:Int,(p:Int)-(o:Int)=F:=⟨_,rfl⟩;have hFf:(F.toNat=f∧(-F).toNat=u)∧f<D.length∧u≤o:=by omega
 have HF:=Jj hF;rw[hT2] at x1 hT HAM;rw[hU] at x2 hu HAM;rw[hf] at x1;rw[hu2] at x2;rw[ha] at HAM hab HEB HEX;have HA:=Jj ha;rw[←hFf.1.1] at x1;rw[←hFf.1.2] at x2;clear hf hu2 hT2 hU ha;have hFi:F<(D.length:Int) ∧ -F<(o:Int)+1:=by omega
 have HFf:=Jj hFf;clear hFf;have p5:¬U=0:=hu.1;have p6:(U==0)=false:=by simp[hu.1]
 have p7:T.tdiv U=a:=HAM.out.symm;by_cases hpo:0<F
 case' pos=>
  have p1:(0:Int)≤F:=by omega
  have p2:F<(D.length:Int):=by omega
  have p4:(0:Int)<(o:Int)+1:=by omega
  rw[show(-F).toNat=0 by omega] at x2
  go_wp2_with fail
  go_quiet (fail)
 case' neg=>
  have p2:(0:Int)<(D.length:Int):=by omega
  have p3:(0:Int) ≤ -F:=by omega
  have p4 : -F<(o:Int)+1:=by omega
  have p8:0<D.length:=by omega
  rw[show F.toNat=0 by omega,Nat.add_zero] at x1
  go_wp2_with fail
  go_quiet (fail)
 all_goals
  clear x1 x2 p2 p4 p5 p6 p7 hT hu HAM;go_wp2
  go_loopw [36] (fun i wr=>∃j:Nat,j≤D.length∧i=.int .i64 j∧(∀k,k<j→kq o p a k=at_ D k)∧Below w1.heap.size w1 wr) (fun i _=>D.length-(intOf i).toNat)
  case atStart=>exact⟨0,Jy _,rfl,fun k hk=>absurd hk (by omega),aV (Below.refl _ _) _⟩
  case round=>
   obtain⟨j,hj,rfl,hall,hbl⟩:=hrel;have H:=Jj (Jq hall hbl);clear hall hbl;by_cases hlt:j<D.length
   ·have hck:=(H.out.2.cell (Jw hbb HB.out.size)).trans ((HB.out.cell hbb).trans (HC.out j hlt));have hXb:=HBD.out j hlt;have hEb:=HEB.out j;have HBAD:=Jj (show kq o p a j≠at_ D j→d9 D o p=false from fun hne=>by
     rw[Bool.eq_false_iff];intro h;exact hne (HEX.out.1 h j hlt))
    have HGOOD:=Jj (fun h:kq o p a j=at_ D j=>cS (q:=fun k=>kq o p a k=at_ D k) H.out.1 h);have HE:=Jj (show kq o p a j=if p≤j+o∧j≤p then a*cF o (j+o-p) else 0 from rfl);obtain⟨E,hE⟩:∃E,kq o p a j=E:=⟨_,rfl⟩;obtain⟨X,hX⟩:∃X,at_ D j=X:=⟨_,rfl⟩;rw[hE] at hEb HBAD HGOOD HE;rw[hX] at hck hXb HBAD HGOOD;clear hE hX;by_cases hin:p≤j+o∧j≤p
    ·have tk:True:=trivial;have t1:(0:Int)≤(j:Int)-F:=by omega
     have t1':F≤(j:Int):=by omega
     have t2:(j:Int)-F≤(o:Int):=by omega
     have t3:(j:Int)-F<(o:Int)+1:=by omega
     have hu:=H.out.2.cell (p:=⟨g,j+o-p,none⟩) (by have:=(HO.out.lt g rfl).2;exact this);rw[HP.out (j+o-p) (by omega),show j+o-p=((j:Int)-F).toNat by omega] at hu;have hv:=HE.out;rw[if_pos hin,show j+o-p=((j:Int)-F).toNat by omega] at hv;obtain⟨V,hV⟩:∃V,cF o ((j:Int)-F).toNat=V:=⟨_,rfl⟩;rw[hV] at hu hv;have t4:a*V=E:=hv.symm;clear hV hv;by_cases hne:E=X
     ·have HG:=Jj (HGOOD.out hne);have z1:(E != X)=false:=by simp[hne]
      clear hne;go_wp2;go_roundw
      case rel=>exact⟨j+1,hlt,by go_num,HG.out,H.out.2⟩
      case measure=>simp[intOf];omega
     ·have HG:=Jj (HBAD.out hne);have z1:(E != X)=true:=by simp[hne]
      clear hne;go_wp2;go_ret2;exact⟨by rw[vF HG.out,HG.out];rfl,HB.out.trans (H.out.2.mono HB.out.size)⟩
    ·have tk:True:=trivial;have hv:E=0:=by rw[HE.out,if_neg hin]
     subst hv;by_cases hlow:(j:Int)-F<0
     ·have t1:¬(0:Int)≤(j:Int)-F:=by omega
      have t1':¬F≤(j:Int):=by omega
      by_cases hne:(0:Int)=X
      ·have HG:=Jj (HGOOD.out hne);have z1:((0:Int) != X)=false:=by simp[←hne]
       clear hne;go_wp2;go_roundw
       case rel=>exact⟨j+1,hlt,by go_num,HG.out,H.out.2⟩
       case measure=>simp[intOf];omega
      ·have HG:=Jj (HBAD.out hne);have z1:((0:Int) != X)=true:=by simp[hne]
       clear hne;go_wp2;go_ret2;exact⟨by rw[vF HG.out,HG.out];rfl,HB.out.trans (H.out.2.mono HB.out.size)⟩
     ·have t1:(0:Int)≤(j:Int)-F:=by omega
      have t1':F≤(j:Int):=by omega
      have t2:¬(j:Int)-F≤(o:Int):=by omega
      by_cases hne:(0:Int)=X
      ·have HG:=Jj (HGOOD.out hne);have z1:((0:Int) != X)=false:=by simp[←hne]
       clear hne;go_wp2;go_roundw
       case rel=>exact⟨j+1,hlt,by go_num,HG.out,H.out.2⟩
       case measure=>simp[intOf];omega
      ·have HG:=Jj (HBAD.out hne);have z1:((0:Int) != X)=true:=by simp[hne]
       clear hne;go_wp2;go_ret2;exact⟨by rw[vF HG.out,HG.out];rfl,HB.out.trans (H.out.2.mono HB.out.size)⟩
   ·obtain rfl:j=D.length:=by omega
    have HG:=Jj (show d9 D o p=true from HEX.out.2 H.out.1);go_wp2;go_ret2;exact⟨by rw[y8 HG.out,HG.out,HA.out];rfl,HB.out.trans (H.out.2.mono HB.out.size)⟩
def FdE (l:List Int) (d:Int) (e:Ending):Prop:=e=.returned (.tuple #[.int .i64 (fdA l d),.int .i64 (fdM l d),.int .i64 (fdC l d)])
theorem FdE.of {l:List Int} {d a m c:Int} (h:fdC l d=c∧fdA l d=a∧fdM l d=m):FdE l d (.returned (.tuple #[.int .i64 a,.int .i64 m,.int .i64 c])):=by
 obtain⟨h1,h2,h3⟩:=h;unfold FdE;rw[h1,h2,h3]
theorem pn (v:Value) (l:List Int) (d:Int) (w:World) (hv:ai w v l) (hd : -9223372036854775808≤d∧d≤9223372036854775807):
  Calls prog 208 #[v,.int .i64 d] w fun e w'=>FdE l d e∧Below w.heap.size w w':=by
 have HV:=Jj hv;obtain⟨A,c,rfl,hlc,hc,-⟩:=hv.open_;clear hv
 go_enter func208,ntmps208
 cases ht:ag l
 ·have HN:=Jj (FdE.of (kt (l:=l) (d:=d) (by unfold fdV;rw[ht];rfl)))
  go_wp2_with (first
   |(go_at_call 115;refine(aF _ _ _ HV.out).mono ?_;rw[ht];rintro e w' ⟨rfl,rfl⟩))
  refine bodyPost_ret (v:=.tuple #[.int .i64 0,.int .i64 0,.int .i64 3]) (by simp[results,results208,go_sem]) rfl ⟨HN.out,Below.refl _ _⟩
 ·cases hdg:inB d 0 6
  ·have HN:=Jj (FdE.of (kt (l:=l) (d:=d) (by unfold fdV;rw[ht,hdg];rfl)))
   go_wp2_with (first
    |(go_at_call 115;refine(aF _ _ _ HV.out).mono ?_;rw[ht];rintro e w' ⟨rfl,rfl⟩)
    |(go_at_call 214;refine(dq _ _).mono ?_;rw[hdg];rintro e w' ⟨rfl,rfl⟩))
   refine bodyPost_ret (v:=.tuple #[.int .i64 0,.int .i64 0,.int .i64 3]) (by simp[results,results208,go_sem]) rfl ⟨HN.out,Below.refl _ _⟩
  ·have hd':=am.1 hdg;by_cases h3:(l.length:Int)<d+3
   ·have HN:=Jj (FdE.of (kt (l:=l) (d:=d) (by
     unfold fdV;rw[ht,hdg,decide_eq_false (by omega)]
     rfl)))
    go_wp2_with (first
     |(go_at_call 115;refine(aF _ _ _ HV.out).mono ?_;rw[ht];rintro e w' ⟨rfl,rfl⟩)
     |(go_at_call 214;refine(dq _ _).mono ?_;rw[hdg];rintro e w' ⟨rfl,rfl⟩))
    refine bodyPost_ret (v:=.tuple #[.int .i64 0,.int .i64 0,.int .i64 3]) (by simp[results,results208,go_sem]) rfl ⟨HN.out,Below.refl _ _⟩
   ·have HVV:=Jj (show fdV l d=true by unfold fdV;rw[ht,hdg,decide_eq_true (by omega)];rfl);have HT:=Jj ht;obtain⟨t1,t60,-⟩:=aA ht;obtain⟨o,rfl⟩:∃o:Nat,d=o:=⟨d.toNat,by omega⟩;have HDD:=Jj (show fdD l (o:Int)=bc l (o+1) from rfl);have HOO:=Jj (show((o:Int)+1).toNat=o+1 by omega);have hrl:=bj l (o+1);have HLB:=Jj (sJ (l:=l) ht (o:=o+1) (by omega));have HDF:=Jj (show ∀w v,ai w v l→Calls prog 265 #[v,.int .i64 ((o:Int)+1)] w (nB w (bc l (o+1))) from fun w v h=>by
     have:=Cl v l (o+1) w h (by omega) (by omega);rwa[show((o+1:Nat):Int)=(o:Int)+1 by omega] at this)
    obtain⟨D,hD⟩:∃D,bc l (o+1)=D:=⟨_,rfl⟩;rw[hD] at hrl HLB HDF HDD;have HER:=Jj (show ∀w v (p:Nat),ai w v D→p<l.length→Calls prog 266 #[v,.int .i64 ((o:Int)+1),.int .i64 p] w fun e w'=>e=.returned (.tuple #[.int .i64 (exM D (o+1) p),.bool (d9 D (o+1) p)])∧Below w.heap.size w w' from fun w v p h hp=>by
     have:=Cr v D (o+1) p w h HLB.out (by omega) (by omega) (by omega) (by omega);rwa[show((o+1:Nat):Int)=(o:Int)+1 by omega] at this)
    clear hD hrl;clear hd
    go_wp2_with (first
     |(go_at_call 115;refine(aF _ _ _ HV.out).mono ?_;rw[ht];rintro e w' ⟨rfl,rfl⟩)
     |(go_at_call 214;refine(dq _ _).mono ?_;rw[hdg];rintro e w' ⟨rfl,rfl⟩))
    refine(HDF.out _ _ HV.out).mono ?_;rintro e w2 ⟨r,rfl,o2,b2⟩;have HO:=Jj o2.ints;have HB:=Jj b2;obtain⟨A2,c2,rfl,-,-,-⟩:=o2.ints.open_;clear o2 b2;cases hz:ci D
    ·have HZ:=Jj hz
     go_wp2_with fail
     refine(jJ _ _ _ HO.out).mono ?_;rw[hz];rintro e w3 ⟨rfl,rfl⟩;go_wp2
     go_loopw [34] (fun i wr=>∃k:Nat,k≤l.length∧i=.int .i64 k∧(∀q,q<k→d9 D (o+1) q=false)∧Below w.heap.size w wr∧Below w2.heap.size w2 wr) (fun i _=>l.length-(intOf i).toNat)
     case atStart=>exact⟨0,Jy _,rfl,fun q hq=>absurd hq (by omega),HB.out,Below.refl _ _⟩
     case round=>
      obtain⟨k,hk,rfl,hall,hbl,hbl2⟩:=hrel;have H:=Jj (Jq hall (Jq hbl hbl2));clear hall hbl hbl2 hz;by_cases hlt:k<l.length
      ·go_wp2_with fail
       refine(HER.out _ _ k (HO.out.bel H.out.2.2) hlt).mono ?_;rintro e w4 ⟨rfl,b4⟩;have HB4:=Jj (aa H.out.2.1 b4);have HB5:=Jj (aa H.out.2.2 b4);clear b4;cases hx:d9 D (o+1) k
       ·have HALL:=Jj (cS (q:=fun q=>d9 D (o+1) q=false) H.out.1 hx);clear hx;go_wp2;go_roundw
        case rel=>exact⟨k+1,hlt,by go_num,HALL.out,HB4.out,HB5.out⟩
        case measure=>simp[intOf];omega
       ·have HF:=Jj (FdE.of (show fdC l (o:Int)=1∧fdA l (o:Int)=(k:Int)∧fdM l (o:Int)=exM D (o+1) k from by
         rw[y8 hx];have:=CC (l:=l) (d:=(o:Int)) (p:=k) HVV.out (by rw[HDD.out];exact HZ.out) hlt (by rw[HDD.out,HOO.out];exact H.out.1) (by rw[HDD.out,HOO.out];exact hx);rwa[HDD.out,HOO.out] at this))
        obtain⟨m,hm⟩:∃m,exM D (o+1) k=m:=⟨_,rfl⟩;rw[hm] at HF ⊢;clear hx hm;go_wp2;refine bodyPost_ret (v:=.tuple #[.int .i64 k,.int .i64 m,.int .i64 1]) (by simp[results,results208,go_sem]) rfl ⟨HF.out,HB4.out⟩
      ·obtain rfl:k=l.length:=by omega
       have HF:=Jj (FdE.of (za (l:=l) (d:=(o:Int)) HVV.out (by rw[HDD.out];exact HZ.out) (by rw[HDD.out,HOO.out];exact H.out.1)));go_wp2;refine bodyPost_ret (v:=.tuple #[.int .i64 0,.int .i64 0,.int .i64 2]) (by simp[results,results208,go_sem]) rfl ⟨HF.out,H.out.2.1⟩
    ·have HF:=Jj (FdE.of (vH (l:=l) (d:=(o:Int)) HVV.out (by rw[HDD.out];exact hz)))
     go_wp2_with fail
     refine(jJ _ _ _ HO.out).mono ?_;rw[hz];rintro e w3 ⟨rfl,rfl⟩;go_wp2;refine bodyPost_ret (v:=.tuple #[.int .i64 0,.int .i64 0,.int .i64 0]) (by simp[results,results208,go_sem]) rfl ⟨HF.out,HB.out⟩
theorem Hw {l:List Int} {d:Int} (h:fdC l d=2∨fdC l d=3):eN l d=false∧crL l d=[]:=by
 rcases h with h|h
 ·exact⟨by unfold eN;rw[h];rfl,by unfold crL;rw[h];rfl⟩
 ·exact⟨by unfold eN;rw[h];rfl,by unfold crL;rw[h];rfl⟩
theorem Et {l:List Int} {d:Int} (h:fdC l d=0):eN l d=true∧crL l d=l:=⟨by unfold eN;rw[h];rfl,by unfold crL;rw[h];rfl⟩
theorem Hx {l:List Int} {d:Int} (h:fdC l d=1):eN l d=true∧crL l d=l.set (ga l d) (at_ l (ga l d)-fdM l d):=⟨by unfold eN;rw[h];rfl,by unfold crL;rw[h];rfl⟩
theorem GE {l:List Int} {d:Int} (h:fdC l d=1):fdA l d=(ga l d:Int):=by unfold fdA;rw[if_pos h]
theorem y9 {l:List Int} {d:Int} (h:fdC l d≠1):fdA l d=0∧fdM l d=0:=⟨by unfold fdA;rw[if_neg h],by unfold fdM;rw[if_neg h]⟩
theorem EP {l:List Int} {d:Int} (h:fdC l d≠3):fdV l d=true:=by
 cases hv:fdV l d with
 |true=>rfl
 |false=>exact absurd (kt hv).1 h
theorem vO (v:Value) (l:List Int) (d:Int) (w:World) (hv:ai w v l) (hd : -9223372036854775808≤d∧d≤9223372036854775807):
  Calls prog 126 #[v,.int .i64 d] w (cK w (crL l d) (eN l d)):=by
 have HV:=Jj hv;obtain⟨A,c,rfl,hlc,hc,-⟩:=hv.open_;have HF:=Jj (pn _ l d w hv hd);have HT:=Jj (fun h=>(aA (lU (EP (l:=l) (d:=d) h)).1));have HM:=Jj (ph l d);clear hv hd
 go_enter func126,ntmps126
 rcases mt l d with hq|hq|hq|hq
 ·have HN:=Jj (Et hq);have hl:=(HT.out (by rw[hq];decide)).2.1;have HA:=Jj (y9 (l:=l) (d:=d) (by rw[hq];decide))
  go_wp2_with fail
  refine HF.out.mono ?_;unfold FdE;rw[hq,HA.out.1,HA.out.2];rintro e w1 ⟨rfl,b1⟩;have HB:=Jj b1;clear b1
  go_wp2_with fail
  refine(mp _ l _ (HV.out.bel HB.out) (by omega)).mono ?_;rintro e w2 ⟨r,rfl,o2,b2⟩;have HO:=Jj (o2.lower HB.out.size);have HB2:=Jj (aa HB.out b2);clear o2 b2;go_wp2;go_ret2;exact⟨_,by rw[HN.out.1];rfl,by rw[HN.out.2];exact HO.out,HB2.out⟩
 ·have HN:=Jj (Hx hq);have hlt:=(ks hq).1;have ht:=HT.out (by rw[hq];decide);have hl:=ht.2.1;have hX:=ht.2.2 _ hlt;have HA:=Jj (GE hq);have hm:=HM.out;obtain⟨k,hk⟩:∃k,ga l d=k:=⟨_,rfl⟩;obtain⟨M,hM⟩:∃M,fdM l d=M:=⟨_,rfl⟩;rw[hk] at HA hlt hX;rw[hk,hM] at HN;rw[hM] at hm
  go_wp2_with fail
  refine HF.out.mono ?_;unfold FdE;rw[hq,HA.out,hM];rintro e w1 ⟨rfl,b1⟩;have HB:=Jj b1;clear b1 hM hk hq ht
  go_wp2_with fail
  refine(mp _ l _ (HV.out.bel HB.out) (by omega)).mono ?_;rintro e w2 ⟨r,rfl,o2,b2⟩;obtain⟨g,cap,rfl,hg1,hg2,-,-,hcell⟩:=o2.openN (by omega);obtain⟨x1,x2⟩:=hcell k hlt;have HO:=Jj (o2.lower HB.out.size);have HB2:=Jj (aa HB.out b2);have hg3:w.heap.size≤g:=Js HB.out.size hg1;clear o2 b2 hcell;have HS:=Jj (HO.out.set_ k (at_ l k-M) hlt (by omega));have HB3:=Jj (HB2.out.setCell (p:=⟨g,k,none⟩) hg3 (.int .i64 (at_ l k-M)));obtain⟨X,hXX⟩:∃X,at_ l k=X:=⟨_,rfl⟩;rw[hXX] at x1 hX HS HB3 HN;clear hXX;go_wp2;go_ret2;exact⟨_,by rw[HN.out.1];rfl,by rw[HN.out.2];first|exact HS.out|(have:=HS.out;rw[List.length_set] at this;exact this),HB3.out⟩
 all_goals
  have HN:=Jj (Hw (l:=l) (d:=d) (by first|exact .inl hq|exact .inr hq));have HA:=Jj (y9 (l:=l) (d:=d) (by rw[hq];decide))
  go_wp2_with fail
  refine HF.out.mono ?_;unfold FdE;rw[hq,HA.out.1,HA.out.2];rintro e w1 ⟨rfl,b1⟩;have HB:=Jj b1;clear b1;go_wp2;go_ret2;exact⟨_,by rw[HN.out.1];rfl,by rw[HN.out.2];exact Own.nil_ _ _,HB.out⟩
def FT (w:World) (l:List Int) (e:Ending) (w':World):Prop:=∃r,e=.returned r∧ai w' r l∧Below w.heap.size w w'
theorem CQ (v:Value) (l:List Int) (t:Nat) (w:World) (hv:ai w v l) (hl:l.length≤1048576) (ht:t≤8):
  Calls prog 234 #[v,.int .i64 t] w (FT w (bc l t)):=by
 have HV:=Jj hv;obtain⟨A,c,rfl,-,-,-⟩:=hv.open_;clear hv
 go_enter func234,ntmps234
 go_wp2
 go_loopw [5,6] (fun s i wr=>∃k:Nat,k≤t∧i=.int .i64 k∧ai wr s (bc l k)∧Below w.heap.size w wr) (fun _ i _=>t-(intOf i).toNat)
 case atStart=>exact⟨0,Jy _,rfl,HV.out,Below.refl _ _⟩
 case round=>
  obtain⟨k,hk,rfl,ho,hb⟩:=hrel;have H:=Jj (Jq ho hb);have hrl:=bj l k;obtain⟨A1,c1,rfl,-,-,-⟩:=ho.open_;have HR:=Jj (show(bc l k).length≤1048576 by omega);clear ho hb hrl;by_cases hlt:k<t
  ·go_wp2_with fail
   refine(nV _ _ _ H.out.1 HR.out).mono ?_;rintro e w2 ⟨r,rfl,o2,b2⟩;have HI:=Jj (show ai w2 r (iH (bc l k)) from o2.ints);have HB2:=Jj (aa H.out.2 b2);clear o2 b2;go_wp2;go_roundw
   case rel=>exact⟨k+1,hlt,by go_num,HI.out,HB2.out⟩
   case measure=>simp[intOf];omega
  ·obtain rfl:k=t:=by omega
   go_wp2;go_ret;exact⟨_,rfl,H.out.1,H.out.2⟩
theorem lX (d:Int) (w:World):
  Calls prog 233 #[.int .i64 d] w fun e w'=>e=.returned (.bool (inB d 0 6))∧w=w':=by
 go_enter func233,ntmps233
 go_wp2_with fail
 refine(aL _ _ _ _).mono ?_;rintro e w' ⟨rfl,rfl⟩;go_wp2;go_ret;exact⟨rfl,rfl⟩
theorem ai.none0 (w:World) (A:Option Addr) (c:Nat) (hc:c≤9223372036854775807):ai w (.slice A 0 c) []:=
 ⟨⟨A,c,rfl,Jy _,by unfold maxLen;omega,fun h=>absurd h (by simp[iv])⟩,fun x hx=>by cases hx⟩
theorem yq (v:Value) (l:List Int) (d:Int) (w:World) (hv:ai w v l) (h:eA l d=false):
  Calls prog 168 #[v,.int .i64 d] w (lf w [] false):=by
 have HV:=Jj hv;have HN:=Jj h;obtain⟨A,cp,rfl,-,-,-⟩:=hv.open_;have OE:=Jj (bZ.empty w w.heap.size (Jr _));have BE:=Jj (ab w (.cells #[] 159));clear hv h
 go_enter func168,ntmps168
 cases h1:cI l
 ·go_wp2_with (go_at_call 237;refine(el _ _ _ (HV.out.bel BE.out)).mono ?_;rw[h1];rintro e w' ⟨rfl,rfl⟩)
  go_ret2;exact⟨_,rfl,OE.out,BE.out⟩
 ·have h2:inB d 0 6=false:=by
   have:=HN.out;simp only[eA,h1,Bool.true_and] at this;exact this
  go_wp2_with (first
   |(go_at_call 237;refine(el _ _ _ (HV.out.bel BE.out)).mono ?_;rw[h1];rintro e w' ⟨rfl,rfl⟩)
   |(go_at_call 233;refine(kT _ _).mono ?_;rw[h2];rintro e w' ⟨rfl,rfl⟩))
  go_ret2;exact⟨_,rfl,OE.out,BE.out⟩
theorem wJ (v:Value) (l:List Int) (d:Int) (w:World) (hv:ai w v l) (h:eA l d=true):
  Calls prog 168 #[v,.int .i64 d] w (lf w (grL l d) true):=by
 have HV:=Jj hv;obtain⟨A,cp,rfl,hlc,hc,hrd⟩:=hv.open_;unfold eA at h;rw[JB] at h;obtain⟨h1,h2⟩:=h;obtain⟨l1,l60,-⟩:=cd.1 h1;have d':=am.1 h2;have HS:=Jj h1;have HD:=Jj h2;have HP:=Jj (show ∀i,i<l.length→1≤lgN (l.drop i) d from fun i hi=>nr (fY h1 hi) d'.1 d'.2);have OE:=Jj (bZ.empty w w.heap.size (Jr _));have BE:=Jj (ab w (.cells #[] 159));clear hv hrd h1 h2
 go_enter func168,ntmps168
 go_wp2_with (first
  |(go_at_call 237;refine(el _ _ _ (HV.out.bel BE.out)).mono ?_;rw[HS.out];rintro e w' ⟨rfl,rfl⟩)
  |(go_at_call 233;refine(kT _ _).mono ?_;rw[HD.out];rintro e w' ⟨rfl,rfl⟩))
 go_loopw [0,6] (fun vv s wr=>∃(i:Nat) (ps:List (Nat×List Int)),i≤l.length∧ai w vv (l.drop i)∧bZ wr w.heap.size s ps∧ps.length≤i∧ps++sgL l (fun i=>lgN (l.drop i) d) i=grL l d∧Below w.heap.size w wr) (fun vv _ _=>pG vv)
 case atStart=>exact⟨0,[],Jy _,HV.out,OE.out,Jr _,rfl,BE.out⟩
 case round=>
  obtain⟨i,ps,hi,hvv,ho,hp,he,hb⟩:=hrel;have H:=Jj (Jq hvv (Jq ho (Jq hp (Jq he hb))));obtain⟨A1,c1,rfl,hlc1,hcm1,hrd1⟩:=hvv.open_;have hdl:(l.drop i).length=l.length-i:=List.length_drop;clear hvv ho hp he hb;by_cases hlt:i<l.length
  ·have h1:=HP.out i hlt;have h2:=jP (l.drop i) d;rw[hdl] at h2 hlc1;have HE:=Jj (rV HP.out hlt);have HRn:=Jj (np (l:=l.drop i) (d:=d) h1 (Jr _));have HDL:=Jj hdl;obtain⟨b,o,rfl,hbb,hcell⟩:=hrd1.ints (by rw[hdl];omega);have HAP:=Jj H.out.1;obtain⟨L,hL⟩:∃L,l.drop i=L:=⟨_,rfl⟩;have HL:=Jj hL;rw[hL] at HAP HE HRn h1 h2 hdl ⊢;have HVL:=Jj (HAP.out.bel H.out.2.2.2.2);have hlL:L.length≤c1:=by omega
   have hL60:L.length≤60:=by omega
   have hLl:=Jj hdl;have hiL:i+L.length≤l.length:=by omega
   have HPL:=Jj hiL;clear hcell hrd1 hL hlc1 hdl hiL;obtain⟨n,hn⟩:∃n,lgN L d=n:=⟨_,rfl⟩;have HNn:=Jj hn;rw[hn] at HE HRn h1;have hnL:n≤L.length:=by have:=jP L d;omega
   clear hn h2;have hpos:(0:Int)<(L.length:Int):=by omega
   have hn0:(0:Int)≤(n:Int):=by omega
   have hnc:(n:Int)≤(c1:Int):=by omega
   have hnc2:n≤c1:=by omega
   have hnLi:(n:Int)≤(L.length:Int):=by omega
   go_wp2_with fail
   refine(pJ _ L d _ HVL.out (by omega)).mono ?_;rw[HNn.out];rintro e w2 ⟨rfl,b2⟩;have HB2:=Jj (aa H.out.2.2.2.2 b2);have HO2:=Jj (H.out.2.1.bel b2);have HT:=Jj (show ai w2 (.slice (some ⟨b,o,none⟩) n c1) (L.take n) from ai.takeN (HVL.out.bel b2) hnL);have htl:(L.take n).length≤1048576:=by rw[List.length_take];omega
   have HTL:=Jj htl;clear b2 htl
   go_wp2_with fail
   refine(jY _ (L.take n) d _ HT.out HTL.out).mono ?_;rintro e w3 ⟨r,rfl,o3,b3⟩;have hrn:rnL (L.take n) d=itD (L.take n):=by unfold rnL;rw[if_pos HRn.out]
   rw[hrn] at o3;obtain⟨X,hX⟩:∃X,itD (L.take n)=X:=⟨_,rfl⟩;rw[hX] at o3 HE;obtain⟨q9,hq9⟩:∃q,bN (L.take n) d=q:=⟨_,rfl⟩;rw[hq9];clear hX hrn hq9;obtain⟨A3,c3,rfl,-,-,-⟩:=o3.ints.open_;have HB3:=Jj (aa HB2.out b3);have HO3:=Jj (HO2.out.bel b3);have HX:=Jj o3;clear o3 b3;have BX:=Jj (show Below w3.heap.size w3 (w3.alloc (.cells #[.int .i64 n,.slice A3 X.length c3] 159)) from ab w3 _);have hlp:ps.length+1≤1048576:=by have:=H.out.2.2.1;omega
   have hps:(ps++[(n,X)]).length≤i+n:=by rw[Jv];have:=H.out.2.2.1;simp;omega
   have HPS:=Jj hps;have HEQ:=Jj (show(ps++[(n,X)])++sgL l (fun i=>lgN (l.drop i) d) (i+n)=grL l d by have:=H.out.2.2.2.1;rw[HE.out] at this;rw[←this];simp);have HDD:=Jj (show L.drop n=l.drop (i+n) by rw[←HL.out,List.drop_drop]);clear hps;by_cases hcn:c1=n
   ·have hLn:L.length=n:=by omega
    have HIN:=Jj (fun A c (hc:c≤9223372036854775807)=>(by rw[←HDD.out,List.drop_eq_nil_of_le (by omega)];exact ai.none0 w A c hc:ai w (.slice A 0 c) (l.drop (i+n))));have HMS:=Jj (show 0<L.length by omega);subst hcn;rw[hLn];clear hLn
    go_wp2_with (at_builtin;go_must (refine lO rfl (.tmp 34) (.tmp 38) (by rfl) w.heap.size _ ps (by rfl) (by exact HO3.out.bel BX.out) _ _ c1 X (.slice A3 X.length c3) (by rfl) (by exact Blk.newG _ _ [.int .i64 c1,.slice A3 X.length c3] _ (by simp)) (by exact(HX.out.lower (Jy _)).bel BX.out) hlp (by have:=HB3.out.size;have:=BX.out.size;omega) ?_;intro v4 w4 ho4 hg4 hat4))
    have HB4:=Jj (kb (w0:=w) (aa HB3.out BX.out) (HO3.out.bel BX.out) hg4);go_roundw
    case rel=>exact⟨i+c1,ps++[(c1,X)],by have:=HPL.out;omega,HIN.out _ _ (by omega),ho4,HPS.out,HEQ.out,HB4.out⟩
    case measure=>simp[pG];omega
   ·have hcn2:¬c1=n:=hcn;have HIN:=Jj (show ai w (.slice (some ⟨b,o+n,none⟩) (L.length-n) (c1-n)) (l.drop (i+n)) by rw[←HDD.out];exact HAP.out.dropN hnL)
    go_wp2_with (at_builtin;go_must (refine lO rfl (.tmp 34) (.tmp 38) (by rfl) w.heap.size _ ps (by rfl) (by exact HO3.out.bel BX.out) _ _ n X (.slice A3 X.length c3) (by rfl) (by exact Blk.newG _ _ [.int .i64 n,.slice A3 X.length c3] _ (by simp)) (by exact(HX.out.lower (Jy _)).bel BX.out) hlp (by have:=HB3.out.size;have:=BX.out.size;omega) ?_;intro v4 w4 ho4 hg4 hat4))
    have HB4:=Jj (kb (w0:=w) (aa HB3.out BX.out) (HO3.out.bel BX.out) hg4);go_roundw
    case rel=>exact⟨i+n,ps++[(n,X)],by have:=HPL.out;omega,HIN.out,ho4,HPS.out,HEQ.out,HB4.out⟩
    case measure=>simp[pG];omega
  ·obtain rfl:i=l.length:=by omega
   have hz:(l.drop l.length).length=0:=by simp
   have HE:=Jj (show ps=grL l d by have:=H.out.2.2.2.1;rwa[pZ (Jr _),List.append_nil] at this);rw[hz];go_wp2;go_ret2;exact⟨_,rfl,by rw[←HE.out];exact H.out.2.1,H.out.2.2.2.2⟩
theorem sc (v:Value) (l:List Int) (d:Int) (w:World) (hv:ai w v l):
  Calls prog 92 #[v,.int .i64 d] w (lf w (grP l d) (eA l d)):=by
 have HV:=Jj hv;obtain⟨A,cp,rfl,-,-,-⟩:=hv.open_;have HR:=Jj (show Calls prog 168 #[.slice A l.length cp,.int .i64 d] w (lf w (grP l d) (eA l d)) by
  cases h:eA l d
  ·have:grP l d=[]:=by simp[grP,h]
   rw[this];exact yq _ l d w hv h
  ·have:grP l d=grL l d:=by simp[grP,h]
   rw[this];exact wJ _ l d w hv h)
 clear hv
 go_enter func92,ntmps92
 go_wp2_with fail
 refine HR.out.mono ?_;rintro e w2 ⟨r,rfl,o2,b2⟩;have HO:=Jj o2.read;have HB:=Jj b2;have hpl:(grP l d).length≤1000000∧∀k,k<(grP l d).length→(sgp (grP l d) k).length≤1048576:=by
  obtain⟨q1,q2⟩:=pk l d;exact⟨by omega,fun k hk=>by have:=q2 k hk;omega⟩
 have HPL:=Jj hpl;obtain⟨us,A2,c2,-,rfl,-⟩:=HO.out;clear o2 b2 hpl
 go_wp2_with fail
 refine(qp _ _ _ HO.out HPL.out.2 HPL.out.1).mono ?_;rintro e w3 ⟨r3,rfl,o3,b3⟩;have HO3:=Jj (o3.lower (base':=w.heap.size) HB.out.size);have HB3:=Jj (aa HB.out b3);obtain⟨us3,A3,c3,-,rfl,-⟩:=o3.read;clear o3 b3;go_wp2;go_ret2;exact⟨_,rfl,HO3.out,HB3.out⟩
end Go.Proofs.YtfmjklgfpiffbaaGreatDoor
