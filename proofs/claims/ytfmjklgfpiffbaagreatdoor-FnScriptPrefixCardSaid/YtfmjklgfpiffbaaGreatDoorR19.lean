/-
  Parts of the proof of one statement, merged: SetUp Job JobB Round JobTab SetPlain.
-/
import Derived.Test.YtfmjklgfpiffbaaGreatDoorR13
import Derived.Test.YtfmjklgfpiffbaaGreatDoorR14
namespace Go.Proofs.YtfmjklgfpiffbaaGreatDoor
open Go.RowKit Go.Proofs.Tryz
set_option linter.unusedVariables false
set_option linter.unusedSimpArgs false
set_option maxRecDepth 100000
set_option maxHeartbeats 8000000
attribute [local go_sem ↓] Go.wp_at_zero Go.wp_at_succ
def vk (l:List Int) (k:Int):Bool:=l.all fun d=>bl d k
def iR (l:List Int) (k:Int) (m:Nat):List ByteArray:=eY (fun i=>dM (at_ l i) k) m
theorem lg (l:List Int) (k:Int) (m:Nat):(iR l k m).length=m:=dU _ _
theorem xF (l:List Int) (k:Int) (m:Nat):iR l k (m+1)=iR l k m++[dM (at_ l m) k]:=CE _ _
theorem qf (d k:Int):(dM d k).size≤12:=by
 unfold dM
 split
 ·rename_i h
  have hw:inB k 1 12=true:=by
   cases hq:inB k 1 12
   ·rw[gG d hq] at h;cases h
   ·rfl
  have:=am.1 hw;rw[nG];omega
 ·exact Jy _
def cE (p:List Int) (n k:Int):Bool:=dR p n&&vk (aO p n) k
def dm (p:List Int) (n k:Int):List ByteArray:=if cE p n k=true then iR (aO p n) k (aO p n).length else[]
theorem pD {p:List Int} {n k:Int} (h:cE p n k=false):dm p n k=[]:=by simp[dm,h]
theorem s9 {p:List Int} {n k:Int} (h:cE p n k=true):dm p n k=iR (aO p n) k (aO p n).length:=by simp[dm,h]
theorem lR {p:List Int} {n k:Int} (h:dR p n=false):cE p n k=false:=by simp[cE,h]
theorem om {p:List Int} {n k:Int} {j:Nat} (hj:j<(aO p n).length) (h:bl (at_ (aO p n) j) k=false):cE p n k=false:=by
 have:vk (aO p n) k=false:=oO (p:=fun d=>bl d k) hj h;simp[cE,this]
theorem ul {p:List Int} {n k:Int} (hs:dR p n=true) (h:∀j,j<(aO p n).length→bl (at_ (aO p n) j) k=true):cE p n k=true:=by
 have:vk (aO p n) k=true:=rd (p:=fun d=>bl d k) h;simp[cE,this,hs]
theorem zm {p:List Int} {n k:Int} (h:inB k 1 12=false) (hs:0<(aO p n).length):cE p n k=false:=om hs (gG _ h)
theorem ou {p:List Int} {n:Int}:(aO p n).length≤7∧(dR p n=true→1≤(aO p n).length):=by
 by_cases h:et p n=true
 ·rw[(la h).1,(la h).2];cases hq:av (gz p n)
  ·rw[nc hq];exact⟨by simp,fun e=>by cases e⟩
  ·rw[ic hq];obtain⟨h1,h7,-⟩:=bf.1 hq;exact⟨h7,fun _=>h1⟩
 ·have h':et p n=false:=by rw[Bool.eq_false_iff];exact h
  rw[(ir h').1,(ir h').2];exact⟨by simp,fun e=>by cases e⟩
theorem oI (v:Value) (p:List Int) (n k:Int) (w:World) (hv:ai w v p) (hn : -9223372036854775808≤n∧n≤9223372036854775807):
  Calls prog 120 #[v,.int .i64 n,.int .i64 k] w (cj w (dm p n k) (cE p n k)):=by
 have HV:=Jj hv;obtain⟨A,c,rfl,-,-,-⟩:=hv.open_;clear hv;have B0:=Jj (ab w (.cells #[.slice none 0 0] 32));have K0:=Blk.new' w 32 (.slice none 0 0) w.heap.size rfl
 go_enter func120,ntmps120
 go_wp2_with fail
 generalize hW:w.alloc (.cells #[.slice none 0 0] 32)=W at *;have hwz:W.heap.size=w.heap.size+1:=by rw[←hW];simp
 clear hW;refine(uz _ p n _ (HV.out.bel B0.out) hn).mono ?_;rintro e w2 ⟨r,rfl,o1,b1⟩;have k0:=K0.lt;have hz2:=b1.size;replace K0:=K0.below b1 K0.lt;have H1:=Jj (Jq o1 (aa B0.out b1));have LL:=Jj (ou (p:=p) (n:=n));obtain⟨A1,c1,rfl,hlc,hc1,hrd⟩:=o1.ints.open_;clear o1 b1;obtain⟨e0,f0⟩:=K0.one;cases hs:dR p n
 ·have HN:=Jj (Jq (lR (k:=k) hs) (pD (lR (k:=k) hs)));go_wp2;refine bodyPost_ret (v:=.tuple #[.agg #[.slice none 0 0],.bool false]) (by simp[results,results120,go_sem,e0]) rfl ⟨.slice none 0 0,by rw[HN.out.1],?_,?_⟩
  ·rw[HN.out.2];exact aj.nil_ _ _
  ·exact H1.out.2.setCell (by simp) _
 ·have HS:=Jj hs;have l7:=LL.out.1;obtain⟨m,hm⟩:∃m,m=(aO p n).length:=⟨_,rfl⟩;rw[←hm] at hlc l7 ⊢;have hmk:=fun W=>Tryz.mkStrs m (by omega) W;have HM:=Jj hm;have HR:=Jj hrd;clear hm hs hrd
  go_wp2_with fail
  go_loopw [27] (fun i wr=>∃(j:Nat) (cs:List Value),j≤m∧i=.int .i64 j∧Blk wr w2.heap.size 9 cs∧cs.length=m∧(∀a,a<j→cs[a]?=some (.string (dM (at_ (aO p n) a) k))∧bl (at_ (aO p n) a) k=true)∧Blk wr w.heap.size 32 [.slice none 0 0]∧Below w2.heap.size w2 wr)
   (fun i _=>m-(intOf i).toNat)
  case atStart=>exact⟨0,_,Jy _,rfl,Blk.new _ _ _,bi _ _,fun a ha=>absurd ha (by omega),K0.alloc _,ab _ _⟩
  case round=>
   clear K0 e0 f0;obtain⟨j,cs,hj,rfl,hblk,hcl,hcs,K0,hbel⟩:=hrel;have HO:=Jj (Jq hcl (Jq hcs hbel));have hz:=hbel.size;clear hcl hcs;by_cases hlt:j<m
   ·obtain⟨b,o,rfl,hb,hcell⟩:=HR.out.ints (by rw[←HM.out];omega);have ck:wr.cell? ⟨b,o+j,none⟩=some (.int .i64 (at_ (aO p n) j)):=(hbel.cell (by exact hb)).trans (hcell j (by rw[←HM.out];exact hlt));have hwf:=H1.out.1.ints.2.at (aO p n) j;clear hbel hcell
    go_wp2_with fail
    refine(oH (at_ (aO p n) j) k _ hwf).mono ?_;rintro e w4 ⟨rfl,b4⟩;have k0':=K0.lt;replace K0:=K0.below b4 K0.lt;replace hblk:=hblk.below b4 hblk.lt;have H4:=Jj (aa HO.out.2.2 b4);clear b4 ck;obtain⟨e0,f0⟩:=K0.one;have c3:w4.cell? ⟨w2.heap.size,j,none⟩=some (cs[j]'(by rw[HO.out.1];exact hlt)):=by rw[hblk.cell];exact List.getElem?_eq_getElem _
    have hfw:=hblk.frozen j;have Kg:=hblk.set_ j (.string (dM (at_ (aO p n) j) k));have Kf:=K0.far (p:=⟨w2.heap.size,j,none⟩) (by show w.heap.size≠w2.heap.size;omega) (.string (dM (at_ (aO p n) j) k));have e0':(w4.setCell ⟨w2.heap.size,j,none⟩ (.string (dM (at_ (aO p n) j) k))).cell? ⟨w.heap.size,0,none⟩=some (.slice none 0 0):=Kf.one.1;have HB:=Jj (H4.out.setCell (p:=⟨w2.heap.size,j,none⟩) (Jr _) (.string (dM (at_ (aO p n) j) k)));cases hco:bl (at_ (aO p n) j) k
    ·have hno:=om (p:=p) (n:=n) (k:=k) (j:=j) (by rw[←HM.out];exact hlt) hco;have HN:=Jj (Jq hno (pD hno));clear hno;go_wp2;refine bodyPost_ret (v:=.tuple #[.agg #[.slice none 0 0],.bool false]) (by simp[results,results120,go_sem,e0,e0']) rfl ⟨.slice none 0 0,by rw[HN.out.1],?_,?_⟩
     ·rw[HN.out.2];exact aj.nil_ _ _
     ·exact(aa H1.out.2 HB.out).setCell (by simp) _
    ·have HCO:=Jj hco;clear hco;go_wp2;go_roundw
     case rel=>exact⟨j+1,_,by omega,by go_num,Kg,by rw[List.length_set];exact HO.out.1,fun a ha=>by
      by_cases e:a=j
      ·subst e;exact⟨by rw[List.getElem?_set_self (by rw[HO.out.1];exact hlt)],HCO.out⟩
      ·rw[List.getElem?_set_ne (by omega)];exact HO.out.2.1 a (by omega),Kf,HB.out⟩
     case measure=>simp[intOf];omega
   ·have hnl:j=m:=by omega
    subst hnl;have hyes:=ul (k:=k) HS.out (fun a ha=>(HO.out.2.1 a (by rw[←HM.out] at ha;exact ha)).2);have HN:=Jj (Jq hyes (s9 hyes));have OW:=Jj (qS (f:=fun a=>dM (at_ (aO p n) a) k) (show w.heap.size+1≤w2.heap.size by omega) hblk HO.out.1 (by omega) (fun a ha=>(HO.out.2.1 a ha).1) (fun a ha=>by have:=qf (at_ (aO p n) a) k;omega));obtain⟨e0,f0⟩:=K0.one;clear hbel hyes;go_wp2;refine bodyPost_ret (v:=.tuple #[.agg #[.slice (some ⟨w2.heap.size,0,none⟩) j j],.bool true]) (by simp[results,results120,go_sem,e0]) rfl ⟨_,by rw[HN.out.1],?_,?_⟩
    ·rw[HN.out.2,←HM.out];exact(OW.out.setCell _ _ (by simp)).lower (by omega)
    ·exact(aa H1.out.2 HO.out.2.2).setCell (by simp) _
theorem lp (v:Value) (p:List Int) (n k:Int) (w:World) (hv:ai w v p) (hn : -9223372036854775808≤n∧n≤9223372036854775807):
  Calls prog 84 #[v,.int .i64 n,.int .i64 k] w (cj w (dm p n k) (cE p n k)):=by
 have HV:=Jj hv;obtain⟨A,c,rfl,-,-,-⟩:=hv.open_;clear hv;have B0:=Jj (ab w (.cells #[.slice none 0 0] 32));have K0:=Blk.new' w 32 (.slice none 0 0) w.heap.size rfl
 go_enter func84,ntmps84
 go_wp2_with fail
 generalize hW:w.alloc (.cells #[.slice none 0 0] 32)=W at *;have hwz:W.heap.size=w.heap.size+1:=by rw[←hW];simp
 clear hW;refine(uJ _ p n _ (HV.out.bel B0.out) hn).mono ?_;rintro e w2 ⟨r,rfl,o1,b1⟩;have k0:=K0.lt;have hz2:=b1.size;replace K0:=K0.below b1 K0.lt;have H1:=Jj (Jq o1 (aa B0.out b1));have LL:=Jj (ou (p:=p) (n:=n));obtain⟨A1,c1,rfl,hlc,hc1,hrd⟩:=o1.ints.open_;clear o1 b1;obtain⟨e0,f0⟩:=K0.one;cases hs:dR p n
 ·have HN:=Jj (Jq (lR (k:=k) hs) (pD (lR (k:=k) hs)));go_wp2;refine bodyPost_ret (v:=.tuple #[.agg #[.slice none 0 0],.bool false]) (by simp[results,results84,go_sem,e0]) rfl ⟨.slice none 0 0,by rw[HN.out.1],?_,?_⟩
  ·rw[HN.out.2];exact aj.nil_ _ _
  ·exact H1.out.2.setCell (by simp) _
 ·have HS:=Jj hs;clear hs;cases hw:inB k 1 12
  ·have hno:=zm (p:=p) (n:=n) hw (LL.out.2 HS.out);have HN:=Jj (Jq hno (pD hno));clear hno
   go_wp2_with (go_at_call 158;refine(dV _ _).mono ?_;rintro e w' ⟨rfl,rfl⟩)
   refine bodyPost_ret (v:=.tuple #[.agg #[.slice none 0 0],.bool false]) (by simp[results,results84,go_sem,e0]) rfl ⟨.slice none 0 0,by rw[HN.out.1],?_,?_⟩
   ·rw[HN.out.2];exact aj.nil_ _ _
   ·exact H1.out.2.setCell (by simp) _
  ·have l7:=LL.out.1;obtain⟨m,hm⟩:∃m,m=(aO p n).length:=⟨_,rfl⟩;rw[←hm] at hlc l7 ⊢;have HM:=Jj hm;have HR:=Jj hrd;clear hm hrd
   go_wp2_with fail
   refine(dV _ _).mono ?_;rintro e w3 ⟨rfl,rfl⟩;rw[hw];clear hw e0 f0;have KE:=(Blk.new' w2 32 (.slice none 0 0) w2.heap.size rfl);have hbE:=ab w2 (.cells #[.slice none 0 0] 32);have zE:(w2.alloc (.cells #[.slice none 0 0] 32)).heap.size=w2.heap.size+1:=by simp
   replace K0:=K0.alloc (.cells #[.slice none 0 0] 32)
   go_wp2_with fail
   generalize hW3:w2.alloc (.cells #[.slice none 0 0] 32)=W3 at *;clear hW3
   go_loopw [11] (fun i wr=>∃(j:Nat) (x:Value),j≤m∧i=.int .i64 j∧aj wr (w2.heap.size+1) x (iR (aO p n) k j)∧(∀a,a<j→bl (at_ (aO p n) a) k=true)∧Blk wr w2.heap.size 32 [x]∧Blk wr w.heap.size 32 [.slice none 0 0]∧Below w2.heap.size w2 wr∧W3.heap.size≤wr.heap.size)
    (fun i _=>m-(intOf i).toNat)
   case atStart=>exact⟨0,.slice none 0 0,Jy _,rfl,aj.nil_ _ _,fun a ha=>absurd ha (by omega),KE,K0,hbE,Jr _⟩
   case round=>
    clear K0 KE hbE;obtain⟨j,x,hj,rfl,hox,hall,KE,K0,hbel,hz3⟩:=hrel;have HO:=Jj (Jq hox (Jq hall hbel));obtain⟨Ax,cx,rfl,-,-,-⟩:=hox.strs.open_;have hz:=hbel.size;clear hox hall;have hxl:=Jj (lg (aO p n) k j);by_cases hlt:j<m
    ·obtain⟨b,o,rfl,hb,hcell⟩:=HR.out.ints (by rw[←HM.out];omega);have ck:wr.cell? ⟨b,o+j,none⟩=some (.int .i64 (at_ (aO p n) j)):=(hbel.cell (by exact hb)).trans (hcell j (by rw[←HM.out];exact hlt));have hwf:=H1.out.1.ints.2.at (aO p n) j;clear hbel hcell
     go_wp2_with fail
     refine(uH (at_ (aO p n) j) k _ hwf).mono ?_;rintro e w4 ⟨rfl,b4⟩;have z4:=b4.size;have k0':=K0.lt;have kE':=KE.lt;replace K0:=K0.below b4 K0.lt;replace KE:=KE.below b4 KE.lt;have H4:=Jj (Jq (HO.out.1.bel b4) (aa HO.out.2.2 b4));clear b4 ck;obtain⟨e0,f0⟩:=K0.one;obtain⟨e1,f1⟩:=KE.one;cases hco:bl (at_ (aO p n) j) k
     ·have hno:=om (p:=p) (n:=n) (k:=k) (j:=j) (by rw[←HM.out];exact hlt) hco;have HN:=Jj (Jq hno (pD hno));clear hno;go_wp2;refine bodyPost_ret (v:=.tuple #[.agg #[.slice none 0 0],.bool false]) (by simp[results,results84,go_sem,e0]) rfl ⟨.slice none 0 0,by rw[HN.out.1],?_,?_⟩
      ·rw[HN.out.2];exact aj.nil_ _ _
      ·exact(aa H1.out.2 H4.out.2).setCell (by simp) _
     ·have HCO:=Jj hco;have hsz:=qf (at_ (aO p n) j) k;obtain⟨cc,hcc⟩:∃cc,cc=dM (at_ (aO p n) j) k:=⟨_,rfl⟩;rw[←hcc] at hsz ⊢;have HCC:=Jj hcc;clear hco hcc
      go_wp2_with (at_builtin;go_must (refine lP rfl (.tmp 48) (.tmp 50) (by rfl) (w2.heap.size+1) _ (iR (aO p n) k j) (by rfl) (by exact H4.out.1.bel (ab _ _)) _ _ cc (by rfl) (by exact bh _ _ _) (by omega) (by rw[hxl.out];omega) (by simp;omega) ?_;intro v5 w5 ho5 hg5 hat5;have hox:=H4.out.1;have K0':=(K0.alloc (.cells #[.string cc] 9)).grown hg5 (fun e=>by have:=(hox.lt _ e.symm).1;omega);have KE':=(KE.alloc (.cells #[.string cc] 9)).grown hg5 (fun e=>by have:=(hox.lt _ e.symm).1;omega);have B5:=(aa H4.out.2 (ab w4 (.cells #[.string cc] 9))).trans (bQ (base:=w2.heap.size) hg5 (by simp;omega) (fun q hq=>by have:=(hox.lt q hq).1;omega));have z5:=hg5.size;simp at z5;clear hox;obtain⟨A5,c5,hv5,-,-,-⟩:=ho5.strs.open_;rw[show(iR (aO p n) k j++[cc]).length=j+1 by rw[Jv,hxl.out];rfl] at hv5;subst hv5;have H5:=Jj (Jq ho5 B5);clear ho5 B5 hg5 hat5 K0 KE e0 f0 e1 f1;obtain⟨e1',f1'⟩:=KE'.one))
      go_roundw
      case rel=>
       refine⟨j+1,.slice A5 (j+1) c5,by omega,by go_num,?_,fun a ha=>?_,KE'.set_ 0 _,K0'.far (by show w.heap.size≠w2.heap.size;omega) _,H5.out.2.setCell (by show w2.heap.size≤w2.heap.size;omega) _,by simp;omega⟩
       ·rw[xF,←HCC.out];exact H5.out.1.setCell _ _ (by show w2.heap.size<w2.heap.size+1;omega)
       ·by_cases e:a=j
        ·subst e;exact HCO.out
        ·exact HO.out.2.1 a (by omega)
      case measure=>simp[intOf];omega
    ·have hnl:j=m:=by omega
     subst hnl;have hyes:=ul (k:=k) HS.out (fun a ha=>HO.out.2.1 a (by rw[←HM.out] at ha;exact ha));have HN:=Jj (Jq hyes (s9 hyes));obtain⟨e0,f0⟩:=K0.one;obtain⟨e1,f1⟩:=KE.one;clear hbel hyes;go_wp2;refine bodyPost_ret (v:=.tuple #[.agg #[.slice Ax (iR (aO p n) k j).length cx],.bool true]) (by simp[results,results84,go_sem,e0]) rfl ⟨_,by rw[HN.out.1],?_,?_⟩
     ·rw[HN.out.2,←HM.out];exact(HO.out.1.setCell _ _ (by simp;omega)).lower (by omega)
     ·exact(aa H1.out.2 HO.out.2.2).setCell (by simp) _
-- CapacityOf
def ik (l:List Int) (k:Int):Nat:=(l.takeWhile fun d=>bl d k).length
theorem qj {l:List Int} {k:Int} {j:Nat} (hj:j<l.length) (ha:∀a,a<j→bl (at_ l a) k=true) (h:bl (at_ l j) k=false):ik l k=j:=by
 unfold ik
 induction l generalizing j with
 |nil=>simp at hj
 |cons x l ih=>
  cases j with
  |zero=>
   have h':bl x k=false:=h;simp[h']
  |succ j=>
   have h0:bl x k=true:=ha 0 (by omega);rw[List.takeWhile_cons,if_pos h0,List.length_cons,ih (j:=j) (by simpa using hj) (fun a hh=>ha (a+1) (by omega)) h]
theorem pi {l:List Int} {k:Int} (ha:∀a,a<l.length→bl (at_ l a) k=true):ik l k=l.length:=by
 unfold ik
 induction l with
 |nil=>rfl
 |cons x l ih=>
  have h0:bl x k=true:=ha 0 (by simp);rw[List.takeWhile_cons,if_pos h0,List.length_cons,List.length_cons,ih (fun a hh=>ha (a+1) (by simpa using hh))]
def ib (p:List Int) (a k c:Int):Int:=if (cw p a c&&inB k 1 12)=true then(ik (cf p a c) k:Int) else -1
theorem oQ {p:List Int} {a k c:Int} (h:cw p a c=false∨inB k 1 12=false):ib p a k c = -1:=by
 unfold ib;rw[if_neg]
 rcases h with h|h <;> simp[h]
theorem sG {p:List Int} {a k c:Int} (h:cw p a c=true) (h2:inB k 1 12=true):ib p a k c=(ik (cf p a c) k:Int):=by simp[ib,h,h2]
theorem kF (p:List Int) (a c:Int):(cf p a c).length≤60:=by
 unfold cf
 split
 ·rename_i h
  have:=iL.1 h;rw[ar];omega
 ·simp
theorem xM (v:Value) (p:List Int) (a k c:Int) (w:World) (hv:ai w v p) (ha : -9223372036854775808≤a∧a≤9223372036854775807) (hc : -9223372036854775808≤c∧c≤9223372036854775807):
  Calls prog 291 #[v,.int .i64 a,.int .i64 k,.int .i64 c] w fun e w'=>e=.returned (.int .i64 (ib p a k c))∧Below w.heap.size w w':=by
 go_enter func291,ntmps291
 go_wp2_with fail
 refine(iD v p a c _ hv ha hc).mono ?_;rintro e w2 ⟨r,rfl,o1,b1⟩;have H1:=Jj (Jq o1 b1);have l60:=kF p a c;obtain⟨A1,c1,rfl,hlc,hc1,hrd⟩:=o1.ints.open_;clear o1 b1;cases hs:cw p a c
 ·have HN:=Jj (oQ (k:=k) (.inl hs))
  go_wp2_with (go_at_call 262;refine(dd _ _).mono ?_;rintro e w' ⟨rfl,rfl⟩)
  go_ret;exact⟨by rw[HN.out];rfl,H1.out.2⟩
 ·cases hw:inB k 1 12
  ·have HN:=Jj (oQ (p:=p) (a:=a) (c:=c) (.inr hw))
   go_wp2_with (go_at_call 262;refine(dd _ _).mono ?_;rintro e w' ⟨rfl,rfl⟩)
   go_ret;exact⟨by rw[HN.out];rfl,H1.out.2⟩
  ·have HN:=Jj (sG hs hw)
   go_wp2_with fail
   refine(dd _ _).mono ?_;rintro e w3 ⟨rfl,rfl⟩;rw[hw];obtain⟨m,hm⟩:∃m,m=(cf p a c).length:=⟨_,rfl⟩;rw[←hm] at hlc l60 ⊢;have HM:=Jj hm;have HR:=Jj hrd;clear hm hrd hs hw
   go_wp2_with fail
   go_loopw [31] (fun i wr=>∃j:Nat,j≤m∧i=.int .i64 j∧(∀q,q<j→bl (at_ (cf p a c) q) k=true)∧Below w2.heap.size w2 wr) (fun i _=>m-(intOf i).toNat)
   case atStart=>exact⟨0,Jy _,rfl,fun q hq=>absurd hq (by omega),Below.refl _ _⟩
   case round=>
    obtain⟨j,hj,rfl,hall,hbel⟩:=hrel;have HO:=Jj (Jq hall hbel);clear hall;by_cases hlt:j<m
    ·obtain⟨b,o,rfl,hb,hcell⟩:=HR.out.ints (by rw[←HM.out];omega);have ck:wr.cell? ⟨b,o+j,none⟩=some (.int .i64 (at_ (cf p a c) j)):=(hbel.cell (by exact hb)).trans (hcell j (by rw[←HM.out];exact hlt));have hwf:=H1.out.1.ints.2.at (cf p a c) j;clear hbel hcell
     go_wp2_with fail
     refine(oH (at_ (cf p a c) j) k _ hwf).mono ?_;rintro e w4 ⟨rfl,b4⟩;have H4:=Jj (aa HO.out.2 b4);clear b4 ck;cases hco:bl (at_ (cf p a c) j) k
     ·have HF:=Jj (qj (by rw[←HM.out];exact hlt) HO.out.1 hco);go_wp2;go_ret;exact⟨by rw[HN.out,HF.out];rfl,aa H1.out.2 H4.out⟩
     ·have HCO:=Jj hco;clear hco;go_wp2;go_roundw
      case rel=>exact⟨j+1,by omega,by go_num,cS HO.out.1 HCO.out,H4.out⟩
      case measure=>simp[intOf];omega
    ·have hnl:j=m:=by omega
     subst hnl;have HF:=Jj (pi (fun q hq=>HO.out.1 q (by rw[←HM.out] at hq;exact hq)));clear hbel;go_wp2;go_ret;exact⟨by rw[HN.out,HF.out,←HM.out];rfl,aa H1.out.2 HO.out.2⟩
theorem yw (v:Value) (p:List Int) (a k c:Int) (w:World) (hv:ai w v p) (ha : -9223372036854775808≤a∧a≤9223372036854775807) (hc : -9223372036854775808≤c∧c≤9223372036854775807):
  Calls prog 230 #[v,.int .i64 a,.int .i64 k,.int .i64 c] w fun e w'=>e=.returned (.int .i64 (ib p a k c))∧Below w.heap.size w w':=by
 go_enter func230,ntmps230
 go_wp2_with fail
 refine(kE v p a c _ hv ha hc).mono ?_;rintro e w2 ⟨r,rfl,o1,b1⟩;have H1:=Jj (Jq o1 b1);have l60:=kF p a c;obtain⟨A1,c1,rfl,hlc,hc1,hrd⟩:=o1.ints.open_;clear o1 b1;cases hs:cw p a c
 ·have HN:=Jj (oQ (k:=k) (.inl hs))
  go_wp2_with (go_at_call 158;refine(dV _ _).mono ?_;rintro e w' ⟨rfl,rfl⟩)
  go_ret;exact⟨by rw[HN.out];rfl,H1.out.2⟩
 ·cases hw:inB k 1 12
  ·have HN:=Jj (oQ (p:=p) (a:=a) (c:=c) (.inr hw))
   go_wp2_with (go_at_call 158;refine(dV _ _).mono ?_;rintro e w' ⟨rfl,rfl⟩)
   go_ret;exact⟨by rw[HN.out];rfl,H1.out.2⟩
  ·have HN:=Jj (sG hs hw);have hw':=am.1 hw
   go_wp2_with fail
   refine(dV _ _).mono ?_;rintro e w3 ⟨rfl,rfl⟩;rw[hw];obtain⟨k,rfl⟩:∃q:Nat,k=q:=⟨k.toNat,by omega⟩;obtain⟨m,hm⟩:∃m,m=(cf p a c).length:=⟨_,rfl⟩;rw[←hm] at hlc l60 ⊢;have HM:=Jj hm;have HR:=Jj hrd;clear hm hrd hs hw
   go_wp2_with fail
   go_loopw [11] (fun i wr=>∃j:Nat,j≤m∧i=.int .i64 j∧(∀q,q<j→bl (at_ (cf p a c) q) k=true)∧Below w2.heap.size w2 wr) (fun i _=>m-(intOf i).toNat)
   case atStart=>exact⟨0,Jy _,rfl,fun q hq=>absurd hq (by omega),Below.refl _ _⟩
   case round=>
    obtain⟨j,hj,rfl,hall,hbel⟩:=hrel;have HO:=Jj (Jq hall hbel);clear hall;by_cases hlt:j<m
    ·obtain⟨b,o,rfl,hb,hcell⟩:=HR.out.ints (by rw[←HM.out];omega);have ck:wr.cell? ⟨b,o+j,none⟩=some (.int .i64 (at_ (cf p a c) j)):=(hbel.cell (by exact hb)).trans (hcell j (by rw[←HM.out];exact hlt));have p2:(j:Int)<(m:Int):=by omega
     have p3:(0:Int)≤(j:Int):=by omega
     have HE:=Jj (dB (at_ (cf p a c) j) (show 1≤k∧k≤12 by omega));clear hbel hcell;cases hco:pj (at_ (cf p a c) j) k
     ·have HF:=Jj (qj (by rw[←HM.out];exact hlt) HO.out.1 (HE.out.trans hco))
      go_wp2_with (go_at_call 232;refine(lD _ k _ (by omega)).mono ?_;rintro e w' ⟨rfl,rfl⟩)
      go_ret;exact⟨by rw[HN.out,HF.out];rfl,aa H1.out.2 HO.out.2⟩
     ·have HCO:=Jj hco
      go_wp2_with (go_at_call 232;refine(lD _ k _ (by omega)).mono ?_;rintro e w' ⟨rfl,rfl⟩)
      go_roundw
      case rel=>exact⟨j+1,by omega,by go_num,cS HO.out.1 (HE.out.trans HCO.out),HO.out.2⟩
      case measure=>simp[intOf];omega
    ·have hnl:j=m:=by omega
     subst hnl;have HF:=Jj (pi (fun q hq=>HO.out.1 q (by rw[←HM.out] at hq;exact hq)));have p2:¬(j:Int)<(j:Int):=by omega
     clear hbel;go_wp2;go_ret;exact⟨by rw[HN.out,HF.out,←HM.out];rfl,aa H1.out.2 HO.out.2⟩
structure bK where
 poly:List Int
 fr:Int
 ct:Int
 wd:Int
 dg:Int
 wy:Int
 rw:Int
 ac:Int
 wi:Int
structure bK.In (j:bK):Prop where
 fr : -9223372036854775808≤j.fr∧j.fr≤9223372036854775807
 ct : -9223372036854775808≤j.ct∧j.ct≤9223372036854775807
 wd : -9223372036854775808≤j.wd∧j.wd≤9223372036854775807
 dg : -9223372036854775808≤j.dg∧j.dg≤9223372036854775807
 wy : -9223372036854775808≤j.wy∧j.wy≤9223372036854775807
 rw : -9223372036854775808≤j.rw∧j.rw≤9223372036854775807
 ac : -9223372036854775808≤j.ac∧j.ac≤9223372036854775807
 wi : -9223372036854775808≤j.wi∧j.wi≤9223372036854775807
def dE (a b c:Int):Bool:=inB a 1 20&&inB b 1 6&&inB c 1 12
def eE (d y:Int):Bool:=inB d 0 6&&inB y 0 2
theorem kU (d y:Int) (w:World):
  Calls prog 164 #[.int .i64 d,.int .i64 y] w fun e w'=>e=.returned (.bool (eE d y))∧w=w':=by
 cases h1:inB d 0 6
 all_goals cases h2:inB y 0 2
 all_goals
  have H:=Jj (show eE d y=(inB d 0 6&&inB y 0 2) from rfl)
  go_enter func164,ntmps164
  go_wp2_with (go_at_call 72;refine(aL _ _ _ _).mono ?_;rintro e w' ⟨rfl,rfl⟩)
  go_ret;exact⟨by rw[H.out,h1,h2];rfl,rfl⟩
theorem cQ (d y:Int) (w:World):
  Calls prog 210 #[.int .i64 d,.int .i64 y] w fun e w'=>e=.returned (.bool (eE d y))∧w=w':=by
 go_enter func210,ntmps210
 go_wp2
 all_goals (go_ret;refine⟨aD ?_,rfl⟩;simp_all [eE,inB])
 all_goals (intros;omega)
theorem eI (a b c:Int) (w:World):
  Calls prog 212 #[.agg #[.int .i64 a,.int .i64 b,.int .i64 c]] w fun e w'=>e=.returned (.bool (dE a b c))∧Below w.heap.size w w':=by
 go_enter func212,ntmps212
 go_wp2
 all_goals (go_ret;refine⟨aD ?_,ab _ _⟩)
 all_goals simp_all [dE,inB]
 all_goals (intros;omega)
theorem eJ (a b c:Int) (w:World):
  Calls prog 96 #[.agg #[.int .i64 a,.int .i64 b,.int .i64 c]] w fun e w'=>e=.returned (.bool (dE a b c))∧Below w.heap.size w w':=by
 cases h1:inB a 1 20
 all_goals cases h2:inB b 1 6
 all_goals cases h3:inB c 1 12
 all_goals
  have H:=Jj (show dE a b c=(inB a 1 20&&inB b 1 6&&inB c 1 12) from rfl)
  go_enter func96,ntmps96
  go_wp2_with (go_at_call 72;refine(aL _ _ _ _).mono ?_;rintro e w' ⟨rfl,rfl⟩)
  go_ret;exact⟨by rw[H.out,h1,h2,h3];rfl,ab _ _⟩
def cr (v:Value) (j:bK):Value:=.agg #[v,.int .i64 j.fr,.int .i64 j.ct,.int .i64 j.wd,.int .i64 j.dg,.int .i64 j.wy,.int .i64 j.rw,.int .i64 j.ac,.int .i64 j.wi]
def aS (v:Value) (j:bK):List Value:=[v,.int .i64 j.fr,.int .i64 j.ct,.int .i64 j.wd,.int .i64 j.dg,.int .i64 j.wy,.int .i64 j.rw,.int .i64 j.ac,.int .i64 j.wi]
theorem Blk.job {w:World} {g:Nat} {t:TypeId} {v:Value} {j:bK} (h:Blk w g t (aS v j)):
  w.cell? ⟨g,0,none⟩=some v∧w.cell? ⟨g,1,none⟩=some (.int .i64 j.fr)∧w.cell? ⟨g,2,none⟩=some (.int .i64 j.ct)∧w.cell? ⟨g,3,none⟩=some (.int .i64 j.wd)∧w.cell? ⟨g,4,none⟩=some (.int .i64 j.dg) ∧
  w.cell? ⟨g,5,none⟩=some (.int .i64 j.wy)∧w.cell? ⟨g,6,none⟩=some (.int .i64 j.rw)∧w.cell? ⟨g,7,none⟩=some (.int .i64 j.ac)∧w.cell? ⟨g,8,none⟩=some (.int .i64 j.wi):=by
 refine⟨?_,?_,?_,?_,?_,?_,?_,?_,?_⟩ <;> rw[h.cell] <;> rfl
theorem Blk.free {w:World} {g:Nat} {t:TypeId} {cs:List Value} (h:Blk w g t cs):
  w.frozen? ⟨g,0,none⟩=false∧w.frozen? ⟨g,1,none⟩=false∧w.frozen? ⟨g,2,none⟩=false∧w.frozen? ⟨g,3,none⟩=false∧w.frozen? ⟨g,4,none⟩=false ∧
  w.frozen? ⟨g,5,none⟩=false∧w.frozen? ⟨g,6,none⟩=false∧w.frozen? ⟨g,7,none⟩=false∧w.frozen? ⟨g,8,none⟩=false:=
 ⟨h.frozen 0,h.frozen 1,h.frozen 2,h.frozen 3,h.frozen 4,h.frozen 5,h.frozen 6,h.frozen 7,h.frozen 8⟩
def cG:bK:=⟨[],0,0,0,0,0,0,0,0⟩
theorem Own.setCellI {w:World} {base:Nat} {v:Value} {l:List Int} (h:Own w base v l) (p:Addr) (u:Value) (hp:p.block<base):Own (w.setCell p u) base v l:=
 h.far (row:=some p.block) (dl (World.grownBy.refl w (some p.block)) (.inl rfl) u) (fun k hk=>by injection hk with hk;omega)
def dA (w:World) (g i:Nat):List Value→World
 |[]=>w
 |u::us=>dA (w.setCell ⟨g,i,none⟩ u) g (i+1) us
def IK (cs:List Value) (i:Nat):List Value→List Value
 |[]=>cs
 |u::us=>IK (cs.set i u) (i+1) us
theorem Fj {base g:Nat} {v:Value} {l:List Int} (hg:g<base):∀(us:List Value) (w:World) (i:Nat),Own w base v l→Own (dA w g i us) base v l
 |[],_,_,h=>h
 |u::us,w,i,h=>Fj hg us _ _ (h.setCellI ⟨g,i,none⟩ u hg)
theorem zB {b g:Nat} {t:TypeId} {cs:List Value} (hg:b≠g):∀(us:List Value) (w:World) (i:Nat),Blk w b t cs→Blk (dA w g i us) b t cs
 |[],_,_,h=>h
 |u::us,w,i,h=>zB hg us _ _ (h.far (p:=⟨g,i,none⟩) hg u)
theorem oP {B:Nat} {a:World} {g:Nat} (hg:B≤g):∀(us:List Value) (w:World) (i:Nat),Below B a w→Below B a (dA w g i us)
 |[],_,_,h=>h
 |u::us,w,i,h=>oP hg us _ _ (h.setCell (p:=⟨g,i,none⟩) hg u)
theorem fL {g:Nat} {t:TypeId}:∀(us:List Value) (w:World) (cs:List Value) (i:Nat),Blk w g t cs→Blk (dA w g i us) g t (IK cs i us)
 |[],_,_,_,h=>h
 |u::us,w,cs,i,h=>fL us _ _ _ (h.set_ i u)
def bH (j:bK):Bool:=cE j.poly j.fr j.wd&&decide (1≤j.ct)&&decide (ib j.poly j.fr j.wd j.ct=j.ct)&&eE j.dg j.wy&&dE j.rw j.ac j.wi
theorem iE {j:bK}:bH j=true↔cE j.poly j.fr j.wd=true∧1≤j.ct∧ib j.poly j.fr j.wd j.ct=j.ct∧eE j.dg j.wy=true∧dE j.rw j.ac j.wi=true:=by
 simp[bH,and_assoc]
theorem fH {j:bK} (h:¬(cE j.poly j.fr j.wd=true∧1≤j.ct∧ib j.poly j.fr j.wd j.ct=j.ct∧eE j.dg j.wy=true∧dE j.rw j.ac j.wi=true)):bH j=false:=by
 rw[Bool.eq_false_iff];exact fun e=>h (iE.1 e)
theorem yP (p:List Int) (a k c:Int) : -1≤ib p a k c∧ib p a k c≤60:=by
 by_cases h:(cw p a c&&inB k 1 12)=true
 ·have h':=h;rw[JB] at h';rw[sG h'.1 h'.2];have h1:ik (cf p a c) k≤(cf p a c).length:=by unfold ik;exact List.Sublist.length_le (List.takeWhile_sublist _)
  have h2:=kF p a c;omega
 ·have e:ib p a k c = -1:=by unfold ib;rw[if_neg h]
  omega
theorem rC {j:bK} (h:bH j=true):av j.poly=true∧inB j.ct 1 60=true:=by
 obtain⟨h1,h2,h3,-,-⟩:=iE.1 h;refine⟨?_,?_⟩
 ·cases hq:av j.poly
  ·have hs:dR j.poly j.fr=false:=(ir (sD (n:=j.fr) hq)).1;rw[lR hs] at h1;cases h1
  ·rfl
 ·have:=yP j.poly j.fr j.wd j.ct;rw[h3] at this;exact am.2 (by omega)
theorem qm (v:Value) (j:bK) (w:World) (hv:ai w v j.poly) (hj:j.In):
  Calls prog 271 #[cr v j] w fun e w'=>e=.returned (.bool (bH j))∧Below w.heap.size w w':=by
 obtain⟨jfr,jct,jwd,jdg,jwy,jrw,jac,jwi⟩:=hj;have HV:=Jj hv;obtain⟨A,c,rfl,-,-,-⟩:=hv.open_;clear hv;have B0:Below w.heap.size w (w.alloc (.cells (aS (.slice A j.poly.length c) j).toArray 97)):=ab w _;have K1:=Blk.new w 97 (aS (.slice A j.poly.length c) j);unfold cr
 go_enter func271,ntmps271
 go_wp2_with fail
 change Calls _ _ _ (w.alloc (.cells (aS (.slice A j.poly.length c) j).toArray 97)) _;generalize hW:w.alloc (.cells (aS (.slice A j.poly.length c) j).toArray 97)=W at K1 B0 ⊢;clear hW;refine(oI _ j.poly j.fr j.wd _ (HV.out.bel B0) jfr).mono ?_;rintro e w2 ⟨r,rfl,o1,b1⟩;obtain⟨A3,c3,rfl,-,-,-⟩:=o1.strs.open_;clear o1;generalize (dm j.poly j.fr j.wd).length=q;have HB:=Jj (aa (aa B0 b1) (ab w2 (.cells #[.slice A3 q c3] 32)));have HK:=Jj ((K1.below b1 K1.lt).alloc (.cells #[.slice A3 q c3] 32));have HI:=Jj ((HV.out.bel (aa B0 b1)).bel (ab w2 (.cells #[.slice A3 q c3] 32)));clear b1 B0 K1;cases hs:cE j.poly j.fr j.wd
 ·have HN:=Jj (fH (j:=j) (fun h=>by rw[hs] at h;cases h.1));go_wp2;go_ret;exact⟨aD HN.out.symm,HB.out⟩
 ·have HS:=Jj hs;clear hs;obtain⟨W3,hW3⟩:∃W3,W3=w2.alloc (.cells #[.slice A3 q c3] 32):=⟨_,rfl⟩;rw[←hW3] at HB HK HI;have HW3:=Jj hW3;clear hW3;by_cases hct:j.ct<1
  ·have HN:=Jj (fH (j:=j) (fun h=>by omega));have hd:decide (j.ct<1)=true:=by simpa using hct
   go_wp2_with fail
   rw[←HW3.out];obtain⟨a0,a1,a2,a3,a4,a5,a6,a7,a8⟩:=HK.out.job
   go_quiet (fail)
   go_wp2;go_ret;exact⟨aD HN.out.symm,aV HB.out _⟩
  ·have hd:decide (j.ct<1)=false:=by simpa using hct
   go_wp2_with fail
   rw[←HW3.out];obtain⟨a0,a1,a2,a3,a4,a5,a6,a7,a8⟩:=HK.out.job;have hlt:=HK.out.lt;have tok1:True:=trivial
   go_region_held3 (fun w'=>w'.cell? ⟨w.heap.size,0,none⟩=some (.slice A j.poly.length c)∧w'.cell? ⟨w.heap.size,1,none⟩=some (.int .i64 j.fr)∧w'.cell? ⟨w.heap.size,2,none⟩=some (.int .i64 j.ct)∧w'.cell? ⟨w.heap.size,3,none⟩=some (.int .i64 j.wd)) (first|exact⟨a0,a1,a2,a3⟩|exact⟨a0',a1',a2',a3'⟩|go_keep) (first
    |((try go_simp);go_at_call 291;have _t:=tok1;refine(xM _ j.poly j.fr j.wd j.ct _ (by first|exact HI.out|exact HI.out.bel ((Below.refl _ _).drew)) jfr jct).mono ?_;rintro e w5 ⟨rfl,b5⟩;replace b5:Below W3.heap.size W3 w5:=(by first|exact b5|exact aa ((Below.refl _ _).drew) b5);have HB5:=Jj (aa HB.out b5);have K5:=HK.out.below b5 hlt;have HK5:=Jj K5;obtain⟨a0',a1',a2',a3',-⟩:=K5.job;clear tok1 b5 K5;(try dsimp only))
    |fail)
   all_goals
    clear a0 a1 a2 a3 a4 a5 a6 a7 a8 a0' a1' a2' a3';by_cases hcap:ib j.poly j.fr j.wd j.ct=j.ct
    ·have hne:(ib j.poly j.fr j.wd j.ct != j.ct)=false:=by simp[hcap]
     have HC:=Jj hcap;clear hcap;obtain⟨a0,a1,a2,a3,a4,a5,a6,a7,a8⟩:=HK5.out.job;cases hwy:eE j.dg j.wy
     ·have HN:=Jj (fH (j:=j) (fun h=>by rw[hwy] at h;cases h.2.2.2.1))
      go_wp2_with (go_at_call 210;refine(cQ _ _ _).mono ?_;rintro e w' ⟨rfl,rfl⟩)
      go_ret;exact⟨aD HN.out.symm,HB5.out⟩
     ·have HN:=Jj (show bH j=dE j.rw j.ac j.wi by
       unfold bH;rw[HS.out,hwy,decide_eq_true HC.out,decide_eq_true (show 1≤j.ct by omega)];rfl)
      go_wp2_with fail
      refine(cQ _ _ _).mono ?_;rintro e w6 ⟨rfl,rfl⟩;rw[hwy]
      go_wp2_with fail
      refine(eI _ _ _ _).mono ?_;rintro e w6 ⟨rfl,b6⟩;have HB6:=Jj (aa HB5.out (by first|exact b6|exact aa ((Below.refl _ _).drew) b6));clear b6 a0 a1 a2 a3 a4 a5 a6 a7 a8;go_wp2;go_ret;exact⟨aD HN.out.symm,HB6.out⟩
    ·have hne:(ib j.poly j.fr j.wd j.ct != j.ct)=true:=by simp[hcap]
     have HN:=Jj (fH (j:=j) (fun h=>hcap h.2.2.1));go_wp2;go_ret;exact⟨aD HN.out.symm,HB5.out⟩
theorem qz (v:Value) (j:bK) (w:World) (hv:ai w v j.poly) (hj:j.In):
  Calls prog 143 #[cr v j] w fun e w'=>e=.returned (.bool (bH j))∧Below w.heap.size w w':=by
 obtain⟨jfr,jct,jwd,jdg,jwy,jrw,jac,jwi⟩:=hj;have HV:=Jj hv;obtain⟨A,c,rfl,-,-,-⟩:=hv.open_;clear hv;have B0:Below w.heap.size w (w.alloc (.cells (aS (.slice A j.poly.length c) j).toArray 97)):=ab w _;have K1:=Blk.new w 97 (aS (.slice A j.poly.length c) j);unfold cr
 go_enter func143,ntmps143
 go_wp2_with fail
 change Calls _ _ _ (w.alloc (.cells (aS (.slice A j.poly.length c) j).toArray 97)) _;generalize hW:w.alloc (.cells (aS (.slice A j.poly.length c) j).toArray 97)=W at K1 B0 ⊢;clear hW;refine(bo _ _ _ (HV.out.bel B0)).mono ?_;rintro e w2 ⟨rfl,rfl⟩;have HB:=Jj B0;have HK:=Jj K1;have HI:=Jj (HV.out.bel B0);clear B0 K1;cases hp:av j.poly
 ·have HN:=Jj (show bH j=false by rw[Bool.eq_false_iff];intro h;rw[(rC h).1] at hp;cases hp);go_wp2;go_ret;exact⟨aD HN.out.symm,HB.out⟩
 ·obtain⟨a0,a1,a2,a3,a4,a5,a6,a7,a8⟩:=HK.out.job;cases hc:inB j.ct 1 60
  ·have HN:=Jj (show bH j=false by rw[Bool.eq_false_iff];intro h;rw[(rC h).2] at hc;cases hc)
   go_wp2_with (go_at_call 72;refine(aL _ _ _ _).mono ?_;rintro e w' ⟨rfl,rfl⟩)
   go_ret;exact⟨aD HN.out.symm,HB.out⟩
  ·have hc':=am.1 hc
   go_wp2_with fail
   refine(aL _ _ _ _).mono ?_;rintro e w2 ⟨rfl,rfl⟩;rw[hc];cases hwy:eE j.dg j.wy
   ·have HN:=Jj (fH (j:=j) (fun h=>by rw[hwy] at h;cases h.2.2.2.1))
    go_wp2_with (go_at_call 164;refine(kU _ _ _).mono ?_;rintro e w' ⟨rfl,rfl⟩)
    go_ret;exact⟨aD HN.out.symm,HB.out⟩
   ·go_wp2_with fail
    refine(kU _ _ _).mono ?_;rintro e w2 ⟨rfl,rfl⟩;rw[hwy];have HWY:=Jj hwy;clear hwy hc hp
    go_wp2_with fail
    refine(eJ _ _ _ _).mono ?_;rintro e w2 ⟨rfl,b2⟩;replace HB:=Jj (aa HB.out b2);replace HK:=Jj (HK.out.below b2 HK.out.lt);replace HI:=Jj (HI.out.bel b2);clear b2 a0 a1 a2 a3 a4 a5 a6 a7 a8;cases hl:dE j.rw j.ac j.wi
    ·have HN:=Jj (fH (j:=j) (fun h=>by rw[hl] at h;cases h.2.2.2.2));go_wp2;go_ret;exact⟨aD HN.out.symm,HB.out⟩
    ·have HL:=Jj hl;clear hl;obtain⟨a0,a1,a2,a3,a4,a5,a6,a7,a8⟩:=HK.out.job
     go_wp2_with fail
     refine(lp _ j.poly j.fr j.wd _ HI.out jfr).mono ?_;rintro e w3 ⟨r,rfl,o1,b1⟩;obtain⟨A3,c3,rfl,-,-,-⟩:=o1.strs.open_;clear o1;generalize (dm j.poly j.fr j.wd).length=q;obtain⟨W3,hW3⟩:∃W3,W3=w3.alloc (.cells #[.slice A3 q c3] 32):=⟨_,rfl⟩;have b3:Below w2.heap.size w2 W3:=by rw[hW3];exact aa b1 (ab w3 (.cells #[.slice A3 q c3] 32))
     have HW3:=Jj hW3;replace HB:=Jj (aa HB.out b3);replace HK:=Jj (HK.out.below b3 HK.out.lt);replace HI:=Jj (HI.out.bel b3);clear b1 b3 hW3 a0 a1 a2 a3 a4 a5 a6 a7 a8;cases hs:cE j.poly j.fr j.wd
     ·have HN:=Jj (fH (j:=j) (fun h=>by rw[hs] at h;cases h.1))
      go_wp2_with fail
      rw[←HW3.out]
      go_quiet (fail)
      go_wp2;go_ret;exact⟨aD HN.out.symm,aV HB.out _⟩
     ·have HS:=Jj hs;clear hs
      go_wp2_with fail
      rw[←HW3.out];obtain⟨a0,a1,a2,a3,a4,a5,a6,a7,a8⟩:=HK.out.job;have hlt:=HK.out.lt;have tok1:True:=trivial
      go_region_held3 (fun w'=>w'.cell? ⟨w.heap.size,0,none⟩=some (.slice A j.poly.length c)∧w'.cell? ⟨w.heap.size,1,none⟩=some (.int .i64 j.fr)∧w'.cell? ⟨w.heap.size,2,none⟩=some (.int .i64 j.ct)∧w'.cell? ⟨w.heap.size,3,none⟩=some (.int .i64 j.wd)) (first|exact⟨a0,a1,a2,a3⟩|exact⟨a0',a1',a2',a3'⟩|go_keep) (first
       |((try go_simp);go_at_call 230;have _t:=tok1;refine(yw _ j.poly j.fr j.wd j.ct _ (by first|exact HI.out|exact HI.out.bel ((Below.refl _ _).drew)) jfr jct).mono ?_;rintro e w5 ⟨rfl,b5⟩;replace b5:Below W3.heap.size W3 w5:=(by first|exact b5|exact aa ((Below.refl _ _).drew) b5);have HB5:=Jj (aa HB.out b5);have K5:=HK.out.below b5 hlt;obtain⟨a0',a1',a2',a3',-⟩:=K5.job;clear tok1 b5 K5;(try dsimp only))
       |fail)
      all_goals
       clear a0 a1 a2 a3 a4 a5 a6 a7 a8 a0' a1' a2' a3';have HN:=Jj (show bH j=(ib j.poly j.fr j.wd j.ct==j.ct) by
        unfold bH;rw[HS.out,HWY.out,HL.out,decide_eq_true (show 1≤j.ct by omega)];rw[Bool.eq_iff_iff];simp)
       go_wp2;go_ret;exact⟨aD (by rw[HN.out]),HB5.out⟩
def cH (n:Int) (d:Nat):Int:=(n-(md n (ten d):Int)).tdiv (ten d)
def di (n:Int) (d:Nat) (y:Int):Int:=
 if y=0∨2*md n (ten d)<ten d then cH n d else if ten d<2*md n (ten d) then cH n d+1
 else if y=1 then(if n<0 then cH n d else cH n d+1) else cH n d+(md (cH n d) 2:Int)
theorem vX {n:Int} (h : -1000000000≤n∧n≤1000000000) (d:Nat) : -1000000000≤cH n d∧cH n d≤1000000000:=by
 have hT:=fV d;have hc:=pY n hT;have hm:=Int.emod_add_mul_ediv n (ten d);have he:n-(md n (ten d):Int)=(ten d:Int)*(n / (ten d:Int)):=by omega
 unfold cH;rw[he,Int.mul_tdiv_cancel_left _ (by omega)]
 constructor
 ·exact Int.le_ediv_of_mul_le (by omega) (by
   have:(-1000000000:Int)*(ten d:Int) ≤ -1000000000*1:=Int.mul_le_mul_of_nonpos_left (by omega) (by omega);omega)
 ·exact Int.le_of_lt_add_one (Int.ediv_lt_of_lt_mul (by omega) (by
   have:(1000000000+1:Int)*1≤(1000000000+1)*(ten d:Int):=Int.mul_le_mul_of_nonneg_left (by omega) (by omega);omega))
theorem md2 (n:Int):md n 2=0∨md n 2=1:=by have:=gW n (show 1≤2 by omega);omega
theorem wN {n:Int} (h : -1000000000≤n∧n≤1000000000) (d:Nat) (y:Int) : -1000000000≤di n d y∧di n d y≤1000000001:=by
 have:=vX h d;have:=md2 (cH n d);unfold di
 split
 ·omega
 ·split
  ·omega
  ·split
   ·split <;> omega
   ·omega
theorem fo (n:Int) (M:Nat) (w:World) (hM:1≤M∧M≤1000000000000):
  Calls prog 152 #[.int .i64 n,.int .i64 M] w fun e w'=>e=.returned (.int .i64 (md n M))∧w=w':=by
 have hlt:=gW n hM.1;obtain⟨e1,e2⟩:=ut hlt;have e3:(((md n M:Nat):Int)-(M:Int)+(M:Int)).tmod M=md n M:=by rw[Int.sub_add_cancel];exact e2
 have hT0:((M:Nat):Int)≠0:=by omega
 rcases tj n hM.1 with ht|⟨ht,hneg⟩
 all_goals
  go_enter func152,ntmps152
  go_wp2;go_ret
  first
   |exact⟨rfl,rfl⟩
   |exact⟨kB (by first|exact e1|exact e3|(rw[Int.emod_eq_of_lt (by omega) (by omega)];omega)|(rw[Int.add_emod_right];exact Int.emod_eq_of_lt (by omega) (by omega))),rfl⟩
theorem tT {n:Int} {d:Nat} {y:Int} (hy:0≤y∧y≤2):
  ((y=0∨(2*(md n (ten d):Int)<(ten d:Int)))∧di n d y=cH n d) ∨
  (y≠0∧(ten d:Int)<2*(md n (ten d):Int)∧di n d y=cH n d+1) ∨
  (y=1∧2*(md n (ten d):Int)=(ten d:Int)∧n<0∧di n d y=cH n d) ∨
  (y=1∧2*(md n (ten d):Int)=(ten d:Int)∧0<n∧di n d y=cH n d+1) ∨
  (y=2∧2*(md n (ten d):Int)=(ten d:Int)∧di n d y=cH n d+(md (cH n d) 2:Int)):=by
 by_cases h1:y=0∨2*md n (ten d)<ten d
 ·exact .inl ⟨h1.imp id (fun h=>by omega),by simp only[di,if_pos h1]⟩
 ·by_cases h2:ten d<2*md n (ten d)
  ·exact .inr (.inl ⟨fun e=>h1 (.inl e),by omega,by simp only[di,if_neg h1,if_pos h2]⟩)
  ·have he:2*(md n (ten d):Int)=(ten d:Int):=by omega
   by_cases h3:y=1
   ·by_cases h4:n<0
    ·exact .inr (.inr (.inl ⟨h3,he,h4,by simp only[di,if_neg h1,if_neg h2,if_pos h3,if_pos h4]⟩))
    ·refine .inr (.inr (.inr (.inl ⟨h3,he,?_,by simp only[di,if_neg h1,if_neg h2,if_pos h3,if_neg h4]⟩)));have h0:n≠0:=by
      intro e;subst e;have hz:md 0 (ten d)=0:=by simp[md]
      have:=fV d;omega
     omega
   ·exact .inr (.inr (.inr (.inr ⟨by omega,he,by simp only[di,if_neg h1,if_neg h2,if_neg h3]⟩)))
theorem iF (n:Int) (w:World):Calls prog 152 #[.int .i64 n,.int .i64 2] w fun e w'=>e=.returned (.int .i64 (md n 2))∧w=w':=fo n 2 w (by omega)
theorem yd (n:Int) (d:Nat) (y:Int) (w:World) (hn : -1000000000≤n∧n≤1000000000) (hd:d≤6) (hy:0≤y∧y≤2):
  Calls prog 165 #[.int .i64 n,.int .i64 d,.int .i64 y] w fun e w'=>e=.returned (.int .i64 (di n d y))∧w=w':=by
 have hT:=em (show d≤12 by omega);have hT1:=fV d;have hlt:=gW n hT1;have hl:=vX hn d;have hT0:¬((ten d:Nat):Int)=0:=by omega
 have h2:=md2 (cH n d);have hdv:(n-(md n (ten d):Int)).tdiv (ten d)=cH n d:=rfl;have cs:=tT (n:=n) (d:=d) hy
 rcases cs with ⟨h,hr⟩|⟨hy0,h,hr⟩|⟨rfl,h,hn0,hr⟩|⟨rfl,h,hn0,hr⟩|⟨rfl,h,hr⟩
 ·have HR:=Jj hr;clear hr;by_cases hy0:y=0
  ·subst hy0
   go_enter func165,ntmps165
   go_wp2_with (first|(go_at_call 150;refine(dx d _ (by omega)).mono ?_;rintro e w' ⟨rfl,rfl⟩)|(go_at_call 152;first|((with_reducible refine(fo n (ten d) _ ⟨hT1,hT⟩).mono ?_);rintro e w' ⟨rfl,rfl⟩)|(refine(iF (cH n d) _).mono ?_;rintro e w' ⟨rfl,rfl⟩)))
   go_ret;exact⟨kB (by rw[HR.out];try (first|rfl|(rw[H2.out];rfl)|(rw[IntWalk.wrap64_in _ (by have:=H2.out;omega),H2.out]))),rfl⟩
  ·have hyb:(y==0)=false:=by simp[hy0]
   have h':2*(md n (ten d):Int)<(ten d:Int):=by omega
   clear h
   go_enter func165,ntmps165
   go_wp2_with (first|(go_at_call 150;refine(dx d _ (by omega)).mono ?_;rintro e w' ⟨rfl,rfl⟩)|(go_at_call 152;first|((with_reducible refine(fo n (ten d) _ ⟨hT1,hT⟩).mono ?_);rintro e w' ⟨rfl,rfl⟩)|(refine(iF (cH n d) _).mono ?_;rintro e w' ⟨rfl,rfl⟩)))
   go_ret;exact⟨kB (by rw[HR.out];try (first|rfl|(rw[H2.out];rfl)|(rw[IntWalk.wrap64_in _ (by have:=H2.out;omega),H2.out]))),rfl⟩
 ·have HR:=Jj hr;clear hr;have hyb:(y==0)=false:=by simp[hy0]
  have hnl:¬ 2*(md n (ten d):Int)<(ten d:Int):=by omega
  go_enter func165,ntmps165
  go_wp2_with (first|(go_at_call 150;refine(dx d _ (by omega)).mono ?_;rintro e w' ⟨rfl,rfl⟩)|(go_at_call 152;first|((with_reducible refine(fo n (ten d) _ ⟨hT1,hT⟩).mono ?_);rintro e w' ⟨rfl,rfl⟩)|(refine(iF (cH n d) _).mono ?_;rintro e w' ⟨rfl,rfl⟩)))
  go_ret;exact⟨kB (by rw[HR.out];try (first|rfl|(rw[H2.out];rfl)|(rw[IntWalk.wrap64_in _ (by have:=H2.out;omega),H2.out]))),rfl⟩
 ·have HR:=Jj hr;clear hr;have hnl:¬ 2*(md n (ten d):Int)<(ten d:Int):=by omega
  have hng:¬(ten d:Int)<2*(md n (ten d):Int):=by omega
  have hn1:¬ 0<n:=by omega
  clear h
  go_enter func165,ntmps165
  go_wp2_with (first|(go_at_call 150;refine(dx d _ (by omega)).mono ?_;rintro e w' ⟨rfl,rfl⟩)|(go_at_call 152;first|((with_reducible refine(fo n (ten d) _ ⟨hT1,hT⟩).mono ?_);rintro e w' ⟨rfl,rfl⟩)|(refine(iF (cH n d) _).mono ?_;rintro e w' ⟨rfl,rfl⟩)))
  go_ret;exact⟨kB (by rw[HR.out];try (first|rfl|(rw[H2.out];rfl)|(rw[IntWalk.wrap64_in _ (by have:=H2.out;omega),H2.out]))),rfl⟩
 ·have HR:=Jj hr;clear hr;have hnl:¬ 2*(md n (ten d):Int)<(ten d:Int):=by omega
  have hng:¬(ten d:Int)<2*(md n (ten d):Int):=by omega
  have hn1:¬n<0:=by omega
  clear h
  go_enter func165,ntmps165
  go_wp2_with (first|(go_at_call 150;refine(dx d _ (by omega)).mono ?_;rintro e w' ⟨rfl,rfl⟩)|(go_at_call 152;first|((with_reducible refine(fo n (ten d) _ ⟨hT1,hT⟩).mono ?_);rintro e w' ⟨rfl,rfl⟩)|(refine(iF (cH n d) _).mono ?_;rintro e w' ⟨rfl,rfl⟩)))
  go_ret;exact⟨kB (by rw[HR.out];try (first|rfl|(rw[H2.out];rfl)|(rw[IntWalk.wrap64_in _ (by have:=H2.out;omega),H2.out]))),rfl⟩
 ·have HR:=Jj hr;clear hr;have hnl:¬ 2*(md n (ten d):Int)<(ten d:Int):=by omega
  have hng:¬(ten d:Int)<2*(md n (ten d):Int):=by omega
  clear h
  rcases h2 with h2|h2
  all_goals
   have H2:=Jj h2;rw[h2] at HR
   first
    |have hqb:(((md (cH n d) 2:Nat):Int)==0)=true:=by rw[h2];rfl
    |have hqb:(((md (cH n d) 2:Nat):Int)==0)=false:=by rw[h2];rfl
   clear h2
   go_enter func165,ntmps165
   go_wp2_with (first|(go_at_call 150;refine(dx d _ (by omega)).mono ?_;rintro e w' ⟨rfl,rfl⟩)|(go_at_call 152;first|((with_reducible refine(fo n (ten d) _ ⟨hT1,hT⟩).mono ?_);rintro e w' ⟨rfl,rfl⟩)|(refine(iF (cH n d) _).mono ?_;rintro e w' ⟨rfl,rfl⟩)))
   go_ret;exact⟨kB (by rw[HR.out];try (first|rfl|(rw[H2.out];rfl)|(rw[IntWalk.wrap64_in _ (by have:=H2.out;omega),H2.out]))),rfl⟩
theorem iG (n:Int) (w:World):Calls prog 206 #[.int .i64 n,.int .i64 2] w fun e w'=>e=.returned (.int .i64 (md n 2))∧w=w':=dp n 2 w (by omega)
theorem sV (n:Int) (d:Nat) (y:Int) (w:World) (hn : -1000000000≤n∧n≤1000000000) (hd:d≤6) (hy:0≤y∧y≤2):
  Calls prog 211 #[.int .i64 n,.int .i64 d,.int .i64 y] w fun e w'=>e=.returned (.tuple #[.int .i64 (di n d y),.bool true])∧w=w':=by
 have hT:=em (show d≤12 by omega);have hT1:=fV d;have hlt:=gW n hT1;have hl:=vX hn d;have hT0:¬((ten d:Nat):Int)=0:=by omega
 have h2:=md2 (cH n d);have hdv:(n-(md n (ten d):Int)).tdiv (ten d)=cH n d:=rfl;have cs:=tT (n:=n) (d:=d) hy;have hw1:inB n (-1000000000) 1000000000=true:=am.2 hn;have hw2:eE d y=true:=by simp[eE,inB];omega
 rcases cs with ⟨h,hr⟩|⟨hy0,h,hr⟩|⟨rfl,h,hn0,hr⟩|⟨rfl,h,hn0,hr⟩|⟨rfl,h,hr⟩
 ·have HR:=Jj hr;clear hr;by_cases hy0:y=0
  ·subst hy0
   go_enter func211,ntmps211
   go_wp2_with (first|(go_at_call 199;refine(aX _ _ _ (by omega) (by omega)).mono ?_;rintro e w' ⟨rfl,rfl⟩)|(go_at_call 210;refine(cQ _ _ _).mono ?_;rintro e w' ⟨rfl,rfl⟩)|(go_at_call 207;refine(dk d _ (by omega)).mono ?_;rintro e w' ⟨rfl,rfl⟩)|(go_at_call 206;first|((with_reducible refine(dp n (ten d) _ ⟨hT1,hT⟩).mono ?_);rintro e w' ⟨rfl,rfl⟩)|(refine(iG (cH n d) _).mono ?_;rintro e w' ⟨rfl,rfl⟩)))
   go_ret2;exact⟨by rw[HR.out];first|rfl|(rw[Int.natCast_zero,Int.add_zero];rfl),rfl⟩
  ·have hyb:(y==0)=false:=by simp[hy0]
   have h':2*(md n (ten d):Int)<(ten d:Int):=by omega
   clear h
   go_enter func211,ntmps211
   go_wp2_with (first|(go_at_call 199;refine(aX _ _ _ (by omega) (by omega)).mono ?_;rintro e w' ⟨rfl,rfl⟩)|(go_at_call 210;refine(cQ _ _ _).mono ?_;rintro e w' ⟨rfl,rfl⟩)|(go_at_call 207;refine(dk d _ (by omega)).mono ?_;rintro e w' ⟨rfl,rfl⟩)|(go_at_call 206;first|((with_reducible refine(dp n (ten d) _ ⟨hT1,hT⟩).mono ?_);rintro e w' ⟨rfl,rfl⟩)|(refine(iG (cH n d) _).mono ?_;rintro e w' ⟨rfl,rfl⟩)))
   go_ret2;exact⟨by rw[HR.out];first|rfl|(rw[Int.natCast_zero,Int.add_zero];rfl),rfl⟩
 ·have HR:=Jj hr;clear hr;have hyb:(y==0)=false:=by simp[hy0]
  have hnl:¬ 2*(md n (ten d):Int)<(ten d:Int):=by omega
  go_enter func211,ntmps211
  go_wp2_with (first|(go_at_call 199;refine(aX _ _ _ (by omega) (by omega)).mono ?_;rintro e w' ⟨rfl,rfl⟩)|(go_at_call 210;refine(cQ _ _ _).mono ?_;rintro e w' ⟨rfl,rfl⟩)|(go_at_call 207;refine(dk d _ (by omega)).mono ?_;rintro e w' ⟨rfl,rfl⟩)|(go_at_call 206;first|((with_reducible refine(dp n (ten d) _ ⟨hT1,hT⟩).mono ?_);rintro e w' ⟨rfl,rfl⟩)|(refine(iG (cH n d) _).mono ?_;rintro e w' ⟨rfl,rfl⟩)))
  go_ret2;exact⟨by rw[HR.out];first|rfl|(rw[Int.natCast_zero,Int.add_zero];rfl),rfl⟩
 ·have HR:=Jj hr;clear hr;have hnl:¬ 2*(md n (ten d):Int)<(ten d:Int):=by omega
  have hng:¬(ten d:Int)<2*(md n (ten d):Int):=by omega
  have hn1:¬ 0<n:=by omega
  clear h
  go_enter func211,ntmps211
  go_wp2_with (first|(go_at_call 199;refine(aX _ _ _ (by omega) (by omega)).mono ?_;rintro e w' ⟨rfl,rfl⟩)|(go_at_call 210;refine(cQ _ _ _).mono ?_;rintro e w' ⟨rfl,rfl⟩)|(go_at_call 207;refine(dk d _ (by omega)).mono ?_;rintro e w' ⟨rfl,rfl⟩)|(go_at_call 206;first|((with_reducible refine(dp n (ten d) _ ⟨hT1,hT⟩).mono ?_);rintro e w' ⟨rfl,rfl⟩)|(refine(iG (cH n d) _).mono ?_;rintro e w' ⟨rfl,rfl⟩)))
  go_ret2;exact⟨by rw[HR.out];first|rfl|(rw[Int.natCast_zero,Int.add_zero];rfl),rfl⟩
 ·have HR:=Jj hr;clear hr;have hnl:¬ 2*(md n (ten d):Int)<(ten d:Int):=by omega
  have hng:¬(ten d:Int)<2*(md n (ten d):Int):=by omega
  have hn1:¬n<0:=by omega
  clear h
  go_enter func211,ntmps211
  go_wp2_with (first|(go_at_call 199;refine(aX _ _ _ (by omega) (by omega)).mono ?_;rintro e w' ⟨rfl,rfl⟩)|(go_at_call 210;refine(cQ _ _ _).mono ?_;rintro e w' ⟨rfl,rfl⟩)|(go_at_call 207;refine(dk d _ (by omega)).mono ?_;rintro e w' ⟨rfl,rfl⟩)|(go_at_call 206;first|((with_reducible refine(dp n (ten d) _ ⟨hT1,hT⟩).mono ?_);rintro e w' ⟨rfl,rfl⟩)|(refine(iG (cH n d) _).mono ?_;rintro e w' ⟨rfl,rfl⟩)))
  go_ret2;exact⟨by rw[HR.out];first|rfl|(rw[Int.natCast_zero,Int.add_zero];rfl),rfl⟩
 ·have HR:=Jj hr;clear hr;have hnl:¬ 2*(md n (ten d):Int)<(ten d:Int):=by omega
  have hng:¬(ten d:Int)<2*(md n (ten d):Int):=by omega
  clear h
  rcases h2 with h2|h2
  all_goals
   have H2:=Jj h2;rw[h2] at HR
   first
    |have hqb:(((md (cH n d) 2:Nat):Int)==0)=true:=by rw[h2];rfl
    |have hqb:(((md (cH n d) 2:Nat):Int)==0)=false:=by rw[h2];rfl
   clear h2
   go_enter func211,ntmps211
   go_wp2_with (first|(go_at_call 199;refine(aX _ _ _ (by omega) (by omega)).mono ?_;rintro e w' ⟨rfl,rfl⟩)|(go_at_call 210;refine(cQ _ _ _).mono ?_;rintro e w' ⟨rfl,rfl⟩)|(go_at_call 207;refine(dk d _ (by omega)).mono ?_;rintro e w' ⟨rfl,rfl⟩)|(go_at_call 206;first|((with_reducible refine(dp n (ten d) _ ⟨hT1,hT⟩).mono ?_);rintro e w' ⟨rfl,rfl⟩)|(refine(iG (cH n d) _).mono ?_;rintro e w' ⟨rfl,rfl⟩)))
   go_ret2;exact⟨by rw[HR.out];first|rfl|(rw[Int.natCast_zero,Int.add_zero];rfl),rfl⟩
def fR (l:List Int) (d y:Int):Bool:=ag l&&eE d y
def rtL (l:List Int) (d y:Int):List Int:=if fR l d y=true then gen (fun i=>di (at_ l i) d.toNat y) l.length else[]
theorem uT {l:List Int} {d y:Int} (h:ag l=false∨eE d y=false):fR l d y=false∧rtL l d y=[]:=by
 have:fR l d y=false:=by rcases h with h|h <;> simp[fR,h]
 exact⟨this,by simp[rtL,this]⟩
theorem Dy {l:List Int} {d:Nat} {y:Int} (h1:ag l=true) (h2:eE d y=true):fR l d y=true∧rtL l d y=gen (fun i=>di (at_ l i) d y) l.length:=by
 have:fR l d y=true:=by simp[fR,h1,h2]
 exact⟨this,by simp[rtL,this]⟩
theorem sw {d y:Int}:eE d y=true↔(0≤d∧d≤6)∧0≤y∧y≤2:=by simp[eE,inB,and_assoc]
def wS (l:List Int) (d:Nat) (y:Int) (k:Nat):List Int:=gen (fun i=>di (at_ l i) d y) k
theorem yr (l:List Int) (d:Nat) (y:Int) (k:Nat):(wS l d y k).length=k:=ar _ _
theorem Dx (l:List Int) (d:Nat) (y:Int) (k:Nat):wS l d y (k+1)=wS l d y k++[di (at_ l k) d y]:=fE _ _
theorem rB (v:Value) (l:List Int) (d y:Int) (w:World) (hv:ai w v l):
  Calls prog 127 #[v,.int .i64 d,.int .i64 y] w (cK w (rtL l d y) (fR l d y)):=by
 have HV:=Jj hv;obtain⟨A,c,rfl,hlc,hc,hrd⟩:=hv.open_;have HR:=Jj hrd;clear hv hrd;cases ht:ag l
 ·have HN:=Jj (uT (d:=d) (y:=y) (.inl ht))
  go_enter func127,ntmps127
  go_wp2_with (first|(go_at_call 115;refine(aF _ _ _ HV.out).mono ?_;rintro e w' ⟨rfl,rfl⟩)|(go_at_call 210;refine(cQ _ _ _).mono ?_;rintro e w' ⟨rfl,rfl⟩))
  go_ret2;exact⟨_,by rw[HN.out.1];rfl,by rw[HN.out.2];exact Own.nil_ _ _,Below.refl _ _⟩
 ·cases hw:eE d y
  ·have HN:=Jj (uT (l:=l) (.inr hw))
   go_enter func127,ntmps127
   go_wp2_with (first|(go_at_call 115;refine(aF _ _ _ HV.out).mono ?_;rintro e w' ⟨rfl,rfl⟩)|(go_at_call 210;refine(cQ _ _ _).mono ?_;rintro e w' ⟨rfl,rfl⟩))
   go_ret2;exact⟨_,by rw[HN.out.1];rfl,by rw[HN.out.2];exact Own.nil_ _ _,Below.refl _ _⟩
  ·obtain⟨hd,hy⟩:=sw.1 hw;obtain⟨d,rfl⟩:∃k:Nat,d=k:=⟨d.toNat,by omega⟩;obtain⟨l1,l60,hb⟩:=aA ht;have HN:=Jj (Dy ht hw);have HB:=Jj hb;have hmk:=fun W=>Tryz.mkInts l.length (by omega) W;clear hb
   go_enter func127,ntmps127
   go_wp2_with (first|(go_at_call 115;refine(aF _ _ _ HV.out).mono ?_;rintro e w' ⟨rfl,rfl⟩)|(go_at_call 210;refine(cQ _ _ _).mono ?_;rintro e w' ⟨rfl,rfl⟩))
   clear ht hw
   go_loopw [25] (fun i wr=>∃(k:Nat) (cs:List Value),k≤l.length∧i=.int .i64 k∧Blk wr w.heap.size 3 cs∧cs.length=l.length∧(∀j,j<k→cs[j]?=some (.int .i64 (di (at_ l j) d y)))∧Below w.heap.size w wr)
    (fun i _=>l.length-(intOf i).toNat)
   case atStart=>exact⟨0,_,Jy _,rfl,Blk.new _ _ _,bi _ _,fun j hj=>absurd hj (by omega),(Below.refl _ _).alloc (Jr _) _⟩
   case round=>
    obtain⟨k,cs,hk,rfl,hblk,hcl,hcs,hbel⟩:=hrel;have HO:=Jj (Jq hcl (Jq hcs hbel));have hz:=hbel.size;clear hcl hcs;by_cases hlt:k<l.length
    ·obtain⟨b,o,rfl,hbb,hcell⟩:=HR.out.ints (by omega);have ck:wr.cell? ⟨b,o+k,none⟩=some (.int .i64 (at_ l k)):=(hbel.cell (by exact hbb)).trans (hcell k hlt);have c3:wr.cell? ⟨w.heap.size,k,none⟩=some (cs[k]'(by rw[HO.out.1];exact hlt)):=by rw[hblk.cell];exact List.getElem?_eq_getElem _
     have hfw:=hblk.frozen k;have hbk:=HB.out k hlt;clear hbel hcell
     go_wp2_with fail
     refine(sV (at_ l k) d y _ hbk (by omega) hy).mono ?_;rintro e w3 ⟨rfl,rfl⟩;go_wp2;go_roundw
     case rel=>exact⟨k+1,_,by omega,by go_num,hblk.set_ k _,by rw[List.length_set];exact HO.out.1,fun j hj=>by
      by_cases e:j=k
      ·subst e;rw[List.getElem?_set_self (by rw[HO.out.1];exact hlt)]
      ·rw[List.getElem?_set_ne (by omega)];exact HO.out.2.1 j (by omega),HO.out.2.2.setCell (Jr _) _⟩
     case measure=>simp[intOf];omega
    ·have hnl:k=l.length:=by omega
     subst hnl;have OW:=Jj (jt (f:=fun j=>di (at_ l j) d y) (Jr w.heap.size) hblk HO.out.1 (by omega) HO.out.2.1 (fun j hj=>by have:=wN (HB.out j hj) d y;omega));clear hbel;go_wp2;go_ret2;exact⟨_,by rw[HN.out.1];rfl,by rw[HN.out.2];exact OW.out,HO.out.2.2⟩
theorem se (v:Value) (l:List Int) (d y:Int) (w:World) (hv:ai w v l):
  Calls prog 89 #[v,.int .i64 d,.int .i64 y] w (cK w (rtL l d y) (fR l d y)):=by
 have HV:=Jj hv;have OE:=Jj (Own.empty w w.heap.size (Jr _));have HVE:=Jj (hv.bel (ab w (.cells #[] 3)));obtain⟨A,c,rfl,hlc,hc,hrd⟩:=hv.open_;have HR:=Jj hrd;clear hv hrd;cases ht:ag l
 ·have HN:=Jj (uT (d:=d) (y:=y) (.inl ht))
  go_enter func89,ntmps89
  go_wp2_with (first|(go_at_call 32;refine(az _ _ _ HVE.out).mono ?_;rintro e w' ⟨rfl,rfl⟩)|(go_at_call 164;refine(kU _ _ _).mono ?_;rintro e w' ⟨rfl,rfl⟩))
  go_ret2;exact⟨_,by rw[HN.out.1];rfl,by rw[HN.out.2];exact OE.out,ab _ _⟩
 ·cases hw:eE d y
  ·have HN:=Jj (uT (l:=l) (.inr hw))
   go_enter func89,ntmps89
   go_wp2_with (first|(go_at_call 32;refine(az _ _ _ HVE.out).mono ?_;rintro e w' ⟨rfl,rfl⟩)|(go_at_call 164;refine(kU _ _ _).mono ?_;rintro e w' ⟨rfl,rfl⟩))
   go_ret2;exact⟨_,by rw[HN.out.1];rfl,by rw[HN.out.2];exact OE.out,ab _ _⟩
  ·obtain⟨hd,hy⟩:=sw.1 hw;obtain⟨d,rfl⟩:∃k:Nat,d=k:=⟨d.toNat,by omega⟩;obtain⟨l1,l60,hb⟩:=aA ht;have HN:=Jj (Dy ht hw);have HB:=Jj hb;clear hb
   go_enter func89,ntmps89
   go_wp2_with (first|(go_at_call 32;refine(az _ _ _ HVE.out).mono ?_;rintro e w' ⟨rfl,rfl⟩)|(go_at_call 164;refine(kU _ _ _).mono ?_;rintro e w' ⟨rfl,rfl⟩))
   clear ht hw
   go_loopw [8,9] (fun r i wr=>∃k:Nat,k≤l.length∧i=.int .i64 k∧Own wr w.heap.size r (wS l d y k)∧Below w.heap.size w wr) (fun _ i _=>l.length-(intOf i).toNat)
   case atStart=>exact⟨0,Jy _,rfl,OE.out,ab _ _⟩
   case round=>
    obtain⟨k,hk,rfl,ho,hbel⟩:=hrel;have HO:=Jj (Jq ho hbel);have hz:=hbel.size;clear ho;by_cases hlt:k<l.length
    ·obtain⟨b,o,rfl,hbb,hcell⟩:=HR.out.ints (by omega);have ck:wr.cell? ⟨b,o+k,none⟩=some (.int .i64 (at_ l k)):=(hbel.cell (by exact hbb)).trans (hcell k hlt);have hbk:=HB.out k hlt;have hrb:=wN hbk d y;clear hbel hcell
     go_wp2_with fail
     refine(yd (at_ l k) d y _ hbk (by omega) hy).mono ?_;rintro e w3 ⟨rfl,rfl⟩
     go_wp2_with (at_builtin;go_must (refine du rfl (.tmp 27) (.tmp 35) (by rfl) w.heap.size _ (wS l d y k) (by rfl) (by exact HO.out.1.bel (ab _ _)) _ _ (di (at_ l k) d y) (by rfl) (by exact bh _ _ _) (by omega) (by rw[yr];omega) (by simp;omega) ?_;intro v1 w5 ho hg _))
     go_roundw
     case rel=>exact⟨k+1,by omega,by go_num,by rw[Dx];exact ho,dN (aa HO.out.2 (ab _ _)) (HO.out.1.bel (ab _ _)) hg⟩
     case measure=>simp[intOf];omega
    ·have hnl:k=l.length:=by omega
     subst hnl;clear hbel;go_wp2;go_ret2;exact⟨_,by rw[HN.out.1];rfl,by rw[HN.out.2];exact HO.out.1,HO.out.2⟩
def jvL (j:bK):List Int:=cf j.poly j.fr j.ct
def li (j:bK):Bool:=bH j&&fR (jvL j) j.dg j.wy
def jtL (j:bK):List Int:=if bH j=true then rtL (jvL j) j.dg j.wy else[]
theorem uR {j:bK} (h:bH j=false):li j=false∧jtL j=[]:=by simp[li,jtL,h]
theorem CN {j:bK} (h:bH j=true):li j=fR (jvL j) j.dg j.wy∧jtL j=rtL (jvL j) j.dg j.wy:=by simp[li,jtL,h]
theorem CM {j:bK} (h:bH j=true):cw j.poly j.fr j.ct=true:=by
 obtain⟨-,h2,h3,-⟩:=iE.1 h;cases hv:cw j.poly j.fr j.ct
 ·rw[oQ (.inl hv)] at h3;omega
 ·rfl
theorem sW (l:List Int) (d y:Int):(rtL l d y).length≤l.length:=by
 unfold rtL
 split
 ·rw[ar];exact Jr _
 ·simp
theorem GN (j:bK):(jtL j).length≤60:=by
 unfold jtL
 split
 ·exact Js (sW _ _ _) (kF _ _ _)
 ·simp
theorem yg (v:Value) (j:bK) (w:World) (hv:ai w v j.poly) (hj:j.In):
  Calls prog 156 #[cr v j] w (cK w (rtL (jvL j) j.dg j.wy) (fR (jvL j) j.dg j.wy)):=by
 have HJ:=Jj hj;have HV:=Jj hv;obtain⟨A,c,rfl,-,-,-⟩:=hv.open_;clear hv hj;have B0:Below w.heap.size w (w.alloc (.cells (aS (.slice A j.poly.length c) j).toArray 97)):=ab w _;have K1:=Blk.new w 97 (aS (.slice A j.poly.length c) j);unfold cr
 go_enter func156,ntmps156
 go_wp2_with fail
 change Calls _ _ _ (w.alloc (.cells (aS (.slice A j.poly.length c) j).toArray 97)) _;generalize hW:w.alloc (.cells (aS (.slice A j.poly.length c) j).toArray 97)=W at K1 B0 ⊢;clear hW;refine(kE _ j.poly j.fr j.ct _ (HV.out.bel B0) HJ.out.fr HJ.out.ct).mono ?_;rintro e w2 ⟨r,rfl,o1,b1⟩;have HB:=Jj (aa B0 b1);have HO:=Jj o1.ints;obtain⟨a0,a1,a2,a3,a4,a5,a6,a7,a8⟩:=(K1.below b1 K1.lt).job;obtain⟨A2,c2,rfl,-,-,-⟩:=o1.ints.open_;clear b1 o1 B0 K1
 go_wp2_with fail
 refine(se _ (jvL j) j.dg j.wy _ HO.out).mono ?_;rintro e w3 ⟨r3,rfl,o3,b3⟩;have H3:=Jj (Jq (o3.lower (base':=w.heap.size) HB.out.size) (aa HB.out b3));clear o3 b3;go_wp2;go_ret2;exact⟨_,rfl,H3.out.1,H3.out.2⟩
theorem AU (v:Value) (j:bK) (w:World) (hv:ai w v j.poly) (hj:j.In):
  Calls prog 83 #[cr v j] w (cK w (jtL j) (li j)):=by
 have HJ:=Jj hj;have HV:=Jj hv;obtain⟨A,c,rfl,-,-,-⟩:=hv.open_;clear hv hj;have B0:Below w.heap.size w (w.alloc (.cells (aS (.slice A j.poly.length c) j).toArray 97)):=ab w _;have K1:=Blk.new w 97 (aS (.slice A j.poly.length c) j);unfold cr
 go_enter func83,ntmps83
 go_wp2_with fail
 change Calls _ _ #[cr (.slice A j.poly.length c) j] (w.alloc (.cells (aS (.slice A j.poly.length c) j).toArray 97)) _;generalize hW:w.alloc (.cells (aS (.slice A j.poly.length c) j).toArray 97)=W at K1 B0 ⊢;clear hW;refine(qz _ j _ (HV.out.bel B0) HJ.out).mono ?_;rintro e w2 ⟨rfl,b1⟩;have HB:=Jj (aa B0 b1);have HK:=Jj (K1.below b1 K1.lt);clear b1 B0 K1;cases hq:bH j
 ·have HN:=Jj (uR hq);have OE:=Jj (Own.empty w2 w.heap.size HB.out.size);go_wp2;go_ret2;exact⟨_,by rw[HN.out.1];rfl,by rw[HN.out.2];exact OE.out,aa HB.out (ab _ _)⟩
 ·have HN:=Jj (CN hq);obtain⟨a0,a1,a2,a3,a4,a5,a6,a7,a8⟩:=HK.out.job
  go_wp2_with fail
  clear a0 a1 a2 a3 a4 a5 a6 a7 a8;change Calls _ _ #[cr (.slice A j.poly.length c) j] _ _;refine(yg _ j _ (HV.out.bel HB.out) HJ.out).mono ?_;rintro e w3 ⟨r3,rfl,o3,b3⟩;have H3:=Jj (Jq (o3.lower (base':=w.heap.size) HB.out.size) (aa HB.out b3));clear o3 b3;go_wp2;go_ret2;exact⟨_,by rw[HN.out.1];rfl,by rw[HN.out.2];exact H3.out.1,H3.out.2⟩
theorem zS (v:Value) (j:bK) (w:World) (hv:ai w v j.poly) (hj:j.In):
  Calls prog 228 #[cr v j] w (cK w (jtL j) (li j)):=by
 have HJ:=Jj hj;have HV:=Jj hv;obtain⟨A,c,rfl,-,-,-⟩:=hv.open_;clear hv hj;have B0:Below w.heap.size w (w.alloc (.cells (aS (.slice A j.poly.length c) j).toArray 97)):=ab w _;have K1:=Blk.new w 97 (aS (.slice A j.poly.length c) j);unfold cr
 go_enter func228,ntmps228
 go_wp2_with fail
 change Calls _ _ #[cr (.slice A j.poly.length c) j] (w.alloc (.cells (aS (.slice A j.poly.length c) j).toArray 97)) _;generalize hW:w.alloc (.cells (aS (.slice A j.poly.length c) j).toArray 97)=W at K1 B0 ⊢;clear hW;refine(qm _ j _ (HV.out.bel B0) HJ.out).mono ?_;rintro e w2 ⟨rfl,b1⟩;have HB:=Jj (aa B0 b1);have HK:=Jj (K1.below b1 K1.lt);clear b1 B0 K1;cases hq:bH j
 ·have HN:=Jj (uR hq);go_wp2;go_ret2;exact⟨_,by rw[HN.out.1];rfl,by rw[HN.out.2];exact Own.nil_ _ _,HB.out⟩
 ·have HN:=Jj (CN hq);have hval:=CM hq;obtain⟨a0,a1,a2,a3,a4,a5,a6,a7,a8⟩:=HK.out.job
  go_wp2_with fail
  clear a0 a1 a2 a3 a4 a5 a6 a7 a8;refine(iD _ j.poly j.fr j.ct _ (HV.out.bel HB.out) HJ.out.fr HJ.out.ct).mono ?_;rintro e w3 ⟨r3,rfl,o3,b3⟩;rw[hval];replace HB:=Jj (aa HB.out b3);replace HK:=Jj (HK.out.below b3 HK.out.lt);have HO:=Jj o3.ints;obtain⟨a0,a1,a2,a3,a4,a5,a6,a7,a8⟩:=HK.out.job;obtain⟨A3,c3,rfl,-,-,-⟩:=o3.ints.open_;clear o3 b3 hval hq
  go_wp2_with fail
  clear a0 a1 a2 a3 a4 a5 a6 a7 a8;refine(rB _ (jvL j) j.dg j.wy _ HO.out).mono ?_;rintro e w4 ⟨r4,rfl,o4,b4⟩;have H3:=Jj (Jq (o4.lower (base':=w.heap.size) HB.out.size) (aa HB.out b4));clear o4 b4;go_wp2;go_ret2;exact⟨_,by rw[HN.out.1];rfl,by rw[HN.out.2];exact H3.out.1,H3.out.2⟩
end Go.Proofs.YtfmjklgfpiffbaaGreatDoor
namespace Go.Proofs.YtfmjklgfpiffbaaGreatDoor
open Go.RowKit Go.Proofs.Tryz
set_option linter.unusedVariables false
set_option linter.unusedSimpArgs false
set_option maxRecDepth 100000
set_option maxHeartbeats 8000000
def Fr (p:List Int) (n:Int) (k:Nat):List ByteArray:=eY (fun i=>pS (dn (p.drop i) n) k) p.length
theorem kJ (p:List Int) (n:Int) (k:Nat):(Fr p n k).length=p.length:=dU _ _
theorem sU {p:List Int} {n:Int} {k i:Nat} (h:i<p.length):sat (Fr p n k) i=pS (dn (p.drop i) n) k:=ke h
theorem s8 {p:List Int} {n:Int} {k:Int} (h:cE p n k=true):et p n=true∧(1≤k∧k≤12)∧dm p n k=Fr p n k.toNat∧∀i,i<p.length→pj (dn (p.drop i) n) k.toNat=true:=by
 have hs:dR p n=true:=by
  cases hq:dR p n
  ·rw[lR hq] at h;cases h
  ·rfl
 have ha:et p n=true:=by
  cases hq:et p n
  ·rw[(ir hq).1] at hs;cases hs
  ·rfl
 obtain⟨e1,e2⟩:=la ha;have hq:av (gz p n)=true:=by rw[←e1];exact hs
 rw[ic hq] at e2;have hw:1≤k∧k≤12:=by
  cases hw:inB k 1 12
  ·rw[zm hw (ou.2 hs)] at h;cases h
  ·exact am.1 hw
 have hc:∀i,i<p.length→bl (dn (p.drop i) n) k=true:=by
  intro i hi;cases hco:bl (dn (p.drop i) n) k
  ·have hl:i<(aO p n).length:=by rw[e2,gA];exact hi
   rw[om hl (by rw[e2,gz,bP hi];exact hco)] at h;cases h
  ·rfl
 have hkn:((k.toNat:Nat):Int)=k:=by omega
 refine⟨ha,hw,?_,fun i hi=>?_⟩
 ·rw[s9 h]
  apply DL
  ·rw[lg,e2,gA,kJ]
  ·intro i hi;rw[lg,e2,gA] at hi;rw[sU hi];unfold iR;rw[ke (by rw[e2,gA];exact hi),e2,gz,bP hi];unfold dM;rw[if_pos (hc i hi)]
 ·have:=hc i hi;rw[←hkn,dB _ (by omega)] at this;exact this
theorem Hd {p:List Int} {n:Int} {k:Int} (h:cE p n k=true):af (dm p n k)=true:=by
 obtain⟨ha,hw,e,-⟩:=s8 h;obtain⟨p1,p7,-⟩:=bf.1 (nC.1 ha).1;rw[e];refine ap.2 ⟨by rw[kJ];exact p1,by rw[kJ];exact p7,fun i hi=>?_⟩;rw[kJ] at hi;rw[sU hi,sU (by omega)];exact⟨xE _ (by omega) (by omega),by rw[nG,nG]⟩
end Go.Proofs.YtfmjklgfpiffbaaGreatDoor
