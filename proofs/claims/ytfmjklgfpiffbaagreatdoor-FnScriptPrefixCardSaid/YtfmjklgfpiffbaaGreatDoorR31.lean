/-
  Parts of the proof of one statement, merged: ScP ScQ Sums.
-/
import Derived.Test.YtfmjklgfpiffbaaGreatDoorR23
import Derived.Test.YtfmjklgfpiffbaaGreatDoorR24
import Derived.Test.YtfmjklgfpiffbaaGreatDoorR28
namespace Go.Proofs.YtfmjklgfpiffbaaGreatDoor
open Go.RowKit Go.Proofs.Tryz
set_option linter.unusedVariables false
set_option linter.unusedSimpArgs false
set_option maxRecDepth 100000
set_option maxHeartbeats 8000000
def nlS:ByteArray:=⟨#[10]⟩
theorem Gl {L R r:Nat}:jB L R r≤(L+R-1) / R:=Nat.div_le_div_right (by omega)
theorem Fw (L R:Nat) (hR:0<R):(L+R-1) / R*min R L≤2*L:=by
 rcases Nat.lt_or_ge L R with h|h
 ·have h1:(L+R-1) / R<2:=by rw[Nat.div_lt_iff_lt_mul hR];omega
  have h2:(L+R-1) / R*min R L≤1*L:=Nat.mul_le_mul (by omega) (Nat.min_le_right _ _);omega
 ·have h1:(L+R-1) / R*R≤L+R-1:=Nat.div_mul_le_self _ _;rw[Nat.min_eq_left h];omega
theorem Hc {W:Nat} {e:List Int} {R r:Nat} (h:mP W e R r):(mQ W e R r).size≤(1+W)*((e.length+R-1) / R):=by
 have h1:=lG h;exact Js h1 (Nat.mul_le_mul (Jr _) Gl)
theorem Fl {W:Nat} {e:List Int} {R:Nat} (a:ByteArray) (h:kK W e R (min R e.length)) (hR:0<R) (hW:W≤12):(cB a (dW W e R (min R e.length))).size≤a.size+27*e.length:=by
 have h1:=pA (a:=a) (ls:=dW W e R (min R e.length)) (B:=(1+W)*((e.length+R-1) / R)) (fun s hs=>by
  obtain⟨i,hi,rfl⟩:=List.mem_map.1 hs;exact Hc (h i (List.mem_range.1 hi)))
 rw[kZ,Nat.add_mul,Nat.mul_assoc] at h1;have h2:=Fw e.length R hR;have h3:(1+W)*((e.length+R-1) / R*min R e.length)≤13*(2*e.length):=Nat.mul_le_mul (by omega) h2;have h4:min R e.length≤e.length:=Nat.min_le_right _ _;omega
theorem FN {W:Nat} {l:List Int} {R M n:Nat} (h:mN W l R M n) (hR:0<R) (hW:W≤12):(br W l R M n).size≤n+27*min (n*M) l.length:=by
 induction n with
 |zero=>exact Jy _
 |succ k ih=>
  have h1:=ih (fun p hp=>h p (by omega));have h2:=dH l M k;have h3:=Fl (e:=pgE l M k) (if k=0 then br W l R M k else br W l R M k++⟨#[10]⟩) (h k (Nat.lt_succ_self k)) hR hW;have h5:(if k=0 then br W l R M k else br W l R M k++⟨#[10]⟩).size≤(br W l R M k).size+1:=by
   split
   ·omega
   ·rw[Jt];exact Jr _
  have h6:br W l R M (k+1)=cB (if k=0 then br W l R M k else br W l R M k++⟨#[10]⟩) (pgL W l R M k):=rfl;have h7:pgL W l R M k=dW W (pgE l M k) R (min R (pgE l M k).length):=rfl;rw[h6,h7,show(k+1)*M=k*M+M from Nat.succ_mul k M];generalize k*M=q at *;generalize (cB (if k=0 then br W l R M k else br W l R M k++⟨#[10]⟩) (dW W (pgE l M k) R (min R (pgE l M k).length))).size=z at *;omega
theorem zn {W:Nat} {l:List Int} {R A:Nat} (h:mS W l R A=true) (hR:0<R) (hA:0<A) (hW:W≤12) (hl:l.length≤60):(shS W l R A).size≤1680:=by
 have hM:0<R*A:=Nat.mul_pos hR hA;have h1:=FN (of_decide_eq_true h) hR hW;have h2:=jS (l:=l) hM;have h3:min (pgN l (R*A)*(R*A)) l.length≤l.length:=Nat.min_le_right _ _;unfold shS;omega
def kz (e:List Int) (R c:Nat):Nat→Int
 |0=>0
 |k+1=>kz e R c k+if k / R=c then at_ e k else 0
theorem pz (e:List Int) (R c k:Nat):kz e R c (k+1)=kz e R c k+if k / R=c then at_ e k else 0:=rfl
theorem sT {e:List Int} {R c:Nat} (h:∀j,j<e.length → -1000000000≤at_ e j∧at_ e j≤1000000000):∀k,k≤e.length → -1000000000*(k:Int)≤kz e R c k∧kz e R c k≤1000000000*(k:Int)
 |0,_=>by simp[kz]
 |k+1,hk=>by
  have ih:=sT (R:=R) (c:=c) h k (by omega);have h1:=h k (by omega);rw[pz]
  split <;> omega
def psL (e:List Int) (R A k:Nat):List Int:=gen (fun c=>kz e R c k) A
theorem gI (e:List Int) (R A k:Nat):(psL e R A k).length=A:=ar _ _
theorem rP {e:List Int} {R A k c:Nat} (h:c<A):at_ (psL e R A k) c=kz e R c k:=bP h
theorem Fq {e:List Int} {R A k:Nat} (h:k / R<A):psL e R A (k+1)=(psL e R A k).set (k / R) (kz e R (k / R) k+at_ e k):=by
 apply gg
 ·rw[gI,List.length_set,gI]
 ·intro j hj;rw[gI] at hj;rw[rP hj,re j (by rw[gI];exact h),pz];by_cases e1:j=k / R
  ·rw[if_pos e1,if_pos e1.symm,e1]
  ·rw[if_neg e1,if_neg (fun h=>e1 h.symm),rP hj];omega
theorem IH {e:List Int} {R A k:Nat} (h:∀j,j<e.length → -1000000000≤at_ e j∧at_ e j≤1000000000) (hk:k≤e.length) (hl:e.length≤60):∀n∈psL e R A k,-100000000000<n∧n<100000000000:=by
 intro n hn;simp[psL,gen] at hn;obtain⟨c,hc,rfl⟩:=hn;have:=sT (R:=R) (c:=c) h k hk;omega
theorem Dl {l:List Int} (h:ag l=true) (M p:Nat):∀j,j<(pgE l M p).length → -1000000000≤at_ (pgE l M p) j∧at_ (pgE l M p) j≤1000000000:=by
 intro j hj;rw[dH] at hj;rw[Dk l (by omega)];exact(aA h).2.2 _ (by omega)
def iI (R A:Nat) (l:List Int) (p:Nat):List Int:=psL (pgE l (R*A) p) R A (pgE l (R*A) p).length
attribute [local go_sem ↓] Go.wp_at_zero Go.wp_at_succ
theorem wC (R A W M p:Nat) (v:Value) (l:List Int) (w:World) (hv:ai w v l) (h1:1≤R∧R≤20) (h2:1≤A∧A≤6) (h3:1≤W∧W≤12) (hl:l.length≤60) (hM:R*A=M) (ht:ag l=true) (hp:p<pgN l M):
  Calls prog 133 #[.agg #[.int .i64 R,.int .i64 A,.int .i64 W],v,.int .i64 p] w fun e w'=>∃r,e=.returned r∧Own w' w.heap.size r (psL (pgE l M p) R A (pgE l M p).length)∧Below w.heap.size w w':=by
 have HV:=Jj hv;have HM:=Jj hM;have HPL:=Jj hp;have HTO:=Jj ht;have hel:(pgE l M p).length≤60:=by rw[dH];exact Js (Nat.min_le_right _ _) (Js (Nat.sub_le _ _) hl)
 have helM:(pgE l M p).length≤M:=by rw[dH];exact Nat.min_le_left _ _
 have HIN:=Jj (Dl ht M p);obtain⟨E,hE⟩:∃E,pgE l M p=E:=⟨_,rfl⟩;rw[hE] at hel helM HIN;rw[hE];have EE:=Jj hE;clear hE;obtain⟨B,cp,rfl,hlc,hc,hrd⟩:=hv.open_;have K1:=Blk.new w 29 [.int .i64 R,.int .i64 A,.int .i64 W];have B1:=ab w (.cells #[.int .i64 R,.int .i64 A,.int .i64 W] 29);obtain⟨a0,a1,a2⟩:=K1.lay;clear hv hrd hM hp ht
 go_enter func133,ntmps133
 go_wp2_with fail
 refine(wE R A W M p _ l _ (HV.out.bel B1) h1 h2 h3 hl HM.out HTO.out HPL.out).mono ?_;rintro e w2 ⟨rfl,b2⟩;replace K1:=K1.below b2 K1.lt;have HB:=Jj (aa B1 b2);clear a0 a1 a2 b2 B1;obtain⟨a0,a1,a2⟩:=K1.lay;have hmk:=fun W=>Tryz.mkInts A (by omega) W;have OZ:=Own.zeros w2 A (by omega);have BZ:=ab w2 (.cells (bz A (.int .i64 0)).toArray 3);have KZ:=K1.below BZ K1.lt;have HBZ:=Jj (aa HB.out BZ);have hk1:=K1.lt;obtain⟨d0,d1,d2⟩:=KZ.lay
 go_wp2_with fail
 generalize hW3:w2.alloc (.cells (bz A (.int .i64 0)).toArray 3)=w3 at *;clear hW3 d0 d1 d2 a0 a1 a2 hmk BZ;refine(qi R A W M p _ l _ (HV.out.bel HBZ.out) h1 h2 h3 hl HM.out HPL.out).mono ?_;rintro e w4 ⟨r,rfl,hi,b4⟩;have HE:=Jj (show ai w r E by rw[←EE.out];exact hi w HV.out);replace KZ:=KZ.below b4 KZ.lt;replace HB:=Jj (aa HBZ.out b4);have O4:=(OZ.bel b4).lower (base':=w.heap.size+1) (by omega);obtain⟨A3,c3,rfl,-,-,-⟩:=HE.out.open_;clear hi b4 OZ HBZ K1
 go_wp2_with fail
 go_loopw [23] (fun i wr=>∃k:Nat,k≤E.length∧i=.int .i64 k∧Own wr (w.heap.size+1) (.slice (some ⟨w2.heap.size,0,none⟩) A A) (psL E R A k)∧Below w.heap.size w wr∧Blk wr w.heap.size 29 [.int .i64 R,.int .i64 A,.int .i64 W]) (fun i _=>E.length-(intOf i).toNat)
 case atStart=>exact⟨0,Jy _,rfl,O4,HB.out,KZ⟩
 case round=>
  obtain⟨k,hk,rfl,hO,hb,hK⟩:=hrel;have H:=Jj (Jq hO (Jq hb hK));have kl:=hK.lt;obtain⟨d0,d1,d2⟩:=hK.lay;clear hO hb hK O4 KZ;by_cases hkl:k<E.length
  ·obtain⟨A6,c6,e6,-,-,hrd⟩:=(HE.out.bel H.out.2.1).open_;cases e6;obtain⟨b,o,rfl,hbb,hcell⟩:=hrd.ints (Nat.lt_of_le_of_lt (Jy _) hkl);have hck:=hcell k hkl;have hx:=HIN.out k hkl;obtain⟨q,hq⟩:∃q,k / R=q:=⟨_,rfl⟩;have hqA:q<A:=by
    rw[←hq,Nat.div_lt_iff_lt_mul (by omega),Nat.mul_comm,HM.out];omega
   have hd1:(k:Int) / (R:Int)=(q:Int):=by rw[←hq];rfl
   have hd2:(k:Int).tdiv (R:Int)=(q:Int):=by rw[←hq];rfl
   have hps:=sT (R:=R) (c:=q) HIN.out k hk;have HSU:=Jj (Fq (e:=E) (R:=R) (A:=A) (k:=k) (by rw[hq];exact hqA));have HAT:=Jj (rP (e:=E) (R:=R) (k:=k) hqA);have hlen:=gI E R A k;obtain⟨g9,c9,e9,-,-,-,-,h9⟩:=H.out.1.openN (by rw[hlen];omega);injection e9 with e1 e2 e3;injection e1 with e1;injection e1 with e1;subst e1;clear e2 e3;obtain⟨f0,f1⟩:=h9 q (by rw[hlen];exact hqA);rw[HAT.out] at f0;have HQ:=Jj hq;have HLEN:=Jj hlen;obtain⟨x,hxx⟩:∃x,at_ E k=x:=⟨_,rfl⟩;obtain⟨y,hyy⟩:∃y,kz E R q k=y:=⟨_,rfl⟩;rw[hxx] at hck hx;rw[hyy] at f0 hps;have HX:=Jj (Jq hxx hyy);have hzz:=H.out.2.1.size;clear hcell hrd h9 hq hlen hxx hyy;go_wp2;go_roundw
   case rel=>
    have hs:=H.out.1.set_ q (y+x) (by rw[HLEN.out];exact hqA) ⟨by omega,by omega⟩;exact⟨k+1,hkl,by go_num,by rw[HSU.out,HQ.out,HX.out.1,HX.out.2];exact hs,H.out.2.1.setCell (Nat.le_of_lt hk1) _,H.out.2.2.far (by simp;omega) _⟩
   case measure=>simp[intOf];omega
  ·have hke:k=E.length:=by omega
   subst hke;go_wp2;go_ret;exact⟨_,rfl,H.out.1.lower (Nat.le_succ _),H.out.2.1⟩
end Go.Proofs.YtfmjklgfpiffbaaGreatDoor
