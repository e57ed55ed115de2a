/-
  Parts of the proof of one statement, merged: PolyPlain RnP ChP ErP ErQ.
-/
import Derived.Test.YtfmjklgfpiffbaaGreatDoorR2
namespace Go.Proofs.YtfmjklgfpiffbaaGreatDoor
open Go.RowKit
set_option linter.unusedVariables false
set_option linter.unusedSimpArgs false
set_option maxRecDepth 100000
set_option maxHeartbeats 8000000
def FU (n:Int):Bool:=(List.range 7).all fun k=>
 (aU (n+1) (k+1)==aU n k+aU n (k+1))&&(Nat.ble (aU n k).natAbs 100000000000)
def BU:Bool:=(List.range 407).all fun m=>FU ((m:Int)-200)
theorem xC:BU=true:=by decide +kernel
theorem ve {n:Int} (h0 : -200≤n) (h1:n≤206) {k:Nat} (hk:k<7):aU (n+1) (k+1)=aU n k+aU n (k+1) ∧ -100000000000≤aU n k∧aU n k≤100000000000:=by
 have h:=xC;unfold BU at h;rw[List.all_eq_true] at h;have h2:=h (n+200).toNat (List.mem_range.2 (by omega));rw[show(((n+200).toNat:Nat):Int)-200=n by omega] at h2;unfold FU at h2;rw[List.all_eq_true] at h2;have h3:=h2 k (List.mem_range.2 hk);rw[JB] at h3;have h4:=Nat.le_of_ble_eq_true h3.2;exact⟨by simpa using h3.1,by omega,by omega⟩
def av (p:List Int):Bool:=iV p 7 100000
theorem bf {p:List Int}:av p=true↔1≤p.length∧p.length≤7∧∀k,k<p.length → -100000≤at_ p k∧at_ p k≤100000:=by
 unfold av iV;rw[JB,am,List.all_eq_true]
 constructor
 ·rintro⟨h1,h2⟩;exact⟨by omega,by omega,fun k hk=>am.1 (h2 _ (bG p k hk))⟩
 ·rintro⟨h1,h2,h3⟩;refine⟨by omega,fun x hx=>?_⟩;obtain⟨k,hk,rfl⟩:=List.getElem_of_mem hx;have:=h3 k hk;rw[fi p k hk] at this;exact am.2 this
def evE (p:List Int) (n:Int):Nat→Int
 |0=>0
 |k+1=>evE p n k+at_ p k*aU n k
theorem rK {a b A B:Int} (h1 : -A≤a) (h2:a≤A) (h3 : -B≤b) (h4:b≤B) : -(A*B)≤a*b∧a*b≤A*B:=by
 have hA:0≤A:=by omega
 have hB:0≤B:=by omega
 have ha:(a.natAbs:Int)≤A:=by omega
 have hb:(b.natAbs:Int)≤B:=by omega
 have h:((a*b).natAbs:Int)≤A*B:=by
  rw[Int.natAbs_mul,Int.natCast_mul];exact Int.mul_le_mul ha hb (by omega) hA
 omega
theorem Cw {p:List Int} (hp:∀k,k<p.length → -100000≤at_ p k∧at_ p k≤100000) {n:Int} (h0 : -200≤n) (h1:n≤206):
  ∀k,k≤p.length→k≤7 → -(10000000000000000*(k:Int))≤evE p n k∧evE p n k≤10000000000000000*(k:Int):=by
 intro k
 induction k with
 |zero=>intro _ _;simp[evE]
 |succ k ih=>
  intro hk h7;have:=ih (by omega) (by omega);have hb:=(ve h0 h1 (show k<7 by omega)).2;have ha:=hp k (by omega);have hm:=rK (A:=100000) (B:=100000000000) ha.1 ha.2 hb.1 hb.2;simp only[evE];omega
theorem ms {p:List Int} (hp:∀k,k<p.length → -100000≤at_ p k∧at_ p k≤100000) {n:Int} (h0 : -200≤n) (h1:n≤206):
  ∀k,k≤p.length→k≤7→jD p n k=evE p n k:=by
 intro k
 induction k with
 |zero=>intro _ _;rfl
 |succ k ih=>
  intro hk h7;have hb:=(ve h0 h1 (show k<7 by omega)).2;have ha:=hp k (by omega);have hm:=rK (A:=100000) (B:=100000000000) ha.1 ha.2 hb.1 hb.2;have he:=Cw hp h0 h1 k (by omega) (by omega);simp only[jD,evE];rw[ih (by omega) (by omega),IntWalk.wrap64_in (at_ p k*aU n k) (by omega),IntWalk.wrap64_in _ (by omega)]
theorem Eg (p:List Int) (k:Nat):at_ (p.drop 1) k=at_ p (k+1):=by
 simp[at_,List.getD]
theorem Ge (p:List Int) (i k:Nat):at_ (p.drop i) k=at_ p (i+k):=by
 simp[at_,List.getD,List.getElem?_drop]
theorem EO (p:List Int) {n:Int} (h0 : -200≤n) (h1:n≤205):∀k,k<7→evE p (n+1) (k+1)-evE p n (k+1)=evE (p.drop 1) n k:=by
 intro k
 induction k with
 |zero=>intro _;simp[evE,aU]
 |succ k ih=>
  intro hk;have h:=ih (by omega);have hb:=(ve h0 (show n≤206 by omega) (show k<7 by omega)).1;have e1:evE p (n+1) (k+1+1)=evE p (n+1) (k+1)+at_ p (k+1)*aU (n+1) (k+1):=rfl;have e2:evE p n (k+1+1)=evE p n (k+1)+at_ p (k+1)*aU n (k+1):=rfl;have e3:evE (p.drop 1) n (k+1)=evE (p.drop 1) n k+at_ (p.drop 1) k*aU n k:=rfl;rw[e1,e2,e3,Eg,hb,Int.mul_add,←h];omega
theorem ud {p:List Int} (hp:∀k,k<p.length → -100000≤at_ p k∧at_ p k≤100000) (i:Nat):∀k,k<(p.drop i).length → -100000≤at_ (p.drop i) k∧at_ (p.drop i) k≤100000:=by
 intro k hk;rw[Ge];exact hp _ (by rw[List.length_drop] at hk;omega)
theorem y6 {p:List Int} (hp:∀k,k<p.length → -100000≤at_ p k∧at_ p k≤100000) (h7:p.length≤7) {n:Int} (h0 : -200≤n) (h1:n≤206):
  -70000000000000000≤dn p n∧dn p n≤70000000000000000:=by
 unfold dn;rw[ms hp h0 h1 _ (Jr _) h7];have:=Cw hp h0 h1 p.length (Jr _) h7;omega
theorem Cx {p:List Int} (hp:∀k,k<p.length → -100000≤at_ p k∧at_ p k≤100000) (h7:p.length≤7) {n:Int} (h0 : -200≤n) (h1:n≤205):
  wrap64 (dn p (n+1)-dn p n)=dn (p.drop 1) n:=by
 have b1:=y6 hp h7 h0 (show n≤206 by omega);have b2:=y6 hp h7 (show -200≤n+1 by omega) (show n+1≤206 by omega);rw[IntWalk.wrap64_in _ (by omega)];unfold dn;rw[ms hp h0 (by omega) _ (Jr _) h7,ms hp (by omega) (by omega) _ (Jr _) h7,ms (ud hp 1) h0 (by omega) _ (Jr _) (by rw[List.length_drop];omega),List.length_drop]
 rcases Nat.eq_zero_or_pos p.length with e|e
 ·rw[e];rfl
 ·have:=EO p h0 h1 (p.length-1) (by omega);rw[show p.length-1+1=p.length by omega] at this;exact this
def iH (l:List Int):List Int:=gen (fun i=>wrap64 (at_ l (i+1)-at_ l i)) (l.length-1)
theorem eO (l:List Int):(iH l).length=l.length-1:=ar _ _
def bc (l:List Int):Nat→List Int
 |0=>l
 |j+1=>iH (bc l j)
theorem bj (l:List Int) (j:Nat):(bc l j).length=l.length-j:=by
 induction j with
 |zero=>rfl
 |succ j ih=>rw[bc,eO,ih];omega
def kp (l:List Int) (k:Nat):List Int:=gen (fun j=>at_ (bc l j) 0) k
def dw (l:List Int):List Int:=kp l l.length
theorem gw (l:List Int):(dw l).length=l.length:=ar _ _
theorem CY (f:Nat→Int) (c:Nat):iH (gen f c)=gen (fun i=>wrap64 (f (i+1)-f i)) (c-1):=by
 apply gg
 ·rw[eO,ar,ar]
 ·intro j hj;rw[eO,ar] at hj;unfold iH;rw[ar,bP hj,bP hj,bP (by omega),bP (by omega)]
theorem pO (p:List Int) {n:Int} {c:Nat} (h0 : -200≤n) (h1:n+(c:Int)≤300):hH p n 1 c=gen (fun i=>dn p (n+(i:Int))) c:=by
 apply gg
 ·unfold hH;rw[ar,ar]
 ·intro j hj;unfold hH at hj ⊢;rw[ar] at hj;rw[bP hj,bP hj,Int.one_mul,IntWalk.wrap64_in (j:Int) (by omega),IntWalk.wrap64_in _ (by omega)]
theorem Fu {p:List Int} (hp:∀k,k<p.length → -100000≤at_ p k∧at_ p k≤100000) (h7:p.length≤7) {n:Int} {c:Nat} (h0 : -200≤n) (h1:n+(c:Int)≤207):
  ∀j,bc (gen (fun i=>dn p (n+(i:Int))) c) j=gen (fun i=>dn (p.drop j) (n+(i:Int))) (c-j):=by
 intro j
 induction j with
 |zero=>rfl
 |succ j ih=>
  rw[bc,ih,CY]
  apply gg
  ·rw[ar,ar];omega
  ·intro i hi;rw[ar] at hi;rw[bP hi,bP (by omega)];have:=Cx (ud hp j) (by rw[List.length_drop];omega) (n:=n+(i:Int)) (by omega) (by omega);rw[List.drop_drop] at this;rw[←this,show n+((i+1:Nat):Int)=n+(i:Int)+1 by omega]
def gz (p:List Int) (n:Int):List Int:=gen (fun k=>dn (p.drop k) n) p.length
theorem gA (p:List Int) (n:Int):(gz p n).length=p.length:=ar _ _
theorem zJ {p:List Int} (hp:av p=true) {n:Int} (h0 : -200≤n) (h1:n≤200):dw (hH p n 1 p.length)=gz p n:=by
 obtain⟨p1,p7,hb⟩:=bf.1 hp;rw[pO p h0 (by omega)];unfold dw;rw[ar]
 apply gg
 ·rw[gA];exact ar _ _
 ·intro j hj;unfold kp at hj ⊢;rw[ar] at hj;rw[gz,bP hj,bP hj,Fu hb p7 h0 (by omega),bP (by omega)];simp
def ci (l:List Int):Bool:=l.all fun t=>inB t 0 0
theorem jx {l:List Int}:ci l=true↔∀k,k<l.length→at_ l k=0:=by
 unfold ci;rw[List.all_eq_true]
 constructor
 ·intro h k hk;have:=am.1 (h _ (bG l k hk));omega
 ·intro h x hx;obtain⟨k,hk,rfl⟩:=List.getElem_of_mem hx;rw[←fi l k hk,h k hk]
  rfl
theorem D9 {l:List Int} (h:l.length=0):ci l=true:=jx.2 fun k hk=>by omega
def dJ (l:List Int):Nat:=((List.range 8).takeWhile fun j => !ci (bc l j)).length
theorem eh {p:Nat→Bool} {n j:Nat} (hj:j≤n) (ha:∀i,i<j→p i=true) (hn:j=n∨p j=false):((List.range n).takeWhile p).length=j:=by
 induction n generalizing j p with
 |zero=>simp;omega
 |succ n ih=>
  rw[List.range_succ_eq_map];cases j with
  |zero=>
   rcases hn with h|h
   ·omega
   ·simp[h]
  |succ j=>
   have h0:=ha 0 (by omega);rw[List.takeWhile_cons,h0];simp only[if_true,List.length_cons];rw[List.takeWhile_map,List.length_map]
   congr 1
   refine ih (p:=p∘Nat.succ) (by omega) (fun i hi=>ha (i+1) (by omega)) ?_
   rcases hn with h|h
   ·exact .inl (by omega)
   ·exact .inr h
theorem dc (p:Nat→Bool) (n:Nat):((List.range n).takeWhile p).length≤n∧(∀i,i<((List.range n).takeWhile p).length→p i=true)∧(((List.range n).takeWhile p).length=n∨p ((List.range n).takeWhile p).length=false):=by
 have key:∃j,j≤n∧(∀i,i<j→p i=true)∧(j=n∨p j=false):=by
  induction n with
  |zero=>exact⟨0,by omega,fun i hi=>by omega,.inl rfl⟩
  |succ n ih=>
   obtain⟨j,h1,h2,h3⟩:=ih
   rcases h3 with h3|h3
   ·subst h3;cases hp:p j with
    |false=>exact⟨j,by omega,h2,.inr hp⟩
    |true=>exact⟨j+1,by omega,fun i hi=>by
      rcases Nat.lt_or_ge i j with h|h
      ·exact h2 i h
      ·obtain rfl:i=j:=by omega
       exact hp,.inl rfl⟩
   ·exact⟨j,by omega,h2,.inr h3⟩
 obtain⟨j,h1,h2,h3⟩:=key;rw[eh h1 h2 h3];exact⟨h1,h2,h3⟩
theorem Gs (l:List Int):dJ l≤8:=(dc _ 8).1
theorem sI {l:List Int} {j:Nat} (hj:j<8) (ha:∀i,i<j→ci (bc l i)=false) (h:ci (bc l j)=true):dJ l=j:=
 eh (by omega) (fun i hi=>by simp[ha i hi]) (.inr (by simp[h]))
theorem yU {l:List Int} (ha:∀i,i<8→ci (bc l i)=false):dJ l=8:=
 eh (Jr _) (fun i hi=>by simp[ha i hi]) (.inl rfl)
theorem qh {l:List Int} {i:Nat} (h:i<dJ l):ci (bc l i)=false:=by
 have:=(dc (fun j => !ci (bc l j)) 8).2.1 i h;simpa using this
theorem Ck {l:List Int} (h:dJ l<8):ci (bc l (dJ l))=true:=by
 rcases(dc (fun j => !ci (bc l j)) 8).2.2 with h2|h2
 ·have:dJ l=8:=h2;omega
 ·have:(!ci (bc l (dJ l)))=false:=h2;simpa using this
theorem Cj {l:List Int} {j:Nat} (h:ci (bc l j)=true):dJ l≤j:=by
 rcases Nat.lt_or_ge j (dJ l) with h2|h2
 ·rw[qh h2] at h;cases h
 ·exact h2
theorem nL (l:List Int):dJ l≤l.length:=by
 rcases Nat.lt_or_ge l.length (dJ l) with h|h
 ·have:=qh h;rw[D9 (by rw[bj];omega)] at this;cases this
 ·exact h
def ew (l:List Int):Int:=if ag l=true then(dJ l:Int)-1 else -2
theorem ko {l:List Int} (h:ag l=true):ew l=(dJ l:Int)-1:=by simp[ew,h]
theorem ng {l:List Int} (h:ag l=false):ew l = -2:=by simp[ew,h]
def itD (l:List Int):List Int:=dw (l.take (max (dJ l) 1))
def eB (l:List Int):Bool:=(ag l&&decide (dJ l≤7))&&av (itD l)
def itL (l:List Int):List Int:=if eB l=true then itD l else[]
def bN (l:List Int) (d:Int):Bool:=decide (ew l≤d)&&eB l
def rnL (l:List Int) (d:Int):List Int:=if bN l d=true then itD l else[]
theorem nv {l:List Int} {d:Int} (h:bN l d=true):rnL l d=itD l:=by simp[rnL,h]
theorem Du {l:List Int} {d:Int} (h:ew l≤d):bN l d=eB l∧rnL l d=itL l:=by simp[rnL,itL,bN,h]
theorem Dv {l:List Int} {d:Int} (h:¬ew l≤d):bN l d=false∧rnL l d=[]:=by simp[rnL,bN,h]
def cI (l:List Int):Bool:=ag l&&l.all fun t=>inB t (-1500) 1500
theorem cd {l:List Int}:cI l=true↔1≤l.length∧l.length≤60∧∀k,k<l.length → -1500≤at_ l k∧at_ l k≤1500:=by
 unfold cI ag;rw[JB,JB,am,List.all_eq_true,List.all_eq_true]
 constructor
 ·rintro⟨⟨h1,-⟩,h2⟩;exact⟨by omega,by omega,fun k hk=>am.1 (h2 _ (bG l k hk))⟩
 ·rintro⟨h1,h2,h3⟩;have h4:∀x∈l,-1500≤x∧x≤1500:=by
   intro x hx;obtain⟨k,hk,rfl⟩:=List.getElem_of_mem hx;have:=h3 k hk;rwa[fi l k hk] at this
  exact⟨⟨by omega,fun x hx=>am.2 (by have:=h4 x hx;omega)⟩,fun x hx=>am.2 (h4 x hx)⟩
theorem jl {l:List Int} {m k:Nat} (h:k<m):at_ (l.take m) k=at_ l k:=by
 unfold at_;simp only[List.getD,List.getElem?_take];rw[if_pos h]
theorem wQ (l:List Int) (m:Nat):∀j,bc (l.take m) j=(bc l j).take (m-j)
 |0=>by simp[bc]
 |j+1=>by
  rw[bc,wQ l m j]
  apply gg
  ·rw[eO,List.length_take,List.length_take,bj,bj];omega
  ·intro k hk;rw[eO,List.length_take,bj] at hk;rw[jl (by omega)];unfold iH;rw[bP (by rw[List.length_take,bj];omega),jl (by omega),jl (by omega),bc];unfold iH;rw[bP (by rw[bj];omega)]
theorem ue {j:Nat} (h:j≤6):0≤(2:Int) ^ j∧(2:Int) ^ j≤64:=by
 have:j=0∨j=1∨j=2∨j=3∨j=4∨j=5∨j=6:=by omega
 rcases this with rfl|rfl|rfl|rfl|rfl|rfl|rfl <;> decide
theorem rQ {l:List Int} {B:Int} (hB:0≤B∧B≤1000000000) (h:∀k,k<l.length → -B≤at_ l k∧at_ l k≤B):∀j,j≤7→∀k,k<(bc l j).length → -(B*(2:Int) ^ j)≤at_ (bc l j) k∧at_ (bc l j) k≤B*(2:Int) ^ j
 |0,_,k,hk=>by have:=h k hk;simpa[bc] using this
 |j+1,hj,k,hk=>by
  rw[bj] at hk;have h1:=rQ hB h j (by omega) k (by rw[bj];omega);have h2:=rQ hB h j (by omega) (k+1) (by rw[bj];omega);have hp:B*(2:Int) ^ (j+1)=2*(B*2 ^ j):=by rw[Int.pow_succ,Int.mul_comm _ 2,Int.mul_left_comm]
  obtain⟨q0,q1⟩:=ue (j:=j) (by omega);have hb:B*(2:Int) ^ j≤1000000000*64:=Int.mul_le_mul hB.2 q1 q0 (by omega);have h0:0≤B*(2:Int) ^ j:=Int.mul_nonneg hB.1 q0;rw[bc];unfold iH;rw[bP (by rw[bj];omega),hp,IntWalk.wrap64_in _ (by omega)];omega
theorem Im {l:List Int} (h:cI l=true) (hd:dJ l≤7):av (itD l)=true:=by
 obtain⟨h1,h2,h3⟩:=cd.1 h;have hl:=nL l;refine bf.2 ⟨?_,?_,fun k hk=>?_⟩
 ·unfold itD;rw[gw,List.length_take];omega
 ·unfold itD;rw[gw,List.length_take];omega
 ·unfold itD at hk ⊢;rw[gw] at hk;unfold dw kp;rw[bP hk];have hlen:=hk;rw[List.length_take] at hk;have:=rQ (l:=l.take (max (dJ l) 1)) (B:=1500) (by omega) (fun i hi=>by
   rw[List.length_take] at hi;rw[jl (by omega)];exact h3 i (by omega)) k (by omega) 0 (by rw[bj];omega)
  obtain⟨q0,q1⟩:=ue (j:=k) (by omega);omega
theorem AS {l:List Int} (h:cI l=true):ag l=true:=by
 unfold cI at h;rw[JB] at h;exact h.1
theorem oj {l:List Int} {d:Int} (h:cI l=true) (h0:0≤d) (h6:d≤6):bN l d=decide ((dJ l:Int)≤d+1):=by
 have ht:=AS h;unfold bN eB;rw[ko ht,ht];by_cases hd:(dJ l:Int)≤d+1
 ·have h7:dJ l≤7:=by omega
  rw[Im h h7];simp[hd,h7];omega
 ·have:¬(dJ l:Int)-1≤d:=by omega
  simp[hd,this]
theorem mC {l:List Int} (h:cI l=true) {m:Nat} (hm:1≤m):cI (l.take m)=true:=by
 obtain⟨h1,h2,h3⟩:=cd.1 h;refine cd.2 ⟨by rw[List.length_take];omega,by rw[List.length_take];omega,fun k hk=>?_⟩;rw[List.length_take] at hk;rw[jl (by omega)];exact h3 k (by omega)
theorem Eh (l:List Int) (i k:Nat):at_ (l.drop i) k=at_ l (i+k):=by
 unfold at_;simp only[List.getD,List.getElem?_drop]
theorem fY {l:List Int} (h:cI l=true) {i:Nat} (hi:i<l.length):cI (l.drop i)=true:=by
 obtain⟨h1,h2,h3⟩:=cd.1 h;refine cd.2 ⟨by rw[List.length_drop];omega,by rw[List.length_drop];omega,fun k hk=>?_⟩;rw[List.length_drop] at hk;rw[Eh];exact h3 _ (by omega)
theorem wM {l:List Int} {d:Int} (h:cI l=true) (h0:0≤d) (h6:d≤6) (hr:bN l d=true) {m:Nat} (hm:1≤m):bN (l.take m) d=true:=by
 rw[oj h h0 h6] at hr;rw[oj (mC h hm) h0 h6];have hr:=of_decide_eq_true hr;refine decide_eq_true ?_;have hz:=Ck (l:=l) (by omega);have:dJ (l.take m)≤dJ l:=Cj (by
  rw[wQ];refine jx.2 fun k hk=>?_;rw[List.length_take] at hk;rw[jl (by omega)];exact jx.1 hz k (by omega))
 omega
theorem Dw {l:List Int} {d:Int} (h:cI l=true) (h0:0≤d) (h6:d≤6):bN (l.take 1) d=true:=by
 rw[oj (mC h (Jr _)) h0 h6];refine decide_eq_true ?_;have:=nL (l.take 1);rw[List.length_take] at this;omega
def lgN (l:List Int) (d:Int):Nat:=((List.range l.length).takeWhile fun n=>bN (l.take (n+1)) d).length
theorem jP (l:List Int) (d:Int):lgN l d≤l.length:=(dc _ _).1
theorem pr {l:List Int} {d:Int} {n:Nat} (hn:n≤l.length) (ha:∀i,i<n→bN (l.take (i+1)) d=true) (h:n=l.length∨bN (l.take (n+1)) d=false):lgN l d=n:=eh hn ha h
theorem np {l:List Int} {d:Int} {n:Nat} (h1:1≤n) (hn:n≤lgN l d):bN (l.take n) d=true:=by
 have:=(dc (fun n=>bN (l.take (n+1)) d) l.length).2.1 (n-1) (by have:lgN l d=((List.range l.length).takeWhile fun n=>bN (l.take (n+1)) d).length:=rfl;omega);rwa[show n-1+1=n by omega] at this
theorem nr {l:List Int} {d:Int} (h:cI l=true) (h0:0≤d) (h6:d≤6):1≤lgN l d:=by
 rcases Nat.eq_zero_or_pos (lgN l d) with h1|h1
 ·rcases(dc (fun n=>bN (l.take (n+1)) d) l.length).2.2 with h2|h2
  ·have:lgN l d=l.length:=h2;have:=(cd.1 h).1;omega
  ·have h3:bN (l.take (lgN l d+1)) d=false:=h2;rw[h1,Dw h h0 h6] at h3;cases h3
 ·exact h1
theorem E5 {l:List Int} {d:Int} (h:cI l=true) (h0:0≤d) (h6:d≤6) {n:Nat} (hn:n≤l.length) (h1:1≤n) (hr:bN (l.take n) d=true) (hno:∀m,n<m→m≤l.length→bN (l.take m) d=false):lgN l d=n:=by
 refine pr hn (fun i hi=>?_) ?_
 ·have:=wM (mC h h1) h0 h6 hr (m:=i+1) (by omega);rwa[List.take_take,Nat.min_eq_left (by omega)] at this
 ·rcases Nat.lt_or_ge n l.length with h2|h2
  ·exact .inr (hno _ (by omega) (by omega))
  ·exact .inl (by omega)
theorem E6 {l:List Int} {d:Int} (h:cI l=true) (h0:0≤d) (h6:d≤6) {n:Nat} (hn:lgN l d<n) (hl:n≤l.length):bN (l.take n) d=false:=by
 cases hr:bN (l.take n) d with
 |false=>rfl
 |true=>
  exfalso
  rcases(dc (fun n=>bN (l.take (n+1)) d) l.length).2.2 with h2|h2
  ·have:lgN l d=l.length:=h2;omega
  ·have h3:bN (l.take (lgN l d+1)) d=false:=h2;have:=wM (mC h (by omega:1≤n)) h0 h6 hr (m:=lgN l d+1) (by omega);rw[List.take_take,Nat.min_eq_left (by omega),h3] at this;cases this
def msF (f:Nat→Int):Nat→Int
 |0=>1099511627776
 |n+1=>min (msF f n) (f (n+1))
def bx (f:Nat→Int) (N:Nat):Nat→Int×Nat
 |0=>(0,0)
 |q+1=>if (bx f N q).2=0∨f (N-q)<(bx f N q).1 then(f (N-q),N-q) else bx f N q
theorem uk {f:Nat→Int} {N q:Nat} (h:(bx f N q).2=0∨f (N-q)<(bx f N q).1):bx f N (q+1)=(f (N-q),N-q):=by simp[bx,h]
theorem uj {f:Nat→Int} {N q:Nat} (h:¬((bx f N q).2=0∨f (N-q)<(bx f N q).1)):bx f N (q+1)=bx f N q:=by
 rw[bx,if_neg h]
theorem mg (f:Nat→Int) (N:Nat):∀q,q+1≤N→N-(q+1)<(bx f N (q+1)).2∧(bx f N (q+1)).2≤N∧f (bx f N (q+1)).2=(bx f N (q+1)).1 ∧
  (∀i,N-(q+1)<i→i≤N→(bx f N (q+1)).1≤f i)∧(∀i,(bx f N (q+1)).2<i→i≤N→(bx f N (q+1)).1<f i)
 |0,h=>by
  have e:bx f N 1=(f N,N):=by simp[bx]
  rw[e];refine⟨by show N-1<N;omega,Jr _,rfl,fun i h1 h2=>?_,fun i h1 h2=>?_⟩
  ·obtain rfl:i=N:=by omega
   exact Int.le_refl _
  ·have:N<i:=h1;omega
 |q+1,h=>by
  obtain⟨h1,h2,h3,h4,h5⟩:=mg f N q (by omega);by_cases hc:(bx f N (q+1)).2=0∨f (N-(q+1))<(bx f N (q+1)).1
  ·rcases hc with hc|hc
   ·omega
   ·rw[uk (.inr hc)];refine⟨by show N-(q+1+1)<N-(q+1);omega,by show N-(q+1)≤N;omega,rfl,fun i k1 k2=>?_,fun i k1 k2=>?_⟩
    ·show f (N-(q+1))≤f i
     by_cases e:i=N-(q+1)
     ·rw[e];exact Int.le_refl _
     ·have:=h4 i (by omega) k2;omega
    ·show f (N-(q+1))<f i
     have k3:N-(q+1)<i:=k1;have:=h4 i k3 k2;omega
  ·rw[uj hc];have hc2:¬f (N-(q+1))<(bx f N (q+1)).1:=fun e=>hc (.inr e);refine⟨by omega,h2,h3,fun i k1 k2=>?_,h5⟩;by_cases e:i=N-(q+1)
   ·rw[e];omega
   ·exact h4 i (by omega) k2
theorem Au (f:Nat→Int):∀n i,1≤i→i≤n→msF f n≤f i
 |0,i,h1,h2=>by omega
 |n+1,i,h1,h2=>by
  rw[msF];by_cases e:i=n+1
  ·rw[e];exact Int.min_le_right _ _
  ·exact Int.le_trans (Int.min_le_left _ _) (Au f n i h1 (by omega))
theorem As (f:Nat→Int):∀n,msF f n=1099511627776∨∃i,1≤i∧i≤n∧msF f n=f i
 |0=>.inl rfl
 |n+1=>by
  rw[msF]
  rcases Int.le_total (msF f n) (f (n+1)) with h|h
  ·rw[Int.min_eq_left h]
   rcases As f n with h2|⟨i,h2,h3,h4⟩
   ·exact .inl h2
   ·exact .inr ⟨i,h2,by omega,h4⟩
  ·rw[Int.min_eq_right h];exact .inr ⟨n+1,by omega,Jr _,rfl⟩
theorem I3 {f:Nat→Int} {n:Nat} {B:Int} (hB:B<1099511627776) (h1:1≤n) (h:∀i,1≤i→i≤n→0≤f i∧f i≤B):0≤msF f n∧msF f n≤B:=by
 have k:=Au f n 1 (Jr _) h1;have:=h 1 (Jr _) h1
 rcases As f n with h2|⟨i,h2,h3,h4⟩
 ·omega
 ·have:=h i h2 h3;omega
theorem Iz {f:Nat→Int} {N:Nat} (h1:1≤N) (h:∀i,1≤i→i≤N→f i<1099511627776):msF f N=(bx f N N).1:=by
 obtain⟨q,rfl⟩:∃q,N=q+1:=⟨N-1,by omega⟩;obtain⟨k1,k2,k3,k4,k5⟩:=mg f (q+1) q (Jr _);have a:=Au f (q+1) (bx f (q+1) (q+1)).2 (by omega) k2
 rcases As f (q+1) with h2|⟨i,h2,h3,h4⟩
 ·have:=h (bx f (q+1) (q+1)).2 (by omega) k2;omega
 ·have:=k4 i (by omega) h3;omega
theorem DD {f:Nat→Int} {N n:Nat} (h1:1≤N) (hn1:1≤n) (hn:n≤N) (he:f n=(bx f N N).1) (hno:∀i,n<i→i≤N→f i≠(bx f N N).1):n=(bx f N N).2:=by
 obtain⟨q,rfl⟩:∃q,N=q+1:=⟨N-1,by omega⟩;obtain⟨k1,k2,k3,k4,k5⟩:=mg f (q+1) q (Jr _)
 rcases Nat.lt_trichotomy n (bx f (q+1) (q+1)).2 with h|h|h
 ·exact absurd k3 (hno _ h k2)
 ·exact h
 ·have:=k5 n h hn;omega
def cfF (l:List Int) (s c:Int) (B:List Int) (n:Nat):Int:=s+c*((itD (l.take n)).length:Int)+at_ B (n-1)
def csL (v:List Int) (d s c:Int):Nat→List Int
 |0=>[0]
 |k+1=>msF (cfF (v.drop (v.length-(k+1))) s c (csL v d s c k)) (lgN (v.drop (v.length-(k+1))) d)::csL v d s c k
theorem nf {s c:Int} {n:Nat} (h0:0≤s) (h1:s≤1000) (h2:0≤c) (h3:c≤1000) (hn:n≤7):0≤s+c*(n:Int)∧s+c*(n:Int)≤8000∧0≤c*(n:Int)∧c*(n:Int)≤7000:=by
 have a:c*(n:Int)≤1000*7:=Int.mul_le_mul h3 (by omega) (by omega) (by omega);have b:0≤c*(n:Int):=Int.mul_nonneg h2 (by omega);omega
theorem vR {l:List Int} {d:Int} (hr:bN l d=true):1≤(itD l).length∧(itD l).length≤7:=by
 unfold bN eB at hr;rw[JB,JB] at hr;obtain⟨h1,h2,-⟩:=bf.1 hr.2.2;exact⟨h1,h2⟩
theorem oT {v:List Int} {d s c:Int} (hv:cI v=true) (hd0:0≤d) (hd6:d≤6) (h0:0≤s) (h1:s≤1000) (h2:0≤c) (h3:c≤1000):∀k,k≤v.length→∀i,i<k+1→0≤at_ (csL v d s c k) i∧at_ (csL v d s c k) i≤8000*(k:Int)
 |0,_,i,hi=>by
  obtain rfl:i=0:=by omega
  exact⟨Int.le_refl _,Int.le_refl _⟩
 |k+1,hk,i,hi=>by
  have ih:=oT hv hd0 hd6 h0 h1 h2 h3 k (by omega);have h60:=(cd.1 hv).2.1;rw[csL];cases i with
  |succ i=>
   have:=ih i (by omega);have e:at_ (msF (cfF (v.drop (v.length-(k+1))) s c (csL v d s c k)) (lgN (v.drop (v.length-(k+1))) d)::csL v d s c k) (i+1)=at_ (csL v d s c k) i:=rfl;rw[e];omega
  |zero=>
   have hs:=fY hv (i:=v.length-(k+1)) (by omega);have hp:=nr hs hd0 hd6;have hl:=jP (v.drop (v.length-(k+1))) d;rw[List.length_drop] at hl;refine I3 (B:=8000*((k+1:Nat):Int)) (by omega) hp fun j j1 j2=>?_;have a:=vR (np j1 j2);have b:=nf (n:=(itD ((v.drop (v.length-(k+1))).take j)).length) h0 h1 h2 h3 a.2;have e:=ih (j-1) (by omega);unfold cfF;omega
def cfA (v:List Int) (d s c:Int) (i:Nat):Nat→Int:=cfF (v.drop i) s c (csL v d s c (v.length-(i+1)))
theorem Hu {v:List Int} {d s c:Int} (hv:cI v=true) (hd0:0≤d) (hd6:d≤6) (h0:0≤s) (h1:s≤1000) (h2:0≤c) (h3:c≤1000) {i j:Nat} (hi:i<v.length) (j1:1≤j) (j2:j≤v.length-i) (hr:bN ((v.drop i).take j) d=true):
  0≤cfA v d s c i j∧cfA v d s c i j≤480000:=by
 have h60:=(cd.1 hv).2.1;have a:=vR hr;have b:=nf (n:=(itD ((v.drop i).take j)).length) h0 h1 h2 h3 a.2;have e:=oT hv hd0 hd6 h0 h1 h2 h3 (v.length-(i+1)) (by omega) (j-1) (by omega);unfold cfA cfF;omega
theorem Cc {v:List Int} {d s c:Int} {i:Nat} (hi:i<v.length):csL v d s c (v.length-i)=msF (cfA v d s c i) (lgN (v.drop i) d)::csL v d s c (v.length-(i+1)):=by
 rw[show v.length-i=(v.length-(i+1))+1 by omega,csL,show v.length-(v.length-(i+1)+1)=i by omega]
 rfl
theorem qG (v:List Int) (d s c:Int):∀k j m,j+m=k→at_ (csL v d s c k) j=at_ (csL v d s c m) 0
 |0,j,m,h=>by
  obtain rfl:j=0:=by omega
  obtain rfl:m=0:=by omega
  rfl
 |k+1,0,m,h=>by
  obtain rfl:m=k+1:=by omega
  rfl
 |k+1,j+1,m,h=>by
  have e:at_ (csL v d s c (k+1)) (j+1)=at_ (csL v d s c k) j:=rfl;rw[e];exact qG v d s c k j m (by omega)
def chN (v:List Int) (d s c:Int) (i:Nat):Nat:=(bx (cfA v d s c i) (lgN (v.drop i) d) (lgN (v.drop i) d)).2
theorem oR {v:List Int} {d s c:Int} (hv:cI v=true) (hd0:0≤d) (hd6:d≤6) {i:Nat} (hi:i<v.length):1≤chN v d s c i∧chN v d s c i≤lgN (v.drop i) d∧lgN (v.drop i) d≤v.length-i:=by
 have hp:=nr (fY hv hi) hd0 hd6;have hl:=jP (v.drop i) d;rw[List.length_drop] at hl;obtain⟨q,hq⟩:∃q,lgN (v.drop i) d=q+1:=⟨lgN (v.drop i) d-1,by omega⟩;obtain⟨k1,k2,-⟩:=mg (cfA v d s c i) (q+1) q (Jr _);unfold chN;rw[hq];omega
theorem FV {v:List Int} {d s c:Int} (hv:cI v=true) (hd0:0≤d) (hd6:d≤6) (h0:0≤s) (h1:s≤1000) (h2:0≤c) (h3:c≤1000) {i:Nat} (hi:i<v.length):
  at_ (csL v d s c (v.length-i)) 0=(bx (cfA v d s c i) (lgN (v.drop i) d) (lgN (v.drop i) d)).1:=by
 have hs:=fY hv hi;have hl:=jP (v.drop i) d;rw[List.length_drop] at hl;rw[Cc hi];refine Iz (nr hs hd0 hd6) fun j j1 j2=>?_;have:=Hu (s:=s) (c:=c) hv hd0 hd6 h0 h1 h2 h3 hi j1 (by omega) (np j1 j2);omega
def sgF (v:List Int) (g:Nat→Nat):Nat→Nat→List (Nat×List Int)
 |0,_=>[]
 |f+1,i=>if i<v.length then(g i,itD ((v.drop i).take (g i)))::sgF v g f (i+g i) else[]
def sgL (v:List Int) (g:Nat→Nat) (i:Nat):List (Nat×List Int):=sgF v g (v.length-i) i
theorem qW {v:List Int} {g:Nat→Nat} (hg:∀i,i<v.length→1≤g i):∀f i,v.length-i≤f→sgF v g f i=sgF v g (v.length-i) i
 |0,i,h=>by rw[show v.length-i=0 by omega]
 |f+1,i,h=>by
  by_cases hi:i<v.length
  ·obtain⟨m,hm⟩:∃m,v.length-i=m+1:=⟨v.length-i-1,by omega⟩;rw[hm,sgF,sgF,if_pos hi,if_pos hi];have:=hg i hi;rw[qW hg f (i+g i) (by omega),qW hg m (i+g i) (by omega)]
  ·rw[show v.length-i=0 by omega];simp[sgF,hi]
theorem rV {v:List Int} {g:Nat→Nat} (hg:∀i,i<v.length→1≤g i) {i:Nat} (hi:i<v.length):sgL v g i=(g i,itD ((v.drop i).take (g i)))::sgL v g (i+g i):=by
 unfold sgL;obtain⟨m,hm⟩:∃m,v.length-i=m+1:=⟨v.length-i-1,by omega⟩;have:=hg i hi;rw[hm,sgF,if_pos hi,qW hg m (i+g i) (by omega)]
theorem pZ {v:List Int} {g:Nat→Nat} {i:Nat} (hi:v.length≤i):sgL v g i=[]:=by
 unfold sgL;rw[show v.length-i=0 by omega]
 rfl
def chL (v:List Int) (d s c:Int):List (Nat×List Int):=sgL v (chN v d s c) 0
def grL (v:List Int) (d:Int):List (Nat×List Int):=sgL v (fun i=>lgN (v.drop i) d) 0
def cF (o k:Nat):Int:=if k % 2=1 then -(aU (o:Int) k) else aU (o:Int) k
def kq (o p:Nat) (a:Int) (j:Nat):Int:=if p≤j+o∧j≤p then a*cF o (j+o-p) else 0
def zu:Bool:=(List.range 8).all fun o=>(List.range 8).all fun k=>decide (k≤o→cF o k≠0 ∧ -35≤cF o k∧cF o k≤35)
theorem xp:zu=true:=by decide +kernel
theorem lS {o k:Nat} (ho:o≤7) (hk:k≤o):cF o k≠0 ∧ -35≤cF o k∧cF o k≤35:=by
 have h:=xp;unfold zu at h;rw[List.all_eq_true] at h;have h2:=h o (List.mem_range.2 (by omega));rw[List.all_eq_true] at h2;have h3:=h2 k (List.mem_range.2 (by omega));exact of_decide_eq_true h3 hk
def gR (D:List Int) (o p:Nat):Int:=(at_ D (p-o)).tdiv (cF o (o-p))
def d9 (D:List Int) (o p:Nat):Bool:=decide (∀j,j<D.length→kq o p (gR D o p) j=at_ D j)
theorem qJ {D:List Int} {o p:Nat}:d9 D o p=true↔∀j,j<D.length→kq o p (gR D o p) j=at_ D j:=by unfold d9;exact decide_eq_true_iff
def fdP (D:List Int) (o n:Nat):Nat:=((List.range n).takeWhile fun p => !d9 D o p).length
def fdD (l:List Int) (d:Int):List Int:=bc l (d+1).toNat
def fdV (l:List Int) (d:Int):Bool:=(ag l&&inB d 0 6)&&decide (d+3≤(l.length:Int))
def ga (l:List Int) (d:Int):Nat:=fdP (fdD l d) (d+1).toNat l.length
def fdC (l:List Int) (d:Int):Int:=if fdV l d=false then 3 else if ci (fdD l d)=true then 0 else if ga l d=l.length then 2 else 1
theorem IZ {D:List Int} {o n p:Nat} (hp:p<n) (hb:∀q,q<p→d9 D o q=false) (h:d9 D o p=true):fdP D o n=p:=
 eh (by omega) (fun q hq=>by simp[hb q hq]) (.inr (by simp[h]))
theorem I0 {D:List Int} {o n:Nat} (hb:∀q,q<n→d9 D o q=false):fdP D o n=n:=eh (Jr _) (fun q hq=>by simp[hb q hq]) (.inl rfl)
def BdD (D:List Int):Prop:=∀j,j<D.length → -128000000000≤at_ D j∧at_ D j≤128000000000
theorem GX {j:Nat} (h:j≤7):0≤(2:Int) ^ j∧(2:Int) ^ j≤128:=by
 have:j=0∨j=1∨j=2∨j=3∨j=4∨j=5∨j=6∨j=7:=by omega
 rcases this with rfl|rfl|rfl|rfl|rfl|rfl|rfl|rfl <;> decide
theorem sJ {l:List Int} (h:ag l=true) {o:Nat} (ho:o≤7):BdD (bc l o):=by
 intro j hj;have h1:=rQ (l:=l) (B:=1000000000) (by omega) (fun k hk=>(aA h).2.2 k hk) o ho j hj;obtain⟨q0,q1⟩:=GX ho;omega
theorem BO {D:List Int} (h:BdD D) (j:Nat) : -128000000000≤at_ D j∧at_ D j≤128000000000:=by
 rcases Nat.lt_or_ge j D.length with h1|h1
 ·exact h j h1
 ·have:at_ D j=0:=by simp[at_,List.getD,List.getElem?_eq_none h1]
  omega
theorem zt {a b B:Int} (h : -B≤a∧a≤B) : -B≤a.tdiv b∧a.tdiv b≤B:=by
 have:=Int.natAbs_tdiv_le_natAbs a b;omega
theorem uX {D:List Int} (h:BdD D) (o p:Nat) : -128000000000≤gR D o p∧gR D o p≤128000000000:=zt (BO h _)
theorem H9 {D:List Int} (h:BdD D) {o:Nat} (ho:o≤7) (p j:Nat) {a:Int} (ha : -128000000000≤a∧a≤128000000000) : -5000000000000≤kq o p a j∧kq o p a j≤5000000000000:=by
 unfold kq
 split
 ·rename_i hc
  have hu:=(lS (o:=o) (k:=j+o-p) ho (by omega)).2;have:=rK (A:=128000000000) (B:=35) ha.1 ha.2 hu.1 hu.2;omega
 ·omega
def sgI (n:Nat):Int:=if n % 2=0 then 1 else -1
def coI (o p j:Nat):Int:=if p<j∨j+o<p then 0 else sgI (j+o-p)*aU (o:Int) (p-j)
def DO:Bool:=(List.range 8).all fun o=>(List.range 8).all fun k=>decide (k≤o→sgI (o-k)*aU (o:Int) k=cF o (o-k))
theorem yE:DO=true:=by decide +kernel
theorem sym {o k:Nat} (ho:o≤7) (hk:k≤o):sgI (o-k)*aU (o:Int) k=cF o (o-k):=by
 have h:=yE;unfold DO at h;rw[List.all_eq_true] at h;have h2:=h o (List.mem_range.2 (by omega));rw[List.all_eq_true] at h2;exact of_decide_eq_true (h2 k (List.mem_range.2 (by omega))) hk
theorem rj {o p j:Nat} (ho:o≤7) (h:p≤j+o∧j≤p):coI o p j=cF o (j+o-p):=by
 unfold coI;rw[if_neg (by omega)];have:=sym (o:=o) (k:=p-j) ho (by omega);rw[show o-(p-j)=j+o-p by omega] at this;exact this
theorem rk {o p j:Nat} (h:¬(p≤j+o∧j≤p)):coI o p j=0:=by
 unfold coI;rw[if_pos (by omega)]
theorem ri {o p j:Nat} (ho:o≤7) (a:Int):a*coI o p j=kq o p a j:=by
 unfold kq;by_cases h:p≤j+o∧j≤p
 ·rw[if_pos h,rj ho h]
 ·rw[if_neg h,rk h,Int.mul_zero]
theorem zD {o p j:Nat} (ho:o≤7) : -35≤coI o p j∧coI o p j≤35:=by
 by_cases h:p≤j+o∧j≤p
 ·rw[rj ho h];exact(lS ho (by omega)).2
 ·rw[rk h];omega
theorem yR {o p j:Nat} (ho:o≤7):coI o p j=0↔¬(p≤j+o∧j≤p):=by
 constructor
 ·intro h h2;rw[rj ho h2] at h;exact(lS ho (by omega)).1 h
 ·exact rk
def gsI (D:List Int) (o p:Nat):Int:=if (at_ D (p-o)).tmod (cF o (o-p))≠0 then 0 else gR D o p
def na (D:List Int) (o p:Nat) (a:Int):Bool:=decide (∀j,j<D.length→at_ D j=a*coI o p j)
theorem oG {D:List Int} {o p:Nat} {a:Int}:na D o p a=true↔∀j,j<D.length→at_ D j=a*coI o p j:=by unfold na;exact decide_eq_true_iff
theorem I1 {D:List Int} (h:BdD D) (o p:Nat) : -128000000000≤gsI D o p∧gsI D o p≤128000000000:=by
 unfold gsI
 split
 ·omega
 ·exact uX h o p
theorem EW {D:List Int} {o p:Nat} (ho:o≤7) (h0:gsI D o p≠0) (h:na D o p (gsI D o p)=true):d9 D o p=true∧gsI D o p=gR D o p:=by
 have e:gsI D o p=gR D o p:=by
  unfold gsI at h0 ⊢
  split
  ·rename_i h1
   rw[if_pos h1] at h0;exact absurd rfl h0
  ·rfl
 refine⟨qJ.2 fun j hj=>?_,e⟩;have:=oG.1 h j hj;rw[e,ri ho] at this;exact this.symm
theorem GJ {D:List Int} {o p:Nat} (ho:o≤7) (hz:ci D=false) (hp:p-o<D.length) (h:gsI D o p=0∨na D o p (gsI D o p)=false):d9 D o p=false:=by
 cases hq:d9 D o p with
 |false=>rfl
 |true=>
  exfalso
  have h1:=qJ.1 hq;have h2:at_ D (p-o)=gR D o p*coI o p (p-o):=by rw[ri ho,h1 _ hp]
  by_cases hc:p≤p-o+o∧p-o≤p
  ·rw[rj ho hc,show p-o+o-p=o-p by omega] at h2;have h3:(at_ D (p-o)).tmod (cF o (o-p))=0:=by rw[h2];exact Int.mul_tmod_left _ _
   have e:gsI D o p=gR D o p:=by unfold gsI;rw[if_neg (fun h=>h h3)]
   rcases h with h|h
   ·have:ci D=true:=jx.2 fun k hk=>by
     have:=h1 k hk;rw[←e,h,←ri ho,Int.zero_mul] at this;exact this.symm
    rw[this] at hz;cases hz
   ·rw[e] at h;have:na D o p (gR D o p)=true:=oG.2 fun k hk=>by rw[ri ho,h1 k hk]
    rw[this] at h;cases h
  ·omega
def fdA (l:List Int) (d:Int):Int:=if fdC l d=1 then(ga l d:Int) else 0
def fdM (l:List Int) (d:Int):Int:=if fdC l d=1 then gR (fdD l d) (d+1).toNat (ga l d) else 0
theorem kt {l:List Int} {d:Int} (h:fdV l d=false):fdC l d=3∧fdA l d=0∧fdM l d=0:=by
 have:fdC l d=3:=by unfold fdC;rw[if_pos h]
 exact⟨this,by unfold fdA;rw[this];rfl,by unfold fdM;rw[this];rfl⟩
theorem vH {l:List Int} {d:Int} (h:fdV l d=true) (hz:ci (fdD l d)=true):fdC l d=0∧fdA l d=0∧fdM l d=0:=by
 have:fdC l d=0:=by unfold fdC;rw[if_neg (by rw[h];simp),if_pos hz]
 exact⟨this,by unfold fdA;rw[this];rfl,by unfold fdM;rw[this];rfl⟩
theorem CC {l:List Int} {d:Int} {p:Nat} (h:fdV l d=true) (hz:ci (fdD l d)=false) (hp:p<l.length) (hb:∀q,q<p→d9 (fdD l d) (d+1).toNat q=false) (hx:d9 (fdD l d) (d+1).toNat p=true):fdC l d=1∧fdA l d=(p:Int)∧fdM l d=gR (fdD l d) (d+1).toNat p:=by
 have e:ga l d=p:=IZ hp hb hx;have:fdC l d=1:=by unfold fdC;rw[if_neg (by rw[h];simp),if_neg (by rw[hz];simp),e,if_neg (by omega)]
 exact⟨this,by unfold fdA;rw[if_pos this,e],by unfold fdM;rw[if_pos this,e]⟩
theorem za {l:List Int} {d:Int} (h:fdV l d=true) (hz:ci (fdD l d)=false) (hb:∀q,q<l.length→d9 (fdD l d) (d+1).toNat q=false):fdC l d=2∧fdA l d=0∧fdM l d=0:=by
 have e:ga l d=l.length:=I0 hb;have:fdC l d=2:=by unfold fdC;rw[if_neg (by rw[h];simp),if_neg (by rw[hz];simp),e,if_pos rfl]
 exact⟨this,by unfold fdA;rw[this];rfl,by unfold fdM;rw[this];rfl⟩
theorem lU {l:List Int} {d:Int} (h:fdV l d=true):ag l=true∧(0≤d∧d≤6)∧d+3≤(l.length:Int):=by
 unfold fdV at h;rw[JB,JB] at h;exact⟨h.1.1,am.1 h.1.2,of_decide_eq_true h.2⟩
theorem mt (l:List Int) (d:Int):fdC l d=0∨fdC l d=1∨fdC l d=2∨fdC l d=3:=by
 unfold fdC
 split
 ·simp
 ·split
  ·simp
  ·split <;> simp
theorem ks {l:List Int} {d:Int} (h:fdC l d=1):ga l d<l.length∧fdV l d=true:=by
 unfold fdC at h;cases hv:fdV l d
 ·rw[hv] at h;simp at h
 ·rw[hv,if_neg (by simp)] at h
  split at h
  ·simp at h
  ·split at h
   ·simp at h
   ·rename_i h2
    have:ga l d≤l.length:=(dc (fun p => !d9 (fdD l d) (d+1).toNat p) l.length).1;exact⟨by omega,rfl⟩
def eN (l:List Int) (d:Int):Bool:=decide (fdC l d=0∨fdC l d=1)
def crL (l:List Int) (d:Int):List Int:=if fdC l d=0 then l else if fdC l d=1 then l.set (ga l d) (at_ l (ga l d)-fdM l d) else[]
theorem ph (l:List Int) (d:Int) : -128000000000≤fdM l d∧fdM l d≤128000000000:=by
 unfold fdM
 split
 ·rename_i h
  obtain⟨ht,hd,-⟩:=lU (ks h).2;exact uX (sJ ht (by omega)) _ _
 ·omega
end Go.Proofs.YtfmjklgfpiffbaaGreatDoor
