/-
  Parts of the proof of one statement, merged: PjP PjN PjJ PjC PjD PjE PjF.
-/
import Derived.Test.YtfmjklgfpiffbaaGreatDoorR22
namespace Go.Proofs.YtfmjklgfpiffbaaGreatDoor
open Go.RowKit Go.Proofs.Tryz
set_option linter.unusedVariables false
set_option linter.unusedSimpArgs false
set_option maxRecDepth 100000
set_option maxHeartbeats 8000000
def ez (p:List UInt8):List (List UInt8)→List (List UInt8)
 |[]=>[p]
 |q::r=>(p++q)::r
theorem vM {x:List (List UInt8)} (h:x≠[]):ez [] x=x:=by cases x with|nil=>exact absurd rfl h|cons a r=>rfl
theorem CF (p q:List UInt8) (x:List (List UInt8)):ez p (ez q x)=ez (p++q) x:=by cases x with|nil=>rfl|cons a r=>simp[ez]
def bJ (c:UInt8):List UInt8→List (List UInt8)
 |[]=>[[]]
 |b::r=>if b=c then[]::bJ c r else ez [b] (bJ c r)
theorem kj (c:UInt8) (s:List UInt8):bJ c s≠[]:=by
 cases s with
 |nil=>simp[bJ]
 |cons b r=>
  unfold bJ
  split
  ·simp
  ·cases bJ c r <;> simp[ez]
theorem ie (c:UInt8) (r:List UInt8):bJ c (c::r)=[]::bJ c r:=by simp[bJ]
theorem fW {b c:UInt8} (h:b≠c) (r:List UInt8):bJ c (b::r)=ez [b] (bJ c r):=by simp[bJ,h]
theorem Ew (c:UInt8) (s:List UInt8):(bJ c s).length≤s.length+1:=by
 induction s with
 |nil=>simp[bJ]
 |cons b r ih=>
  unfold bJ
  split
  ·simp;omega
  ·cases h:bJ c r with
   |nil=>simp[ez]
   |cons a q=>rw[h] at ih;simp[ez] at ih ⊢;omega
theorem EV {p:List UInt8} {x:List (List UInt8)} (h:x≠[]):(ez p x).length=x.length:=by cases x with|nil=>exact absurd rfl h|cons a r=>rfl
theorem zG (c:UInt8) (s:List UInt8):(bJ c s).length=s.count c+1:=by
 induction s with
 |nil=>rfl
 |cons b r ih=>
  by_cases h:b=c
  ·subst h;rw[ie,List.length_cons,ih,List.count_cons_self]
  ·rw[fW h,EV (kj c r),ih,List.count_cons_of_ne h]
theorem zY {b c:UInt8} (h:b≠c) (l:List UInt8):Lib.index (b::l) [c]=if Lib.index l [c] == -1 then -1 else Lib.index l [c]+1:=by
 have hp:([c]:List UInt8).isPrefixOf (b::l)=false:=by simp[List.isPrefixOf,Ne.symm h]
 rw[Lib.index,hp];simp
theorem oz (c:UInt8):∀(s:List UInt8),Lib.splitK [c] 0 (s.count c) s=bJ c s
 |[]=>rfl
 |b::l=>by
  by_cases h:b=c
  ·subst h;have hix:Lib.index (b::l) [b]=((0:Nat):Int):=by rw[Lib.index];simp[List.isPrefixOf]
   have ih:=oz b l;rw[List.count_cons_self,ie];unfold Lib.splitK;rw[hix];simp[ih]
  ·have ih:=oz c l;rw[List.count_cons_of_ne h,fW h,←ih];cases hk:l.count c with
   |zero=>rfl
   |succ k=>
    unfold Lib.splitK;rw[zY h];by_cases hm:Lib.index l [c] = -1
    ·have:=Lib.count_miss hm;rw[Lib.count_one] at this;omega
    ·have hge:=Lib.index_ge l [c];obtain⟨j,hj⟩:∃j:Nat,Lib.index l [c]=j:=⟨(Lib.index l [c]).toNat,by omega⟩;rw[hj];have e1:((j:Int) == -1)=false:=by simp
     have e2:(((j:Int)+1) == -1)=false:=by simp;omega
     have e3:((j:Int)+1).toNat=j+1:=by omega
     simp[e1,e2,e3,ez]
def baL (l:List UInt8):ByteArray:=⟨l.toArray⟩
theorem f9 (s:ByteArray):baL s.data.toList=s:=by
 apply ByteArray.ext
 simp[baL]
theorem fB (l:List UInt8):(baL l).data.toList=l:=by simp[baL]
theorem Ei (l:List UInt8):(baL l).size=l.length:=by simp[baL,ByteArray.size]
def aq (c:UInt8) (s:ByteArray):List ByteArray:=(bJ c s.data.toList).map baL
theorem rn (c:UInt8) (s:ByteArray):Lib.splitB ⟨#[c]⟩ 0 (Lib.countB s ⟨#[c]⟩) s=aq c s:=by
 have h:=Lib.splitB_data ⟨#[c]⟩ 0 (Lib.countB s ⟨#[c]⟩) s;have hc:Lib.countB s ⟨#[c]⟩=s.data.toList.count c:=Lib.count_one c s.data.toList;rw[hc] at h ⊢;rw[show(⟨#[c]⟩:ByteArray).data.toList=[c] from rfl,oz] at h;unfold aq;rw[←h,List.map_map]
 conv=>lhs;rw[←List.map_id (Lib.splitB _ _ _ _)]
 apply List.map_congr_left
 intro x _;exact(f9 x).symm
theorem Ex (c:UInt8) (s:ByteArray):(aq c s).length=Lib.countB s ⟨#[c]⟩+1:=by
 have hc:Lib.countB s ⟨#[c]⟩=s.data.toList.count c:=Lib.count_one c s.data.toList;rw[hc,aq,List.length_map,zG]
theorem ff (c:UInt8) (s:ByteArray):(aq c s).length≤s.size+1:=by
 rw[aq,List.length_map];exact Ew c _
theorem vl {c:UInt8}:∀ {s p:List UInt8},p∈bJ c s→p.length≤s.length:=by
 intro s
 induction s with
 |nil=>intro p hp;simp[bJ] at hp;simp[hp]
 |cons b r ih=>
  intro p hp;unfold bJ at hp
  split at hp
  ·rcases List.mem_cons.1 hp with rfl|h
   ·simp
   ·have:=ih h;simp;omega
  ·cases h:bJ c r with
   |nil=>exact absurd h (kj c r)
   |cons a q=>
    rw[h] at hp ih;simp only[ez] at hp
    rcases List.mem_cons.1 hp with rfl|h'
    ·have:=ih (p:=a) (by simp);simp;omega
    ·have:=ih (p:=p) (by simp[h']);simp;omega
theorem cT {c:UInt8} {s p:ByteArray} (h:p∈aq c s):p.size≤s.size:=by
 obtain⟨q,hq,rfl⟩:=List.mem_map.1 h;rw[Ei];exact vl hq
theorem Cf {c:UInt8} {p:List UInt8} (h:c∉p):bJ c p=[p]:=by
 induction p with
 |nil=>rfl
 |cons b r ih=>
  have hb:b≠c:=fun e=>h (by simp[e]);rw[fW hb,ih (fun e=>h (by simp[e]))]
  rfl
theorem Gp {c:UInt8} {p:List UInt8} (h:c∉p) (r:List UInt8):bJ c (p++c::r)=p::bJ c r:=by
 induction p with
 |nil=>exact ie c r
 |cons b q ih=>
  have hb:b≠c:=fun e=>h (by simp[e]);rw[List.cons_append,fW hb,ih (fun e=>h (by simp[e]))]
  rfl
theorem Ey {c:UInt8} (x:List UInt8) (r:List (List UInt8)) (h:∀p∈x::r,c∉p):bJ c (Lib.join (x::r) [c])=x::r:=by
 induction r generalizing x with
 |nil=>rw[Lib.join_one];exact Cf (h x (by simp))
 |cons y q ih=>
  have e:Lib.join (x::y::q) [c]=x++c::Lib.join (y::q) [c]:=by
   rw[Lib.join_cons,Lib.join_cons];simp[Lib.joinTail]
  rw[e,Gp (h x (by simp)),ih y (fun p hp=>h p (by simp at hp ⊢;exact Or.inr hp))]
theorem E3 (c:UInt8) (s:List UInt8):Lib.join (bJ c s) [c]=s:=by
 induction s with
 |nil=>simp[bJ,Lib.join_one]
 |cons b r ih=>
  cases hc:bJ c r with
  |nil=>exact absurd hc (kj c r)
  |cons a q=>
   rw[hc] at ih;by_cases h:b=c
   ·subst h;rw[ie,hc];have e:Lib.join ([]::a::q) [b]=[]++b::Lib.join (a::q) [b]:=by
     rw[Lib.join_cons,Lib.join_cons];simp[Lib.joinTail]
    rw[e,ih]
    rfl
   ·rw[fW h,hc];simp only[ez];rw[Lib.join_cons] at ih ⊢;rw[List.append_assoc,ih]
    rfl
theorem oU (l:List UInt8) (b:UInt8):∀acc:Nat,Lib.decFrom acc (l++[b])=(Lib.decFrom acc l).bind fun n=>(Lib.digitVal b).map fun d=>n*10+d:=by
 induction l with
 |nil=>intro acc;simp[Lib.decFrom];cases Lib.digitVal b <;> rfl
 |cons a r ih=>
  intro acc;rw[List.cons_append];unfold Lib.decFrom;cases Lib.digitVal a with
  |none=>rfl
  |some d=>exact ih _
theorem rp {d:Nat} (h:d<10):Lib.digitVal (UInt8.ofNat (48+d))=some d:=by
 unfold Lib.digitVal;have:(UInt8.ofNat (48+d)).toNat=48+d:=by simp;omega
 rw[this,if_pos (by omega)];simp
theorem ii {m:Nat} (h:m<10):Lib.decDigits m=[UInt8.ofNat (48+m)]:=Lib.decDigits_one h
theorem pT {m:Nat} (h:¬m<10):Lib.decDigits m=Lib.decDigits (m / 10)++[UInt8.ofNat (48+m % 10)]:=by rw[Lib.decDigits,dif_neg h]
theorem oV (m:Nat):Lib.decDigits m≠[]:=by
 by_cases h:m<10
 ·rw[ii h];simp
 ·rw[pT h];simp
theorem kn:∀m:Nat,Lib.decFrom 0 (Lib.decDigits m)=some m:=by
 intro m
 induction m using Nat.strongRecOn with
 |_ m ih=>
  by_cases h:m<10
  ·rw[ii h];unfold Lib.decFrom;rw[rp h];simp[Lib.decFrom]
  ·rw[pT h,oU,ih (m / 10) (by omega),Option.bind_some,rp (Nat.mod_lt _ (by omega))];simp;omega
theorem vr:∀m:Nat,m≠0→∀b,(Lib.decDigits m)[0]?=some b→b≠48:=by
 intro m
 induction m using Nat.strongRecOn with
 |_ m ih=>
  intro h0 b hb;by_cases h:m<10
  ·rw[ii h] at hb;simp at hb;subst hb;intro e;have:=congrArg UInt8.toNat e;simp at this;omega
  ·rw[pT h,List.getElem?_append_left (List.length_pos_iff.2 (oV _))] at hb;exact ih (m / 10) (by omega) (by omega) b hb
theorem EA {b:UInt8} {d:Nat} (h:Lib.digitVal b=some d):d<10∧b=UInt8.ofNat (48+d):=by
 obtain⟨h1,h2,h3⟩:=Lib.digitVal_eq h;refine⟨by omega,?_⟩
 apply UInt8.toNat_inj.1
 simp;omega
theorem qg:∀(l:List UInt8) (m:Nat),l≠[]→Lib.decFrom 0 l=some m→(l[0]?=some 48→l.length=1)→Lib.decDigits m=l:=by
 suffices H:∀(k:Nat) (l:List UInt8),l.length≤k→∀m:Nat,l≠[]→Lib.decFrom 0 l=some m→(l[0]?=some 48→l.length=1)→Lib.decDigits m=l from fun l=>H l.length l (Jr _)
 intro k
 induction k with
 |zero=>intro l hl m h;exact absurd (List.length_eq_zero_iff.1 (by omega)) h
 |succ k ih0=>
  intro l hl m hne hm hz;obtain⟨p,b,rfl⟩:∃p b,l=p++[b]:=by
   rcases List.eq_nil_or_concat l with h|⟨p,b,h⟩
   ·exact absurd h hne
   ·exact⟨p,b,by simpa using h⟩
  have ih:=ih0 p (by simp at hl;omega);clear ih0;rw[oU] at hm;cases hp:Lib.decFrom 0 p with
  |none=>rw[hp] at hm;simp at hm
  |some n=>
   rw[hp,Option.bind_some] at hm;cases hd:Lib.digitVal b with
   |none=>rw[hd] at hm;simp at hm
   |some d=>
    rw[hd] at hm;simp at hm;obtain⟨h1,h2⟩:=EA hd;cases p with
    |nil=>
     simp[Lib.decFrom] at hp;subst hp;obtain rfl:m=d:=by omega
     rw[ii h1,h2]
     rfl
    |cons a r=>
     have e:=ih n (by simp) hp (fun h=>by have:=hz (by simpa using h);simp at this);have hn:n≠0:=by
      intro h0;subst h0;rw[ii (by omega)] at e;have:=hz (by rw[←e];rfl);simp at this
     have hb:¬m<10:=by omega
     rw[pT hb,show m / 10=n by omega,show m % 10=d by omega,e,h2]
def jo (t:List UInt8):Option Int:=match Lib.atoi t with
 |some n=>if Lib.itoa n=t∧(Lib.trimPrefix t [45]).length≤17 then some n else none
 |none=>none
theorem C0 {t:List UInt8} {n:Int} (h:jo t=some n):Lib.itoa n=t:=by
 unfold jo at h
 split at h
 ·split at h
  ·rename_i hc
   rw[←JC h];exact hc.1
  ·exact absurd h (by simp)
 ·exact absurd h (by simp)
theorem oC (r:List UInt8):Lib.trimPrefix (45::r) [45]=r:=by simp[Lib.trimPrefix,Lib.hasPrefix,List.isPrefixOf]
theorem oD {b:UInt8} (h:b≠45) (r:List UInt8):Lib.trimPrefix (b::r) [45]=b::r:=by simp[Lib.trimPrefix,Lib.hasPrefix,List.isPrefixOf,Ne.symm h]
theorem Ci (m:Nat) (k:Nat) (b:UInt8) (h:(Lib.decDigits m)[k]?=some b):∃d,Lib.digitVal b=some d:=Lib.digit_of_decFrom _ _ _ (kn m) k b h
theorem yk:Lib.digitVal 45=none:=by decide
theorem yj:Lib.digitVal 43=none:=by decide
theorem tG {m:Nat} (h:m<100000000000000000):(Lib.decDigits m).length≤17:=by
 rw[Lib.decDigits_length]
 rcases Nat.lt_or_ge 17 (Lib.nDigits m) with h'|h'
 ·have:=Lib.nDigits_unique
  exfalso
  have hp:∀u:Nat,∀k:Nat,u<10 ^ (k+1)→Lib.nDigits u≤k+1:=by
   intro u
   induction u using Nat.strongRecOn with
   |_ u ih=>
    intro k hk;by_cases hu:u<10
    ·rw[Lib.nDigits_small hu];omega
    ·rw[Lib.nDigits_big hu];cases k with
     |zero=>simp at hk;omega
     |succ k=>
      have:=ih (u / 10) (by omega) k (by rw[Nat.pow_succ] at hk;omega);omega
  have:=hp m 16 (by simpa using h);omega
 ·exact h'
theorem nK (m:Nat):∃b r,Lib.decDigits m=b::r∧b≠45∧b≠43:=by
 cases h:Lib.decDigits m with
 |nil=>exact absurd h (oV m)
 |cons b r=>
  obtain⟨d,hd⟩:=Ci m 0 b (by rw[h];rfl);refine⟨b,r,rfl,?_,?_⟩
  ·rintro rfl;rw[yk] at hd;simp at hd
  ·rintro rfl;rw[yj] at hd;simp at hd
theorem vb (m:Nat):Lib.decNat (Lib.decDigits m)=some m:=by
 unfold Lib.decNat;rw[kn m];have:=oV m;cases h:Lib.decDigits m with
 |nil=>exact absurd h this
 |cons _ _=>rfl
theorem BJ (n:Int):Lib.atoi (Lib.itoa n)=some n:=by
 by_cases h:n<0
 ·have e:Lib.itoa n=45::Lib.decDigits n.natAbs:=by unfold Lib.itoa;rw[if_pos h]
  rw[e];simp[Lib.atoi,vb];omega
 ·have e:Lib.itoa n=Lib.decDigits n.toNat:=by unfold Lib.itoa;rw[if_neg h]
  obtain⟨b,r,hd,h1,h2⟩:=nK n.toNat;have ha:=vb n.toNat;rw[e];rw[hd] at ha ⊢;simp[Lib.atoi,h1,h2,ha];omega
theorem sR {n:Int} (h0 : -100000000000000000<n) (h1:n<100000000000000000):jo (Lib.itoa n)=some n:=by
 unfold jo;rw[BJ];simp only;rw[if_pos];refine⟨trivial,?_⟩;by_cases h:n<0
 ·have e:Lib.itoa n=45::Lib.decDigits n.natAbs:=by unfold Lib.itoa;rw[if_pos h]
  rw[e,oC];exact tG (by omega)
 ·have e:Lib.itoa n=Lib.decDigits n.toNat:=by unfold Lib.itoa;rw[if_neg h]
  obtain⟨b,r,hd,h1',h2'⟩:=nK n.toNat;rw[e,hd,oD h1',←hd];exact tG (by omega)
theorem GM (c:UInt8) (hc:Lib.digitVal c=none) (h45:c≠45) (n:Int):c∉Lib.itoa n:=by
 have hdec:∀m:Nat,c∉Lib.decDigits m:=by
  intro m hm;obtain⟨k,hk,he⟩:=List.getElem_of_mem hm;obtain⟨d,hd⟩:=Ci m k c (by rw[List.getElem?_eq_getElem hk,he]);rw[hc] at hd;simp at hd
 unfold Lib.itoa
 split
 ·intro h
  rcases List.mem_cons.1 h with h'|h'
  ·exact h45 h'
  ·exact hdec _ h'
 ·exact hdec _
theorem jf {n:Int} (h:n<0):Lib.itoa n=45::Lib.decDigits n.natAbs:=by unfold Lib.itoa;rw[if_pos h]
theorem jg {n:Int} (h:¬n<0):Lib.itoa n=Lib.decDigits n.toNat:=by unfold Lib.itoa;rw[if_neg h]
theorem mz {t:List UInt8} {n:Int} (h:jo t=some n):Lib.itoa n=t∧(Lib.trimPrefix t [45]).length≤17:=by
 unfold jo at h
 split at h
 ·split at h
  ·rename_i hc
   rw[←JC h];exact hc
  ·exact absurd h (by simp)
 ·exact absurd h (by simp)
theorem rL {r:List UInt8} {n:Int} (h:jo (45::r)=some n):r≠[]∧r.length≤17∧r[0]?≠some 48∧∃m,Lib.decFrom 0 r=some m:=by
 obtain⟨h1,h2⟩:=mz h;rw[oC] at h2;by_cases hn:n<0
 ·rw[jf hn] at h1;have h1':=(List.cons.inj h1).2;rw[←h1'];refine⟨oV _,by rw[h1'];exact h2,?_,_,kn _⟩;intro hb;exact vr n.natAbs (by omega) 48 hb rfl
 ·rw[jg hn] at h1;obtain⟨b,q,hd,h3,-⟩:=nK n.toNat;rw[hd] at h1;exact absurd (List.cons.inj h1).1 h3
theorem rM {t:List UInt8} {n:Int} (hm:t[0]?≠some 45) (h:jo t=some n):t≠[]∧t.length≤17∧(t[0]?=some 48→t.length=1)∧∃m,Lib.decFrom 0 t=some m:=by
 obtain⟨h1,h2⟩:=mz h;by_cases hn:n<0
 ·rw[jf hn] at h1;rw[←h1] at hm;exact absurd rfl hm
 ·rw[jg hn] at h1;have hne:t≠[]:=by rw[←h1];exact oV _
  refine⟨hne,?_,?_,?_⟩
  ·cases t with
   |nil=>exact absurd rfl hne
   |cons b r=>
    have hb:b≠45:=fun e=>hm (by simp[e]);rw[oD hb] at h2;exact h2
  ·intro h0;by_cases hz:n.toNat=0
   ·rw[hz,ii (by omega)] at h1;rw[←h1]
    rfl
   ·rw[←h1] at h0;exact absurd rfl (vr _ hz 48 h0)
  ·rw[←h1];exact⟨_,kn _⟩
theorem mu {r:List UInt8} {m:Nat} (hl:r.length≤17) (h:Lib.decFrom 0 r=some m):m<100000000000000000:=by
 have h1:=Lib.decFrom_lt r 0 m h;have h2:10 ^ r.length≤10 ^ 17:=Nat.pow_le_pow_right (by omega) hl;simp at h1 h2;omega
theorem uB {r:List UInt8} {m:Nat} (h0:r≠[]) (hl:r.length≤17) (hz:r[0]?≠some 48) (h:Lib.decFrom 0 r=some m):jo (45::r)=some (-(m:Int)):=by
 have hb:=mu hl h;have e:=qg r m h0 h (fun h'=>absurd h' hz);have hm:m≠0:=by
  rintro rfl;rw[ii (by omega)] at e;exact hz (by rw[←e];rfl)
 have h2:=sR (n := -(m:Int)) (by omega) (by omega);rw[jf (by omega),show(-(m:Int)).natAbs=m by omega,e] at h2;exact h2
theorem uC {t:List UInt8} {m:Nat} (h0:t≠[]) (hl:t.length≤17) (hz:t[0]?=some 48→t.length=1) (h:Lib.decFrom 0 t=some m):jo t=some (m:Int):=by
 have hb:=mu hl h;have e:=qg t m h0 h hz;have h2:=sR (n:=(m:Int)) (by omega) (by omega);rw[jg (by omega),show((m:Int)).toNat=m by omega,e] at h2;exact h2
theorem GQ {t:List UInt8} {n:Int} (h:jo t=some n) : -100000000000000000<n∧n<100000000000000000:=by
 obtain⟨h1,h2⟩:=mz h;by_cases hn:n<0
 ·rw[jf hn] at h1;rw[←h1,oC] at h2;have:=mu h2 (kn _);omega
 ·have hp:=jg hn;obtain⟨b,q,hd,h3,-⟩:=nK n.toNat;rw[hp,hd] at h1;rw[←h1,oD h3,←hd] at h2;have:=mu h2 (kn _);omega
def bn (s:ByteArray):Option Int:=jo s.data.toList
def cA (s:ByteArray):Int:=(bn s).getD 0
theorem fM (s:ByteArray) : -100000000000000000<cA s∧cA s<100000000000000000:=by
 unfold cA;cases h:bn s with
 |none=>simp
 |some n=>exact GQ h
theorem C2 {s:ByteArray} {n:Int} (h:bn s=some n):au n=s:=by
 unfold au;rw[C0 h]
theorem zd {n:Int} (h0 : -100000000000000000<n) (h1:n<100000000000000000):bn (au n)=some n:=sR h0 h1
def sB (l:List ByteArray):Bool:=l.all fun s=>(bn s).isSome
def bg (s:ByteArray):List Int:=(aq 32 s).map cA
def aE (s:ByteArray):Bool:=sB (aq 32 s)
theorem jK {s:ByteArray} (h:(bn s).isSome=true):au (cA s)=s:=by
 unfold cA;cases h':bn s with
 |none=>rw[h'] at h;simp at h
 |some n=>exact C2 h'
theorem mx (c:UInt8) (s:ByteArray):aW (aq c s) ⟨#[c]⟩=s:=by
 unfold aW aq;rw[List.map_map];have e:(fun x:List UInt8=>(baL x).data.toList)=id:=by funext x;exact fB x
 rw[show((fun x:ByteArray=>x.data.toList)∘baL)=id from e,List.map_id];rw[show(⟨#[c]⟩:ByteArray).data.toList=[c] from rfl,E3]
theorem tF {c:UInt8} (x:ByteArray) (r:List ByteArray) (h:∀p∈x::r,c∉p.data.toList):aq c (aW (x::r) ⟨#[c]⟩)=x::r:=by
 unfold aW aq;have e:(baL (Lib.join ((x::r).map (·.data.toList)) [c])).data.toList=Lib.join ((x::r).map (·.data.toList)) [c]:=fB _
 show(bJ c (baL (Lib.join ((x::r).map (·.data.toList)) [c])).data.toList).map baL=x::r
 rw[e,List.map_cons,Ey]
 ·rw[←List.map_cons (f:=fun p:ByteArray=>p.data.toList),List.map_map];have e2:(baL∘fun p:ByteArray=>p.data.toList)=id:=by funext p;exact f9 p
  rw[e2,List.map_id]
 ·intro p hp;rw[←List.map_cons (f:=fun p:ByteArray=>p.data.toList)] at hp;obtain⟨q,hq,rfl⟩:=List.mem_map.1 hp;exact h q hq
theorem kH {s:ByteArray} (h:aE s=true):aw (bg s)=s:=by
 unfold aw bg;rw[List.map_map];have:(aq 32 s).map (au∘cA)=aq 32 s:=by
  conv=>rhs;rw[←List.map_id (aq 32 s)]
  apply List.map_congr_left
  intro x hx;exact jK (List.all_eq_true.1 h x hx)
 rw[this];exact mx 32 s
def Sm (l:List Int):Prop:=∀n∈l,-100000000000000000<n∧n<100000000000000000
theorem qP (s:ByteArray):Sm (bg s):=by
 intro n hn;obtain⟨x,_,rfl⟩:=List.mem_map.1 hn;exact fM x
theorem nT (c:UInt8) (hc:Lib.digitVal c=none) (h45:c≠45) (n:Int):c∉(au n).data.toList:=by
 have:(au n).data.toList=Lib.itoa n:=fB _;rw[this];exact GM c hc h45 n
theorem Ce {l:List Int} (h:l≠[]):aq 32 (aw l)=l.map au:=by
 cases l with
 |nil=>exact absurd rfl h
 |cons x r=>
  unfold aw;rw[List.map_cons]
  apply tF
  intro p hp;rw[←List.map_cons] at hp;obtain⟨n,_,rfl⟩:=List.mem_map.1 hp;exact nT 32 (by decide) (by decide) n
theorem kW {l:List Int} (h:l≠[]) (hs:Sm l):aE (aw l)=true∧bg (aw l)=l:=by
 unfold aE bg;rw[Ce h];refine⟨?_,?_⟩
 ·apply List.all_eq_true.2
  intro x hx;obtain⟨n,hn,rfl⟩:=List.mem_map.1 hx;rw[zd (hs n hn).1 (hs n hn).2]
  rfl
 ·rw[List.map_map]
  conv=>rhs;rw[←List.map_id l]
  apply List.map_congr_left
  intro n hn
  show cA (au n)=n
  unfold cA;rw[zd (hs n hn).1 (hs n hn).2]
  rfl
theorem Fb {c:UInt8} (hc:Lib.digitVal c=none) (h45:c≠45) (h32:c≠32) (l:List Int):c∉(aw l).data.toList:=by
 unfold aw aW;rw[show ∀x:List UInt8,(⟨x.toArray⟩:ByteArray).data.toList=x from fun x=>by simp];cases l with
 |nil=>simp[Lib.join_nil]
 |cons x r=>
  rw[List.map_cons,List.map_cons,Lib.join_cons];intro h
  rcases List.mem_append.1 h with h|h
  ·exact nT c hc h45 x h
  ·unfold Lib.joinTail at h;obtain⟨p,hp,hcp⟩:=List.mem_flatten.1 h;obtain⟨q,hq,rfl⟩:=List.mem_map.1 hp;obtain⟨y,hy,rfl⟩:=List.mem_map.1 hq;obtain⟨n,hn,rfl⟩:=List.mem_map.1 hy
   rcases List.mem_append.1 hcp with h|h
   ·simp at h;exact h32 h
   ·exact nT c hc h45 n h
attribute [local go_sem ↓] Go.wp_at_zero Go.wp_at_succ
def mid (l:List UInt8) (f n:Nat):List UInt8:=(l.drop f).take (n-f)
theorem E9 {l:List UInt8} {f n:Nat} {b:UInt8} (hf:f≤n) (h:l[n]?=some b):mid l f (n+1)=mid l f n++[b]:=by
 unfold mid;rw[show n+1-f=(n-f)+1 by omega,List.take_add_one,List.getElem?_drop,show f+(n-f)=n by omega,h]
 rfl
theorem wb (l:List UInt8) (n:Nat):mid l n n=[]:=by simp[mid]
theorem sL {l:List UInt8} {n:Nat} {b:UInt8} (h:l[n]?=some b):l.drop n=b::l.drop (n+1):=by
 obtain⟨hn,rfl⟩:=List.getElem?_eq_some_iff.1 h;exact List.drop_eq_getElem_cons hn
theorem vp {c:UInt8} {l:List UInt8} {f n:Nat} {P X:List (List UInt8)} (hf:f≤n) (h:l[n]?=some c) (hx:P++ez (mid l f n) (bJ c (l.drop n))=X):(P++[mid l f n])++ez (mid l (n+1) (n+1)) (bJ c (l.drop (n+1)))=X:=by
 rw[sL h,ie] at hx;rw[←hx,wb,vM (kj c _)];simp[ez]
theorem ux {b c:UInt8} {l:List UInt8} {f n:Nat} {P X:List (List UInt8)} (hf:f≤n) (h:l[n]?=some b) (hb:b≠c) (hx:P++ez (mid l f n) (bJ c (l.drop n))=X):P++ez (mid l f (n+1)) (bJ c (l.drop (n+1)))=X:=by
 rw[sL h,fW hb,CF,←E9 hf h] at hx;exact hx
theorem vn {c:UInt8} {l:List UInt8} {f:Nat} {P X:List (List UInt8)} (hx:P++ez (mid l f l.length) (bJ c (l.drop l.length))=X):P++[mid l f l.length]=X:=by
 rw[List.drop_length] at hx;rw[←hx];simp[bJ,ez]
theorem gH (s:ByteArray) (f n:Nat):s.extract f n=baL (mid s.data.toList f n):=by
 apply ByteArray.ext
 apply Array.toList_inj.1
 unfold mid baL;simp
theorem gE (s:ByteArray) (n:Nat) (h:n<s.size):s.data.toList[n]?=some s[n]:=by
 rw[List.getElem?_eq_getElem (by exact h)]
 rfl
def IW (c:UInt8) (s:ByteArray) (L:List ByteArray) (f n:Nat):Prop:=∃P:List (List UInt8),L=P.map baL∧P.length≤n ∧
 ((n≤s.size∧f≤n∧P++ez (mid s.data.toList f n) (bJ c (s.data.toList.drop n))=bJ c s.data.toList)∨(n=s.size+1∧P=bJ c s.data.toList))
theorem ip (s:ByteArray) (c:UInt8) (w:World) (hs:s.size≤1048576):
  Calls prog 8 #[.string s,.int .u8 c.toNat] w fun e w'=>∃r,e=.returned r∧aj w' w.heap.size r (aq c s)∧Below w.heap.size w w':=by
 have O0:=aj.empty w w.heap.size (Jr _);have B0:=ab w (.cells #[] 9)
 go_enter func8,ntmps8
 go_wp2_with fail
 generalize hW:w.alloc (.cells #[] 9)=w1 at *;clear hW
 go_loopw [5,6,7] (fun v f i wr=>∃(L:List ByteArray) (f0 n:Nat),IW c s L f0 n∧f=.int .i64 f0∧i=.int .i64 n∧aj wr w.heap.size v L∧Below w.heap.size w wr) (fun _ _ i _=>s.size+1-(intOf i).toNat)
 case atStart=>exact⟨[],0,0,⟨[],rfl,Jr _,.inl ⟨Jy _,Jr _,by rw[wb];simp[vM (kj _ _)]⟩⟩,rfl,rfl,O0,B0⟩
 case round=>
  obtain⟨L,f0,n,⟨P,hLP,hPn,hC⟩,rfl,rfl,hO,hb⟩:=hrel;have HO:=Jj hO;have HB:=Jj hb;have hz:=hb.size;have hLn:L.length≤n:=by rw[hLP,List.length_map];exact hPn
  clear hO hb O0 B0
  rcases hC with ⟨h1,h2,h3⟩|⟨h1,h2⟩
  ·have H3:=Jj h3;clear h3;have hxs:(s.extract f0 n).size≤9223372036854775807:=by rw[ByteArray.size_extract];omega
   have EX:=Jj (gH s f0 n);by_cases hn:n<s.size
   ·have hby:=gE s n hn;have HBY:=Jj hby;clear hby;have hne:((n:Int)==(s.size:Int))=false:=by simp;omega
    have hni:¬(n:Int)=(s.size:Int):=by omega
    cases hq:((s[n].toNat:Int)==(c.toNat:Int))
    ·have HQ:=Jj (show s[n]≠c from fun e=>by rw[e] at hq;simp at hq);go_wp2;go_roundw
     case rel=>exact⟨L,f0,n+1,⟨P,hLP,by omega,.inl ⟨hn,by omega,ux h2 HBY.out HQ.out H3.out⟩⟩,rfl,by go_num,HO.out,HB.out⟩
     case measure=>simp[intOf];omega
    ·have HQ:=Jj (show s[n]=c from by have e:(s[n].toNat:Int)=(c.toNat:Int):=(by simpa using hq);exact UInt8.toNat_inj.1 (by omega))
     go_wp2_with (at_builtin;go_must (refine lP rfl (.tmp 26) (.tmp 31) (by rfl) w.heap.size _ L (by rfl) (by exact HO.out.bel (ab _ _)) _ _ (s.extract f0 n) (by rfl) (by exact bh _ _ _) hxs (by omega) (by simp;omega) ?_;intro v6 w6 ho6 hg6 hat6;have B6:=(HB.out.alloc hz (.cells #[.string (s.extract f0 n)] 9)).trans (bQ (base:=w.heap.size) hg6 (by simp;omega) (fun q hq=>by have:=(HO.out.lt q hq).1;omega))))
     go_roundw
     case rel=>
      refine⟨L++[s.extract f0 n],n+1,n+1,⟨P++[mid s.data.toList f0 n],by rw[hLP,EX.out,List.map_append];rfl,by simp;omega,.inl ⟨hn,Jr _,vp h2 ?_ H3.out⟩⟩,by go_num,by go_num,ho6,B6⟩;rw[HBY.out,HQ.out]
     case measure=>simp[intOf];omega
   ·have hns:n=s.size:=by omega
    subst hns
    go_wp2_with (at_builtin;go_must (refine lP rfl (.tmp 26) (.tmp 31) (by rfl) w.heap.size _ L (by rfl) (by exact HO.out.bel (ab _ _)) _ _ (s.extract f0 s.size) (by rfl) (by exact bh _ _ _) hxs (by omega) (by simp;omega) ?_;intro v6 w6 ho6 hg6 hat6;have B6:=(HB.out.alloc hz (.cells #[.string (s.extract f0 s.size)] 9)).trans (bQ (base:=w.heap.size) hg6 (by simp;omega) (fun q hq=>by have:=(HO.out.lt q hq).1;omega))))
    go_roundw
    case rel=>
     refine⟨L++[s.extract f0 s.size],s.size+1,s.size+1,⟨P++[mid s.data.toList f0 s.size],by rw[hLP,EX.out,List.map_append];rfl,by simp;omega,.inr ⟨rfl,?_⟩⟩,by go_num,by go_num,ho6,B6⟩;exact vn H3.out
    case measure=>simp[intOf]
  ·subst h1;have HE:=Jj (show L=aq c s by rw[hLP,h2];rfl);go_wp2;go_ret;exact⟨_,rfl,by rw[←HE.out];exact HO.out,HB.out⟩
theorem px {s:ByteArray} (h:∀n,bn s≠some n):bn s=none:=by
 cases hq:bn s with
 |none=>rfl
 |some n=>exact absurd hq (h n)
def cV (s:ByteArray) (e:Ending):Prop:=e=.returned (.tuple #[.int .i64 (cA s),.bool (bn s).isSome])
theorem cV.bad {s:ByteArray} (h:bn s=none):cV s (.returned (.tuple #[.int .i64 0,.bool false])):=by unfold cV cA;rw[h];rfl
theorem cV.good {s:ByteArray} {n:Int} (h:bn s=some n):cV s (.returned (.tuple #[.int .i64 n,.bool true])):=by unfold cV cA;rw[h];rfl
theorem zf {s z:ByteArray} {neg:Bool} (hs:s.data.toList=if neg=true then 45::z.data.toList else z.data.toList) (h45:neg=false→z.data.toList[0]?≠some 45) (h:z.size=0∨17<z.size∨(z.data.toList[0]?=some 48∧(1<z.size∨neg=true))):bn s=none:=by
 apply px
 intro n hn;have hz:z.data.toList.length=z.size:=rfl;unfold bn at hn;rw[hs] at hn;cases neg
 ·obtain⟨g0,g1,g2,-⟩:=rM (h45 rfl) hn
  rcases h with h|h|⟨h,h'|h'⟩
  ·exact g0 (List.length_eq_zero_iff.1 (by omega))
  ·rw[hz] at g1;omega
  ·have:=g2 h;omega
  ·exact absurd h' (by simp)
 ·obtain⟨g0,g1,g2,-⟩:=rL hn
  rcases h with h|h|⟨h,-⟩
  ·exact g0 (List.length_eq_zero_iff.1 (by omega))
  ·omega
  ·exact g2 h
theorem qN {s z:ByteArray} {neg:Bool} (hs:s.data.toList=if neg=true then 45::z.data.toList else z.data.toList) (h45:neg=false→z.data.toList[0]?≠some 45) (h:Lib.decFrom 0 z.data.toList=none):bn s=none:=by
 apply px
 intro n hn;unfold bn at hn;rw[hs] at hn;cases neg
 ·obtain⟨-,-,-,m,hm⟩:=rM (h45 rfl) hn;rw[h] at hm;simp at hm
 ·obtain⟨-,-,-,m,hm⟩:=rL hn;rw[h] at hm;simp at hm
theorem qO {s z:ByteArray} {neg:Bool} {m:Nat} (hs:s.data.toList=if neg=true then 45::z.data.toList else z.data.toList) (h:¬(z.size=0∨17<z.size∨(z.data.toList[0]?=some 48∧(1<z.size∨neg=true)))) (hm:Lib.decFrom 0 z.data.toList=some m):bn s=some (if neg=true then -(m:Int) else(m:Int)):=by
 have hz:z.data.toList.length=z.size:=rfl;have h0:z.data.toList≠[]:=fun e=>h (.inl (by rw[←hz,e];rfl));have h1:z.data.toList.length≤17:=Nat.le_of_not_lt fun e=>h (.inr (.inl (by rw[←hz];exact e)));unfold bn;rw[hs];cases neg
 ·show jo z.data.toList=some (m:Int)
  refine uC h0 h1 (fun e=>?_) hm;have:¬ 1<z.size:=fun e2=>h (.inr (.inr ⟨e,.inl e2⟩));have:z.data.toList.length≠0:=fun e3=>h0 (List.length_eq_zero_iff.1 e3);omega
 ·exact uB h0 h1 (fun e=>h (.inr (.inr ⟨e,.inr rfl⟩))) hm
theorem vu {b:UInt8} (h:¬(b.toNat<48∨57<b.toNat)):Lib.digitVal b=some (b.toNat-48):=by unfold Lib.digitVal;rw[if_pos (by omega)]
theorem vt {b:UInt8} (h:b.toNat<48∨57<b.toNat):Lib.digitVal b=none:=by unfold Lib.digitVal;rw[if_neg (by omega)]
theorem sO {l:List UInt8} {k:Nat} {b:UInt8} (hb:l[k]?=some b) (h:Lib.digitVal b=none):Lib.decFrom 0 l=none:=by
 cases hq:Lib.decFrom 0 l with
 |none=>rfl
 |some n=>
  obtain⟨d,hd⟩:=Lib.digit_of_decFrom l 0 n hq k b hb;rw[h] at hd;simp at hd
def Sgn (neg:Bool) (s z:ByteArray):Prop:=(s.data.toList=if neg=true then 45::z.data.toList else z.data.toList)∧(neg=false→z.data.toList[0]?≠some 45)
def Hp (neg:Bool) (z:ByteArray):Prop:=z.size=0∨17<z.size∨(z.data.toList[0]?=some 48∧(1<z.size∨neg=true))
theorem js (s:ByteArray) (w:World) (hs:s.size≤1048576):
  Calls prog 78 #[.string s] w fun e w'=>cV s e∧w'=w:=by
 go_enter func78,ntmps78
 by_cases h0:0<s.size
 ·have hby:=gE s 0 h0;cases hq:((s[0].toNat:Int)==45)
  ·have HS:=Jj (show Sgn false s s from⟨rfl,fun _ e=>by
    rw[hby] at e;rw[JC e] at hq;simp at hq⟩)
   have hq2:¬(s[0].toNat:Int)=45:=by simpa using hq
   clear hby;obtain⟨z,hz⟩:∃z,z=s:=⟨_,rfl⟩;subst hz;by_cases hbad:Hp false z
   ·have HX:=Jj (zf HS.out.1 HS.out.2 hbad)
    rcases hbad with hz|hz|⟨hz,hz'⟩
    ·have e0:z=ByteArray.empty:=ByteArray.size_eq_zero_iff.1 hz;have e1:((z.size:Int)==0)=true:=by simp[hz]
     have e2:(z.size:Int)=0:=by omega
     exact absurd h0 (by omega)
    ·have e1:((z.size:Int)==0)=false:=by simp;rintro rfl;simp at hz
     have e3:¬z=ByteArray.empty:=by rintro rfl;simp at hz
     have e2:(17:Int)<(z.size:Int):=by omega
     go_wp2;go_ret2;exact⟨cV.bad HX.out,rfl⟩
    ·have hp:0<z.size:=by
      obtain⟨hp,-⟩:=List.getElem?_eq_some_iff.1 hz;exact hp
     have e1:((z.size:Int)==0)=false:=by simp;rintro rfl;simp at hp
     have e3:¬z=ByteArray.empty:=by rintro rfl;simp at hp
     have e5:z[0].toNat=48:=by rw[gE z 0 hp] at hz;have:=JC hz;rw[this];rfl
     have e6:(1:Int)<(z.size:Int):=hz'.elim (fun h=>by omega) (fun h=>absurd h (by simp));clear hz;by_cases h17:(17:Int)<(z.size:Int)
     all_goals
      by_cases h1x:(1:Int)<(z.size:Int)
      all_goals
       go_wp2;go_ret2;exact⟨cV.bad HX.out,rfl⟩
   ·have HG:=Jj hbad;have hp:0<z.size:=Nat.pos_of_ne_zero fun e=>hbad (.inl e);have h17:z.size≤17:=Nat.le_of_not_lt fun e=>hbad (.inr (.inl e));have e1:((z.size:Int)==0)=false:=by simp;rintro rfl;simp at hp
    have e3:¬z=ByteArray.empty:=by rintro rfl;simp at hp
    have e2:¬(17:Int)<(z.size:Int):=by omega
    have e5:¬((z[0].toNat:Int)=48∧(1:Int)<(z.size:Int)):=by
     intro h;refine hbad (.inr (.inr ⟨?_,.inl (by omega)⟩));rw[gE z 0 hp]
     congr 1
     apply UInt8.toNat_inj.1
     have:=h.1;simp;omega
    clear hbad;by_cases e7:(z[0].toNat:Int)=48
    ·have e6:((z[0].toNat:Int)==48)=true:=by simpa using e7
     have e8:¬(1:Int)<(z.size:Int):=fun h=>e5 ⟨e7,h⟩;clear e5;go_wp2
     go_loopw [5,6] (fun v i wr=>∃k m:Nat,v=.int .i64 m∧i=.int .i64 k∧k≤z.size∧Lib.decFrom 0 (z.data.toList.take k)=some m∧wr=w) (fun _ i _=>z.size-(intOf i).toNat)
     case atStart=>exact⟨0,0,rfl,rfl,Jy _,rfl,rfl⟩
     case round=>
      obtain⟨k,m,rfl,rfl,hk,hm,rfl⟩:=hrel;have HM:=Jj hm;have hlt:=Lib.decFrom_take_lt hm (by omega);clear hm;by_cases hkz:k<z.size
      ·have hby:=gE z k hkz;obtain⟨b,hb⟩:∃b,z[k]=b:=⟨_,rfl⟩;rw[hb] at hby;have HBY:=Jj hby;clear hby;by_cases hd:b.toNat<48∨57<b.toNat
       ·have HX:=Jj (qN HS.out.1 HS.out.2 (sO HBY.out (vt hd)))
        rcases hd with hd|hd
        ·have e8:(b.toNat:Int)<48:=by omega
         go_wp2;go_ret2;exact⟨cV.bad HX.out,rfl⟩
        ·have e8:¬(b.toNat:Int)<48:=by omega
         have e9:(57:Int)<(b.toNat:Int):=by omega
         go_wp2;go_ret2;exact⟨cV.bad HX.out,rfl⟩
       ·have HD:=Jj (Lib.decFrom_take z.data.toList k 0 m b (b.toNat-48) HM.out HBY.out (vu hd));have e8:¬(b.toNat:Int)<48:=by omega
        have e9:¬(57:Int)<(b.toNat:Int):=by omega
        clear hd;go_wp2;go_roundw
        case rel=>exact⟨k+1,m*10+(b.toNat-48),by go_num,by go_num,hkz,HD.out,by first|rfl|trivial⟩
        case measure=>simp[intOf];omega
      ·have hke:k=z.size:=by omega
       have HN:=Jj (qO HS.out.1 HG.out (by have h:=HM.out;rw[hke,show z.size=z.data.toList.length from rfl,List.take_length] at h;exact h));clear hke;go_wp2;go_ret2;exact⟨cV.good HN.out,rfl⟩
    ·have e6:((z[0].toNat:Int)==48)=false:=by simpa using e7
     clear e5;go_wp2
     go_loopw [5,6] (fun v i wr=>∃k m:Nat,v=.int .i64 m∧i=.int .i64 k∧k≤z.size∧Lib.decFrom 0 (z.data.toList.take k)=some m∧wr=w) (fun _ i _=>z.size-(intOf i).toNat)
     case atStart=>exact⟨0,0,rfl,rfl,Jy _,rfl,rfl⟩
     case round=>
      obtain⟨k,m,rfl,rfl,hk,hm,rfl⟩:=hrel;have HM:=Jj hm;have hlt:=Lib.decFrom_take_lt hm (by omega);clear hm;by_cases hkz:k<z.size
      ·have hby:=gE z k hkz;obtain⟨b,hb⟩:∃b,z[k]=b:=⟨_,rfl⟩;rw[hb] at hby;have HBY:=Jj hby;clear hby;by_cases hd:b.toNat<48∨57<b.toNat
       ·have HX:=Jj (qN HS.out.1 HS.out.2 (sO HBY.out (vt hd)))
        rcases hd with hd|hd
        ·have e8:(b.toNat:Int)<48:=by omega
         go_wp2;go_ret2;exact⟨cV.bad HX.out,rfl⟩
        ·have e8:¬(b.toNat:Int)<48:=by omega
         have e9:(57:Int)<(b.toNat:Int):=by omega
         go_wp2;go_ret2;exact⟨cV.bad HX.out,rfl⟩
       ·have HD:=Jj (Lib.decFrom_take z.data.toList k 0 m b (b.toNat-48) HM.out HBY.out (vu hd));have e8:¬(b.toNat:Int)<48:=by omega
        have e9:¬(57:Int)<(b.toNat:Int):=by omega
        clear hd;go_wp2;go_roundw
        case rel=>exact⟨k+1,m*10+(b.toNat-48),by go_num,by go_num,hkz,HD.out,by first|rfl|trivial⟩
        case measure=>simp[intOf];omega
      ·have hke:k=z.size:=by omega
       have HN:=Jj (qO HS.out.1 HG.out (by have h:=HM.out;rw[hke,show z.size=z.data.toList.length from rfl,List.take_length] at h;exact h));clear hke;go_wp2;go_ret2;exact⟨cV.good HN.out,rfl⟩
  ·have HS:=Jj (show Sgn true s (s.extract 1 s.size) from⟨by
    rw[if_pos rfl,show(45:UInt8)=s[0] from UInt8.toNat_inj.1 (by have:(s[0].toNat:Int)=45:=(by simpa using hq);simp;omega)]
    have:=sL hby;rw[List.drop_zero] at this
    conv=>lhs;rw[this]
    congr 1
    rw[gH,fB];unfold mid;rw[List.take_of_length_le];rw[List.length_drop];exact Jr _,fun h=>absurd h (by simp)⟩)
   have hq2:(s[0].toNat:Int)=45:=by simpa using hq
   have hzs:(s.extract 1 s.size).size≤1048576:=by rw[ByteArray.size_extract];omega
   clear hby;obtain⟨z,hz⟩:∃z,s.extract 1 s.size=z:=⟨_,rfl⟩;rw[hz] at HS hzs;by_cases hbad:Hp true z
   ·have HX:=Jj (zf HS.out.1 HS.out.2 hbad)
    rcases hbad with hz|hz|⟨hz,hz'⟩
    ·have e0:z=ByteArray.empty:=ByteArray.size_eq_zero_iff.1 hz;have e1:((z.size:Int)==0)=true:=by simp[hz]
     have e2:(z.size:Int)=0:=by omega
     clear e0;go_wp2;go_ret2;exact⟨cV.bad HX.out,rfl⟩
    ·have e1:((z.size:Int)==0)=false:=by simp;rintro rfl;simp at hz
     have e3:¬z=ByteArray.empty:=by rintro rfl;simp at hz
     have e2:(17:Int)<(z.size:Int):=by omega
     go_wp2;go_ret2;exact⟨cV.bad HX.out,rfl⟩
    ·have hp:0<z.size:=by
      obtain⟨hp,-⟩:=List.getElem?_eq_some_iff.1 hz;exact hp
     have e1:((z.size:Int)==0)=false:=by simp;rintro rfl;simp at hp
     have e3:¬z=ByteArray.empty:=by rintro rfl;simp at hp
     have e5:z[0].toNat=48:=by rw[gE z 0 hp] at hz;have:=JC hz;rw[this];rfl
     clear hz';clear hz;by_cases h17:(17:Int)<(z.size:Int)
     all_goals
      by_cases h1x:(1:Int)<(z.size:Int)
      all_goals
       go_wp2;go_ret2;exact⟨cV.bad HX.out,rfl⟩
   ·have HG:=Jj hbad;have hp:0<z.size:=Nat.pos_of_ne_zero fun e=>hbad (.inl e);have h17:z.size≤17:=Nat.le_of_not_lt fun e=>hbad (.inr (.inl e));have e1:((z.size:Int)==0)=false:=by simp;rintro rfl;simp at hp
    have e3:¬z=ByteArray.empty:=by rintro rfl;simp at hp
    have e2:¬(17:Int)<(z.size:Int):=by omega
    have e5:¬(z[0].toNat:Int)=48:=by
     intro h;refine hbad (.inr (.inr ⟨?_,.inr rfl⟩));rw[gE z 0 hp]
     congr 1
     apply UInt8.toNat_inj.1
     have:=h;simp;omega
    clear hbad;have e6:((z[0].toNat:Int)==48)=false:=by simpa using e5
    clear e5;go_wp2
    go_loopw [5,6] (fun v i wr=>∃k m:Nat,v=.int .i64 m∧i=.int .i64 k∧k≤z.size∧Lib.decFrom 0 (z.data.toList.take k)=some m∧wr=w) (fun _ i _=>z.size-(intOf i).toNat)
    case atStart=>exact⟨0,0,rfl,rfl,Jy _,rfl,rfl⟩
    case round=>
     obtain⟨k,m,rfl,rfl,hk,hm,rfl⟩:=hrel;have HM:=Jj hm;have hlt:=Lib.decFrom_take_lt hm (by omega);clear hm;by_cases hkz:k<z.size
     ·have hby:=gE z k hkz;obtain⟨b,hb⟩:∃b,z[k]=b:=⟨_,rfl⟩;rw[hb] at hby;have HBY:=Jj hby;clear hby;by_cases hd:b.toNat<48∨57<b.toNat
      ·have HX:=Jj (qN HS.out.1 HS.out.2 (sO HBY.out (vt hd)))
       rcases hd with hd|hd
       ·have e8:(b.toNat:Int)<48:=by omega
        go_wp2;go_ret2;exact⟨cV.bad HX.out,rfl⟩
       ·have e8:¬(b.toNat:Int)<48:=by omega
        have e9:(57:Int)<(b.toNat:Int):=by omega
        go_wp2;go_ret2;exact⟨cV.bad HX.out,rfl⟩
      ·have HD:=Jj (Lib.decFrom_take z.data.toList k 0 m b (b.toNat-48) HM.out HBY.out (vu hd));have e8:¬(b.toNat:Int)<48:=by omega
       have e9:¬(57:Int)<(b.toNat:Int):=by omega
       clear hd;go_wp2;go_roundw
       case rel=>exact⟨k+1,m*10+(b.toNat-48),by go_num,by go_num,hkz,HD.out,by first|rfl|trivial⟩
       case measure=>simp[intOf];omega
     ·have hke:k=z.size:=by omega
      have HN:=Jj (qO HS.out.1 HG.out (by have h:=HM.out;rw[hke,show z.size=z.data.toList.length from rfl,List.take_length] at h;exact h));clear hke;go_wp2;go_ret2;exact⟨cV.good HN.out,rfl⟩
 ·have hz:s=ByteArray.empty:=ByteArray.size_eq_zero_iff.1 (by omega);subst hz;have HX:=Jj (show bn ByteArray.empty=none from by decide);go_wp2;go_ret2;exact⟨cV.bad HX.out,rfl⟩
def iy (n:Nat):List Int:=(List.range n).map fun _=>0
theorem iN (n:Nat):(iy n).length=n:=by simp[iy]
theorem Ea (n j:Nat):at_ (iy n) j=0:=by
 unfold at_ iy;simp[List.getD];cases h:(List.range n)[j]? <;> simp
theorem Eb (n:Nat):Wf (iy n):=by
 intro x hx;obtain⟨_,_,rfl⟩:=List.mem_map.1 hx;omega
theorem Own.zeros (w:World) (n:Nat) (hn:n≤1048577):Own (w.alloc (.cells (bz n (.int .i64 0)).toArray 3)) w.heap.size (.slice (some ⟨w.heap.size,0,none⟩) n n) (iy n):=by
 have:=Own.mk' (cs:=bz n (.int .i64 0)) (l:=iy n) (base:=w.heap.size) (cap:=n) (Jr _) (Blk.new w 3 _) (by rw[iN];exact Jr _) (by omega) (bi _ _) (fun j hj=>by rw[iN] at hj;rw[Ea];exact oh _ hj) (Eb n);rw[iN] at this;exact this
def aN (l:List ByteArray) (k:Nat):List Int:=(l.take k).map cA
theorem mI {l:List ByteArray} {k:Nat} (h:k<l.length):aN l (k+1)=aN l k++[cA (sat l k)]:=by
 unfold aN;rw[List.take_succ_eq_append_getElem h,List.map_append,bV l k h]
 rfl
theorem lH {l:List ByteArray} {k:Nat} (h:k≤l.length):(aN l k).length=k:=by unfold aN;rw[List.length_map,List.length_take,Nat.min_eq_left h]
theorem n7 {l:List ByteArray} {k:Nat} (h:l.length≤k):aN l k=l.map cA:=by unfold aN;rw[List.take_of_length_le h]
theorem yL {l:List ByteArray} {k:Nat} (h:k<l.length) (hq:(bn (sat l k)).isSome=false):¬sB l=true:=by
 intro ha;have:=List.all_eq_true.1 ha _ (cJ l k h);rw[hq] at this;exact Bool.noConfusion this
def qQ (l:List ByteArray) (k:Nat):Prop:=∀j,j<k→(bn (sat l j)).isSome=true
theorem py {l:List ByteArray} {k:Nat} (h:qQ l k) (hk:(bn (sat l k)).isSome=true):qQ l (k+1):=by
 intro j hj
 rcases Nat.lt_or_ge j k with h'|h'
 ·exact h j h'
 ·obtain rfl:j=k:=by omega
  exact hk
theorem qR {l:List ByteArray} (h:qQ l l.length):sB l=true:=by
 apply List.all_eq_true.2
 intro x hx;obtain⟨j,hj,rfl⟩:=List.getElem_of_mem hx;have:=h j hj;rw[bV l j hj] at this;exact this
def bp (t:ByteArray) (n:Nat):List Int:=if (aq 32 t).length=n∧aE t=true then bg t else iy n
theorem oZ {t:ByteArray} {n:Nat} (h:(aq 32 t).length=n) (h2:aE t=true):bp t n=bg t:=by simp[bp,h,h2]
theorem vz {t:ByteArray} {n:Nat} (h:¬((aq 32 t).length=n∧aE t=true)):bp t n=iy n:=by unfold bp;rw[if_neg h]
theorem oX (t:ByteArray) (n:Nat):(bp t n).length=n:=by
 unfold bp
 split
 ·rename_i h
  unfold bg;rw[List.length_map];exact h.1
 ·exact iN n
def iA (t:ByteArray) (n:Nat):Bool:=decide ((aq 32 t).length=n∧aE t=true)
theorem nl (t:ByteArray) (n:Nat) (w:World) (ht:t.size≤1048576) (hn:n≤10):
  Calls prog 49 #[.string t,.int .i64 n] w fun e w'=>∃r,e=.returned (.tuple #[r,.bool (iA t n)])∧Own w' w.heap.size r (bp t n)∧Below w.heap.size w w':=by
 have hmk:=fun W=>Tryz.mkInts n (by omega) W;have O0:=Own.empty w w.heap.size (Jr _);have B0:=ab w (.cells #[] 3)
 go_enter func49,ntmps49
 go_wp2_with fail
 refine(ip t 32 _ ht).mono ?_;rintro e w2 ⟨r,rfl,o,b⟩;have HO:=Jj (O0.bel b);have HB:=Jj (aa B0 b);have HP:=Jj o;have hcl:=ff 32 t;obtain⟨ls,hls⟩:∃ls,aq 32 t=ls:=⟨_,rfl⟩;have HLS:=Jj hls;rw[hls] at HP hcl;obtain⟨A,c,rfl,hlc,-,-⟩:=HP.out.strs.open_;have HDF:=Jj (show ∀q,(Value.slice A ls.length c).ownBlock=some q→(Value.slice (some ⟨w.heap.size,0,none⟩) 0 0).ownBlock≠some q from fun q h e=>by
  have:=(HP.out.lt q h).1;simp[Value.ownBlock] at e this;omega)
 clear O0 B0 o b hls;by_cases hlen:ls.length=n
 ·have hlq:((ls.length:Int)==(n:Int))=true:=by simp[hlen]
  have hli:(ls.length:Int)=(n:Int):=by omega
  have HLN:=Jj hlen;clear hlen
  go_wp2_with fail
  go_loopw [6,8] (fun v i wr=>∃k:Nat,k≤n∧i=.int .i64 k∧qQ ls k∧Own wr w.heap.size v (aN ls k)∧(aj wr (w.heap.size+1) (.slice A ls.length c) ls∧∀q,(Value.slice A ls.length c).ownBlock=some q→v.ownBlock≠some q)∧Below w.heap.size w wr) (fun _ i _=>n-(intOf i).toNat)
  case atStart=>exact⟨0,Jy _,rfl,fun j hj=>absurd hj (Nat.not_lt_zero _),HO.out,⟨by simpa using HP.out,HDF.out⟩,HB.out⟩
  case round=>
   obtain⟨k,hk,rfl,hok,hO,hb,hB⟩:=hrel;have H:=Jj (Jq hok (Jq hO (Jq hb hB)));have hz:=hB.size;clear hok hO hb hB HO;by_cases hkn:k<n
   ·have hkl:k<ls.length:=by rw[HLN.out];exact hkn
    obtain⟨A6,c6,e6,-,-,hrd⟩:=H.out.2.2.1.1.strs.open_;cases e6;obtain⟨b,o,rfl,hbb,hcell⟩:=hrd.strs (Nat.lt_of_le_of_lt (Jy _) hkl);have hck:=hcell k hkl;have hss:(sat ls k).size≤1048576:=Js (cT (c:=32) (s:=t) (by rw[HLS.out];exact cJ ls k hkl)) ht;have hbd:=fM (sat ls k);have HTS:=Jj (mI hkl);have HNO:=Jj (yL hkl);have HOS:=Jj (fun hq=>py H.out.1 hq);have hlT:=lH (l:=ls) (k:=k) (by rw[HLN.out];exact hk);obtain⟨L,hL⟩:∃L,aN ls k=L:=⟨_,rfl⟩;have HO:=Jj (show Own wr w.heap.size _ L by rw[←hL];exact H.out.2.1);obtain⟨Z,hZ⟩:∃Z,sat ls k=Z:=⟨_,rfl⟩;rw[hZ] at hck hss hbd HTS HNO HOS;rw[hL] at hlT HTS;clear hcell hrd hL hZ
    go_wp2_with fail
    refine(js Z _ hss).mono ?_;rintro e w3 ⟨he,rfl⟩;unfold cV at he;subst he;obtain⟨z,hz2⟩:∃z,cA Z=z:=⟨_,rfl⟩;rw[hz2] at HTS hbd;rw[hz2];cases hq:(bn Z).isSome
    ·have HE:=Jj (show bp t n=iy n from vz fun h=>HNO.out hq (by have h2:=h.2;unfold aE at h2;rw[HLS.out] at h2;exact h2));have HF:=Jj (show iA t n=false from decide_eq_false (fun h=>HNO.out hq (by have h2:=h.2;unfold aE at h2;rw[HLS.out] at h2;exact h2)));have OZ:=Own.zeros w3 n (by omega);clear hz2;go_wp2;go_ret2;exact⟨_,by rw[HF.out];rfl,by rw[HE.out];exact OZ.lower hz,H.out.2.2.2.trans ((ab _ _).mono hz)⟩
    ·have HQ:=Jj (HOS.out hq);clear hz2
     go_wp2_with (at_builtin;go_must (refine du rfl (.tmp 37) (.tmp 39) (by rfl) w.heap.size _ L (by rfl) (by exact HO.out.bel (ab _ _)) _ _ z (by rfl) (by exact bh _ _ _) (by omega) (by omega) (by simp;omega) ?_;intro v6 w6 ho6 hg6 hat6;have B6:=(H.out.2.2.2.alloc hz (.cells #[.int .i64 z] 3)).trans (bQ (base:=w.heap.size) hg6 (by simp;omega) (fun q hq=>by have:=(HO.out.lt q hq).1;omega));have P6:=(H.out.2.2.1.1.bel (ab w3 (.cells #[.int .i64 z] 3))).apart hg6 H.out.2.2.1.2))
     go_roundw
     case rel=>
      refine⟨k+1,hkn,by go_num,HQ.out,by rw[HTS.out];exact ho6,⟨P6,fun q hq=>?_⟩,B6⟩
      rcases hat6 with h6|h6
      ·rw[h6];exact H.out.2.2.1.2 q hq
      ·rw[h6];intro e;have e2:=JC e;have:=(H.out.2.2.1.1.lt q hq).2;rw[JD] at e2;omega
     case measure=>simp[intOf];omega
   ·have hkn:k=n:=by omega
    subst hkn;have HF:=Jj (show iA t k=true from decide_eq_true ⟨by rw[HLS.out];exact HLN.out,by unfold aE;rw[HLS.out];exact qR (by rw[HLN.out];exact H.out.1)⟩);have HE:=Jj (show aN ls k=bp t k by
     rw[oZ (by rw[HLS.out];exact HLN.out) (by unfold aE;rw[HLS.out];exact qR (by rw[HLN.out];exact H.out.1)),n7 (by rw[HLN.out];exact Jr _)];unfold bg;rw[HLS.out])
    go_wp2;go_ret2;exact⟨_,by rw[HF.out];rfl,by rw[←HE.out];exact H.out.2.1,H.out.2.2.2⟩
 ·have HE:=Jj (show bp t n=iy n from vz fun h=>hlen (by rw[HLS.out] at h;exact h.1));have HF:=Jj (show iA t n=false from decide_eq_false (fun h=>hlen (by rw[HLS.out] at h;exact h.1)));have hlq:((ls.length:Int)==(n:Int))=false:=by simp;omega
  have hli:¬(ls.length:Int)=(n:Int):=by omega
  have OZ:=Own.zeros w2 n (by omega);have hz:=HB.out.size;go_wp2;go_ret2;exact⟨_,by rw[HF.out];rfl,by rw[HE.out];exact OZ.lower hz,HB.out.trans ((ab _ _).mono hz)⟩
theorem lj (t:ByteArray) (n:Nat) (w:World) (ht:t.size≤1048576) (hn:n≤10):
  Calls prog 49 #[.string t,.int .i64 n] w fun e w'=>∃r b,e=.returned (.tuple #[r,.bool b])∧Own w' w.heap.size r (bp t n)∧Below w.heap.size w w':=
 (nl t n w ht hn).mono fun e w' h=>h.elim fun r k=>⟨r,_,k⟩
def spP (t:ByteArray):List Int:=if ax (aN (aq 32 t) 8)=t then aN (aq 32 t) 8 else[]
theorem Hj {t:ByteArray} (h:ax (aN (aq 32 t) 8)=t):spP t=aN (aq 32 t) 8:=by unfold spP;rw[if_pos h]
theorem IQ {t:ByteArray} (h:¬ax (aN (aq 32 t) 8)=t):spP t=[]:=by unfold spP;rw[if_neg h]
theorem Az {l:List ByteArray} {k:Nat} (h:k=l.length):aN l k=aN l 8∨8<k:=by
 rcases Nat.lt_or_ge 8 k with h'|h'
 ·exact Or.inr h'
 ·left
  unfold aN;rw[List.take_of_length_le (by omega),List.take_of_length_le (by omega)]
theorem vf {x y:ByteArray} (h:x≠y):(!x.toList==y.toList)=true:=by
 simp[ByteArray.toList_eq];intro e;exact h (ByteArray.ext (by first|exact e|exact Array.toList_inj.1 e))
def pH (t:ByteArray):Bool:=decide (ax (aN (aq 32 t) 8)=t)
theorem qA (t:ByteArray) (w:World) (ht:t.size≤1048576):
  Calls prog 38 #[.string t] w fun e w'=>∃r,e=.returned (.tuple #[r,.bool (pH t)])∧Own w' w.heap.size r (spP t)∧Below w.heap.size w w':=by
 have O0:=Own.empty w w.heap.size (Jr _);have B0:=ab w (.cells #[] 3)
 go_enter func38,ntmps38
 go_wp2_with fail
 refine(ip t 32 _ ht).mono ?_;rintro e w2 ⟨r,rfl,o,b⟩;have HO:=Jj (O0.bel b);have HB:=Jj (aa B0 b);have HP:=Jj o;have hcl:=ff 32 t;obtain⟨ls,hls⟩:∃ls,aq 32 t=ls:=⟨_,rfl⟩;have HLS:=Jj hls;rw[hls] at HP hcl;obtain⟨A,c,rfl,hlc,-,-⟩:=HP.out.strs.open_;have HDF:=Jj (show ∀q,(Value.slice A ls.length c).ownBlock=some q→(Value.slice (some ⟨w.heap.size,0,none⟩) 0 0).ownBlock≠some q from fun q h e=>by
  have:=(HP.out.lt q h).1;simp[Value.ownBlock] at e this;omega)
 clear O0 B0 o b hls
 go_wp2_with fail
 go_loopw [4,6] (fun v i wr=>∃k:Nat,k≤8∧k≤ls.length∧i=.int .i64 k∧Own wr w.heap.size v (aN ls k)∧(aj wr (w.heap.size+1) (.slice A ls.length c) ls∧∀q,(Value.slice A ls.length c).ownBlock=some q→v.ownBlock≠some q)∧Below w.heap.size w wr) (fun _ i _=>8-(intOf i).toNat)
 case atStart=>exact⟨0,Jy _,Jy _,rfl,HO.out,⟨by simpa using HP.out,HDF.out⟩,HB.out⟩
 case round=>
  obtain⟨k,hk8,hk,rfl,hO,hb,hB⟩:=hrel;have H:=Jj (Jq hO (Jq hb hB));have hz:=hB.size;clear hO hb hB HO;by_cases hkl:k<ls.length∧k≤7
  ·have hkl7:=hkl.2;have hkl:=hkl.1;have hi1:(k:Int)<(ls.length:Int):=by omega
   have hi2:(k:Int)≤7:=by omega
   obtain⟨A6,c6,e6,-,-,hrd⟩:=H.out.2.1.1.strs.open_;cases e6;obtain⟨b,o,rfl,hbb,hcell⟩:=hrd.strs (Nat.lt_of_le_of_lt (Jy _) hkl);have hck:=hcell k hkl;have hss:(sat ls k).size≤1048576:=Js (cT (c:=32) (s:=t) (by rw[HLS.out];exact cJ ls k hkl)) ht;have hbd:=fM (sat ls k);have HTS:=Jj (mI hkl);have hlT:=lH (l:=ls) (k:=k) hk;obtain⟨L,hL⟩:∃L,aN ls k=L:=⟨_,rfl⟩;have HO:=Jj (show Own wr w.heap.size _ L by rw[←hL];exact H.out.1);obtain⟨Z,hZ⟩:∃Z,sat ls k=Z:=⟨_,rfl⟩;rw[hZ] at hck hss hbd HTS;rw[hL] at hlT HTS;clear hcell hrd hL hZ
   go_wp2_with fail
   refine(js Z _ hss).mono ?_;rintro e w3 ⟨he,rfl⟩;unfold cV at he;subst he;obtain⟨z,hz2⟩:∃z,cA Z=z:=⟨_,rfl⟩;obtain⟨q,hq⟩:∃q,(bn Z).isSome=q:=⟨_,rfl⟩;rw[hz2] at HTS hbd;rw[hz2,hq];clear hz2 hq
   go_wp2_with (at_builtin;go_must (refine du rfl (.tmp 30) (.tmp 32) (by rfl) w.heap.size _ L (by rfl) (by exact HO.out.bel (ab _ _)) _ _ z (by rfl) (by exact bh _ _ _) (by omega) (by omega) (by simp;omega) ?_;intro v6 w6 ho6 hg6 hat6;have B6:=(H.out.2.2.alloc hz (.cells #[.int .i64 z] 3)).trans (bQ (base:=w.heap.size) hg6 (by simp;omega) (fun q hq=>by have:=(HO.out.lt q hq).1;omega));have P6:=(H.out.2.1.1.bel (ab w3 (.cells #[.int .i64 z] 3))).apart hg6 H.out.2.1.2))
   go_roundw
   case rel=>
    refine⟨k+1,by omega,hkl,by go_num,by rw[HTS.out];exact ho6,⟨P6,fun q hq=>?_⟩,B6⟩
    rcases hat6 with h6|h6
    ·rw[h6];exact H.out.2.1.2 q hq
    ·rw[h6];intro e;have e2:=JC e;have:=(H.out.2.1.1.lt q hq).2;rw[JD] at e2;omega
   case measure=>simp[intOf];omega
  ·have HE:=Jj (show aN ls k=aN ls 8 by
    rcases Nat.lt_or_ge k ls.length with h|h
    ·obtain rfl:k=8:=by
      rcases Nat.lt_or_ge k 8 with h'|h'
      ·exact absurd ⟨h,by omega⟩ hkl
      ·omega
     rfl
    ·rcases Az (l:=ls) (k:=k) (by omega) with h'|h'
     ·exact h'
     ·omega)
   have hdt:(decide ((k:Int)<(ls.length:Int))&&decide ((k:Int)≤7))=false:=by
    rw[←Bool.not_eq_true,JB,decide_eq_true_iff,decide_eq_true_iff];intro h;exact hkl ⟨by omega,by omega⟩
   have hi1:(k:Int)<(ls.length:Int)→¬(k:Int)≤7:=fun h h2=>hkl ⟨by omega,by omega⟩;have HI:=Jj hi1;have HOE:=Jj (show Own wr w.heap.size _ (aN ls 8) by rw[←HE.out];exact H.out.1);have hlen8:(aN ls 8).length=k:=by rw[←HE.out];exact lH hk
   have HSP:=Jj (show spP t=if ax (aN ls 8)=t then aN ls 8 else[] by unfold spP;rw[HLS.out]);have HSB:=Jj (show pH t=decide (ax (aN ls 8)=t) by unfold pH;rw[HLS.out]);obtain⟨L,hL⟩:∃L,aN ls 8=L:=⟨_,rfl⟩;rw[hL] at HOE HSP HSB hlen8;clear hi1 hL;obtain⟨A7,c7,rfl,-,-,-⟩:=HOE.out.ints.open_;clear hlen8;by_cases hx:(k:Int)<(ls.length:Int)
   ·have hx2:¬(k:Int)≤7:=HI.out hx;clear hkl hdt
    go_wp2_with fail
    refine(bE _ L _ HOE.out.ints).mono ?_;rintro e w3 ⟨rfl,b3⟩;have HB3:=Jj (aa H.out.2.2 b3);have HO3:=Jj (HOE.out.bel b3);have hz3:=HB3.out.size;have OE:=Own.empty w3 w.heap.size hz3;clear b3;obtain⟨T,hT⟩:∃T,ax L=T:=⟨_,rfl⟩;rw[hT] at HSP HSB ⊢;clear hT;by_cases hq:T=t
    ·subst hq;have he:(!T.toList==T.toList)=false:=by simp
     have HN:=Jj (show spP T=L by rw[HSP.out,if_pos rfl]);go_wp2;go_ret2;exact⟨_,by rw[show pH T=true from HSB.out.trans (by simp)];rfl,by rw[HN.out];exact HO3.out,HB3.out⟩
    ·have he:(!T.toList==t.toList)=true:=vf hq;have HN:=Jj (show spP t=[] by rw[HSP.out,if_neg hq]);go_wp2;go_ret2;exact⟨_,by rw[show pH t=false from HSB.out.trans (decide_eq_false hq)];rfl,by rw[HN.out];exact OE,HB3.out.trans ((ab _ _).mono hz3)⟩
   ·clear hkl hdt
    go_wp2_with fail
    refine(bE _ L _ HOE.out.ints).mono ?_;rintro e w3 ⟨rfl,b3⟩;have HB3:=Jj (aa H.out.2.2 b3);have HO3:=Jj (HOE.out.bel b3);have hz3:=HB3.out.size;have OE:=Own.empty w3 w.heap.size hz3;clear b3;obtain⟨T,hT⟩:∃T,ax L=T:=⟨_,rfl⟩;rw[hT] at HSP HSB ⊢;clear hT;by_cases hq:T=t
    ·subst hq;have he:(!T.toList==T.toList)=false:=by simp
     have HN:=Jj (show spP T=L by rw[HSP.out,if_pos rfl]);go_wp2;go_ret2;exact⟨_,by rw[show pH T=true from HSB.out.trans (by simp)];rfl,by rw[HN.out];exact HO3.out,HB3.out⟩
    ·have he:(!T.toList==t.toList)=true:=vf hq;have HN:=Jj (show spP t=[] by rw[HSP.out,if_neg hq]);go_wp2;go_ret2;exact⟨_,by rw[show pH t=false from HSB.out.trans (decide_eq_false hq)];rfl,by rw[HN.out];exact OE,HB3.out.trans ((ab _ _).mono hz3)⟩
theorem AX (t:ByteArray) (w:World) (ht:t.size≤1048576):
  Calls prog 38 #[.string t] w fun e w'=>∃r b,e=.returned (.tuple #[r,.bool b])∧Own w' w.heap.size r (spP t)∧Below w.heap.size w w':=
 (qA t w ht).mono fun e w' h=>h.elim fun r k=>⟨r,_,k⟩
end Go.Proofs.YtfmjklgfpiffbaaGreatDoor
