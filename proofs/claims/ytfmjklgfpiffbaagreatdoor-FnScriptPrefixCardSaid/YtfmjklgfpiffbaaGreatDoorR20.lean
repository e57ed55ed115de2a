/-
  Parts of the proof of one statement, merged: DrawG UnskP UnA.
-/
import Derived.Deep.RegionHeld3
import Derived.Test.YtfmjklgfpiffbaaGreatDoorR10
import Derived.Test.YtfmjklgfpiffbaaGreatDoorR16
namespace Go.Proofs.YtfmjklgfpiffbaaGreatDoor
open Go.RowKit
set_option linter.unusedVariables false
set_option linter.unusedSimpArgs false
set_option maxRecDepth 100000
set_option maxHeartbeats 8000000
attribute [local go_sem ↓] Go.wp_at_zero Go.wp_at_succ
structure StS (w:World) (g K:Nat) (v:Value) (l:List ByteArray) (W:World):Prop where
 own:aj W w.heap.size v l
 rdr:Rdr W g K
 gr:w.grownBy W (some g)
 lt:g<w.heap.size
theorem StS.row {w:World} {g K b n cap:Nat} {l:List ByteArray} {W:World} (h:StS w g K (.slice (some ⟨b,0,none⟩) n cap) l W):∃cs,Blk W b 9 cs∧cs.length=cap∧l.length≤cap∧cap≤9223372036854775807∧w.heap.size≤b∧n=l.length∧∀j,j<l.length→cs[j]?=some (.string (sat l j)):=by
 rcases h.own.form with ⟨q,_⟩|⟨b',cap',cs,e,hb',hbl,h1,h2,hcl,h3⟩
 ·cases q
 ·injection e with e1 e2 e3;injection e1 with e1;injection e1 with e1;subst e1 e2 e3;exact⟨cs,hbl,hcl,h1,h2,hb',rfl,h3⟩
theorem StS.at {w:World} {g K b n cap:Nat} {l:List ByteArray} {W:World} (h:StS w g K (.slice (some ⟨b,0,none⟩) n cap) l W) {j:Nat} (hj:j<l.length):W.cell? ⟨b,j,none⟩=some (.string (sat l j))∧W.frozen? ⟨b,j,none⟩=false:=by
 obtain⟨cs,hbl,_,_,_,_,_,hc⟩:=h.row;exact⟨(hbl.cell j).trans (hc j hj),hbl.frozen j⟩
theorem kC {l:List ByteArray} {k j:Nat} {z:ByteArray} (hk:k<l.length):sat (l.set k z) j=if k=j then z else sat l j:=by
 unfold sat;simp only[List.getD,List.getElem?_set,hk]
 split
 ·simp
 ·rfl
end Go.Proofs.YtfmjklgfpiffbaaGreatDoor
namespace Go.Proofs.YtfmjklgfpiffbaaGreatDoor
open Go.RowKit
set_option linter.unusedVariables false
set_option linter.unusedSimpArgs false
set_option maxRecDepth 100000
set_option maxHeartbeats 8000000
def iK (l R:List ByteArray) (i:Nat):List ByteArray:=(aT (R.drop i) (i / 2)).set 0 (sat l i)
def gZ (l R:List ByteArray) (i:Nat):ByteArray:=sat (aH (iK l R i) (i / 2)) 0
def fx (l:List ByteArray):Nat→List ByteArray
 |0=>l
 |k+1=>(fx l k).set (l.length-1-k) (gZ l (fx l k) (l.length-1-k))
def eD (l:List ByteArray):List ByteArray:=fx l l.length
theorem ix (l:List ByteArray):∀k,(fx l k).length=l.length
 |0=>rfl
 |k+1=>by show(List.set _ _ _).length=_;rw[List.length_set,ix l k]
theorem mf (l:List ByteArray) (i j:Nat):sat (l.drop i) j=sat l (i+j):=by
 unfold sat;simp[List.getD]
theorem ly {l:List ByteArray} (h:af l=true) {i:Nat} (hi:i<l.length):af (l.drop i)=true:=by
 obtain⟨h1,h2,h3⟩:=ap.1 h;refine ap.2 ⟨by rw[List.length_drop];omega,by rw[List.length_drop];omega,fun k hk=>?_⟩;rw[List.length_drop] at hk;rw[mf,mf];exact⟨(h3 _ (by omega)).1,by rw[(h3 _ (by omega)).2,(h3 (i+0) (by omega)).2]⟩
theorem tI {l:List ByteArray} (h:af l=true) {i:Nat} (hi:i<l.length) {z:ByteArray} (hz:aP z=true) (hs:z.size=(sat l 0).size):af (l.set i z)=true:=by
 obtain⟨h1,h2,h3⟩:=ap.1 h;have hsz:∀k,k<l.length→(sat (l.set i z) k).size=(sat l 0).size:=fun k hk=>by
  rw[kC hi]
  split
  ·exact hs
  ·exact(h3 k hk).2
 refine ap.2 ⟨by rw[List.length_set];exact h1,by rw[List.length_set];exact h2,fun k hk=>?_⟩;rw[List.length_set] at hk;refine⟨?_,by rw[hsz k hk,hsz 0 (by omega)]⟩;rw[kC hi]
 split
 ·exact hz
 ·exact(h3 k hk).1
theorem mn {l:List ByteArray} (h:af l=true) (n:Nat):(sat (aT l n) 0).size=(sat l 0).size:=by
 obtain⟨h1,-,-⟩:=ap.1 h
 induction n with
 |zero=>rfl
 |succ n ih=>
  show(sat (aY (aT l n)) 0).size=_
  rw[(fy (ek h n) 0 (by rw[cL];omega)).2,ih]
theorem xq {l R:List ByteArray} (hl:af l=true) (hR:af R=true) (hn:R.length=l.length) (hs:(sat R 0).size=(sat l 0).size) {i:Nat} (hi:i<l.length):af (iK l R i)=true∧(sat (iK l R i) 0).size=(sat l 0).size:=by
 have hd:=ly hR (i:=i) (by omega);obtain⟨h1,-,-⟩:=ap.1 hd;have h3:=(ap.1 hl).2.2 i hi;have h4:=(ap.1 hR).2.2 i (by omega);have hb:=ek hd (i / 2);have hbl:=cL (R.drop i) (i / 2);refine⟨tI hb (by rw[hbl];omega) h3.1 ?_,?_⟩
 ·rw[mn hd,mf,Nat.add_zero,h4.2,h3.2,hs]
 ·unfold iK;rw[kC (by rw[hbl];omega),if_pos rfl];exact h3.2
theorem xr {l R:List ByteArray} (hl:af l=true) (hR:af R=true) (hn:R.length=l.length) (hs:(sat R 0).size=(sat l 0).size) {i:Nat} (hi:i<l.length):aP (gZ l R i)=true∧(gZ l R i).size=(sat l 0).size:=by
 obtain⟨h1,h2⟩:=xq hl hR hn hs hi;obtain⟨q1,q2,q3⟩:=ap.1 (eR h1 (i / 2));exact⟨(q3 0 (by omega)).1,by unfold gZ;rw[sp (by rw[eQ] at q1;omega)];exact h2⟩
theorem oF {l:List ByteArray} (hl:af l=true):∀k,k≤l.length→af (fx l k)=true∧(sat (fx l k) 0).size=(sat l 0).size
 |0,_=>⟨hl,rfl⟩
 |k+1,hk=>by
  obtain⟨h1,h2⟩:=oF hl k (by omega);have hlen:=ix l k;obtain⟨z1,z2⟩:=xr hl h1 hlen h2 (i:=l.length-1-k) (by omega);refine⟨tI h1 (by rw[hlen];omega) z1 (by rw[z2,h2]),?_⟩
  show(sat (List.set _ _ _) 0).size=_
  rw[kC (by rw[hlen];omega)]
  split
  ·exact z2
  ·exact h2
theorem qZ {l:List ByteArray} (hl:af l=true):af (eD l)=true:=(oF hl _ (Jr _)).1
theorem pN (l:List ByteArray):(eD l).length=l.length:=ix _ _
theorem zA (x:ByteArray) (t:List ByteArray):∃z,aY (x::t)=z::aY t:=by
 cases t with
 |nil=>exact⟨x,rfl⟩
 |cons y r=>exact⟨_,rfl⟩
theorem rf (x:ByteArray) (t:List ByteArray):∀m,∃z,aT (x::t) m=z::aT t m
 |0=>⟨x,rfl⟩
 |m+1=>by
  obtain⟨z,hz⟩:=rf x t m
  show ∃y,aY (aT (x::t) m)=y::aY (aT t m)
  rw[hz];exact zA z _
theorem Cn {l:List ByteArray} {i:Nat} (h:i<l.length):l.drop i=sat l i::l.drop (i+1):=by
 rw[List.drop_eq_getElem_cons h,bV l i h]
theorem FB {l:List ByteArray} (ok:af l=true):af (bY l)=true:=F2 ok 0
theorem zx (c a b:ByteArray):bS (bS c a) b=bS (bS c b) a:=by
 have hT:=fV c.size;have e:∀x,cv (bS c x)=(cv c+cv x) % ten c.size:=fun x=>Cg (Nat.mod_lt _ hT);have z:∀x,(bS c x).size=c.size:=fun x=>fA _ _
 show col ((cv (bS c a)+cv b) % ten (bS c a).size) (bS c a).size=col ((cv (bS c b)+cv a) % ten (bS c b).size) (bS c b).size
 rw[z,z,e,e,Nat.mod_add_mod,Nat.mod_add_mod]
 congr 2
 omega
def ahS (R:List ByteArray) (c:ByteArray):Nat→ByteArray
 |0=>c
 |s+1=>bS (ahS R c s) (sat (aT R (s+1)) 0)
theorem uW (R:List ByteArray) (c a:ByteArray):∀m,ahS R (bS c a) m=bS (ahS R c m) a
 |0=>rfl
 |m+1=>by
  show bS (ahS R (bS c a) m) _=bS (bS (ahS R c m) _) a
  rw[uW R c a m,zx]
def tnC (U:List ByteArray) (c:ByteArray):Nat→ByteArray
 |0=>c
 |k+1=>bS (tnC U c k) (sat (aH U k) 0)
theorem Bp (c:ByteArray) {V:List ByteArray} (h:1≤V.length):bu (c::V)=bS c (sat V 0)::bu V:=by
 apply sN
 ·rw[bW,List.length_cons,List.length_cons,bW]
 ·intro i hi;rw[List.length_cons,bW] at hi;rw[gj (by rw[List.length_cons];exact hi),List.length_cons];cases i with
  |zero=>rw[if_pos (by omega)];rfl
  |succ i=>
   show(if i+1+1<V.length+1 then bS (sat V i) (sat V (i+1)) else sat V i)=sat (bu V) i
   rw[gj (by omega)];by_cases h2:i+1<V.length
   ·rw[if_pos (by omega),if_pos h2]
   ·rw[if_neg (by omega),if_neg h2]
theorem so (c:ByteArray) {U:List ByteArray} (h:1≤U.length):∀k,aH (c::U) k=tnC U c k::aH U k
 |0=>rfl
 |k+1=>by
  rw[eC,so c h k,Bp _ (by rw[eQ];exact h),eC]
  rfl
theorem qD (U:List ByteArray):∀k,aH U (k+1)=aH (bu U) k
 |0=>rfl
 |k+1=>by rw[eC,qD U k,eC]
theorem uu (U:List ByteArray) (c:ByteArray):∀k,tnC U c (k+1)=tnC (bu U) (bS c (sat U 0)) k
 |0=>rfl
 |k+1=>by
  show bS (tnC U c (k+1)) (sat (aH U (k+1)) 0)=bS (tnC (bu U) (bS c (sat U 0)) k) (sat (aH (bu U) k) 0)
  rw[uu U c k,qD]
theorem Ga {T:List ByteArray} (h:af T=true):∀(m:Nat) (c:ByteArray),tnC (aT T m) c m=ahS T c m
 |0,_=>rfl
 |m+1,c=>by
  rw[uu];have e:bu (aT T (m+1))=aT T m:=uv (ek h m);rw[e,Ga h m,uW]
  rfl
def ahC (R:List ByteArray) (c:ByteArray) (m:Nat):ByteArray:=if R=[] then c else ahS R c m
theorem FQ {l R:List ByteArray} (hR:af R=true) {i:Nat} (hi:i<R.length):gZ l R i=ahC (R.drop (i+1)) (sat l i) (i / 2):=by
 unfold gZ iK;rw[Cn hi];obtain⟨z,hz⟩:=rf (sat R i) (R.drop (i+1)) (i / 2);rw[hz]
 show sat (aH (sat l i::aT (R.drop (i+1)) (i / 2)) (i / 2)) 0=_
 by_cases hn:R.drop (i+1)=[]
 ·unfold ahC;rw[if_pos hn,hn];have:∀m,aT ([]:List ByteArray) m=[]:=by
   intro m
   induction m with
   |zero=>rfl
   |succ m ih=>show aY (aT [] m)=[];rw[ih];rfl
  rw[this];have one:∀k,aH [sat l i] k=[sat l i]:=by
   intro k
   induction k with
   |zero=>rfl
   |succ k ih=>
    rw[eC,ih]
    apply sN
    ·rw[bW]
    ·intro j hj;rw[gj hj,if_neg (by simp)]
  rw[one]
  rfl
 ·unfold ahC;rw[if_neg hn];have hl:i+1<R.length:=by
   rcases Nat.lt_or_ge (i+1) R.length with h|h
   ·exact h
   ·exact absurd (List.drop_eq_nil_of_le h) hn
  have hT:=ly hR hl;rw[so _ (by rw[cL,List.length_drop];omega),Ga hT]
  rfl
end Go.Proofs.YtfmjklgfpiffbaaGreatDoor
