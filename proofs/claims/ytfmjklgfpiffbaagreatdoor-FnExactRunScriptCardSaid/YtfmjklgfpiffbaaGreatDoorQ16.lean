/-
  Parts of the proof of one statement, merged: DrawG UnskP UnA.
-/
import Derived.Deep.RegionHeld3
import Derived.Test.YtfmjklgfpiffbaaGreatDoorQ10
import Derived.Test.YtfmjklgfpiffbaaGreatDoorQ7
namespace Go.Proofs.YtfmjklgfpiffbaaGreatDoor
open Go.RowKit
set_option linter.unusedVariables false
set_option linter.unusedSimpArgs false
set_option maxRecDepth 100000
set_option maxHeartbeats 8000000
attribute [local go_sem ↓] Go.wp_at_zero Go.wp_at_succ
structure StS (w:World) (g K:Nat) (v:Value) (l:List ByteArray) (W:World):Prop where
 own:ak W w.heap.size v l
 rdr:Rdr W g K
 gr:w.grownBy W (some g)
 lt:g<w.heap.size
theorem StS.row {w:World} {g K b n cap:Nat} {l:List ByteArray} {W:World} (h:StS w g K (.slice (some ⟨b,0,none⟩) n cap) l W):∃cs,Blk W b 9 cs∧cs.length=cap∧l.length≤cap∧cap≤9223372036854775807∧w.heap.size≤b∧n=l.length∧∀j,j<l.length→cs[j]?=some (.string (sat l j)):=by
 rcases h.own.form with ⟨q,_⟩|⟨b',cap',cs,e,hb',hbl,h1,h2,hcl,h3⟩
 ·cases q
 ·injection e with e1 e2 e3
  injection e1 with e1
  injection e1 with e1
  subst e1 e2 e3
  exact⟨cs,hbl,hcl,h1,h2,hb',rfl,h3⟩
theorem StS.at {w:World} {g K b n cap:Nat} {l:List ByteArray} {W:World} (h:StS w g K (.slice (some ⟨b,0,none⟩) n cap) l W) {j:Nat} (hj:j<l.length):W.cell? ⟨b,j,none⟩=some (.string (sat l j))∧W.frozen? ⟨b,j,none⟩=false:=by
 obtain⟨cs,hbl,_,_,_,_,_,hc⟩:=h.row
 exact⟨(hbl.cell j).trans (hc j hj),hbl.frozen j⟩
theorem kd {l:List ByteArray} {k j:Nat} {z:ByteArray} (hk:k<l.length):sat (l.set k z) j=if k=j then z else sat l j:=by
 unfold sat
 simp only[List.getD,List.getElem?_set,hk]
 split
 ·simp
 ·rfl
end Go.Proofs.YtfmjklgfpiffbaaGreatDoor
namespace Go.Proofs.YtfmjklgfpiffbaaGreatDoor
open Go.RowKit
set_option linter.unusedVariables false
set_option linter.unusedSimpArgs false
set_option maxRecDepth 100000
set_option maxHeartbeats 8000000
def iC (l R:List ByteArray) (i:Nat):List ByteArray:=(aV (R.drop i) (i / 2)).set 0 (sat l i)
def gS (l R:List ByteArray) (i:Nat):ByteArray:=sat (aH (iC l R i) (i / 2)) 0
def fk (l:List ByteArray):Nat→List ByteArray
 |0=>l
 |k+1=>(fk l k).set (l.length-1-k) (gS l (fk l k) (l.length-1-k))
def du (l:List ByteArray):List ByteArray:=fk l l.length
theorem hH (l:List ByteArray):∀k,(fk l k).length=l.length
 |0=>rfl
 |k+1=>by show(List.set _ _ _).length=_;rw[List.length_set,hH l k]
theorem lS (l:List ByteArray) (i j:Nat):sat (l.drop i) j=sat l (i+j):=by
 unfold sat
 simp[List.getD]
theorem lf {l:List ByteArray} (h:af l=true) {i:Nat} (hi:i<l.length):af (l.drop i)=true:=by
 obtain⟨h1,h2,h3⟩:=ap.1 h
 refine ap.2 ⟨by rw[List.length_drop];omega,by rw[List.length_drop];omega,fun k hk=>?_⟩
 rw[List.length_drop] at hk
 rw[lS,lS]
 exact⟨(h3 _ (by omega)).1,by rw[(h3 _ (by omega)).2,(h3 (i+0) (by omega)).2]⟩
theorem sS {l:List ByteArray} (h:af l=true) {i:Nat} (hi:i<l.length) {z:ByteArray} (hz:aU z=true) (hs:z.size=(sat l 0).size):af (l.set i z)=true:=by
 obtain⟨h1,h2,h3⟩:=ap.1 h
 have hsz:∀k,k<l.length→(sat (l.set i z) k).size=(sat l 0).size:=fun k hk=>by
  rw[kd hi]
  split
  ·exact hs
  ·exact(h3 k hk).2
 refine ap.2 ⟨by rw[List.length_set];exact h1,by rw[List.length_set];exact h2,fun k hk=>?_⟩
 rw[List.length_set] at hk
 refine⟨?_,by rw[hsz k hk,hsz 0 (by omega)]⟩
 rw[kd hi]
 split
 ·exact hz
 ·exact(h3 k hk).1
theorem ma {l:List ByteArray} (h:af l=true) (n:Nat):(sat (aV l n) 0).size=(sat l 0).size:=by
 obtain⟨h1,-,-⟩:=ap.1 h
 induction n with
 |zero=>rfl
 |succ n ih=>
  show(sat (aW (aV l n)) 0).size=_
  rw[(fF (ee h n) 0 (by rw[cN];omega)).2,ih]
theorem uL {l R:List ByteArray} (hl:af l=true) (hR:af R=true) (hn:R.length=l.length) (hs:(sat R 0).size=(sat l 0).size) {i:Nat} (hi:i<l.length):af (iC l R i)=true∧(sat (iC l R i) 0).size=(sat l 0).size:=by
 have hd:=lf hR (i:=i) (by omega)
 obtain⟨h1,-,-⟩:=ap.1 hd
 have h3:=(ap.1 hl).2.2 i hi
 have h4:=(ap.1 hR).2.2 i (by omega)
 have hb:=ee hd (i / 2)
 have hbl:=cN (R.drop i) (i / 2)
 refine⟨sS hb (by rw[hbl];omega) h3.1 ?_,?_⟩
 ·rw[ma hd,lS,Nat.add_zero,h4.2,h3.2,hs]
 ·unfold iC
  rw[kd (by rw[hbl];omega),if_pos rfl]
  exact h3.2
theorem vy {l R:List ByteArray} (hl:af l=true) (hR:af R=true) (hn:R.length=l.length) (hs:(sat R 0).size=(sat l 0).size) {i:Nat} (hi:i<l.length):aU (gS l R i)=true∧(gS l R i).size=(sat l 0).size:=by
 obtain⟨h1,h2⟩:=uL hl hR hn hs hi
 obtain⟨q1,q2,q3⟩:=ap.1 (eR h1 (i / 2))
 exact⟨(q3 0 (by omega)).1,by unfold gS;rw[qD (by rw[eP] at q1;omega)];exact h2⟩
theorem nY {l:List ByteArray} (hl:af l=true):∀k,k≤l.length→af (fk l k)=true∧(sat (fk l k) 0).size=(sat l 0).size
 |0,_=>⟨hl,rfl⟩
 |k+1,hk=>by
  obtain⟨h1,h2⟩:=nY hl k (by omega)
  have hlen:=hH l k
  obtain⟨z1,z2⟩:=vy hl h1 hlen h2 (i:=l.length-1-k) (by omega)
  refine⟨sS h1 (by rw[hlen];omega) z1 (by rw[z2,h2]),?_⟩
  show(sat (List.set _ _ _) 0).size=_
  rw[kd (by rw[hlen];omega)]
  split
  ·exact z2
  ·exact h2
theorem qg {l:List ByteArray} (hl:af l=true):af (du l)=true:=(nY hl _ (Ig _)).1
theorem oo (l:List ByteArray):(du l).length=l.length:=hH _ _
theorem z8 (x:ByteArray) (t:List ByteArray):∃z,aW (x::t)=z::aW t:=by
 cases t with
 |nil=>exact⟨x,rfl⟩
 |cons y r=>exact⟨_,rfl⟩
theorem rn (x:ByteArray) (t:List ByteArray):∀m,∃z,aV (x::t) m=z::aV t m
 |0=>⟨x,rfl⟩
 |m+1=>by
  obtain⟨z,hz⟩:=rn x t m
  show ∃y,aW (aV (x::t) m)=y::aW (aV t m)
  rw[hz]
  exact z8 z _
theorem CJ {l:List ByteArray} {i:Nat} (h:i<l.length):l.drop i=sat l i::l.drop (i+1):=by
 rw[List.drop_eq_getElem_cons h,bX l i h]
theorem Df {l:List ByteArray} (ok:af l=true):af (bI l)=true:=Fa ok 0
theorem Ar (c a b:ByteArray):bU (bU c a) b=bU (bU c b) a:=by
 have hT:=fL c.size
 have e:∀x,cv (bU c x)=(cv c+cv x) % ten c.size:=fun x=>Cx (Nat.mod_lt _ hT)
 have z:∀x,(bU c x).size=c.size:=fun x=>fB _ _
 show col ((cv (bU c a)+cv b) % ten (bU c a).size) (bU c a).size=col ((cv (bU c b)+cv a) % ten (bU c b).size) (bU c b).size
 rw[z,z,e,e,Nat.mod_add_mod,Nat.mod_add_mod]
 congr 2
 omega
def ahS (R:List ByteArray) (c:ByteArray):Nat→ByteArray
 |0=>c
 |s+1=>bU (ahS R c s) (sat (aV R (s+1)) 0)
theorem uP (R:List ByteArray) (c a:ByteArray):∀m,ahS R (bU c a) m=bU (ahS R c m) a
 |0=>rfl
 |m+1=>by
  show bU (ahS R (bU c a) m) _=bU (bU (ahS R c m) _) a
  rw[uP R c a m,Ar]
def tnC (U:List ByteArray) (c:ByteArray):Nat→ByteArray
 |0=>c
 |k+1=>bU (tnC U c k) (sat (aH U k) 0)
theorem Ak (c:ByteArray) {V:List ByteArray} (h:1≤V.length):bB (c::V)=bU c (sat V 0)::bB V:=by
 apply rS
 ·rw[b9,List.length_cons,List.length_cons,b9]
 ·intro i hi
  rw[List.length_cons,b9] at hi
  rw[fZ (by rw[List.length_cons];exact hi),List.length_cons]
  cases i with
  |zero=>rw[if_pos (by omega)];rfl
  |succ i=>
   show(if i+1+1<V.length+1 then bU (sat V i) (sat V (i+1)) else sat V i)=sat (bB V) i
   rw[fZ (by omega)]
   by_cases h2:i+1<V.length
   ·rw[if_pos (by omega),if_pos h2]
   ·rw[if_neg (by omega),if_neg h2]
theorem rH (c:ByteArray) {U:List ByteArray} (h:1≤U.length):∀k,aH (c::U) k=tnC U c k::aH U k
 |0=>rfl
 |k+1=>by
  rw[el,rH c h k,Ak _ (by rw[eP];exact h),el]
  rfl
theorem pX (U:List ByteArray):∀k,aH U (k+1)=aH (bB U) k
 |0=>rfl
 |k+1=>by rw[el,pX U k,el]
theorem tz (U:List ByteArray) (c:ByteArray):∀k,tnC U c (k+1)=tnC (bB U) (bU c (sat U 0)) k
 |0=>rfl
 |k+1=>by
  show bU (tnC U c (k+1)) (sat (aH U (k+1)) 0)=bU (tnC (bB U) (bU c (sat U 0)) k) (sat (aH (bB U) k) 0)
  rw[tz U c k,pX]
theorem E4 {T:List ByteArray} (h:af T=true):∀(m:Nat) (c:ByteArray),tnC (aV T m) c m=ahS T c m
 |0,_=>rfl
 |m+1,c=>by
  rw[tz]
  have e:bB (aV T (m+1))=aV T m:=sN (ee h m)
  rw[e,E4 h m,uP]
  rfl
def ahC (R:List ByteArray) (c:ByteArray) (m:Nat):ByteArray:=if R=[] then c else ahS R c m
theorem Ek {l R:List ByteArray} (hR:af R=true) {i:Nat} (hi:i<R.length):gS l R i=ahC (R.drop (i+1)) (sat l i) (i / 2):=by
 unfold gS iC
 rw[CJ hi]
 obtain⟨z,hz⟩:=rn (sat R i) (R.drop (i+1)) (i / 2)
 rw[hz]
 show sat (aH (sat l i::aV (R.drop (i+1)) (i / 2)) (i / 2)) 0=_
 by_cases hn:R.drop (i+1)=[]
 ·unfold ahC
  rw[if_pos hn,hn]
  have:∀m,aV ([]:List ByteArray) m=[]:=by
   intro m
   induction m with
   |zero=>rfl
   |succ m ih=>show aW (aV [] m)=[];rw[ih];rfl
  rw[this]
  have one:∀k,aH [sat l i] k=[sat l i]:=by
   intro k
   induction k with
   |zero=>rfl
   |succ k ih=>
    rw[el,ih]
    apply rS
    ·rw[b9]
    ·intro j hj
     rw[fZ hj,if_neg (by simp)]
  rw[one]
  rfl
 ·unfold ahC
  rw[if_neg hn]
  have hl:i+1<R.length:=by
   rcases Nat.lt_or_ge (i+1) R.length with h|h
   ·exact h
   ·exact absurd (List.drop_eq_nil_of_le h) hn
  have hT:=lf hR hl
  rw[rH _ (by rw[cN,List.length_drop];omega),E4 hT]
  rfl
end Go.Proofs.YtfmjklgfpiffbaaGreatDoor
