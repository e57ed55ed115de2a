/-
  Parts of the proof of one statement, merged: SlG DrRS ScD ScE EsE PtG EsV SlI EsU.
-/
import Derived.Test.YtfmjklgfpiffbaaGreatDoorR21
import Derived.Test.YtfmjklgfpiffbaaGreatDoorR29
import Derived.Test.YtfmjklgfpiffbaaGreatDoorR31
namespace Go.Proofs.YtfmjklgfpiffbaaGreatDoor
open Go.RowKit Go.Proofs.Tryz
set_option linter.unusedVariables false
set_option linter.unusedSimpArgs false
set_option maxRecDepth 100000
set_option maxHeartbeats 8000000
def kG (l:List ByteArray) (c:Nat) (a:Int):List ByteArray:=l.set c (kL (sat l c) a)
theorem jA (l:List ByteArray) (c:Nat) (a:Int):(kG l c a).length=l.length:=List.length_set
theorem El {l:List ByteArray} (c:Nat) (a:Int) {i:Nat} (hi:i<l.length):sat (kG l c a) i=if i=c then kL (sat l c) a else sat l i:=by
 unfold kG;rw[bV _ i (by rw[List.length_set];exact hi),List.getElem_set];by_cases h:i=c
 ·rw[if_pos h.symm,if_pos h]
 ·rw[if_neg (fun e=>h e.symm),if_neg h,bV l i hi]
theorem Em {l:List ByteArray} (h:af l=true) (c:Nat) (a:Int):af (kG l c a)=true:=by
 obtain⟨h1,h2,h3⟩:=ap.1 h;have key:∀k,k<l.length→aP (sat (kG l c a) k)=true∧(sat (kG l c a) k).size=(sat l 0).size:=by
  intro k hk;rw[El c a hk]
  split
  ·rename_i e
   subst e;exact⟨FF (h3 k hk).1 a,by rw[ow];exact(h3 k hk).2⟩
  ·exact h3 k hk
 refine ap.2 ⟨by rw[jA];exact h1,by rw[jA];exact h2,fun k hk=>?_⟩;rw[jA] at hk;exact⟨(key k hk).1,by rw[(key k hk).2,(key 0 (by omega)).2]⟩
def slT (l:List ByteArray) (t c:Nat) (a:Int) (k:Nat):List ByteArray:=if k=t then kG l c a else l
theorem pF {l:List ByteArray} (h:af l=true) (t c:Nat) (a:Int) (k:Nat):af (slT l t c a k)=true:=by
 unfold slT
 split
 ·exact Em h c a
 ·exact h
theorem rX (l:List ByteArray) (t c:Nat) (a:Int) (k:Nat):(slT l t c a k).length=l.length:=by
 unfold slT
 split
 ·exact jA _ _ _
 ·rfl
def eZ (l:List ByteArray) (t c:Nat) (a:Int):Nat→List ByteArray
 |0=>l
 |k+1=>bu (slT (eZ l t c a k) t c a k)
theorem nu {l:List ByteArray} (h:af l=true) (t c:Nat) (a:Int):∀k,af (eZ l t c a k)=true
 |0=>h
 |k+1=>lz (pF (nu h t c a k) t c a k)
theorem mO (l:List ByteArray) (t c:Nat) (a:Int):∀k,(eZ l t c a k).length=l.length
 |0=>rfl
 |k+1=>by show(bu _).length=_;rw[bW,rX,mO l t c a k]
def slR (l:List ByteArray) (t c:Nat) (a:Int) (k:Nat):Int:=sg (sat (slT (eZ l t c a k) t c a k) 0)
def slV (l:List ByteArray) (t c:Nat) (a:Int) (n:Nat):List Int:=gen (slR l t c a) n
theorem rY (l:List ByteArray) (t c:Nat) (a:Int) (n:Nat):(slV l t c a n).length=n:=ar _ _
theorem FE (l:List ByteArray) (t c:Nat) (a:Int) (n:Nat):slV l t c a (n+1)=slV l t c a n++[slR l t c a n]:=fE _ _
theorem DK {l:List ByteArray} (h:af l=true) (t c:Nat) (a:Int) (k:Nat) : -1000000000000≤slR l t c a k∧slR l t c a k≤1000000000000:=
 oq ((ap.1 (pF (nu h t c a k) t c a k)).2.2 0 (ap.1 (pF (nu h t c a k) t c a k)).1).1
def slN (c t a:Int):Bool:=(inB c 0 6&&inB t 0 59)&&inB a (-100000) 100000
def dG (l:List ByteArray) (n t c a:Int):Bool:=((af l&&inB n 0 60)&&slN c t a)&&decide (c<(l.length:Int))
def fU (l:List ByteArray) (n t c a:Int):List Int:=if dG l n t c a=true then slV l t.toNat c.toNat a n.toNat else[]
theorem xg {l:List ByteArray} {n t c a:Int} (h:dG l n t c a=false):fU l n t c a=[]:=by simp[fU,h]
theorem zq {l:List ByteArray} {n t c:Nat} {a:Int} (h:dG l n t c a=true):fU l n t c a=slV l t c a n:=by simp[fU,h]
def n9 (d:ae) (p:Int):Bool:=ag d.tab&&decide (0≤p∧p<(pgN d.tab (d.rw*d.ac):Int))
def eb (d:ae) (p:Int):List Int:=if n9 d p=true then iI d.rw d.ac d.tab p.toNat else[]
attribute [local go_sem ↓] Go.wp_at_zero Go.wp_at_succ
structure Rg (w:World) (g K:Nat) (X:World):Prop where
 rdr:Rdr X g K
 grw:w.grownBy X (some g)
 lt:g<w.heap.size
theorem Rg.first {w:World} {g K:Nat} (h:Rdr w g K):Rg w g K w:=⟨h,World.grownBy.refl w _,h.lt⟩
theorem Rg.more {w X:World} {g K K':Nat} (h:Rg w g K X) (hK:K≤K'):Rg w g K' X:=⟨h.rdr.more hK,h.grw,h.lt⟩
theorem Rg.next {w X Y:World} {g K K':Nat} (h:Rg w g K X) (hr:Rdr Y g K') (hg:X.grownBy Y (some g)):Rg w g K' Y:=⟨hr,ay h.grw hg,h.lt⟩
theorem Rg.bel {w X Y:World} {g K:Nat} (h:Rg w g K X) (hb:Below X.heap.size X Y):Rg w g K Y:=⟨h.rdr.bel hb,ay h.grw (aB _ hb),h.lt⟩
theorem Rg.size {w X:World} {g K:Nat} (h:Rg w g K X):g<X.heap.size:=Jw h.lt h.grw.size
theorem Rg.pick {w X:World} {g K:Nat} (h:Rg w g K X) (n:Int) (hn:1≤n∧n≤1000000000) (hK:K≤1000000000):
  Calls prog 20 #[.pointer (some ⟨g,0,none⟩),.int .i64 n] X fun e Y=>∃m:Int,e=.returned (.int .i64 m)∧(1≤n→0≤m∧m<n)∧Rg w g (K+1) Y:=
 (l9 g K n X h.rdr hK (by omega)).mono fun e Y hp=>by
  obtain⟨m,he,h1,-,hr,hg⟩:=hp;exact⟨m,he,h1,h.next hr hg⟩
theorem Rg.num {w X:World} {g K:Nat} (h:Rg w g K X) (l:List Int) (hl:0<l.length) (hl2:l.length≤1000) (hwf:Wf l) (hK:K≤1000000000):
  Calls prog 18 #[.pointer (some ⟨g,0,none⟩),.slice (some ⟨X.heap.size,0,none⟩) l.length l.length] (X.alloc (.cells (iv l).toArray 3)) fun e Y=>∃m:Int,e=.returned (.int .i64 m)∧m∈l∧Rg w g (K+1) Y:=
 (ze g K _ l _ (h.bel (ab X _)).rdr hK (nZ X l hl2 hwf) hl (fun a n c e _=>by cases e;have:=h.size;show X.heap.size≠g;omega)).mono fun e Y hp=>by
  obtain⟨m,he,h1,hr,hg⟩:=hp;exact⟨m,he,h1,(h.bel (ab X _)).next hr hg⟩
theorem Rg.of_lit {w X:World} {g K:Nat} (h:Rg w g K X) (l:List ByteArray) (hl:0<l.length) (hl2:l.length≤1000) (B:Nat) (hB:∀s∈l,s.size≤B) (hK:K≤1000000000∧B≤1000):
  Calls prog 21 #[.pointer (some ⟨g,0,none⟩),.slice (some ⟨X.heap.size,0,none⟩) l.length l.length] (X.alloc (.cells (sv l).toArray 9)) fun e Y=>∃s:ByteArray,e=.returned (.string s)∧s.size≤B∧Rg w g (K+1) Y:=
 (Da g K _ l B _ (h.bel (ab X _)).rdr hK.1 (tS X l hl2 (fun s hs=>by have:=hB s hs;omega)) hl (fun a n c e _=>by cases e;have:=h.size;show X.heap.size≠g;omega) hB).mono fun e Y hp=>by
  obtain⟨s,he,-,h1,hr,hg⟩:=hp;exact⟨s,he,h1,(h.bel (ab X _)).next hr hg⟩
theorem Rg.of_litD {w X:World} {g K:Nat} (h:Rg w g K X) (l:List ByteArray) (hl:0<l.length) (hl2:l.length≤1000) (B:Nat) (hB:∀s∈l,s.size≤B) (hK:K≤1000000000∧B≤1000):
  Calls prog 21 #[.pointer (some ⟨g,0,none⟩),.slice (some ⟨X.heap.size,0,none⟩) l.length l.length] (X.alloc (.cells (sv l).toArray 9)).drew fun e Y=>∃s:ByteArray,e=.returned (.string s)∧s.size≤B∧Rg w g (K+1) Y:=
 have hb:Below X.heap.size X (X.alloc (.cells (sv l).toArray 9)).drew:=(ab X _).drew
 (Da g K _ l B _ (h.bel hb).rdr hK.1 ((tS X l hl2 (fun s hs=>by have:=hB s hs;omega)).bel ((Below.refl _ _).drew)) hl (fun a n c e _=>by cases e;have:=h.size;show X.heap.size≠g;omega) hB).mono fun e Y hp=>by
  obtain⟨s,he,-,h1,hr,hg⟩:=hp;exact⟨s,he,h1,(h.bel hb).next hr hg⟩
theorem EC {k n:Nat} {X S:ByteArray} (h:k≤n) (hn:n≤60000) (hs:S.size≤30) (hx:X.size=k):¬ 9223372036854775807<k+S.size∧¬ 9223372036854775807<X.size+S.size:=by omega
theorem ED {k j n:Nat} {S:ByteArray} (h:(0:Int)≤(k:Int)∧(k:Int)<(n:Int)) (hj:0≤(j:Int)∧(j:Int)<2) (hn:n≤60000) (hs:S.size≤30):
  IntKind.i64.wrap ((k:Int)+(j:Int))=(k:Int)+(j:Int)∧(0:Int)≤(k:Int)+(j:Int)∧(k:Int)+(j:Int)≤(n:Int)∧((k:Int)+(j:Int)).toNat=k+j∧¬ 9223372036854775807<k+S.size+(n-(k+j)):=by
 refine⟨?_,?_,?_,?_,?_⟩
 ·rw[IntWalk.i64_in] <;> omega
 all_goals omega
def Ji:Value→Nat
 |.string s=>s.size
 |_=>0
theorem CD {j:bK} (hv:Wf j.poly) (hj:j.In):(jE j).size≤400:=by
 cases h:bH j
 ·rw[vJ h];decide
 ·obtain⟨h1,h2,h3,h4⟩:=tK hv hj h;rw[pV h];simp only[Jt];have:dr.size=1:=rfl;omega
theorem Ai (g K:Nat) (w:World) (hr:Rdr w g K) (hK:K≤9000000):
  Calls prog 19 #[.pointer (some ⟨g,0,none⟩)] w fun e Y=>∃s:ByteArray,e=.returned (.string s)∧s.size≤3000∧Rg w g (K+300) Y:=by
 have HR:=Jj (Rg.first hr);clear hr
 go_enter func19,ntmps19
 go_wp2_with fail
 refine(Rg.pick HR.out 8 (by omega) (by omega)).mono ?_;rintro e w1 ⟨m1,rfl,p1,hr⟩;replace HR:=Jj hr;clear hr;have q1:=p1 (by omega);clear p1;have hc:m1=0∨m1=1∨m1=2∨m1=3∨m1=4∨m1=5∨m1=6∨m1=7:=by omega
 clear q1
 rcases hc with rfl|rfl|rfl|rfl|rfl|rfl|rfl|rfl
 ·go_wp2_with fail
  refine(rD g _ _ HR.out.rdr (by omega)).mono ?_;rintro e w2 ⟨v,l,rfl,ho,l1,l6,hr2,hg2⟩;replace HR:=Jj (HR.out.next hr2 hg2);have HI:=Jj ho.ints;have z2:=bM ho.ints.2;obtain⟨A,c,rfl,-,-,-⟩:=ho.ints.open_;clear ho hr2 hg2
  go_wp2_with fail
  refine(cW _ l _ HI.out (by omega)).mono ?_;rintro e w3 ⟨rfl,b⟩;replace HR:=Jj (HR.out.bel b);clear b;have k1:¬ 9223372036854775807<5+(aw l).size:=by omega
  have k2:¬ 9223372036854775807<6+(aw l).size:=by omega
  go_wp2;go_ret;refine⟨⟨#[112,111,108,121,32]⟩++aw l,rfl,?_,HR.out.more (by omega)⟩;simp only[Jt];have y0:(⟨#[112,111,108,121,32]⟩:ByteArray).size=5:=rfl;omega
 ·go_wp2_with fail
  refine(Rg.pick HR.out 20 (by omega) (by omega)).mono ?_;rintro e w2 ⟨m2,rfl,p2,hr⟩;replace HR:=Jj hr;clear hr;have q2:=p2 (by omega);clear p2
  go_wp2_with fail
  refine(cO (m2-5) _ (by omega) (by omega)).mono ?_;rintro e w3 ⟨rfl,b⟩;replace HR:=Jj (HR.out.bel b);clear b;have z3:=aJ (n:=(m2-5)) (by omega) (by omega);have k1:¬ 9223372036854775807<6+(au (m2-5)).size:=by omega
  have k2:¬ 9223372036854775807<6+(au (m2-5)).size+1:=by omega
  go_wp2_with fail
  refine(Rg.num HR.out [8,6,12,2] (by decide) (by decide) (by intro x hx;simp at hx;omega) (by omega)).mono ?_;rintro e w4 ⟨m4,rfl,p4,hr⟩;replace HR:=Jj hr;clear hr;have q4:m4=8∨m4=6∨m4=12∨m4=2:=by simp at p4;omega
  clear p4
  go_wp2_with fail
  refine(cO m4 _ (by omega) (by omega)).mono ?_;rintro e w5 ⟨rfl,b⟩;replace HR:=Jj (HR.out.bel b);clear b;have z5:=aJ (n:=m4) (by omega) (by omega);have k3:¬ 9223372036854775807<6+(au (m2-5)).size+1+(au m4).size:=by omega
  go_wp2;go_ret;refine⟨⟨#[115,101,116,117,112,32]⟩++au (m2-5)++⟨#[32]⟩++au m4,rfl,?_,HR.out.more (by omega)⟩;simp only[Jt];have y0:(⟨#[115,101,116,117,112,32]⟩:ByteArray).size=6:=rfl;have y1:(⟨#[32]⟩:ByteArray).size=1:=rfl;omega
 ·go_wp2_with fail
  refine(Rg.of_lit HR.out [⟨#[114,117,110,32]⟩,⟨#[116,117,114,110,115,32]⟩,⟨#[102,105,110,100,32]⟩,⟨#[99,111,114,114,101,99,116,32]⟩,⟨#[112,108,97,110,32]⟩,⟨#[115,117,109,115,32]⟩] (by decide) (by decide) 30 (by decide) (by omega)).mono ?_;rintro e w2 ⟨s2,rfl,z2,hr⟩;replace HR:=Jj hr;clear hr
  go_wp2_with fail
  refine(Rg.pick HR.out 10 (by omega) (by omega)).mono ?_;rintro e w3 ⟨m3,rfl,p3,hr⟩;replace HR:=Jj hr;clear hr;have q3:=p3 (by omega);clear p3
  go_wp2_with fail
  refine(cO (m3-1) _ (by omega) (by omega)).mono ?_;rintro e w4 ⟨rfl,b⟩;replace HR:=Jj (HR.out.bel b);clear b;have z4:=aJ (n:=(m3-1)) (by omega) (by omega);have k1:¬ 9223372036854775807<s2.size+(au (m3-1)).size:=by omega
  go_wp2;go_ret;refine⟨s2++au (m3-1),rfl,?_,HR.out.more (by omega)⟩;simp only[Jt];omega
 ·go_wp2_with fail
  refine(Rg.of_lit HR.out [⟨#[118,97,108,117,101,115,32]⟩,⟨#[114,111,117,110,100,32]⟩] (by decide) (by decide) 30 (by decide) (by omega)).mono ?_;rintro e w2 ⟨s2,rfl,z2,hr⟩;replace HR:=Jj hr;clear hr
  go_wp2_with fail
  refine(Rg.pick HR.out 3 (by omega) (by omega)).mono ?_;rintro e w3 ⟨m3,rfl,p3,hr⟩;replace HR:=Jj hr;clear hr;have q3:=p3 (by omega);clear p3
  go_wp2_with fail
  refine(cO m3 _ (by omega) (by omega)).mono ?_;rintro e w4 ⟨rfl,b⟩;replace HR:=Jj (HR.out.bel b);clear b;have z4:=aJ (n:=m3) (by omega) (by omega);have k1:¬ 9223372036854775807<s2.size+(au m3).size:=by omega
  have k2:¬ 9223372036854775807<s2.size+(au m3).size+1:=by omega
  go_wp2_with fail
  refine(Rg.pick HR.out 3 (by omega) (by omega)).mono ?_;rintro e w5 ⟨m5,rfl,p5,hr⟩;replace HR:=Jj hr;clear hr;have q5:=p5 (by omega);clear p5
  go_wp2_with fail
  refine(cO (m5+1) _ (by omega) (by omega)).mono ?_;rintro e w6 ⟨rfl,b⟩;replace HR:=Jj (HR.out.bel b);clear b;have z6:=aJ (n:=(m5+1)) (by omega) (by omega);have k3:¬ 9223372036854775807<s2.size+(au m3).size+1+(au (m5+1)).size:=by omega
  go_wp2;go_ret;refine⟨s2++au m3++⟨#[32]⟩++au (m5+1),rfl,?_,HR.out.more (by omega)⟩;simp only[Jt];have y0:(⟨#[32]⟩:ByteArray).size=1:=rfl;omega
 ·go_wp2_with fail
  refine(x9 g _ _ HR.out.rdr (by omega)).mono ?_;rintro e w2 ⟨v,l,rfl,ho,l1,l6,hr2,hg2⟩;replace HR:=Jj (HR.out.next hr2 hg2);have HI:=Jj ho.ints;have z2:=bM ho.ints.2;obtain⟨A,c,rfl,-,-,-⟩:=ho.ints.open_;clear ho hr2 hg2
  go_wp2_with fail
  refine(cW _ l _ HI.out (by omega)).mono ?_;rintro e w3 ⟨rfl,b⟩;replace HR:=Jj (HR.out.bel b);clear b;have k1:¬ 9223372036854775807<5+(aw l).size:=by omega
  have k2:¬ 9223372036854775807<6+(aw l).size:=by omega
  go_wp2;go_ret;refine⟨⟨#[116,97,98,108,101,32]⟩++aw l,rfl,?_,HR.out.more (by omega)⟩;simp only[Jt];have y0:(⟨#[116,97,98,108,101,32]⟩:ByteArray).size=6:=rfl;omega
 ·go_wp2_with fail
  refine(Rg.of_lit HR.out [⟨#[99,104,101,97,112,32,50,32,53,32,49]⟩,⟨#[108,97,121,111,117,116,32,51,32,50,32,57]⟩,⟨#[108,97,121,111,117,116,32,49,32,49,32,51]⟩,⟨#[108,97,121,111,117,116,32,48,32,49,32,49]⟩,⟨#[115,108,105,112,32,56,32,50,32,49,32,51]⟩,⟨#[115,108,105,112,32,57,32,48,32,48,32,49]⟩,⟨#[101,114,114,97,116,97,32,49,32,50,32,51]⟩,⟨#[97,112,112,108,121,32,48,58,49,62,50]⟩,⟨#[97,112,112,108,121,32,45]⟩,⟨#[112,111,119,101,114,115,32,48,32,48,32,49]⟩,⟨#[101,110,103,105,110,101,32,48,48,48,56,32,48,48,49,57,32,48,48,49,56,32,48,48,48,54]⟩] (by decide) (by decide) 30 (by decide) (by omega)).mono ?_;rintro e w2 ⟨s2,rfl,z2,hr⟩;replace HR:=Jj hr;clear hr;go_wp2;go_ret;refine⟨s2,rfl,?_,HR.out.more (by omega)⟩;omega
 ·go_wp2_with fail
  refine(Aj g _ _ HR.out.rdr (by omega)).mono ?_;rintro e w2 ⟨v,j,rfl,hs,-,hj⟩;replace HR:=Jj (HR.out.next hs.rdr hs.gr);have HI:=Jj hs.own.ints;have HJ:=Jj hj;have z2:=CD hs.own.ints.2 hj;clear hs hj
  go_wp2_with fail
  refine(qx v j _ HI.out HJ.out).mono ?_;rintro e w3 ⟨rfl,b⟩;replace HR:=Jj (HR.out.bel b);clear b;have k1:¬ 9223372036854775807<4+(jE j).size:=by omega
  go_wp2;go_ret;refine⟨⟨#[106,111,98,32]⟩++jE j,rfl,?_,HR.out.more (by omega)⟩;simp only[Jt];have y0:(⟨#[106,111,98,32]⟩:ByteArray).size=4:=rfl;omega
 ·go_wp2_with fail
  refine(Rg.of_lit HR.out [⟨#[116,117,114,110]⟩,⟨#[98,97,99,107]⟩,⟨#[115,107,101,119]⟩,⟨#[117,110,115,107,101,119]⟩,⟨#[104,97,108,118,101,115]⟩,⟨#[114,101,97,100]⟩,⟨#[102,105,116]⟩,⟨#[100,101,103,114,101,101]⟩,⟨#[110,105,110,101,115]⟩,⟨#[112,114,105,110,116]⟩,⟨#[112,111,108,121]⟩,⟨#[119,104,97,116]⟩,⟨#[]⟩,⟨#[32,112,111,108,121]⟩,⟨#[116,117,114,110,32]⟩,⟨#[114,117,110]⟩,⟨#[114,117,110,32,48,49]⟩,⟨#[114,117,110,32,32,49]⟩,⟨#[115,101,116,117,112,32,49]⟩,⟨#[106,111,98,32]⟩,⟨#[116,97,98,108,101,32]⟩,⟨#[112,111,108,121,32,120]⟩,⟨#[101,110,103,105,110,101,32,49,32,50,50]⟩] (by decide) (by decide) 30 (by decide) (by omega)).mono ?_;rintro e w2 ⟨s2,rfl,z2,hr⟩;replace HR:=Jj hr;clear hr;go_wp2;go_ret;refine⟨s2,rfl,?_,HR.out.more (by omega)⟩;omega
theorem sK (v:Value) (l:List Int) (w:World) (hv:Bytes w v l):
  Calls prog 7 #[v] w fun e w'=>∃s:ByteArray,e=.returned (.string s)∧s.size≤100000∧Below w.heap.size w w':=by
 have HV:=Jj hv;obtain⟨A,c,rfl,-,-,-⟩:=hv.open_;clear hv
 go_enter func7,ntmps7
 go_wp2_with fail
 refine(Ak _ l _ HV.out).mono ?_;rintro e w1 ⟨g,rfl,hg,hr,b1⟩;have HB1:=Jj b1;have HR:=Jj (Rg.first hr);clear hr b1
 go_wp2_with fail
 refine(Rg.num HR.out [8,5,12,3] (by decide) (by decide) (by intro x hx;simp at hx;omega) (by omega)).mono ?_;rintro e w2 ⟨m2,rfl,p2,hr⟩;replace HR:=Jj hr;clear hr;have q2:m2=8∨m2=5∨m2=12∨m2=3:=by simp at p2;omega
 clear p2
 go_wp2_with fail
 have HN:=Jj HR;obtain⟨n,hn⟩:∃n:Nat,m2=n:=⟨m2.toNat,by omega⟩;subst hn;have hn12:n≤12∧3≤n:=by omega
 go_loopw [4,5] (fun u i wr=>∃(k:Nat) (T:ByteArray),k≤n∧i=.int .i64 k∧u=.string T∧(n-k)≤T.size∧T.size≤3001*(n-k)∧Rg w1 g (1+300*(n-k)) wr) (fun _ i _=>(intOf i).toNat)
 case atStart=>exact⟨n,⟨#[]⟩,Jr _,rfl,rfl,(show n-n≤0 by omega),(show 0≤3001*(n-n) by omega),HR.out.more (by omega)⟩
 case round=>
  obtain⟨k,T,hk,rfl,rfl,ht1,ht2,hR⟩:=hrel;have HK:=Jj hR;clear HR HN hR;have ht3:T.size≤40000:=Js ht2 (Js (Nat.mul_le_mul_left 3001 (show n-k≤12 by omega)) (by omega));by_cases h0:0<k
  ·have h0i:(0:Int)<(k:Int):=by omega
   go_wp2_with fail
   refine(Ai g _ _ HK.out.rdr (by omega)).mono ?_;rintro e w3 ⟨s,rfl,hs,hr⟩;have HR3:=Jj (HK.out.next hr.rdr hr.grw);clear hr;have k1:¬ 9223372036854775807<T.size+s.size:=by omega
   have k2:¬ 9223372036854775807<T.size+s.size+1:=by omega
   have hsz:(T++s++(⟨#[10]⟩:ByteArray)).size=T.size+s.size+1:=by simp only[Jt];rfl
   have hmul:3001*(n-(k-1))=3001*(n-k)+3001:=by rw[show n-(k-1)=(n-k)+1 by omega,Nat.mul_add]
   go_wp2;go_roundw
   case rel=>exact⟨k-1,T++s++⟨#[10]⟩,by omega,by go_num,rfl,by rw[hsz];omega,by rw[hsz,hmul];omega,HR3.out.more (by omega)⟩
   case measure=>simp[intOf];omega
  ·have hk0:k=0:=by omega
   subst hk0;have ht4:1≤T.size:=by omega
   replace HR:=HK;clear HK
   go_wp2_with fail
   refine(Rg.pick HR.out 60 (by omega) (by omega)).mono ?_;rintro e w3 ⟨m3,rfl,p3,hr⟩;replace HR:=Jj hr;clear hr;have q3:=p3 (by omega);clear p3;by_cases h5:m3=0
   ·subst h5;clear q3
    go_wp2_with fail
    go_loopw [4,6] (fun u i wr=>∃(j:Nat) (S:ByteArray),j≤101∧i=.int .i64 j∧u=.string S∧1≤S.size∧S.size≤40000+5*j∧Rg w1 g (1+300*(n-0)+1) wr) (fun _ i _=>101-(intOf i).toNat)
    case atStart=>exact⟨0,T,Jy _,rfl,rfl,ht4,by omega,HR.out⟩
    case round=>
     obtain⟨j,S,hj,rfl,rfl,hs1,hs2,hR⟩:=hrel;clear HR ht1 ht2 ht3 ht4;have HR:=Jj hR;clear hR;by_cases hj9:j≤100
     ·have hj8:(j:Int)≤100:=by omega
      have k1:¬ 9223372036854775807<S.size+5:=by omega
      have hz:(S++(⟨#[119,104,97,116,10]⟩:ByteArray)).size=S.size+5:=by simp only[Jt];rfl
      go_wp2;go_roundw
      case rel=>exact⟨j+1,S++⟨#[119,104,97,116,10]⟩,by omega,by go_num,rfl,by rw[hz];omega,by rw[hz];omega,HR.out⟩
      case measure=>simp[intOf];omega
     ·have hj8:¬(j:Int)≤100:=by omega
      have hs3:S.size≤50000:=by omega
      go_wp2_with fail
      refine(Rg.pick HR.out 2 (by omega) (by omega)).mono ?_;rintro e w4 ⟨m4,rfl,p4,hr⟩;replace HR:=Jj hr;clear hr;have q4:=p4 (by omega);clear p4;by_cases h9:m4=0
      ·subst h9;go_wp2;go_ret;exact⟨_,rfl,by omega,HB1.out.grown HR.out.grw HB1.out.size (fun k hk=>by cases hk;exact hg)⟩
      ·obtain rfl:m4=1:=by omega
       clear h9 q4
       go_wp2_with fail
       refine(Rg.pick HR.out (S.size:Int) (by omega) (by omega)).mono ?_;rintro e w9 ⟨m9,rfl,p9,hr⟩;replace HR:=Jj hr;clear hr;have q9:=p9 (by omega);clear p9;obtain⟨k9,hk9⟩:∃k:Nat,m9=k:=⟨m9.toNat,by omega⟩;subst hk9;have hA:(S.extract 0 k9).size=k9:=by rw[ByteArray.size_extract];omega
       have a1:(0:Int)≤(k9:Int):=by omega
       have a2:(k9:Int)≤(S.size:Int):=by omega
       have a3:k9≤S.size:=by omega
       have a4:min k9 S.size=k9:=Nat.min_eq_left a3;have a5:S.size≤60000:=by omega
       have HA:=Jj hA;have tok1:True:=trivial;have tok2:True:=trivial
       go_wp2_with fail
       go_region_held3 (fun _=>True) (exact trivial)
       (first
       |((try go_simp);go_at_call 21;have _t:=tok1;go_loud (refine(Rg.of_litD HR.out [⟨#[]⟩,⟨#[32]⟩,⟨#[10]⟩,⟨#[120]⟩,⟨#[48]⟩] (by decide) (by decide) 30 (by decide) (by omega)).mono ?_;rintro e5 w5 ⟨s5,rfl,z5,hr5⟩;have HR5:=Jj hr5;obtain⟨u1,u2⟩:=EC (S:=s5) a3 a5 z5 HA.out;clear tok1 hr5;(try dsimp only)))
       |((try go_simp);go_at_call 20;have _t:=tok2;go_loud (refine(Rg.pick HR5.out 2 (by omega) (by omega)).mono ?_;rintro e6 w6 ⟨p6,rfl,hp6,hr6⟩;have HR6:=Jj hr6;have hq6:=hp6 (by omega);obtain⟨j6,rfl⟩:∃q:Nat,p6=q:=⟨p6.toNat,by omega⟩;obtain⟨v1,v2,v3,v4,v5⟩:=ED (S:=s5) q9 hq6 a5 z5;clear tok2 hr6 hp6;(try dsimp only)))
       |fail)
       all_goals
        go_wp2;go_ret;refine⟨_,rfl,?_,HB1.out.grown HR6.out.grw HB1.out.size (fun k hk=>by cases hk;exact hg)⟩;rw[Jt,Jt,ByteArray.size_extract,ByteArray.size_extract];omega
   ·by_cases h6:m3=1
    ·subst h6;clear q3 h5
     go_wp2_with fail
     go_loopw [4] (fun u wr=>∃S:ByteArray,u=.string S∧1≤S.size∧S.size≤50000∧Rg w1 g (1+300*(n-0)+1) wr) (fun u _=>20001-Ji u)
     case atStart=>exact⟨T,rfl,ht4,by omega,HR.out⟩
     case round=>
      obtain⟨S,rfl,hs1,hs2,hR⟩:=hrel;clear HR ht1 ht2 ht3 ht4;have HR:=Jj hR;clear hR;by_cases hj9:S.size≤20000
      ·have hj8:(S.size:Int)≤20000:=by omega
       have k1:¬ 9223372036854775807<S.size+5:=by omega
       have hz:(S++(⟨#[119,104,97,116,10]⟩:ByteArray)).size=S.size+5:=by simp only[Jt];rfl
       go_wp2;go_roundw
       case rel=>exact⟨S++⟨#[119,104,97,116,10]⟩,rfl,by rw[hz];omega,by rw[hz];omega,HR.out⟩
       case measure=>show 20001-(S++(⟨#[119,104,97,116,10]⟩:ByteArray)).size<20001-S.size;rw[hz];omega
      ·have hj8:¬(S.size:Int)≤20000:=by omega
       go_wp2_with fail
       refine(Rg.pick HR.out 2 (by omega) (by omega)).mono ?_;rintro e w4 ⟨m4,rfl,p4,hr⟩;replace HR:=Jj hr;clear hr;have q4:=p4 (by omega);clear p4;by_cases h9:m4=0
       ·subst h9;go_wp2;go_ret;exact⟨_,rfl,by omega,HB1.out.grown HR.out.grw HB1.out.size (fun k hk=>by cases hk;exact hg)⟩
       ·obtain rfl:m4=1:=by omega
        clear h9 q4
        go_wp2_with fail
        refine(Rg.pick HR.out (S.size:Int) (by omega) (by omega)).mono ?_;rintro e w9 ⟨m9,rfl,p9,hr⟩;replace HR:=Jj hr;clear hr;have q9:=p9 (by omega);clear p9;obtain⟨k9,hk9⟩:∃k:Nat,m9=k:=⟨m9.toNat,by omega⟩;subst hk9;have hA:(S.extract 0 k9).size=k9:=by rw[ByteArray.size_extract];omega
        have a1:(0:Int)≤(k9:Int):=by omega
        have a2:(k9:Int)≤(S.size:Int):=by omega
        have a3:k9≤S.size:=by omega
        have a4:min k9 S.size=k9:=Nat.min_eq_left a3;have a5:S.size≤60000:=by omega
        have HA:=Jj hA;have tok1:True:=trivial;have tok2:True:=trivial
        go_wp2_with fail
        go_region_held3 (fun _=>True) (exact trivial)
        (first
        |((try go_simp);go_at_call 21;have _t:=tok1;go_loud (refine(Rg.of_litD HR.out [⟨#[]⟩,⟨#[32]⟩,⟨#[10]⟩,⟨#[120]⟩,⟨#[48]⟩] (by decide) (by decide) 30 (by decide) (by omega)).mono ?_;rintro e5 w5 ⟨s5,rfl,z5,hr5⟩;have HR5:=Jj hr5;obtain⟨u1,u2⟩:=EC (S:=s5) a3 a5 z5 HA.out;clear tok1 hr5;(try dsimp only)))
        |((try go_simp);go_at_call 20;have _t:=tok2;go_loud (refine(Rg.pick HR5.out 2 (by omega) (by omega)).mono ?_;rintro e6 w6 ⟨p6,rfl,hp6,hr6⟩;have HR6:=Jj hr6;have hq6:=hp6 (by omega);obtain⟨j6,rfl⟩:∃q:Nat,p6=q:=⟨p6.toNat,by omega⟩;obtain⟨v1,v2,v3,v4,v5⟩:=ED (S:=s5) q9 hq6 a5 z5;clear tok2 hr6 hp6;(try dsimp only)))
        |fail)
        all_goals
         go_wp2;go_ret;refine⟨_,rfl,?_,HB1.out.grown HR6.out.grw HB1.out.size (fun k hk=>by cases hk;exact hg)⟩;rw[Jt,Jt,ByteArray.size_extract,ByteArray.size_extract];omega
    ·by_cases h7:m3=2
     ·subst h7;clear q3 h5 h6;have c1:(0:Int)≤(T.size:Int)-1:=by omega
      have c2:(T.size:Int)-1≤(T.size:Int):=by omega
      have c3:IntKind.i64.wrap ((T.size:Int)-1)=(T.size:Int)-1:=by rw[IntWalk.i64_in] <;> omega
      go_wp2;go_ret;exact⟨_,rfl,by rw[ByteArray.size_extract];omega,HB1.out.grown HR.out.grw HB1.out.size (fun k hk=>by cases hk;exact hg)⟩
     ·clear q3
      go_wp2_with fail
      refine(Rg.pick HR.out 2 (by omega) (by omega)).mono ?_;rintro e w4 ⟨m4,rfl,p4,hr⟩;replace HR:=Jj hr;clear hr;have q4:=p4 (by omega);clear p4;by_cases h9:m4=0
      ·subst h9;go_wp2;go_ret;exact⟨_,rfl,by omega,HB1.out.grown HR.out.grw HB1.out.size (fun k hk=>by cases hk;exact hg)⟩
      ·obtain rfl:m4=1:=by omega
       clear h9 q4
       go_wp2_with fail
       refine(Rg.pick HR.out (T.size:Int) (by omega) (by omega)).mono ?_;rintro e w9 ⟨m9,rfl,p9,hr⟩;replace HR:=Jj hr;clear hr;have q9:=p9 (by omega);clear p9;obtain⟨k9,hk9⟩:∃k:Nat,m9=k:=⟨m9.toNat,by omega⟩;subst hk9;have hA:(T.extract 0 k9).size=k9:=by rw[ByteArray.size_extract];omega
       have a1:(0:Int)≤(k9:Int):=by omega
       have a2:(k9:Int)≤(T.size:Int):=by omega
       have a3:k9≤T.size:=by omega
       have a4:min k9 T.size=k9:=Nat.min_eq_left a3;have a5:T.size≤60000:=by omega
       have HA:=Jj hA;have tok1:True:=trivial;have tok2:True:=trivial
       go_wp2_with fail
       go_region_held3 (fun _=>True) (exact trivial)
       (first
       |((try go_simp);go_at_call 21;have _t:=tok1;go_loud (refine(Rg.of_litD HR.out [⟨#[]⟩,⟨#[32]⟩,⟨#[10]⟩,⟨#[120]⟩,⟨#[48]⟩] (by decide) (by decide) 30 (by decide) (by omega)).mono ?_;rintro e5 w5 ⟨s5,rfl,z5,hr5⟩;have HR5:=Jj hr5;obtain⟨u1,u2⟩:=EC (S:=s5) a3 a5 z5 HA.out;clear tok1 hr5;(try dsimp only)))
       |((try go_simp);go_at_call 20;have _t:=tok2;go_loud (refine(Rg.pick HR5.out 2 (by omega) (by omega)).mono ?_;rintro e6 w6 ⟨p6,rfl,hp6,hr6⟩;have HR6:=Jj hr6;have hq6:=hp6 (by omega);obtain⟨j6,rfl⟩:∃q:Nat,p6=q:=⟨p6.toNat,by omega⟩;obtain⟨v1,v2,v3,v4,v5⟩:=ED (S:=s5) q9 hq6 a5 z5;clear tok2 hr6 hp6;(try dsimp only)))
       |fail)
       all_goals
        go_wp2;go_ret;refine⟨_,rfl,?_,HB1.out.grown HR6.out.grw HB1.out.size (fun k hk=>by cases hk;exact hg)⟩;rw[Jt,Jt,ByteArray.size_extract,ByteArray.size_extract];omega
def noS:ByteArray:=⟨#[110,111,10]⟩
def okS:ByteArray:=⟨#[111,107,10]⟩
def eF:ByteArray:=⟨#[119,104,97,116,10]⟩
def ak (s:ByteArray) (k:Bool):ByteArray:=if k=true then s++nlS else noS
theorem cy (s:ByteArray) (k:Bool) (w:World) (hs:s.size≤1000000000):
  Calls prog 102 #[.string s,.bool k] w fun e w'=>e=.returned (.string (ak s k))∧w'=w:=by
 have hcat:¬ 9223372036854775807<s.size+1:=by omega
 cases k
 ·go_enter func102,ntmps102
  go_wp2;go_ret;exact⟨rfl,rfl⟩
 ·go_enter func102,ntmps102
  go_wp2;go_ret;exact⟨rfl,rfl⟩
theorem Blk.desk {w:World} {g:Nat} {p e t:Value} {r a i:Int} (h:Blk w g 41 (pU p e t r a i)):
  w.cell? ⟨g,0,none⟩=some p∧w.cell? ⟨g,1,none⟩=some e∧w.cell? ⟨g,2,none⟩=some t∧w.cell? ⟨g,3,none⟩=some (.int .i64 r)∧w.cell? ⟨g,4,none⟩=some (.int .i64 a)∧w.cell? ⟨g,5,none⟩=some (.int .i64 i):=by
 refine⟨?_,?_,?_,?_,?_,?_⟩ <;> rw[h.cell] <;> rfl
theorem Blk.deskF {w:World} {g:Nat} {p e t:Value} {r a i:Int} (h:Blk w g 41 (pU p e t r a i)):
  w.frozen? ⟨g,0,none⟩=false∧w.frozen? ⟨g,1,none⟩=false∧w.frozen? ⟨g,2,none⟩=false∧w.frozen? ⟨g,3,none⟩=false∧w.frozen? ⟨g,4,none⟩=false∧w.frozen? ⟨g,5,none⟩=false:=
 ⟨h.frozen 0,h.frozen 1,h.frozen 2,h.frozen 3,h.frozen 4,h.frozen 5⟩
theorem Blk.desk4 {w:World} {g:Nat} {p e t:Value} {r a i:Int} (h:Blk w g 41 (pU p e t r a i)):
  w.cell? ⟨g,2,none⟩=some t∧w.cell? ⟨g,3,none⟩=some (.int .i64 r)∧w.cell? ⟨g,4,none⟩=some (.int .i64 a)∧w.cell? ⟨g,5,none⟩=some (.int .i64 i):=h.desk.2.2
theorem ah (w:World):Below w.heap.size w w.drew:=(Below.refl _ _).drew
def dQ (d:ae):Bool:=ag d.tab&&mS d.wi d.tab d.rw d.ac
def dh (d:ae):ByteArray:=if dQ d=true then shS d.wi d.tab d.rw d.ac else noS
theorem uf (b:Nat) (d:ae) (w:World) (hd:bO w b d) (ok:d.Ok) (hg:dY b w):
  Calls prog 118 #[.pointer (some ⟨b,0,none⟩)] w fun e w'=>jc w b (dh d) d e w':=by
 have HD:=Jj hd;have HG:=Jj hg;have htl:=ok.tab;obtain⟨h1,h2,h3⟩:=Jq ok.rw (Jq ok.ac ok.wi);obtain⟨p,en,t,k0,-,-,k3⟩:=hd;have HT:=Jj k3.ints;obtain⟨A,c,rfl,-,-,-⟩:=k3.ints.open_;obtain⟨c0,c1,c2,c3,c4,c5⟩:=k0.desk;have HK:=Jj k0;clear k0 k3 hg ok;have hval:∀e,uV (shS d.wi d.tab d.rw d.ac) (ag d.tab=true∧mS d.wi d.tab d.rw d.ac=true) e→e=.returned (.tuple #[.string (if dQ d=true then shS d.wi d.tab d.rw d.ac else⟨#[]⟩),.bool (dQ d)]):=by
  intro e he
  rcases he with ⟨hP,rfl⟩|⟨hP,rfl⟩
  ·have:dQ d=true:=by unfold dQ;rw[hP.1,hP.2];rfl
   rw[this];rfl
  ·have:dQ d=false:=by
    rw[Bool.eq_false_iff];intro h;unfold dQ at h;exact hP (by simpa using h)
   rw[this];rfl
 replace hval:=Jj hval;have HS:=Jj (show dh d=if dQ d=true then shS d.wi d.tab d.rw d.ac else noS from rfl);rw[HS.out];clear HS;generalize dQ d=kk at hval ⊢;have tok1:True:=trivial
 go_enter func118,ntmps118
 go_wp2_with fail
 go_region_held3 (fun w'=>w'.cell? ⟨b,2,none⟩=some (.slice A d.tab.length c)∧w'.cell? ⟨b,3,none⟩=some (.int .i64 d.rw)∧w'.cell? ⟨b,4,none⟩=some (.int .i64 d.ac)∧w'.cell? ⟨b,5,none⟩=some (.int .i64 d.wi)) (first|exact HK.out.desk4|exact HK3.out.desk4|go_keep) (first
  |((try go_simp);go_at_call 194;have _t:=tok1;go_loud (refine(rA d.rw d.ac d.wi (d.rw*d.ac) _ d.tab _ (by first|exact HT.out|exact HT.out.bel (ah _)) h1 h2 h3 htl rfl (by first|exact HG.out.glb.1|exact(HG.out.bel (ah _)).glb.1)).mono ?_;rintro e w3 ⟨T,b3⟩;obtain rfl:=hval.out e T;clear T;replace b3:Below w.heap.size w w3:=(by first|exact b3|exact aa (ah _) b3);have HB:=Jj b3;have HK3:=Jj (HK.out.below b3 HK.out.lt);clear tok1 b3;(try dsimp only)))
  |fail)
 clear c0 c1 c2 c3 c4 c5;cases kk
 ·go_wp2;go_ret;exact⟨rfl,HD.out.bel HB.out,aB _ HB.out⟩
 ·go_wp2;go_ret;exact⟨rfl,HD.out.bel HB.out,aB _ HB.out⟩
def aR (d:ae) (l:List Int) (k:Bool):ae:=if (k&&ag l)=true then { d with tab:=l } else d
theorem mR (b:Nat) (d:ae) (v:Value) (l:List Int) (k:Bool) (w:World) (hd:bO w b d) (hv:Own w 0 v l) (hl:l.length≤1048576) (hg:dY b w):
  Calls prog 122 #[.pointer (some ⟨b,0,none⟩),v,.bool k] w fun e w'=>jc w b (ak (aw l) (k&&ag l)) (aR d l k) e w'∧∀j,j≠2→w'.cell? ⟨b,j,none⟩=w.cell? ⟨b,j,none⟩:=by
 have hlt:=hd.lt;have HLT:=Jj hlt;clear hlt;have HD:=Jj hd;have HG:=Jj hg;have HV:=Jj hv;have hns:=bM hv.ints.2;obtain⟨A,c,rfl,-,-,-⟩:=hv.ints.open_;obtain⟨p,en,t,k0,-,-,-⟩:=hd;obtain⟨f0,f1,f2,f3,f4,f5⟩:=k0.deskF;obtain⟨c0,c1,c2,c3,c4,c5⟩:=k0.desk;clear k0 hg hv;obtain⟨kk,hkk⟩:∃kk,(k&&ag l)=kk:=⟨_,rfl⟩;have HK:=Jj hkk;have HS:=Jj (show aR d l k=if kk=true then { d with tab:=l } else d by unfold aR;rw[hkk]);rw[hkk,HS.out];clear hkk;have tail:∀(w2:World) (q:Bool),bO w2 b (if q=true then { d with tab:=l } else d)→w.grownBy w2 (some b)→Own w2 0 (.slice A l.length c) l→True:=fun _ _ _ _ _=>trivial;cases k
 ·obtain rfl:kk=false:=HK.out.symm
  go_enter func122,ntmps122
  go_wp2_with fail
  refine(dC _ l _ HV.out.ints hl HG.out.glb.1).mono ?_;rintro e w3 ⟨rfl,b3⟩;have HB:=Jj b3;clear b3 c0 c1 c2 c3 c4 c5 f0 f1 f2 f3 f4 f5
  go_wp2_with fail
  refine(cy _ _ _ (by omega)).mono ?_;rintro e w4 ⟨rfl,rfl⟩;go_wp2;go_ret;exact⟨⟨rfl,HD.out.bel HB.out,aB _ HB.out⟩,fun j _=>HB.out.cell HLT.out⟩
 ·obtain rfl:ag l=kk:=by have:=HK.out;rwa[Bool.true_and] at this
  cases hq:ag l
  ·go_enter func122,ntmps122
   go_wp2_with fail
   refine(aF _ l _ HV.out.ints).mono ?_;rw[hq];rintro e w2 ⟨rfl,rfl⟩
   go_wp2_with fail
   refine(dC _ l _ HV.out.ints hl HG.out.glb.1).mono ?_;rintro e w3 ⟨rfl,b3⟩;have HB:=Jj b3;clear b3 c0 c1 c2 c3 c4 c5 f0 f1 f2 f3 f4 f5
   go_wp2_with fail
   refine(cy _ _ _ (by omega)).mono ?_;rintro e w4 ⟨rfl,rfl⟩;go_wp2;go_ret;exact⟨⟨rfl,HD.out.bel HB.out,aB _ HB.out⟩,fun j _=>HB.out.cell HLT.out⟩
  ·go_enter func122,ntmps122
   go_wp2_with fail
   refine(aF _ l _ HV.out.ints).mono ?_;rw[hq];rintro e w2 ⟨rfl,rfl⟩;have D2:=Jj (HD.out.setTab HV.out);have G2:=Jj (aI w b 2 (.slice A l.length c));have HC2:=Jj (show ∀j,j≠2→(w.setCell ⟨b,2,none⟩ (.slice A l.length c)).cell? ⟨b,j,none⟩=w.cell? ⟨b,j,none⟩ from fun j hj=>Ju _ _ _ _ (by intro e;injection e with q1 q2;omega));have HL2:=Jj (show b<(w.setCell ⟨b,2,none⟩ (.slice A l.length c)).heap.size by simpa[World.setCell] using HLT.out);have HV2:=Jj (show Own (w.setCell ⟨b,2,none⟩ (.slice A l.length c)) 0 (.slice A l.length c) l from by
    obtain⟨p',e',t',h0,-⟩:=HD.out;exact HV.out.at h0 G2.out)
   have HG2:=Jj (HG.out.grown G2.out)
   go_wp2_with fail
   generalize hW:w.setCell ⟨b,2,none⟩ (.slice A l.length c)=w3 at D2 G2 HV2 HG2 HC2 HL2 ⊢;clear hW c0 c1 c2 c3 c4 c5 f0 f1 f2 f3 f4 f5;refine(dC _ l _ HV2.out.ints hl HG2.out.glb.1).mono ?_;rintro e w4 ⟨rfl,b3⟩;have HB:=Jj b3;clear b3
   go_wp2_with fail
   refine(cy _ _ _ (by omega)).mono ?_;rintro e w5 ⟨rfl,rfl⟩;go_wp2;go_ret;exact⟨⟨rfl,D2.out.bel HB.out,ay G2.out (aB _ HB.out)⟩,fun j hj=>(HB.out.cell HL2.out).trans (HC2.out j hj)⟩
theorem jX (b:Nat) (d:ae) (v:Value) (l:List Int) (k:Bool) (w:World) (hd:bO w b d) (hv:Own w 0 v l) (hl:l.length≤1048576) (hg:dY b w):
  Calls prog 122 #[.pointer (some ⟨b,0,none⟩),v,.bool k] w fun e w'=>jc w b (ak (aw l) (k&&ag l)) (aR d l k) e w':=
 (mR b d v l k w hd hv hl hg).mono fun e w' h=>h.1
def eM (d:ae) (r a i:Int):ae:=if dE r a i=true then { d with rw:=r.toNat,ac:=a.toNat,wi:=i.toNat } else d
def kv (r a i:Int):ByteArray:=if dE r a i=true then okS else noS
theorem nn {r a i:Int} (h:dE r a i=true):∃R A W:Nat,r=R∧a=A∧i=W∧(1≤R∧R≤20)∧(1≤A∧A≤6)∧(1≤W∧W≤12):=by
 simp[dE,inB] at h;exact⟨r.toNat,a.toNat,i.toNat,by omega,by omega,by omega,by omega,by omega,by omega⟩
theorem AQ (b:Nat) (d:ae) (r a i:Int) (w:World) (hd:bO w b d):
  Calls prog 128 #[.pointer (some ⟨b,0,none⟩),.agg #[.int .i64 r,.int .i64 a,.int .i64 i]] w fun e w'=>jc w b (kv r a i) (eM d r a i) e w':=by
 have K1:=Blk.new w 29 [.int .i64 r,.int .i64 a,.int .i64 i];have B1:=ab w (.cells #[.int .i64 r,.int .i64 a,.int .i64 i] 29);have HD:=Jj (hd.bel B1);have hdl:=hd.lt;obtain⟨a0,a1,a2⟩:=K1.lay;clear hd
 go_enter func128,ntmps128
 go_wp2_with fail
 refine(eI r a i _).mono ?_;rintro e w2 ⟨rfl,b2⟩;replace K1:=K1.below b2 K1.lt;replace HD:=Jj (HD.out.bel b2);have HB:=Jj (aa B1 b2);clear a0 a1 a2 b2 B1;obtain⟨a0,a1,a2⟩:=K1.lay;clear K1;cases hq:dE r a i
 ·have HS:=Jj (show eM d r a i=d by unfold eM;rw[hq];rfl);have HO:=Jj (show kv r a i=noS by unfold kv;rw[hq];rfl);clear hq;go_wp2;go_ret;exact⟨by rw[HO.out];rfl,by rw[HS.out];exact HD.out,aB _ HB.out⟩
 ·obtain⟨R,A,W,rfl,rfl,rfl,h1,h2,h3⟩:=nn hq;have HS:=Jj (show eM d R A W={ d with rw:=R,ac:=A,wi:=W } by unfold eM;rw[hq];rfl);have HO:=Jj (show kv R A W=okS by unfold kv;rw[hq];rfl);obtain⟨p,en,t,k0,-,-,-⟩:=HD.out;obtain⟨f0,f1,f2,f3,f4,f5⟩:=k0.deskF;obtain⟨c0,c1,c2,c3,c4,c5⟩:=k0.desk;clear hq k0;go_wp2;go_ret;exact⟨by rw[HO.out];rfl,by rw[HS.out];exact HD.out.setLay R A W,ay (aB _ HB.out) (ay (ay (aI _ b 3 _) (aI _ b 4 _)) (aI _ b 5 _))⟩
def eK (d:ae) (J:bK):ae:={ poly:=J.poly,eng:=d.eng,tab:=jtL J,rw:=J.rw.toNat,ac:=J.ac.toNat,wi:=J.wi.toNat }
noncomputable def ef (t:ByteArray):Bool:=(spR t).2&&li (spR t).1
noncomputable def gx (d:ae) (t:ByteArray):ByteArray:=if ef t=true then dh (eK d (spR t).1) else noS
noncomputable def jh (d:ae) (t:ByteArray):ae:=if ef t=true then eK d (spR t).1 else d
theorem nk {t:ByteArray} (d:ae) (h:ef t=false):gx d t=noS∧jh d t=d:=by simp[gx,jh,h]
theorem pX {t:ByteArray} (d:ae) (h:ef t=true):gx d t=dh (eK d (spR t).1)∧jh d t=eK d (spR t).1:=by simp[gx,jh,h]
theorem lC {d:ae} {J:bK} (h:d.Ok) (hj:li J=true):(eK d J).Ok:=by
 obtain⟨R,A,W,e1,e2,e3,h1,h2,h3⟩:=vT hj;have hq:bH J=true:=by
  cases hq:bH J
  ·rw[(uR hq).1] at hj;exact hj
  ·rfl
 exact⟨qM hq,h.eng,GN J,by unfold eK;rw[e1];exact h1,by unfold eK;rw[e2];exact h2,by unfold eK;rw[e3];exact h3⟩
theorem xT (b:Nat) (d:ae) (t:ByteArray) (w:World) (ht:t.size≤1048576) (hd:bO w b d) (ok:d.Ok) (hg:dY b w):
  Calls prog 141 #[.pointer (some ⟨b,0,none⟩),.string t] w fun e w'=>jc w b (gx d t) (jh d t) e w':=by
 have HD:=Jj hd;have HG:=Jj hg;have hdl:=hd.lt;have HOK:=Jj ok;clear hd hg ok;obtain⟨J,T,hR⟩:∃J T,spR t=(J,T):=⟨_,_,rfl⟩;have HR:=Jj hR;clear hR
 go_enter func141,ntmps141
 go_wp2_with fail
 refine(zU t _ ht HG.out.glb).mono ?_;rintro e w2 ⟨⟨v,he,o,jin⟩,b2⟩;rw[HR.out] at he o jin;subst he;obtain⟨A,c,rfl,-,-,-⟩:=o.ints.open_;have bA:Below w2.heap.size w2 (w2.alloc (.cells (aS (.slice A J.poly.length c) J).toArray 97)):=ab w2 _;have K2:=Blk.new w2 97 (aS (.slice A J.poly.length c) J);have HB:=Jj (aa b2 bA);have HO:=Jj (show Own (w2.alloc (.cells (aS (.slice A J.poly.length c) J).toArray 97)) w.heap.size (.slice A J.poly.length c) J.poly from o.bel bA);have HJ:=Jj (show J.In from jin);obtain⟨a0,a1,a2,a3,a4,a5,a6,a7,a8⟩:=K2.job;have hne:b<w2.heap.size:=Jw hdl b2.size;have hne1:¬w2.heap.size=b:=by omega
 have hne2:¬b=w2.heap.size:=by omega
 clear b2 bA o jin;unfold cr;cases T
 ·have HN:=Jj (nk d (show ef t=false by unfold ef;rw[HR.out];rfl));clear K2;go_wp2;go_ret;exact⟨by rw[HN.out.1];rfl,by rw[HN.out.2];exact HD.out.bel HB.out,aB _ HB.out⟩
 ·go_wp2_with fail
  clear a0 a1 a2 a3 a4 a5 a6 a7 a8;change Calls _ _ #[cr (.slice A J.poly.length c) J] (w2.alloc (.cells (aS (.slice A J.poly.length c) J).toArray 97)) _;generalize hW:w2.alloc (.cells (aS (.slice A J.poly.length c) J).toArray 97)=w3 at K2 HB HO ⊢;clear hW;refine(zS _ J _ HO.out.ints HJ.out).mono ?_;rintro e w4 ⟨r,rfl,o1,b1⟩;replace HB:=Jj (aa HB.out b1);replace K2:=K2.below b1 K2.lt;replace HO:=Jj (HO.out.bel b1);have HL:=Jj o1;obtain⟨A2,k2,rfl,-,-,-⟩:=o1.ints.open_;obtain⟨a0,a1,a2,a3,a4,a5,a6,a7,a8⟩:=K2.job;clear b1 o1;cases hq:li J
  ·have HN:=Jj (nk d (show ef t=false by unfold ef;rw[HR.out,hq];rfl));clear K2 hq;go_wp2;go_ret;exact⟨by rw[HN.out.1];rfl,by rw[HN.out.2];exact HD.out.bel HB.out,aB _ HB.out⟩
  ·have HN:=Jj (pX d (show ef t=true by unfold ef;rw[HR.out,hq];rfl));have HQ:=Jj hq;obtain⟨R,Ac,W0,e1,e2,e3,h1,h2,h3⟩:=vT hq;have HE:=Jj (Jq e1 (Jq e2 e3));have HD4:=Jj (HD.out.bel HB.out);obtain⟨p,en,u,k0,-,-,-⟩:=HD4.out;obtain⟨f0,f1,f2,f3,f4,f5⟩:=k0.deskF;obtain⟨c0,c1,c2,c3,c4,c5⟩:=k0.desk;clear hq k0;clear e1 e2 e3;have G2:w4.grownBy ((((w4.setCell ⟨b,0,none⟩ (.slice A J.poly.length c)).setCell ⟨b,3,none⟩ (.int .i64 J.rw)).setCell ⟨b,4,none⟩ (.int .i64 J.ac)).setCell ⟨b,5,none⟩ (.int .i64 J.wi)) (some b):=ay (ay (ay (aI _ b 0 _) (aI _ b 3 _)) (aI _ b 4 _)) (aI _ b 5 _);have G3:=Jj (show w4.grownBy (((((w4.setCell ⟨b,0,none⟩ (.slice A J.poly.length c)).setCell ⟨b,3,none⟩ (.int .i64 J.rw)).setCell ⟨b,4,none⟩ (.int .i64 J.ac)).setCell ⟨b,5,none⟩ (.int .i64 J.wi)).setCell ⟨b,2,none⟩ (.slice A2 (jtL J).length k2)) (some b) from ay G2 (aI _ b 2 _));have D3:=Jj (show bO (((((w4.setCell ⟨b,0,none⟩ (.slice A J.poly.length c)).setCell ⟨b,3,none⟩ (.int .i64 J.rw)).setCell ⟨b,4,none⟩ (.int .i64 J.ac)).setCell ⟨b,5,none⟩ (.int .i64 J.wi)).setCell ⟨b,2,none⟩ (.slice A2 (jtL J).length k2)) b (eK d J) from by
    have e1:((J.rw.toNat:Nat):Int)=J.rw:=by rw[HE.out.1];rfl
    have e2:((J.ac.toNat:Nat):Int)=J.ac:=by rw[HE.out.2.1];rfl
    have e3:((J.wi.toNat:Nat):Int)=J.wi:=by rw[HE.out.2.2];rfl
    have h:=(HD4.out.setPoly HO.out.low).setLay J.rw.toNat J.ac.toNat J.wi.toNat;rw[e1,e2,e3] at h;exact h.setTab (HD4.out.keepOwn HL.out.low G2))
   have HG3:=Jj ((HG.out.bel HB.out).grown G3.out);clear G2
   go_wp2_with fail
   generalize hW5:(((((w4.setCell ⟨b,0,none⟩ (.slice A J.poly.length c)).setCell ⟨b,3,none⟩ (.int .i64 J.rw)).setCell ⟨b,4,none⟩ (.int .i64 J.ac)).setCell ⟨b,5,none⟩ (.int .i64 J.wi)).setCell ⟨b,2,none⟩ (.slice A2 (jtL J).length k2))=w5 at D3 G3 HG3 ⊢;clear hW5 a0 a1 a2 a3 a4 a5 a6 a7 a8 f0 f1 f2 f3 f4 f5 c0 c1 c2 c3 c4 c5;refine(uf b (eK d J) _ D3.out (lC HOK.out HQ.out) HG3.out).mono ?_;rintro e w6 ⟨rfl,d6,g6⟩;have HF:=Jj (Jq d6 g6);clear d6 g6;go_wp2;go_ret;exact⟨by rw[HN.out.1,HR.out];rfl,by rw[HN.out.2,HR.out];exact HF.out.1,ay (aB _ HB.out) (ay G3.out HF.out.2)⟩
theorem IM (n:Nat) : -1≤sgI n∧sgI n≤1:=by
 unfold sgI
 split <;> omega
theorem Ad (n:Nat) (w:World) (hn:n≤1000000):
  Calls prog 293 #[.int .i64 n] w fun e w'=>e=.returned (.int .i64 (sgI n))∧w=w':=by
 have ht:(n:Int).tmod 2=((n % 2:Nat):Int):=by rw[Int.tmod_eq_emod_of_nonneg (by omega)];omega
 by_cases h:n % 2=0
 ·have HE:=Jj (show sgI n=1 by unfold sgI;rw[if_pos h]);rw[h] at ht;clear h
  go_enter func293,ntmps293
  go_wp2;go_ret;exact⟨by rw[HE.out];rfl,rfl⟩
 ·have HE:=Jj (show sgI n = -1 by unfold sgI;rw[if_neg h]);rw[show n % 2=1 by omega] at ht;clear h
  go_enter func293,ntmps293
  go_wp2;go_ret;exact⟨by rw[HE.out];rfl,rfl⟩
theorem vV (o p j:Nat) (w:World) (ho:o≤7) (hp:p≤1000) (hj:j≤1000):
  Calls prog 274 #[.int .i64 o,.int .i64 p,.int .i64 j] w fun e w'=>e=.returned (.int .i64 (coI o p j))∧Below w.heap.size w w':=by
 by_cases h1:p<j
 ·have HE:=Jj (show coI o p j=0 by unfold coI;rw[if_pos (.inl h1)]);have hi:(p:Int)<(j:Int):=by omega
  go_enter func274,ntmps274
  go_wp2;go_ret;exact⟨by rw[HE.out];rfl,Below.refl _ _⟩
 ·have hi:¬(p:Int)<(j:Int):=by omega
  by_cases h2:j+o<p
  ·have HE:=Jj (show coI o p j=0 by unfold coI;rw[if_pos (.inr h2)]);have hi2:(j:Int)+(o:Int)<(p:Int):=by omega
   go_enter func274,ntmps274
   go_wp2;go_ret;exact⟨by rw[HE.out];rfl,Below.refl _ _⟩
  ·have hi2:¬(j:Int)+(o:Int)<(p:Int):=by omega
   obtain⟨a,ha⟩:∃a,j+o-p=a:=⟨_,rfl⟩;obtain⟨k,hk⟩:∃k,p-j=k:=⟨_,rfl⟩;have HE:=Jj (show coI o p j=sgI a*aU (o:Int) k by unfold coI;rw[if_neg (by omega),ha,hk]);have e1:(j:Int)+(o:Int)-(p:Int)=(a:Int):=by omega
   have e2:(p:Int)-(j:Int)=(k:Int):=by omega
   have hs:=IM a;have hc : -35≤sgI a*aU (o:Int) k∧sgI a*aU (o:Int) k≤35:=by
    have:=zD (o:=o) (p:=p) (j:=j) ho;rwa[HE.out] at this
   have wz:IntKind.i64.wrap (sgI a*aU (o:Int) k)=sgI a*aU (o:Int) k:=(IntWalk.i64_left _).trans (IntWalk.wrap64_in _ (by omega));have ha2:a≤1000000:=by omega
   have hk2:k≤1000000000:=by omega
   have HS:=Jj (fun w=>Ad a w ha2);have HC:=Jj (fun w=>lW (o:Int) k w (by omega) hk2);clear ha hk
   go_enter func274,ntmps274
   go_wp2_with fail
   refine(HS.out _).mono ?_;rintro e w2 ⟨rfl,rfl⟩
   go_wp2_with fail
   refine(HC.out _).mono ?_;rintro e w2 ⟨rfl,rfl⟩;go_wp2;go_ret;exact⟨by rw[HE.out];rfl,Below.refl _ _⟩
theorem Er {D:List Int} {l o p j:Nat} (ho:o≤7) (hD:D.length=l-o) (hp:p<l) (hj:j<D.length) (hb:∀i,i<j→coI o p i=0) (h:coI o p j≠0):j=p-o:=by
 have h1:p≤j+o∧j≤p:=by
  by_cases hc:p≤j+o∧j≤p
  ·exact hc
  ·exact absurd (rk hc) h
 rcases Nat.lt_or_ge (p-o) j with h2|h2
 ·have:=hb (p-o) h2;rw[yR ho] at this;omega
 ·omega
theorem Es {D:List Int} {l o p:Nat} (ho:o≤7) (hD:D.length=l-o) (hol:o<l) (hp:p<l) (hb:∀i,i<D.length→coI o p i=0):False:=by
 have:=hb (p-o) (by omega);rw[yR ho] at this;omega
theorem Bq {o p:Nat} (ho:o≤7):coI o p (p-o)=cF o (o-p):=by
 rw[rj ho (by omega),show p-o+o-p=o-p by omega]
theorem xZ (v:Value) (D:List Int) (l o p:Nat) (w:World) (hv:ai w v D) (hB:BdD D) (ho:o≤7) (hD:D.length=l-o) (hol:o<l) (hp:p<l) (hl:l≤60):
  Calls prog 235 #[v,.int .i64 o,.int .i64 p] w fun e w'=>e=.returned (.int .i64 (gsI D o p))∧Below w.heap.size w w':=by
 obtain⟨A,c,rfl,hlc,hc,hrd⟩:=hv.open_;have HR:=Jj hrd;have HB:=Jj hB;clear hrd hv hB
 go_enter func235,ntmps235
 go_wp2
 go_loopw [7] (fun i wr=>∃k:Nat,k≤D.length∧i=.int .i64 k∧(∀q,q<k→coI o p q=0)∧Below w.heap.size w wr) (fun i _=>D.length-(intOf i).toNat)
 case atStart=>exact⟨0,Jy _,rfl,fun q hq=>absurd hq (by omega),Below.refl _ _⟩
 case round=>
  obtain⟨k,hk,rfl,hall,hbel⟩:=hrel;have H:=Jj (Jq hall hbel);by_cases hlt:k<D.length
  ·obtain⟨b,f,rfl,hbb,hcell⟩:=HR.out.ints (by omega);have HC:=Jj (Jq hbb (hcell k hlt));have hbd:=HB.out k hlt;have hcb:=zD (o:=o) (p:=p) (j:=k) ho;have HD:=Jj hD;clear hall hbel hcell hbb hD
   go_wp2_with fail
   refine(vV o p k _ ho (by omega) (by have:=HD.out;omega)).mono ?_;rintro e w2 ⟨rfl,b2⟩;have H2:=Jj (aa H.out.2 b2);clear b2;by_cases h0:coI o p k=0
   ·have HA:=Jj (cS (q:=fun q=>coI o p q=0) H.out.1 h0);rw[h0];clear h0 hcb;go_wp2;go_roundw
    case rel=>exact⟨k+1,hlt,by go_num,HA.out,H2.out⟩
    case measure=>simp[intOf];omega
   ·have hkp:=Er ho HD.out hp hlt H.out.1 h0;have hcu:coI o p k=cF o (o-p):=by rw[hkp];exact Bq ho
    have hck:=(H2.out.cell (by exact HC.out.1)).trans HC.out.2;obtain⟨x,hx⟩:∃x,at_ D k=x:=⟨_,rfl⟩;obtain⟨u,hu⟩:∃u,coI o p k=u:=⟨_,rfl⟩;rw[hx] at hck hbd;rw[hu] at hcb h0 ⊢;have hbf:(u==0)=false:=by rw[beq_eq_false_iff_ne];exact h0
    have hu1:cF o (o-p)=u:=by rw[←hcu,hu]
    have hx1:at_ D (p-o)=x:=by rw[←hkp,hx]
    have htd:=zt (a:=x) (b:=u) (B:=128000000000) hbd;have hbt:(u==0)=false:=hbf;have hu0:¬u=0:=h0;by_cases hm:x.tmod u=0
    ·have HE:=Jj (show gsI D o p=x.tdiv u by unfold gsI gR;rw[hx1,hu1,if_neg (by simpa using hm)]);have wz:IntKind.i64.wrap (x.tdiv u)=x.tdiv u:=(IntWalk.i64_left _).trans (IntWalk.wrap64_in _ (by omega));have wm:IntKind.i64.wrap (x.tmod u)=0:=by rw[hm];rfl
     clear hu1 hx1 hx hu hcu hkp htd;go_wp2;go_ret;exact⟨by rw[HE.out];rfl,by first|exact H2.out|exact aV H2.out _⟩
    ·have HE:=Jj (show gsI D o p=0 by unfold gsI;rw[hx1,hu1,if_pos hm]);have hmb:(x.tmod u).natAbs≤x.natAbs:=by rw[Int.natAbs_tmod];exact Nat.mod_le _ _
     have wm:IntKind.i64.wrap (x.tmod u)=x.tmod u:=(IntWalk.i64_left _).trans (IntWalk.wrap64_in _ (by omega));have hmn:(x.tmod u != 0)=true:=by rw[bne_iff_ne];exact hm
     clear hu1 hx1 hx hu hcu hkp htd;go_wp2;go_ret;exact⟨by rw[HE.out];rfl,by first|exact H2.out|exact aV H2.out _⟩
  ·exact(Es ho hD hol hp (fun i hi=>hall i (by omega))).elim
theorem Jc {D:List Int} {o p:Nat} {a:Int} {k:Nat} (hk:k<D.length) (h:at_ D k≠a*coI o p k):na D o p a=false:=by
 rw[Bool.eq_false_iff];exact fun e=>h (oG.1 e k hk)
theorem CO (v:Value) (D:List Int) (o p:Nat) (a:Int) (w:World) (hv:ai w v D) (hB:BdD D) (ho:o≤7) (hl:D.length≤60) (hp:p≤60) (ha : -128000000000≤a∧a≤128000000000):
  Calls prog 236 #[v,.int .i64 o,.int .i64 p,.int .i64 a] w fun e w'=>e=.returned (.bool (na D o p a))∧Below w.heap.size w w':=by
 obtain⟨A,c,rfl,hlc,hc,hrd⟩:=hv.open_;have HR:=Jj hrd;have HB:=Jj hB;clear hrd hv hB
 go_enter func236,ntmps236
 go_wp2
 go_loopw [9] (fun i wr=>∃k:Nat,k≤D.length∧i=.int .i64 k∧(∀q,q<k→at_ D q=a*coI o p q)∧Below w.heap.size w wr) (fun i _=>D.length-(intOf i).toNat)
 case atStart=>exact⟨0,Jy _,rfl,fun q hq=>absurd hq (by omega),Below.refl _ _⟩
 case round=>
  obtain⟨k,hk,rfl,hall,hbel⟩:=hrel;have H:=Jj (Jq hall hbel);by_cases hlt:k<D.length
  ·obtain⟨b,f,rfl,hbb,hcell⟩:=HR.out.ints (by omega);have hck:=(hbel.cell (by exact hbb)).trans (hcell k hlt);have hbw:b<wr.heap.size:=Jw hbb hbel.size;have hcb:=zD (o:=o) (p:=p) (j:=k) ho;have hmul:=rK (A:=128000000000) (B:=35) ha.1 ha.2 hcb.1 hcb.2;have HCO:=Jj (fun w=>vV o p k w ho (by omega) (by omega));have HNO:=Jj (fun h=>Jc (o:=o) (p:=p) (a:=a) hlt h);have HYES:=Jj (fun h=>cS (q:=fun q=>at_ D q=a*coI o p q) H.out.1 h);obtain⟨x,hx⟩:∃x,at_ D k=x:=⟨_,rfl⟩;obtain⟨u,hu⟩:∃u,coI o p k=u:=⟨_,rfl⟩;rw[hu] at hmul HCO;have wz:IntKind.i64.wrap (a*u)=a*u:=(IntWalk.i64_left _).trans (IntWalk.wrap64_in _ (by omega));have HXU:=Jj (Jq hx hu);rw[hx] at hck;clear hall hbel hcell hx hu;have tok1:True:=trivial;by_cases he:x=a*u
   ·have hne:(x != a*u)=false:=by simp[he]
    have HA:=Jj (HYES.out (by show at_ D k=a*coI o p k;rw[HXU.out.1,HXU.out.2];exact he));clear he
    go_wp2_with fail
    go_region_law (first
     |((try go_simp);go_at_call 274;have _t:=tok1;go_loud (refine(HCO.out _).mono ?_;rintro e w2 ⟨rfl,b2⟩;replace b2:Below wr.heap.size wr w2:=(by first|exact b2|exact aa (ah _) b2);have hck2:=(b2.cell (by exact hbw)).trans hck;have HB2:=Jj (aa H.out.2 b2);clear tok1 b2;(try dsimp only)))
     |fail)
    all_goals
     go_wp2;go_roundw
     case rel=>exact⟨k+1,hlt,by go_num,HA.out,by first|exact HB2.out|exact HB2.out.drew⟩
     case measure=>simp[intOf];omega
   ·have hne:(x != a*u)=true:=by simp[he]
    have HZ:=Jj (HNO.out (by rw[HXU.out.1,HXU.out.2];exact he));clear he
    go_wp2_with fail
    go_region_law (first
     |((try go_simp);go_at_call 274;have _t:=tok1;go_loud (refine(HCO.out _).mono ?_;rintro e w2 ⟨rfl,b2⟩;replace b2:Below wr.heap.size wr w2:=(by first|exact b2|exact aa (ah _) b2);have hck2:=(b2.cell (by exact hbw)).trans hck;have HB2:=Jj (aa H.out.2 b2);clear tok1 b2;(try dsimp only)))
     |fail)
    all_goals
     go_wp2;go_ret;exact⟨by rw[HZ.out];rfl,by first|exact HB2.out|exact HB2.out.drew⟩
  ·obtain rfl:k=D.length:=by omega
   have HZ:=Jj (show na D o p a=true from oG.2 hall);go_wp2;go_ret;exact⟨by rw[HZ.out];rfl,H.out.2⟩
theorem pI (v:Value) (l:List Int) (d:Int) (w:World) (hv:ai w v l):
  Calls prog 166 #[v,.int .i64 d] w fun e w'=>FdE l d e∧Below w.heap.size w w':=by
 have HV:=Jj hv;obtain⟨A,c,rfl,hlc,hc,-⟩:=hv.open_;clear hv
 go_enter func166,ntmps166
 cases ht:ag l
 ·have HN:=Jj (FdE.of (kt (l:=l) (d:=d) (by unfold fdV;rw[ht];rfl)))
  go_wp2_with fail
  refine(az _ l _ HV.out).mono ?_;rw[ht];rintro e w1 ⟨rfl,rfl⟩;go_wp2;refine bodyPost_ret (v:=.tuple #[.int .i64 0,.int .i64 0,.int .i64 3]) (by simp[results,results166,go_sem]) rfl ⟨HN.out,Below.refl _ _⟩
 ·cases hdg:inB d 0 6
  ·have HN:=Jj (FdE.of (kt (l:=l) (d:=d) (by unfold fdV;rw[ht,hdg];rfl)))
   go_wp2_with fail
   refine(az _ l _ HV.out).mono ?_;rw[ht];rintro e w1 ⟨rfl,rfl⟩
   go_wp2_with fail
   refine(lX _ _).mono ?_;rw[hdg];rintro e w1 ⟨rfl,rfl⟩;go_wp2;refine bodyPost_ret (v:=.tuple #[.int .i64 0,.int .i64 0,.int .i64 3]) (by simp[results,results166,go_sem]) rfl ⟨HN.out,Below.refl _ _⟩
  ·have hd':=am.1 hdg;by_cases h3:(l.length:Int)<d+3
   ·have HN:=Jj (FdE.of (kt (l:=l) (d:=d) (by
     unfold fdV;rw[ht,hdg,decide_eq_false (by omega)]
     rfl)))
    go_wp2_with fail
    refine(az _ l _ HV.out).mono ?_;rw[ht];rintro e w1 ⟨rfl,rfl⟩
    go_wp2_with fail
    refine(lX _ _).mono ?_;rw[hdg];rintro e w1 ⟨rfl,rfl⟩;go_wp2;refine bodyPost_ret (v:=.tuple #[.int .i64 0,.int .i64 0,.int .i64 3]) (by simp[results,results166,go_sem]) rfl ⟨HN.out,Below.refl _ _⟩
   ·have HVV:=Jj (show fdV l d=true by unfold fdV;rw[ht,hdg,decide_eq_true (by omega)];rfl);obtain⟨t1,t60,-⟩:=aA ht;obtain⟨o,rfl⟩:∃o:Nat,d=o:=⟨d.toNat,by omega⟩;have HDD:=Jj (show fdD l (o:Int)=bc l (o+1) from rfl);have HOO:=Jj (show((o:Int)+1).toNat=o+1 by omega);have hrl:=bj l (o+1);have HLB:=Jj (sJ (l:=l) ht (o:=o+1) (by omega));have HDF:=Jj (show ∀w v,ai w v l→Calls prog 234 #[v,.int .i64 ((o:Int)+1)] w (FT w (bc l (o+1))) from fun w v h=>by
     have:=CQ v l (o+1) w h (by omega) (by omega);rwa[show((o+1:Nat):Int)=(o:Int)+1 by omega] at this)
    obtain⟨D,hD⟩:∃D,bc l (o+1)=D:=⟨_,rfl⟩;rw[hD] at hrl HLB HDF HDD;have HGS:=Jj (show ∀w v (p:Nat),ai w v D→p<l.length→Calls prog 235 #[v,.int .i64 ((o:Int)+1),.int .i64 p] w fun e w'=>e=.returned (.int .i64 (gsI D (o+1) p))∧Below w.heap.size w w' from fun w v p h hp=>by
     have:=xZ v D l.length (o+1) p w h HLB.out (by omega) hrl (by omega) hp t60;rwa[show((o+1:Nat):Int)=(o:Int)+1 by omega] at this)
    have HEX:=Jj (show ∀w v (p:Nat) (a:Int),ai w v D→p<l.length→(-128000000000≤a∧a≤128000000000)→Calls prog 236 #[v,.int .i64 ((o:Int)+1),.int .i64 p,.int .i64 a] w fun e w'=>e=.returned (.bool (na D (o+1) p a))∧Below w.heap.size w w' from fun w v p a h hp ha=>by
     have:=CO v D (o+1) p a w h HLB.out (by omega) (by omega) (by omega) ha;rwa[show((o+1:Nat):Int)=(o:Int)+1 by omega] at this)
    have HRL:=Jj hrl;have HT:=Jj ht;clear hD hrl
    go_wp2_with fail
    refine(az _ l _ HV.out).mono ?_;rw[ht];rintro e w1 ⟨rfl,rfl⟩
    go_wp2_with fail
    refine(lX _ _).mono ?_;rw[hdg];rintro e w1 ⟨rfl,rfl⟩;clear ht hdg
    go_wp2_with fail
    refine(HDF.out _ _ HV.out).mono ?_;rintro e w2 ⟨r,rfl,o2,b2⟩;have HO:=Jj o2;have HB:=Jj b2;obtain⟨A2,c2,rfl,-,-,-⟩:=o2.open_;clear o2 b2
    go_wp2_with fail
    refine(iu _ _ _ HO.out).mono ?_;rintro e w3 ⟨rfl,rfl⟩;cases hz:ci D
    ·have HZ:=Jj hz;clear hz
     go_wp2_with fail
     go_loopw [8] (fun i wr=>∃k:Nat,k≤l.length∧i=.int .i64 k∧(∀q,q<k→d9 D (o+1) q=false)∧Below w2.heap.size w2 wr) (fun i _=>l.length-(intOf i).toNat)
     case atStart=>exact⟨0,Jy _,rfl,fun q hq=>absurd hq (by omega),Below.refl _ _⟩
     case round=>
      obtain⟨k,hk,rfl,hall,hbl⟩:=hrel;have H:=Jj (Jq hall hbl);clear hall hbl;by_cases hlt:k<l.length
      ·have hkD:k-(o+1)<D.length:=by have:=HRL.out;omega
       go_wp2_with fail
       refine(HGS.out _ _ k (HO.out.bel H.out.2) hlt).mono ?_;rintro e w4 ⟨rfl,b4⟩;have HB4:=Jj (aa H.out.2 b4);have hgb:=I1 HLB.out (o+1) k;have HGN:=Jj (fun h=>GJ (D:=D) (o:=o+1) (p:=k) (by omega) HZ.out hkD h);have HGF:=Jj (fun h0 h=>EW (D:=D) (o:=o+1) (p:=k) (by omega) h0 h);obtain⟨G,hG⟩:∃G,gsI D (o+1) k=G:=⟨_,rfl⟩;rw[hG] at hgb HGN HGF ⊢;clear b4 hG;by_cases hg0:G=0
       ·have HALL:=Jj (cS (q:=fun q=>d9 D (o+1) q=false) H.out.1 (HGN.out (.inl hg0)));subst hg0;go_wp2;go_roundw
        case rel=>exact⟨k+1,hlt,by go_num,HALL.out,HB4.out⟩
        case measure=>simp[intOf];omega
       ·have hgn:(G != 0)=true:=by rw[bne_iff_ne];exact hg0
        go_wp2_with fail
        refine(HEX.out _ _ k G (HO.out.bel HB4.out) hlt hgb).mono ?_;rintro e w5 ⟨rfl,b5⟩;have HB5:=Jj (aa HB4.out b5);clear b5;cases hx:na D (o+1) k G
        ·have HALL:=Jj (cS (q:=fun q=>d9 D (o+1) q=false) H.out.1 (HGN.out (.inr hx)));clear hx;go_wp2;go_roundw
         case rel=>exact⟨k+1,hlt,by go_num,HALL.out,HB5.out⟩
         case measure=>simp[intOf];omega
        ·obtain⟨q1,q2⟩:=HGF.out hg0 hx;have HN:=Jj (FdE.of (CC (l:=l) (d:=(o:Int)) (p:=k) HVV.out (by rw[HDD.out];exact HZ.out) hlt (by rw[HDD.out,HOO.out];exact H.out.1) (by rw[HDD.out,HOO.out];exact q1)));have HG2:=Jj (show gR (fdD l (o:Int)) ((o:Int)+1).toNat k=G by rw[HDD.out,HOO.out];exact q2.symm);clear hx q1 q2;go_wp2;refine bodyPost_ret (v:=.tuple #[.int .i64 k,.int .i64 G,.int .i64 1]) (by simp[results,results166,go_sem]) rfl ⟨by have:=HN.out;rw[HG2.out] at this;exact this,aa HB.out HB5.out⟩
      ·obtain rfl:k=l.length:=by omega
       have HN:=Jj (FdE.of (za (l:=l) (d:=(o:Int)) HVV.out (by rw[HDD.out];exact HZ.out) (by rw[HDD.out,HOO.out];exact H.out.1)));go_wp2;refine bodyPost_ret (v:=.tuple #[.int .i64 0,.int .i64 0,.int .i64 2]) (by simp[results,results166,go_sem]) rfl ⟨HN.out,aa HB.out H.out.2⟩
    ·have HN:=Jj (FdE.of (vH (l:=l) (d:=(o:Int)) HVV.out (by rw[HDD.out];exact hz)));clear hz;go_wp2;refine bodyPost_ret (v:=.tuple #[.int .i64 0,.int .i64 0,.int .i64 0]) (by simp[results,results166,go_sem]) rfl ⟨HN.out,HB.out⟩
def iQ (r a i:Int) (l:List Int):Bool:=dE r a i&&ag l&&mS i.toNat l r.toNat a.toNat
def ptS (r a i:Int) (l:List Int):ByteArray:=shS i.toNat l r.toNat a.toNat
theorem IV (r a i:Int) (v:Value) (l:List Int) (w:World) (hv:ai w v l) (hT:Tab w):
  Calls prog 194 #[.agg #[.int .i64 r,.int .i64 a,.int .i64 i],v] w fun e w'=>uV (ptS r a i l) (iQ r a i l=true) e∧Below w.heap.size w w':=by
 cases hq:dE r a i
 ·have HN:=Jj (show ¬iQ r a i l=true by unfold iQ;rw[hq];simp);obtain⟨B,cp,rfl,-,-,-⟩:=hv.open_;have K1:=Blk.new w 29 [.int .i64 r,.int .i64 a,.int .i64 i];have B1:=ab w (.cells #[.int .i64 r,.int .i64 a,.int .i64 i] 29);obtain⟨a0,a1,a2⟩:=K1.lay;clear hv
  go_enter func194,ntmps194
  go_wp2_with fail
  refine(eI r a i _).mono ?_;rintro e w2 ⟨rfl,b2⟩;have HB:=Jj (aa B1 b2);rw[hq];clear hq a0 a1 a2 b2 B1 K1;go_wp2;go_ret2;exact⟨.inr ⟨HN.out,rfl⟩,HB.out⟩
 ·obtain⟨R,A,W,rfl,rfl,rfl,h1,h2,h3⟩:=nn hq;cases ht:ag l
  ·have HN:=Jj (show ¬iQ R A W l=true by unfold iQ;rw[ht];simp);have HV:=Jj hv;obtain⟨B,cp,rfl,-,-,-⟩:=hv.open_;have K1:=Blk.new w 29 [.int .i64 R,.int .i64 A,.int .i64 W];have B1:=ab w (.cells #[.int .i64 R,.int .i64 A,.int .i64 W] 29);obtain⟨a0,a1,a2⟩:=K1.lay;clear hv
   go_enter func194,ntmps194
   go_wp2_with fail
   refine(eI R A W _).mono ?_;rintro e w2 ⟨rfl,b2⟩;have HB:=Jj (aa B1 b2);rw[hq];clear hq a0 a1 a2 b2 B1 K1
   go_wp2_with fail
   refine(aF _ l _ (HV.out.bel HB.out)).mono ?_;rw[ht];rintro e w3 ⟨rfl,rfl⟩;go_wp2;go_ret2;exact⟨.inr ⟨HN.out,rfl⟩,HB.out⟩
  ·refine(rA R A W (R*A) v l w hv h1 h2 h3 (aA ht).2.1 rfl hT).mono fun e w' ⟨T,b⟩=>⟨?_,b⟩;have hS:ptS R A W l=shS W l R A:=rfl;have hO:iQ R A W l=true↔ag l=true∧mS W l R A=true:=by
    unfold iQ;rw[hq];simp
   rcases T with ⟨hP,rfl⟩|⟨hP,rfl⟩
   ·exact .inl ⟨hO.2 hP,by rw[hS]⟩
   ·exact .inr ⟨fun h=>hP (hO.1 h),rfl⟩
theorem yA (r a i:Int) (v:Value) (l:List Int) (w:World) (hv:ai w v l):
  Calls prog 77 #[.agg #[.int .i64 r,.int .i64 a,.int .i64 i],v] w fun e w'=>uV (ptS r a i l) (iQ r a i l=true) e∧Below w.heap.size w w':=by
 cases hq:dE r a i
 ·have HN:=Jj (show ¬iQ r a i l=true by unfold iQ;rw[hq];simp);obtain⟨B,cp,rfl,-,-,-⟩:=hv.open_;have K1:=Blk.new w 29 [.int .i64 r,.int .i64 a,.int .i64 i];have B1:=ab w (.cells #[.int .i64 r,.int .i64 a,.int .i64 i] 29);obtain⟨a0,a1,a2⟩:=K1.lay;clear hv
  go_enter func77,ntmps77
  go_wp2_with fail
  refine(eJ r a i _).mono ?_;rintro e w2 ⟨rfl,b2⟩;have HB:=Jj (aa B1 b2);rw[hq];clear hq a0 a1 a2 b2 B1 K1;go_wp2;go_ret2;exact⟨.inr ⟨HN.out,rfl⟩,HB.out⟩
 ·obtain⟨R,A,W,rfl,rfl,rfl,h1,h2,h3⟩:=nn hq;cases ht:ag l
  ·have HN:=Jj (show ¬iQ R A W l=true by unfold iQ;rw[ht];simp);have HV:=Jj hv;obtain⟨B,cp,rfl,-,-,-⟩:=hv.open_;have K1:=Blk.new w 29 [.int .i64 R,.int .i64 A,.int .i64 W];have B1:=ab w (.cells #[.int .i64 R,.int .i64 A,.int .i64 W] 29);obtain⟨a0,a1,a2⟩:=K1.lay;clear hv
   go_enter func77,ntmps77
   go_wp2_with fail
   refine(eJ R A W _).mono ?_;rintro e w2 ⟨rfl,b2⟩;have HB:=Jj (aa B1 b2);rw[hq];clear hq a0 a1 a2 b2 B1 K1
   go_wp2_with fail
   refine(az _ l _ (HV.out.bel HB.out)).mono ?_;rw[ht];rintro e w3 ⟨rfl,rfl⟩;go_wp2;go_ret2;exact⟨.inr ⟨HN.out,rfl⟩,HB.out⟩
  ·refine(A9 R A W (R*A) v l w hv h1 h2 h3 (aA ht).2.1 rfl).mono fun e w' ⟨T,b⟩=>⟨?_,b⟩;have hS:ptS R A W l=shS W l R A:=rfl;have hO:iQ R A W l=true↔ag l=true∧mS W l R A=true:=by
    unfold iQ;rw[hq];simp
   rcases T with ⟨hP,rfl⟩|⟨hP,rfl⟩
   ·exact .inl ⟨hO.2 hP,by rw[hS]⟩
   ·exact .inr ⟨fun h=>hP (hO.1 h),rfl⟩
theorem G9 {a:ByteArray} {ls:List ByteArray} (h:ls≠[]):∃U,cB a ls=U++⟨#[10]⟩:=by
 obtain⟨s,x,rfl⟩:∃s x,ls=s++[x]:=⟨ls.dropLast,ls.getLast h,(List.dropLast_concat_getLast h).symm⟩;rw[ug,←ByteArray.append_assoc];exact⟨_,rfl⟩
theorem Fv {l:List Int} {R M p:Nat} (hR:1≤R) (hM:1≤M) (hp:p<pgN l M):0<eP l R M p:=by
 have h1:p*M<l.length:=by
  unfold pgN at hp;have h2:=(Nat.le_div_iff_mul_le (show 0<M by omega)).1 (show p+1≤(l.length+M-1) / M by omega);rw[Nat.succ_mul] at h2;omega
 unfold eP;have h3:=dH l M p;omega
theorem IN {W:Nat} {l:List Int} {R A:Nat} (ht:ag l=true) (hR:1≤R) (hA:1≤A):∃U,shS W l R A=U++⟨#[10]⟩:=by
 have hM:1≤R*A:=Nat.mul_pos hR hA;have t1:=(aA ht).1;have hn:1≤pgN l (R*A):=by
  unfold pgN;rw[Nat.le_div_iff_mul_le (by omega)];omega
 unfold shS;obtain⟨n,hn2⟩:∃n,pgN l (R*A)=n+1:=⟨pgN l (R*A)-1,by omega⟩;rw[hn2]
 show ∃U,cB _ (pgL W l R (R*A) n)=U++⟨#[10]⟩
 refine G9 fun e=>?_;have h1:=sS W l R (R*A) n;rw[e] at h1;have h2:=Fv (l:=l) (R:=R) (M:=R*A) (p:=n) hR hM (by omega);simp at h1;omega
def kD (d:ae):ByteArray:=if dQ d=true then(dh d).extract 0 ((dh d).size-1) else⟨#[110,111]⟩
theorem Ie (U:ByteArray):(U++⟨#[10]⟩).extract 0 ((U++⟨#[10]⟩).size-1)=U:=by
 have e:(U++(⟨#[10]⟩:ByteArray)).size-1=U.size:=by rw[Jt];rfl
 rw[e,gH];unfold mid;have hl:(U++(⟨#[10]⟩:ByteArray)).data.toList=U.data.toList++[10]:=by simp
 have hs:U.data.toList.length=U.size:=Array.length_toList;rw[hl,List.drop_zero,Nat.sub_zero,List.take_append_of_le_length (by omega),List.take_of_length_le (by omega)];exact f9 U
theorem lc {d:ae} (ok:d.Ok):kD d++⟨#[10]⟩=dh d:=by
 unfold kD
 split
 ·rename_i h
  have h2:=h;unfold dQ at h2;rw[JB] at h2;obtain⟨U,hU⟩:=IN (W:=d.wi) (l:=d.tab) (R:=d.rw) (A:=d.ac) h2.1 ok.rw.1 ok.ac.1;have e:dh d=U++⟨#[10]⟩:=by unfold dh;rw[if_pos h];exact hU
  rw[e,Ie]
 ·rename_i h
  unfold dh;rw[if_neg h]
  rfl
theorem Fp {d:ae} (ok:d.Ok):iQ d.rw d.ac d.wi d.tab=dQ d:=by
 unfold iQ dQ;have:dE (d.rw:Int) (d.ac:Int) (d.wi:Int)=true:=fp ok.rw ok.ac ok.wi;rw[this]
 rfl
theorem qo (d:ae) (v:Value) (w:World) (hv:ai w v d.tab) (ok:d.Ok):
  Calls prog 37 #[.agg #[.int .i64 d.rw,.int .i64 d.ac,.int .i64 d.wi],v] w fun e w'=>e=.returned (.string (kD d))∧Below w.heap.size w w':=by
 have HV:=Jj hv;have OK:=Jj ok;have K1:=Blk.new w 29 [.int .i64 d.rw,.int .i64 d.ac,.int .i64 d.wi];have B1:=ab w (.cells #[.int .i64 d.rw,.int .i64 d.ac,.int .i64 d.wi] 29);obtain⟨a0,a1,a2⟩:=K1.lay;obtain⟨A,c,rfl,-,-,-⟩:=hv.open_;clear hv ok;have HB1:=Jj B1;have HP:=Jj (Fp OK.out);clear B1 K1
 go_enter func37,ntmps37
 go_wp2_with fail
 refine(yA d.rw d.ac d.wi _ d.tab _ (HV.out.bel HB1.out)).mono ?_;rintro e w2 ⟨T,b2⟩;have HB:=Jj (aa HB1.out b2);clear a0 a1 a2 b2
 rcases T with ⟨hP,rfl⟩|⟨hP,rfl⟩
 ·rw[HP.out] at hP;have HS:=Jj (show kD d=(dh d).extract 0 ((dh d).size-1) by unfold kD;rw[if_pos hP]);have e1:ptS d.rw d.ac d.wi d.tab=dh d:=by unfold dh;rw[if_pos hP];rfl
  have hz:=congrArg ByteArray.size (lc OK.out);rw[Jt] at hz;have h1:(⟨#[10]⟩:ByteArray).size=1:=rfl;have hmx:(dh d).size≤30000:=by
   have h2:=hP;unfold dQ at h2;rw[JB] at h2;have:=zn h2.2 OK.out.rw.1 OK.out.ac.1 OK.out.wi.2 OK.out.tab;unfold dh;rw[if_pos hP];omega
  obtain⟨T,hT⟩:∃T,dh d=T:=⟨_,rfl⟩;rw[e1,hT];rw[hT] at HS hz hmx;obtain⟨m,hm⟩:∃m,T.size-1=m:=⟨_,rfl⟩;rw[hm] at HS;have hmi:(T.size:Int)-1=(m:Int):=by omega
  have hm0:(m:Int)≤(T.size:Int):=by omega
  have hm1:(0:Int)≤(m:Int):=by omega
  have hm2:IntKind.i64.wrap ((T.size:Int)-1)=(m:Int):=(IntWalk.i64_left _).trans ((IntWalk.wrap64_in _ (by omega)).trans hmi);have hm3:m≤T.size:=by omega
  clear e1 hT hP hz h1 hmi hm;go_wp2;go_ret;exact⟨by rw[HS.out];rfl,HB.out⟩
 ·rw[HP.out] at hP;have HS:=Jj (show kD d=⟨#[110,111]⟩ by unfold kD;rw[if_neg hP]);clear hP;go_wp2;go_ret;exact⟨by rw[HS.out];rfl,HB.out⟩
theorem rZ (c t a:Int) (w:World):
  Calls prog 203 #[.int .i64 c,.int .i64 t,.int .i64 a] w fun e w'=>e=.returned (.bool (slN c t a))∧w'=w:=by
 cases h1:inB c 0 6
 ·have HN:=Jj (show slN c t a=false by unfold slN;rw[h1];rfl)
  go_enter func203,ntmps203
  go_wp2_with fail
  refine(dq c _).mono ?_;rw[h1];rintro e w2 ⟨rfl,rfl⟩;go_wp2;go_ret;exact⟨by rw[HN.out];rfl,rfl⟩
 ·by_cases h2:0≤t∧t<60
  ·obtain⟨h2a,h2b⟩:=h2;have HN:=Jj (show slN c t a=inB a (-100000) 100000 by unfold slN;rw[h1,am.2 (show 0≤t∧t≤59 by omega)];rfl)
   go_enter func203,ntmps203
   go_wp2_with fail
   refine(dq c _).mono ?_;rw[h1];rintro e w2 ⟨rfl,rfl⟩
   go_wp2_with fail
   refine(aX a 100000 _ (by omega) (by omega)).mono ?_;rintro e w3 ⟨rfl,rfl⟩;go_wp2;go_ret;exact⟨by rw[HN.out];rfl,rfl⟩
  ·have HN:=Jj (show slN c t a=false by unfold slN;rw[bm.2 (show ¬(0≤t∧t≤59) by omega)];simp);by_cases h2a:0≤t
   ·have h2b:¬t<60:=by omega
    go_enter func203,ntmps203
    go_wp2_with fail
    refine(dq c _).mono ?_;rw[h1];rintro e w2 ⟨rfl,rfl⟩;go_wp2;go_ret;exact⟨by rw[HN.out];rfl,rfl⟩
   ·go_enter func203,ntmps203
    go_wp2_with fail
    refine(dq c _).mono ?_;rw[h1];rintro e w2 ⟨rfl,rfl⟩;go_wp2;go_ret;exact⟨by rw[HN.out];rfl,rfl⟩
theorem zX (u:Value) (l:List ByteArray) (n t cc:Nat) (a:Int) (w:World) (hu:aG w u l) (ok:af l=true) (hn:n≤60) (ht:t<60) (hcc6:cc≤6) (hcc:cc<l.length) (ha : -100000≤a∧a≤100000):
  Calls prog 125 #[.agg #[u],.int .i64 n,.int .i64 t,.int .i64 cc,.int .i64 a] w fun e w'=>∃r,e=.returned (.tuple #[r,.bool true])∧Own w' w.heap.size r (slV l t cc a n)∧Below w.heap.size w w':=by
 have HU:=Jj hu;have OK:=Jj ok;obtain⟨l1,l7,-⟩:=ap.1 ok;obtain⟨A,c,rfl,-,-,-⟩:=hu.open_;clear hu ok;have B0:=Jj (show Below w.heap.size w (w.alloc (.cells #[.slice A l.length c] 32)) from ab w _);have K0:=Blk.new' w 32 (.slice A l.length c) w.heap.size rfl;obtain⟨c0,-⟩:=K0.one;have hn1:(0:Int)≤(n:Int):=by omega
 have hn2:(n:Int)≤60:=by omega
 have hl1:(0:Int)<(l.length:Int):=by omega
 have hl2:¬(l.length:Int)≤(cc:Int):=by omega
 have HSL:=Jj (show slN cc t a=true by unfold slN;rw[am.2 (show(0:Int)≤(cc:Int)∧(cc:Int)≤6 by omega),am.2 (show(0:Int)≤(t:Int)∧(t:Int)≤59 by omega),am.2 ha];rfl);have hci1:(0:Int)≤(cc:Int):=by omega
 have hci2:(cc:Int)<(l.length:Int):=by omega
 have hlne:¬l=[]:=by rintro rfl;simp at l1
 go_enter func125,ntmps125
 go_wp2_with fail
 clear c0;generalize hW:w.alloc (.cells #[.slice A l.length c] 32)=W at *;have hWz:W.heap.size=w.heap.size+1:=by rw[←hW];simp
 clear hW;refine(bF _ l _ (HU.out.bel B0.out)).mono ?_;rintro e w2 ⟨rfl,hb⟩;rw[OK.out];replace K0:=K0.below hb K0.lt;have HB:=Jj (aa B0.out hb);have hz2:=hb.size;clear hb;obtain⟨c0,-⟩:=K0.one
 go_wp2_with fail
 refine(show Calls prog 202 #[.int .i64 n] w2 fun e w'=>e=.returned (.bool true)∧w'=w2 by
  clear c0 K0
  go_enter func202,ntmps202
  go_wp2;go_ret;exact⟨rfl,rfl⟩).mono ?_
 rintro e w2' ⟨rfl,rfl⟩
 go_wp2_with fail
 refine(rZ cc t a _).mono ?_;rw[HSL.out];rintro e w2'' ⟨rfl,rfl⟩
 go_wp2_with fail
 refine(fj _ l _ (HU.out.bel HB.out) (by omega)).mono ?_;rintro e w3 ⟨r,rfl,ho,hb1⟩;have HB3:=Jj (aa HB.out hb1);have hmk:=fun W=>Tryz.mkInts n (by omega) W;have hz3:=hb1.size;have HO:=Jj (ho.bel (ab w3 (.cells (bz n (.int .i64 0)).toArray 3)));have HN:=Jj (show ∀q,r.ownBlock=some q→w3.heap.size≠q from fun q hq=>by have:=(ho.lt q hq).2;omega);have HB4:=Jj (aa HB3.out (ab w3 (.cells (bz n (.int .i64 0)).toArray 3)));have KR:=Blk.new w3 3 (bz n (.int .i64 0));obtain⟨A3,c3,rfl,-,-,-⟩:=ho.strs.open_;clear c0 K0 hb1 ho
 go_wp2_with fail
 generalize hW:w3.alloc (.cells (bz n (.int .i64 0)).toArray 3)=w4 at *;clear hW
 go_loopw [12,44] (fun x i wr=>∃(k:Nat) (cs:List Value),k≤n∧i=.int .i64 k∧Blk wr w3.heap.size 3 cs∧cs.length=n∧(∀j,j<k→cs[j]?=some (.int .i64 (slR l t cc a j)))∧aj wr w.heap.size x (eZ l t cc a k)∧(∀q,x.ownBlock=some q→w3.heap.size≠q)∧Below w.heap.size w wr)
  (fun _ i _=>n-(intOf i).toNat)
 case atStart=>exact⟨0,_,Jy _,rfl,KR,bi _ _,fun j hj=>absurd hj (Nat.not_lt_zero _),HO.out.lower (by omega),HN.out,HB4.out⟩
 case round=>
  obtain⟨k,cs,hk,rfl,hblk,hcl,hcs,hx,hne,hbel⟩:=hrel;have H:=Jj (Jq hcl (Jq hcs (Jq hx (Jq hne hbel))));have HBK:=Jj hblk;have hbz:=hblk.lt;have hlP:=mO l t cc a k;have OP:=Jj (nu OK.out t cc a k);clear hcl hcs hx hne hbel hblk KR;by_cases hlt:k<n
  ·obtain⟨P,hP⟩:∃P,eZ l t cc a k=P:=⟨_,rfl⟩;have HSP:=Jj (show slT (eZ l t cc a k) t cc a k=if k=t then kG (eZ l t cc a k) cc a else eZ l t cc a k from rfl);rw[hP] at hlP OP HSP;have HPQ:=Jj hP;have HX:=Jj (show aj wr w.heap.size _ P by rw[←hP];exact H.out.2.2.1);clear hP;obtain⟨g,cap,rfl,-,hgz,-,-,hcell⟩:=HX.out.openS (by omega);obtain⟨ca,fa⟩:=hcell cc (by omega);obtain⟨cb,fb⟩:=hcell 0 (by omega);have E0:=((ap.1 OP.out).2.2 cc (by omega)).1;have EB:=((ap.1 OP.out).2.2 0 (by omega)).1;have s12:=(aQ E0);have hgr:=H.out.2.2.2.1 g rfl;have hcw:wr.cell? ⟨w3.heap.size,k,none⟩=some (cs[k]'(by rw[H.out.1];exact hlt)):=by rw[HBK.out.cell];exact List.getElem?_eq_getElem _
   have hfw:=HBK.out.frozen k;rw[hlP] at HX ⊢;clear hcell;by_cases hkt:k=t
   ·subst hkt;have HS0:=Jj (show slT P k cc a k=kG P cc a by rw[HSP.out,if_pos rfl]);clear cb fb EB;obtain⟨Z,hZ⟩:∃Z,sat P cc=Z:=⟨_,rfl⟩;rw[hZ] at ca E0 s12;have HZ:=Jj hZ;have k12:=s12.2.1;have c1:=iz E0;have hT:=em k12;have hT1:=fV Z.size;have hm:md ((cv Z:Int)+a) (ten Z.size)<1000000000000:=by have:=gW ((cv Z:Int)+a) hT1;omega
    clear hZ s12
    go_wp2_with (first|(go_at_call 204;refine(iX _ _ (by assumption)).mono ?_;rintro e w' ⟨rfl,rfl⟩)|(go_at_call 207;refine(dk Z.size _ k12).mono ?_;rintro e w' ⟨rfl,rfl⟩))
    refine(dp ((cv Z:Int)+a) (ten Z.size) _ ⟨hT1,hT⟩).mono ?_;rintro e w' ⟨rfl,rfl⟩
    go_wp2_with fail
    refine(ov _ Z.size _ hm k12).mono ?_;rintro e w5 ⟨rfl,b5⟩;have hsc:col (md ((cv Z:Int)+a) (ten Z.size)) Z.size=kL Z a:=rfl;rw[hsc];obtain⟨Y,hY⟩:∃Y,kL Z a=Y:=⟨_,rfl⟩;have hYs:Y.size≤9223372036854775807:=by rw[←hY,ow];omega
    rw[hY];have HX5:=Jj (HX.out.bel b5);obtain⟨g5,cap5,e5,-,-,-,-,hcell5⟩:=HX5.out.openS (by omega);have hg5:g=g5:=by injection e5 with e5 _ _;injection e5 with e5;injection e5
    subst hg5;obtain⟨ca5,fa5⟩:=hcell5 cc (by omega);rw[HZ.out] at ca5;have HXt:=Jj (HX5.out.setJ cc Y (by omega) hYs);obtain⟨g6,cap6,e6,-,-,-,-,hcell6⟩:=HXt.out.openS (by rw[List.length_set];omega);have hg6:g=g6:=by injection e6 with e6 _ _;injection e6 with e6;injection e6
    subst hg6;obtain⟨ca6,-⟩:=hcell6 0 (by rw[List.length_set];omega);have HS:=Jj (show slT P k cc a k=P.set cc Y by rw[HS0.out,←hY,←HZ.out];rfl);have OS:=Jj (show af (P.set cc Y)=true by rw[←HS.out];exact pF OP.out k cc a k);obtain⟨S,hS⟩:∃S,P.set cc Y=S:=⟨_,rfl⟩;obtain⟨W0,hS0⟩:∃W0,sat S 0=W0:=⟨_,rfl⟩;rw[hS] at HXt HS OS;have HBKt:=Jj ((HBK.out.below b5 hbz).far (p:=⟨g,cc,none⟩) (by show w3.heap.size≠g;exact hgr) (.string Y));have HBt:=Jj ((aa H.out.2.2.2.2 b5).setCell (p:=⟨g,cc,none⟩) (by show w.heap.size≤g;have:=(HX5.out.lt g rfl).1;exact this) (.string Y));have hcw6:(w5.setCell ⟨g,cc,none⟩ (.string Y)).cell? ⟨w3.heap.size,k,none⟩=some (cs[k]'(by rw[H.out.1];exact hlt)):=by rw[HBKt.out.cell];exact List.getElem?_eq_getElem _
    have hfw6:=HBKt.out.frozen k;have ES:=(ap.1 OS.out).2.2 0 (by rw[←hS,List.length_set];omega);replace ES:=ES.1;have ca7:(w5.setCell ⟨g,cc,none⟩ (.string Y)).cell? ⟨g,0,none⟩=some (.string W0):=by rw[ca6];rw[show sat (P.set cc Y) 0=W0 by rw[hS];exact hS0]
    rw[hS0] at ES;have HS00:=Jj hS0;clear hS hS0 hcell5 hcell6 e5 e6 b5 hcw hfw ca fa ca6 hY E0
    go_wp2_with fail
    generalize hW:w5.setCell ⟨g,cc,none⟩ (.string Y)=wt at HXt HBKt HBt hcw6 hfw6 ca7 ⊢;clear hW;rw[←HS00.out] at ES ⊢;refine(lM (sat S 0) _ ES).mono ?_;rintro e wt' ⟨rfl,hwt⟩;subst hwt;obtain⟨V,hV⟩:∃V,sg (sat S 0)=V:=⟨_,rfl⟩;have hVb:=oq ES;rw[hV] at hVb ⊢;have HV2:=Jj hV;clear hV;have HX2:=Jj (HXt.out.apart (u:=.slice (some ⟨w3.heap.size,0,none⟩) n n) (jH _ w3.heap.size k (.int .i64 V)) (fun q hq e=>by have h1:g=q:=JC hq;have h2:w3.heap.size=q:=JC e;exact hgr (h2.trans h1.symm)));have KR2:=Jj (HBKt.out.set_ k (.int .i64 V));have HB2:=Jj (HBt.out.setCell (p:=⟨w3.heap.size,k,none⟩) (by show w.heap.size≤w3.heap.size;omega) (.int .i64 V));have hgr2:=KR2.out.lt
    go_wp2_with fail
    generalize hW:wt.setCell ⟨w3.heap.size,k,none⟩ (.int .i64 V)=w7 at HX2 KR2 HB2 hgr2 ⊢;clear hW;refine(iJ _ S _ HX2.out.strs OS.out).mono ?_;rintro e w8 ⟨r8,rfl,o8,b8⟩;have HO8:=Jj (o8.lower (base':=w.heap.size) (by have:=HB2.out.size;omega));have HN8:=Jj (show ∀q,r8.ownBlock=some q→w3.heap.size≠q from fun q hq e=>by have:=(o8.lt q hq).1;omega);have KR8:=Jj (KR2.out.below b8 hgr2);have HB8:=Jj (aa HB2.out b8);obtain⟨A8,c8,rfl,-,-,-⟩:=o8.strs.open_;clear o8 b8
    go_wp2_with fail
    go_roundw
    case rel=>
     refine⟨k+1,cs.set k (.int .i64 V),by omega,by go_num,KR8.out,by rw[List.length_set];exact H.out.1,fun j hj=>?_,by show aj _ _ _ (bu (slT (eZ l k cc a k) k cc a k));rw[HPQ.out,HS.out];exact HO8.out,HN8.out,HB8.out⟩;by_cases e:j=k
     ·subst e;rw[List.getElem?_set_self (by rw[H.out.1];exact hlt),show slR l j cc a j=sg (sat (slT (eZ l j cc a j) j cc a j) 0) from rfl,HPQ.out,HS.out,HV2.out]
     ·rw[List.getElem?_set_ne (by omega)];exact H.out.2.1 j (by omega)
    case measure=>simp[intOf];omega
   ·have hkti:¬(k:Int)=(t:Int):=by omega
    have hktb:((k:Int)==(t:Int))=false:=by simp[hkti]
    have HS:=Jj (show slT P t cc a k=P by rw[HSP.out,if_neg hkt]);have HXt:=HX;have HBKt:=HBK;have OS:=OP;obtain⟨S,hS⟩:∃S,P=S:=⟨_,rfl⟩;subst hS;have ES:=EB;have HBt:=Jj H.out.2.2.2.2;obtain⟨wt,hwt⟩:∃wt,wt=wr:=⟨_,rfl⟩;subst hwt;clear hkt
    go_wp2_with fail
    refine(lM (sat P 0) _ ES).mono ?_;rintro e wt' ⟨rfl,hwt⟩;subst hwt;obtain⟨V,hV⟩:∃V,sg (sat P 0)=V:=⟨_,rfl⟩;have hVb:=oq ES;rw[hV] at hVb ⊢;have HV2:=Jj hV;clear hV;have HX2:=Jj (HXt.out.apart (u:=.slice (some ⟨w3.heap.size,0,none⟩) n n) (jH _ w3.heap.size k (.int .i64 V)) (fun q hq e=>by have h1:g=q:=JC hq;have h2:w3.heap.size=q:=JC e;exact hgr (h2.trans h1.symm)));have KR2:=Jj (HBKt.out.set_ k (.int .i64 V));have HB2:=Jj (HBt.out.setCell (p:=⟨w3.heap.size,k,none⟩) (by show w.heap.size≤w3.heap.size;omega) (.int .i64 V));have hgr2:=KR2.out.lt
    go_wp2_with fail
    generalize hW:wt.setCell ⟨w3.heap.size,k,none⟩ (.int .i64 V)=w7 at HX2 KR2 HB2 hgr2 ⊢;clear hW;refine(iJ _ P _ HX2.out.strs OS.out).mono ?_;rintro e w8 ⟨r8,rfl,o8,b8⟩;have HO8:=Jj (o8.lower (base':=w.heap.size) (by have:=HB2.out.size;omega));have HN8:=Jj (show ∀q,r8.ownBlock=some q→w3.heap.size≠q from fun q hq e=>by have:=(o8.lt q hq).1;omega);have KR8:=Jj (KR2.out.below b8 hgr2);have HB8:=Jj (aa HB2.out b8);obtain⟨A8,c8,rfl,-,-,-⟩:=o8.strs.open_;clear o8 b8
    go_wp2_with fail
    go_roundw
    case rel=>
     refine⟨k+1,cs.set k (.int .i64 V),by omega,by go_num,KR8.out,by rw[List.length_set];exact H.out.1,fun j hj=>?_,by show aj _ _ _ (bu (slT (eZ l t cc a k) t cc a k));rw[HPQ.out,HS.out];exact HO8.out,HN8.out,HB8.out⟩;by_cases e:j=k
     ·subst e;rw[List.getElem?_set_self (by rw[H.out.1];exact hlt),show slR l t cc a j=sg (sat (slT (eZ l t cc a j) t cc a j) 0) from rfl,HPQ.out,HS.out,HV2.out]
     ·rw[List.getElem?_set_ne (by omega)];exact H.out.2.1 j (by omega)
    case measure=>simp[intOf];omega
  ·have hke:k=n:=by omega
   subst hke
   go_wp2_with fail
   go_ret2;refine⟨_,rfl,?_,H.out.2.2.2.2⟩;exact jt (f:=fun j=>slR l t cc a j) (by omega) HBK.out H.out.1 (by omega) H.out.2.1 (fun j hj=>by
    have hc2:=DK OK.out t cc a j;omega)
theorem zF (n:Int) (w:World):Calls prog 202 #[.int .i64 n] w fun e w'=>e=.returned (.bool (inB n 0 60))∧w'=w:=by
 by_cases h1:0≤n
 ·by_cases h2:n≤60
  ·have HN:=Jj (show inB n 0 60=true from am.2 ⟨h1,h2⟩)
   go_enter func202,ntmps202
   go_wp2;go_ret;exact⟨by rw[HN.out];rfl,rfl⟩
  ·have HN:=Jj (show inB n 0 60=false from bm.2 (by omega))
   go_enter func202,ntmps202
   go_wp2;go_ret;exact⟨by rw[HN.out];rfl,rfl⟩
 ·have HN:=Jj (show inB n 0 60=false from bm.2 (by omega))
  go_enter func202,ntmps202
  go_wp2;go_ret;exact⟨by rw[HN.out];rfl,rfl⟩
theorem CJ (u:Value) (l:List ByteArray) (n t cc a:Int) (w:World) (hu:aG w u l) (h:dG l n t cc a=false):
  Calls prog 125 #[.agg #[u],.int .i64 n,.int .i64 t,.int .i64 cc,.int .i64 a] w (cK w [] false):=by
 have HU:=Jj hu;obtain⟨A,c,rfl,-,-,-⟩:=hu.open_;clear hu;have B0:=Jj (show Below w.heap.size w (w.alloc (.cells #[.slice A l.length c] 32)) from ab w _);have K0:=Blk.new' w 32 (.slice A l.length c) w.heap.size rfl;obtain⟨c0,-⟩:=K0.one;have HS:=Jj h;clear h
 go_enter func125,ntmps125
 go_wp2_with fail
 clear c0;generalize hW:w.alloc (.cells #[.slice A l.length c] 32)=W at *;clear hW;refine(bF _ l _ (HU.out.bel B0.out)).mono ?_;rintro e w2 ⟨rfl,hb⟩;replace K0:=K0.below hb K0.lt;have HB:=Jj (aa B0.out hb);clear hb;obtain⟨c0,-⟩:=K0.one;cases he:af l
 ·clear he;go_wp2;go_ret2;exact⟨_,rfl,Own.nil_ _ _,HB.out⟩
 ·go_wp2_with fail
  refine(zF n _).mono ?_;rintro e w3 ⟨rfl,rfl⟩;cases hn:inB n 0 60
  ·clear he hn;go_wp2;go_ret2;exact⟨_,rfl,Own.nil_ _ _,HB.out⟩
  ·go_wp2_with fail
   refine(rZ cc t a _).mono ?_;rintro e w3 ⟨rfl,rfl⟩;cases hs:slN cc t a
   ·clear he hn hs;go_wp2;go_ret2;exact⟨_,rfl,Own.nil_ _ _,HB.out⟩
   ·have hle:(l.length:Int)≤cc:=by
     have:=HS.out;unfold dG at this;rw[he,hn,hs] at this;have:=of_decide_eq_false (by simpa using this:decide (cc<(l.length:Int))=false);omega
    clear he hn hs;go_wp2;go_ret2;exact⟨_,rfl,Own.nil_ _ _,HB.out⟩
theorem qc {l:List ByteArray} {n t c a:Int} (h:dG l n t c a=true):af l=true∧(0≤n∧n≤60)∧(0≤c∧c≤6)∧(0≤t∧t≤59)∧(-100000≤a∧a≤100000)∧c<(l.length:Int):=by
 unfold dG slN at h;rw[JB,JB,JB,JB,JB] at h;obtain⟨⟨⟨h1,h2⟩,⟨h3,h4⟩,h5⟩,h6⟩:=h;exact⟨h1,am.1 h2,am.1 h3,am.1 h4,am.1 h5,of_decide_eq_true h6⟩
theorem zW (u:Value) (l:List ByteArray) (n t cc a:Int) (w:World) (hu:aG w u l):
  Calls prog 125 #[.agg #[u],.int .i64 n,.int .i64 t,.int .i64 cc,.int .i64 a] w (cK w (fU l n t cc a) (dG l n t cc a)):=by
 cases h:dG l n t cc a
 ·rw[xg h];exact CJ u l n t cc a w hu h
 ·obtain⟨h1,h2,h3,h4,h5,h6⟩:=qc h;obtain⟨n,rfl⟩:∃k:Nat,n=k:=⟨n.toNat,by omega⟩;obtain⟨t,rfl⟩:∃k:Nat,t=k:=⟨t.toNat,by omega⟩;obtain⟨cc,rfl⟩:∃k:Nat,cc=k:=⟨cc.toNat,by omega⟩;rw[zq h];exact zX u l n t cc a w hu h1 (by omega) (by omega) (by omega) (by omega) h5
def csT (l:List Int) (R A p c:Nat):Nat→Int
 |0=>0
 |k+1=>csT l R A p c k+at_ l (p*R*A+c*R+k)
theorem Cd {l:List Int} (h:ag l=true) (R A p c:Nat):∀k:Nat,-(1000000000*(k:Int))≤csT l R A p c k∧csT l R A p c k≤1000000000*(k:Int)
 |0=>by simp[csT]
 |k+1=>by
  have ih:=Cd h R A p c k;have hb : -1000000000≤at_ l (p*R*A+c*R+k)∧at_ l (p*R*A+c*R+k)≤1000000000:=by
   rcases Nat.lt_or_ge (p*R*A+c*R+k) l.length with q|q
   ·exact(aA h).2.2 _ q
   ·have:at_ l (p*R*A+c*R+k)=0:=by simp[at_,List.getD,List.getElem?_eq_none q]
    omega
  simp only[csT];omega
def fS (e:List Int) (b:Nat):Nat→Int
 |0=>0
 |m+1=>fS e b m+at_ e (b+m)
theorem Dr {e:List Int} {R c:Nat} (hR:1≤R):∀k,kz e R c k=fS e (c*R) (min (k-c*R) R)
 |0=>by simp[kz,fS]
 |k+1=>by
  rw[pz,Dr hR k];by_cases h:k / R=c
  ·have h1:=Nat.div_mul_le_self k R;have h2:=Nat.lt_div_mul_add (a:=k) (b:=R) (by omega);rw[h] at h1 h2;rw[if_pos h,show min (k-c*R) R=k-c*R by omega,show min (k+1-c*R) R=(k-c*R)+1 by omega]
   show _=fS e (c*R) (k-c*R)+at_ e (c*R+(k-c*R))
   rw[show c*R+(k-c*R)=k by omega]
  ·rw[if_neg h,Int.add_zero];by_cases h1:k<c*R
   ·rw[show min (k-c*R) R=0 by omega,show min (k+1-c*R) R=0 by omega]
   ·by_cases h2:k<c*R+R
    ·exact absurd (Nat.div_eq_of_lt_le (by omega) (by rw[Nat.succ_mul];exact h2)) h
    ·rw[show min (k-c*R) R=R by omega,show min (k+1-c*R) R=R by omega]
theorem GT {l:List Int} {M p i:Nat} (h:i<(pgE l M p).length):at_ (pgE l M p) i=at_ l (p*M+i):=by
 rw[dH] at h;unfold pgE at_;simp only[List.getD,List.getElem?_take,List.getElem?_drop];rw[if_pos (by omega)]
theorem Hy {l:List Int} {R A p c:Nat} (hc:c<A):∀m,m≤R→csT l R A p c m=fS (pgE l (R*A) p) (c*R) (min ((pgE l (R*A) p).length-c*R) m)
 |0,_=>by simp[csT,fS]
 |m+1,hm=>by
  have ih:=Hy (l:=l) (R:=R) (A:=A) (p:=p) hc m (by omega);have hcm:c*R+m<R*A:=by
   have:=Nat.mul_le_mul_right R (show c+1≤A by omega);rw[Nat.succ_mul,Nat.mul_comm A R] at this;omega
  have hel:=dH l (R*A) p
  show csT l R A p c m+at_ l (p*R*A+c*R+m)=_
  rw[ih];have ep:p*R*A=p*(R*A):=Nat.mul_assoc _ _ _;by_cases h:c*R+m<(pgE l (R*A) p).length
  ·rw[show min ((pgE l (R*A) p).length-c*R) m=m by omega,show min ((pgE l (R*A) p).length-c*R) (m+1)=m+1 by omega]
   show _=fS (pgE l (R*A) p) (c*R) m+at_ (pgE l (R*A) p) (c*R+m)
   rw[GT h,ep,Nat.add_assoc]
  ·rw[show min ((pgE l (R*A) p).length-c*R) m=(pgE l (R*A) p).length-c*R by omega,show min ((pgE l (R*A) p).length-c*R) (m+1)=(pgE l (R*A) p).length-c*R by omega];have hz:at_ l (p*R*A+c*R+m)=0:=by
    have:l.length≤p*R*A+c*R+m:=by rw[ep];omega
    simp[at_,List.getD,List.getElem?_eq_none this]
   rw[hz,Int.add_zero]
theorem G8 {l:List Int} {R A p c:Nat} (hc:c<A) (hR:1≤R):kz (pgE l (R*A) p) R c (pgE l (R*A) p).length=csT l R A p c R:=by
 rw[Dr hR,Hy hc R (Jr _)]
def cuL (l:List Int) (R A p k:Nat):List Int:=gen (fun c=>csT l R A p c R) k
theorem nI (l:List Int) (R A p k:Nat):(cuL l R A p k).length=k:=ar _ _
theorem Eu (l:List Int) (R A p k:Nat):cuL l R A p (k+1)=cuL l R A p k++[csT l R A p k R]:=fE _ _
theorem Ev {l:List Int} {R A p:Nat} (hR:1≤R):cuL l R A p A=iI R A l p:=by
 unfold iI
 apply gg
 ·rw[nI,gI]
 ·intro j hj;rw[nI] at hj;rw[rP hj,G8 hj hR];exact bP hj
theorem DM (R A W:Nat) (p:Int) (v:Value) (l:List Int) (w:World) (hv:ai w v l) (h1:1≤R∧R≤20) (h2:1≤A∧A≤6) (h3:1≤W∧W≤12) (hl:l.length≤60) (hno:¬(ag l=true∧0≤p∧p<(pgN l (R*A):Int))):
  Calls prog 95 #[.agg #[.int .i64 R,.int .i64 A,.int .i64 W],v,.int .i64 p] w fun e w'=>∃r,e=.returned r∧Own w' w.heap.size r []∧Below w.heap.size w w':=by
 have HV:=Jj hv;have HNO:=Jj hno;have hlay:=fp h1 h2 h3;have hM0:0<R*A:=Nat.mul_pos h1.1 h2.1;have hq60:pgN l (R*A)≤60:=Js (jS hM0) hl;have HPN:=Jj (fun w=>oy R A W l w h1 h2 h3 hl);obtain⟨q0,hq0⟩:∃q,pgN l (R*A)=q:=⟨_,rfl⟩;rw[hq0] at hq60 HNO HPN;clear hq0 hno;obtain⟨B,cp,rfl,hlc,hc,hrd⟩:=hv.open_;have K1:=(Blk.new w 29 [.int .i64 R,.int .i64 A,.int .i64 W]).alloc (.cells #[] 3);have B1:=(ab w (.cells #[.int .i64 R,.int .i64 A,.int .i64 W] 29)).alloc (by simp) (.cells #[] 3);have OE:=Own.empty (w.alloc (.cells #[.int .i64 R,.int .i64 A,.int .i64 W] 29)) (w.heap.size+1) (by simp);rw[show(w.alloc (.cells #[.int .i64 R,.int .i64 A,.int .i64 W] 29)).heap.size=w.heap.size+1 by simp] at OE;obtain⟨a0,a1,a2⟩:=K1.lay;clear hv hrd
 go_enter func95,ntmps95
 go_wp2_with fail
 generalize hW:(w.alloc (.cells #[.int .i64 R,.int .i64 A,.int .i64 W] 29)).alloc (.cells #[] 3)=X at *;clear hW;refine(eJ R A W _).mono ?_;rintro e w2 ⟨rfl,b2⟩;rw[hlay];replace K1:=K1.below b2 K1.lt;have HB:=Jj (aa B1 b2);have HOE:=Jj (OE.bel b2);have hz:=HB.out.size;clear a0 a1 a2 b2 B1 OE;obtain⟨a0,a1,a2⟩:=K1.lay
 go_wp2_with fail
 refine(az _ l _ (HV.out.bel HB.out)).mono ?_;rintro e w3 ⟨rfl,rfl⟩;cases ht:ag l
 ·clear ht;go_wp2;go_ret;exact⟨_,rfl,HOE.out.lower (by omega),HB.out⟩
 ·have hpn:inB p 0 ((q0:Int)-1)=false:=bm.2 (fun h=>HNO.out ⟨ht,h.1,by omega⟩);clear ht
  go_wp2_with fail
  refine(HPN.out _).mono ?_;rintro e w4 ⟨rfl,b4⟩;have HB4:=Jj (aa HB.out b4);have HO4:=Jj (HOE.out.bel b4);clear a0 a1 a2 b4
  go_wp2_with fail
  refine(aL _ _ _ _).mono ?_;rw[hpn];rintro e w5 ⟨rfl,rfl⟩;go_wp2;go_ret;exact⟨_,rfl,HO4.out.lower (by omega),HB4.out⟩
theorem AZ (R A W p:Nat) (v:Value) (l:List Int) (w:World) (hv:ai w v l) (h1:1≤R∧R≤20) (h2:1≤A∧A≤6) (h3:1≤W∧W≤12) (hl:l.length≤60) (ht:ag l=true) (hp:p<pgN l (R*A)):
  Calls prog 95 #[.agg #[.int .i64 R,.int .i64 A,.int .i64 W],v,.int .i64 p] w fun e w'=>∃r,e=.returned r∧Own w' w.heap.size r (iI R A l p)∧Below w.heap.size w w':=by
 have HV:=Jj hv;have hlay:=fp h1 h2 h3;have hM0:0<R*A:=Nat.mul_pos h1.1 h2.1;have hq60:pgN l (R*A)≤60:=Js (jS hM0) hl;have HPN:=Jj (fun w=>oy R A W l w h1 h2 h3 hl);obtain⟨q0,hq0⟩:∃q,pgN l (R*A)=q:=⟨_,rfl⟩;rw[hq0] at hq60 HPN hp;have HTO:=Jj ht;have HSM:=Jj (Ev (l:=l) (A:=A) (p:=p) h1.1);have HBD:=Jj (fun c k=>Cd ht R A p c k);clear hq0 ht;obtain⟨B,cp,rfl,hlc,hc,hrd⟩:=hv.open_;have HR:=Jj hrd;have K1:=(Blk.new w 29 [.int .i64 R,.int .i64 A,.int .i64 W]).alloc (.cells #[] 3);have B1:=(ab w (.cells #[.int .i64 R,.int .i64 A,.int .i64 W] 29)).alloc (by simp) (.cells #[] 3);have OE:=Own.empty (w.alloc (.cells #[.int .i64 R,.int .i64 A,.int .i64 W] 29)) (w.heap.size+1) (by simp);rw[show(w.alloc (.cells #[.int .i64 R,.int .i64 A,.int .i64 W] 29)).heap.size=w.heap.size+1 by simp] at OE;obtain⟨a0,a1,a2⟩:=K1.lay;have hpn:inB (p:Int) 0 ((q0:Int)-1)=true:=am.2 (by omega);clear hv hrd
 go_enter func95,ntmps95
 go_wp2_with fail
 generalize hW:(w.alloc (.cells #[.int .i64 R,.int .i64 A,.int .i64 W] 29)).alloc (.cells #[] 3)=X at *;clear hW;refine(eJ R A W _).mono ?_;rintro e w2 ⟨rfl,b2⟩;rw[hlay];replace K1:=K1.below b2 K1.lt;have HB:=Jj (aa B1 b2);have HOE:=Jj (OE.bel b2);have hz:=HB.out.size;clear a0 a1 a2 b2 B1 OE;obtain⟨a0,a1,a2⟩:=K1.lay
 go_wp2_with fail
 refine(az _ l _ (HV.out.bel HB.out)).mono ?_;rw[HTO.out];rintro e w3 ⟨rfl,rfl⟩
 go_wp2_with fail
 refine(HPN.out _).mono ?_;rintro e w4 ⟨rfl,b4⟩;have HB4:=Jj (aa HB.out b4);have HO4:=Jj (HOE.out.bel b4);have HK4:=Jj (K1.below b4 K1.lt);clear a0 a1 a2 b4 K1
 go_wp2_with fail
 refine(aL _ _ _ _).mono ?_;rw[hpn];rintro e w5 ⟨rfl,rfl⟩;clear hpn
 go_wp2_with fail
 go_loopw [7,8] (fun y i wr=>∃k:Nat,k≤A∧i=.int .i64 k∧Own wr (w.heap.size+1) y (cuL l R A p k)∧Blk wr w.heap.size 29 [.int .i64 R,.int .i64 A,.int .i64 W]∧Below w.heap.size w wr) (fun _ i _=>A-(intOf i).toNat)
 case atStart=>exact⟨0,Jy _,rfl,HO4.out,HK4.out,HB4.out⟩
 case round=>
  obtain⟨k,hk,rfl,ho,hK,hb⟩:=hrel;have H:=Jj (Jq ho (Jq hK hb));obtain⟨a0,a1,a2⟩:=hK.lay;have hkl:=hK.lt;have hlk:=nI l R A p k;by_cases hlt:k<A
  ·have HBDk:=Jj (HBD.out k);clear ho hK hb
   go_wp2_with fail
   go_loopw [9,10] (fun n i wq=>∃m:Nat,m≤R∧i=.int .i64 m∧n=.int .i64 (csT l R A p k m)∧wq=wr) (fun _ i _=>R-(intOf i).toNat)
   case atStart=>exact⟨0,Jy _,rfl,rfl,rfl⟩
   case round=>
    obtain⟨m,hm,rfl,rfl,rfl⟩:=hrel;by_cases hml:m<R
    ·obtain⟨x,hx⟩:∃x,p*R*A+k*R+m=x:=⟨_,rfl⟩;obtain⟨y1,hy1⟩:∃y,p*R=y:=⟨_,rfl⟩;obtain⟨y2,hy2⟩:∃y,y1*A=y:=⟨_,rfl⟩;obtain⟨y3,hy3⟩:∃y,k*R=y:=⟨_,rfl⟩;have b1:y1≤60*20:=by rw[←hy1];exact Nat.mul_le_mul (by omega) h1.2
     have b2:y2≤1200*6:=by rw[←hy2];exact Nat.mul_le_mul b1 h2.2
     have b3:y3≤6*20:=by rw[←hy3];exact Nat.mul_le_mul (by omega) h1.2
     have i1:IntKind.i64.wrap ((p:Int)*(R:Int))=(y1:Int):=(IntWalk.i64_left _).trans (by rw[←hy1,Int.natCast_mul];exact IntWalk.wrap64_in _ (by rw[←Int.natCast_mul,hy1];omega));have i2:IntKind.i64.wrap ((y1:Int)*(A:Int))=(y2:Int):=(IntWalk.i64_left _).trans (by rw[←hy2,Int.natCast_mul];exact IntWalk.wrap64_in _ (by rw[←Int.natCast_mul,hy2];omega));have i3:IntKind.i64.wrap ((k:Int)*(R:Int))=(y3:Int):=(IntWalk.i64_left _).trans (by rw[←hy3,Int.natCast_mul];exact IntWalk.wrap64_in _ (by rw[←Int.natCast_mul,hy3];omega));have hxy:y2+y3+m=x:=by rw[←hx,←hy2,←hy1,←hy3]
     have i4:IntKind.i64.wrap ((y2:Int)+(y3:Int))=(y2:Int)+(y3:Int):=(IntWalk.i64_left _).trans (IntWalk.wrap64_in _ (by omega));have i5:IntKind.i64.wrap ((y2:Int)+(y3:Int)+(m:Int))=(x:Int):=(IntWalk.i64_left _).trans ((IntWalk.wrap64_in _ (by omega)).trans (by omega));have i7:(y2:Int)+(y3:Int)+(m:Int)=(x:Int):=by omega
     have hbk:=HBDk.out m;have HCS:=Jj (show csT l R A p k (m+1)=csT l R A p k m+at_ l x by rw[←hx];rfl);have hxb:x≤100000:=by omega
     obtain⟨S,hS⟩:∃S,csT l R A p k m=S:=⟨_,rfl⟩;rw[hS] at hbk HCS ⊢;clear hx hy1 hy2 hy3 hxy hS;by_cases hxl:x<l.length
     ·obtain⟨b,o,rfl,hbb,hcell⟩:=HR.out.ints (by omega);have hck:=(H.out.2.2.cell (by exact hbb)).trans (hcell x hxl);have hxv:=(aA HTO.out).2.2 x hxl;have hxi:(x:Int)<(l.length:Int):=by omega
      obtain⟨V,hV⟩:∃V,at_ l x=V:=⟨_,rfl⟩;rw[hV] at hck hxv HCS;have i6:IntKind.i64.wrap (S+V)=S+V:=(IntWalk.i64_left _).trans (IntWalk.wrap64_in _ (by omega));clear hcell hV;go_wp2;go_roundw
      case rel=>exact⟨m+1,by omega,by go_num,by rw[HCS.out],by first|rfl|trivial⟩
      case measure=>simp[intOf] <;> omega
     ·have hz:at_ l x=0:=by simp[at_,List.getD,List.getElem?_eq_none (show l.length≤x by omega)]
      have HZ:=Jj hz;have hxi:¬(x:Int)<(l.length:Int):=by omega
      clear hz;go_wp2;go_roundw
      case rel=>exact⟨m+1,by omega,by go_num,by rw[HCS.out,HZ.out,Int.add_zero],by first|rfl|trivial⟩
      case measure=>simp[intOf] <;> omega
    ·obtain rfl:m=R:=by omega
     have hbk:=HBDk.out m
     go_wp2_with (at_builtin;refine du rfl (.tmp 68) (.tmp 70) (by rfl) (w.heap.size+1) u7 _ (by rfl) (by exact H.out.1.bel (ab _ _)) _ _ (csT l m A p k m) (by rfl) (by exact bh _ _ _) (by omega) (by rw[hlk];omega) (by simp;omega) ?_;intro v1 w6 ho hg hat)
     have K6:=(H.out.2.1.alloc (.cells #[.int .i64 (csT l m A p k m)] 3)).grown hg (fun e=>by have:=(H.out.1.lt _ e.symm).1;omega);have B6:=(aa H.out.2.2 (ab wr (.cells #[.int .i64 (csT l m A p k m)] 3))).trans (bQ hg (aa H.out.2.2 (ab wr (.cells #[.int .i64 (csT l m A p k m)] 3))).size (fun j hj=>by have:=(H.out.1.lt j hj).1;omega));go_roundw
     case rel=>exact⟨k+1,by omega,by go_num,by rw[Eu];exact ho,K6,B6⟩
     case measure=>simp[intOf];omega
  ·obtain rfl:k=A:=by omega
   clear ho hK hb;go_wp2;go_ret;exact⟨_,rfl,by rw[←HSM.out];exact H.out.1.lower (by omega),H.out.2.2⟩
end Go.Proofs.YtfmjklgfpiffbaaGreatDoor
