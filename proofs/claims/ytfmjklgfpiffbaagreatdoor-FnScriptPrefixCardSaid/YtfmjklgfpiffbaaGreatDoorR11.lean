/-
  Parts of the proof of one statement, merged: DrawA DrawB DrawC.
-/
import Derived.Deep.DrawnRows
import Derived.Deep.RegionLaw
import Derived.Test.YtfmjklgfpiffbaaGreatDoorR7
namespace Go.Proofs.YtfmjklgfpiffbaaGreatDoor
open Go.RowKit Go.Proofs.Tryz
set_option linter.unusedVariables false
set_option linter.unusedSimpArgs false
set_option maxRecDepth 100000
set_option maxHeartbeats 8000000
attribute [local go_sem ↓] Go.wp_at_zero Go.wp_at_succ
theorem iT {a w w':World} {g:Nat} {row:Option Nat} (h:a.grownBy w (some g)) (k:w.grownBy w' row) (hr:∀j,row=some j→j=g∨a.heap.size≤j):a.grownBy w' (some g):=
 ⟨k.os.trans h.os,k.tape.trans h.tape,k.output.trans h.output,Js h.size k.size,fun i hi hne=>(k.block i (Jw hi h.size) (fun e=>by
  rcases hr i e.symm with q|q
  ·exact hne (by rw[q])
  ·omega)).trans (h.block i hi hne)⟩
theorem CG {a w w':World} {g:Nat} {v:Value} {l:List Int} (h:a.grownBy w (some g)) (k:w.grownBy w' v.ownBlock) (ho:Own w a.heap.size v l):a.grownBy w' (some g):=
 iT h k fun j hj=>.inr (ho.lt j hj).1
structure St (w:World) (g K:Nat) (v:Value) (l:List Int) (W:World):Prop where
 own:Own W w.heap.size v l
 rdr:Rdr W g K
 gr:w.grownBy W (some g)
 lt:g<w.heap.size
theorem St.bel {w:World} {g K:Nat} {v:Value} {l:List Int} {W W':World} (h:St w g K v l W) (hb:Below W.heap.size W W'):St w g K v l W':=
 ⟨h.own.bel hb,h.rdr.bel hb,AG h.gr hb,h.lt⟩
theorem St.grown {w:World} {g K K':Nat} {v:Value} {l:List Int} {W W':World} (h:St w g K v l W) (hb:W.grownBy W' (some g)) (hr:Rdr W' g K'):St w g K' v l W':=
 ⟨h.own.far hb (fun k hk=>by injection hk with hk;have:=h.lt;omega),hr,iT h.gr hb (fun j hj=>.inl (by injection hj with hj;exact hj.symm)),h.lt⟩
theorem St.app {w:World} {g K:Nat} {v v':Value} {l l':List Int} {W W':World} (h:St w g K v l W) (ho:Own W' w.heap.size v' l') (hb:W.grownBy W' v.ownBlock):St w g K v' l' W':=
 ⟨ho,h.rdr.grown hb (fun k hk=>by
  have h1:=(h.own.lt k hk).1;have:=h.lt;omega),CG h.gr hb h.own,h.lt⟩
theorem fN {w:World} {g K:Nat} {v:Value} {l:List Int} {W:World} (n:Int) (h:St w g K v l W) (hK:K≤1000000000) (hn:1≤n∧n≤9223372036854775807):
  Calls prog 20 #[.pointer (some ⟨g,0,none⟩),.int .i64 n] W (fun e W'=>∃m:Int,e=.returned (.int .i64 m)∧0≤m∧m<n∧St w g (K+1) v l W'):=
 (l9 g K n W h.rdr hK (by omega)).mono fun e W' ⟨m,he,hm,_,hr,hg⟩=>⟨m,he,(hm hn.1).1,(hm hn.1).2,h.grown hg hr⟩
theorem GZ {a b A B:Int} (h0:0≤a) (h1:a<A) (k0:0≤b) (k1:b<B):0≤a*b∧a*b≤A*B:=
 ⟨Int.mul_nonneg h0 k0,Int.mul_le_mul (by omega) (by omega) k0 (by omega)⟩
def tr (g K':Nat) (w:World) (lo hi:Nat) (e:Ending) (w':World):Prop:=
 ∃v l,e=.returned v∧Own w' w.heap.size v l∧lo≤l.length∧l.length≤hi∧Rdr w' g K'∧w.grownBy w' (some g)
end Go.Proofs.YtfmjklgfpiffbaaGreatDoor
namespace Go.Proofs.YtfmjklgfpiffbaaGreatDoor
open Go.RowKit Go.Proofs.Tryz
set_option linter.unusedVariables false
set_option linter.unusedSimpArgs false
set_option maxRecDepth 100000
set_option maxHeartbeats 8000000
theorem IB {w:World} {g K:Nat} {v:Value} {l:List Int} {W:World} (u:Value) (m:List Int) (h:St w g K v l W) (hK:K≤1000000000) (hu:ai W u m) (hm:0<m.length) (hne:∀a n c,u=.slice (some a) n c→0<m.length→a.block≠g):
  Calls prog 18 #[.pointer (some ⟨g,0,none⟩),u] W (fun e W'=>∃x:Int,e=.returned (.int .i64 x)∧x∈m∧St w g (K+1) v l W'):=
 (ze g K u m W h.rdr hK hu hm hne).mono fun e W' ⟨x,he,hx,hr,hg⟩=>⟨x,he,hx,h.grown hg hr⟩
set_option maxRecDepth 100000 in
theorem rD (g K:Nat) (w:World) (hr:Rdr w g K) (hK:K≤100000000):
  Calls prog 58 #[.pointer (some ⟨g,0,none⟩)] w (tr g (K+20) w 1 6):=by
 have hgw:=hr.lt;have S0:=Jj (show St w g K (.slice (some ⟨w.heap.size,0,none⟩) 0 0) [] (w.alloc (.cells #[] 3)) from
  ⟨Own.empty w w.heap.size (Jr _),hr.bel (ab _ _),lI (World.grownBy.refl w _) _,hgw⟩)
 clear hr
 go_enter func58,ntmps58
 go_wp2_with fail
 refine(IB _ [10,100,1000,3] (S0.out.bel (ab _ _)) (by omega) (zc _ [10,100,1000,3] (w.heap.size+1) 0 (by simp) (by omega) (by simp) (DY (by simp))).ints (by simp) (Iw (by omega))).mono ?_;rintro e w1 ⟨sz,rfl,hsz,hs1⟩;have sb:3≤sz∧sz≤1000:=by simp at hsz;omega
 have S1:=Jj hs1;clear hsz hs1 S0
 go_wp2_with fail
 refine(fN 5 S1.out (by omega) (by omega)).mono ?_;rintro e w2 ⟨m,rfl,ma,mb,hs2⟩;obtain⟨m,rfl⟩:∃n:Nat,m=n:=⟨m.toNat,by omega⟩;have S2:=Jj hs2;clear hs2 S1
 go_wp2_with fail
 go_loopw [3,5] (fun r n wr=>∃(k K':Nat) (l:List Int),n=.int .i64 k∧k≤5∧l.length+k=m+1∧K'+2*k≤K+12∧St w g K' r l wr)
  (fun _ n _=>(intOf n).toNat)
 case atStart=>exact⟨m+1,K+2,[],by go_num,by omega,by simp,by omega,S2.out⟩
 case round=>
  obtain⟨k,K',l,rfl,hk,hlk,hK',hst⟩:=hrel;have zr:=hst.gr.size;have S3:=Jj hst;clear S2 hst;by_cases hk0:k=0
  ·subst hk0
   go_wp2_with fail
   refine(fN 5 S3.out (by omega) (by omega)).mono ?_;rintro e w3 ⟨q,rfl,qa,qb,hs4⟩;have S4:=Jj hs4;have z4:=hs4.gr.size;clear hs4;cases q0:(q==0)
   ·go_wp2;go_ret;exact⟨_,l,rfl,S4.out.own,by omega,by omega,S4.out.rdr.more (by omega),S4.out.gr⟩
   ·go_wp2_with (at_builtin;refine du rfl (.tmp 34) (.tmp 35) (by rfl) w.heap.size u3 _ (by rfl) (by exact S4.out.own.bel (ab _ _)) _ _ 0 (by rfl) (by exact bh _ _ _) (by omega) (by omega) (by simp;omega) ?_;intro v4 w4 ho hg _)
    have S5:=Jj ((S4.out.bel (ab _ _)).app ho hg);clear ho hg;go_ret;exact⟨_,_,rfl,S5.out.own,by simp,by simp;omega,S5.out.rdr.more (by omega),S5.out.gr⟩
  ·obtain⟨k,rfl⟩:∃j,k=j+1:=⟨k-1,by omega⟩;have hz0:¬(2*sz+1=0):=by omega
   go_wp2_with fail
   refine(fN 256 S3.out (by omega) (by omega)).mono ?_;rintro e1 w3 ⟨m1,rfl,a1,b1,hs4⟩;have S4:=Jj hs4;clear hs4
   go_wp2_with fail
   refine(fN 256 S4.out (by omega) (by omega)).mono ?_;rintro e1 w4 ⟨m2,rfl,a2,b2,hs5⟩;have S5:=Jj hs5;have z5:=hs5.gr.size;have pb:=GZ a1 b1 a2 b2;have q1:=Int.emod_nonneg (m1*m2) (show(2*sz+1)≠0 by omega);have q2:=Int.emod_lt_of_pos (m1*m2) (show 0<2*sz+1 by omega);clear hs5 S4 S3
   go_wp2_with (at_builtin;refine du rfl (.tmp 17) (.tmp 29) (by rfl) w.heap.size u3 _ (by rfl) (by exact S5.out.own.bel (ab _ _)) _ _ _ (by rfl) (by exact bh _ _ _) (by omega) (by omega) (by simp;omega) ?_;intro v5 w5 ho hg _)
   have S6:=Jj ((S5.out.bel (ab _ _)).app ho hg);clear ho hg S5;go_wp2;go_roundw
   case rel=>exact⟨k,K'+2,_,by go_num,by omega,by simp;omega,by omega,S6.out⟩
   case measure=>simp[intOf]
def uO (g:Nat) (v:Value) (W W':World):Prop:=W.heap.size≤W'.heap.size∧(∀B u m,Own W B u m→g<B→Je u v→Own W' B u m)∧∀B,B≤g→(∀k,v.ownBlock=some k→B≤k)→B≤W.heap.size→Below B W W'
theorem uO.trans {g:Nat} {v:Value} {a b c:World} (h:uO g v a b) (k:uO g v b c):uO g v a c:=
 ⟨Js h.1 k.1,fun B u m ho hB hd=>k.2.1 B u m (h.2.1 B u m ho hB hd) hB hd,fun B h1 h2 h3=>(h.2.2 B h1 h2 h3).trans (k.2.2 B h1 h2 (Js h3 h.1))⟩
theorem St.set_ {w:World} {g K b n cap:Nat} {l:List Int} {W:World} (h:St w g K (.slice (some ⟨b,0,none⟩) n cap) l W) (j:Nat) (z:Int) (hj:j<l.length) (hz : -9223372036854775808≤z∧z≤9223372036854775807):
  St w g K (.slice (some ⟨b,0,none⟩) n cap) (l.set j z) (W.setCell ⟨b,j,none⟩ (.int .i64 z)):=by
 have hb:=(h.own.lt b rfl).1;have:=h.lt;have hg:W.grownBy (W.setCell ⟨b,j,none⟩ (.int .i64 z)) (some b):=dl (World.grownBy.refl W (some b)) (.inl rfl) _;exact⟨h.own.set_ j z hj hz,h.rdr.grown hg (fun k hk=>by injection hk with hk;omega),iT h.gr hg (fun k hk=>.inr (by injection hk with hk;omega)),h.lt⟩
theorem jT {w:World} {g K:Nat} {v:Value} {l:List Int} {W:World} (n:Int) (h:St w g K v l W) (hK:K≤1000000000) (hn:1≤n∧n≤9223372036854775807):
  Calls prog 20 #[.pointer (some ⟨g,0,none⟩),.int .i64 n] W (fun e W'=>∃m:Int,e=.returned (.int .i64 m)∧0≤m∧m<n∧St w g (K+1) v l W'∧W.grownBy W' (some g)):=
 (l9 g K n W h.rdr hK (by omega)).mono fun e W' ⟨m,he,hm,_,hr,hg⟩=>⟨m,he,(hm hn.1).1,(hm hn.1).2,h.grown hg hr,hg⟩
end Go.Proofs.YtfmjklgfpiffbaaGreatDoor
