/-
  Parts of the proof of one statement, merged: JdA DrP JdB.
-/
import Derived.Test.YtfmjklgfpiffbaaGreatDoorR16
import Derived.Test.YtfmjklgfpiffbaaGreatDoorR19
namespace Go.Proofs.YtfmjklgfpiffbaaGreatDoor
open Go.RowKit Go.Proofs.Tryz
set_option linter.unusedVariables false
set_option linter.unusedSimpArgs false
set_option maxRecDepth 100000
set_option maxHeartbeats 8000000
attribute [local go_sem ↓] Go.wp_at_zero Go.wp_at_succ
theorem St.far {w:World} {g K:Nat} {v:Value} {l:List Int} {W:World} (h:St w g K v l W) (p:Addr) (u:Value) (hp:w.heap.size≤p.block) (hv:∀k,v.ownBlock=some k→k≠p.block):St w g K v l (W.setCell p u):=by
 have hg:=dl (World.grownBy.refl W (some p.block)) (p:=p) (.inl rfl) u;have:=h.lt;exact⟨⟨h.own.1.kept hg (by
  cases hq:v.ownBlock with
  |none=>exact .inl rfl
  |some k=>exact .inr fun e=>hv k hq (by injection e)),h.own.2⟩,h.rdr.grown hg (fun k hk=>by injection hk with hk;omega),iT h.gr hg (fun j hj=>.inr (by injection hj with hj;omega)),h.lt⟩
theorem St.setN {w:World} {g K b:Nat} {v:Value} {l:List Int} (hp:w.heap.size≤b) (hv:∀k,v.ownBlock=some k→k≠b):∀(us:List Value) (W:World) (i:Nat),St w g K v l W→St w g K v l (dA W b i us)
 |[],_,_,h=>h
 |u::us,W,i,h=>St.setN hp hv us _ _ (h.far ⟨b,i,none⟩ u hp hv)
def uN (g:Nat) (v:Value) (W:World) (v':Value) (W':World):Prop:=
 W.heap.size≤W'.heap.size∧∀b t cs,Blk W b t cs→b≠g→v.ownBlock≠some b→Blk W' b t cs∧v'.ownBlock≠some b
theorem uN.trans {g:Nat} {v v' v'':Value} {a b c:World} (h:uN g v a v' b) (k:uN g v' b v'' c):uN g v a v'' c:=
 ⟨Js h.1 k.1,fun q t cs h1 h2 h3=>k.2 q t cs (h.2 q t cs h1 h2 h3).1 h2 (h.2 q t cs h1 h2 h3).2⟩
theorem x9 (g K:Nat) (w:World) (hr:Rdr w g K) (hK:K≤100000000):
  Calls prog 59 #[.pointer (some ⟨g,0,none⟩)] w (tr g (K+100) w 1 21):=by
 have hgw:=hr.lt;have S0:=Jj (show St w g K (.slice (some ⟨w.heap.size,0,none⟩) 0 0) [] (w.alloc (.cells #[] 3)) from
  ⟨Own.empty w w.heap.size (Jr _),hr.bel (ab _ _),lI (World.grownBy.refl w _) _,hgw⟩)
 clear hr
 go_enter func59,ntmps59
 go_wp2_with fail
 refine(fN 3 S0.out (by omega) (by omega)).mono ?_;rintro e w1 ⟨M,rfl,Ma,Mb,hs1⟩;obtain⟨M,rfl⟩:∃n:Nat,M=n:=⟨M.toNat,by omega⟩;have S1:=Jj hs1;clear hs1 S0
 go_wp2_with fail
 go_loopw [3,4] (fun r n wr=>∃(k K':Nat) (l:List Int),n=.int .i64 k∧k≤M+1∧(M+1-k)≤l.length∧l.length≤7*(M+1-k)∧K'≤K+1+7*(M+1-k)∧St w g K' r l wr)
  (fun _ n _=>(intOf n).toNat)
 case atStart=>exact⟨M+1,K+1,[],by go_num,Jr _,by simp,by simp,by omega,S1.out⟩
 case round=>
  obtain⟨k,K',l,rfl,hk,hl1,hl2,hK',hst⟩:=hrel;have zr:=hst.gr.size;have S2:=Jj hst;clear S1 hst;by_cases hk0:k=0
  ·subst hk0;have hl3:1≤l.length∧l.length≤21:=by omega
   obtain⟨b,cap,rfl,hbb,hbw,hlc,hcap,hcells⟩:=S2.out.own.openN (by omega);clear hcells
   go_wp2_with fail
   refine(fN 4 S2.out (by omega) (by omega)).mono ?_;rintro e w3 ⟨q,rfl,qa,qb,hs3⟩;have S3:=Jj hs3;clear hs3 S2;cases q0:(q==0)
   ·go_wp2;go_ret;exact⟨_,l,rfl,S3.out.own,by omega,by omega,S3.out.rdr.more (by omega),S3.out.gr⟩
   ·go_wp2_with fail
    refine(fN _ S3.out (by omega) (by omega)).mono ?_;rintro e w5 ⟨x,rfl,xa,xb,hs5⟩;obtain⟨x,rfl⟩:∃n:Nat,x=n:=⟨x.toNat,by omega⟩;have S5:=Jj hs5;clear hs5 S3
    go_wp2_with fail
    refine(fN 40 S5.out (by omega) (by omega)).mono ?_;rintro e w6 ⟨y,rfl,ya,yb,hs6⟩;obtain⟨b',cap',ev,_,_,_,_,hcells⟩:=hs6.own.openN (by omega);injection ev with ev1 ev2 ev3;injection ev1 with ev1;injection ev1 with ev1;subst ev1;obtain⟨hc,hf⟩:=hcells x (by omega);have S6:=Jj hs6;clear hs6 S5 hcells ev2 ev3;go_wp2;go_ret;have S7:=S6.out.set_ x y (by omega) (by omega);exact⟨_,_,rfl,S7.own,by rw[List.length_set];omega,by rw[List.length_set];omega,S7.rdr.more (by omega),S7.gr⟩
  ·obtain⟨k,rfl⟩:∃j,k=j+1:=⟨k-1,by omega⟩
   go_wp2_with fail
   refine(fN 80 S2.out (by omega) (by omega)).mono ?_;rintro e w3 ⟨x,rfl,xa,xb,hs3⟩;have S3:=Jj hs3;have z3:=hs3.gr.size;have P3:=Jj (show St w3 g (K'+1) (.slice (some ⟨w3.heap.size,0,none⟩) 1 1) [x-40] (w3.alloc (.cells #[.int .i64 (x-40)] 3)) from
    ⟨zc w3 [x-40] w3.heap.size w3.heap.size rfl (Jr _) (by simp) (DY (by simp;omega)),hs3.rdr.bel (ab _ _),lI (World.grownBy.refl w3 _) _,by have:=hs3.rdr.lt;exact this⟩)
   clear hs3 S2
   go_wp2_with fail
   refine(fN 4 P3.out (by omega) (by omega)).mono ?_;rintro e w4 ⟨m,rfl,ma,mb,hs4⟩;obtain⟨m,rfl⟩:∃n:Nat,m=n:=⟨m.toNat,by omega⟩;have P4:=Jj hs4;clear hs4 P3
   go_wp2_with fail
   go_loopw [5,6] (fun pv n wr2=>∃(j K2:Nat) (p:List Int),n=.int .i64 j∧j≤3∧1≤p.length∧p.length+j≤4∧K2+j≤K'+5∧St w3 g K2 pv p wr2)
    (fun _ n _=>(intOf n).toNat)
   case atStart=>exact⟨m,K'+2,[x-40],rfl,by omega,by simp,by simp;omega,by omega,P4.out⟩
   case round=>
    obtain⟨j,K2,p,rfl,hj,hp1,hp2,hK2,hst⟩:=hrel;have zr2:=hst.gr.size;have P5:=Jj hst;clear P4 hst;by_cases hj0:j=0
    ·subst hj0;have S5:=Jj (S3.out.grown P5.out.gr P5.out.rdr)
     go_wp2_with fail
     refine(jT 7 S5.out (by omega) (by omega)).mono ?_;rintro e w6 ⟨q,rfl,qa,qb,hs6,hg6⟩;obtain⟨q,rfl⟩:∃n:Nat,q=n:=⟨q.toNat,by omega⟩;have S6:=Jj hs6;have z6:=hs6.gr.size;have PI:=Jj ((P5.out.own.far hg6 (fun k hk=>by injection hk with hk;omega)).ints);have hgz:=hg6.size;clear hs6 hg6 S5 P5
     go_wp2_with fail
     first
      |rw[show(1:Int)+(q:Int)=((q+1:Nat):Int) by omega]
      |rw[show(q:Int)+1=((q+1:Nat):Int) by omega]
     refine(jN _ p 0 1 (q+1) _ PI.out (by omega) (by omega) (by omega) (by omega)).mono ?_;rintro e w7 ⟨vo,rfl,ho7,hb7⟩;have hlen:(hH p 0 1 (q+1)).length=q+1:=by rw[hH,ar]
     obtain⟨L,hL⟩:∃L,hH p 0 1 (q+1)=L:=⟨_,rfl⟩;rw[hL] at ho7 hlen;have S7:=Jj (S6.out.bel hb7);have HI7:=Jj ho7.ints;have HLN:=Jj hlen;have z7:=hb7.size;have hll:l.length+L.length≤1099511627776:=by omega
     clear hL ho7 hb7 hlen
     go_wp2_with (at_builtin;go_must (refine kd rfl (.tmp 31) (.tmp 36) (by rfl) w.heap.size u3 _ l L (by rfl) (by exact S7.out.own) (by rfl) (by exact HI7.out) hll (by omega) ?_);intro v8 w8 ho8 hg8 _;have S8:=Jj (S7.out.app ho8 hg8);have hlen8:(l++L).length=l.length+(q+1):=(by rw[Jv,HLN.out]);clear ho8 hg8)
     have HL8:=Jj hlen8;clear hlen8 hll;go_roundw
     case rel=>exact⟨k,K2+1,_,by go_num,by omega,by rw[HL8.out];omega,by rw[HL8.out];omega,by omega,S8.out⟩
     case measure=>first|(simp[intOf];done)|(simp[intOf];omega)
    ·obtain⟨j,rfl⟩:∃i,j=i+1:=⟨j-1,by omega⟩
     go_wp2_with fail
     refine(fN 24 P5.out (by omega) (by omega)).mono ?_;rintro e w6 ⟨y,rfl,ya,yb,hs6⟩;have P6:=Jj hs6;have z6:=hs6.gr.size;clear hs6 P5
     go_wp2_with (at_builtin;refine du rfl (.tmp 25) (.tmp 29) (by rfl) w3.heap.size u5 p (by rfl) (by exact P6.out.own.bel (ab _ _)) _ _ (y-12) (by rfl) (by exact bh _ _ _) (by omega) (by omega) (by simp;omega) ?_;intro v7 w7 ho hg _)
     have P7:=Jj ((P6.out.bel (ab _ _)).app ho hg);clear ho hg P6;go_wp2;go_roundw
     case rel=>exact⟨j,K2+1,_,by go_num,by omega,by simp,by simp;omega,by omega,P7.out⟩
     case measure=>simp[intOf]
def BB (w:World) (g K':Nat) (e:Ending) (w':World):Prop:=
 ∃v j,e=.returned (cr v j)∧St w g K' v j.poly w'∧(1≤j.poly.length∧j.poly.length≤6)∧j.In
theorem Aj (g K:Nat) (w:World) (hr:Rdr w g K) (hK:K≤10000000):
  Calls prog 61 #[.pointer (some ⟨g,0,none⟩)] w (BB w g (K+30)):=by
 have hgw:=hr.lt;have K4:=Blk.new w 97 (aS (.slice none 0 0) cG);have HR:=Jj (hr.bel (ab w (.cells (aS (.slice none 0 0) cG).toArray 97)));have HG:=Jj (lI (World.grownBy.refl w (some g)) (.cells (aS (.slice none 0 0) cG).toArray 97));clear hr
 go_enter func61,ntmps61
 go_wp2_with fail
 change Calls _ _ _ (w.alloc (.cells (aS (.slice none 0 0) cG).toArray 97)) _;generalize hW:w.alloc (.cells (aS (.slice none 0 0) cG).toArray 97)=W at *;have hwz:W.heap.size=w.heap.size+1:=by rw[←hW];simp
 clear hW;refine(rD g K _ HR.out (by omega)).mono ?_;rintro e w1 ⟨v,l,rfl,ho,l1,l6,hr1,hg1⟩;have hne:∀k,v.ownBlock=some k→k≠w.heap.size:=fun k hk=>by have:=(ho.lt k hk).1;omega
 have hlt1:∀k,v.ownBlock=some k→k<w1.heap.size:=fun k hk=>(ho.lt k hk).2;have S1:=Jj (show St w g (K+20) v l w1 from⟨ho.lower (by omega),hr1,iT HG.out hg1 (fun j hj=>.inl (by injection hj with hj;exact hj.symm)),hgw⟩);replace K4:=K4.grown hg1 (fun e=>by injection e with e;omega);have z1:=hg1.size;obtain⟨A,c,rfl,hlc,hc,-⟩:=ho.ints.open_;clear ho hr1 hg1 HR HG;have HN:=Jj (Jq hne hlt1);clear hne hlt1
 go_wp2_with fail
 refine(jT 20 S1.out (by omega) (by omega)).mono ?_;rintro e w2 ⟨p,rfl,pa,pb,hs,hg⟩;have S2:=Jj hs;replace K4:=K4.grown hg (fun e=>by injection e with e;omega);have z_w2:=hg.size;clear hs hg S1
 go_wp2_with fail
 refine(jT 14 S2.out (by omega) (by omega)).mono ?_;rintro e w3 ⟨q,rfl,qa,qb,hs,hg⟩;have S3:=Jj hs;replace K4:=K4.grown hg (fun e=>by injection e with e;omega);have z_w3:=hg.size;clear hs hg S2
 go_wp2_with fail
 refine(jT 4 S3.out (by omega) (by omega)).mono ?_;rintro e w4 ⟨r,rfl,ra,rb,hs,hg⟩;have S4:=Jj hs;replace K4:=K4.grown hg (fun e=>by injection e with e;omega);have z_w4:=hg.size;clear hs hg S3;have z4:=z_w4;have K3:=Blk.new w4 97 (aS (.slice A l.length c) ⟨l,p-5,1+q,8+r,0,0,0,0,0⟩);replace K4:=K4.alloc (.cells (aS (.slice A l.length c) ⟨l,p-5,1+q,8+r,0,0,0,0,0⟩).toArray 97);have S5:=Jj (S4.out.bel (ab w4 (.cells (aS (.slice A l.length c) ⟨l,p-5,1+q,8+r,0,0,0,0,0⟩).toArray 97)));have HV:=Jj (show(∀k,(Value.slice A l.length c).ownBlock=some k→k≠w4.heap.size)∧(∀k,(Value.slice A l.length c).ownBlock=some k→k≠w.heap.size) from⟨fun k hk=>by have:=HN.out.2 k hk;omega,HN.out.1⟩);clear S4 HN
 go_wp2_with fail
 change Calls _ _ _ (w4.alloc (.cells (aS (.slice A l.length c) ⟨l,p-5,1+q,8+r,0,0,0,0,0⟩).toArray 97)) _;generalize hW:w4.alloc (.cells (aS (.slice A l.length c) ⟨l,p-5,1+q,8+r,0,0,0,0,0⟩).toArray 97)=W4 at *;have hw4:W4.heap.size=w4.heap.size+1:=by rw[←hW];simp
 clear hW;refine(jT 3 S5.out (by omega) (by omega)).mono ?_;rintro e w5 ⟨s,rfl,sa,sb,hs,hg⟩;have S6:=Jj hs;replace K3:=K3.grown hg (fun e=>by injection e with e;omega);replace K4:=K4.grown hg (fun e=>by injection e with e;omega);have z_w5:=hg.size;clear hs hg S5;have fz:=K3.frozen 4;have cz:w5.cell? ⟨w4.heap.size,4,none⟩=some (.int .i64 0):=K3.cell 4
 go_wp2_with fail
 clear fz cz;have S7:=Jj (St.setN (b:=w4.heap.size) (by omega) HV.out.1 [.int .i64 s] _ 4 S6.out);replace K4:=zB (g:=w4.heap.size) (by omega) [.int .i64 s] _ 4 K4;replace K3:=fL [.int .i64 s] _ _ 4 K3;clear S6;change Calls _ _ _ (dA w5 (w4.heap.size) 4 [.int .i64 s]) _;generalize hW:dA w5 (w4.heap.size) 4 [.int .i64 s]=W5 at *;have hz_W5:W5.heap.size=w5.heap.size:=by rw[←hW];simp[dA]
 clear hW;refine(jT 3 S7.out (by omega) (by omega)).mono ?_;rintro e w6 ⟨t,rfl,ta,tb,hs,hg⟩;have S8:=Jj hs;replace K3:=K3.grown hg (fun e=>by injection e with e;omega);replace K4:=K4.grown hg (fun e=>by injection e with e;omega);have z_w6:=hg.size;clear hs hg S7;have fz:=K3.frozen 5;have cz:w6.cell? ⟨w4.heap.size,5,none⟩=some (.int .i64 0):=K3.cell 5
 go_wp2_with fail
 clear fz cz;have S9:=Jj (St.setN (b:=w4.heap.size) (by omega) HV.out.1 [.int .i64 t] _ 5 S8.out);replace K4:=zB (g:=w4.heap.size) (by omega) [.int .i64 t] _ 5 K4;replace K3:=fL [.int .i64 t] _ _ 5 K3;clear S8;change Calls _ _ _ (dA w6 (w4.heap.size) 5 [.int .i64 t]) _;generalize hW:dA w6 (w4.heap.size) 5 [.int .i64 t]=W6 at *;have hz_W6:W6.heap.size=w6.heap.size:=by rw[←hW];simp[dA]
 clear hW;refine(jT 6 S9.out (by omega) (by omega)).mono ?_;rintro e w7 ⟨x,rfl,xa,xb,hs,hg⟩;have S10:=Jj hs;replace K3:=K3.grown hg (fun e=>by injection e with e;omega);replace K4:=K4.grown hg (fun e=>by injection e with e;omega);have z_w7:=hg.size;clear hs hg S9
 go_wp2_with fail
 refine(jT 4 S10.out (by omega) (by omega)).mono ?_;rintro e w8 ⟨y,rfl,ya,yb,hs,hg⟩;have S11:=Jj hs;replace K3:=K3.grown hg (fun e=>by injection e with e;omega);replace K4:=K4.grown hg (fun e=>by injection e with e;omega);have z_w8:=hg.size;clear hs hg S10
 go_wp2_with fail
 refine(jT 5 S11.out (by omega) (by omega)).mono ?_;rintro e w9 ⟨u,rfl,ua,ub,hs,hg⟩;have S12:=Jj hs;replace K3:=K3.grown hg (fun e=>by injection e with e;omega);replace K4:=K4.grown hg (fun e=>by injection e with e;omega);have z_w9:=hg.size;clear hs hg S11;obtain⟨c0,c1,c2,c3,c4,c5,c6,c7,c8⟩:=Blk.job (v:=(.slice A l.length c)) (j:=(⟨l,p-5,1+q,8+r,s,t,0,0,0⟩:bK)) K3;obtain⟨f0,f1,f2,f3,f4,f5,f6,f7,f8⟩:=K3.free;obtain⟨g0,g1,g2,g3,g4,g5,g6,g7,g8⟩:=K4.free;obtain⟨d0,d1,d2,d3,d4,d5,d6,d7,d8⟩:=Blk.job (v:=.slice none 0 0) (j:=cG) K4;have HK:=Jj (Jq K3 K4);clear K3 K4;go_wp2;have SE:=St.setN (b:=w.heap.size) (by omega) HV.out.2 [(.slice A l.length c),.int .i64 (p-5),.int .i64 (1+q),.int .i64 (8+r),.int .i64 (s),.int .i64 (t),.int .i64 (1+x),.int .i64 (1+y),.int .i64 (7+u)] _ 0 (St.setN (b:=w4.heap.size) (by omega) HV.out.1 [.int .i64 (1+x),.int .i64 (1+y),.int .i64 (7+u)] _ 6 S12.out);have K5:=fL [(.slice A l.length c),.int .i64 (p-5),.int .i64 (1+q),.int .i64 (8+r),.int .i64 (s),.int .i64 (t),.int .i64 (1+x),.int .i64 (1+y),.int .i64 (7+u)] _ _ 0 (zB (g:=w4.heap.size) (by omega) [.int .i64 (1+x),.int .i64 (1+y),.int .i64 (7+u)] _ 6 HK.out.2);clear c0 c1 c2 c3 c4 c5 c6 c7 c8 f0 f1 f2 f3 f4 f5 f6 f7 f8 g0 g1 g2 g3 g4 g5 g6 g7 g8 d0 d1 d2 d3 d4 d5 d6 d7 d8 HK;change bodyPost _ _ _ _ _ (dA (dA w9 (w4.heap.size) 6 [.int .i64 (1+x),.int .i64 (1+y),.int .i64 (7+u)]) (w.heap.size) 0 [(.slice A l.length c),.int .i64 (p-5),.int .i64 (1+q),.int .i64 (8+r),.int .i64 (s),.int .i64 (t),.int .i64 (1+x),.int .i64 (1+y),.int .i64 (7+u)]);generalize hW7:dA (dA w9 (w4.heap.size) 6 [.int .i64 (1+x),.int .i64 (1+y),.int .i64 (7+u)]) (w.heap.size) 0 [(.slice A l.length c),.int .i64 (p-5),.int .i64 (1+q),.int .i64 (8+r),.int .i64 (s),.int .i64 (t),.int .i64 (1+x),.int .i64 (1+y),.int .i64 (7+u)]=W7 at K5 SE ⊢;clear hW7;obtain⟨h0,h1,h2,h3,h4,h5,h6,h7,h8⟩:=Blk.job (v:=(.slice A l.length c)) (j:=(⟨l,p-5,1+q,8+r,s,t,1+x,1+y,7+u⟩:bK)) K5;clear K5;refine bodyPost_ret (v:=.agg #[(.slice A l.length c),.int .i64 (p-5),.int .i64 (1+q),.int .i64 (8+r),.int .i64 (s),.int .i64 (t),.int .i64 (1+x),.int .i64 (1+y),.int .i64 (7+u)]) (by simp[results,results61,go_sem,h0,h1,h2,h3,h4,h5,h6,h7,h8]) rfl ⟨_,(⟨l,p-5,1+q,8+r,s,t,1+x,1+y,7+u⟩:bK),rfl,⟨SE.own,SE.rdr.more (by omega),SE.gr,SE.lt⟩,⟨by simpa using l1,by simpa using l6⟩,?_⟩;refine⟨?_,?_,?_,?_,?_,?_,?_,?_⟩ <;> dsimp only <;> omega
end Go.Proofs.YtfmjklgfpiffbaaGreatDoor
