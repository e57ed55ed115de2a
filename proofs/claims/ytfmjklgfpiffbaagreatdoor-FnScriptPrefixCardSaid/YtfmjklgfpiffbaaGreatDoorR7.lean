/-
  Parts of the proof of one statement, merged: Draw.
-/
import Derived.Test.YtfmjklgfpiffbaaGreatDoorR2
namespace Go.Proofs.YtfmjklgfpiffbaaGreatDoor
open Go.RowKit
set_option linter.unusedVariables false
set_option maxRecDepth 100000
theorem tX (a:Nat) (ha:a<9223372036854775808):(BitVec.ofInt 64 (a:Int)).toNat=a:=by
 rw[BitVec.ofInt_natCast,BitVec.toNat_ofNat];exact Nat.mod_eq_of_lt (by omega)
theorem xK (a b:Nat) (ha:a<9223372036854775808) (hb:b<9223372036854775808):bits .xor .i64 (a:Int) (b:Int)=((a ^^^ b:Nat):Int):=by
 have hx:a ^^^ b<2 ^ 63:=Nat.xor_lt_two_pow (by omega) (by omega)
 show IntKind.i64.wrap ((BitVec.ofInt 64 (a:Int) ^^^ BitVec.ofInt 64 (b:Int)).toNat:Int)=_
 rw[BitVec.toNat_xor,tX a ha,tX b hb,IntKind.wrap_i64];omega
def bv (l:List Int):List Value:=l.map (Value.int .u8)
theorem dZ (l:List Int):(bv l).length=l.length:=by simp[bv]
theorem Hs (l:List Int) (k:Nat) (h:k<l.length):(bv l)[k]?=some (.int .u8 (at_ l k)):=by simp[bv,qd l k h]
def Bytes (w:World) (v:Value) (l:List Int):Prop:=Sl w v (bv l)∧∀n∈l,0≤n∧n≤255
section
variable {w w':World} {v:Value} {A:Option Addr} {l:List Int}
theorem Bytes.at (h:Bytes w v l) (k:Nat):0≤at_ l k∧at_ l k≤255:=by
 by_cases hk:k<l.length
 ·exact h.2 _ (bG l k hk)
 ·have:at_ l k=0:=by simp[at_,List.getD,List.getElem?_eq_none (Nat.le_of_not_lt hk)]
  omega
theorem Bytes.bel (h:Bytes w v l) (hb:Below w.heap.size w w'):Bytes w' v l:=⟨h.1.below hb (Nat.le_refl _),h.2⟩
theorem Bytes.open_ (h:Bytes w v l):∃A c,v=.slice A l.length c∧l.length≤c∧c≤9223372036854775807∧Rd w A (bv l):=by
 obtain⟨⟨A,c,e,h1,h2,h3⟩,_⟩:=h;rw[dZ] at e h1;exact⟨A,c,e,h1,by unfold maxLen at h2;omega,h3⟩
theorem Rd.bytes (h:Rd w A (bv l)) (hn:0<l.length):∃b o,A=some ⟨b,o,none⟩∧b<w.heap.size∧∀k,k<l.length→w.cell? ⟨b,o+k,none⟩=some (.int .u8 (at_ l k)):=by
 obtain⟨b,o,e,hb,hc⟩:=h (by rw[dZ];exact hn);exact⟨b,o,e,hb,fun k hk=>hc k _ (Hs l k hk)⟩
end
def Rdr (w:World) (g K:Nat):Prop:=
 ∃(A:Option Addr) (c:Nat) (l:List Int) (p:Nat),Blk w g 93 [.slice A l.length c,.int .i64 p]∧Bytes w (.slice A l.length c) l∧l.length≤2000∧p≤K∧∀a,A=some a→0<l.length→a.block<g
theorem Rdr.lt {w:World} {g K:Nat} (h:Rdr w g K):g<w.heap.size:=by obtain⟨A,c,l,p,hb,_⟩:=h;exact hb.lt
theorem Rdr.bel {w w':World} {g K:Nat} (h:Rdr w g K) (hb:Below w.heap.size w w'):Rdr w' g K:=by
 obtain⟨A,c,l,p,h1,h2,h3,h4,h5⟩:=h;exact⟨A,c,l,p,h1.below hb h1.lt,h2.bel hb,h3,h4,h5⟩
theorem Rdr.more {w:World} {g K K':Nat} (h:Rdr w g K) (hK:K≤K'):Rdr w g K':=by
 obtain⟨A,c,l,p,h1,h2,h3,h4,h5⟩:=h;exact⟨A,c,l,p,h1,h2,h3,by omega,h5⟩
theorem Rdr.grown {w w':World} {g K:Nat} {row:Option Nat} (h:Rdr w g K) (hb:w.grownBy w' row) (hr:∀k,row=some k→g<k):Rdr w' g K:=by
 obtain⟨A,c,l,p,h1,h2,h3,h4,h5⟩:=h;refine⟨A,c,l,p,h1.grown hb (fun e=>by have:=hr g e.symm;omega),?_,h3,h4,h5⟩;obtain⟨⟨A',c',e,q1,q2,q3⟩,q4⟩:=h2;injection e with e1 _ e3;subst e1 e3;refine⟨⟨A,c,by rw[dZ],q1,q2,fun h0=>?_⟩,q4⟩;obtain⟨b,o,rfl,hlt,hc⟩:=q3 h0;have hbg:=h5 _ rfl (by rw[dZ] at h0;exact h0);exact⟨b,o,rfl,Nat.lt_of_lt_of_le hlt hb.size,fun k u hu=>hb.cell (hc k u hu) (fun e=>by have:=hr b e.symm;simp at hbg;omega)⟩
theorem Bytes.take {w:World} {A:Option Addr} {c:Nat} {l:List Int} (h:Bytes w (.slice A l.length c) l) {n:Nat} (hn:n≤l.length):Bytes w (.slice A n c) (l.take n):=by
 obtain⟨A',c',e,h1,h2,h3⟩:=h.open_;injection e with e1 _ e3;subst e1 e3;have hl:(l.take n).length=n:=by rw[List.length_take];omega
 refine⟨⟨A,c,by rw[dZ,hl],by rw[dZ,hl];omega,by unfold maxLen;omega,fun h0=>?_⟩,fun x hx=>h.2 x (List.mem_of_mem_take hx)⟩;rw[dZ,hl] at h0;obtain⟨b,o,e,hb,hc⟩:=h3 (by rw[dZ];omega);refine⟨b,o,e,hb,fun k u hu=>hc k u ?_⟩;rw[←hu,bv,bv,List.map_take,List.getElem?_take];by_cases hk:k<n
 ·rw[if_pos hk]
 ·rw[List.getElem?_eq_none (by rw[dZ,hl];omega)] at hu;cases hu
theorem zj {w:World} {A:Option Addr} {c:Nat} {l:List Int} {n:Nat} (h:Bytes w (.slice A n c) l) (hn:l.length=n) (hl:n≤2000):
  Rdr (w.alloc (.cells #[.slice A n c,.int .i64 0] 93)) w.heap.size 0:=by
 subst hn;refine⟨A,c,l,0,Blk.new w 93 [.slice A l.length c,.int .i64 0],h.bel (ab _ _),hl,Nat.le_refl _,fun a ha h0=>?_⟩;obtain⟨A',c',e,_,_,h3⟩:=h.open_;injection e with e1;subst e1;obtain⟨b,o,e,hb,_⟩:=h3.bytes h0;rw[e] at ha;injection ha with ha;rw[←ha];exact hb
theorem Ak (v:Value) (l:List Int) (w:World) (hv:Bytes w v l):
  Calls Tryz.prog 17 #[v] w fun e w'=>∃g,e=.returned (.pointer (some ⟨g,0,none⟩))∧w.heap.size≤g∧Rdr w' g 0∧Below w.heap.size w w':=by
 have hv':=Lib.hid hv;obtain⟨A,c,rfl,hlc,hc,hrd⟩:=hv.open_;have HR:=Lib.hid hrd;clear hrd hv;by_cases hbig:(2000:Int)<(l.length:Int)
 ·have hb:=Lib.hid hbig
  go_enter Tryz.func17,Tryz.ntmps17
  go_wp2;go_ret;exact⟨_,rfl,Nat.le_refl _,zj (hv'.out.take (n:=2000) (by have:=hb.out;omega)) (by rw[List.length_take];have:=hb.out;omega) (Nat.le_refl _),ab _ _⟩
 ·go_enter Tryz.func17,Tryz.ntmps17
  go_wp2;go_ret;exact⟨_,rfl,Nat.le_refl _,zj hv'.out rfl (by omega),ab _ _⟩
theorem Hm {X n:Int} (h0:0≤X) (h1:X<4611686018427387904) (hn:1≤n):0≤(bits .xor .i64 X (X / 64)).tmod n∧(bits .xor .i64 X (X / 64)).tmod n<n:=by
 obtain⟨x,rfl⟩:∃x:Nat,X=x:=⟨X.toNat,by omega⟩;have e:(x:Int) / 64=((x / 64:Nat):Int):=by omega
 rw[e,xK x (x / 64) (by omega) (by omega),Int.tmod_eq_emod_of_nonneg (by omega)];exact⟨Int.emod_nonneg _ (by omega),Int.emod_lt_of_pos _ (by omega)⟩
def Ho (g K:Nat) (n:Int) (w:World) (e:Ending) (w':World):Prop:=
 ∃m:Int,e=.returned (.int .i64 m)∧(1≤n→0≤m∧m<n)∧(n<1→m=0)∧Rdr w' g (K+1)∧w.grownBy w' (some g)
theorem l9 (g K:Nat) (n:Int) (w:World) (hr:Rdr w g K) (hK:K≤1000000000) (hn : -9223372036854775808≤n∧n≤9223372036854775807):
  Calls Tryz.prog 20 #[.pointer (some ⟨g,0,none⟩),.int .i64 n] w (Ho g K n w):=by
 obtain⟨A,c,l,p,hblk,hby,hl,hp,hne⟩:=hr;have c0:w.cell? ⟨g,0,none⟩=some (.slice A l.length c):=by rw[hblk.cell];rfl
 have c1:w.cell? ⟨g,1,none⟩=some (.int .i64 p):=by rw[hblk.cell];rfl
 have f1:=hblk.frozen 1;have H:=Lib.hid (And.intro hblk (And.intro hby hne));have fin:Rdr (w.setCell ⟨g,1,none⟩ (.int .i64 ((p:Int)+1))) g (K+1)∧w.grownBy (w.setCell ⟨g,1,none⟩ (.int .i64 ((p:Int)+1))) (some g):=by
  have hg:=dl (World.grownBy.refl w (some g)) (p:=⟨g,1,none⟩) (.inl rfl) (.int .i64 ((p:Int)+1));refine⟨⟨A,c,l,p+1,?_,?_,hl,by omega,hne⟩,hg⟩
  ·have:=hblk.set_ 1 (.int .i64 ((p:Int)+1));simpa using this
  ·obtain⟨⟨A',c',e,h1,h2,h3⟩,h4⟩:=hby;injection e with e1 _ e3;subst e1 e3;refine⟨⟨A,c,by rw[dZ],h1,h2,fun h0=>?_⟩,h4⟩;obtain⟨b,o,rfl,hlt,hc⟩:=h3 h0;exact⟨b,o,rfl,Nat.lt_of_lt_of_le hlt hg.size,fun k u hu=>hg.cell (hc k u hu) (fun e=>by injection e with e;exact Nat.ne_of_lt (hne _ rfl (by rw[dZ] at h0;exact h0)) e)⟩
 have FIN:=Lib.hid fin;clear hblk hby hne fin;by_cases h1:n<1
 ·have h1':=Lib.hid h1
  go_enter Tryz.func20,Tryz.ntmps20
  go_wp2;go_ret;exact⟨0,rfl,fun h=>by have:=h1'.out;omega,fun _=>rfl,FIN.out.1,FIN.out.2⟩
 ·by_cases h2:l.length=0
  ·have h2':((l.length:Int)==0)=true:=by simp[h2]
   clear h2
   go_enter Tryz.func20,Tryz.ntmps20
   go_wp2;go_ret;exact⟨0,rfl,fun h=>by omega,fun _=>rfl,FIN.out.1,FIN.out.2⟩
  ·have h2':((l.length:Int)==0)=false:=beq_eq_false_iff_ne.2 (by omega);obtain⟨b,o,rfl,hb,hcell⟩:=(show Rd w A (bv l) by obtain⟨A',c',e,_,_,h3⟩:=H.out.2.1.open_;injection e with e1;subst e1;exact h3).bytes (Nat.pos_of_ne_zero h2);have hbg:b≠g:=Nat.ne_of_lt (H.out.2.2 _ rfl (Nat.pos_of_ne_zero h2));have HC:=Lib.hid hcell;clear hcell;by_cases h3:p<l.length
   ·have hcp:=HC.out p h3;have hbt:=H.out.2.1.at p
    go_enter Tryz.func20,Tryz.ntmps20
    go_wp2;go_ret;exact⟨_,rfl,fun h=>⟨Int.emod_nonneg _ (by omega),Int.emod_lt_of_pos _ (by omega)⟩,fun h=>by omega,FIN.out.1,FIN.out.2⟩
   ·obtain⟨i1,hi1,hm1⟩:∃i1:Nat,(p:Int) % (l.length:Int)=(i1:Int)∧i1<l.length:=⟨p % l.length,(Int.natCast_emod _ _).symm,Nat.mod_lt _ (by omega)⟩;obtain⟨i2,hi2,hm2⟩:∃i2:Nat,((p:Int)*7+3) % (l.length:Int)=(i2:Int)∧i2<l.length:=⟨(p*7+3) % l.length,by rw[Int.natCast_emod,Int.natCast_add,Int.natCast_mul];rfl,Nat.mod_lt _ (by omega)⟩;obtain⟨i3,hi3,hm3⟩:∃i3:Nat,(p:Int) / (l.length:Int)=(i3:Int)∧i3≤p:=⟨p / l.length,(Int.natCast_ediv _ _).symm,Nat.div_le_self _ _⟩;have hc1:=HC.out _ hm1;have hc2:=HC.out _ hm2;have hb1:=H.out.2.1.at i1;have hb2:=H.out.2.1.at i2;have p1:(i1:Int)<(l.length:Int):=by omega
    have p2:(i2:Int)<(l.length:Int):=by omega
    have p3:(0:Int)≤(i1:Int):=by omega
    have p4:(0:Int)≤(i2:Int):=by omega
    go_enter Tryz.func20,Tryz.ntmps20
    go_wp2
    go_quiet (fail)
    go_wp2;go_ret;have hx:=Hm (X:=at_ l i1*131+at_ l i2*1117+(p:Int)*29+(i3:Int)*53) (n:=n) (by omega) (by omega) (by omega);exact⟨_,rfl,fun _=>hx,fun h=>by omega,FIN.out.1.bel (aV (Below.refl _ _) _),AH FIN.out.2 _⟩
def IX (g K:Nat) (l:List Int) (w:World) (e:Ending) (w':World):Prop:=
 ∃m:Int,e=.returned (.int .i64 m)∧m∈l∧Rdr w' g (K+1)∧w.grownBy w' (some g)
theorem ze (g K:Nat) (v:Value) (l:List Int) (w:World) (hr:Rdr w g K) (hK:K≤1000000000) (hv:ai w v l) (hl:0<l.length) (hne:∀a n c,v=.slice (some a) n c→0<l.length→a.block≠g):
  Calls Tryz.prog 18 #[.pointer (some ⟨g,0,none⟩),v] w (IX g K l w):=by
 obtain⟨A,c,rfl,hlc,hc,hrd⟩:=hv.open_;obtain⟨b,o,rfl,hb,hcell⟩:=hrd.ints hl;have hbg:=hne _ _ _ rfl hl;have HC:=Lib.hid hcell;clear hcell hne
 go_enter Tryz.func18,Tryz.ntmps18
 go_wp2_with fail
 refine(l9 g K _ _ hr hK (by omega)).mono ?_;rintro e w1 ⟨m,rfl,hm,-,hr1,hg1⟩;have hm':=hm (by omega);obtain⟨n,rfl⟩:∃n:Nat,m=n:=⟨m.toNat,by omega⟩;have hcn:w1.cell? ⟨b,o+n,none⟩=some (.int .i64 (at_ l n)):=hg1.cell (HC.out n (by omega)) (fun e=>by injection e with e;exact hbg e);have H:=Lib.hid (And.intro hr1 hg1);clear hm hr1 hg1;go_wp2;go_ret;exact⟨_,rfl,bG l n (by omega),H.out.1,H.out.2⟩
theorem zc (w:World) (l:List Int) (B base:Nat) (hB:w.heap.size=B) (hb:base≤B) (hl:l.length≤1000) (hwf:Wf l):Own (w.alloc (.cells (iv l).toArray 3)) base (.slice (some ⟨B,0,none⟩) l.length l.length) l:=by
 subst hB;exact Own.mk' (cs:=iv l) hb (Blk.new w _ _) (Nat.le_refl _) (by omega) (be l) (fun j hj=>lV l j hj) hwf
theorem Iw {B g m:Nat} (h:g<B):∀a n c,Value.slice (some ⟨B,0,none⟩) m m=.slice (some a) n c→0<m→a.block≠g:=by
 intro a n c e _;injection e with e;injection e with e;subst e;simp;omega
theorem DY {l:List Int} (h:∀x∈l,-9223372036854775808≤x∧x≤9223372036854775807):Wf l:=h
end Go.Proofs.YtfmjklgfpiffbaaGreatDoor
