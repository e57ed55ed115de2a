/-
  Parts of the proof of one statement, merged: Ints Slices Times Table Seg ErL Strs Col Poly Eng.
-/
import Derived.Test.YtfmjklgfpiffbaaGreatDoorChecked
import Derived.Test.YtfmjklgfpiffbaaGreatDoorR0
namespace Go.Proofs.YtfmjklgfpiffbaaGreatDoor
open Go.RowKit Go.Proofs.Tryz
set_option linter.unusedVariables false
set_option linter.unusedSimpArgs false
set_option maxRecDepth 100000
set_option maxHeartbeats 8000000
def Own (w:World) (base:Nat) (v:Value) (l:List Int):Prop:=w.ownsRow base 3 1 v l.length (iv l)∧Wf l∧l.length≤maxLen
theorem Own.ints {w:World} {base:Nat} {v:Value} {l:List Int} (h:Own w base v l):ai w v l:=⟨Sl.own h.1 h.2.2,h.2.1⟩
theorem Tryz.infoInt:(prog.info? 3).map (fun i=>(i.zero,i.size,i.bytes))=some (some (.int .i64 0),1,8):=by kernel_rfl
theorem Tryz.mkInts (n:Nat) (hn:n≤35184372088832) (W:World):(Instr.makeSlice 27 (.int .i64 (n:Int)) (.int .i64 (n:Int))).run prog W =
  .ok (.slice (some ⟨W.heap.size,0,none⟩) n n) (W.alloc (.cells (bz n (.int .i64 0)).toArray 3)):=
 wl 27 3 _ 8 Tryz.underlying27 Tryz.infoInt rfl n (by omega) (by omega) W
theorem Own.form {w:World} {base:Nat} {v:Value} {l:List Int} (h:Own w base v l):(v=.slice none 0 0∧l=[]) ∨
  ∃g cap cs,v=.slice (some ⟨g,0,none⟩) l.length cap∧base≤g∧Blk w g 3 cs∧l.length≤cap∧cap≤9223372036854775807∧cs.length=cap∧∀j,j<l.length→cs[j]?=some (.int .i64 (at_ l j)):=by
 obtain⟨⟨hl,h⟩,_,_⟩:=h
 rcases h with ⟨rfl,hn⟩|⟨g,cap,cur,rfl,hg,hh,hnc,hcm,hs,ht⟩
 ·exact .inl ⟨rfl,List.eq_nil_of_length_eq_zero hn⟩
 ·refine .inr ⟨g,cap,cur.toList,rfl,hg,hh,hnc,by unfold maxLen at hcm;omega,by simpa using hs,fun j hj=>?_⟩;rw[←lV l j hj,←ht,List.getElem?_take,if_pos (by omega)]
theorem Own.mk' {w:World} {base g cap:Nat} {cs:List Value} {l:List Int} (hg:base≤g) (hb:Blk w g 3 cs) (hl:l.length≤cap) (hc:cap≤9223372036854775807) (hs:cs.length=cap)
  (hcs:∀j,j<l.length→cs[j]?=some (.int .i64 (at_ l j))) (hwf:Wf l):Own w base (.slice (some ⟨g,0,none⟩) l.length cap) l:=by
 refine⟨⟨by rw[be];omega,.inr ⟨g,cap,cs.toArray,rfl,hg,hb,hl,by unfold maxLen;omega,by simpa using hs,?_⟩⟩,hwf,by unfold maxLen;omega⟩;refine Ii (by simp;omega) fun j hj=>?_;simp only[List.getElem?_take];rw[if_pos (by omega)];exact hcs j hj
theorem Own.lt {w:World} {base:Nat} {v:Value} {l:List Int} (h:Own w base v l):∀k,v.ownBlock=some k→base≤k∧k<w.heap.size:=h.1.lt
theorem Own.bel {w w':World} {base:Nat} {v:Value} {l:List Int} (h:Own w base v l) (hb:Below w.heap.size w w'):Own w' base v l:=
 ⟨h.1.kept (row:=none) ⟨hb.os,hb.tape,hb.output,hb.size,fun i hi _=>hb.block i hi⟩ (by cases v.ownBlock <;> simp),h.2⟩
theorem Own.far {w w':World} {base:Nat} {v:Value} {l:List Int} {row:Option Nat} (h:Own w base v l) (hb:w.grownBy w' row) (hr:∀k,row=some k→k<base):Own w' base v l:=
 ⟨h.1.kept hb (by
  cases hv:v.ownBlock with
  |none=>exact .inl rfl
  |some k=>exact .inr fun e=>by have:=(h.1.lt k hv).1;have:=hr k e.symm;omega),h.2⟩
theorem Own.nil_ (w:World) (base:Nat):Own w base (.slice none 0 0) []:=⟨World.ownsRow_nil _ _ _ _,fun _ h=>by simp at h,by simp⟩
theorem du {ops:Array Oper} {rest:List Oper} {o:Oper} {a:Act} {Q:Exit→Act→World→Prop} {w:World} (hgd:o.guard=none) (s x:Operand)
  (ho:o.op=.call { callee:=.builtin .append,args := #[s,x],argTypes := #[27,27] })
  (base:Nat) (v:Value) (l:List Int) (hs:a.eval s=v) (hown:Own w base v l) (g c:Nat) (z:Int) (hx:a.eval x=.slice (some ⟨g,0,none⟩) 1 c)
  (hcell:w.cell? ⟨g,0,none⟩=some (.int .i64 z)) (hz : -9223372036854775808≤z∧z≤9223372036854775807) (hl:l.length+1≤1099511627776) (hbase:base≤w.heap.size)
  (h:∀v' w',Own w' base v' (l++[z])→w.grownBy w' v.ownBlock→(v'.ownBlock=v.ownBlock∨v'.ownBlock=some w.heap.size)→wpList prog ops Q rest (a.put o.dst v') w'):wpList prog ops Q (o::rest) a w:=by
 obtain⟨i0,hi,hz0,hz1,hz2⟩:=info_parts Tryz.infoInt;refine wpList_append_own_at (P:=prog) w hgd s x 27 ho base 3 i0 _ 1 8 Tryz.underlying27 hi hz0 hz1 hz2 rfl (by omega) v l.length (iv l) hs hown.1 ⟨g,0,none⟩ 1 c [.int .i64 z] hx rfl ?_ ?_ (by unfold maxLen;omega) (by omega) hbase ?_
 ·intro j u hj
  match j,hj with
  |0,hj=>simp at hj;subst hj;simpa[Addr.add] using hcell
 ·intro u hu;simp at hu;subst hu;rfl
 ·intro v' w' h1 h2 _ h4;refine h v' w' ⟨?_,?_,by unfold maxLen;simp;omega⟩ h2 h4
  ·rw[pp,Jv];exact h1
  ·intro n hn
   rcases List.mem_append.1 hn with hn|hn
   ·exact hown.2.1 n hn
   ·simp at hn;subst hn;exact hz
theorem ab (w:World) (o:Obj):Below w.heap.size w (w.alloc o):=(Below.refl _ _).alloc (Jr _) o
theorem Own.empty (w:World) (base:Nat) (hb:base≤w.heap.size):Own (w.alloc (.cells #[] 3)) base (.slice (some ⟨w.heap.size,0,none⟩) 0 0) []:=
 Own.mk' (cs:=[]) (l:=[]) hb (Blk.new w 3 []) (Jr _) (by omega) rfl (fun j hj=>absurd hj (by simp)) (fun _ h=>by simp at h)
theorem dN {w0 w w':World} {v:Value} {l:List Int} (hb:Below w0.heap.size w0 w) (hown:Own w w0.heap.size v l) (hg:w.grownBy w' v.ownBlock):Below w0.heap.size w0 w':=
 hb.trans ((bQ hg hb.size fun k hk=>(hown.lt k hk).1))
theorem bh (w:World) (t:TypeId) (u:Value):(w.alloc (.cells #[u] t)).cell? ⟨w.heap.size,0,none⟩=some u:=by
 exact(Blk.new w t [u]).cell 0
theorem Own.apart {w w':World} {base:Nat} {v u:Value} {l:List Int} (h:Own w base v l) (hb:w.grownBy w' u.ownBlock) (hne:∀k,v.ownBlock=some k→u.ownBlock≠some k):Own w' base v l:=
 ⟨h.1.kept hb (by
  cases hv:v.ownBlock with
  |none=>exact .inl rfl
  |some k=>exact .inr fun e=>hne k hv e.symm),h.2⟩
theorem ai.low {w:World} {v:Value} {l:List Int} (h:ai w v l):∀a n c,v=.slice (some a) n c→0<l.length→a.block<w.heap.size:=by
 obtain⟨⟨A,c,rfl,h1,h2,h3⟩,hwf⟩:=h;intro a n c' e hl;injection e with e1;obtain⟨b,o,hA,hlt,_⟩:=h3 (by rw[be];exact hl);rw[e1] at hA;injection hA with hA;rw[hA];exact hlt
theorem jt {w:World} {base g n:Nat} {cs:List Value} {f:Nat→Int} (hg:base≤g) (hb:Blk w g 3 cs) (hl:cs.length=n) (hn:n≤9223372036854775807) (hcs:∀j,j<n→cs[j]?=some (.int .i64 (f j)))
  (hwf:∀j,j<n → -9223372036854775808≤f j∧f j≤9223372036854775807):Own w base (.slice (some ⟨g,0,none⟩) n n) (gen f n):=by
 have:=Own.mk' (l:=gen f n) hg hb (by rw[ar];exact Jr n) hn hl (fun j hj=>by rw[ar] at hj;rw[bP hj];exact hcs j hj) (xu hwf);rwa[ar] at this
theorem lw {P:Program} (w:World) (base:Nat) (t ty e:TypeId) (i:TypeInfo) (size:Nat) (ht:P.underlying t=some (.slice e)) (hi:P.info? e=some i)
  (v:Value) (n:Nat) (xs:List Value) (hown:w.ownsRow base e size v n xs) (c:Nat):(Builtin.append_ #[t,t] ty #[v,.slice none 0 c]).run P w=.ok v w:=by
 rcases hown.2 with ⟨rfl,rfl⟩|⟨g,cap,cur,rfl,_,_,hnc,_⟩
 ·simp[Builtin.append_,run_underlying ht,sizeOf,typeInfo,hi,Builtin.lenOf,Builtin.firstCells]
 ·simp[Builtin.append_,run_underlying ht,sizeOf,typeInfo,hi,Builtin.lenOf,Builtin.firstCells,hnc,storeCells]
theorem kd {ops:Array Oper} {rest:List Oper} {o:Oper} {a:Act} {Q:Exit→Act→World→Prop} {w:World} (hgd:o.guard=none) (s x:Operand)
  (ho:o.op=.call { callee:=.builtin .append,args := #[s,x],argTypes := #[27,27] })
  (base:Nat) (v u:Value) (l m:List Int) (hs:a.eval s=v) (hown:Own w base v l) (hx:a.eval x=u) (hm:ai w u m)
  (hl:l.length+m.length≤1099511627776) (hbase:base≤w.heap.size)
  (h:∀v' w',Own w' base v' (l++m)→w.grownBy w' v.ownBlock→(v'.ownBlock=v.ownBlock∨v'.ownBlock=some w.heap.size)→wpList prog ops Q rest (a.put o.dst v') w'):wpList prog ops Q (o::rest) a w:=by
 obtain⟨i0,hi,hz0,hz1,hz2⟩:=info_parts Tryz.infoInt;obtain⟨A,c,rfl,hlc,hc,hrd⟩:=hm.open_;have hwf:Wf (l++m):=by
  intro n hn
  rcases List.mem_append.1 hn with hn|hn
  ·exact hown.2.1 n hn
  ·exact hm.2 n hn
 rcases A with _|ad
 ·have hm0:m=[]:=by
   rcases Nat.eq_zero_or_pos m.length with h0|h0
   ·exact List.eq_nil_of_length_eq_zero h0
   ·obtain⟨b,o,e,_⟩:=hrd.ints h0;cases e
  subst hm0;refine wpList_plain hgd fun K hK=>?_;have hrun:=lw (P:=prog) w base 27 o.type 3 i0 1 Tryz.underlying27 hi v l.length (iv l) hown.1 c;unfold Oper.wp execOp;simp only[ho,resolve,invoke,builtin,Sem.run_bind,Sem.run_pure,Result.andThen_ok,List.map_toArray,List.map_cons,List.map_nil,hs,hx,List.length_nil,hrun];exact hK _ _ (h v w (by rw[List.append_nil];exact hown) (World.grownBy.refl w _) (.inl rfl))
 ·refine wpList_append_own_at (P:=prog) w hgd s x 27 ho base 3 i0 _ 1 8 Tryz.underlying27 hi hz0 hz1 hz2 rfl (by omega) v l.length (iv l) hs hown.1 ad m.length c (iv m) hx (by rw[be];omega) ?_ ?_ (by unfold maxLen;omega) (by omega) hbase ?_
  ·intro j u hj;have hjm:j<m.length:=by
    rcases Nat.lt_or_ge j m.length with q|q
    ·exact q
    ·rw[List.getElem?_eq_none (by rw[be];exact q)] at hj;cases hj
   obtain⟨b,o,e,_,hcell⟩:=hrd.ints (by omega);injection e with e;subst e;rw[lV m j hjm] at hj;injection hj with hj;rw[show(⟨b,o,none⟩:Addr).add j=⟨b,o+j,none⟩ from by unfold Addr.add;split <;> simp_all,←hj];exact hcell j hjm
  ·intro u hu;simp[iv] at hu;obtain⟨n,_,rfl⟩:=hu
   rfl
  ·intro v' w' h1 h2 _ h4;refine h v' w' ⟨?_,hwf,by unfold maxLen;simp;omega⟩ h2 h4;rw[pp,Jv];exact h1
theorem mp (v:Value) (l:List Int) (w:World) (hv:ai w v l) (hl:l.length≤1048576):
  Calls prog 209 #[v] w fun x w'=>∃r,x=.returned r∧Own w' w.heap.size r l∧Below w.heap.size w w':=by
 have hv':=Jj hv;obtain⟨A,c,rfl,hlc,hc,hrd⟩:=hv.open_;have hq:=fun W=>Lib.run_eql_slice_nil (P:=prog) W 27 3 A l.length c 0 0 Tryz.underlying27
 rcases A with _|ad
 ·have hl0:l=[]:=by
   rcases Nat.eq_zero_or_pos l.length with h0|h0
   ·exact List.eq_nil_of_length_eq_zero h0
   ·obtain⟨b,o,e,_⟩:=hrd.ints h0;cases e
  subst hl0;simp only[List.length_nil] at hq
  go_enter func209,ntmps209
  go_wp2;go_ret;exact⟨_,rfl,Own.nil_ _ _,Below.refl _ _⟩
 ·have OE:=Jj (Own.empty w w.heap.size (Jr _))
  go_enter func209,ntmps209
  go_wp2_with (at_builtin;go_must (refine kd rfl _ _ (by rfl) w.heap.size _ _ [] l (by rfl) (by exact OE.out) (by rfl) (by exact hv'.out.bel (ab _ _)) (by simp only[List.length_nil];omega) (by simp) ?_);intro v1 w1 ho hg _)
  go_ret;exact⟨_,rfl,ho,dN (ab _ _) OE.out hg⟩
theorem Own.lower {w:World} {base base':Nat} {v:Value} {l:List Int} (h:Own w base v l) (hb:base'≤base):Own w base' v l:=by
 refine⟨⟨h.1.1,?_⟩,h.2⟩
 rcases h.1.2 with q|⟨g1,cap,cur,q1,q2,q3⟩
 ·exact .inl q
 ·exact .inr ⟨g1,cap,cur,q1,by omega,q3⟩
theorem re {l:List Int} {j:Nat} {z:Int} (i:Nat) (hj:j<l.length):at_ (l.set j z) i=if i=j then z else at_ l i:=by
 unfold at_;simp only[List.getD,List.getElem?_set];by_cases e:i=j
 ·subst e;simp[hj]
 ·rw[if_neg (fun h=>e h.symm),if_neg e]
theorem IU {l:List Int} {j:Nat} {z:Int} (h:Wf l) (hz : -9223372036854775808≤z∧z≤9223372036854775807):Wf (l.set j z):=by
 intro n hn
 rcases List.mem_or_eq_of_mem_set hn with h1|h1
 ·exact h n h1
 ·rw[h1];exact hz
theorem Own.set_ {w:World} {base b n cap:Nat} {l:List Int} (h:Own w base (.slice (some ⟨b,0,none⟩) n cap) l) (j:Nat) (z:Int) (hj:j<l.length) (hz : -9223372036854775808≤z∧z≤9223372036854775807):
  Own (w.setCell ⟨b,j,none⟩ (.int .i64 z)) base (.slice (some ⟨b,0,none⟩) n cap) (l.set j z):=by
 rcases h.form with ⟨e,_⟩|⟨g1,cap1,cs,e,hg,hblk,h1,h2,h3,h4⟩
 ·cases e
 ·injection e with e1 e2 e3;injection e1 with e1;injection e1 with e1;subst e1 e2 e3;have:=Own.mk' (l:=l.set j z) (cs:=cs.set j (.int .i64 z)) hg (hblk.set_ j (.int .i64 z)) (by rw[List.length_set];exact h1) h2 (by rw[List.length_set];exact h3) (fun i hi=>by
   rw[List.length_set] at hi;rw[re i hj];by_cases q:i=j
   ·subst q;rw[List.getElem?_set_self (by omega),if_pos rfl]
   ·rw[List.getElem?_set_ne (by omega),if_neg q];exact h4 i hi) (IU h.2.1 hz)
  rwa[List.length_set] at this
theorem Own.openN {w:World} {base:Nat} {v:Value} {l:List Int} (h:Own w base v l) (hl:0<l.length):
  ∃b cap,v=.slice (some ⟨b,0,none⟩) l.length cap∧base≤b∧b<w.heap.size∧l.length≤cap∧cap≤9223372036854775807∧∀j,j<l.length→w.cell? ⟨b,j,none⟩=some (.int .i64 (at_ l j))∧w.frozen? ⟨b,j,none⟩=false:=by
 rcases h.form with ⟨_,e⟩|⟨b,cap,cs,e,hg,hblk,h1,h2,h3,h4⟩
 ·subst e;simp at hl
 ·exact⟨b,cap,e,hg,hblk.lt,h1,h2,fun j hj=>⟨by rw[hblk.cell];exact h4 j hj,hblk.frozen j⟩⟩
def Je (v u:Value):Prop:=∀k,v.ownBlock=some k→u.ownBlock≠some k
theorem aL (n a b:Int) (w:World):
  Calls prog 72 #[.int .i64 n,.int .i64 a,.int .i64 b] w fun e w'=>e=.returned (.bool (inB n a b))∧w=w':=by
 go_enter func72,ntmps72
 go_wp2
 all_goals (go_ret;refine⟨?_,rfl⟩;simp_all [inB])
 omega
theorem gu (n:Int) (w:World):
  Calls prog 218 #[.int .i64 n] w fun e w'=>e=.returned (.bool (inB n 0 1000))∧w=w':=by
 go_enter func218,ntmps218
 go_wp2
 all_goals (go_ret;refine⟨?_,rfl⟩;simp_all [inB])
 omega
def ag (l:List Int):Bool:=inB (l.length:Int) 1 60&&l.all (fun t=>inB t (-1000000000) 1000000000)
theorem aA {l:List Int} (h:ag l=true):1≤l.length∧l.length≤60∧∀k,k<l.length → -1000000000≤at_ l k∧at_ l k≤1000000000:=by
 simp only[ag,JB,am,List.all_eq_true] at h;exact⟨by omega,by omega,fun k hk=>h.2 _ (bG l k hk)⟩
theorem aX (n b:Int) (w:World) (h0:0≤b) (h1:b≤1000000000000):
  Calls prog 199 #[.int .i64 n,.int .i64 b] w fun e w'=>e=.returned (.bool (inB n (-b) b))∧w=w':=by
 go_enter func199,ntmps199
 go_wp2
 all_goals (go_ret;refine⟨?_,rfl⟩;simp_all [inB])
 omega
theorem fd (v:Value) (l:List Int) (b:Int) (w:World) (hv:ai w v l) (h0:0≤b) (h1:b≤1000000000000):
  Calls prog 191 #[v,.int .i64 b] w fun e w'=>e=.returned (.bool (l.all fun t=>inB t (-b) b))∧w=w':=by
 obtain⟨A,c,rfl,hlc,hc,hrd⟩:=hv.open_
 go_enter func191,ntmps191
 go_wp2
 go_loop [9] (fun i=>∃k:Nat,k≤l.length∧i=.int .i64 k∧∀j,j<k→inB (at_ l j) (-b) b=true) (fun i=>l.length-(intOf i).toNat)
 case atStart=>exact⟨0,Jy _,rfl,fun j hj=>absurd hj (by omega)⟩
 case round=>
  obtain⟨k,hk,rfl,hall⟩:=hrel;have HA:=Jj hall;clear hall;by_cases hlt:k<l.length
  ·obtain⟨bb,o,rfl,hb,hcell⟩:=hrd.ints (by omega);have hck:=hcell k hlt;clear hcell
   go_wp2_with (go_at_call 199;refine(aX _ _ _ (by omega) (by omega)).mono ?_;rintro e w' ⟨rfl,rfl⟩)
   ·go_ret;have h:(!inB (at_ l k) (-b) b)=true:=by assumption
    exact⟨aD (oO (p:=fun t=>inB t (-b) b) hlt (by simpa using h)).symm,rfl⟩
   ·have h:(!inB (at_ l k) (-b) b)=false:=by assumption
    go_round
    case rel=>exact⟨k+1,by omega,by go_num,cS HA.out (by simpa using h)⟩
    case measure=>simp[intOf];omega
  ·go_wp2;go_ret;exact⟨aD (rd (p:=fun t=>inB t (-b) b) (fun j hj=>HA.out j (by omega))).symm,rfl⟩
def iV (l:List Int) (m b:Int):Bool:=inB (l.length:Int) 1 m&&l.all fun t=>inB t (-b) b
theorem aF (v:Value) (l:List Int) (w:World) (hv:ai w v l):
  Calls prog 115 #[v] w fun e w'=>e=.returned (.bool (ag l))∧w=w':=by
 have hv':=Jj hv;obtain⟨A,c,rfl,hlc,hc,hrd⟩:=hv.open_;by_cases h1:1≤l.length
 ·by_cases h2:l.length≤60
  ·have H:inB (l.length:Int) 1 60=true:=am.2 (by omega);have HH:=Jj H;clear H
   go_enter func115,ntmps115
   go_wp2_with (go_at_call 191;refine(fd _ _ _ _ hv'.out (by omega) (by omega)).mono ?_;rintro e w' ⟨rfl,rfl⟩)
   go_ret;exact⟨aD (by rw[ag,HH.out];rfl),rfl⟩
  ·have H:inB (l.length:Int) 1 60=false:=bm.2 (by omega);have HH:=Jj H;clear H
   go_enter func115,ntmps115
   go_wp2;go_ret;exact⟨aD (by rw[ag,HH.out];rfl),rfl⟩
 ·have H:inB (l.length:Int) 1 60=false:=bm.2 (by omega);have HH:=Jj H;clear H
  go_enter func115,ntmps115
  go_wp2;go_ret;exact⟨aD (by rw[ag,HH.out];rfl),rfl⟩
theorem az (v:Value) (l:List Int) (w:World) (hv:ai w v l):
  Calls prog 32 #[v] w fun e w'=>e=.returned (.bool (ag l))∧w=w':=by
 obtain⟨A,c,rfl,hlc,hc,hrd⟩:=hv.open_
 go_enter func32,ntmps32
 go_wp2
 go_loop [3] (fun i=>∃k:Nat,k≤l.length∧i=.int .i64 k∧∀j,j<k→inB (at_ l j) (-1000000000) 1000000000=true) (fun i=>l.length-(intOf i).toNat)
 case atStart=>exact⟨0,Jy _,rfl,fun j hj=>absurd hj (by omega)⟩
 case round=>
  obtain⟨k,hk,rfl,hall⟩:=hrel;have HA:=Jj hall;clear hall;by_cases hlt:k<l.length
  ·obtain⟨b,o,rfl,hb,hcell⟩:=hrd.ints (by omega);have hck:=hcell k hlt;clear hcell
   go_wp2_with (go_at_call 72;refine(aL _ _ _ _).mono ?_;rintro e w' ⟨rfl,rfl⟩)
   ·go_ret;have h:(!inB (at_ l k) (-1000000000) 1000000000)=true:=by assumption
    exact⟨aD (by rw[ag,oO (p:=fun t=>inB t (-1000000000) 1000000000) hlt (by simpa using h)];simp),rfl⟩
   ·have h:(!inB (at_ l k) (-1000000000) 1000000000)=false:=by assumption
    go_round
    case rel=>exact⟨k+1,by omega,by go_num,cS HA.out (by simpa using h)⟩
    case measure=>simp[intOf];omega
  ·go_wp2_with (go_at_call 72;refine(aL _ _ _ _).mono ?_;rintro e w' ⟨rfl,rfl⟩)
   go_ret;exact⟨aD (by rw[ag,rd (p:=fun t=>inB t (-1000000000) 1000000000) (fun j hj=>HA.out j (by omega))];simp),rfl⟩
def sgn (ps:List (Nat×List Int)) (k:Nat):Nat:=(ps.getD k (0,[])).1
def sgp (ps:List (Nat×List Int)) (k:Nat):List Int:=(ps.getD k (0,[])).2
def sgu (us:List Value) (k:Nat):Value:=us.getD k (.slice none 0 0)
def sgC:List (Nat×List Int)→List Value→List Value
 |p::ps,u::us=>.int .i64 (p.1:Int)::u::sgC ps us
 |_,_=>[]
theorem DE:∀ {ps:List (Nat×List Int)} {us:List Value} {k:Nat},us.length=ps.length→k<ps.length→(sgC ps us)[k*2]?=some (.int .i64 (sgn ps k:Int))∧(sgC ps us)[k*2+1]?=some (sgu us k)
 |[],_,k,_,hk=>by simp at hk
 |_::_,[],k,h,_=>by simp at h
 |p::ps,u::us,0,h,hk=>by simp[sgC,sgn,sgu]
 |p::ps,u::us,k+1,h,hk=>by
  have ih:=DE (ps:=ps) (us:=us) (k:=k) (by simpa using h) (by simpa using hk);have e:(k+1)*2=k*2+1+1:=by omega
  simp only[sgC,e,List.getElem?_cons_succ];simpa[sgn,sgu] using ih
theorem He {ps:List (Nat×List Int)} {us:List Value} (h:us.length=ps.length) (n:Nat) (p:List Int) (u:Value):sgC (ps++[(n,p)]) (us++[u])=sgC ps us++[.int .i64 (n:Int),u]:=by
 induction ps generalizing us with
 |nil=>cases us with
  |nil=>rfl
  |cons _ _=>simp at h
 |cons q ps ih=>cases us with
  |nil=>simp at h
  |cons u us=>simp only[List.cons_append,sgC,ih (us:=us) (by simpa using h)]
theorem DH {ps:List (Nat×List Int)} {us:List Value} (h:us.length=ps.length) (n:Nat) (p:List Int) (u:Value) (k:Nat) (hk:k<ps.length+1):
  (k<ps.length∧sgu (us++[u]) k=sgu us k∧sgp (ps++[(n,p)]) k=sgp ps k)∨(sgu (us++[u]) k=u∧sgp (ps++[(n,p)]) k=p):=by
 rcases Nat.lt_or_ge k ps.length with h1|h1
 ·refine .inl ⟨h1,?_,?_⟩
  ·unfold sgu;simp only[List.getD];rw[List.getElem?_append_left (by omega)]
  ·unfold sgp;simp only[List.getD];rw[List.getElem?_append_left (by omega)]
 ·obtain rfl:k=ps.length:=by omega
  refine .inr ⟨?_,?_⟩
  ·unfold sgu;simp[List.getD,←h]
  ·unfold sgp;simp[List.getD]
def oM (w:World) (v:Value) (ps:List (Nat×List Int)):Prop:=
 ∃(us:List Value) (A:Option Addr) (c:Nat),us.length=ps.length∧v=.slice A ps.length c∧ps.length≤c∧c≤9223372036854775807 ∧
  (0<ps.length→∃b o,A=some ⟨b,o,none⟩∧b<w.heap.size∧∀k,k<ps.length→w.cell? ⟨b,o+k*2,none⟩=some (.int .i64 (sgn ps k:Int))∧w.cell? ⟨b,o+k*2+1,none⟩=some (sgu us k)) ∧
  ∀k,k<ps.length→ai w (sgu us k) (sgp ps k)
def bZ (w:World) (base:Nat) (v:Value) (ps:List (Nat×List Int)):Prop:=
 ∃us:List Value,us.length=ps.length∧w.ownsRow base 159 2 v ps.length (sgC ps us)∧ps.length≤1048576∧∀k,k<ps.length→Own w 0 (sgu us k) (sgp ps k)
theorem bZ.read {w:World} {base:Nat} {v:Value} {ps:List (Nat×List Int)} (h:bZ w base v ps):oM w v ps:=by
 obtain⟨us,h1,h2,h3,h4⟩:=h
 rcases h2.2 with ⟨rfl,hn⟩|⟨g,cap,cur,rfl,hg,hh,hnc,hcm,hs,ht⟩
 ·have:ps=[]:=List.eq_nil_of_length_eq_zero hn;subst this;exact⟨us,none,0,h1,rfl,Jr _,Jy _,fun h=>absurd h (by simp),fun k hk=>absurd hk (by simp)⟩
 ·have hlt:g<w.heap.size:=(Array.getElem?_eq_some_iff.1 hh).1;have hcl:=h2.cells (g:=g) rfl;refine⟨us,some ⟨g,0,none⟩,cap,h1,rfl,hnc,by unfold maxLen at hcm;omega,fun hn=>⟨g,0,rfl,hlt,fun k hk=>?_⟩,fun k hk=>(h4 k hk).ints⟩;obtain⟨e1,e2⟩:=DE h1 hk;have a1:=hcl _ _ e1;have a2:=hcl _ _ e2;have f:∀j,(⟨g,0,none⟩:Addr).add j=⟨g,0+j,none⟩:=fun j=>by unfold Addr.add;split <;> simp_all
  rw[f] at a1 a2;exact⟨a1,by rw[Nat.add_assoc];exact a2⟩
theorem bZ.lt {w:World} {base:Nat} {v:Value} {ps:List (Nat×List Int)} (h:bZ w base v ps):∀k,v.ownBlock=some k→base≤k∧k<w.heap.size:=by
 obtain⟨us,h1,h2,h3,h4⟩:=h;exact h2.lt
theorem bZ.bel {w w':World} {base:Nat} {v:Value} {ps:List (Nat×List Int)} (h:bZ w base v ps) (hb:Below w.heap.size w w'):bZ w' base v ps:=by
 obtain⟨us,h1,h2,h3,h4⟩:=h;exact⟨us,h1,h2.kept (row:=none) ⟨hb.os,hb.tape,hb.output,hb.size,fun i hi _=>hb.block i hi⟩ (by cases v.ownBlock <;> simp),h3,fun k hk=>(h4 k hk).bel hb⟩
theorem bZ.nil_ (w:World) (base:Nat):bZ w base (.slice none 0 0) []:=⟨[],rfl,World.ownsRow_nil _ _ _ _,by simp,fun k hk=>absurd hk (by simp)⟩
theorem bZ.lower {w:World} {base base':Nat} {v:Value} {ps:List (Nat×List Int)} (h:bZ w base v ps) (hb:base'≤base):bZ w base' v ps:=by
 obtain⟨us,h1,h2,h3,h4⟩:=h;refine⟨us,h1,⟨h2.1,?_⟩,h3,h4⟩
 rcases h2.2 with q|⟨g1,cap,cur,q1,q2,q3⟩
 ·exact .inl q
 ·exact .inr ⟨g1,cap,cur,q1,by omega,q3⟩
theorem Tryz.infoSeg:(prog.info? 159).map (fun i=>(i.zero,i.size,i.bytes))=some (some (.agg #[.int .i64 0,.slice none 0 0]),2,32):=by kernel_rfl
theorem k8 {P:Program} {e:TypeId} {z:Value} {s b:Nat} (h:(P.info? e).map (fun i=>(i.zero,i.size,i.bytes))=some (some z,s,b)):∃i,P.info? e=some i∧i.zero=some z∧i.size=s∧i.bytes=b:=by
 cases hi:P.info? e with
 |none=>rw[hi] at h;cases h
 |some i=>
  rw[hi] at h;injection h with h;injection h with h1 h;injection h with h2 h3;exact⟨i,rfl,h1,h2,h3⟩
theorem qq {w:World} {base:Nat} {v u:Value} {n:Nat} {xs:List Value} {l:List Int} (hv:w.ownsRow base 159 2 v n xs) (hu:Own w 0 u l):∀k,u.ownBlock=some k→v.ownBlock≠some k:=by
 intro k hk e
 rcases hv.2 with ⟨rfl,-⟩|⟨g,cap,cur,rfl,-,hh,-⟩
 ·cases e
 ·injection e with e;subst e
  rcases hu.1.2 with ⟨rfl,-⟩|⟨g2,cap2,cur2,rfl,-,hh2,-⟩
  ·cases hk
  ·injection hk with hk;subst hk;rw[hh] at hh2;injection hh2 with hh2;injection hh2 with _ hh2;exact absurd hh2 (by decide)
theorem lO {ops:Array Oper} {rest:List Oper} {o:Oper} {a:Act} {Q:Exit→Act→World→Prop} {w:World} (hgd:o.guard=none) (s x:Operand)
  (ho:o.op=.call { callee:=.builtin .append,args := #[s,x],argTypes := #[125,125] })
  (base:Nat) (v:Value) (ps:List (Nat×List Int)) (hs:a.eval s=v) (hown:bZ w base v ps) (g c n:Nat) (p:List Int) (u:Value) (hx:a.eval x=.slice (some ⟨g,0,none⟩) 1 c)
  (hcell:Blk w g 159 [.int .i64 (n:Int),u]) (hu:Own w 0 u p) (hl:ps.length+1≤1048576) (hbase:base≤w.heap.size)
  (h:∀v' w',bZ w' base v' (ps++[(n,p)])→w.grownBy w' v.ownBlock→(v'.ownBlock=v.ownBlock∨v'.ownBlock=some w.heap.size)→wpList prog ops Q rest (a.put o.dst v') w'):wpList prog ops Q (o::rest) a w:=by
 obtain⟨i0,hi,hz0,hz1,hz2⟩:=k8 Tryz.infoSeg;obtain⟨us,k1,k2,k3,k4⟩:=hown;refine wpList_append_own_at (P:=prog) w hgd s x 125 ho base 159 i0 _ 2 32 Tryz.underlying125 hi hz0 hz1 hz2 rfl (by omega) v ps.length (sgC ps us) hs k2 ⟨g,0,none⟩ 1 c [.int .i64 (n:Int),u] hx rfl ?_ ?_ (by unfold maxLen;omega) (by omega) hbase ?_
 ·intro j z hj;have f:(⟨g,0,none⟩:Addr).add j=⟨g,j,none⟩:=by unfold Addr.add;split <;> simp_all
  rw[f,hcell.cell];exact hj
 ·intro z hz;have ho2:u.oneCell'=true:=by
   rcases hu.1.2 with ⟨rfl,-⟩|⟨g2,cap2,cur2,rfl,-⟩ <;> rfl
  simp at hz
  rcases hz with rfl|rfl
  ·rfl
  ·exact ho2
 ·intro v' w' h1 h2 _ h4;refine h v' w' ⟨us++[u],by simp[k1],?_,by simp;omega,fun k hk=>?_⟩ h2 h4
  ·rw[He k1,Jv];exact h1
  ·rw[Jv] at hk
   rcases DH k1 n p u k (by simpa using hk) with ⟨q1,q2,q3⟩|⟨q2,q3⟩
   ·rw[q2,q3];exact(k4 k q1).apart h2 (fun q hq=>qq k2 (k4 k q1) q hq)
   ·rw[q2,q3];exact hu.apart h2 (fun q hq=>qq k2 hu q hq)
abbrev Etm:=Int×Int×Int
def aC (es:List Etm) (k:Nat):Etm:=es.getD k (0,0,0)
theorem iC {es:List Etm} {k:Nat} (h:k<es.length):aC es k=es[k]:=by simp[aC,List.getD,h]
def kr (x:Etm):Prop:=(-9223372036854775808≤x.1∧x.1≤9223372036854775807)∧(-9223372036854775808≤x.2.1∧x.2.1≤9223372036854775807)∧(-9223372036854775808≤x.2.2∧x.2.2≤9223372036854775807)
def etC:List Etm→List Value
 |x::es=>.int .i64 x.1 :: .int .i64 x.2.1 :: .int .i64 x.2.2::etC es
 |[]=>[]
theorem Ct:∀ {es:List Etm} {k:Nat},k<es.length→(etC es)[k*3]?=some (.int .i64 (aC es k).1)∧(etC es)[k*3+1]?=some (.int .i64 (aC es k).2.1)∧(etC es)[k*3+2]?=some (.int .i64 (aC es k).2.2)
 |[],k,hk=>by simp at hk
 |x::es,0,hk=>by simp[etC,aC]
 |x::es,k+1,hk=>by
  have ih:=Ct (es:=es) (k:=k) (by simpa using hk);have e:(k+1)*3=k*3+1+1+1:=by omega
  simp only[etC,e,List.getElem?_cons_succ];simpa[aC] using ih
theorem sM (es:List Etm) (x:Etm):etC (es++[x])=etC es++[.int .i64 x.1,.int .i64 x.2.1,.int .i64 x.2.2]:=by
 induction es with
 |nil=>rfl
 |cons y es ih=>simp only[List.cons_append,etC,ih]
def EtR (w:World) (v:Value) (es:List Etm):Prop:=
 ∃(A:Option Addr) (c:Nat),v=.slice A es.length c∧es.length≤c∧c≤9223372036854775807 ∧
  (0<es.length→∃b o,A=some ⟨b,o,none⟩∧b<w.heap.size∧∀k,k<es.length→w.cell? ⟨b,o+k*3,none⟩=some (.int .i64 (aC es k).1)∧w.cell? ⟨b,o+k*3+1,none⟩=some (.int .i64 (aC es k).2.1)∧w.cell? ⟨b,o+k*3+2,none⟩=some (.int .i64 (aC es k).2.2)) ∧
  ∀k,k<es.length→kr (aC es k)
def EtO (w:World) (base:Nat) (v:Value) (es:List Etm):Prop:=
 w.ownsRow base 111 3 v es.length (etC es)∧es.length≤1048576∧∀k,k<es.length→kr (aC es k)
theorem EtO.read {w:World} {base:Nat} {v:Value} {es:List Etm} (h:EtO w base v es):EtR w v es:=by
 obtain⟨h2,h3,h4⟩:=h
 rcases h2.2 with ⟨rfl,hn⟩|⟨g,cap,cur,rfl,hg,hh,hnc,hcm,hs,ht⟩
 ·have:es=[]:=List.eq_nil_of_length_eq_zero hn;subst this;exact⟨none,0,rfl,Jr _,Jy _,fun h=>absurd h (by simp),fun k hk=>absurd hk (by simp)⟩
 ·have hlt:g<w.heap.size:=(Array.getElem?_eq_some_iff.1 hh).1;have hcl:=h2.cells (g:=g) rfl;refine⟨some ⟨g,0,none⟩,cap,rfl,hnc,by unfold maxLen at hcm;omega,fun hn=>⟨g,0,rfl,hlt,fun k hk=>?_⟩,h4⟩;obtain⟨e1,e2,e3⟩:=Ct hk;have a1:=hcl _ _ e1;have a2:=hcl _ _ e2;have a3:=hcl _ _ e3;have f:∀j,(⟨g,0,none⟩:Addr).add j=⟨g,0+j,none⟩:=fun j=>by unfold Addr.add;split <;> simp_all
  rw[f] at a1 a2 a3;exact⟨a1,by rw[Nat.add_assoc];exact a2,by rw[Nat.add_assoc];exact a3⟩
theorem EtO.lt {w:World} {base:Nat} {v:Value} {es:List Etm} (h:EtO w base v es):∀k,v.ownBlock=some k→base≤k∧k<w.heap.size:=h.1.lt
theorem EtO.bel {w w':World} {base:Nat} {v:Value} {es:List Etm} (h:EtO w base v es) (hb:Below w.heap.size w w'):EtO w' base v es:=
 ⟨h.1.kept (row:=none) ⟨hb.os,hb.tape,hb.output,hb.size,fun i hi _=>hb.block i hi⟩ (by cases v.ownBlock <;> simp),h.2⟩
theorem EtO.nil_ (w:World) (base:Nat):EtO w base (.slice none 0 0) []:=⟨World.ownsRow_nil _ _ _ _,by simp,fun k hk=>absurd hk (by simp)⟩
theorem EtO.lower {w:World} {base base':Nat} {v:Value} {es:List Etm} (h:EtO w base v es) (hb:base'≤base):EtO w base' v es:=by
 obtain⟨h2,h3,h4⟩:=h;refine⟨⟨h2.1,?_⟩,h3,h4⟩
 rcases h2.2 with q|⟨g1,cap,cur,q1,q2,q3⟩
 ·exact .inl q
 ·exact .inr ⟨g1,cap,cur,q1,by omega,q3⟩
theorem EtO.empty (w:World) (base:Nat) (hb:base≤w.heap.size):EtO (w.alloc (.cells #[] 111)) base (.slice (some ⟨w.heap.size,0,none⟩) 0 0) []:=by
 refine⟨⟨rfl,.inr ⟨w.heap.size,0,#[],rfl,hb,?_,Jr _,by unfold maxLen;omega,rfl,rfl⟩⟩,by simp,fun k hk=>absurd hk (by simp)⟩;exact Blk.new w 111 []
theorem Tryz.infoEt:(prog.info? 111).map (fun i=>(i.zero,i.size,i.bytes))=some (some (.agg #[.int .i64 0,.int .i64 0,.int .i64 0]),3,24):=by kernel_rfl
theorem Hq {ops:Array Oper} {rest:List Oper} {o:Oper} {a:Act} {Q:Exit→Act→World→Prop} {w:World} (hgd:o.guard=none) (s x:Operand)
  (ho:o.op=.call { callee:=.builtin .append,args := #[s,x],argTypes := #[73,73] })
  (base:Nat) (v:Value) (es:List Etm) (hs:a.eval s=v) (hown:EtO w base v es) (g c:Nat) (y:Etm) (hx:a.eval x=.slice (some ⟨g,0,none⟩) 1 c)
  (hcell:Blk w g 111 [.int .i64 y.1,.int .i64 y.2.1,.int .i64 y.2.2]) (hy:kr y) (hl:es.length+1≤1048576) (hbase:base≤w.heap.size)
  (h:∀v' w',EtO w' base v' (es++[y])→w.grownBy w' v.ownBlock→(v'.ownBlock=v.ownBlock∨v'.ownBlock=some w.heap.size)→wpList prog ops Q rest (a.put o.dst v') w'):wpList prog ops Q (o::rest) a w:=by
 obtain⟨i0,hi,hz0,hz1,hz2⟩:=k8 Tryz.infoEt;obtain⟨k2,k3,k4⟩:=hown;refine wpList_append_own_at (P:=prog) w hgd s x 73 ho base 111 i0 _ 3 24 Tryz.underlying73 hi hz0 hz1 hz2 rfl (by omega) v es.length (etC es) hs k2 ⟨g,0,none⟩ 1 c [.int .i64 y.1,.int .i64 y.2.1,.int .i64 y.2.2] hx rfl ?_ ?_ (by unfold maxLen;omega) (by omega) hbase ?_
 ·intro j z hj;have f:(⟨g,0,none⟩:Addr).add j=⟨g,j,none⟩:=by unfold Addr.add;split <;> simp_all
  rw[f,hcell.cell];exact hj
 ·intro z hz;simp at hz
  rcases hz with rfl|rfl|rfl <;> rfl
 ·intro v' w' h1 h2 _ h4;refine h v' w' ⟨?_,by simp;omega,fun k hk=>?_⟩ h2 h4
  ·rw[sM,Jv];exact h1
  ·rw[Jv,List.length_singleton] at hk
   rcases Nat.lt_or_ge k es.length with q|q
   ·have:aC (es++[y]) k=aC es k:=by unfold aC;simp only[List.getD];rw[List.getElem?_append_left q]
    rw[this];exact k4 k q
   ·obtain rfl:k=es.length:=by omega
    have:aC (es++[y]) es.length=y:=by unfold aC;simp[List.getD]
    rw[this];exact hy
theorem kc {w0 w w':World} {v:Value} {es:List Etm} (hb:Below w0.heap.size w0 w) (hown:EtO w w0.heap.size v es) (hg:w.grownBy w' v.ownBlock):Below w0.heap.size w0 w':=
 hb.trans ((bQ hg hb.size fun k hk=>(hown.lt k hk).1))
theorem EtO.open_ {w:World} {base:Nat} {v:Value} {es:List Etm} (h:EtO w base v es):∃A c,v=.slice A es.length c:=by
 obtain⟨A,c,h1,-⟩:=h.read;exact⟨A,c,h1⟩
theorem qC {ops:Array Oper} {o:Oper} {a:Act} {K:Act→World→Prop} {Q:Exit→Act→World→Prop} {E:Prop} {w:World} (hgd:o.guard=none) (s x:Operand)
  (ho:o.op=.call { callee:=.builtin .append,args := #[s,x],argTypes := #[73,73] })
  (base:Nat) (v:Value) (es:List Etm) (hs:a.eval s=v) (hown:EtO w base v es) (g c:Nat) (y:Etm) (hx:a.eval x=.slice (some ⟨g,0,none⟩) 1 c)
  (hcell:Blk w g 111 [.int .i64 y.1,.int .i64 y.2.1,.int .i64 y.2.2]) (hy:kr y) (hl:es.length+1≤1048576) (hbase:base≤w.heap.size)
  (h:∀A c' w',EtO w' base (.slice A (es.length+1) c') (es++[y])→w.grownBy w' v.ownBlock→K (a.put o.dst (.slice A (es.length+1) c')) w'):
  if Region.wanted o (yielded ops a.tmps)=true then Oper.wp prog o a w K Q else E:=by
 have hw:Region.wanted o (yielded ops a.tmps)=true:=by simp[Region.wanted,hgd]
 rw[if_pos hw];obtain⟨i0,hi,hz0,hz1,hz2⟩:=k8 Tryz.infoEt;obtain⟨k2,k3,k4⟩:=hown;obtain⟨v',w',hrun,h2,h3,_,h5⟩:=run_append_own_at (P:=prog) w base 73 o.type 111 i0 _ 3 24 Tryz.underlying73 hi hz0 hz1 hz2 rfl (by omega) v es.length (etC es) k2 ⟨g,0,none⟩ 1 c [.int .i64 y.1,.int .i64 y.2.1,.int .i64 y.2.2] rfl (by
  intro j u hj;have f:(⟨g,0,none⟩:Addr).add j=⟨g,j,none⟩:=by unfold Addr.add;split <;> simp_all
  rw[f,hcell.cell];exact hj) (by intro z hz;simp at hz;rcases hz with rfl|rfl|rfl <;> rfl) (by unfold maxLen;omega) (by omega) hbase
 have ho':EtO w' base v' (es++[y]):=by
  refine⟨?_,by simp;omega,fun k hk=>?_⟩
  ·rw[sM,Jv];exact h2
  ·rw[Jv,List.length_singleton] at hk
   rcases Nat.lt_or_ge k es.length with q|q
   ·have:aC (es++[y]) k=aC es k:=by unfold aC;simp only[List.getD];rw[List.getElem?_append_left q]
    rw[this];exact k4 k q
   ·obtain rfl:k=es.length:=by omega
    have:aC (es++[y]) es.length=y:=by unfold aC;simp[List.getD]
    rw[this];exact hy
 obtain⟨A',c',hv⟩:=ho'.open_;rw[show(es++[y]).length=es.length+1 by simp] at hv;subst hv;unfold Oper.wp execOp;simp only[ho,resolve,invoke,builtin,Sem.run_bind,Sem.run_pure,Result.andThen_ok,List.map_toArray,List.map_cons,List.map_nil,hs,hx,hrun];exact h _ _ w' ho' h3
end Go.Proofs.YtfmjklgfpiffbaaGreatDoor
namespace Go.Proofs.YtfmjklgfpiffbaaGreatDoor
open Go.RowKit
set_option linter.unusedVariables false
set_option maxRecDepth 100000
def sat (l:List ByteArray) (k:Nat):ByteArray:=l.getD k ByteArray.empty
theorem bV (l:List ByteArray) (k:Nat) (h:k<l.length):sat l k=l[k]:=by simp[sat,List.getD,h]
theorem cJ (l:List ByteArray) (k:Nat) (h:k<l.length):sat l k∈l:=by rw[bV l k h];exact List.getElem_mem h
theorem wU (l:List ByteArray) (k:Nat) (h:k<l.length):l[k]?=some (sat l k):=by rw[bV l k h];exact List.getElem?_eq_getElem h
def sv (l:List ByteArray):List Value:=l.map Value.string
theorem ed (l:List ByteArray):(sv l).length=l.length:=by simp[sv]
theorem pK (l:List ByteArray) (k:Nat) (h:k<l.length):(sv l)[k]?=some (.string (sat l k)):=by
 simp[sv,wU l k h]
theorem uq (l m:List ByteArray):sv (l++m)=sv l++sv m:=by simp[sv]
def WfS (l:List ByteArray):Prop:=∀s∈l,s.size≤9223372036854775807
theorem WfS.at (l:List ByteArray) (h:WfS l) (k:Nat):(sat l k).size≤9223372036854775807:=by
 by_cases hk:k<l.length
 ·exact h _ (cJ l k hk)
 ·have:sat l k=ByteArray.empty:=by simp[sat,List.getD,List.getElem?_eq_none (Nat.le_of_not_lt hk)]
  rw[this];simp
def aG (w:World) (v:Value) (l:List ByteArray):Prop:=Sl w v (sv l)∧WfS l
section
variable {w w':World} {v:Value} {A:Option Addr} {xs:List Value} {l:List ByteArray}
theorem aG.below {B:Nat} (h:aG w v l) (hb:Below B w w') (hB:w.heap.size≤B):aG w' v l:=⟨h.1.below hb hB,h.2⟩
theorem aG.bel (h:aG w v l) (hb:Below w.heap.size w w'):aG w' v l:=h.below hb (Jr _)
theorem aG.open_ (h:aG w v l):∃A c,v=.slice A l.length c∧l.length≤c∧c≤9223372036854775807∧Rd w A (sv l):=by
 obtain⟨⟨A,c,e,h1,h2,h3⟩,_⟩:=h;rw[ed] at e h1;exact⟨A,c,e,h1,by unfold maxLen at h2;omega,h3⟩
theorem Rd.strs (h:Rd w A (sv l)) (hn:0<l.length):∃b o,A=some ⟨b,o,none⟩∧b<w.heap.size∧∀k,k<l.length→w.cell? ⟨b,o+k,none⟩=some (.string (sat l k)):=by
 obtain⟨b,o,e,hb,hc⟩:=h (by rw[ed];exact hn);exact⟨b,o,e,hb,fun k hk=>hc k _ (pK l k hk)⟩
end
theorem Ij {cs:List Value} {l:List ByteArray} (hl:cs.length=l.length) (h:∀j,j<l.length→cs[j]?=some (.string (sat l j))):cs=sv l:=by
 apply List.ext_getElem?
 intro j;by_cases hj:j<l.length
 ·rw[h j hj,pK l j hj]
 ·rw[List.getElem?_eq_none (by omega),List.getElem?_eq_none (by rw[ed];omega)]
theorem IL {cs:List Value} {l:List ByteArray} {k:Nat} (hl:cs.length=l.length) (hk:k<l.length) (h:∀j,j<k→cs[j]?=some (.string (sat l j))):
  ∀j,j<k+1→(cs.set k (.string (sat l k)))[j]?=some (.string (sat l j)):=by
 intro j hj;by_cases e:j=k
 ·subst e;rw[List.getElem?_set_self (by omega)]
 ·rw[List.getElem?_set_ne (by omega)];exact h j (by omega)
theorem DL {l m:List ByteArray} (hl:l.length=m.length) (h:∀j,j<l.length→sat l j=sat m j):l=m:=by
 apply List.ext_getElem hl
 intro i h1 h2;have:=h i h1;rwa[bV l i h1,bV m i h2] at this
def eY (f:Nat→ByteArray) (n:Nat):List ByteArray:=(List.range n).map f
theorem dU (f:Nat→ByteArray) (n:Nat):(eY f n).length=n:=by simp[eY]
theorem ke {f:Nat→ByteArray} {n j:Nat} (h:j<n):sat (eY f n) j=f j:=by rw[bV _ _ (by rw[dU];exact h)];simp[eY]
theorem CE (f:Nat→ByteArray) (n:Nat):eY f (n+1)=eY f n++[f n]:=by simp[eY,List.range_succ]
theorem Hl {f:Nat→ByteArray} {n:Nat} (h:∀j,j<n→(f j).size≤9223372036854775807):WfS (eY f n):=by
 intro x hx;simp[eY] at hx;obtain⟨j,hj,rfl⟩:=hx;exact h j hj
def aj (w:World) (base:Nat) (v:Value) (l:List ByteArray):Prop:=w.ownsRow base 9 1 v l.length (sv l)∧WfS l∧l.length≤maxLen
theorem aj.strs {w:World} {base:Nat} {v:Value} {l:List ByteArray} (h:aj w base v l):aG w v l:=⟨Sl.own h.1 h.2.2,h.2.1⟩
theorem Tryz.infoStr:(Tryz.prog.info? 9).map (fun i=>(i.zero,i.size,i.bytes))=some (some (.string ⟨#[]⟩),1,16):=by kernel_rfl
theorem Tryz.mkStrs (n:Nat) (hn:n≤17592186044416) (W:World):(Instr.makeSlice 30 (.int .i64 (n:Int)) (.int .i64 (n:Int))).run Tryz.prog W =
  .ok (.slice (some ⟨W.heap.size,0,none⟩) n n) (W.alloc (.cells (bz n (.string ⟨#[]⟩)).toArray 9)):=
 wl 30 9 _ 16 Tryz.underlying30 Tryz.infoStr rfl n (by omega) (by omega) W
theorem aj.form {w:World} {base:Nat} {v:Value} {l:List ByteArray} (h:aj w base v l):(v=.slice none 0 0∧l=[]) ∨
  ∃g cap cs,v=.slice (some ⟨g,0,none⟩) l.length cap∧base≤g∧Blk w g 9 cs∧l.length≤cap∧cap≤9223372036854775807∧cs.length=cap∧∀j,j<l.length→cs[j]?=some (.string (sat l j)):=by
 obtain⟨⟨hl,h⟩,_,_⟩:=h
 rcases h with ⟨rfl,hn⟩|⟨g,cap,cur,rfl,hg,hh,hnc,hcm,hs,ht⟩
 ·exact .inl ⟨rfl,List.eq_nil_of_length_eq_zero hn⟩
 ·refine .inr ⟨g,cap,cur.toList,rfl,hg,hh,hnc,by unfold maxLen at hcm;omega,by simpa using hs,fun j hj=>?_⟩;rw[←pK l j hj,←ht,List.getElem?_take,if_pos (by omega)]
theorem aj.mk' {w:World} {base g cap:Nat} {cs:List Value} {l:List ByteArray} (hg:base≤g) (hb:Blk w g 9 cs) (hl:l.length≤cap) (hc:cap≤9223372036854775807) (hs:cs.length=cap)
  (hcs:∀j,j<l.length→cs[j]?=some (.string (sat l j))) (hwf:WfS l):aj w base (.slice (some ⟨g,0,none⟩) l.length cap) l:=by
 refine⟨⟨by rw[ed];omega,.inr ⟨g,cap,cs.toArray,rfl,hg,hb,hl,by unfold maxLen;omega,by simpa using hs,?_⟩⟩,hwf,by unfold maxLen;omega⟩;refine Ij (by simp;omega) fun j hj=>?_;simp only[List.getElem?_take];rw[if_pos (by omega)];exact hcs j hj
theorem aj.lt {w:World} {base:Nat} {v:Value} {l:List ByteArray} (h:aj w base v l):∀k,v.ownBlock=some k→base≤k∧k<w.heap.size:=h.1.lt
theorem aj.bel {w w':World} {base:Nat} {v:Value} {l:List ByteArray} (h:aj w base v l) (hb:Below w.heap.size w w'):aj w' base v l:=
 ⟨h.1.kept (row:=none) ⟨hb.os,hb.tape,hb.output,hb.size,fun i hi _=>hb.block i hi⟩ (by cases v.ownBlock <;> simp),h.2⟩
theorem aj.far {w w':World} {base:Nat} {v:Value} {l:List ByteArray} {row:Option Nat} (h:aj w base v l) (hb:w.grownBy w' row) (hr:∀k,row=some k→k<base):aj w' base v l:=
 ⟨h.1.kept hb (by
  cases hv:v.ownBlock with
  |none=>exact .inl rfl
  |some k=>exact .inr fun e=>by have:=(h.1.lt k hv).1;have:=hr k e.symm;omega),h.2⟩
theorem aj.nil_ (w:World) (base:Nat):aj w base (.slice none 0 0) []:=⟨World.ownsRow_nil _ _ _ _,fun _ h=>by simp at h,by simp⟩
theorem lP {ops:Array Oper} {rest:List Oper} {o:Oper} {a:Act} {Q:Exit→Act→World→Prop} {w:World} (hgd:o.guard=none) (s x:Operand)
  (ho:o.op=.call { callee:=.builtin .append,args := #[s,x],argTypes := #[30,30] })
  (base:Nat) (v:Value) (l:List ByteArray) (hs:a.eval s=v) (hown:aj w base v l) (g c:Nat) (z:ByteArray) (hx:a.eval x=.slice (some ⟨g,0,none⟩) 1 c)
  (hcell:w.cell? ⟨g,0,none⟩=some (.string z)) (hz:z.size≤9223372036854775807) (hl:l.length+1≤1099511627776) (hbase:base≤w.heap.size)
  (h:∀v' w',aj w' base v' (l++[z])→w.grownBy w' v.ownBlock→(v'.ownBlock=v.ownBlock∨v'.ownBlock=some w.heap.size)→wpList Tryz.prog ops Q rest (a.put o.dst v') w'):wpList Tryz.prog ops Q (o::rest) a w:=by
 obtain⟨i0,hi,hz0,hz1,hz2⟩:=info_parts Tryz.infoStr;refine wpList_append_own_at (P:=Tryz.prog) w hgd s x 30 ho base 9 i0 _ 1 16 Tryz.underlying30 hi hz0 hz1 hz2 rfl (by omega) v l.length (sv l) hs hown.1 ⟨g,0,none⟩ 1 c [.string z] hx rfl ?_ ?_ (by unfold maxLen;omega) (by omega) hbase ?_
 ·intro j u hj
  match j,hj with
  |0,hj=>simp at hj;subst hj;simpa[Addr.add] using hcell
 ·intro u hu;simp at hu;subst hu;rfl
 ·intro v' w' h1 h2 _ h4;refine h v' w' ⟨?_,?_,by unfold maxLen;simp;omega⟩ h2 h4
  ·rw[uq,Jv];exact h1
  ·intro n hn
   rcases List.mem_append.1 hn with hn|hn
   ·exact hown.2.1 n hn
   ·simp at hn;subst hn;exact hz
theorem aj.empty (w:World) (base:Nat) (hb:base≤w.heap.size):aj (w.alloc (.cells #[] 9)) base (.slice (some ⟨w.heap.size,0,none⟩) 0 0) []:=
 aj.mk' (cs:=[]) (l:=[]) hb (Blk.new w 9 []) (Jr _) (by omega) rfl (fun j hj=>absurd hj (by simp)) (fun _ h=>by simp at h)
theorem Ee {w0 w w':World} {v:Value} {l:List ByteArray} (hb:Below w0.heap.size w0 w) (hown:aj w w0.heap.size v l) (hg:w.grownBy w' v.ownBlock):Below w0.heap.size w0 w':=
 hb.trans ((bQ hg hb.size fun k hk=>(hown.lt k hk).1))
theorem aj.apart {w w':World} {base:Nat} {v u:Value} {l:List ByteArray} (h:aj w base v l) (hb:w.grownBy w' u.ownBlock) (hne:∀k,v.ownBlock=some k→u.ownBlock≠some k):aj w' base v l:=
 ⟨h.1.kept hb (by
  cases hv:v.ownBlock with
  |none=>exact .inl rfl
  |some k=>exact .inr fun e=>hne k hv e.symm),h.2⟩
theorem aG.low {w:World} {v:Value} {l:List ByteArray} (h:aG w v l):∀a n c,v=.slice (some a) n c→0<l.length→a.block<w.heap.size:=by
 obtain⟨⟨A,c,rfl,h1,h2,h3⟩,hwf⟩:=h;intro a n c' e hl;injection e with e1;obtain⟨b,o,hA,hlt,_⟩:=h3 (by rw[ed];exact hl);rw[e1] at hA;injection hA with hA;rw[hA];exact hlt
theorem qS {w:World} {base g n:Nat} {cs:List Value} {f:Nat→ByteArray} (hg:base≤g) (hb:Blk w g 9 cs) (hl:cs.length=n) (hn:n≤9223372036854775807) (hcs:∀j,j<n→cs[j]?=some (.string (f j)))
  (hwf:∀j,j<n→(f j).size≤9223372036854775807):aj w base (.slice (some ⟨g,0,none⟩) n n) (eY f n):=by
 have:=aj.mk' (l:=eY f n) hg hb (by rw[dU];exact Jr n) hn hl (fun j hj=>by rw[dU] at hj;rw[ke hj];exact hcs j hj) (Hl hwf);rwa[dU] at this
theorem va {ops:Array Oper} {rest:List Oper} {o:Oper} {a:Act} {Q:Exit→Act→World→Prop} {w:World} (hgd:o.guard=none) (s x:Operand)
  (ho:o.op=.call { callee:=.builtin .append,args := #[s,x],argTypes := #[30,30] })
  (base:Nat) (v u:Value) (l m:List ByteArray) (hs:a.eval s=v) (hown:aj w base v l) (hx:a.eval x=u) (hm:aG w u m)
  (hl:l.length+m.length≤1099511627776) (hbase:base≤w.heap.size)
  (h:∀v' w',aj w' base v' (l++m)→w.grownBy w' v.ownBlock→(v'.ownBlock=v.ownBlock∨v'.ownBlock=some w.heap.size)→wpList Tryz.prog ops Q rest (a.put o.dst v') w'):wpList Tryz.prog ops Q (o::rest) a w:=by
 obtain⟨i0,hi,hz0,hz1,hz2⟩:=info_parts Tryz.infoStr;obtain⟨A,c,rfl,hlc,hc,hrd⟩:=hm.open_;have hwf:WfS (l++m):=by
  intro n hn
  rcases List.mem_append.1 hn with hn|hn
  ·exact hown.2.1 n hn
  ·exact hm.2 n hn
 rcases A with _|ad
 ·have hm0:m=[]:=by
   rcases Nat.eq_zero_or_pos m.length with h0|h0
   ·exact List.eq_nil_of_length_eq_zero h0
   ·obtain⟨b,o,e,_⟩:=hrd.strs h0;cases e
  subst hm0;refine wpList_plain hgd fun K hK=>?_;have hrun:=lw (P:=Tryz.prog) w base 30 o.type 9 i0 1 Tryz.underlying30 hi v l.length (sv l) hown.1 c;unfold Oper.wp execOp;simp only[ho,resolve,invoke,builtin,Sem.run_bind,Sem.run_pure,Result.andThen_ok,List.map_toArray,List.map_cons,List.map_nil,hs,hx,List.length_nil,hrun];exact hK _ _ (h v w (by rw[List.append_nil];exact hown) (World.grownBy.refl w _) (.inl rfl))
 ·refine wpList_append_own_at (P:=Tryz.prog) w hgd s x 30 ho base 9 i0 _ 1 16 Tryz.underlying30 hi hz0 hz1 hz2 rfl (by omega) v l.length (sv l) hs hown.1 ad m.length c (sv m) hx (by rw[ed];omega) ?_ ?_ (by unfold maxLen;omega) (by omega) hbase ?_
  ·intro j u hj;have hjm:j<m.length:=by
    rcases Nat.lt_or_ge j m.length with q|q
    ·exact q
    ·rw[List.getElem?_eq_none (by rw[ed];exact q)] at hj;cases hj
   obtain⟨b,o,e,_,hcell⟩:=hrd.strs (by omega);injection e with e;subst e;rw[pK m j hjm] at hj;injection hj with hj;rw[show(⟨b,o,none⟩:Addr).add j=⟨b,o+j,none⟩ from by unfold Addr.add;split <;> simp_all,←hj];exact hcell j hjm
  ·intro u hu;simp[sv] at hu;obtain⟨n,_,rfl⟩:=hu
   rfl
  ·intro v' w' h1 h2 _ h4;refine h v' w' ⟨?_,hwf,by unfold maxLen;simp;omega⟩ h2 h4;rw[uq,Jv];exact h1
theorem fj (v:Value) (l:List ByteArray) (w:World) (hv:aG w v l) (hl:l.length≤1048576):
  Calls Tryz.prog 183 #[v] w fun x w'=>∃r,x=.returned r∧aj w' w.heap.size r l∧Below w.heap.size w w':=by
 have hv':=Jj hv;obtain⟨A,c,rfl,hlc,hc,hrd⟩:=hv.open_;have hq:=fun W=>Lib.run_eql_slice_nil (P:=Tryz.prog) W 30 9 A l.length c 0 0 Tryz.underlying30
 rcases A with _|ad
 ·have hl0:l=[]:=by
   rcases Nat.eq_zero_or_pos l.length with h0|h0
   ·exact List.eq_nil_of_length_eq_zero h0
   ·obtain⟨b,o,e,_⟩:=hrd.strs h0;cases e
  subst hl0;simp only[List.length_nil] at hq
  go_enter Tryz.func183,Tryz.ntmps183
  go_wp2;go_ret;exact⟨_,rfl,aj.nil_ _ _,Below.refl _ _⟩
 ·have OE:=Jj (aj.empty w w.heap.size (Jr _))
  go_enter Tryz.func183,Tryz.ntmps183
  go_wp2_with (at_builtin;go_must (refine va rfl _ _ (by rfl) w.heap.size _ _ [] l (by rfl) (by exact OE.out) (by rfl) (by exact hv'.out.bel (ab _ _)) (by simp only[List.length_nil];omega) (by simp) ?_);intro v1 w1 ho hg _)
  go_ret;exact⟨_,rfl,ho,Ee (ab _ _) OE.out hg⟩
end Go.Proofs.YtfmjklgfpiffbaaGreatDoor
namespace Go.Proofs.YtfmjklgfpiffbaaGreatDoor
open Go.RowKit Go.Proofs.Tryz
set_option linter.unusedVariables false
set_option linter.unusedSimpArgs false
set_option maxRecDepth 100000
set_option maxHeartbeats 8000000
theorem jW {P:Program} {f:FuncId} {args:Array Value} {w:World} {n:Nat} {v:Value}
  (h:Calls P f args (w.drewN n) fun e w'=>e=.returned v∧w.drewN n=w'):Calls P f args (w.drewN n) fun e w''=>e=.returned v∧∃m,w''=w.drewN m:=
 h.mono fun _ _ ⟨he,hm⟩=>⟨he,n,hm.symm⟩
theorem fP {P:Program} {f:FuncId} {args:Array Value} {w:World} {a n:Nat} {v:Value}
  (h:Calls P f args (w.drewN (a+n)) fun e w'=>e=.returned v∧w.drewN (a+n)=w'):
  Calls P f args (w.drewN (a+n)) fun e w''=>e=.returned v∧∃m,w''=w.drewN (a+m):=
 h.mono fun _ _ ⟨he,hm⟩=>⟨he,n,hm.symm⟩
def bat (s:ByteArray) (j:Nat):Int:=if h:j<s.size then(s[j].toNat:Int) else 0
theorem jz {s:ByteArray} {j:Nat} (h:j<s.size):bat s j=(s[j].toNat:Int):=by simp[bat,h]
def aP (s:ByteArray):Bool:=inB (s.size:Int) 1 12&&(List.range s.size).all fun j=>inB (bat s j) 48 57
theorem aQ {s:ByteArray} (h:aP s=true):1≤s.size∧s.size≤12∧∀j,j<s.size→48≤bat s j∧bat s j≤57:=by
 simp only[aP,JB,am,List.all_eq_true,List.mem_range] at h;exact⟨by omega,by omega,h.2⟩
theorem qF {s:ByteArray} (h1:1≤s.size) (h2:s.size≤12) (h:∀j,j<s.size→48≤bat s j∧bat s j≤57):aP s=true:=by
 simp only[aP,JB,am,List.all_eq_true,List.mem_range];exact⟨by omega,h⟩
theorem vj {s:ByteArray} (h:¬(1≤s.size∧s.size≤12)):aP s=false:=by
 rw[Bool.eq_false_iff];intro e;have:=aQ e;omega
theorem nH {s:ByteArray} {j:Nat} (hj:j<s.size) (h:¬(48≤bat s j∧bat s j≤57)):aP s=false:=by
 rw[Bool.eq_false_iff];intro e;exact h ((aQ e).2.2 j hj)
theorem dV (n:Int) (w:World):
  Calls prog 158 #[.int .i64 n] w fun e w'=>e=.returned (.bool (inB n 1 12))∧w=w':=by
 go_enter func158,ntmps158
 go_wp2_with (go_at_call 72;refine(aL _ _ _ _).mono ?_;rintro e w' ⟨rfl,rfl⟩)
 go_ret;exact⟨rfl,rfl⟩
theorem dd (n:Int) (w:World):
  Calls prog 262 #[.int .i64 n] w fun e w'=>e=.returned (.bool (inB n 1 12))∧w=w':=by
 go_enter func262,ntmps262
 go_wp2
 all_goals (go_ret;refine⟨?_,rfl⟩;simp_all [inB])
 omega
theorem gJ (s:ByteArray) (w:World) (hs:s.size≤9223372036854775807):
  Calls prog 144 #[.string s] w fun e w'=>e=.returned (.bool (aP s))∧w=w':=by
 go_enter func144,ntmps144
 go_wp2
 go_loop [3] (fun i=>∃k:Nat,k≤s.size∧i=.int .i64 k∧∀j,j<k→48≤bat s j∧bat s j≤57) (fun i=>s.size-(intOf i).toNat)
 case atStart=>exact⟨0,Jy _,rfl,fun j hj=>absurd hj (by omega)⟩
 case round=>
  obtain⟨k,hk,rfl,hall⟩:=hrel;have HA:=Jj hall;clear hall;by_cases hlt:k<s.size
  ·have HB:=Jj (jz hlt);by_cases h1:((s[k].toNat:Int))<48
   ·go_wp2;go_ret;exact⟨aD (nH hlt (by rw[HB.out];omega)).symm,rfl⟩
   ·by_cases h2:(57:Int)<(s[k].toNat:Int)
    ·go_wp2;go_ret;exact⟨aD (nH hlt (by rw[HB.out];omega)).symm,rfl⟩
    ·go_wp2
     go_round
     case rel=>exact⟨k+1,by omega,by go_num,fun j hj=>by
      by_cases e:j=k
      ·rw[e,HB.out];omega
      ·exact HA.out j (by omega)⟩
     case measure=>simp[intOf];omega
  ·have hks:k=s.size:=by omega
   subst hks
   go_wp2_with (go_at_call 158;refine(dV _ _).mono ?_;rintro e w' ⟨rfl,rfl⟩)
   go_ret;refine⟨aD ?_,rfl⟩;cases hq:inB (s.size:Int) 1 12
   ·exact(vj (by have:=bm.1 hq;omega)).symm
   ·have:=am.1 hq;exact(qF (by omega) (by omega) HA.out).symm
theorem fF (s:ByteArray) (w:World) (hs:s.size≤9223372036854775807):
  Calls prog 264 #[.string s] w fun e w'=>e=.returned (.bool (aP s))∧w=w':=by
 cases hq:inB (s.size:Int) 1 12
 ·have HN:=Jj (vj (s:=s) (by have:=bm.1 hq;omega))
  go_enter func264,ntmps264
  go_wp2_with (go_at_call 262;refine(dd _ _).mono ?_;rintro e w' ⟨rfl,rfl⟩)
  go_ret;exact⟨aD HN.out.symm,rfl⟩
 ·have hb:=am.1 hq
  go_enter func264,ntmps264
  go_wp2_with (go_at_call 262;refine(dd _ _).mono ?_;rintro e w' ⟨rfl,rfl⟩)
  go_loop [10] (fun i=>∃k:Nat,k≤s.size∧i=.int .i64 k∧∀j,j<k→48≤bat s j∧bat s j≤57) (fun i=>s.size-(intOf i).toNat)
  case atStart=>exact⟨0,Jy _,rfl,fun j hj=>absurd hj (by omega)⟩
  case round=>
   obtain⟨k,hk,rfl,hall⟩:=hrel;have HA:=Jj hall;clear hall;by_cases hlt:k<s.size
   ·have HB:=Jj (jz hlt);by_cases h1:((s[k].toNat:Int))<48
    ·go_wp2;go_ret;exact⟨aD (nH hlt (by rw[HB.out];omega)).symm,rfl⟩
    ·by_cases h2:(57:Int)<(s[k].toNat:Int)
     ·go_wp2;go_ret;exact⟨aD (nH hlt (by rw[HB.out];omega)).symm,rfl⟩
     ·go_wp2
      go_round
      case rel=>exact⟨k+1,by omega,by go_num,fun j hj=>by
       by_cases e:j=k
       ·rw[e,HB.out];omega
       ·exact HA.out j (by omega)⟩
      case measure=>simp[intOf];omega
   ·have hks:k=s.size:=by omega
    subst hks;go_wp2;go_ret;exact⟨aD (qF (by omega) (by omega) HA.out).symm,rfl⟩
def gq (s t:ByteArray):Bool:=aP s&&aP t&&decide (s.size=t.size)
theorem eG {s t:ByteArray}:gq s t=true↔aP s=true∧aP t=true∧s.size=t.size:=by
 simp only[gq,JB,decide_eq_true_eq,and_assoc]
theorem jd (s t:ByteArray) (w:World) (hs:s.size≤9223372036854775807) (ht:t.size≤9223372036854775807):
  Calls prog 249 #[.string s,.string t] w fun e w'=>e=.returned (.bool (gq s t))∧w=w':=by
 cases h1:aP s
 ·go_enter func249,ntmps249
  go_wp2_with (go_at_call 264;refine(fF _ _ (by assumption)).mono ?_;rintro e w' ⟨rfl,rfl⟩)
  go_ret;exact⟨aD (by simp[gq,h1]),rfl⟩
 ·cases h2:aP t
  ·go_enter func249,ntmps249
   go_wp2_with (go_at_call 264;refine(fF _ _ (by assumption)).mono ?_;rintro e w' ⟨rfl,rfl⟩)
   go_ret;exact⟨aD (by simp[gq,h2]),rfl⟩
  ·by_cases h3:s.size=t.size
   ·have e:((s.size:Int)==(t.size:Int))=true:=by simp[h3]
    have H3:=Jj h3;clear h3
    go_enter func249,ntmps249
    go_wp2_with (go_at_call 264;refine(fF _ _ (by assumption)).mono ?_;rintro e w' ⟨rfl,rfl⟩)
    go_ret;exact⟨aD (by simp[gq,h1,h2,H3.out]),rfl⟩
   ·have e:((s.size:Int)==(t.size:Int))=false:=by simp;omega
    have H3:=Jj h3;clear h3
    go_enter func249,ntmps249
    go_wp2_with (go_at_call 264;refine(fF _ _ (by assumption)).mono ?_;rintro e w' ⟨rfl,rfl⟩)
    go_ret;exact⟨aD (by simp[gq,h1,h2,H3.out]),rfl⟩
def af (l:List ByteArray):Bool:=inB (l.length:Int) 1 7&&l.all fun s=>gq (sat l 0) s
theorem jw (x:Int) : -9223372036854775808≤wrap64 x∧wrap64 x≤9223372036854775807:=CI (wrap64_wf x)
def aU (n:Int):Nat→Int
 |0=>1
 |i+1=>wrap64 ((wrap64 (aU n i*wrap64 (n-i))).tdiv ((i:Int)+1))
theorem rg (n:Int) (i:Nat) : -9223372036854775808≤aU n i∧aU n i≤9223372036854775807:=by
 cases i with
 |zero=>simp[aU]
 |succ i=>exact jw _
theorem lW (n:Int) (k:Nat) (w:World) (hn : -9223372036854775808≤n∧n≤9223372036854775807) (hk:k≤1000000000):
  Calls prog 272 #[.int .i64 n,.int .i64 k] w fun e w'=>e=.returned (.int .i64 (aU n k))∧w=w':=by
 go_enter func272,ntmps272
 go_wp2
 go_loop [5,6] (fun r i=>∃j:Nat,j≤k∧i=.int .i64 j∧r=.int .i64 (aU n j)) (fun _ i=>k-(intOf i).toNat)
 case atStart=>exact⟨0,Jy _,rfl,rfl⟩
 case round=>
  obtain⟨j,hj,rfl,rfl⟩:=hrel;have hb:=rg n j;by_cases hlt:j<k
  ·go_wp2
   go_round
   case rel=>
    exact⟨j+1,by omega,by go_num,rfl⟩
   case measure=>simp[intOf];omega
  ·have hjk:j=k:=by omega
   subst hjk;go_wp2;go_ret;exact⟨rfl,rfl⟩
def jD (p:List Int) (n:Int):Nat→Int
 |0=>0
 |k+1=>wrap64 (jD p n k+wrap64 (at_ p k*aU n k))
def dn (p:List Int) (n:Int):Int:=jD p n p.length
theorem kR (p:List Int) (n:Int) (k:Nat) : -9223372036854775808≤jD p n k∧jD p n k≤9223372036854775807:=by
 cases k with
 |zero=>simp[jD]
 |succ k=>exact jw _
def hH (p:List Int) (a s:Int) (c:Nat):List Int:=gen (fun i=>dn p (wrap64 (a+wrap64 (s*i)))) c
theorem z8 (v:Value) (p:List Int) (n:Int) (w:World) (hv:ai w v p) (hn : -9223372036854775808≤n∧n≤9223372036854775807) (hp:p.length≤1000000000):
  Calls prog 229 #[v,.int .i64 n] w fun e w'=>e=.returned (.int .i64 (dn p n))∧Below w.heap.size w w':=by
 obtain⟨A,c,rfl,hlc,hc,hrd⟩:=hv.open_
 go_enter func229,ntmps229
 go_wp2
 go_loopw [5,6] (fun r i wr=>∃j:Nat,j≤p.length∧i=.int .i64 j∧r=.int .i64 (jD p n j)∧∃nd,wr=w.drewN nd) (fun _ i _=>p.length-(intOf i).toNat)
 case atStart=>exact⟨0,Jy _,rfl,rfl,0,rfl⟩
 case round=>
  obtain⟨j,hj,rfl,rfl,nd,rfl⟩:=hrel;have hb:=kR p n j;by_cases hlt:j<p.length
  ·obtain⟨b,o,rfl,hb,hcell⟩:=hrd.ints (by omega);have hck:=hcell j hlt;have p1:(j:Int)<(p.length:Int):=by omega
   have p3:(0:Int)≤(j:Int):=by omega
   clear hcell;go_wp2
   go_quiet ((go_at_call 272;first|exact jW (lW _ _ _ (by omega) (by omega))|exact fP (lW _ _ _ (by omega) (by omega))))
   go_wp2;go_roundw
   case rel=>
    exact⟨j+1,by omega,by go_num,rfl,_,rfl⟩
   case measure=>simp[intOf];omega
  ·have hjk:j=p.length:=by omega
   subst hjk;go_wp2;go_ret;exact⟨rfl,aV (Below.refl _ _) _⟩
theorem jN (v:Value) (p:List Int) (a s:Int) (c:Nat) (w:World) (hv:ai w v p) (ha : -9223372036854775808≤a∧a≤9223372036854775807) (hs : -9223372036854775808≤s∧s≤9223372036854775807) (hp:p.length≤1000000000) (hc:c≤1000000000):
  Calls prog 142 #[v,.int .i64 a,.int .i64 s,.int .i64 c] w fun e w'=>∃r,e=.returned r∧Own w' w.heap.size r (hH p a s c)∧Below w.heap.size w w':=by
 have HV:=Jj hv;have OE:=Jj (Own.empty w w.heap.size (Jr _));clear hv
 go_enter func142,ntmps142
 go_wp2
 go_loopw [9,10] (fun r i wr=>∃j:Nat,j≤c∧i=.int .i64 j∧Own wr w.heap.size r (hH p a s j)∧Below w.heap.size w wr) (fun _ i _=>c-(intOf i).toNat)
 case atStart=>exact⟨0,Jy _,rfl,OE.out,ab _ _⟩
 case round=>
  obtain⟨j,hj,rfl,ho,hb⟩:=hrel;have HO:=Jj (Jq ho hb);have hz:=hb.size;clear ho hb;by_cases hlt:j<c
  ·go_wp2_with fail
   refine(z8 _ p _ _ (HV.out.bel HO.out.2) (by first|exact jw _|omega) hp).mono ?_;rintro e w1 ⟨rfl,b1⟩;have z1:=b1.size;have H1:=Jj b1;clear b1
   go_wp2_with (at_builtin;refine du rfl (.tmp 17) (.tmp 25) (by rfl) w.heap.size u9 _ (by rfl) (by exact(HO.out.1.bel H1.out).bel (ab _ _)) _ _ _ (by rfl) (by exact bh _ _ _) (kR _ _ _) (by rw[hH,ar];omega) (by simp;omega) ?_;intro v1 w2 ho hg _)
   go_roundw
   case rel=>exact⟨j+1,by omega,by go_num,by rw[hH,fE];exact ho,dN (aa (aa HO.out.2 H1.out) (ab _ _)) ((HO.out.1.bel H1.out).bel (ab _ _)) hg⟩
   case measure=>simp[intOf];omega
  ·have hjk:j=c:=by omega
   subst hjk;go_wp2;go_ret;exact⟨_,rfl,HO.out.1,HO.out.2⟩
theorem jC {l:List ByteArray}:af l=true↔1≤l.length∧l.length≤7∧∀k,k<l.length→gq (sat l 0) (sat l k)=true:=by
 simp only[af,JB,am,List.all_eq_true]
 constructor
 ·rintro⟨h1,h2⟩;exact⟨by omega,by omega,fun k hk=>h2 _ (cJ l k hk)⟩
 ·rintro⟨h1,h2,h3⟩;refine⟨by omega,fun s hs=>?_⟩;obtain⟨k,hk,rfl⟩:=List.getElem_of_mem hs;rw[←bV l k hk];exact h3 k hk
theorem vB {l:List ByteArray} (h:¬(1≤l.length∧l.length≤7)):af l=false:=by
 rw[Bool.eq_false_iff];intro e;have:=jC.1 e;omega
theorem qH {l:List ByteArray} {k:Nat} (hk:k<l.length) (h:gq (sat l 0) (sat l k)=false):af l=false:=by
 rw[Bool.eq_false_iff];intro e;have:=(jC.1 e).2.2 k hk;rw[h] at this;cases this
theorem bF (u:Value) (l:List ByteArray) (w:World) (hv:aG w u l):
  Calls prog 180 #[.agg #[u]] w fun e w'=>e=.returned (.bool (af l))∧Below w.heap.size w w':=by
 have HV:=Jj hv;obtain⟨A,c,rfl,hlc,hc,hrd⟩:=hv.open_;have HW:=Jj hv.2;by_cases hlen:1≤l.length∧l.length≤7
 ·obtain⟨l1,l7⟩:=hlen;obtain⟨b,o,rfl,hb,hcell⟩:=hrd.strs (by omega);have hc0:=hcell 0 (by omega);rw[Nat.add_zero] at hc0;have HC:=Jj hcell;clear hcell hrd hv
  go_enter func180,ntmps180
  go_wp2
  go_loop [18] (fun i=>∃k:Nat,k≤l.length∧i=.int .i64 k∧∀j,j<k→gq (sat l 0) (sat l j)=true) (fun i=>l.length-(intOf i).toNat)
  case atStart=>exact⟨0,Jy _,rfl,fun j hj=>absurd hj (by omega)⟩
  case round=>
   obtain⟨k,hk,rfl,hall⟩:=hrel;have HA:=Jj hall;clear hall;by_cases hlt:k<l.length
   ·have hck:=HC.out k hlt;have s0:=HW.out.at _ 0;have sk:=HW.out.at _ k;cases hal:gq (sat l 0) (sat l k)
    ·go_wp2_with (go_at_call 249;refine(jd _ _ _ (by assumption) (by assumption)).mono ?_;rintro e w' ⟨rfl,rfl⟩)
     go_ret;exact⟨aD (qH hlt hal).symm,ab _ _⟩
    ·go_wp2_with (go_at_call 249;refine(jd _ _ _ (by assumption) (by assumption)).mono ?_;rintro e w' ⟨rfl,rfl⟩)
     go_round
     case rel=>exact⟨k+1,by omega,by go_num,fun j hj=>by
      by_cases e:j=k
      ·rw[e];exact hal
      ·exact HA.out j (by omega)⟩
     case measure=>simp[intOf];omega
   ·have hkl:k=l.length:=by omega
    subst hkl;go_wp2;go_ret;exact⟨aD (jC.2 ⟨l1,l7,HA.out⟩).symm,ab _ _⟩
 ·have HN:=Jj (vB hlen);by_cases h1:l.length<1
  ·go_enter func180,ntmps180
   go_wp2;go_ret;exact⟨aD HN.out.symm,ab _ _⟩
  ·have h7:7<l.length:=by omega
   go_enter func180,ntmps180
   go_wp2;go_ret;exact⟨aD HN.out.symm,ab _ _⟩
theorem dX (u:Value) (l:List ByteArray) (w:World) (hv:aG w u l):
  Calls prog 62 #[.agg #[u]] w fun e w'=>e=.returned (.bool (af l))∧Below w.heap.size w w':=by
 have HV:=Jj hv;obtain⟨A,c,rfl,hlc,hc,hrd⟩:=hv.open_;have HW:=Jj hv.2;have HR:=Jj hrd;clear hrd hv
 go_enter func62,ntmps62
 go_wp2;obtain⟨W0,hW0⟩:∃W0,W0=w.alloc (.cells #[.slice A l.length c] 32):=⟨_,rfl⟩;have hbox:W0.cell? ⟨w.heap.size,0,none⟩=some (.slice A l.length c):=by rw[hW0];exact bh _ _ _
 have HB0:=Jj (show Below w.heap.size w W0 by rw[hW0];exact ab _ _);rw[←hW0];clear hW0
 go_loopw [3] (fun i wr=>∃k:Nat,k≤l.length∧i=.int .i64 k∧(∀j,j<k→aP (sat l j)=true∧(sat l j).size=(sat l 0).size)∧wr.cell? ⟨w.heap.size,0,none⟩=some (.slice A l.length c)∧Below w.heap.size w wr) (fun i _=>l.length-(intOf i).toNat)
 case atStart=>exact⟨0,Jy _,rfl,fun j hj=>absurd hj (by omega),hbox,HB0.out⟩
 case round=>
  clear HB0 hbox;obtain⟨k,hk,rfl,hall,hbox,hb0⟩:=hrel;have HA:=Jj hall;have HB0:=Jj hb0;clear hall hb0;by_cases hlt:k<l.length
  ·obtain⟨b,o,rfl,hb,hcell⟩:=HR.out.strs (by omega);have hc0:=(HB0.out.cell (by exact hb)).trans (hcell 0 (by omega));have hck:=(HB0.out.cell (by exact hb)).trans (hcell k hlt);rw[Nat.add_zero] at hc0;have s0:=HW.out.at _ 0;have sk:=HW.out.at _ k;clear hcell;cases hco:aP (sat l k)
   ·have HN:=Jj (qH hlt (by rw[Bool.eq_false_iff];intro e;have:=(eG.1 e).2.1;rw[hco] at this;cases this))
    go_wp2_with fail
    go_quiet ((go_at_call 144;first|exact jW (gJ _ _ (by assumption))|exact fP (gJ _ _ (by assumption))))
    go_wp2;go_ret;exact⟨aD HN.out.symm,aV HB0.out _⟩
   ·by_cases hsz:(sat l k).size=(sat l 0).size
    ·have hne:(((sat l k).size:Int) != ((sat l 0).size:Int))=false:=by simp[hsz]
     have HS:=Jj hsz;clear hsz
     go_wp2_with fail
     go_quiet ((go_at_call 144;first|exact jW (gJ _ _ (by assumption))|exact fP (gJ _ _ (by assumption))))
     go_wp2;go_roundw
     case rel=>exact⟨k+1,by omega,by go_num,fun j hj=>by
      by_cases e:j=k
      ·rw[e];exact⟨hco,HS.out⟩
      ·exact HA.out j (by omega),hbox,aV HB0.out _⟩
     case measure=>simp[intOf];omega
    ·have hne:(((sat l k).size:Int) != ((sat l 0).size:Int))=true:=by simp;omega
     have HS:=Jj hsz;clear hsz;have HN:=Jj (qH hlt (by rw[Bool.eq_false_iff];intro e;exact HS.out (eG.1 e).2.2.symm))
     go_wp2_with fail
     go_quiet ((go_at_call 144;first|exact jW (gJ _ _ (by assumption))|exact fP (gJ _ _ (by assumption))))
     go_wp2;go_ret;exact⟨aD HN.out.symm,aV HB0.out _⟩
  ·have hkl:k=l.length:=by omega
   subst hkl
   go_wp2_with (go_at_call 72;refine(aL _ _ _ _).mono ?_;rintro e w' ⟨rfl,rfl⟩)
   go_ret;refine⟨aD ?_,HB0.out⟩;cases hq:inB (l.length:Int) 1 7
   ·exact(vB (by have:=bm.1 hq;omega)).symm
   ·have:=am.1 hq;exact(jC.2 ⟨by omega,by omega,fun j hj=>eG.2 ⟨(HA.out 0 (by omega)).1,(HA.out j hj).1,(HA.out j hj).2.symm⟩⟩).symm
end Go.Proofs.YtfmjklgfpiffbaaGreatDoor
