/-
  Parts of the proof of one statement, merged: ShiftB ShiftC EsD.
-/
import Derived.Deep.RegionHeld3
import Derived.Deep.RegionLaw
import Derived.Test.YtfmjklgfpiffbaaGreatDoorR8
namespace Go.Proofs.YtfmjklgfpiffbaaGreatDoor
open Go.RowKit Go.Proofs.Tryz
set_option linter.unusedVariables false
set_option linter.unusedSimpArgs false
set_option maxRecDepth 100000
set_option maxHeartbeats 8000000
theorem xh {ops:Array Oper} {o:Oper} {a:Act} {K:Act→World→Prop} {Q:Exit→Act→World→Prop} {E:Prop} {w:World} (hgd:o.guard=none) (s x:Operand)
  (ho:o.op=.call { callee:=.builtin .append,args := #[s,x],argTypes := #[27,27] })
  (base:Nat) (v:Value) (l:List Int) (hs:a.eval s=v) (hown:Own w base v l) (g c:Nat) (z:Int) (hx:a.eval x=.slice (some ⟨g,0,none⟩) 1 c)
  (hcell:w.cell? ⟨g,0,none⟩=some (.int .i64 z)) (hz : -9223372036854775808≤z∧z≤9223372036854775807) (hl:l.length+1≤1099511627776) (hbase:base≤w.heap.size)
  (h:∀A c' w',Own w' base (.slice A (l.length+1) c') (l++[z])→w.grownBy w' v.ownBlock→((Value.slice A (l.length+1) c').ownBlock=v.ownBlock∨(Value.slice A (l.length+1) c').ownBlock=some w.heap.size)→K (a.put o.dst (.slice A (l.length+1) c')) w'):
  if Region.wanted o (yielded ops a.tmps)=true then Oper.wp prog o a w K Q else E:=by
 have hw:Region.wanted o (yielded ops a.tmps)=true:=by simp[Region.wanted,hgd]
 rw[if_pos hw];obtain⟨i0,hi,hz0,hz1,hz2⟩:=info_parts Tryz.infoInt;obtain⟨v',w',hrun,h2,h3,_,h5⟩:=run_append_own_at (P:=prog) w base 27 o.type 3 i0 _ 1 8 Tryz.underlying27 hi hz0 hz1 hz2 rfl (by omega) v l.length (iv l) hown.1 ⟨g,0,none⟩ 1 c [.int .i64 z] rfl (by
  intro j u hj
  match j,hj with
  |0,hj=>simp at hj;subst hj;simpa[Addr.add] using hcell) (by intro u hu;simp at hu;subst hu;rfl) (by unfold maxLen;omega) (by omega) hbase
 have ho':Own w' base v' (l++[z]):=by
  refine⟨?_,?_,by unfold maxLen;simp;omega⟩
  ·rw[pp,Jv];exact h2
  ·intro n hn
   rcases List.mem_append.1 hn with hn|hn
   ·exact hown.2.1 n hn
   ·simp at hn;subst hn;exact hz
 obtain⟨A',c',hv,_,_,_⟩:=ho'.ints.open_;rw[show(l++[z]).length=l.length+1 by simp] at hv;subst hv;unfold Oper.wp execOp;simp only[ho,resolve,invoke,builtin,Sem.run_bind,Sem.run_pure,Result.andThen_ok,List.map_toArray,List.map_cons,List.map_nil,hs,hx,hrun];exact h _ _ w' ho' h3 h5
def pu (l:List Int) (k:Nat):List Int:=gen (fun i=>wrap64 (at_ l (i+1)-at_ l i)) k
theorem uA (l:List Int) (k:Nat):(pu l k).length=k:=ar _ _
theorem yi (l:List Int) (k:Nat):pu l (k+1)=pu l k++[wrap64 (at_ l (k+1)-at_ l k)]:=fE _ _
theorem nh (l:List Int) (k:Nat):(kp l k).length=k:=ar _ _
theorem oW (l:List Int) (k:Nat):kp l (k+1)=kp l k++[at_ (bc l k) 0]:=fE _ _
theorem nV (v:Value) (l:List Int) (w:World) (hv:ai w v l) (hl:l.length≤1048576):
  Calls prog 75 #[v] w (nB w (iH l)):=by
 obtain⟨A,c,rfl,hlc,hc,hrd⟩:=hv.open_;have OE:=Jj (Own.empty w w.heap.size (Jr _))
 go_enter func75,ntmps75
 go_wp2
 go_loopw [3,4] (fun r i wr=>∃k:Nat,k≤l.length-1∧i=.int .i64 k∧Own wr w.heap.size r (pu l k)∧Below w.heap.size w wr) (fun _ i _=>l.length-(intOf i).toNat)
 case atStart=>exact⟨0,Jy _,rfl,OE.out,ab _ _⟩
 case round=>
  obtain⟨k,hk,rfl,ho,hb⟩:=hrel;have HO:=Jj (Jq ho hb);have hz:=hb.size;by_cases hlt:k+1<l.length
  ·obtain⟨b,o,rfl,hbb,hcell⟩:=hrd.ints (by omega);have c1:wr.cell? ⟨b,o+k,none⟩=some (.int .i64 (at_ l k)):=(hb.cell (by exact hbb)).trans (hcell k (by omega));have c2:wr.cell? ⟨b,o+(k+1),none⟩=some (.int .i64 (at_ l (k+1))):=(hb.cell (by exact hbb)).trans (hcell (k+1) (by omega));have p1:(k:Int)<(l.length:Int):=by omega
   have p2:(k:Int)+1<(l.length:Int):=by omega
   have p3:(0:Int)≤(k:Int):=by omega
   have w1:IntKind.i64.wrap ((k:Int)+1)=(k:Int)+1:=by rw[IntWalk.i64_in] <;> omega
   have w2:((k:Int)+1).toNat=k+1:=by omega
   have w3:(0:Int)≤(k:Int)+1:=by omega
   have hbr:b<wr.heap.size:=by omega
   have D:=Jj (Jq (hcell k (by omega)) (hcell (k+1) hlt));clear ho hb hcell;have tok1:True:=trivial;have wz:IntKind.i64.wrap (at_ l (k+1)-at_ l k)=wrap64 (at_ l (k+1)-at_ l k):=IntWalk.i64_left _;go_wp2
   go_region_held3 (fun w'=>w'.cell? ⟨b,o+k,none⟩=some (.int .i64 (at_ l k))∧w'.cell? ⟨b,o+(k+1),none⟩=some (.int .i64 (at_ l (k+1)))) (first|exact⟨c1,c2⟩|exact⟨(B5.cell (by exact hbb)).trans D.out.1,(B5.cell (by exact hbb)).trans D.out.2⟩|exact⟨((ab _ _).cell (by exact hbr)).trans c1,((ab _ _).cell (by exact hbr)).trans c2⟩|go_keep) (first
    |(have _t:=tok1;go_loud (refine xh rfl (.tmp 13) (.tmp 24) (by rfl) w.heap.size _ (pu l k) (by rfl) (by first|exact HO.out.1.bel (ab _ _)|exact HO.out.1.bel ((ab _ _).drew)|exact HO.out.1.bel (((Below.refl _ _).drew).alloc (Jr _) _)) _ _ (wrap64 (at_ l (k+1)-at_ l k)) (by rfl) (by first|exact bh _ _ _|(show(World.alloc _ _).cell? _=_;exact bh _ _ _)) (jw _) (by rw[uA];omega) (by first|(simp;omega)|omega) ?_;intro A5 c5 w5 ho hg hat;have B5:Below w.heap.size w w5:=(by first|exact dN (aa HO.out.2 (ab _ _)) (HO.out.1.bel (ab _ _)) hg|exact dN (aa HO.out.2 ((ab _ _).drew)) (HO.out.1.bel ((ab _ _).drew)) hg|exact dN (aa HO.out.2 (((Below.refl _ _).drew).alloc (Jr _) _)) (HO.out.1.bel (((Below.refl _ _).drew).alloc (Jr _) _)) hg);clear tok1))
    |fail)
   go_wp2;go_roundw
   case rel=>exact⟨k+1,by omega,by go_num,by rw[yi];exact ho,B5⟩
   case measure=>simp[intOf];omega
  ·have hkl:k=l.length-1:=by omega
   clear ho hb;go_wp2;go_ret;exact⟨_,rfl,by rw[n4,←hkl];exact HO.out.1,HO.out.2⟩
structure StD (w:World) (l:List Int) (j:Nat) (r x:Value) (wr:World):Prop where
 own:Own wr w.heap.size r (kp l j)
 row:ai wr x (bc l j)
 off:ia x (bc l j) (fun k=>r.ownBlock≠some k)
 bel:Below w.heap.size w wr
theorem xU (v:Value) (l:List Int) (w:World) (hv:ai w v l) (hl:l.length≤1048576):
  Calls prog 151 #[v] w (nB w (dw l)):=by
 have HV:=Jj hv;obtain⟨A,c,rfl,hlc,hc,-⟩:=hv.open_;have OE:=Jj (Own.empty w w.heap.size (Jr _));have OO:=Jj hv.offI;clear hv
 go_enter func151,ntmps151
 go_wp2
 go_loopw [0,3] (fun row r wr=>∃j:Nat,j≤l.length∧StD w l j r row wr) (fun row _ _=>pG row)
 case atStart=>
  refine⟨0,Jy _,⟨OE.out,HV.out.bel (ab _ _),OO.out.mono fun k hk e=>?_,ab _ _⟩⟩;simp[Value.ownBlock] at e;omega
 case round=>
  obtain⟨j,hj,st⟩:=hrel;have hlen:=Jj (bj l j);obtain⟨A1,c1,rfl,-,hc1,hrd⟩:=st.row.open_;have ST:=Jj st;have hz:=st.bel.size;clear st;obtain⟨q,hq⟩:∃q,q=l.length-j:=⟨_,rfl⟩;rw[←hq] at hlen;rw[hlen.out] at ST ⊢;have hq1:q≤l.length-j:=by omega
  have hq2:l.length-j≤q:=by omega
  clear hq;by_cases hlt:j<l.length
  ·obtain⟨b,o,rfl,hbb,hcell⟩:=hrd.ints (by rw[hlen.out];omega);have c2:=hcell 0 (by rw[hlen.out];omega);rw[Nat.add_zero] at c2;have hwf:=ST.out.row.2.at (bc l j) 0;have p1:(0:Int)<(q:Int):=by omega
   clear hcell hrd
   go_wp2_with (at_builtin;refine du rfl (.tmp 8) (.tmp 12) (by rfl) w.heap.size _ _ (by rfl) (by exact ST.out.own.bel (ab _ _)) _ _ _ (by rfl) (by exact bh _ _ _) hwf (by rw[nh];omega) (by simp;omega) ?_;intro v1 w1 ho hg hat)
   have hr1:ai w1 (.slice (some ⟨b,o,none⟩) q c1) (bc l j):=by
    have q:=(ST.out.row.bel (ab _ _)).rowFar hg (ST.out.off.mono fun k hk e=>hk e.symm);exact q
   have hb1:=dN (aa ST.out.bel (ab _ _)) (ST.out.own.bel (ab _ _)) hg;have H1:=Jj (Jq ho hb1);clear ho hb1 hg hat c2 hwf;refine(nV _ (bc l j) _ hr1 (by rw[hlen.out];omega)).mono ?_;rintro e w2 ⟨r2,rfl,o2,b2⟩;have H2:=Jj (Jq o2 b2);clear o2 b2;go_wp2;have o2:=H2.out.1;have b2:=H2.out.2;go_roundw
   case rel=>
    refine⟨j+1,by omega,⟨by rw[oW];exact H1.out.1.bel b2,o2.ints,o2.offI.mono fun k hk e=>?_,aa H1.out.2 b2⟩⟩;have:=(H1.out.1.lt k e).2;omega
   case measure=>rw[o2.ints.slen,eO,hlen.out];simp[pG];omega
  ·have hjl:j=l.length:=by omega
   have p1:¬(0:Int)<(q:Int):=by omega
   go_wp2;go_ret;exact⟨_,rfl,by rw[dw];rw[hjl] at ST;exact ST.out.own,ST.out.bel⟩
theorem lh (v:Value) (l:List Int) (w:World) (hv:ai w v l) (hl:l.length≤1048576):
  Calls prog 178 #[v] w (nB w (dw l)):=by
 have HV:=Jj hv;obtain⟨A,c,rfl,hlc,hc,-⟩:=hv.open_;obtain⟨i0,hi,hz0,hz1,hz2⟩:=info_parts Tryz.infoInt;obtain⟨w0,hrun,hown0,hg0⟩:=run_make_own (P:=prog) w w.heap.size 27 3 i0 _ 1 Tryz.underlying27 hi hz0 hz1 .i64 .i64 l.length (by rw[hz2];omega) (by unfold maxLen;omega) (Jr _);have OE:=Jj (show Own w0 w.heap.size (.slice (some ⟨w.heap.size,0,none⟩) 0 l.length) [] from⟨hown0,fun _ h=>by simp at h,by simp⟩);have OB:=Jj (show Below w.heap.size w w0 from⟨hg0.os,hg0.tape,hg0.output,hg0.size,fun k hk=>hg0.block k hk (by simp)⟩);have OO:=Jj hv.offI;clear hv hown0 hg0
 go_enter func178,ntmps178
 go_wp2
 go_loopw [3,4] (fun r row wr=>∃j:Nat,j≤l.length∧StD w l j r row wr) (fun _ row _=>pG row)
 case atStart=>
  refine⟨0,Jy _,⟨OE.out,HV.out.bel OB.out,OO.out.mono fun k hk e=>?_,OB.out⟩⟩;simp[Value.ownBlock] at e;omega
 case round=>
  obtain⟨j,hj,st⟩:=hrel;have hlen:=Jj (bj l j);obtain⟨A1,c1,rfl,-,hc1,hrd⟩:=st.row.open_;have ST:=Jj st;have hz:=st.bel.size;clear st;obtain⟨q,hq⟩:∃q,q=l.length-j:=⟨_,rfl⟩;rw[←hq] at hlen;rw[hlen.out] at ST ⊢;have hq1:q≤l.length-j:=by omega
  have hq2:l.length-j≤q:=by omega
  clear hq;by_cases hlt:j<l.length
  ·obtain⟨b,o,rfl,hbb,hcell⟩:=hrd.ints (by rw[hlen.out];omega);have c2:=hcell 0 (by rw[hlen.out];omega);rw[Nat.add_zero] at c2;have hwf:=ST.out.row.2.at (bc l j) 0;have p1:(0:Int)<(q:Int):=by omega
   clear hcell hrd
   go_wp2_with (at_builtin;refine du rfl (.tmp 14) (.tmp 18) (by rfl) w.heap.size _ _ (by rfl) (by exact ST.out.own.bel (ab _ _)) _ _ _ (by rfl) (by exact bh _ _ _) hwf (by rw[nh];omega) (by simp;omega) ?_;intro v1 w1 ho hg hat)
   have hr1:ai w1 (.slice (some ⟨b,o,none⟩) q c1) (bc l j):=by
    have q:=(ST.out.row.bel (ab _ _)).rowFar hg (ST.out.off.mono fun k hk e=>hk e.symm);exact q
   have hb1:=dN (aa ST.out.bel (ab _ _)) (ST.out.own.bel (ab _ _)) hg;have H1:=Jj (Jq ho hb1);clear ho hb1 hg hat c2 hwf;refine(ll _ (bc l j) _ hr1 (by rw[hlen.out];omega)).mono ?_;rintro e w2 ⟨r2,rfl,o2,b2⟩;have H2:=Jj (Jq o2 b2);clear o2 b2;go_wp2;have o2:=H2.out.1;have b2:=H2.out.2;go_roundw
   case rel=>
    refine⟨j+1,by omega,⟨by rw[oW];exact H1.out.1.bel b2,o2.ints,o2.offI.mono fun k hk e=>?_,aa H1.out.2 b2⟩⟩;have:=(H1.out.1.lt k e).2;omega
   case measure=>rw[o2.ints.slen,eO,hlen.out];simp[pG];omega
  ·have hjl:j=l.length:=by omega
   have p1:¬(0:Int)<(q:Int):=by omega
   go_wp2;go_ret;exact⟨_,rfl,by rw[dw];rw[hjl] at ST;exact ST.out.own,ST.out.bel⟩
theorem ai.dropN {w:World} {b o c:Nat} {l:List Int} (h:ai w (.slice (some ⟨b,o,none⟩) l.length c) l) {n:Nat} (hn:n≤l.length):ai w (.slice (some ⟨b,o+n,none⟩) (l.length-n) (c-n)) (l.drop n):=by
 obtain⟨A',c',e,h1,h2,h3⟩:=h.open_;injection e with e1 _ e3;subst e1 e3;have hl:(l.drop n).length=l.length-n:=List.length_drop;refine⟨⟨some ⟨b,o+n,none⟩,c-n,by rw[be,hl],by rw[be,hl];omega,by unfold maxLen;omega,fun h0=>?_⟩,fun x hx=>h.2 x (List.mem_of_mem_drop hx)⟩;rw[be,hl] at h0;obtain⟨b',o',e,hb,hc⟩:=h3 (by rw[be];omega);injection e with e;injection e with e1 e2;subst e1 e2;refine⟨b,o+n,rfl,hb,fun k u hu=>?_⟩;rw[show o+n+k=o+(n+k) by omega];refine hc (n+k) u ?_;rw[←hu,iv,iv,List.map_drop,List.getElem?_drop]
def cK (w:World) (l:List Int) (q:Bool) (e:Ending) (w':World):Prop:=
 ∃r,e=.returned (.tuple #[r,.bool q])∧Own w' w.heap.size r l∧Below w.heap.size w w'
def gS (l:List Int):List Int:=if av l=true then l else[]
def nF (l:List Int) (v:Value):Value:=if av l=true then v else .slice none 0 0
theorem Own.chk {w:World} {base:Nat} {v:Value} {l:List Int} (h:Own w base v l):Own w base (nF l v) (gS l):=by
 unfold nF gS
 split
 ·exact h
 ·exact Own.nil_ _ _
theorem ic {l:List Int} (h:av l=true):gS l=l:=by simp[gS,h]
theorem nc {l:List Int} (h:av l=false):gS l=[]:=by simp[gS,h]
theorem Eo {l:List Int} {v:Value} (h:av l=true):nF l v=v:=by simp[nF,h]
theorem Gk {l:List Int} {v:Value} (h:av l=false):nF l v=.slice none 0 0:=by simp[nF,h]
theorem gF (v:Value) (l:List Int) (w:World) (hv:ai w v l):
  Calls prog 177 #[v] w fun e w'=>e=.returned (.tuple #[nF l v,.bool (av l)])∧w=w':=by
 have HV:=Jj hv;obtain⟨A,c,rfl,-,-,-⟩:=hv.open_;clear hv;cases hq:av l
 ·have HN:=Jj (Gk (v:=.slice A l.length c) hq)
  go_enter func177,ntmps177
  go_wp2_with (go_at_call 176;refine(co _ _ _ HV.out).mono ?_;rintro e w' ⟨rfl,rfl⟩)
  go_ret2;exact⟨by rw[HN.out];rfl,rfl⟩
 ·have HN:=Jj (Eo (v:=.slice A l.length c) hq)
  go_enter func177,ntmps177
  go_wp2_with (go_at_call 176;refine(co _ _ _ HV.out).mono ?_;rintro e w' ⟨rfl,rfl⟩)
  go_ret2;exact⟨by rw[HN.out];rfl,rfl⟩
theorem jM (v:Value) (l:List Int) (w:World) (hv:ai w v l) (hl:l.length≤1048576):
  Calls prog 73 #[v] w (cK w (gS (dw l)) (av (dw l))):=by
 go_enter func73,ntmps73
 go_wp2_with fail
 refine(xU v l _ hv hl).mono ?_;rintro e w1 ⟨r,rfl,o1,b1⟩;have H1:=Jj (Jq o1 b1);obtain⟨A,c,rfl,-,-,-⟩:=o1.ints.open_;clear o1 b1
 go_wp2_with fail
 refine(bo _ _ _ H1.out.1.ints).mono ?_;rintro e w2 ⟨rfl,rfl⟩;cases hq:av (dw l)
 ·have HN:=Jj (nc hq);have OE:=Jj (Own.empty w1 w.heap.size H1.out.2.size);go_wp2;go_ret2;exact⟨_,by rw[hq];rfl,by rw[HN.out];exact OE.out,aa H1.out.2 (ab _ _)⟩
 ·have HN:=Jj (ic hq);go_wp2;go_ret2;exact⟨_,by rw[hq];rfl,by rw[HN.out];exact H1.out.1,H1.out.2⟩
-- ShiftPoly
def et (p:List Int) (n:Int):Bool:=av p&&inB n (-200) 200
theorem nC {p:List Int} {n:Int}:et p n=true↔av p=true ∧ -200≤n∧n≤200:=by
 simp[et,inB]
def dR (p:List Int) (n:Int):Bool:=et p n&&av (gz p n)
def aO (p:List Int) (n:Int):List Int:=if et p n=true then gS (gz p n) else[]
theorem sD {p:List Int} {n:Int} (h:av p=false):et p n=false:=by simp[et,h]
theorem yM {p:List Int} {n:Int} (h:inB n (-200) 200=false):et p n=false:=by simp[et,h]
theorem tw {p:List Int} {n:Int} (h:av p=true) (k:inB n (-200) 200=true):et p n=true:=by simp[et,h,k]
theorem ir {p:List Int} {n:Int} (h:et p n=false):dR p n=false∧aO p n=[]:=by simp[dR,aO,h]
theorem la {p:List Int} {n:Int} (h:et p n=true):dR p n=av (gz p n)∧aO p n=gS (gz p n):=by simp[dR,aO,h]
theorem uJ (v:Value) (p:List Int) (n:Int) (w:World) (hv:ai w v p) (hn : -9223372036854775808≤n∧n≤9223372036854775807):
  Calls prog 157 #[v,.int .i64 n] w (cK w (aO p n) (dR p n)):=by
 have HV:=Jj hv;obtain⟨A,c,rfl,-,-,-⟩:=hv.open_;have OE:=Jj (Own.empty w w.heap.size (Jr _));clear hv;cases hq:av p
 ·have HN:=Jj (ir (sD (n:=n) hq))
  go_enter func157,ntmps157
  go_wp2_with fail
  refine(bo _ _ _ HV.out).mono ?_;rintro e w2 ⟨rfl,rfl⟩;rw[hq]
  go_wp2_with (go_at_call 163;refine(dP _ _).mono ?_;rintro e w' ⟨rfl,rfl⟩)
  all_goals
   go_ret2;exact⟨_,by rw[HN.out.1];rfl,by rw[HN.out.2];exact OE.out,ab _ _⟩
 ·cases hi:inB n (-200) 200
  ·have HN:=Jj (ir (yM (p:=p) hi))
   go_enter func157,ntmps157
   go_wp2_with fail
   refine(bo _ _ _ HV.out).mono ?_;rintro e w2 ⟨rfl,rfl⟩;rw[hq]
   go_wp2_with (go_at_call 163;refine(dP _ _).mono ?_;rintro e w' ⟨rfl,rfl⟩)
   go_ret2;exact⟨_,by rw[HN.out.1];rfl,by rw[HN.out.2];exact OE.out,ab _ _⟩
  ·have hi':=am.1 hi;obtain⟨p1,p7,-⟩:=bf.1 hq;have HD:=Jj (zJ hq hi'.1 hi'.2);have HN:=Jj (la (tw hq hi))
   go_enter func157,ntmps157
   go_wp2_with fail
   refine(bo _ _ _ HV.out).mono ?_;rintro e w2 ⟨rfl,rfl⟩;rw[hq]
   go_wp2_with fail
   refine(dP _ _).mono ?_;rintro e w2 ⟨rfl,rfl⟩;rw[hi];have HQ:=Jj (Jq hq hi);clear hq hi
   go_wp2_with fail
   refine(jN _ p n 1 p.length _ HV.out (by omega) (by omega) (by omega) (by omega)).mono ?_;rintro e w1 ⟨r,rfl,o1,b1⟩;have H1:=Jj (Jq o1 b1);clear o1 b1
   go_wp2_with fail
   refine(jM _ _ _ H1.out.1.ints (by rw[hH,ar];omega)).mono ?_;rintro e w2 ⟨r2,rfl,o2,b2⟩;rw[HD.out] at o2 ⊢;have H2:=Jj (Jq (o2.lower H1.out.2.size) (aa H1.out.2 b2));clear o2 b2;go_wp2;go_ret2;exact⟨_,by rw[HN.out.1];rfl,by rw[HN.out.2];exact H2.out.1,H2.out.2⟩
theorem uz (v:Value) (p:List Int) (n:Int) (w:World) (hv:ai w v p) (hn : -9223372036854775808≤n∧n≤9223372036854775807):
  Calls prog 197 #[v,.int .i64 n] w (cK w (aO p n) (dR p n)):=by
 have HV:=Jj hv;obtain⟨A,c,rfl,hpc,hc,hrd⟩:=hv.open_;clear hv;cases hq:av p
 ·have HN:=Jj (ir (sD (n:=n) hq))
  go_enter func197,ntmps197
  go_wp2_with fail
  refine(co _ _ _ HV.out).mono ?_;rintro e w2 ⟨rfl,rfl⟩;rw[hq]
  go_wp2_with (go_at_call 199;refine(aX _ _ _ (by omega) (by omega)).mono ?_;rintro e w' ⟨rfl,rfl⟩)
  all_goals
   go_ret2;exact⟨_,by rw[HN.out.1];rfl,by rw[HN.out.2];exact Own.nil_ _ _,Below.refl _ _⟩
 ·cases hi:inB n (-200) 200
  ·have HN:=Jj (ir (yM (p:=p) hi))
   go_enter func197,ntmps197
   go_wp2_with fail
   refine(co _ _ _ HV.out).mono ?_;rintro e w2 ⟨rfl,rfl⟩;rw[hq]
   go_wp2_with (go_at_call 199;refine(aX _ _ _ (by omega) (by omega)).mono ?_;rintro e w' ⟨rfl,rfl⟩)
   go_ret2;exact⟨_,by rw[HN.out.1];rfl,by rw[HN.out.2];exact Own.nil_ _ _,Below.refl _ _⟩
  ·have hi':=am.1 hi;obtain⟨p1,p7,-⟩:=bf.1 hq;have HN:=Jj (la (tw hq hi));have hmk:=fun W=>Tryz.mkInts p.length (by omega) W;obtain⟨b,o,rfl,hb,-⟩:=hrd.ints (by omega);clear hrd
   go_enter func197,ntmps197
   go_wp2_with fail
   refine(co _ _ _ HV.out).mono ?_;rintro e w2 ⟨rfl,rfl⟩;rw[hq]
   go_wp2_with fail
   refine(aX _ _ _ (by omega) (by omega)).mono ?_;rintro e w2 ⟨rfl,rfl⟩;rw[hi];have HQ:=Jj (Jq hq hi);clear hq hi
   go_wp2_with fail
   go_loopw [21] (fun i wr=>∃(k:Nat) (cs:List Value),k≤p.length∧i=.int .i64 k∧Blk wr w.heap.size 3 cs∧cs.length=p.length∧(∀j,j<k→cs[j]?=some (.int .i64 (dn (p.drop j) n)))∧Below w.heap.size w wr)
    (fun i _=>p.length-(intOf i).toNat)
   case atStart=>exact⟨0,_,Jy _,rfl,Blk.new _ _ _,bi _ _,fun j hj=>absurd hj (by omega),(Below.refl _ _).alloc (Jr _) _⟩
   case round=>
    obtain⟨k,cs,hk,rfl,hblk,hcl,hcs,hbel⟩:=hrel;have HO:=Jj (Jq hcl (Jq hcs hbel));have hz:=hbel.size;clear hcl hcs;by_cases hlt:k<p.length
    ·have c3:wr.cell? ⟨w.heap.size,k,none⟩=some (cs[k]'(by rw[HO.out.1];exact hlt)):=by rw[hblk.cell];exact List.getElem?_eq_getElem _
     have hfw:=hblk.frozen k;have SA:=Jj ((HV.out.bel hbel).dropN (Nat.le_of_lt hlt));have hnc:¬c=k:=by omega
     have p2:(k:Int)<(p.length:Int):=by omega
     have p3:(0:Int)≤(k:Int):=by omega
     clear hbel
     go_wp2_with fail
     refine(qE _ (p.drop k) n _ SA.out hn (by rw[List.length_drop];omega)).mono ?_;rintro e w3 ⟨rfl,rfl⟩;go_wp2;go_roundw
     case rel=>exact⟨k+1,_,by omega,by go_num,hblk.set_ k _,by rw[List.length_set];exact HO.out.1,fun j hj=>by
      by_cases e:j=k
      ·subst e;rw[List.getElem?_set_self (by rw[HO.out.1];exact hlt)]
      ·rw[List.getElem?_set_ne (by omega)];exact HO.out.2.1 j (by omega),HO.out.2.2.setCell (Jr _) _⟩
     case measure=>simp[intOf];omega
    ·have hnl:k=p.length:=by omega
     subst hnl;have OW:=Jj (jt (f:=fun j=>dn (p.drop j) n) (Jr w.heap.size) hblk HO.out.1 (by omega) HO.out.2.1 (fun j hj=>kR _ _ _));clear hbel
     go_wp2_with fail
     refine(gF _ (gz p n) _ OW.out.ints).mono ?_;rintro e w3 ⟨rfl,rfl⟩;go_wp2;go_ret2;exact⟨_,by rw[HN.out.1];rfl,by rw[HN.out.2];exact OW.out.chk,HO.out.2.2⟩
-- ValuesOf
def cw (p:List Int) (a c:Int):Bool:=et p a&&inB c 0 60&&decide (a+c-1≤200)
def cf (p:List Int) (a c:Int):List Int:=if cw p a c=true then gen (fun i=>dn p (a+(i:Int))) c.toNat else[]
theorem iL {p:List Int} {a c:Int}:cw p a c=true↔av p=true∧(-200≤a∧a≤200)∧(0≤c∧c≤60)∧a+c-1≤200:=by
 simp[cw,et,inB,and_assoc]
theorem iW {p:List Int} {a c:Int} (h:¬(av p=true∧(-200≤a∧a≤200)∧(0≤c∧c≤60)∧a+c-1≤200)):cw p a c=false∧cf p a c=[]:=by
 have:cw p a c=false:=by rw[Bool.eq_false_iff];exact fun e=>h (iL.1 e)
 exact⟨this,by simp[cf,this]⟩
theorem tn {p:List Int} {a:Int} {c:Nat} (h:cw p a c=true):cf p a c=gen (fun i=>dn p (a+(i:Int))) c:=by simp[cf,h]
theorem kE (v:Value) (p:List Int) (a c:Int) (w:World) (hv:ai w v p) (ha : -9223372036854775808≤a∧a≤9223372036854775807) (hc : -9223372036854775808≤c∧c≤9223372036854775807):
  Calls prog 88 #[v,.int .i64 a,.int .i64 c] w (cK w (cf p a c) (cw p a c)):=by
 have HV:=Jj hv;obtain⟨A,cc,rfl,-,-,-⟩:=hv.open_;have OE:=Jj (Own.empty w w.heap.size (Jr _));clear hv;cases hq:av p
 ·have HN:=Jj (iW (p:=p) (a:=a) (c:=c) (by rw[hq];simp))
  go_enter func88,ntmps88
  go_wp2_with fail
  refine(bo _ _ _ HV.out).mono ?_;rintro e w2 ⟨rfl,rfl⟩;rw[hq];go_wp2
  all_goals
   go_ret2;exact⟨_,by rw[HN.out.1];rfl,by rw[HN.out.2];exact OE.out,ab _ _⟩
 ·cases hi:inB a (-200) 200
  ·have HN:=Jj (iW (p:=p) (a:=a) (c:=c) (by have:=bm.1 hi;omega))
   go_enter func88,ntmps88
   go_wp2_with fail
   refine(bo _ _ _ HV.out).mono ?_;rintro e w2 ⟨rfl,rfl⟩;rw[hq]
   go_wp2_with (go_at_call 163;refine(dP _ _).mono ?_;rintro e w' ⟨rfl,rfl⟩)
   go_ret2;exact⟨_,by rw[HN.out.1];rfl,by rw[HN.out.2];exact OE.out,ab _ _⟩
  ·have hi':=am.1 hi;cases hj:inB c 0 60
   ·have HN:=Jj (iW (p:=p) (a:=a) (c:=c) (by have:=bm.1 hj;omega))
    go_enter func88,ntmps88
    go_wp2_with fail
    refine(bo _ _ _ HV.out).mono ?_;rintro e w2 ⟨rfl,rfl⟩;rw[hq]
    go_wp2_with fail
    refine(dP _ _).mono ?_;rintro e w2 ⟨rfl,rfl⟩;rw[hi]
    go_wp2_with (go_at_call 72;refine(aL _ _ _ _).mono ?_;rintro e w' ⟨rfl,rfl⟩)
    go_ret2;exact⟨_,by rw[HN.out.1];rfl,by rw[HN.out.2];exact OE.out,ab _ _⟩
   ·have hj':=am.1 hj;obtain⟨p1,p7,-⟩:=bf.1 hq;by_cases hs:200<a+c-1
    ·have HN:=Jj (iW (p:=p) (a:=a) (c:=c) (by omega))
     go_enter func88,ntmps88
     go_wp2_with fail
     refine(bo _ _ _ HV.out).mono ?_;rintro e w2 ⟨rfl,rfl⟩;rw[hq]
     go_wp2_with fail
     refine(dP _ _).mono ?_;rintro e w2 ⟨rfl,rfl⟩;rw[hi]
     go_wp2_with (go_at_call 72;refine(aL _ _ _ _).mono ?_;rintro e w' ⟨rfl,rfl⟩)
     go_ret2;exact⟨_,by rw[HN.out.1];rfl,by rw[HN.out.2];exact OE.out,ab _ _⟩
    ·obtain⟨c,rfl⟩:∃k:Nat,c=k:=⟨c.toNat,by omega⟩;have hok:cw p a c=true:=iL.2 ⟨hq,hi',hj',by omega⟩;have HN:=Jj (Jq hok (Jq (tn hok) (pO p hi'.1 (show a+(c:Int)≤300 by omega))));clear hok
     go_enter func88,ntmps88
     go_wp2_with fail
     refine(bo _ _ _ HV.out).mono ?_;rintro e w2 ⟨rfl,rfl⟩;rw[hq]
     go_wp2_with fail
     refine(dP _ _).mono ?_;rintro e w2 ⟨rfl,rfl⟩;rw[hi]
     go_wp2_with fail
     refine(aL _ _ _ _).mono ?_;rintro e w2 ⟨rfl,rfl⟩;rw[hj];have HQ:=Jj (Jq hq (Jq hi hj));clear hq hi hj
     go_wp2_with fail
     refine(jN _ p a 1 c _ HV.out (by omega) (by omega) (by omega) (by omega)).mono ?_;rintro e w1 ⟨r,rfl,o1,b1⟩;rw[HN.out.2.2] at o1;have H1:=Jj (Jq o1 b1);clear o1 b1;go_wp2;go_ret2;exact⟨_,by rw[HN.out.1];rfl,by rw[HN.out.2.1];exact H1.out.1,H1.out.2⟩
theorem iD (v:Value) (p:List Int) (a c:Int) (w:World) (hv:ai w v p) (ha : -9223372036854775808≤a∧a≤9223372036854775807) (hc : -9223372036854775808≤c∧c≤9223372036854775807):
  Calls prog 123 #[v,.int .i64 a,.int .i64 c] w (cK w (cf p a c) (cw p a c)):=by
 have HV:=Jj hv;obtain⟨A,cc,rfl,-,-,-⟩:=hv.open_;clear hv;cases hq:av p
 ·have HN:=Jj (iW (p:=p) (a:=a) (c:=c) (by rw[hq];simp))
  go_enter func123,ntmps123
  go_wp2_with fail
  refine(co _ _ _ HV.out).mono ?_;rintro e w2 ⟨rfl,rfl⟩;rw[hq];go_wp2
  all_goals
   go_ret2;exact⟨_,by rw[HN.out.1];rfl,by rw[HN.out.2];exact Own.nil_ _ _,Below.refl _ _⟩
 ·cases hi:inB a (-200) 200
  ·have HN:=Jj (iW (p:=p) (a:=a) (c:=c) (by have:=bm.1 hi;omega))
   go_enter func123,ntmps123
   go_wp2_with fail
   refine(co _ _ _ HV.out).mono ?_;rintro e w2 ⟨rfl,rfl⟩;rw[hq]
   go_wp2_with (go_at_call 199;refine(aX _ _ _ (by omega) (by omega)).mono ?_;rintro e w' ⟨rfl,rfl⟩)
   go_ret2;exact⟨_,by rw[HN.out.1];rfl,by rw[HN.out.2];exact Own.nil_ _ _,Below.refl _ _⟩
  ·have hi':=am.1 hi;by_cases hlo:c<0
   ·have HN:=Jj (iW (p:=p) (a:=a) (c:=c) (by omega))
    go_enter func123,ntmps123
    go_wp2_with fail
    refine(co _ _ _ HV.out).mono ?_;rintro e w2 ⟨rfl,rfl⟩;rw[hq]
    go_wp2_with fail
    refine(aX _ _ _ (by omega) (by omega)).mono ?_;rintro e w2 ⟨rfl,rfl⟩;rw[hi];go_wp2;go_ret2;exact⟨_,by rw[HN.out.1];rfl,by rw[HN.out.2];exact Own.nil_ _ _,Below.refl _ _⟩
   ·by_cases hhi:60<c
    ·have HN:=Jj (iW (p:=p) (a:=a) (c:=c) (by omega))
     go_enter func123,ntmps123
     go_wp2_with fail
     refine(co _ _ _ HV.out).mono ?_;rintro e w2 ⟨rfl,rfl⟩;rw[hq]
     go_wp2_with fail
     refine(aX _ _ _ (by omega) (by omega)).mono ?_;rintro e w2 ⟨rfl,rfl⟩;rw[hi];go_wp2;go_ret2;exact⟨_,by rw[HN.out.1];rfl,by rw[HN.out.2];exact Own.nil_ _ _,Below.refl _ _⟩
    ·obtain⟨p1,p7,-⟩:=bf.1 hq;by_cases hs:200<a+c-1
     ·have HN:=Jj (iW (p:=p) (a:=a) (c:=c) (by omega))
      go_enter func123,ntmps123
      go_wp2_with fail
      refine(co _ _ _ HV.out).mono ?_;rintro e w2 ⟨rfl,rfl⟩;rw[hq]
      go_wp2_with fail
      refine(aX _ _ _ (by omega) (by omega)).mono ?_;rintro e w2 ⟨rfl,rfl⟩;rw[hi];go_wp2;go_ret2;exact⟨_,by rw[HN.out.1];rfl,by rw[HN.out.2];exact Own.nil_ _ _,Below.refl _ _⟩
     ·obtain⟨c,rfl⟩:∃k:Nat,c=k:=⟨c.toNat,by omega⟩;have hok:cw p a c=true:=iL.2 ⟨hq,hi',by omega,by omega⟩;have HN:=Jj (Jq hok (tn hok));have hmk:=fun W=>Tryz.mkInts c (by omega) W;clear hok
      go_enter func123,ntmps123
      go_wp2_with fail
      refine(co _ _ _ HV.out).mono ?_;rintro e w2 ⟨rfl,rfl⟩;rw[hq]
      go_wp2_with fail
      refine(aX _ _ _ (by omega) (by omega)).mono ?_;rintro e w2 ⟨rfl,rfl⟩;rw[hi];have HQ:=Jj (Jq hq hi);clear hq hi
      go_wp2_with fail
      go_loopw [35] (fun i wr=>∃(k:Nat) (cs:List Value),k≤c∧i=.int .i64 k∧Blk wr w.heap.size 3 cs∧cs.length=c∧(∀j,j<k→cs[j]?=some (.int .i64 (dn p (a+(j:Int)))))∧Below w.heap.size w wr)
       (fun i _=>c-(intOf i).toNat)
      case atStart=>exact⟨0,_,Jy _,rfl,Blk.new _ _ _,bi _ _,fun j hj=>absurd hj (by omega),(Below.refl _ _).alloc (Jr _) _⟩
      case round=>
       obtain⟨k,cs,hk,rfl,hblk,hcl,hcs,hbel⟩:=hrel;have HO:=Jj (Jq hcl (Jq hcs hbel));have hz:=hbel.size;clear hcl hcs;by_cases hlt:k<c
       ·have c3:wr.cell? ⟨w.heap.size,k,none⟩=some (cs[k]'(by rw[HO.out.1];exact hlt)):=by rw[hblk.cell];exact List.getElem?_eq_getElem _
        have hfw:=hblk.frozen k;have SA:=Jj (HV.out.bel hbel);clear hbel
        go_wp2_with fail
        refine(qE _ p (a+(k:Int)) _ SA.out (by omega) (by omega)).mono ?_;rintro e w3 ⟨rfl,rfl⟩;go_wp2;go_roundw
        case rel=>exact⟨k+1,_,by omega,by go_num,hblk.set_ k _,by rw[List.length_set];exact HO.out.1,fun j hj=>by
         by_cases e:j=k
         ·subst e;rw[List.getElem?_set_self (by rw[HO.out.1];exact hlt)]
         ·rw[List.getElem?_set_ne (by omega)];exact HO.out.2.1 j (by omega),HO.out.2.2.setCell (Jr _) _⟩
        case measure=>simp[intOf];omega
       ·have hnl:k=c:=by omega
        subst hnl;have OW:=Jj (jt (f:=fun j=>dn p (a+(j:Int))) (Jr w.heap.size) hblk HO.out.1 (by omega) HO.out.2.1 (fun j hj=>kR _ _ _));clear hbel;go_wp2;go_ret2;exact⟨_,by rw[HN.out.1];rfl,by rw[HN.out.2];exact OW.out,HO.out.2.2⟩
def fl (c:List Int) (n:Int):Nat→Int
 |0=>0
 |k+1=>wrap64 (wrap64 (fl c n k*n)+at_ c (c.length-1-k))
def pW (c:List Int) (n:Int):Int:=fl c n c.length
theorem qL (c:List Int) (n:Int) (k:Nat) : -9223372036854775808≤fl c n k∧fl c n k≤9223372036854775807:=by
 cases k with
 |zero=>simp[fl]
 |succ k=>exact jw _
def wH (c:List Int) (k:Nat):List Int:=gen (fun i=>pW c i) k
def od (c:List Int):List Int:=wH c c.length
theorem kI (c:List Int) (k:Nat):(wH c k).length=k:=ar _ _
theorem Dq (c:List Int) (k:Nat):wH c (k+1)=wH c k++[pW c k]:=fE _ _
def iO (c:List Int):Bool:=av c&&av (dw (od c))
def fpL (c:List Int):List Int:=if av c=true then gS (dw (od c)) else[]
theorem uQ {c:List Int} (h:av c=false):iO c=false∧fpL c=[]:=by simp[iO,fpL,h]
theorem vK {c:List Int} (h:av c=true):iO c=av (dw (od c))∧fpL c=gS (dw (od c)):=by simp[iO,fpL,h]
theorem xV (v:Value) (c:List Int) (n:Int) (w:World) (hv:ai w v c) (hl:c.length≤1048576):
  Calls prog 79 #[v,.int .i64 n] w fun e w'=>e=.returned (.int .i64 (pW c n))∧w=w':=by
 obtain⟨A,cap,rfl,hlc,hc,hrd⟩:=hv.open_;have HR:=Jj hrd;clear hrd hv
 go_enter func79,ntmps79
 go_wp2
 go_loopw [5,6] (fun r i wr=>∃k:Nat,k≤c.length∧i=.int .i64 ((c.length:Int)-1-(k:Int))∧r=.int .i64 (fl c n k)∧wr=w) (fun _ i _=>(intOf i+1).toNat)
 case atStart=>exact⟨0,Jy _,by go_num,rfl,rfl⟩
 case round=>
  obtain⟨k,hk,rfl,rfl,rfl⟩:=hrel;by_cases hlt:k<c.length
  ·obtain⟨m,hm⟩:∃m,c.length-1-k=m:=⟨_,rfl⟩;have hmi:(c.length:Int)-1-(k:Int)=(m:Int):=by omega
   rw[hmi];have hml:m<c.length:=by omega
   obtain⟨b,o,rfl,hbb,hcell⟩:=HR.out.ints (by omega);have hck:=hcell m hml;have HE:=Jj (show fl c n (k+1)=wrap64 (wrap64 (fl c n k*n)+at_ c m) by rw[←hm];rfl);have w1:IntKind.i64.wrap (fl c n k*n)=wrap64 (fl c n k*n):=IntWalk.i64_left _;have w2:IntKind.i64.wrap (wrap64 (fl c n k*n)+at_ c m)=wrap64 (wrap64 (fl c n k*n)+at_ c m):=IntWalk.i64_left _;have hmk:=Jj hm;have hmi2:=Jj hmi;clear hcell hm hmi;go_wp2;go_roundw
   case rel=>exact⟨k+1,by omega,by have:=hmi2.out;go_num,by rw[HE.out],by first|rfl|trivial⟩
   case measure=>simp[intOf] <;> omega
  ·obtain rfl:k=c.length:=by omega
   have hmi:(c.length:Int)-1-(c.length:Int) = -1:=by omega
   rw[hmi];go_wp2;go_ret;exact⟨rfl,rfl⟩
theorem yy (v:Value) (c:List Int) (w:World) (hv:ai w v c):
  Calls prog 39 #[v] w (cK w (fpL c) (iO c)):=by
 have HV:=Jj hv;obtain⟨A,cap,rfl,-,-,-⟩:=hv.open_;have OE:=Jj (Own.empty w w.heap.size (Jr _));clear hv;cases hq:av c
 ·have HN:=Jj (uQ hq)
  go_enter func39,ntmps39
  go_wp2_with fail
  refine(bo _ _ _ HV.out).mono ?_;rintro e w2 ⟨rfl,rfl⟩;rw[hq];go_wp2;go_ret2;exact⟨_,by rw[HN.out.1];rfl,by rw[HN.out.2];exact OE.out,ab _ _⟩
 ·have HY:=Jj (vK hq);obtain⟨l1,l7,-⟩:=bf.1 hq
  go_enter func39,ntmps39
  go_wp2_with fail
  refine(bo _ _ _ HV.out).mono ?_;rintro e w2 ⟨rfl,rfl⟩;rw[hq];clear hq
  go_wp2_with fail
  go_loopw [4,5] (fun r i wr=>∃k:Nat,k≤c.length∧i=.int .i64 k∧Own wr w.heap.size r (wH c k)∧Below w.heap.size w wr) (fun _ i _=>c.length-(intOf i).toNat)
  case atStart=>exact⟨0,Jy _,rfl,OE.out,ab _ _⟩
  case round=>
   obtain⟨k,hk,rfl,ho,hb⟩:=hrel;have HO:=Jj (Jq ho hb);have hz:=hb.size;clear ho hb;by_cases hlt:k<c.length
   ·go_wp2_with fail
    refine(xV _ c k _ (HV.out.bel HO.out.2) (by omega)).mono ?_;rintro e w1 ⟨rfl,rfl⟩
    go_wp2_with (at_builtin;refine du rfl (.tmp 17) (.tmp 21) (by rfl) w.heap.size u4 _ (by rfl) (by exact HO.out.1.bel (ab _ _)) _ _ _ (by rfl) (by exact bh _ _ _) (qL _ _ _) (by rw[kI];omega) (by simp;omega) ?_;intro v1 w2 ho hg _)
    go_roundw
    case rel=>exact⟨k+1,by omega,by go_num,by rw[Dq];exact ho,dN (aa HO.out.2 (ab _ _)) (HO.out.1.bel (ab _ _)) hg⟩
    case measure=>simp[intOf];omega
   ·obtain rfl:k=c.length:=by omega
    obtain⟨A1,c1,rfl,-,-,-⟩:=HO.out.1.ints.open_;rw[kI] at *
    go_wp2_with fail
    refine(jM _ (od c) _ HO.out.1.ints (by unfold od;rw[kI];omega)).mono ?_;rintro e w3 ⟨r,rfl,o3,b3⟩;have HP:=Jj (Jq (o3.lower (base':=w.heap.size) HO.out.2.size) (aa HO.out.2 b3));obtain⟨A2,c2,rfl,-,-,-⟩:=o3.ints.open_;clear o3 b3;go_wp2;go_ret2;exact⟨_,by rw[HY.out.1];rfl,by rw[HY.out.2];exact HP.out.1,HP.out.2⟩
theorem xO (v:Value) (c:List Int) (w:World) (hv:ai w v c):
  Calls prog 135 #[v] w (cK w (fpL c) (iO c)):=by
 have HV:=Jj hv;obtain⟨A,cap,rfl,hlc,hcm,hrd⟩:=hv.open_;have HR:=Jj hrd;clear hv hrd;by_cases h1:1≤c.length
 ·by_cases h7:c.length≤7
  ·have H:inB (c.length:Int) 1 7=true:=am.2 (by omega);have HP:=Jj (show av c=c.all fun t=>inB t (-100000) 100000 by rw[av,iV,H];rfl);clear H;cases hq:av c
   ·have HN:=Jj (Jq (uQ hq) (HP.out.symm.trans hq));clear hq
    go_enter func135,ntmps135
    go_wp2_with fail
    refine(fd _ _ _ _ HV.out (by omega) (by omega)).mono ?_;rintro e w2 ⟨rfl,rfl⟩;rw[HN.out.2];go_wp2;go_ret2;exact⟨_,by rw[HN.out.1.1];rfl,by rw[HN.out.1.2];exact Own.nil_ _ _,Below.refl _ _⟩
   ·have HY:=Jj (Jq (vK hq) (HP.out.symm.trans hq));have hmk:=fun W=>Tryz.mkInts c.length (by omega) W;obtain⟨b,o,rfl,hbb,hcell⟩:=HR.out.ints (by omega);have HC:=Jj (Jq hbb hcell);clear hq hcell hbb
    go_enter func135,ntmps135
    go_wp2_with fail
    refine(fd _ _ _ _ HV.out (by omega) (by omega)).mono ?_;rintro e w2 ⟨rfl,rfl⟩;rw[HY.out.2]
    go_wp2_with fail
    go_loopw [25] (fun i wr=>∃(k:Nat) (cs:List Value),k≤c.length∧i=.int .i64 k∧Blk wr w.heap.size 3 cs∧cs.length=c.length∧((∀j,j<k→cs[j]?=some (.int .i64 (pW c j)))∧∀j,k≤j→j<c.length→cs[j]?=some (.int .i64 0))∧Below w.heap.size w wr)
     (fun i _=>c.length-(intOf i).toNat)
    case atStart=>exact⟨0,_,Jy _,rfl,Blk.new _ _ _,bi _ _,⟨fun j hj=>absurd hj (by omega),fun j _ hj=>oh _ hj⟩,ab _ _⟩
    case round=>
     obtain⟨k,cs,hk,rfl,hblk,hcl,hcs,hbel⟩:=hrel;have HO:=Jj (Jq hcl (Jq hcs hbel));have HB:=Jj hblk;have hz:=hbel.size;clear hcl hcs hbel hblk;by_cases hlt:k<c.length
     ·go_wp2_with fail
      go_loopw [6] (fun i wq=>∃(m:Nat) (ds:List Value),m≤c.length∧i=.int .i64 ((c.length:Int)-1-(m:Int))∧Blk wq w.heap.size 3 ds∧ds.length=c.length∧(∀j,j<k→ds[j]?=some (.int .i64 (pW c j)))∧ds[k]?=some (.int .i64 (fl c k m))∧(∀j,k+1≤j→j<c.length→ds[j]?=some (.int .i64 0))∧Below w.heap.size w wq) (fun i _=>(intOf i+1).toNat)
      case atStart=>exact⟨0,cs,Jy _,by go_num,HB.out,HO.out.1,HO.out.2.1.1,HO.out.2.1.2 k (Jr _) hlt,fun j hj hl=>HO.out.2.1.2 j (by omega) hl,HO.out.2.2⟩
      case round=>
       obtain⟨m,ds,hm,rfl,hblk,hdl,hd1,hd2,hd3,hbel⟩:=hrel;have H:=Jj (Jq hdl (Jq hd1 (Jq hd2 (Jq hd3 hbel))));have H2:=Jj hblk;have hz2:=hbel.size;by_cases hml:m<c.length
       ·obtain⟨i,hi⟩:∃i,c.length-1-m=i:=⟨_,rfl⟩;have hmi:(c.length:Int)-1-(m:Int)=(i:Int):=by omega
        rw[hmi];have hil:i<c.length:=by omega
        have hck:=(hbel.cell (by exact HC.out.1)).trans (HC.out.2 i hil);have hcw:wr.cell? ⟨w.heap.size,k,none⟩=some (.int .i64 (fl c k m)):=by rw[hblk.cell];exact hd2
        have hfw:=hblk.frozen k;have HE:=Jj (show fl c k (m+1)=wrap64 (wrap64 (fl c k m*k)+at_ c i) by rw[←hi];rfl);have hbw:=hblk.lt;have hne:b≠w.heap.size:=by have:=HC.out.1;omega
        have hbd:=qL c k m;obtain⟨H0,hH0⟩:∃z,fl c k m=z:=⟨_,rfl⟩;obtain⟨X,hX⟩:∃z,at_ c i=z:=⟨_,rfl⟩;rw[hH0] at hcw HE hbd;rw[hX] at hck HE;have w1:IntKind.i64.wrap (H0*(k:Int))=wrap64 (H0*(k:Int)):=IntWalk.i64_left _;have w2:IntKind.i64.wrap (wrap64 (H0*(k:Int))+X)=wrap64 (wrap64 (H0*(k:Int))+X):=IntWalk.i64_left _;have hmi2:=Jj hmi;have hiH:=Jj (Jq hi (Jq hH0 hX));clear hi hH0 hX hd1 hd2 hd3 hdl hbel hblk hmi
        go_wp2_with fail
        go_region_law (first|fail)
        all_goals
         go_wp2;go_roundw
         case rel=>
          refine⟨m+1,_,by omega,by have:=hmi2.out;go_num,H2.out.set_ k _,by rw[List.length_set];exact H.out.1,fun j hj=>?_,?_,fun j hj hl=>?_,(by first|exact H.out.2.2.2.2.setCell (Jr _) _|exact(H.out.2.2.2.2.setCell (Jr _) _).drew)⟩
          ·rw[List.getElem?_set_ne (by omega)];exact H.out.2.1 j hj
          ·rw[List.getElem?_set_self (by rw[H.out.1];exact hlt),HE.out]
          ·rw[List.getElem?_set_ne (by omega)];exact H.out.2.2.2.1 j hj hl
         case measure=>simp[intOf] <;> omega
       ·obtain rfl:m=c.length:=by omega
        have hmi:(c.length:Int)-1-(c.length:Int) = -1:=by omega
        rw[hmi];clear hmi hd1 hd2 hd3 hdl hbel hblk;go_wp2;go_roundw
        case rel=>
         refine⟨k+1,ds,hlt,by go_num,H2.out,H.out.1,⟨fun j hj=>?_,fun j hj hl=>H.out.2.2.2.1 j hj hl⟩,H.out.2.2.2.2⟩
         rcases Nat.lt_or_ge j k with h|h
         ·exact H.out.2.1 j h
         ·obtain rfl:j=k:=by omega
          exact H.out.2.2.1
        case measure=>simp[intOf];omega
     ·obtain rfl:k=c.length:=by omega
      have OW:=Jj (show Own wr w.heap.size (.slice (some ⟨w.heap.size,0,none⟩) c.length c.length) (od c) from jt (f:=fun j=>pW c (j:Int)) (Jr w.heap.size) HB.out HO.out.1 (by omega) HO.out.2.1.1 (fun j hj=>qL _ _ _))
      go_wp2_with fail
      refine(lh _ (od c) _ OW.out.ints (by unfold od;rw[kI];omega)).mono ?_;rintro e w3 ⟨r,rfl,o3,b3⟩;have HO3:=Jj o3;have HB3:=Jj (aa HO.out.2.2 b3);have hz3:=HO.out.2.2.size;obtain⟨A3,c3,rfl,-,-,-⟩:=o3.ints.open_;clear o3 b3
      go_wp2_with fail
      refine(gF _ _ _ HO3.out.ints).mono ?_;rintro e w4 ⟨rfl,rfl⟩;go_wp2;go_ret2;exact⟨_,by rw[HY.out.1.1];rfl,by rw[HY.out.1.2];exact(HO3.out.lower hz3).chk,HB3.out⟩
  ·have HN:=Jj (uQ (c:=c) (by rw[av,iV,bm.2 (by omega)];rfl))
   go_enter func135,ntmps135
   go_wp2;go_ret2;exact⟨_,by rw[HN.out.1];rfl,by rw[HN.out.2];exact Own.nil_ _ _,Below.refl _ _⟩
 ·have HN:=Jj (uQ (c:=c) (by rw[av,iV,bm.2 (by omega)];rfl))
  go_enter func135,ntmps135
  go_wp2;go_ret2;exact⟨_,by rw[HN.out.1];rfl,by rw[HN.out.2];exact Own.nil_ _ _,Below.refl _ _⟩
end Go.Proofs.YtfmjklgfpiffbaaGreatDoor
