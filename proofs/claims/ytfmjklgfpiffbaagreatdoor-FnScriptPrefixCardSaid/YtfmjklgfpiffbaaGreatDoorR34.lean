/-
  Parts of the proof of one statement, merged: ErG.
-/
import Derived.Test.YtfmjklgfpiffbaaGreatDoorR12
import Derived.Test.YtfmjklgfpiffbaaGreatDoorR30
namespace Go.Proofs.YtfmjklgfpiffbaaGreatDoor
open Go.RowKit Go.Shelf
set_option linter.unusedVariables false
set_option linter.unusedSimpArgs false
set_option maxRecDepth 100000
attribute [local go_sem] Oper.semAt_some
theorem EtO.keepRow {w w':World} {base:Nat} {v:Value} {es:List Etm} {row:Option Nat} (h:EtO w base v es) (hb:w.grownBy w' row) (hr:∀k,v.ownBlock=some k→some k≠row):EtO w' base v es:=
 ⟨h.1.kept hb (by
  cases hv:v.ownBlock with
  |none=>exact .inl rfl
  |some k=>exact .inr (hr k hv)),h.2⟩
theorem qI {w:World} {base k:Nat} {v:Value} {es:List Etm} (h:EtO w base v es) (hv:v.ownBlock=some k):∃o:Obj,w.heap[k]?=some o∧o.isCells=true:=by
 rcases h.1.2 with ⟨rfl,-⟩|⟨g,cap,cur,rfl,-,hh,-⟩
 ·cases hv
 ·injection hv with hv;subst hv;exact⟨_,hh,rfl⟩
def PeB (w:World) (B:Nat) (v:Value) (es:List Etm) (X:World):Prop:=
 Blk X w.heap.size 73 [.slice none 0 0]∧Blk X (w.heap.size+1) 4 [.bool false]∧Blk X (w.heap.size+2) 73 [v]∧EtO X B v es∧Below w.heap.size w X∧B≤X.heap.size
def PeI (w:World) (B:Nat) (pre:List ByteArray) (X:World):Prop:=∃v,PeB w B v (pre.map etV) X∧fq pre=true
def PeX (w:World) (xs:List ByteArray) (c:Code) (pre:List ByteArray) (X:World):Prop:=
 c=.ret∧fq xs=false∧Blk X w.heap.size 73 [.slice none 0 0]∧Blk X (w.heap.size+1) 4 [.bool false]∧Below w.heap.size w X
theorem Dg (w:World) (B b:Nat) (hb:w.heap.size+3≤b) (hB:b+3≤B):AbC B b (PeI w B):=by
 rintro s X X' row ⟨v,⟨k0,k1,k2,ho,hbel,hz⟩,hal⟩ hg hr;have ne:∀q,q<b→some q≠row:=fun q hq e=>by
  rcases hr q e.symm with h|⟨h,-⟩ <;> omega
 refine⟨v,⟨k0.grown hg (ne _ (by omega)),k1.grown hg (ne _ (by omega)),k2.grown hg (ne _ (by omega)),ho.keepRow hg (fun k hk e=>?_),hbel.trans ((Below.refl _ X).grown hg hbel.size (fun k e=>?_)),Nat.le_trans hz hg.size⟩,hal⟩
 ·rcases hr k e.symm with h|⟨h,o,h1,h2⟩
  ·have:=(ho.lt k hk).1;omega
  ·obtain⟨o',h3,h4⟩:=qI ho hk;rw[h1] at h3;injection h3 with h3;subst h3;rw[h2] at h4;cases h4
 ·rcases hr k e with h|⟨h,-⟩ <;> omega
theorem Dh (w:World) (B b:Nat) (xs:List ByteArray) (hb:w.heap.size+3≤b) (hB:b+3≤B) (c:Code):AbC B b (PeX w xs c):=by
 rintro s X X' row ⟨hc,hx,k0,k1,hbel⟩ hg hr;have ne:∀q,q<b→some q≠row:=fun q hq e=>by
  rcases hr q e.symm with h|⟨h,-⟩ <;> omega
 refine⟨hc,hx,k0.grown hg (ne _ (by omega)),k1.grown hg (ne _ (by omega)),hbel.trans ((Below.refl _ X).grown hg hbel.size (fun k e=>?_))⟩
 rcases hr k e with h|⟨h,-⟩ <;> omega
theorem Ef {F:Fence} {n:Nat} {ops:Array Oper} {rest:List Oper} {o:Oper} {a:Act} {Q:Exit→Act→World→Prop} {w:World} (hgd:o.guard=none) (s x:Operand)
  (ho:o.op=.call { callee:=.builtin .append,args := #[s,x],argTypes := #[73,73] })
  (base:Nat) (v:Value) (es:List Etm) (hs:a.eval s=v) (hown:EtO w base v es) (g c:Nat) (y:Etm) (hx:a.eval x=.slice (some ⟨g,0,none⟩) 1 c)
  (hcell:Blk w g 111 [.int .i64 y.1,.int .i64 y.2.1,.int .i64 y.2.2]) (hy:kr y) (hl:es.length+1≤1048576) (hbase:base≤w.heap.size)
  (h:∀v' w',EtO w' base v' (es++[y])→w.grownBy w' v.ownBlock→wpListIn F n Tryz.prog ops Q rest (a.put o.dst v') w'):wpListIn F n Tryz.prog ops Q (o::rest) a w:=by
 obtain⟨i0,hi,hz0,hz1,hz2⟩:=k8 Tryz.infoEt;obtain⟨k2,k3,k4⟩:=hown;refine wpListIn_append_own (P:=Tryz.prog) w hgd s x 73 ho base 111 i0 _ 3 24 Tryz.underlying73 hi hz0 hz1 hz2 rfl (by omega) v es.length (etC es) hs k2 ⟨g,0,none⟩ 1 c [.int .i64 y.1,.int .i64 y.2.1,.int .i64 y.2.2] hx rfl ?_ ?_ (by unfold maxLen;omega) (by omega) hbase ?_
 ·intro j z hj;have f:(⟨g,0,none⟩:Addr).add j=⟨g,j,none⟩:=by unfold Addr.add;split <;> simp_all
  rw[f,hcell.cell];exact hj
 ·intro z hz;simp at hz
  rcases hz with rfl|rfl|rfl <;> rfl
 ·intro v' w' h1 h2 _;refine h v' w' ⟨?_,by simp;omega,fun k hk=>?_⟩ h2
  ·rw[sM,List.length_append];exact h1
  ·rw[List.length_append,List.length_singleton] at hk
   rcases Nat.lt_or_ge k es.length with q|q
   ·have:aC (es++[y]) k=aC es k:=by unfold aC;simp only[List.getD];rw[List.getElem?_append_left q]
    rw[this];exact k4 k q
   ·obtain rfl:k=es.length:=by omega
    have:aC (es++[y]) es.length=y:=by unfold aC;simp[List.getD]
    rw[this];exact hy
theorem IF {w X X3:World} {B:Nat} {xs pre:List ByteArray} (hB:B=w.heap.size+6) (hbel:Below w.heap.size w X) (hz:B≤X.heap.size) (b3:Below X.heap.size X X3)
  (g0:Blk X3 w.heap.size 73 [.slice none 0 0]) (g1:Blk X3 (w.heap.size+1) 4 [.bool false]) (hx:fq xs=false):
  KeepsFrom B X ((X3.setCell ⟨w.heap.size,0,none⟩ (.slice none 0 0)).setCell ⟨w.heap.size+1,0,none⟩ (.bool false))∧PeX w xs .ret pre ((X3.setCell ⟨w.heap.size,0,none⟩ (.slice none 0 0)).setCell ⟨w.heap.size+1,0,none⟩ (.bool false)):=by
 have hbs:Below w.heap.size X ((X3.setCell ⟨w.heap.size,0,none⟩ (.slice none 0 0)).setCell ⟨w.heap.size+1,0,none⟩ (.bool false)):=
  ((b3.mono (show w.heap.size≤X.heap.size by omega)).setCell (p:=⟨w.heap.size,0,none⟩) (Nat.le_refl _) _).setCell (p:=⟨w.heap.size+1,0,none⟩) (by show w.heap.size≤w.heap.size+1;omega) _
 refine⟨⟨hbs.size,fun j o hj hh hc=>?_⟩,rfl,hx,?_,?_,hbel.trans hbs⟩
 ·have hjz:=(Array.getElem?_eq_some_iff.1 hh).1;rw[Below.heap_setCell _ ⟨w.heap.size+1,0,none⟩ _ j (by show j≠w.heap.size+1;omega),Below.heap_setCell _ ⟨w.heap.size,0,none⟩ _ j (by show j≠w.heap.size;omega),b3.block j hjz];exact hh
 ·exact(g0.set_ 0 _).far (p:=⟨w.heap.size+1,0,none⟩) (by show w.heap.size≠w.heap.size+1;omega) _
 ·exact(g1.far (p:=⟨w.heap.size,0,none⟩) (by show w.heap.size+1≠w.heap.size;omega) _).set_ 0 _
theorem ID {w X X3 X4:World} {B:Nat} {v v':Value} {es:List Etm} {y:Etm} {pre:List ByteArray} {x:ByteArray} (hB:B=w.heap.size+6)
  (c0:Blk X w.heap.size 73 [.slice none 0 0]) (c1:Blk X (w.heap.size+1) 4 [.bool false]) (c2:Blk X (w.heap.size+2) 73 [v])
  (ho:EtO X B v es) (hbel:Below w.heap.size w X) (hz:B≤X.heap.size) (hp:pre.map etV=es) (hy:y=etV x) (hal:fq pre=true) (hx:etT x=true)
  (b3:Below X.heap.size X X3) (o4:EtO X4 B v' (es++[y])) (hg4:X3.grownBy X4 v.ownBlock):
  KeepsFrom B X (X4.setCell ⟨w.heap.size+1+1,0,none⟩ v')∧KpC w.heap.size (w.heap.size+3) X (X4.setCell ⟨w.heap.size+1+1,0,none⟩ v')∧PeI w B (pre++[x]) (X4.setCell ⟨w.heap.size+1+1,0,none⟩ v'):=by
 have own:∀k,v.ownBlock=some k→B≤k∧k<X.heap.size:=ho.lt;have hlow:∀k,k<B→k<X.heap.size→k≠w.heap.size+2→(X4.setCell ⟨w.heap.size+1+1,0,none⟩ v').heap[k]?=X.heap[k]?:=fun k hk hkz hne=>
  (Below.heap_setCell X4 ⟨w.heap.size+1+1,0,none⟩ v' k (by show k≠w.heap.size+1+1;omega)).trans ((hg4.block k (Nat.lt_of_lt_of_le hkz b3.size) (fun e=>by have:=(own k e.symm).1;omega)).trans (b3.block k hkz))
 have hBel:Below w.heap.size X (X4.setCell ⟨w.heap.size+1+1,0,none⟩ v'):=by
  have h1:Below w.heap.size X X3:=b3.mono (Nat.le_trans (by omega) hz);have h2:Below w.heap.size X3 X4:=(Below.refl _ X3).grown hg4 (Nat.le_trans hbel.size b3.size) (fun k e=>by have:=(own k e).1;omega);exact(h1.trans h2).setCell (p:=⟨w.heap.size+1+1,0,none⟩) (by show w.heap.size≤w.heap.size+1+1;omega) v'
 have keep:∀ {k:Nat} {t:TypeId} {cs:List Value},Blk X k t cs→k<B→k≠w.heap.size+2→Blk (X4.setCell ⟨w.heap.size+1+1,0,none⟩ v') k t cs:=fun h h1 h2=>(hlow _ h1 h.lt h2).trans h;refine⟨?_,⟨hBel,fun k h1 h2=>hlow k (by omega) (by omega) (by omega)⟩,v',⟨keep c0 (by omega) (by omega),keep c1 (by omega) (by omega),?_,?_,hbel.trans hBel,Nat.le_trans hz hBel.size⟩,?_⟩
 ·refine⟨hBel.size,fun j o hj hh hc=>?_⟩;have hjz:=(Array.getElem?_eq_some_iff.1 hh).1;rw[Below.heap_setCell X4 ⟨w.heap.size+1+1,0,none⟩ v' j (by show j≠w.heap.size+1+1;omega),hg4.block j (Nat.lt_of_lt_of_le hjz b3.size) (fun e=>by
   obtain⟨o',q1,q2⟩:=qI ho e.symm;rw[hh] at q1;injection q1 with q1;subst q1;rw[hc] at q2;cases q2),b3.block j hjz]
  exact hh
 ·have:Blk X4 (w.heap.size+2) 73 [v]:=(hg4.block (w.heap.size+2) (Nat.lt_of_lt_of_le c2.lt b3.size) (fun e=>by have:=(own _ e.symm).1;omega)).trans ((b3.block _ c2.lt).trans c2);exact this.set_ 0 v'
 ·rw[List.map_append,hp,List.map_cons,List.map_nil,←hy];exact o4.keepRow (aI X4 (w.heap.size+1+1) 0 v') (fun k hk e=>by
   injection e with e;have:=(o4.lt k hk).1;omega)
 ·unfold fq at hal ⊢;rw[List.all_append,hal];simp[hx]
theorem IC {pre rest xs:List ByteArray} {x:ByteArray} (h:xs=pre++x::rest) (hq:etT x=false):fq xs=false:=by
 rw[h];unfold fq;rw[List.all_append,List.all_cons,hq];simp
theorem wD {w V:World} {D B:Nat} {u:Value} {q:Bool} {es:List Etm} (h0:Blk V w.heap.size 73 [u]) (h1:Blk V (w.heap.size+1) 4 [.bool q]) (ho:EtO V B u es) (hb:Below w.heap.size w V) (hD:w.heap.size+2≤D) (hB:w.heap.size≤B)
  (hK:V.heap[D]?=some (.deferred (some []))):(V.putObj D (.deferred none)).cell? ⟨w.heap.size,0,none⟩=some u∧(V.putObj D (.deferred none)).cell? ⟨w.heap.size+1,0,none⟩=some (.bool q)∧EtO (V.putObj D (.deferred none)) w.heap.size u es∧Below w.heap.size w (V.putObj D (.deferred none)):=by
 have v1:Blk (V.putObj D (.deferred none)) w.heap.size 73 [u]:=(World.putObj_heap_other (by omega)).trans h0;have v2:Blk (V.putObj D (.deferred none)) (w.heap.size+1) 4 [.bool q]:=(World.putObj_heap_other (by omega)).trans h1;have v3:EtO (V.putObj D (.deferred none)) B u es:=ho.keepRow (grownBy_putObj' V D _) (fun k hk e=>by
  injection e with e;subst e;obtain⟨o',q1,q2⟩:=qI ho hk;rw[hK] at q1;injection q1 with q1;subst q1;cases q2)
 exact⟨v1.one.1,v2.one.1,v3.lower hB,hb.trans (belowK_b (w:=w) (Nat.le_refl _) V D _ _ (by omega) hK rfl rfl)⟩
theorem Di {w X2:World} {D B:Nat} {u r:Value} {q:Bool} {es:List Etm} (g0:Blk X2 w.heap.size 73 [r]) (g1:Blk X2 (w.heap.size+1) 4 [.bool false]) (ho:EtO X2 B u es) (hb:Below w.heap.size w X2) (hB:w.heap.size+2≤B) (hD:w.heap.size+2≤D)
  (hK:X2.heap[D]?=some (.deferred (some []))):
  Blk ((X2.setCell ⟨w.heap.size,0,none⟩ u).setCell ⟨w.heap.size+1,0,none⟩ (.bool q)) w.heap.size 73 [u]∧Blk ((X2.setCell ⟨w.heap.size,0,none⟩ u).setCell ⟨w.heap.size+1,0,none⟩ (.bool q)) (w.heap.size+1) 4 [.bool q] ∧
  EtO ((X2.setCell ⟨w.heap.size,0,none⟩ u).setCell ⟨w.heap.size+1,0,none⟩ (.bool q)) B u es∧Below w.heap.size w ((X2.setCell ⟨w.heap.size,0,none⟩ u).setCell ⟨w.heap.size+1,0,none⟩ (.bool q)) ∧
  ((X2.setCell ⟨w.heap.size,0,none⟩ u).setCell ⟨w.heap.size+1,0,none⟩ (.bool q)).heap[D]?=some (.deferred (some [])):=by
 refine⟨(g0.set_ 0 _).far (p:=⟨w.heap.size+1,0,none⟩) (by show w.heap.size≠w.heap.size+1;omega) _,(g1.far (p:=⟨w.heap.size,0,none⟩) (by show w.heap.size+1≠w.heap.size;omega) _).set_ 0 _,?_,(hb.setCell (p:=⟨w.heap.size,0,none⟩) (Nat.le_refl _) _).setCell (p:=⟨w.heap.size+1,0,none⟩) (by show w.heap.size≤w.heap.size+1;omega) _,?_⟩
 ·have far:∀(Y:World) (i:Nat) (z:Value),i<B→EtO Y B u es→EtO (Y.setCell ⟨i,0,none⟩ z) B u es:=fun Y i z hi h=>h.keepRow (aI Y i 0 z) (fun k hk e=>by
   injection e with e;have:=(h.lt k hk).1;omega)
  exact far _ (w.heap.size+1) _ (by omega) (far _ w.heap.size _ (by omega) ho)
 ·exact(Below.heap_setCell _ ⟨w.heap.size+1,0,none⟩ _ D (by show D≠w.heap.size+1;omega)).trans ((Below.heap_setCell _ ⟨w.heap.size,0,none⟩ _ D (by show D≠w.heap.size;omega)).trans hK)
theorem Dj {t:ByteArray} (h45:t≠⟨#[45]⟩) (h1:fq (aq 59 t)=true) (h2:dz ((aq 59 t).map etV)=true):iP t=true∧peL t=(aq 59 t).map etV:=by
 have:iP t=true:=by unfold iP;rw[h1,h2];simp
 exact⟨this,by unfold peL;rw[if_neg h45,if_pos this]⟩
theorem rN {t:ByteArray} (h45:t≠⟨#[45]⟩) (h:fq (aq 59 t)=false∨dz ((aq 59 t).map etV)=false):iP t=false∧peL t=[]:=by
 have:iP t=false:=by
  unfold iP;rw[decide_eq_false h45]
  rcases h with h|h <;> rw[h] <;> simp
 exact⟨this,by unfold peL;rw[if_neg h45,this];rfl⟩
theorem IE (t:ByteArray):1≤(aq 59 t).length:=by
 unfold aq;rw[List.length_map];exact List.length_pos_iff.2 (kj 59 _)
theorem zT (t:ByteArray) (w:World) (hs:t.size≤1000000) (hg:Glb w) (hnm:1<w.heap.size):
  Calls Tryz.prog 137 #[.string t] w (EtQ w (peL t) (iP t)):=by
 have HG:=Lib.hid hg;clear hg;have K0:=Blk.new w 73 [.slice none 0 0];have K1:=(K0.alloc (.cells #[.bool false] 4));have K2:=Blk.newG (w.alloc (.cells #[.slice none 0 0] 73)) 4 [.bool false] (w.heap.size+1) (by simp);have B2:=Lib.hid (show Below w.heap.size w ((w.alloc (.cells #[.slice none 0 0] 73)).alloc (.cells #[.bool false] 4)) from(ab w _).alloc (by simp) _);refine(callsIn_wide (n:=0)).1 ?_;refine callsIn_of_wp_marks Tryz.func137 rfl trivial ?_ rfl;simp only[Tryz.ntmps137,List.size_toArray,List.length_cons,List.length_nil,Nat.reduceAdd,Nat.reduceSub,Array.replicate_succ,Array.replicate_zero,List.push_toArray,List.append_toArray,List.nil_append,List.cons_append];by_cases h45:t=⟨#[45]⟩
 ·subst h45
  gi_wp2
  have K3:=Blk.newG (w.alloc (.cells #[.slice none 0 0] 73)) 4 [.bool true] (w.heap.size+1) (by simp);have K4:=K0.alloc (.cells #[.bool true] 4);have B4:Below w.heap.size w ((w.alloc (.cells #[.slice none 0 0] 73)).alloc (.cells #[.bool true] 4)):=(ab w _).alloc (by simp) _;obtain⟨t1,-⟩:=K4.one;obtain⟨t2,-⟩:=K3.one;have hp:iP ⟨#[45]⟩=true∧peL ⟨#[45]⟩=[]:=⟨by unfold iP;simp,by unfold peL;simp⟩;exact⟨.tuple #[.slice none 0 0,.bool true],by simp[results,Tryz.results137,go_sem,t1,t2],_,by rw[hp.1],by rw[hp.2];exact EtO.nil_ _ _,B4⟩
 ·have H45:=Lib.hid h45;have z1:(t.toList==[45])=false:=by
   have:=gD h45;rw[show(⟨#[45]⟩:ByteArray).toList=[45] from by simp] at this;simpa using this
  gi_wp2
  refine⟨trivial,rfl,(callsIn_wide.2 (uK t ⟨#[59]⟩ _)).mono ?_⟩;rintro e w4 ⟨rfl,rfl⟩;obtain⟨s0,s1,s2,s3,s4⟩:=FA (((w.alloc (.cells #[.slice none 0 0] 73)).alloc (.cells #[.bool false] 4)).alloc (.cells #[.slice none 0 0] 73)) t ⟨#[59]⟩;have e3:(((w.alloc (.cells #[.slice none 0 0] 73)).alloc (.cells #[.bool false] 4)).alloc (.cells #[.slice none 0 0] 73)).heap.size=w.heap.size+3:=by simp
  have k3:=Blk.newG ((w.alloc (.cells #[.slice none 0 0] 73)).alloc (.cells #[.bool false] 4)) 73 [.slice none 0 0] (w.heap.size+2) (by simp);have q0:=(K1.alloc (.cells #[.slice none 0 0] 73)).below s3 (by simp;omega);have q1:=(K2.alloc (.cells #[.slice none 0 0] 73)).below s3 (by simp);have q2:=k3.below s3 (by simp);have B3:Below w.heap.size w _:=aa (B2.out.alloc (by simp;omega) (.cells #[.slice none 0 0] 73)) s3;rw[e3] at s0 s1 s2 s4;rw[e3];generalize hW4:ol (((w.alloc (.cells #[.slice none 0 0] 73)).alloc (.cells #[.bool false] 4)).alloc (.cells #[.slice none 0 0] 73)) t ⟨#[59]⟩=w4 at *;clear hW4 e3 k3 K0 K1 K2 B2
  gi_wp2
  obtain⟨m,hm⟩:=(HG.out.bel B3).2.1;have hseq:=yC t ⟨#[59]⟩ m w.heap.size (w.heap.size+3) w4 (by decide) (by omega) (by decide) s0 s1 s2 hnm (by omega) hm;rw[show gy ⟨#[59]⟩ t=aq 59 t from rn 59 t] at hseq;have hsz4:w4.heap.size=w.heap.size+6:=by omega
  have hI0:PeI w w4.heap.size [] w4:=⟨_,⟨q0,q1,q2,EtO.nil_ _ _,B3,Nat.le_refl _⟩,rfl⟩;have HB:=Lib.hid B3;clear hm s0 s1 s2 s3 q0 q1 q2 B3 s4;refine AL (gf:=290) (n:=w.heap.size) (b:=w.heap.size+3) rfl (enters_of Tryz.func290 (by kernel_rfl) rfl) (by omega) (by omega) hseq (PeI w w4.heap.size) (PeX w (aq 59 t))
   (Dg w w4.heap.size (w.heap.size+3) (by omega) (by omega)) (fun c=>Dh w w4.heap.size (w.heap.size+3) _ (by omega) (by omega) c) hI0
   (fun x=>{ tmps := #[.string t,undef,.pointer (some ⟨w.heap.size,0,none⟩),.pointer (some ⟨w.heap.size+1,0,none⟩),.pointer (some ⟨w.heap.size+1+1,0,none⟩),.string x,undef,undef,.string t,.bool false,.string t,Fz (w.heap.size+3),.string x,undef,undef,undef,undef,undef,undef,undef,undef,undef,undef,undef,undef,undef,undef,undef],defers:=[] }) ?assign ?body ?done ?stop
  case assign=>
   intro q x X K hK
   gi_wp2
   exact hK
  case body=>
   rintro q pre x rest X ⟨v,⟨c0,c1,c2,ho,hbel,hz⟩,hal⟩ hx hxz;have hmem:x∈aq 59 t:=by rw[hx];simp
   have hxs:=cT (c:=59) hmem;have hlen:=ff 59 t;have hpl:pre.length<(aq 59 t).length:=by rw[hx];simp
   have HX:=Lib.hid hx;have HAL:=Lib.hid hal;have HGX:=Lib.hid (HG.out.bel hbel);have C:=Lib.hid (And.intro c0 (And.intro c1 (And.intro c2 (And.intro ho (And.intro hbel hz)))));have HS4:=Lib.hid hsz4;have hz1:w.heap.size+6≤X.heap.size:=by omega
   clear hx hal c0 c1 c2 ho hbel hmem hseq hI0 HB h45 z1 hsz4 hz
   gi_wp2
   refine⟨trivial,rfl,(CallsIn.inRound q (callsIn_wide.2 (yn x X (by omega) HGX.out))).mono ?_⟩;rintro e X2 ⟨a,b,c,rfl,hv,hin,b2⟩;have z2:=b2.size;have HB2:=Lib.hid b2;have g0:=C.out.1.below b2 C.out.1.lt;have g1:=C.out.2.1.below b2 C.out.2.1.lt;have g2:=C.out.2.2.1.below b2 C.out.2.2.1.lt;have G:=Lib.hid (And.intro g0 (And.intro g1 (And.intro g2 (C.out.2.2.2.1.bel b2))));have K5:=Blk.new X2 111 [.int .i64 a,.int .i64 b,.int .i64 c];have BX:=Lib.hid (ab X2 (.cells #[.int .i64 a,.int .i64 b,.int .i64 c] 111));have G5:=Lib.hid (And.intro (g0.alloc (.cells #[.int .i64 a,.int .i64 b,.int .i64 c] 111)) (And.intro (g1.alloc (.cells #[.int .i64 a,.int .i64 b,.int .i64 c] 111)) (And.intro (g2.alloc (.cells #[.int .i64 a,.int .i64 b,.int .i64 c] 111)) (G.out.2.2.2.bel BX.out))));obtain⟨y0,fy0⟩:=G5.out.1.one;obtain⟨y1,fy1⟩:=G5.out.2.1.one;obtain⟨y2,fy2⟩:=G5.out.2.2.1.one;obtain⟨t0,t1,t2⟩:=K5.three;have HV:=Lib.hid (And.intro hv hin);clear b2 g0 g1 g2 hv hin;cases hq:etT x
   ·gi_wp2
    exact IF (X3:=X2.alloc (.cells #[.int .i64 a,.int .i64 b,.int .i64 c] 111)) HS4.out C.out.2.2.2.2.1 hxz (aa HB2.out BX.out) G5.out.1 G5.out.2.1 (IC HX.out hq)
   ·have hln:(pre.map etV).length+1≤1048576:=by rw[List.length_map];omega
    have HBQ:=Lib.hid (aa BX.out (ab (X2.alloc (.cells #[.int .i64 a,.int .i64 b,.int .i64 c] 111)) (.cells #[.int .i64 a,.int .i64 b,.int .i64 c] 111)));have HG2:=Lib.hid (G5.out.2.2.1.alloc (.cells #[.int .i64 a,.int .i64 b,.int .i64 c] 111));have HO2:=Lib.hid (G.out.2.2.2.bel HBQ.out);have HZ2:=Lib.hid (show w4.heap.size≤((X2.alloc (.cells #[.int .i64 a,.int .i64 b,.int .i64 c] 111)).alloc (.cells #[.int .i64 a,.int .i64 b,.int .i64 c] 111)).heap.size by have:=HBQ.out.size;omega);have HY:=Lib.hid (show(a,b,c)=etV x from HV.out.1 hq);have HQ:=Lib.hid hq;clear hq
    gi_wp2_with (gi_at_builtin;refine Ef rfl _ _ (by rfl) w4.heap.size v (pre.map etV) (by rfl) HO2.out _ _ (a,b,c) (by rfl) (by exact Blk.newG _ _ [.int .i64 a,.int .i64 b,.int .i64 c] _ (by simp)) HV.out.2 hln HZ2.out ?_;intro v4 X4 o4 hg4;obtain⟨A4,c4,e4⟩:=o4.open_;obtain⟨N4,hN4⟩:∃N,(pre.map etV++[(a,b,c)]).length=N:=⟨_,rfl⟩;rw[hN4] at e4;subst e4;clear hN4;obtain⟨z0,fz⟩:=(HG2.out.grown hg4 (fun e=>by have:=(HO2.out.lt _ e.symm).1;have:=HS4.out;omega)).one)
    exact ID HS4.out C.out.1 C.out.2.1 C.out.2.2.1 C.out.2.2.2.1 C.out.2.2.2.2.1 hxz rfl HY.out HAL.out HQ.out (aa HB2.out HBQ.out) o4 hg4
  case done=>
   rintro D X hD ⟨v,⟨c0,c1,c2,ho,hbel,hz⟩,hal⟩ hK;have HKD:=Lib.hid hK;have HAL:=Lib.hid hal;have HS4:=Lib.hid hsz4;have C:=Lib.hid (And.intro c0 (And.intro c1 (And.intro c2 (And.intro ho (And.intro hbel hz)))));obtain⟨y2,fy2⟩:=c2.one;have hDX:=(Array.getElem?_eq_some_iff.1 hK).1;have hD6:w.heap.size+6≤D:=by omega
   clear hseq hI0 HB h45 z1 hsz4 c0 c1 c2 ho hbel hz hal hK hD
   gi_wp2
   refine⟨trivial,rfl,(callsIn_wide.2 (lA v ((aq 59 t).map etV) X C.out.2.2.2.1.read)).mono ?_⟩;rintro e X2 ⟨rfl,b2⟩;have HB2:=Lib.hid b2;have g0:=C.out.1.below b2 C.out.1.lt;have g1:=C.out.2.1.below b2 C.out.2.1.lt;have g2:=C.out.2.2.1.below b2 C.out.2.2.1.lt;obtain⟨x0,f0⟩:=g0.one;obtain⟨x1,f1⟩:=g1.one;obtain⟨x2,f2⟩:=g2.one;have O2:=Lib.hid (C.out.2.2.2.1.bel b2);have HKD2:=Lib.hid ((b2.block D hDX).trans HKD.out);have HB3:=Lib.hid (C.out.2.2.2.2.1.trans (b2.mono (by have:=C.out.2.2.2.2.2;have:=HS4.out;omega)));have G:=Lib.hid (And.intro g0 (And.intro g1 g2));clear b2 g0 g1 g2 y2 fy2;cases hq:dz ((aq 59 t).map etV)
   ·have HN:=Lib.hid (rN H45.out (.inr hq));clear hq
    gi_wp2
    obtain⟨k0,k1,k2,k3,k4⟩:=Di (u:=.slice none 0 0) (q:=false) G.out.1 G.out.2.1 (EtO.nil_ X2 (w.heap.size+2)) HB3.out (Nat.le_refl _) (by omega) HKD2.out;obtain⟨u1,u2,u3,u4⟩:=wD k0 k1 k2 k3 (by omega) (by omega) k4;refine⟨by simp,.inl ⟨_,_,rfl,run_takeDeferred k4,?_⟩⟩;exact⟨.tuple #[.slice none 0 0,.bool false],by simp[results,Tryz.results137,go_sem,u1,u2],_,by rw[HN.out.1],by rw[HN.out.2];exact u3,u4⟩
   ·have HN:=Lib.hid (Dj H45.out HAL.out hq);clear hq;obtain⟨es,hes⟩:∃es,(aq 59 t).map etV=es:=⟨_,rfl⟩;rw[hes] at O2 HN;obtain⟨A4,c4,e4⟩:=O2.out.open_;obtain⟨N4,hN4⟩:∃N,es.length=N:=⟨_,rfl⟩;rw[hN4] at e4;subst e4;clear hN4 hes
    gi_wp2
    obtain⟨k0,k1,k2,k3,k4⟩:=Di (u:=.slice A4 N4 c4) (q:=true) G.out.1 G.out.2.1 O2.out HB3.out (by have:=HS4.out;omega) (by omega) HKD2.out;obtain⟨u1,u2,u3,u4⟩:=wD k0 k1 k2 k3 (by omega) (by have:=HS4.out;omega) k4;refine⟨by simp,.inl ⟨_,_,rfl,run_takeDeferred k4,?_⟩⟩;exact⟨.tuple #[.slice A4 N4 c4,.bool true],by simp[results,Tryz.results137,go_sem,u1,u2],_,by rw[HN.out.1],by rw[HN.out.2];exact u3,u4⟩
  case stop=>
   rintro D c pre rest X hD hx ⟨rfl,hbad,c0,c1,hbel⟩ hK;have HN:=Lib.hid (rN H45.out (.inl hbad));obtain⟨u1,u2,u3,u4⟩:=wD (B:=w.heap.size) c0 c1 (EtO.nil_ X w.heap.size) hbel (by omega) (Nat.le_refl _) hK;clear hseq hI0 HB h45 z1
   gi_wp2
   refine⟨by simp,.inl ⟨_,_,rfl,run_takeDeferred hK,?_⟩⟩;exact⟨.tuple #[.slice none 0 0,.bool false],by simp[results,Tryz.results137,go_sem,u1,u2],_,by rw[HN.out.1],by rw[HN.out.2];exact u3,u4⟩
end Go.Proofs.YtfmjklgfpiffbaaGreatDoor
