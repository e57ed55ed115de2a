/-
  Parts of the proof of one statement, merged: SpSeq SpSeqV.
-/
import Derived.LoopIn
import Derived.LoopNIn
import Derived.OwnWalkIn
import Derived.Shelf.RegionOpen
import Derived.Test.YtfmjklgfpiffbaaGreatDoorR1
import Derived.Test.YtfmjklgfpiffbaaGreatDoorR3
import Derived.Test.YtfmjklgfpiffbaaGreatDoorR6
namespace Go.Proofs.YtfmjklgfpiffbaaGreatDoor
open Go.RowKit Go.Shelf
set_option linter.unusedVariables false
set_option linter.unusedSimpArgs false
set_option maxRecDepth 100000
attribute [local go_sem] Oper.semAt_some
def vg (W:World) (b:Nat):Nat:=match W.cell? ⟨b,0,none⟩ with|some (.string s)=>s.size|_=>0
theorem tA {W:World} {b:Nat} {s:ByteArray} (h:W.cell? ⟨b,0,none⟩=some (.string s)):vg W b=s.size:=by unfold vg;rw[h]
def gy (sep t:ByteArray):List ByteArray:=Lib.splitB sep 0 (Lib.countB t sep) t
theorem qr {sep t:ByteArray} (h:Lib.indexB t sep = -1):gy sep t=[t]:=Lib.splitB_miss _ _ _ _ h
theorem oc {sep t:ByteArray} (h1:1≤sep.size) {i:Nat} (h:Lib.indexB t sep=i):gy sep t=t.extract 0 i::gy sep (t.extract (i+sep.size) t.size):=by
 unfold gy;rw[Lib.countB_hit t sep i h1 h,Nat.add_comm 1,Lib.splitB_hit _ _ _ _ i h]
 rfl
theorem yC (t sep:ByteArray) (m:Int) (n b:Nat) (w:World) (h1:1≤sep.size) (ht:t.size<4294967281) (hp:sep.size≤1000) (hs:Blk w b 9 [.string t]) (hse:Blk w (b+1) 9 [.string sep]) (hsv:Blk w (b+2) 3 [.int .i64 0])
  (hg:1<n) (hn:n≤b) (hm:w.cell? ⟨1,0,none⟩=some (.int .i64 m)):
  Ed Tryz.prog 290 #[.pointer (some ⟨b+1,0,none⟩),.pointer (some ⟨b,0,none⟩),.pointer (some ⟨b+2,0,none⟩)] n b (gy sep t) w:=by
 intro l J Jx W hK hsz hJ hJx hY h0;have hsw:Blk W b 9 [.string t]:=(hK.2 b (Jr _) (by omega)).trans hs;have hsew:Blk W (b+1) 9 [.string sep]:=(hK.2 (b+1) (by omega) (by omega)).trans hse;have hsvw:Blk W (b+2) 3 [.int .i64 0]:=(hK.2 (b+2) (by omega) (by omega)).trans hsv;have hmw:W.cell? ⟨1,0,none⟩=some (.int .i64 m):=(hK.1.cell hg).trans hm;have HIx:=Jj (fun (s:ByteArray) (w:World) (hs:s.size<4294967281) (hm:w.cell? ⟨1,0,none⟩=some (.int .i64 m))=>callsIn_wide (n:=0).2 (Tryz.strings_Index s sep m w hs hm));have HY:=Jj hY;have HJ:=Jj hJ;have HJx:=Jj hJx;clear hs hse hsv hm hK hY hJ hJx;obtain⟨c1,-⟩:=hsew.one;have hz0:((sep.size:Int)==0)=false:=by rw[beq_eq_false_iff_ne];omega
 refine callsIn_of_wp Tryz.func290 rfl trivial ?_ rfl;simp only[Tryz.ntmps290,List.size_toArray,List.length_cons,List.length_nil,Nat.reduceAdd,Nat.reduceSub,Array.replicate_succ,Array.replicate_zero,List.push_toArray,List.append_toArray,List.nil_append,List.cons_append]
 gi_wp2
 gi_loopw [] (fun wr=>∃(pre:List ByteArray) (r:ByteArray),gy sep t=pre++gy sep r∧r.size≤t.size∧J pre wr∧Blk wr b 9 [.string r]∧Blk wr (b+1) 9 [.string sep]∧Blk wr (b+2) 3 [.int .i64 0]∧wr.cell? ⟨1,0,none⟩=some (.int .i64 m)∧W.heap.size≤wr.heap.size)
  (fun wr=>vg wr b)
 case atStart=>exact⟨[],t,rfl,Jr _,h0,hsw,hsew,hsvw,hmw,Jr _⟩
 case round=>
  obtain⟨pre,r,hx,hr,hJ,k0,k1,k2,hmr,hz⟩:=hrel;have H:=Jj (Jq hx (Jq hJ (Jq k0 (Jq k1 (Jq k2 hmr)))));obtain⟨e0,f0⟩:=k0.one;obtain⟨e1,f1⟩:=k1.one;obtain⟨e2,-⟩:=k2.one;clear c1 hsw hsew hsvw hmw hx hJ k0 k1 k2 hmr h0
  rcases Lib.indexB_cases r sep with hix|⟨i,hix,hroom⟩
  ·obtain⟨fn,tmps,asg,body,hy,hR⟩:=HY.out pre r [] wr H.out.2.1 (by rw[H.out.1,qr hix]);have HX:=Jj (H.out.1.trans (by rw[qr hix]));have hix':Lib.index r.data.toList sep.data.toList = -1:=hix
   gi_wp2
   refine⟨trivial,rfl,(HIx.out _ _ (by omega) H.out.2.2.2.2.2).mono ?_⟩;rintro e w2 ⟨rfl,rfl⟩;rw[hix']
   gi_wp2
   refine⟨rfl,hR.mono ?_⟩;rintro e w3 (⟨rfl,hj,-⟩|⟨rfl,hj⟩)
   ·gi_wp2
    go_end0
    exact⟨⟨_,rfl⟩,.inl (by rw[HX.out];exact hj)⟩
   ·gi_wp2
    go_end0
    exact⟨⟨_,rfl⟩,.inr ⟨_,[],by rw[HX.out,List.append_nil],hj⟩⟩
  ·obtain⟨fn,tmps,asg,body,hy,hR⟩:=HY.out pre (r.extract 0 i) (gy sep (r.extract (i+sep.size) r.size)) wr H.out.2.1 (by rw[H.out.1,oc h1 hix]);have hix':Lib.index r.data.toList sep.data.toList=(i:Int):=hix;have hb1:¬(i:Int)<0:=by omega
   have hsz1:sep.size≤r.size:=by omega
   gi_wp2
   refine⟨trivial,rfl,(HIx.out _ _ (by omega) H.out.2.2.2.2.2).mono ?_⟩;rintro e w2 ⟨rfl,rfl⟩;rw[hix']
   gi_wp2
   refine⟨rfl,hR.mono ?_⟩;rintro e w3 (⟨rfl,hj,hk3⟩|⟨rfl,hj⟩)
   ·have g0:Blk w3 b 9 [.string r]:=(hk3.2 b (Jr _) (by omega)).trans H.out.2.2.1;have g1:Blk w3 (b+1) 9 [.string sep]:=(hk3.2 (b+1) (by omega) (by omega)).trans H.out.2.2.2.1;have g2:Blk w3 (b+2) 3 [.int .i64 0]:=(hk3.2 (b+2) (by omega) (by omega)).trans H.out.2.2.2.2.1;have gm:w3.cell? ⟨1,0,none⟩=some (.int .i64 m):=(hk3.1.cell hg).trans H.out.2.2.2.2.2;have G:=Jj (Jq hj (Jq g0 (Jq g1 (Jq g2 (Jq gm hk3.1.size)))));clear e0 f0 e1 f1 e2 hy hR;obtain⟨e0,f0⟩:=g0.one;obtain⟨e1,f1⟩:=g1.one;clear g0 g1 g2 gm hj hk3
    gi_wp2
    have rel:∃(pre:List ByteArray) (r1:ByteArray),gy sep t=pre++gy sep r1∧r1.size≤t.size∧J pre (w3.setCell ⟨b,0,none⟩ (.string (r.extract (i+sep.size) r.size)))∧Blk (w3.setCell ⟨b,0,none⟩ (.string (r.extract (i+sep.size) r.size))) b 9 [.string r1]∧Blk (w3.setCell ⟨b,0,none⟩ (.string (r.extract (i+sep.size) r.size))) (b+1) 9 [.string sep]∧Blk (w3.setCell ⟨b,0,none⟩ (.string (r.extract (i+sep.size) r.size))) (b+2) 3 [.int .i64 0]∧(w3.setCell ⟨b,0,none⟩ (.string (r.extract (i+sep.size) r.size))).cell? ⟨1,0,none⟩=some (.int .i64 m)∧W.heap.size≤(w3.setCell ⟨b,0,none⟩ (.string (r.extract (i+sep.size) r.size))).heap.size:=by
     refine⟨pre++[r.extract 0 i],r.extract (i+sep.size) r.size,?_,?_,?_,G.out.2.1.set_ 0 _,G.out.2.2.1.far (p:=⟨b,0,none⟩) (by show b+1≠b;omega) _,G.out.2.2.2.1.far (p:=⟨b,0,none⟩) (by show b+2≠b;omega) _,?_,?_⟩
     ·rw[H.out.1,oc h1 hix,List.append_assoc,List.singleton_append]
     ·rw[ByteArray.size_extract];omega
     ·exact HJ.out _ _ _ (some b) G.out.1 (dl (p:=⟨b,0,none⟩) ⟨rfl,rfl,rfl,Jr _,fun _ _ _=>rfl⟩ (.inl rfl) _) (fun q e=>.inl (by cases e;rfl))
     ·rw[Ju _ _ _ _ (by intro e;injection e with e;omega)];exact G.out.2.2.2.2.1
     ·have:=G.out.2.2.2.2.2;simp only[World.setCell,Array.size_modify];omega
    refine⟨?_,?measure⟩
    case measure=>
     rw[tA (G.out.2.1.set_ 0 (.string (r.extract (i+sep.size) r.size))).one.1,tA H.out.2.2.1.one.1,ByteArray.size_extract];omega
    first
     |exact rel
     |(repeat apply Exists.intro
       exact⟨rel,rfl⟩)
   ·gi_wp2
    refine bodyPost_ret (results_none rfl _ _ _) rfl ?_;exact⟨⟨_,rfl⟩,.inr ⟨_,gy sep (r.extract (i+sep.size) r.size),by rw[H.out.1,oc h1 hix,List.append_assoc,List.singleton_append],hj⟩⟩
end Go.Proofs.YtfmjklgfpiffbaaGreatDoor
namespace Go.Proofs.YtfmjklgfpiffbaaGreatDoor
open Go.RowKit Go.Proofs.Tryz
set_option linter.unusedVariables false
set_option linter.unusedSimpArgs false
set_option maxRecDepth 100000
set_option maxHeartbeats 8000000
attribute [local go_sem ↓] Go.wp_at_zero Go.wp_at_succ
def ol (w:World) (t sep:ByteArray):World:=((w.alloc (.cells #[.string t] 9)).alloc (.cells #[.string sep] 9)).alloc (.cells #[.int .i64 0] 3)
def Fz (b:Nat):Value:=.func (.func 290) #[] #[.pointer (some ⟨b+1,0,none⟩),.pointer (some ⟨b,0,none⟩),.pointer (some ⟨b+2,0,none⟩)]
theorem tf (t sep:ByteArray) (w:World):
  Calls prog 270 #[.string t,.string sep,.int .i64 0] w fun e w'=>e=.returned (Fz w.heap.size)∧w'=ol w t sep:=by
 go_enter func270,ntmps270
 go_wp2;go_ret;exact⟨rfl,rfl⟩
theorem uK (t sep:ByteArray) (w:World):
  Calls prog 223 #[.string t,.string sep] w fun e w'=>e=.returned (Fz w.heap.size)∧w'=ol w t sep:=by
 go_enter func223,ntmps223
 go_wp2_with fail
 refine(tf t sep w).mono ?_;rintro e w' ⟨rfl,rfl⟩;go_wp2;go_ret;exact⟨rfl,rfl⟩
theorem FA (w:World) (t sep:ByteArray):Blk (ol w t sep) w.heap.size 9 [.string t]∧Blk (ol w t sep) (w.heap.size+1) 9 [.string sep]∧Blk (ol w t sep) (w.heap.size+2) 3 [.int .i64 0]∧Below w.heap.size w (ol w t sep)∧(ol w t sep).heap.size=w.heap.size+3:=by
 refine⟨((Blk.new' w 9 (.string t) _ rfl).alloc _).alloc _,(Blk.new' _ 9 (.string sep) _ (by simp)).alloc _,Blk.new' _ 3 (.int .i64 0) _ (by simp),((ab w _).alloc (by simp) _).alloc (by simp;omega) _,by simp[ol]⟩
end Go.Proofs.YtfmjklgfpiffbaaGreatDoor
