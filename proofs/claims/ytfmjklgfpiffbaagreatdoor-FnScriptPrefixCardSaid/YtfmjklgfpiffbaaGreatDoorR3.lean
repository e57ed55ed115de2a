/-
  Parts of the proof of one statement, merged: SeqC.
-/
import Derived.RangeFuncBound
import Derived.RangeFuncNested
import Derived.Test.YtfmjklgfpiffbaaGreatDoorR0
namespace Go.Proofs.YtfmjklgfpiffbaaGreatDoor
open Go.RowKit
set_option linter.unusedVariables false
set_option linter.unusedSimpArgs false
set_option maxRecDepth 100000
set_option maxHeartbeats 8000000
def AbC (B g:Nat) (J:List ByteArray→World→Prop):Prop:=
 ∀s W W' row,J s W→W.grownBy W' row→(∀r,row=some r→r=g∨(B≤r∧∃o:Obj,W.heap[r]?=some o∧o.isCells=false))→J s W'
theorem AbC.put {B g:Nat} {J:List ByteArray→World→Prop} (h:AbC B g J) {s:List ByteArray} {W:World} {l:Nat} {o:Obj} (o':Obj) (hs:J s W) (hB:B≤l) (hl:W.heap[l]?=some o) (ho:o.isCells=false):J s (W.putObj l o'):=
 h s W _ (some l) hs (grownBy_putObj' W l o') (fun r e=>by cases e;exact .inr ⟨hB,o,hl,ho⟩)
theorem AbC.al {B g:Nat} {J:List ByteArray→World→Prop} (h:AbC B g J) {s:List ByteArray} {W:World} (o:Obj) (hs:J s W):J s (W.alloc o):=
 h s W _ none hs (World.grownBy_alloc W o none) (fun r e=>by cases e)
def KpC (n b:Nat) (W W':World):Prop:=Below n W W'∧∀k,b≤k→k<b+3→W'.heap[k]?=W.heap[k]?
theorem KpC.trans {n b:Nat} {A B C:World} (h:KpC n b A B) (k:KpC n b B C):KpC n b A C:=
 ⟨h.1.trans k.1,fun i h1 h2=>(k.2 i h1 h2).trans (h.2 i h1 h2)⟩
theorem KpC.put {n b:Nat} {W:World} {l:Nat} {o:Obj} (o':Obj) (hn:n≤l) (hb:b+3≤l) (h:W.heap[l]?=some o):KpC n b W (W.putObj l o'):=
 ⟨(Below.refl n W).grown (grownBy_putObj' W l o') (by have:=(Array.getElem?_eq_some_iff.1 h).1;omega) (fun k e=>by cases e;exact hn),fun k h1 h2=>World.putObj_heap_other (by omega)⟩
def Ed (P:Program) (gf:Nat) (lb:Array Value) (n b:Nat) (xs:List ByteArray) (w:World):Prop:=
 ∀(l:Nat) (J Jx:List ByteArray→World→Prop) (W:World),KpC n b w W→w.heap.size≤W.heap.size→AbC W.heap.size b J→AbC W.heap.size b Jx →
  (∀pre x rest W1,J pre W1→xs=pre++x::rest→YieldAt Fence.wide 0 P l #[.string x] W1 fun e W'=>
   (e=.returned (.bool true)∧J (pre++[x]) W'∧KpC n b W1 W')∨(e=.returned (.bool false)∧Jx (pre++[x]) W')) →
  J [] W →
  CallsIn Fence.wide 0 P gf (#[.func (.yield l) #[] #[]]++lb) W fun e W'=>(∃v,e=.returned v)∧(J xs W'∨∃pre rest,xs=pre++rest∧Jx pre W')
def Jf (B n b:Nat) (I:List ByteArray→World→Prop) (Ix:Code→List ByteArray→World→Prop) (xs:List ByteArray) (W:World):Exit→Act→World→Prop
 |.normal,_,W'=>KeepsFrom B W W'∧KpC n b W W'∧I xs W'
 |.ret,_,W'=>KeepsFrom B W W'∧Ix .ret xs W'
 |.exit id,_,W'=>KeepsFrom B W W'∧Ix (.exit id) xs W'
 |.goto t,_,W'=>KeepsFrom B W W'∧Ix (.goto t) xs W'
 |.panic _,_,_=>False
 |.outgrown,_,_=>False
theorem AL {P:Program} {g:Operand} {p:Tmp} {assign body:Code} {Q:Exit→Act→World→Prop} {a:Act} {w:World} {gf:Nat} {lb:Array Value} {n b:Nat} {xs:List ByteArray}
  (hg:a.eval g=.func (.func gf) #[] lb) (eg:∀args w,(callFunc gf args).run P w=.ok (.enter gf args) w) (hn:n≤w.heap.size) (hb:b+3≤w.heap.size) (hseq:Ed P gf lb n b xs w)
  (I:List ByteArray→World→Prop) (Ix:Code→List ByteArray→World→Prop) (hI:AbC w.heap.size b I) (hIx:∀c,AbC w.heap.size b (Ix c)) (h0:I [] w) (a₁:ByteArray→Act)
  (hassign:∀(l:Nat) (x:ByteArray) (W:World) (K:Act→World→Prop),K (a₁ x) W →
   assign.wpIn (Fence.wide.inRound l) 0 P (Exit.then K (fun _ _ _=>False)) { tmps:=a.tmps.setIfInBounds p (.string x),defers:=[] } W)
  (hbody:∀(l:Nat) (pre:List ByteArray) (x:ByteArray) (rest:List ByteArray) (W:World),I pre W→xs=pre++x::rest→w.heap.size≤W.heap.size→body.wpIn (Fence.wide.inRound l) 0 P (Jf w.heap.size n b I Ix (pre++[x]) W) (a₁ x) W)
  (hdone:∀(D:Nat) (W:World),w.heap.size≤D→I xs W→W.heap[D]?=some (.deferred (some []))→Q .normal { a with defers:={ target:=.collected D,args := #[] }::a.defers } W)
  (hstop:∀(D:Nat) (c:Code) (pre rest:List ByteArray) (W:World),w.heap.size≤D→xs=pre++rest→Ix c pre W→W.heap[D]?=some (.deferred (some []))→c.wpIn Fence.wide 0 P Q { a with defers:={ target:=.collected D,args := #[] }::a.defers } W):
  (Code.rangeFunc g #[p] assign body).wpIn Fence.wide 0 P Q a w:=by
 refine wpIn_rangeFunc fun fn hfn=>?_;obtain⟨Lr,hLr⟩:∃Lr:LoopState→Option Code→Loop,Lr=fun st pe=>{ state:=st,pending:=pe,fn,tmps:=a.tmps,params := #[p],assign,body,defers:=w.heap.size }:=⟨_,rfl⟩;have hL1:((w.alloc (.deferred (some []))).alloc (.loop (Lr .ready none))).heap[w.heap.size+1]?=some (.loop (Lr .ready none)):=by
  have:=World.alloc_heap_new (w.alloc (.deferred (some []))) (.loop (Lr .ready none));rwa[JD] at this
 have hD1:((w.alloc (.deferred (some []))).alloc (.loop (Lr .ready none))).heap[w.heap.size]?=some (.deferred (some [])):=
  (Below.heap_alloc _ _ _ (by simp)).trans (World.alloc_heap_new w _)
 have hsz:((w.alloc (.deferred (some []))).alloc (.loop (Lr .ready none))).heap.size=w.heap.size+2:=by simp
 have hK1:KpC n b w ((w.alloc (.deferred (some []))).alloc (.loop (Lr .ready none))):=
  ⟨((Below.refl n w).alloc hn _).alloc (by simp;omega) _,fun k h1 h2=>(Below.heap_alloc _ _ k (by simp;omega)).trans (Below.heap_alloc _ _ k (by omega))⟩
 have hI1:I [] ((w.alloc (.deferred (some []))).alloc (.loop (Lr .ready none))):=hI.al _ (hI.al _ h0);obtain⟨W1,hW1⟩:∃W1,(w.alloc (.deferred (some []))).alloc (.loop (Lr .ready none))=W1:=⟨_,rfl⟩;rw[hW1] at hL1 hD1 hsz hK1 hI1;refine⟨w.heap.size+1,[{ target:=.collected w.heap.size,args := #[] }],W1,{ target:=.fn (.func gf) lb,args := #[.func (.yield (w.heap.size+1)) #[] #[]] },W1,gf,
  #[.func (.yield (w.heap.size+1)) #[] #[]]++lb,W1,?_,?_,fun _ _=>trivial,?_,fun h=>by simp[Fence.wide] at h,?_⟩
 ·rw[←hW1,hLr];exact run_enterLoop_outer _ _ _ _ _
 ·simp only[resolve,hg];simp[go_sem]
 ·simp[invoke,go_sem,eg]
 ·clear hW1;have keep:∀ {A B:World} {row:Option Nat} {k:Nat} {o:Obj},A.grownBy B row→(∀r,row=some r→r=b∨(W1.heap.size≤r∧∃o:Obj,A.heap[r]?=some o∧o.isCells=false))→w.heap.size≤k→k<W1.heap.size→A.heap[k]?=some o→B.heap[k]?=some o:=
   fun hgr hr h1 h2 ho=>(hgr.block _ (Array.getElem?_eq_some_iff.1 ho).1 (fun e=>by rcases hr _ e.symm with h|⟨h,-⟩ <;> omega)).trans ho
  have wide:∀ {A:World} {row:Option Nat},(∀r,row=some r→r=b∨(W1.heap.size≤r∧∃o:Obj,A.heap[r]?=some o∧o.isCells=false))→(∀r,row=some r→r=b∨(w.heap.size≤r∧∃o:Obj,A.heap[r]?=some o∧o.isCells=false)):=
   fun hr r e=>(hr r e).elim .inl (fun h=>.inr ⟨by have:=h.1;omega,h.2⟩)
  refine(hseq (w.heap.size+1)
   (fun pre W=>w.heap.size≤W.heap.size∧I pre W∧W.heap[w.heap.size+1]?=some (.loop (Lr .ready none))∧W.heap[w.heap.size]?=some (.deferred (some [])))
   (fun pre W=>∃c,Ix c pre W∧W.heap[w.heap.size+1]?=some (.loop (Lr .done (some c)))∧W.heap[w.heap.size]?=some (.deferred (some [])))
   W1 hK1 (by omega) (fun s A B row hs hgr hr=>⟨Js hs.1 hgr.size,hI s A B row hs.2.1 hgr (wide hr),keep hgr hr (by omega) (by omega) hs.2.2.1,keep hgr hr (Jr _) (by omega) hs.2.2.2⟩)
   (fun s A B row hs hgr hr=>by
    obtain⟨c,hc,hl,hk⟩:=hs;exact⟨c,hIx c s A B row hc hgr (wide hr),keep hgr hr (by omega) (by omega) hl,keep hgr hr (Jr _) (by omega) hk⟩)
   ?_ ⟨by omega,hI1,hL1,hD1⟩).mono ?_
  ·rintro pre x rest W ⟨hs,hi,hl,hk⟩ hx;have hy:=run_yield (P:=P) (args := #[.string x]) hl (by rw[hLr];rfl);rw[hLr] at hy;have hz:∀t:Array Value,Array.foldl (fun tmps (x:Tmp×Value)=>match x with|(t,a)=>tmps.setIfInBounds t a) t ((#[p]:Array Tmp).zip #[Value.string x])=t.setIfInBounds p (.string x):=fun t=>by simp
   dsimp only at hy
   rw[hz] at hy;have hlt:=(Array.getElem?_eq_some_iff.1 hl).1;have hl2:(W.putObj (w.heap.size+1) (.loop { Lr .ready none with state:=.busy })).heap[w.heap.size+1]?=some (.loop { Lr .ready none with state:=.busy }):=World.putObj_heap_same hlt;have hk2:(W.putObj (w.heap.size+1) (.loop { Lr .ready none with state:=.busy })).heap[w.heap.size]?=some (.deferred (some [])):=(World.putObj_heap_other (by omega)).trans hk;refine⟨fn,_,assign,body,hy,roundIn_of_wpIn hfn ?_⟩;refine hassign _ x W _ ?_;refine⟨_,run_beginRound hl (by rw[hLr]),?_⟩;refine wpIn_mono (hbody _ pre x rest _ (hI.put _ hi (by omega) hl rfl) hx (by simp;omega)) ?_;have fin:∀(jump:Option Code) (W3:World),KeepsFrom w.heap.size (W.putObj (w.heap.size+1) (.loop { Lr .ready none with state:=.busy })) W3 →
     (Instr.endRound (w.heap.size+1) jump).run P W3=.ok (.bool jump.isNone) (W3.putObj (w.heap.size+1) (.loop (Lr (if jump.isNone then .ready else .done) jump))) ∧
     W3.heap[w.heap.size+1]?=some (.loop { Lr .ready none with state:=.busy }) ∧
     (W3.putObj (w.heap.size+1) (.loop (Lr (if jump.isNone then .ready else .done) jump))).heap[w.heap.size+1]?=some (.loop (Lr (if jump.isNone then .ready else .done) jump)) ∧
     (W3.putObj (w.heap.size+1) (.loop (Lr (if jump.isNone then .ready else .done) jump))).heap[w.heap.size]?=some (.deferred (some [])):=fun jump W3 hk3=>by
    have hl3:=hk3.same _ _ (by omega) hl2 rfl;have he:=run_endRound (P:=P) jump hl3;refine⟨?_,hl3,World.putObj_heap_same (Array.getElem?_eq_some_iff.1 hl3).1,(World.putObj_heap_other (by omega)).trans (hk3.same _ _ (Jr _) hk2 rfl)⟩;rw[hLr] at he ⊢;exact he
   have hw2:KpC n b W (W.putObj (w.heap.size+1) (.loop { Lr .ready none with state:=.busy })):=KpC.put _ (by omega) (by omega) hl;rintro e a3 W3 hp;cases e with
   |normal=>
    obtain⟨hk3,hkp3,hi3⟩:=hp;obtain⟨hr,hl3,hl4,hk4⟩:=fin none W3 hk3;have hs3:=hk3.size;simp at hs3;exact⟨_,_,hr,.inl ⟨rfl,⟨by simp;omega,hI.put _ hi3 (by omega) hl3 rfl,hl4,hk4⟩,(hw2.trans hkp3).trans (KpC.put _ (by omega) (by omega) hl3)⟩⟩
   |ret=>
    obtain⟨hr,hl3,hl4,hk4⟩:=fin (some .ret) W3 hp.1;exact⟨_,_,hr,.inr ⟨rfl,.ret,(hIx _).put _ hp.2 (by omega) hl3 rfl,hl4,hk4⟩⟩
   |exit id=>
    obtain⟨hr,hl3,hl4,hk4⟩:=fin (some (.exit id)) W3 hp.1;exact⟨_,_,hr,.inr ⟨rfl,.exit id,(hIx _).put _ hp.2 (by omega) hl3 rfl,hl4,hk4⟩⟩
   |goto t=>
    obtain⟨hr,hl3,hl4,hk4⟩:=fin (some (.goto t)) W3 hp.1;exact⟨_,_,hr,.inr ⟨rfl,.goto t,(hIx _).put _ hp.2 (by omega) hl3 rfl,hl4,hk4⟩⟩
   |panic ch=>exact hp.elim
   |outgrown=>exact hp.elim
  ·rintro e W2 ⟨⟨v,rfl⟩,(⟨-,hi,hl,hk⟩|⟨pre,rest,hx,c,hi,hl,hk⟩)⟩
   ·have he:=run_endLoop (P:=P) hl (by rw[hLr];simp);refine⟨none,_,?_,hdone _ _ (Jr _) (hI.put (.loop { Lr .ready none with state:=.exhausted }) hi (by omega) hl rfl) ((World.putObj_heap_other (by omega)).trans hk)⟩;rw[hLr] at he ⊢;exact he
   ·have he:=run_endLoop (P:=P) hl (by rw[hLr];simp);refine⟨some c,_,?_,hstop _ c pre rest _ (Jr _) hx ((hIx c).put (.loop { Lr .done (some c) with state:=.exhausted }) hi (by omega) hl rfl) ((World.putObj_heap_other (by omega)).trans hk)⟩;rw[hLr] at he ⊢;exact he
end Go.Proofs.YtfmjklgfpiffbaaGreatDoor
