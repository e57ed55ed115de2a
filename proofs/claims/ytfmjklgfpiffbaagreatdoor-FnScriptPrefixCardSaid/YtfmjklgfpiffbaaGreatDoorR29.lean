/-
  Parts of the proof of one statement, merged: Desk SmW.
-/
import Derived.Test.YtfmjklgfpiffbaaGreatDoorR27
import Derived.Test.YtfmjklgfpiffbaaGreatDoorR28
namespace Go.Proofs.YtfmjklgfpiffbaaGreatDoor
open Go.RowKit
set_option linter.unusedVariables false
set_option linter.unusedSimpArgs false
set_option maxRecDepth 100000
set_option maxHeartbeats 8000000
structure ae where
 poly:List Int
 eng:List ByteArray
 tab:List Int
 rw:Nat
 ac:Nat
 wi:Nat
structure ae.Ok (d:ae):Prop where
 poly:av d.poly=true
 eng:d.eng=[]∨af d.eng=true
 tab:d.tab.length≤60
 rw:1≤d.rw∧d.rw≤20
 ac:1≤d.ac∧d.ac≤6
 wi:1≤d.wi∧d.wi≤12
def pU (p e t:Value) (r a i:Int):List Value:=[p,e,t,.int .i64 r,.int .i64 a,.int .i64 i]
def bO (w:World) (b:Nat) (d:ae):Prop:=∃p e t,Blk w b 41 (pU p e t d.rw d.ac d.wi)∧Own w 0 p d.poly∧aj w 0 e d.eng∧Own w 0 t d.tab
theorem rR {w:World} {b:Nat} {t e:TypeId} {cs:List Value} {base n:Nat} {v:Value} {xs:List Value} (hb:Blk w b t cs) (h:w.ownsRow base e 1 v n xs) (hne:t≠e):v.ownBlock≠some b:=by
 rcases h.2 with ⟨rfl,-⟩|⟨g,cap,cur,rfl,-,hg,-⟩
 ·simp[Value.ownBlock]
 ·intro h1;have h2:g=b:=JC h1;subst h2;unfold Blk at hb;rw[hb] at hg;injection hg with hg;injection hg with h3 h4 h5;exact hne h4
theorem wP {w w':World} {base:Nat} {e:TypeId} {v:Value} {n:Nat} {xs:List Value} {row:Option Nat} (h:w.ownsRow base e 1 v n xs) (hg:w.grownBy w' row) (hr:∀k,v.ownBlock=some k→some k≠row):w'.ownsRow base e 1 v n xs:=by
 refine⟨h.1,?_⟩
 rcases h.2 with h0|⟨g,cap,cur,hv,h1,h2,h3⟩
 ·exact .inl h0
 ·exact .inr ⟨g,cap,cur,hv,h1,(hg.block g (Array.getElem?_eq_some_iff.1 h2).1 (hr g (by rw[hv];rfl))).trans h2,h3⟩
theorem lL {w w':World} {base:Nat} {e u:TypeId} {v:Value} {n bb:Nat} {xs:List Value} (h:w.ownsRow base e 1 v n xs) (hk:Lib.OthersKept u (some bb) w w') (hr:v.ownBlock≠some bb) (hne:e≠u):w'.ownsRow base e 1 v n xs:=by
 refine⟨h.1,?_⟩
 rcases h.2 with h0|⟨g,cap,cur,hv,h1,h2,h3⟩
 ·exact .inl h0
 ·exact .inr ⟨g,cap,cur,hv,h1,hk g _ h2 (fun e=>hr (by rw[hv];exact e)) (fun c fz e=>by injection e with _ e1;exact hne e1),h3⟩
theorem Blk.others {w w':World} {b bb:Nat} {t u:TypeId} {cs:List Value} (h:Blk w b t cs) (hk:Lib.OthersKept u (some bb) w w') (hr:b≠bb) (hne:t≠u):Blk w' b t cs:=
 hk b _ h (fun e=>hr (JC e)) (fun c fz e=>by injection e with _ e1;exact hne e1)
theorem Own.low {w:World} {base:Nat} {v:Value} {l:List Int} (h:Own w base v l):Own w 0 v l:=⟨by
 refine⟨h.1.1,?_⟩
 rcases h.1.2 with h0|⟨g,cap,cur,hv,-,h2⟩
 ·exact .inl h0
 ·exact .inr ⟨g,cap,cur,hv,Jy _,h2⟩,h.2⟩
theorem aj.low {w:World} {base:Nat} {v:Value} {l:List ByteArray} (h:aj w base v l):aj w 0 v l:=⟨by
 refine⟨h.1.1,?_⟩
 rcases h.1.2 with h0|⟨g,cap,cur,hv,-,h2⟩
 ·exact .inl h0
 ·exact .inr ⟨g,cap,cur,hv,Jy _,h2⟩,h.2⟩
theorem Own.at {w:World} {base b:Nat} {v:Value} {l:List Int} {cs:List Value} (h:Own w base v l) (hb:Blk w b 41 cs) {w':World} (hg:w.grownBy w' (some b)):Own w' base v l:=
 ⟨wP h.1 hg (fun k hk e=>rR hb h.1 (by decide) (by rw[hk,e])),h.2⟩
theorem aj.at {w:World} {base b:Nat} {v:Value} {l:List ByteArray} {cs:List Value} (h:aj w base v l) (hb:Blk w b 41 cs) {w':World} (hg:w.grownBy w' (some b)):aj w' base v l:=
 ⟨wP h.1 hg (fun k hk e=>rR hb h.1 (by decide) (by rw[hk,e])),h.2⟩
theorem bO.lt {w:World} {b:Nat} {d:ae} (h:bO w b d):b<w.heap.size:=by obtain⟨p,e,t,h,-⟩:=h;exact h.lt
theorem bO.bel {w w':World} {b:Nat} {d:ae} (h:bO w b d) (hb:Below w.heap.size w w'):bO w' b d:=by
 obtain⟨p,e,t,h0,h1,h2,h3⟩:=h;exact⟨p,e,t,h0.below hb h0.lt,h1.bel hb,h2.bel hb,h3.bel hb⟩
theorem bO.others {w w':World} {b bb:Nat} {d:ae} (h:bO w b d) (hB:w.shape? bb=some (44,2)) (hk:Lib.OthersKept 5 (some bb) w w'):bO w' b d:=by
 obtain⟨p,e,t,h0,h1,h2,h3⟩:=h;have hn:∀ {base:Nat} {u:TypeId} {v:Value} {n:Nat} {xs:List Value},u≠44→w.ownsRow base u 1 v n xs→v.ownBlock≠some bb:=by
  intro base u v n xs hu h4 h5
  rcases h4.2 with ⟨rfl,-⟩|⟨g,cap,cur,rfl,-,hg,-⟩
  ·simp[Value.ownBlock] at h5
  ·have h6:g=bb:=JC h5;subst h6;simp[World.shape?,hg] at hB;exact hu hB.1
 refine⟨p,e,t,h0.others hk (fun e=>?_) (by decide),⟨lL h1.1 hk (hn (by decide) h1.1) (by decide),h1.2⟩,⟨lL h2.1 hk (hn (by decide) h2.1) (by decide),h2.2⟩,⟨lL h3.1 hk (hn (by decide) h3.1) (by decide),h3.2⟩⟩;subst e;unfold Blk at h0;simp[World.shape?,h0] at hB
theorem ay {a b c:World} {row:Option Nat} (h:a.grownBy b row) (k:b.grownBy c row):a.grownBy c row:=
 ⟨k.os.trans h.os,k.tape.trans h.tape,k.output.trans h.output,Js h.size k.size,fun i hi hn=>(k.block i (Jw hi h.size) hn).trans (h.block i hi hn)⟩
theorem aB {a b:World} (row:Option Nat) (h:Below a.heap.size a b):a.grownBy b row:=⟨h.os,h.tape,h.output,h.size,fun i hi _=>h.block i hi⟩
def cN:List ByteArray:=[⟨#[115,101,116,117,112]⟩,⟨#[116,117,114,110,115]⟩,⟨#[118,97,108,117,101,115]⟩,⟨#[114,117,110]⟩,⟨#[115,108,105,112]⟩,⟨#[99,111,114,114,101,99,116]⟩,⟨#[114,111,117,110,100]⟩,⟨#[108,97,121,111,117,116]⟩,⟨#[102,105,110,100]⟩,⟨#[112,108,97,110]⟩,⟨#[99,104,101,97,112]⟩,⟨#[115,117,109,115]⟩]
def bT:List Int:=[2,1,2,1,4,1,2,3,1,1,3,1]
def Cmd (w:World):Prop:=∃b o c,w.cell? ⟨0,0,none⟩=some (.slice (some ⟨b,o,none⟩) 12 c)∧12≤c∧c≤9223372036854775807∧b<w.heap.size∧∀k,k<12→w.cell? ⟨b,o+k*2,none⟩=some (.string (sat cN k))∧w.cell? ⟨b,o+k*2+1,none⟩=some (.int .i64 (at_ bT k))
theorem Cmd.bel {w w':World} (h:Cmd w) (hb:Below w.heap.size w w'):Cmd w':=by
 obtain⟨b,o,c,h1,h2,h3,h4,h5⟩:=h;exact⟨b,o,c,(hb.cell (World.block_lt_of_cell? _ _ h1)).trans h1,h2,h3,Jw h4 hb.size,fun k hk=>⟨(hb.cell h4).trans (h5 k hk).1,(hb.cell h4).trans (h5 k hk).2⟩⟩
def GlbC (w:World):Prop:=Glb w∧Cmd w
theorem GlbC.bel {w w':World} (h:GlbC w) (hb:Below w.heap.size w w'):GlbC w':=⟨h.1.bel hb,h.2.bel hb⟩
def dY (b:Nat) (w:World):Prop:=∃w0,GlbC w0∧w0.heap.size≤b∧Below w0.heap.size w0 w
theorem dY.glb {b:Nat} {w:World} (h:dY b w):Glb w:=by obtain⟨w0,h0,-,h2⟩:=h;exact h0.1.bel h2
theorem dY.cmd {b:Nat} {w:World} (h:dY b w):Cmd w:=by obtain⟨w0,h0,-,h2⟩:=h;exact h0.2.bel h2
theorem dY.grown {b:Nat} {w w':World} (h:dY b w) (hg:w.grownBy w' (some b)):dY b w':=by
 obtain⟨w0,h0,h1,h2⟩:=h;exact⟨w0,h0,h1,h2.grown hg h2.size (fun k hk=>by cases hk;exact h1)⟩
theorem dY.bel {b:Nat} {w w':World} (h:dY b w) (hb:Below w.heap.size w w'):dY b w':=h.grown (aB _ hb)
theorem dY.from {b B:Nat} {w w':World} (h:dY b w) (hb:Below B w w') (hB:b≤B):dY b w':=by
 obtain⟨w0,h0,h1,h2⟩:=h;exact⟨w0,h0,h1,h2.trans (hb.mono (Js h1 hB))⟩
theorem bO.keepOwn {w w':World} {b:Nat} {d:ae} {v:Value} {l:List Int} (h:bO w b d) (hv:Own w 0 v l) (hg:w.grownBy w' (some b)):Own w' 0 v l:=by
 obtain⟨p,e,t,h0,-⟩:=h;exact hv.at h0 hg
theorem bO.keepOwnS {w w':World} {b:Nat} {d:ae} {v:Value} {l:List ByteArray} (h:bO w b d) (hv:aj w 0 v l) (hg:w.grownBy w' (some b)):aj w' 0 v l:=by
 obtain⟨p,e,t,h0,-⟩:=h;exact hv.at h0 hg
theorem bO.setPoly {w:World} {b:Nat} {d:ae} {v:Value} {l:List Int} (h:bO w b d) (hv:Own w 0 v l):bO (w.setCell ⟨b,0,none⟩ v) b { d with poly:=l }:=by
 obtain⟨p,e,t,h0,h1,h2,h3⟩:=h;have hg:=aI w b 0 v;exact⟨v,e,t,h0.set_ 0 v,hv.at h0 hg,h2.at h0 hg,h3.at h0 hg⟩
theorem bO.setEng {w:World} {b:Nat} {d:ae} {v:Value} {l:List ByteArray} (h:bO w b d) (hv:aj w 0 v l):bO (w.setCell ⟨b,1,none⟩ v) b { d with eng:=l }:=by
 obtain⟨p,e,t,h0,h1,h2,h3⟩:=h;have hg:=aI w b 1 v;exact⟨p,v,t,h0.set_ 1 v,h1.at h0 hg,hv.at h0 hg,h3.at h0 hg⟩
theorem bO.setTab {w:World} {b:Nat} {d:ae} {v:Value} {l:List Int} (h:bO w b d) (hv:Own w 0 v l):bO (w.setCell ⟨b,2,none⟩ v) b { d with tab:=l }:=by
 obtain⟨p,e,t,h0,h1,h2,h3⟩:=h;have hg:=aI w b 2 v;exact⟨p,e,v,h0.set_ 2 v,h1.at h0 hg,h2.at h0 hg,hv.at h0 hg⟩
theorem bO.setLay {w:World} {b:Nat} {d:ae} (r a i:Nat) (h:bO w b d):bO (((w.setCell ⟨b,3,none⟩ (.int .i64 r)).setCell ⟨b,4,none⟩ (.int .i64 a)).setCell ⟨b,5,none⟩ (.int .i64 i)) b { d with rw:=r,ac:=a,wi:=i }:=by
 obtain⟨p,e,t,h0,h1,h2,h3⟩:=h;have hg:=ay (ay (aI w b 3 (.int .i64 r)) (aI _ b 4 (.int .i64 a))) (aI _ b 5 (.int .i64 i));exact⟨p,e,t,((h0.set_ 3 _).set_ 4 _).set_ 5 _,h1.at h0 hg,h2.at h0 hg,h3.at h0 hg⟩
def jc (w:World) (b:Nat) (out:ByteArray) (d:ae) (e:Ending) (w':World):Prop:=e=.returned (.string out)∧bO w' b d∧w.grownBy w' (some b)
def kQ:ByteArray:=⟨#[116,117,114,110]⟩
def kN:ByteArray:=⟨#[98,97,99,107]⟩
def gN:ByteArray:=⟨#[104,97,108,118,101,115]⟩
def kO:ByteArray:=⟨#[114,101,97,100]⟩
def mW:ByteArray:=⟨#[102,105,116]⟩
def gP:ByteArray:=⟨#[112,111,119,101,114,115]⟩
def gL:ByteArray:=⟨#[101,110,103,105,110,101]⟩
def dT:ByteArray:=⟨#[118,97,108,117,101,115]⟩
def gn:ByteArray:=⟨#[115,108,105,112]⟩
def lB (l:List ByteArray):List ByteArray:=aZ (aZ l 0) 1
def dF (d:ae) (l:List Int) (k:Bool):ae:=if k=true then { d with poly:=l } else d
end Go.Proofs.YtfmjklgfpiffbaaGreatDoor
