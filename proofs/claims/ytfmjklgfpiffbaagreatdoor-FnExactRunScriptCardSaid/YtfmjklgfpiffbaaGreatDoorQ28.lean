/-
  Parts of the proof of one statement, merged: Desk SmW.
-/
import Derived.Test.YtfmjklgfpiffbaaGreatDoorQ26
import Derived.Test.YtfmjklgfpiffbaaGreatDoorQ27
namespace Go.Proofs.YtfmjklgfpiffbaaGreatDoor
open Go.RowKit
set_option linter.unusedVariables false
set_option linter.unusedSimpArgs false
set_option maxRecDepth 100000
set_option maxHeartbeats 8000000
structure ae where
 poly:List Int
 eng:List ByteArray
 tab:List Int
 rw:Nat
 ac:Nat
 wi:Nat
structure ae.Ok (d:ae):Prop where
 poly:ar d.poly=true
 eng:d.eng=[]∨af d.eng=true
 tab:d.tab.length≤60
 rw:1≤d.rw∧d.rw≤20
 ac:1≤d.ac∧d.ac≤6
 wi:1≤d.wi∧d.wi≤12
def pt (p e t:Value) (r a i:Int):List Value:=[p,e,t,.int .i64 r,.int .i64 a,.int .i64 i]
def bR (w:World) (b:Nat) (d:ae):Prop:=∃p e t,Blk w b 41 (pt p e t d.rw d.ac d.wi)∧Own w 0 p d.poly∧ak w 0 e d.eng∧Own w 0 t d.tab
theorem qM {w:World} {b:Nat} {t e:TypeId} {cs:List Value} {base n:Nat} {v:Value} {xs:List Value} (hb:Blk w b t cs) (h:w.ownsRow base e 1 v n xs) (hne:t≠e):v.ownBlock≠some b:=by
 rcases h.2 with ⟨rfl,-⟩|⟨g,cap,cur,rfl,-,hg,-⟩
 ·simp[Value.ownBlock]
 ·intro h1
  have h2:g=b:=It h1
  subst h2
  unfold Blk at hb
  rw[hb] at hg
  injection hg with hg
  injection hg with h3 h4 h5
  exact hne h4
theorem ws {w w':World} {base:Nat} {e:TypeId} {v:Value} {n:Nat} {xs:List Value} {row:Option Nat} (h:w.ownsRow base e 1 v n xs) (hg:w.grownBy w' row) (hr:∀k,v.ownBlock=some k→some k≠row):w'.ownsRow base e 1 v n xs:=by
 refine⟨h.1,?_⟩
 rcases h.2 with h0|⟨g,cap,cur,hv,h1,h2,h3⟩
 ·exact .inl h0
 ·exact .inr ⟨g,cap,cur,hv,h1,(hg.block g (Array.getElem?_eq_some_iff.1 h2).1 (hr g (by rw[hv];rfl))).trans h2,h3⟩
theorem lg {w w':World} {base:Nat} {e u:TypeId} {v:Value} {n bb:Nat} {xs:List Value} (h:w.ownsRow base e 1 v n xs) (hk:Lib.OthersKept u (some bb) w w') (hr:v.ownBlock≠some bb) (hne:e≠u):w'.ownsRow base e 1 v n xs:=by
 refine⟨h.1,?_⟩
 rcases h.2 with h0|⟨g,cap,cur,hv,h1,h2,h3⟩
 ·exact .inl h0
 ·exact .inr ⟨g,cap,cur,hv,h1,hk g _ h2 (fun e=>hr (by rw[hv];exact e)) (fun c fz e=>by injection e with _ e1;exact hne e1),h3⟩
theorem Blk.others {w w':World} {b bb:Nat} {t u:TypeId} {cs:List Value} (h:Blk w b t cs) (hk:Lib.OthersKept u (some bb) w w') (hr:b≠bb) (hne:t≠u):Blk w' b t cs:=
 hk b _ h (fun e=>hr (It e)) (fun c fz e=>by injection e with _ e1;exact hne e1)
theorem Own.low {w:World} {base:Nat} {v:Value} {l:List Int} (h:Own w base v l):Own w 0 v l:=⟨by
 refine⟨h.1.1,?_⟩
 rcases h.1.2 with h0|⟨g,cap,cur,hv,-,h2⟩
 ·exact .inl h0
 ·exact .inr ⟨g,cap,cur,hv,Ip _,h2⟩,h.2⟩
theorem ak.low {w:World} {base:Nat} {v:Value} {l:List ByteArray} (h:ak w base v l):ak w 0 v l:=⟨by
 refine⟨h.1.1,?_⟩
 rcases h.1.2 with h0|⟨g,cap,cur,hv,-,h2⟩
 ·exact .inl h0
 ·exact .inr ⟨g,cap,cur,hv,Ip _,h2⟩,h.2⟩
theorem Own.at {w:World} {base b:Nat} {v:Value} {l:List Int} {cs:List Value} (h:Own w base v l) (hb:Blk w b 41 cs) {w':World} (hg:w.grownBy w' (some b)):Own w' base v l:=
 ⟨ws h.1 hg (fun k hk e=>qM hb h.1 (by decide) (by rw[hk,e])),h.2⟩
theorem ak.at {w:World} {base b:Nat} {v:Value} {l:List ByteArray} {cs:List Value} (h:ak w base v l) (hb:Blk w b 41 cs) {w':World} (hg:w.grownBy w' (some b)):ak w' base v l:=
 ⟨ws h.1 hg (fun k hk e=>qM hb h.1 (by decide) (by rw[hk,e])),h.2⟩
theorem bR.lt {w:World} {b:Nat} {d:ae} (h:bR w b d):b<w.heap.size:=by obtain⟨p,e,t,h,-⟩:=h;exact h.lt
theorem bR.bel {w w':World} {b:Nat} {d:ae} (h:bR w b d) (hb:Below w.heap.size w w'):bR w' b d:=by
 obtain⟨p,e,t,h0,h1,h2,h3⟩:=h
 exact⟨p,e,t,h0.below hb h0.lt,h1.bel hb,h2.bel hb,h3.bel hb⟩
theorem bR.others {w w':World} {b bb:Nat} {d:ae} (h:bR w b d) (hB:w.shape? bb=some (44,2)) (hk:Lib.OthersKept 5 (some bb) w w'):bR w' b d:=by
 obtain⟨p,e,t,h0,h1,h2,h3⟩:=h
 have hn:∀ {base:Nat} {u:TypeId} {v:Value} {n:Nat} {xs:List Value},u≠44→w.ownsRow base u 1 v n xs→v.ownBlock≠some bb:=by
  intro base u v n xs hu h4 h5
  rcases h4.2 with ⟨rfl,-⟩|⟨g,cap,cur,rfl,-,hg,-⟩
  ·simp[Value.ownBlock] at h5
  ·have h6:g=bb:=It h5
   subst h6
   simp[World.shape?,hg] at hB
   exact hu hB.1
 refine⟨p,e,t,h0.others hk (fun e=>?_) (by decide),⟨lg h1.1 hk (hn (by decide) h1.1) (by decide),h1.2⟩,⟨lg h2.1 hk (hn (by decide) h2.1) (by decide),h2.2⟩,⟨lg h3.1 hk (hn (by decide) h3.1) (by decide),h3.2⟩⟩
 subst e
 unfold Blk at h0
 simp[World.shape?,h0] at hB
theorem az {a b c:World} {row:Option Nat} (h:a.grownBy b row) (k:b.grownBy c row):a.grownBy c row:=
 ⟨k.os.trans h.os,k.tape.trans h.tape,k.output.trans h.output,Ih h.size k.size,fun i hi hn=>(k.block i (Im hi h.size) hn).trans (h.block i hi hn)⟩
theorem aC {a b:World} (row:Option Nat) (h:Below a.heap.size a b):a.grownBy b row:=⟨h.os,h.tape,h.output,h.size,fun i hi _=>h.block i hi⟩
def cM:List ByteArray:=[⟨#[115,101,116,117,112]⟩,⟨#[116,117,114,110,115]⟩,⟨#[118,97,108,117,101,115]⟩,⟨#[114,117,110]⟩,⟨#[115,108,105,112]⟩,⟨#[99,111,114,114,101,99,116]⟩,⟨#[114,111,117,110,100]⟩,⟨#[108,97,121,111,117,116]⟩,⟨#[102,105,110,100]⟩,⟨#[112,108,97,110]⟩,⟨#[99,104,101,97,112]⟩,⟨#[115,117,109,115]⟩]
def bV:List Int:=[2,1,2,1,4,1,2,3,1,1,3,1]
def Cmd (w:World):Prop:=∃b o c,w.cell? ⟨0,0,none⟩=some (.slice (some ⟨b,o,none⟩) 12 c)∧12≤c∧c≤9223372036854775807∧b<w.heap.size∧∀k,k<12→w.cell? ⟨b,o+k*2,none⟩=some (.string (sat cM k))∧w.cell? ⟨b,o+k*2+1,none⟩=some (.int .i64 (at_ bV k))
theorem Cmd.bel {w w':World} (h:Cmd w) (hb:Below w.heap.size w w'):Cmd w':=by
 obtain⟨b,o,c,h1,h2,h3,h4,h5⟩:=h
 exact⟨b,o,c,(hb.cell (World.block_lt_of_cell? _ _ h1)).trans h1,h2,h3,Im h4 hb.size,fun k hk=>⟨(hb.cell h4).trans (h5 k hk).1,(hb.cell h4).trans (h5 k hk).2⟩⟩
def GlbC (w:World):Prop:=Glb w∧Cmd w
theorem GlbC.bel {w w':World} (h:GlbC w) (hb:Below w.heap.size w w'):GlbC w':=⟨h.1.bel hb,h.2.bel hb⟩
def dV (b:Nat) (w:World):Prop:=∃w0,GlbC w0∧w0.heap.size≤b∧Below w0.heap.size w0 w
theorem dV.glb {b:Nat} {w:World} (h:dV b w):Glb w:=by obtain⟨w0,h0,-,h2⟩:=h;exact h0.1.bel h2
theorem dV.cmd {b:Nat} {w:World} (h:dV b w):Cmd w:=by obtain⟨w0,h0,-,h2⟩:=h;exact h0.2.bel h2
theorem dV.grown {b:Nat} {w w':World} (h:dV b w) (hg:w.grownBy w' (some b)):dV b w':=by
 obtain⟨w0,h0,h1,h2⟩:=h
 exact⟨w0,h0,h1,h2.grown hg h2.size (fun k hk=>by cases hk;exact h1)⟩
theorem dV.bel {b:Nat} {w w':World} (h:dV b w) (hb:Below w.heap.size w w'):dV b w':=h.grown (aC _ hb)
theorem dV.from {b B:Nat} {w w':World} (h:dV b w) (hb:Below B w w') (hB:b≤B):dV b w':=by
 obtain⟨w0,h0,h1,h2⟩:=h
 exact⟨w0,h0,h1,h2.trans (hb.mono (Ih h1 hB))⟩
theorem bR.keepOwn {w w':World} {b:Nat} {d:ae} {v:Value} {l:List Int} (h:bR w b d) (hv:Own w 0 v l) (hg:w.grownBy w' (some b)):Own w' 0 v l:=by
 obtain⟨p,e,t,h0,-⟩:=h
 exact hv.at h0 hg
theorem bR.keepOwnS {w w':World} {b:Nat} {d:ae} {v:Value} {l:List ByteArray} (h:bR w b d) (hv:ak w 0 v l) (hg:w.grownBy w' (some b)):ak w' 0 v l:=by
 obtain⟨p,e,t,h0,-⟩:=h
 exact hv.at h0 hg
theorem bR.setPoly {w:World} {b:Nat} {d:ae} {v:Value} {l:List Int} (h:bR w b d) (hv:Own w 0 v l):bR (w.setCell ⟨b,0,none⟩ v) b { d with poly:=l }:=by
 obtain⟨p,e,t,h0,h1,h2,h3⟩:=h
 have hg:=aI w b 0 v
 exact⟨v,e,t,h0.set_ 0 v,hv.at h0 hg,h2.at h0 hg,h3.at h0 hg⟩
theorem bR.setEng {w:World} {b:Nat} {d:ae} {v:Value} {l:List ByteArray} (h:bR w b d) (hv:ak w 0 v l):bR (w.setCell ⟨b,1,none⟩ v) b { d with eng:=l }:=by
 obtain⟨p,e,t,h0,h1,h2,h3⟩:=h
 have hg:=aI w b 1 v
 exact⟨p,v,t,h0.set_ 1 v,h1.at h0 hg,hv.at h0 hg,h3.at h0 hg⟩
theorem bR.setTab {w:World} {b:Nat} {d:ae} {v:Value} {l:List Int} (h:bR w b d) (hv:Own w 0 v l):bR (w.setCell ⟨b,2,none⟩ v) b { d with tab:=l }:=by
 obtain⟨p,e,t,h0,h1,h2,h3⟩:=h
 have hg:=aI w b 2 v
 exact⟨p,e,v,h0.set_ 2 v,h1.at h0 hg,h2.at h0 hg,hv.at h0 hg⟩
theorem bR.setLay {w:World} {b:Nat} {d:ae} (r a i:Nat) (h:bR w b d):bR (((w.setCell ⟨b,3,none⟩ (.int .i64 r)).setCell ⟨b,4,none⟩ (.int .i64 a)).setCell ⟨b,5,none⟩ (.int .i64 i)) b { d with rw:=r,ac:=a,wi:=i }:=by
 obtain⟨p,e,t,h0,h1,h2,h3⟩:=h
 have hg:=az (az (aI w b 3 (.int .i64 r)) (aI _ b 4 (.int .i64 a))) (aI _ b 5 (.int .i64 i))
 exact⟨p,e,t,((h0.set_ 3 _).set_ 4 _).set_ 5 _,h1.at h0 hg,h2.at h0 hg,h3.at h0 hg⟩
def ja (w:World) (b:Nat) (out:ByteArray) (d:ae) (e:Ending) (w':World):Prop:=e=.returned (.string out)∧bR w' b d∧w.grownBy w' (some b)
def kx:ByteArray:=⟨#[116,117,114,110]⟩
def ky:ByteArray:=⟨#[98,97,99,107]⟩
def gC:ByteArray:=⟨#[104,97,108,118,101,115]⟩
def kD:ByteArray:=⟨#[114,101,97,100]⟩
def mr:ByteArray:=⟨#[102,105,116]⟩
def gG:ByteArray:=⟨#[112,111,119,101,114,115]⟩
def gI:ByteArray:=⟨#[101,110,103,105,110,101]⟩
def dK:ByteArray:=⟨#[118,97,108,117,101,115]⟩
def fY:ByteArray:=⟨#[115,108,105,112]⟩
def gQ (l:List ByteArray):List ByteArray:=bf (bf l 0) 1
def dD (d:ae) (l:List Int) (k:Bool):ae:=if k=true then { d with poly:=l } else d
end Go.Proofs.YtfmjklgfpiffbaaGreatDoor
