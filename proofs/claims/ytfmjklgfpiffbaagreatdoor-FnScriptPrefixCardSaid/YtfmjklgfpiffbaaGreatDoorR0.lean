/-
  Parts of the proof of one statement, merged: Base.
-/
import Derived.Test.YtfmjklgfpiffbaaGreatDoorRh
import Derived.BigQuiet
import Derived.Deep.AppendLies
import Derived.Deep.OwnRows
import Derived.Lib.Hide
import Derived.WalkLawsBesides
import Derived.WalkSpells
namespace Go.Proofs.YtfmjklgfpiffbaaGreatDoor
open Go.RowKit
set_option linter.unusedVariables false
def at_ (l:List Int) (k:Nat):Int:=l.getD k 0
theorem fi (l:List Int) (k:Nat) (h:k<l.length):at_ l k=l[k]:=by simp[at_,List.getD,h]
theorem bG (l:List Int) (k:Nat) (h:k<l.length):at_ l k∈l:=by rw[fi l k h];exact List.getElem_mem h
theorem qd (l:List Int) (k:Nat) (h:k<l.length):l[k]?=some (at_ l k):=by rw[fi l k h];exact List.getElem?_eq_getElem h
def Rd (w:World) (A:Option Addr) (xs:List Value):Prop:=
 0<xs.length→∃b o,A=some ⟨b,o,none⟩∧b<w.heap.size∧∀k u,xs[k]?=some u→w.cell? ⟨b,o+k,none⟩=some u
def Sl (w:World) (v:Value) (xs:List Value):Prop:=
 ∃A c,v=.slice A xs.length c∧xs.length≤c∧c≤maxLen∧Rd w A xs
def iv (l:List Int):List Value:=l.map (Value.int .i64)
theorem be (l:List Int):(iv l).length=l.length:=by simp[iv]
theorem lV (l:List Int) (k:Nat) (h:k<l.length):(iv l)[k]?=some (.int .i64 (at_ l k)):=by
 simp[iv,qd l k h]
theorem pp (l m:List Int):iv (l++m)=iv l++iv m:=by simp[iv]
def Wf (l:List Int):Prop:=∀n∈l,-9223372036854775808≤n∧n≤9223372036854775807
theorem Wf.at (l:List Int) (h:Wf l) (k:Nat) : -9223372036854775808≤at_ l k∧at_ l k≤9223372036854775807:=by
 by_cases hk:k<l.length
 ·exact h _ (bG l k hk)
 ·have:at_ l k=0:=by simp[at_,List.getD,List.getElem?_eq_none (Nat.le_of_not_lt hk)]
  omega
def ai (w:World) (v:Value) (l:List Int):Prop:=Sl w v (iv l)∧Wf l
section
variable {w w':World} {v:Value} {A:Option Addr} {xs:List Value} {l:List Int}
theorem Rd.keep (h:Rd w A xs) (hz:w.heap.size≤w'.heap.size) (hk:∀p:Addr,p.block<w.heap.size→w'.cell? p=w.cell? p):Rd w' A xs:=fun hn=>by
 obtain⟨b,o,e,hb,hc⟩:=h hn;exact⟨b,o,e,by omega,fun k u hu=>(hk _ hb).trans (hc k u hu)⟩
theorem Sl.keep (h:Sl w v xs) (hz:w.heap.size≤w'.heap.size) (hk:∀p:Addr,p.block<w.heap.size→w'.cell? p=w.cell? p):Sl w' v xs:=by
 obtain⟨A,c,e,h1,h2,h3⟩:=h;exact⟨A,c,e,h1,h2,h3.keep hz hk⟩
theorem Sl.below {B:Nat} (h:Sl w v xs) (hb:Below B w w') (hB:w.heap.size≤B):Sl w' v xs:=h.keep hb.size fun _ hp=>hb.cell (by omega)
theorem ai.below {B:Nat} (h:ai w v l) (hb:Below B w w') (hB:w.heap.size≤B):ai w' v l:=⟨h.1.below hb hB,h.2⟩
theorem ai.bel (h:ai w v l) (hb:Below w.heap.size w w'):ai w' v l:=h.below hb (Nat.le_refl _)
theorem ai.open_ (h:ai w v l):∃A c,v=.slice A l.length c∧l.length≤c∧c≤9223372036854775807∧Rd w A (iv l):=by
 obtain⟨⟨A,c,e,h1,h2,h3⟩,_⟩:=h;rw[be] at e h1;exact⟨A,c,e,h1,by unfold maxLen at h2;omega,h3⟩
theorem Rd.ints (h:Rd w A (iv l)) (hn:0<l.length):∃b o,A=some ⟨b,o,none⟩∧b<w.heap.size∧∀k,k<l.length→w.cell? ⟨b,o+k,none⟩=some (.int .i64 (at_ l k)):=by
 obtain⟨b,o,e,hb,hc⟩:=h (by rw[be];exact hn);exact⟨b,o,e,hb,fun k hk=>hc k _ (lV l k hk)⟩
theorem Sl.own {base:Nat} {e:TypeId} {n:Nat} (h:w.ownsRow base e 1 v n xs) (hz:n≤maxLen):Sl w v xs:=by
 have hl:=h.1
 rcases h.2 with ⟨rfl,rfl⟩|⟨g,cap,cur,rfl,hg,hh,hnc,hcm,hs,ht⟩
 ·simp at hl;subst hl;exact⟨none,0,rfl,Nat.le_refl _,Nat.zero_le _,fun h=>absurd h (by simp)⟩
 ·have hlt:g<w.heap.size:=(Array.getElem?_eq_some_iff.1 hh).1;have hcl:=h.cells (g:=g) rfl;refine⟨some ⟨g,0,none⟩,cap,by rw[hl,Nat.mul_one],by omega,hcm,fun hn=>⟨g,0,rfl,hlt,fun k u hu=>?_⟩⟩;have:=hcl k u hu;rwa[show(⟨g,0,none⟩:Addr).add k=⟨g,0+k,none⟩ from by unfold Addr.add;split <;> simp_all] at this
end
theorem aD {a b:Bool} (h:a=b):Ending.returned (.bool a)=.returned (.bool b):=by rw[h]
theorem kB {k:IntKind} {a b:Int} (h:a=b):Ending.returned (.int k a)=.returned (.int k b):=by rw[h]
def inB (n a b:Int):Bool:=decide (a≤n)&&decide (n≤b)
theorem am {n a b:Int}:inB n a b=true↔a≤n∧n≤b:=by simp[inB]
theorem bm {n a b:Int}:inB n a b=false↔¬(a≤n∧n≤b):=by simp[inB]
theorem rd {l:List Int} {p:Int→Bool} (h:∀j,j<l.length→p (at_ l j)=true):l.all p=true:=by
 rw[List.all_eq_true];intro x hx;obtain⟨j,hj,rfl⟩:=List.getElem_of_mem hx;rw[←fi l j hj];exact h j hj
theorem oO {l:List Int} {p:Int→Bool} {k:Nat} (hk:k<l.length) (h:p (at_ l k)=false):l.all p=false:=by
 rw[Bool.eq_false_iff];intro ha;rw[List.all_eq_true] at ha;rw[ha _ (bG l k hk)] at h;cases h
theorem cS {q:Nat→Prop} {k:Nat} (h:∀j,j<k→q j) (hk:q k):∀j,j<k+1→q j:=fun j hj=>by
 by_cases e:j=k
 ·rw[e];exact hk
 ·exact h j (by omega)
def Blk (w:World) (g:Nat) (t:TypeId) (cs:List Value):Prop:=w.heap[g]?=some (.cells cs.toArray t (0,0))
section
variable {w w':World} {g:Nat} {t:TypeId} {cs:List Value}
theorem Blk.lt (h:Blk w g t cs):g<w.heap.size:=by
 rcases Nat.lt_or_ge g w.heap.size with hlt|hge
 ·exact hlt
 ·unfold Blk at h;rw[Array.getElem?_eq_none hge] at h;cases h
theorem Blk.cell (h:Blk w g t cs) (i:Nat):w.cell? ⟨g,i,none⟩=cs[i]?:=by
 have:=cell_of_row w g i cs.toArray t (0,0) h;simpa using this
theorem Blk.frozen (h:Blk w g t cs) (i:Nat):w.frozen? ⟨g,i,none⟩=false:=by
 unfold Blk at h;simp[World.frozen?,h]
theorem Blk.new (w:World) (t:TypeId) (cs:List Value):Blk (w.alloc (.cells cs.toArray t)) w.heap.size t cs:=heap_alloc_new w _
theorem Blk.alloc (h:Blk w g t cs) (o:Obj):Blk (w.alloc o) g t cs:=(Below.heap_alloc w o g h.lt).trans h
theorem Blk.set_ (h:Blk w g t cs) (i:Nat) (u:Value):Blk (w.setCell ⟨g,i,none⟩ u) g t (cs.set i u):=by
 unfold Blk at h ⊢;simp[World.setCell,Array.getElem?_modify,h]
theorem Blk.far (h:Blk w g t cs) {p:Addr} (hp:g≠p.block) (u:Value):Blk (w.setCell p u) g t cs:=(Below.heap_setCell w p u g hp).trans h
theorem Blk.below {B:Nat} (h:Blk w g t cs) (hb:Below B w w') (hg:g<B):Blk w' g t cs:=(hb.block g hg).trans h
theorem Blk.grown {row:Option Nat} (h:Blk w g t cs) (hb:w.grownBy w' row) (hg:some g≠row):Blk w' g t cs:=(hb.block g h.lt hg).trans h
theorem Blk.own {base n:Nat} (h:Blk w g t cs) (hb:base≤g) (hn:cs.length=n) (hm:n≤maxLen):w.ownsRow base t 1 (.slice (some ⟨g,0,none⟩) n n) n cs:=
 ⟨by omega,.inr ⟨g,n,cs.toArray,rfl,hb,h,Nat.le_refl _,hm,by simp[hn],by simp[←hn]⟩⟩
end
def bz (n:Nat) (z:Value):List Value:=List.replicate n z
theorem bi (n:Nat) (z:Value):(bz n z).length=n:=by simp[bz]
theorem oh {n k:Nat} (z:Value) (h:k<n):(bz n z)[k]?=some z:=by simp[bz,h]
theorem nt (z:Value) (n:Nat) (hz:z.cells = #[z]):madeCells z.cells n=(bz n z).toArray:=by
 rw[hz];unfold madeCells bz
 apply Array.ext
 ·simp
 ·intro i h1 h2;simp[Nat.mod_one]
theorem wl {P:Program} (t e:TypeId) (z:Value) (bytes:Nat) (ht:P.underlying t=some (.slice e)) (hinfo:(P.info? e).map (fun i=>(i.zero,i.size,i.bytes))=some (some z,1,bytes)) (hz1:z.cells = #[z])
  (n:Nat) (hbytes:bytes*n≤281474976710656) (h63:n≤9223372036854775807) (w:World):
  (Instr.makeSlice t (.int .i64 (n:Int)) (.int .i64 (n:Int))).run P w=.ok (.slice (some ⟨w.heap.size,0,none⟩) n n) (w.alloc (.cells (bz n z).toArray e)):=by
 rw[run_make_row' t e z bytes ht hinfo hz1 .i64 .i64 n hbytes h63 w];have:=nt z n hz1;rw[hz1] at this;rw[this]
theorem Ii {cs:List Value} {l:List Int} (hl:cs.length=l.length) (h:∀j,j<l.length→cs[j]?=some (.int .i64 (at_ l j))):cs=iv l:=by
 apply List.ext_getElem?
 intro j;by_cases hj:j<l.length
 ·rw[h j hj,lV l j hj]
 ·rw[List.getElem?_eq_none (by omega),List.getElem?_eq_none (by rw[be];omega)]
theorem aV {B:Nat} {a w:World} (h:Below B a w) (n:Nat):Below B a (w.drewN n):=⟨h.os,h.tape,h.output,h.size,h.block⟩
theorem gg {l m:List Int} (hl:l.length=m.length) (h:∀j,j<l.length→at_ l j=at_ m j):l=m:=by
 apply List.ext_getElem hl
 intro i h1 h2;have:=h i h1;rwa[fi l i h1,fi m i h2] at this
theorem aa {a b c:World} (h:Below a.heap.size a b) (k:Below b.heap.size b c):Below a.heap.size a c:=h.trans (k.mono h.size)
theorem CI {n:Int} (h:(Lit.int .i64 n).wf=true) : -9223372036854775808≤n∧n≤9223372036854775807:=by
 simp[Lit.wf,IntKind.min,IntKind.max,IntKind.signed,IntKind.bits] at h;omega
theorem AH {a w:World} {row:Option Nat} (h:a.grownBy w row) (n:Nat):a.grownBy (w.drewN n) row:=⟨h.os,h.tape,h.output,h.size,h.block⟩
theorem lI {a w:World} {row:Option Nat} (h:a.grownBy w row) (o:Obj):a.grownBy (w.alloc o) row:=
 ⟨h.os,h.tape,h.output,Nat.le_trans h.size (by simp),fun i hi hne=>(Below.heap_alloc w o i (Nat.lt_of_lt_of_le hi h.size)).trans (h.block i hi hne)⟩
theorem dl {a w:World} {g:Nat} (h:a.grownBy w (some g)) {p:Addr} (hp:p.block=g∨a.heap.size≤p.block) (u:Value):a.grownBy (w.setCell p u) (some g):=
 ⟨h.os,h.tape,h.output,by simpa[World.setCell] using h.size,fun i hi hne=>(Below.heap_setCell w p u i (by
  rintro rfl
  rcases hp with hp|hp
  ·exact hne (by rw[hp])
  ·omega)).trans (h.block i hi hne)⟩
theorem AG {a w w':World} {row:Option Nat} (h:a.grownBy w row) (k:Below w.heap.size w w'):a.grownBy w' row:=
 ⟨k.os.trans h.os,k.tape.trans h.tape,k.output.trans h.output,Nat.le_trans h.size k.size,fun i hi hn=>(k.block i (Nat.lt_of_lt_of_le hi h.size)).trans (h.block i hi hn)⟩
def gen (f:Nat→Int) (n:Nat):List Int:=(List.range n).map f
theorem ar (f:Nat→Int) (n:Nat):(gen f n).length=n:=by simp[gen]
theorem bP {f:Nat→Int} {n j:Nat} (h:j<n):at_ (gen f n) j=f j:=by rw[fi _ _ (by rw[ar];exact h)];simp[gen]
theorem fE (f:Nat→Int) (n:Nat):gen f (n+1)=gen f n++[f n]:=by simp[gen,List.range_succ]
theorem xu {f:Nat→Int} {n:Nat} (h:∀j,j<n → -9223372036854775808≤f j∧f j≤9223372036854775807):Wf (gen f n):=by
 intro x hx;simp[gen] at hx;obtain⟨j,hj,rfl⟩:=hx;exact h j hj
theorem bQ {base:Nat} {w w':World} {v:Value} (hg:w.grownBy w' v.ownBlock) (hb:base≤w.heap.size) (hv:∀k,v.ownBlock=some k→base≤k):Below base w w':=
 (Below.refl base w).grown hg hb hv
end Go.Proofs.YtfmjklgfpiffbaaGreatDoor
