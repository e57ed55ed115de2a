/-
  Parts of the proof of one statement, merged: Cut ErT ErC ErD ErF EsW.
-/
import Derived.Test.YtfmjklgfpiffbaaGreatDoorR28
namespace Go.Proofs.YtfmjklgfpiffbaaGreatDoor
open Go.RowKit Go.Proofs.Tryz
set_option linter.unusedVariables false
set_option linter.unusedSimpArgs false
set_option maxRecDepth 100000
set_option maxHeartbeats 8000000
theorem tN (c:UInt8):∀(a r:List UInt8),c∉a→Lib.index (a++c::r) [c]=(a.length:Int)
 |[],r,_=>by simp[Lib.index,List.isPrefixOf]
 |x::a,r,h=>by
  have hx:(c==x)=false:=by rw[beq_eq_false_iff_ne];intro e;subst e;exact h (by simp)
  have ih:=tN c a r (fun e=>h (List.mem_cons_of_mem _ e));have:((a.length:Int) == -1)=false:=by rw[beq_eq_false_iff_ne];omega
  simp[Lib.index,List.isPrefixOf,hx,ih,this]
theorem tM (c:UInt8):∀(a:List UInt8),c∉a→Lib.index a [c] = -1
 |[],_=>rfl
 |x::a,h=>by
  have hx:(c==x)=false:=by rw[beq_eq_false_iff_ne];intro e;subst e;exact h (by simp)
  have ih:=tM c a (fun e=>h (List.mem_cons_of_mem _ e));simp[Lib.index,List.isPrefixOf,hx,ih]
theorem Hz {c:UInt8} {a:List UInt8} (r:List UInt8) (h:c∉a):Lib.cut (a++c::r) [c]=(a,r,true):=by
 unfold Lib.cut;rw[tN c a r h,if_pos (by omega)];simp
theorem Gq {c:UInt8} {a:List UInt8} (h:c∉a):Lib.cut a [c]=(a,[],false):=by
 unfold Lib.cut;rw[tM c a h]
 rfl
theorem lQ (s:ByteArray):(⟨s.data.toList.toArray⟩:ByteArray)=s:=by
 apply ByteArray.ext
 apply Array.toList_inj.1
 simp
theorem lx (a r:ByteArray) (c:UInt8) (w:World) (hs:a.size+r.size≤1048576) (ha:c∉a.data.toList) (hg:Glb w):
  Calls prog 53 #[.string (a++⟨#[c]⟩++r),.string ⟨#[c]⟩] w fun e w'=>e=.returned (.tuple #[.string a,.string r,.bool true])∧Below w.heap.size w w':=by
 obtain⟨m,hm⟩:=hg.2.1;refine(Tryz.strings_Cut _ ⟨#[c]⟩ m w (by rw[Jt,Jt];have:(⟨#[c]⟩:ByteArray).size=1:=rfl;omega) hm).mono ?_;have h:=Hz r.data.toList ha;have e:(a++⟨#[c]⟩++r).data.toList=a.data.toList++c::r.data.toList:=by simp
 rw[e,show(⟨#[c]⟩:ByteArray).data.toList=[c] from rfl,h];rintro e w' ⟨rfl,n,rfl⟩;exact⟨by rw[lQ,lQ],aV (Below.refl _ _) n⟩
theorem tE (a:ByteArray) (c:UInt8) (w:World) (hs:a.size≤1048576) (ha:c∉a.data.toList) (hg:Glb w):
  Calls prog 53 #[.string a,.string ⟨#[c]⟩] w fun e w'=>e=.returned (.tuple #[.string a,.string ⟨#[]⟩,.bool false])∧Below w.heap.size w w':=by
 obtain⟨m,hm⟩:=hg.2.1;refine(Tryz.strings_Cut a ⟨#[c]⟩ m w (by omega) hm).mono ?_;rw[show(⟨#[c]⟩:ByteArray).data.toList=[c] from rfl,Gq ha];rintro e w' ⟨rfl,n,rfl⟩;exact⟨by rw[lQ],aV (Below.refl _ _) n⟩
def etL (es:List Etm) (k:Nat):Int:=if k=0 then -1 else(aC es (k-1)).1
def etK (es:List Etm) (k:Nat):Bool:=(decide (etL es k<(aC es k).1)&&decide ((aC es k).1<60))&&((inB (aC es k).2.1 (-1000000000) 1000000000&&inB (aC es k).2.2 (-1000000000) 1000000000)&&decide ((aC es k).2.1≠(aC es k).2.2))
def dz (es:List Etm):Bool:=decide (∀k,k<es.length→etK es k=true)
theorem ij {es:List Etm}:dz es=true↔∀k,k<es.length→etK es k=true:=by unfold dz;exact decide_eq_true_iff
theorem yZ {es:List Etm} {k:Nat} (hk:k<es.length) (h:etK es k=false):dz es=false:=by
 rw[Bool.eq_false_iff];intro h2;rw[ij.1 h2 k hk] at h;cases h
theorem nN {es:List Etm} {k:Nat} (h:etK es k=true):etL es k<(aC es k).1∧(aC es k).1<60∧(-1000000000≤(aC es k).2.1∧(aC es k).2.1≤1000000000)∧(-1000000000≤(aC es k).2.2∧(aC es k).2.2≤1000000000)∧(aC es k).2.1≠(aC es k).2.2:=by
 unfold etK at h;rw[JB,JB,JB,JB] at h;obtain⟨⟨h1,h2⟩,⟨h3,h4⟩,h5⟩:=h;exact⟨of_decide_eq_true h1,of_decide_eq_true h2,am.1 h3,am.1 h4,of_decide_eq_true h5⟩
theorem ru {es:List Etm}:∀ {k:Nat},(∀j,j≤k→etK es j=true)→(k:Int)≤(aC es k).1
 |0,h=>by
  have:=(nN (h 0 (Jr _))).1;unfold etL at this;rw[if_pos rfl] at this;omega
 |k+1,h=>by
  have ih:=ru (es:=es) (k:=k) (fun j hj=>h j (by omega));have:=(nN (h (k+1) (Jr _))).1;unfold etL at this;rw[if_neg (by omega),show k+1-1=k by omega] at this;omega
theorem ni {es:List Etm} (h:dz es=true):es.length≤60:=by
 rcases Nat.lt_or_ge 60 es.length with h1|h1
 ·have h2:=ru (es:=es) (k:=60) (fun j hj=>ij.1 h j (by omega));have h3:=nN (ij.1 h 60 h1);omega
 ·exact h1
def uP (r p:List Int) (i:Nat):Option Etm:=if at_ r i=at_ p i then none else some ((i:Int),at_ p i,at_ r i)
def fk (r p:List Int) (n:Nat):List Etm:=(List.range n).filterMap (uP r p)
theorem rt (r p:List Int) (n:Nat):fk r p (n+1)=fk r p n++(if at_ r n=at_ p n then[] else[((n:Int),at_ p n,at_ r n)]):=by
 unfold fk;rw[List.range_succ,List.filterMap_append]
 congr 1
 unfold uP;by_cases h:at_ r n=at_ p n
 ·simp[h]
 ·simp[h]
theorem rr {r p:List Int} {n:Nat} (h:at_ r n=at_ p n):fk r p (n+1)=fk r p n:=by rw[rt,if_pos h,List.append_nil]
theorem rq {r p:List Int} {n:Nat} (h:at_ r n≠at_ p n):fk r p (n+1)=fk r p n++[((n:Int),at_ p n,at_ r n)]:=by rw[rt,if_neg h]
theorem tJ (r p:List Int) (n:Nat):(fk r p n).length≤n:=by
 unfold fk;have:=List.length_filterMap_le (uP r p) (List.range n);rwa[List.length_range] at this
def bt (r p:List Int):Bool:=(ag r&&ag p)&&decide (r.length=p.length)
def cl (r p:List Int):List Etm:=if bt r p=true then fk r p r.length else[]
def fh (l:List Int):List Etm→Option (List Int)
 |[]=>some l
 |x::r=>if x.1<(l.length:Int)∧at_ l x.1.toNat=x.2.1 then fh (l.set x.1.toNat x.2.2) r else none
def eX (l:List Int) (es:List Etm):Bool:=(ag l&&dz es)&&(fh l es).isSome
def apL (l:List Int) (es:List Etm):List Int:=if eX l es=true then(fh l es).getD [] else[]
theorem BI {l m:List Int} {es:List Etm} (h1:ag l=true) (h2:dz es=true) (h3:fh l es=some m):eX l es=true∧apL l es=m:=by
 have:eX l es=true:=by unfold eX;rw[h1,h2,h3];rfl
 exact⟨this,by unfold apL;rw[if_pos this,h3];rfl⟩
theorem pP {l:List Int} {es:List Etm} (h3:fh l es=none):eX l es=false∧apL l es=[]:=by
 have:eX l es=false:=by unfold eX;rw[h3];simp
 exact⟨this,by unfold apL;rw[this];rfl⟩
theorem BH {l:List Int} {es:List Etm} (h:ag l=false):eX l es=false∧apL l es=[]:=by
 have:eX l es=false:=by unfold eX;rw[h];rfl
 exact⟨this,by unfold apL;rw[this];rfl⟩
theorem BG {l:List Int} {es:List Etm} (h:dz es=false):eX l es=false∧apL l es=[]:=by
 have:eX l es=false:=by unfold eX;rw[h];simp
 exact⟨this,by unfold apL;rw[this];rfl⟩
theorem yY {es:List Etm} {k:Nat} (h:k<es.length):es.drop k=aC es k::es.drop (k+1):=by rw[List.drop_eq_getElem_cons h,iC h]
theorem uY {l m:List Int} {es:List Etm} {k:Nat} {R:Option (List Int)} (hk:k<es.length) (h:fh l (es.drop k)=R) (h1:(aC es k).1<(l.length:Int)) (h2:at_ l (aC es k).1.toNat=(aC es k).2.1):fh (l.set (aC es k).1.toNat (aC es k).2.2) (es.drop (k+1))=R:=by
 rw[yY hk,fh,if_pos ⟨h1,h2⟩] at h;exact h
theorem uZ {l:List Int} {es:List Etm} {k:Nat} {R:Option (List Int)} (hk:k<es.length) (h:fh l (es.drop k)=R) (h1:¬((aC es k).1<(l.length:Int)∧at_ l (aC es k).1.toNat=(aC es k).2.1)):R=none:=by
 rw[yY hk,fh,if_neg h1] at h;exact h.symm
def etS (x:Etm):ByteArray:=au x.1++⟨#[58]⟩++au x.2.1++⟨#[62]⟩++au x.2.2
def cm (es:List Etm):ByteArray:=if dz es=true then(if es=[] then⟨#[45]⟩ else aW (es.map etS) ⟨#[59]⟩) else⟨#[]⟩
theorem vc {a b:ByteArray} (h:a.data.toList=b.data.toList):a=b:=ByteArray.ext (Array.toList_inj.1 h)
theorem Gc (c:UInt8):∀l:List UInt8,c∉l.takeWhile fun b=>b != c
 |[]=>by simp
 |b::l=>by
  rw[List.takeWhile_cons];by_cases h:b=c
  ·simp[h]
  ·have e:(b != c)=true:=by simp[h]
   rw[e];intro h2
   rcases List.mem_cons.1 h2 with h3|h3
   ·exact h h3.symm
   ·exact Gc c l h3
theorem xn {p:UInt8→Bool}:∀ {l:List UInt8},(∀b∈l,p b=true)→l.takeWhile p=l∧l.dropWhile p=[]
 |[],_=>⟨rfl,rfl⟩
 |b::l,h=>by
  obtain⟨h1,h2⟩:=xn (l:=l) (fun x hx=>h x (List.mem_cons_of_mem _ hx));rw[List.takeWhile_cons,List.dropWhile_cons,h b (List.mem_cons_self)];simp[h1,h2]
def bef (c:UInt8) (s:ByteArray):ByteArray:=baL (s.data.toList.takeWhile fun b=>b != c)
def aft (c:UInt8) (s:ByteArray):ByteArray:=baL ((s.data.toList.dropWhile fun b=>b != c).drop 1)
def bL (c:UInt8) (s:ByteArray):Bool:=s.data.toList.any fun b=>b==c
theorem gd {c:UInt8} {s:ByteArray}:bL c s=true↔c∈s.data.toList:=by
 unfold bL;rw[List.any_eq_true]
 constructor
 ·rintro⟨x,hx,h⟩;have:x=c:=by simpa using h
  exact this▸hx
 ·intro h;exact⟨c,h,by simp⟩
theorem vd (c:UInt8) (s:ByteArray):c∉(bef c s).data.toList:=by
 intro h;unfold bef at h;rw[fB] at h;exact Gc c _ h
theorem vm (c:UInt8):∀ {l:List UInt8},c∈l→(l.takeWhile fun b=>b != c)++c::(l.dropWhile fun b=>b != c).drop 1=l
 |[],h=>by simp at h
 |b::l,h=>by
  by_cases hb:b=c
  ·subst hb;simp
  ·have h2:c∈l:=by
    rcases List.mem_cons.1 h with e|e
    ·exact absurd e.symm hb
    ·exact e
   have ih:=vm c h2;have e:(b != c)=true:=by simp[hb]
   rw[List.takeWhile_cons,List.dropWhile_cons,e];simp only[if_true];rw[List.cons_append,ih]
theorem gC {c:UInt8} {s:ByteArray} (h:bL c s=true):bef c s++⟨#[c]⟩++aft c s=s:=by
 apply vc
 have h2:=vm c (gd.1 h);have e1:(bef c s).data.toList=s.data.toList.takeWhile fun b=>b != c:=fB _;have e2:(aft c s).data.toList=(s.data.toList.dropWhile fun b=>b != c).drop 1:=fB _;have:(bef c s++⟨#[c]⟩++aft c s).data.toList=(bef c s).data.toList++c::(aft c s).data.toList:=by simp
 rw[this,e1,e2,h2]
theorem jm {c:UInt8} {s:ByteArray} (h:bL c s=false):bef c s=s∧aft c s=⟨#[]⟩:=by
 have hn:∀b∈s.data.toList,(b != c)=true:=by
  intro b hb;rw[bne_iff_ne];rintro rfl;rw[gd.2 hb] at h;cases h
 constructor
 ·unfold bef;rw[(xn hn).1,f9]
 ·unfold aft;have:(s.data.toList.dropWhile fun b=>b != c)=[]:=(xn hn).2;rw[this]
  rfl
theorem Gf {c:UInt8} {a:ByteArray} (r:ByteArray) (h:c∉a.data.toList):bef c (a++⟨#[c]⟩++r)=a∧aft c (a++⟨#[c]⟩++r)=r∧bL c (a++⟨#[c]⟩++r)=true:=by
 have e:(a++⟨#[c]⟩++r).data.toList=a.data.toList++c::r.data.toList:=by simp
 have hn:∀b∈a.data.toList,(b != c)=true:=by
  intro b hb;rw[bne_iff_ne];rintro rfl;exact h hb
 refine⟨?_,?_,gd.2 (by rw[e];simp)⟩
 ·unfold bef;rw[e,List.takeWhile_append_of_pos hn];simp[f9]
 ·unfold aft;rw[e,List.dropWhile_append_of_pos hn];simp[f9]
theorem nD (c:UInt8) (s:ByteArray):(bef c s).size+(aft c s).size≤s.size:=by
 cases h:bL c s
 ·obtain⟨h1,h2⟩:=jm h;rw[h1,h2];exact Jr _
 ·have h1:=congrArg ByteArray.size (gC h);rw[Jt,Jt] at h1;omega
theorem rm (s:ByteArray) (c:UInt8) (w:World) (hs:s.size≤1048576) (hg:Glb w):
  Calls prog 53 #[.string s,.string ⟨#[c]⟩] w fun e w'=>e=.returned (.tuple #[.string (bef c s),.string (aft c s),.bool (bL c s)])∧Below w.heap.size w w':=by
 cases h:bL c s
 ·obtain⟨h1,h2⟩:=jm h;rw[h1,h2];exact tE s c w hs (fun e=>by rw[gd.2 e] at h;cases h) hg
 ·have h1:=gC h;have h2:=congrArg ByteArray.size h1;rw[Jt,Jt] at h2;have:=lx (bef c s) (aft c s) c w (by omega) (vd c s) hg;rw[h1] at this;exact this
def zK (s:ByteArray):ByteArray:=bef 58 s
def EJ (s:ByteArray):ByteArray:=bef 62 (aft 58 s)
def vD (s:ByteArray):ByteArray:=aft 62 (aft 58 s)
def etT (s:ByteArray):Bool:=((bn (zK s)).isSome&&(bn (EJ s)).isSome)&&(bn (vD s)).isSome
def etV (s:ByteArray):Etm:=(cA (zK s),cA (EJ s),cA (vD s))
theorem n6:bn ⟨#[]⟩=none:=by decide
theorem Gx {s:ByteArray} (h:etT s=true):etS (etV s)=s:=by
 unfold etT at h;rw[JB,JB] at h;obtain⟨⟨h1,h2⟩,h3⟩:=h;unfold etS etV;simp only;rw[jK h1,jK h2,jK h3];unfold zK EJ vD at *;have k2:bL 62 (aft 58 s)=true:=by
  cases hq:bL 62 (aft 58 s)
  ·rw[(jm hq).2,n6] at h3;cases h3
  ·rfl
 have k1:bL 58 s=true:=by
  cases hq:bL 58 s
  ·rw[(jm hq).2] at k2;exact absurd k2 (by decide)
  ·rfl
 have e1:=gC k1;have e2:=gC k2;have:bef 58 s++⟨#[58]⟩++bef 62 (aft 58 s)++⟨#[62]⟩++aft 62 (aft 58 s)=bef 58 s++⟨#[58]⟩++(bef 62 (aft 58 s)++⟨#[62]⟩++aft 62 (aft 58 s)):=by
  apply vc
  simp
 rw[this,e2,e1]
def fq (l:List ByteArray):Bool:=l.all etT
def iP (t:ByteArray):Bool:=decide (t=⟨#[45]⟩)||(fq (aq 59 t)&&dz ((aq 59 t).map etV))
def peL (t:ByteArray):List Etm:=if t=⟨#[45]⟩ then[] else if iP t=true then(aq 59 t).map etV else[]
theorem EN {t:ByteArray} (h:fq (aq 59 t)=true):aW (((aq 59 t).map etV).map etS) ⟨#[59]⟩=t:=by
 rw[List.map_map];have:(aq 59 t).map (etS∘etV)=aq 59 t:=by
  conv=>rhs;rw[←List.map_id (aq 59 t)]
  apply List.map_congr_left
  intro x hx;exact Gx (List.all_eq_true.1 h x hx)
 rw[this];exact mx 59 t
theorem vE {es:List Etm} (h:dz es=true):∀x∈es,(0≤x.1∧x.1<60)∧(-1000000000≤x.2.1∧x.2.1≤1000000000)∧(-1000000000≤x.2.2∧x.2.2≤1000000000):=by
 intro x hx;obtain⟨k,hk,rfl⟩:=List.getElem_of_mem hx;have h1:=nN (ij.1 h k hk);have h2:=ru (es:=es) (k:=k) (fun j hj=>ij.1 h j (by omega));rw[iC hk] at h1 h2;exact⟨⟨by omega,h1.2.1⟩,h1.2.2.1,h1.2.2.2.1⟩
attribute [local go_sem ↓] Go.wp_at_zero Go.wp_at_succ
theorem Blk.three {w:World} {g:Nat} {t:TypeId} {a b c:Value} (h:Blk w g t [a,b,c]):w.cell? ⟨g,0,none⟩=some a∧w.cell? ⟨g,1,none⟩=some b∧w.cell? ⟨g,2,none⟩=some c:=
 ⟨by rw[h.cell];rfl,by rw[h.cell];rfl,by rw[h.cell];rfl⟩
theorem Cv {es:List Etm} {k:Nat} {L P W R:Int} (hL:etL es k=L) (h1:(aC es k).1=P) (h2:(aC es k).2.1=W) (h3:(aC es k).2.2=R):
  etK es k=((decide (L<P)&&decide (P<60))&&((inB W (-1000000000) 1000000000&&inB R (-1000000000) 1000000000)&&decide (W≠R))):=by
 unfold etK;rw[hL,h1,h2,h3]
theorem lA (v:Value) (es:List Etm) (w:World) (hv:EtR w v es):
  Calls prog 225 #[v] w fun e w'=>e=.returned (.bool (dz es))∧Below w.heap.size w w':=by
 obtain⟨A,c,rfl,hlc,hc,hrd,hin⟩:=hv;have HRD:=Jj hrd;have HIN:=Jj hin;clear hrd hin
 go_enter func225,ntmps225
 go_wp2
 go_loopw [3,8] (fun s i wr=>∃k:Nat,k≤es.length∧i=.int .i64 k∧s=.int .i64 (etL es k)∧(∀j,j<k→etK es j=true)∧Below w.heap.size w wr) (fun _ i _=>es.length-(intOf i).toNat)
 case atStart=>exact⟨0,Jy _,rfl,rfl,fun j hj=>absurd hj (by omega),Below.refl _ _⟩
 case round=>
  obtain⟨k,hk,rfl,rfl,hall,hb⟩:=hrel;have H:=Jj (Jq hall hb);have hz:=hb.size;clear hall hb;by_cases hlt:k<es.length
  ·obtain⟨b,o,rfl,hbb,hcell⟩:=HRD.out (by omega);obtain⟨e0,e1,e2⟩:=hcell k hlt;have y0:=(H.out.2.cell (p:=⟨b,o+k*3,none⟩) hbb).trans e0;have y1:=(H.out.2.cell (p:=⟨b,o+k*3+1,none⟩) hbb).trans e1;have y2:=(H.out.2.cell (p:=⟨b,o+k*3+2,none⟩) hbb).trans e2;obtain⟨i1,i2,i3⟩:=HIN.out k hlt;have HBAD:=Jj (fun h=>yZ (es:=es) hlt h);have HALL:=Jj (fun h=>cS H.out.1 (show(fun j=>etK es j=true) k from h));have HNX:=Jj (show etL es (k+1)=(aC es k).1 by unfold etL;rw[if_neg (by omega)];rfl);obtain⟨P,hP⟩:∃P,(aC es k).1=P:=⟨_,rfl⟩;obtain⟨W,hW⟩:∃W,(aC es k).2.1=W:=⟨_,rfl⟩;obtain⟨R,hR⟩:∃R,(aC es k).2.2=R:=⟨_,rfl⟩;obtain⟨L,hL⟩:∃L,etL es k=L:=⟨_,rfl⟩;have HK:=Jj (Cv hL hP hW hR);rw[hP] at y0 i1 HNX;rw[hW] at y1 i2;rw[hR] at y2 i3;rw[hL];clear hP hW hR hL e0 e1 e2 hcell;have K5:=Blk.new wr 111 [.int .i64 P,.int .i64 W,.int .i64 R];have BX:=Jj (aa H.out.2 (ab wr (.cells #[.int .i64 P,.int .i64 W,.int .i64 R] 111)));obtain⟨t0,t1,t2⟩:=K5.three;clear K5;by_cases c1:P≤L
   ·have HZ:=Jj (HBAD.out (by rw[HK.out,decide_eq_false (show ¬L<P by omega)];rfl));go_wp2;go_ret;exact⟨by rw[HZ.out];rfl,BX.out⟩
   ·by_cases c2:60≤P
    ·have HZ:=Jj (HBAD.out (by rw[HK.out,decide_eq_false (show ¬P<60 by omega)];simp));go_wp2;go_ret;exact⟨by rw[HZ.out];rfl,BX.out⟩
    ·cases hw1:inB W (-1000000000) 1000000000
     ·have HZ:=Jj (HBAD.out (by rw[HK.out,hw1];simp))
      go_wp2_with (first
       |(go_at_call 199;refine(aX W 1000000000 _ (by omega) (by omega)).mono ?_;rw[hw1];rintro e w' ⟨rfl,rfl⟩))
      go_ret;exact⟨by rw[HZ.out];rfl,BX.out⟩
     ·cases hw2:inB R (-1000000000) 1000000000
      ·have HZ:=Jj (HBAD.out (by rw[HK.out,hw1,hw2];simp))
       go_wp2_with fail
       refine(aX W 1000000000 _ (by omega) (by omega)).mono ?_;rw[hw1];rintro e w' ⟨rfl,rfl⟩
       go_wp2_with fail
       refine(aX R 1000000000 _ (by omega) (by omega)).mono ?_;rw[hw2];rintro e w' ⟨rfl,rfl⟩;go_wp2;go_ret;exact⟨by rw[HZ.out];rfl,BX.out⟩
      ·by_cases hWR:W=R
       ·have HZ:=Jj (HBAD.out (by rw[HK.out,decide_eq_false (show ¬W≠R from fun h=>h hWR)];simp));have z1:(W==R)=true:=by simp[hWR]
        clear hWR
        go_wp2_with fail
        refine(aX W 1000000000 _ (by omega) (by omega)).mono ?_;rw[hw1];rintro e w' ⟨rfl,rfl⟩
        go_wp2_with fail
        refine(aX R 1000000000 _ (by omega) (by omega)).mono ?_;rw[hw2];rintro e w' ⟨rfl,rfl⟩;go_wp2;go_ret;exact⟨by rw[HZ.out];rfl,BX.out⟩
       ·have HZ:=Jj (HALL.out (by rw[HK.out,hw1,hw2,decide_eq_true (show L<P by omega),decide_eq_true (show P<60 by omega),decide_eq_true (show W≠R from hWR)];rfl));have z1:(W==R)=false:=by simp[hWR]
        clear hWR
        go_wp2_with fail
        refine(aX W 1000000000 _ (by omega) (by omega)).mono ?_;rw[hw1];rintro e w' ⟨rfl,rfl⟩
        go_wp2_with fail
        refine(aX R 1000000000 _ (by omega) (by omega)).mono ?_;rw[hw2];rintro e w' ⟨rfl,rfl⟩;go_wp2;go_roundw
        case rel=>exact⟨k+1,hlt,by go_num,by rw[HNX.out],HZ.out,BX.out⟩
        case measure=>simp[intOf];omega
  ·obtain rfl:k=es.length:=by omega
   have HS:=Jj (show dz es=true from ij.2 H.out.1);go_wp2;go_ret;exact⟨by rw[HS.out];rfl,H.out.2⟩
theorem xi (v u:Value) (r p:List Int) (w:World) (hv:ai w v r) (hu:ai w u p):
  Calls prog 226 #[v,u] w fun e w'=>e=.returned (.bool (bt r p))∧w=w':=by
 have HV:=Jj hv;have HU:=Jj hu;obtain⟨A,c,rfl,-,-,-⟩:=hv.open_;obtain⟨B,d,rfl,-,-,-⟩:=hu.open_;clear hv hu
 go_enter func226,ntmps226
 cases h1:ag r
 ·have HZ:=Jj (show bt r p=false by unfold bt;rw[h1];rfl)
  go_wp2_with fail
  refine(aF _ r _ HV.out).mono ?_;rw[h1];rintro e w' ⟨rfl,rfl⟩;go_wp2;go_ret;exact⟨by rw[HZ.out];rfl,rfl⟩
 ·cases h2:ag p
  ·have HZ:=Jj (show bt r p=false by unfold bt;rw[h1,h2];rfl)
   go_wp2_with fail
   refine(aF _ r _ HV.out).mono ?_;rw[h1];rintro e w' ⟨rfl,rfl⟩
   go_wp2_with fail
   refine(aF _ p _ HU.out).mono ?_;rw[h2];rintro e w' ⟨rfl,rfl⟩;go_wp2;go_ret;exact⟨by rw[HZ.out];rfl,rfl⟩
  ·have HZ:=Jj (show bt r p=decide (r.length=p.length) by unfold bt;rw[h1,h2];rfl)
   go_wp2_with fail
   refine(aF _ r _ HV.out).mono ?_;rw[h1];rintro e w' ⟨rfl,rfl⟩
   go_wp2_with fail
   refine(aF _ p _ HU.out).mono ?_;rw[h2];rintro e w' ⟨rfl,rfl⟩;by_cases hl:r.length=p.length
   ·have hl1:((r.length:Int)==(p.length:Int))=true:=by simp[hl]
    have HL:=Jj hl;clear hl;go_wp2;go_ret;exact⟨by rw[HZ.out,decide_eq_true HL.out];first|rfl|simp[HL.out],rfl⟩
   ·have hl1:((r.length:Int)==(p.length:Int))=false:=by simp;omega
    have HL:=Jj hl;clear hl;go_wp2;go_ret;exact⟨by rw[HZ.out,decide_eq_false HL.out];first|rfl|simp[HL.out],rfl⟩
theorem yW {a b c:Int} (h1 : -9223372036854775808≤a∧a≤9223372036854775807) (h2 : -9223372036854775808≤b∧b≤9223372036854775807) (h3 : -9223372036854775808≤c∧c≤9223372036854775807):kr (a,b,c):=⟨h1,h2,h3⟩
def EtQ (w:World) (es:List Etm) (q:Bool) (e:Ending) (w':World):Prop:=∃r,e=.returned (.tuple #[r,.bool q])∧EtO w' w.heap.size r es∧Below w.heap.size w w'
theorem xN (v u:Value) (r p:List Int) (w:World) (hv:ai w v r) (hu:ai w u p):
  Calls prog 139 #[v,u] w (EtQ w (cl r p) (bt r p)):=by
 have HV:=Jj hv;have HU:=Jj hu;obtain⟨A,c,rfl,hlc,hc,hrd⟩:=hv.open_;obtain⟨B,d,rfl,hld,hd,hrd2⟩:=hu.open_;have HA:=Jj (xi _ _ r p w hv hu);clear hv hu
 go_enter func139,ntmps139
 cases hq:bt r p
 ·have HZ:=Jj (show cl r p=[] by unfold cl;rw[hq];rfl)
  go_wp2_with fail
  refine HA.out.mono ?_;rw[hq];rintro e w1 ⟨rfl,rfl⟩;go_wp2;go_ret2;exact⟨_,rfl,by rw[HZ.out];exact EtO.nil_ _ _,Below.refl _ _⟩
 ·have HZ:=Jj (show cl r p=fk r p r.length by unfold cl;rw[hq];rfl);obtain⟨hlen,hin⟩:r.length=p.length∧(r.length≤60∧(∀k,k<r.length → -1000000000≤at_ r k∧at_ r k≤1000000000)∧∀k,k<r.length → -1000000000≤at_ p k∧at_ p k≤1000000000):=by
   unfold bt at hq;rw[JB,JB] at hq;obtain⟨⟨h1,h2⟩,h3⟩:=hq;have h3:=of_decide_eq_true h3;have t1:=aA h1;have t2:=aA h2;exact⟨h3,t1.2.1,t1.2.2,fun k hk=>t2.2.2 k (by omega)⟩
  have h60:=hin.1;have HIN:=Jj hin;have HLN:=Jj hlen;have HR1:=Jj hrd;have HR2:=Jj hrd2;clear hlen hin hrd hrd2
  go_wp2_with fail
  refine HA.out.mono ?_;rw[hq];rintro e w1 ⟨rfl,rfl⟩;clear hq;go_wp2
  go_loopw [6,14] (fun s i wr=>∃k:Nat,k≤r.length∧i=.int .i64 k∧EtO wr w.heap.size s (fk r p k)∧Below w.heap.size w wr) (fun _ i _=>r.length-(intOf i).toNat)
  case atStart=>exact⟨0,Jy _,rfl,EtO.nil_ _ _,Below.refl _ _⟩
  case round=>
   obtain⟨k,hk,rfl,ho,hb⟩:=hrel;have H:=Jj (Jq ho hb);have hz:=hb.size;obtain⟨A3,c3,rfl⟩:=ho.open_;have hle:=tJ r p k;clear ho hb;by_cases hlt:k<r.length
   ·have hltp:k<p.length:=by have:=HLN.out;omega
    obtain⟨b,o,rfl,hbb,hcell⟩:=HR1.out.ints (by omega);obtain⟨b2,o2,rfl,hbb2,hcell2⟩:=HR2.out.ints (by omega);have q1:=hcell k hlt;have q2:=hcell2 k hltp;have D:=Jj (Jq q1 q2);have c1:=(H.out.2.cell hbb).trans q1;have c2:=(H.out.2.cell hbb2).trans q2;have p1:(k:Int)<(r.length:Int):=by omega
    have p2:(k:Int)<(p.length:Int):=by omega
    have p3:(0:Int)≤(k:Int):=by omega
    have i1:=HIN.out.2.1 k hlt;have i2:=HIN.out.2.2 k hlt;have HS:=Jj (fun h=>rr (r:=r) (p:=p) (n:=k) h);have HD:=Jj (fun h=>rq (r:=r) (p:=p) (n:=k) h);obtain⟨es,hes⟩:∃es,fk r p k=es:=⟨_,rfl⟩;obtain⟨X,hX⟩:∃X,at_ r k=X:=⟨_,rfl⟩;obtain⟨Y,hY⟩:∃Y,at_ p k=Y:=⟨_,rfl⟩;rw[hes] at H hle HS HD;rw[hX] at c1 i1 D HS HD;rw[hY] at c2 i2 D HS HD;rw[hes];clear hes hX hY hcell hcell2 q1 q2;go_wp2
    go_quiet (fail)
    have BQ:=Jj (aV (Below.refl wr.heap.size wr) nq);have H1:=Jj (Jq (H.out.1.bel BQ.out) (aa H.out.2 BQ.out));replace c1:=(H1.out.2.cell hbb).trans D.out.1;replace c2:=(H1.out.2.cell hbb2).trans D.out.2;have hz1:=H1.out.2.size;obtain⟨w1,hw1⟩:∃w1,wr.drewN nq=w1:=⟨_,rfl⟩;rw[hw1] at H1 c1 c2 hz1 ⊢;clear hw1 BQ H;by_cases hxy:X=Y
    ·have HN:=Jj (HS.out hxy);have z1:(X != Y)=false:=by simp[hxy]
     clear hxy;go_wp2;go_roundw
     case rel=>exact⟨k+1,hlt,by go_num,by rw[HN.out];exact H1.out.1,H1.out.2⟩
     case measure=>simp[intOf];omega
    ·have HN:=Jj (HD.out hxy);have z1:(X != Y)=true:=by simp[hxy]
     have HE:=Jj (yW (a:=(k:Int)) (b:=Y) (c:=X) ⟨by omega,by omega⟩ ⟨by omega,by omega⟩ ⟨by omega,by omega⟩);have hl1:es.length+1≤1048576:=by omega
     have hbr1:b<w1.heap.size:=by omega
     have hbr2:b2<w1.heap.size:=by omega
     have tok1:True:=trivial;clear hxy
     go_wp2_with fail
     go_region_held3 (fun w'=>w'.cell? ⟨b,o+k,none⟩=some (.int .i64 X)∧w'.cell? ⟨b2,o2+k,none⟩=some (.int .i64 Y)) (first|exact⟨c1,c2⟩|exact⟨(B5.cell (by exact hbb)).trans D.out.1,(B5.cell (by exact hbb2)).trans D.out.2⟩|exact⟨((ab _ _).cell (by exact hbr1)).trans c1,((ab _ _).cell (by exact hbr2)).trans c2⟩|go_keep) (first
      |(have _t:=tok1;go_loud (refine qC rfl (.tmp 26) (.tmp 37) (by rfl) w.heap.size _ es (by rfl) (by first|exact H1.out.1.bel (ab _ _)|exact H1.out.1.bel ((ab _ _).drew)|exact H1.out.1.bel (((Below.refl _ _).drew).alloc (Jr _) _)) _ _ ((k:Int),Y,X) (by rfl) (by first|exact Blk.newG _ _ [.int .i64 (k:Int),.int .i64 Y,.int .i64 X] _ rfl|exact Blk.newG _ _ [.int .i64 (k:Int),.int .i64 Y,.int .i64 X] _ (by simp)) HE.out hl1 (by first|(simp;omega)|omega) ?_;intro A5 c5 w5 ho hg;have B5:Below w.heap.size w w5:=(by first|exact kc (aa H1.out.2 (ab _ _)) (H1.out.1.bel (ab _ _)) hg|exact kc (aa H1.out.2 ((ab _ _).drew)) (H1.out.1.bel ((ab _ _).drew)) hg|exact kc (aa H1.out.2 (((Below.refl _ _).drew).alloc (Jr _) _)) (H1.out.1.bel (((Below.refl _ _).drew).alloc (Jr _) _)) hg);clear tok1))
      |fail)
     go_wp2;go_roundw
     case rel=>exact⟨k+1,hlt,by go_num,by rw[HN.out];exact ho,B5⟩
     case measure=>simp[intOf];omega
   ·obtain rfl:k=r.length:=by omega
    go_wp2;go_ret2;exact⟨_,rfl,by rw[HZ.out];exact H.out.1,H.out.2⟩
theorem xL (v u:Value) (l:List Int) (es:List Etm) (w:World) (hv:ai w v l) (hu:EtR w u es):
  Calls prog 138 #[v,u] w (cK w (apL l es) (eX l es)):=by
 have HV:=Jj hv;have HU:=Jj hu;obtain⟨A,c,rfl,hlc,hc,-⟩:=hv.open_;obtain⟨B,d,rfl,hld,hd,hrd,hin⟩:=hu;have HRD:=Jj hrd;have HIN:=Jj hin;clear hv hrd hin
 go_enter func138,ntmps138
 cases ht:ag l
 ·have HZ:=Jj (BH (l:=l) (es:=es) ht)
  go_wp2_with fail
  refine(aF _ l _ HV.out).mono ?_;rw[ht];rintro e w1 ⟨rfl,rfl⟩;go_wp2;go_ret2;exact⟨_,by rw[HZ.out.1];rfl,by rw[HZ.out.2];exact Own.nil_ _ _,Below.refl _ _⟩
 ·cases he:dz es
  ·have HZ:=Jj (BG (l:=l) (es:=es) he)
   go_wp2_with fail
   refine(aF _ l _ HV.out).mono ?_;rw[ht];rintro e w1 ⟨rfl,rfl⟩
   go_wp2_with fail
   refine(lA _ es _ HU.out).mono ?_;rw[he];rintro e w2 ⟨rfl,b2⟩;have HB:=Jj b2;clear b2;go_wp2;go_ret2;exact⟨_,by rw[HZ.out.1];rfl,by rw[HZ.out.2];exact Own.nil_ _ _,HB.out⟩
  ·have HT:=Jj (Jq ht he);obtain⟨t1,t60,-⟩:=aA ht;have HSM:=Jj (show ∀k,k<es.length→0≤(aC es k).1∧(-1000000000≤(aC es k).2.2∧(aC es k).2.2≤1000000000) from fun k hk=>by
    have:=vE he (aC es k) (by rw[iC hk];exact List.getElem_mem hk);exact⟨this.1.1,this.2.2⟩)
   go_wp2_with fail
   refine(aF _ l _ HV.out).mono ?_;rw[ht];rintro e w1 ⟨rfl,rfl⟩
   go_wp2_with fail
   refine(lA _ es _ HU.out).mono ?_;rw[he];rintro e w2 ⟨rfl,b2⟩;have HB:=Jj b2;clear b2 ht he
   go_wp2_with fail
   refine(mp _ l _ (HV.out.bel HB.out) (by omega)).mono ?_;rintro e w3 ⟨r,rfl,o3,b3⟩;obtain⟨g,cap,rfl,hg1,-,-,-,-⟩:=o3.openN (by omega);have HO:=Jj (o3.lower HB.out.size);have HB3:=Jj (aa HB.out b3);have hg3:w.heap.size≤g:=Js HB.out.size hg1;obtain⟨N,hN⟩:∃N,l.length=N:=⟨_,rfl⟩;have HNN:=Jj hN;rw[hN] at HO t1 t60;clear o3 b3 hg1;go_wp2
   try rw[hN]
   clear hN
   go_loopw [21] (fun i wr=>∃(k:Nat) (cur:List Int),k≤es.length∧i=.int .i64 k∧cur.length=N∧Own wr w.heap.size (.slice (some ⟨g,0,none⟩) N cap) cur∧fh cur (es.drop k)=fh l es∧Below w.heap.size w wr) (fun i _=>es.length-(intOf i).toNat)
   case atStart=>exact⟨0,l,Jy _,rfl,HNN.out,HO.out,rfl,HB3.out⟩
   case round=>
    obtain⟨k,cur,hk,rfl,hcl,ho,ha,hb⟩:=hrel;have H:=Jj (Jq hcl (Jq ho (Jq ha hb)));have hz:=hb.size;clear hcl ho ha hb;by_cases hlt:k<es.length
    ·obtain⟨b,o,rfl,hbb,hcell⟩:=HRD.out (by omega);obtain⟨e0,e1,e2⟩:=hcell k hlt;have y0:=(H.out.2.2.2.cell (p:=⟨b,o+k*3,none⟩) hbb).trans e0;have y1:=(H.out.2.2.2.cell (p:=⟨b,o+k*3+1,none⟩) hbb).trans e1;have y2:=(H.out.2.2.2.cell (p:=⟨b,o+k*3+2,none⟩) hbb).trans e2;obtain⟨i1,i2,i3⟩:=HIN.out k hlt;have hp0:=(HSM.out k hlt).1;have hR:=(HSM.out k hlt).2;have HSTEP:=Jj (fun h1 h2=>uY (m:=[]) hlt H.out.2.2.1 h1 h2);have HSTOP:=Jj (fun h1=>uZ hlt H.out.2.2.1 h1);rw[H.out.1] at HSTEP HSTOP;obtain⟨P,hP⟩:∃P,(aC es k).1=P:=⟨_,rfl⟩;obtain⟨W,hW⟩:∃W,(aC es k).2.1=W:=⟨_,rfl⟩;obtain⟨R,hR2⟩:∃R,(aC es k).2.2=R:=⟨_,rfl⟩;rw[hP] at y0 i1 hp0 HSTEP HSTOP;rw[hW] at y1 i2 HSTEP HSTOP;rw[hR2] at y2 i3 hR HSTEP;clear hP hW hR2 e0 e1 e2 hcell;have K5:=Blk.new wr 111 [.int .i64 P,.int .i64 W,.int .i64 R];have BX:=Jj (aa H.out.2.2.2 (ab wr (.cells #[.int .i64 P,.int .i64 W,.int .i64 R] 111)));have HO5:=Jj (H.out.2.1.bel (ab wr (.cells #[.int .i64 P,.int .i64 W,.int .i64 R] 111)));obtain⟨t0,t1,t2⟩:=K5.three;by_cases c1:(N:Int)≤P
     ·have HZ:=Jj (pP (l:=l) (es:=es) (HSTOP.out (fun h=>by omega)))
      go_wp2_with fail
      go_quiet (fail)
      go_wp2;go_ret2;exact⟨_,by rw[HZ.out.1];rfl,by rw[HZ.out.2];exact Own.nil_ _ _,aV BX.out _⟩
     ·obtain⟨q,rfl⟩:∃q:Nat,P=q:=⟨P.toNat,by omega⟩;have hq:q<N:=by omega
      rw[Int.toNat_natCast] at HSTEP HSTOP;obtain⟨g',cap',ev,-,-,-,-,hcells⟩:=HO5.out.openN (by rw[H.out.1];omega);rw[H.out.1] at ev hcells;injection ev with ev1 ev2 ev3;injection ev1 with ev1;injection ev1 with ev1;subst ev1;obtain⟨x1,x2⟩:=hcells q hq;have hglt:g<wr.heap.size:=by have:=(H.out.2.1.lt g rfl).2;exact this
      obtain⟨X,hX⟩:∃X,at_ cur q=X:=⟨_,rfl⟩;rw[hX] at x1 HSTEP HSTOP;have p1:(q:Int)<(N:Int):=by omega
      have p2:(0:Int)≤(q:Int):=by omega
      clear hX hcells ev2 ev3;by_cases hne:X=W
      ·have HZ:=Jj (HSTEP.out p1 hne);have z1:(X != W)=false:=by simp[hne]
       clear hne
       go_wp2_with fail
       go_quiet (fail)
       have BQ:=aV (Below.refl (wr.alloc (.cells #[.int .i64 (q:Int),.int .i64 W,.int .i64 R] 111)).heap.size (wr.alloc (.cells #[.int .i64 (q:Int),.int .i64 W,.int .i64 R] 111))) nq;have O6:=HO5.out.bel BQ;have B6:=Jj (aa BX.out BQ);have K6:=K5.below BQ K5.lt;obtain⟨w6,hw6⟩:∃w6,(wr.alloc (.cells #[.int .i64 (q:Int),.int .i64 W,.int .i64 R] 111)).drewN nq=w6:=⟨_,rfl⟩;rw[hw6] at O6 B6 K6 ⊢;clear hw6 BQ t0 t1 t2 K5 x1 x2 HO5 BX y0 y1 y2;obtain⟨t0,t1,t2⟩:=K6.three;obtain⟨g',cap',ev,-,-,-,-,hcells⟩:=O6.openN (by rw[H.out.1];omega);rw[H.out.1] at ev hcells;injection ev with ev1 ev2 ev3;injection ev1 with ev1;injection ev1 with ev1;subst ev1;obtain⟨x1,x2⟩:=hcells q hq;have HS:=Jj (O6.set_ q R (by rw[H.out.1];exact hq) (by omega));have B7:=Jj (B6.out.setCell (p:=⟨g,q,none⟩) hg3 (.int .i64 R));clear hcells ev2 ev3 K6 O6;go_wp2;go_roundw
       case rel=>exact⟨k+1,cur.set q R,hlt,by go_num,by rw[List.length_set];exact H.out.1,HS.out,HZ.out,B7.out⟩
       case measure=>simp[intOf];omega
      ·have HZ:=Jj (pP (l:=l) (es:=es) (HSTOP.out (fun h=>hne h.2)));have z1:(X != W)=true:=by simp[hne]
       clear hne
       go_wp2_with fail
       go_quiet (fail)
       go_wp2;go_ret2;exact⟨_,by rw[HZ.out.1];rfl,by rw[HZ.out.2];exact Own.nil_ _ _,aV BX.out _⟩
    ·obtain rfl:k=es.length:=by omega
     have HZ:=Jj (BI (l:=l) (es:=es) (m:=cur) HT.out.1 HT.out.2 (by
      have:=H.out.2.2.1;rw[List.drop_length] at this;exact this.symm))
     go_wp2;go_ret2;exact⟨_,by rw[HZ.out.1];rfl,by rw[HZ.out.2];exact H.out.2.1,H.out.2.2.2⟩
theorem nO (x:Etm) (h:kr x):(etS x).size≤65:=by
 unfold etS;have h1:=aJ (n:=x.1) (by have:=h.1;omega) (by have:=h.1;omega);have h2:=aJ (n:=x.2.1) (by have:=h.2.1;omega) (by have:=h.2.1;omega);have h3:=aJ (n:=x.2.2) (by have:=h.2.2;omega) (by have:=h.2.2;omega);have e1:(⟨#[58]⟩:ByteArray).size=1:=rfl;have e2:(⟨#[62]⟩:ByteArray).size=1:=rfl;rw[Jt,Jt,Jt,Jt];omega
theorem GD {es:List Etm} {cs:List Value} {k:Nat} (hl:cs.length=es.length) (hk:k<es.length) (h:∀j,j<k→cs[j]?=some (.string (etS (aC es j)))):
  ∀j,j<k+1→(cs.set k (.string (etS (aC es k))))[j]?=some (.string (etS (aC es j))):=by
 intro j hj;by_cases e:j=k
 ·subst e;rw[List.getElem?_set_self (by omega)]
 ·rw[List.getElem?_set_ne (by omega)];exact h j (by omega)
theorem GC (es:List Etm):eY (fun j=>etS (aC es j)) es.length=es.map etS:=by
 unfold eY
 apply List.ext_getElem
 ·simp
 ·intro i h1 h2;simp at h1;simp[aC,List.getD,h1]
theorem I9 {I J L:ByteArray} (hI:I.size≤21) (hJ:J.size≤21) (hL:L.size≤21):¬ 9223372036854775807<I.size+1∧¬ 9223372036854775807<I.size+1+J.size∧¬ 9223372036854775807<I.size+1+J.size+1∧¬ 9223372036854775807<I.size+1+J.size+1+L.size ∧
  (I++⟨#[58]⟩).size=I.size+1∧(I++⟨#[58]⟩++J).size=I.size+1+J.size∧(I++⟨#[58]⟩++J++⟨#[62]⟩).size=I.size+1+J.size+1:=by
 refine⟨by omega,by omega,by omega,by omega,?_,?_,?_⟩ <;> (simp only[Jt];rfl)
theorem zR (v:Value) (es:List Etm) (w:World) (hv:EtR w v es) (ht:Tab w):
  Calls prog 140 #[v] w fun e w'=>e=.returned (.string (cm es))∧Below w.heap.size w w':=by
 have HV:=Jj hv;have HT:=Jj ht;obtain⟨A,c,rfl,hlc,hc,h5,h6⟩:=hv;have H5:=Jj h5;have H6:=Jj h6;clear h5 h6 ht
 go_enter func140,ntmps140
 go_wp2_with fail
 refine(lA _ es _ HV.out).mono ?_;rintro e w2 ⟨rfl,b2⟩;have HB:=Jj b2;clear b2;cases hq:dz es
 ·have HZ:=Jj (show cm es=⟨#[]⟩ by simp[cm,hq]);go_wp2;go_ret;exact⟨by rw[HZ.out];rfl,HB.out⟩
 ·by_cases hn:es=[]
  ·have HZ:=Jj (show cm es=⟨#[45]⟩ by rw[cm,if_pos hq,if_pos hn]);have z0:es.length=0:=by rw[hn];rfl
   have z1:((es.length:Int)==0)=true:=by rw[z0];rfl
   clear hn hq;go_wp2;go_ret;exact⟨by rw[HZ.out];rfl,HB.out⟩
  ·have HZ:=Jj (show cm es=aW (es.map etS) ⟨#[59]⟩ by rw[cm,if_pos hq,if_neg hn]);have hl:=ni hq;have hpos:0<es.length:=(by cases es with|nil=>exact absurd rfl hn|cons a r=>simp);have z1:((es.length:Int)==0)=false:=by rw[beq_eq_false_iff_ne];omega
   have hmk:=fun W=>Tryz.mkStrs es.length (by omega) W;clear hq hn;have KS:=Blk.new w2 9 (bz es.length (.string ⟨#[]⟩));have BS:=Jj (aa HB.out (ab w2 (.cells (bz es.length (.string ⟨#[]⟩)).toArray 9)))
   go_wp2_with fail
   generalize hW:w2.alloc (.cells (bz es.length (.string ⟨#[]⟩)).toArray 9)=W at *;have hWz:W.heap.size=w2.heap.size+1:=by rw[←hW];simp
   have hz2:=HB.out.size;clear hW
   go_loopw [17] (fun i wr=>∃(k:Nat) (cs:List Value),k≤es.length∧i=.int .i64 k∧Blk wr w2.heap.size 9 cs∧cs.length=es.length∧(∀j,j<k→cs[j]?=some (.string (etS (aC es j))))∧Below w.heap.size w wr∧w2.heap.size+1≤wr.heap.size) (fun i _=>es.length-(intOf i).toNat)
   case atStart=>exact⟨0,_,Jy _,rfl,KS,bi _ _,fun j hj=>absurd hj (by omega),BS.out,by omega⟩
   case round=>
    obtain⟨k,cs,hk,rfl,hbk,hcl,hcs,hb,hz⟩:=hrel;have H:=Jj (Jq hcl (Jq hcs hb));have HBK:=Jj hbk;clear hcl hcs hb KS;by_cases hlt:k<es.length
    ·obtain⟨b,o,rfl,hbb,hcell⟩:=H5.out (by omega);obtain⟨e0,e1,e2⟩:=hcell k hlt;have y0:=(H.out.2.2.cell (p:=⟨b,o+k*3,none⟩) hbb).trans e0;have y1:=(H.out.2.2.cell (p:=⟨b,o+k*3+1,none⟩) hbb).trans e1;have y2:=(H.out.2.2.cell (p:=⟨b,o+k*3+2,none⟩) hbb).trans e2;obtain⟨i1,i2,i3⟩:=H6.out k hlt;have HSET:=Jj (GD H.out.1 hlt H.out.2.1);have HSEG:etS (aC es k)=au (aC es k).1++⟨#[58]⟩++au (aC es k).2.1++⟨#[62]⟩++au (aC es k).2.2:=rfl;rw[HSEG] at HSET;obtain⟨P,hP⟩:∃P,(aC es k).1=P:=⟨_,rfl⟩;obtain⟨Y,hY⟩:∃Y,(aC es k).2.1=Y:=⟨_,rfl⟩;obtain⟨R,hR2⟩:∃R,(aC es k).2.2=R:=⟨_,rfl⟩;rw[hP] at y0 i1 HSET;rw[hY] at y1 i2 HSET;rw[hR2] at y2 i3 HSET;have s1:=aJ (n:=P) i1.1 i1.2;have s2:=aJ (n:=Y) i2.1 i2.2;have s3:=aJ (n:=R) i3.1 i3.2;clear hP hY hR2 e0 e1 e2 hcell HSEG;have HI1:=Jj (fun w (h2:Tab w)=>fG P w i1 h2);have HI2:=Jj (fun w (h2:Tab w)=>fG Y w i2 h2);have HI3:=Jj (fun w (h2:Tab w)=>fG R w i3 h2);obtain⟨I,hI⟩:∃I,au P=I:=⟨_,rfl⟩;obtain⟨J,hJ⟩:∃J,au Y=J:=⟨_,rfl⟩;obtain⟨L,hL⟩:∃L,au R=L:=⟨_,rfl⟩;rw[hI] at s1 HI1;rw[hJ] at s2 HI2;rw[hL] at s3 HI3;rw[hI,hJ,hL] at HSET;clear hI hJ hL;obtain⟨g1,g2,g3,g4,r1,r2,r3⟩:=I9 s1 s2 s3;have K5:=Blk.new wr 111 [.int .i64 P,.int .i64 Y,.int .i64 R];have BX:=Jj (ab wr (.cells #[.int .i64 P,.int .i64 Y,.int .i64 R] 111));obtain⟨t0,t1,t2⟩:=K5.three;have HK5:=Jj K5;have HBX:=Jj (hbk.alloc (.cells #[.int .i64 P,.int .i64 Y,.int .i64 R] 111));have HB0:=Jj (aa H.out.2.2 BX.out);have hkc:k<cs.length:=by rw[H.out.1];exact hlt
     have hz5:w2.heap.size+1≤(wr.alloc (.cells #[.int .i64 P,.int .i64 Y,.int .i64 R] 111)).heap.size:=by simp;omega
     have hk5:=K5.lt;have hneb:wr.heap.size≠w2.heap.size:=by omega
     have tok1:True:=trivial;have tok2:True:=trivial;have tok3:True:=trivial;clear hbk K5
     go_wp2_with fail
     generalize hW5:wr.alloc (.cells #[.int .i64 P,.int .i64 Y,.int .i64 R] 111)=W5 at *;clear hW5
     go_region_held3 (fun w'=>w'.cell? ⟨wr.heap.size,0,none⟩=some (.int .i64 P)∧w'.cell? ⟨wr.heap.size,1,none⟩=some (.int .i64 Y)∧w'.cell? ⟨wr.heap.size,2,none⟩=some (.int .i64 R)) (first|exact⟨t0,t1,t2⟩|exact HK6.out.three|exact HK7.out.three|exact HK8.out.three|exact(HK8.out.far (p:=⟨w2.heap.size,k,none⟩) hneb _).three|go_keep) (first
      |((try go_simp);go_at_call 113;have _t:=tok1;go_loud (refine(HI1.out _ (by first|exact HT.out.bel HB0.out|exact(HT.out.bel HB0.out).bel ((Below.refl _ _).drew))).mono ?_;rintro e w6 ⟨rfl,b⟩;replace b:Below W5.heap.size W5 w6:=(by first|exact b|exact aa ((Below.refl _ _).drew) b);have HK6:=Jj (HK5.out.below b hk5);have HB6:=Jj (aa HB0.out b);have HS6:=Jj (HBX.out.below b HBX.out.lt);clear tok1 b;(try dsimp only)))
      |((try go_simp);go_at_call 113;have _t:=tok2;go_loud (refine(HI2.out _ (HT.out.bel HB6.out)).mono ?_;rintro e w7 ⟨rfl,b⟩;have HK7:=Jj (HK6.out.below b HK6.out.lt);have HB7:=Jj (aa HB6.out b);have HS7:=Jj (HS6.out.below b HS6.out.lt);clear tok2 b;(try dsimp only)))
      |((try go_simp);go_at_call 113;have _t:=tok3;go_loud (refine(HI3.out _ (HT.out.bel HB7.out)).mono ?_;rintro e w8 ⟨rfl,b⟩;have HK8:=Jj (HK7.out.below b HK7.out.lt);have HB8:=Jj (aa HB7.out b);have HS8:=Jj (HS7.out.below b HS7.out.lt);have f8:=HS8.out.frozen k;have x8:w8.cell? ⟨w2.heap.size,k,none⟩=some (cs[k]'hkc):=(by rw[HS8.out.cell];exact List.getElem?_eq_getElem _);clear tok3 b;(try dsimp only)))
      |fail)
     all_goals
      have HS9:=Jj (HS8.out.set_ k (.string (I++⟨#[58]⟩++J++⟨#[62]⟩++L)));have HB9:=Jj (HB8.out.setCell (p:=⟨w2.heap.size,k,none⟩) hz2 (.string (I++⟨#[58]⟩++J++⟨#[62]⟩++L)));have hz9:w2.heap.size+1≤(w8.setCell ⟨w2.heap.size,k,none⟩ (.string (I++⟨#[58]⟩++J++⟨#[62]⟩++L))).heap.size:=by
       simp only[World.setCell,Array.size_modify];have:=HS8.out.lt;omega
      obtain⟨W9,hW9⟩:∃W9,w8.setCell ⟨w2.heap.size,k,none⟩ (.string (I++⟨#[58]⟩++J++⟨#[62]⟩++L))=W9:=⟨_,rfl⟩;rw[hW9] at HS9 HB9 hz9 ⊢;clear hW9 t0 t1 t2 f8 x8;have HLC:=Jj (show(cs.set k (.string (I++⟨#[58]⟩++J++⟨#[62]⟩++L))).length=es.length by rw[List.length_set];exact H.out.1)
      try (have HBA:=Jj (aa HB9.out (Below.drew (Below.refl W9.heap.size W9)));have HSA:=Jj (HS9.out.below (Below.drew (Below.refl W9.heap.size W9)) HS9.out.lt))
      go_wp2;go_roundw
      case rel=>first
       |exact⟨k+1,_,hlt,by go_num,HSA.out,HLC.out,HSET.out,HBA.out,hz9⟩
       |exact⟨k+1,_,hlt,by go_num,HS9.out,HLC.out,HSET.out,HB9.out,hz9⟩
      case measure=>simp[intOf];omega
    ·obtain rfl:k=es.length:=by omega
     have HO:=Jj (show aj wr w2.heap.size (.slice (some ⟨w2.heap.size,0,none⟩) es.length es.length) (es.map etS) by
      rw[←GC];exact qS (Jr _) HBK.out H.out.1 (by omega) H.out.2.1 (fun j hj=>by
       have:=nO (aC es j) (H6.out j hj);omega))
     have HSZ:=Jj (show ∀x∈es.map etS,x.size≤65 by
      intro x hx;obtain⟨y,hy,rfl⟩:=List.mem_map.1 hx;obtain⟨j,hj,rfl⟩:=List.getElem_of_mem hy;rw[←iC hj];exact nO _ (H6.out j hj))
     have HLE:=Jj (show(es.map etS).length≤1048576 by rw[List.length_map];omega);clear hbk
     go_wp2_with fail
     refine(kS _ (es.map etS) ⟨#[59]⟩ _ HO.out.strs HLE.out 65 HSZ.out (by omega) (by decide)).mono ?_;rintro e w5 ⟨rfl,b5⟩;have HB5:=Jj (aa H.out.2.2 b5);clear b5;go_wp2;go_ret;exact⟨by rw[HZ.out];rfl,HB5.out⟩
theorem yn (s:ByteArray) (w:World) (hs:s.size≤1048576) (hg:Glb w):
  Calls prog 224 #[.string s] w fun e w'=>∃a b c:Int,e=.returned (.tuple #[.agg #[.int .i64 a,.int .i64 b,.int .i64 c],.bool (etT s)])∧(etT s=true→(a,b,c)=etV s)∧kr (a,b,c)∧Below w.heap.size w w':=by
 have HG:=Jj hg;have h1:=nD 58 s;have h2:=nD 62 (aft 58 s);have K0:=Blk.new w 111 [.int .i64 0,.int .i64 0,.int .i64 0];have B0:=Jj (ab w (.cells #[.int .i64 0,.int .i64 0,.int .i64 0] 111));have HV:=Jj (show etV s=(cA (bef 58 s),cA (bef 62 (aft 58 s)),cA (aft 62 (aft 58 s))) from rfl);have HT:=Jj (show etT s=(((bn (bef 58 s)).isSome&&(bn (bef 62 (aft 58 s))).isSome)&&(bn (aft 62 (aft 58 s))).isSome) from rfl);clear hg
 go_enter func224,ntmps224
 go_wp2_with fail
 refine(rm s 58 _ hs (HG.out.bel B0.out)).mono ?_;rintro e w1 ⟨rfl,b1⟩;have HB1:=Jj (aa B0.out b1);have K1:=K0.below b1 K0.lt;clear b1 K0
 go_wp2_with fail
 refine(rm (aft 58 s) 62 _ (by omega) (HG.out.bel HB1.out)).mono ?_;rintro e w2 ⟨rfl,b2⟩;have HB2:=Jj (aa HB1.out b2);have K2:=K1.below b2 K1.lt;clear b2 K1;obtain⟨X,hX⟩:∃X,bef 58 s=X:=⟨_,rfl⟩;obtain⟨Y,hY⟩:∃Y,bef 62 (aft 58 s)=Y:=⟨_,rfl⟩;obtain⟨Z,hZ⟩:∃Z,aft 62 (aft 58 s)=Z:=⟨_,rfl⟩;obtain⟨b1,hb1⟩:∃x,bL 58 s=x:=⟨_,rfl⟩;obtain⟨b2,hb2⟩:∃x,bL 62 (aft 58 s)=x:=⟨_,rfl⟩;rw[hX] at h1;rw[hY,hZ] at h2;rw[hX,hY,hZ] at HV HT;rw[hX,hY,hZ,hb1,hb2];clear hX hY hZ hb1 hb2;have HK:=Jj K2;clear K2
 go_wp2_with fail
 refine(jR X _ (by omega) (HG.out.bel HB2.out)).mono ?_;rintro e w3 ⟨rfl,b3⟩;have HB3:=Jj (aa HB2.out b3);have K3:=Jj (HK.out.below b3 HK.out.lt);clear b3 HK
 go_wp2_with fail
 refine(jR Y _ (by omega) (HG.out.bel HB3.out)).mono ?_;rintro e w4 ⟨rfl,b4⟩;have HB4:=Jj (aa HB3.out b4);have K4:=Jj (K3.out.below b4 K3.out.lt);clear b4 K3
 go_wp2_with fail
 refine(jR Z _ (by omega) (HG.out.bel HB4.out)).mono ?_;rintro e w5 ⟨rfl,b5⟩;have HB5:=Jj (aa HB4.out b5);have K5:=Jj (K4.out.below b5 K4.out.lt);clear b5 K4;have v1:=fM X;have v2:=fM Y;have v3:=fM Z;obtain⟨n1,hn1⟩:∃x,cA X=x:=⟨_,rfl⟩;obtain⟨n2,hn2⟩:∃x,cA Y=x:=⟨_,rfl⟩;obtain⟨n3,hn3⟩:∃x,cA Z=x:=⟨_,rfl⟩;obtain⟨o1,ho1⟩:∃x,(bn X).isSome=x:=⟨_,rfl⟩;obtain⟨o2,ho2⟩:∃x,(bn Y).isSome=x:=⟨_,rfl⟩;obtain⟨o3,ho3⟩:∃x,(bn Z).isSome=x:=⟨_,rfl⟩;rw[hn1] at v1;rw[hn2] at v2;rw[hn3] at v3;rw[hn1,hn2,hn3] at HV;rw[ho1,ho2,ho3] at HT;rw[hn1,hn2,hn3,ho1,ho2,ho3];clear hn1 hn2 hn3 ho1 ho2 ho3;have f0:=K5.out.frozen 0;have f1:=K5.out.frozen 1;have f2:=K5.out.frozen 2;obtain⟨c0,c1,c2⟩:=K5.out.three;have fin:∀(a b c:Int),Blk (((w5.setCell ⟨w.heap.size,0,none⟩ (.int .i64 a)).setCell ⟨w.heap.size,1,none⟩ (.int .i64 b)).setCell ⟨w.heap.size,2,none⟩ (.int .i64 c)) w.heap.size 111 [.int .i64 a,.int .i64 b,.int .i64 c]∧Below w.heap.size w (((w5.setCell ⟨w.heap.size,0,none⟩ (.int .i64 a)).setCell ⟨w.heap.size,1,none⟩ (.int .i64 b)).setCell ⟨w.heap.size,2,none⟩ (.int .i64 c)):=fun a b c=>
  ⟨((K5.out.set_ 0 (.int .i64 a)).set_ 1 (.int .i64 b)).set_ 2 (.int .i64 c),((HB5.out.setCell (p:=⟨w.heap.size,0,none⟩) (Jr _) _).setCell (p:=⟨w.heap.size,1,none⟩) (Jr _) _).setCell (p:=⟨w.heap.size,2,none⟩) (Jr _) _⟩
 have HFN:=Jj fin;clear fin;by_cases hok:(o1=true∧o2=true)∧o3=true
 ·obtain⟨⟨rfl,rfl⟩,rfl⟩:=hok;go_wp2;obtain⟨kk,bb⟩:=HFN.out n1 n2 n3;have HTT:=Jj (show etT s=true by rw[HT.out];rfl);have HKK:=Jj kk;generalize hW:((w5.setCell ⟨w.heap.size,0,none⟩ (.int .i64 n1)).setCell ⟨w.heap.size,1,none⟩ (.int .i64 n2)).setCell ⟨w.heap.size,2,none⟩ (.int .i64 n3)=w6 at *;obtain⟨x0,x1,x2⟩:=kk.three;refine bodyPost_ret (v:=.tuple #[.agg #[.int .i64 n1,.int .i64 n2,.int .i64 n3],.bool true]) (by simp[results,results224,go_sem,x0,x1,x2]) rfl ⟨n1,n2,n3,by rw[HTT.out],fun _=>HV.out.symm,⟨by show _≤n1∧n1≤_;omega,by show _≤n2∧n2≤_;omega,by show _≤n3∧n3≤_;omega⟩,bb⟩
 ·have HTF:=Jj (show etT s=false by
   rw[HT.out,Bool.eq_false_iff];intro h;rw[JB,JB] at h;exact hok h)
  have HN:=Jj hok;clear hok;cases o1
  case' true=>cases o2
  case' true.true=>cases o3
  case true.true.true=>exact absurd ⟨⟨rfl,rfl⟩,rfl⟩ HN.out
  all_goals
   go_wp2;obtain⟨kk,bb⟩:=HFN.out 0 0 0;generalize hW:((w5.setCell ⟨w.heap.size,0,none⟩ (.int .i64 0)).setCell ⟨w.heap.size,1,none⟩ (.int .i64 0)).setCell ⟨w.heap.size,2,none⟩ (.int .i64 0)=w6 at *;obtain⟨x0,x1,x2⟩:=kk.three;refine bodyPost_ret (v:=.tuple #[.agg #[.int .i64 0,.int .i64 0,.int .i64 0],.bool false]) (by simp[results,results224,go_sem,x0,x1,x2]) rfl ⟨0,0,0,by rw[HTF.out],fun h=>absurd h (by rw[HTF.out];simp),⟨by decide,by decide,by decide⟩,bb⟩
theorem DV {c:UInt8}:∀ {l:List UInt8} {k:Nat},c∉l.take k→l[k]?=some c→(l.takeWhile fun b=>b != c).length=k
 |[],k,_,h=>by simp at h
 |b::l,0,_,h=>by
  have:b=c:=by simpa using h
  subst this;simp
 |b::l,k+1,h1,h2=>by
  rw[List.take_succ_cons,Jz,not_or] at h1;have e:(b != c)=true:=by simp;exact fun e=>h1.1 e.symm
  rw[List.takeWhile_cons,e];simp only[if_true,List.length_cons];rw[DV h1.2 (by simpa using h2)]
def jF (c:UInt8) (s:ByteArray):Int:=if bL c s=true then((bef c s).size:Int) else -1
theorem nj {c:UInt8} {s:ByteArray} (h:bL c s=true):jF c s=(bef c s).size:=by simp[jF,h]
theorem rx {c:UInt8} {s:ByteArray} (h:bL c s=false):jF c s = -1:=by simp[jF,h]
theorem Ih {c:UInt8} {s:ByteArray} {k:Nat} (h1:c∉s.data.toList.take k) (h2:s.data.toList[k]?=some c):jF c s=(k:Int):=by
 have hm:c∈s.data.toList:=List.mem_of_getElem? h2;rw[nj (gd.2 hm)];have:=DV h1 h2;have e:(bef c s).size=(s.data.toList.takeWhile fun b=>b != c).length:=by
  have:=congrArg List.length (fB (s.data.toList.takeWhile fun b=>b != c));have e2:(bef c s).data.toList.length=(bef c s).size:=Array.length_toList;rw[←this,←e2]
  rfl
 omega
theorem GH {c:UInt8} {s:ByteArray} (h:c∉s.data.toList.take s.size):jF c s = -1:=by
 have e:s.data.toList.take s.size=s.data.toList:=List.take_of_length_le (Nat.le_of_eq Array.length_toList);rw[e] at h;exact rx (by rw[Bool.eq_false_iff];exact fun e=>h (gd.1 e))
theorem DP {c b:UInt8} {l:List UInt8} {k:Nat} (h1:c∉l.take k) (h2:l[k]?=some b) (hb:b≠c):c∉l.take (k+1):=by
 rw[List.take_add_one,h2];intro h
 rcases List.mem_append.1 h with h|h
 ·exact h1 h
 ·simp at h;exact hb h.symm
theorem sF {c:UInt8} {s:ByteArray} (h:bL c s=true):s.extract 0 (bef c s).size=bef c s∧s.extract ((bef c s).size+1) s.size=aft c s∧(bef c s).size+1+(aft c s).size=s.size:=by
 have e:=gC h;have hz:=congrArg ByteArray.size e;rw[Jt,Jt] at hz;have h1:(⟨#[c]⟩:ByteArray).size=1:=rfl;have hl:s.data.toList=(bef c s).data.toList++c::(aft c s).data.toList:=by
  conv=>lhs;rw[←e]
  simp
 have hb:(bef c s).data.toList.length=(bef c s).size:=Array.length_toList;refine⟨?_,?_,by omega⟩
 ·rw[gH];unfold mid;rw[hl,List.drop_zero,Nat.sub_zero,List.take_append_of_le_length (by omega),List.take_of_length_le (by omega)];exact f9 _
 ·rw[gH];unfold mid;rw[hl,show(bef c s).size+1=(bef c s).data.toList.length+1 by omega,List.drop_append];have:((bef c s).data.toList).drop ((bef c s).data.toList.length+1)=[]:=List.drop_eq_nil_of_le (by omega);rw[this,show(bef c s).data.toList.length+1-(bef c s).data.toList.length=1 by omega,List.drop_succ_cons,List.drop_zero,List.nil_append,List.take_of_length_le ?_]
  ·exact f9 _
  ·have:(aft c s).data.toList.length=(aft c s).size:=Array.length_toList;omega
theorem nX (s:ByteArray) (c:UInt8) (w:World) (hs:s.size≤1048576):
  Calls prog 9 #[.string s,.int .u8 c.toNat] w fun e w'=>e=.returned (.int .i64 (jF c s))∧w=w':=by
 go_enter func9,ntmps9
 go_wp2
 go_loopw [5] (fun i wr=>∃k:Nat,k≤s.size∧i=.int .i64 k∧c∉s.data.toList.take k∧wr=w) (fun i _=>s.size-(intOf i).toNat)
 case atStart=>exact⟨0,Jy _,rfl,by simp,rfl⟩
 case round=>
  obtain⟨k,hk,rfl,hno,rfl⟩:=hrel;by_cases hlt:k<s.size
  ·have hby:=gE s k hlt;cases hq:((s[k].toNat:Int)==(c.toNat:Int))
   ·have HQ:=Jj (show s[k]≠c from fun e=>by rw[e] at hq;simp at hq);have HN:=Jj (DP hno hby HQ.out);clear hno hby;go_wp2;go_roundw
    case rel=>exact⟨k+1,hlt,by go_num,HN.out,by first|rfl|trivial⟩
    case measure=>simp[intOf];omega
   ·have HQ:=Jj (show s[k]=c from by have e:(s[k].toNat:Int)=(c.toNat:Int):=(by simpa using hq);exact UInt8.toNat_inj.1 (by omega))
    have HN:=Jj (Ih hno (by rw[hby,HQ.out]));clear hno hby;go_wp2;go_ret;exact⟨by rw[HN.out];rfl,rfl⟩
  ·obtain rfl:k=s.size:=by omega
   have HN:=Jj (GH hno);clear hno;go_wp2;go_ret;exact⟨by rw[HN.out];rfl,rfl⟩
end Go.Proofs.YtfmjklgfpiffbaaGreatDoor
