/-
  Parts of the proof of one statement, merged: Cut ErT ErC ErD ErF EsW.
-/
import Derived.Test.YtfmjklgfpiffbaaGreatDoorQ27
namespace Go.Proofs.YtfmjklgfpiffbaaGreatDoor
open Go.RowKit Go.Proofs.Tryz
set_option linter.unusedVariables false
set_option linter.unusedSimpArgs false
set_option maxRecDepth 100000
set_option maxHeartbeats 8000000
theorem tr (c:UInt8):∀(a r:List UInt8),c∉a→Lib.index (a++c::r) [c]=(a.length:Int)
 |[],r,_=>by simp[Lib.index,List.isPrefixOf]
 |x::a,r,h=>by
  have hx:(c==x)=false:=by rw[beq_eq_false_iff_ne];intro e;subst e;exact h (by simp)
  have ih:=tr c a r (fun e=>h (List.mem_cons_of_mem _ e))
  have:((a.length:Int) == -1)=false:=by rw[beq_eq_false_iff_ne];omega
  simp[Lib.index,List.isPrefixOf,hx,ih,this]
theorem tC (c:UInt8):∀(a:List UInt8),c∉a→Lib.index a [c] = -1
 |[],_=>rfl
 |x::a,h=>by
  have hx:(c==x)=false:=by rw[beq_eq_false_iff_ne];intro e;subst e;exact h (by simp)
  have ih:=tC c a (fun e=>h (List.mem_cons_of_mem _ e))
  simp[Lib.index,List.isPrefixOf,hx,ih]
theorem Gt {c:UInt8} {a:List UInt8} (r:List UInt8) (h:c∉a):Lib.cut (a++c::r) [c]=(a,r,true):=by
 unfold Lib.cut
 rw[tr c a r h,if_pos (by omega)]
 simp
theorem F3 {c:UInt8} {a:List UInt8} (h:c∉a):Lib.cut a [c]=(a,[],false):=by
 unfold Lib.cut
 rw[tC c a h]
 rfl
theorem lx (s:ByteArray):(⟨s.data.toList.toArray⟩:ByteArray)=s:=by
 apply ByteArray.ext
 apply Array.toList_inj.1
 simp
theorem lq (a r:ByteArray) (c:UInt8) (w:World) (hs:a.size+r.size≤1048576) (ha:c∉a.data.toList) (hg:Glb w):
  Calls prog 53 #[.string (a++⟨#[c]⟩++r),.string ⟨#[c]⟩] w fun e w'=>e=.returned (.tuple #[.string a,.string r,.bool true])∧Below w.heap.size w w':=by
 obtain⟨m,hm⟩:=hg.2.1
 refine(Tryz.strings_Cut _ ⟨#[c]⟩ m w (by rw[Ii,Ii];have:(⟨#[c]⟩:ByteArray).size=1:=rfl;omega) hm).mono ?_
 have h:=Gt r.data.toList ha
 have e:(a++⟨#[c]⟩++r).data.toList=a.data.toList++c::r.data.toList:=by simp
 rw[e,show(⟨#[c]⟩:ByteArray).data.toList=[c] from rfl,h]
 rintro e w' ⟨rfl,n,rfl⟩
 exact⟨by rw[lx,lx],be (Below.refl _ _) n⟩
theorem tn (a:ByteArray) (c:UInt8) (w:World) (hs:a.size≤1048576) (ha:c∉a.data.toList) (hg:Glb w):
  Calls prog 53 #[.string a,.string ⟨#[c]⟩] w fun e w'=>e=.returned (.tuple #[.string a,.string ⟨#[]⟩,.bool false])∧Below w.heap.size w w':=by
 obtain⟨m,hm⟩:=hg.2.1
 refine(Tryz.strings_Cut a ⟨#[c]⟩ m w (by omega) hm).mono ?_
 rw[show(⟨#[c]⟩:ByteArray).data.toList=[c] from rfl,F3 ha]
 rintro e w' ⟨rfl,n,rfl⟩
 exact⟨by rw[lx],be (Below.refl _ _) n⟩
def etL (es:List Etm) (k:Nat):Int:=if k=0 then -1 else(aB es (k-1)).1
def etK (es:List Etm) (k:Nat):Bool:=(decide (etL es k<(aB es k).1)&&decide ((aB es k).1<60))&&((inB (aB es k).2.1 (-1000000000) 1000000000&&inB (aB es k).2.2 (-1000000000) 1000000000)&&decide ((aB es k).2.1≠(aB es k).2.2))
def dt (es:List Etm):Bool:=decide (∀k,k<es.length→etK es k=true)
theorem gY {es:List Etm}:dt es=true↔∀k,k<es.length→etK es k=true:=by unfold dt;exact decide_eq_true_iff
theorem yb {es:List Etm} {k:Nat} (hk:k<es.length) (h:etK es k=false):dt es=false:=by
 rw[Bool.eq_false_iff]
 intro h2
 rw[gY.1 h2 k hk] at h
 cases h
theorem nx {es:List Etm} {k:Nat} (h:etK es k=true):etL es k<(aB es k).1∧(aB es k).1<60∧(-1000000000≤(aB es k).2.1∧(aB es k).2.1≤1000000000)∧(-1000000000≤(aB es k).2.2∧(aB es k).2.2≤1000000000)∧(aB es k).2.1≠(aB es k).2.2:=by
 unfold etK at h
 rw[Is,Is,Is,Is] at h
 obtain⟨⟨h1,h2⟩,⟨h3,h4⟩,h5⟩:=h
 exact⟨of_decide_eq_true h1,of_decide_eq_true h2,am.1 h3,am.1 h4,of_decide_eq_true h5⟩
theorem rG {es:List Etm}:∀ {k:Nat},(∀j,j≤k→etK es j=true)→(k:Int)≤(aB es k).1
 |0,h=>by
  have:=(nx (h 0 (Ig _))).1
  unfold etL at this
  rw[if_pos rfl] at this
  omega
 |k+1,h=>by
  have ih:=rG (es:=es) (k:=k) (fun j hj=>h j (by omega))
  have:=(nx (h (k+1) (Ig _))).1
  unfold etL at this
  rw[if_neg (by omega),show k+1-1=k by omega] at this
  omega
theorem m8 {es:List Etm} (h:dt es=true):es.length≤60:=by
 rcases Nat.lt_or_ge 60 es.length with h1|h1
 ·have h2:=rG (es:=es) (k:=60) (fun j hj=>gY.1 h j (by omega))
  have h3:=nx (gY.1 h 60 h1)
  omega
 ·exact h1
def ue (r p:List Int) (i:Nat):Option Etm:=if at_ r i=at_ p i then none else some ((i:Int),at_ p i,at_ r i)
def ft (r p:List Int) (n:Nat):List Etm:=(List.range n).filterMap (ue r p)
theorem rp (r p:List Int) (n:Nat):ft r p (n+1)=ft r p n++(if at_ r n=at_ p n then[] else[((n:Int),at_ p n,at_ r n)]):=by
 unfold ft
 rw[List.range_succ,List.filterMap_append]
 congr 1
 unfold ue
 by_cases h:at_ r n=at_ p n
 ·simp[h]
 ·simp[h]
theorem rx {r p:List Int} {n:Nat} (h:at_ r n=at_ p n):ft r p (n+1)=ft r p n:=by rw[rp,if_pos h,List.append_nil]
theorem qN {r p:List Int} {n:Nat} (h:at_ r n≠at_ p n):ft r p (n+1)=ft r p n++[((n:Int),at_ p n,at_ r n)]:=by rw[rp,if_neg h]
theorem th (r p:List Int) (n:Nat):(ft r p n).length≤n:=by
 unfold ft
 have:=List.length_filterMap_le (ue r p) (List.range n)
 rwa[List.length_range] at this
def bz (r p:List Int):Bool:=(ag r&&ag p)&&decide (r.length=p.length)
def cA (r p:List Int):List Etm:=if bz r p=true then ft r p r.length else[]
def fo (l:List Int):List Etm→Option (List Int)
 |[]=>some l
 |x::r=>if x.1<(l.length:Int)∧at_ l x.1.toNat=x.2.1 then fo (l.set x.1.toNat x.2.2) r else none
def fc (l:List Int) (es:List Etm):Bool:=(ag l&&dt es)&&(fo l es).isSome
def apL (l:List Int) (es:List Etm):List Int:=if fc l es=true then(fo l es).getD [] else[]
theorem C3 {l m:List Int} {es:List Etm} (h1:ag l=true) (h2:dt es=true) (h3:fo l es=some m):fc l es=true∧apL l es=m:=by
 have:fc l es=true:=by unfold fc;rw[h1,h2,h3];rfl
 exact⟨this,by unfold apL;rw[if_pos this,h3];rfl⟩
theorem pz {l:List Int} {es:List Etm} (h3:fo l es=none):fc l es=false∧apL l es=[]:=by
 have:fc l es=false:=by unfold fc;rw[h3];simp
 exact⟨this,by unfold apL;rw[this];rfl⟩
theorem CS {l:List Int} {es:List Etm} (h:ag l=false):fc l es=false∧apL l es=[]:=by
 have:fc l es=false:=by unfold fc;rw[h];rfl
 exact⟨this,by unfold apL;rw[this];rfl⟩
theorem CW {l:List Int} {es:List Etm} (h:dt es=false):fc l es=false∧apL l es=[]:=by
 have:fc l es=false:=by unfold fc;rw[h];simp
 exact⟨this,by unfold apL;rw[this];rfl⟩
theorem xY {es:List Etm} {k:Nat} (h:k<es.length):es.drop k=aB es k::es.drop (k+1):=by rw[List.drop_eq_getElem_cons h,io h]
theorem vO {l m:List Int} {es:List Etm} {k:Nat} {R:Option (List Int)} (hk:k<es.length) (h:fo l (es.drop k)=R) (h1:(aB es k).1<(l.length:Int)) (h2:at_ l (aB es k).1.toNat=(aB es k).2.1):fo (l.set (aB es k).1.toNat (aB es k).2.2) (es.drop (k+1))=R:=by
 rw[xY hk,fo,if_pos ⟨h1,h2⟩] at h
 exact h
theorem vM {l:List Int} {es:List Etm} {k:Nat} {R:Option (List Int)} (hk:k<es.length) (h:fo l (es.drop k)=R) (h1:¬((aB es k).1<(l.length:Int)∧at_ l (aB es k).1.toNat=(aB es k).2.1)):R=none:=by
 rw[xY hk,fo,if_neg h1] at h
 exact h.symm
def etS (x:Etm):ByteArray:=aA x.1++⟨#[58]⟩++aA x.2.1++⟨#[62]⟩++aA x.2.2
def cz (es:List Etm):ByteArray:=if dt es=true then(if es=[] then⟨#[45]⟩ else bd (es.map etS) ⟨#[59]⟩) else⟨#[]⟩
theorem wE {a b:ByteArray} (h:a.data.toList=b.data.toList):a=b:=ByteArray.ext (Array.toList_inj.1 h)
theorem E8 (c:UInt8):∀l:List UInt8,c∉l.takeWhile fun b=>b != c
 |[]=>by simp
 |b::l=>by
  rw[List.takeWhile_cons]
  by_cases h:b=c
  ·simp[h]
  ·have e:(b != c)=true:=by simp[h]
   rw[e]
   intro h2
   rcases List.mem_cons.1 h2 with h3|h3
   ·exact h h3.symm
   ·exact E8 c l h3
theorem uZ {p:UInt8→Bool}:∀ {l:List UInt8},(∀b∈l,p b=true)→l.takeWhile p=l∧l.dropWhile p=[]
 |[],_=>⟨rfl,rfl⟩
 |b::l,h=>by
  obtain⟨h1,h2⟩:=uZ (l:=l) (fun x hx=>h x (List.mem_cons_of_mem _ hx))
  rw[List.takeWhile_cons,List.dropWhile_cons,h b (List.mem_cons_self)]
  simp[h1,h2]
def bef (c:UInt8) (s:ByteArray):ByteArray:=baL (s.data.toList.takeWhile fun b=>b != c)
def aft (c:UInt8) (s:ByteArray):ByteArray:=baL ((s.data.toList.dropWhile fun b=>b != c).drop 1)
def bO (c:UInt8) (s:ByteArray):Bool:=s.data.toList.any fun b=>b==c
theorem ga {c:UInt8} {s:ByteArray}:bO c s=true↔c∈s.data.toList:=by
 unfold bO
 rw[List.any_eq_true]
 constructor
 ·rintro⟨x,hx,h⟩
  have:x=c:=by simpa using h
  exact this▸hx
 ·intro h
  exact⟨c,h,by simp⟩
theorem vB (c:UInt8) (s:ByteArray):c∉(bef c s).data.toList:=by
 intro h
 unfold bef at h
 rw[fG] at h
 exact E8 c _ h
theorem uv (c:UInt8):∀ {l:List UInt8},c∈l→(l.takeWhile fun b=>b != c)++c::(l.dropWhile fun b=>b != c).drop 1=l
 |[],h=>by simp at h
 |b::l,h=>by
  by_cases hb:b=c
  ·subst hb
   simp
  ·have h2:c∈l:=by
    rcases List.mem_cons.1 h with e|e
    ·exact absurd e.symm hb
    ·exact e
   have ih:=uv c h2
   have e:(b != c)=true:=by simp[hb]
   rw[List.takeWhile_cons,List.dropWhile_cons,e]
   simp only[if_true]
   rw[List.cons_append,ih]
theorem gE {c:UInt8} {s:ByteArray} (h:bO c s=true):bef c s++⟨#[c]⟩++aft c s=s:=by
 apply wE
 have h2:=uv c (ga.1 h)
 have e1:(bef c s).data.toList=s.data.toList.takeWhile fun b=>b != c:=fG _
 have e2:(aft c s).data.toList=(s.data.toList.dropWhile fun b=>b != c).drop 1:=fG _
 have:(bef c s++⟨#[c]⟩++aft c s).data.toList=(bef c s).data.toList++c::(aft c s).data.toList:=by simp
 rw[this,e1,e2,h2]
theorem jb {c:UInt8} {s:ByteArray} (h:bO c s=false):bef c s=s∧aft c s=⟨#[]⟩:=by
 have hn:∀b∈s.data.toList,(b != c)=true:=by
  intro b hb
  rw[bne_iff_ne]
  rintro rfl
  rw[ga.2 hb] at h
  cases h
 constructor
 ·unfold bef
  rw[(uZ hn).1,gg]
 ·unfold aft
  have:(s.data.toList.dropWhile fun b=>b != c)=[]:=(uZ hn).2
  rw[this]
  rfl
theorem FU {c:UInt8} {a:ByteArray} (r:ByteArray) (h:c∉a.data.toList):bef c (a++⟨#[c]⟩++r)=a∧aft c (a++⟨#[c]⟩++r)=r∧bO c (a++⟨#[c]⟩++r)=true:=by
 have e:(a++⟨#[c]⟩++r).data.toList=a.data.toList++c::r.data.toList:=by simp
 have hn:∀b∈a.data.toList,(b != c)=true:=by
  intro b hb
  rw[bne_iff_ne]
  rintro rfl
  exact h hb
 refine⟨?_,?_,ga.2 (by rw[e];simp)⟩
 ·unfold bef
  rw[e,List.takeWhile_append_of_pos hn]
  simp[gg]
 ·unfold aft
  rw[e,List.dropWhile_append_of_pos hn]
  simp[gg]
theorem np (c:UInt8) (s:ByteArray):(bef c s).size+(aft c s).size≤s.size:=by
 cases h:bO c s
 ·obtain⟨h1,h2⟩:=jb h
  rw[h1,h2]
  exact Ig _
 ·have h1:=congrArg ByteArray.size (gE h)
  rw[Ii,Ii] at h1
  omega
theorem rF (s:ByteArray) (c:UInt8) (w:World) (hs:s.size≤1048576) (hg:Glb w):
  Calls prog 53 #[.string s,.string ⟨#[c]⟩] w fun e w'=>e=.returned (.tuple #[.string (bef c s),.string (aft c s),.bool (bO c s)])∧Below w.heap.size w w':=by
 cases h:bO c s
 ·obtain⟨h1,h2⟩:=jb h
  rw[h1,h2]
  exact tn s c w hs (fun e=>by rw[ga.2 e] at h;cases h) hg
 ·have h1:=gE h
  have h2:=congrArg ByteArray.size h1
  rw[Ii,Ii] at h2
  have:=lq (bef c s) (aft c s) c w (by omega) (vB c s) hg
  rw[h1] at this
  exact this
def za (s:ByteArray):ByteArray:=bef 58 s
def ER (s:ByteArray):ByteArray:=bef 62 (aft 58 s)
def wx (s:ByteArray):ByteArray:=aft 62 (aft 58 s)
def etT (s:ByteArray):Bool:=((bp (za s)).isSome&&(bp (ER s)).isSome)&&(bp (wx s)).isSome
def etV (s:ByteArray):Etm:=(cE (za s),cE (ER s),cE (wx s))
theorem nD:bp ⟨#[]⟩=none:=by decide
theorem F5 {s:ByteArray} (h:etT s=true):etS (etV s)=s:=by
 unfold etT at h
 rw[Is,Is] at h
 obtain⟨⟨h1,h2⟩,h3⟩:=h
 unfold etS etV
 simp only
 rw[jD h1,jD h2,jD h3]
 unfold za ER wx at *
 have k2:bO 62 (aft 58 s)=true:=by
  cases hq:bO 62 (aft 58 s)
  ·rw[(jb hq).2,nD] at h3;cases h3
  ·rfl
 have k1:bO 58 s=true:=by
  cases hq:bO 58 s
  ·rw[(jb hq).2] at k2;exact absurd k2 (by decide)
  ·rfl
 have e1:=gE k1
 have e2:=gE k2
 have:bef 58 s++⟨#[58]⟩++bef 62 (aft 58 s)++⟨#[62]⟩++aft 62 (aft 58 s)=bef 58 s++⟨#[58]⟩++(bef 62 (aft 58 s)++⟨#[62]⟩++aft 62 (aft 58 s)):=by
  apply wE
  simp
 rw[this,e2,e1]
def fj (l:List ByteArray):Bool:=l.all etT
def iH (t:ByteArray):Bool:=decide (t=⟨#[45]⟩)||(fj (au 59 t)&&dt ((au 59 t).map etV))
def peL (t:ByteArray):List Etm:=if t=⟨#[45]⟩ then[] else if iH t=true then(au 59 t).map etV else[]
theorem Ev {t:ByteArray} (h:fj (au 59 t)=true):bd (((au 59 t).map etV).map etS) ⟨#[59]⟩=t:=by
 rw[List.map_map]
 have:(au 59 t).map (etS∘etV)=au 59 t:=by
  conv=>rhs;rw[←List.map_id (au 59 t)]
  apply List.map_congr_left
  intro x hx
  exact F5 (List.all_eq_true.1 h x hx)
 rw[this]
 exact l5 59 t
theorem wI {es:List Etm} (h:dt es=true):∀x∈es,(0≤x.1∧x.1<60)∧(-1000000000≤x.2.1∧x.2.1≤1000000000)∧(-1000000000≤x.2.2∧x.2.2≤1000000000):=by
 intro x hx
 obtain⟨k,hk,rfl⟩:=List.getElem_of_mem hx
 have h1:=nx (gY.1 h k hk)
 have h2:=rG (es:=es) (k:=k) (fun j hj=>gY.1 h j (by omega))
 rw[io hk] at h1 h2
 exact⟨⟨by omega,h1.2.1⟩,h1.2.2.1,h1.2.2.2.1⟩
end Go.Proofs.YtfmjklgfpiffbaaGreatDoor
namespace Go.Proofs.YtfmjklgfpiffbaaGreatDoor
open Go.RowKit Go.Proofs.Tryz
set_option linter.unusedVariables false
set_option linter.unusedSimpArgs false
set_option maxRecDepth 100000
set_option maxHeartbeats 8000000
attribute [local go_sem ↓] Go.wp_at_zero Go.wp_at_succ
theorem Blk.three {w:World} {g:Nat} {t:TypeId} {a b c:Value} (h:Blk w g t [a,b,c]):w.cell? ⟨g,0,none⟩=some a∧w.cell? ⟨g,1,none⟩=some b∧w.cell? ⟨g,2,none⟩=some c:=
 ⟨by rw[h.cell];rfl,by rw[h.cell];rfl,by rw[h.cell];rfl⟩
theorem Co {es:List Etm} {k:Nat} {L P W R:Int} (hL:etL es k=L) (h1:(aB es k).1=P) (h2:(aB es k).2.1=W) (h3:(aB es k).2.2=R):
  etK es k=((decide (L<P)&&decide (P<60))&&((inB W (-1000000000) 1000000000&&inB R (-1000000000) 1000000000)&&decide (W≠R))):=by
 unfold etK
 rw[hL,h1,h2,h3]
theorem lu (v:Value) (es:List Etm) (w:World) (hv:EtR w v es):
  Calls prog 225 #[v] w fun e w'=>e=.returned (.bool (dt es))∧Below w.heap.size w w':=by
 obtain⟨A,c,rfl,hlc,hc,hrd,hin⟩:=hv
 have HRD:=Hy hrd
 have HIN:=Hy hin
 clear hrd hin
 go_enter func225,ntmps225
 go_wp2
 go_loopw [3,8] (fun s i wr=>∃k:Nat,k≤es.length∧i=.int .i64 k∧s=.int .i64 (etL es k)∧(∀j,j<k→etK es j=true)∧Below w.heap.size w wr) (fun _ i _=>es.length-(intOf i).toNat)
 case atStart=>exact⟨0,Ip _,rfl,rfl,fun j hj=>absurd hj (by omega),Below.refl _ _⟩
 case round=>
  obtain⟨k,hk,rfl,rfl,hall,hb⟩:=hrel
  have H:=Hy (Ie hall hb)
  have hz:=hb.size
  clear hall hb
  by_cases hlt:k<es.length
  ·obtain⟨b,o,rfl,hbb,hcell⟩:=HRD.out (by omega)
   obtain⟨e0,e1,e2⟩:=hcell k hlt
   have y0:=(H.out.2.cell (p:=⟨b,o+k*3,none⟩) hbb).trans e0
   have y1:=(H.out.2.cell (p:=⟨b,o+k*3+1,none⟩) hbb).trans e1
   have y2:=(H.out.2.cell (p:=⟨b,o+k*3+2,none⟩) hbb).trans e2
   obtain⟨i1,i2,i3⟩:=HIN.out k hlt
   have HBAD:=Hy (fun h=>yb (es:=es) hlt h)
   have HALL:=Hy (fun h=>cO H.out.1 (show(fun j=>etK es j=true) k from h))
   have HNX:=Hy (show etL es (k+1)=(aB es k).1 by unfold etL;rw[if_neg (by omega)];rfl)
   obtain⟨P,hP⟩:∃P,(aB es k).1=P:=⟨_,rfl⟩
   obtain⟨W,hW⟩:∃W,(aB es k).2.1=W:=⟨_,rfl⟩
   obtain⟨R,hR⟩:∃R,(aB es k).2.2=R:=⟨_,rfl⟩
   obtain⟨L,hL⟩:∃L,etL es k=L:=⟨_,rfl⟩
   have HK:=Hy (Co hL hP hW hR)
   rw[hP] at y0 i1 HNX
   rw[hW] at y1 i2
   rw[hR] at y2 i3
   rw[hL]
   clear hP hW hR hL e0 e1 e2 hcell
   have K5:=Blk.new wr 111 [.int .i64 P,.int .i64 W,.int .i64 R]
   have BX:=Hy (aa H.out.2 (ab wr (.cells #[.int .i64 P,.int .i64 W,.int .i64 R] 111)))
   obtain⟨t0,t1,t2⟩:=K5.three
   clear K5
   by_cases c1:P≤L
   ·have HZ:=Hy (HBAD.out (by rw[HK.out,decide_eq_false (show ¬L<P by omega)];rfl))
    go_wp2
    go_ret
    exact⟨by rw[HZ.out];rfl,BX.out⟩
   ·by_cases c2:60≤P
    ·have HZ:=Hy (HBAD.out (by rw[HK.out,decide_eq_false (show ¬P<60 by omega)];simp))
     go_wp2
     go_ret
     exact⟨by rw[HZ.out];rfl,BX.out⟩
    ·cases hw1:inB W (-1000000000) 1000000000
     ·have HZ:=Hy (HBAD.out (by rw[HK.out,hw1];simp))
      go_wp2_with (first
       |(go_at_call 199;refine(aZ W 1000000000 _ (by omega) (by omega)).mono ?_;rw[hw1];rintro e w' ⟨rfl,rfl⟩))
      go_ret
      exact⟨by rw[HZ.out];rfl,BX.out⟩
     ·cases hw2:inB R (-1000000000) 1000000000
      ·have HZ:=Hy (HBAD.out (by rw[HK.out,hw1,hw2];simp))
       go_wp2_with fail
       refine(aZ W 1000000000 _ (by omega) (by omega)).mono ?_
       rw[hw1]
       rintro e w' ⟨rfl,rfl⟩
       go_wp2_with fail
       refine(aZ R 1000000000 _ (by omega) (by omega)).mono ?_
       rw[hw2]
       rintro e w' ⟨rfl,rfl⟩
       go_wp2
       go_ret
       exact⟨by rw[HZ.out];rfl,BX.out⟩
      ·by_cases hWR:W=R
       ·have HZ:=Hy (HBAD.out (by rw[HK.out,decide_eq_false (show ¬W≠R from fun h=>h hWR)];simp))
        have z1:(W==R)=true:=by simp[hWR]
        clear hWR
        go_wp2_with fail
        refine(aZ W 1000000000 _ (by omega) (by omega)).mono ?_
        rw[hw1]
        rintro e w' ⟨rfl,rfl⟩
        go_wp2_with fail
        refine(aZ R 1000000000 _ (by omega) (by omega)).mono ?_
        rw[hw2]
        rintro e w' ⟨rfl,rfl⟩
        go_wp2
        go_ret
        exact⟨by rw[HZ.out];rfl,BX.out⟩
       ·have HZ:=Hy (HALL.out (by rw[HK.out,hw1,hw2,decide_eq_true (show L<P by omega),decide_eq_true (show P<60 by omega),decide_eq_true (show W≠R from hWR)];rfl))
        have z1:(W==R)=false:=by simp[hWR]
        clear hWR
        go_wp2_with fail
        refine(aZ W 1000000000 _ (by omega) (by omega)).mono ?_
        rw[hw1]
        rintro e w' ⟨rfl,rfl⟩
        go_wp2_with fail
        refine(aZ R 1000000000 _ (by omega) (by omega)).mono ?_
        rw[hw2]
        rintro e w' ⟨rfl,rfl⟩
        go_wp2
        go_roundw
        case rel=>exact⟨k+1,hlt,by go_num,by rw[HNX.out],HZ.out,BX.out⟩
        case measure=>simp[intOf];omega
  ·obtain rfl:k=es.length:=by omega
   have HS:=Hy (show dt es=true from gY.2 H.out.1)
   go_wp2
   go_ret
   exact⟨by rw[HS.out];rfl,H.out.2⟩
theorem ul (v u:Value) (r p:List Int) (w:World) (hv:ai w v r) (hu:ai w u p):
  Calls prog 226 #[v,u] w fun e w'=>e=.returned (.bool (bz r p))∧w=w':=by
 have HV:=Hy hv
 have HU:=Hy hu
 obtain⟨A,c,rfl,-,-,-⟩:=hv.open_
 obtain⟨B,d,rfl,-,-,-⟩:=hu.open_
 clear hv hu
 go_enter func226,ntmps226
 cases h1:ag r
 ·have HZ:=Hy (show bz r p=false by unfold bz;rw[h1];rfl)
  go_wp2_with fail
  refine(aF _ r _ HV.out).mono ?_
  rw[h1]
  rintro e w' ⟨rfl,rfl⟩
  go_wp2
  go_ret
  exact⟨by rw[HZ.out];rfl,rfl⟩
 ·cases h2:ag p
  ·have HZ:=Hy (show bz r p=false by unfold bz;rw[h1,h2];rfl)
   go_wp2_with fail
   refine(aF _ r _ HV.out).mono ?_
   rw[h1]
   rintro e w' ⟨rfl,rfl⟩
   go_wp2_with fail
   refine(aF _ p _ HU.out).mono ?_
   rw[h2]
   rintro e w' ⟨rfl,rfl⟩
   go_wp2
   go_ret
   exact⟨by rw[HZ.out];rfl,rfl⟩
  ·have HZ:=Hy (show bz r p=decide (r.length=p.length) by unfold bz;rw[h1,h2];rfl)
   go_wp2_with fail
   refine(aF _ r _ HV.out).mono ?_
   rw[h1]
   rintro e w' ⟨rfl,rfl⟩
   go_wp2_with fail
   refine(aF _ p _ HU.out).mono ?_
   rw[h2]
   rintro e w' ⟨rfl,rfl⟩
   by_cases hl:r.length=p.length
   ·have hl1:((r.length:Int)==(p.length:Int))=true:=by simp[hl]
    have HL:=Hy hl
    clear hl
    go_wp2
    go_ret
    exact⟨by rw[HZ.out,decide_eq_true HL.out];first|rfl|simp[HL.out],rfl⟩
   ·have hl1:((r.length:Int)==(p.length:Int))=false:=by simp;omega
    have HL:=Hy hl
    clear hl
    go_wp2
    go_ret
    exact⟨by rw[HZ.out,decide_eq_false HL.out];first|rfl|simp[HL.out],rfl⟩
theorem yg {a b c:Int} (h1 : -9223372036854775808≤a∧a≤9223372036854775807) (h2 : -9223372036854775808≤b∧b≤9223372036854775807) (h3 : -9223372036854775808≤c∧c≤9223372036854775807):kr (a,b,c):=⟨h1,h2,h3⟩
def EtQ (w:World) (es:List Etm) (q:Bool) (e:Ending) (w':World):Prop:=∃r,e=.returned (.tuple #[r,.bool q])∧EtO w' w.heap.size r es∧Below w.heap.size w w'
theorem xM (v u:Value) (r p:List Int) (w:World) (hv:ai w v r) (hu:ai w u p):
  Calls prog 139 #[v,u] w (EtQ w (cA r p) (bz r p)):=by
 have HV:=Hy hv
 have HU:=Hy hu
 obtain⟨A,c,rfl,hlc,hc,hrd⟩:=hv.open_
 obtain⟨B,d,rfl,hld,hd,hrd2⟩:=hu.open_
 have HA:=Hy (ul _ _ r p w hv hu)
 clear hv hu
 go_enter func139,ntmps139
 cases hq:bz r p
 ·have HZ:=Hy (show cA r p=[] by unfold cA;rw[hq];rfl)
  go_wp2_with fail
  refine HA.out.mono ?_
  rw[hq]
  rintro e w1 ⟨rfl,rfl⟩
  go_wp2
  go_ret2
  exact⟨_,rfl,by rw[HZ.out];exact EtO.nil_ _ _,Below.refl _ _⟩
 ·have HZ:=Hy (show cA r p=ft r p r.length by unfold cA;rw[hq];rfl)
  obtain⟨hlen,hin⟩:r.length=p.length∧(r.length≤60∧(∀k,k<r.length → -1000000000≤at_ r k∧at_ r k≤1000000000)∧∀k,k<r.length → -1000000000≤at_ p k∧at_ p k≤1000000000):=by
   unfold bz at hq
   rw[Is,Is] at hq
   obtain⟨⟨h1,h2⟩,h3⟩:=hq
   have h3:=of_decide_eq_true h3
   have t1:=ay h1
   have t2:=ay h2
   exact⟨h3,t1.2.1,t1.2.2,fun k hk=>t2.2.2 k (by omega)⟩
  have h60:=hin.1
  have HIN:=Hy hin
  have HLN:=Hy hlen
  have HR1:=Hy hrd
  have HR2:=Hy hrd2
  clear hlen hin hrd hrd2
  go_wp2_with fail
  refine HA.out.mono ?_
  rw[hq]
  rintro e w1 ⟨rfl,rfl⟩
  clear hq
  go_wp2
  go_loopw [6,14] (fun s i wr=>∃k:Nat,k≤r.length∧i=.int .i64 k∧EtO wr w.heap.size s (ft r p k)∧Below w.heap.size w wr) (fun _ i _=>r.length-(intOf i).toNat)
  case atStart=>exact⟨0,Ip _,rfl,EtO.nil_ _ _,Below.refl _ _⟩
  case round=>
   obtain⟨k,hk,rfl,ho,hb⟩:=hrel
   have H:=Hy (Ie ho hb)
   have hz:=hb.size
   obtain⟨A3,c3,rfl⟩:=ho.open_
   have hle:=th r p k
   clear ho hb
   by_cases hlt:k<r.length
   ·have hltp:k<p.length:=by have:=HLN.out;omega
    obtain⟨b,o,rfl,hbb,hcell⟩:=HR1.out.ints (by omega)
    obtain⟨b2,o2,rfl,hbb2,hcell2⟩:=HR2.out.ints (by omega)
    have q1:=hcell k hlt
    have q2:=hcell2 k hltp
    have D:=Hy (Ie q1 q2)
    have c1:=(H.out.2.cell hbb).trans q1
    have c2:=(H.out.2.cell hbb2).trans q2
    have p1:(k:Int)<(r.length:Int):=by omega
    have p2:(k:Int)<(p.length:Int):=by omega
    have p3:(0:Int)≤(k:Int):=by omega
    have i1:=HIN.out.2.1 k hlt
    have i2:=HIN.out.2.2 k hlt
    have HS:=Hy (fun h=>rx (r:=r) (p:=p) (n:=k) h)
    have HD:=Hy (fun h=>qN (r:=r) (p:=p) (n:=k) h)
    obtain⟨es,hes⟩:∃es,ft r p k=es:=⟨_,rfl⟩
    obtain⟨X,hX⟩:∃X,at_ r k=X:=⟨_,rfl⟩
    obtain⟨Y,hY⟩:∃Y,at_ p k=Y:=⟨_,rfl⟩
    rw[hes] at H hle HS HD
    rw[hX] at c1 i1 D HS HD
    rw[hY] at c2 i2 D HS HD
    rw[hes]
    clear hes hX hY hcell hcell2 q1 q2
    go_wp2
    go_quiet (fail)
    have BQ:=Hy (be (Below.refl wr.heap.size wr) nq)
    have H1:=Hy (Ie (H.out.1.bel BQ.out) (aa H.out.2 BQ.out))
    replace c1:=(H1.out.2.cell hbb).trans D.out.1
    replace c2:=(H1.out.2.cell hbb2).trans D.out.2
    have hz1:=H1.out.2.size
    obtain⟨w1,hw1⟩:∃w1,wr.drewN nq=w1:=⟨_,rfl⟩
    rw[hw1] at H1 c1 c2 hz1 ⊢
    clear hw1 BQ H
    by_cases hxy:X=Y
    ·have HN:=Hy (HS.out hxy)
     have z1:(X != Y)=false:=by simp[hxy]
     clear hxy
     go_wp2
     go_roundw
     case rel=>exact⟨k+1,hlt,by go_num,by rw[HN.out];exact H1.out.1,H1.out.2⟩
     case measure=>simp[intOf];omega
    ·have HN:=Hy (HD.out hxy)
     have z1:(X != Y)=true:=by simp[hxy]
     have HE:=Hy (yg (a:=(k:Int)) (b:=Y) (c:=X) ⟨by omega,by omega⟩ ⟨by omega,by omega⟩ ⟨by omega,by omega⟩)
     have hl1:es.length+1≤1048576:=by omega
     have hbr1:b<w1.heap.size:=by omega
     have hbr2:b2<w1.heap.size:=by omega
     have tok1:True:=trivial
     clear hxy
     go_wp2_with fail
     go_region_held3 (fun w'=>w'.cell? ⟨b,o+k,none⟩=some (.int .i64 X)∧w'.cell? ⟨b2,o2+k,none⟩=some (.int .i64 Y)) (first|exact⟨c1,c2⟩|exact⟨(B5.cell (by exact hbb)).trans D.out.1,(B5.cell (by exact hbb2)).trans D.out.2⟩|exact⟨((ab _ _).cell (by exact hbr1)).trans c1,((ab _ _).cell (by exact hbr2)).trans c2⟩|go_keep) (first
      |(have _t:=tok1;go_loud (refine pE rfl (.tmp 26) (.tmp 37) (by rfl) w.heap.size _ es (by rfl) (by first|exact H1.out.1.bel (ab _ _)|exact H1.out.1.bel ((ab _ _).drew)|exact H1.out.1.bel (((Below.refl _ _).drew).alloc (Ig _) _)) _ _ ((k:Int),Y,X) (by rfl) (by first|exact Blk.newG _ _ [.int .i64 (k:Int),.int .i64 Y,.int .i64 X] _ rfl|exact Blk.newG _ _ [.int .i64 (k:Int),.int .i64 Y,.int .i64 X] _ (by simp)) HE.out hl1 (by first|(simp;omega)|omega) ?_;intro A5 c5 w5 ho hg;have B5:Below w.heap.size w w5:=(by first|exact jZ (aa H1.out.2 (ab _ _)) (H1.out.1.bel (ab _ _)) hg|exact jZ (aa H1.out.2 ((ab _ _).drew)) (H1.out.1.bel ((ab _ _).drew)) hg|exact jZ (aa H1.out.2 (((Below.refl _ _).drew).alloc (Ig _) _)) (H1.out.1.bel (((Below.refl _ _).drew).alloc (Ig _) _)) hg);clear tok1))
      |fail)
     go_wp2
     go_roundw
     case rel=>exact⟨k+1,hlt,by go_num,by rw[HN.out];exact ho,B5⟩
     case measure=>simp[intOf];omega
   ·obtain rfl:k=r.length:=by omega
    go_wp2
    go_ret2
    exact⟨_,rfl,by rw[HZ.out];exact H.out.1,H.out.2⟩
theorem wS (v u:Value) (l:List Int) (es:List Etm) (w:World) (hv:ai w v l) (hu:EtR w u es):
  Calls prog 138 #[v,u] w (cK w (apL l es) (fc l es)):=by
 have HV:=Hy hv
 have HU:=Hy hu
 obtain⟨A,c,rfl,hlc,hc,-⟩:=hv.open_
 obtain⟨B,d,rfl,hld,hd,hrd,hin⟩:=hu
 have HRD:=Hy hrd
 have HIN:=Hy hin
 clear hv hrd hin
 go_enter func138,ntmps138
 cases ht:ag l
 ·have HZ:=Hy (CS (l:=l) (es:=es) ht)
  go_wp2_with fail
  refine(aF _ l _ HV.out).mono ?_
  rw[ht]
  rintro e w1 ⟨rfl,rfl⟩
  go_wp2
  go_ret2
  exact⟨_,by rw[HZ.out.1];rfl,by rw[HZ.out.2];exact Own.nil_ _ _,Below.refl _ _⟩
 ·cases he:dt es
  ·have HZ:=Hy (CW (l:=l) (es:=es) he)
   go_wp2_with fail
   refine(aF _ l _ HV.out).mono ?_
   rw[ht]
   rintro e w1 ⟨rfl,rfl⟩
   go_wp2_with fail
   refine(lu _ es _ HU.out).mono ?_
   rw[he]
   rintro e w2 ⟨rfl,b2⟩
   have HB:=Hy b2
   clear b2
   go_wp2
   go_ret2
   exact⟨_,by rw[HZ.out.1];rfl,by rw[HZ.out.2];exact Own.nil_ _ _,HB.out⟩
  ·have HT:=Hy (Ie ht he)
   obtain⟨t1,t60,-⟩:=ay ht
   have HSM:=Hy (show ∀k,k<es.length→0≤(aB es k).1∧(-1000000000≤(aB es k).2.2∧(aB es k).2.2≤1000000000) from fun k hk=>by
    have:=wI he (aB es k) (by rw[io hk];exact List.getElem_mem hk)
    exact⟨this.1.1,this.2.2⟩)
   go_wp2_with fail
   refine(aF _ l _ HV.out).mono ?_
   rw[ht]
   rintro e w1 ⟨rfl,rfl⟩
   go_wp2_with fail
   refine(lu _ es _ HU.out).mono ?_
   rw[he]
   rintro e w2 ⟨rfl,b2⟩
   have HB:=Hy b2
   clear b2 ht he
   go_wp2_with fail
   refine(mg _ l _ (HV.out.bel HB.out) (by omega)).mono ?_
   rintro e w3 ⟨r,rfl,o3,b3⟩
   obtain⟨g,cap,rfl,hg1,-,-,-,-⟩:=o3.openN (by omega)
   have HO:=Hy (o3.lower HB.out.size)
   have HB3:=Hy (aa HB.out b3)
   have hg3:w.heap.size≤g:=Ih HB.out.size hg1
   obtain⟨N,hN⟩:∃N,l.length=N:=⟨_,rfl⟩
   have HNN:=Hy hN
   rw[hN] at HO t1 t60
   clear o3 b3 hg1
   go_wp2
   try rw[hN]
   clear hN
   go_loopw [21] (fun i wr=>∃(k:Nat) (cur:List Int),k≤es.length∧i=.int .i64 k∧cur.length=N∧Own wr w.heap.size (.slice (some ⟨g,0,none⟩) N cap) cur∧fo cur (es.drop k)=fo l es∧Below w.heap.size w wr) (fun i _=>es.length-(intOf i).toNat)
   case atStart=>exact⟨0,l,Ip _,rfl,HNN.out,HO.out,rfl,HB3.out⟩
   case round=>
    obtain⟨k,cur,hk,rfl,hcl,ho,ha,hb⟩:=hrel
    have H:=Hy (Ie hcl (Ie ho (Ie ha hb)))
    have hz:=hb.size
    clear hcl ho ha hb
    by_cases hlt:k<es.length
    ·obtain⟨b,o,rfl,hbb,hcell⟩:=HRD.out (by omega)
     obtain⟨e0,e1,e2⟩:=hcell k hlt
     have y0:=(H.out.2.2.2.cell (p:=⟨b,o+k*3,none⟩) hbb).trans e0
     have y1:=(H.out.2.2.2.cell (p:=⟨b,o+k*3+1,none⟩) hbb).trans e1
     have y2:=(H.out.2.2.2.cell (p:=⟨b,o+k*3+2,none⟩) hbb).trans e2
     obtain⟨i1,i2,i3⟩:=HIN.out k hlt
     have hp0:=(HSM.out k hlt).1
     have hR:=(HSM.out k hlt).2
     have HSTEP:=Hy (fun h1 h2=>vO (m:=[]) hlt H.out.2.2.1 h1 h2)
     have HSTOP:=Hy (fun h1=>vM hlt H.out.2.2.1 h1)
     rw[H.out.1] at HSTEP HSTOP
     obtain⟨P,hP⟩:∃P,(aB es k).1=P:=⟨_,rfl⟩
     obtain⟨W,hW⟩:∃W,(aB es k).2.1=W:=⟨_,rfl⟩
     obtain⟨R,hR2⟩:∃R,(aB es k).2.2=R:=⟨_,rfl⟩
     rw[hP] at y0 i1 hp0 HSTEP HSTOP
     rw[hW] at y1 i2 HSTEP HSTOP
     rw[hR2] at y2 i3 hR HSTEP
     clear hP hW hR2 e0 e1 e2 hcell
     have K5:=Blk.new wr 111 [.int .i64 P,.int .i64 W,.int .i64 R]
     have BX:=Hy (aa H.out.2.2.2 (ab wr (.cells #[.int .i64 P,.int .i64 W,.int .i64 R] 111)))
     have HO5:=Hy (H.out.2.1.bel (ab wr (.cells #[.int .i64 P,.int .i64 W,.int .i64 R] 111)))
     obtain⟨t0,t1,t2⟩:=K5.three
     by_cases c1:(N:Int)≤P
     ·have HZ:=Hy (pz (l:=l) (es:=es) (HSTOP.out (fun h=>by omega)))
      go_wp2_with fail
      go_quiet (fail)
      go_wp2
      go_ret2
      exact⟨_,by rw[HZ.out.1];rfl,by rw[HZ.out.2];exact Own.nil_ _ _,be BX.out _⟩
     ·obtain⟨q,rfl⟩:∃q:Nat,P=q:=⟨P.toNat,by omega⟩
      have hq:q<N:=by omega
      rw[Int.toNat_natCast] at HSTEP HSTOP
      obtain⟨g',cap',ev,-,-,-,-,hcells⟩:=HO5.out.openN (by rw[H.out.1];omega)
      rw[H.out.1] at ev hcells
      injection ev with ev1 ev2 ev3
      injection ev1 with ev1
      injection ev1 with ev1
      subst ev1
      obtain⟨x1,x2⟩:=hcells q hq
      have hglt:g<wr.heap.size:=by have:=(H.out.2.1.lt g rfl).2;exact this
      obtain⟨X,hX⟩:∃X,at_ cur q=X:=⟨_,rfl⟩
      rw[hX] at x1 HSTEP HSTOP
      have p1:(q:Int)<(N:Int):=by omega
      have p2:(0:Int)≤(q:Int):=by omega
      clear hX hcells ev2 ev3
      by_cases hne:X=W
      ·have HZ:=Hy (HSTEP.out p1 hne)
       have z1:(X != W)=false:=by simp[hne]
       clear hne
       go_wp2_with fail
       go_quiet (fail)
       have BQ:=be (Below.refl (wr.alloc (.cells #[.int .i64 (q:Int),.int .i64 W,.int .i64 R] 111)).heap.size (wr.alloc (.cells #[.int .i64 (q:Int),.int .i64 W,.int .i64 R] 111))) nq
       have O6:=HO5.out.bel BQ
       have B6:=Hy (aa BX.out BQ)
       have K6:=K5.below BQ K5.lt
       obtain⟨w6,hw6⟩:∃w6,(wr.alloc (.cells #[.int .i64 (q:Int),.int .i64 W,.int .i64 R] 111)).drewN nq=w6:=⟨_,rfl⟩
       rw[hw6] at O6 B6 K6 ⊢
       clear hw6 BQ t0 t1 t2 K5 x1 x2 HO5 BX y0 y1 y2
       obtain⟨t0,t1,t2⟩:=K6.three
       obtain⟨g',cap',ev,-,-,-,-,hcells⟩:=O6.openN (by rw[H.out.1];omega)
       rw[H.out.1] at ev hcells
       injection ev with ev1 ev2 ev3
       injection ev1 with ev1
       injection ev1 with ev1
       subst ev1
       obtain⟨x1,x2⟩:=hcells q hq
       have HS:=Hy (O6.set_ q R (by rw[H.out.1];exact hq) (by omega))
       have B7:=Hy (B6.out.setCell (p:=⟨g,q,none⟩) hg3 (.int .i64 R))
       clear hcells ev2 ev3 K6 O6
       go_wp2
       go_roundw
       case rel=>exact⟨k+1,cur.set q R,hlt,by go_num,by rw[List.length_set];exact H.out.1,HS.out,HZ.out,B7.out⟩
       case measure=>simp[intOf];omega
      ·have HZ:=Hy (pz (l:=l) (es:=es) (HSTOP.out (fun h=>hne h.2)))
       have z1:(X != W)=true:=by simp[hne]
       clear hne
       go_wp2_with fail
       go_quiet (fail)
       go_wp2
       go_ret2
       exact⟨_,by rw[HZ.out.1];rfl,by rw[HZ.out.2];exact Own.nil_ _ _,be BX.out _⟩
    ·obtain rfl:k=es.length:=by omega
     have HZ:=Hy (C3 (l:=l) (es:=es) (m:=cur) HT.out.1 HT.out.2 (by
      have:=H.out.2.2.1
      rw[List.drop_length] at this
      exact this.symm))
     go_wp2
     go_ret2
     exact⟨_,by rw[HZ.out.1];rfl,by rw[HZ.out.2];exact H.out.2.1,H.out.2.2.2⟩
theorem nv (x:Etm) (h:kr x):(etS x).size≤65:=by
 unfold etS
 have h1:=bc (n:=x.1) (by have:=h.1;omega) (by have:=h.1;omega)
 have h2:=bc (n:=x.2.1) (by have:=h.2.1;omega) (by have:=h.2.1;omega)
 have h3:=bc (n:=x.2.2) (by have:=h.2.2;omega) (by have:=h.2.2;omega)
 have e1:(⟨#[58]⟩:ByteArray).size=1:=rfl
 have e2:(⟨#[62]⟩:ByteArray).size=1:=rfl
 rw[Ii,Ii,Ii,Ii]
 omega
theorem F8 {es:List Etm} {cs:List Value} {k:Nat} (hl:cs.length=es.length) (hk:k<es.length) (h:∀j,j<k→cs[j]?=some (.string (etS (aB es j)))):
  ∀j,j<k+1→(cs.set k (.string (etS (aB es k))))[j]?=some (.string (etS (aB es j))):=by
 intro j hj
 by_cases e:j=k
 ·subst e;rw[List.getElem?_set_self (by omega)]
 ·rw[List.getElem?_set_ne (by omega)];exact h j (by omega)
theorem FE (es:List Etm):eW (fun j=>etS (aB es j)) es.length=es.map etS:=by
 unfold eW
 apply List.ext_getElem
 ·simp
 ·intro i h1 h2
  simp at h1
  simp[aB,List.getD,h1]
theorem Ho {I J L:ByteArray} (hI:I.size≤21) (hJ:J.size≤21) (hL:L.size≤21):¬ 9223372036854775807<I.size+1∧¬ 9223372036854775807<I.size+1+J.size∧¬ 9223372036854775807<I.size+1+J.size+1∧¬ 9223372036854775807<I.size+1+J.size+1+L.size ∧
  (I++⟨#[58]⟩).size=I.size+1∧(I++⟨#[58]⟩++J).size=I.size+1+J.size∧(I++⟨#[58]⟩++J++⟨#[62]⟩).size=I.size+1+J.size+1:=by
 refine⟨by omega,by omega,by omega,by omega,?_,?_,?_⟩ <;> (simp only[Ii];rfl)
theorem zN (v:Value) (es:List Etm) (w:World) (hv:EtR w v es) (ht:Tab w):
  Calls prog 140 #[v] w fun e w'=>e=.returned (.string (cz es))∧Below w.heap.size w w':=by
 have HV:=Hy hv
 have HT:=Hy ht
 obtain⟨A,c,rfl,hlc,hc,h5,h6⟩:=hv
 have H5:=Hy h5
 have H6:=Hy h6
 clear h5 h6 ht
 go_enter func140,ntmps140
 go_wp2_with fail
 refine(lu _ es _ HV.out).mono ?_
 rintro e w2 ⟨rfl,b2⟩
 have HB:=Hy b2
 clear b2
 cases hq:dt es
 ·have HZ:=Hy (show cz es=⟨#[]⟩ by simp[cz,hq])
  go_wp2
  go_ret
  exact⟨by rw[HZ.out];rfl,HB.out⟩
 ·by_cases hn:es=[]
  ·have HZ:=Hy (show cz es=⟨#[45]⟩ by rw[cz,if_pos hq,if_pos hn])
   have z0:es.length=0:=by rw[hn];rfl
   have z1:((es.length:Int)==0)=true:=by rw[z0];rfl
   clear hn hq
   go_wp2
   go_ret
   exact⟨by rw[HZ.out];rfl,HB.out⟩
  ·have HZ:=Hy (show cz es=bd (es.map etS) ⟨#[59]⟩ by rw[cz,if_pos hq,if_neg hn])
   have hl:=m8 hq
   have hpos:0<es.length:=(by cases es with|nil=>exact absurd rfl hn|cons a r=>simp)
   have z1:((es.length:Int)==0)=false:=by rw[beq_eq_false_iff_ne];omega
   have hmk:=fun W=>Tryz.mkStrs es.length (by omega) W
   clear hq hn
   have KS:=Blk.new w2 9 (bD es.length (.string ⟨#[]⟩))
   have BS:=Hy (aa HB.out (ab w2 (.cells (bD es.length (.string ⟨#[]⟩)).toArray 9)))
   go_wp2_with fail
   generalize hW:w2.alloc (.cells (bD es.length (.string ⟨#[]⟩)).toArray 9)=W at *
   have hWz:W.heap.size=w2.heap.size+1:=by rw[←hW];simp
   have hz2:=HB.out.size
   clear hW
   go_loopw [17] (fun i wr=>∃(k:Nat) (cs:List Value),k≤es.length∧i=.int .i64 k∧Blk wr w2.heap.size 9 cs∧cs.length=es.length∧(∀j,j<k→cs[j]?=some (.string (etS (aB es j))))∧Below w.heap.size w wr∧w2.heap.size+1≤wr.heap.size) (fun i _=>es.length-(intOf i).toNat)
   case atStart=>exact⟨0,_,Ip _,rfl,KS,bm _ _,fun j hj=>absurd hj (by omega),BS.out,by omega⟩
   case round=>
    obtain⟨k,cs,hk,rfl,hbk,hcl,hcs,hb,hz⟩:=hrel
    have H:=Hy (Ie hcl (Ie hcs hb))
    have HBK:=Hy hbk
    clear hcl hcs hb KS
    by_cases hlt:k<es.length
    ·obtain⟨b,o,rfl,hbb,hcell⟩:=H5.out (by omega)
     obtain⟨e0,e1,e2⟩:=hcell k hlt
     have y0:=(H.out.2.2.cell (p:=⟨b,o+k*3,none⟩) hbb).trans e0
     have y1:=(H.out.2.2.cell (p:=⟨b,o+k*3+1,none⟩) hbb).trans e1
     have y2:=(H.out.2.2.cell (p:=⟨b,o+k*3+2,none⟩) hbb).trans e2
     obtain⟨i1,i2,i3⟩:=H6.out k hlt
     have HSET:=Hy (F8 H.out.1 hlt H.out.2.1)
     have HSEG:etS (aB es k)=aA (aB es k).1++⟨#[58]⟩++aA (aB es k).2.1++⟨#[62]⟩++aA (aB es k).2.2:=rfl
     rw[HSEG] at HSET
     obtain⟨P,hP⟩:∃P,(aB es k).1=P:=⟨_,rfl⟩
     obtain⟨Y,hY⟩:∃Y,(aB es k).2.1=Y:=⟨_,rfl⟩
     obtain⟨R,hR2⟩:∃R,(aB es k).2.2=R:=⟨_,rfl⟩
     rw[hP] at y0 i1 HSET
     rw[hY] at y1 i2 HSET
     rw[hR2] at y2 i3 HSET
     have s1:=bc (n:=P) i1.1 i1.2
     have s2:=bc (n:=Y) i2.1 i2.2
     have s3:=bc (n:=R) i3.1 i3.2
     clear hP hY hR2 e0 e1 e2 hcell HSEG
     have HI1:=Hy (fun w (h2:Tab w)=>fD P w i1 h2)
     have HI2:=Hy (fun w (h2:Tab w)=>fD Y w i2 h2)
     have HI3:=Hy (fun w (h2:Tab w)=>fD R w i3 h2)
     obtain⟨I,hI⟩:∃I,aA P=I:=⟨_,rfl⟩
     obtain⟨J,hJ⟩:∃J,aA Y=J:=⟨_,rfl⟩
     obtain⟨L,hL⟩:∃L,aA R=L:=⟨_,rfl⟩
     rw[hI] at s1 HI1
     rw[hJ] at s2 HI2
     rw[hL] at s3 HI3
     rw[hI,hJ,hL] at HSET
     clear hI hJ hL
     obtain⟨g1,g2,g3,g4,r1,r2,r3⟩:=Ho s1 s2 s3
     have K5:=Blk.new wr 111 [.int .i64 P,.int .i64 Y,.int .i64 R]
     have BX:=Hy (ab wr (.cells #[.int .i64 P,.int .i64 Y,.int .i64 R] 111))
     obtain⟨t0,t1,t2⟩:=K5.three
     have HK5:=Hy K5
     have HBX:=Hy (hbk.alloc (.cells #[.int .i64 P,.int .i64 Y,.int .i64 R] 111))
     have HB0:=Hy (aa H.out.2.2 BX.out)
     have hkc:k<cs.length:=by rw[H.out.1];exact hlt
     have hz5:w2.heap.size+1≤(wr.alloc (.cells #[.int .i64 P,.int .i64 Y,.int .i64 R] 111)).heap.size:=by simp;omega
     have hk5:=K5.lt
     have hneb:wr.heap.size≠w2.heap.size:=by omega
     have tok1:True:=trivial
     have tok2:True:=trivial
     have tok3:True:=trivial
     clear hbk K5
     go_wp2_with fail
     generalize hW5:wr.alloc (.cells #[.int .i64 P,.int .i64 Y,.int .i64 R] 111)=W5 at *
     clear hW5
     go_region_held3 (fun w'=>w'.cell? ⟨wr.heap.size,0,none⟩=some (.int .i64 P)∧w'.cell? ⟨wr.heap.size,1,none⟩=some (.int .i64 Y)∧w'.cell? ⟨wr.heap.size,2,none⟩=some (.int .i64 R)) (first|exact⟨t0,t1,t2⟩|exact HK6.out.three|exact HK7.out.three|exact HK8.out.three|exact(HK8.out.far (p:=⟨w2.heap.size,k,none⟩) hneb _).three|go_keep) (first
      |((try go_simp);go_at_call 113;have _t:=tok1;go_loud (refine(HI1.out _ (by first|exact HT.out.bel HB0.out|exact(HT.out.bel HB0.out).bel ((Below.refl _ _).drew))).mono ?_;rintro e w6 ⟨rfl,b⟩;replace b:Below W5.heap.size W5 w6:=(by first|exact b|exact aa ((Below.refl _ _).drew) b);have HK6:=Hy (HK5.out.below b hk5);have HB6:=Hy (aa HB0.out b);have HS6:=Hy (HBX.out.below b HBX.out.lt);clear tok1 b;(try dsimp only)))
      |((try go_simp);go_at_call 113;have _t:=tok2;go_loud (refine(HI2.out _ (HT.out.bel HB6.out)).mono ?_;rintro e w7 ⟨rfl,b⟩;have HK7:=Hy (HK6.out.below b HK6.out.lt);have HB7:=Hy (aa HB6.out b);have HS7:=Hy (HS6.out.below b HS6.out.lt);clear tok2 b;(try dsimp only)))
      |((try go_simp);go_at_call 113;have _t:=tok3;go_loud (refine(HI3.out _ (HT.out.bel HB7.out)).mono ?_;rintro e w8 ⟨rfl,b⟩;have HK8:=Hy (HK7.out.below b HK7.out.lt);have HB8:=Hy (aa HB7.out b);have HS8:=Hy (HS7.out.below b HS7.out.lt);have f8:=HS8.out.frozen k;have x8:w8.cell? ⟨w2.heap.size,k,none⟩=some (cs[k]'hkc):=(by rw[HS8.out.cell];exact List.getElem?_eq_getElem _);clear tok3 b;(try dsimp only)))
      |fail)
     all_goals
      have HS9:=Hy (HS8.out.set_ k (.string (I++⟨#[58]⟩++J++⟨#[62]⟩++L)))
      have HB9:=Hy (HB8.out.setCell (p:=⟨w2.heap.size,k,none⟩) hz2 (.string (I++⟨#[58]⟩++J++⟨#[62]⟩++L)))
      have hz9:w2.heap.size+1≤(w8.setCell ⟨w2.heap.size,k,none⟩ (.string (I++⟨#[58]⟩++J++⟨#[62]⟩++L))).heap.size:=by
       simp only[World.setCell,Array.size_modify]
       have:=HS8.out.lt
       omega
      obtain⟨W9,hW9⟩:∃W9,w8.setCell ⟨w2.heap.size,k,none⟩ (.string (I++⟨#[58]⟩++J++⟨#[62]⟩++L))=W9:=⟨_,rfl⟩
      rw[hW9] at HS9 HB9 hz9 ⊢
      clear hW9 t0 t1 t2 f8 x8
      have HLC:=Hy (show(cs.set k (.string (I++⟨#[58]⟩++J++⟨#[62]⟩++L))).length=es.length by rw[List.length_set];exact H.out.1)
      try (have HBA:=Hy (aa HB9.out (Below.drew (Below.refl W9.heap.size W9)));have HSA:=Hy (HS9.out.below (Below.drew (Below.refl W9.heap.size W9)) HS9.out.lt))
      go_wp2
      go_roundw
      case rel=>first
       |exact⟨k+1,_,hlt,by go_num,HSA.out,HLC.out,HSET.out,HBA.out,hz9⟩
       |exact⟨k+1,_,hlt,by go_num,HS9.out,HLC.out,HSET.out,HB9.out,hz9⟩
      case measure=>simp[intOf];omega
    ·obtain rfl:k=es.length:=by omega
     have HO:=Hy (show ak wr w2.heap.size (.slice (some ⟨w2.heap.size,0,none⟩) es.length es.length) (es.map etS) by
      rw[←FE]
      exact qo (Ig _) HBK.out H.out.1 (by omega) H.out.2.1 (fun j hj=>by
       have:=nv (aB es j) (H6.out j hj)
       omega))
     have HSZ:=Hy (show ∀x∈es.map etS,x.size≤65 by
      intro x hx
      obtain⟨y,hy,rfl⟩:=List.mem_map.1 hx
      obtain⟨j,hj,rfl⟩:=List.getElem_of_mem hy
      rw[←io hj]
      exact nv _ (H6.out j hj))
     have HLE:=Hy (show(es.map etS).length≤1048576 by rw[List.length_map];omega)
     clear hbk
     go_wp2_with fail
     refine(kL _ (es.map etS) ⟨#[59]⟩ _ HO.out.strs HLE.out 65 HSZ.out (by omega) (by decide)).mono ?_
     rintro e w5 ⟨rfl,b5⟩
     have HB5:=Hy (aa H.out.2.2 b5)
     clear b5
     go_wp2
     go_ret
     exact⟨by rw[HZ.out];rfl,HB5.out⟩
theorem xE (s:ByteArray) (w:World) (hs:s.size≤1048576) (hg:Glb w):
  Calls prog 224 #[.string s] w fun e w'=>∃a b c:Int,e=.returned (.tuple #[.agg #[.int .i64 a,.int .i64 b,.int .i64 c],.bool (etT s)])∧(etT s=true→(a,b,c)=etV s)∧kr (a,b,c)∧Below w.heap.size w w':=by
 have HG:=Hy hg
 have h1:=np 58 s
 have h2:=np 62 (aft 58 s)
 have K0:=Blk.new w 111 [.int .i64 0,.int .i64 0,.int .i64 0]
 have B0:=Hy (ab w (.cells #[.int .i64 0,.int .i64 0,.int .i64 0] 111))
 have HV:=Hy (show etV s=(cE (bef 58 s),cE (bef 62 (aft 58 s)),cE (aft 62 (aft 58 s))) from rfl)
 have HT:=Hy (show etT s=(((bp (bef 58 s)).isSome&&(bp (bef 62 (aft 58 s))).isSome)&&(bp (aft 62 (aft 58 s))).isSome) from rfl)
 clear hg
 go_enter func224,ntmps224
 go_wp2_with fail
 refine(rF s 58 _ hs (HG.out.bel B0.out)).mono ?_
 rintro e w1 ⟨rfl,b1⟩
 have HB1:=Hy (aa B0.out b1)
 have K1:=K0.below b1 K0.lt
 clear b1 K0
 go_wp2_with fail
 refine(rF (aft 58 s) 62 _ (by omega) (HG.out.bel HB1.out)).mono ?_
 rintro e w2 ⟨rfl,b2⟩
 have HB2:=Hy (aa HB1.out b2)
 have K2:=K1.below b2 K1.lt
 clear b2 K1
 obtain⟨X,hX⟩:∃X,bef 58 s=X:=⟨_,rfl⟩
 obtain⟨Y,hY⟩:∃Y,bef 62 (aft 58 s)=Y:=⟨_,rfl⟩
 obtain⟨Z,hZ⟩:∃Z,aft 62 (aft 58 s)=Z:=⟨_,rfl⟩
 obtain⟨b1,hb1⟩:∃x,bO 58 s=x:=⟨_,rfl⟩
 obtain⟨b2,hb2⟩:∃x,bO 62 (aft 58 s)=x:=⟨_,rfl⟩
 rw[hX] at h1
 rw[hY,hZ] at h2
 rw[hX,hY,hZ] at HV HT
 rw[hX,hY,hZ,hb1,hb2]
 clear hX hY hZ hb1 hb2
 have HK:=Hy K2
 clear K2
 go_wp2_with fail
 refine(jr X _ (by omega) (HG.out.bel HB2.out)).mono ?_
 rintro e w3 ⟨rfl,b3⟩
 have HB3:=Hy (aa HB2.out b3)
 have K3:=Hy (HK.out.below b3 HK.out.lt)
 clear b3 HK
 go_wp2_with fail
 refine(jr Y _ (by omega) (HG.out.bel HB3.out)).mono ?_
 rintro e w4 ⟨rfl,b4⟩
 have HB4:=Hy (aa HB3.out b4)
 have K4:=Hy (K3.out.below b4 K3.out.lt)
 clear b4 K3
 go_wp2_with fail
 refine(jr Z _ (by omega) (HG.out.bel HB4.out)).mono ?_
 rintro e w5 ⟨rfl,b5⟩
 have HB5:=Hy (aa HB4.out b5)
 have K5:=Hy (K4.out.below b5 K4.out.lt)
 clear b5 K4
 have v1:=fM X
 have v2:=fM Y
 have v3:=fM Z
 obtain⟨n1,hn1⟩:∃x,cE X=x:=⟨_,rfl⟩
 obtain⟨n2,hn2⟩:∃x,cE Y=x:=⟨_,rfl⟩
 obtain⟨n3,hn3⟩:∃x,cE Z=x:=⟨_,rfl⟩
 obtain⟨o1,ho1⟩:∃x,(bp X).isSome=x:=⟨_,rfl⟩
 obtain⟨o2,ho2⟩:∃x,(bp Y).isSome=x:=⟨_,rfl⟩
 obtain⟨o3,ho3⟩:∃x,(bp Z).isSome=x:=⟨_,rfl⟩
 rw[hn1] at v1
 rw[hn2] at v2
 rw[hn3] at v3
 rw[hn1,hn2,hn3] at HV
 rw[ho1,ho2,ho3] at HT
 rw[hn1,hn2,hn3,ho1,ho2,ho3]
 clear hn1 hn2 hn3 ho1 ho2 ho3
 have f0:=K5.out.frozen 0
 have f1:=K5.out.frozen 1
 have f2:=K5.out.frozen 2
 obtain⟨c0,c1,c2⟩:=K5.out.three
 have fin:∀(a b c:Int),Blk (((w5.setCell ⟨w.heap.size,0,none⟩ (.int .i64 a)).setCell ⟨w.heap.size,1,none⟩ (.int .i64 b)).setCell ⟨w.heap.size,2,none⟩ (.int .i64 c)) w.heap.size 111 [.int .i64 a,.int .i64 b,.int .i64 c]∧Below w.heap.size w (((w5.setCell ⟨w.heap.size,0,none⟩ (.int .i64 a)).setCell ⟨w.heap.size,1,none⟩ (.int .i64 b)).setCell ⟨w.heap.size,2,none⟩ (.int .i64 c)):=fun a b c=>
  ⟨((K5.out.set_ 0 (.int .i64 a)).set_ 1 (.int .i64 b)).set_ 2 (.int .i64 c),((HB5.out.setCell (p:=⟨w.heap.size,0,none⟩) (Ig _) _).setCell (p:=⟨w.heap.size,1,none⟩) (Ig _) _).setCell (p:=⟨w.heap.size,2,none⟩) (Ig _) _⟩
 have HFN:=Hy fin
 clear fin
 by_cases hok:(o1=true∧o2=true)∧o3=true
 ·obtain⟨⟨rfl,rfl⟩,rfl⟩:=hok
  go_wp2
  obtain⟨kk,bb⟩:=HFN.out n1 n2 n3
  have HTT:=Hy (show etT s=true by rw[HT.out];rfl)
  have HKK:=Hy kk
  generalize hW:((w5.setCell ⟨w.heap.size,0,none⟩ (.int .i64 n1)).setCell ⟨w.heap.size,1,none⟩ (.int .i64 n2)).setCell ⟨w.heap.size,2,none⟩ (.int .i64 n3)=w6 at *
  obtain⟨x0,x1,x2⟩:=kk.three
  refine bodyPost_ret (v:=.tuple #[.agg #[.int .i64 n1,.int .i64 n2,.int .i64 n3],.bool true]) (by simp[results,results224,go_sem,x0,x1,x2]) rfl ⟨n1,n2,n3,by rw[HTT.out],fun _=>HV.out.symm,⟨by show _≤n1∧n1≤_;omega,by show _≤n2∧n2≤_;omega,by show _≤n3∧n3≤_;omega⟩,bb⟩
 ·have HTF:=Hy (show etT s=false by
   rw[HT.out,Bool.eq_false_iff]
   intro h
   rw[Is,Is] at h
   exact hok h)
  have HN:=Hy hok
  clear hok
  cases o1
  case' true=>cases o2
  case' true.true=>cases o3
  case true.true.true=>exact absurd ⟨⟨rfl,rfl⟩,rfl⟩ HN.out
  all_goals
   go_wp2
   obtain⟨kk,bb⟩:=HFN.out 0 0 0
   generalize hW:((w5.setCell ⟨w.heap.size,0,none⟩ (.int .i64 0)).setCell ⟨w.heap.size,1,none⟩ (.int .i64 0)).setCell ⟨w.heap.size,2,none⟩ (.int .i64 0)=w6 at *
   obtain⟨x0,x1,x2⟩:=kk.three
   refine bodyPost_ret (v:=.tuple #[.agg #[.int .i64 0,.int .i64 0,.int .i64 0],.bool false]) (by simp[results,results224,go_sem,x0,x1,x2]) rfl ⟨0,0,0,by rw[HTF.out],fun h=>absurd h (by rw[HTF.out];simp),⟨by decide,by decide,by decide⟩,bb⟩
theorem Cb {c:UInt8}:∀ {l:List UInt8} {k:Nat},c∉l.take k→l[k]?=some c→(l.takeWhile fun b=>b != c).length=k
 |[],k,_,h=>by simp at h
 |b::l,0,_,h=>by
  have:b=c:=by simpa using h
  subst this
  simp
 |b::l,k+1,h1,h2=>by
  rw[List.take_succ_cons,Iq,not_or] at h1
  have e:(b != c)=true:=by simp;exact fun e=>h1.1 e.symm
  rw[List.takeWhile_cons,e]
  simp only[if_true,List.length_cons]
  rw[Cb h1.2 (by simpa using h2)]
def jF (c:UInt8) (s:ByteArray):Int:=if bO c s=true then((bef c s).size:Int) else -1
theorem mZ {c:UInt8} {s:ByteArray} (h:bO c s=true):jF c s=(bef c s).size:=by simp[jF,h]
theorem rh {c:UInt8} {s:ByteArray} (h:bO c s=false):jF c s = -1:=by simp[jF,h]
theorem GD {c:UInt8} {s:ByteArray} {k:Nat} (h1:c∉s.data.toList.take k) (h2:s.data.toList[k]?=some c):jF c s=(k:Int):=by
 have hm:c∈s.data.toList:=List.mem_of_getElem? h2
 rw[mZ (ga.2 hm)]
 have:=Cb h1 h2
 have e:(bef c s).size=(s.data.toList.takeWhile fun b=>b != c).length:=by
  have:=congrArg List.length (fG (s.data.toList.takeWhile fun b=>b != c))
  have e2:(bef c s).data.toList.length=(bef c s).size:=Array.length_toList
  rw[←this,←e2]
  rfl
 omega
theorem FC {c:UInt8} {s:ByteArray} (h:c∉s.data.toList.take s.size):jF c s = -1:=by
 have e:s.data.toList.take s.size=s.data.toList:=List.take_of_length_le (Nat.le_of_eq Array.length_toList)
 rw[e] at h
 exact rh (by rw[Bool.eq_false_iff];exact fun e=>h (ga.1 e))
theorem CP {c b:UInt8} {l:List UInt8} {k:Nat} (h1:c∉l.take k) (h2:l[k]?=some b) (hb:b≠c):c∉l.take (k+1):=by
 rw[List.take_add_one,h2]
 intro h
 rcases List.mem_append.1 h with h|h
 ·exact h1 h
 ·simp at h
  exact hb h.symm
theorem si {c:UInt8} {s:ByteArray} (h:bO c s=true):s.extract 0 (bef c s).size=bef c s∧s.extract ((bef c s).size+1) s.size=aft c s∧(bef c s).size+1+(aft c s).size=s.size:=by
 have e:=gE h
 have hz:=congrArg ByteArray.size e
 rw[Ii,Ii] at hz
 have h1:(⟨#[c]⟩:ByteArray).size=1:=rfl
 have hl:s.data.toList=(bef c s).data.toList++c::(aft c s).data.toList:=by
  conv=>lhs;rw[←e]
  simp
 have hb:(bef c s).data.toList.length=(bef c s).size:=Array.length_toList
 refine⟨?_,?_,by omega⟩
 ·rw[gF]
  unfold mid
  rw[hl,List.drop_zero,Nat.sub_zero,List.take_append_of_le_length (by omega),List.take_of_length_le (by omega)]
  exact gg _
 ·rw[gF]
  unfold mid
  rw[hl,show(bef c s).size+1=(bef c s).data.toList.length+1 by omega,List.drop_append]
  have:((bef c s).data.toList).drop ((bef c s).data.toList.length+1)=[]:=List.drop_eq_nil_of_le (by omega)
  rw[this,show(bef c s).data.toList.length+1-(bef c s).data.toList.length=1 by omega,List.drop_succ_cons,List.drop_zero,List.nil_append,List.take_of_length_le ?_]
  ·exact gg _
  ·have:(aft c s).data.toList.length=(aft c s).size:=Array.length_toList
   omega
theorem nZ (s:ByteArray) (c:UInt8) (w:World) (hs:s.size≤1048576):
  Calls prog 9 #[.string s,.int .u8 c.toNat] w fun e w'=>e=.returned (.int .i64 (jF c s))∧w=w':=by
 go_enter func9,ntmps9
 go_wp2
 go_loopw [5] (fun i wr=>∃k:Nat,k≤s.size∧i=.int .i64 k∧c∉s.data.toList.take k∧wr=w) (fun i _=>s.size-(intOf i).toNat)
 case atStart=>exact⟨0,Ip _,rfl,by simp,rfl⟩
 case round=>
  obtain⟨k,hk,rfl,hno,rfl⟩:=hrel
  by_cases hlt:k<s.size
  ·have hby:=gH s k hlt
   cases hq:((s[k].toNat:Int)==(c.toNat:Int))
   ·have HQ:=Hy (show s[k]≠c from fun e=>by rw[e] at hq;simp at hq)
    have HN:=Hy (CP hno hby HQ.out)
    clear hno hby
    go_wp2
    go_roundw
    case rel=>exact⟨k+1,hlt,by go_num,HN.out,by first|rfl|trivial⟩
    case measure=>simp[intOf];omega
   ·have HQ:=Hy (show s[k]=c from by have e:(s[k].toNat:Int)=(c.toNat:Int):=(by simpa using hq);exact UInt8.toNat_inj.1 (by omega))
    have HN:=Hy (GD hno (by rw[hby,HQ.out]))
    clear hno hby
    go_wp2
    go_ret
    exact⟨by rw[HN.out];rfl,rfl⟩
  ·obtain rfl:k=s.size:=by omega
   have HN:=Hy (FC hno)
   clear hno
   go_wp2
   go_ret
   exact⟨by rw[HN.out];rfl,rfl⟩
end Go.Proofs.YtfmjklgfpiffbaaGreatDoor
