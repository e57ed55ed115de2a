/-
  Parts of the proof of one statement, merged: Mark EngKit ColPlain WhP WhQ Cols.
-/
import Derived.Deep.DrawnRows
import Derived.Deep.RegionLaw
import Derived.Test.YtfmjklgfpiffbaaGreatDoorR2
namespace Go.Proofs.YtfmjklgfpiffbaaGreatDoor
open Go.RowKit Go.Proofs.Tryz
set_option linter.unusedVariables false
set_option linter.unusedSimpArgs false
set_option maxRecDepth 100000
set_option maxHeartbeats 8000000
attribute [local go_sem ↓] Go.wp_at_zero Go.wp_at_succ
theorem Tryz.conv1 (z:Int) (W:World):(convert 24 9 (.slice (some ⟨W.heap.size,0,none⟩) 1 1)).run prog (W.alloc (.cells #[.int .u8 z] 5))=.ok (.string (strOfNums [z])) (W.alloc (.cells #[.int .u8 z] 5)):=
 run_convert_bytes_arg (P:=prog) _ 24 5 Tryz.underlying24 Tryz.underlying5 W.heap.size 0 1 1 [z] rfl (fun i hi=>by
  obtain rfl:i=0:=by omega
  exact bh W _ (.int .u8 z)) 9 Tryz.underlying9
end Go.Proofs.YtfmjklgfpiffbaaGreatDoor
namespace Go.Proofs.YtfmjklgfpiffbaaGreatDoor
open Go.RowKit Go.Proofs.Tryz
set_option linter.unusedVariables false
set_option linter.unusedSimpArgs false
set_option maxRecDepth 100000
set_option maxHeartbeats 8000000
theorem Blk.one {w:World} {g:Nat} {t:TypeId} {v:Value} (h:Blk w g t [v]):w.cell? ⟨g,0,none⟩=some v∧w.frozen? ⟨g,0,none⟩=false:=⟨by rw[h.cell];rfl,h.frozen 0⟩
theorem Blk.new' (w:World) (t:TypeId) (v:Value) (g:Nat) (hg:g=w.heap.size):Blk (w.alloc (.cells #[v] t)) g t [v]:=by subst hg;exact Blk.new w t [v]
theorem aj.lower {w:World} {base base':Nat} {v:Value} {l:List ByteArray} (h:aj w base v l) (hb:base'≤base):aj w base' v l:=by
 refine⟨⟨h.1.1,?_⟩,h.2⟩
 rcases h.1.2 with q|⟨g1,cap,cur,q1,q2,q3⟩
 ·exact .inl q
 ·exact .inr ⟨g1,cap,cur,q1,by omega,q3⟩
theorem aj.setCell {w:World} {base:Nat} {v:Value} {l:List ByteArray} (h:aj w base v l) (p:Addr) (u:Value) (hp:p.block<base):aj (w.setCell p u) base v l:=
 h.far (row:=some p.block) (dl (World.grownBy.refl w (some p.block)) (.inl rfl) u) (fun k hk=>by injection hk with hk;omega)
def ten (k:Nat):Nat:=10 ^ k
theorem oA:ten 0=1:=rfl
theorem iw (k:Nat):ten (k+1)=ten k*10:=by simp[ten,Nat.pow_succ]
theorem fV (k:Nat):1≤ten k:=Nat.one_le_pow _ _ (by decide)
theorem FJ {j k:Nat} (h:j≤k):ten j≤ten k:=Nat.pow_le_pow_right (by decide) h
theorem em {k:Nat} (h:k≤12):ten k≤1000000000000:=by
 have:=FJ h;have e:ten 12=1000000000000:=by decide
 omega
def dK (k:Nat):Nat:=ten k / 2
theorem FI {k:Nat} (h:1≤k):ten k=2*dK k:=by
 obtain⟨j,rfl⟩:∃j,k=j+1:=⟨k-1,by omega⟩;have:=iw j;unfold dK;omega
def md (n:Int) (m:Nat):Nat:=(n % (m:Int)).toNat
theorem pY (n:Int) {m:Nat} (h:1≤m):((md n m:Nat):Int)=n % (m:Int):=by
 have:=Int.emod_nonneg n (b:=(m:Int)) (by omega);unfold md;omega
theorem gW (n:Int) {m:Nat} (h:1≤m):md n m<m:=by
 have:=Int.emod_lt_of_pos n (b:=(m:Int)) (by omega);have:=pY n h;omega
theorem CX (x m:Nat):md (x:Int) m=x % m:=by
 unfold md;rw[←Int.natCast_emod];rfl
def gp (v n j:Nat):Int:=48+((v / ten (n-1-j) % 10:Nat):Int)
theorem xv (v n j:Nat):48≤gp v n j∧gp v n j≤57:=by
 unfold gp;omega
def col (v n:Nat):ByteArray:=strOfNums (gen (gp v n) n)
theorem fA (v n:Nat):(col v n).size=n:=by rw[col,strOfNums_size,ar]
theorem uw {xs:List Int} {j:Nat} (hj:j<xs.length) (h:0≤at_ xs j∧at_ xs j≤255):bat (strOfNums xs) j=at_ xs j:=by
 have hs:j<(strOfNums xs).size:=by rw[strOfNums_size];exact hj
 rw[jz hs];have e:(strOfNums xs)[j]=UInt8.ofNat (at_ xs j).toNat:=by
  rw[ByteArray.getElem_eq_getElem_data,fi xs j hj];simp[strOfNums]
 rw[e];have:(at_ xs j).toNat<256:=by omega
 have e2:(UInt8.ofNat (at_ xs j).toNat).toNat=(at_ xs j).toNat:=by simp;omega
 rw[e2];omega
theorem sE {v n j:Nat} (h:j<n):bat (col v n) j=gp v n j:=by
 have hb:=xv v n j;rw[col,uw (by rw[ar];exact h) (by rw[bP h];omega),bP h]
theorem mr (v:Nat) {n:Nat} (h1:1≤n) (h2:n≤12):aP (col v n)=true:=
 qF (by rw[fA];exact h1) (by rw[fA];exact h2) fun j hj=>by
  rw[fA] at hj;rw[sE hj];exact xv v n j
def cvN (s:ByteArray):Nat→Nat
 |0=>0
 |k+1=>cvN s k*10+(bat s k-48).toNat
def cv (s:ByteArray):Nat:=cvN s s.size
theorem Ez (s:ByteArray):cvN s 0=0:=rfl
theorem km (s:ByteArray) (k:Nat):cvN s (k+1)=cvN s k*10+(bat s k-48).toNat:=rfl
theorem vq {s:ByteArray} (h:aP s=true):∀k,k≤s.size→cvN s k<ten k:=by
 intro k
 induction k with
 |zero=>intro _;exact Nat.one_pos
 |succ k ih=>
  intro hk;have:=ih (by omega);have:=(aQ h).2.2 k (by omega);rw[km,iw];omega
theorem zH {s:ByteArray} (h:aP s=true):cv s<ten s.size:=vq h _ (Jr _)
theorem iz {s:ByteArray} (h:aP s=true):cv s<1000000000000:=by
 have:=zH h;have:=em (aQ h).2.1;omega
theorem Cg {v n:Nat} (h:v<ten n):cv (col v n)=v:=by
 have key:∀k,k≤n→cvN (col v n) k=v / ten (n-k):=by
  intro k
  induction k with
  |zero=>intro _;rw[Ez,Nat.sub_zero,Nat.div_eq_of_lt h]
  |succ k ih=>
   intro hk;rw[km,ih (by omega),sE (by omega),gp];have e1:n-k=(n-(k+1))+1:=by omega
   have e2:n-1-k=n-(k+1):=by omega
   rw[e2,e1,iw,←Nat.div_div_eq_div_mul];have:((48:Int)+((v / ten (n-(k+1)) % 10:Nat):Int)-48).toNat=v / ten (n-(k+1)) % 10:=by omega
   rw[this];omega
 have:=key n (Jr _);rw[Nat.sub_self,oA,Nat.div_one] at this;rw[cv,fA,this]
def sg (s:ByteArray):Int:=if dK s.size≤cv s then(cv s:Int)-(ten s.size:Int) else(cv s:Int)
theorem F7 {s:ByteArray} (h:dK s.size≤cv s):sg s=(cv s:Int)-(ten s.size:Int):=by simp[sg,h]
theorem F8 {s:ByteArray} (h:¬dK s.size≤cv s):sg s=(cv s:Int):=by simp[sg,h]
theorem oq {s:ByteArray} (h:aP s=true) : -1000000000000≤sg s∧sg s≤1000000000000:=by
 have:=zH h;have:=iz h;have:=em (aQ h).2.1;unfold sg
 split <;> omega
def pj (n:Int) (k:Nat):Bool:=inB n (-(dK k:Int)) ((dK k:Int)-1)
def pS (n:Int) (k:Nat):ByteArray:=col (md n (ten k)) k
theorem nG (n:Int) (k:Nat):(pS n k).size=k:=fA _ _
theorem xE (n:Int) {k:Nat} (h1:1≤k) (h2:k≤12):aP (pS n k)=true:=mr _ h1 h2
def bS (a b:ByteArray):ByteArray:=col ((cv a+cv b) % ten a.size) a.size
theorem oN (a b:ByteArray):(bS a b).size=a.size:=fA _ _
theorem sA {a b:ByteArray} (h:aP a=true):aP (bS a b)=true:=by
 have:=aQ h;exact mr _ this.1 this.2.1
def bu (l:List ByteArray):List ByteArray:=eY (fun i=>if i+1<l.length then bS (sat l i) (sat l (i+1)) else sat l i) l.length
theorem bW (l:List ByteArray):(bu l).length=l.length:=dU _ _
theorem gj {l:List ByteArray} {i:Nat} (h:i<l.length):sat (bu l) i=if i+1<l.length then bS (sat l i) (sat l (i+1)) else sat l i:=ke h
theorem oE {l:List ByteArray} {i:Nat} (h:i<l.length):(sat (bu l) i).size=(sat l i).size:=by
 rw[gj h];split
 ·exact oN _ _
 ·rfl
theorem ap {l:List ByteArray}:af l=true↔1≤l.length∧l.length≤7∧∀k,k<l.length→aP (sat l k)=true∧(sat l k).size=(sat l 0).size:=by
 rw[jC]
 constructor
 ·rintro⟨a,b,c⟩;exact⟨a,b,fun k hk=>⟨(eG.1 (c k hk)).2.1,(eG.1 (c k hk)).2.2.symm⟩⟩
 ·rintro⟨a,b,c⟩;exact⟨a,b,fun k hk=>eG.2 ⟨(c 0 (by omega)).1,(c k hk).1,(c k hk).2.symm⟩⟩
theorem lz {l:List ByteArray} (h:af l=true):af (bu l)=true:=by
 obtain⟨h1,h2,h3⟩:=ap.1 h;refine ap.2 ⟨by rw[bW];exact h1,by rw[bW];exact h2,fun k hk=>?_⟩;rw[bW] at hk;refine⟨?_,by rw[oE hk,oE (by omega)];exact(h3 k hk).2⟩;rw[gj hk]
 split
 ·exact sA (h3 k hk).1
 ·exact(h3 k hk).1
def aH (l:List ByteArray):Nat→List ByteArray
 |0=>l
 |n+1=>bu (aH l n)
theorem eC (l:List ByteArray) (n:Nat):aH l (n+1)=bu (aH l n):=rfl
theorem eQ (l:List ByteArray) (n:Nat):(aH l n).length=l.length:=by
 induction n with
 |zero=>rfl
 |succ n ih=>rw[eC,bW,ih]
theorem eR {l:List ByteArray} (h:af l=true) (n:Nat):af (aH l n)=true:=by
 induction n with
 |zero=>exact h
 |succ n ih=>exact lz ih
theorem sp {l:List ByteArray} (h:0<l.length) (n:Nat):(sat (aH l n) 0).size=(sat l 0).size:=by
 induction n with
 |zero=>rfl
 |succ n ih=>rw[eC,oE (by rw[eQ];exact h),ih]
theorem iS {l:List ByteArray} (h:af l=true):WfS l:=by
 obtain⟨h1,h2,h3⟩:=ap.1 h;intro s hs;obtain⟨k,hk,rfl⟩:=List.getElem_of_mem hs;rw[←bV l k hk];have:=aQ (h3 k hk).1;omega
def sZ (l:List ByteArray) (n:Nat):List Int:=gen (fun i=>sg (sat (aH l i) 0)) n
theorem Hr {a b:ByteArray} (hs:a.size=b.size) (h:∀j,j<b.size→bat a j=bat b j):a=b:=by
 apply ByteArray.ext
 apply Array.ext
 ·exact hs
 ·intro i h1 h2;have:=h i h2;rw[jz (show i<a.size from h1),jz (show i<b.size from h2)] at this;have e:(a[i]'h1).toNat=(b[i]'h2).toNat:=by omega
  exact UInt8.toNat_inj.1 e
theorem Gr {s:ByteArray} (h:aP s=true) (k:Nat):∀d,k+d=s.size→cv s / ten d=cvN s k:=by
 intro d
 induction d generalizing k with
 |zero=>
  intro e;have:k=s.size:=by omega
  rw[oA,Nat.div_one,this]
  rfl
 |succ d ih=>
  intro e;have h1:=ih (k+1) (by omega);have h2:=(aQ h).2.2 k (by omega);rw[iw,←Nat.div_div_eq_div_mul,h1,km];omega
theorem Hv {s:ByteArray} (h:aP s=true):col (cv s) s.size=s:=by
 apply Hr (fA _ _)
 intro j hj;have h2:=(aQ h).2.2 j hj;rw[sE hj];unfold gp;rw[Gr h (j+1) (s.size-1-j) (by omega),km];omega
def mV (a b:ByteArray):ByteArray:=col (md ((cv a:Int)-(cv b:Int)) (ten a.size)) a.size
theorem up (a b:ByteArray):(mV a b).size=a.size:=fA _ _
theorem Hk {a b:ByteArray} (h:aP a=true):aP (mV a b)=true:=by
 have:=aQ h;exact mr _ this.1 this.2.1
theorem Gd {a b:ByteArray} (ha:aP a=true):bS (mV a b) b=a:=by
 have hT:=fV a.size;have h1:=gW ((cv a:Int)-(cv b:Int)) (m:=ten a.size) hT;have h2:=pY ((cv a:Int)-(cv b:Int)) (m:=ten a.size) hT;have h3:=zH ha;unfold bS;rw[up];have h4:cv (mV a b)=md ((cv a:Int)-(cv b:Int)) (ten a.size):=by unfold mV;exact Cg h1
 rw[h4];have h5:(md ((cv a:Int)-(cv b:Int)) (ten a.size)+cv b) % ten a.size=cv a:=by
  have e:(((md ((cv a:Int)-(cv b:Int)) (ten a.size)+cv b) % ten a.size:Nat):Int)=(cv a:Int):=by
   rw[Int.natCast_emod,Int.natCast_add,h2,Int.emod_add_emod];rw[show(cv a:Int)-(cv b:Int)+(cv b:Int)=(cv a:Int) by omega];exact Int.emod_eq_of_lt (by omega) (by omega)
  omega
 rw[h5];exact Hv ha
def aY:List ByteArray→List ByteArray
 |[]=>[]
 |[x]=>[x]
 |x::y::r=>mV x (sat (aY (y::r)) 0)::aY (y::r)
theorem cM:∀l:List ByteArray,(aY l).length=l.length
 |[]=>rfl
 |[x]=>rfl
 |x::y::r=>by
  have:=cM (y::r);simp[aY] at this ⊢;exact this
theorem kf:∀(l:List ByteArray) (j:Nat),j<l.length→sat (aY l) j=if j+1<l.length then mV (sat l j) (sat (aY l) (j+1)) else sat l j
 |[],j,h=>absurd h (by simp)
 |[x],j,h=>by
  have:j=0:=by simp at h;exact h
  subst this
  rfl
 |x::y::r,0,h=>by
  rw[if_pos (by simp)]
  rfl
 |x::y::r,j+1,h=>by
  have ih:=kf (y::r) j (by simpa using h)
  show sat (aY (y::r)) j=_
  rw[ih];by_cases h2:j+1<(y::r).length
  ·rw[if_pos h2,if_pos (by simp at h2 ⊢;omega)]
   rfl
  ·rw[if_neg h2,if_neg (by simp at h2 ⊢;omega)]
   rfl
theorem fy {l:List ByteArray} (h:af l=true) (j:Nat) (hj:j<l.length):aP (sat (aY l) j)=true∧(sat (aY l) j).size=(sat l 0).size:=by
 obtain⟨h1,h2,h3⟩:=ap.1 h;rw[kf l j hj]
 split
 ·exact⟨Hk (h3 j hj).1,by rw[up];exact(h3 j hj).2⟩
 ·exact h3 j hj
theorem nM {l:List ByteArray} (h:af l=true):af (aY l)=true:=by
 obtain⟨h1,h2,h3⟩:=ap.1 h;refine ap.2 ⟨by rw[cM];exact h1,by rw[cM];exact h2,fun k hk=>?_⟩;rw[cM] at hk;exact⟨(fy h k hk).1,by rw[(fy h k hk).2,(fy h 0 (by omega)).2]⟩
theorem sN {a b:List ByteArray} (hl:a.length=b.length) (h:∀i,i<b.length→sat a i=sat b i):a=b:=by
 apply List.ext_getElem hl
 intro i h1 h2;have:=h i h2;rw[bV a i h1,bV b i h2] at this;exact this
theorem uv {l:List ByteArray} (h:af l=true):bu (aY l)=l:=by
 obtain⟨h1,h2,h3⟩:=ap.1 h
 apply sN (by rw[bW,cM])
 intro i hi;rw[gj (by rw[cM];exact hi),cM];by_cases h4:i+1<l.length
 ·rw[if_pos h4,kf l i hi,if_pos h4];exact Gd (h3 i hi).1
 ·rw[if_neg h4,kf l i hi,if_neg h4]
def aT (l:List ByteArray):Nat→List ByteArray
 |0=>l
 |n+1=>aY (aT l n)
theorem cL (l:List ByteArray) (n:Nat):(aT l n).length=l.length:=by
 induction n with
 |zero=>rfl
 |succ n ih=>show(aY _).length=_;rw[cM,ih]
theorem ek {l:List ByteArray} (h:af l=true) (n:Nat):af (aT l n)=true:=by
 induction n with
 |zero=>exact h
 |succ n ih=>exact nM ih
theorem Bn (l:List ByteArray) (a b:Nat):aH (aH l a) b=aH l (a+b):=by
 induction b with
 |zero=>rfl
 |succ b ih=>rw[eC,ih];rfl
theorem Bo {l:List ByteArray} (h:af l=true) (m k:Nat):aH (aT l (m+k)) k=aT l m:=by
 induction k with
 |zero=>rfl
 |succ k ih=>
  have e:aH (aT l (m+(k+1))) (k+1)=aH (aH (aT l (m+(k+1))) 1) k:=by rw[Bn,Nat.add_comm 1 k]
  rw[e];have e2:aH (aT l (m+(k+1))) 1=aT l (m+k):=uv (ek h (m+k));rw[e2,ih]
theorem xm (l:List ByteArray) (n i:Nat) (h:i<l.length):sat (aH l (n+1)) i=if i+1<l.length then bS (sat (aH l n) i) (sat (aH l n) (i+1)) else sat (aH l n) i:=by
 rw[eC,gj (by rw[eQ];exact h),eQ]
def bY (l:List ByteArray):List ByteArray:=eY (fun i=>sat (aT l (i / 2)) i) l.length
def aZ (l:List ByteArray) (f:Nat):List ByteArray:=eY (fun i=>if i % 2=f∧i+1<l.length then bS (sat l i) (sat l (i+1)) else sat l i) l.length
theorem bU (l:List ByteArray) (f:Nat):(aZ l f).length=l.length:=dU _ _
theorem jn {l:List ByteArray} {f i:Nat} (h:i<l.length):sat (aZ l f) i=if i % 2=f∧i+1<l.length then bS (sat l i) (sat l (i+1)) else sat l i:=ke h
def hN (l:List ByteArray):Nat→List ByteArray
 |0=>l
 |n+1=>aZ (aZ (hN l n) 0) 1
theorem tL (l:List ByteArray) (n:Nat):(hN l n).length=l.length:=by
 induction n with
 |zero=>rfl
 |succ n ih=>show(aZ _ _).length=_;rw[bU,bU,ih]
theorem it (l:List ByteArray):(bY l).length=l.length:=dU _ _
theorem FD {l:List ByteArray} (ok:af l=true) (t:Nat):∀i,i<l.length→sat (hN (bY l) t) i=sat (aH (aT l 3) (3+t-i / 2)) i:=by
 obtain⟨h1,h2,h3⟩:=ap.1 ok;have hD:=cL l 3
 induction t with
 |zero=>
  intro i hi
  show sat (bY l) i=_
  unfold bY;rw[ke hi];have:=Bo ok (i / 2) (3-i / 2);rw[show i / 2+(3-i / 2)=3 by omega] at this;rw[show 3+0-i / 2=3-i / 2 by omega,this]
 |succ t ih=>
  have hl:=tL (bY l) t;rw[it] at hl;have first:∀i,i<l.length→sat (aZ (hN (bY l) t) 0) i=if i % 2=0 then sat (aH (aT l 3) (3+t+1-i / 2)) i else sat (aH (aT l 3) (3+t-i / 2)) i:=by
   intro i hi;rw[jn (by rw[hl];exact hi),hl];by_cases he:i % 2=0
   ·rw[if_pos he,show 3+t+1-i / 2=(3+t-i / 2)+1 by omega,xm _ _ _ (by rw[hD];exact hi),hD];by_cases h4:i+1<l.length
    ·rw[if_pos ⟨he,h4⟩,if_pos h4,ih i hi,ih (i+1) h4,show(i+1) / 2=i / 2 by omega]
    ·rw[if_neg (fun h=>h4 h.2),if_neg h4,ih i hi]
   ·rw[if_neg (fun h=>he h.1),if_neg he,ih i hi]
  intro i hi
  show sat (aZ (aZ (hN (bY l) t) 0) 1) i=_
  rw[jn (by rw[bU,hl];exact hi),bU,hl];by_cases he:i % 2=1
  ·rw[show 3+(t+1)-i / 2=(3+t-i / 2)+1 by omega,xm _ _ _ (by rw[hD];exact hi),hD];have hf:=first i hi;rw[if_neg (by omega)] at hf;by_cases h4:i+1<l.length
   ·have hf1:=first (i+1) h4;rw[if_pos (by omega),show 3+t+1-(i+1) / 2=3+t-i / 2 by omega] at hf1;rw[if_pos ⟨he,h4⟩,if_pos h4,hf,hf1]
   ·rw[if_neg (fun h=>h4 h.2),if_neg h4,hf]
  ·have hf:=first i hi;rw[if_pos (by omega)] at hf;rw[if_neg (fun h=>he h.1),hf,show 3+(t+1)-i / 2=3+t+1-i / 2 by omega]
theorem F2 {l:List ByteArray} (ok:af l=true) (t:Nat):af (hN (bY l) t)=true:=by
 obtain⟨h1,h2,h3⟩:=ap.1 ok;have hl:=tL (bY l) t;rw[it] at hl;have key:∀i,i<l.length→aP (sat (hN (bY l) t) i)=true∧(sat (hN (bY l) t) i).size=(sat l 0).size:=by
  intro i hi;rw[FD ok t i hi];have hk:=eR (ek ok 3) (3+t-i / 2);obtain⟨-,-,k3⟩:=ap.1 hk;have hz:=k3 i (by rw[eQ,cL];exact hi);have z0:=sp (l:=aT l 3) (by rw[cL];omega) (3+t-i / 2);have b0:(sat (aT l 3) 0).size=(sat l 0).size:=by
   have s1:∀x:List ByteArray,af x=true→(sat (aY x) 0).size=(sat x 0).size:=fun x hx=>(fy hx 0 (by have:=(ap.1 hx).1;omega)).2
   show(sat (aY (aT l 2)) 0).size=_
   rw[s1 _ (ek ok 2)]
   show(sat (aY (aT l 1)) 0).size=_
   rw[s1 _ (ek ok 1)]
   show(sat (aY (aT l 0)) 0).size=_
   rw[s1 _ (ek ok 0)]
   rfl
  exact⟨hz.1,by rw[hz.2,z0,b0]⟩
 refine ap.2 ⟨by rw[hl];exact h1,by rw[hl];exact h2,fun k hk=>?_⟩;rw[hl] at hk;exact⟨(key k hk).1,by rw[(key k hk).2,(key 0 (by omega)).2]⟩
def kL (c:ByteArray) (a:Int):ByteArray:=col (md ((cv c:Int)+a) (ten c.size)) c.size
theorem ow (c:ByteArray) (a:Int):(kL c a).size=c.size:=fA _ _
theorem FF {c:ByteArray} (h:aP c=true) (a:Int):aP (kL c a)=true:=by
 have:=aQ h;exact mr _ this.1 this.2.1
attribute [local go_sem ↓] Go.wp_at_zero Go.wp_at_succ
theorem dk (k:Nat) (w:World) (hk:k≤12):
  Calls prog 207 #[.int .i64 k] w fun e w'=>e=.returned (.int .i64 (ten k))∧w=w':=by
 go_enter func207,ntmps207
 go_wp2
 go_loop [3,5] (fun p i=>∃j:Nat,j≤k∧i=.int .i64 j∧p=.int .i64 (ten j)) (fun _ i=>k-(intOf i).toNat)
 case atStart=>exact⟨0,Jy _,rfl,rfl⟩
 case round=>
  obtain⟨j,hj,rfl,rfl⟩:=hrel;have hb:=em (show j≤12 by omega);have hs:=Jj (iw j);by_cases hlt:j<k
  ·go_wp2
   go_round
   case rel=>exact⟨j+1,by omega,by go_num,by rw[hs.out];go_num⟩
   case measure=>simp[intOf];omega
  ·have:j=k:=by omega
   subst this;go_wp2;go_ret;exact⟨rfl,rfl⟩
theorem dx (k:Nat) (w:World) (hk:k≤12):
  Calls prog 150 #[.int .i64 k] w fun e w'=>e=.returned (.int .i64 (ten k))∧w=w':=by
 go_enter func150,ntmps150
 go_wp2
 go_loop [3,4] (fun p i=>∃j:Nat,j≤k∧i=.int .i64 j∧p=.int .i64 (ten j)) (fun _ i=>k-(intOf i).toNat)
 case atStart=>exact⟨0,Jy _,rfl,rfl⟩
 case round=>
  obtain⟨j,hj,rfl,rfl⟩:=hrel;have hb:=em (show j≤12 by omega);have hs:=Jj (iw j);by_cases hlt:j<k
  ·go_wp2
   go_round
   case rel=>exact⟨j+1,by omega,by go_num,by rw[hs.out];go_num⟩
   case measure=>simp[intOf];omega
  ·have:j=k:=by omega
   subst this;go_wp2;go_ret;exact⟨rfl,rfl⟩
theorem tj (n:Int) {M:Nat} (hM:1≤M):(n.tmod M=(md n M:Int))∨(n.tmod M=(md n M:Int)-M∧(md n M:Int)-M<0):=by
 have hc:=pY n hM;have hl:=gW n hM
 rcases Int.le_total 0 n with h|h
 ·left;rw[hc,Int.tmod_eq_emod_of_nonneg h]
 ·by_cases h0:n % (M:Int)=0
  ·left
   rw[hc,h0];exact Int.tmod_eq_zero_of_dvd (Int.dvd_of_emod_eq_zero h0)
  ·right
   refine⟨?_,by omega⟩;rw[hc,Int.tmod_eq_emod,if_neg]
   ·simp
   ·rintro(h1|h1)
    ·have:n=0:=by omega
     subst this;simp at h0
    ·exact h0 (Int.emod_eq_zero_of_dvd h1)
theorem dp (n:Int) (M:Nat) (w:World) (hM:1≤M∧M≤1000000000000):
  Calls prog 206 #[.int .i64 n,.int .i64 M] w fun e w'=>e=.returned (.int .i64 (md n M))∧w=w':=by
 have hl:=gW n hM.1;have h0:((M:Nat):Int)≠0:=by omega
 rcases tj n hM.1 with ht|⟨ht,hneg⟩
 ·have hn:¬((md n M:Nat):Int)<0:=by omega
  go_enter func206,ntmps206
  go_wp2;go_ret;exact⟨rfl,rfl⟩
 ·go_enter func206,ntmps206
  go_wp2;go_ret;exact⟨by go_num,rfl⟩
theorem iX (s:ByteArray) (w:World) (hs:aP s=true):
  Calls prog 204 #[.string s] w fun e w'=>e=.returned (.int .i64 (cv s))∧w=w':=by
 have hsz:=aQ hs;obtain⟨s1,s2,hd⟩:=hsz;have HD:=Jj hd;clear hd;have s3:s.size≤9223372036854775807:=by omega
 go_enter func204,ntmps204
 go_wp2_with (go_at_call 264;refine(fF _ _ (by assumption)).mono ?_;rintro e w' ⟨rfl,rfl⟩)
 go_loop [3,10] (fun v i=>∃k:Nat,k≤s.size∧i=.int .i64 k∧v=.int .i64 (cvN s k)) (fun _ i=>s.size-(intOf i).toNat)
 case atStart=>exact⟨0,Jy _,rfl,rfl⟩
 case round=>
  obtain⟨k,hk,rfl,rfl⟩:=hrel;have HB:=Jj (Jq (vq hs k hk) (em (show k≤12 by omega)));have hb:cvN s k<1000000000000:=by have:=HB.out;omega
  by_cases hlt:k<s.size
  ·have h1:=HD.out k hlt;rw[jz hlt] at h1;have HS:=Jj (show cvN s (k+1)=cvN s k*10+(((s[k].toNat:Nat):Int)-48).toNat by rw[km,jz hlt]);go_wp2
   go_round
   case rel=>exact⟨k+1,by omega,by go_num,by rw[HS.out];go_num⟩
   case measure=>simp[intOf];omega
  ·have hks:k=s.size:=by omega
   subst hks;go_wp2;go_ret;exact⟨rfl,rfl⟩
theorem iU (s:ByteArray) (w:World) (hs:aP s=true):
  Calls prog 149 #[.string s] w fun e w'=>e=.returned (.int .i64 (cv s))∧w=w':=by
 have hsz:=aQ hs;obtain⟨s1,s2,hd⟩:=hsz;have HD:=Jj hd;clear hd
 go_enter func149,ntmps149
 go_wp2
 go_loop [3,4] (fun v i=>∃k:Nat,k≤s.size∧i=.int .i64 k∧v=.int .i64 (cvN s k)) (fun _ i=>s.size-(intOf i).toNat)
 case atStart=>exact⟨0,Jy _,rfl,rfl⟩
 case round=>
  obtain⟨k,hk,rfl,rfl⟩:=hrel;have HB:=Jj (Jq (vq hs k hk) (em (show k≤12 by omega)));have hb:cvN s k<1000000000000:=by have:=HB.out;omega
  by_cases hlt:k<s.size
  ·have h1:=HD.out k hlt;rw[jz hlt] at h1;have HS:=Jj (show cvN s (k+1)=cvN s k*10+(((s[k].toNat:Nat):Int)-48).toNat by rw[km,jz hlt]);go_wp2
   go_round
   case rel=>exact⟨k+1,by omega,by go_num,by rw[HS.out];go_num⟩
   case measure=>simp[intOf];omega
  ·have hks:k=s.size:=by omega
   subst hks;go_wp2;go_ret;exact⟨rfl,rfl⟩
theorem Tryz.infoU8:(prog.info? 5).map (fun i=>(i.zero,i.size,i.bytes))=some (some (.int .u8 0),1,1):=by kernel_rfl
theorem Tryz.mkBytes (n:Nat) (hn:n≤17592186044416) (W:World):(Instr.makeSlice 24 (.int .i64 (n:Int)) (.int .i64 (n:Int))).run prog W =
  .ok (.slice (some ⟨W.heap.size,0,none⟩) n n) (W.alloc (.cells (bz n (.int .u8 0)).toArray 5)):=
 wl 24 5 _ 1 Tryz.underlying24 Tryz.infoU8 rfl n (by omega) (by omega) W
theorem Tryz.convBlk (W:World) (g n:Nat) (cs:List Value) (xs:List Int) (hb:Blk W g 5 cs) (hn:xs.length=n) (hcs:∀j,j<n→cs[j]?=some (.int .u8 (at_ xs j))):
  (convert 24 9 (.slice (some ⟨g,0,none⟩) n n)).run prog W=.ok (.string (strOfNums xs)) W:=
 run_convert_bytes_arg (P:=prog) _ 24 5 Tryz.underlying24 Tryz.underlying5 g 0 n n xs hn (fun i hi=>by
  rw[Nat.zero_add,hb.cell,hcs i hi];rfl) 9 Tryz.underlying9
theorem ov (v n:Nat) (w:World) (hv:v<1000000000000) (hn:n≤12):
  Calls prog 205 #[.int .i64 v,.int .i64 n] w fun e w'=>e=.returned (.string (col v n))∧Below w.heap.size w w':=by
 have hmk:=fun W=>Tryz.mkBytes n (by omega) W
 go_enter func205,ntmps205
 go_wp2
 go_loopw [0,6] (fun x i wr=>∃(k:Nat) (cs:List Value),k≤n∧i=.int .i64 ((k:Int)-1)∧x=.int .i64 ((v / ten (n-k):Nat):Int)∧Blk wr w.heap.size 5 cs∧cs.length=n∧(∀j,k≤j→j<n→cs[j]?=some (.int .u8 (gp v n j)))∧Below w.heap.size w wr)
  (fun _ i _=>(intOf i+1).toNat)
 case atStart=>exact⟨n,_,Jr _,rfl,by rw[Nat.sub_self,oA,Nat.div_one],Blk.new _ _ _,bi _ _,fun j h1 h2=>absurd h1 (by omega),ab w _⟩
 case round=>
  obtain⟨k,cs,hk,rfl,rfl,hblk,hcl,hcs,hbel⟩:=hrel;have H:=Jj (Jq hcl (Jq hcs hbel));clear hcl hcs hbel;by_cases hk0:k=0
  ·subst hk0;have hcv:=Tryz.convBlk wr w.heap.size n cs (gen (gp v n) n) hblk (ar _ _) (fun j hj=>by rw[bP hj];exact H.out.2.1 j (Jy _) hj);go_wp2;go_ret;exact⟨rfl,H.out.2.2⟩
  ·obtain⟨k,rfl⟩:∃j,k=j+1:=⟨k-1,by omega⟩;have hq:v / ten (n-(k+1))<1000000000000:=Nat.lt_of_le_of_lt (Nat.div_le_self _ _) hv;have HQ:=Jj (show v / ten (n-k)=v / ten (n-(k+1)) / 10 by
    rw[show n-k=n-(k+1)+1 by omega,iw,Nat.div_div_eq_div_mul])
   have HWh:=Jj (show gp v n k=48+((v / ten (n-(k+1)) % 10:Nat):Int) by
    unfold gp;rw[show n-1-k=n-(k+1) by omega])
   generalize hx:v / ten (n-(k+1))=x at *;have HX:=Jj hx;clear hx;have hcw:wr.cell? ⟨w.heap.size,k,none⟩=some (cs[k]'(by rw[H.out.1];omega)):=by rw[hblk.cell];exact List.getElem?_eq_getElem _
   have hfw:=hblk.frozen k;go_wp2;go_roundw
   case rel=>
    refine⟨k,_,by omega,by go_num,by rw[HQ.out];go_num,hblk.set_ k _,by rw[List.length_set];exact H.out.1,fun j h1 h2=>?_,H.out.2.2.setCell (Jr _) _⟩;by_cases e:j=k
    ·subst e;rw[List.getElem?_set_self (by rw[H.out.1];omega),HWh.out];go_num
    ·rw[List.getElem?_set_ne (by omega)];exact H.out.2.1 j (by omega) h2
   case measure=>simp[intOf] <;> omega
theorem mw (k:Nat):((ten k:Nat):Int) / 2=(dK k:Nat):=by unfold dK;omega
theorem EY {k:Nat} (h:1≤k):(-((ten k:Nat):Int)).tdiv 2 = -((dK k:Nat):Int):=by
 rw[FI h,Int.neg_tdiv]
 congr 1
 push_cast
 exact Int.mul_tdiv_cancel_left _ (by decide)
def bl (n width:Int):Bool:=inB width 1 12&&pj n width.toNat
def dM (n width:Int):ByteArray:=if bl n width=true then pS n width.toNat else⟨#[]⟩
theorem dB (n:Int) {k:Nat} (h:1≤k∧k≤12):bl n k=pj n k:=by
 have:inB (k:Int) 1 12=true:=am.2 (by omega);simp[bl,this]
theorem gG (n:Int) {k:Int} (h:inB k 1 12=false):bl n k=false:=by simp[bl,h]
theorem mq {n k:Int} (h:bl n k=false):dM n k=⟨#[]⟩:=by simp[dM,h]
theorem rl {n:Int} {k:Nat} (h:bl n k=true):dM n k=col (md n (ten k)) k:=by simp[dM,h,pS]
theorem oH (n width:Int) (w:World) (hn : -9223372036854775808≤n∧n≤9223372036854775807):
  Calls prog 198 #[.int .i64 n,.int .i64 width] w fun e w'=>e=.returned (.tuple #[.string (dM n width),.bool (bl n width)])∧Below w.heap.size w w':=by
 cases hw:inB width 1 12
 ·have h:=Jj (Jq (gG n hw) (mq (gG n hw)))
  go_enter func198,ntmps198
  go_wp2_with (go_at_call 262;refine(dd _ _).mono ?_;rintro e w' ⟨rfl,rfl⟩)
  go_ret2;exact⟨by rw[h.out.1,h.out.2];rfl,Below.refl _ _⟩
 ·have hw':=am.1 hw;obtain⟨k,rfl⟩:∃k:Nat,width=k:=⟨width.toNat,by omega⟩;have hk1:1≤k:=by omega
  have hk:k≤12:=by omega
  have hT:=em hk;have hT1:=fV k;have hh:=mw k;have hh2:=EY hk1;have hhb:dK k≤1000000000000:=by unfold dK;omega
  have hlt:=Jj (gW n hT1);have hm:md n (ten k)<1000000000000:=by have:=hlt.out;omega
  cases hf:pj n k
  ·have h:=Jj (Jq ((dB n ⟨hk1,hk⟩).trans hf) (mq ((dB n ⟨hk1,hk⟩).trans hf)));have hf':=bm.1 hf;by_cases h1:n < -(dK k:Int)
   ·go_enter func198,ntmps198
    go_wp2_with (first|(go_at_call 262;refine(dd _ _).mono ?_;rintro e w' ⟨rfl,rfl⟩)|(go_at_call 207;refine(dk k _ hk).mono ?_;rintro e w' ⟨rfl,rfl⟩))
    go_ret2;exact⟨by rw[h.out.1,h.out.2];rfl,Below.refl _ _⟩
   ·have h2:(dK k:Int)≤n:=by omega
    go_enter func198,ntmps198
    go_wp2_with (first|(go_at_call 262;refine(dd _ _).mono ?_;rintro e w' ⟨rfl,rfl⟩)|(go_at_call 207;refine(dk k _ hk).mono ?_;rintro e w' ⟨rfl,rfl⟩))
    go_ret2;exact⟨by rw[h.out.1,h.out.2];rfl,Below.refl _ _⟩
  ·have h:=Jj (Jq ((dB n ⟨hk1,hk⟩).trans hf) (rl ((dB n ⟨hk1,hk⟩).trans hf)));have hf':=am.1 hf;have h1:¬n < -(dK k:Int):=by omega
   have h2:¬(dK k:Int)≤n:=by omega
   go_enter func198,ntmps198
   go_wp2_with (first|(go_at_call 262;refine(dd _ _).mono ?_;rintro e w' ⟨rfl,rfl⟩)|(go_at_call 207;refine(dk k _ hk).mono ?_;rintro e w' ⟨rfl,rfl⟩)|(go_at_call 206;refine(dp n (ten k) _ ⟨hT1,hT⟩).mono ?_;rintro e w' ⟨rfl,rfl⟩))
   refine(ov (md n (ten k)) k _ hm hk).mono ?_;rintro e w' ⟨rfl,hb⟩;go_wp2;go_ret2;exact⟨by rw[h.out.1,h.out.2];rfl,hb⟩
theorem ut {q T:Nat} (h:q<T):(((q:Nat):Int)+(T:Int)).tmod T=q∧((q:Nat):Int).tmod T=q:=by
 rw[Int.tmod_eq_emod_of_nonneg (by omega),Int.tmod_eq_emod_of_nonneg (by omega)]
 constructor
 ·rw[Int.add_emod_right];exact Int.emod_eq_of_lt (by omega) (by omega)
 ·exact Int.emod_eq_of_lt (by omega) (by omega)
theorem lE (n:Int) (k:Nat) (w:World) (hn : -9223372036854775808≤n∧n≤9223372036854775807) (hk:1≤k∧k≤12):
  Calls prog 162 #[.int .i64 n,.int .i64 k] w fun e w'=>e=.returned (.string (col (md n (ten k)) k))∧Below w.heap.size w w':=by
 have hmk:=fun W=>Tryz.mkBytes k (by omega) W;have hT:=em hk.2;have hT1:=fV k;have hlt:=gW n hT1;obtain⟨e1,e2⟩:=ut hlt;have e3:(((md n (ten k):Nat):Int)-(ten k:Int)+(ten k:Int)).tmod (ten k)=md n (ten k):=by rw[Int.sub_add_cancel];exact e2
 have hT0:((ten k:Nat):Int)≠0:=by omega
 have hv:md n (ten k)<1000000000000:=by omega
 have HE:=Jj (Jq e1 (Jq e2 e3));clear e1 e2 e3;have fin:∀(W:World),Below w.heap.size w W→∀(v:Nat),v<1000000000000→True:=fun _ _ _ _=>trivial
 rcases tj n hT1 with ht|⟨ht,hneg⟩
 all_goals
  obtain⟨e1,e2,e3⟩:=HE.out
  go_enter func162,ntmps162
  go_wp2_with fail
  go_quiet ((go_at_call 150;first|exact jW (dx k _ hk.2)|exact fP (dx k _ hk.2)))
  go_wp2_with fail
  clear e1 e2 e3;generalize hmdv:md n (ten k)=v at *
  go_loopw [0,6] (fun x i wr=>∃(j:Nat) (cs:List Value),j≤k∧i=.int .i64 ((j:Int)-1)∧x=.int .i64 ((v / ten (k-j):Nat):Int)∧Blk wr w.heap.size 5 cs∧cs.length=k∧(∀i,j≤i→i<k→cs[i]?=some (.int .u8 (gp v k i)))∧Below w.heap.size w wr)
   (fun _ i _=>(intOf i+1).toNat)
  case atStart=>exact⟨k,_,Jr _,rfl,by rw[Nat.sub_self,oA,Nat.div_one],Blk.new (w.drewN _) _ _,bi _ _,fun j h1 h2=>absurd h1 (by omega),(aV (Below.refl _ _) _).alloc (Jr _) _⟩
  case round=>
   obtain⟨j,cs,hj,rfl,rfl,hblk,hcl,hcs,hbel⟩:=hrel;have H:=Jj (Jq hcl (Jq hcs hbel));clear hcl hcs hbel;by_cases hk0:j=0
   ·subst hk0;have hcv:=Tryz.convBlk wr w.heap.size k cs (gen (gp v k) k) hblk (ar _ _) (fun j hj=>by rw[bP hj];exact H.out.2.1 j (Jy _) hj);go_wp2;go_ret;exact⟨by rw[hmdv];rfl,H.out.2.2⟩
   ·obtain⟨j,rfl⟩:∃i,j=i+1:=⟨j-1,by omega⟩;have hq:v / ten (k-(j+1))<1000000000000:=Nat.lt_of_le_of_lt (Nat.div_le_self _ _) hv;have HQ:=Jj (show v / ten (k-j)=v / ten (k-(j+1)) / 10 by
     rw[show k-j=k-(j+1)+1 by omega,iw,Nat.div_div_eq_div_mul])
    have HWh:=Jj (show gp v k j=48+((v / ten (k-(j+1)) % 10:Nat):Int) by
     unfold gp;rw[show k-1-j=k-(j+1) by omega])
    generalize hx:v / ten (k-(j+1))=x at *;have HX:=Jj hx;clear hx;have hcw:wr.cell? ⟨w.heap.size,j,none⟩=some (cs[j]'(by rw[H.out.1];omega)):=by rw[hblk.cell];exact List.getElem?_eq_getElem _
    have hfw:=hblk.frozen j;go_wp2;go_roundw
    case rel=>
     refine⟨j,_,by omega,by go_num,by rw[HQ.out];go_num,hblk.set_ j _,by rw[List.length_set];exact H.out.1,fun i h1 h2=>?_,H.out.2.2.setCell (Jr _) _⟩;by_cases e:i=j
     ·subst e;rw[List.getElem?_set_self (by rw[H.out.1];omega),HWh.out];go_num
     ·rw[List.getElem?_set_ne (by omega)];exact H.out.2.1 i (by omega) h2
    case measure=>simp[intOf] <;> omega
theorem lD (n:Int) (k:Nat) (w:World) (hk:k≤12):
  Calls prog 232 #[.int .i64 n,.int .i64 k] w fun e w'=>e=.returned (.bool (pj n k))∧w=w':=by
 have hT:=em hk;have hh:=mw k;have hhb:dK k≤1000000000000:=by unfold dK;omega
 cases hf:pj n k
 ·have hf':=bm.1 hf;by_cases h1:n < -(dK k:Int)
  ·go_enter func232,ntmps232
   go_wp2_with ((go_at_call 150;refine(dx k _ hk).mono ?_;rintro e w' ⟨rfl,rfl⟩))
   go_ret;exact⟨rfl,rfl⟩
  ·have h2:(dK k:Int)≤n:=by omega
   go_enter func232,ntmps232
   go_wp2_with ((go_at_call 150;refine(dx k _ hk).mono ?_;rintro e w' ⟨rfl,rfl⟩))
   go_ret;exact⟨aD (by simp;omega),rfl⟩
 ·have hf':=am.1 hf;have h1 : -(dK k:Int)≤n:=by omega
  have h2:n<(dK k:Int):=by omega
  go_enter func232,ntmps232
  go_wp2_with ((go_at_call 150;refine(dx k _ hk).mono ?_;rintro e w' ⟨rfl,rfl⟩))
  go_ret;exact⟨rfl,rfl⟩
theorem uH (n width:Int) (w:World) (hn : -9223372036854775808≤n∧n≤9223372036854775807):
  Calls prog 159 #[.int .i64 n,.int .i64 width] w fun e w'=>e=.returned (.tuple #[.string (dM n width),.bool (bl n width)])∧Below w.heap.size w w':=by
 cases hw:inB width 1 12
 ·have h:=Jj (Jq (gG n hw) (mq (gG n hw)))
  go_enter func159,ntmps159
  go_wp2_with (go_at_call 158;refine(dV _ _).mono ?_;rintro e w' ⟨rfl,rfl⟩)
  go_ret2;exact⟨by rw[h.out.1,h.out.2];rfl,Below.refl _ _⟩
 ·have hw':=am.1 hw;obtain⟨k,rfl⟩:∃k:Nat,width=k:=⟨width.toNat,by omega⟩;have hk1:1≤k:=by omega
  have hk:k≤12:=by omega
  cases hf:pj n k
  ·have h:=Jj (Jq ((dB n ⟨hk1,hk⟩).trans hf) (mq ((dB n ⟨hk1,hk⟩).trans hf)))
   go_enter func159,ntmps159
   go_wp2_with (first|(go_at_call 158;refine(dV _ _).mono ?_;rintro e w' ⟨rfl,rfl⟩)|(go_at_call 232;refine(lD _ k _ hk).mono ?_;rintro e w' ⟨rfl,rfl⟩))
   go_ret2;exact⟨by rw[h.out.1,h.out.2];rfl,Below.refl _ _⟩
  ·have h:=Jj (Jq ((dB n ⟨hk1,hk⟩).trans hf) (rl ((dB n ⟨hk1,hk⟩).trans hf)))
   go_enter func159,ntmps159
   go_wp2_with (first|(go_at_call 158;refine(dV _ _).mono ?_;rintro e w' ⟨rfl,rfl⟩)|(go_at_call 232;refine(lD _ k _ hk).mono ?_;rintro e w' ⟨rfl,rfl⟩))
   refine(lE n k _ hn ⟨hk1,hk⟩).mono ?_;rintro e w' ⟨rfl,hb⟩;go_wp2;go_ret2;exact⟨by rw[h.out.1,h.out.2];rfl,hb⟩
theorem qk (s t:ByteArray) (w:World) (hs:aP s=true) (ht:aP t=true) (he:s.size=t.size):
  Calls prog 250 #[.string s,.string t] w fun e w'=>e=.returned (.tuple #[.string (bS s t),.bool true])∧Below w.heap.size w w':=by
 have ha:=eG.2 ⟨hs,ht,he⟩;have s3:s.size≤9223372036854775807:=by have:=aQ hs;omega
 have t3:t.size≤9223372036854775807:=by have:=aQ ht;omega
 have k12:=(aQ hs).2.1;have c1:=iz hs;have c2:=iz ht;have hT:=em k12;have hT1:=fV s.size;have hm:(cv s+cv t) % ten s.size<1000000000000:=by have:=Nat.mod_lt (cv s+cv t) (show 0<ten s.size by omega);omega
 have hmd:=CX (cv s+cv t) (ten s.size);have HE:=Jj he;clear he
 go_enter func250,ntmps250
 go_wp2_with (first|(go_at_call 249;refine(jd _ _ _ (by assumption) (by assumption)).mono ?_;rintro e w' ⟨rfl,rfl⟩)|(go_at_call 204;refine(iX _ _ (by assumption)).mono ?_;rintro e w' ⟨rfl,rfl⟩)|(go_at_call 207;refine(dk s.size _ k12).mono ?_;rintro e w' ⟨rfl,rfl⟩))
 refine(dp ((cv s+cv t:Nat):Int) (ten s.size) _ ⟨hT1,hT⟩).mono ?_;rintro e w' ⟨rfl,rfl⟩;rw[hmd]
 go_wp2_with fail
 refine(ov _ s.size _ hm k12).mono ?_;rintro e w' ⟨rfl,hb⟩;go_wp2;go_ret2;exact⟨rfl,hb⟩
theorem nW (s t:ByteArray) (w:World) (hs:aP s=true) (ht:aP t=true) (he:s.size=t.size):
  Calls prog 145 #[.string s,.string t] w fun e w'=>e=.returned (.string (bS s t))∧Below w.heap.size w w':=by
 have k12:=(aQ hs);have c1:=iz hs;have c2:=iz ht;have hmd:=CX (cv s+cv t) (ten s.size);have HE:=Jj he;clear he
 go_enter func145,ntmps145
 go_wp2_with ((go_at_call 149;refine(iU _ _ (by assumption)).mono ?_;rintro e w' ⟨rfl,rfl⟩))
 refine(lE ((cv s+cv t:Nat):Int) s.size _ (by omega) ⟨k12.1,k12.2.1⟩).mono ?_;rintro e w' ⟨rfl,hb⟩;rw[hmd];go_wp2;go_ret;exact⟨rfl,hb⟩
theorem wY (s:ByteArray) (w:World) (hs:aP s=true):
  Calls prog 253 #[.string s] w fun e w'=>e=.returned (.tuple #[.int .i64 (sg s),.bool true])∧w=w':=by
 have s3:s.size≤9223372036854775807:=by have:=aQ hs;omega
 have k12:=(aQ hs).2.1;have c1:=iz hs;have hT:=em k12;have hh:=mw s.size;have hhb:dK s.size≤1000000000000:=by unfold dK;omega
 by_cases h:dK s.size≤cv s
 ·have hs':=Jj (F7 h)
  go_enter func253,ntmps253
  go_wp2_with (first|(go_at_call 264;refine(fF _ _ (by assumption)).mono ?_;rintro e w' ⟨rfl,rfl⟩)|(go_at_call 204;refine(iX _ _ (by assumption)).mono ?_;rintro e w' ⟨rfl,rfl⟩)|(go_at_call 207;refine(dk s.size _ k12).mono ?_;rintro e w' ⟨rfl,rfl⟩))
  go_ret2;exact⟨by rw[hs'.out];rfl,rfl⟩
 ·have hs':=Jj (F8 h)
  go_enter func253,ntmps253
  go_wp2_with (first|(go_at_call 264;refine(fF _ _ (by assumption)).mono ?_;rintro e w' ⟨rfl,rfl⟩)|(go_at_call 204;refine(iX _ _ (by assumption)).mono ?_;rintro e w' ⟨rfl,rfl⟩)|(go_at_call 207;refine(dk s.size _ k12).mono ?_;rintro e w' ⟨rfl,rfl⟩))
  go_ret2;exact⟨by rw[hs'.out];rfl,rfl⟩
theorem lM (s:ByteArray) (w:World) (hs:aP s=true):
  Calls prog 187 #[.string s] w fun e w'=>e=.returned (.int .i64 (sg s))∧w=w':=by
 go_enter func187,ntmps187
 go_wp2_with ((go_at_call 253;refine(wY s _ hs).mono ?_;rintro e w' ⟨rfl,rfl⟩))
 go_ret;exact⟨rfl,rfl⟩
theorem jL (s:ByteArray) (w:World) (hs:aP s=true):
  Calls prog 70 #[.string s] w fun e w'=>e=.returned (.int .i64 (sg s))∧w=w':=by
 have k12:=(aQ hs).2.1;have c1:=iz hs;have hT:=em k12;have hh:=mw s.size;have hhb:dK s.size≤1000000000000:=by unfold dK;omega
 by_cases h:dK s.size≤cv s
 ·have hs':=Jj (F7 h)
  go_enter func70,ntmps70
  go_wp2_with (first|(go_at_call 149;refine(iU _ _ (by assumption)).mono ?_;rintro e w' ⟨rfl,rfl⟩)|(go_at_call 150;refine(dx s.size _ k12).mono ?_;rintro e w' ⟨rfl,rfl⟩))
  go_ret;exact⟨by rw[hs'.out];rfl,rfl⟩
 ·have hs':=Jj (F8 h)
  go_enter func70,ntmps70
  go_wp2_with (first|(go_at_call 149;refine(iU _ _ (by assumption)).mono ?_;rintro e w' ⟨rfl,rfl⟩)|(go_at_call 150;refine(dx s.size _ k12).mono ?_;rintro e w' ⟨rfl,rfl⟩))
  go_ret;exact⟨by rw[hs'.out];rfl,rfl⟩
end Go.Proofs.YtfmjklgfpiffbaaGreatDoor
