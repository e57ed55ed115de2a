/-
  Parts of the proof of one statement, merged: Mark EngKit ColPlain Cols WhP WhQ.
-/
import Derived.Deep.DrawnRows
import Derived.Deep.RegionLaw
import Derived.Test.YtfmjklgfpiffbaaGreatDoorQ2
namespace Go.Proofs.YtfmjklgfpiffbaaGreatDoor
open Go.RowKit Go.Proofs.Tryz
set_option linter.unusedVariables false
set_option linter.unusedSimpArgs false
set_option maxRecDepth 100000
set_option maxHeartbeats 8000000
attribute [local go_sem ↓] Go.wp_at_zero Go.wp_at_succ
theorem Tryz.conv1 (z:Int) (W:World):(convert 24 9 (.slice (some ⟨W.heap.size,0,none⟩) 1 1)).run prog (W.alloc (.cells #[.int .u8 z] 5))=.ok (.string (strOfNums [z])) (W.alloc (.cells #[.int .u8 z] 5)):=
 run_convert_bytes_arg (P:=prog) _ 24 5 Tryz.underlying24 Tryz.underlying5 W.heap.size 0 1 1 [z] rfl (fun i hi=>by
  obtain rfl:i=0:=by omega
  exact bF W _ (.int .u8 z)) 9 Tryz.underlying9
end Go.Proofs.YtfmjklgfpiffbaaGreatDoor
namespace Go.Proofs.YtfmjklgfpiffbaaGreatDoor
open Go.RowKit Go.Proofs.Tryz
set_option linter.unusedVariables false
set_option linter.unusedSimpArgs false
set_option maxRecDepth 100000
set_option maxHeartbeats 8000000
theorem Blk.one {w:World} {g:Nat} {t:TypeId} {v:Value} (h:Blk w g t [v]):w.cell? ⟨g,0,none⟩=some v∧w.frozen? ⟨g,0,none⟩=false:=⟨by rw[h.cell];rfl,h.frozen 0⟩
theorem Blk.new' (w:World) (t:TypeId) (v:Value) (g:Nat) (hg:g=w.heap.size):Blk (w.alloc (.cells #[v] t)) g t [v]:=by subst hg;exact Blk.new w t [v]
theorem ak.lower {w:World} {base base':Nat} {v:Value} {l:List ByteArray} (h:ak w base v l) (hb:base'≤base):ak w base' v l:=by
 refine⟨⟨h.1.1,?_⟩,h.2⟩
 rcases h.1.2 with q|⟨g1,cap,cur,q1,q2,q3⟩
 ·exact .inl q
 ·exact .inr ⟨g1,cap,cur,q1,by omega,q3⟩
theorem ak.setCell {w:World} {base:Nat} {v:Value} {l:List ByteArray} (h:ak w base v l) (p:Addr) (u:Value) (hp:p.block<base):ak (w.setCell p u) base v l:=
 h.far (row:=some p.block) (eL (World.grownBy.refl w (some p.block)) (.inl rfl) u) (fun k hk=>by injection hk with hk;omega)
def ten (k:Nat):Nat:=10 ^ k
theorem n7:ten 0=1:=rfl
theorem ib (k:Nat):ten (k+1)=ten k*10:=by simp[ten,Nat.pow_succ]
theorem fL (k:Nat):1≤ten k:=Nat.one_le_pow _ _ (by decide)
theorem Ep {j k:Nat} (h:j≤k):ten j≤ten k:=Nat.pow_le_pow_right (by decide) h
theorem eh {k:Nat} (h:k≤12):ten k≤1000000000000:=by
 have:=Ep h
 have e:ten 12=1000000000000:=by decide
 omega
def dG (k:Nat):Nat:=ten k / 2
theorem Du {k:Nat} (h:1≤k):ten k=2*dG k:=by
 obtain⟨j,rfl⟩:∃j,k=j+1:=⟨k-1,by omega⟩
 have:=ib j
 unfold dG
 omega
def md (n:Int) (m:Nat):Nat:=(n % (m:Int)).toNat
theorem pr (n:Int) {m:Nat} (h:1≤m):((md n m:Nat):Int)=n % (m:Int):=by
 have:=Int.emod_nonneg n (b:=(m:Int)) (by omega)
 unfold md;omega
theorem gP (n:Int) {m:Nat} (h:1≤m):md n m<m:=by
 have:=Int.emod_lt_of_pos n (b:=(m:Int)) (by omega)
 have:=pr n h
 omega
theorem C2 (x m:Nat):md (x:Int) m=x % m:=by
 unfold md
 rw[←Int.natCast_emod];rfl
def fV (v n j:Nat):Int:=48+((v / ten (n-1-j) % 10:Nat):Int)
theorem vU (v n j:Nat):48≤fV v n j∧fV v n j≤57:=by
 unfold fV;omega
def col (v n:Nat):ByteArray:=strOfNums (gen (fV v n) n)
theorem fB (v n:Nat):(col v n).size=n:=by rw[col,strOfNums_size,aq]
theorem tM {xs:List Int} {j:Nat} (hj:j<xs.length) (h:0≤at_ xs j∧at_ xs j≤255):bat (strOfNums xs) j=at_ xs j:=by
 have hs:j<(strOfNums xs).size:=by rw[strOfNums_size];exact hj
 rw[jC hs]
 have e:(strOfNums xs)[j]=UInt8.ofNat (at_ xs j).toNat:=by
  rw[ByteArray.getElem_eq_getElem_data,fx xs j hj]
  simp[strOfNums]
 rw[e]
 have:(at_ xs j).toNat<256:=by omega
 have e2:(UInt8.ofNat (at_ xs j).toNat).toNat=(at_ xs j).toNat:=by simp;omega
 rw[e2];omega
theorem rQ {v n j:Nat} (h:j<n):bat (col v n) j=fV v n j:=by
 have hb:=vU v n j
 rw[col,tM (by rw[aq];exact h) (by rw[bS h];omega),bS h]
theorem me (v:Nat) {n:Nat} (h1:1≤n) (h2:n≤12):aU (col v n)=true:=
 qt (by rw[fB];exact h1) (by rw[fB];exact h2) fun j hj=>by
  rw[fB] at hj
  rw[rQ hj]
  exact vU v n j
def cvN (s:ByteArray):Nat→Nat
 |0=>0
 |k+1=>cvN s k*10+(bat s k-48).toNat
def cv (s:ByteArray):Nat:=cvN s s.size
theorem EC (s:ByteArray):cvN s 0=0:=rfl
theorem kf (s:ByteArray) (k:Nat):cvN s (k+1)=cvN s k*10+(bat s k-48).toNat:=rfl
theorem uA {s:ByteArray} (h:aU s=true):∀k,k≤s.size→cvN s k<ten k:=by
 intro k
 induction k with
 |zero=>intro _;exact Nat.one_pos
 |succ k ih=>
  intro hk
  have:=ih (by omega)
  have:=(aT h).2.2 k (by omega)
  rw[kf,ib]
  omega
theorem zL {s:ByteArray} (h:aU s=true):cv s<ten s.size:=uA h _ (Ig _)
theorem iA {s:ByteArray} (h:aU s=true):cv s<1000000000000:=by
 have:=zL h
 have:=eh (aT h).2.1
 omega
theorem Cx {v n:Nat} (h:v<ten n):cv (col v n)=v:=by
 have key:∀k,k≤n→cvN (col v n) k=v / ten (n-k):=by
  intro k
  induction k with
  |zero=>intro _;rw[EC,Nat.sub_zero,Nat.div_eq_of_lt h]
  |succ k ih=>
   intro hk
   rw[kf,ih (by omega),rQ (by omega),fV]
   have e1:n-k=(n-(k+1))+1:=by omega
   have e2:n-1-k=n-(k+1):=by omega
   rw[e2,e1,ib,←Nat.div_div_eq_div_mul]
   have:((48:Int)+((v / ten (n-(k+1)) % 10:Nat):Int)-48).toNat=v / ten (n-(k+1)) % 10:=by omega
   rw[this]
   omega
 have:=key n (Ig _)
 rw[Nat.sub_self,n7,Nat.div_one] at this
 rw[cv,fB,this]
def sg (s:ByteArray):Int:=if dG s.size≤cv s then(cv s:Int)-(ten s.size:Int) else(cv s:Int)
theorem E6 {s:ByteArray} (h:dG s.size≤cv s):sg s=(cv s:Int)-(ten s.size:Int):=by simp[sg,h]
theorem E1 {s:ByteArray} (h:¬dG s.size≤cv s):sg s=(cv s:Int):=by simp[sg,h]
theorem nV {s:ByteArray} (h:aU s=true) : -1000000000000≤sg s∧sg s≤1000000000000:=by
 have:=zL h
 have:=iA h
 have:=eh (aT h).2.1
 unfold sg
 split <;> omega
def oR (n:Int) (k:Nat):Bool:=inB n (-(dG k:Int)) ((dG k:Int)-1)
def px (n:Int) (k:Nat):ByteArray:=col (md n (ten k)) k
theorem nl (n:Int) (k:Nat):(px n k).size=k:=fB _ _
theorem xv (n:Int) {k:Nat} (h1:1≤k) (h2:k≤12):aU (px n k)=true:=me _ h1 h2
def bU (a b:ByteArray):ByteArray:=col ((cv a+cv b) % ten a.size) a.size
theorem ou (a b:ByteArray):(bU a b).size=a.size:=fB _ _
theorem sh {a b:ByteArray} (h:aU a=true):aU (bU a b)=true:=by
 have:=aT h
 exact me _ this.1 this.2.1
def bB (l:List ByteArray):List ByteArray:=eW (fun i=>if i+1<l.length then bU (sat l i) (sat l (i+1)) else sat l i) l.length
theorem b9 (l:List ByteArray):(bB l).length=l.length:=dS _ _
theorem fZ {l:List ByteArray} {i:Nat} (h:i<l.length):sat (bB l) i=if i+1<l.length then bU (sat l i) (sat l (i+1)) else sat l i:=jR h
theorem nz {l:List ByteArray} {i:Nat} (h:i<l.length):(sat (bB l) i).size=(sat l i).size:=by
 rw[fZ h];split
 ·exact ou _ _
 ·rfl
theorem ap {l:List ByteArray}:af l=true↔1≤l.length∧l.length≤7∧∀k,k<l.length→aU (sat l k)=true∧(sat l k).size=(sat l 0).size:=by
 rw[jG]
 constructor
 ·rintro⟨a,b,c⟩
  exact⟨a,b,fun k hk=>⟨(eF.1 (c k hk)).2.1,(eF.1 (c k hk)).2.2.symm⟩⟩
 ·rintro⟨a,b,c⟩
  exact⟨a,b,fun k hk=>eF.2 ⟨(c 0 (by omega)).1,(c k hk).1,(c k hk).2.symm⟩⟩
theorem lm {l:List ByteArray} (h:af l=true):af (bB l)=true:=by
 obtain⟨h1,h2,h3⟩:=ap.1 h
 refine ap.2 ⟨by rw[b9];exact h1,by rw[b9];exact h2,fun k hk=>?_⟩
 rw[b9] at hk
 refine⟨?_,by rw[nz hk,nz (by omega)];exact(h3 k hk).2⟩
 rw[fZ hk]
 split
 ·exact sh (h3 k hk).1
 ·exact(h3 k hk).1
def aH (l:List ByteArray):Nat→List ByteArray
 |0=>l
 |n+1=>bB (aH l n)
theorem el (l:List ByteArray) (n:Nat):aH l (n+1)=bB (aH l n):=rfl
theorem eP (l:List ByteArray) (n:Nat):(aH l n).length=l.length:=by
 induction n with
 |zero=>rfl
 |succ n ih=>rw[el,b9,ih]
theorem eR {l:List ByteArray} (h:af l=true) (n:Nat):af (aH l n)=true:=by
 induction n with
 |zero=>exact h
 |succ n ih=>exact lm ih
theorem qD {l:List ByteArray} (h:0<l.length) (n:Nat):(sat (aH l n) 0).size=(sat l 0).size:=by
 induction n with
 |zero=>rfl
 |succ n ih=>rw[el,nz (by rw[eP];exact h),ih]
theorem iM {l:List ByteArray} (h:af l=true):WfS l:=by
 obtain⟨h1,h2,h3⟩:=ap.1 h
 intro s hs
 obtain⟨k,hk,rfl⟩:=List.getElem_of_mem hs
 rw[←bX l k hk]
 have:=aT (h3 k hk).1
 omega
def rT (l:List ByteArray) (n:Nat):List Int:=gen (fun i=>sg (sat (aH l i) 0)) n
end Go.Proofs.YtfmjklgfpiffbaaGreatDoor
namespace Go.Proofs.YtfmjklgfpiffbaaGreatDoor
open Go.RowKit Go.Proofs.Tryz
set_option linter.unusedVariables false
set_option linter.unusedSimpArgs false
set_option maxRecDepth 100000
set_option maxHeartbeats 8000000
attribute [local go_sem ↓] Go.wp_at_zero Go.wp_at_succ
theorem dh (k:Nat) (w:World) (hk:k≤12):
  Calls prog 207 #[.int .i64 k] w fun e w'=>e=.returned (.int .i64 (ten k))∧w=w':=by
 go_enter func207,ntmps207
 go_wp2
 go_loop [3,5] (fun p i=>∃j:Nat,j≤k∧i=.int .i64 j∧p=.int .i64 (ten j)) (fun _ i=>k-(intOf i).toNat)
 case atStart=>exact⟨0,Ip _,rfl,rfl⟩
 case round=>
  obtain⟨j,hj,rfl,rfl⟩:=hrel
  have hb:=eh (show j≤12 by omega)
  have hs:=Hy (ib j)
  by_cases hlt:j<k
  ·go_wp2
   go_round
   case rel=>exact⟨j+1,by omega,by go_num,by rw[hs.out];go_num⟩
   case measure=>simp[intOf];omega
  ·have:j=k:=by omega
   subst this
   go_wp2
   go_ret
   exact⟨rfl,rfl⟩
theorem dp (k:Nat) (w:World) (hk:k≤12):
  Calls prog 150 #[.int .i64 k] w fun e w'=>e=.returned (.int .i64 (ten k))∧w=w':=by
 go_enter func150,ntmps150
 go_wp2
 go_loop [3,4] (fun p i=>∃j:Nat,j≤k∧i=.int .i64 j∧p=.int .i64 (ten j)) (fun _ i=>k-(intOf i).toNat)
 case atStart=>exact⟨0,Ip _,rfl,rfl⟩
 case round=>
  obtain⟨j,hj,rfl,rfl⟩:=hrel
  have hb:=eh (show j≤12 by omega)
  have hs:=Hy (ib j)
  by_cases hlt:j<k
  ·go_wp2
   go_round
   case rel=>exact⟨j+1,by omega,by go_num,by rw[hs.out];go_num⟩
   case measure=>simp[intOf];omega
  ·have:j=k:=by omega
   subst this
   go_wp2
   go_ret
   exact⟨rfl,rfl⟩
theorem sC (n:Int) {M:Nat} (hM:1≤M):(n.tmod M=(md n M:Int))∨(n.tmod M=(md n M:Int)-M∧(md n M:Int)-M<0):=by
 have hc:=pr n hM
 have hl:=gP n hM
 rcases Int.le_total 0 n with h|h
 ·left;rw[hc,Int.tmod_eq_emod_of_nonneg h]
 ·by_cases h0:n % (M:Int)=0
  ·left
   rw[hc,h0]
   exact Int.tmod_eq_zero_of_dvd (Int.dvd_of_emod_eq_zero h0)
  ·right
   refine⟨?_,by omega⟩
   rw[hc,Int.tmod_eq_emod,if_neg]
   ·simp
   ·rintro(h1|h1)
    ·have:n=0:=by omega
     subst this;simp at h0
    ·exact h0 (Int.emod_eq_zero_of_dvd h1)
theorem dj (n:Int) (M:Nat) (w:World) (hM:1≤M∧M≤1000000000000):
  Calls prog 206 #[.int .i64 n,.int .i64 M] w fun e w'=>e=.returned (.int .i64 (md n M))∧w=w':=by
 have hl:=gP n hM.1
 have h0:((M:Nat):Int)≠0:=by omega
 rcases sC n hM.1 with ht|⟨ht,hneg⟩
 ·have hn:¬((md n M:Nat):Int)<0:=by omega
  go_enter func206,ntmps206
  go_wp2
  go_ret
  exact⟨rfl,rfl⟩
 ·go_enter func206,ntmps206
  go_wp2
  go_ret
  exact⟨by go_num,rfl⟩
theorem iL (s:ByteArray) (w:World) (hs:aU s=true):
  Calls prog 204 #[.string s] w fun e w'=>e=.returned (.int .i64 (cv s))∧w=w':=by
 have hsz:=aT hs
 obtain⟨s1,s2,hd⟩:=hsz
 have HD:=Hy hd
 clear hd
 have s3:s.size≤9223372036854775807:=by omega
 go_enter func204,ntmps204
 go_wp2_with (go_at_call 264;refine(fH _ _ (by assumption)).mono ?_;rintro e w' ⟨rfl,rfl⟩)
 go_loop [3,10] (fun v i=>∃k:Nat,k≤s.size∧i=.int .i64 k∧v=.int .i64 (cvN s k)) (fun _ i=>s.size-(intOf i).toNat)
 case atStart=>exact⟨0,Ip _,rfl,rfl⟩
 case round=>
  obtain⟨k,hk,rfl,rfl⟩:=hrel
  have HB:=Hy (Ie (uA hs k hk) (eh (show k≤12 by omega)))
  have hb:cvN s k<1000000000000:=by have:=HB.out;omega
  by_cases hlt:k<s.size
  ·have h1:=HD.out k hlt
   rw[jC hlt] at h1
   have HS:=Hy (show cvN s (k+1)=cvN s k*10+(((s[k].toNat:Nat):Int)-48).toNat by rw[kf,jC hlt])
   go_wp2
   go_round
   case rel=>exact⟨k+1,by omega,by go_num,by rw[HS.out];go_num⟩
   case measure=>simp[intOf];omega
  ·have hks:k=s.size:=by omega
   subst hks
   go_wp2
   go_ret
   exact⟨rfl,rfl⟩
theorem iJ (s:ByteArray) (w:World) (hs:aU s=true):
  Calls prog 149 #[.string s] w fun e w'=>e=.returned (.int .i64 (cv s))∧w=w':=by
 have hsz:=aT hs
 obtain⟨s1,s2,hd⟩:=hsz
 have HD:=Hy hd
 clear hd
 go_enter func149,ntmps149
 go_wp2
 go_loop [3,4] (fun v i=>∃k:Nat,k≤s.size∧i=.int .i64 k∧v=.int .i64 (cvN s k)) (fun _ i=>s.size-(intOf i).toNat)
 case atStart=>exact⟨0,Ip _,rfl,rfl⟩
 case round=>
  obtain⟨k,hk,rfl,rfl⟩:=hrel
  have HB:=Hy (Ie (uA hs k hk) (eh (show k≤12 by omega)))
  have hb:cvN s k<1000000000000:=by have:=HB.out;omega
  by_cases hlt:k<s.size
  ·have h1:=HD.out k hlt
   rw[jC hlt] at h1
   have HS:=Hy (show cvN s (k+1)=cvN s k*10+(((s[k].toNat:Nat):Int)-48).toNat by rw[kf,jC hlt])
   go_wp2
   go_round
   case rel=>exact⟨k+1,by omega,by go_num,by rw[HS.out];go_num⟩
   case measure=>simp[intOf];omega
  ·have hks:k=s.size:=by omega
   subst hks
   go_wp2
   go_ret
   exact⟨rfl,rfl⟩
theorem Tryz.infoU8:(prog.info? 5).map (fun i=>(i.zero,i.size,i.bytes))=some (some (.int .u8 0),1,1):=by kernel_rfl
theorem Tryz.mkBytes (n:Nat) (hn:n≤17592186044416) (W:World):(Instr.makeSlice 24 (.int .i64 (n:Int)) (.int .i64 (n:Int))).run prog W =
  .ok (.slice (some ⟨W.heap.size,0,none⟩) n n) (W.alloc (.cells (bD n (.int .u8 0)).toArray 5)):=
 vo 24 5 _ 1 Tryz.underlying24 Tryz.infoU8 rfl n (by omega) (by omega) W
theorem Tryz.convBlk (W:World) (g n:Nat) (cs:List Value) (xs:List Int) (hb:Blk W g 5 cs) (hn:xs.length=n) (hcs:∀j,j<n→cs[j]?=some (.int .u8 (at_ xs j))):
  (convert 24 9 (.slice (some ⟨g,0,none⟩) n n)).run prog W=.ok (.string (strOfNums xs)) W:=
 run_convert_bytes_arg (P:=prog) _ 24 5 Tryz.underlying24 Tryz.underlying5 g 0 n n xs hn (fun i hi=>by
  rw[Nat.zero_add,hb.cell,hcs i hi];rfl) 9 Tryz.underlying9
theorem nn (v n:Nat) (w:World) (hv:v<1000000000000) (hn:n≤12):
  Calls prog 205 #[.int .i64 v,.int .i64 n] w fun e w'=>e=.returned (.string (col v n))∧Below w.heap.size w w':=by
 have hmk:=fun W=>Tryz.mkBytes n (by omega) W
 go_enter func205,ntmps205
 go_wp2
 go_loopw [0,6] (fun x i wr=>∃(k:Nat) (cs:List Value),k≤n∧i=.int .i64 ((k:Int)-1)∧x=.int .i64 ((v / ten (n-k):Nat):Int)∧Blk wr w.heap.size 5 cs∧cs.length=n∧(∀j,k≤j→j<n→cs[j]?=some (.int .u8 (fV v n j)))∧Below w.heap.size w wr)
  (fun _ i _=>(intOf i+1).toNat)
 case atStart=>exact⟨n,_,Ig _,rfl,by rw[Nat.sub_self,n7,Nat.div_one],Blk.new _ _ _,bm _ _,fun j h1 h2=>absurd h1 (by omega),ab w _⟩
 case round=>
  obtain⟨k,cs,hk,rfl,rfl,hblk,hcl,hcs,hbel⟩:=hrel
  have H:=Hy (Ie hcl (Ie hcs hbel))
  clear hcl hcs hbel
  by_cases hk0:k=0
  ·subst hk0
   have hcv:=Tryz.convBlk wr w.heap.size n cs (gen (fV v n) n) hblk (aq _ _) (fun j hj=>by rw[bS hj];exact H.out.2.1 j (Ip _) hj)
   go_wp2
   go_ret
   exact⟨rfl,H.out.2.2⟩
  ·obtain⟨k,rfl⟩:∃j,k=j+1:=⟨k-1,by omega⟩
   have hq:v / ten (n-(k+1))<1000000000000:=Nat.lt_of_le_of_lt (Nat.div_le_self _ _) hv
   have HQ:=Hy (show v / ten (n-k)=v / ten (n-(k+1)) / 10 by
    rw[show n-k=n-(k+1)+1 by omega,ib,Nat.div_div_eq_div_mul])
   have HWh:=Hy (show fV v n k=48+((v / ten (n-(k+1)) % 10:Nat):Int) by
    unfold fV;rw[show n-1-k=n-(k+1) by omega])
   generalize hx:v / ten (n-(k+1))=x at *
   have HX:=Hy hx
   clear hx
   have hcw:wr.cell? ⟨w.heap.size,k,none⟩=some (cs[k]'(by rw[H.out.1];omega)):=by rw[hblk.cell];exact List.getElem?_eq_getElem _
   have hfw:=hblk.frozen k
   go_wp2
   go_roundw
   case rel=>
    refine⟨k,_,by omega,by go_num,by rw[HQ.out];go_num,hblk.set_ k _,by rw[List.length_set];exact H.out.1,fun j h1 h2=>?_,H.out.2.2.setCell (Ig _) _⟩
    by_cases e:j=k
    ·subst e;rw[List.getElem?_set_self (by rw[H.out.1];omega),HWh.out];go_num
    ·rw[List.getElem?_set_ne (by omega)];exact H.out.2.1 j (by omega) h2
   case measure=>simp[intOf] <;> omega
theorem mi (k:Nat):((ten k:Nat):Int) / 2=(dG k:Nat):=by unfold dG;omega
theorem Ey {k:Nat} (h:1≤k):(-((ten k:Nat):Int)).tdiv 2 = -((dG k:Nat):Int):=by
 rw[Du h,Int.neg_tdiv]
 congr 1
 push_cast
 exact Int.mul_tdiv_cancel_left _ (by decide)
def bo (n width:Int):Bool:=inB width 1 12&&oR n width.toNat
def dJ (n width:Int):ByteArray:=if bo n width=true then px n width.toNat else⟨#[]⟩
theorem dy (n:Int) {k:Nat} (h:1≤k∧k≤12):bo n k=oR n k:=by
 have:inB (k:Int) 1 12=true:=am.2 (by omega)
 simp[bo,this]
theorem gB (n:Int) {k:Int} (h:inB k 1 12=false):bo n k=false:=by simp[bo,h]
theorem mb {n k:Int} (h:bo n k=false):dJ n k=⟨#[]⟩:=by simp[dJ,h]
theorem qO {n:Int} {k:Nat} (h:bo n k=true):dJ n k=col (md n (ten k)) k:=by simp[dJ,h,px]
theorem od (n width:Int) (w:World) (hn : -9223372036854775808≤n∧n≤9223372036854775807):
  Calls prog 198 #[.int .i64 n,.int .i64 width] w fun e w'=>e=.returned (.tuple #[.string (dJ n width),.bool (bo n width)])∧Below w.heap.size w w':=by
 cases hw:inB width 1 12
 ·have h:=Hy (Ie (gB n hw) (mb (gB n hw)))
  go_enter func198,ntmps198
  go_wp2_with (go_at_call 262;refine(da _ _).mono ?_;rintro e w' ⟨rfl,rfl⟩)
  go_ret2
  exact⟨by rw[h.out.1,h.out.2];rfl,Below.refl _ _⟩
 ·have hw':=am.1 hw
  obtain⟨k,rfl⟩:∃k:Nat,width=k:=⟨width.toNat,by omega⟩
  have hk1:1≤k:=by omega
  have hk:k≤12:=by omega
  have hT:=eh hk
  have hT1:=fL k
  have hh:=mi k
  have hh2:=Ey hk1
  have hhb:dG k≤1000000000000:=by unfold dG;omega
  have hlt:=Hy (gP n hT1)
  have hm:md n (ten k)<1000000000000:=by have:=hlt.out;omega
  cases hf:oR n k
  ·have h:=Hy (Ie ((dy n ⟨hk1,hk⟩).trans hf) (mb ((dy n ⟨hk1,hk⟩).trans hf)))
   have hf':=br.1 hf
   by_cases h1:n < -(dG k:Int)
   ·go_enter func198,ntmps198
    go_wp2_with (first|(go_at_call 262;refine(da _ _).mono ?_;rintro e w' ⟨rfl,rfl⟩)|(go_at_call 207;refine(dh k _ hk).mono ?_;rintro e w' ⟨rfl,rfl⟩))
    go_ret2
    exact⟨by rw[h.out.1,h.out.2];rfl,Below.refl _ _⟩
   ·have h2:(dG k:Int)≤n:=by omega
    go_enter func198,ntmps198
    go_wp2_with (first|(go_at_call 262;refine(da _ _).mono ?_;rintro e w' ⟨rfl,rfl⟩)|(go_at_call 207;refine(dh k _ hk).mono ?_;rintro e w' ⟨rfl,rfl⟩))
    go_ret2
    exact⟨by rw[h.out.1,h.out.2];rfl,Below.refl _ _⟩
  ·have h:=Hy (Ie ((dy n ⟨hk1,hk⟩).trans hf) (qO ((dy n ⟨hk1,hk⟩).trans hf)))
   have hf':=am.1 hf
   have h1:¬n < -(dG k:Int):=by omega
   have h2:¬(dG k:Int)≤n:=by omega
   go_enter func198,ntmps198
   go_wp2_with (first|(go_at_call 262;refine(da _ _).mono ?_;rintro e w' ⟨rfl,rfl⟩)|(go_at_call 207;refine(dh k _ hk).mono ?_;rintro e w' ⟨rfl,rfl⟩)|(go_at_call 206;refine(dj n (ten k) _ ⟨hT1,hT⟩).mono ?_;rintro e w' ⟨rfl,rfl⟩))
   refine(nn (md n (ten k)) k _ hm hk).mono ?_
   rintro e w' ⟨rfl,hb⟩
   go_wp2
   go_ret2
   exact⟨by rw[h.out.1,h.out.2];rfl,hb⟩
theorem sG {q T:Nat} (h:q<T):(((q:Nat):Int)+(T:Int)).tmod T=q∧((q:Nat):Int).tmod T=q:=by
 rw[Int.tmod_eq_emod_of_nonneg (by omega),Int.tmod_eq_emod_of_nonneg (by omega)]
 constructor
 ·rw[Int.add_emod_right];exact Int.emod_eq_of_lt (by omega) (by omega)
 ·exact Int.emod_eq_of_lt (by omega) (by omega)
theorem lv (n:Int) (k:Nat) (w:World) (hn : -9223372036854775808≤n∧n≤9223372036854775807) (hk:1≤k∧k≤12):
  Calls prog 162 #[.int .i64 n,.int .i64 k] w fun e w'=>e=.returned (.string (col (md n (ten k)) k))∧Below w.heap.size w w':=by
 have hmk:=fun W=>Tryz.mkBytes k (by omega) W
 have hT:=eh hk.2
 have hT1:=fL k
 have hlt:=gP n hT1
 obtain⟨e1,e2⟩:=sG hlt
 have e3:(((md n (ten k):Nat):Int)-(ten k:Int)+(ten k:Int)).tmod (ten k)=md n (ten k):=by rw[Int.sub_add_cancel];exact e2
 have hT0:((ten k:Nat):Int)≠0:=by omega
 have hv:md n (ten k)<1000000000000:=by omega
 have HE:=Hy (Ie e1 (Ie e2 e3))
 clear e1 e2 e3
 have fin:∀(W:World),Below w.heap.size w W→∀(v:Nat),v<1000000000000→True:=fun _ _ _ _=>trivial
 rcases sC n hT1 with ht|⟨ht,hneg⟩
 all_goals
  obtain⟨e1,e2,e3⟩:=HE.out
  go_enter func162,ntmps162
  go_wp2_with fail
  go_quiet ((go_at_call 150;first|exact jN (dp k _ hk.2)|exact fN (dp k _ hk.2)))
  go_wp2_with fail
  clear e1 e2 e3
  generalize hmdv:md n (ten k)=v at *
  go_loopw [0,6] (fun x i wr=>∃(j:Nat) (cs:List Value),j≤k∧i=.int .i64 ((j:Int)-1)∧x=.int .i64 ((v / ten (k-j):Nat):Int)∧Blk wr w.heap.size 5 cs∧cs.length=k∧(∀i,j≤i→i<k→cs[i]?=some (.int .u8 (fV v k i)))∧Below w.heap.size w wr)
   (fun _ i _=>(intOf i+1).toNat)
  case atStart=>exact⟨k,_,Ig _,rfl,by rw[Nat.sub_self,n7,Nat.div_one],Blk.new (w.drewN _) _ _,bm _ _,fun j h1 h2=>absurd h1 (by omega),(be (Below.refl _ _) _).alloc (Ig _) _⟩
  case round=>
   obtain⟨j,cs,hj,rfl,rfl,hblk,hcl,hcs,hbel⟩:=hrel
   have H:=Hy (Ie hcl (Ie hcs hbel))
   clear hcl hcs hbel
   by_cases hk0:j=0
   ·subst hk0
    have hcv:=Tryz.convBlk wr w.heap.size k cs (gen (fV v k) k) hblk (aq _ _) (fun j hj=>by rw[bS hj];exact H.out.2.1 j (Ip _) hj)
    go_wp2
    go_ret
    exact⟨by rw[hmdv];rfl,H.out.2.2⟩
   ·obtain⟨j,rfl⟩:∃i,j=i+1:=⟨j-1,by omega⟩
    have hq:v / ten (k-(j+1))<1000000000000:=Nat.lt_of_le_of_lt (Nat.div_le_self _ _) hv
    have HQ:=Hy (show v / ten (k-j)=v / ten (k-(j+1)) / 10 by
     rw[show k-j=k-(j+1)+1 by omega,ib,Nat.div_div_eq_div_mul])
    have HWh:=Hy (show fV v k j=48+((v / ten (k-(j+1)) % 10:Nat):Int) by
     unfold fV;rw[show k-1-j=k-(j+1) by omega])
    generalize hx:v / ten (k-(j+1))=x at *
    have HX:=Hy hx
    clear hx
    have hcw:wr.cell? ⟨w.heap.size,j,none⟩=some (cs[j]'(by rw[H.out.1];omega)):=by rw[hblk.cell];exact List.getElem?_eq_getElem _
    have hfw:=hblk.frozen j
    go_wp2
    go_roundw
    case rel=>
     refine⟨j,_,by omega,by go_num,by rw[HQ.out];go_num,hblk.set_ j _,by rw[List.length_set];exact H.out.1,fun i h1 h2=>?_,H.out.2.2.setCell (Ig _) _⟩
     by_cases e:i=j
     ·subst e;rw[List.getElem?_set_self (by rw[H.out.1];omega),HWh.out];go_num
     ·rw[List.getElem?_set_ne (by omega)];exact H.out.2.1 i (by omega) h2
    case measure=>simp[intOf] <;> omega
theorem lk (n:Int) (k:Nat) (w:World) (hk:k≤12):
  Calls prog 232 #[.int .i64 n,.int .i64 k] w fun e w'=>e=.returned (.bool (oR n k))∧w=w':=by
 have hT:=eh hk
 have hh:=mi k
 have hhb:dG k≤1000000000000:=by unfold dG;omega
 cases hf:oR n k
 ·have hf':=br.1 hf
  by_cases h1:n < -(dG k:Int)
  ·go_enter func232,ntmps232
   go_wp2_with ((go_at_call 150;refine(dp k _ hk).mono ?_;rintro e w' ⟨rfl,rfl⟩))
   go_ret
   exact⟨rfl,rfl⟩
  ·have h2:(dG k:Int)≤n:=by omega
   go_enter func232,ntmps232
   go_wp2_with ((go_at_call 150;refine(dp k _ hk).mono ?_;rintro e w' ⟨rfl,rfl⟩))
   go_ret
   exact⟨aD (by simp;omega),rfl⟩
 ·have hf':=am.1 hf
  have h1 : -(dG k:Int)≤n:=by omega
  have h2:n<(dG k:Int):=by omega
  go_enter func232,ntmps232
  go_wp2_with ((go_at_call 150;refine(dp k _ hk).mono ?_;rintro e w' ⟨rfl,rfl⟩))
  go_ret
  exact⟨rfl,rfl⟩
theorem tK (n width:Int) (w:World) (hn : -9223372036854775808≤n∧n≤9223372036854775807):
  Calls prog 159 #[.int .i64 n,.int .i64 width] w fun e w'=>e=.returned (.tuple #[.string (dJ n width),.bool (bo n width)])∧Below w.heap.size w w':=by
 cases hw:inB width 1 12
 ·have h:=Hy (Ie (gB n hw) (mb (gB n hw)))
  go_enter func159,ntmps159
  go_wp2_with (go_at_call 158;refine(dR _ _).mono ?_;rintro e w' ⟨rfl,rfl⟩)
  go_ret2
  exact⟨by rw[h.out.1,h.out.2];rfl,Below.refl _ _⟩
 ·have hw':=am.1 hw
  obtain⟨k,rfl⟩:∃k:Nat,width=k:=⟨width.toNat,by omega⟩
  have hk1:1≤k:=by omega
  have hk:k≤12:=by omega
  cases hf:oR n k
  ·have h:=Hy (Ie ((dy n ⟨hk1,hk⟩).trans hf) (mb ((dy n ⟨hk1,hk⟩).trans hf)))
   go_enter func159,ntmps159
   go_wp2_with (first|(go_at_call 158;refine(dR _ _).mono ?_;rintro e w' ⟨rfl,rfl⟩)|(go_at_call 232;refine(lk _ k _ hk).mono ?_;rintro e w' ⟨rfl,rfl⟩))
   go_ret2
   exact⟨by rw[h.out.1,h.out.2];rfl,Below.refl _ _⟩
  ·have h:=Hy (Ie ((dy n ⟨hk1,hk⟩).trans hf) (qO ((dy n ⟨hk1,hk⟩).trans hf)))
   go_enter func159,ntmps159
   go_wp2_with (first|(go_at_call 158;refine(dR _ _).mono ?_;rintro e w' ⟨rfl,rfl⟩)|(go_at_call 232;refine(lk _ k _ hk).mono ?_;rintro e w' ⟨rfl,rfl⟩))
   refine(lv n k _ hn ⟨hk1,hk⟩).mono ?_
   rintro e w' ⟨rfl,hb⟩
   go_wp2
   go_ret2
   exact⟨by rw[h.out.1,h.out.2];rfl,hb⟩
theorem pV (s t:ByteArray) (w:World) (hs:aU s=true) (ht:aU t=true) (he:s.size=t.size):
  Calls prog 250 #[.string s,.string t] w fun e w'=>e=.returned (.tuple #[.string (bU s t),.bool true])∧Below w.heap.size w w':=by
 have ha:=eF.2 ⟨hs,ht,he⟩
 have s3:s.size≤9223372036854775807:=by have:=aT hs;omega
 have t3:t.size≤9223372036854775807:=by have:=aT ht;omega
 have k12:=(aT hs).2.1
 have c1:=iA hs
 have c2:=iA ht
 have hT:=eh k12
 have hT1:=fL s.size
 have hm:(cv s+cv t) % ten s.size<1000000000000:=by have:=Nat.mod_lt (cv s+cv t) (show 0<ten s.size by omega);omega
 have hmd:=C2 (cv s+cv t) (ten s.size)
 have HE:=Hy he
 clear he
 go_enter func250,ntmps250
 go_wp2_with (first|(go_at_call 249;refine(iW _ _ _ (by assumption) (by assumption)).mono ?_;rintro e w' ⟨rfl,rfl⟩)|(go_at_call 204;refine(iL _ _ (by assumption)).mono ?_;rintro e w' ⟨rfl,rfl⟩)|(go_at_call 207;refine(dh s.size _ k12).mono ?_;rintro e w' ⟨rfl,rfl⟩))
 refine(dj ((cv s+cv t:Nat):Int) (ten s.size) _ ⟨hT1,hT⟩).mono ?_
 rintro e w' ⟨rfl,rfl⟩
 rw[hmd]
 go_wp2_with fail
 refine(nn _ s.size _ hm k12).mono ?_
 rintro e w' ⟨rfl,hb⟩
 go_wp2
 go_ret2
 exact⟨rfl,hb⟩
theorem nU (s t:ByteArray) (w:World) (hs:aU s=true) (ht:aU t=true) (he:s.size=t.size):
  Calls prog 145 #[.string s,.string t] w fun e w'=>e=.returned (.string (bU s t))∧Below w.heap.size w w':=by
 have k12:=(aT hs)
 have c1:=iA hs
 have c2:=iA ht
 have hmd:=C2 (cv s+cv t) (ten s.size)
 have HE:=Hy he
 clear he
 go_enter func145,ntmps145
 go_wp2_with ((go_at_call 149;refine(iJ _ _ (by assumption)).mono ?_;rintro e w' ⟨rfl,rfl⟩))
 refine(lv ((cv s+cv t:Nat):Int) s.size _ (by omega) ⟨k12.1,k12.2.1⟩).mono ?_
 rintro e w' ⟨rfl,hb⟩
 rw[hmd]
 go_wp2
 go_ret
 exact⟨rfl,hb⟩
theorem vm (s:ByteArray) (w:World) (hs:aU s=true):
  Calls prog 253 #[.string s] w fun e w'=>e=.returned (.tuple #[.int .i64 (sg s),.bool true])∧w=w':=by
 have s3:s.size≤9223372036854775807:=by have:=aT hs;omega
 have k12:=(aT hs).2.1
 have c1:=iA hs
 have hT:=eh k12
 have hh:=mi s.size
 have hhb:dG s.size≤1000000000000:=by unfold dG;omega
 by_cases h:dG s.size≤cv s
 ·have hs':=Hy (E6 h)
  go_enter func253,ntmps253
  go_wp2_with (first|(go_at_call 264;refine(fH _ _ (by assumption)).mono ?_;rintro e w' ⟨rfl,rfl⟩)|(go_at_call 204;refine(iL _ _ (by assumption)).mono ?_;rintro e w' ⟨rfl,rfl⟩)|(go_at_call 207;refine(dh s.size _ k12).mono ?_;rintro e w' ⟨rfl,rfl⟩))
  go_ret2
  exact⟨by rw[hs'.out];rfl,rfl⟩
 ·have hs':=Hy (E1 h)
  go_enter func253,ntmps253
  go_wp2_with (first|(go_at_call 264;refine(fH _ _ (by assumption)).mono ?_;rintro e w' ⟨rfl,rfl⟩)|(go_at_call 204;refine(iL _ _ (by assumption)).mono ?_;rintro e w' ⟨rfl,rfl⟩)|(go_at_call 207;refine(dh s.size _ k12).mono ?_;rintro e w' ⟨rfl,rfl⟩))
  go_ret2
  exact⟨by rw[hs'.out];rfl,rfl⟩
theorem ln (s:ByteArray) (w:World) (hs:aU s=true):
  Calls prog 187 #[.string s] w fun e w'=>e=.returned (.int .i64 (sg s))∧w=w':=by
 go_enter func187,ntmps187
 go_wp2_with ((go_at_call 253;refine(vm s _ hs).mono ?_;rintro e w' ⟨rfl,rfl⟩))
 go_ret
 exact⟨rfl,rfl⟩
theorem jE (s:ByteArray) (w:World) (hs:aU s=true):
  Calls prog 70 #[.string s] w fun e w'=>e=.returned (.int .i64 (sg s))∧w=w':=by
 have k12:=(aT hs).2.1
 have c1:=iA hs
 have hT:=eh k12
 have hh:=mi s.size
 have hhb:dG s.size≤1000000000000:=by unfold dG;omega
 by_cases h:dG s.size≤cv s
 ·have hs':=Hy (E6 h)
  go_enter func70,ntmps70
  go_wp2_with (first|(go_at_call 149;refine(iJ _ _ (by assumption)).mono ?_;rintro e w' ⟨rfl,rfl⟩)|(go_at_call 150;refine(dp s.size _ k12).mono ?_;rintro e w' ⟨rfl,rfl⟩))
  go_ret
  exact⟨by rw[hs'.out];rfl,rfl⟩
 ·have hs':=Hy (E1 h)
  go_enter func70,ntmps70
  go_wp2_with (first|(go_at_call 149;refine(iJ _ _ (by assumption)).mono ?_;rintro e w' ⟨rfl,rfl⟩)|(go_at_call 150;refine(dp s.size _ k12).mono ?_;rintro e w' ⟨rfl,rfl⟩))
  go_ret
  exact⟨by rw[hs'.out];rfl,rfl⟩
end Go.Proofs.YtfmjklgfpiffbaaGreatDoor
namespace Go.Proofs.YtfmjklgfpiffbaaGreatDoor
open Go.RowKit Go.Proofs.Tryz
set_option linter.unusedVariables false
set_option linter.unusedSimpArgs false
set_option maxRecDepth 100000
set_option maxHeartbeats 8000000
theorem Gv {a b:ByteArray} (hs:a.size=b.size) (h:∀j,j<b.size→bat a j=bat b j):a=b:=by
 apply ByteArray.ext
 apply Array.ext
 ·exact hs
 ·intro i h1 h2
  have:=h i h2
  rw[jC (show i<a.size from h1),jC (show i<b.size from h2)] at this
  have e:(a[i]'h1).toNat=(b[i]'h2).toNat:=by omega
  exact UInt8.toNat_inj.1 e
theorem FQ {s:ByteArray} (h:aU s=true) (k:Nat):∀d,k+d=s.size→cv s / ten d=cvN s k:=by
 intro d
 induction d generalizing k with
 |zero=>
  intro e
  have:k=s.size:=by omega
  rw[n7,Nat.div_one,this]
  rfl
 |succ d ih=>
  intro e
  have h1:=ih (k+1) (by omega)
  have h2:=(aT h).2.2 k (by omega)
  rw[ib,←Nat.div_div_eq_div_mul,h1,kf]
  omega
theorem Gm {s:ByteArray} (h:aU s=true):col (cv s) s.size=s:=by
 apply Gv (fB _ _)
 intro j hj
 have h2:=(aT h).2.2 j hj
 rw[rQ hj]
 unfold fV
 rw[FQ h (j+1) (s.size-1-j) (by omega),kf]
 omega
def mK (a b:ByteArray):ByteArray:=col (md ((cv a:Int)-(cv b:Int)) (ten a.size)) a.size
theorem sK (a b:ByteArray):(mK a b).size=a.size:=fB _ _
theorem FS {a b:ByteArray} (h:aU a=true):aU (mK a b)=true:=by
 have:=aT h
 exact me _ this.1 this.2.1
theorem FH {a b:ByteArray} (ha:aU a=true):bU (mK a b) b=a:=by
 have hT:=fL a.size
 have h1:=gP ((cv a:Int)-(cv b:Int)) (m:=ten a.size) hT
 have h2:=pr ((cv a:Int)-(cv b:Int)) (m:=ten a.size) hT
 have h3:=zL ha
 unfold bU
 rw[sK]
 have h4:cv (mK a b)=md ((cv a:Int)-(cv b:Int)) (ten a.size):=by unfold mK;exact Cx h1
 rw[h4]
 have h5:(md ((cv a:Int)-(cv b:Int)) (ten a.size)+cv b) % ten a.size=cv a:=by
  have e:(((md ((cv a:Int)-(cv b:Int)) (ten a.size)+cv b) % ten a.size:Nat):Int)=(cv a:Int):=by
   rw[Int.natCast_emod,Int.natCast_add,h2,Int.emod_add_emod]
   rw[show(cv a:Int)-(cv b:Int)+(cv b:Int)=(cv a:Int) by omega]
   exact Int.emod_eq_of_lt (by omega) (by omega)
  omega
 rw[h5]
 exact Gm ha
def aW:List ByteArray→List ByteArray
 |[]=>[]
 |[x]=>[x]
 |x::y::r=>mK x (sat (aW (y::r)) 0)::aW (y::r)
theorem cQ:∀l:List ByteArray,(aW l).length=l.length
 |[]=>rfl
 |[x]=>rfl
 |x::y::r=>by
  have:=cQ (y::r)
  simp[aW] at this ⊢
  exact this
theorem ko:∀(l:List ByteArray) (j:Nat),j<l.length→sat (aW l) j=if j+1<l.length then mK (sat l j) (sat (aW l) (j+1)) else sat l j
 |[],j,h=>absurd h (by simp)
 |[x],j,h=>by
  have:j=0:=by simp at h;exact h
  subst this
  rfl
 |x::y::r,0,h=>by
  rw[if_pos (by simp)]
  rfl
 |x::y::r,j+1,h=>by
  have ih:=ko (y::r) j (by simpa using h)
  show sat (aW (y::r)) j=_
  rw[ih]
  by_cases h2:j+1<(y::r).length
  ·rw[if_pos h2,if_pos (by simp at h2 ⊢;omega)]
   rfl
  ·rw[if_neg h2,if_neg (by simp at h2 ⊢;omega)]
   rfl
theorem fF {l:List ByteArray} (h:af l=true) (j:Nat) (hj:j<l.length):aU (sat (aW l) j)=true∧(sat (aW l) j).size=(sat l 0).size:=by
 obtain⟨h1,h2,h3⟩:=ap.1 h
 rw[ko l j hj]
 split
 ·exact⟨FS (h3 j hj).1,by rw[sK];exact(h3 j hj).2⟩
 ·exact h3 j hj
theorem n4 {l:List ByteArray} (h:af l=true):af (aW l)=true:=by
 obtain⟨h1,h2,h3⟩:=ap.1 h
 refine ap.2 ⟨by rw[cQ];exact h1,by rw[cQ];exact h2,fun k hk=>?_⟩
 rw[cQ] at hk
 exact⟨(fF h k hk).1,by rw[(fF h k hk).2,(fF h 0 (by omega)).2]⟩
theorem rS {a b:List ByteArray} (hl:a.length=b.length) (h:∀i,i<b.length→sat a i=sat b i):a=b:=by
 apply List.ext_getElem hl
 intro i h1 h2
 have:=h i h2
 rw[bX a i h1,bX b i h2] at this
 exact this
theorem sN {l:List ByteArray} (h:af l=true):bB (aW l)=l:=by
 obtain⟨h1,h2,h3⟩:=ap.1 h
 apply rS (by rw[b9,cQ])
 intro i hi
 rw[fZ (by rw[cQ];exact hi),cQ]
 by_cases h4:i+1<l.length
 ·rw[if_pos h4,ko l i hi,if_pos h4]
  exact FH (h3 i hi).1
 ·rw[if_neg h4,ko l i hi,if_neg h4]
def aV (l:List ByteArray):Nat→List ByteArray
 |0=>l
 |n+1=>aW (aV l n)
theorem cN (l:List ByteArray) (n:Nat):(aV l n).length=l.length:=by
 induction n with
 |zero=>rfl
 |succ n ih=>show(aW _).length=_;rw[cQ,ih]
theorem ee {l:List ByteArray} (h:af l=true) (n:Nat):af (aV l n)=true:=by
 induction n with
 |zero=>exact h
 |succ n ih=>exact n4 ih
theorem Ab (l:List ByteArray) (a b:Nat):aH (aH l a) b=aH l (a+b):=by
 induction b with
 |zero=>rfl
 |succ b ih=>rw[el,ih];rfl
theorem yM {l:List ByteArray} (h:af l=true) (m k:Nat):aH (aV l (m+k)) k=aV l m:=by
 induction k with
 |zero=>rfl
 |succ k ih=>
  have e:aH (aV l (m+(k+1))) (k+1)=aH (aH (aV l (m+(k+1))) 1) k:=by rw[Ab,Nat.add_comm 1 k]
  rw[e]
  have e2:aH (aV l (m+(k+1))) 1=aV l (m+k):=sN (ee h (m+k))
  rw[e2,ih]
theorem vn (l:List ByteArray) (n i:Nat) (h:i<l.length):sat (aH l (n+1)) i=if i+1<l.length then bU (sat (aH l n) i) (sat (aH l n) (i+1)) else sat (aH l n) i:=by
 rw[el,fZ (by rw[eP];exact h),eP]
def bI (l:List ByteArray):List ByteArray:=eW (fun i=>sat (aV l (i / 2)) i) l.length
def bf (l:List ByteArray) (f:Nat):List ByteArray:=eW (fun i=>if i % 2=f∧i+1<l.length then bU (sat l i) (sat l (i+1)) else sat l i) l.length
theorem bW (l:List ByteArray) (f:Nat):(bf l f).length=l.length:=dS _ _
theorem je {l:List ByteArray} {f i:Nat} (h:i<l.length):sat (bf l f) i=if i % 2=f∧i+1<l.length then bU (sat l i) (sat l (i+1)) else sat l i:=jR h
def hN (l:List ByteArray):Nat→List ByteArray
 |0=>l
 |n+1=>bf (bf (hN l n) 0) 1
theorem sY (l:List ByteArray) (n:Nat):(hN l n).length=l.length:=by
 induction n with
 |zero=>rfl
 |succ n ih=>show(bf _ _).length=_;rw[bW,bW,ih]
theorem ig (l:List ByteArray):(bI l).length=l.length:=dS _ _
theorem DK {l:List ByteArray} (ok:af l=true) (t:Nat):∀i,i<l.length→sat (hN (bI l) t) i=sat (aH (aV l 3) (3+t-i / 2)) i:=by
 obtain⟨h1,h2,h3⟩:=ap.1 ok
 have hD:=cN l 3
 induction t with
 |zero=>
  intro i hi
  show sat (bI l) i=_
  unfold bI
  rw[jR hi]
  have:=yM ok (i / 2) (3-i / 2)
  rw[show i / 2+(3-i / 2)=3 by omega] at this
  rw[show 3+0-i / 2=3-i / 2 by omega,this]
 |succ t ih=>
  have hl:=sY (bI l) t
  rw[ig] at hl
  have first:∀i,i<l.length→sat (bf (hN (bI l) t) 0) i=if i % 2=0 then sat (aH (aV l 3) (3+t+1-i / 2)) i else sat (aH (aV l 3) (3+t-i / 2)) i:=by
   intro i hi
   rw[je (by rw[hl];exact hi),hl]
   by_cases he:i % 2=0
   ·rw[if_pos he,show 3+t+1-i / 2=(3+t-i / 2)+1 by omega,vn _ _ _ (by rw[hD];exact hi),hD]
    by_cases h4:i+1<l.length
    ·rw[if_pos ⟨he,h4⟩,if_pos h4,ih i hi,ih (i+1) h4,show(i+1) / 2=i / 2 by omega]
    ·rw[if_neg (fun h=>h4 h.2),if_neg h4,ih i hi]
   ·rw[if_neg (fun h=>he h.1),if_neg he,ih i hi]
  intro i hi
  show sat (bf (bf (hN (bI l) t) 0) 1) i=_
  rw[je (by rw[bW,hl];exact hi),bW,hl]
  by_cases he:i % 2=1
  ·rw[show 3+(t+1)-i / 2=(3+t-i / 2)+1 by omega,vn _ _ _ (by rw[hD];exact hi),hD]
   have hf:=first i hi
   rw[if_neg (by omega)] at hf
   by_cases h4:i+1<l.length
   ·have hf1:=first (i+1) h4
    rw[if_pos (by omega),show 3+t+1-(i+1) / 2=3+t-i / 2 by omega] at hf1
    rw[if_pos ⟨he,h4⟩,if_pos h4,hf,hf1]
   ·rw[if_neg (fun h=>h4 h.2),if_neg h4,hf]
  ·have hf:=first i hi
   rw[if_pos (by omega)] at hf
   rw[if_neg (fun h=>he h.1),hf,show 3+(t+1)-i / 2=3+t+1-i / 2 by omega]
theorem Fa {l:List ByteArray} (ok:af l=true) (t:Nat):af (hN (bI l) t)=true:=by
 obtain⟨h1,h2,h3⟩:=ap.1 ok
 have hl:=sY (bI l) t
 rw[ig] at hl
 have key:∀i,i<l.length→aU (sat (hN (bI l) t) i)=true∧(sat (hN (bI l) t) i).size=(sat l 0).size:=by
  intro i hi
  rw[DK ok t i hi]
  have hk:=eR (ee ok 3) (3+t-i / 2)
  obtain⟨-,-,k3⟩:=ap.1 hk
  have hz:=k3 i (by rw[eP,cN];exact hi)
  have z0:=qD (l:=aV l 3) (by rw[cN];omega) (3+t-i / 2)
  have b0:(sat (aV l 3) 0).size=(sat l 0).size:=by
   have s1:∀x:List ByteArray,af x=true→(sat (aW x) 0).size=(sat x 0).size:=fun x hx=>(fF hx 0 (by have:=(ap.1 hx).1;omega)).2
   show(sat (aW (aV l 2)) 0).size=_
   rw[s1 _ (ee ok 2)]
   show(sat (aW (aV l 1)) 0).size=_
   rw[s1 _ (ee ok 1)]
   show(sat (aW (aV l 0)) 0).size=_
   rw[s1 _ (ee ok 0)]
   rfl
  exact⟨hz.1,by rw[hz.2,z0,b0]⟩
 refine ap.2 ⟨by rw[hl];exact h1,by rw[hl];exact h2,fun k hk=>?_⟩
 rw[hl] at hk
 exact⟨(key k hk).1,by rw[(key k hk).2,(key 0 (by omega)).2]⟩
def kw (c:ByteArray) (a:Int):ByteArray:=col (md ((cv c:Int)+a) (ten c.size)) c.size
theorem nW (c:ByteArray) (a:Int):(kw c a).size=c.size:=fB _ _
theorem Ea {c:ByteArray} (h:aU c=true) (a:Int):aU (kw c a)=true:=by
 have:=aT h
 exact me _ this.1 this.2.1
end Go.Proofs.YtfmjklgfpiffbaaGreatDoor
