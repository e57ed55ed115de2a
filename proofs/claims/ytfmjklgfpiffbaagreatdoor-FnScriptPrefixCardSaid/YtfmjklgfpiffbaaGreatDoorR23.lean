/-
  Parts of the proof of one statement, merged: ShP ShS ShL ShM ShI ShJ.
-/
import Derived.Test.YtfmjklgfpiffbaaGreatDoorR15
import Derived.Test.YtfmjklgfpiffbaaGreatDoorR19
import Derived.Test.YtfmjklgfpiffbaaGreatDoorR4
namespace Go.Proofs.YtfmjklgfpiffbaaGreatDoor
open Go.RowKit
set_option linter.unusedVariables false
set_option linter.unusedSimpArgs false
set_option maxRecDepth 100000
def spS (n:Nat):ByteArray:=⟨(Lib.repeatL [32] n).toArray⟩
theorem qX (n:Nat):(spS n).size=n:=by
 unfold spS;have:=Lib.repeatL_length [32] n;simpa[ByteArray.size] using this
def ln (W:Nat) (v:Int):ByteArray:=spS (W-(au v).size)++au v
theorem tY {W:Nat} {v:Int} (h:(au v).size≤W):(ln W v).size=W:=by
 unfold ln;rw[Jt,qX];omega
def jB (L R r:Nat):Nat:=(L-r+R-1) / R
theorem ki {L R r:Nat} (c:Nat) (hR:0<R):r+c*R<L↔c<jB L R r:=by
 unfold jB;rw[Nat.lt_iff_add_one_le (m:=c),Nat.le_div_iff_mul_le hR,Nat.add_mul];omega
theorem pQ {L R r:Nat} (hR:0<R):jB L R r≤L:=by
 rcases Nat.lt_or_ge L (jB L R r) with h|h
 ·have:=(ki (L:=L) (r:=r) L hR).2 h;have:=Nat.le_mul_of_pos_right L hR;omega
 ·exact h
def gU (W:Nat) (e:List Int) (R r c:Nat):List ByteArray:=(List.range c).map fun i=>ln W (at_ e (r+i*R))
def fK (W:Nat) (e:List Int) (R r c:Nat):ByteArray:=aW (gU W e R r c) ⟨#[32]⟩
theorem nE (W:Nat) (e:List Int) (R r c:Nat):gU W e R r (c+1)=gU W e R r c++[ln W (at_ e (r+c*R))]:=by
 unfold gU;rw[List.range_succ,List.map_append]
 rfl
theorem mo (W:Nat) (e:List Int) (R r c:Nat):(gU W e R r c).length=c:=by simp[gU]
theorem Am (W:Nat) (e:List Int) (R r:Nat):fK W e R r 0=⟨#[]⟩:=rfl
theorem CU (W:Nat) (e:List Int) (R r:Nat):fK W e R r (0+1)=fK W e R r 0++ln W (at_ e (r+0*R)):=by
 rw[Am];unfold fK;rw[nE];have:gU W e R r 0=[]:=rfl;rw[this];unfold aW;simp[Lib.join_one]
 apply ByteArray.ext
 apply Array.toList_inj.1
 simp
theorem Al {W:Nat} {e:List Int} {R r c:Nat} (h:0<c):fK W e R r (c+1)=fK W e R r c++⟨#[32]⟩++ln W (at_ e (r+c*R)):=by
 unfold fK;rw[nE];unfold aW;have hne:gU W e R r c≠[]:=fun h'=>by have:=mo W e R r c;rw[h'] at this;simp at this;omega
 rw[List.map_append,List.map_cons,List.map_nil,pq,if_neg (by simpa using hne)]
 apply ByteArray.ext
 apply Array.toList_inj.1
 simp
def nP (W:Nat) (e:List Int) (R r c:Nat):Prop:=∀i,i<c→(au (at_ e (r+i*R))).size≤W
instance (W:Nat) (e:List Int) (R r c:Nat):Decidable (nP W e R r c):=by unfold nP;infer_instance
theorem tB {W:Nat} {e:List Int} {R r c:Nat} (h:nP W e R r c):∀s∈gU W e R r c,s.size≤W:=by
 intro s hs;obtain⟨i,hi,rfl⟩:=List.mem_map.1 hs;rw[tY (h i (List.mem_range.1 hi))];exact Jr _
theorem lG {W:Nat} {e:List Int} {R r c:Nat} (h:nP W e R r c):(fK W e R r c).size≤(1+W)*c:=by
 have:=im (sep:=⟨#[32]⟩) (tB h);rw[mo] at this;exact this
def mQ (W:Nat) (e:List Int) (R r:Nat):ByteArray:=fK W e R r (jB e.length R r)
def mP (W:Nat) (e:List Int) (R r:Nat):Prop:=nP W e R r (jB e.length R r)
instance (W:Nat) (e:List Int) (R r:Nat):Decidable (mP W e R r):=by unfold mP;infer_instance
theorem uh {W:Nat} {e:List Int} {R r:Nat} (h:mP W e R r) (hR:0<R) (hW:W≤12) (he:e.length≤60):(mQ W e R r).size≤780:=by
 have h1:=lG h;have h2:=pQ (L:=e.length) (r:=r) hR;have h3:(1+W)*jB e.length R r≤13*60:=Nat.mul_le_mul (by omega) (by omega);unfold mQ;omega
def dW (W:Nat) (e:List Int) (R n:Nat):List ByteArray:=(List.range n).map fun r=>mQ W e R r
theorem rU (W:Nat) (e:List Int) (R n:Nat):dW W e R (n+1)=dW W e R n++[mQ W e R n]:=by
 unfold dW;rw[List.range_succ,List.map_append]
 rfl
theorem kZ (W:Nat) (e:List Int) (R n:Nat):(dW W e R n).length=n:=by simp[dW]
def kK (W:Nat) (e:List Int) (R n:Nat):Prop:=∀r,r<n→mP W e R r
instance (W:Nat) (e:List Int) (R n:Nat):Decidable (kK W e R n):=by unfold kK;infer_instance
theorem rS {W:Nat} {e:List Int} {R n:Nat} (h:kK W e R n) (h1:mP W e R n):kK W e R (n+1):=by
 intro r hr
 rcases Nat.lt_or_ge r n with h'|h'
 ·exact h r h'
 ·obtain rfl:r=n:=by omega
  exact h1
theorem rT {W:Nat} {e:List Int} {R n:Nat} (h:kK W e R n) (hR:0<R) (hW:W≤12) (he:e.length≤60):∀s∈dW W e R n,s.size≤780:=by
 intro s hs;obtain⟨i,hi,rfl⟩:=List.mem_map.1 hs;exact uh (h i (List.mem_range.1 hi)) hR hW he
def pgE (l:List Int) (M p:Nat):List Int:=(l.drop (p*M)).take M
theorem dH (l:List Int) (M p:Nat):(pgE l M p).length=min M (l.length-p*M):=by simp[pgE]
theorem Dk (l:List Int) {M p i:Nat} (h:i<M):at_ (pgE l M p) i=at_ l (p*M+i):=by
 unfold at_ pgE;simp[List.getElem?_take,List.getElem?_drop,h]
def eP (l:List Int) (R M p:Nat):Nat:=min R (pgE l M p).length
def pgL (W:Nat) (l:List Int) (R M p:Nat):List ByteArray:=dW W (pgE l M p) R (eP l R M p)
def pgF (W:Nat) (l:List Int) (R M p:Nat):Prop:=kK W (pgE l M p) R (eP l R M p)
instance (W:Nat) (l:List Int) (R M p:Nat):Decidable (pgF W l R M p):=by unfold pgF;infer_instance
def cB (a:ByteArray) (ls:List ByteArray):ByteArray:=ls.foldl (fun a s=>a++(s++⟨#[10]⟩)) a
theorem ug (a:ByteArray) (ls:List ByteArray) (s:ByteArray):cB a (ls++[s])=cB a ls++(s++⟨#[10]⟩):=by
 unfold cB;rw[List.foldl_append]
 rfl
theorem pA {a:ByteArray} {ls:List ByteArray} {B:Nat} (h:∀s∈ls,s.size≤B):(cB a ls).size≤a.size+(B+1)*ls.length:=by
 unfold cB
 induction ls generalizing a with
 |nil=>simp
 |cons x r ih=>
  have h1:=ih (a:=a++(x++⟨#[10]⟩)) (fun s hs=>h s (by simp[hs]));have h2:=h x (by simp);rw[List.foldl_cons,List.length_cons,Nat.mul_succ];rw[Jt,Jt] at h1;have:(⟨#[10]⟩:ByteArray).size=1:=rfl;omega
def br (W:Nat) (l:List Int) (R M:Nat):Nat→ByteArray
 |0=>⟨#[]⟩
 |p+1=>cB (if p=0 then br W l R M p else br W l R M p++⟨#[10]⟩) (pgL W l R M p)
theorem ur (W:Nat) (l:List Int) (R M:Nat):br W l R M (0+1)=cB (br W l R M 0) (pgL W l R M 0):=rfl
theorem sm {W:Nat} {l:List Int} {R M p:Nat} (h:0<p):br W l R M (p+1)=cB (br W l R M p++⟨#[10]⟩) (pgL W l R M p):=by
 have:¬p=0:=by omega
 simp[br,this]
def mN (W:Nat) (l:List Int) (R M n:Nat):Prop:=∀p,p<n→pgF W l R M p
instance (W:Nat) (l:List Int) (R M n:Nat):Decidable (mN W l R M n):=by unfold mN;infer_instance
theorem uc {W:Nat} {l:List Int} {R M n:Nat} (h:mN W l R M n) (h1:pgF W l R M n):mN W l R M (n+1):=by
 intro r hr
 rcases Nat.lt_or_ge r n with h'|h'
 ·exact h r h'
 ·obtain rfl:r=n:=by omega
  exact h1
theorem sl {W:Nat} {l:List Int} {R M n:Nat} (h:mN W l R M n) (hR:0<R) (hR2:R≤20) (hW:W≤12) (hl:l.length≤60):(br W l R M n).size≤20000*n:=by
 induction n with
 |zero=>exact Jr _
 |succ k ih=>
  have h1:=ih (fun p hp=>h p (by omega));have h2:=dH l M k;have h3:=pA (a:=if k=0 then br W l R M k else br W l R M k++⟨#[10]⟩) (rT (h k (Nat.lt_succ_self k)) hR hW (by omega));rw[kZ] at h3;have h4:(780+1)*eP l R M k≤781*20:=Nat.mul_le_mul (by omega) (by unfold eP;omega);have h5:(if k=0 then br W l R M k else br W l R M k++⟨#[10]⟩).size≤(br W l R M k).size+1:=by
   split
   ·omega
   ·rw[Jt];exact Jr _
  have h6:br W l R M (k+1)=cB (if k=0 then br W l R M k else br W l R M k++⟨#[10]⟩) (pgL W l R M k):=rfl;rw[h6];unfold pgL;omega
def pgN (l:List Int) (M:Nat):Nat:=(l.length+M-1) / M
theorem zg {l:List Int} {M:Nat} (p:Nat) (hM:0<M):p*M<l.length↔p<pgN l M:=by
 have:=ki (L:=l.length) (r:=0) p hM;rw[Nat.zero_add] at this;exact this
theorem jS {l:List Int} {M:Nat} (hM:0<M):pgN l M≤l.length:=pQ (r:=0) hM
def mS (W:Nat) (l:List Int) (R A:Nat):Bool:=decide (mN W l R (R*A) (pgN l (R*A)))
def shS (W:Nat) (l:List Int) (R A:Nat):ByteArray:=br W l R (R*A) (pgN l (R*A))
end Go.Proofs.YtfmjklgfpiffbaaGreatDoor
namespace Go.Proofs.YtfmjklgfpiffbaaGreatDoor
open Go.RowKit Go.Proofs.Tryz
set_option linter.unusedVariables false
set_option linter.unusedSimpArgs false
set_option maxRecDepth 100000
set_option maxHeartbeats 8000000
attribute [local go_sem ↓] Go.wp_at_zero Go.wp_at_succ
theorem AT (n:Nat) (w:World) (hn:n≤12):
  Calls prog 292 #[.string ⟨#[32]⟩,.int .i64 n] w fun e w'=>e=.returned (.string (spS n))∧w=w':=by
 obtain rfl|rfl|rfl|rfl|rfl|rfl|rfl|rfl|rfl|rfl|rfl|rfl|rfl:n=0∨n=1∨n=2∨n=3∨n=4∨n=5∨n=6∨n=7∨n=8∨n=9∨n=10∨n=11∨n=12:=by omega
 all_goals
  go_enter func292,ntmps292
  go_wp2_with fail
  refine wp_loop_rounds 5 ?_
  repeat any_goals (rw[rounds_succ];go_wp2_with fail)
  go_ret;exact⟨rfl,rfl⟩
def zw (s:ByteArray) (P:Prop) (e:Ending):Prop:=(P∧e=.returned (.tuple #[.string s,.bool true]))∨(¬P∧∃t,e=.returned (.tuple #[.string t,.bool false]))
theorem yc (v:Int) (W:Nat) (w:World) (hv : -9223372036854775808≤v∧v≤9223372036854775807) (hW:W≤12):
  Calls prog 273 #[.int .i64 v,.int .i64 W] w fun e w'=>zw (ln W v) ((au v).size≤W) e∧Below w.heap.size w w':=by
 have hs:=aJ hv.1 hv.2
 go_enter func273,ntmps273
 go_wp2_with fail
 refine(cO v _ hv.1 hv.2).mono ?_;rintro e w2 ⟨rfl,b2⟩;have HB:=Jj b2;clear b2;obtain⟨m,hm⟩:∃m:Nat,(au v).size=m:=⟨_,rfl⟩;by_cases h:m≤W
 ·have HP:=Jj (show ln W v=spS (W-m)++au v by rw[←hm];rfl);have hlt:¬(W:Int)<m:=by omega
  obtain⟨d,hd⟩:∃d:Nat,W-m=d:=⟨_,rfl⟩;have hsub:((W:Int)-(m:Int))=(d:Int):=by omega
  have hd12:d≤12:=by omega
  have hsz:=qX d;have hcat:¬ 9223372036854775807<(spS d).size+(au v).size:=by omega
  have hcat2:¬ 9223372036854775807<d+m:=by omega
  have H:=Jj (Jq h (Jq hm hd));clear h hd
  go_wp2_with fail
  refine(AT d _ hd12).mono ?_;rintro e w3 ⟨rfl,rfl⟩;go_wp2;go_ret2;refine⟨.inl ⟨by rw[H.out.2.1];exact H.out.1,?_⟩,HB.out⟩;rw[HP.out,H.out.2.2]
  rfl
 ·have hlt:(W:Int)<m:=by omega
  have hlt2:W<m:=by omega
  go_wp2;go_ret2;exact⟨.inr ⟨by rw[hm];exact h,_,rfl⟩,HB.out⟩
theorem Blk.lay {w:World} {g:Nat} {t:TypeId} {a b c:Value} (h:Blk w g t [a,b,c]):w.cell? ⟨g,0,none⟩=some a∧w.cell? ⟨g,1,none⟩=some b∧w.cell? ⟨g,2,none⟩=some c:=by
 refine⟨?_,?_,?_⟩ <;> rw[h.cell] <;> rfl
theorem fp {R A W:Nat} (h1:1≤R∧R≤20) (h2:1≤A∧A≤6) (h3:1≤W∧W≤12):dE R A W=true:=by simp[dE,inB];omega
theorem kV {R A:Nat} (h1:R≤20) (h2:A≤6):R*A≤120:=Nat.mul_le_mul h1 h2
theorem iM {a b m:Nat} (h:a*b=m) (hm:m≤1000000):wrap64 ((a:Int)*(b:Int))=(m:Int):=by
 have e:(a:Int)*(b:Int)=(m:Int):=by rw[←h];push_cast;rfl
 rw[e];exact IntWalk.wrap64_in _ (by omega)
theorem Cm (a b:Nat):((a:Int)).tdiv (b:Int)=((a / b:Nat):Int):=by
 rw[Int.tdiv_eq_ediv_of_nonneg (by omega)]
 rfl
theorem oy (R A W:Nat) (l:List Int) (w:World) (h1:1≤R∧R≤20) (h2:1≤A∧A≤6) (h3:1≤W∧W≤12) (hl:l.length≤60):
  Calls prog 153 #[.agg #[.int .i64 R,.int .i64 A,.int .i64 W],.int .i64 l.length] w fun e w'=>e=.returned (.int .i64 (pgN l (R*A):Nat))∧Below w.heap.size w w':=by
 have hlay:=fp h1 h2 h3;have hin:inB (l.length:Int) 0 60=true:=by simp[inB];omega
 obtain⟨M,hM⟩:∃M:Nat,R*A=M:=⟨_,rfl⟩;have hM0:0<M:=by rw[←hM];exact Nat.mul_pos h1.1 h2.1
 have hM1:M≤120:=by rw[←hM];exact kV h1.2 h2.2
 have hw1:=iM hM (by omega);rw[hM];obtain⟨q,hq⟩:∃q:Nat,pgN l M=q:=⟨_,rfl⟩;have hw2:((l.length:Int)+(M:Int)-1).tdiv (M:Int)=(q:Int):=by
  have:(l.length:Int)+(M:Int)-1=((l.length+M-1:Nat):Int):=by omega
  rw[this,Cm,←hq]
  rfl
 have hq2:q≤60:=by rw[←hq];exact Js (jS hM0) hl
 have hw3:wrap64 (q:Int)=q:=IntWalk.wrap64_in _ (by omega);have hM3:¬M=0:=by omega
 have hM4:¬(M:Int)=0:=by omega
 rw[hq];clear hM hq;have K1:=Blk.new w 29 [.int .i64 R,.int .i64 A,.int .i64 W];have B1:=ab w (.cells #[.int .i64 R,.int .i64 A,.int .i64 W] 29);obtain⟨a0,a1,a2⟩:=K1.lay
 go_enter func153,ntmps153
 go_wp2_with fail
 refine(eJ R A W _).mono ?_;rintro e w2 ⟨rfl,b2⟩;rw[hlay];obtain⟨c0,c1,c2⟩:=(K1.below b2 K1.lt).lay;have HB:=Jj (aa B1 b2);clear a0 a1 a2 b2 B1 K1
 go_wp2_with fail
 refine(aL _ _ _ _).mono ?_;rintro e w3 ⟨rfl,rfl⟩;rw[hin];go_wp2;go_ret;exact⟨rfl,HB.out⟩
theorem lJ (R A W M:Nat) (w:World) (hw1:wrap64 ((R:Int)*(A:Int))=(M:Int)):
  Calls prog 268 #[.agg #[.int .i64 R,.int .i64 A,.int .i64 W]] w fun e w'=>e=.returned (.int .i64 M)∧Below w.heap.size w w':=by
 have K1:=Blk.new w 29 [.int .i64 R,.int .i64 A,.int .i64 W];have B1:=Jj (ab w (.cells #[.int .i64 R,.int .i64 A,.int .i64 W] 29));obtain⟨a0,a1,a2⟩:=K1.lay
 go_enter func268,ntmps268
 go_wp2;go_ret;exact⟨by rw[←hw1];rfl,B1.out⟩
theorem Ep (n:Int) (w:World) (h:0≤n∧n≤60):
  Calls prog 202 #[.int .i64 n] w fun e w'=>e=.returned (.bool true)∧w=w':=by
 obtain⟨h0,h1⟩:=h
 go_enter func202,ntmps202
 go_wp2;go_ret;exact⟨rfl,rfl⟩
theorem nR (R A W:Nat) (l:List Int) (w:World) (h1:1≤R∧R≤20) (h2:1≤A∧A≤6) (h3:1≤W∧W≤12) (hl:l.length≤60):
  Calls prog 256 #[.agg #[.int .i64 R,.int .i64 A,.int .i64 W],.int .i64 l.length] w fun e w'=>e=.returned (.int .i64 (pgN l (R*A):Nat))∧Below w.heap.size w w':=by
 have hlay:=fp h1 h2 h3;have hin:inB (l.length:Int) 0 60=true:=by simp[inB];omega
 obtain⟨M,hM⟩:∃M:Nat,R*A=M:=⟨_,rfl⟩;have hM0:0<M:=by rw[←hM];exact Nat.mul_pos h1.1 h2.1
 have hM1:M≤120:=by rw[←hM];exact kV h1.2 h2.2
 have hw1:=Jj (iM hM (by omega));rw[hM];obtain⟨q,hq⟩:∃q:Nat,pgN l M=q:=⟨_,rfl⟩;have hw2:((l.length:Int)+(M:Int)-1).tdiv (M:Int)=(q:Int):=by
  have:(l.length:Int)+(M:Int)-1=((l.length+M-1:Nat):Int):=by omega
  rw[this,Cm,←hq]
  rfl
 have hq2:q≤60:=by rw[←hq];exact Js (jS hM0) hl
 have hw3:wrap64 (q:Int)=q:=IntWalk.wrap64_in _ (by omega);have hM3:¬M=0:=by omega
 have hM4:¬(M:Int)=0:=by omega
 rw[hq];clear hM hq;have K1:=Blk.new w 29 [.int .i64 R,.int .i64 A,.int .i64 W];have B1:=ab w (.cells #[.int .i64 R,.int .i64 A,.int .i64 W] 29);obtain⟨a0,a1,a2⟩:=K1.lay
 go_enter func256,ntmps256
 go_wp2_with fail
 refine(eI R A W _).mono ?_;rintro e w2 ⟨rfl,b2⟩;rw[hlay];replace K1:=K1.below b2 K1.lt;have HB:=Jj (aa B1 b2);clear a0 a1 a2 b2 B1;obtain⟨a0,a1,a2⟩:=K1.lay
 go_wp2_with fail
 refine(Ep _ _ (by omega)).mono ?_;rintro e w3 ⟨rfl,rfl⟩
 go_wp2_with fail
 have hlt:=K1.lt;have tok1:True:=trivial;have tok2:True:=trivial
 go_region_held3 (fun w'=>w'.cell? ⟨w.heap.size,0,none⟩=some (.int .i64 R)∧w'.cell? ⟨w.heap.size,1,none⟩=some (.int .i64 A)∧w'.cell? ⟨w.heap.size,2,none⟩=some (.int .i64 W)) (first|exact⟨a0,a1,a2⟩|exact⟨a0',a1',a2'⟩|exact⟨d0',d1',d2'⟩|go_keep) (first
  |((try go_simp);go_at_call 268;have _t:=tok1;refine(lJ R A W M _ hw1.out).mono ?_;rintro e w5 ⟨rfl,b5⟩;replace b5:Below w2.heap.size w2 w5:=(by first|exact b5|exact aa ((Below.refl _ _).drew) b5);obtain⟨a0',a1',a2'⟩:=(K1.below b5 hlt).lay;clear tok1;(try dsimp only))
  |((try go_simp);go_at_call 268;have _t:=tok2;refine(lJ R A W M _ hw1.out).mono ?_;rintro e w6 ⟨rfl,b6⟩;replace b6:Below w2.heap.size w2 w6:=aa b5 b6;obtain⟨d0',d1',d2'⟩:=(K1.below b6 hlt).lay;clear tok2;(try dsimp only))
  |fail)
 all_goals
  clear a0 a1 a2 a0' a1' a2' d0' d1' d2';go_wp2;go_ret;refine⟨congrArg (fun z=>Ending.returned (.int .i64 z)) (?_:IntKind.i64.wrap ((IntKind.i64.wrap (IntKind.i64.wrap ((l.length:Int)+(M:Int))-1)).tdiv (M:Int))=(q:Int)),aa HB.out b6⟩;rw[IntWalk.i64_left,IntWalk.i64_left,IntWalk.i64_left,IntWalk.wrap64_in ((l.length:Int)+(M:Int)) (by omega),IntWalk.wrap64_in ((l.length:Int)+(M:Int)-1) (by omega),hw2,hw3]
theorem IJ {l:List Int} {R A M p r c:Nat} (hM:R*A=M) (hr:r<R) (hc:c<A):at_ (pgE l M p) (r+c*R)=at_ l (p*M+(r+c*R)):=by
 refine Dk l ?_;have h1:(c+1)*R≤A*R:=Nat.mul_le_mul_right R hc;rw[Nat.succ_mul,Nat.mul_comm A R] at h1;omega
theorem Ft {l:List Int} {R A M p r c:Nat} (hM:R*A=M) (hr:r<R) (hc:c<A) (h:p*M+(r+c*R)<l.length):c<jB (pgE l M p).length R r:=by
 refine(ki c (by omega)).1 ?_;rw[dH];have h1:(c+1)*R≤A*R:=Nat.mul_le_mul_right R hc;rw[Nat.succ_mul,Nat.mul_comm A R] at h1;omega
theorem wO {l:List Int} {R A M p r c:Nat} (hM:R*A=M) (hR:0<R) (hc:c≤jB (pgE l M p).length R r) (h:¬c<A∨¬p*M+(r+c*R)<l.length):c=jB (pgE l M p).length R r:=by
 refine Nat.le_antisymm hc (Nat.le_of_not_lt fun h2=>?_);have h3:=(ki c hR).2 h2;rw[dH] at h3
 rcases h with h|h
 ·have h1:A*R≤c*R:=Nat.mul_le_mul_right R (by omega);rw[Nat.mul_comm A R] at h1;omega
 ·omega
theorem tq {a b m:Nat} (h:a+b=m) (hm:m≤1000000):wrap64 ((a:Int)+(b:Int))=(m:Int):=by
 have e:(a:Int)+(b:Int)=(m:Int):=by rw[←h];push_cast;rfl
 rw[e];exact IntWalk.wrap64_in _ (by omega)
theorem le3 {pM cR pc r K R:Nat} (h1:pM≤7200) (h2:cR≤120) (h3:pM+cR=pc) (h4:pc+r=K) (h5:r<R) (h6:R≤20):pc≤7320∧K≤7340:=by omega
theorem Jh {pM n R K:Nat} (h1:pM≤7200) (h2:n<R) (h3:R≤20) (h4:pM+n=K):K≤7220:=by omega
theorem Jg {pM cR pc r K P C:Nat} (h3:pM+cR=pc) (h4:pc+r=K) (hP:pM=P) (hC:C=cR):K=P+(r+C):=by omega
theorem zw.open_ {s:ByteArray} {P:Prop} {e:Ending} (h:zw s P e):∃t bb,e=.returned (.tuple #[.string t,.bool bb])∧((bb=true∧P∧t=s)∨(bb=false∧¬P)):=by
 rcases h with ⟨h1,h2⟩|⟨h1,t,h2⟩
 ·exact⟨_,_,h2,.inl ⟨rfl,h1,rfl⟩⟩
 ·exact⟨_,_,h2,.inr ⟨rfl,h1⟩⟩
theorem Af (R A W M p r:Nat) (v:Value) (l:List Int) (w:World) (hv:ai w v l) (h1:1≤R∧R≤20) (h2:1≤A∧A≤6) (h3:1≤W∧W≤12) (hl:l.length≤60) (hM:R*A=M) (hr:r<R) (hp:p≤60):
  Calls prog 231 #[.agg #[.int .i64 R,.int .i64 A,.int .i64 W],v,.int .i64 p,.int .i64 r] w fun e w'=>zw (mQ W (pgE l M p) R r) (mP W (pgE l M p) R r) e∧Below w.heap.size w w':=by
 have HW:=Jj hv.2;have HM:=Jj hM;have hM1:M≤120:=by rw[←hM];exact kV h1.2 h2.2
 obtain⟨B,cp,rfl,hlc,hc,hrd⟩:=hv.open_;have HR:=Jj hrd;obtain⟨pR,hpR⟩:∃x:Nat,p*R=x:=⟨_,rfl⟩;obtain⟨pM,hpM⟩:∃x:Nat,pR*A=x:=⟨_,rfl⟩;have hpR1:pR≤1200:=by rw[←hpR];exact Nat.mul_le_mul hp h1.2
 have hpM1:pM≤7200:=by rw[←hpM];exact Nat.mul_le_mul hpR1 h2.2
 have hw1:=iM hpR (by omega);have hw2:=iM hpM (by omega);have HP:=Jj (show pM=p*M by rw[←hpM,←hpR,←hM,Nat.mul_assoc]);have K1:=Blk.new w 29 [.int .i64 R,.int .i64 A,.int .i64 W];have B1:=ab w (.cells #[.int .i64 R,.int .i64 A,.int .i64 W] 29);clear hv hrd hM hpR hpM
 go_enter func231,ntmps231
 go_wp2_with fail
 generalize hW1:w.alloc (.cells #[.int .i64 R,.int .i64 A,.int .i64 W] 29)=W1 at *;clear hW1
 go_loopw [10,11] (fun s i wr=>∃c:Nat,c≤A∧c≤jB (pgE l M p).length R r∧nP W (pgE l M p) R r c∧i=.int .i64 c∧s=.string (fK W (pgE l M p) R r c)∧Below W1.heap.size W1 wr) (fun _ i _=>A-(intOf i).toNat)
 case atStart=>exact⟨0,by omega,Jy _,fun i hi=>by omega,rfl,rfl,Below.refl _ _⟩
 case round=>
  obtain⟨c,hcA,hcN,hfit,rfl,rfl,hb⟩:=hrel;have hlsz:=lG hfit;have hlsz2:(1+W)*c≤13*6:=Nat.mul_le_mul (by omega) (by omega);obtain⟨c0,c1,c2⟩:=(K1.below hb K1.lt).lay;obtain⟨cR,hcR⟩:∃x:Nat,c*R=x:=⟨_,rfl⟩;have hcR1:cR≤120:=by rw[←hcR,Nat.mul_comm];exact kV h1.2 (by omega)
  have hw3:=iM hcR (by omega);obtain⟨pc,hpc⟩:∃x:Nat,pM+cR=x:=⟨_,rfl⟩;obtain⟨K,hK⟩:∃x:Nat,pc+r=x:=⟨_,rfl⟩;have h34:=le3 hpM1 hcR1 hpc hK hr h1.2;have hw4:=tq hpc (Js h34.1 (by decide));have hw5:=tq hK (Js h34.2 (by decide));have EK:=Jg hpc hK HP.out hcR;have hKb:=h34.2;have H:=Jj (Jq hcN (Jq hfit (Jq hb (Jq hcR EK))));have HQ:=Jj (Jq hpR1 (Jq hpM1 (Jq hcR1 (Jq hpc hK))));have hR0:0<R:=Jw Nat.zero_lt_one h1.1;have hb0:=Jj (aa B1 hb);have hb1:=Jj hb;by_cases hlt:c<A
  ·by_cases hk:K<l.length
   ·have hl0:0<l.length:=Nat.lt_of_le_of_lt (Jy _) hk;obtain⟨b,o,rfl,hbb,hcell⟩:=HR.out.ints hl0;have hck:=(hb0.out.cell (by exact hbb)).trans (hcell K hk);have hx:=HW.out.at _ K;have hat:=Jj (show at_ (pgE l M p) (r+c*R)=at_ l K by rw[IJ HM.out hr hlt,←EK]);have hmore:=Jj (Ft (l:=l) (p:=p) HM.out hr hlt (by rw[←EK];exact hk));have hbr:b<wr.heap.size:=Jw hbb hb0.out.size;have hKl:=K1.lt;have hszr:=hb.size;clear hb hcN hcR EK hpR1 hpM1 hcR1 hpc hK h34 hcell;have HS:=Jj (Jq hfit (Jq hlsz hlsz2));clear hfit hlsz hlsz2;have tok1:True:=trivial
    go_wp2_with fail
    go_region_held3 (fun w'=>w'.cell? ⟨b,o+K,none⟩=some (.int .i64 (at_ l K))∧w'.cell? ⟨w.heap.size,2,none⟩=some (.int .i64 W)) (first|exact⟨hck,c2⟩|exact⟨hck',c2'⟩|go_keep) (first
     |((try go_simp);go_at_call 273;have _t:=tok1;refine(yc (at_ l K) W _ hx h3.2).mono ?_;rintro e w5 ⟨T,b5⟩;replace b5:Below wr.heap.size wr w5:=(by first|exact b5|exact aa ((Below.refl _ _).drew) b5);obtain⟨t,bb,rfl,hT⟩:=T.open_;replace hT:=Jj hT;have hck':=(b5.cell (by exact hbr)).trans hck;have c2':=(b5.cell (by exact Jw hKl hszr)).trans c2;clear tok1 T;(try dsimp only))
     |fail)
    all_goals
     have HB5:=Jj (aa hb0.out b5);have b5h:=Jj b5;clear b5 hck hck' c0 c1 c2 c2'
     rcases hT.out with ⟨rfl,hP,rfl⟩|⟨rfl,hP⟩
     ·have hps:=tY hP;have hfit2:=Jj (show nP W (pgE l M p) R r (c+1) from by
       intro i hi
       rcases Nat.lt_or_ge i c with h'|h'
       ·exact HS.out.1 i h'
       ·obtain rfl:i=c:=by omega
        rw[hat.out];exact hP)
      have hls:=Js HS.out.2.1 HS.out.2.2;have hpw:(ln W (at_ l K)).size≤12:=by rw[hps];exact h3.2
      obtain⟨L,hL⟩:∃L,fK W (pgE l M p) R r c=L:=⟨_,rfl⟩;obtain⟨Z,hZ⟩:∃Z,ln W (at_ l K)=Z:=⟨_,rfl⟩;rw[hL] at hls;rw[hZ] at hpw;rw[hL,hZ];clear hps hP;by_cases hc0:0<c
      ·have NS:=Jj (show fK W (pgE l M p) R r (c+1)=L++⟨#[32]⟩++Z by rw[Al hc0,hat.out,hL,hZ]);have hcat:¬ 9223372036854775807<L.size+1:=by omega
       have hs2:(L++⟨#[32]⟩).size=L.size+1:=by rw[Jt];rfl
       have hcat2:¬ 9223372036854775807<(L++⟨#[32]⟩).size+Z.size:=by omega
       have hcat3:¬ 9223372036854775807<L.size+1+Z.size:=by omega
       clear hL hZ;go_wp2;go_roundw
       case rel=>exact⟨c+1,hlt,hmore.out,hfit2.out,by go_num,by rw[NS.out],aa hb1.out b5h.out⟩
       case measure=>simp[intOf];omega
      ·have e0:c=0:=by omega
       have NS:=Jj (show fK W (pgE l M p) R r (c+1)=L++Z by
        rw[←hL,←hZ,←hat.out,e0];exact CU W _ R r)
       have hcat:¬ 9223372036854775807<L.size+Z.size:=by omega
       clear hL hZ e0;go_wp2;go_roundw
       case rel=>exact⟨c+1,hlt,hmore.out,hfit2.out,by go_num,by rw[NS.out],aa hb1.out b5h.out⟩
       case measure=>simp[intOf];omega
     ·have HN:=Jj hP;clear hP;go_wp2;go_ret2;refine⟨.inr ⟨fun hF=>?_,_,rfl⟩,HB5.out⟩;have:=hF c hmore.out;rw[hat.out] at this;exact HN.out this
   ·have HD:=Jj (wO (l:=l) (p:=p) (r:=r) HM.out hR0 hcN (.inr (by rw[←EK];exact hk)));have HF:=Jj hfit;clear hb hcN hfit hcR hlsz hlsz2 EK hpR1 hpM1 hcR1 hpc hK h34;go_wp2;go_ret2;refine⟨.inl ⟨?_,?_⟩,hb0.out⟩
    ·unfold mP;rw[←HD.out];exact HF.out
    ·unfold mQ;rw[←HD.out];rfl
  ·have HD:=Jj (wO (l:=l) (p:=p) (r:=r) HM.out hR0 hcN (.inl hlt));have HF:=Jj hfit;clear hb hcN hfit hcR hlsz hlsz2 EK hpR1 hpM1 hcR1 hpc hK h34;go_wp2;go_ret2;refine⟨.inl ⟨?_,?_⟩,hb0.out⟩
   ·unfold mP;rw[←HD.out];exact HF.out
   ·unfold mQ;rw[←HD.out];rfl
def BC (w:World) (base:Nat) (ls:List ByteArray) (P:Prop) (e:Ending):Prop:=∃r,(P∧e=.returned (.tuple #[r,.bool true])∧aj w base r ls)∨(¬P∧e=.returned (.tuple #[r,.bool false]))
theorem wR {l:List Int} {R A M p:Nat} (n:Nat) (hM:R*A=M) (hA:1≤A):n<eP l R M p↔n<R∧p*M+n<l.length:=by
 unfold eP;rw[dH];have:R*1≤R*A:=Nat.mul_le_mul_left R hA;omega
theorem ui {l:List Int} {R A M p n:Nat} (hM:R*A=M) (hA:1≤A) (hn:n≤eP l R M p) (h:¬n<R∨¬p*M+n<l.length):n=eP l R M p:=by
 have:=wR (l:=l) (p:=p) n hM hA;omega
theorem Ag (R A W M p:Nat) (v:Value) (l:List Int) (w:World) (hv:ai w v l) (h1:1≤R∧R≤20) (h2:1≤A∧A≤6) (h3:1≤W∧W≤12) (hl:l.length≤60) (hM:R*A=M) (hp:p≤60):
  Calls prog 154 #[.agg #[.int .i64 R,.int .i64 A,.int .i64 W],v,.int .i64 p] w fun e w'=>BC w' w.heap.size (pgL W l R M p) (pgF W l R M p) e∧Below w.heap.size w w':=by
 have HV:=Jj hv;have HM:=Jj hM;obtain⟨B,cp,rfl,hlc,hc,hrd⟩:=hv.open_;obtain⟨pR,hpR⟩:∃x:Nat,p*R=x:=⟨_,rfl⟩;obtain⟨pM,hpM⟩:∃x:Nat,pR*A=x:=⟨_,rfl⟩;have hpR1:pR≤1200:=by rw[←hpR];exact Nat.mul_le_mul hp h1.2
 have hpM1:pM≤7200:=by rw[←hpM];exact Nat.mul_le_mul hpR1 h2.2
 have hw1:=iM hpR (Js hpR1 (by decide));have hw2:=iM hpM (Js hpM1 (by decide));have HP:=Jj (show pM=p*M by rw[←hpM,←hpR,←hM,Nat.mul_assoc]);have K1:=Blk.new w 29 [.int .i64 R,.int .i64 A,.int .i64 W];have B1:=ab w (.cells #[.int .i64 R,.int .i64 A,.int .i64 W] 29);have K1':=K1.alloc (.cells #[] 9);have B2:=B1.alloc (Nat.le_of_lt K1.lt) (.cells #[] 9);have O1:=aj.empty (w.alloc (.cells #[.int .i64 R,.int .i64 A,.int .i64 W] 29)) (w.heap.size+1) (by simp);have hgt:dW W (pgE l M p) R 0=[]:=rfl;clear hv hrd hM hpR hpM K1 B1 hpR1
 go_enter func154,ntmps154
 go_wp2_with fail
 generalize hW1:(w.alloc (.cells #[.int .i64 R,.int .i64 A,.int .i64 W] 29)).alloc (.cells #[] 9)=W1 at *;have hsz1:w.heap.size+1<W1.heap.size:=by rw[←hW1];simp
 clear hW1
 go_loopw [8,9] (fun s i wr=>∃n:Nat,n≤eP l R M p∧kK W (pgE l M p) R n∧i=.int .i64 n∧aj wr (w.heap.size+1) s (dW W (pgE l M p) R n)∧Below w.heap.size w wr∧Blk wr w.heap.size 29 [.int .i64 R,.int .i64 A,.int .i64 W]) (fun _ i _=>R-(intOf i).toNat)
 case atStart=>exact⟨0,Jy _,fun r hr=>absurd hr (Nat.not_lt_zero _),rfl,by rw[hgt];simpa using O1,B2,K1'⟩
 case round=>
  obtain⟨n,hn,hF,rfl,hO,hb,hK⟩:=hrel;obtain⟨c0,c1,c2⟩:=hK.lay;have hKl:=hK.lt;clear O1 B2 K1';by_cases hlt:n<R
  ·obtain⟨K,hpc⟩:∃x:Nat,pM+n=x:=⟨_,rfl⟩;have h34:=Jh hpM1 hlt h1.2 hpc;have hw4:=tq hpc (Js h34 (by decide));have EK:=Jj (show K=p*M+n by rw[←HP.out,hpc]);by_cases hk:K<l.length
   ·have hlt2:=Jj ((wR (l:=l) (p:=p) n HM.out h2.1).2 ⟨hlt,by rw[←EK.out];exact hk⟩);have H:=Jj (Jq hF (Jq hO (Jq hb hK)));clear hF hO hb hK hn hpc h34 hpM1
    go_wp2_with fail
    refine(Af R A W M p n _ l _ (HV.out.bel H.out.2.2.1) h1 h2 h3 hl HM.out hlt hp).mono ?_;rintro e w5 ⟨T,b5⟩;obtain⟨t,bb,rfl,hT⟩:=T.open_;have HB5:=Jj (aa H.out.2.2.1 b5);have HO5:=Jj (H.out.2.1.bel b5);have K5:=Jj (H.out.2.2.2.below b5 hKl);clear b5 T c0 c1 c2
    rcases hT with ⟨rfl,hP,rfl⟩|⟨rfl,hP⟩
    ·have hsz:=uh hP (Jw Nat.zero_lt_one h1.1) h3.2 (by rw[dH];omega);have HP2:=Jj (rS H.out.1 hP);have SL:=Jj (rU W (pgE l M p) R n);have hn60:n≤20:=by omega
     have hbz:=HB5.out.size;obtain⟨Z,hZ⟩:∃Z,mQ W (pgE l M p) R n=Z:=⟨_,rfl⟩;obtain⟨S,hS⟩:∃S,dW W (pgE l M p) R n=S:=⟨_,rfl⟩;have hSl:S.length=n:=by rw[←hS,kZ]
     rw[hZ] at hsz;rw[hS] at HO5;replace SL:=Jj (show dW W (pgE l M p) R (n+1)=S++[Z] by rw[SL.out,hS,hZ]);rw[hZ];clear hP hZ hS
     go_wp2_with (at_builtin;go_must (refine lP rfl (.tmp 44) (.tmp 46) (by rfl) (w.heap.size+1) _ S (by rfl) (by exact HO5.out.bel (ab _ _)) _ _ Z (by rfl) (by exact bh _ _ _) (by omega) (by omega) (by simp;omega) ?_;intro v6 w6 ho6 hg6 hat6;have K6:=(K5.out.alloc (.cells #[.string Z] 9)).grown hg6 (fun e=>by have:=(HO5.out.lt _ e.symm).1;omega);have B6:=(aa HB5.out (ab w5 (.cells #[.string Z] 9))).trans (bQ (base:=w.heap.size) hg6 (by simp;omega) (fun q hq=>by have:=(HO5.out.lt q hq).1;omega))))
     go_roundw
     case rel=>exact⟨n+1,hlt2.out,HP2.out,by go_num,by rw[SL.out];exact ho6,B6,K6⟩
     case measure=>simp[intOf];omega
    ·have HN:=Jj hP;clear hP;go_wp2;go_ret2;exact⟨⟨_,.inr ⟨fun hF=>HN.out (hF n hlt2.out),rfl⟩⟩,HB5.out.alloc (by exact HB5.out.size) _⟩
   ·have HD:=Jj (ui (l:=l) (p:=p) HM.out h2.1 hn (.inr (by rw[←EK.out];exact hk)));have H:=Jj (Jq hF (Jq hO hb));clear hF hO hb hK hn hpc h34 hpM1;go_wp2;go_ret2;refine⟨⟨_,.inl ⟨?_,rfl,?_⟩⟩,H.out.2.2⟩
    ·unfold pgF;rw[←HD.out];exact H.out.1
    ·unfold pgL;rw[←HD.out];exact H.out.2.1.lower (Nat.le_succ _)
  ·have HD:=Jj (ui (l:=l) (p:=p) HM.out h2.1 hn (.inl hlt));have H:=Jj (Jq hF (Jq hO hb));clear hF hO hb hK hn hpM1;go_wp2;go_ret2;refine⟨⟨_,.inl ⟨?_,rfl,?_⟩⟩,H.out.2.2⟩
   ·unfold pgF;rw[←HD.out];exact H.out.1
   ·unfold pgL;rw[←HD.out];exact H.out.2.1.lower (Nat.le_succ _)
def uV (s:ByteArray) (P:Prop) (e:Ending):Prop:=(P∧e=.returned (.tuple #[.string s,.bool true]))∨(¬P∧e=.returned (.tuple #[.string ⟨#[]⟩,.bool false]))
theorem ot {W:Nat} {l:List Int} {R A M:Nat} (hM:R*A=M):mS W l R A=true↔mN W l R M (pgN l M):=by unfold mS;rw[hM];exact decide_eq_true_iff
theorem mA (a:ByteArray) {ls:List ByteArray} {k:Nat} (h:k<ls.length):cB a (ls.take (k+1))=cB a (ls.take k)++sat ls k++⟨#[10]⟩:=by
 rw[List.take_succ_eq_append_getElem h,ug,bV ls k h,ByteArray.append_assoc]
theorem sS (W:Nat) (l:List Int) (R M p:Nat):(pgL W l R M p).length=eP l R M p:=kZ _ _ _ _
theorem tZ (l:List Int) (R M p:Nat):eP l R M p≤R:=Nat.min_le_left _ _
theorem wF {W:Nat} {l:List Int} {R M p:Nat} (h:pgF W l R M p) (hR:0<R) (hW:W≤12) (hl:l.length≤60):∀s∈pgL W l R M p,s.size≤780:=rT h hR hW (by rw[dH];omega)
theorem jV {a:ByteArray} {ls:List ByteArray} {k q:Nat} (h:∀s∈ls,s.size≤780) (hk:k≤ls.length) (hl:ls.length≤20) (ha:a.size≤20000*q+1) (hq:q≤60):(cB a (ls.take k)).size≤1300000:=by
 have:=pA (a:=a) (ls:=ls.take k) (fun s hs=>h s (List.mem_of_mem_take hs));rw[List.length_take,Nat.min_eq_left hk] at this;have h2:(780+1)*k≤781*20:=Nat.mul_le_mul (by omega) (by omega);omega
theorem A9 (R A W M:Nat) (v:Value) (l:List Int) (w:World) (hv:ai w v l) (h1:1≤R∧R≤20) (h2:1≤A∧A≤6) (h3:1≤W∧W≤12) (hl:l.length≤60) (hM:R*A=M):
  Calls prog 77 #[.agg #[.int .i64 R,.int .i64 A,.int .i64 W],v] w fun e w'=>uV (shS W l R A) (ag l=true∧mS W l R A=true) e∧Below w.heap.size w w':=by
 have HV:=Jj hv;have HM:=Jj hM;have hlay:=fp h1 h2 h3;have hM0:0<M:=by rw[←hM];exact Nat.mul_pos h1.1 h2.1
 obtain⟨B,cp,rfl,hlc,hc,hrd⟩:=hv.open_;have K1:=Blk.new w 29 [.int .i64 R,.int .i64 A,.int .i64 W];have B1:=ab w (.cells #[.int .i64 R,.int .i64 A,.int .i64 W] 29);obtain⟨a0,a1,a2⟩:=K1.lay;clear hv hrd hM
 go_enter func77,ntmps77
 go_wp2_with fail
 refine(eJ R A W _).mono ?_;rintro e w2 ⟨rfl,b2⟩;rw[hlay];replace K1:=K1.below b2 K1.lt;have HB:=Jj (aa B1 b2);clear a0 a1 a2 b2 B1;obtain⟨a0,a1,a2⟩:=K1.lay
 go_wp2_with fail
 refine(az _ l _ (HV.out.bel HB.out)).mono ?_;rintro e w3 ⟨rfl,rfl⟩;cases ht:ag l
 ·go_wp2;go_ret2;exact⟨.inr ⟨fun h=>by rw[ht] at h;exact Bool.noConfusion h.1,rfl⟩,HB.out⟩
 ·obtain⟨q0,hq0⟩:∃q,pgN l M=q:=⟨_,rfl⟩;have hq60:q0≤60:=by rw[←hq0];exact Js (jS hM0) hl
  go_wp2_with fail
  clear a0 a1 a2
  go_loopw [6,7] (fun s i wr=>∃q:Nat,q≤q0∧mN W l R M q∧i=.int .i64 q∧s=.string (br W l R M q)∧Below w.heap.size w wr∧Blk wr w.heap.size 29 [.int .i64 R,.int .i64 A,.int .i64 W]) (fun _ i _=>q0-(intOf i).toNat)
  case atStart=>exact⟨0,Jy _,fun p hp=>absurd hp (Nat.not_lt_zero _),rfl,rfl,HB.out,K1⟩
  case round=>
   obtain⟨q,hq,hF,rfl,rfl,hb,hK⟩:=hrel;obtain⟨c0,c1,c2⟩:=hK.lay;have hKl:=hK.lt;have hts:=sl hF (Jw Nat.zero_lt_one h1.1) h1.2 h3.2 hl;have H:=Jj (Jq hF (Jq hb hK));have HQ:=Jj hq0;clear hF hb hK K1 hq0
   go_wp2_with fail
   refine(oy R A W l _ h1 h2 h3 hl).mono ?_;rw[HM.out,HQ.out];rintro e w4 ⟨rfl,b4⟩;have HB4:=Jj (aa H.out.2.1 b4);have K4:=H.out.2.2.below b4 hKl;clear c0 c1 c2 b4;obtain⟨c0,c1,c2⟩:=K4.lay;have hKl4:=K4.lt;by_cases hlt:q<q0
   ·have hp60:q≤60:=by omega
    have hmore:=Jj hlt
    go_wp2_with fail
    refine(Ag R A W M q _ l _ (HV.out.bel HB4.out) h1 h2 h3 hl HM.out hp60).mono ?_;rintro e w5 ⟨⟨u,T⟩,b5⟩;have HB5:=Jj (aa HB4.out b5);have K5:=Jj (K4.below b5 hKl4);clear b5 c0 c1 c2 K4
    rcases T with ⟨hP,rfl,hO⟩|⟨hP,rfl⟩
    ·obtain⟨A5,c5,rfl,hlc5,-,hrd5⟩:=hO.strs.open_;have HR5:=Jj hrd5;have HF2:=Jj (uc H.out.1 hP);have HSZ:=Jj (wF hP (Jw Nat.zero_lt_one h1.1) h3.2 hl);have hlen:(pgL W l R M q).length≤20:=by rw[sS];exact Js (tZ _ _ _ _) h1.2
     obtain⟨ls,hls⟩:∃ls,pgL W l R M q=ls:=⟨_,rfl⟩;obtain⟨T0,hT0⟩:∃T0,br W l R M q=T0:=⟨_,rfl⟩;rw[hls] at HR5 HSZ hlen hlc5;rw[hls,hT0];rw[hT0] at hts;clear hP hrd5 hO;by_cases hq1:0<q
     ·have NS:=Jj (show br W l R M (q+1)=cB (T0++⟨#[10]⟩) ls by rw[sm hq1,hT0,hls]);have hcat:¬ 9223372036854775807<T0.size+1:=by omega
      have ha:(T0++⟨#[10]⟩).size≤20000*q+1:=by rw[Jt];exact Nat.add_le_add hts (Jr _)
      clear hls hT0
      go_wp2_with fail
      go_loopw [6,10] (fun s i wr=>∃k:Nat,k≤ls.length∧i=.int .i64 k∧s=.string (cB (T0++⟨#[10]⟩) (ls.take k))∧wr=w5) (fun _ i _=>ls.length-(intOf i).toNat)
      case atStart=>exact⟨0,Jy _,rfl,rfl,rfl⟩
      case round=>
       obtain⟨k,hk,rfl,rfl,rfl⟩:=hrel;by_cases hkl:k<ls.length
       ·obtain⟨b,o,rfl,hbb,hcell⟩:=HR5.out.strs (Nat.lt_of_le_of_lt (Jy _) hkl);have hck:=hcell k hkl;have hps:=jV HSZ.out hk hlen ha hp60;have hzz:=HSZ.out _ (cJ ls k hkl);have PT:=Jj (mA (T0++⟨#[10]⟩) hkl);obtain⟨Z,hZ⟩:∃Z,sat ls k=Z:=⟨_,rfl⟩;obtain⟨U,hU⟩:∃U,cB (T0++⟨#[10]⟩) (ls.take k)=U:=⟨_,rfl⟩;rw[hZ] at hck hzz;rw[hU] at hps;replace PT:=Jj (show cB (T0++⟨#[10]⟩) (ls.take (k+1))=U++Z++⟨#[10]⟩ by rw[PT.out,hU,hZ]);rw[hU];have hcat:¬ 9223372036854775807<U.size+Z.size:=by omega
        have hs2:(U++Z).size=U.size+Z.size:=Jt;have hcat2:¬ 9223372036854775807<(U++Z).size+1:=by omega
        have hcat3:¬ 9223372036854775807<U.size+Z.size+1:=by omega
        clear hcell hZ hU ha hts;go_wp2;go_roundw
        case rel=>exact⟨k+1,hkl,by go_num,by rw[PT.out],by first|rfl|trivial⟩
        case measure=>simp[intOf];omega
       ·have hke:k=ls.length:=by omega
        have TE:=Jj (show cB (T0++⟨#[10]⟩) (ls.take k)=br W l R M (q+1) by rw[hke,List.take_length,NS.out]);rw[TE.out];clear hke ha hts;go_wp2;go_roundw
        case rel=>exact⟨q+1,hmore.out,HF2.out,by go_num,rfl,HB5.out,K5.out⟩
        case measure=>simp[intOf];omega
     ·have e0:q=0:=by omega
      have NS:=Jj (show br W l R M (q+1)=cB T0 ls by rw[←hT0,←hls,e0];exact ur _ _ _ _);have ha:T0.size≤20000*q+1:=by omega
      clear hls hT0 e0
      go_wp2_with fail
      go_loopw [6,10] (fun s i wr=>∃k:Nat,k≤ls.length∧i=.int .i64 k∧s=.string (cB T0 (ls.take k))∧wr=w5) (fun _ i _=>ls.length-(intOf i).toNat)
      case atStart=>exact⟨0,Jy _,rfl,rfl,rfl⟩
      case round=>
       obtain⟨k,hk,rfl,rfl,rfl⟩:=hrel;by_cases hkl:k<ls.length
       ·obtain⟨b,o,rfl,hbb,hcell⟩:=HR5.out.strs (Nat.lt_of_le_of_lt (Jy _) hkl);have hck:=hcell k hkl;have hps:=jV HSZ.out hk hlen ha hp60;have hzz:=HSZ.out _ (cJ ls k hkl);have PT:=Jj (mA T0 hkl);obtain⟨Z,hZ⟩:∃Z,sat ls k=Z:=⟨_,rfl⟩;obtain⟨U,hU⟩:∃U,cB T0 (ls.take k)=U:=⟨_,rfl⟩;rw[hZ] at hck hzz;rw[hU] at hps;replace PT:=Jj (show cB T0 (ls.take (k+1))=U++Z++⟨#[10]⟩ by rw[PT.out,hU,hZ]);rw[hU];have hcat:¬ 9223372036854775807<U.size+Z.size:=by omega
        have hs2:(U++Z).size=U.size+Z.size:=Jt;have hcat2:¬ 9223372036854775807<(U++Z).size+1:=by omega
        have hcat3:¬ 9223372036854775807<U.size+Z.size+1:=by omega
        clear hcell hZ hU ha hts;go_wp2;go_roundw
        case rel=>exact⟨k+1,hkl,by go_num,by rw[PT.out],by first|rfl|trivial⟩
        case measure=>simp[intOf];omega
       ·have hke:k=ls.length:=by omega
        have TE:=Jj (show cB T0 (ls.take k)=br W l R M (q+1) by rw[hke,List.take_length,NS.out]);rw[TE.out];clear hke ha hts;go_wp2;go_roundw
        case rel=>exact⟨q+1,hmore.out,HF2.out,by go_num,rfl,HB5.out,K5.out⟩
        case measure=>simp[intOf];omega
    ·have HN:=Jj hP;clear hP;go_wp2;go_ret2;exact⟨.inr ⟨fun h=>HN.out ((ot HM.out).1 h.2 q (by rw[HQ.out];exact hmore.out)),rfl⟩,HB5.out⟩
   ·have hqq:q=q0:=by omega
    have HQ2:=Jj (hqq.trans HQ.out.symm);clear hqq;go_wp2;go_ret2;refine⟨.inl ⟨⟨ht,(ot HM.out).2 (by rw[←HQ2.out];exact H.out.1)⟩,?_⟩,HB4.out⟩;unfold shS;rw[HM.out,←HQ2.out]
    rfl
theorem wE (R A W M p:Nat) (v:Value) (l:List Int) (w:World) (hv:ai w v l) (h1:1≤R∧R≤20) (h2:1≤A∧A≤6) (h3:1≤W∧W≤12) (hl:l.length≤60) (hM:R*A=M) (ht:ag l=true) (hp:p<pgN l M):
  Calls prog 220 #[.agg #[.int .i64 R,.int .i64 A,.int .i64 W],v,.int .i64 p] w fun e w'=>e=.returned (.bool true)∧Below w.heap.size w w':=by
 have HV:=Jj hv;have HM:=Jj hM;have hlay:=fp h1 h2 h3;have hM0:0<M:=by rw[←hM];exact Nat.mul_pos h1.1 h2.1
 have hq60:pgN l M≤60:=Js (jS hM0) hl;obtain⟨q0,hq0⟩:∃q,pgN l M=q:=⟨_,rfl⟩;rw[hq0] at hp hq60;have HQ:=Jj hq0;obtain⟨B,cp,rfl,hlc,hc,hrd⟩:=hv.open_;have K1:=Blk.new w 29 [.int .i64 R,.int .i64 A,.int .i64 W];have B1:=ab w (.cells #[.int .i64 R,.int .i64 A,.int .i64 W] 29);obtain⟨a0,a1,a2⟩:=K1.lay;clear hv hrd hM hq0
 go_enter func220,ntmps220
 go_wp2_with fail
 refine(eI R A W _).mono ?_;rintro e w2 ⟨rfl,b2⟩;rw[hlay];replace K1:=K1.below b2 K1.lt;have HB:=Jj (aa B1 b2);clear a0 a1 a2 b2 B1;obtain⟨a0,a1,a2⟩:=K1.lay
 go_wp2_with fail
 refine(aF _ l _ (HV.out.bel HB.out)).mono ?_;rintro e w3 ⟨rfl,rfl⟩;rw[ht]
 go_wp2_with fail
 refine(nR R A W l _ h1 h2 h3 hl).mono ?_;rw[HM.out,HQ.out];rintro e w4 ⟨rfl,b4⟩;have HB4:=Jj (aa HB.out b4);clear a0 a1 a2 b4;go_wp2;go_ret;exact⟨rfl,HB4.out⟩
theorem ai.midP {w:World} {b o c:Nat} {l:List Int} (h:ai w (.slice (some ⟨b,o,none⟩) l.length c) l) {lo n:Nat} (hn:lo+n≤l.length):ai w (.slice (some ⟨b,o+lo,none⟩) n (c-lo)) ((l.drop lo).take n):=by
 obtain⟨A',c',e,h1,h2,h3⟩:=h.open_;injection e with e1 _ e3;subst e1 e3;have hl:((l.drop lo).take n).length=n:=by rw[List.length_take,List.length_drop];omega
 refine⟨⟨some ⟨b,o+lo,none⟩,c-lo,by rw[be,hl],by rw[be,hl];omega,by unfold maxLen;omega,fun h0=>?_⟩,fun x hx=>h.2 x (List.mem_of_mem_drop (List.mem_of_mem_take hx))⟩;rw[be,hl] at h0;obtain⟨b',o',e',hb,hc⟩:=h3 (by rw[be];omega);injection e' with e';injection e' with e1 e2;subst e1 e2;refine⟨b,o+lo,rfl,hb,fun k u hu=>?_⟩;have hk:k<n:=by
  rcases Nat.lt_or_ge k n with q|q
  ·exact q
  ·rw[List.getElem?_eq_none (by rw[be,hl];exact q)] at hu;cases hu
 rw[Nat.add_assoc];refine hc (lo+k) u ?_;rw[←hu,iv,iv,List.map_take,List.map_drop,List.getElem?_take,if_pos hk,List.getElem?_drop]
theorem EH {P M L:Nat} (hp:P<L) (hl:L≤60) (hM:M≤120) (h0:0<M):∃hi,min (P+M) L=hi∧hi≤L∧P<hi∧P+M≤180∧min ((P:Int)+(M:Int)) (L:Int)=(hi:Int):=⟨_,rfl,by omega,by omega,by omega,by omega⟩
theorem GU (l:List Int) (M p:Nat):pgE l M p=(l.drop (p*M)).take (min (p*M+M) l.length-p*M):=by
 unfold pgE
 rcases Nat.le_total (p*M+M) l.length with h|h
 ·rw[Nat.min_eq_left h,Nat.add_sub_cancel_left]
 ·rw[Nat.min_eq_right h,List.take_of_length_le (by simp;omega),List.take_of_length_le (by simp)]
theorem qi (R A W M p:Nat) (v:Value) (l:List Int) (w:World) (hv:ai w v l) (h1:1≤R∧R≤20) (h2:1≤A∧A≤6) (h3:1≤W∧W≤12) (hl:l.length≤60) (hM:R*A=M) (hp:p<pgN l M):
  Calls prog 221 #[.agg #[.int .i64 R,.int .i64 A,.int .i64 W],v,.int .i64 p] w fun e w'=>∃r,e=.returned r∧(∀w0,ai w0 v l→ai w0 r (pgE l M p))∧Below w.heap.size w w':=by
 have HV:=Jj hv;have HM:=Jj hM;have hM0:0<M:=by rw[←hM];exact Nat.mul_pos h1.1 h2.1
 have hM1:M≤120:=by rw[←hM];exact kV h1.2 h2.2
 have hw1:=Jj (iM hM (Js hM1 (by decide)));have hp0:=(zg p hM0).2 hp;obtain⟨P,hP⟩:∃P,p*M=P:=⟨_,rfl⟩;rw[hP] at hp0;obtain⟨hi,hhi,hh1,hh2,hPM,hmin⟩:=EH hp0 hl hM1 hM0;have hw2:=iM hP (Js (Nat.le_add_right _ _) (Js hPM (by decide)));have hw3:wrap64 ((P:Int)+(M:Int))=(P:Int)+(M:Int):=by
  have e:(P:Int)+(M:Int)=((P+M:Nat):Int):=by push_cast;rfl
  rw[e];exact IntWalk.wrap64_in _ (by clear hw2 hw1;omega)
 obtain⟨B,cp,rfl,hlc,hc,hrd⟩:=hv.open_;obtain⟨b,o,rfl,hbb,-⟩:=hrd.ints (Nat.lt_of_le_of_lt (Jy _) hp0);have RI:=Jj (show ∀w0,ai w0 (.slice (some ⟨b,o,none⟩) l.length cp) l→ai w0 (.slice (some ⟨b,o+P,none⟩) (hi-P) (cp-P)) (pgE l M p) by
  intro w0 h0;rw[GU,hP,hhi];exact h0.midP (by rw[Nat.add_sub_cancel' (Nat.le_of_lt hh2)];exact hh1))
 have K1:=Blk.new w 29 [.int .i64 R,.int .i64 A,.int .i64 W];have B1:=ab w (.cells #[.int .i64 R,.int .i64 A,.int .i64 W] 29);obtain⟨a0,a1,a2⟩:=K1.lay;have HH:=Jj hhi;have HPP:=Jj hP;have HHp:=Jj hp;clear hv hrd hM hp hP hhi
 go_enter func221,ntmps221
 go_wp2_with fail
 refine(lJ R A W M _ hw1.out).mono ?_;rintro e w2 ⟨rfl,b2⟩;replace K1:=K1.below b2 K1.lt;have HB:=Jj (aa B1 b2);clear a0 a1 a2 b2 B1;obtain⟨a0,a1,a2⟩:=K1.lay
 go_wp2_with fail
 refine(lJ R A W M _ hw1.out).mono ?_;rintro e w3 ⟨rfl,b3⟩;have HB3:=Jj (aa HB.out b3);clear a0 a1 a2 b3;go_wp2;go_ret;exact⟨_,rfl,RI.out,HB3.out⟩
theorem vT {j:bK} (h:li j=true):∃R A W:Nat,j.rw=R∧j.ac=A∧j.wi=W∧(1≤R∧R≤20)∧(1≤A∧A≤6)∧(1≤W∧W≤12):=by
 have hq:bH j=true:=by
  cases hq:bH j
  ·rw[(uR hq).1] at h;exact h
  ·rfl
 have hl:=(iE.1 hq).2.2.2.2;simp[dE,inB] at hl;exact⟨j.rw.toNat,j.ac.toNat,j.wi.toNat,by omega,by omega,by omega,by omega,by omega,by omega⟩
end Go.Proofs.YtfmjklgfpiffbaaGreatDoor
