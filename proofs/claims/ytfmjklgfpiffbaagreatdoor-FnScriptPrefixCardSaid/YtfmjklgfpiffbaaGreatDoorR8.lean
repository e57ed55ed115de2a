/-
  Parts of the proof of one statement, merged: Shift.
-/
import Derived.StillTailTactics
import Derived.Test.YtfmjklgfpiffbaaGreatDoorR5
namespace Go.Proofs.YtfmjklgfpiffbaaGreatDoor
open Go.RowKit Go.Proofs.Tryz
set_option linter.unusedVariables false
set_option linter.unusedSimpArgs false
set_option maxRecDepth 100000
set_option maxHeartbeats 8000000
def ia (x:Value) (l:List Int) (Q:Nat→Prop):Prop:=∀a n c,x=.slice (some a) n c→0<l.length→Q a.block
theorem ia.mono {x:Value} {l:List Int} {Q R:Nat→Prop} (h:ia x l Q) (hk:∀k,Q k→R k):ia x l R:=fun a n c e hl=>hk _ (h a n c e hl)
theorem ai.offI {w:World} {x:Value} {l:List Int} (h:ai w x l):ia x l (fun k=>k<w.heap.size):=h.low
theorem Own.offI {w:World} {base:Nat} {x:Value} {l:List Int} (h:Own w base x l):ia x l (fun k=>base≤k):=by
 intro a n c e hl
 rcases h.form with ⟨rfl,_⟩|⟨g,cap,cs,rfl,hg,_⟩
 ·cases e
 ·injection e with e1;injection e1 with e1;rw[←e1];exact hg
theorem ai.rowFar {w w':World} {x:Value} {l:List Int} {row:Option Nat} (h:ai w x l) (hg:w.grownBy w' row) (hx:ia x l (fun k=>some k≠row)):ai w' x l:=by
 obtain⟨⟨A,c,rfl,h1,h2,h3⟩,hwf⟩:=h;refine⟨⟨A,c,rfl,h1,h2,fun hn=>?_⟩,hwf⟩;obtain⟨b,o,rfl,hlt,hc⟩:=h3 hn;have hb:=hx _ _ _ rfl (by rw[be] at hn;exact hn);exact⟨b,o,rfl,Jw hlt hg.size,fun k u hu=>hg.cell (hc k u hu) (fun e=>hb e)⟩
def pG (v:Value):Nat:=match v with | .slice _ n _=>n|_=>0
theorem ai.slen {w:World} {x:Value} {l:List Int} (h:ai w x l):pG x=l.length:=by
 obtain⟨A,c,rfl,_⟩:=h.open_;rfl
theorem co (v:Value) (l:List Int) (w:World) (hv:ai w v l):
  Calls prog 176 #[v] w fun e w'=>e=.returned (.bool (av l))∧w=w':=by
 have hv':=Jj hv;obtain⟨A,c,rfl,hlc,hc,hrd⟩:=hv.open_;by_cases h1:1≤l.length
 ·by_cases h2:l.length≤7
  ·have H:inB (l.length:Int) 1 7=true:=am.2 (by omega);have HH:=Jj H;clear H
   go_enter func176,ntmps176
   go_wp2_with (go_at_call 191;refine(fd _ _ _ _ hv'.out (by omega) (by omega)).mono ?_;rintro e w' ⟨rfl,rfl⟩)
   go_ret;exact⟨aD (by rw[av,iV,HH.out];rfl),rfl⟩
  ·have H:inB (l.length:Int) 1 7=false:=bm.2 (by omega);have HH:=Jj H;clear H
   go_enter func176,ntmps176
   go_wp2;go_ret;exact⟨aD (by rw[av,iV,HH.out];rfl),rfl⟩
 ·have H:inB (l.length:Int) 1 7=false:=bm.2 (by omega);have HH:=Jj H;clear H
  go_enter func176,ntmps176
  go_wp2;go_ret;exact⟨aD (by rw[av,iV,HH.out];rfl),rfl⟩
theorem bo (v:Value) (l:List Int) (w:World) (hv:ai w v l):
  Calls prog 71 #[v] w fun e w'=>e=.returned (.bool (av l))∧w=w':=by
 obtain⟨A,c,rfl,hlc,hc,hrd⟩:=hv.open_
 go_enter func71,ntmps71
 go_wp2
 go_loop [3] (fun i=>∃k:Nat,k≤l.length∧i=.int .i64 k∧∀j,j<k→inB (at_ l j) (-100000) 100000=true) (fun i=>l.length-(intOf i).toNat)
 case atStart=>exact⟨0,Jy _,rfl,fun j hj=>absurd hj (by omega)⟩
 case round=>
  obtain⟨k,hk,rfl,hall⟩:=hrel;have HA:=Jj hall;clear hall;by_cases hlt:k<l.length
  ·obtain⟨b,o,rfl,hb,hcell⟩:=hrd.ints (by omega);have hck:=hcell k hlt;clear hcell
   go_wp2_with (go_at_call 72;refine(aL _ _ _ _).mono ?_;rintro e w' ⟨rfl,rfl⟩)
   ·go_ret;have h:(!inB (at_ l k) (-100000) 100000)=true:=by assumption
    exact⟨aD (by rw[av,iV,oO (p:=fun t=>inB t (-100000) 100000) hlt (by simpa using h)];simp),rfl⟩
   ·have h:(!inB (at_ l k) (-100000) 100000)=false:=by assumption
    go_round
    case rel=>exact⟨k+1,by omega,by go_num,cS HA.out (by simpa using h)⟩
    case measure=>simp[intOf];omega
  ·go_wp2_with (go_at_call 72;refine(aL _ _ _ _).mono ?_;rintro e w' ⟨rfl,rfl⟩)
   go_ret;exact⟨aD (by rw[av,iV,rd (p:=fun t=>inB t (-100000) 100000) (fun j hj=>HA.out j (by omega))];simp),rfl⟩
theorem rh (n:Int) (k:Nat) (w:World) (hn : -9223372036854775808≤n∧n≤9223372036854775807) (hk:k≤1000000000):
  Calls prog 263 #[.int .i64 n,.int .i64 k] w fun e w'=>e=.returned (.int .i64 (aU n k))∧w=w':=by
 go_enter func263,ntmps263
 go_wp2
 go_loop [5,8] (fun r i=>∃j:Nat,j≤k∧i=.int .i64 j∧r=.int .i64 (aU n j)) (fun _ i=>k-(intOf i).toNat)
 case atStart=>exact⟨0,Jy _,rfl,rfl⟩
 case round=>
  obtain⟨j,hj,rfl,rfl⟩:=hrel;have hb:=rg n j;by_cases hlt:j<k
  ·go_wp2
   go_round
   case rel=>exact⟨j+1,by omega,by go_num,rfl⟩
   case measure=>simp[intOf];omega
  ·have hjk:j=k:=by omega
   subst hjk;go_wp2;go_ret;exact⟨rfl,rfl⟩
theorem qE (v:Value) (p:List Int) (n:Int) (w:World) (hv:ai w v p) (hn : -9223372036854775808≤n∧n≤9223372036854775807) (hp:p.length≤1000000000):
  Calls prog 200 #[v,.int .i64 n] w fun e w'=>e=.returned (.int .i64 (dn p n))∧w=w':=by
 obtain⟨A,c,rfl,hlc,hc,hrd⟩:=hv.open_
 go_enter func200,ntmps200
 go_wp2
 go_loop [5,10] (fun r i=>∃j:Nat,j≤p.length∧i=.int .i64 j∧r=.int .i64 (jD p n j)) (fun _ i=>p.length-(intOf i).toNat)
 case atStart=>exact⟨0,Jy _,rfl,rfl⟩
 case round=>
  obtain⟨j,hj,rfl,rfl⟩:=hrel;have hb:=kR p n j;by_cases hlt:j<p.length
  ·obtain⟨b,o,rfl,hb,hcell⟩:=hrd.ints (by omega);have hck:=hcell j hlt;clear hcell
   go_wp2_with (go_at_call 263;refine(rh _ _ _ (by omega) (by omega)).mono ?_;rintro e w' ⟨rfl,rfl⟩)
   go_round
   case rel=>exact⟨j+1,by omega,by go_num,rfl⟩
   case measure=>simp[intOf];omega
  ·have hjk:j=p.length:=by omega
   subst hjk;go_wp2;go_ret;exact⟨rfl,rfl⟩
theorem dP (n:Int) (w:World):
  Calls prog 163 #[.int .i64 n] w fun e w'=>e=.returned (.bool (inB n (-200) 200))∧w=w':=by
 go_enter func163,ntmps163
 go_wp2_with (go_at_call 72;refine(aL _ _ _ _).mono ?_;rintro e w' ⟨rfl,rfl⟩)
 go_ret;exact⟨rfl,rfl⟩
def nB (w:World) (l:List Int) (e:Ending) (w':World):Prop:=∃r,e=.returned r∧Own w' w.heap.size r l∧Below w.heap.size w w'
theorem n4 (l:List Int):iH l=gen (fun i=>wrap64 (at_ l (i+1)-at_ l i)) (l.length-1):=rfl
theorem ll (v:Value) (l:List Int) (w:World) (hv:ai w v l) (hl:l.length≤1048576):
  Calls prog 190 #[v] w (nB w (iH l)):=by
 obtain⟨A,c,rfl,hlc,hc,hrd⟩:=hv.open_;by_cases h2:l.length<2
 ·have HN:=Jj (show iH l=[] by rw[n4,show l.length-1=0 by omega];rfl)
  go_enter func190,ntmps190
  go_wp2;go_ret;exact⟨_,rfl,by rw[HN.out];exact Own.nil_ _ _,Below.refl _ _⟩
 ·obtain⟨m,hm⟩:∃m:Nat,m=l.length-1:=⟨_,rfl⟩;have hm1:l.length=m+1:=by omega
  have hmI:(l.length:Int)-1=(m:Int):=by omega
  have hmk:=fun W=>Tryz.mkInts m (by omega) W;rw[←hmI] at hmk;have HM:=Jj (Jq hm1 hm);clear hm hm1 hmI
  go_enter func190,ntmps190
  go_wp2
  go_loopw [14] (fun i wr=>∃(k:Nat) (cs:List Value),k≤m∧i=.int .i64 k∧Blk wr w.heap.size 3 cs∧cs.length=m∧(∀j,j<k→cs[j]?=some (.int .i64 (wrap64 (at_ l (j+1)-at_ l j))))∧Below w.heap.size w wr)
   (fun i _=>m-(intOf i).toNat)
  case atStart=>exact⟨0,_,Jy _,rfl,Blk.new _ _ _,bi _ _,fun j hj=>absurd hj (by omega),(Below.refl _ _).alloc (Jr _) _⟩
  case round=>
   obtain⟨k,cs,hk,rfl,hblk,hcl,hcs,hbel⟩:=hrel;have HO:=Jj (Jq hcl (Jq hcs hbel));have hz:=hbel.size;clear hcl hcs;have q1:=HM.out.1;by_cases hlt:k<m
   ·obtain⟨b,o,rfl,hb,hcell⟩:=hrd.ints (by omega);have c1:wr.cell? ⟨b,o+k,none⟩=some (.int .i64 (at_ l k)):=(hbel.cell (by exact hb)).trans (hcell k (by omega));have c2:wr.cell? ⟨b,o+(k+1),none⟩=some (.int .i64 (at_ l (k+1))):=(hbel.cell (by exact hb)).trans (hcell (k+1) (by omega));have c3:wr.cell? ⟨w.heap.size,k,none⟩=some (cs[k]'(by rw[HO.out.1];exact hlt)):=by rw[hblk.cell];exact List.getElem?_eq_getElem _
    have hfw:=hblk.frozen k;have p1:(k:Int)<(l.length:Int):=by omega
    have p2:(k:Int)+1<(l.length:Int):=by omega
    have p3:(0:Int)≤(k:Int):=by omega
    have p4:(k:Int)<(m:Int):=by omega
    have w1:IntKind.i64.wrap ((k:Int)+1)=(k:Int)+1:=by rw[IntWalk.i64_in] <;> omega
    have w2:((k:Int)+1).toNat=k+1:=by omega
    have w3:(0:Int)≤(k:Int)+1:=by omega
    clear hcell hbel q1;go_wp2
    go_still_tail 13,(by kernel_rfl)
    change wpList _ _ _ _ _ wr.drew;go_wp2;go_roundw
    case rel=>exact⟨k+1,_,by omega,by go_num,hblk.set_ k _,by rw[List.length_set];exact HO.out.1,fun j hj=>by
     by_cases e:j=k
     ·subst e;rw[List.getElem?_set_self (by rw[HO.out.1];exact hlt)]
     ·rw[List.getElem?_set_ne (by omega)];exact HO.out.2.1 j (by omega),(HO.out.2.2.drew).setCell (Jr _) _⟩
    case measure=>simp[intOf];omega
   ·have hnl:k=m:=by omega
    subst hnl;clear q1;go_wp2;go_ret;refine⟨_,rfl,?_,HO.out.2.2⟩;rw[n4,←HM.out.2];exact jt (Jr _) hblk HO.out.1 (by have:=HM.out.1;omega) HO.out.2.1 (fun j hj=>jw _)
end Go.Proofs.YtfmjklgfpiffbaaGreatDoor
