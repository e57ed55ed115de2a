/-
  Parts of the proof of one statement, merged: Txt.
-/
import Derived.Lib.AppendIntMem
import Derived.Lib.SmallJoins
import Derived.Test.YtfmjklgfpiffbaaGreatDoorR1
import Derived.Test.YtfmjklgfpiffbaaGreatDoorR9
namespace Go.Proofs.YtfmjklgfpiffbaaGreatDoor
open Go.RowKit Go.Proofs.Tryz
set_option linter.unusedVariables false
set_option linter.unusedSimpArgs false
set_option maxRecDepth 100000
set_option maxHeartbeats 8000000
def Tab (w : World) : Prop := Lib.TabIs prog w "internal/strconv.uint64pow10" .u64 Lib.pow10Tab
theorem Tab.bel {w w':World} (h:Tab w) (hb:Below w.heap.size w w'):Tab w':=
 match hg : prog.globalNamed "internal/strconv.uint64pow10" with
 |some g=>Joins.tab_stays hg h hb (Jr _)
 |none=>absurd h (by unfold Tab Lib.TabIs World.var?;rw[hg];simp)
theorem fG (n:Int) (w:World) (hn : -9223372036854775808≤n∧n≤9223372036854775807) (ht:Tab w):
  Calls prog 113 #[.int .i64 n] w fun e w'=>e=.returned (.string (au n))∧Below w.heap.size w w':=
 (Tryz.strconv_Itoa n hn.1 hn.2 w ht).mono fun e w' ⟨he,k,os,hw⟩=>⟨he,by subst hw;exact Lib.below_grow _ _ (Jr _) _ _⟩
def aW (l:List ByteArray) (sep:ByteArray):ByteArray:=⟨(Lib.join (l.map (·.data.toList)) sep.data.toList).toArray⟩
theorem GP {l:List ByteArray} {B:Nat} (h:∀s∈l,s.size≤B):Lib.lens (l.map (·.data.toList))≤B*l.length:=by
 induction l with
 |nil=>simp[Lib.lens]
 |cons x r ih=>
  have h1:=h x (by simp);have h2:=ih (fun s hs=>h s (by simp[hs]));simp only[Lib.lens,List.map_cons,List.sum_cons,List.length_cons] at h2 ⊢;rw[Nat.mul_succ];have:x.data.toList.length=x.size:=by rw[Array.length_toList];rfl
  omega
theorem im {l:List ByteArray} {sep:ByteArray} {B:Nat} (h:∀s∈l,s.size≤B):(aW l sep).size≤(sep.size+B)*l.length:=by
 have e:(aW l sep).size=(Lib.join (l.map (·.data.toList)) sep.data.toList).length:=rfl;rw[e];cases l with
 |nil=>simp[Lib.join_nil]
 |cons x r=>
  rw[List.map_cons,Lib.join_length];have h1:=GP h;rw[List.map_cons] at h1;have:sep.data.toList.length=sep.size:=by rw[Array.length_toList];rfl
  rw[this,Nat.add_mul];have h2:sep.size*(r.map (·.data.toList)).length≤sep.size*(x::r).length:=Nat.mul_le_mul_left _ (by simp);omega
theorem kS (v:Value) (l:List ByteArray) (sep:ByteArray) (w:World) (hv:aG w v l) (hl:l.length≤1048576) (B:Nat) (hB:∀s∈l,s.size≤B) (hb:B≤1000000) (hs:sep.size≤1000):
  Calls prog 192 #[v,.string sep] w fun e w'=>e=.returned (.string (aW l sep))∧Below w.heap.size w w':=by
 obtain⟨A,c,rfl,hlc,hc,hrd⟩:=hv.open_;by_cases h0:0<l.length
 ·obtain⟨b,o,rfl,hbb,hcell⟩:=hrd.strs h0;have hj:=im (sep:=sep) hB;have e:(aW l sep).size=(Lib.join (l.map (·.data.toList)) sep.data.toList).length:=rfl;have hm:(sep.size+B)*l.length≤1001000*1048576:=Nat.mul_le_mul (by omega) hl;exact Tryz.strings_Join b o c l sep w (fun j x hx=>by
   have hj:j<l.length:=(List.getElem?_eq_some_iff.1 hx).1;rw[hcell j hj,bV _ _ hj,(List.getElem?_eq_some_iff.1 hx).2]) hbb (by omega) hlc (by omega)
 ·have:l=[]:=by cases l with|nil=>rfl|cons _ _=>simp at h0
  subst this;exact(Tryz.strings_Join_none A c sep w).mono fun e w' ⟨he,hw⟩=>⟨he,by subst hw;exact Below.refl _ _⟩
def aw (l:List Int):ByteArray:=aW (l.map au) ⟨#[32]⟩
theorem pq (xs:List (List UInt8)) (x sep:List UInt8):Lib.join (xs++[x]) sep=if xs=[] then x else Lib.join xs sep++sep++x:=by
 cases xs with
 |nil=>simp[Lib.join_one]
 |cons y r=>
  rw[List.cons_append,Lib.join_cons,Lib.join_cons,if_neg (by simp)];simp[Lib.joinTail,List.append_assoc]
theorem C5:aw []=⟨#[]⟩:=rfl
theorem C6 (x:Int):aw ([]++[x])=au x:=by
 unfold aw aW;simp[Lib.join_one]
theorem Ay {l:List Int} (h:l≠[]) (x:Int):aw (l++[x])=aw l++⟨#[32]⟩++au x:=by
 unfold aw aW;rw[List.map_append,List.map_append,List.map_cons,List.map_nil,List.map_cons,List.map_nil,pq,if_neg (by simpa using h)]
 apply ByteArray.ext
 apply Array.toList_inj.1
 simp
theorem bM {l:List Int} (h:Wf l):(aw l).size≤22*l.length:=by
 have:=im (l:=l.map au) (sep:=⟨#[32]⟩) (B:=21) (fun s hs=>by
  obtain⟨n,hn,rfl⟩:=List.mem_map.1 hs;exact aJ (h n hn).1 (h n hn).2)
 rw[List.length_map] at this;have e:(⟨#[32]⟩:ByteArray).size=1:=rfl;rw[e] at this;exact this
theorem Bj (l:List Int) {k:Nat} (h:k<l.length):l.take (k+1)=l.take k++[at_ l k]:=by
 rw[List.take_succ_eq_append_getElem h,fi l k h]
theorem cW (v:Value) (l:List Int) (w:World) (hv:ai w v l) (hl:l.length≤1048576):
  Calls prog 35 #[v] w fun e w'=>e=.returned (.string (aw l))∧Below w.heap.size w w':=by
 have HW:=Jj hv.2;obtain⟨A,c,rfl,hlc,hc,hrd⟩:=hv.open_;have HR:=Jj hrd;clear hv hrd
 go_enter func35,ntmps35
 go_wp2
 go_loopw [3,4] (fun s i wr=>∃k:Nat,k≤l.length∧i=.int .i64 k∧s=.string (aw (l.take k))∧Below w.heap.size w wr) (fun _ i _=>l.length-(intOf i).toNat)
 case atStart=>exact⟨0,Jy _,rfl,rfl,Below.refl _ _⟩
 case round=>
  obtain⟨k,hk,rfl,rfl,hb⟩:=hrel;have HB:=Jj hb;have hz:=hb.size;by_cases hlt:k<l.length
  ·obtain⟨b,o,rfl,hbb,hcell⟩:=HR.out.ints (by omega);have hck:=(hb.cell (by exact hbb)).trans (hcell k hlt);have hx:=HW.out.at _ k;have hs:=bM (l:=l.take k) (fun n hn=>HW.out n (List.mem_of_mem_take hn));have htk:(l.take k).length=k:=by rw[List.length_take];omega
   have hne0:0<k→l.take k≠[]:=fun h e=>by rw[e] at htk;simp at htk;omega
   rw[htk] at hs;have hi:=aJ hx.1 hx.2;have TS:=Jj (Bj l hlt);clear hcell hb htk;by_cases h0:0<k
   ·have hne:=hne0 h0;have NS:=Jj (Ay hne (at_ l k));have hcat:¬ 9223372036854775807<(aw (l.take k)).size+1:=by omega
    have hs2:(aw (l.take k)++⟨#[32]⟩).size=(aw (l.take k)).size+1:=by rw[Jt];rfl
    have hcat2:¬ 9223372036854775807<(aw (l.take k)++⟨#[32]⟩).size+(au (at_ l k)).size:=by omega
    have hcat3:¬ 9223372036854775807<(aw (l.take k)).size+1+(au (at_ l k)).size:=by omega
    clear hne hne0
    go_wp2_with fail
    refine(cO (at_ l k) _ hx.1 hx.2).mono ?_;rintro e w2 ⟨rfl,b2⟩;have HB2:=Jj (aa HB.out b2);clear b2;go_wp2;go_roundw
    case rel=>exact⟨k+1,by omega,by go_num,by rw[TS.out,NS.out],HB2.out⟩
    case measure=>simp[intOf];omega
   ·have e0:l.take k=[]:=by
     have:k=0:=by omega
     rw[this,List.take_zero]
    have NS:=Jj (show aw (l.take k++[at_ l k])=aw (l.take k)++au (at_ l k) by rw[e0,C6,C5];apply ByteArray.ext;apply Array.toList_inj.1;simp);have hcat:¬ 9223372036854775807<(aw (l.take k)).size+(au (at_ l k)).size:=by omega
    clear e0 hne0
    go_wp2_with fail
    refine(cO (at_ l k) _ hx.1 hx.2).mono ?_;rintro e w2 ⟨rfl,b2⟩;have HB2:=Jj (aa HB.out b2);clear b2;go_wp2;go_roundw
    case rel=>exact⟨k+1,by omega,by go_num,by rw[TS.out,NS.out],HB2.out⟩
    case measure=>simp[intOf];omega
  ·have hkl:k=l.length:=by omega
   subst hkl;clear hb;go_wp2;go_ret;exact⟨by rw[List.take_length];rfl,HB.out⟩
theorem dC (v:Value) (l:List Int) (w:World) (hv:ai w v l) (hl:l.length≤1048576) (ht:Tab w):
  Calls prog 116 #[v] w fun e w'=>e=.returned (.string (aw l))∧Below w.heap.size w w':=by
 have HW:=Jj hv.2;have HT:=Jj ht;obtain⟨A,c,rfl,hlc,hc,hrd⟩:=hv.open_;have HR:=Jj hrd;have hmk:=fun W=>Tryz.mkStrs l.length (by omega) W;clear hv hrd ht
 go_enter func116,ntmps116
 go_wp2
 go_loopw [11] (fun i wr=>∃(k:Nat) (cs:List Value),k≤l.length∧i=.int .i64 k∧Blk wr w.heap.size 9 cs∧cs.length=l.length∧(∀j,j<k→cs[j]?=some (.string (sat (l.map au) j)))∧Below w.heap.size w wr)
  (fun i _=>l.length-(intOf i).toNat)
 case atStart=>exact⟨0,_,Jy _,rfl,Blk.new _ _ _,bi _ _,fun j hj=>absurd hj (by omega),(Below.refl _ _).alloc (Jr _) _⟩
 case round=>
  obtain⟨k,cs,hk,rfl,hblk,hcl,hcs,hb⟩:=hrel;have H:=Jj (Jq hcl (Jq hcs hb));have HT2:=Jj (HT.out.bel hb);have hz:=hb.size;clear hmk;by_cases hlt:k<l.length
  ·obtain⟨b,o,rfl,hbb,hcell⟩:=HR.out.ints (by omega);have hck:=(hb.cell (by exact hbb)).trans (hcell k hlt);have hx:=HW.out.at _ k;clear hcell hb hcl hcs
   go_wp2_with fail
   refine(fG (at_ l k) _ hx HT2.out).mono ?_;rintro e w2 ⟨rfl,b2⟩;replace hblk:=hblk.below b2 hblk.lt;have hcw:w2.cell? ⟨w.heap.size,k,none⟩=some (cs[k]'(by rw[H.out.1];exact hlt)):=by rw[hblk.cell];exact List.getElem?_eq_getElem _
   have hfw:=hblk.frozen k;have HB2:=Jj (aa H.out.2.2 b2);clear b2;go_wp2;go_roundw
   case rel=>
    have e1:sat (l.map au) k=au (at_ l k):=by rw[bV _ _ (by rw[List.length_map];exact hlt),List.getElem_map,fi l k hlt]
    exact⟨k+1,_,by omega,by go_num,hblk.set_ k _,by rw[List.length_set];exact H.out.1,by rw[←e1];exact fun j hj=>IL (l:=l.map au) (by rw[List.length_map];exact H.out.1) (by rw[List.length_map];exact hlt) H.out.2.1 j hj,HB2.out.setCell (Jr _) _⟩
   case measure=>simp[intOf];omega
  ·have hkl:k=l.length:=by omega
   subst hkl;have e:cs=sv (l.map au):=Ij (by rw[List.length_map];exact H.out.1) (fun j hj=>H.out.2.1 j (by rw[List.length_map] at hj;exact hj));have hwf:WfS (l.map au):=fun s hs=>by
    obtain⟨n,hn,rfl⟩:=List.mem_map.1 hs;have:=aJ (HW.out n hn).1 (HW.out n hn).2;omega
   have ho:=aj.mk' (l:=l.map au) (cap:=l.length) (base:=w.heap.size) (Jr _) hblk (by rw[List.length_map];exact Jr _) (by omega) H.out.1 (fun j hj=>H.out.2.1 j (by rw[List.length_map] at hj;exact hj)) hwf;rw[List.length_map] at ho;have HS:=Jj ho.strs;clear hcl hcs hb ho hwf e
   go_wp2_with fail
   refine(kS _ (l.map au) ⟨#[32]⟩ _ HS.out (by rw[List.length_map];omega) 21 (fun s hs=>by
    obtain⟨n,hn,rfl⟩:=List.mem_map.1 hs;exact aJ (HW.out n hn).1 (HW.out n hn).2) (by omega) (by decide)).mono ?_
   rintro e w2 ⟨rfl,b2⟩;have HB2:=Jj (aa H.out.2.2 b2);clear b2;go_wp2;go_ret;exact⟨rfl,HB2.out⟩
end Go.Proofs.YtfmjklgfpiffbaaGreatDoor
