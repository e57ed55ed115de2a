/-
  Parts of the proof of one statement, merged: PjG PjH PjK PjL PjM EsP.
-/
import Derived.Lib.AtoiBound
import Derived.Test.YtfmjklgfpiffbaaGreatDoorR26
namespace Go.Proofs.YtfmjklgfpiffbaaGreatDoor
open Go.RowKit Go.Proofs.Tryz
set_option linter.unusedVariables false
set_option linter.unusedSimpArgs false
set_option maxRecDepth 100000
set_option maxHeartbeats 8000000
attribute [local go_sem ↓] Go.wp_at_zero Go.wp_at_succ
def Glb (w:World):Prop:=Tab w∧(∃m:Int,w.cell? ⟨1,0,none⟩=some (.int .i64 m))∧∃(tp:TypeId) (p:Value),w.cell? ⟨5,0,none⟩=some (.iface tp p)
theorem Glb.bel {w w':World} (h:Glb w) (hb:Below w.heap.size w w'):Glb w':=by
 obtain⟨h1,⟨m,h2⟩,tp,p,h3⟩:=h;exact⟨h1.bel hb,⟨m,(hb.cell (World.block_lt_of_cell? _ _ h2)).trans h2⟩,tp,p,(hb.cell (World.block_lt_of_cell? _ _ h3)).trans h3⟩
theorem FO (l:List UInt8):l.length≤(Lib.trimPrefix l [45]).length+1:=by
 unfold Lib.trimPrefix
 split
 ·simp;omega
 ·omega
theorem C3 {s:ByteArray} (h:17<(Lib.trimPrefix s.data.toList [45]).length):bn s=none:=by
 apply px
 intro n hn;have:=(mz hn).2;omega
theorem ws {s:ByteArray} (h:Lib.atoi s.data.toList=none):bn s=none:=by unfold bn jo;rw[h]
theorem C1 {s:ByteArray} {n:Int} (hl:(Lib.trimPrefix s.data.toList [45]).length≤17) (h:Lib.atoi s.data.toList=some n):bn s=if au n=s then some n else none:=by
 unfold bn jo;rw[h];have e:(Lib.itoa n=s.data.toList∧(Lib.trimPrefix s.data.toList [45]).length≤17)↔au n=s:=by
  constructor
  ·rintro⟨h1,-⟩;unfold au;rw[h1]
  ·intro h1;refine⟨?_,hl⟩;rw[←h1];exact(fB _).symm
 simp only[e]
theorem BL {s:ByteArray} (h:(Lib.trimPrefix s.data.toList [45]).length≤17):s.size≤18:=by
 have:=FO s.data.toList;have e:s.data.toList.length=s.size:=rfl;omega
theorem gD {x y:ByteArray} (h:x≠y):(!x.toList==y.toList)=true:=by
 simp[ByteArray.toList_eq];intro e;exact h (ByteArray.ext (by first|exact e|exact Array.toList_inj.1 e))
theorem jR (t:ByteArray) (w:World) (ht:t.size≤1048576) (hg:Glb w):
  Calls prog 119 #[.string t] w fun e w'=>cV t e∧Below w.heap.size w w':=by
 have HG:=Jj hg;clear hg;obtain⟨z,hz⟩:∃z:ByteArray,(⟨(Lib.trimPrefix t.data.toList [45]).toArray⟩:ByteArray)=z:=⟨_,rfl⟩;have hzs:z.size=(Lib.trimPrefix t.data.toList [45]).length:=by rw[←hz];rfl
 have HZ:=Jj hzs;have HZ0:=Jj hz;clear hz hzs
 go_enter func119,ntmps119
 go_wp2_with fail
 refine(Tryz.strings_TrimPrefix t ⟨#[45]⟩ w).mono ?_;rintro e w2 ⟨rfl,rfl⟩;rw[show(⟨#[45]⟩:ByteArray).data.toList=[45] from rfl,HZ0.out];by_cases hl:17<z.size
 ·have HN:=Jj (C3 (s:=t) (by rw[←HZ.out];exact hl));have hli:(17:Int)<(z.size:Int):=by omega
  go_wp2;go_ret2;exact⟨cV.bad HN.out,Below.refl _ _⟩
 ·have hl17:(Lib.trimPrefix t.data.toList [45]).length≤17:=by rw[←HZ.out];omega
  have h18:=BL hl17;have hli:¬(17:Int)<(z.size:Int):=by omega
  have HL:=Jj hl17;clear hl17;cases ha:Lib.atoi t.data.toList with
  |none=>
   have HN:=Jj (ws ha);have HA:=Jj ha;clear ha;obtain⟨tp,p,hv⟩:=HG.out.2.2;have HV:=Jj hv;clear hv
   go_wp2_with fail
   refine(Tryz.strconv_Atoi_err t h18 HA.out _ w2 HV.out (.inr ⟨_,_,rfl⟩)).mono ?_;rintro e w3 ⟨N,rfl,-,-,b⟩;go_wp2;go_ret2;exact⟨cV.bad HN.out,b⟩
  |some n=>
   have HN:=Jj (C1 HL.out ha);have hbd:=Lib.atoi_bound ha h18;have HA:=Jj ha;clear ha
   go_wp2_with fail
   refine(Tryz.strconv_Atoi t n h18 HA.out w2).mono ?_;rintro e w3 ⟨rfl,tt,hw3⟩;have b3:Below w2.heap.size w2 w3:=by rw[hw3];exact Lib.bytesWorld_below _ _ _
   have HB:=Jj b3;clear b3 hw3
   go_wp2_with fail
   refine(fG n _ ⟨by omega,by omega⟩ (HG.out.1.bel HB.out)).mono ?_;rintro e w4 ⟨rfl,b4⟩;have HB4:=Jj (aa HB.out b4);clear b4;obtain⟨T,hT⟩:∃T,au n=T:=⟨_,rfl⟩;rw[hT] at HN ⊢;clear hT;by_cases hq:T=t
   ·have HN2:=Jj (show bn t=some n by rw[HN.out,if_pos hq]);have he:(!T.toList==t.toList)=false:=by rw[hq];simp
    clear hq;go_wp2;go_ret2;exact⟨cV.good HN2.out,HB4.out⟩
   ·have HN2:=Jj (show bn t=none by rw[HN.out,if_neg hq]);have he:=gD hq;clear hq;go_wp2;go_ret2;exact⟨cV.bad HN2.out,HB4.out⟩
theorem Gn (c:UInt8) (s:ByteArray) (hs:s.size≤1048576):WfS (aq c s):=by
 intro x hx;have:=cT hx;omega
theorem mD (s:ByteArray) (c:UInt8) (w:World) (hs:s.size≤1048576) (hg:Glb w):
  Calls prog 12 #[.string s,.string ⟨#[c]⟩] w fun e w'=>∃A,e=.returned (.slice A (aq c s).length (aq c s).length)∧aj w' w.heap.size (.slice A (aq c s).length (aq c s).length) (aq c s)∧Below w.heap.size w w':=by
 obtain⟨m,hm⟩:=hg.2.1;refine(Tryz.strings_Split s ⟨#[c]⟩ m w (by omega) hm (Jr _)).mono ?_;rintro e w' ⟨rfl,rfl⟩;rw[rn,←Ex];have hl:=ff c s;refine⟨_,rfl,aj.mk' (cs:=(aq c s).map Value.string) (Jr _) (Blk.new w 9 _) (Jr _) (by omega) (by simp) (fun j hj=>?_) (Gn c s hs),ab _ _⟩;rw[List.getElem?_map,List.getElem?_eq_getElem hj,bV _ _ hj]
 rfl
theorem aI (w:World) (b j:Nat) (u:Value):w.grownBy (w.setCell ⟨b,j,none⟩ u) (some b):=dl ⟨rfl,rfl,rfl,Jr _,fun _ _ _=>rfl⟩ (.inl rfl) u
def spL (t:ByteArray):List Int:=if aE t=true then bg t else[]
theorem dI {t:ByteArray} (h:aE t=true):spL t=bg t:=by simp[spL,h]
theorem xc {t:ByteArray} (h:aE t=false):spL t=[]:=by simp[spL,h]
theorem Fc {ls:List ByteArray} {L:List Int} (hl:L.length=ls.length) (h:∀j,j<ls.length→at_ L j=cA (sat ls j)):L=ls.map cA:=by
 apply List.ext_getElem (by rw[hl,List.length_map])
 intro j h1 h2;have:=h j (by omega);rw[bV ls j (by omega)] at this;rw[List.getElem_map,←this];unfold at_;rw[List.getD_eq_getElem?_getD,List.getElem?_eq_getElem h1]
 rfl
theorem ec (t:ByteArray) (w:World) (ht:t.size≤1048576) (hg:Glb w):
  Calls prog 55 #[.string t] w fun e w'=>∃r,e=.returned (.tuple #[r,.bool (aE t)])∧Own w' w.heap.size r (spL t)∧Below w.heap.size w w':=by
 have HG:=Jj hg
 go_enter func55,ntmps55
 go_wp2_with fail
 refine(mD t 32 _ ht hg).mono ?_;rintro e w2 ⟨A,rfl,o,b⟩;have HB:=Jj b;have hcl:=ff 32 t;obtain⟨ls,hls⟩:∃ls,aq 32 t=ls:=⟨_,rfl⟩;have HLS:=Jj hls;rw[hls] at o hcl;rw[hls];have HP:=Jj o;have hmk:=fun W=>Tryz.mkInts ls.length (by omega) W;have OZ:=Own.zeros w2 ls.length (by omega);have BZ:=aa b (ab w2 (.cells (bz ls.length (.int .i64 0)).toArray 3));have HPZ:=o.bel (ab w2 (.cells (bz ls.length (.int .i64 0)).toArray 3));have hz2:=b.size;clear o b hls hg
 go_wp2_with fail
 generalize hW:w2.alloc (.cells (bz ls.length (.int .i64 0)).toArray 3)=w3 at *;clear hW
 go_loopw [17] (fun i wr=>∃(k:Nat) (L:List Int),k≤ls.length∧i=.int .i64 k∧qQ ls k∧L.length=ls.length∧(∀j,j<k→at_ L j=cA (sat ls j))∧Own wr w2.heap.size (.slice (some ⟨w2.heap.size,0,none⟩) ls.length ls.length) L∧aj wr w.heap.size (.slice A ls.length ls.length) ls∧Below w.heap.size w wr) (fun i _=>ls.length-(intOf i).toNat)
 case atStart=>exact⟨0,_,Jy _,rfl,fun j hj=>absurd hj (Nat.not_lt_zero _),iN _,fun j hj=>absurd hj (Nat.not_lt_zero _),OZ,HPZ,BZ⟩
 case round=>
  obtain⟨k,L,hk,rfl,hok,hL,hat,hO,hP,hB⟩:=hrel;have H:=Jj (Jq hok (Jq hat (Jq hO (Jq hP hB))));have HLL:=Jj hL;have hz:=hB.size;clear hok hat hO hP hB hL OZ HPZ BZ;by_cases hkl:k<ls.length
  ·obtain⟨A6,c6,e6,-,-,hrd⟩:=H.out.2.2.2.1.strs.open_;cases e6;obtain⟨b,o,rfl,hbb,hcell⟩:=hrd.strs (Nat.lt_of_le_of_lt (Jy _) hkl);have hck:=hcell k hkl;have hss:(sat ls k).size≤1048576:=Js (cT (c:=32) (s:=t) (by rw[HLS.out];exact cJ ls k hkl)) ht;have hbd:=fM (sat ls k);have HNO:=Jj (yL hkl);have HOS:=Jj (fun hq=>py H.out.1 hq);obtain⟨Z,hZ⟩:∃Z,sat ls k=Z:=⟨_,rfl⟩;rw[hZ] at hck hss hbd HNO HOS;replace hZ:=Jj hZ;clear hcell hrd
   go_wp2_with fail
   refine(jR Z _ hss (HG.out.bel H.out.2.2.2.2)).mono ?_;rintro e w4 ⟨he,b4⟩;unfold cV at he;subst he;have HB4:=Jj (aa H.out.2.2.2.2 b4);have HO4:=Jj (H.out.2.2.1.bel b4);have HP4:=Jj (H.out.2.2.2.1.bel b4);clear b4 hck;obtain⟨z,hz3⟩:∃z,cA Z=z:=⟨_,rfl⟩;rw[hz3] at hbd;rw[hz3];replace hz3:=Jj hz3;cases hq:(bn Z).isSome
   ·have HE:=Jj (show aE t=false from by
     have:=HNO.out hq;unfold aE;rw[HLS.out];exact Bool.eq_false_iff.2 this)
    go_wp2;go_ret2;exact⟨_,by rw[HE.out];rfl,by rw[xc HE.out];exact Own.nil_ _ _,HB4.out⟩
   ·have HQ:=Jj (HOS.out hq);obtain⟨g9,c9,e9,-,-,-,-,h9⟩:=HO4.out.openN (by rw[HLL.out];omega);injection e9 with e1 e2 e3;injection e1 with e1;injection e1 with e1;subst e1;clear e2 e3;obtain⟨f0,f1⟩:=h9 k (by rw[HLL.out];exact hkl);have hne:=Jj (show ∀q,(Value.slice (some ⟨b,o,none⟩) ls.length ls.length).ownBlock=some q→(Value.slice (some ⟨w2.heap.size,0,none⟩) ls.length ls.length).ownBlock≠some q from fun q hq e=>by
     have h1:=(HP.out.lt q hq).2;have h2:w2.heap.size=q:=JC e;omega)
    clear h9;go_wp2;go_roundw
    case rel=>
     refine⟨k+1,L.set k z,hkl,by go_num,HQ.out,by rw[List.length_set];exact HLL.out,fun j hj=>?_,HO4.out.set_ k z (by rw[HLL.out];exact hkl) ⟨by omega,by omega⟩,HP4.out.apart (u:=.slice (some ⟨w2.heap.size,0,none⟩) ls.length ls.length) (aI _ _ _ _) hne.out,HB4.out.setCell hz2 _⟩;rw[re j (by rw[HLL.out];exact hkl)];by_cases e:j=k
     ·rw[if_pos e,e,hZ.out,hz3.out]
     ·rw[if_neg e];exact H.out.2.1 j (by omega)
    case measure=>simp[intOf];omega
  ·have hke:k=ls.length:=by omega
   subst hke;have HE:=Jj (show aE t=true by unfold aE;rw[HLS.out];exact qR H.out.1);have HV:=Jj (show bg t=L by unfold bg;rw[HLS.out];exact(Fc HLL.out H.out.2.1).symm);go_wp2;go_ret2;exact⟨_,by rw[HE.out];rfl,by rw[dI HE.out,HV.out];exact H.out.2.2.1.lower hz2,H.out.2.2.2.2⟩
def ppL (t:ByteArray):List Int:=gS (spL t)
def cP (t:ByteArray):Bool:=aE t&&av (spL t)
theorem nS (t:ByteArray) (w:World) (ht:t.size≤1048576) (hg:Glb w):
  Calls prog 134 #[.string t] w fun e w'=>∃r,e=.returned (.tuple #[r,.bool (cP t)])∧Own w' w.heap.size r (ppL t)∧Below w.heap.size w w':=by
 go_enter func134,ntmps134
 go_wp2_with fail
 refine(ec t w ht hg).mono ?_;rintro e w2 ⟨r,rfl,o,b⟩;have HO:=Jj o;have HB:=Jj b;obtain⟨A,c,rfl,-,-,-⟩:=o.ints.open_;clear o b;cases hq:aE t
 ·have HE:=Jj (show cP t=false by unfold cP;rw[hq];rfl);have HL:=Jj (show ppL t=[] by unfold ppL;rw[xc hq];rfl);go_wp2;go_ret2;exact⟨_,by rw[HE.out];rfl,by rw[HL.out];exact Own.nil_ _ _,HB.out⟩
 ·have HE:=Jj (show cP t=av (spL t) by unfold cP;rw[hq];rfl)
  go_wp2_with fail
  refine(gF _ (spL t) _ HO.out.ints).mono ?_;rintro e w3 ⟨rfl,rfl⟩;have HC:=Jj HO.out.chk;obtain⟨v,hv⟩:∃v,nF (spL t) (.slice A (spL t).length c)=v:=⟨_,rfl⟩;rw[hv] at HC ⊢;clear hv;go_wp2;go_ret2;exact⟨_,by rw[HE.out];rfl,HC.out,HB.out⟩
def grp (t:ByteArray) (i:Nat):ByteArray:=sat (aq 59 t) i
def spJ (t:ByteArray):bK:=⟨spP (grp t 0),at_ (bp (grp t 1) 3) 0,at_ (bp (grp t 1) 3) 1,at_ (bp (grp t 1) 3) 2,at_ (bp (grp t 2) 2) 0,at_ (bp (grp t 2) 2) 1,at_ (bp (grp t 3) 3) 0,at_ (bp (grp t 3) 3) 1,at_ (bp (grp t 3) 3) 2⟩
open Classical in
noncomputable def spR (t:ByteArray):bK×Bool:=if (aq 59 t).length=4∧jE (spJ t)=t then(spJ t,true) else(cG,false)
theorem zp {t:ByteArray} (h:(aq 59 t).length=4) (h2:jE (spJ t)=t):spR t=(spJ t,true):=by unfold spR;rw[if_pos ⟨h,h2⟩]
theorem r5 {t:ByteArray} (h:¬((aq 59 t).length=4∧jE (spJ t)=t)):spR t=(cG,false):=by unfold spR;rw[if_neg h]
theorem il {t:ByteArray} (ht:t.size≤1048576) (h:(aq 59 t).length=4) {i:Nat} (hi:i<4):(grp t i).size≤1048576:=Js (cT (c:=59) (s:=t) (cJ _ i (by omega))) ht
def Hn (w:World) (base:Nat) (R:bK×Bool) (e:Ending):Prop:=∃v,e=.returned (.tuple #[cr v R.1,.bool R.2])∧Own w base v R.1.poly∧R.1.In
theorem ml:cG.In:=by constructor <;> (unfold cG;simp)
theorem uU {l:List Int} (h:Sm l) (i:Nat) : -100000000000000000<at_ l i∧at_ l i<100000000000000000:=by
 unfold at_;rw[List.getD_eq_getElem?_getD];cases hq:l[i]? with
 |none=>simp
 |some x=>exact h x (List.mem_of_getElem? hq)
theorem EF (t:ByteArray) (n:Nat):Sm (bp t n):=by
 unfold bp
 split
 ·exact qP t
 ·intro x hx;obtain⟨_,_,rfl⟩:=List.mem_map.1 hx;omega
theorem vy (t:ByteArray) (n i:Nat) : -9223372036854775808≤at_ (bp t n) i∧at_ (bp t n) i≤9223372036854775807:=by
 have:=uU (EF t n) i;omega
theorem Df {w:World} {A:Option Addr} {c:Nat} {ls:List ByteArray} (h:aG w (.slice A ls.length c) ls) (hl:ls.length=4):∃b o,A=some ⟨b,o,none⟩∧b<w.heap.size ∧
  (w.cell? ⟨b,o,none⟩=some (.string (sat ls 0))∧w.cell? ⟨b,o+1,none⟩=some (.string (sat ls 1))∧w.cell? ⟨b,o+2,none⟩=some (.string (sat ls 2))∧w.cell? ⟨b,o+3,none⟩=some (.string (sat ls 3))):=by
 obtain⟨A6,c6,e6,-,-,hrd⟩:=h.open_;injection e6 with e1 e2 e3;subst e1;obtain⟨b,o,e,hb,hc⟩:=hrd.strs (by omega);exact⟨b,o,e,hb,hc 0 (by omega),hc 1 (by omega),hc 2 (by omega),hc 3 (by omega)⟩
theorem Fs {w:World} {base:Nat} {v:Value} {l:List Int} (h:Own w base v l) (hl:l.length=3):∃b c,v=.slice (some ⟨b,0,none⟩) 3 c∧base≤b∧b<w.heap.size∧3≤c ∧
  (w.cell? ⟨b,0,none⟩=some (.int .i64 (at_ l 0))∧w.cell? ⟨b,1,none⟩=some (.int .i64 (at_ l 1))∧w.cell? ⟨b,2,none⟩=some (.int .i64 (at_ l 2))):=by
 obtain⟨b,c,rfl,h1,h2,h3,h4,hc⟩:=h.openN (by omega);rw[hl] at h3 ⊢;exact⟨b,c,rfl,h1,h2,h3,(hc 0 (by omega)).1,(hc 1 (by omega)).1,(hc 2 (by omega)).1⟩
theorem II {w:World} {base:Nat} {v:Value} {l:List Int} (h:Own w base v l) (hl:l.length=2):∃b c,v=.slice (some ⟨b,0,none⟩) 2 c∧base≤b∧b<w.heap.size∧2≤c ∧
  (w.cell? ⟨b,0,none⟩=some (.int .i64 (at_ l 0))∧w.cell? ⟨b,1,none⟩=some (.int .i64 (at_ l 1))):=by
 obtain⟨b,c,rfl,h1,h2,h3,h4,hc⟩:=h.openN (by omega);rw[hl] at h3 ⊢;exact⟨b,c,rfl,h1,h2,h3,(hc 0 (by omega)).1,(hc 1 (by omega)).1⟩
theorem BW {w w':World} {b:Nat} {x y z:Value} (h:w.cell? ⟨b,0,none⟩=some x∧w.cell? ⟨b,1,none⟩=some y∧w.cell? ⟨b,2,none⟩=some z) (hl:b<w.heap.size) (hb:Below w.heap.size w w'):w'.cell? ⟨b,0,none⟩=some x∧w'.cell? ⟨b,1,none⟩=some y∧w'.cell? ⟨b,2,none⟩=some z:=
 ⟨(hb.cell hl).trans h.1,(hb.cell hl).trans h.2.1,(hb.cell hl).trans h.2.2⟩
theorem Ht {w w':World} {b:Nat} {x y:Value} (h:w.cell? ⟨b,0,none⟩=some x∧w.cell? ⟨b,1,none⟩=some y) (hl:b<w.heap.size) (hb:Below w.heap.size w w'):w'.cell? ⟨b,0,none⟩=some x∧w'.cell? ⟨b,1,none⟩=some y:=
 ⟨(hb.cell hl).trans h.1,(hb.cell hl).trans h.2⟩
theorem AW (t:ByteArray) (w:World) (ht:t.size≤1048576):
  Calls prog 82 #[.string t] w fun e w'=>Hn w' w.heap.size (spR t) e∧Below w.heap.size w w':=by
 have K0:=Blk.new w 97 (aS (.slice none 0 0) cG);have B0:=ab w (.cells (aS (.slice none 0 0) cG).toArray 97)
 go_enter func82,ntmps82
 go_wp2_with fail
 change Calls _ _ _ (w.alloc (.cells (aS (.slice none 0 0) cG).toArray 97)) _;generalize hW:w.alloc (.cells (aS (.slice none 0 0) cG).toArray 97)=w1 at *;have hz1:w1.heap.size=w.heap.size+1:=by rw[←hW];simp
 clear hW;refine(ip t 59 _ ht).mono ?_;rintro e w2 ⟨r,rfl,o,b⟩;have hz21:w.heap.size+1≤w2.heap.size:=by rw[←hz1];exact b.size
 replace K0:=K0.below b K0.lt;have HB:=Jj (aa B0 b);have HP:=Jj o.strs;have hcl:=ff 59 t;obtain⟨ls,hls⟩:∃ls,aq 59 t=ls:=⟨_,rfl⟩;have HLS:=Jj hls;rw[hls] at HP hcl;obtain⟨A,c,rfl,hlc,-,-⟩:=HP.out.open_;clear B0 o b hls;by_cases hlen:ls.length=4
 ·have HLN:=Jj (show(aq 59 t).length=4 by rw[HLS.out];exact hlen);have g0:(sat ls 0).size≤1048576:=by rw[←HLS.out];exact il ht HLN.out (i:=0) (by omega)
  have g1:(sat ls 1).size≤1048576:=by rw[←HLS.out];exact il ht HLN.out (i:=1) (by omega)
  have g2:(sat ls 2).size≤1048576:=by rw[←HLS.out];exact il ht HLN.out (i:=2) (by omega)
  have g3:(sat ls 3).size≤1048576:=by rw[←HLS.out];exact il ht HLN.out (i:=3) (by omega)
  obtain⟨b,o,rfl,hbb,p0,p1,p2,p3⟩:=Df HP.out hlen;rw[hlen] at HP hlc ⊢;have HJ:=Jj (show spJ t=⟨spP (sat ls 0),at_ (bp (sat ls 1) 3) 0,at_ (bp (sat ls 1) 3) 1,at_ (bp (sat ls 1) 3) 2,at_ (bp (sat ls 2) 2) 0,at_ (bp (sat ls 2) 2) 1,at_ (bp (sat ls 3) 3) 0,at_ (bp (sat ls 3) 3) 1,at_ (bp (sat ls 3) 3) 2⟩ by unfold spJ grp;rw[HLS.out]);obtain⟨G0,hG0⟩:∃G,sat ls 0=G:=⟨_,rfl⟩;obtain⟨G1,hG1⟩:∃G,sat ls 1=G:=⟨_,rfl⟩;obtain⟨G2,hG2⟩:∃G,sat ls 2=G:=⟨_,rfl⟩;obtain⟨G3,hG3⟩:∃G,sat ls 3=G:=⟨_,rfl⟩;rw[hG0] at g0 p0 HJ;rw[hG1] at g1 p1 HJ;rw[hG2] at g2 p2 HJ;rw[hG3] at g3 p3 HJ;have hl1:=oX G1 3;have hl2:=oX G2 2;have hl3:=oX G3 3;clear hG0 hG1 hG2 hG3 hlen HLS HP hcl
  go_wp2_with fail
  refine(AX G0 _ g0).mono ?_;rintro e w3 ⟨r0,x0,rfl,o0,b3⟩;replace K0:=K0.below b3 K0.lt;replace HB:=Jj (aa HB.out b3);replace p1:=(b3.cell hbb).trans p1;replace p2:=(b3.cell hbb).trans p2;replace p3:=(b3.cell hbb).trans p3;replace hbb:=Jw hbb b3.size;clear b3 p0
  go_wp2_with fail
  refine(lj G1 3 _ g1 (by omega)).mono ?_;rintro e w4 ⟨r1,x1,rfl,o1,b4⟩;replace K0:=K0.below b4 K0.lt;replace HB:=Jj (aa HB.out b4);replace p2:=(b4.cell hbb).trans p2;replace p3:=(b4.cell hbb).trans p3;replace hbb:=Jw hbb b4.size;replace o0:=o0.bel b4;obtain⟨n1,m1,rfl,y1,u1,v1,q1⟩:=Fs o1 hl1;clear b4 p1 o1
  go_wp2_with fail
  refine(lj G2 2 _ g2 (by omega)).mono ?_;rintro e w5 ⟨r2,x2,rfl,o2,b5⟩;replace K0:=K0.below b5 K0.lt;replace HB:=Jj (aa HB.out b5);replace p3:=(b5.cell hbb).trans p3;replace hbb:=Jw hbb b5.size;replace o0:=o0.bel b5;replace q1:=BW q1 u1 b5;replace u1:=Jw u1 b5.size;obtain⟨n2,m2,rfl,y2,u2,v2,q2⟩:=II o2 hl2;clear b5 p2 o2
  go_wp2_with fail
  refine(lj G3 3 _ g3 (by omega)).mono ?_;rintro e w6 ⟨r3,x3,rfl,o3,b6⟩;replace K0:=K0.below b6 K0.lt;replace HB:=Jj (aa HB.out b6);replace o0:=o0.bel b6;replace q1:=BW q1 u1 b6;replace u1:=Jw u1 b6.size;replace q2:=Ht q2 u2 b6;replace u2:=Jw u2 b6.size;obtain⟨n3,m3,rfl,y3,u3,v3,q3⟩:=Fs o3 hl3;clear b6 p3 o3;obtain⟨A0,c0,rfl,-,-,-⟩:=o0.ints.open_;have O0:=Jj (o0.lower hz21);obtain⟨i1,i2,i3⟩:=q1;obtain⟨i4,i5⟩:=q2;obtain⟨i6,i7,i8⟩:=q3;clear o0;obtain⟨J,hJ⟩:∃J,J=spJ t:=⟨_,rfl⟩;have hJin:J.In:=by
   rw[hJ,HJ.out]
   constructor <;> exact vy _ _ _
  rw[HJ.out] at hJ;have e1:J.fr=at_ (bp G1 3) 0:=by rw[hJ]
  have e2:J.ct=at_ (bp G1 3) 1:=by rw[hJ]
  have e3:J.wd=at_ (bp G1 3) 2:=by rw[hJ]
  have e4:J.dg=at_ (bp G2 2) 0:=by rw[hJ]
  have e5:J.wy=at_ (bp G2 2) 1:=by rw[hJ]
  have e6:J.rw=at_ (bp G3 3) 0:=by rw[hJ]
  have e7:J.ac=at_ (bp G3 3) 1:=by rw[hJ]
  have e8:J.wi=at_ (bp G3 3) 2:=by rw[hJ]
  have e0:J.poly=spP G0:=by rw[hJ]
  have HSJ:=Jj (show spJ t=J by rw[HJ.out,hJ]);have hz6:w.heap.size+1≤w2.heap.size:=hz21;have HJI:=Jj hJin;rw[←e1] at i1;rw[←e2] at i2;rw[←e3] at i3;rw[←e4] at i4;rw[←e5] at i5;rw[←e6] at i6;rw[←e7] at i7;rw[←e8] at i8;replace O0:=Jj (show Own w6 (w.heap.size+1) (.slice A0 J.poly.length c0) J.poly by rw[e0];exact O0.out);rw[←e0];have HK:=Jj K0;clear K0 hJ HJ e0 e1 e2 e3 e4 e5 e6 e7 e8 hJin hl1 hl2 hl3 y1 y2 y3 v1 v2 v3 hlc hz6
  go_wp2_with fail
  go_region_held3 (fun w'=>w'.cell? ⟨n1,0,none⟩=some (.int .i64 J.fr)∧w'.cell? ⟨n1,1,none⟩=some (.int .i64 J.ct)∧w'.cell? ⟨n1,2,none⟩=some (.int .i64 J.wd)∧w'.cell? ⟨n2,0,none⟩=some (.int .i64 J.dg)∧w'.cell? ⟨n2,1,none⟩=some (.int .i64 J.wy)∧w'.cell? ⟨n3,0,none⟩=some (.int .i64 J.rw)∧w'.cell? ⟨n3,1,none⟩=some (.int .i64 J.ac)∧w'.cell? ⟨n3,2,none⟩=some (.int .i64 J.wi)) (first|exact⟨i1,i2,i3,i4,i5,i6,i7,i8⟩|go_keep) (first|fail)
  rename_i hHeld
  clear hHeld i1 i2 i3 i4 i5 i6 i7 i8;have bA:Below w6.heap.size w6 (w6.alloc (.cells (aS (.slice A0 J.poly.length c0) J).toArray 97)).drew:=(ab w6 (.cells (aS (.slice A0 J.poly.length c0) J).toArray 97)).drew;have KJ:Blk (w6.alloc (.cells (aS (.slice A0 J.poly.length c0) J).toArray 97)).drew w6.heap.size 97 (aS (.slice A0 J.poly.length c0) J):=Blk.new w6 97 (aS (.slice A0 J.poly.length c0) J);replace HK:=Jj (HK.out.below bA HK.out.lt);replace HB:=Jj (aa HB.out bA);replace O0:=Jj (O0.out.bel bA);have HKJ:=Jj KJ;have HKJ2:=KJ;clear bA KJ;obtain⟨a0,a1,a2,a3,a4,a5,a6,a7,a8⟩:=HKJ2.job;clear HKJ2
  go_wp2_with fail
  change Calls _ _ #[cr (.slice A0 J.poly.length c0) J] (w6.alloc (.cells (aS (.slice A0 J.poly.length c0) J).toArray 97)).drew _;clear a0 a1 a2 a3 a4 a5 a6 a7 a8;generalize hW:(w6.alloc (.cells (aS (.slice A0 J.poly.length c0) J).toArray 97)).drew=wa at HK HB O0 HKJ ⊢;clear hW;refine(qx _ J _ O0.out.ints HJI.out).mono ?_;rintro e w7 ⟨rfl,b7⟩;replace HK:=Jj (HK.out.below b7 HK.out.lt);replace HKJ:=Jj (HKJ.out.below b7 HKJ.out.lt);replace HB:=Jj (aa HB.out b7);replace O0:=Jj (O0.out.bel b7);clear b7;obtain⟨T,hT⟩:∃T,jE J=T:=⟨_,rfl⟩;rw[hT];replace hT:=Jj hT;obtain⟨c0',c1,c2,c3,c4,c5,c6,c7,c8⟩:=HK.out.job;obtain⟨f0,f1,f2,f3,f4,f5,f6,f7,f8⟩:=HK.out.free;by_cases hq:T=t
  ·have he:(!T.toList==t.toList)=false:=by rw[hq];simp
   have HR:=Jj (show spR t=(J,true) by rw[zp HLN.out (by rw[HSJ.out,hT.out,hq]),HSJ.out]);clear hq;obtain⟨a0,a1,a2,a3,a4,a5,a6,a7,a8⟩:=HKJ.out.job
   go_wp2_with fail
   have KE:=fL [.slice A0 J.poly.length c0,.int .i64 J.fr,.int .i64 J.ct,.int .i64 J.wd,.int .i64 J.dg,.int .i64 J.wy,.int .i64 J.rw,.int .i64 J.ac,.int .i64 J.wi] _ _ 0 HK.out;have BE:=oP (g:=w.heap.size) (Jr _) [.slice A0 J.poly.length c0,.int .i64 J.fr,.int .i64 J.ct,.int .i64 J.wd,.int .i64 J.dg,.int .i64 J.wy,.int .i64 J.rw,.int .i64 J.ac,.int .i64 J.wi] _ 0 HB.out;have OE:=Fj (g:=w.heap.size) (Nat.lt_succ_self _) [.slice A0 J.poly.length c0,.int .i64 J.fr,.int .i64 J.ct,.int .i64 J.wd,.int .i64 J.dg,.int .i64 J.wy,.int .i64 J.rw,.int .i64 J.ac,.int .i64 J.wi] _ 0 O0.out;clear c0' c1 c2 c3 c4 c5 c6 c7 c8 f0 f1 f2 f3 f4 f5 f6 f7 f8 a0 a1 a2 a3 a4 a5 a6 a7 a8;change bodyPost _ _ _ _ _ (dA w7 w.heap.size 0 [.slice A0 J.poly.length c0,.int .i64 J.fr,.int .i64 J.ct,.int .i64 J.wd,.int .i64 J.dg,.int .i64 J.wy,.int .i64 J.rw,.int .i64 J.ac,.int .i64 J.wi]);generalize hW7:dA w7 w.heap.size 0 [.slice A0 J.poly.length c0,.int .i64 J.fr,.int .i64 J.ct,.int .i64 J.wd,.int .i64 J.dg,.int .i64 J.wy,.int .i64 J.rw,.int .i64 J.ac,.int .i64 J.wi]=W7 at KE BE OE ⊢;clear hW7;obtain⟨h0,h1,h2,h3,h4,h5,h6,h7,h8⟩:=Blk.job (v:=.slice A0 J.poly.length c0) (j:=J) KE;refine bodyPost_ret (v:=.tuple #[cr (.slice A0 J.poly.length c0) J,.bool true]) (by simp[cr,results,results82,go_sem,h0,h1,h2,h3,h4,h5,h6,h7,h8]) rfl ⟨⟨_,by rw[HR.out],by rw[HR.out];exact OE.lower (Nat.le_succ _),by rw[HR.out];exact HJI.out⟩,BE⟩
  ·have he:=vf hq;have HR:=Jj (r5 (t:=t) fun h=>hq (by rw[←h.2,HSJ.out,hT.out]));clear hq
   go_wp2_with fail
   have KE:=fL [.slice none 0 0,.int .i64 0,.int .i64 0,.int .i64 0,.int .i64 0,.int .i64 0,.int .i64 0,.int .i64 0,.int .i64 0] _ _ 0 HK.out;have BE:=oP (g:=w.heap.size) (Jr _) [.slice none 0 0,.int .i64 0,.int .i64 0,.int .i64 0,.int .i64 0,.int .i64 0,.int .i64 0,.int .i64 0,.int .i64 0] _ 0 HB.out;clear c0' c1 c2 c3 c4 c5 c6 c7 c8 f0 f1 f2 f3 f4 f5 f6 f7 f8 ;change bodyPost _ _ _ _ _ (dA w7 w.heap.size 0 [.slice none 0 0,.int .i64 0,.int .i64 0,.int .i64 0,.int .i64 0,.int .i64 0,.int .i64 0,.int .i64 0,.int .i64 0]);generalize hW7:dA w7 w.heap.size 0 [.slice none 0 0,.int .i64 0,.int .i64 0,.int .i64 0,.int .i64 0,.int .i64 0,.int .i64 0,.int .i64 0,.int .i64 0]=W7 at KE BE ⊢;clear hW7;obtain⟨h0,h1,h2,h3,h4,h5,h6,h7,h8⟩:=Blk.job (v:=.slice none 0 0) (j:=cG) KE;refine bodyPost_ret (v:=.tuple #[cr (.slice none 0 0) cG,.bool false]) (by simp[cr,results,results82,go_sem,h0,h1,h2,h3,h4,h5,h6,h7,h8]) rfl ⟨⟨_,by rw[HR.out],by rw[HR.out];exact Own.nil_ _ _,by rw[HR.out];exact ml⟩,BE⟩
 ·have hlq:((ls.length:Int)==4)=false:=by simp;omega
  have hli:¬(ls.length:Int)=4:=by omega
  have HR:=Jj (r5 (t:=t) fun h=>hlen (by rw[←HLS.out];exact h.1));have HK:=Jj K0;obtain⟨c0,c1,c2,c3,c4,c5,c6,c7,c8⟩:=K0.job;obtain⟨f0,f1,f2,f3,f4,f5,f6,f7,f8⟩:=K0.free;clear K0
  go_wp2_with fail
  have KE:=fL [.slice none 0 0,.int .i64 0,.int .i64 0,.int .i64 0,.int .i64 0,.int .i64 0,.int .i64 0,.int .i64 0,.int .i64 0] _ _ 0 HK.out;have BE:=oP (g:=w.heap.size) (Jr _) [.slice none 0 0,.int .i64 0,.int .i64 0,.int .i64 0,.int .i64 0,.int .i64 0,.int .i64 0,.int .i64 0,.int .i64 0] _ 0 HB.out;clear c0 c1 c2 c3 c4 c5 c6 c7 c8 f0 f1 f2 f3 f4 f5 f6 f7 f8;change bodyPost _ _ _ _ _ (dA w2 w.heap.size 0 [.slice none 0 0,.int .i64 0,.int .i64 0,.int .i64 0,.int .i64 0,.int .i64 0,.int .i64 0,.int .i64 0,.int .i64 0]);generalize hW7:dA w2 w.heap.size 0 [.slice none 0 0,.int .i64 0,.int .i64 0,.int .i64 0,.int .i64 0,.int .i64 0,.int .i64 0,.int .i64 0,.int .i64 0]=W7 at KE BE ⊢;clear hW7;obtain⟨h0,h1,h2,h3,h4,h5,h6,h7,h8⟩:=Blk.job (v:=.slice none 0 0) (j:=cG) KE;refine bodyPost_ret (v:=.tuple #[cr (.slice none 0 0) cG,.bool false]) (by simp[cr,results,results82,go_sem,h0,h1,h2,h3,h4,h5,h6,h7,h8]) rfl ⟨⟨_,by rw[HR.out],by rw[HR.out];exact Own.nil_ _ _,by rw[HR.out];exact ml⟩,BE⟩
end Go.Proofs.YtfmjklgfpiffbaaGreatDoor
namespace Go.Proofs.YtfmjklgfpiffbaaGreatDoor
open Go.RowKit Go.Proofs.Tryz
set_option linter.unusedVariables false
set_option linter.unusedSimpArgs false
set_option maxRecDepth 100000
set_option maxHeartbeats 8000000
def imJ (t:ByteArray):bK:=⟨ppL (grp t 0),at_ (spL (grp t 1)) 0,at_ (spL (grp t 1)) 1,at_ (spL (grp t 1)) 2,at_ (spL (grp t 2)) 0,at_ (spL (grp t 2)) 1,at_ (spL (grp t 3)) 0,at_ (spL (grp t 3)) 1,at_ (spL (grp t 3)) 2⟩
def sy (t:ByteArray):Prop:=(aq 59 t).length=4∧cP (grp t 0)=true∧aE (grp t 1)=true∧aE (grp t 2)=true∧aE (grp t 3)=true∧(spL (grp t 1)).length=3∧(spL (grp t 2)).length=2∧(spL (grp t 3)).length=3∧bH (imJ t)=true
theorem I2 {l:List ByteArray} (h:l.length=4):l=[sat l 0,sat l 1,sat l 2,sat l 3]:=by
 match l,h with
 |[a,b,c,d],_=>rfl
theorem CV {l:List Int} (h:l.length=3):[at_ l 0,at_ l 1,at_ l 2]=l:=by
 match l,h with
 |[a,b,c],_=>rfl
theorem Iu {l:List Int} (h:l.length=2):[at_ l 0,at_ l 1]=l:=by
 match l,h with
 |[a,b],_=>rfl
theorem lT (g:ByteArray):(aq 32 g).length=(bg g).length:=by unfold bg;rw[List.length_map]
theorem oY {g:ByteArray} {n:Nat} (h:aE g=true) (hl:(spL g).length=n):bp g n=spL g:=by
 rw[dI h] at hl ⊢;exact oZ (by rw[lT];exact hl) h
theorem td {g:ByteArray} (h:cP g=true):spP g=ppL g∧ax (ppL g)=g:=by
 unfold cP at h;rw[JB] at h;have h1:=dI h.1;rw[h1] at h;have h7:=me h.2;have e:ppL g=bg g:=by unfold ppL;rw[h1,ic h.2]
 have h8:aN (aq 32 g) 8=bg g:=n7 (by rw[lT];omega);have hp:ax (bg g)=g:=by rw[fX h.2,kH h.1]
 rw[e];exact⟨by rw[Hj (by rw[h8];exact hp),h8],hp⟩
theorem F3 {t:ByteArray} (h:sy t):imJ t=spJ t∧jE (spJ t)=t:=by
 obtain⟨h4,hp,o1,o2,o3,l1,l2,l3,hj⟩:=h;obtain⟨e0,f0⟩:=td hp;have e:imJ t=spJ t:=by
  unfold imJ spJ;rw[oY o1 l1,oY o2 l2,oY o3 l3,e0]
 refine⟨e,?_⟩;rw[←e,pV hj,←tQ];have r1:gr1 (imJ t)=grp t 1:=by
  show aw [at_ (spL (grp t 1)) 0,at_ (spL (grp t 1)) 1,at_ (spL (grp t 1)) 2]=_
  rw[CV l1,dI o1,kH o1]
 have r2:gr2 (imJ t)=grp t 2:=by
  show aw [at_ (spL (grp t 2)) 0,at_ (spL (grp t 2)) 1]=_
  rw[Iu l2,dI o2,kH o2]
 have r3:gr3 (imJ t)=grp t 3:=by
  show aw [at_ (spL (grp t 3)) 0,at_ (spL (grp t 3)) 1,at_ (spL (grp t 3)) 2]=_
  rw[CV l3,dI o3,kH o3]
 rw[r1,r2,r3,show ax (imJ t).poly=grp t 0 from f0];have:=mx 59 t;rw[I2 h4] at this;exact this
theorem Iq {j:bK} (hj:j.In) (h:bH j=true):Sm j.poly∧Sm [j.fr,j.ct,j.wd]∧Sm [j.dg,j.wy]∧Sm [j.rw,j.ac,j.wi]:=by
 obtain⟨h1,h2,h3,h4,h5⟩:=iE.1 h;obtain⟨hk1,hk2,-,-⟩:=s8 h1;obtain⟨hp0,hn⟩:=nC.1 hk1;obtain⟨p1,p7,hp⟩:=bf.1 hp0;have hc:=yP j.poly j.fr j.wd j.ct;rw[h3] at hc;simp[eE,inB] at h4;simp[dE,inB] at h5;refine⟨fun n hn=>?_,fun n hn=>?_,fun n hn=>?_,fun n hn=>?_⟩
 ·obtain⟨k,hk,rfl⟩:=List.getElem_of_mem hn;have:=hp k hk;unfold at_ at this;rw[List.getD_eq_getElem?_getD,List.getElem?_eq_getElem hk] at this;simp at this;omega
 ·simp at hn
  rcases hn with rfl|rfl|rfl <;> omega
 ·simp at hn
  rcases hn with rfl|rfl <;> omega
 ·simp at hn
  rcases hn with rfl|rfl|rfl <;> omega
theorem Jb {t:ByteArray} (h4:(aq 59 t).length=4) (h:jE (spJ t)=t):sy t:=by
 obtain⟨j,hj⟩:∃j,j=spJ t:=⟨_,rfl⟩;have hin:j.In:=by rw[hj];constructor <;> exact vy _ _ _
 rw[←hj] at h;have hok:bH j=true:=by
  cases hq:bH j
  ·rw[vJ hq] at h;rw[←h] at h4;exact absurd h4 (by decide)
  ·rfl
 have hpo:=qM hok;obtain⟨s0,s1,s2,s3⟩:=Iq hin hok;have hp1:j.poly≠[]:=fun e=>by have:=(bf.1 hpo).1;rw[e] at this;simp at this
 rw[pV hok,fX hpo,←tQ] at h;have hc:aq 59 t=[aw j.poly,gr1 j,gr2 j,gr3 j]:=by
  rw[←h]
  apply tF
  intro p hp;simp at hp
  rcases hp with rfl|rfl|rfl|rfl <;> exact Fb (by decide) (by decide) (by decide) _
 have g0:grp t 0=aw j.poly:=by unfold grp;rw[hc];rfl
 have g1:grp t 1=gr1 j:=by unfold grp;rw[hc];rfl
 have g2:grp t 2=gr2 j:=by unfold grp;rw[hc];rfl
 have g3:grp t 3=gr3 j:=by unfold grp;rw[hc];rfl
 obtain⟨a0,b0⟩:=kW hp1 s0;obtain⟨a1,b1⟩:=kW (by simp) s1;obtain⟨a2,b2⟩:=kW (by simp) s2;obtain⟨a3,b3⟩:=kW (by simp) s3;have l0:spL (grp t 0)=j.poly:=by rw[g0,dI a0,b0]
 have l1:spL (grp t 1)=[j.fr,j.ct,j.wd]:=by rw[g1];unfold gr1;rw[dI a1,b1]
 have l2:spL (grp t 2)=[j.dg,j.wy]:=by rw[g2];unfold gr2;rw[dI a2,b2]
 have l3:spL (grp t 3)=[j.rw,j.ac,j.wi]:=by rw[g3];unfold gr3;rw[dI a3,b3]
 have hi:imJ t=j:=by
  unfold imJ ppL;rw[l0,l1,l2,l3,ic hpo]
  rfl
 refine⟨h4,?_,?_,?_,?_,?_,?_,?_,?_⟩
 ·unfold cP;rw[l0,hpo,g0,a0]
  rfl
 ·rw[g1];exact a1
 ·rw[g2];exact a2
 ·rw[g3];exact a3
 ·rw[l1];rfl
 ·rw[l2];rfl
 ·rw[l3];rfl
 ·rw[hi];exact hok
theorem FG {t:ByteArray} (h:sy t):spR t=(imJ t,true):=by rw[zp h.1 (F3 h).2,(F3 h).1]
theorem jv {t:ByteArray} (h:¬sy t):spR t=(cG,false):=r5 fun x=>h (Jb x.1 x.2)
attribute [local go_sem ↓] Go.wp_at_zero Go.wp_at_succ
theorem F6 {w:World} {base c:Nat} {A:Option Addr} {l:List Int} (h:Own w base (.slice A l.length c) l) (hl:l.length=3):∃b,A=some ⟨b,0,none⟩∧3≤c ∧
  (w.cell? ⟨b,0,none⟩=some (.int .i64 (at_ l 0))∧w.cell? ⟨b,1,none⟩=some (.int .i64 (at_ l 1))∧w.cell? ⟨b,2,none⟩=some (.int .i64 (at_ l 2))):=by
 obtain⟨b,c2,e,h1,h2,h3,h4⟩:=Fs h hl;injection e with e1 e2 e3;subst e3;exact⟨b,e1,h3,h4⟩
theorem I8 {w:World} {base c:Nat} {A:Option Addr} {l:List Int} (h:Own w base (.slice A l.length c) l) (hl:l.length=2):∃b,A=some ⟨b,0,none⟩∧2≤c ∧
  (w.cell? ⟨b,0,none⟩=some (.int .i64 (at_ l 0))∧w.cell? ⟨b,1,none⟩=some (.int .i64 (at_ l 1))):=by
 obtain⟨b,c2,e,h1,h2,h3,h4⟩:=II h hl;injection e with e1 e2 e3;subst e3;exact⟨b,e1,h3,h4⟩
theorem IP (t:ByteArray):Sm (spL t):=by
 unfold spL
 split
 ·exact qP t
 ·intro x hx;simp at hx
theorem wZ (t:ByteArray) (i:Nat) : -9223372036854775808≤at_ (spL t) i∧at_ (spL t) i≤9223372036854775807:=by
 have:=uU (IP t) i;omega
theorem zU (t:ByteArray) (w:World) (ht:t.size≤1048576) (hg:Glb w):
  Calls prog 227 #[.string t] w fun e w'=>Hn w' w.heap.size (spR t) e∧Below w.heap.size w w':=by
 have K0:=Blk.new w 97 (aS (.slice none 0 0) cG);have B0:=ab w (.cells (aS (.slice none 0 0) cG).toArray 97);have HG:=Jj hg;clear hg
 go_enter func227,ntmps227
 go_wp2_with fail
 change Calls _ _ _ (w.alloc (.cells (aS (.slice none 0 0) cG).toArray 97)) _;generalize hW:w.alloc (.cells (aS (.slice none 0 0) cG).toArray 97)=w1 at *;have hz1:w1.heap.size=w.heap.size+1:=by rw[←hW];simp
 clear hW;refine(mD t 59 _ ht (HG.out.bel B0)).mono ?_;rintro e w2 ⟨A,rfl,o,b⟩;have hz21:w.heap.size+1≤w2.heap.size:=by rw[←hz1];exact b.size
 replace K0:=K0.below b K0.lt;have HK:=Jj K0;have HB:=Jj (aa B0 b);have HP:=Jj o.strs;have hcl:=ff 59 t;obtain⟨ls,hls⟩:∃ls,aq 59 t=ls:=⟨_,rfl⟩;have HLS:=Jj hls;rw[hls] at HP hcl;rw[hls];clear B0 o b hls K0;by_cases hlen:ls.length=4
 ·have HLN:=Jj (show(aq 59 t).length=4 by rw[HLS.out];exact hlen);have g0:(sat ls 0).size≤1048576:=by rw[←HLS.out];exact il ht HLN.out (i:=0) (by omega)
  have g1:(sat ls 1).size≤1048576:=by rw[←HLS.out];exact il ht HLN.out (i:=1) (by omega)
  have g2:(sat ls 2).size≤1048576:=by rw[←HLS.out];exact il ht HLN.out (i:=2) (by omega)
  have g3:(sat ls 3).size≤1048576:=by rw[←HLS.out];exact il ht HLN.out (i:=3) (by omega)
  obtain⟨b,o,rfl,hbb,p0,p1,p2,p3⟩:=Df HP.out hlen;rw[hlen] at HP ⊢;have HJ:=Jj (show imJ t=⟨ppL (sat ls 0),at_ (spL (sat ls 1)) 0,at_ (spL (sat ls 1)) 1,at_ (spL (sat ls 1)) 2,at_ (spL (sat ls 2)) 0,at_ (spL (sat ls 2)) 1,at_ (spL (sat ls 3)) 0,at_ (spL (sat ls 3)) 1,at_ (spL (sat ls 3)) 2⟩ by unfold imJ grp;rw[HLS.out]);have HI:=Jj (show sy t↔(aq 59 t).length=4∧cP (sat ls 0)=true∧aE (sat ls 1)=true∧aE (sat ls 2)=true∧aE (sat ls 3)=true∧(spL (sat ls 1)).length=3∧(spL (sat ls 2)).length=2∧(spL (sat ls 3)).length=3∧bH (imJ t)=true by unfold sy grp;rw[HLS.out]);obtain⟨G0,hG0⟩:∃G,sat ls 0=G:=⟨_,rfl⟩;obtain⟨G1,hG1⟩:∃G,sat ls 1=G:=⟨_,rfl⟩;obtain⟨G2,hG2⟩:∃G,sat ls 2=G:=⟨_,rfl⟩;obtain⟨G3,hG3⟩:∃G,sat ls 3=G:=⟨_,rfl⟩;rw[hG0] at g0 p0 HJ HI;rw[hG1] at g1 p1 HJ HI;rw[hG2] at g2 p2 HJ HI;rw[hG3] at g3 p3 HJ HI;clear hG0 hG1 hG2 hG3 hlen HLS HP hcl
  go_wp2_with fail
  refine(nS G0 _ g0 (HG.out.bel HB.out)).mono ?_;rintro e w3 ⟨r0,rfl,o0,b3⟩;replace HK:=Jj (HK.out.below b3 HK.out.lt);replace HB:=Jj (aa HB.out b3);replace p1:=(b3.cell hbb).trans p1;replace p2:=(b3.cell hbb).trans p2;replace p3:=(b3.cell hbb).trans p3;replace hbb:=Jw hbb b3.size;clear b3 p0
  go_wp2_with fail
  refine(ec G1 _ g1 (HG.out.bel HB.out)).mono ?_;rintro e w4 ⟨r1,rfl,o1,b4⟩;replace HK:=Jj (HK.out.below b4 HK.out.lt);replace HB:=Jj (aa HB.out b4);replace p2:=(b4.cell hbb).trans p2;replace p3:=(b4.cell hbb).trans p3;replace hbb:=Jw hbb b4.size;replace o0:=o0.bel b4;clear b4 p1
  go_wp2_with fail
  refine(ec G2 _ g2 (HG.out.bel HB.out)).mono ?_;rintro e w5 ⟨r2,rfl,o2,b5⟩;replace HK:=Jj (HK.out.below b5 HK.out.lt);replace HB:=Jj (aa HB.out b5);replace p3:=(b5.cell hbb).trans p3;replace hbb:=Jw hbb b5.size;replace o0:=o0.bel b5;replace o1:=o1.bel b5;clear b5 p2
  go_wp2_with fail
  refine(ec G3 _ g3 (HG.out.bel HB.out)).mono ?_;rintro e w6 ⟨r3,rfl,o3,b6⟩;replace HK:=Jj (HK.out.below b6 HK.out.lt);replace HB:=Jj (aa HB.out b6);have O0:=Jj ((o0.bel b6).lower hz21);have O1:=Jj (o1.bel b6);have O2:=Jj (o2.bel b6);have O3:=Jj o3;clear b6 p3 o0 o1 o2 o3 hbb;obtain⟨A0,c0,rfl,-,-,-⟩:=O0.out.ints.open_;obtain⟨A1,c1,rfl,-,-,-⟩:=O1.out.ints.open_;obtain⟨A2,c2,rfl,-,-,-⟩:=O2.out.ints.open_;obtain⟨A3,c3,rfl,-,-,-⟩:=O3.out.ints.open_;obtain⟨L1,hL1⟩:∃L,spL G1=L:=⟨_,rfl⟩;obtain⟨L2,hL2⟩:∃L,spL G2=L:=⟨_,rfl⟩;obtain⟨L3,hL3⟩:∃L,spL G3=L:=⟨_,rfl⟩;have d1:=wZ G1;have d2:=wZ G2;have d3:=wZ G3;rw[hL1] at O1 HJ HI d1;rw[hL2] at O2 HJ HI d2;rw[hL3] at O3 HJ HI d3;have hJin:(imJ t).In:=by
   rw[HJ.out]
   constructor
   exact d1 0;exact d1 1;exact d1 2;exact d2 0;exact d2 1;exact d3 0;exact d3 1;exact d3 2
  have HJI:=Jj hJin;rw[hL1,hL2,hL3];clear hL1 hL2 hL3 d1 d2 d3 hJin;obtain⟨q0,hq0⟩:∃q,cP G0=q:=⟨_,rfl⟩;obtain⟨q1,hq1⟩:∃q,aE G1=q:=⟨_,rfl⟩;obtain⟨q2,hq2⟩:∃q,aE G2=q:=⟨_,rfl⟩;obtain⟨q3,hq3⟩:∃q,aE G3=q:=⟨_,rfl⟩;rw[hq0,hq1,hq2] at HI ⊢;rw[hq3] at HI ⊢;clear hq0 hq1 hq2 hq3;cases q0;have HR:=Jj (jv (t:=t) fun hh=>by have h:=HI.out.1 hh;exact Bool.noConfusion h.2.1)
  rotate_left
  cases q1;have HR:=Jj (jv (t:=t) fun hh=>by have h:=HI.out.1 hh;exact Bool.noConfusion h.2.2.1)
  rotate_left
  cases q2;have HR:=Jj (jv (t:=t) fun hh=>by have h:=HI.out.1 hh;exact Bool.noConfusion h.2.2.2.1)
  rotate_left
  cases q3;have HR:=Jj (jv (t:=t) fun hh=>by have h:=HI.out.1 hh;exact Bool.noConfusion h.2.2.2.2.1)
  rotate_left
  cases hd0:decide (L1.length=3);have hn0:¬L1.length=3:=of_decide_eq_false hd0;have HR:=Jj (jv (t:=t) fun hh=>by have h:=HI.out.1 hh;exact hn0 h.2.2.2.2.2.1);have hb0:((L1.length:Int)==3)=false:=by simp;omega
  have hi0:¬(L1.length:Int)=3:=by omega
  clear hd0
  rotate_left
  have hn0:L1.length=3:=of_decide_eq_true hd0;clear hd0;obtain⟨n1,rfl,v1,z1⟩:=F6 O1.out hn0;rw[hn0];have HN0:=Jj hn0;clear hn0;cases hd1:decide (L2.length=2);have hn1:¬L2.length=2:=of_decide_eq_false hd1;have HR:=Jj (jv (t:=t) fun hh=>by have h:=HI.out.1 hh;exact hn1 h.2.2.2.2.2.2.1);have hb1:((L2.length:Int)==2)=false:=by simp;omega
  have hi1:¬(L2.length:Int)=2:=by omega
  clear hd1
  rotate_left
  have hn1:L2.length=2:=of_decide_eq_true hd1;clear hd1;obtain⟨n2,rfl,v2,z2⟩:=I8 O2.out hn1;rw[hn1];have HN1:=Jj hn1;clear hn1;cases hd2:decide (L3.length=3);have hn2:¬L3.length=3:=of_decide_eq_false hd2;have HR:=Jj (jv (t:=t) fun hh=>by have h:=HI.out.1 hh;exact hn2 h.2.2.2.2.2.2.2.1);have hb2:((L3.length:Int)==3)=false:=by simp;omega
  have hi2:¬(L3.length:Int)=3:=by omega
  clear hd2
  rotate_left
  have hn2:L3.length=3:=of_decide_eq_true hd2;clear hd2;obtain⟨n3,rfl,v3,z3⟩:=F6 O3.out hn2;rw[hn2];have HN2:=Jj hn2;clear hn2
  ·skip
   obtain⟨i1,i2,i3⟩:=z1;obtain⟨i4,i5⟩:=z2;obtain⟨i6,i7,i8⟩:=z3;obtain⟨J,hJ⟩:∃J,J=imJ t:=⟨_,rfl⟩;have HSJ:=Jj hJ;rw[←hJ] at HJI HI;rw[HJ.out] at hJ;have e1:J.fr=at_ L1 0:=by rw[hJ]
   have e2:J.ct=at_ L1 1:=by rw[hJ]
   have e3:J.wd=at_ L1 2:=by rw[hJ]
   have e4:J.dg=at_ L2 0:=by rw[hJ]
   have e5:J.wy=at_ L2 1:=by rw[hJ]
   have e6:J.rw=at_ L3 0:=by rw[hJ]
   have e7:J.ac=at_ L3 1:=by rw[hJ]
   have e8:J.wi=at_ L3 2:=by rw[hJ]
   have e0:J.poly=ppL G0:=by rw[hJ]
   rw[←e1] at i1;rw[←e2] at i2;rw[←e3] at i3;rw[←e4] at i4;rw[←e5] at i5;rw[←e6] at i6;rw[←e7] at i7;rw[←e8] at i8;replace O0:=Jj (show Own w6 (w.heap.size+1) (.slice A0 J.poly.length c0) J.poly by rw[e0];exact O0.out);rw[←e0];clear hJ HJ e0 e1 e2 e3 e4 e5 e6 e7 e8 v1 v2 v3 O1 O2 O3
   go_wp2_with fail
   go_region_held3 (fun w'=>w'.cell? ⟨n1,0,none⟩=some (.int .i64 J.fr)∧w'.cell? ⟨n1,1,none⟩=some (.int .i64 J.ct)∧w'.cell? ⟨n1,2,none⟩=some (.int .i64 J.wd)∧w'.cell? ⟨n2,0,none⟩=some (.int .i64 J.dg)∧w'.cell? ⟨n2,1,none⟩=some (.int .i64 J.wy)∧w'.cell? ⟨n3,0,none⟩=some (.int .i64 J.rw)∧w'.cell? ⟨n3,1,none⟩=some (.int .i64 J.ac)∧w'.cell? ⟨n3,2,none⟩=some (.int .i64 J.wi)) (first|exact⟨i1,i2,i3,i4,i5,i6,i7,i8⟩|go_keep) (first|fail)
   rename_i hHeld
   clear hHeld i1 i2 i3 i4 i5 i6 i7 i8;have bA:Below w6.heap.size w6 (w6.alloc (.cells (aS (.slice A0 J.poly.length c0) J).toArray 97)).drew:=(ab w6 (.cells (aS (.slice A0 J.poly.length c0) J).toArray 97)).drew;have KJ:Blk (w6.alloc (.cells (aS (.slice A0 J.poly.length c0) J).toArray 97)).drew w6.heap.size 97 (aS (.slice A0 J.poly.length c0) J):=Blk.new w6 97 (aS (.slice A0 J.poly.length c0) J);replace HK:=Jj (HK.out.below bA HK.out.lt);replace HB:=Jj (aa HB.out bA);replace O0:=Jj (O0.out.bel bA);have HKJ:=Jj KJ;clear bA KJ;obtain⟨a0,a1,a2,a3,a4,a5,a6,a7,a8⟩:=HKJ.out.job
   go_wp2_with fail
   change Calls _ _ #[cr (.slice A0 J.poly.length c0) J] (w6.alloc (.cells (aS (.slice A0 J.poly.length c0) J).toArray 97)).drew _;clear a0 a1 a2 a3 a4 a5 a6 a7 a8;generalize hW:(w6.alloc (.cells (aS (.slice A0 J.poly.length c0) J).toArray 97)).drew=wa at HK HB O0 HKJ ⊢;clear hW;refine(qm _ J _ O0.out.ints HJI.out).mono ?_;rintro e w7 ⟨rfl,b7⟩;replace HK:=Jj (HK.out.below b7 HK.out.lt);replace HKJ:=Jj (HKJ.out.below b7 HKJ.out.lt);replace HB:=Jj (aa HB.out b7);replace O0:=Jj (O0.out.bel b7);clear b7;cases hq:bH J
   ·have HR:=Jj (jv (t:=t) fun hh=>by have h:=HI.out.1 hh;rw[hq] at h;exact Bool.noConfusion h.2.2.2.2.2.2.2.2);clear hq;obtain⟨c0',c1',c2',c3',c4',c5',c6',c7',c8'⟩:=HK.out.job;obtain⟨f0,f1,f2,f3,f4,f5,f6,f7,f8⟩:=HK.out.free
    go_wp2_with fail
    have KE:=fL [.slice none 0 0,.int .i64 0,.int .i64 0,.int .i64 0,.int .i64 0,.int .i64 0,.int .i64 0,.int .i64 0,.int .i64 0] _ _ 0 HK.out;have BE:=oP (g:=w.heap.size) (Jr _) [.slice none 0 0,.int .i64 0,.int .i64 0,.int .i64 0,.int .i64 0,.int .i64 0,.int .i64 0,.int .i64 0,.int .i64 0] _ 0 HB.out;clear c0' c1' c2' c3' c4' c5' c6' c7' c8' f0 f1 f2 f3 f4 f5 f6 f7 f8 ;change bodyPost _ _ _ _ _ (dA w7 w.heap.size 0 [.slice none 0 0,.int .i64 0,.int .i64 0,.int .i64 0,.int .i64 0,.int .i64 0,.int .i64 0,.int .i64 0,.int .i64 0]);generalize hW7:dA w7 w.heap.size 0 [.slice none 0 0,.int .i64 0,.int .i64 0,.int .i64 0,.int .i64 0,.int .i64 0,.int .i64 0,.int .i64 0,.int .i64 0]=W7 at KE BE ⊢;clear hW7;obtain⟨h0,h1,h2,h3,h4,h5,h6,h7,h8⟩:=Blk.job (v:=.slice none 0 0) (j:=cG) KE;refine bodyPost_ret (v:=.tuple #[cr (.slice none 0 0) cG,.bool false]) (by simp[cr,results,results227,go_sem,h0,h1,h2,h3,h4,h5,h6,h7,h8]) rfl ⟨⟨_,by rw[HR.out],by rw[HR.out];exact Own.nil_ _ _,by rw[HR.out];exact ml⟩,BE⟩
   ·have HR:=Jj (show spR t=(J,true) by rw[FG (HI.out.2 ⟨HLN.out,by first|rfl|trivial,by first|rfl|trivial,by first|rfl|trivial,by first|rfl|trivial,HN0.out,HN1.out,HN2.out,hq⟩),HSJ.out]);clear hq;obtain⟨c0',c1',c2',c3',c4',c5',c6',c7',c8'⟩:=HK.out.job;obtain⟨f0,f1,f2,f3,f4,f5,f6,f7,f8⟩:=HK.out.free;obtain⟨a0,a1,a2,a3,a4,a5,a6,a7,a8⟩:=HKJ.out.job
    go_wp2_with fail
    have KE:=fL [.slice A0 J.poly.length c0,.int .i64 J.fr,.int .i64 J.ct,.int .i64 J.wd,.int .i64 J.dg,.int .i64 J.wy,.int .i64 J.rw,.int .i64 J.ac,.int .i64 J.wi] _ _ 0 HK.out;have BE:=oP (g:=w.heap.size) (Jr _) [.slice A0 J.poly.length c0,.int .i64 J.fr,.int .i64 J.ct,.int .i64 J.wd,.int .i64 J.dg,.int .i64 J.wy,.int .i64 J.rw,.int .i64 J.ac,.int .i64 J.wi] _ 0 HB.out;have OE:=Fj (g:=w.heap.size) (Nat.lt_succ_self _) [.slice A0 J.poly.length c0,.int .i64 J.fr,.int .i64 J.ct,.int .i64 J.wd,.int .i64 J.dg,.int .i64 J.wy,.int .i64 J.rw,.int .i64 J.ac,.int .i64 J.wi] _ 0 O0.out;clear c0' c1' c2' c3' c4' c5' c6' c7' c8' f0 f1 f2 f3 f4 f5 f6 f7 f8 a0 a1 a2 a3 a4 a5 a6 a7 a8;change bodyPost _ _ _ _ _ (dA w7 w.heap.size 0 [.slice A0 J.poly.length c0,.int .i64 J.fr,.int .i64 J.ct,.int .i64 J.wd,.int .i64 J.dg,.int .i64 J.wy,.int .i64 J.rw,.int .i64 J.ac,.int .i64 J.wi]);generalize hW7:dA w7 w.heap.size 0 [.slice A0 J.poly.length c0,.int .i64 J.fr,.int .i64 J.ct,.int .i64 J.wd,.int .i64 J.dg,.int .i64 J.wy,.int .i64 J.rw,.int .i64 J.ac,.int .i64 J.wi]=W7 at KE BE OE ⊢;clear hW7;obtain⟨h0,h1,h2,h3,h4,h5,h6,h7,h8⟩:=Blk.job (v:=.slice A0 J.poly.length c0) (j:=J) KE;refine bodyPost_ret (v:=.tuple #[cr (.slice A0 J.poly.length c0) J,.bool true]) (by simp[cr,results,results227,go_sem,h0,h1,h2,h3,h4,h5,h6,h7,h8]) rfl ⟨⟨_,by rw[HR.out],by rw[HR.out];exact OE.lower (Nat.le_succ _),by rw[HR.out];exact HJI.out⟩,BE⟩
  all_goals
   obtain⟨c0',c1',c2',c3',c4',c5',c6',c7',c8'⟩:=HK.out.job;obtain⟨f0,f1,f2,f3,f4,f5,f6,f7,f8⟩:=HK.out.free
   go_wp2_with fail
   have KE:=fL [.slice none 0 0,.int .i64 0,.int .i64 0,.int .i64 0,.int .i64 0,.int .i64 0,.int .i64 0,.int .i64 0,.int .i64 0] _ _ 0 HK.out;have BE:=oP (g:=w.heap.size) (Jr _) [.slice none 0 0,.int .i64 0,.int .i64 0,.int .i64 0,.int .i64 0,.int .i64 0,.int .i64 0,.int .i64 0,.int .i64 0] _ 0 HB.out;clear c0' c1' c2' c3' c4' c5' c6' c7' c8' f0 f1 f2 f3 f4 f5 f6 f7 f8 ;change bodyPost _ _ _ _ _ (dA _ w.heap.size 0 [.slice none 0 0,.int .i64 0,.int .i64 0,.int .i64 0,.int .i64 0,.int .i64 0,.int .i64 0,.int .i64 0,.int .i64 0]);generalize hW7:dA _ w.heap.size 0 [.slice none 0 0,.int .i64 0,.int .i64 0,.int .i64 0,.int .i64 0,.int .i64 0,.int .i64 0,.int .i64 0,.int .i64 0]=W7 at KE BE ⊢;clear hW7;obtain⟨h0,h1,h2,h3,h4,h5,h6,h7,h8⟩:=Blk.job (v:=.slice none 0 0) (j:=cG) KE;refine bodyPost_ret (v:=.tuple #[cr (.slice none 0 0) cG,.bool false]) (by simp[cr,results,results227,go_sem,h0,h1,h2,h3,h4,h5,h6,h7,h8]) rfl ⟨⟨_,by rw[HR.out],by rw[HR.out];exact Own.nil_ _ _,by rw[HR.out];exact ml⟩,BE⟩
 ·have hlq:((ls.length:Int)==4)=false:=by simp;omega
  have hli:¬(ls.length:Int)=4:=by omega
  have HR:=Jj (r5 (t:=t) fun h=>hlen (by rw[←HLS.out];exact h.1));obtain⟨c0',c1',c2',c3',c4',c5',c6',c7',c8'⟩:=HK.out.job;obtain⟨f0,f1,f2,f3,f4,f5,f6,f7,f8⟩:=HK.out.free
  go_wp2_with fail
  have KE:=fL [.slice none 0 0,.int .i64 0,.int .i64 0,.int .i64 0,.int .i64 0,.int .i64 0,.int .i64 0,.int .i64 0,.int .i64 0] _ _ 0 HK.out;have BE:=oP (g:=w.heap.size) (Jr _) [.slice none 0 0,.int .i64 0,.int .i64 0,.int .i64 0,.int .i64 0,.int .i64 0,.int .i64 0,.int .i64 0,.int .i64 0] _ 0 HB.out;clear c0' c1' c2' c3' c4' c5' c6' c7' c8' f0 f1 f2 f3 f4 f5 f6 f7 f8 ;change bodyPost _ _ _ _ _ (dA w2 w.heap.size 0 [.slice none 0 0,.int .i64 0,.int .i64 0,.int .i64 0,.int .i64 0,.int .i64 0,.int .i64 0,.int .i64 0,.int .i64 0]);generalize hW7:dA w2 w.heap.size 0 [.slice none 0 0,.int .i64 0,.int .i64 0,.int .i64 0,.int .i64 0,.int .i64 0,.int .i64 0,.int .i64 0,.int .i64 0]=W7 at KE BE ⊢;clear hW7;obtain⟨h0,h1,h2,h3,h4,h5,h6,h7,h8⟩:=Blk.job (v:=.slice none 0 0) (j:=cG) KE;refine bodyPost_ret (v:=.tuple #[cr (.slice none 0 0) cG,.bool false]) (by simp[cr,results,results227,go_sem,h0,h1,h2,h3,h4,h5,h6,h7,h8]) rfl ⟨⟨_,by rw[HR.out],by rw[HR.out];exact Own.nil_ _ _,by rw[HR.out];exact ml⟩,BE⟩
theorem I7 {g:ByteArray} (h:cP g=true):ax (aN (aq 32 g) 8)=g:=by
 have h2:=(td h).2;unfold cP at h;rw[JB] at h;have h1:=dI h.1;rw[h1] at h;have h7:=me h.2;have e:ppL g=bg g:=by unfold ppL;rw[h1,ic h.2]
 have h8:aN (aq 32 g) 8=bg g:=n7 (by rw[lT];omega);rw[h8,←e];exact h2
theorem zi {p:List Int} (h:av p=true):Sm p∧p≠[]:=by
 obtain⟨p1,p7,hp⟩:=bf.1 h;refine⟨fun n hn=>?_,fun e=>by rw[e] at p1;simp at p1⟩;obtain⟨k,hk,rfl⟩:=List.getElem_of_mem hn;have:=hp k hk;rw[fi p k hk] at this;omega
theorem I6 {t:ByteArray} (h:cP t=false):ppL t=[]:=by
 unfold ppL;cases hq:av (spL t)
 ·exact nc hq
 ·unfold cP at h;rw[hq,Bool.and_true] at h;rw[xc h];exact nc (by decide)
theorem F9 (t:ByteArray):pH t=cP t∧spP t=ppL t:=by
 by_cases h:ax (aN (aq 32 t) 8)=t
 ·have hp:av (aN (aq 32 t) 8)=true:=by
   cases hq:av (aN (aq 32 t) 8)
   ·rw[mc hq] at h;subst h;exact absurd hq (by decide)
   ·rfl
  have h0:=h;obtain⟨L,hL⟩:∃L,aN (aq 32 t) 8=L:=⟨_,rfl⟩;rw[hL] at h hp;rw[fX hp] at h;obtain⟨k1,k2⟩:=kW (zi hp).2 (zi hp).1;rw[h] at k1 k2;have hk:cP t=true:=by unfold cP;rw[k1,dI k1,k2,hp];rfl
  exact⟨by rw[hk];exact decide_eq_true h0,(td hk).1⟩
 ·have hk:cP t=false:=by
   cases hq:cP t
   ·rfl
   ·exact absurd (I7 hq) h
  exact⟨by rw[hk];exact decide_eq_false h,by rw[IQ h,I6 hk]⟩
end Go.Proofs.YtfmjklgfpiffbaaGreatDoor
