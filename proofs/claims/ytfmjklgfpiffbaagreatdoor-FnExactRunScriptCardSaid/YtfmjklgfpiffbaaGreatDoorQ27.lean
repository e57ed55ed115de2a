/-
  Parts of the proof of one statement, merged: PjG PjH PjK PjL PjM EsP.
-/
import Derived.Lib.AtoiBound
import Derived.Test.YtfmjklgfpiffbaaGreatDoorQ25
namespace Go.Proofs.YtfmjklgfpiffbaaGreatDoor
open Go.RowKit Go.Proofs.Tryz
set_option linter.unusedVariables false
set_option linter.unusedSimpArgs false
set_option maxRecDepth 100000
set_option maxHeartbeats 8000000
attribute [local go_sem ↓] Go.wp_at_zero Go.wp_at_succ
def Glb (w:World):Prop:=Tab w∧(∃m:Int,w.cell? ⟨1,0,none⟩=some (.int .i64 m))∧∃(tp:TypeId) (p:Value),w.cell? ⟨5,0,none⟩=some (.iface tp p)
theorem Glb.bel {w w':World} (h:Glb w) (hb:Below w.heap.size w w'):Glb w':=by
 obtain⟨h1,⟨m,h2⟩,tp,p,h3⟩:=h
 exact⟨h1.bel hb,⟨m,(hb.cell (World.block_lt_of_cell? _ _ h2)).trans h2⟩,tp,p,(hb.cell (World.block_lt_of_cell? _ _ h3)).trans h3⟩
theorem DJ (l:List UInt8):l.length≤(Lib.trimPrefix l [45]).length+1:=by
 unfold Lib.trimPrefix
 split
 ·simp;omega
 ·omega
theorem CI {s:ByteArray} (h:17<(Lib.trimPrefix s.data.toList [45]).length):bp s=none:=by
 apply oQ
 intro n hn
 have:=(lY hn).2
 omega
theorem uB {s:ByteArray} (h:Lib.atoi s.data.toList=none):bp s=none:=by unfold bp jg;rw[h]
theorem BB {s:ByteArray} {n:Int} (hl:(Lib.trimPrefix s.data.toList [45]).length≤17) (h:Lib.atoi s.data.toList=some n):bp s=if aA n=s then some n else none:=by
 unfold bp jg
 rw[h]
 have e:(Lib.itoa n=s.data.toList∧(Lib.trimPrefix s.data.toList [45]).length≤17)↔aA n=s:=by
  constructor
  ·rintro⟨h1,-⟩
   unfold aA
   rw[h1]
  ·intro h1
   refine⟨?_,hl⟩
   rw[←h1]
   exact(fG _).symm
 simp only[e]
theorem CY {s:ByteArray} (h:(Lib.trimPrefix s.data.toList [45]).length≤17):s.size≤18:=by
 have:=DJ s.data.toList
 have e:s.data.toList.length=s.size:=rfl
 omega
theorem gJ {x y:ByteArray} (h:x≠y):(!x.toList==y.toList)=true:=by
 simp[ByteArray.toList_eq]
 intro e
 exact h (ByteArray.ext (by first|exact e|exact Array.toList_inj.1 e))
theorem jr (t:ByteArray) (w:World) (ht:t.size≤1048576) (hg:Glb w):
  Calls prog 119 #[.string t] w fun e w'=>cV t e∧Below w.heap.size w w':=by
 have HG:=Hy hg
 clear hg
 obtain⟨z,hz⟩:∃z:ByteArray,(⟨(Lib.trimPrefix t.data.toList [45]).toArray⟩:ByteArray)=z:=⟨_,rfl⟩
 have hzs:z.size=(Lib.trimPrefix t.data.toList [45]).length:=by rw[←hz];rfl
 have HZ:=Hy hzs
 have HZ0:=Hy hz
 clear hz hzs
 go_enter func119,ntmps119
 go_wp2_with fail
 refine(Tryz.strings_TrimPrefix t ⟨#[45]⟩ w).mono ?_
 rintro e w2 ⟨rfl,rfl⟩
 rw[show(⟨#[45]⟩:ByteArray).data.toList=[45] from rfl,HZ0.out]
 by_cases hl:17<z.size
 ·have HN:=Hy (CI (s:=t) (by rw[←HZ.out];exact hl))
  have hli:(17:Int)<(z.size:Int):=by omega
  go_wp2
  go_ret2
  exact⟨cV.bad HN.out,Below.refl _ _⟩
 ·have hl17:(Lib.trimPrefix t.data.toList [45]).length≤17:=by rw[←HZ.out];omega
  have h18:=CY hl17
  have hli:¬(17:Int)<(z.size:Int):=by omega
  have HL:=Hy hl17
  clear hl17
  cases ha:Lib.atoi t.data.toList with
  |none=>
   have HN:=Hy (uB ha)
   have HA:=Hy ha
   clear ha
   obtain⟨tp,p,hv⟩:=HG.out.2.2
   have HV:=Hy hv
   clear hv
   go_wp2_with fail
   refine(Tryz.strconv_Atoi_err t h18 HA.out _ w2 HV.out (.inr ⟨_,_,rfl⟩)).mono ?_
   rintro e w3 ⟨N,rfl,-,-,b⟩
   go_wp2
   go_ret2
   exact⟨cV.bad HN.out,b⟩
  |some n=>
   have HN:=Hy (BB HL.out ha)
   have hbd:=Lib.atoi_bound ha h18
   have HA:=Hy ha
   clear ha
   go_wp2_with fail
   refine(Tryz.strconv_Atoi t n h18 HA.out w2).mono ?_
   rintro e w3 ⟨rfl,tt,hw3⟩
   have b3:Below w2.heap.size w2 w3:=by rw[hw3];exact Lib.bytesWorld_below _ _ _
   have HB:=Hy b3
   clear b3 hw3
   go_wp2_with fail
   refine(fD n _ ⟨by omega,by omega⟩ (HG.out.1.bel HB.out)).mono ?_
   rintro e w4 ⟨rfl,b4⟩
   have HB4:=Hy (aa HB.out b4)
   clear b4
   obtain⟨T,hT⟩:∃T,aA n=T:=⟨_,rfl⟩
   rw[hT] at HN ⊢
   clear hT
   by_cases hq:T=t
   ·have HN2:=Hy (show bp t=some n by rw[HN.out,if_pos hq])
    have he:(!T.toList==t.toList)=false:=by rw[hq];simp
    clear hq
    go_wp2
    go_ret2
    exact⟨cV.good HN2.out,HB4.out⟩
   ·have HN2:=Hy (show bp t=none by rw[HN.out,if_neg hq])
    have he:=gJ hq
    clear hq
    go_wp2
    go_ret2
    exact⟨cV.bad HN2.out,HB4.out⟩
theorem FZ (c:UInt8) (s:ByteArray) (hs:s.size≤1048576):WfS (au c s):=by
 intro x hx
 have:=cT hx
 omega
theorem mh (s:ByteArray) (c:UInt8) (w:World) (hs:s.size≤1048576) (hg:Glb w):
  Calls prog 12 #[.string s,.string ⟨#[c]⟩] w fun e w'=>∃A,e=.returned (.slice A (au c s).length (au c s).length)∧ak w' w.heap.size (.slice A (au c s).length (au c s).length) (au c s)∧Below w.heap.size w w':=by
 obtain⟨m,hm⟩:=hg.2.1
 refine(Tryz.strings_Split s ⟨#[c]⟩ m w (by omega) hm (Ig _)).mono ?_
 rintro e w' ⟨rfl,rfl⟩
 rw[rl,←DT]
 have hl:=fi c s
 refine⟨_,rfl,ak.mk' (cs:=(au c s).map Value.string) (Ig _) (Blk.new w 9 _) (Ig _) (by omega) (by simp) (fun j hj=>?_) (FZ c s hs),ab _ _⟩
 rw[List.getElem?_map,List.getElem?_eq_getElem hj,bX _ _ hj]
 rfl
theorem aI (w:World) (b j:Nat) (u:Value):w.grownBy (w.setCell ⟨b,j,none⟩ u) (some b):=eL ⟨rfl,rfl,rfl,Ig _,fun _ _ _=>rfl⟩ (.inl rfl) u
def spL (t:ByteArray):List Int:=if aE t=true then bj t else[]
theorem dE {t:ByteArray} (h:aE t=true):spL t=bj t:=by simp[spL,h]
theorem uO {t:ByteArray} (h:aE t=false):spL t=[]:=by simp[spL,h]
theorem DS {ls:List ByteArray} {L:List Int} (hl:L.length=ls.length) (h:∀j,j<ls.length→at_ L j=cE (sat ls j)):L=ls.map cE:=by
 apply List.ext_getElem (by rw[hl,List.length_map])
 intro j h1 h2
 have:=h j (by omega)
 rw[bX ls j (by omega)] at this
 rw[List.getElem_map,←this]
 unfold at_
 rw[List.getD_eq_getElem?_getD,List.getElem?_eq_getElem h1]
 rfl
theorem dY (t:ByteArray) (w:World) (ht:t.size≤1048576) (hg:Glb w):
  Calls prog 55 #[.string t] w fun e w'=>∃r,e=.returned (.tuple #[r,.bool (aE t)])∧Own w' w.heap.size r (spL t)∧Below w.heap.size w w':=by
 have HG:=Hy hg
 go_enter func55,ntmps55
 go_wp2_with fail
 refine(mh t 32 _ ht hg).mono ?_
 rintro e w2 ⟨A,rfl,o,b⟩
 have HB:=Hy b
 have hcl:=fi 32 t
 obtain⟨ls,hls⟩:∃ls,au 32 t=ls:=⟨_,rfl⟩
 have HLS:=Hy hls
 rw[hls] at o hcl
 rw[hls]
 have HP:=Hy o
 have hmk:=fun W=>Tryz.mkInts ls.length (by omega) W
 have OZ:=Own.zeros w2 ls.length (by omega)
 have BZ:=aa b (ab w2 (.cells (bD ls.length (.int .i64 0)).toArray 3))
 have HPZ:=o.bel (ab w2 (.cells (bD ls.length (.int .i64 0)).toArray 3))
 have hz2:=b.size
 clear o b hls hg
 go_wp2_with fail
 generalize hW:w2.alloc (.cells (bD ls.length (.int .i64 0)).toArray 3)=w3 at *
 clear hW
 go_loopw [17] (fun i wr=>∃(k:Nat) (L:List Int),k≤ls.length∧i=.int .i64 k∧qq ls k∧L.length=ls.length∧(∀j,j<k→at_ L j=cE (sat ls j))∧Own wr w2.heap.size (.slice (some ⟨w2.heap.size,0,none⟩) ls.length ls.length) L∧ak wr w.heap.size (.slice A ls.length ls.length) ls∧Below w.heap.size w wr) (fun i _=>ls.length-(intOf i).toNat)
 case atStart=>exact⟨0,_,Ip _,rfl,fun j hj=>absurd hj (Nat.not_lt_zero _),ix _,fun j hj=>absurd hj (Nat.not_lt_zero _),OZ,HPZ,BZ⟩
 case round=>
  obtain⟨k,L,hk,rfl,hok,hL,hat,hO,hP,hB⟩:=hrel
  have H:=Hy (Ie hok (Ie hat (Ie hO (Ie hP hB))))
  have HLL:=Hy hL
  have hz:=hB.size
  clear hok hat hO hP hB hL OZ HPZ BZ
  by_cases hkl:k<ls.length
  ·obtain⟨A6,c6,e6,-,-,hrd⟩:=H.out.2.2.2.1.strs.open_
   cases e6
   obtain⟨b,o,rfl,hbb,hcell⟩:=hrd.strs (Nat.lt_of_le_of_lt (Ip _) hkl)
   have hck:=hcell k hkl
   have hss:(sat ls k).size≤1048576:=Ih (cT (c:=32) (s:=t) (by rw[HLS.out];exact cY ls k hkl)) ht
   have hbd:=fM (sat ls k)
   have HNO:=Hy (xU hkl)
   have HOS:=Hy (fun hq=>oE H.out.1 hq)
   obtain⟨Z,hZ⟩:∃Z,sat ls k=Z:=⟨_,rfl⟩
   rw[hZ] at hck hss hbd HNO HOS
   replace hZ:=Hy hZ
   clear hcell hrd
   go_wp2_with fail
   refine(jr Z _ hss (HG.out.bel H.out.2.2.2.2)).mono ?_
   rintro e w4 ⟨he,b4⟩
   unfold cV at he
   subst he
   have HB4:=Hy (aa H.out.2.2.2.2 b4)
   have HO4:=Hy (H.out.2.2.1.bel b4)
   have HP4:=Hy (H.out.2.2.2.1.bel b4)
   clear b4 hck
   obtain⟨z,hz3⟩:∃z,cE Z=z:=⟨_,rfl⟩
   rw[hz3] at hbd
   rw[hz3]
   replace hz3:=Hy hz3
   cases hq:(bp Z).isSome
   ·have HE:=Hy (show aE t=false from by
     have:=HNO.out hq
     unfold aE
     rw[HLS.out]
     exact Bool.eq_false_iff.2 this)
    go_wp2
    go_ret2
    exact⟨_,by rw[HE.out];rfl,by rw[uO HE.out];exact Own.nil_ _ _,HB4.out⟩
   ·have HQ:=Hy (HOS.out hq)
    obtain⟨g9,c9,e9,-,-,-,-,h9⟩:=HO4.out.openN (by rw[HLL.out];omega)
    injection e9 with e1 e2 e3
    injection e1 with e1
    injection e1 with e1
    subst e1
    clear e2 e3
    obtain⟨f0,f1⟩:=h9 k (by rw[HLL.out];exact hkl)
    have hne:=Hy (show ∀q,(Value.slice (some ⟨b,o,none⟩) ls.length ls.length).ownBlock=some q→(Value.slice (some ⟨w2.heap.size,0,none⟩) ls.length ls.length).ownBlock≠some q from fun q hq e=>by
     have h1:=(HP.out.lt q hq).2
     have h2:w2.heap.size=q:=It e
     omega)
    clear h9
    go_wp2
    go_roundw
    case rel=>
     refine⟨k+1,L.set k z,hkl,by go_num,HQ.out,by rw[List.length_set];exact HLL.out,fun j hj=>?_,HO4.out.set_ k z (by rw[HLL.out];exact hkl) ⟨by omega,by omega⟩,HP4.out.apart (u:=.slice (some ⟨w2.heap.size,0,none⟩) ls.length ls.length) (aI _ _ _ _) hne.out,HB4.out.setCell hz2 _⟩
     rw[qB j (by rw[HLL.out];exact hkl)]
     by_cases e:j=k
     ·rw[if_pos e,e,hZ.out,hz3.out]
     ·rw[if_neg e];exact H.out.2.1 j (by omega)
    case measure=>simp[intOf];omega
  ·have hke:k=ls.length:=by omega
   subst hke
   have HE:=Hy (show aE t=true by unfold aE;rw[HLS.out];exact qu H.out.1)
   have HV:=Hy (show bj t=L by unfold bj;rw[HLS.out];exact(DS HLL.out H.out.2.1).symm)
   go_wp2
   go_ret2
   exact⟨_,by rw[HE.out];rfl,by rw[dE HE.out,HV.out];exact H.out.2.2.1.lower hz2,H.out.2.2.2.2⟩
def ppL (t:ByteArray):List Int:=gM (spL t)
def cS (t:ByteArray):Bool:=aE t&&ar (spL t)
theorem nw (t:ByteArray) (w:World) (ht:t.size≤1048576) (hg:Glb w):
  Calls prog 134 #[.string t] w fun e w'=>∃r,e=.returned (.tuple #[r,.bool (cS t)])∧Own w' w.heap.size r (ppL t)∧Below w.heap.size w w':=by
 go_enter func134,ntmps134
 go_wp2_with fail
 refine(dY t w ht hg).mono ?_
 rintro e w2 ⟨r,rfl,o,b⟩
 have HO:=Hy o
 have HB:=Hy b
 obtain⟨A,c,rfl,-,-,-⟩:=o.ints.open_
 clear o b
 cases hq:aE t
 ·have HE:=Hy (show cS t=false by unfold cS;rw[hq];rfl)
  have HL:=Hy (show ppL t=[] by unfold ppL;rw[uO hq];rfl)
  go_wp2
  go_ret2
  exact⟨_,by rw[HE.out];rfl,by rw[HL.out];exact Own.nil_ _ _,HB.out⟩
 ·have HE:=Hy (show cS t=ar (spL t) by unfold cS;rw[hq];rfl)
  go_wp2_with fail
  refine(gA _ (spL t) _ HO.out.ints).mono ?_
  rintro e w3 ⟨rfl,rfl⟩
  have HC:=Hy HO.out.chk
  obtain⟨v,hv⟩:∃v,ni (spL t) (.slice A (spL t).length c)=v:=⟨_,rfl⟩
  rw[hv] at HC ⊢
  clear hv
  go_wp2
  go_ret2
  exact⟨_,by rw[HE.out];rfl,HC.out,HB.out⟩
def grp (t:ByteArray) (i:Nat):ByteArray:=sat (au 59 t) i
def spJ (t:ByteArray):cm:=⟨spP (grp t 0),at_ (bu (grp t 1) 3) 0,at_ (bu (grp t 1) 3) 1,at_ (bu (grp t 1) 3) 2,at_ (bu (grp t 2) 2) 0,at_ (bu (grp t 2) 2) 1,at_ (bu (grp t 3) 3) 0,at_ (bu (grp t 3) 3) 1,at_ (bu (grp t 3) 3) 2⟩
open Classical in
noncomputable def spR (t:ByteArray):cm×Bool:=if (au 59 t).length=4∧lO (spJ t)=t then(spJ t,true) else(bM,false)
theorem ye {t:ByteArray} (h:(au 59 t).length=4) (h2:lO (spJ t)=t):spR t=(spJ t,true):=by unfold spR;rw[if_pos ⟨h,h2⟩]
theorem rB {t:ByteArray} (h:¬((au 59 t).length=4∧lO (spJ t)=t)):spR t=(bM,false):=by unfold spR;rw[if_neg h]
theorem ii {t:ByteArray} (ht:t.size≤1048576) (h:(au 59 t).length=4) {i:Nat} (hi:i<4):(grp t i).size≤1048576:=Ih (cT (c:=59) (s:=t) (cY _ i (by omega))) ht
def GR (w:World) (base:Nat) (R:cm×Bool) (e:Ending):Prop:=∃v,e=.returned (.tuple #[bE v R.1,.bool R.2])∧Own w base v R.1.poly∧R.1.In
theorem eU:bM.In:=by constructor <;> (unfold bM;simp)
theorem ua {l:List Int} (h:Sm l) (i:Nat) : -100000000000000000<at_ l i∧at_ l i<100000000000000000:=by
 unfold at_
 rw[List.getD_eq_getElem?_getD]
 cases hq:l[i]? with
 |none=>simp
 |some x=>exact h x (List.mem_of_getElem? hq)
theorem DX (t:ByteArray) (n:Nat):Sm (bu t n):=by
 unfold bu
 split
 ·exact qj t
 ·intro x hx
  obtain⟨_,_,rfl⟩:=List.mem_map.1 hx
  omega
theorem uC (t:ByteArray) (n i:Nat) : -9223372036854775808≤at_ (bu t n) i∧at_ (bu t n) i≤9223372036854775807:=by
 have:=ua (DX t n) i
 omega
theorem CG {w:World} {A:Option Addr} {c:Nat} {ls:List ByteArray} (h:aG w (.slice A ls.length c) ls) (hl:ls.length=4):∃b o,A=some ⟨b,o,none⟩∧b<w.heap.size ∧
  (w.cell? ⟨b,o,none⟩=some (.string (sat ls 0))∧w.cell? ⟨b,o+1,none⟩=some (.string (sat ls 1))∧w.cell? ⟨b,o+2,none⟩=some (.string (sat ls 2))∧w.cell? ⟨b,o+3,none⟩=some (.string (sat ls 3))):=by
 obtain⟨A6,c6,e6,-,-,hrd⟩:=h.open_
 injection e6 with e1 e2 e3
 subst e1
 obtain⟨b,o,e,hb,hc⟩:=hrd.strs (by omega)
 exact⟨b,o,e,hb,hc 0 (by omega),hc 1 (by omega),hc 2 (by omega),hc 3 (by omega)⟩
theorem Dx {w:World} {base:Nat} {v:Value} {l:List Int} (h:Own w base v l) (hl:l.length=3):∃b c,v=.slice (some ⟨b,0,none⟩) 3 c∧base≤b∧b<w.heap.size∧3≤c ∧
  (w.cell? ⟨b,0,none⟩=some (.int .i64 (at_ l 0))∧w.cell? ⟨b,1,none⟩=some (.int .i64 (at_ l 1))∧w.cell? ⟨b,2,none⟩=some (.int .i64 (at_ l 2))):=by
 obtain⟨b,c,rfl,h1,h2,h3,h4,hc⟩:=h.openN (by omega)
 rw[hl] at h3 ⊢
 exact⟨b,c,rfl,h1,h2,h3,(hc 0 (by omega)).1,(hc 1 (by omega)).1,(hc 2 (by omega)).1⟩
theorem GV {w:World} {base:Nat} {v:Value} {l:List Int} (h:Own w base v l) (hl:l.length=2):∃b c,v=.slice (some ⟨b,0,none⟩) 2 c∧base≤b∧b<w.heap.size∧2≤c ∧
  (w.cell? ⟨b,0,none⟩=some (.int .i64 (at_ l 0))∧w.cell? ⟨b,1,none⟩=some (.int .i64 (at_ l 1))):=by
 obtain⟨b,c,rfl,h1,h2,h3,h4,hc⟩:=h.openN (by omega)
 rw[hl] at h3 ⊢
 exact⟨b,c,rfl,h1,h2,h3,(hc 0 (by omega)).1,(hc 1 (by omega)).1⟩
theorem CH {w w':World} {b:Nat} {x y z:Value} (h:w.cell? ⟨b,0,none⟩=some x∧w.cell? ⟨b,1,none⟩=some y∧w.cell? ⟨b,2,none⟩=some z) (hl:b<w.heap.size) (hb:Below w.heap.size w w'):w'.cell? ⟨b,0,none⟩=some x∧w'.cell? ⟨b,1,none⟩=some y∧w'.cell? ⟨b,2,none⟩=some z:=
 ⟨(hb.cell hl).trans h.1,(hb.cell hl).trans h.2.1,(hb.cell hl).trans h.2.2⟩
theorem Gn {w w':World} {b:Nat} {x y:Value} (h:w.cell? ⟨b,0,none⟩=some x∧w.cell? ⟨b,1,none⟩=some y) (hl:b<w.heap.size) (hb:Below w.heap.size w w'):w'.cell? ⟨b,0,none⟩=some x∧w'.cell? ⟨b,1,none⟩=some y:=
 ⟨(hb.cell hl).trans h.1,(hb.cell hl).trans h.2⟩
theorem zW (t:ByteArray) (w:World) (ht:t.size≤1048576):
  Calls prog 82 #[.string t] w fun e w'=>GR w' w.heap.size (spR t) e∧Below w.heap.size w w':=by
 have K0:=Blk.new w 97 (bh (.slice none 0 0) bM)
 have B0:=ab w (.cells (bh (.slice none 0 0) bM).toArray 97)
 go_enter func82,ntmps82
 go_wp2_with fail
 change Calls _ _ _ (w.alloc (.cells (bh (.slice none 0 0) bM).toArray 97)) _
 generalize hW:w.alloc (.cells (bh (.slice none 0 0) bM).toArray 97)=w1 at *
 have hz1:w1.heap.size=w.heap.size+1:=by rw[←hW];simp
 clear hW
 refine(ik t 59 _ ht).mono ?_
 rintro e w2 ⟨r,rfl,o,b⟩
 have hz21:w.heap.size+1≤w2.heap.size:=by rw[←hz1];exact b.size
 replace K0:=K0.below b K0.lt
 have HB:=Hy (aa B0 b)
 have HP:=Hy o.strs
 have hcl:=fi 59 t
 obtain⟨ls,hls⟩:∃ls,au 59 t=ls:=⟨_,rfl⟩
 have HLS:=Hy hls
 rw[hls] at HP hcl
 obtain⟨A,c,rfl,hlc,-,-⟩:=HP.out.open_
 clear B0 o b hls
 by_cases hlen:ls.length=4
 ·have HLN:=Hy (show(au 59 t).length=4 by rw[HLS.out];exact hlen)
  have g0:(sat ls 0).size≤1048576:=by rw[←HLS.out];exact ii ht HLN.out (i:=0) (by omega)
  have g1:(sat ls 1).size≤1048576:=by rw[←HLS.out];exact ii ht HLN.out (i:=1) (by omega)
  have g2:(sat ls 2).size≤1048576:=by rw[←HLS.out];exact ii ht HLN.out (i:=2) (by omega)
  have g3:(sat ls 3).size≤1048576:=by rw[←HLS.out];exact ii ht HLN.out (i:=3) (by omega)
  obtain⟨b,o,rfl,hbb,p0,p1,p2,p3⟩:=CG HP.out hlen
  rw[hlen] at HP hlc ⊢
  have HJ:=Hy (show spJ t=⟨spP (sat ls 0),at_ (bu (sat ls 1) 3) 0,at_ (bu (sat ls 1) 3) 1,at_ (bu (sat ls 1) 3) 2,at_ (bu (sat ls 2) 2) 0,at_ (bu (sat ls 2) 2) 1,at_ (bu (sat ls 3) 3) 0,at_ (bu (sat ls 3) 3) 1,at_ (bu (sat ls 3) 3) 2⟩ by unfold spJ grp;rw[HLS.out])
  obtain⟨G0,hG0⟩:∃G,sat ls 0=G:=⟨_,rfl⟩
  obtain⟨G1,hG1⟩:∃G,sat ls 1=G:=⟨_,rfl⟩
  obtain⟨G2,hG2⟩:∃G,sat ls 2=G:=⟨_,rfl⟩
  obtain⟨G3,hG3⟩:∃G,sat ls 3=G:=⟨_,rfl⟩
  rw[hG0] at g0 p0 HJ
  rw[hG1] at g1 p1 HJ
  rw[hG2] at g2 p2 HJ
  rw[hG3] at g3 p3 HJ
  have hl1:=ph G1 3
  have hl2:=ph G2 2
  have hl3:=ph G3 3
  clear hG0 hG1 hG2 hG3 hlen HLS HP hcl
  go_wp2_with fail
  refine(zw G0 _ g0).mono ?_
  rintro e w3 ⟨r0,x0,rfl,o0,b3⟩
  replace K0:=K0.below b3 K0.lt
  replace HB:=Hy (aa HB.out b3)
  replace p1:=(b3.cell hbb).trans p1
  replace p2:=(b3.cell hbb).trans p2
  replace p3:=(b3.cell hbb).trans p3
  replace hbb:=Im hbb b3.size
  clear b3 p0
  go_wp2_with fail
  refine(k9 G1 3 _ g1 (by omega)).mono ?_
  rintro e w4 ⟨r1,x1,rfl,o1,b4⟩
  replace K0:=K0.below b4 K0.lt
  replace HB:=Hy (aa HB.out b4)
  replace p2:=(b4.cell hbb).trans p2
  replace p3:=(b4.cell hbb).trans p3
  replace hbb:=Im hbb b4.size
  replace o0:=o0.bel b4
  obtain⟨n1,m1,rfl,y1,u1,v1,q1⟩:=Dx o1 hl1
  clear b4 p1 o1
  go_wp2_with fail
  refine(k9 G2 2 _ g2 (by omega)).mono ?_
  rintro e w5 ⟨r2,x2,rfl,o2,b5⟩
  replace K0:=K0.below b5 K0.lt
  replace HB:=Hy (aa HB.out b5)
  replace p3:=(b5.cell hbb).trans p3
  replace hbb:=Im hbb b5.size
  replace o0:=o0.bel b5
  replace q1:=CH q1 u1 b5
  replace u1:=Im u1 b5.size
  obtain⟨n2,m2,rfl,y2,u2,v2,q2⟩:=GV o2 hl2
  clear b5 p2 o2
  go_wp2_with fail
  refine(k9 G3 3 _ g3 (by omega)).mono ?_
  rintro e w6 ⟨r3,x3,rfl,o3,b6⟩
  replace K0:=K0.below b6 K0.lt
  replace HB:=Hy (aa HB.out b6)
  replace o0:=o0.bel b6
  replace q1:=CH q1 u1 b6
  replace u1:=Im u1 b6.size
  replace q2:=Gn q2 u2 b6
  replace u2:=Im u2 b6.size
  obtain⟨n3,m3,rfl,y3,u3,v3,q3⟩:=Dx o3 hl3
  clear b6 p3 o3
  obtain⟨A0,c0,rfl,-,-,-⟩:=o0.ints.open_
  have O0:=Hy (o0.lower hz21)
  obtain⟨i1,i2,i3⟩:=q1
  obtain⟨i4,i5⟩:=q2
  obtain⟨i6,i7,i8⟩:=q3
  clear o0
  obtain⟨J,hJ⟩:∃J,J=spJ t:=⟨_,rfl⟩
  have hJin:J.In:=by
   rw[hJ,HJ.out]
   constructor <;> exact uC _ _ _
  rw[HJ.out] at hJ
  have e1:J.fr=at_ (bu G1 3) 0:=by rw[hJ]
  have e2:J.ct=at_ (bu G1 3) 1:=by rw[hJ]
  have e3:J.wd=at_ (bu G1 3) 2:=by rw[hJ]
  have e4:J.dg=at_ (bu G2 2) 0:=by rw[hJ]
  have e5:J.wy=at_ (bu G2 2) 1:=by rw[hJ]
  have e6:J.rw=at_ (bu G3 3) 0:=by rw[hJ]
  have e7:J.ac=at_ (bu G3 3) 1:=by rw[hJ]
  have e8:J.wi=at_ (bu G3 3) 2:=by rw[hJ]
  have e0:J.poly=spP G0:=by rw[hJ]
  have HSJ:=Hy (show spJ t=J by rw[HJ.out,hJ])
  have hz6:w.heap.size+1≤w2.heap.size:=hz21
  have HJI:=Hy hJin
  rw[←e1] at i1
  rw[←e2] at i2
  rw[←e3] at i3
  rw[←e4] at i4
  rw[←e5] at i5
  rw[←e6] at i6
  rw[←e7] at i7
  rw[←e8] at i8
  replace O0:=Hy (show Own w6 (w.heap.size+1) (.slice A0 J.poly.length c0) J.poly by rw[e0];exact O0.out)
  rw[←e0]
  have HK:=Hy K0
  clear K0 hJ HJ e0 e1 e2 e3 e4 e5 e6 e7 e8 hJin hl1 hl2 hl3 y1 y2 y3 v1 v2 v3 hlc hz6
  go_wp2_with fail
  go_region_held3 (fun w'=>w'.cell? ⟨n1,0,none⟩=some (.int .i64 J.fr)∧w'.cell? ⟨n1,1,none⟩=some (.int .i64 J.ct)∧w'.cell? ⟨n1,2,none⟩=some (.int .i64 J.wd)∧w'.cell? ⟨n2,0,none⟩=some (.int .i64 J.dg)∧w'.cell? ⟨n2,1,none⟩=some (.int .i64 J.wy)∧w'.cell? ⟨n3,0,none⟩=some (.int .i64 J.rw)∧w'.cell? ⟨n3,1,none⟩=some (.int .i64 J.ac)∧w'.cell? ⟨n3,2,none⟩=some (.int .i64 J.wi)) (first|exact⟨i1,i2,i3,i4,i5,i6,i7,i8⟩|go_keep) (first|fail)
  rename_i hHeld
  clear hHeld i1 i2 i3 i4 i5 i6 i7 i8
  have bA:Below w6.heap.size w6 (w6.alloc (.cells (bh (.slice A0 J.poly.length c0) J).toArray 97)).drew:=(ab w6 (.cells (bh (.slice A0 J.poly.length c0) J).toArray 97)).drew
  have KJ:Blk (w6.alloc (.cells (bh (.slice A0 J.poly.length c0) J).toArray 97)).drew w6.heap.size 97 (bh (.slice A0 J.poly.length c0) J):=Blk.new w6 97 (bh (.slice A0 J.poly.length c0) J)
  replace HK:=Hy (HK.out.below bA HK.out.lt)
  replace HB:=Hy (aa HB.out bA)
  replace O0:=Hy (O0.out.bel bA)
  have HKJ:=Hy KJ
  have HKJ2:=KJ
  clear bA KJ
  obtain⟨a0,a1,a2,a3,a4,a5,a6,a7,a8⟩:=HKJ2.job
  clear HKJ2
  go_wp2_with fail
  change Calls _ _ #[bE (.slice A0 J.poly.length c0) J] (w6.alloc (.cells (bh (.slice A0 J.poly.length c0) J).toArray 97)).drew _
  clear a0 a1 a2 a3 a4 a5 a6 a7 a8
  generalize hW:(w6.alloc (.cells (bh (.slice A0 J.poly.length c0) J).toArray 97)).drew=wa at HK HB O0 HKJ ⊢
  clear hW
  refine(wZ _ J _ O0.out.ints HJI.out).mono ?_
  rintro e w7 ⟨rfl,b7⟩
  replace HK:=Hy (HK.out.below b7 HK.out.lt)
  replace HKJ:=Hy (HKJ.out.below b7 HKJ.out.lt)
  replace HB:=Hy (aa HB.out b7)
  replace O0:=Hy (O0.out.bel b7)
  clear b7
  obtain⟨T,hT⟩:∃T,lO J=T:=⟨_,rfl⟩
  rw[hT]
  replace hT:=Hy hT
  obtain⟨c0',c1,c2,c3,c4,c5,c6,c7,c8⟩:=HK.out.job
  obtain⟨f0,f1,f2,f3,f4,f5,f6,f7,f8⟩:=HK.out.free
  by_cases hq:T=t
  ·have he:(!T.toList==t.toList)=false:=by rw[hq];simp
   have HR:=Hy (show spR t=(J,true) by rw[ye HLN.out (by rw[HSJ.out,hT.out,hq]),HSJ.out])
   clear hq
   obtain⟨a0,a1,a2,a3,a4,a5,a6,a7,a8⟩:=HKJ.out.job
   go_wp2_with fail
   have KE:=eb [.slice A0 J.poly.length c0,.int .i64 J.fr,.int .i64 J.ct,.int .i64 J.wd,.int .i64 J.dg,.int .i64 J.wy,.int .i64 J.rw,.int .i64 J.ac,.int .i64 J.wi] _ _ 0 HK.out
   have BE:=jz (g:=w.heap.size) (Ig _) [.slice A0 J.poly.length c0,.int .i64 J.fr,.int .i64 J.ct,.int .i64 J.wd,.int .i64 J.dg,.int .i64 J.wy,.int .i64 J.rw,.int .i64 J.ac,.int .i64 J.wi] _ 0 HB.out
   have OE:=EA (g:=w.heap.size) (Nat.lt_succ_self _) [.slice A0 J.poly.length c0,.int .i64 J.fr,.int .i64 J.ct,.int .i64 J.wd,.int .i64 J.dg,.int .i64 J.wy,.int .i64 J.rw,.int .i64 J.ac,.int .i64 J.wi] _ 0 O0.out
   clear c0' c1 c2 c3 c4 c5 c6 c7 c8 f0 f1 f2 f3 f4 f5 f6 f7 f8 a0 a1 a2 a3 a4 a5 a6 a7 a8
   change bodyPost _ _ _ _ _ (dx w7 w.heap.size 0 [.slice A0 J.poly.length c0,.int .i64 J.fr,.int .i64 J.ct,.int .i64 J.wd,.int .i64 J.dg,.int .i64 J.wy,.int .i64 J.rw,.int .i64 J.ac,.int .i64 J.wi])
   generalize hW7:dx w7 w.heap.size 0 [.slice A0 J.poly.length c0,.int .i64 J.fr,.int .i64 J.ct,.int .i64 J.wd,.int .i64 J.dg,.int .i64 J.wy,.int .i64 J.rw,.int .i64 J.ac,.int .i64 J.wi]=W7 at KE BE OE ⊢
   clear hW7
   obtain⟨h0,h1,h2,h3,h4,h5,h6,h7,h8⟩:=Blk.job (v:=.slice A0 J.poly.length c0) (j:=J) KE
   refine bodyPost_ret (v:=.tuple #[bE (.slice A0 J.poly.length c0) J,.bool true]) (by simp[bE,results,results82,go_sem,h0,h1,h2,h3,h4,h5,h6,h7,h8]) rfl ⟨⟨_,by rw[HR.out],by rw[HR.out];exact OE.lower (Nat.le_succ _),by rw[HR.out];exact HJI.out⟩,BE⟩
  ·have he:=vA hq
   have HR:=Hy (rB (t:=t) fun h=>hq (by rw[←h.2,HSJ.out,hT.out]))
   clear hq
   go_wp2_with fail
   have KE:=eb [.slice none 0 0,.int .i64 0,.int .i64 0,.int .i64 0,.int .i64 0,.int .i64 0,.int .i64 0,.int .i64 0,.int .i64 0] _ _ 0 HK.out
   have BE:=jz (g:=w.heap.size) (Ig _) [.slice none 0 0,.int .i64 0,.int .i64 0,.int .i64 0,.int .i64 0,.int .i64 0,.int .i64 0,.int .i64 0,.int .i64 0] _ 0 HB.out
   clear c0' c1 c2 c3 c4 c5 c6 c7 c8 f0 f1 f2 f3 f4 f5 f6 f7 f8
   change bodyPost _ _ _ _ _ (dx w7 w.heap.size 0 [.slice none 0 0,.int .i64 0,.int .i64 0,.int .i64 0,.int .i64 0,.int .i64 0,.int .i64 0,.int .i64 0,.int .i64 0])
   generalize hW7:dx w7 w.heap.size 0 [.slice none 0 0,.int .i64 0,.int .i64 0,.int .i64 0,.int .i64 0,.int .i64 0,.int .i64 0,.int .i64 0,.int .i64 0]=W7 at KE BE ⊢
   clear hW7
   obtain⟨h0,h1,h2,h3,h4,h5,h6,h7,h8⟩:=Blk.job (v:=.slice none 0 0) (j:=bM) KE
   refine bodyPost_ret (v:=.tuple #[bE (.slice none 0 0) bM,.bool false]) (by simp[bE,results,results82,go_sem,h0,h1,h2,h3,h4,h5,h6,h7,h8]) rfl ⟨⟨_,by rw[HR.out],by rw[HR.out];exact Own.nil_ _ _,by rw[HR.out];exact eU⟩,BE⟩
 ·have hlq:((ls.length:Int)==4)=false:=by simp;omega
  have hli:¬(ls.length:Int)=4:=by omega
  have HR:=Hy (rB (t:=t) fun h=>hlen (by rw[←HLS.out];exact h.1))
  have HK:=Hy K0
  obtain⟨c0,c1,c2,c3,c4,c5,c6,c7,c8⟩:=K0.job
  obtain⟨f0,f1,f2,f3,f4,f5,f6,f7,f8⟩:=K0.free
  clear K0
  go_wp2_with fail
  have KE:=eb [.slice none 0 0,.int .i64 0,.int .i64 0,.int .i64 0,.int .i64 0,.int .i64 0,.int .i64 0,.int .i64 0,.int .i64 0] _ _ 0 HK.out
  have BE:=jz (g:=w.heap.size) (Ig _) [.slice none 0 0,.int .i64 0,.int .i64 0,.int .i64 0,.int .i64 0,.int .i64 0,.int .i64 0,.int .i64 0,.int .i64 0] _ 0 HB.out
  clear c0 c1 c2 c3 c4 c5 c6 c7 c8 f0 f1 f2 f3 f4 f5 f6 f7 f8
  change bodyPost _ _ _ _ _ (dx w2 w.heap.size 0 [.slice none 0 0,.int .i64 0,.int .i64 0,.int .i64 0,.int .i64 0,.int .i64 0,.int .i64 0,.int .i64 0,.int .i64 0])
  generalize hW7:dx w2 w.heap.size 0 [.slice none 0 0,.int .i64 0,.int .i64 0,.int .i64 0,.int .i64 0,.int .i64 0,.int .i64 0,.int .i64 0,.int .i64 0]=W7 at KE BE ⊢
  clear hW7
  obtain⟨h0,h1,h2,h3,h4,h5,h6,h7,h8⟩:=Blk.job (v:=.slice none 0 0) (j:=bM) KE
  refine bodyPost_ret (v:=.tuple #[bE (.slice none 0 0) bM,.bool false]) (by simp[bE,results,results82,go_sem,h0,h1,h2,h3,h4,h5,h6,h7,h8]) rfl ⟨⟨_,by rw[HR.out],by rw[HR.out];exact Own.nil_ _ _,by rw[HR.out];exact eU⟩,BE⟩
end Go.Proofs.YtfmjklgfpiffbaaGreatDoor
namespace Go.Proofs.YtfmjklgfpiffbaaGreatDoor
open Go.RowKit Go.Proofs.Tryz
set_option linter.unusedVariables false
set_option linter.unusedSimpArgs false
set_option maxRecDepth 100000
set_option maxHeartbeats 8000000
def imJ (t:ByteArray):cm:=⟨ppL (grp t 0),at_ (spL (grp t 1)) 0,at_ (spL (grp t 1)) 1,at_ (spL (grp t 1)) 2,at_ (spL (grp t 2)) 0,at_ (spL (grp t 2)) 1,at_ (spL (grp t 3)) 0,at_ (spL (grp t 3)) 1,at_ (spL (grp t 3)) 2⟩
def sj (t:ByteArray):Prop:=(au 59 t).length=4∧cS (grp t 0)=true∧aE (grp t 1)=true∧aE (grp t 2)=true∧aE (grp t 3)=true∧(spL (grp t 1)).length=3∧(spL (grp t 2)).length=2∧(spL (grp t 3)).length=3∧bQ (imJ t)=true
theorem Hi {l:List ByteArray} (h:l.length=4):l=[sat l 0,sat l 1,sat l 2,sat l 3]:=by
 match l,h with
 |[a,b,c,d],_=>rfl
theorem Bp {l:List Int} (h:l.length=3):[at_ l 0,at_ l 1,at_ l 2]=l:=by
 match l,h with
 |[a,b,c],_=>rfl
theorem Gr {l:List Int} (h:l.length=2):[at_ l 0,at_ l 1]=l:=by
 match l,h with
 |[a,b],_=>rfl
theorem lU (g:ByteArray):(au 32 g).length=(bj g).length:=by unfold bj;rw[List.length_map]
theorem oC {g:ByteArray} {n:Nat} (h:aE g=true) (hl:(spL g).length=n):bu g n=spL g:=by
 rw[dE h] at hl ⊢
 exact ot (by rw[lU];exact hl) h
theorem r9 {g:ByteArray} (h:cS g=true):spP g=ppL g∧av (ppL g)=g:=by
 unfold cS at h
 rw[Is] at h
 have h1:=dE h.1
 rw[h1] at h
 have h7:=lN h.2
 have e:ppL g=bj g:=by unfold ppL;rw[h1,gW h.2]
 have h8:aQ (au 32 g) 8=bj g:=nL (by rw[lU];omega)
 have hp:av (bj g)=g:=by rw[fP h.2,kt h.1]
 rw[e]
 exact⟨by rw[Gc (by rw[h8];exact hp),h8],hp⟩
theorem E3 {t:ByteArray} (h:sj t):imJ t=spJ t∧lO (spJ t)=t:=by
 obtain⟨h4,hp,o1,o2,o3,l1,l2,l3,hj⟩:=h
 obtain⟨e0,f0⟩:=r9 hp
 have e:imJ t=spJ t:=by
  unfold imJ spJ
  rw[oC o1 l1,oC o2 l2,oC o3 l3,e0]
 refine⟨e,?_⟩
 rw[←e,rK hj,←sL]
 have r1:gr1 (imJ t)=grp t 1:=by
  show aw [at_ (spL (grp t 1)) 0,at_ (spL (grp t 1)) 1,at_ (spL (grp t 1)) 2]=_
  rw[Bp l1,dE o1,kt o1]
 have r2:gr2 (imJ t)=grp t 2:=by
  show aw [at_ (spL (grp t 2)) 0,at_ (spL (grp t 2)) 1]=_
  rw[Gr l2,dE o2,kt o2]
 have r3:gr3 (imJ t)=grp t 3:=by
  show aw [at_ (spL (grp t 3)) 0,at_ (spL (grp t 3)) 1,at_ (spL (grp t 3)) 2]=_
  rw[Bp l3,dE o3,kt o3]
 rw[r1,r2,r3,show av (imJ t).poly=grp t 0 from f0]
 have:=l5 59 t
 rw[Hi h4] at this
 exact this
theorem Ha {j:cm} (hj:j.In) (h:bQ j=true):Sm j.poly∧Sm [j.fr,j.ct,j.wd]∧Sm [j.dg,j.wy]∧Sm [j.rw,j.ac,j.wi]:=by
 obtain⟨h1,h2,h3,h4,h5⟩:=iy.1 h
 obtain⟨hk1,hk2,-,-⟩:=sD h1
 obtain⟨hp0,hn⟩:=nO.1 hk1
 obtain⟨p1,p7,hp⟩:=bi.1 hp0
 have hc:=ym j.poly j.fr j.wd j.ct
 rw[h3] at hc
 simp[ez,inB] at h4
 simp[dA,inB] at h5
 refine⟨fun n hn=>?_,fun n hn=>?_,fun n hn=>?_,fun n hn=>?_⟩
 ·obtain⟨k,hk,rfl⟩:=List.getElem_of_mem hn
  have:=hp k hk
  unfold at_ at this
  rw[List.getD_eq_getElem?_getD,List.getElem?_eq_getElem hk] at this
  simp at this
  omega
 ·simp at hn
  rcases hn with rfl|rfl|rfl <;> omega
 ·simp at hn
  rcases hn with rfl|rfl <;> omega
 ·simp at hn
  rcases hn with rfl|rfl|rfl <;> omega
theorem Hg {t:ByteArray} (h4:(au 59 t).length=4) (h:lO (spJ t)=t):sj t:=by
 obtain⟨j,hj⟩:∃j,j=spJ t:=⟨_,rfl⟩
 have hin:j.In:=by rw[hj];constructor <;> exact uC _ _ _
 rw[←hj] at h
 have hok:bQ j=true:=by
  cases hq:bQ j
  ·rw[C0 hq] at h
   rw[←h] at h4
   exact absurd h4 (by decide)
  ·rfl
 have hpo:=qn hok
 obtain⟨s0,s1,s2,s3⟩:=Ha hin hok
 have hp1:j.poly≠[]:=fun e=>by have:=(bi.1 hpo).1;rw[e] at this;simp at this
 rw[rK hok,fP hpo,←sL] at h
 have hc:au 59 t=[aw j.poly,gr1 j,gr2 j,gr3 j]:=by
  rw[←h]
  apply tu
  intro p hp
  simp at hp
  rcases hp with rfl|rfl|rfl|rfl <;> exact D6 (by decide) (by decide) (by decide) _
 have g0:grp t 0=aw j.poly:=by unfold grp;rw[hc];rfl
 have g1:grp t 1=gr1 j:=by unfold grp;rw[hc];rfl
 have g2:grp t 2=gr2 j:=by unfold grp;rw[hc];rfl
 have g3:grp t 3=gr3 j:=by unfold grp;rw[hc];rfl
 obtain⟨a0,b0⟩:=kP hp1 s0
 obtain⟨a1,b1⟩:=kP (by simp) s1
 obtain⟨a2,b2⟩:=kP (by simp) s2
 obtain⟨a3,b3⟩:=kP (by simp) s3
 have l0:spL (grp t 0)=j.poly:=by rw[g0,dE a0,b0]
 have l1:spL (grp t 1)=[j.fr,j.ct,j.wd]:=by rw[g1];unfold gr1;rw[dE a1,b1]
 have l2:spL (grp t 2)=[j.dg,j.wy]:=by rw[g2];unfold gr2;rw[dE a2,b2]
 have l3:spL (grp t 3)=[j.rw,j.ac,j.wi]:=by rw[g3];unfold gr3;rw[dE a3,b3]
 have hi:imJ t=j:=by
  unfold imJ ppL
  rw[l0,l1,l2,l3,gW hpo]
  rfl
 refine⟨h4,?_,?_,?_,?_,?_,?_,?_,?_⟩
 ·unfold cS
  rw[l0,hpo,g0,a0]
  rfl
 ·rw[g1];exact a1
 ·rw[g2];exact a2
 ·rw[g3];exact a3
 ·rw[l1];rfl
 ·rw[l2];rfl
 ·rw[l3];rfl
 ·rw[hi];exact hok
theorem Do {t:ByteArray} (h:sj t):spR t=(imJ t,true):=by rw[ye h.1 (E3 h).2,(E3 h).1]
theorem jh {t:ByteArray} (h:¬sj t):spR t=(bM,false):=rB fun x=>h (Hg x.1 x.2)
end Go.Proofs.YtfmjklgfpiffbaaGreatDoor
namespace Go.Proofs.YtfmjklgfpiffbaaGreatDoor
open Go.RowKit Go.Proofs.Tryz
set_option linter.unusedVariables false
set_option linter.unusedSimpArgs false
set_option maxRecDepth 100000
set_option maxHeartbeats 8000000
attribute [local go_sem ↓] Go.wp_at_zero Go.wp_at_succ
theorem EV {w:World} {base c:Nat} {A:Option Addr} {l:List Int} (h:Own w base (.slice A l.length c) l) (hl:l.length=3):∃b,A=some ⟨b,0,none⟩∧3≤c ∧
  (w.cell? ⟨b,0,none⟩=some (.int .i64 (at_ l 0))∧w.cell? ⟨b,1,none⟩=some (.int .i64 (at_ l 1))∧w.cell? ⟨b,2,none⟩=some (.int .i64 (at_ l 2))):=by
 obtain⟨b,c2,e,h1,h2,h3,h4⟩:=Dx h hl
 injection e with e1 e2 e3
 subst e3
 exact⟨b,e1,h3,h4⟩
theorem Ht {w:World} {base c:Nat} {A:Option Addr} {l:List Int} (h:Own w base (.slice A l.length c) l) (hl:l.length=2):∃b,A=some ⟨b,0,none⟩∧2≤c ∧
  (w.cell? ⟨b,0,none⟩=some (.int .i64 (at_ l 0))∧w.cell? ⟨b,1,none⟩=some (.int .i64 (at_ l 1))):=by
 obtain⟨b,c2,e,h1,h2,h3,h4⟩:=GV h hl
 injection e with e1 e2 e3
 subst e3
 exact⟨b,e1,h3,h4⟩
theorem Gf (t:ByteArray):Sm (spL t):=by
 unfold spL
 split
 ·exact qj t
 ·intro x hx;simp at hx
theorem vK (t:ByteArray) (i:Nat) : -9223372036854775808≤at_ (spL t) i∧at_ (spL t) i≤9223372036854775807:=by
 have:=ua (Gf t) i
 omega
theorem zm (t:ByteArray) (w:World) (ht:t.size≤1048576) (hg:Glb w):
  Calls prog 227 #[.string t] w fun e w'=>GR w' w.heap.size (spR t) e∧Below w.heap.size w w':=by
 have K0:=Blk.new w 97 (bh (.slice none 0 0) bM)
 have B0:=ab w (.cells (bh (.slice none 0 0) bM).toArray 97)
 have HG:=Hy hg
 clear hg
 go_enter func227,ntmps227
 go_wp2_with fail
 change Calls _ _ _ (w.alloc (.cells (bh (.slice none 0 0) bM).toArray 97)) _
 generalize hW:w.alloc (.cells (bh (.slice none 0 0) bM).toArray 97)=w1 at *
 have hz1:w1.heap.size=w.heap.size+1:=by rw[←hW];simp
 clear hW
 refine(mh t 59 _ ht (HG.out.bel B0)).mono ?_
 rintro e w2 ⟨A,rfl,o,b⟩
 have hz21:w.heap.size+1≤w2.heap.size:=by rw[←hz1];exact b.size
 replace K0:=K0.below b K0.lt
 have HK:=Hy K0
 have HB:=Hy (aa B0 b)
 have HP:=Hy o.strs
 have hcl:=fi 59 t
 obtain⟨ls,hls⟩:∃ls,au 59 t=ls:=⟨_,rfl⟩
 have HLS:=Hy hls
 rw[hls] at HP hcl
 rw[hls]
 clear B0 o b hls K0
 by_cases hlen:ls.length=4
 ·have HLN:=Hy (show(au 59 t).length=4 by rw[HLS.out];exact hlen)
  have g0:(sat ls 0).size≤1048576:=by rw[←HLS.out];exact ii ht HLN.out (i:=0) (by omega)
  have g1:(sat ls 1).size≤1048576:=by rw[←HLS.out];exact ii ht HLN.out (i:=1) (by omega)
  have g2:(sat ls 2).size≤1048576:=by rw[←HLS.out];exact ii ht HLN.out (i:=2) (by omega)
  have g3:(sat ls 3).size≤1048576:=by rw[←HLS.out];exact ii ht HLN.out (i:=3) (by omega)
  obtain⟨b,o,rfl,hbb,p0,p1,p2,p3⟩:=CG HP.out hlen
  rw[hlen] at HP ⊢
  have HJ:=Hy (show imJ t=⟨ppL (sat ls 0),at_ (spL (sat ls 1)) 0,at_ (spL (sat ls 1)) 1,at_ (spL (sat ls 1)) 2,at_ (spL (sat ls 2)) 0,at_ (spL (sat ls 2)) 1,at_ (spL (sat ls 3)) 0,at_ (spL (sat ls 3)) 1,at_ (spL (sat ls 3)) 2⟩ by unfold imJ grp;rw[HLS.out])
  have HI:=Hy (show sj t↔(au 59 t).length=4∧cS (sat ls 0)=true∧aE (sat ls 1)=true∧aE (sat ls 2)=true∧aE (sat ls 3)=true∧(spL (sat ls 1)).length=3∧(spL (sat ls 2)).length=2∧(spL (sat ls 3)).length=3∧bQ (imJ t)=true by unfold sj grp;rw[HLS.out])
  obtain⟨G0,hG0⟩:∃G,sat ls 0=G:=⟨_,rfl⟩
  obtain⟨G1,hG1⟩:∃G,sat ls 1=G:=⟨_,rfl⟩
  obtain⟨G2,hG2⟩:∃G,sat ls 2=G:=⟨_,rfl⟩
  obtain⟨G3,hG3⟩:∃G,sat ls 3=G:=⟨_,rfl⟩
  rw[hG0] at g0 p0 HJ HI
  rw[hG1] at g1 p1 HJ HI
  rw[hG2] at g2 p2 HJ HI
  rw[hG3] at g3 p3 HJ HI
  clear hG0 hG1 hG2 hG3 hlen HLS HP hcl
  go_wp2_with fail
  refine(nw G0 _ g0 (HG.out.bel HB.out)).mono ?_
  rintro e w3 ⟨r0,rfl,o0,b3⟩
  replace HK:=Hy (HK.out.below b3 HK.out.lt)
  replace HB:=Hy (aa HB.out b3)
  replace p1:=(b3.cell hbb).trans p1
  replace p2:=(b3.cell hbb).trans p2
  replace p3:=(b3.cell hbb).trans p3
  replace hbb:=Im hbb b3.size
  clear b3 p0
  go_wp2_with fail
  refine(dY G1 _ g1 (HG.out.bel HB.out)).mono ?_
  rintro e w4 ⟨r1,rfl,o1,b4⟩
  replace HK:=Hy (HK.out.below b4 HK.out.lt)
  replace HB:=Hy (aa HB.out b4)
  replace p2:=(b4.cell hbb).trans p2
  replace p3:=(b4.cell hbb).trans p3
  replace hbb:=Im hbb b4.size
  replace o0:=o0.bel b4
  clear b4 p1
  go_wp2_with fail
  refine(dY G2 _ g2 (HG.out.bel HB.out)).mono ?_
  rintro e w5 ⟨r2,rfl,o2,b5⟩
  replace HK:=Hy (HK.out.below b5 HK.out.lt)
  replace HB:=Hy (aa HB.out b5)
  replace p3:=(b5.cell hbb).trans p3
  replace hbb:=Im hbb b5.size
  replace o0:=o0.bel b5
  replace o1:=o1.bel b5
  clear b5 p2
  go_wp2_with fail
  refine(dY G3 _ g3 (HG.out.bel HB.out)).mono ?_
  rintro e w6 ⟨r3,rfl,o3,b6⟩
  replace HK:=Hy (HK.out.below b6 HK.out.lt)
  replace HB:=Hy (aa HB.out b6)
  have O0:=Hy ((o0.bel b6).lower hz21)
  have O1:=Hy (o1.bel b6)
  have O2:=Hy (o2.bel b6)
  have O3:=Hy o3
  clear b6 p3 o0 o1 o2 o3 hbb
  obtain⟨A0,c0,rfl,-,-,-⟩:=O0.out.ints.open_
  obtain⟨A1,c1,rfl,-,-,-⟩:=O1.out.ints.open_
  obtain⟨A2,c2,rfl,-,-,-⟩:=O2.out.ints.open_
  obtain⟨A3,c3,rfl,-,-,-⟩:=O3.out.ints.open_
  obtain⟨L1,hL1⟩:∃L,spL G1=L:=⟨_,rfl⟩
  obtain⟨L2,hL2⟩:∃L,spL G2=L:=⟨_,rfl⟩
  obtain⟨L3,hL3⟩:∃L,spL G3=L:=⟨_,rfl⟩
  have d1:=vK G1
  have d2:=vK G2
  have d3:=vK G3
  rw[hL1] at O1 HJ HI d1
  rw[hL2] at O2 HJ HI d2
  rw[hL3] at O3 HJ HI d3
  have hJin:(imJ t).In:=by
   rw[HJ.out]
   constructor
   exact d1 0
   exact d1 1
   exact d1 2
   exact d2 0
   exact d2 1
   exact d3 0
   exact d3 1
   exact d3 2
  have HJI:=Hy hJin
  rw[hL1,hL2,hL3]
  clear hL1 hL2 hL3 d1 d2 d3 hJin
  obtain⟨q0,hq0⟩:∃q,cS G0=q:=⟨_,rfl⟩
  obtain⟨q1,hq1⟩:∃q,aE G1=q:=⟨_,rfl⟩
  obtain⟨q2,hq2⟩:∃q,aE G2=q:=⟨_,rfl⟩
  obtain⟨q3,hq3⟩:∃q,aE G3=q:=⟨_,rfl⟩
  rw[hq0,hq1,hq2] at HI ⊢
  rw[hq3] at HI ⊢
  clear hq0 hq1 hq2 hq3
  cases q0
  ·have HR:=Hy (jh (t:=t) fun hh=>by have h:=HI.out.1 hh;exact Bool.noConfusion h.2.1)
   obtain⟨c0',c1',c2',c3',c4',c5',c6',c7',c8'⟩:=HK.out.job
   obtain⟨f0,f1,f2,f3,f4,f5,f6,f7,f8⟩:=HK.out.free
   go_wp2_with fail
   have KE:=eb [.slice none 0 0,.int .i64 0,.int .i64 0,.int .i64 0,.int .i64 0,.int .i64 0,.int .i64 0,.int .i64 0,.int .i64 0] _ _ 0 HK.out
   have BE:=jz (g:=w.heap.size) (Ig _) [.slice none 0 0,.int .i64 0,.int .i64 0,.int .i64 0,.int .i64 0,.int .i64 0,.int .i64 0,.int .i64 0,.int .i64 0] _ 0 HB.out
   clear c0' c1' c2' c3' c4' c5' c6' c7' c8' f0 f1 f2 f3 f4 f5 f6 f7 f8
   change bodyPost _ _ _ _ _ (dx w6 w.heap.size 0 [.slice none 0 0,.int .i64 0,.int .i64 0,.int .i64 0,.int .i64 0,.int .i64 0,.int .i64 0,.int .i64 0,.int .i64 0])
   generalize hW7:dx w6 w.heap.size 0 [.slice none 0 0,.int .i64 0,.int .i64 0,.int .i64 0,.int .i64 0,.int .i64 0,.int .i64 0,.int .i64 0,.int .i64 0]=W7 at KE BE ⊢
   clear hW7
   obtain⟨h0,h1,h2,h3,h4,h5,h6,h7,h8⟩:=Blk.job (v:=.slice none 0 0) (j:=bM) KE
   refine bodyPost_ret (v:=.tuple #[bE (.slice none 0 0) bM,.bool false]) (by simp[bE,results,results227,go_sem,h0,h1,h2,h3,h4,h5,h6,h7,h8]) rfl ⟨⟨_,by rw[HR.out],by rw[HR.out];exact Own.nil_ _ _,by rw[HR.out];exact eU⟩,BE⟩
  ·skip
   cases q1
   ·have HR:=Hy (jh (t:=t) fun hh=>by have h:=HI.out.1 hh;exact Bool.noConfusion h.2.2.1)
    obtain⟨c0',c1',c2',c3',c4',c5',c6',c7',c8'⟩:=HK.out.job
    obtain⟨f0,f1,f2,f3,f4,f5,f6,f7,f8⟩:=HK.out.free
    go_wp2_with fail
    have KE:=eb [.slice none 0 0,.int .i64 0,.int .i64 0,.int .i64 0,.int .i64 0,.int .i64 0,.int .i64 0,.int .i64 0,.int .i64 0] _ _ 0 HK.out
    have BE:=jz (g:=w.heap.size) (Ig _) [.slice none 0 0,.int .i64 0,.int .i64 0,.int .i64 0,.int .i64 0,.int .i64 0,.int .i64 0,.int .i64 0,.int .i64 0] _ 0 HB.out
    clear c0' c1' c2' c3' c4' c5' c6' c7' c8' f0 f1 f2 f3 f4 f5 f6 f7 f8
    change bodyPost _ _ _ _ _ (dx w6 w.heap.size 0 [.slice none 0 0,.int .i64 0,.int .i64 0,.int .i64 0,.int .i64 0,.int .i64 0,.int .i64 0,.int .i64 0,.int .i64 0])
    generalize hW7:dx w6 w.heap.size 0 [.slice none 0 0,.int .i64 0,.int .i64 0,.int .i64 0,.int .i64 0,.int .i64 0,.int .i64 0,.int .i64 0,.int .i64 0]=W7 at KE BE ⊢
    clear hW7
    obtain⟨h0,h1,h2,h3,h4,h5,h6,h7,h8⟩:=Blk.job (v:=.slice none 0 0) (j:=bM) KE
    refine bodyPost_ret (v:=.tuple #[bE (.slice none 0 0) bM,.bool false]) (by simp[bE,results,results227,go_sem,h0,h1,h2,h3,h4,h5,h6,h7,h8]) rfl ⟨⟨_,by rw[HR.out],by rw[HR.out];exact Own.nil_ _ _,by rw[HR.out];exact eU⟩,BE⟩
   ·skip
    cases q2
    ·have HR:=Hy (jh (t:=t) fun hh=>by have h:=HI.out.1 hh;exact Bool.noConfusion h.2.2.2.1)
     obtain⟨c0',c1',c2',c3',c4',c5',c6',c7',c8'⟩:=HK.out.job
     obtain⟨f0,f1,f2,f3,f4,f5,f6,f7,f8⟩:=HK.out.free
     go_wp2_with fail
     have KE:=eb [.slice none 0 0,.int .i64 0,.int .i64 0,.int .i64 0,.int .i64 0,.int .i64 0,.int .i64 0,.int .i64 0,.int .i64 0] _ _ 0 HK.out
     have BE:=jz (g:=w.heap.size) (Ig _) [.slice none 0 0,.int .i64 0,.int .i64 0,.int .i64 0,.int .i64 0,.int .i64 0,.int .i64 0,.int .i64 0,.int .i64 0] _ 0 HB.out
     clear c0' c1' c2' c3' c4' c5' c6' c7' c8' f0 f1 f2 f3 f4 f5 f6 f7 f8
     change bodyPost _ _ _ _ _ (dx w6 w.heap.size 0 [.slice none 0 0,.int .i64 0,.int .i64 0,.int .i64 0,.int .i64 0,.int .i64 0,.int .i64 0,.int .i64 0,.int .i64 0])
     generalize hW7:dx w6 w.heap.size 0 [.slice none 0 0,.int .i64 0,.int .i64 0,.int .i64 0,.int .i64 0,.int .i64 0,.int .i64 0,.int .i64 0,.int .i64 0]=W7 at KE BE ⊢
     clear hW7
     obtain⟨h0,h1,h2,h3,h4,h5,h6,h7,h8⟩:=Blk.job (v:=.slice none 0 0) (j:=bM) KE
     refine bodyPost_ret (v:=.tuple #[bE (.slice none 0 0) bM,.bool false]) (by simp[bE,results,results227,go_sem,h0,h1,h2,h3,h4,h5,h6,h7,h8]) rfl ⟨⟨_,by rw[HR.out],by rw[HR.out];exact Own.nil_ _ _,by rw[HR.out];exact eU⟩,BE⟩
    ·skip
     cases q3
     ·have HR:=Hy (jh (t:=t) fun hh=>by have h:=HI.out.1 hh;exact Bool.noConfusion h.2.2.2.2.1)
      obtain⟨c0',c1',c2',c3',c4',c5',c6',c7',c8'⟩:=HK.out.job
      obtain⟨f0,f1,f2,f3,f4,f5,f6,f7,f8⟩:=HK.out.free
      go_wp2_with fail
      have KE:=eb [.slice none 0 0,.int .i64 0,.int .i64 0,.int .i64 0,.int .i64 0,.int .i64 0,.int .i64 0,.int .i64 0,.int .i64 0] _ _ 0 HK.out
      have BE:=jz (g:=w.heap.size) (Ig _) [.slice none 0 0,.int .i64 0,.int .i64 0,.int .i64 0,.int .i64 0,.int .i64 0,.int .i64 0,.int .i64 0,.int .i64 0] _ 0 HB.out
      clear c0' c1' c2' c3' c4' c5' c6' c7' c8' f0 f1 f2 f3 f4 f5 f6 f7 f8
      change bodyPost _ _ _ _ _ (dx w6 w.heap.size 0 [.slice none 0 0,.int .i64 0,.int .i64 0,.int .i64 0,.int .i64 0,.int .i64 0,.int .i64 0,.int .i64 0,.int .i64 0])
      generalize hW7:dx w6 w.heap.size 0 [.slice none 0 0,.int .i64 0,.int .i64 0,.int .i64 0,.int .i64 0,.int .i64 0,.int .i64 0,.int .i64 0,.int .i64 0]=W7 at KE BE ⊢
      clear hW7
      obtain⟨h0,h1,h2,h3,h4,h5,h6,h7,h8⟩:=Blk.job (v:=.slice none 0 0) (j:=bM) KE
      refine bodyPost_ret (v:=.tuple #[bE (.slice none 0 0) bM,.bool false]) (by simp[bE,results,results227,go_sem,h0,h1,h2,h3,h4,h5,h6,h7,h8]) rfl ⟨⟨_,by rw[HR.out],by rw[HR.out];exact Own.nil_ _ _,by rw[HR.out];exact eU⟩,BE⟩
     ·skip
      by_cases hn0:L1.length=3
      case neg=>
       have HR:=Hy (jh (t:=t) fun hh=>by have h:=HI.out.1 hh;exact hn0 h.2.2.2.2.2.1)
       have hb0:((L1.length:Int)==3)=false:=by simp;omega
       have hi0:¬(L1.length:Int)=3:=by omega
       obtain⟨c0',c1',c2',c3',c4',c5',c6',c7',c8'⟩:=HK.out.job
       obtain⟨f0,f1,f2,f3,f4,f5,f6,f7,f8⟩:=HK.out.free
       go_wp2_with fail
       have KE:=eb [.slice none 0 0,.int .i64 0,.int .i64 0,.int .i64 0,.int .i64 0,.int .i64 0,.int .i64 0,.int .i64 0,.int .i64 0] _ _ 0 HK.out
       have BE:=jz (g:=w.heap.size) (Ig _) [.slice none 0 0,.int .i64 0,.int .i64 0,.int .i64 0,.int .i64 0,.int .i64 0,.int .i64 0,.int .i64 0,.int .i64 0] _ 0 HB.out
       clear c0' c1' c2' c3' c4' c5' c6' c7' c8' f0 f1 f2 f3 f4 f5 f6 f7 f8
       change bodyPost _ _ _ _ _ (dx w6 w.heap.size 0 [.slice none 0 0,.int .i64 0,.int .i64 0,.int .i64 0,.int .i64 0,.int .i64 0,.int .i64 0,.int .i64 0,.int .i64 0])
       generalize hW7:dx w6 w.heap.size 0 [.slice none 0 0,.int .i64 0,.int .i64 0,.int .i64 0,.int .i64 0,.int .i64 0,.int .i64 0,.int .i64 0,.int .i64 0]=W7 at KE BE ⊢
       clear hW7
       obtain⟨h0,h1,h2,h3,h4,h5,h6,h7,h8⟩:=Blk.job (v:=.slice none 0 0) (j:=bM) KE
       refine bodyPost_ret (v:=.tuple #[bE (.slice none 0 0) bM,.bool false]) (by simp[bE,results,results227,go_sem,h0,h1,h2,h3,h4,h5,h6,h7,h8]) rfl ⟨⟨_,by rw[HR.out],by rw[HR.out];exact Own.nil_ _ _,by rw[HR.out];exact eU⟩,BE⟩
      obtain⟨n1,rfl,v1,z1⟩:=EV O1.out hn0
      rw[hn0]
      have HN0:=Hy hn0
      clear hn0
      by_cases hn1:L2.length=2
      case neg=>
       have HR:=Hy (jh (t:=t) fun hh=>by have h:=HI.out.1 hh;exact hn1 h.2.2.2.2.2.2.1)
       have hb1:((L2.length:Int)==2)=false:=by simp;omega
       have hi1:¬(L2.length:Int)=2:=by omega
       obtain⟨c0',c1',c2',c3',c4',c5',c6',c7',c8'⟩:=HK.out.job
       obtain⟨f0,f1,f2,f3,f4,f5,f6,f7,f8⟩:=HK.out.free
       go_wp2_with fail
       have KE:=eb [.slice none 0 0,.int .i64 0,.int .i64 0,.int .i64 0,.int .i64 0,.int .i64 0,.int .i64 0,.int .i64 0,.int .i64 0] _ _ 0 HK.out
       have BE:=jz (g:=w.heap.size) (Ig _) [.slice none 0 0,.int .i64 0,.int .i64 0,.int .i64 0,.int .i64 0,.int .i64 0,.int .i64 0,.int .i64 0,.int .i64 0] _ 0 HB.out
       clear c0' c1' c2' c3' c4' c5' c6' c7' c8' f0 f1 f2 f3 f4 f5 f6 f7 f8
       change bodyPost _ _ _ _ _ (dx w6 w.heap.size 0 [.slice none 0 0,.int .i64 0,.int .i64 0,.int .i64 0,.int .i64 0,.int .i64 0,.int .i64 0,.int .i64 0,.int .i64 0])
       generalize hW7:dx w6 w.heap.size 0 [.slice none 0 0,.int .i64 0,.int .i64 0,.int .i64 0,.int .i64 0,.int .i64 0,.int .i64 0,.int .i64 0,.int .i64 0]=W7 at KE BE ⊢
       clear hW7
       obtain⟨h0,h1,h2,h3,h4,h5,h6,h7,h8⟩:=Blk.job (v:=.slice none 0 0) (j:=bM) KE
       refine bodyPost_ret (v:=.tuple #[bE (.slice none 0 0) bM,.bool false]) (by simp[bE,results,results227,go_sem,h0,h1,h2,h3,h4,h5,h6,h7,h8]) rfl ⟨⟨_,by rw[HR.out],by rw[HR.out];exact Own.nil_ _ _,by rw[HR.out];exact eU⟩,BE⟩
      obtain⟨n2,rfl,v2,z2⟩:=Ht O2.out hn1
      rw[hn1]
      have HN1:=Hy hn1
      clear hn1
      by_cases hn2:L3.length=3
      case neg=>
       have HR:=Hy (jh (t:=t) fun hh=>by have h:=HI.out.1 hh;exact hn2 h.2.2.2.2.2.2.2.1)
       have hb2:((L3.length:Int)==3)=false:=by simp;omega
       have hi2:¬(L3.length:Int)=3:=by omega
       obtain⟨c0',c1',c2',c3',c4',c5',c6',c7',c8'⟩:=HK.out.job
       obtain⟨f0,f1,f2,f3,f4,f5,f6,f7,f8⟩:=HK.out.free
       go_wp2_with fail
       have KE:=eb [.slice none 0 0,.int .i64 0,.int .i64 0,.int .i64 0,.int .i64 0,.int .i64 0,.int .i64 0,.int .i64 0,.int .i64 0] _ _ 0 HK.out
       have BE:=jz (g:=w.heap.size) (Ig _) [.slice none 0 0,.int .i64 0,.int .i64 0,.int .i64 0,.int .i64 0,.int .i64 0,.int .i64 0,.int .i64 0,.int .i64 0] _ 0 HB.out
       clear c0' c1' c2' c3' c4' c5' c6' c7' c8' f0 f1 f2 f3 f4 f5 f6 f7 f8
       change bodyPost _ _ _ _ _ (dx w6 w.heap.size 0 [.slice none 0 0,.int .i64 0,.int .i64 0,.int .i64 0,.int .i64 0,.int .i64 0,.int .i64 0,.int .i64 0,.int .i64 0])
       generalize hW7:dx w6 w.heap.size 0 [.slice none 0 0,.int .i64 0,.int .i64 0,.int .i64 0,.int .i64 0,.int .i64 0,.int .i64 0,.int .i64 0,.int .i64 0]=W7 at KE BE ⊢
       clear hW7
       obtain⟨h0,h1,h2,h3,h4,h5,h6,h7,h8⟩:=Blk.job (v:=.slice none 0 0) (j:=bM) KE
       refine bodyPost_ret (v:=.tuple #[bE (.slice none 0 0) bM,.bool false]) (by simp[bE,results,results227,go_sem,h0,h1,h2,h3,h4,h5,h6,h7,h8]) rfl ⟨⟨_,by rw[HR.out],by rw[HR.out];exact Own.nil_ _ _,by rw[HR.out];exact eU⟩,BE⟩
      obtain⟨n3,rfl,v3,z3⟩:=EV O3.out hn2
      rw[hn2]
      have HN2:=Hy hn2
      clear hn2
      obtain⟨i1,i2,i3⟩:=z1
      obtain⟨i4,i5⟩:=z2
      obtain⟨i6,i7,i8⟩:=z3
      obtain⟨J,hJ⟩:∃J,J=imJ t:=⟨_,rfl⟩
      have HSJ:=Hy hJ
      rw[←hJ] at HJI HI
      rw[HJ.out] at hJ
      have e1:J.fr=at_ L1 0:=by rw[hJ]
      have e2:J.ct=at_ L1 1:=by rw[hJ]
      have e3:J.wd=at_ L1 2:=by rw[hJ]
      have e4:J.dg=at_ L2 0:=by rw[hJ]
      have e5:J.wy=at_ L2 1:=by rw[hJ]
      have e6:J.rw=at_ L3 0:=by rw[hJ]
      have e7:J.ac=at_ L3 1:=by rw[hJ]
      have e8:J.wi=at_ L3 2:=by rw[hJ]
      have e0:J.poly=ppL G0:=by rw[hJ]
      rw[←e1] at i1
      rw[←e2] at i2
      rw[←e3] at i3
      rw[←e4] at i4
      rw[←e5] at i5
      rw[←e6] at i6
      rw[←e7] at i7
      rw[←e8] at i8
      replace O0:=Hy (show Own w6 (w.heap.size+1) (.slice A0 J.poly.length c0) J.poly by rw[e0];exact O0.out)
      rw[←e0]
      clear hJ HJ e0 e1 e2 e3 e4 e5 e6 e7 e8 v1 v2 v3 O1 O2 O3
      go_wp2_with fail
      go_region_held3 (fun w'=>w'.cell? ⟨n1,0,none⟩=some (.int .i64 J.fr)∧w'.cell? ⟨n1,1,none⟩=some (.int .i64 J.ct)∧w'.cell? ⟨n1,2,none⟩=some (.int .i64 J.wd)∧w'.cell? ⟨n2,0,none⟩=some (.int .i64 J.dg)∧w'.cell? ⟨n2,1,none⟩=some (.int .i64 J.wy)∧w'.cell? ⟨n3,0,none⟩=some (.int .i64 J.rw)∧w'.cell? ⟨n3,1,none⟩=some (.int .i64 J.ac)∧w'.cell? ⟨n3,2,none⟩=some (.int .i64 J.wi)) (first|exact⟨i1,i2,i3,i4,i5,i6,i7,i8⟩|go_keep) (first|fail)
      rename_i hHeld
      clear hHeld i1 i2 i3 i4 i5 i6 i7 i8
      have bA:Below w6.heap.size w6 (w6.alloc (.cells (bh (.slice A0 J.poly.length c0) J).toArray 97)).drew:=(ab w6 (.cells (bh (.slice A0 J.poly.length c0) J).toArray 97)).drew
      have KJ:Blk (w6.alloc (.cells (bh (.slice A0 J.poly.length c0) J).toArray 97)).drew w6.heap.size 97 (bh (.slice A0 J.poly.length c0) J):=Blk.new w6 97 (bh (.slice A0 J.poly.length c0) J)
      replace HK:=Hy (HK.out.below bA HK.out.lt)
      replace HB:=Hy (aa HB.out bA)
      replace O0:=Hy (O0.out.bel bA)
      have HKJ:=Hy KJ
      clear bA KJ
      obtain⟨a0,a1,a2,a3,a4,a5,a6,a7,a8⟩:=HKJ.out.job
      go_wp2_with fail
      change Calls _ _ #[bE (.slice A0 J.poly.length c0) J] (w6.alloc (.cells (bh (.slice A0 J.poly.length c0) J).toArray 97)).drew _
      clear a0 a1 a2 a3 a4 a5 a6 a7 a8
      generalize hW:(w6.alloc (.cells (bh (.slice A0 J.poly.length c0) J).toArray 97)).drew=wa at HK HB O0 HKJ ⊢
      clear hW
      refine(pT _ J _ O0.out.ints HJI.out).mono ?_
      rintro e w7 ⟨rfl,b7⟩
      replace HK:=Hy (HK.out.below b7 HK.out.lt)
      replace HKJ:=Hy (HKJ.out.below b7 HKJ.out.lt)
      replace HB:=Hy (aa HB.out b7)
      replace O0:=Hy (O0.out.bel b7)
      clear b7
      cases hq:bQ J
      ·have HR:=Hy (jh (t:=t) fun hh=>by have h:=HI.out.1 hh;rw[hq] at h;exact Bool.noConfusion h.2.2.2.2.2.2.2.2)
       clear hq
       obtain⟨c0',c1',c2',c3',c4',c5',c6',c7',c8'⟩:=HK.out.job
       obtain⟨f0,f1,f2,f3,f4,f5,f6,f7,f8⟩:=HK.out.free
       go_wp2_with fail
       have KE:=eb [.slice none 0 0,.int .i64 0,.int .i64 0,.int .i64 0,.int .i64 0,.int .i64 0,.int .i64 0,.int .i64 0,.int .i64 0] _ _ 0 HK.out
       have BE:=jz (g:=w.heap.size) (Ig _) [.slice none 0 0,.int .i64 0,.int .i64 0,.int .i64 0,.int .i64 0,.int .i64 0,.int .i64 0,.int .i64 0,.int .i64 0] _ 0 HB.out
       clear c0' c1' c2' c3' c4' c5' c6' c7' c8' f0 f1 f2 f3 f4 f5 f6 f7 f8
       change bodyPost _ _ _ _ _ (dx w7 w.heap.size 0 [.slice none 0 0,.int .i64 0,.int .i64 0,.int .i64 0,.int .i64 0,.int .i64 0,.int .i64 0,.int .i64 0,.int .i64 0])
       generalize hW7:dx w7 w.heap.size 0 [.slice none 0 0,.int .i64 0,.int .i64 0,.int .i64 0,.int .i64 0,.int .i64 0,.int .i64 0,.int .i64 0,.int .i64 0]=W7 at KE BE ⊢
       clear hW7
       obtain⟨h0,h1,h2,h3,h4,h5,h6,h7,h8⟩:=Blk.job (v:=.slice none 0 0) (j:=bM) KE
       refine bodyPost_ret (v:=.tuple #[bE (.slice none 0 0) bM,.bool false]) (by simp[bE,results,results227,go_sem,h0,h1,h2,h3,h4,h5,h6,h7,h8]) rfl ⟨⟨_,by rw[HR.out],by rw[HR.out];exact Own.nil_ _ _,by rw[HR.out];exact eU⟩,BE⟩
      ·have HR:=Hy (show spR t=(J,true) by rw[Do (HI.out.2 ⟨HLN.out,by first|rfl|trivial,by first|rfl|trivial,by first|rfl|trivial,by first|rfl|trivial,HN0.out,HN1.out,HN2.out,hq⟩),HSJ.out])
       clear hq
       obtain⟨c0',c1',c2',c3',c4',c5',c6',c7',c8'⟩:=HK.out.job
       obtain⟨f0,f1,f2,f3,f4,f5,f6,f7,f8⟩:=HK.out.free
       obtain⟨a0,a1,a2,a3,a4,a5,a6,a7,a8⟩:=HKJ.out.job
       go_wp2_with fail
       have KE:=eb [.slice A0 J.poly.length c0,.int .i64 J.fr,.int .i64 J.ct,.int .i64 J.wd,.int .i64 J.dg,.int .i64 J.wy,.int .i64 J.rw,.int .i64 J.ac,.int .i64 J.wi] _ _ 0 HK.out
       have BE:=jz (g:=w.heap.size) (Ig _) [.slice A0 J.poly.length c0,.int .i64 J.fr,.int .i64 J.ct,.int .i64 J.wd,.int .i64 J.dg,.int .i64 J.wy,.int .i64 J.rw,.int .i64 J.ac,.int .i64 J.wi] _ 0 HB.out
       have OE:=EA (g:=w.heap.size) (Nat.lt_succ_self _) [.slice A0 J.poly.length c0,.int .i64 J.fr,.int .i64 J.ct,.int .i64 J.wd,.int .i64 J.dg,.int .i64 J.wy,.int .i64 J.rw,.int .i64 J.ac,.int .i64 J.wi] _ 0 O0.out
       clear c0' c1' c2' c3' c4' c5' c6' c7' c8' f0 f1 f2 f3 f4 f5 f6 f7 f8 a0 a1 a2 a3 a4 a5 a6 a7 a8
       change bodyPost _ _ _ _ _ (dx w7 w.heap.size 0 [.slice A0 J.poly.length c0,.int .i64 J.fr,.int .i64 J.ct,.int .i64 J.wd,.int .i64 J.dg,.int .i64 J.wy,.int .i64 J.rw,.int .i64 J.ac,.int .i64 J.wi])
       generalize hW7:dx w7 w.heap.size 0 [.slice A0 J.poly.length c0,.int .i64 J.fr,.int .i64 J.ct,.int .i64 J.wd,.int .i64 J.dg,.int .i64 J.wy,.int .i64 J.rw,.int .i64 J.ac,.int .i64 J.wi]=W7 at KE BE OE ⊢
       clear hW7
       obtain⟨h0,h1,h2,h3,h4,h5,h6,h7,h8⟩:=Blk.job (v:=.slice A0 J.poly.length c0) (j:=J) KE
       refine bodyPost_ret (v:=.tuple #[bE (.slice A0 J.poly.length c0) J,.bool true]) (by simp[bE,results,results227,go_sem,h0,h1,h2,h3,h4,h5,h6,h7,h8]) rfl ⟨⟨_,by rw[HR.out],by rw[HR.out];exact OE.lower (Nat.le_succ _),by rw[HR.out];exact HJI.out⟩,BE⟩
 ·have hlq:((ls.length:Int)==4)=false:=by simp;omega
  have hli:¬(ls.length:Int)=4:=by omega
  have HR:=Hy (rB (t:=t) fun h=>hlen (by rw[←HLS.out];exact h.1))
  obtain⟨c0',c1',c2',c3',c4',c5',c6',c7',c8'⟩:=HK.out.job
  obtain⟨f0,f1,f2,f3,f4,f5,f6,f7,f8⟩:=HK.out.free
  go_wp2_with fail
  have KE:=eb [.slice none 0 0,.int .i64 0,.int .i64 0,.int .i64 0,.int .i64 0,.int .i64 0,.int .i64 0,.int .i64 0,.int .i64 0] _ _ 0 HK.out
  have BE:=jz (g:=w.heap.size) (Ig _) [.slice none 0 0,.int .i64 0,.int .i64 0,.int .i64 0,.int .i64 0,.int .i64 0,.int .i64 0,.int .i64 0,.int .i64 0] _ 0 HB.out
  clear c0' c1' c2' c3' c4' c5' c6' c7' c8' f0 f1 f2 f3 f4 f5 f6 f7 f8
  change bodyPost _ _ _ _ _ (dx w2 w.heap.size 0 [.slice none 0 0,.int .i64 0,.int .i64 0,.int .i64 0,.int .i64 0,.int .i64 0,.int .i64 0,.int .i64 0,.int .i64 0])
  generalize hW7:dx w2 w.heap.size 0 [.slice none 0 0,.int .i64 0,.int .i64 0,.int .i64 0,.int .i64 0,.int .i64 0,.int .i64 0,.int .i64 0,.int .i64 0]=W7 at KE BE ⊢
  clear hW7
  obtain⟨h0,h1,h2,h3,h4,h5,h6,h7,h8⟩:=Blk.job (v:=.slice none 0 0) (j:=bM) KE
  refine bodyPost_ret (v:=.tuple #[bE (.slice none 0 0) bM,.bool false]) (by simp[bE,results,results227,go_sem,h0,h1,h2,h3,h4,h5,h6,h7,h8]) rfl ⟨⟨_,by rw[HR.out],by rw[HR.out];exact Own.nil_ _ _,by rw[HR.out];exact eU⟩,BE⟩
theorem He {g:ByteArray} (h:cS g=true):av (aQ (au 32 g) 8)=g:=by
 have h2:=(r9 h).2
 unfold cS at h
 rw[Is] at h
 have h1:=dE h.1
 rw[h1] at h
 have h7:=lN h.2
 have e:ppL g=bj g:=by unfold ppL;rw[h1,gW h.2]
 have h8:aQ (au 32 g) 8=bj g:=nL (by rw[lU];omega)
 rw[h8,←e]
 exact h2
theorem xW {p:List Int} (h:ar p=true):Sm p∧p≠[]:=by
 obtain⟨p1,p7,hp⟩:=bi.1 h
 refine⟨fun n hn=>?_,fun e=>by rw[e] at p1;simp at p1⟩
 obtain⟨k,hk,rfl⟩:=List.getElem_of_mem hn
 have:=hp k hk
 rw[fx p k hk] at this
 omega
theorem Hs {t:ByteArray} (h:cS t=false):ppL t=[]:=by
 unfold ppL
 cases hq:ar (spL t)
 ·exact mQ hq
 ·unfold cS at h
  rw[hq,Bool.and_true] at h
  rw[uO h]
  exact mQ (by decide)
theorem Fb (t:ByteArray):ow t=cS t∧spP t=ppL t:=by
 by_cases h:av (aQ (au 32 t) 8)=t
 ·have hp:ar (aQ (au 32 t) 8)=true:=by
   cases hq:ar (aQ (au 32 t) 8)
   ·rw[lJ hq] at h
    subst h
    exact absurd hq (by decide)
   ·rfl
  have h0:=h
  obtain⟨L,hL⟩:∃L,aQ (au 32 t) 8=L:=⟨_,rfl⟩
  rw[hL] at h hp
  rw[fP hp] at h
  obtain⟨k1,k2⟩:=kP (xW hp).2 (xW hp).1
  rw[h] at k1 k2
  have hk:cS t=true:=by unfold cS;rw[k1,dE k1,k2,hp];rfl
  exact⟨by rw[hk];exact decide_eq_true h0,(r9 hk).1⟩
 ·have hk:cS t=false:=by
   cases hq:cS t
   ·rfl
   ·exact absurd (He hq) h
  exact⟨by rw[hk];exact decide_eq_false h,by rw[GB h,Hs hk]⟩
end Go.Proofs.YtfmjklgfpiffbaaGreatDoor
