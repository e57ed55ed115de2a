/-
  Parts of the proof of one statement, merged: ErH EsTc Sem ExS EsF OkD EsH EsO EsOc EsJ ExD EsM EsMb EsMc EsMd EsOb EsOd ExL.
-/
import Derived.Test.YtfmjklgfpiffbaaGreatDoorQ33
import Derived.Test.YtfmjklgfpiffbaaGreatDoorQ34
namespace Go.Proofs.YtfmjklgfpiffbaaGreatDoor
open Go.RowKit Go.Proofs.Tryz
set_option linter.unusedVariables false
set_option linter.unusedSimpArgs false
set_option maxRecDepth 100000
set_option maxHeartbeats 8000000
attribute [local go_sem ↓] Go.wp_at_zero Go.wp_at_succ
def Ay:ByteArray:=⟨#[99,108,101,97,110,10]⟩
def Fc:ByteArray:=⟨#[109,97,110,121,10]⟩
def uz (a m:Int):ByteArray:=⟨#[101,114,114,111,114,32]⟩++aA a++⟨#[32]⟩++aA m++⟨#[10]⟩
def eA (l:List Int) (d:Int):ByteArray:=if fdC l d=0 then Ay else if fdC l d=1 then uz (fdA l d) (fdM l d) else if fdC l d=2 then Fc else noS
theorem Hn {I J:ByteArray} (hI:I.size≤21) (hJ:J.size≤21):¬ 9223372036854775807<6+I.size∧¬ 9223372036854775807<6+I.size+1∧¬ 9223372036854775807<6+I.size+1+J.size∧¬ 9223372036854775807<6+I.size+1+J.size+1 ∧
  (⟨#[101,114,114,111,114,32]⟩++I).size=6+I.size∧(⟨#[101,114,114,111,114,32]⟩++I++⟨#[32]⟩).size=6+I.size+1∧(⟨#[101,114,114,111,114,32]⟩++I++⟨#[32]⟩++J).size=6+I.size+1+J.size:=by
 refine⟨by omega,by omega,by omega,by omega,?_,?_,?_⟩ <;> (simp only[Ii];rfl)
theorem GT (l:List Int) (d:Int) (hl:l.length≤60):0≤fdA l d∧fdA l d≤60:=by
 unfold fdA
 split
 ·rename_i h
  have:=(jV h).1
  omega
 ·omega
theorem Ei (b:Nat) (d:ae) (dg:Int) (w:World) (hd:bR w b d) (ok:d.Ok) (hg:dV b w) (hdg : -9223372036854775808≤dg∧dg≤9223372036854775807):
  Calls prog 129 #[.pointer (some ⟨b,0,none⟩),.int .i64 dg] w fun e w'=>ja w b (eA d.tab dg) d e w':=by
 have HD:=Hy hd
 have HG:=Hy hg
 have htl:=ok.tab
 have ha:=GT d.tab dg htl
 have hm:=oO d.tab dg
 obtain⟨p,en,t,k0,-,-,k3⟩:=hd
 have HT:=Hy k3.ints
 obtain⟨A,c,rfl,-,-,-⟩:=k3.ints.open_
 obtain⟨c0,c1,c2,c3,c4,c5⟩:=k0.desk
 have HF:=Hy (show eA d.tab dg=if fdC d.tab dg=0 then Ay else if fdC d.tab dg=1 then uz (fdA d.tab dg) (fdM d.tab dg) else if fdC d.tab dg=2 then Fc else noS from rfl)
 have hcase:=l8 d.tab dg
 have HI:=Hy (oZ _ d.tab dg w HT.out hdg)
 clear k0 k3 hg c0 c1 c3 c4 c5
 obtain⟨a,hA⟩:∃a,fdA d.tab dg=a:=⟨_,rfl⟩
 obtain⟨m,hM⟩:∃m,fdM d.tab dg=m:=⟨_,rfl⟩
 obtain⟨k,hK⟩:∃k,fdC d.tab dg=k:=⟨_,rfl⟩
 unfold FdE at HI
 rw[hA] at ha
 rw[hM] at hm
 rw[hK] at hcase
 rw[hA,hM,hK] at HI HF
 clear hA hM hK
 go_enter func129,ntmps129
 go_wp2_with fail
 refine HI.out.mono ?_
 rintro e w1 ⟨rfl,b1⟩
 have HB:=Hy b1
 clear b1 c2
 rcases hcase with rfl|rfl|rfl|rfl
 ·go_wp2
  go_ret
  exact⟨by rw[HF.out];rfl,HD.out.bel HB.out,aC _ HB.out⟩
 ·have s1:=bc (n:=a) (by omega) (by omega)
  have s2:=bc (n:=m) (by omega) (by omega)
  obtain⟨I,hI⟩:∃I,aA a=I:=⟨_,rfl⟩
  obtain⟨J,hJ⟩:∃J,aA m=J:=⟨_,rfl⟩
  have HII:=Hy (show ∀w,Tab w→Calls prog 113 #[.int .i64 a] w fun e w'=>e=.returned (.string I)∧Below w.heap.size w w' from fun w h=>by rw[←hI];exact fD a w (by omega) h)
  have HJJ:=Hy (show ∀w,Tab w→Calls prog 113 #[.int .i64 m] w fun e w'=>e=.returned (.string J)∧Below w.heap.size w w' from fun w h=>by rw[←hJ];exact fD m w (by omega) h)
  have HFE:=Hy (show eA d.tab dg=⟨#[101,114,114,111,114,32]⟩++I++⟨#[32]⟩++J++⟨#[10]⟩ by rw[HF.out,←hI,←hJ];rfl)
  rw[hI] at s1
  rw[hJ] at s2
  clear hI hJ
  obtain⟨g1,g2,g3,g4,r1,r2,r3⟩:=Hn s1 s2
  go_wp2_with fail
  refine(HII.out _ (HG.out.bel HB.out).glb.1).mono ?_
  rintro e w2 ⟨rfl,b2⟩
  have HB2:=Hy (aa HB.out b2)
  clear b2
  go_wp2_with fail
  refine(HJJ.out _ (HG.out.bel HB2.out).glb.1).mono ?_
  rintro e w3 ⟨rfl,b3⟩
  have HB3:=Hy (aa HB2.out b3)
  clear b3
  go_wp2
  go_ret
  exact⟨by rw[HFE.out];rfl,HD.out.bel HB3.out,aC _ HB3.out⟩
 ·go_wp2
  go_ret
  exact⟨by rw[HF.out];rfl,HD.out.bel HB.out,aC _ HB.out⟩
 ·go_wp2
  go_ret
  exact⟨by rw[HF.out];rfl,HD.out.bel HB.out,aC _ HB.out⟩
def gh:ByteArray:=⟨#[102,105,110,100]⟩
def dn:ByteArray:=⟨#[99,111,114,114,101,99,116]⟩
def gz:ByteArray:=⟨#[101,114,114,97,116,97]⟩
def iQ:ByteArray:=⟨#[97,112,112,108,121]⟩
def gx:ByteArray:=⟨#[100,101,103,114,101,101]⟩
theorem AN {d:ae} {dg:Int} (ok:d.Ok) (hdg : -9223372036854775808≤dg∧dg≤9223372036854775807):cG gh [dg] d (eA d.tab dg) d:=by
 intro b v w hv hd hg
 have HD:=Hy hd
 have HG:=Hy hg
 have HOK:=Hy ok
 have HDG:=Hy hdg
 obtain⟨g,cn,rfl,hgl,hcn⟩:=eH hv (by simp)
 have n0:w.cell? ⟨g,0,none⟩=some (.int .i64 dg):=hcn 0 (by simp)
 have tok2:True:=trivial
 clear hg hv hcn hd ok hdg
 unfold gh
 go_enter func56,ntmps56
 go_wp2_with fail
 refine(Ei b d dg w HD.out HOK.out HG.out HDG.out).mono ?_
 rintro e w4 ⟨rfl,d4,g4⟩
 have HE:=Hy (Ie d4 g4)
 clear d4 g4 n0
 go_wp2
 go_ret
 exact⟨rfl,HE.out.1,HE.out.2⟩
theorem yc (l:List Int) (d:Int) (h:l.length≤60):(crL l d).length≤60:=by
 unfold crL
 split
 ·exact h
 ·split
  ·rw[List.length_set];exact h
  ·exact Ip _
theorem wk {d:ae} {dg:Int} (ok:d.Ok) (hdg : -9223372036854775808≤dg∧dg≤9223372036854775807):cG dn [dg] d (aj (aw (crL d.tab dg)) (ed d.tab dg&&ag (crL d.tab dg))) (aJ d (crL d.tab dg) (ed d.tab dg)):=by
 intro b v w hv hd hg
 have HD:=Hy hd
 have HG:=Hy hg
 have HDG:=Hy hdg
 have htl:=ok.tab
 have hrl:(crL d.tab dg).length≤1048576:=Ih (yc _ _ htl) (by omega)
 obtain⟨pv,en,t,k0,-,-,k3⟩:=hd
 have HT:=Hy k3.ints
 obtain⟨A,c,rfl,-,-,-⟩:=k3.ints.open_
 obtain⟨g,cn,rfl,hgl,hcn⟩:=eH hv (by simp)
 have n0:w.cell? ⟨g,0,none⟩=some (.int .i64 dg):=hcn 0 (by simp)
 obtain⟨c0,c1,c2,c3,c4,c5⟩:=k0.desk
 clear c0 c1 c3 c4 c5
 have tok1:True:=trivial
 have tok2:True:=trivial
 clear k0 k3 hg ok hv hcn hdg
 unfold dn
 go_enter func56,ntmps56
 go_wp2_with fail
 go_region_law (first
  |(go_simp;go_at_call 126;have _t:=tok1;refine(uE _ d.tab dg _ (by first|exact HT.out|exact HT.out.bel (ah _)) HDG.out).mono ?_;rintro e1 w3 ⟨r,rfl,o3,b3⟩;replace b3:Below w.heap.size w w3:=(by first|exact b3|exact aa (ah _) b3);have HB:=Hy b3;have HO:=Hy o3.low;clear tok1 b3 o3 n0 c2)
  |(go_simp;go_at_call 122;have _t:=tok2;refine(jP b d _ (crL d.tab dg) (ed d.tab dg) _ (HD.out.bel HB.out) HO.out hrl (HG.out.bel HB.out)).mono ?_;rintro e2 w4 ⟨rfl,d4,g4⟩;have HE:=Hy (Ie d4 g4);clear tok2 d4 g4)
  |fail)
 all_goals
  go_wp2
  go_ret
  exact⟨rfl,HE.out.1,az (aC _ HB.out) HE.out.2⟩
theorem oS (es:List Etm) (h:∀k,k<es.length→kr (aB es k)):(cz es).size≤4000:=by
 unfold cz
 split
 ·rename_i ho
  split
  ·decide
  ·have hl:=m8 ho
   have:=il (l:=es.map etS) (sep:=⟨#[59]⟩) (B:=65) (fun x hx=>by
    obtain⟨y,hy,rfl⟩:=List.mem_map.1 hx
    obtain⟨j,hj,rfl⟩:=List.getElem_of_mem hy
    rw[←io hj]
    exact nv _ (h j hj))
   rw[List.length_map] at this
   have e:(⟨#[59]⟩:ByteArray).size=1:=rfl
   rw[e] at this
   have:(1+65)*es.length≤66*60:=Nat.mul_le_mul (by omega) hl
   omega
 ·exact Ip _
theorem xK {d:ae} {t:ByteArray} (ht:t.size≤1000000):jL gz t d (aj (cz (cA (spL t) d.tab)) (aE t&&bz (spL t) d.tab)) d:=by
 intro b w hd hg
 have HD:=Hy hd
 have HG:=Hy hg
 obtain⟨pv,en,tv,k0,-,-,k3⟩:=hd
 have HT:=Hy k3.ints
 have HK:=Hy k0
 clear hg k0
 unfold gz
 go_enter func57,ntmps57
 go_wp2_with fail
 refine(dY t w (by omega) HG.out.glb).mono ?_
 rintro e w2 ⟨r,rfl,o,b2⟩
 have HB:=Hy b2
 have HO:=Hy o.ints
 have HK2:=Hy (HK.out.below b2 HK.out.lt)
 have HT2:=Hy (HT.out.bel b2)
 obtain⟨A,c,rfl,-,-,-⟩:=k3.ints.open_
 clear o b2 k3
 have HS:=Hy (show aj (cz (cA (spL t) d.tab)) (aE t&&bz (spL t) d.tab)=if aE t=true then aj (cz (cA (spL t) d.tab)) (bz (spL t) d.tab) else noS by
  cases aE t <;> rfl)
 cases hq:aE t
 ·have HN:=Hy (show aj (cz (cA (spL t) d.tab)) (aE t&&bz (spL t) d.tab)=noS by rw[HS.out,hq];rfl)
  clear hq
  go_wp2
  go_ret
  exact⟨by rw[HN.out];rfl,HD.out.bel HB.out,aC _ HB.out⟩
 ·have HN:=Hy (show aj (cz (cA (spL t) d.tab)) (aE t&&bz (spL t) d.tab)=aj (cz (cA (spL t) d.tab)) (bz (spL t) d.tab) by rw[HS.out,hq];rfl)
  obtain⟨c0,c1,c2,c3,c4,c5⟩:=HK2.out.desk
  clear c0 c1 c3 c4 c5 hq
  go_wp2_with fail
  refine(xM _ _ (spL t) d.tab _ HO.out HT2.out).mono ?_
  rintro e w3 ⟨r3,rfl,o3,b3⟩
  have HB3:=Hy (aa HB.out b3)
  have HR3:=Hy o3.read
  have hsz:=oS _ o3.2.2
  clear o3 b3 c2
  go_wp2_with fail
  refine(zN _ _ _ HR3.out (HG.out.bel HB3.out).glb.1).mono ?_
  rintro e w4 ⟨rfl,b4⟩
  have HB4:=Hy (aa HB3.out b4)
  clear b4
  go_wp2_with fail
  refine(cB _ (bz (spL t) d.tab) _ (by omega)).mono ?_
  rintro e w6 ⟨rfl,rfl⟩
  go_wp2
  go_ret
  exact⟨by rw[HN.out];rfl,HD.out.bel HB4.out,aC _ HB4.out⟩
theorem tx:∀ {es:List Etm} {l m:List Int},fo l es=some m→m.length=l.length
 |[],l,m,h=>by injection h with h;rw[h]
 |x::es,l,m,h=>by
  unfold fo at h
  split at h
  ·have:=tx h
   rwa[List.length_set] at this
  ·cases h
theorem rL (l:List Int) (es:List Etm) (h:l.length≤60):(apL l es).length≤60:=by
 unfold apL
 split
 ·rename_i ho
  cases hm:fo l es with
  |none=>exact Ip _
  |some m=>
   have:=tx hm
   show m.length≤60
   omega
 ·exact Ip _
def d9 (d:ae) (t:ByteArray):Bool:=iH t&&fc d.tab (peL t)
theorem yP {d:ae} {t:ByteArray} (ok:d.Ok) (ht:t.size≤1000000):jL iQ t d (aj (aw (apL d.tab (peL t))) (d9 d t&&ag (apL d.tab (peL t)))) (aJ d (apL d.tab (peL t)) (d9 d t)):=by
 intro b w hd hg
 have HD:=Hy hd
 have HG:=Hy hg
 have hlen:(apL d.tab (peL t)).length≤1048576:=Ih (rL _ _ ok.tab) (by omega)
 obtain⟨pv,en,tv,k0,-,-,k3⟩:=hd
 have HT:=Hy k3.ints
 have HK:=Hy k0
 have hnm:1<w.heap.size:=by
  obtain⟨m,hm⟩:=hg.glb.2.1
  exact World.block_lt_of_cell? _ _ hm
 clear hg k0
 unfold iQ
 go_enter func57,ntmps57
 go_wp2_with fail
 refine(yO t w ht HG.out.glb hnm).mono ?_
 rintro e w2 ⟨r,rfl,o,b2⟩
 have HB:=Hy b2
 have HO:=Hy o.read
 have HK2:=Hy (HK.out.below b2 HK.out.lt)
 have HT2:=Hy (HT.out.bel b2)
 obtain⟨A,c,rfl,-,-,-⟩:=k3.ints.open_
 clear o b2 k3 hnm
 cases hq:iH t
 ·have HN:=Hy (show d9 d t=false by unfold d9;rw[hq];rfl)
  clear hq
  go_wp2
  go_ret
  exact⟨by rw[HN.out];rfl,by unfold aJ;rw[HN.out];exact HD.out.bel HB.out,aC _ HB.out⟩
 ·have HN:=Hy (show d9 d t=fc d.tab (peL t) by unfold d9;rw[hq];rfl)
  obtain⟨c0,c1,c2,c3,c4,c5⟩:=HK2.out.desk
  clear c0 c1 c3 c4 c5 hq
  go_wp2_with fail
  refine(wS _ _ d.tab (peL t) _ HT2.out HO.out).mono ?_
  rintro e w3 ⟨r3,rfl,o3,b3⟩
  have HB3:=Hy (aa HB.out b3)
  have HO3:=Hy o3.low
  clear o3 b3 c2
  go_wp2_with fail
  refine(jP b d _ (apL d.tab (peL t)) (fc d.tab (peL t)) _ (HD.out.bel HB3.out) HO3.out hlen (HG.out.bel HB3.out)).mono ?_
  rintro e2 w4 ⟨rfl,d4,g4⟩
  have HE:=Hy (Ie d4 g4)
  clear d4 g4
  go_wp2
  go_ret
  exact⟨by rw[HN.out];rfl,by rw[HN.out];exact HE.out.1,az (aC _ HB3.out) HE.out.2⟩
theorem rZ (l:List Int) : -2≤et l∧et l≤7:=by
 unfold et
 split
 ·have:=Ft l
  omega
 ·omega
theorem xG {d:ae} (ok:d.Ok):gd gx d (aj (aA (et d.tab)) (ag d.tab)) d:=by
 intro b w hd hg
 have HD:=Hy hd
 have HG:=Hy hg
 have hdb:=rZ d.tab
 have htl:=ok.tab
 have hz:=bc (n:=et d.tab) (by omega) (by omega)
 obtain⟨pv,en,t,k0,-,-,k3⟩:=hd
 have HT:=Hy k3.ints
 have HK:=Hy k0
 obtain⟨A,c,rfl,-,-,-⟩:=k3.ints.open_
 obtain⟨c0,c1,c2,c3,c4,c5⟩:=k0.desk
 have tok1:True:=trivial
 have tok2:True:=trivial
 have tok3:True:=trivial
 have tok4:True:=trivial
 clear k0 k3 hg ok
 unfold gx
 go_enter func54,ntmps54
 go_wp2_with fail
 go_region_held3 (fun w'=>w'.cell? ⟨b,2,none⟩=some (.slice A d.tab.length c)) (first|exact HK.out.desk4.1|exact HK3.out.desk4.1|exact HK4.out.desk4.1|go_keep) (first
  |((try go_simp);go_at_call 114;have _t:=tok1;go_loud (refine(mx _ d.tab _ (by first|exact HT.out|exact HT.out.bel (ah _)) (by omega)).mono ?_;rintro e w3 ⟨rfl,b3⟩;replace b3:Below w.heap.size w w3:=(by first|exact b3|exact aa (ah _) b3);have HB:=Hy b3;have HK3:=Hy (HK.out.below b3 HK.out.lt);clear tok1 b3;(try dsimp only)))
  |((try go_simp);go_at_call 113;have _t:=tok2;go_loud (refine(fD (et d.tab) _ (by omega) (HG.out.bel HB.out).glb.1).mono ?_;rintro e w4 ⟨rfl,b3⟩;have HB4:=Hy (aa HB.out b3);have HK4:=Hy (HK3.out.below b3 HK3.out.lt);have HT4:=Hy (HT.out.bel HB4.out);clear tok2 b3;(try dsimp only)))
  |((try go_simp);go_at_call 115;have _t:=tok3;go_loud (refine(aF _ d.tab _ HT4.out).mono ?_;rintro e w5 ⟨rfl,rfl⟩;clear tok3;(try dsimp only)))
  |((try go_simp);go_at_call 102;have _t:=tok4;go_loud (refine(cB _ (ag d.tab) _ (by omega)).mono ?_;rintro e w6 ⟨rfl,rfl⟩;clear tok4;(try dsimp only)))
  |fail)
 clear c0 c1 c2 c3 c4 c5
 go_wp2
 go_ret
 exact⟨rfl,HD.out.bel HB4.out,aC _ HB4.out⟩
theorem Fe {c:UInt8}:∀ {l r:List UInt8},c∈l→((l++r).takeWhile fun b=>b != c).length<l.length
 |[],_,h=>by cases h
 |b::l,r,h=>by
  rw[List.cons_append,List.takeWhile_cons]
  by_cases e:b=c
  ·simp[e]
  ·have e2:(b != c)=true:=by simp[e]
   rw[e2]
   simp only[if_true,List.length_cons]
   have:=Fe (r:=r) (show c∈l from (List.mem_cons.1 h).elim (fun h=>absurd h.symm e) fun h=>h)
   omega
theorem FB (c:UInt8) (s:ByteArray):(bef c s).size=(s.data.toList.takeWhile fun b=>b != c).length:=by
 have:=congrArg List.length (fG (s.data.toList.takeWhile fun b=>b != c))
 have e2:(bef c s).data.toList.length=(bef c s).size:=Array.length_toList
 rw[←this,←e2]
 rfl
theorem G8 (c:UInt8) (h0:c≠45) (h1:Lib.digitVal c=none) {s:ByteArray} (h:c∈s.data.toList):(bp s).isSome=false:=by
 cases hq:(bp s).isSome
 ·rfl
 ·have e:=jD hq
  rw[←e] at h
  exact absurd h (nj c h1 h0 _)
theorem FO {s:ByteArray} (h:bO 58 s=false):etT s=false:=by
 unfold etT wx
 rw[(jb h).2,(jb (c:=62) (s:=⟨#[]⟩) (by decide)).2,nD]
 simp
theorem Fr {s:ByteArray} (h:62∈(bef 58 s).data.toList):etT s=false:=by
 unfold etT za
 rw[G8 62 (by decide) (by decide) h]
 rfl
theorem Fw {s:ByteArray} (h:bO 62 (aft 58 s)=false):etT s=false:=by
 unfold etT wx
 rw[(jb h).2,nD]
 simp
theorem Bg {s:ByteArray} (h:bO 58 s=true) (h2:62∈(bef 58 s).data.toList):(bef 62 s).size<(bef 58 s).size:=by
 have e:=gE h
 have hl:s.data.toList=(bef 58 s).data.toList++(58::(aft 58 s).data.toList):=by
  conv=>lhs;rw[←e]
  simp
 rw[FB,hl]
 have:=Fe (r:=58::(aft 58 s).data.toList) h2
 have e2:(bef 58 s).data.toList.length=(bef 58 s).size:=Array.length_toList
 omega
theorem Fu {s:ByteArray} (h:bO 58 s=true) (h2:62∉(bef 58 s).data.toList) (h3:bO 62 (aft 58 s)=false):bO 62 s=false:=by
 rw[Bool.eq_false_iff] at h3 ⊢
 intro h4
 have e:=gE h
 have h5:=ga.1 h4
 rw[←e] at h5
 simp at h5
 rcases h5 with h5|h5
 ·exact h2 (by simpa using h5)
 ·exact h3 (ga.2 (by simpa using h5))
theorem Ej {s:ByteArray} (h:bO 58 s=true) (h2:62∉(bef 58 s).data.toList) (h3:bO 62 (aft 58 s)=true):
  bO 62 s=true∧bef 62 s=bef 58 s++⟨#[58]⟩++bef 62 (aft 58 s)∧aft 62 s=aft 62 (aft 58 s)∧s.extract ((bef 58 s).size+1) (bef 62 s).size=bef 62 (aft 58 s)∧(bef 62 s).size=(bef 58 s).size+1+(bef 62 (aft 58 s)).size:=by
 have e:=gE h
 have e3:=gE h3
 have e4:s=(bef 58 s++⟨#[58]⟩++bef 62 (aft 58 s))++⟨#[62]⟩++aft 62 (aft 58 s):=by
  conv=>lhs;rw[←e]
  apply wE
  have:=congrArg (fun x=>x.data.toList) e3
  simp only[ByteArray.toList_data_append] at this ⊢
  rw[←this]
  simp
 have hno:(62:UInt8)∉(bef 58 s++⟨#[58]⟩++bef 62 (aft 58 s)).data.toList:=by
  have:=vB 62 (aft 58 s)
  simp
  exact⟨by simpa using h2,by simpa using this⟩
 obtain⟨b1,b2,b3⟩:=FU (c:=62) (a:=bef 58 s++⟨#[58]⟩++bef 62 (aft 58 s)) (aft 62 (aft 58 s)) hno
 rw[←e4] at b1 b2 b3
 have hsz:(bef 62 s).size=(bef 58 s).size+1+(bef 62 (aft 58 s)).size:=by
  rw[b1,Ii,Ii];rfl
 refine⟨b3,b1,b2,?_,hsz⟩
 have hl:s.data.toList=(bef 58 s).data.toList++58::((bef 62 (aft 58 s)).data.toList++62::(aft 62 (aft 58 s)).data.toList):=by
  conv=>lhs;rw[e4]
  simp
 have hb:(bef 58 s).data.toList.length=(bef 58 s).size:=Array.length_toList
 have hc:(bef 62 (aft 58 s)).data.toList.length=(bef 62 (aft 58 s)).size:=Array.length_toList
 rw[gF]
 unfold mid
 rw[hl,show(bef 58 s).size+1=(bef 58 s).data.toList.length+1 by omega,List.drop_append]
 have:((bef 58 s).data.toList).drop ((bef 58 s).data.toList.length+1)=[]:=List.drop_eq_nil_of_le (by omega)
 rw[this,show(bef 58 s).data.toList.length+1-(bef 58 s).data.toList.length=1 by omega,List.drop_succ_cons,List.drop_zero,List.nil_append,show(bef 62 s).size-((bef 58 s).data.toList.length+1)=(bef 62 (aft 58 s)).data.toList.length by omega,List.take_left]
 exact gg _
theorem EG (s:ByteArray) (w:World) (hs:s.size≤1048576):
  Calls prog 81 #[.string s] w fun e w'=>∃a b c:Int,e=.returned (.tuple #[.agg #[.int .i64 a,.int .i64 b,.int .i64 c],.bool (etT s)])∧(etT s=true→(a,b,c)=etV s)∧kr (a,b,c)∧Below w.heap.size w w':=by
 have HK:=Hy (Blk.new w 111 [.int .i64 0,.int .i64 0,.int .i64 0])
 have HB:=Hy (ab w (.cells #[.int .i64 0,.int .i64 0,.int .i64 0] 111))
 go_enter func81,ntmps81
 go_wp2_with fail
 generalize hW:w.alloc (.cells #[.int .i64 0,.int .i64 0,.int .i64 0] 111)=W at HK HB ⊢
 clear hW
 refine(nZ s 58 _ hs).mono ?_
 rintro e w1 ⟨rfl,rfl⟩
 go_wp2_with fail
 refine(nZ s 62 _ hs).mono ?_
 rintro e w1 ⟨rfl,rfl⟩
 have f0:=HK.out.frozen 0
 have f1:=HK.out.frozen 1
 have f2:=HK.out.frozen 2
 obtain⟨c0,c1,c2⟩:=HK.out.three
 have fin:∀(a b c:Int),Blk (((W.setCell ⟨w.heap.size,0,none⟩ (.int .i64 a)).setCell ⟨w.heap.size,1,none⟩ (.int .i64 b)).setCell ⟨w.heap.size,2,none⟩ (.int .i64 c)) w.heap.size 111 [.int .i64 a,.int .i64 b,.int .i64 c]∧Below w.heap.size w (((W.setCell ⟨w.heap.size,0,none⟩ (.int .i64 a)).setCell ⟨w.heap.size,1,none⟩ (.int .i64 b)).setCell ⟨w.heap.size,2,none⟩ (.int .i64 c)):=fun a b c=>
  ⟨((HK.out.set_ 0 (.int .i64 a)).set_ 1 (.int .i64 b)).set_ 2 (.int .i64 c),((HB.out.setCell (p:=⟨w.heap.size,0,none⟩) (Ig _) _).setCell (p:=⟨w.heap.size,1,none⟩) (Ig _) _).setCell (p:=⟨w.heap.size,2,none⟩) (Ig _) _⟩
 have HFN:=Hy fin
 clear fin
 by_cases hgood:bO 58 s=true∧62∉(bef 58 s).data.toList∧bO 62 (aft 58 s)=true
 ·obtain⟨q1,q2,q3⟩:=hgood
  obtain⟨p1,p2,p3,p4,p5⟩:=Ej q1 q2 q3
  obtain⟨m1,m2,m3⟩:=si q1
  obtain⟨n1,n2,n3⟩:=si p1
  have HF1:=Hy (mZ q1)
  have HF2:=Hy (mZ p1)
  have HV:=Hy (show etV s=(cE (bef 58 s),cE (bef 62 (aft 58 s)),cE (aft 62 (aft 58 s))) from rfl)
  have HT:=Hy (show etT s=(((bp (bef 58 s)).isSome&&(bp (bef 62 (aft 58 s))).isSome)&&(bp (aft 62 (aft 58 s))).isSome) from rfl)
  rw[p3] at n2 n3
  have z1:(bef 58 s).size≤1048576:=by omega
  have z2:(bef 62 (aft 58 s)).size≤1048576:=by omega
  have z3:(aft 62 (aft 58 s)).size≤1048576:=by omega
  rw[HF1.out,HF2.out]
  clear p1 p2 p3 n1 q1 q2 q3 HF1 HF2
  obtain⟨X,hX⟩:∃X,bef 58 s=X:=⟨_,rfl⟩
  obtain⟨Y,hY⟩:∃Y,bef 62 (aft 58 s)=Y:=⟨_,rfl⟩
  obtain⟨Z,hZ⟩:∃Z,aft 62 (aft 58 s)=Z:=⟨_,rfl⟩
  obtain⟨a,ha⟩:∃a,(bef 58 s).size=a:=⟨_,rfl⟩
  obtain⟨b,hb⟩:∃b,(bef 62 s).size=b:=⟨_,rfl⟩
  rw[ha] at m1 m3 p4 p5 z1 ⊢
  rw[hb] at p4 p5 n2 n3 ⊢
  rw[hX] at m1 HV HT
  rw[hY] at p4 p5 z2 HV HT
  rw[hZ] at n2 n3 z3 HV HT
  have hXz:X.size=a:=by rw[←hX];exact ha
  have hab:a+1≤b:=by omega
  have hbs:b+1≤s.size:=by omega
  have t1:¬((a:Nat):Int)<0:=by omega
  have t2:¬((b:Nat):Int)<(a:Int):=by omega
  have t3:(a:Int)≤(s.size:Int):=by omega
  have t4:(0:Int)≤(a:Int):=by omega
  have t5:(a:Int)+1≤(b:Int):=by omega
  have t6:(b:Int)≤(s.size:Int):=by omega
  have t7:(b:Int)+1≤(s.size:Int):=by omega
  have t8:(0:Int)≤(b:Int):=by omega
  have HM:=Hy (Ie m1 (Ie p4 n2))
  clear hX hY hZ ha hb m1 m2 m3 p4 p5 n2 n3
  go_wp2_with fail
  rw[HM.out.1]
  refine(jo X _ (by omega)).mono ?_
  rintro e w3 ⟨he,hw3⟩
  rw[hw3]
  unfold cV at he
  subst he
  clear hw3 w3
  go_wp2_with fail
  first|rw[HM.out.2.1]|(rw[show((a:Int)+1).toNat=a+1 by omega,HM.out.2.1])
  refine(jo Y _ z2).mono ?_
  rintro e w3 ⟨he,hw3⟩
  rw[hw3]
  unfold cV at he
  subst he
  clear hw3 w3
  go_wp2_with fail
  first|rw[HM.out.2.2]|(rw[show((b:Int)+1).toNat=b+1 by omega,HM.out.2.2])
  refine(jo Z _ z3).mono ?_
  rintro e w3 ⟨he,hw3⟩
  rw[hw3]
  unfold cV at he
  subst he
  clear hw3 w3
  have v1:=fM X
  have v2:=fM Y
  have v3:=fM Z
  obtain⟨n1,hn1⟩:∃x,cE X=x:=⟨_,rfl⟩
  obtain⟨n2,hn2⟩:∃x,cE Y=x:=⟨_,rfl⟩
  obtain⟨n3,hn3⟩:∃x,cE Z=x:=⟨_,rfl⟩
  obtain⟨o1,ho1⟩:∃x,(bp X).isSome=x:=⟨_,rfl⟩
  obtain⟨o2,ho2⟩:∃x,(bp Y).isSome=x:=⟨_,rfl⟩
  obtain⟨o3,ho3⟩:∃x,(bp Z).isSome=x:=⟨_,rfl⟩
  rw[hn1] at v1
  rw[hn2] at v2
  rw[hn3] at v3
  rw[hn1,hn2,hn3] at HV
  rw[ho1,ho2,ho3] at HT
  rw[hn1,hn2,hn3,ho1,ho2,ho3]
  clear hn1 hn2 hn3 ho1 ho2 ho3
  cases o1
  case' true=>cases o2
  all_goals
   go_wp2
   obtain⟨kk,bb⟩:=HFN.out n1 n2 n3
   generalize hW:((W.setCell ⟨w.heap.size,0,none⟩ (.int .i64 n1)).setCell ⟨w.heap.size,1,none⟩ (.int .i64 n2)).setCell ⟨w.heap.size,2,none⟩ (.int .i64 n3)=w6 at kk bb ⊢
   obtain⟨x0,x1,x2⟩:=kk.three
   first
    |refine bodyPost_ret (v:=.tuple #[.agg #[.int .i64 n1,.int .i64 n2,.int .i64 n3],.bool false]) (by simp[results,results81,go_sem,x0,x1,x2]) rfl ⟨n1,n2,n3,by rw[HT.out];rfl,fun _=>HV.out.symm,⟨by show _≤n1∧n1≤_;omega,by show _≤n2∧n2≤_;omega,by show _≤n3∧n3≤_;omega⟩,bb⟩
    |refine bodyPost_ret (v:=.tuple #[.agg #[.int .i64 n1,.int .i64 n2,.int .i64 n3],.bool o3]) (by simp[results,results81,go_sem,x0,x1,x2]) rfl ⟨n1,n2,n3,by rw[HT.out];rfl,fun _=>HV.out.symm,⟨by show _≤n1∧n1≤_;omega,by show _≤n2∧n2≤_;omega,by show _≤n3∧n3≤_;omega⟩,bb⟩
 ·have HTF:=Hy (show etT s=false by
   cases h1:bO 58 s
   ·exact FO h1
   ·by_cases h2:62∈(bef 58 s).data.toList
    ·exact Fr h2
    ·cases h3:bO 62 (aft 58 s)
     ·exact Fw h3
     ·exact absurd ⟨h1,h2,h3⟩ hgood)
  have hf:jF 58 s = -1∨(0≤jF 58 s∧jF 62 s<jF 58 s):=by
   cases h1:bO 58 s
   ·exact .inl (rh h1)
   ·right
    rw[mZ h1]
    refine⟨by omega,?_⟩
    by_cases h2:62∈(bef 58 s).data.toList
    ·have:=Bg h1 h2
     unfold jF
     split <;> omega
    ·have h3:bO 62 (aft 58 s)=false:=by
      cases h3:bO 62 (aft 58 s)
      ·rfl
      ·exact absurd ⟨h1,h2,h3⟩ hgood
     rw[rh (Fu h1 h2 h3)]
     omega
  clear hgood
  obtain⟨x,hx⟩:∃x,jF 58 s=x:=⟨_,rfl⟩
  obtain⟨y,hy⟩:∃y,jF 62 s=y:=⟨_,rfl⟩
  rw[hx,hy] at hf ⊢
  clear hx hy
  have hB:=HB.out
  rcases hf with rfl|⟨h1,h2⟩
  all_goals
   try have t1:¬x<0:=by omega
   go_wp2
   obtain⟨kk,bb⟩:=HFN.out 0 0 0
   generalize hW:((W.setCell ⟨w.heap.size,0,none⟩ (.int .i64 0)).setCell ⟨w.heap.size,1,none⟩ (.int .i64 0)).setCell ⟨w.heap.size,2,none⟩ (.int .i64 0)=w6 at kk bb ⊢
   obtain⟨x0,x1,x2⟩:=kk.three
   refine bodyPost_ret (v:=.tuple #[.agg #[.int .i64 0,.int .i64 0,.int .i64 0],.bool false]) (by simp[results,results81,go_sem,x0,x1,x2]) rfl ⟨0,0,0,by rw[HTF.out],fun h=>absurd h (by rw[HTF.out];simp),⟨by decide,by decide,by decide⟩,bb⟩
end Go.Proofs.YtfmjklgfpiffbaaGreatDoor
namespace Go.Proofs.YtfmjklgfpiffbaaGreatDoor
open Go.RowKit Go.Proofs.Tryz
set_option linter.unusedVariables false
set_option linter.unusedSimpArgs false
set_option maxRecDepth 100000
set_option maxHeartbeats 8000000
def dc:List ByteArray:=[kx,ky,kA,gw,gC,kD,mr,gx,iO,iR,d8]
def dr:List ByteArray:=[d8,gG,gI,iI,gz,iQ,ms]
def db:List ByteArray:=[eQ,eO,dK,jf,fY,dn,eM,dN,gh,fU,eK,eV]
def aP (d:ae) (s:ByteArray):ByteArray×ae:=
 if s=kx then(aj (bx (ek d.eng)) (af d.eng),aX d (ek d.eng) (af d.eng)) else
 if s=ky then(aj (bx (aS aW d.eng)) (af d.eng),aX d (aS aW d.eng) (af d.eng)) else
 if s=kA then(aj (bx (aS bI d.eng)) (af d.eng),aX d (aS bI d.eng) (af d.eng)) else
 if s=gw then(aj (bx (aS du d.eng)) (af d.eng),aX d (aS du d.eng) (af d.eng)) else
 if s=gC then(aj (bx (aS gQ d.eng)) (af d.eng),aX d (aS gQ d.eng) (af d.eng)) else
 if s=kD then(aj (av (rdL d.eng)) (jY d.eng),d) else
 if s=mr then(aj (av (itL d.tab)) (ej d.tab),dD d (itL d.tab) (ej d.tab)) else
 if s=gx then(aj (aA (et d.tab)) (ag d.tab),d) else
 if s=iO then(aj (aw (ff d.tab 9)) (ag d.tab),d) else
 if s=iR then(df d,d) else
 if s=d8 then(av d.poly++nlS,d) else
 (ey,d)
noncomputable def bH (d:ae) (s r:ByteArray):ByteArray×ae:=
 if s=d8 then(fO r,jt d r) else
 if s=gG then(aj (av (fpL (ppL r))) (cS r&&iG (ppL r)),dD d (fpL (ppL r)) (cS r&&iG (ppL r))) else
 if s=gI then(aj (bx (peE r)) (af (au 32 r)),aX d (peE r) (af (au 32 r))) else
 if s=iI then(aj (aw (spL r)) (aE r&&ag (spL r)),aJ d (spL r) (aE r)) else
 if s=gz then(aj (cz (cA (spL r) d.tab)) (aE r&&bz (spL r) d.tab),d) else
 if s=iQ then(aj (aw (apL d.tab (peL r))) (d9 d r&&ag (apL d.tab (peL r))),aJ d (apL d.tab (peL r)) (d9 d r)) else
 if s=ms then(gk d r,iX d r) else
 (ey,d)
def aK (d:ae) (s:ByteArray) (l:List Int):ByteArray×ae:=
 if s=eQ then(aj (bx (di d.poly (at_ l 0) (at_ l 1))) (cF d.poly (at_ l 0) (at_ l 1)),aX d (di d.poly (at_ l 0) (at_ l 1)) (cF d.poly (at_ l 0) (at_ l 1))) else
 if s=eO then(aj (bx (tmL d.eng (at_ l 0))) (cD d.eng (at_ l 0)),aX d (tmL d.eng (at_ l 0)) (cD d.eng (at_ l 0))) else
 if s=dK then(aj (aw (bY d.poly (at_ l 0) (at_ l 1))) (cf d.poly (at_ l 0) (at_ l 1)&&ag (bY d.poly (at_ l 0) (at_ l 1))),aJ d (bY d.poly (at_ l 0) (at_ l 1)) (cf d.poly (at_ l 0) (at_ l 1))) else
 if s=jf then(aj (aw (eN d.eng (at_ l 0))) (ci d.eng (at_ l 0)&&ag (eN d.eng (at_ l 0))),aJ d (eN d.eng (at_ l 0)) (ci d.eng (at_ l 0))) else
 if s=fY then(aj (aw (eY d.eng (at_ l 0) (at_ l 1) (at_ l 2) (at_ l 3))) (dk d.eng (at_ l 0) (at_ l 1) (at_ l 2) (at_ l 3)&&ag (eY d.eng (at_ l 0) (at_ l 1) (at_ l 2) (at_ l 3))),aJ d (eY d.eng (at_ l 0) (at_ l 1) (at_ l 2) (at_ l 3)) (dk d.eng (at_ l 0) (at_ l 1) (at_ l 2) (at_ l 3))) else
 if s=dn then(aj (aw (crL d.tab (at_ l 0))) (ed d.tab (at_ l 0)&&ag (crL d.tab (at_ l 0))),aJ d (crL d.tab (at_ l 0)) (ed d.tab (at_ l 0))) else
 if s=eM then(aj (aw (rtL d.tab (at_ l 0) (at_ l 1))) (eX d.tab (at_ l 0) (at_ l 1)&&ag (rtL d.tab (at_ l 0) (at_ l 1))),aJ d (rtL d.tab (at_ l 0) (at_ l 1)) (eX d.tab (at_ l 0) (at_ l 1))) else
 if s=dN then(jU (at_ l 0) (at_ l 1) (at_ l 2),eJ d (at_ l 0) (at_ l 1) (at_ l 2)) else
 if s=gh then(eA d.tab (at_ l 0),d) else
 if s=fU then(aj (cW (grP d.tab (at_ l 0))) (eo d.tab (at_ l 0)),d) else
 if s=eK then(aj (cW (chP d.tab (at_ l 0) (at_ l 1) (at_ l 2))) (eu d.tab (at_ l 0) (at_ l 1) (at_ l 2)),d) else
 if s=eV then(aj (aw (dX d (at_ l 0))) (decide (0<(dX d (at_ l 0)).length)),d) else
 (ey,d)
theorem mD (d:ae):aP d kx=(aj (bx (ek d.eng)) (af d.eng),aX d (ek d.eng) (af d.eng)):=by
 unfold aP
 rw[if_pos rfl]
theorem mp (d:ae):aP d ky=(aj (bx (aS aW d.eng)) (af d.eng),aX d (aS aW d.eng) (af d.eng)):=by
 unfold aP
 rw[if_neg (by decide)]
 rw[if_pos rfl]
theorem mF (d:ae):aP d kA=(aj (bx (aS bI d.eng)) (af d.eng),aX d (aS bI d.eng) (af d.eng)):=by
 unfold aP
 rw[if_neg (by decide)]
 rw[if_neg (by decide)]
 rw[if_pos rfl]
theorem kQ (d:ae):aP d gw=(aj (bx (aS du d.eng)) (af d.eng),aX d (aS du d.eng) (af d.eng)):=by
 unfold aP
 rw[if_neg (by decide)]
 rw[if_neg (by decide)]
 rw[if_neg (by decide)]
 rw[if_pos rfl]
theorem kX (d:ae):aP d gC=(aj (bx (aS gQ d.eng)) (af d.eng),aX d (aS gQ d.eng) (af d.eng)):=by
 unfold aP
 rw[if_neg (by decide)]
 rw[if_neg (by decide)]
 rw[if_neg (by decide)]
 rw[if_neg (by decide)]
 rw[if_pos rfl]
theorem mB (d:ae):aP d kD=(aj (av (rdL d.eng)) (jY d.eng),d):=by
 unfold aP
 rw[if_neg (by decide)]
 rw[if_neg (by decide)]
 rw[if_neg (by decide)]
 rw[if_neg (by decide)]
 rw[if_neg (by decide)]
 rw[if_pos rfl]
theorem lj (d:ae):aP d mr=(aj (av (itL d.tab)) (ej d.tab),dD d (itL d.tab) (ej d.tab)):=by
 unfold aP
 rw[if_neg (by decide)]
 rw[if_neg (by decide)]
 rw[if_neg (by decide)]
 rw[if_neg (by decide)]
 rw[if_neg (by decide)]
 rw[if_neg (by decide)]
 rw[if_pos rfl]
theorem kU (d:ae):aP d gx=(aj (aA (et d.tab)) (ag d.tab),d):=by
 unfold aP
 rw[if_neg (by decide)]
 rw[if_neg (by decide)]
 rw[if_neg (by decide)]
 rw[if_neg (by decide)]
 rw[if_neg (by decide)]
 rw[if_neg (by decide)]
 rw[if_neg (by decide)]
 rw[if_pos rfl]
theorem lD (d:ae):aP d iO=(aj (aw (ff d.tab 9)) (ag d.tab),d):=by
 unfold aP
 rw[if_neg (by decide)]
 rw[if_neg (by decide)]
 rw[if_neg (by decide)]
 rw[if_neg (by decide)]
 rw[if_neg (by decide)]
 rw[if_neg (by decide)]
 rw[if_neg (by decide)]
 rw[if_neg (by decide)]
 rw[if_pos rfl]
theorem lV (d:ae):aP d iR=(df d,d):=by
 unfold aP
 rw[if_neg (by decide)]
 rw[if_neg (by decide)]
 rw[if_neg (by decide)]
 rw[if_neg (by decide)]
 rw[if_neg (by decide)]
 rw[if_neg (by decide)]
 rw[if_neg (by decide)]
 rw[if_neg (by decide)]
 rw[if_neg (by decide)]
 rw[if_pos rfl]
theorem mC (d:ae):aP d d8=(av d.poly++nlS,d):=by
 unfold aP
 rw[if_neg (by decide)]
 rw[if_neg (by decide)]
 rw[if_neg (by decide)]
 rw[if_neg (by decide)]
 rw[if_neg (by decide)]
 rw[if_neg (by decide)]
 rw[if_neg (by decide)]
 rw[if_neg (by decide)]
 rw[if_neg (by decide)]
 rw[if_neg (by decide)]
 rw[if_pos rfl]
theorem qf (d:ae) (s:ByteArray) (hn:∀w∈dc,s≠w):aP d s=(ey,d):=by
 unfold aP
 rw[if_neg (hn kx (by simp[dc]))]
 rw[if_neg (hn ky (by simp[dc]))]
 rw[if_neg (hn kA (by simp[dc]))]
 rw[if_neg (hn gw (by simp[dc]))]
 rw[if_neg (hn gC (by simp[dc]))]
 rw[if_neg (hn kD (by simp[dc]))]
 rw[if_neg (hn mr (by simp[dc]))]
 rw[if_neg (hn gx (by simp[dc]))]
 rw[if_neg (hn iO (by simp[dc]))]
 rw[if_neg (hn iR (by simp[dc]))]
 rw[if_neg (hn d8 (by simp[dc]))]
theorem kB (d:ae) (r:ByteArray):bH d d8 r=(fO r,jt d r):=by
 unfold bH
 rw[if_pos rfl]
theorem gn (d:ae) (r:ByteArray):bH d gG r=(aj (av (fpL (ppL r))) (cS r&&iG (ppL r)),dD d (fpL (ppL r)) (cS r&&iG (ppL r))):=by
 unfold bH
 rw[if_neg (by decide)]
 rw[if_pos rfl]
theorem kV (d:ae) (r:ByteArray):bH d gI r=(aj (bx (peE r)) (af (au 32 r)),aX d (peE r) (af (au 32 r))):=by
 unfold bH
 rw[if_neg (by decide)]
 rw[if_neg (by decide)]
 rw[if_pos rfl]
theorem lT (d:ae) (r:ByteArray):bH d iI r=(aj (aw (spL r)) (aE r&&ag (spL r)),aJ d (spL r) (aE r)):=by
 unfold bH
 rw[if_neg (by decide)]
 rw[if_neg (by decide)]
 rw[if_neg (by decide)]
 rw[if_pos rfl]
theorem iT (d:ae) (r:ByteArray):bH d gz r=(aj (cz (cA (spL r) d.tab)) (aE r&&bz (spL r) d.tab),d):=by
 unfold bH
 rw[if_neg (by decide)]
 rw[if_neg (by decide)]
 rw[if_neg (by decide)]
 rw[if_neg (by decide)]
 rw[if_pos rfl]
theorem jH (d:ae) (r:ByteArray):bH d iQ r=(aj (aw (apL d.tab (peL r))) (d9 d r&&ag (apL d.tab (peL r))),aJ d (apL d.tab (peL r)) (d9 d r)):=by
 unfold bH
 rw[if_neg (by decide)]
 rw[if_neg (by decide)]
 rw[if_neg (by decide)]
 rw[if_neg (by decide)]
 rw[if_neg (by decide)]
 rw[if_pos rfl]
theorem nk (d:ae) (r:ByteArray):bH d ms r=(gk d r,iX d r):=by
 unfold bH
 rw[if_neg (by decide)]
 rw[if_neg (by decide)]
 rw[if_neg (by decide)]
 rw[if_neg (by decide)]
 rw[if_neg (by decide)]
 rw[if_neg (by decide)]
 rw[if_pos rfl]
theorem qw (d:ae) (r:ByteArray) (s:ByteArray) (hn:∀w∈dr,s≠w):bH d s r=(ey,d):=by
 unfold bH
 rw[if_neg (hn d8 (by simp[dr]))]
 rw[if_neg (hn gG (by simp[dr]))]
 rw[if_neg (hn gI (by simp[dr]))]
 rw[if_neg (hn iI (by simp[dr]))]
 rw[if_neg (hn gz (by simp[dr]))]
 rw[if_neg (hn iQ (by simp[dr]))]
 rw[if_neg (hn ms (by simp[dr]))]
theorem lR (d:ae) (l:List Int):aK d eQ l=(aj (bx (di d.poly (at_ l 0) (at_ l 1))) (cF d.poly (at_ l 0) (at_ l 1)),aX d (di d.poly (at_ l 0) (at_ l 1)) (cF d.poly (at_ l 0) (at_ l 1))):=by
 unfold aK
 rw[if_pos rfl]
theorem lE (d:ae) (l:List Int):aK d eO l=(aj (bx (tmL d.eng (at_ l 0))) (cD d.eng (at_ l 0)),aX d (tmL d.eng (at_ l 0)) (cD d.eng (at_ l 0))):=by
 unfold aK
 rw[if_neg (by decide)]
 rw[if_pos rfl]
theorem kY (d:ae) (l:List Int):aK d dK l=(aj (aw (bY d.poly (at_ l 0) (at_ l 1))) (cf d.poly (at_ l 0) (at_ l 1)&&ag (bY d.poly (at_ l 0) (at_ l 1))),aJ d (bY d.poly (at_ l 0) (at_ l 1)) (cf d.poly (at_ l 0) (at_ l 1))):=by
 unfold aK
 rw[if_neg (by decide)]
 rw[if_neg (by decide)]
 rw[if_pos rfl]
theorem n9 (d:ae) (l:List Int):aK d jf l=(aj (aw (eN d.eng (at_ l 0))) (ci d.eng (at_ l 0)&&ag (eN d.eng (at_ l 0))),aJ d (eN d.eng (at_ l 0)) (ci d.eng (at_ l 0))):=by
 unfold aK
 rw[if_neg (by decide)]
 rw[if_neg (by decide)]
 rw[if_neg (by decide)]
 rw[if_pos rfl]
theorem mt (d:ae) (l:List Int):aK d fY l=(aj (aw (eY d.eng (at_ l 0) (at_ l 1) (at_ l 2) (at_ l 3))) (dk d.eng (at_ l 0) (at_ l 1) (at_ l 2) (at_ l 3)&&ag (eY d.eng (at_ l 0) (at_ l 1) (at_ l 2) (at_ l 3))),aJ d (eY d.eng (at_ l 0) (at_ l 1) (at_ l 2) (at_ l 3)) (dk d.eng (at_ l 0) (at_ l 1) (at_ l 2) (at_ l 3))):=by
 unfold aK
 rw[if_neg (by decide)]
 rw[if_neg (by decide)]
 rw[if_neg (by decide)]
 rw[if_neg (by decide)]
 rw[if_pos rfl]
theorem jS (d:ae) (l:List Int):aK d dn l=(aj (aw (crL d.tab (at_ l 0))) (ed d.tab (at_ l 0)&&ag (crL d.tab (at_ l 0))),aJ d (crL d.tab (at_ l 0)) (ed d.tab (at_ l 0))):=by
 unfold aK
 rw[if_neg (by decide)]
 rw[if_neg (by decide)]
 rw[if_neg (by decide)]
 rw[if_neg (by decide)]
 rw[if_neg (by decide)]
 rw[if_pos rfl]
theorem lF (d:ae) (l:List Int):aK d eM l=(aj (aw (rtL d.tab (at_ l 0) (at_ l 1))) (eX d.tab (at_ l 0) (at_ l 1)&&ag (rtL d.tab (at_ l 0) (at_ l 1))),aJ d (rtL d.tab (at_ l 0) (at_ l 1)) (eX d.tab (at_ l 0) (at_ l 1))):=by
 unfold aK
 rw[if_neg (by decide)]
 rw[if_neg (by decide)]
 rw[if_neg (by decide)]
 rw[if_neg (by decide)]
 rw[if_neg (by decide)]
 rw[if_neg (by decide)]
 rw[if_pos rfl]
theorem iU (d:ae) (l:List Int):aK d dN l=(jU (at_ l 0) (at_ l 1) (at_ l 2),eJ d (at_ l 0) (at_ l 1) (at_ l 2)):=by
 unfold aK
 rw[if_neg (by decide)]
 rw[if_neg (by decide)]
 rw[if_neg (by decide)]
 rw[if_neg (by decide)]
 rw[if_neg (by decide)]
 rw[if_neg (by decide)]
 rw[if_neg (by decide)]
 rw[if_pos rfl]
theorem ml (d:ae) (l:List Int):aK d gh l=(eA d.tab (at_ l 0),d):=by
 unfold aK
 rw[if_neg (by decide)]
 rw[if_neg (by decide)]
 rw[if_neg (by decide)]
 rw[if_neg (by decide)]
 rw[if_neg (by decide)]
 rw[if_neg (by decide)]
 rw[if_neg (by decide)]
 rw[if_neg (by decide)]
 rw[if_pos rfl]
theorem mJ (d:ae) (l:List Int):aK d fU l=(aj (cW (grP d.tab (at_ l 0))) (eo d.tab (at_ l 0)),d):=by
 unfold aK
 rw[if_neg (by decide)]
 rw[if_neg (by decide)]
 rw[if_neg (by decide)]
 rw[if_neg (by decide)]
 rw[if_neg (by decide)]
 rw[if_neg (by decide)]
 rw[if_neg (by decide)]
 rw[if_neg (by decide)]
 rw[if_neg (by decide)]
 rw[if_pos rfl]
theorem lP (d:ae) (l:List Int):aK d eK l=(aj (cW (chP d.tab (at_ l 0) (at_ l 1) (at_ l 2))) (eu d.tab (at_ l 0) (at_ l 1) (at_ l 2)),d):=by
 unfold aK
 rw[if_neg (by decide)]
 rw[if_neg (by decide)]
 rw[if_neg (by decide)]
 rw[if_neg (by decide)]
 rw[if_neg (by decide)]
 rw[if_neg (by decide)]
 rw[if_neg (by decide)]
 rw[if_neg (by decide)]
 rw[if_neg (by decide)]
 rw[if_neg (by decide)]
 rw[if_pos rfl]
theorem mE (d:ae) (l:List Int):aK d eV l=(aj (aw (dX d (at_ l 0))) (decide (0<(dX d (at_ l 0)).length)),d):=by
 unfold aK
 rw[if_neg (by decide)]
 rw[if_neg (by decide)]
 rw[if_neg (by decide)]
 rw[if_neg (by decide)]
 rw[if_neg (by decide)]
 rw[if_neg (by decide)]
 rw[if_neg (by decide)]
 rw[if_neg (by decide)]
 rw[if_neg (by decide)]
 rw[if_neg (by decide)]
 rw[if_neg (by decide)]
 rw[if_pos rfl]
theorem Dm (d:ae) (l:List Int) (s:ByteArray) (hn:∀w∈db,s≠w):aK d s l=(ey,d):=by
 unfold aK
 rw[if_neg (hn eQ (by simp[db]))]
 rw[if_neg (hn eO (by simp[db]))]
 rw[if_neg (hn dK (by simp[db]))]
 rw[if_neg (hn jf (by simp[db]))]
 rw[if_neg (hn fY (by simp[db]))]
 rw[if_neg (hn dn (by simp[db]))]
 rw[if_neg (hn eM (by simp[db]))]
 rw[if_neg (hn dN (by simp[db]))]
 rw[if_neg (hn gh (by simp[db]))]
 rw[if_neg (hn fU (by simp[db]))]
 rw[if_neg (hn eK (by simp[db]))]
 rw[if_neg (hn eV (by simp[db]))]
end Go.Proofs.YtfmjklgfpiffbaaGreatDoor
namespace Go.Proofs.YtfmjklgfpiffbaaGreatDoor
open Go.RowKit Go.Proofs.Tryz
set_option linter.unusedVariables false
set_option linter.unusedSimpArgs false
set_option maxRecDepth 100000
set_option maxHeartbeats 8000000
attribute [local go_sem ↓] Go.wp_at_zero Go.wp_at_succ
theorem Bv (R A W M:Nat) (p:Int) (v:Value) (l:List Int) (w:World) (hv:ai w v l) (h1:1≤R∧R≤20) (h2:1≤A∧A≤6) (h3:1≤W∧W≤12) (hl:l.length≤60) (hM:R*A=M) (hno:¬(ag l=true∧0≤p∧p<(pgN l M:Int))):
  Calls prog 220 #[.agg #[.int .i64 R,.int .i64 A,.int .i64 W],v,.int .i64 p] w fun e w'=>e=.returned (.bool false)∧Below w.heap.size w w':=by
 have HV:=Hy hv
 have HM:=Hy hM
 have HNO:=Hy hno
 have hlay:=fl h1 h2 h3
 have hM0:0<M:=by rw[←hM];exact Nat.mul_pos h1.1 h2.1
 have hq60:pgN l M≤60:=Ih (jQ hM0) hl
 obtain⟨q0,hq0⟩:∃q,pgN l M=q:=⟨_,rfl⟩
 rw[hq0] at hq60 HNO
 have HQ:=Hy hq0
 obtain⟨B,cp,rfl,hlc,hc,hrd⟩:=hv.open_
 have K1:=Blk.new w 29 [.int .i64 R,.int .i64 A,.int .i64 W]
 have B1:=ab w (.cells #[.int .i64 R,.int .i64 A,.int .i64 W] 29)
 obtain⟨a0,a1,a2⟩:=K1.lay
 clear hv hrd hM hq0 hno
 go_enter func220,ntmps220
 go_wp2_with fail
 refine(eD R A W _).mono ?_
 rintro e w2 ⟨rfl,b2⟩
 rw[hlay]
 replace K1:=K1.below b2 K1.lt
 have HB:=Hy (aa B1 b2)
 clear a0 a1 a2 b2 B1
 obtain⟨a0,a1,a2⟩:=K1.lay
 go_wp2_with fail
 refine(aF _ l _ (HV.out.bel HB.out)).mono ?_
 rintro e w3 ⟨rfl,rfl⟩
 cases ht:ag l
 ·clear ht
  go_wp2
  go_ret
  exact⟨rfl,HB.out⟩
 ·by_cases hp:0≤p
  ·have hpq:¬p<(q0:Int):=fun h=>HNO.out ⟨ht,hp,h⟩
   clear ht
   go_wp2_with fail
   refine(nM R A W l _ h1 h2 h3 hl).mono ?_
   rw[HM.out,HQ.out]
   rintro e w4 ⟨rfl,b4⟩
   have HB4:=Hy (aa HB.out b4)
   clear a0 a1 a2 b4
   go_wp2
   go_ret
   exact⟨aD (decide_eq_false (Int.not_lt.2 hpq)),HB4.out⟩
  ·clear ht
   go_wp2
   go_ret
   exact⟨rfl,HB.out⟩
theorem tX (R A W M:Nat) (p:Int) (v:Value) (l:List Int) (w:World) (hv:ai w v l) (h1:1≤R∧R≤20) (h2:1≤A∧A≤6) (h3:1≤W∧W≤12) (hl:l.length≤60) (hM:R*A=M) (hno:¬(ag l=true∧0≤p∧p<(pgN l M:Int))):
  Calls prog 133 #[.agg #[.int .i64 R,.int .i64 A,.int .i64 W],v,.int .i64 p] w fun e w'=>e=.returned (.slice none 0 0)∧Below w.heap.size w w':=by
 have HV:=Hy hv
 have HM:=Hy hM
 have HNO:=Hy hno
 obtain⟨B,cp,rfl,hlc,hc,hrd⟩:=hv.open_
 have K1:=Blk.new w 29 [.int .i64 R,.int .i64 A,.int .i64 W]
 have B1:=ab w (.cells #[.int .i64 R,.int .i64 A,.int .i64 W] 29)
 obtain⟨a0,a1,a2⟩:=K1.lay
 clear hv hrd hM hno
 go_enter func133,ntmps133
 go_wp2_with fail
 refine(Bv R A W M p _ l _ (HV.out.bel B1) h1 h2 h3 hl HM.out HNO.out).mono ?_
 rintro e w2 ⟨rfl,b2⟩
 have HB:=Hy (aa B1 b2)
 clear a0 a1 a2 b2 B1
 go_wp2
 go_ret
 exact⟨rfl,HB.out⟩
theorem y8 {d:ae} {p:Int} (ok:d.Ok) (hno:¬(ag d.tab=true∧0≤p∧p<(pgN d.tab (d.rw*d.ac):Int))):cG eV [p] d noS d:=by
 intro b v w hv hd hg
 have HD:=Hy hd
 have HG:=Hy hg
 have htl:=ok.tab
 have HNO:=Hy hno
 obtain⟨h1,h2,h3⟩:=Ie ok.rw (Ie ok.ac ok.wi)
 obtain⟨pv,en,t,k0,-,-,k3⟩:=hd
 have HT:=Hy k3.ints
 have HK:=Hy k0
 obtain⟨A,c,rfl,-,-,-⟩:=k3.ints.open_
 obtain⟨g,cn,rfl,hgl,hcn⟩:=eH hv (by simp)
 have n0:w.cell? ⟨g,0,none⟩=some (.int .i64 p):=hcn 0 (by simp)
 obtain⟨c0,c1,c2,c3,c4,c5⟩:=k0.desk
 have HN:=Hy n0
 have tok1:True:=trivial
 clear k0 k3 hg ok hno hv hcn
 unfold eV
 go_enter func56,ntmps56
 go_wp2_with fail
 go_region_held3 (fun w'=>(w'.cell? ⟨b,2,none⟩=some (.slice A d.tab.length c)∧w'.cell? ⟨b,3,none⟩=some (.int .i64 d.rw)∧w'.cell? ⟨b,4,none⟩=some (.int .i64 d.ac)∧w'.cell? ⟨b,5,none⟩=some (.int .i64 d.wi))∧w'.cell? ⟨g,0,none⟩=some (.int .i64 p)) (first|exact⟨HK.out.desk4,HN.out⟩|exact⟨(HK.out.below HB.out HK.out.lt).desk4,(HB.out.cell (by exact hgl)).trans HN.out⟩|go_keep) (first
  |((try go_simp);go_at_call 133;have _t:=tok1;go_loud (refine(tX d.rw d.ac d.wi (d.rw*d.ac) p _ d.tab _ (by first|exact HT.out|exact HT.out.bel (ah _)) h1 h2 h3 htl rfl HNO.out).mono ?_;rintro e w3 ⟨rfl,b3⟩;replace b3:Below w.heap.size w w3:=(by first|exact b3|exact aa (ah _) b3);have HB:=Hy b3;clear tok1 b3;(try dsimp only)))
  |fail)
 clear c0 c1 c2 c3 c4 c5 n0
 have HE:=Hy (show ∀w,ai w (.slice none 0 0) [] from fun w=>(Own.nil_ w 0).ints)
 go_wp2_with fail
 refine(dz _ [] _ (HE.out _) (by simp) (HG.out.bel HB.out).glb.1).mono ?_
 rintro e w4 ⟨rfl,b4⟩
 replace HB:=Hy (aa HB.out b4)
 clear b4
 go_wp2_with fail
 refine(cB _ false _ (by decide)).mono ?_
 rintro e w5 ⟨rfl,rfl⟩
 go_wp2
 go_ret
 exact⟨rfl,HD.out.bel HB.out,aC _ HB.out⟩
theorem Ad {d:ae} {p:Int} (ok:d.Ok):cG eV [p] d (aj (aw (dX d p)) (decide (0<(dX d p).length))) d:=by
 cases h:nF d p
 ·have e:dX d p=[]:=by unfold dX;rw[if_neg (by rw[h];simp)]
  rw[e]
  refine y8 ok fun hc=>?_
  unfold nF at h
  rw[hc.1,decide_eq_true hc.2] at h
  cases h
 ·have e:dX d p=iu d.rw d.ac d.tab p.toNat:=by unfold dX;rw[if_pos h]
  unfold nF at h
  rw[Is] at h
  have h2:=of_decide_eq_true h.2
  obtain⟨p,rfl⟩:∃k:Nat,p=k:=⟨p.toNat,by omega⟩
  rw[e]
  have hl:(iu d.rw d.ac d.tab (p:Int).toNat).length=d.ac:=gD _ _ _ _
  rw[decide_eq_true (show 0<(iu d.rw d.ac d.tab (p:Int).toNat).length by rw[hl];exact ok.ac.1)]
  exact AW ok h.1 (by omega)
theorem bG {x:ByteArray} {l:List UInt8} (h:¬x=⟨l.toArray⟩):(x.toList==l)=false:=by
 rw[beq_eq_false_iff_ne]
 intro e
 rw[ByteArray.toList_eq] at e
 exact h (ByteArray.ext (by rw[←e]))
theorem Bs {d:ae} {s:ByteArray} (h:s∉dc):gd s d ey d:=by
 intro b w hd hg
 have HD:=Hy hd
 clear hd hg
 simp only[dc,Iq,Ir,or_false,not_or] at h
 obtain⟨h1,h2,h3,h4,h5,h6,h7,h8,h9,h10,h11⟩:=h
 replace h1:=bG (l:=[116,117,114,110]) h1
 replace h2:=bG (l:=[98,97,99,107]) h2
 replace h3:=bG (l:=[115,107,101,119]) h3
 replace h4:=bG (l:=[117,110,115,107,101,119]) h4
 replace h5:=bG (l:=[104,97,108,118,101,115]) h5
 replace h6:=bG (l:=[114,101,97,100]) h6
 replace h7:=bG (l:=[102,105,116]) h7
 replace h8:=bG (l:=[100,101,103,114,101,101]) h8
 replace h9:=bG (l:=[110,105,110,101,115]) h9
 replace h10:=bG (l:=[112,114,105,110,116]) h10
 replace h11:=bG (l:=[112,111,108,121]) h11
 go_enter func54,ntmps54
 go_wp2
 go_ret
 exact⟨rfl,HD.out,aC _ (Below.refl _ _)⟩
theorem Ck {d:ae} {s r:ByteArray} (h:s∉dr):jL s r d ey d:=by
 intro b w hd hg
 have HD:=Hy hd
 clear hd hg
 simp only[dr,Iq,Ir,or_false,not_or] at h
 obtain⟨h1,h2,h3,h4,h5,h6,h7⟩:=h
 replace h1:=bG (l:=[112,111,108,121]) h1
 replace h2:=bG (l:=[112,111,119,101,114,115]) h2
 replace h3:=bG (l:=[101,110,103,105,110,101]) h3
 replace h4:=bG (l:=[116,97,98,108,101]) h4
 replace h5:=bG (l:=[101,114,114,97,116,97]) h5
 replace h6:=bG (l:=[97,112,112,108,121]) h6
 replace h7:=bG (l:=[106,111,98]) h7
 go_enter func57,ntmps57
 go_wp2
 go_ret
 exact⟨rfl,HD.out,aC _ (Below.refl _ _)⟩
theorem AA (v:Value) (l:List Int) (k:Nat) (a:Int) (w:World) (hv:ai w v l) (ht:ag l=true) (hk:k<l.length) (ha : -128000000000≤a∧a≤128000000000):
  Calls prog 167 #[v,.int .i64 k,.int .i64 a] w fun e w'=>∃r,e=.returned r∧Own w' w.heap.size r (l.set k (at_ l k+a))∧Below w.heap.size w w':=by
 have HV:=Hy hv
 obtain⟨t1,t60,tb⟩:=ay ht
 have hx:=tb k hk
 obtain⟨A,c,rfl,-,-,-⟩:=hv.open_
 have OE:=Hy (Own.empty w w.heap.size (Ig _))
 have BA:=Hy (ab w (.cells #[] 3))
 clear hv tb ht
 have p1:(k:Int)<(l.length:Int):=by omega
 have p2:(0:Int)≤(k:Int):=by omega
 have HSET:=Hy (fun (W:World) (v:Value) (h:Own W w.heap.size v l) (g cp:Nat) (hv:v=.slice (some ⟨g,0,none⟩) l.length cp)=>(by subst hv;exact h.set_ k (at_ l k+a) hk (by omega):Own (W.setCell ⟨g,k,none⟩ (.int .i64 (at_ l k+a))) w.heap.size (.slice (some ⟨g,0,none⟩) l.length cp) (l.set k (at_ l k+a))))
 have HOP:=Hy (fun (W:World) (v:Value) (h:Own W w.heap.size v l)=>h.openN (by omega))
 obtain⟨X,hX⟩:∃X,at_ l k=X:=⟨_,rfl⟩
 have HX:=Hy hX
 rw[hX] at hx HSET
 have wz:IntKind.i64.wrap (X+a)=X+a:=(IntWalk.i64_left _).trans (IntWalk.wrap64_in _ (by omega))
 have HT60:=Hy (Ie hk t60)
 clear hX
 go_enter func167,ntmps167
 go_wp2_with (at_builtin;go_must (refine lK rfl _ _ (by rfl) w.heap.size (.slice (some ⟨w.heap.size,0,none⟩) 0 0) _ [] l (by rfl) (by exact OE.out) (by rfl) (by exact HV.out.bel BA.out) (by simp only[List.length_nil];omega) (by simp) ?_);intro v1 w1 ho hg hat;rw[List.nil_append] at ho;obtain⟨g,cp,hv1,hg1,hcl,hcm,hgz,hcells⟩:=HOP.out _ _ ho;have HO:=Hy (HSET.out _ _ ho g cp hv1);subst hv1;obtain⟨x1,x2⟩:=hcells k hk;rw[HX.out] at x1;have HB2:=Hy ((dO BA.out OE.out hg).setCell (p:=⟨g,k,none⟩) hg1 (.int .i64 (X+a)));clear hcells hg hat ho)
 go_ret
 exact⟨_,rfl,by rw[HX.out];exact HO.out,HB2.out⟩
theorem vS (v:Value) (l:List Int) (d:Int) (w:World) (hv:ai w v l) (hl:l.length≤1048576):
  Calls prog 90 #[v,.int .i64 d] w (cK w (crL l d) (ed l d)):=by
 have HV:=Hy hv
 obtain⟨A,c,rfl,-,-,-⟩:=hv.open_
 clear hv
 have hcs:=l8 l d
 go_enter func90,ntmps90
 go_wp2_with fail
 refine(oL _ l d _ HV.out).mono ?_
 rintro e w2 ⟨he,b2⟩
 unfold FdE at he
 subst he
 have HB:=Hy b2
 have hmb:=oO l d
 clear b2
 by_cases h1:fdC l d=1
 ·have HY:=Hy (show ed l d=true∧crL l d=l.set (fW l d) (at_ l (fW l d) + -(fdM l d)) from⟨by unfold ed;rw[h1];rfl,by unfold crL;rw[if_neg (by omega),if_pos h1];rfl⟩)
  obtain⟨q1,q2⟩:=jV h1
  have HT:=Hy (lG q2).1
  have HA:=Hy (show fdA l d=(fW l d:Int) by unfold fdA;rw[if_pos h1])
  rw[HA.out,h1]
  obtain⟨k,hk⟩:∃k,fW l d=k:=⟨_,rfl⟩
  obtain⟨M,hM⟩:∃M,fdM l d=M:=⟨_,rfl⟩
  rw[hk] at q1 HY ⊢
  rw[hM] at hmb HY ⊢
  have hng:IntKind.i64.wrap (-M) = -M:=(IntWalk.i64_left _).trans (IntWalk.wrap64_in _ (by omega))
  clear hk hM h1 q2 HA hcs
  go_wp2_with fail
  refine(AA _ l k (-M) _ (HV.out.bel HB.out) HT.out q1 (by omega)).mono ?_
  rintro e w3 ⟨r,rfl,o3,b3⟩
  obtain⟨L,hL⟩:∃L,l.set k (at_ l k + -M)=L:=⟨_,rfl⟩
  rw[hL] at o3 HY
  have HO:=Hy (Ie (o3.lower HB.out.size) (aa HB.out b3))
  obtain⟨A3,c3,rfl,-,-,-⟩:=o3.ints.open_
  clear o3 b3 hL
  go_wp2
  go_ret2
  exact⟨_,by rw[HY.out.1];rfl,by rw[HY.out.2];exact HO.out.1,HO.out.2⟩
 ·by_cases h0:fdC l d=0
  ·have HY:=Hy (show ed l d=true∧crL l d=l from⟨by unfold ed;rw[h0];rfl,by unfold crL;rw[if_pos h0]⟩)
   rw[h0]
   have OE:=Hy (Own.empty w2 w2.heap.size (Ig _))
   have BA:=Hy (ab w2 (.cells #[] 3))
   have HV2:=Hy (HV.out.bel (aa HB.out BA.out))
   clear h0 h1 hcs
   go_wp2_with (at_builtin;go_must (refine lK rfl _ _ (by rfl) w2.heap.size (.slice (some ⟨w2.heap.size,0,none⟩) 0 0) _ [] l (by rfl) (by exact OE.out) (by rfl) (by exact HV2.out) (by simp only[List.length_nil];omega) (by simp) ?_);intro v1 w3 ho hg hat;rw[List.nil_append] at ho)
   have HB3:=Hy (aa HB.out (dO BA.out OE.out hg))
   have HO:=Hy (ho.lower HB.out.size)
   go_ret2
   exact⟨_,by rw[HY.out.1];rfl,by rw[HY.out.2];exact HO.out,HB3.out⟩
  ·have HN:=Hy (show ed l d=false∧crL l d=[] from⟨by unfold ed;exact decide_eq_false (by omega),by unfold crL;rw[if_neg h0,if_neg h1]⟩)
   obtain⟨C,hC⟩:∃C,fdC l d=C:=⟨_,rfl⟩
   rw[hC] at h0 h1 ⊢
   have z0:(C==0)=false:=by rw[beq_eq_false_iff_ne];exact h0
   have z1:(C==1)=false:=by rw[beq_eq_false_iff_ne];exact h1
   have OE:=Hy (Own.empty w2 w.heap.size HB.out.size)
   clear hC hcs
   go_wp2
   go_ret2
   exact⟨_,by rw[HN.out.1];rfl,by rw[HN.out.2];exact OE.out,aa HB.out (ab _ _)⟩
theorem zs (v:Value) (l:List Int) (d:Int) (w:World) (hv:ai w v l):
  Calls prog 91 #[v,.int .i64 d] w fun e w'=>e=.returned (.string (eA l d))∧Below w.heap.size w w':=by
 have HV:=Hy hv
 obtain⟨A,c,rfl,-,-,-⟩:=hv.open_
 clear hv
 have hcs:=l8 l d
 go_enter func91,ntmps91
 go_wp2_with fail
 refine(oL _ l d _ HV.out).mono ?_
 rintro e w2 ⟨he,b2⟩
 unfold FdE at he
 subst he
 have HB:=Hy b2
 have hmb:=oO l d
 clear b2
 rcases hcs with h|h|h|h
 ·have HF:=Hy (show eA l d=⟨#[99,108,101,97,110,10]⟩ by unfold eA;rw[if_pos h];rfl)
  rw[h]
  clear h
  go_wp2
  go_ret
  exact⟨by rw[HF.out];rfl,HB.out⟩
 ·have HF:=Hy (show eA l d=uz (fdA l d) (fdM l d) by unfold eA;rw[if_neg (by omega),if_pos h])
  have hat:0≤fdA l d∧fdA l d≤60:=by
   have e1:fdA l d=(fW l d:Int):=by unfold fdA;rw[if_pos h]
   obtain⟨q1,q2⟩:=jV h
   have:=(ay (lG q2).1).2.1
   omega
  rw[h]
  obtain⟨a,ha⟩:∃a,fdA l d=a:=⟨_,rfl⟩
  obtain⟨M,hM⟩:∃M,fdM l d=M:=⟨_,rfl⟩
  rw[ha] at hat HF ⊢
  rw[hM] at hmb HF ⊢
  have s1:=bc (n:=a) (by omega) (by omega)
  have s2:=bc (n:=M) (by omega) (by omega)
  have HI1:=Hy (fun w=>eC a w (by omega) (by omega))
  have HI2:=Hy (fun w=>eC M w (by omega) (by omega))
  have HFE:uz a M=⟨#[101,114,114,111,114,32]⟩++aA a++⟨#[32]⟩++aA M++⟨#[10]⟩:=rfl
  rw[HFE] at HF
  obtain⟨I,hI⟩:∃I,aA a=I:=⟨_,rfl⟩
  obtain⟨J,hJ⟩:∃J,aA M=J:=⟨_,rfl⟩
  rw[hI] at s1 HI1 HF
  rw[hJ] at s2 HI2 HF
  have e6:(⟨#[101,114,114,111,114,32]⟩:ByteArray).size=6:=rfl
  have e1:(⟨#[32]⟩:ByteArray).size=1:=rfl
  have g1:((⟨#[101,114,114,111,114,32]⟩:ByteArray)++I).size=6+I.size:=by rw[Ii];rfl
  have g2:((⟨#[101,114,114,111,114,32]⟩:ByteArray)++I++⟨#[32]⟩).size=6+I.size+1:=by rw[Ii,g1];rfl
  have g3:((⟨#[101,114,114,111,114,32]⟩:ByteArray)++I++⟨#[32]⟩++J).size=6+I.size+1+J.size:=by rw[Ii,g2]
  have k1:¬ 9223372036854775807<6+I.size:=by omega
  have k2:¬ 9223372036854775807<6+I.size+1:=by omega
  have k3:¬ 9223372036854775807<6+I.size+1+J.size:=by omega
  have k4:¬ 9223372036854775807<6+I.size+1+J.size+1:=by omega
  clear h ha hM hI hJ HFE
  go_wp2_with fail
  refine(HI1.out _).mono ?_
  rintro e w3 ⟨rfl,b3⟩
  have HB3:=Hy (aa HB.out b3)
  clear b3
  go_wp2_with fail
  refine(HI2.out _).mono ?_
  rintro e w4 ⟨rfl,b4⟩
  have HB4:=Hy (aa HB3.out b4)
  clear b4
  go_wp2
  go_ret
  exact⟨by rw[HF.out];rfl,HB4.out⟩
 ·have HF:=Hy (show eA l d=⟨#[109,97,110,121,10]⟩ by unfold eA;rw[if_neg (by omega),if_neg (by omega),if_pos h];rfl)
  rw[h]
  clear h
  go_wp2
  go_ret
  exact⟨by rw[HF.out];rfl,HB.out⟩
 ·have HF:=Hy (show eA l d=⟨#[110,111,10]⟩ by unfold eA;rw[if_neg (by omega),if_neg (by omega),if_neg (by omega)];rfl)
  rw[h]
  clear h
  go_wp2
  go_ret
  exact⟨by rw[HF.out];rfl,HB.out⟩
end Go.Proofs.YtfmjklgfpiffbaaGreatDoor
namespace Go.Proofs.YtfmjklgfpiffbaaGreatDoor
open Go.RowKit Go.Proofs.Tryz
set_option linter.unusedVariables false
set_option linter.unusedSimpArgs false
set_option maxRecDepth 100000
set_option maxHeartbeats 8000000
theorem fq {d:ae} {l:List ByteArray} {k:Bool} (ok:d.Ok) (h:k=true→af l=true):(aX d l k).Ok:=by
 unfold aX
 split
 ·rename_i hk
  exact⟨ok.poly,.inr (h hk),ok.tab,ok.rw,ok.ac,ok.wi⟩
 ·exact ok
theorem pZ {d:ae} {l:List Int} {k:Bool} (ok:d.Ok) (h:k=true→ar l=true):(dD d l k).Ok:=by
 unfold dD
 split
 ·rename_i hk
  exact⟨h hk,ok.eng,ok.tab,ok.rw,ok.ac,ok.wi⟩
 ·exact ok
theorem f9 {d:ae} {l:List Int} {k:Bool} (ok:d.Ok):(aJ d l k).Ok:=by
 unfold aJ
 split
 ·rename_i hk
  rw[Is] at hk
  exact⟨ok.poly,ok.eng,(ay hk.2).2.1,ok.rw,ok.ac,ok.wi⟩
 ·exact ok
theorem zO {d:ae} {r a i:Int} (ok:d.Ok):(eJ d r a i).Ok:=by
 unfold eJ
 split
 ·rename_i hk
  obtain⟨R,A,W,rfl,rfl,rfl,h1,h2,h3⟩:=mS hk
  exact⟨ok.poly,ok.eng,ok.tab,h1,h2,h3⟩
 ·exact ok
theorem uX {l:List Int} (h:ar l=true):ar (gM l)=true:=by rw[gW h];exact h
theorem Ff {t:ByteArray} (h:cS t=true):ar (ppL t)=true:=by
 unfold cS at h
 rw[Is] at h
 exact uX h.2
theorem DC {d:ae} {t:ByteArray} (ok:d.Ok):(jt d t).Ok:=by
 unfold jt
 split
 ·rename_i hk
  exact⟨Ff hk,ok.eng,ok.tab,ok.rw,ok.ac,ok.wi⟩
 ·exact ok
theorem Fj {l:List Int} (h:ej l=true):ar (itL l)=true:=by
 unfold itL
 rw[if_pos h]
 unfold ej at h
 rw[Is] at h
 exact h.2
theorem F2 {l:List Int} (h:iG l=true):ar (fpL l)=true:=by
 unfold iG at h
 rw[Is] at h
 rw[(va h.1).2]
 exact uX h.2
theorem GQ {l:List ByteArray} {n:Int} (h:cD l n=true):af (tmL l n)=true:=by
 rw[sn h]
 unfold cD at h
 rw[Is] at h
 unfold tmS
 split
 ·exact eR h.1 _
 ·exact ee h.1 _
theorem Ec {d:ae} {t:ByteArray} (ok:d.Ok):(iX d t).Ok:=by
 cases h:dZ t
 ·rw[(mW d h).2];exact ok
 ·rw[(po d h).2]
  unfold dZ at h
  rw[Is] at h
  exact lh ok h.2
theorem cX {s:ByteArray} {k:Bool} {B C:Nat} (h:s.size≤B) (hB:B+3≤C):(aj s k).size≤C:=by
 unfold aj
 split
 ·rw[Ii]
  have:nlS.size=1:=rfl
  omega
 ·have:noS.size=3:=rfl
  omega
theorem Hl {s:ByteArray} {B C:Nat} (h:s.size≤B) (hB:B+3≤C):(s++nlS).size≤C:=cX (k:=true) h hB
theorem fv (l:List Int):(av l).size≤154:=by
 cases hq:ar l
 ·rw[lJ hq];exact Ip _
 ·rw[fP hq]
  obtain⟨p1,p7,hp⟩:=bi.1 hq
  have h1:=cr (l:=l) (fun n hn=>by
   obtain⟨k,hk,rfl⟩:=List.getElem_of_mem hn
   have:=hp k hk
   rw[fx l k hk] at this
   omega)
  omega
theorem Hb {l:List Int} (h:ag l=true):Wf l:=fun n hn=>by
 obtain⟨k,hk,rfl⟩:=List.getElem_of_mem hn
 have:=(ay h).2.2 k hk
 rw[fx l k hk] at this
 omega
theorem fX (l:List Int) (k:Bool):(aj (aw l) (k&&ag l)).size≤30000:=by
 cases h:ag l
 ·rw[Bool.and_false]
  show noS.size≤30000
  decide
 ·have h1:=cr (Hb h)
  have h2:=(ay h).2.1
  exact cX (B:=1320) (by omega) (by omega)
theorem tj (l:List Int):(aA (et l)).size≤21:=by
 have:=rZ l
 exact bc (by omega) (by omega)
theorem n6 {d:ae} (ok:d.Ok):(df d).size≤30000:=by
 unfold df
 split
 ·rename_i h
  unfold dQ at h
  rw[Is] at h
  have:=yd h.2 ok.rw.1 ok.ac.1 ok.wi.2 ok.tab
  omega
 ·exact Nat.le_of_lt (by decide)
theorem Gu {d:ae} (ok:d.Ok) (t:ByteArray):(gk d t).size≤30000:=by
 cases h:dZ t
 ·rw[(mW d h).1];exact Nat.le_of_lt (by decide)
 ·rw[(po d h).1]
  unfold dZ at h
  rw[Is] at h
  exact n6 (lh ok h.2)
theorem zK (t:ByteArray):(fO t).size≤30000:=by
 unfold fO
 split <;> exact Nat.le_of_lt (by decide)
theorem Gi (r a i:Int):(jU r a i).size≤30000:=by
 unfold jU
 split <;> exact Nat.le_of_lt (by decide)
theorem Fk (l:List Int) (g:Int):(eA l g).size≤30000:=by
 unfold eA
 split
 ·exact Nat.le_of_lt (by decide)
 ·split
  ·rename_i h
   have h1:(aA (fdA l g)).size≤21:=by
    have:fdA l g=(fW l g:Int):=by unfold fdA;rw[if_pos h]
    have h2:=(jV h)
    have h3:=(lG h2.2).1
    have h4:=(ay h3).2.1
    exact bc (by omega) (by omega)
   have h2:(aA (fdM l g)).size≤21:=by
    have:=oO l g
    exact bc (by omega) (by omega)
   unfold uz
   rw[Ii,Ii,Ii,Ii]
   have e1:(⟨#[101,114,114,111,114,32]⟩:ByteArray).size=6:=rfl
   have e2:(⟨#[32]⟩:ByteArray).size=1:=rfl
   have e3:(⟨#[10]⟩:ByteArray).size=1:=rfl
   omega
  ·split <;> exact Nat.le_of_lt (by decide)
theorem tq:∀ {ps:List (Nat×List Int)},(∀x∈ps,1≤x.1)→ps.length≤cd ps
 |[],_=>Ip _
 |x::ps,h=>by
  have ih:=tq (ps:=ps) (fun y hy=>h y (List.mem_cons_of_mem _ hy))
  have:=h x List.mem_cons_self
  show ps.length+1≤_
  unfold cd
  omega
theorem li (ps:List (Nat×List Int)):(cW ps).size≤12060:=by
 unfold cW
 split
 ·rename_i h
  unfold gK at h
  rw[Is,Is,List.all_eq_true] at h
  obtain⟨h1,h2,h3⟩:=h
  have key:∀x∈ps,(1≤x.1∧x.1≤60)∧ar x.2=true:=by
   intro x hx
   have:=h1 x hx
   unfold fE at this
   rw[Is,Is] at this
   have q:=am.1 this.1
   exact⟨by omega,(iq.1 this.2.1).1⟩
  have hl:=tq (ps:=ps) (fun x hx=>(key x hx).1.1)
  have h60:=of_decide_eq_true h2
  have hj:=il (l:=ps.map dI) (sep:=⟨#[47]⟩) (B:=200) (fun s hs=>by
   obtain⟨x,hx,rfl⟩:=List.mem_map.1 hs
   have hk:=key x hx
   exact jl x (fun n hn=>by
    obtain⟨k,hkk,rfl⟩:=List.getElem_of_mem hn
    have:=(bi.1 hk.2).2.2 k hkk
    rw[fx x.2 k hkk] at this
    omega) (by omega))
  rw[List.length_map] at hj
  have e:(⟨#[47]⟩:ByteArray).size=1:=rfl
  rw[e] at hj
  omega
 ·exact Ip _
theorem yp (r p:List Int):∀x∈cA r p,kr x:=by
 intro x hx
 unfold cA at hx
 split at hx
 ·rename_i h
  unfold bz at h
  rw[Is,Is] at h
  obtain⟨⟨h1,h2⟩,h3⟩:=h
  have h3:=of_decide_eq_true h3
  unfold ft at hx
  obtain⟨i,hi,he⟩:=List.mem_filterMap.1 hx
  have hi:=List.mem_range.1 hi
  unfold ue at he
  split at he
  ·cases he
  ·injection he with he
   subst he
   have t1:=(ay h1).2.1
   have b1:=(ay h1).2.2 i hi
   have b2:=(ay h2).2.2 i (by omega)
   exact⟨⟨by show _≤(i:Int);omega,by show(i:Int)≤_;omega⟩,⟨by show _≤at_ p i;omega,by show at_ p i≤_;omega⟩,⟨by show _≤at_ r i;omega,by show at_ r i≤_;omega⟩⟩
 ·cases hx
theorem Ge (d:ae) (r:ByteArray):∀k,k<(cA (spL r) d.tab).length→kr (aB (cA (spL r) d.tab) k):=by
 intro k hk
 rw[io hk]
 exact yp _ _ _ (List.getElem_mem hk)
theorem ra {d:ae} (ok:d.Ok) (p:Int):(aw (dX d p)).size≤1320:=by
 unfold dX
 split
 ·rename_i h
  unfold nF at h
  rw[Is] at h
  have hl:(iu d.rw d.ac d.tab p.toNat).length=d.ac:=gD _ _ _ _
  have h2:=ok.ac.2
  have h1:=cr (l:=iu d.rw d.ac d.tab p.toNat) (fun n hn=>by
   have:=GX (Bw h.1 (d.rw*d.ac) p.toNat) (Ig _) (by rw[dF];have:=(ay h.1).2.1;omega) n hn
   omega)
  omega
 ·exact Ip _
theorem Dt {d:ae} (ok:d.Ok) (s:ByteArray):(aP d s).2.Ok∧(aP d s).1.size≤30000:=by
 by_cases h:s∈dc
 ·simp only[dc,Iq,Ir,or_false] at h
  rcases h with rfl|rfl|rfl|rfl|rfl|rfl|rfl|rfl|rfl|rfl|rfl
  ·rw[mD]
   exact⟨fq ok fun h=>by rw[pb h];exact lm h,cX (eG _) (by omega)⟩
  ·rw[mp]
   exact⟨fq ok fun h=>by rw[dP h];exact n4 h,cX (eG _) (by omega)⟩
  ·rw[mF]
   exact⟨fq ok fun h=>by rw[dP h];exact Df h,cX (eG _) (by omega)⟩
  ·rw[kQ]
   exact⟨fq ok fun h=>by rw[dP h];exact qg h,cX (eG _) (by omega)⟩
  ·rw[kX]
   exact⟨fq ok fun h=>by rw[dP h];exact ip (ip h 0) 1,cX (eG _) (by omega)⟩
  ·rw[mB]
   exact⟨ok,cX (fv _) (by omega)⟩
  ·rw[lj]
   exact⟨pZ ok fun h=>Fj h,cX (fv _) (by omega)⟩
  ·rw[kU]
   exact⟨ok,cX (tj d.tab) (by omega)⟩
  ·rw[lD]
   exact⟨ok,cX (oF d.tab ok.tab).1 (by omega)⟩
  ·rw[lV]
   exact⟨ok,n6 ok⟩
  ·rw[mC]
   exact⟨ok,Hl (fv _) (by omega)⟩
 ·rw[qf d s (fun w hw e=>h (e▸hw))]
  exact⟨ok,(show ey.size≤30000 by decide)⟩
theorem El {d:ae} (ok:d.Ok) (s r:ByteArray):(bH d s r).2.Ok∧(bH d s r).1.size≤30000:=by
 by_cases h:s∈dr
 ·simp only[dr,Iq,Ir,or_false] at h
  rcases h with rfl|rfl|rfl|rfl|rfl|rfl|rfl
  ·rw[kB]
   exact⟨DC ok,zK _⟩
  ·rw[gn]
   exact⟨pZ ok fun h=>F2 (Is _ _▸h).2,cX (fv _) (by omega)⟩
  ·rw[kV]
   exact⟨fq ok fun h=>by unfold peE;rw[dP h];exact h,cX (eG _) (by omega)⟩
  ·rw[lT]
   exact⟨f9 ok,fX _ _⟩
  ·rw[iT]
   exact⟨ok,cX (oS _ (Ge d r)) (by omega)⟩
  ·rw[jH]
   exact⟨f9 ok,fX _ _⟩
  ·rw[nk]
   exact⟨Ec ok,Gu ok r⟩
 ·rw[qw d r s (fun w hw e=>h (e▸hw))]
  exact⟨ok,(show ey.size≤30000 by decide)⟩
theorem DP {d:ae} (ok:d.Ok) (s:ByteArray) (l:List Int):(aK d s l).2.Ok∧(aK d s l).1.size≤30000:=by
 by_cases h:s∈db
 ·simp only[db,Iq,Ir,or_false] at h
  rcases h with rfl|rfl|rfl|rfl|rfl|rfl|rfl|rfl|rfl|rfl|rfl|rfl
  ·rw[lR]
   exact⟨fq ok fun h=>Ga h,cX (eG _) (by omega)⟩
  ·rw[lE]
   exact⟨fq ok fun h=>GQ h,cX (eG _) (by omega)⟩
  ·rw[kY]
   exact⟨f9 ok,fX _ _⟩
  ·rw[n9]
   exact⟨f9 ok,fX _ _⟩
  ·rw[mt]
   exact⟨f9 ok,fX _ _⟩
  ·rw[jS]
   exact⟨f9 ok,fX _ _⟩
  ·rw[lF]
   exact⟨f9 ok,fX _ _⟩
  ·rw[iU]
   exact⟨zO ok,Gi _ _ _⟩
  ·rw[ml]
   exact⟨ok,Fk _ _⟩
  ·rw[mJ]
   exact⟨ok,cX (li _) (by omega)⟩
  ·rw[lP]
   exact⟨ok,cX (li _) (by omega)⟩
  ·rw[mE]
   exact⟨ok,cX (ra ok _) (by omega)⟩
 ·rw[Dm d l s (fun w hw e=>h (e▸hw))]
  exact⟨ok,(show ey.size≤30000 by decide)⟩
end Go.Proofs.YtfmjklgfpiffbaaGreatDoor
namespace Go.Proofs.YtfmjklgfpiffbaaGreatDoor
open Go.RowKit Go.Proofs.Tryz
set_option linter.unusedVariables false
set_option linter.unusedSimpArgs false
set_option maxRecDepth 100000
set_option maxHeartbeats 8000000
attribute [local go_sem ↓] Go.wp_at_zero Go.wp_at_succ
def iZ (ps:List (Nat×List Int)):Bool:=ps.all fun x=>inB (x.1:Int) 1 60
def nt (ps:List (Nat×List Int)):Int:=if iZ ps=true then(cd ps:Int) else -1
theorem sw:∀ps:List (Nat×List Int),iZ ps=true→ps.length≤cd ps
 |[],_=>Ig _
 |x::r,h=>by
  unfold iZ at h
  rw[List.all_cons,Is] at h
  have h1:=am.1 h.1
  have h2:=sw r h.2
  rw[cd,List.length_cons]
  omega
theorem yt {ps:List (Nat×List Int)} (h:gK ps=true):iZ ps=true∧cd ps≤60∧1≤ps.length∧ps.length≤60:=by
 unfold gK at h
 simp only[Is,decide_eq_true_eq] at h
 obtain⟨h1,h2,h3⟩:=h
 have h4:iZ ps=true:=by
  unfold iZ
  rw[List.all_eq_true] at h1 ⊢
  intro x hx
  have:=h1 x hx
  unfold fE at this
  rw[Is] at this
  exact this.1
 exact⟨h4,h2,h3,Ih (sw ps h4) h2⟩
theorem Gq {ps:List (Nat×List Int)} (h:60<ps.length):gK ps=false:=by
 rw[Bool.eq_false_iff]
 intro hp
 have:=yt hp
 omega
theorem F1 {ps:List (Nat×List Int)} (h:inB (nt ps) 1 60=false):gK ps=false:=by
 rw[Bool.eq_false_iff]
 intro hp
 obtain⟨h1,h2,h3,h4⟩:=yt hp
 have h5:=sw ps h1
 have:nt ps=(cd ps:Int):=if_pos h1
 rw[this] at h
 have:=br.1 h
 omega
theorem FG {ps:List (Nat×List Int)} (h:inB (nt ps) 1 60=true):iZ ps=true∧cd ps≤60∧1≤ps.length:=by
 have h1:=am.1 h
 by_cases h2:iZ ps=true
 ·have:nt ps=(cd ps:Int):=if_pos h2
  rw[this] at h1
  refine⟨h2,by omega,?_⟩
  cases ps with
  |nil=>simp[cd] at h1
  |cons x r=>simp
 ·have:nt ps = -1:=if_neg h2
  omega
theorem CV {ps:List (Nat×List Int)} {k:Nat} (hk:k<ps.length):ps[k]=(sgn ps k,sgp ps k):=by simp[sgn,sgp,List.getD,hk]
theorem vD {ps:List (Nat×List Int)} {k:Nat} (h:iZ ps=true) (hk:k<ps.length):1≤sgn ps k∧sgn ps k≤60:=by
 unfold iZ at h
 rw[List.all_eq_true] at h
 have:=am.1 (h ps[k] (List.getElem_mem hk))
 rw[CV hk] at this
 omega
theorem Dk {ps:List (Nat×List Int)} (h:∀j,j<ps.length→1≤sgn ps j∧sgn ps j≤60):iZ ps=true:=by
 unfold iZ
 rw[List.all_eq_true]
 intro x hx
 obtain⟨j,hj,rfl⟩:=List.getElem_of_mem hx
 rw[CV hj,am]
 have:=h j hj
 show(1:Int)≤(sgn ps j:Int)∧(sgn ps j:Int)≤60
 omega
theorem Dw {ps:List (Nat×List Int)} {k:Nat} (hk:k<ps.length) (h:inB (sgn ps k:Int) 1 60=false):nt ps = -1:=by
 refine if_neg (fun hp=>?_)
 have:=vD hp hk
 have:=br.1 h
 omega
theorem Cz {n:Nat} {X:List Int} (h1:1≤n) (h2:n≤60):fE n X=(ar X&&ag (jM X 0 1 n)):=by
 unfold fE
 rw[am.2 (by omega),Bool.true_and]
 cases hp:ar X
 ·rw[(iN (p:=X) (a:=0) (c:=(n:Int)) (by rw[hp];simp)).1];rfl
 ·have hv:cf X 0 (n:Int)=true:=iq.2 ⟨hp,by omega,by omega,by omega⟩
  rw[hv,sa hv,o9 X (by omega) (by omega)]
theorem Bm (v:Value) (ps:List (Nat×List Int)) (w:World) (hv:oT w v ps) (hl:ps.length≤60) (hn:∀k,k<ps.length→sgn ps k≤1000):
  Calls prog 241 #[v] w fun e w'=>e=.returned (.int .i64 (nt ps))∧Below w.heap.size w w':=by
 have HNN:=Hy hn
 obtain⟨us,A,c,h1,rfl,h3,h4,h5,h6⟩:=hv
 have H5:=Hy h5
 clear h5 h6 hn
 go_enter func241,ntmps241
 go_wp2
 go_loopw [3,4] (fun t i wr=>∃k:Nat,k≤ps.length∧i=.int .i64 k∧t=.int .i64 (cd (ps.take k):Nat)∧cd (ps.take k)≤60*k∧(∀j,j<k→1≤sgn ps j∧sgn ps j≤60)∧Below w.heap.size w wr) (fun _ i _=>ps.length-(intOf i).toNat)
 case atStart=>exact⟨0,Ip _,rfl,rfl,Ip _,fun j hj=>absurd hj (by omega),Below.refl _ _⟩
 case round=>
  obtain⟨k,hk,rfl,rfl,hs,hall,hb⟩:=hrel
  have H:=Hy (Ie hall hb)
  clear hall hb
  by_cases hlt:k<ps.length
  ·obtain⟨b,o,rfl,hbb,hcell⟩:=H5.out (by omega)
   obtain⟨e0,e1⟩:=hcell k hlt
   have y0:=(H.out.2.cell (p:=⟨b,o+k*2,none⟩) hbb).trans e0
   have hn:=HNN.out k hlt
   have HSN:=Hy (qU hlt)
   have HBAD:=Hy (fun h=>Dw (ps:=ps) hlt h)
   have HALL:=Hy (fun h=>cO H.out.1 (show(fun j=>1≤sgn ps j∧sgn ps j≤60) k from h))
   obtain⟨n,hnn⟩:∃n,sgn ps k=n:=⟨_,rfl⟩
   rw[hnn] at y0 HSN hn HBAD HALL
   clear hnn e0 e1 hcell
   obtain⟨S,hS⟩:∃S,cd (ps.take k)=S:=⟨_,rfl⟩
   rw[hS] at hs HSN ⊢
   clear hS
   go_wp2_with fail
   refine(aL _ _ _ _).mono ?_
   rintro e w5 ⟨rfl,rfl⟩
   cases hq:inB (n:Int) 1 60
   ·have HZ:=Hy (HBAD.out hq)
    clear hq
    go_wp2
    go_ret
    exact⟨by rw[HZ.out];rfl,H.out.2⟩
   ·have h6:=am.1 hq
    have HZ:=Hy (HALL.out (by omega))
    clear hq
    go_wp2
    go_roundw
    case rel=>exact⟨k+1,hlt,by go_num,by rw[HSN.out];go_num,by rw[HSN.out];omega,HZ.out,H.out.2⟩
    case measure=>simp[intOf];omega
  ·obtain rfl:k=ps.length:=by omega
   have HS:=Hy (show nt ps=(cd ps:Int) from if_pos (Dk H.out.1))
   rw[List.take_length]
   go_wp2
   go_ret
   exact⟨by rw[HS.out];rfl,H.out.2⟩
theorem wC (v:Value) (ps:List (Nat×List Int)) (w:World) (hv:oT w v ps) (hl:ps.length≤1000000) (hn:∀k,k<ps.length→sgn ps k≤1000):
  Calls prog 170 #[v] w fun e w'=>e=.returned (.bool (gK ps))∧Below w.heap.size w w':=by
 have HV:=Hy hv
 have HNN:=Hy hn
 obtain⟨us,A,c,h1,rfl,h3,h4,h5,h6⟩:=hv
 have H5:=Hy h5
 have H6:=Hy h6
 clear h5 h6 hn
 go_enter func170,ntmps170
 by_cases hgt:60<ps.length
 ·have HZ:=Hy (Gq hgt)
  have hi:(60:Int)<(ps.length:Int):=by omega
  clear hgt
  go_wp2
  go_ret
  exact⟨by rw[HZ.out];rfl,Below.refl _ _⟩
 ·have hi:¬(60:Int)<(ps.length:Int):=by omega
  go_wp2_with fail
  refine(Bm _ ps _ HV.out (by omega) HNN.out).mono ?_
  rintro e w2 ⟨rfl,b2⟩
  have HB:=Hy b2
  clear b2
  go_wp2_with fail
  refine(aL _ _ _ _).mono ?_
  rintro e w3 ⟨rfl,rfl⟩
  cases hq:inB (nt ps) 1 60
  ·have HZ:=Hy (F1 hq)
   clear hq
   go_wp2
   go_ret
   exact⟨by rw[HZ.out];rfl,HB.out⟩
  ·have HLN:=Hy (FG hq)
   clear hq
   go_wp2
   go_loopw [3] (fun i wr=>∃k:Nat,k≤ps.length∧i=.int .i64 k∧(∀j,j<k→fE (sgn ps j) (sgp ps j)=true)∧Below w.heap.size w wr) (fun i _=>ps.length-(intOf i).toNat)
   case atStart=>exact⟨0,Ip _,rfl,fun j hj=>absurd hj (by omega),HB.out⟩
   case round=>
    obtain⟨k,hk,rfl,hall,hb⟩:=hrel
    have H:=Hy (Ie hall hb)
    have hz:=hb.size
    clear hall hb
    by_cases hlt:k<ps.length
    ·obtain⟨b,o,rfl,hbb0,hcell⟩:=H5.out (by omega)
     obtain⟨e0,e1⟩:=hcell k hlt
     have y0:=(H.out.2.cell (p:=⟨b,o+k*2,none⟩) hbb0).trans e0
     have y1:=(H.out.2.cell (p:=⟨b,o+k*2+1,none⟩) hbb0).trans e1
     have hbb:b<wr.heap.size:=by omega
     have HI:=Hy ((H6.out k hlt).bel H.out.2)
     have hn:=vD HLN.out.1 hlt
     have HBAD:=Hy (fun h=>C5 (ps:=ps) hlt h)
     have HALL:=Hy (fun h=>cO H.out.1 (show(fun j=>fE (sgn ps j) (sgp ps j)=true) k from h))
     obtain⟨n,hnn⟩:∃n,sgn ps k=n:=⟨_,rfl⟩
     obtain⟨X,hX⟩:∃X,sgp ps k=X:=⟨_,rfl⟩
     obtain⟨u,hu⟩:∃u,sgu us k=u:=⟨_,rfl⟩
     rw[hnn] at y0 hn HBAD HALL
     rw[hu] at y1 HI
     rw[hX] at HI HBAD HALL
     clear hnn hX hu e0 e1 hcell hbb0
     obtain⟨A3,c3,rfl,hXc,-,-⟩:=HI.out.open_
     have HOK:=Hy (Cz (X:=X) hn.1 hn.2)
     cases hp:ar X
     ·have HZ:=Hy (HBAD.out (by rw[HOK.out,hp];rfl))
      go_wp2_with fail
      refine wp_region_held_drew (S:=(fun w'=>w'.cell? ⟨b,o+k*2,none⟩=some (.int .i64 n)∧w'.cell? ⟨b,o+k*2+1,none⟩=some (.slice A3 X.length c3))) (by kernel_rfl) ?_ (fun hHeld=>?_)
      ·exact⟨y0,y1⟩
      refine wpAnyH_take (i:=0) (v:=?v0) rfl (by kernel_rfl) (by kernel_rfl) (by kernel_rfl) (fun _ _ _ h=>h) (Or.inl ⟨by kernel_rfl,?hy0⟩) (by assumption) ?rest0
      case hy0=>(intro w' hSw;(try dsimp only at hSw);go_simp;all_goals with_reducible rfl)
      try simp only[Act.put,Ic,Ib,Ia,H9,Hz,H8]
      refine wpAnyH_take (i:=1) (v:=?v1) rfl (by kernel_rfl) (by kernel_rfl) (by kernel_rfl) (fun _ _ _ h=>h) (Or.inl ⟨by kernel_rfl,?hy1⟩) (by assumption) ?rest1
      case hy1=>(intro w' hSw;(try dsimp only at hSw);go_simp;all_goals with_reducible rfl)
      try simp only[Act.put,Ic,Ib,Ia,H9,Hz,H8]
      refine wpAnyH_take (i:=2) (v:=?v2) rfl (by kernel_rfl) (by kernel_rfl) (by kernel_rfl) (fun _ _ _ h=>h) (Or.inl ⟨by kernel_rfl,?hy2⟩) (by assumption) ?rest2
      case hy2=>(intro w' hSw;(try dsimp only at hSw);go_simp;all_goals with_reducible rfl)
      try simp only[Act.put,Ic,Ib,Ia,H9,Hz,H8]
      refine wpAnyH_take (i:=3) (v:=?v3) rfl (by kernel_rfl) (by kernel_rfl) (by kernel_rfl) (fun _ _ _ h=>h) (Or.inl ⟨by kernel_rfl,?hy3⟩) (by assumption) ?rest3
      case hy3=>(intro w' hSw;(try dsimp only at hSw);go_simp;all_goals with_reducible rfl)
      try simp only[Act.put,Ic,Ib,Ia,H9,Hz,H8]
      refine wpAnyH_take (i:=4) (v:=?v4) rfl (by kernel_rfl) (by kernel_rfl) (by kernel_rfl) (fun _ _ _ h=>h) (Or.inl ⟨by kernel_rfl,?hy4⟩) (by assumption) ?rest4
      case hy4=>(intro w' hSw;(try dsimp only at hSw);go_simp;all_goals with_reducible rfl)
      try simp only[Act.put,Ic,Ib,Ia,H9,Hz,H8]
      refine wpAnyH_ready (rs:=[5]) (by kernel_rfl) (by simp) ?_
      refine AllReadyH.cons rfl (fun K hK=>?_) AllReadyH.nil
      ((try go_simp);go_at_call 71;refine(bt _ X _ (by first|exact HI.out|exact HI.out.bel (ah _))).mono ?_;rw[hp];rintro e5 w5 ⟨rfl,rfl⟩;(try dsimp only))
      refine hK.out _ _ ?_ (fun hHeld=>?_)
      ·first|exact⟨y0,y1⟩|exact hHeld
      clear hK K
      try simp only[Act.put,Ic,Ib,Ia,H9,Hz,H8]
      refine wpAnyH_take (i:=6) (v:=?v6) rfl (by kernel_rfl) (by kernel_rfl) (by kernel_rfl) (fun _ _ _ h=>h) (Or.inl ⟨by kernel_rfl,?hy6⟩) (by assumption) ?rest6
      case hy6=>(intro w' hSw;(try dsimp only at hSw);go_simp;all_goals with_reducible rfl)
      try simp only[Act.put,Ic,Ib,Ia,H9,Hz,H8]
      refine wpAnyH_take (i:=7) (v:=?v7) rfl (by kernel_rfl) (by kernel_rfl) (by kernel_rfl) (fun _ _ _ h=>h) (Or.inl ⟨by kernel_rfl,?hy7⟩) (by assumption) ?rest7
      case hy7=>(intro w' hSw;(try dsimp only at hSw);go_simp;all_goals with_reducible rfl)
      try simp only[Act.put,Ic,Ib,Ia,H9,Hz,H8]
      refine wpAnyH_take (i:=8) (v:=undef) rfl (by kernel_rfl) (by kernel_rfl) (by kernel_rfl) (fun _ _ _ h=>h) (Or.inr ⟨by kernel_rfl,rfl⟩) (by assumption) ?_
      try simp only[Act.put,Ic,Ib,Ia,H9,Hz,H8]
      refine wpAnyH_take (i:=9) (v:=undef) rfl (by kernel_rfl) (by kernel_rfl) (by kernel_rfl) (fun _ _ _ h=>h) (Or.inr ⟨by kernel_rfl,rfl⟩) (by assumption) ?_
      try simp only[Act.put,Ic,Ib,Ia,H9,Hz,H8]
      refine wpAnyH_take (i:=10) (v:=undef) rfl (by kernel_rfl) (by kernel_rfl) (by kernel_rfl) (fun _ _ _ h=>h) (Or.inr ⟨by kernel_rfl,rfl⟩) (by assumption) ?_
      try simp only[Act.put,Ic,Ib,Ia,H9,Hz,H8]
      refine wpAnyH_take (i:=11) (v:=undef) rfl (by kernel_rfl) (by kernel_rfl) (by kernel_rfl) (fun _ _ _ h=>h) (Or.inr ⟨by kernel_rfl,rfl⟩) (by assumption) ?_
      try simp only[Act.put,Ic,Ib,Ia,H9,Hz,H8]
      refine wpAnyH_take (i:=12) (v:=undef) rfl (by kernel_rfl) (by kernel_rfl) (by kernel_rfl) (fun _ _ _ h=>h) (Or.inr ⟨by kernel_rfl,rfl⟩) (by assumption) ?_
      try simp only[Act.put,Ic,Ib,Ia,H9,Hz,H8]
      refine wpAnyH_take (i:=13) (v:=undef) rfl (by kernel_rfl) (by kernel_rfl) (by kernel_rfl) (fun _ _ _ h=>h) (Or.inr ⟨by kernel_rfl,rfl⟩) (by assumption) ?_
      try simp only[Act.put,Ic,Ib,Ia,H9,Hz,H8]
      refine wpAnyH_take (i:=14) (v:=undef) rfl (by kernel_rfl) (by kernel_rfl) (by kernel_rfl) (fun _ _ _ h=>h) (Or.inr ⟨by kernel_rfl,rfl⟩) (by assumption) ?_
      try simp only[Act.put,Ic,Ib,Ia,H9,Hz,H8]
      refine wpAnyH_take (i:=15) (v:=undef) rfl (by kernel_rfl) (by kernel_rfl) (by kernel_rfl) (fun _ _ _ h=>h) (Or.inr ⟨by kernel_rfl,rfl⟩) (by assumption) ?_
      try simp only[Act.put,Ic,Ib,Ia,H9,Hz,H8]
      refine wpAnyH_take (i:=16) (v:=undef) rfl (by kernel_rfl) (by kernel_rfl) (by kernel_rfl) (fun _ _ _ h=>h) (Or.inr ⟨by kernel_rfl,rfl⟩) (by assumption) ?_
      try simp only[Act.put,Ic,Ib,Ia,H9,Hz,H8]
      refine wpAnyH_take (i:=17) (v:=undef) rfl (by kernel_rfl) (by kernel_rfl) (by kernel_rfl) (fun _ _ _ h=>h) (Or.inr ⟨by kernel_rfl,rfl⟩) (by assumption) ?_
      try simp only[Act.put,Ic,Ib,Ia,H9,Hz,H8]
      refine wpAnyH_take (i:=18) (v:=undef) rfl (by kernel_rfl) (by kernel_rfl) (by kernel_rfl) (fun _ _ _ h=>h) (Or.inr ⟨by kernel_rfl,rfl⟩) (by assumption) ?_
      try simp only[Act.put,Ic,Ib,Ia,H9,Hz,H8]
      refine wpAnyH_take (i:=19) (v:=undef) rfl (by kernel_rfl) (by kernel_rfl) (by kernel_rfl) (fun _ _ _ h=>h) (Or.inr ⟨by kernel_rfl,rfl⟩) (by assumption) ?_
      try simp only[Act.put,Ic,Ib,Ia,H9,Hz,H8]
      refine wpAnyH_take (i:=20) (v:=undef) rfl (by kernel_rfl) (by kernel_rfl) (by kernel_rfl) (fun _ _ _ h=>h) (Or.inr ⟨by kernel_rfl,rfl⟩) (by assumption) ?_
      try simp only[Act.put,Ic,Ib,Ia,H9,Hz,H8]
      refine wpAnyH_take (i:=21) (v:=?v21) rfl (by kernel_rfl) (by kernel_rfl) (by kernel_rfl) (fun _ _ _ h=>h) (Or.inl ⟨by kernel_rfl,?hy21⟩) (by assumption) ?rest21
      case hy21=>(intro w' hSw;(try dsimp only at hSw);go_simp;all_goals with_reducible rfl)
      try simp only[Act.put,Ic,Ib,Ia,H9,Hz,H8]
      refine wpAnyH_done (by kernel_rfl) ?_ _
      go_wp2
      go_ret
      exact⟨by rw[HZ.out];rfl,by first|exact H.out.2|exact H.out.2.drew⟩
     ·have hx7:=(bi.1 hp).2.1
      have HLV:=Hy (fun W h=>lH (.slice A3 X.length c3) X 0 1 n W h (by omega) (by omega) (by omega) (by omega))
      obtain⟨V,hV⟩:∃V,jM X 0 1 n=V:=⟨_,rfl⟩
      rw[hV] at HLV HOK
      clear hV
      cases ht:ag V
      ·have HZ:=Hy (HBAD.out (by rw[HOK.out,hp,ht];rfl))
       have tok1:True:=trivial
       have tok2:True:=trivial
       have tok3:True:=trivial
       go_wp2_with fail
       go_region_held3 (fun w'=>w'.cell? ⟨b,o+k*2,none⟩=some (.int .i64 n)∧w'.cell? ⟨b,o+k*2+1,none⟩=some (.slice A3 X.length c3)) (first|with_reducible exact⟨y0,y1⟩|with_reducible exact⟨(B5.out.cell hbb).trans y0,(B5.out.cell hbb).trans y1⟩|exact⟨y0,y1⟩|go_keep) (first
      |((try go_simp);go_at_call 71;have _t:=tok1;go_loud (refine(bt _ X _ (by first|exact HI.out|exact HI.out.bel (ah _))).mono ?_;rw[hp];rintro e5 w5 ⟨rfl,rfl⟩;clear tok1;(try dsimp only)))
      |((try go_simp);go_at_call 142;have _t:=tok2;go_loud (refine(HLV.out _ (by first|exact HI.out|exact HI.out.bel (ah _))).mono ?_;rintro e6 w6 ⟨r6,rfl,o6,b6⟩;replace b6:Below wr.heap.size wr w6:=(by first|exact b6|exact aa (ah _) b6);have B5:=Hy b6;have HO:=Hy o6.ints;obtain⟨A6,k6,rfl,-,-,-⟩:=o6.ints.open_;clear tok2 o6 b6;(try dsimp only)))
      |((try go_simp);go_at_call 32;have _t:=tok3;go_loud (refine(ax _ V _ HO.out).mono ?_;rw[ht];rintro e7 w7 ⟨rfl,rfl⟩;clear tok3;(try dsimp only)))
      |fail)
       all_goals
        have HBE:=Hy (aa H.out.2 B5.out)
        go_wp2
        go_ret
        exact⟨by rw[HZ.out];rfl,by first|exact HBE.out|exact HBE.out.drew⟩
      ·have HZ:=Hy (HALL.out (by rw[HOK.out,hp,ht];rfl))
       have tok1:True:=trivial
       have tok2:True:=trivial
       have tok3:True:=trivial
       go_wp2_with fail
       go_region_held3 (fun w'=>w'.cell? ⟨b,o+k*2,none⟩=some (.int .i64 n)∧w'.cell? ⟨b,o+k*2+1,none⟩=some (.slice A3 X.length c3)) (first|with_reducible exact⟨y0,y1⟩|with_reducible exact⟨(B5.out.cell hbb).trans y0,(B5.out.cell hbb).trans y1⟩|exact⟨y0,y1⟩|go_keep) (first
      |((try go_simp);go_at_call 71;have _t:=tok1;go_loud (refine(bt _ X _ (by first|exact HI.out|exact HI.out.bel (ah _))).mono ?_;rw[hp];rintro e5 w5 ⟨rfl,rfl⟩;clear tok1;(try dsimp only)))
      |((try go_simp);go_at_call 142;have _t:=tok2;go_loud (refine(HLV.out _ (by first|exact HI.out|exact HI.out.bel (ah _))).mono ?_;rintro e6 w6 ⟨r6,rfl,o6,b6⟩;replace b6:Below wr.heap.size wr w6:=(by first|exact b6|exact aa (ah _) b6);have B5:=Hy b6;have HO:=Hy o6.ints;obtain⟨A6,k6,rfl,-,-,-⟩:=o6.ints.open_;clear tok2 o6 b6;(try dsimp only)))
      |((try go_simp);go_at_call 32;have _t:=tok3;go_loud (refine(ax _ V _ HO.out).mono ?_;rw[ht];rintro e7 w7 ⟨rfl,rfl⟩;clear tok3;(try dsimp only)))
      |fail)
       all_goals
        have HBE:=Hy (aa H.out.2 B5.out)
        go_wp2
        go_roundw
        case rel=>exact⟨k+1,hlt,by go_num,HZ.out,by first|exact HBE.out|exact HBE.out.drew⟩
        case measure=>simp[intOf];omega
    ·obtain rfl:k=ps.length:=by omega
     have HS:=Hy (show gK ps=true by rw[AF H.out.1 HLN.out.2.1];exact decide_eq_true HLN.out.2.2)
     go_wp2
     go_ret
     exact⟨by rw[HS.out];rfl,H.out.2⟩
theorem Bz {ps:List (Nat×List Int)} {k:Nat} (h:k<ps.length):(ps.take (k+1)).map dI=(ps.take k).map dI++[dI (sgn ps k,sgp ps k)]:=by
 rw[vk h,List.map_append];rfl
theorem Cj {ps:List (Nat×List Int)} {k:Nat} (h:k<ps.length):bd ((ps.take (k+1)).map dI) ⟨#[47]⟩=(if k=0 then bd ((ps.take k).map dI) ⟨#[47]⟩ else bd ((ps.take k).map dI) ⟨#[47]⟩++⟨#[47]⟩)++dI (sgn ps k,sgp ps k):=by
 rw[Bz h]
 by_cases hk:k=0
 ·subst hk
  rw[if_pos rfl,List.take_zero,List.map_nil,nA]
 ·rw[if_neg hk,mG (fun e=>hk (by
   have:=congrArg List.length e
   rw[List.length_map,List.length_take,List.length_nil] at this
   omega))]
theorem pF (v:Value) (ps:List (Nat×List Int)) (w:World) (hv:oT w v ps) (hl:ps.length≤1000) (hn:∀k,k<ps.length→sgn ps k≤1000):
  Calls prog 93 #[v] w fun e w'=>e=.returned (.string (cW ps))∧Below w.heap.size w w':=by
 have HV:=Hy hv
 have HNN:=Hy hn
 obtain⟨us,A,c,h1,rfl,h3,h4,h5,h6⟩:=hv
 have H5:=Hy h5
 have H6:=Hy h6
 clear h5 h6 hn
 go_enter func93,ntmps93
 go_wp2_with fail
 refine(wC _ ps _ HV.out (by omega) HNN.out).mono ?_
 rintro e w2 ⟨rfl,b2⟩
 have HB:=Hy b2
 clear b2
 cases hq:gK ps
 ·have HZ:=Hy (show cW ps=⟨#[]⟩ by simp[cW,hq])
  go_wp2
  go_ret
  exact⟨by rw[HZ.out];rfl,HB.out⟩
 ·have HZ:=Hy (show cW ps=bd (ps.map dI) ⟨#[47]⟩ by simp[cW,hq])
  clear hq
  go_wp2
  go_loopw [3,4] (fun s i wr=>∃(k:Nat) (O:ByteArray),k≤ps.length∧i=.int .i64 k∧s=.string O∧O=bd ((ps.take k).map dI) ⟨#[47]⟩∧O.size≤201*k∧Below w.heap.size w wr) (fun _ i _=>ps.length-(intOf i).toNat)
  case atStart=>exact⟨0,_,Ip _,rfl,rfl,rfl,Ip _,HB.out⟩
  case round=>
   obtain⟨k,O,hk,rfl,rfl,ho,hos,hb⟩:=hrel
   have H:=Hy (Ie ho hb)
   have hz:=hb.size
   clear ho hb
   by_cases hlt:k<ps.length
   ·obtain⟨b,o,rfl,hbb0,hcell⟩:=H5.out (by omega)
    obtain⟨e0,e1⟩:=hcell k hlt
    have y0:=(H.out.2.cell (p:=⟨b,o+k*2,none⟩) hbb0).trans e0
    have y1:=(H.out.2.cell (p:=⟨b,o+k*2+1,none⟩) hbb0).trans e1
    have hbb:b<wr.heap.size:=by omega
    have HI:=Hy ((H6.out k hlt).bel H.out.2)
    have hn:=HNN.out k hlt
    have hss:=jl (sgn ps k,sgp ps k) (H6.out k hlt).2 (by show sgn ps k≤1000000;omega)
    have HJ:=Hy (Cj hlt)
    rw[←H.out.1] at HJ
    obtain⟨n,hnn⟩:∃n,sgn ps k=n:=⟨_,rfl⟩
    obtain⟨X,hX⟩:∃X,sgp ps k=X:=⟨_,rfl⟩
    obtain⟨u,hu⟩:∃u,sgu us k=u:=⟨_,rfl⟩
    rw[hnn] at y0 hn hss HJ
    rw[hu] at y1 HI
    rw[hX] at HI hss HJ
    clear hX hu hnn e0 e1 hcell hbb0
    obtain⟨A3,c3,rfl,-,-,-⟩:=HI.out.open_
    have hi1:=bc (n:=(n:Int)) (by omega) (by omega)
    have hi2:=fv X
    have HSEG:dI (n,X)=aA n++⟨#[58]⟩++av X:=rfl
    have HFP:=Hy (fun w (h1:ai w (.slice A3 X.length c3) X)=>bJ (.slice A3 X.length c3) X w h1)
    have HIT:=Hy (fun w=>eC (n:Int) w (by omega) (by omega))
    obtain⟨I,hI⟩:∃I,aA (n:Int)=I:=⟨_,rfl⟩
    obtain⟨J,hJ⟩:∃J,av X=J:=⟨_,rfl⟩
    rw[hI,hJ] at HSEG
    rw[hI] at hi1 HIT
    rw[hJ] at hi2 HFP
    rw[HSEG] at HJ
    clear hI hJ HSEG hss
    obtain⟨Q,hQ⟩:∃Q,(if k=0 then O else O++⟨#[47]⟩)=Q:=⟨_,rfl⟩
    have hQs:Q.size≤O.size+1:=by
     rw[←hQ]
     split
     ·omega
     ·rw[Ii];exact Ig _
    rw[hQ] at HJ
    have hOs:¬ 9223372036854775807<O.size+1:=by omega
    have g0:¬ 9223372036854775807<Q.size+I.size:=by omega
    have g1:¬ 9223372036854775807<Q.size+I.size+1:=by omega
    have g2:¬ 9223372036854775807<Q.size+I.size+1+J.size:=by omega
    have r0:(Q++I).size=Q.size+I.size:=by rw[Ii]
    have r1:(Q++I++⟨#[58]⟩).size=Q.size+I.size+1:=by rw[Ii,r0];rfl
    have r2:(Q++I++⟨#[58]⟩++J).size=Q.size+I.size+1+J.size:=by rw[Ii,r1]
    have HJ2:=Hy (show bd ((ps.take (k+1)).map dI) ⟨#[47]⟩=Q++I++⟨#[58]⟩++J by rw[HJ.out];simp only[ByteArray.append_assoc])
    have HR:=Hy (show(Q++I++⟨#[58]⟩++J).size≤201*(k+1) by omega)
    clear HJ
    by_cases hk0:k=0
    ·obtain rfl:O=Q:=by rw[←hQ,if_pos hk0]
     clear hQ
     subst hk0
     rw[Nat.zero_mul,Nat.add_zero] at y0 y1
     have tok1:True:=trivial
     have tok2:True:=trivial
     go_wp2_with fail
     go_region_held3 (fun w'=>w'.cell? ⟨b,o,none⟩=some (.int .i64 n)∧w'.cell? ⟨b,o+1,none⟩=some (.slice A3 X.length c3)) (first|with_reducible exact⟨y0,y1⟩|with_reducible exact⟨(B6.out.cell hbb).trans y0,(B6.out.cell hbb).trans y1⟩|with_reducible exact⟨(B7.out.cell hb6).trans ((B6.out.cell hbb).trans y0),(B7.out.cell hb6).trans ((B6.out.cell hbb).trans y1)⟩|exact⟨y0,y1⟩|go_keep) (first
      |((try go_simp);go_at_call 33;have _t:=tok1;go_loud (refine(HIT.out _).mono ?_;rintro e6 w6 ⟨rfl,b6⟩;replace b6:Below wr.heap.size wr w6:=(by first|exact b6|exact aa (ah _) b6);have B6:=Hy b6;have hb6:=Im hbb b6.size;have HI6:=Hy (HI.out.bel b6);clear tok1 b6;(try dsimp only)))
      |((try go_simp);go_at_call 30;have _t:=tok2;go_loud (refine(HFP.out _ HI6.out).mono ?_;rintro e7 w7 ⟨rfl,b7⟩;have B7:=Hy b7;clear tok2 b7;(try dsimp only)))
      |fail)
     all_goals
      have HBE:=Hy (aa (aa H.out.2 B6.out) B7.out)
      go_wp2
      go_roundw
      case rel=>exact⟨0+1,_,hlt,by go_num,rfl,HJ2.out.symm,HR.out,by first|exact HBE.out|exact HBE.out.drew⟩
      case measure=>simp[intOf];omega
    ·have hQ2:O++⟨#[47]⟩=Q:=by rw[←hQ,if_neg hk0]
     have HQ2:=Hy hQ2
     have hki:(0:Int)<(k:Int):=by omega
     clear hQ hQ2
     have tok1:True:=trivial
     have tok2:True:=trivial
     go_wp2_with fail
     rw[HQ2.out]
     go_region_held3 (fun w'=>w'.cell? ⟨b,o+k*2,none⟩=some (.int .i64 n)∧w'.cell? ⟨b,o+k*2+1,none⟩=some (.slice A3 X.length c3)) (first|with_reducible exact⟨y0,y1⟩|with_reducible exact⟨(B6.out.cell hbb).trans y0,(B6.out.cell hbb).trans y1⟩|with_reducible exact⟨(B7.out.cell hb6).trans ((B6.out.cell hbb).trans y0),(B7.out.cell hb6).trans ((B6.out.cell hbb).trans y1)⟩|exact⟨y0,y1⟩|go_keep) (first
      |((try go_simp);go_at_call 33;have _t:=tok1;go_loud (refine(HIT.out _).mono ?_;rintro e6 w6 ⟨rfl,b6⟩;replace b6:Below wr.heap.size wr w6:=(by first|exact b6|exact aa (ah _) b6);have B6:=Hy b6;have hb6:=Im hbb b6.size;have HI6:=Hy (HI.out.bel b6);clear tok1 b6;(try dsimp only)))
      |((try go_simp);go_at_call 30;have _t:=tok2;go_loud (refine(HFP.out _ HI6.out).mono ?_;rintro e7 w7 ⟨rfl,b7⟩;have B7:=Hy b7;clear tok2 b7;(try dsimp only)))
      |fail)
     all_goals
      have HBE:=Hy (aa (aa H.out.2 B6.out) B7.out)
      go_wp2
      go_roundw
      case rel=>exact⟨k+1,_,hlt,by go_num,rfl,HJ2.out.symm,HR.out,by first|exact HBE.out|exact HBE.out.drew⟩
      case measure=>simp[intOf];omega
   ·obtain rfl:k=ps.length:=by omega
    have HE:=Hy (show O=cW ps by rw[HZ.out,H.out.1,List.take_length])
    go_wp2
    go_ret
    exact⟨by rw[←HE.out];rfl,H.out.2⟩
theorem Sxn.kept {P:Nat→Prop} {w:World} {R:Nat} {p e t:Value} {d:ae} {X:World} (h:Sxn P w R p e t d X) (p' e' t':Value) (d':ae):
  ((((((X.setCell ⟨R,0,none⟩ p').setCell ⟨R,1,none⟩ e').setCell ⟨R,2,none⟩ t').setCell ⟨R,3,none⟩ (.int .i64 d'.rw)).setCell ⟨R,4,none⟩ (.int .i64 d'.ac)).setCell ⟨R,5,none⟩ (.int .i64 d'.wi)).cell? ⟨w.heap.size,0,none⟩=some p∧((((((X.setCell ⟨R,0,none⟩ p').setCell ⟨R,1,none⟩ e').setCell ⟨R,2,none⟩ t').setCell ⟨R,3,none⟩ (.int .i64 d'.rw)).setCell ⟨R,4,none⟩ (.int .i64 d'.ac)).setCell ⟨R,5,none⟩ (.int .i64 d'.wi)).cell? ⟨w.heap.size,1,none⟩=some e∧((((((X.setCell ⟨R,0,none⟩ p').setCell ⟨R,1,none⟩ e').setCell ⟨R,2,none⟩ t').setCell ⟨R,3,none⟩ (.int .i64 d'.rw)).setCell ⟨R,4,none⟩ (.int .i64 d'.ac)).setCell ⟨R,5,none⟩ (.int .i64 d'.wi)).cell? ⟨w.heap.size,2,none⟩=some t∧((((((X.setCell ⟨R,0,none⟩ p').setCell ⟨R,1,none⟩ e').setCell ⟨R,2,none⟩ t').setCell ⟨R,3,none⟩ (.int .i64 d'.rw)).setCell ⟨R,4,none⟩ (.int .i64 d'.ac)).setCell ⟨R,5,none⟩ (.int .i64 d'.wi)).cell? ⟨w.heap.size,3,none⟩=some (.int .i64 d.rw)∧((((((X.setCell ⟨R,0,none⟩ p').setCell ⟨R,1,none⟩ e').setCell ⟨R,2,none⟩ t').setCell ⟨R,3,none⟩ (.int .i64 d'.rw)).setCell ⟨R,4,none⟩ (.int .i64 d'.ac)).setCell ⟨R,5,none⟩ (.int .i64 d'.wi)).cell? ⟨w.heap.size,4,none⟩=some (.int .i64 d.ac)∧((((((X.setCell ⟨R,0,none⟩ p').setCell ⟨R,1,none⟩ e').setCell ⟨R,2,none⟩ t').setCell ⟨R,3,none⟩ (.int .i64 d'.rw)).setCell ⟨R,4,none⟩ (.int .i64 d'.ac)).setCell ⟨R,5,none⟩ (.int .i64 d'.wi)).cell? ⟨w.heap.size,5,none⟩=some (.int .i64 d.wi):=by
 have hne:w.heap.size≠R:=by have:=h.siz.1;omega
 obtain⟨-,hg⟩:=up h.out p' e' t' d'
 have hb:SxB ((((((X.setCell ⟨R,0,none⟩ p').setCell ⟨R,1,none⟩ e').setCell ⟨R,2,none⟩ t').setCell ⟨R,3,none⟩ (.int .i64 d'.rw)).setCell ⟨R,4,none⟩ (.int .i64 d'.ac)).setCell ⟨R,5,none⟩ (.int .i64 d'.wi)) w.heap.size p e t d:=by
  have:=hg.block w.heap.size h.box.lt (fun e=>hne (It e))
  unfold SxB Blk
  rw[this]
  exact h.box
 exact hb.cells
theorem Dh (P:Nat→Prop) (v:Value) (d:ae) (w:World) (hs:SxR P w v d) (hn:SxN P w):Calls prog 10 #[v,.string kx] w (SxQ P w (aP d kx)):=by
 obtain⟨p,e,t,rfl,hs0⟩:=hs.s
 obtain⟨Ap,cp,rfl,-,-,-⟩:=hs0.1.1.open_
 obtain⟨Ae,ce,rfl,-,-,-⟩:=hs0.2.1.1.open_
 obtain⟨At,ct,rfl,-,-,-⟩:=hs0.2.2.1.open_
 have HS:=Hy (Sxn.first hs0 hn)
 have HSAME:=Hy (SxS.same hs0 hn)
 obtain⟨c0,c1,c2,c3,c4,c5⟩:=HS.out.box.cells
 obtain⟨f0,f1,f2,f3,f4,f5⟩:=HS.out.out.frz
 obtain⟨z0,z1,z2,z3,z4,z5⟩:=HS.out.out.cells
 obtain⟨r,hr⟩:∃r:ByteArray×ae,aP d kx=r:=⟨_,rfl⟩
 have HRR:=Hy hr
 rw[hr]
 clear hs hs0 hn hr
 unfold kx
 go_enter func10,ntmps10
 go_wp2_with fail
 generalize hW:World.alloc _ _=W at HS c0 c1 c2 c3 c4 c5 f0 f1 f2 f3 f4 f5 z0 z1 z2 z3 z4 z5 ⊢
 clear hW
 refine(show Calls prog 22 #[.agg #[.slice Ae d.eng.length ce]] W (cw W (ek d.eng) (af d.eng)) from z7 _ d.eng _ HS.out.sta.2.1.1).mono ?_
 rintro e1 w1 ⟨x1,rfl,o1,b1⟩
 obtain⟨A1,k1,rfl,-,-,-⟩:=o1.strs.open_
 have ba:Below w1.heap.size w1 (w1.alloc (.cells #[.slice A1 (ek d.eng).length k1] 32)):=ab w1 _
 have KE:=Blk.new' w1 32 (.slice A1 (ek d.eng).length k1) w1.heap.size rfl
 have H1:=Hy (HS.out.next (aa b1 ba))
 have HX:=Hy (o1.strs.bel ba)
 have HXO:=Hy (HS.out.engO o1)
 clear c0 c1 c2 c3 c4 c5 f0 f1 f2 f3 f4 f5 z0 z1 z2 z3 z4 z5 b1 ba o1
 obtain⟨c0,c1,c2,c3,c4,c5⟩:=H1.out.box.cells
 obtain⟨f0,f1,f2,f3,f4,f5⟩:=H1.out.out.frz
 obtain⟨z0,z1,z2,z3,z4,z5⟩:=H1.out.out.cells
 obtain⟨u0,-⟩:=KE.one
 go_wp2_with fail
 generalize hW1:w1.alloc (.cells #[.slice A1 (ek d.eng).length k1] 32)=W1 at H1 HX ⊢
 clear hW1 c0 c1 c2 c3 c4 c5 f0 f1 f2 f3 f4 f5 z0 z1 z2 z3 z4 z5 u0 KE
 have HM:=fm _ _ _ d (ek d.eng) (af d.eng) W1 H1.out.sta.r HX.out HXO.out H1.out.new
 obtain⟨q,hq⟩:∃q:ByteArray×ae,(aj (bx (ek d.eng)) (af d.eng),aX d (ek d.eng) (af d.eng))=q:=⟨_,rfl⟩
 have HRQ:=Hy (show r=q from HRR.out.symm.trans ((mD d).trans hq))
 rw[hq] at HM
 clear hq
 refine HM.mono ?_
 rintro e3 w3 ⟨v3,rfl,s3,b3⟩
 have H3:=Hy (H1.out.next b3)
 obtain⟨p2,e2,t2,rfl,sq⟩:=s3.s
 obtain⟨Ap2,cp2,rfl,-,-,-⟩:=sq.1.1.open_
 obtain⟨Ae2,ce2,rfl,-,-,-⟩:=sq.2.1.1.open_
 obtain⟨At2,ct2,rfl,-,-,-⟩:=sq.2.2.1.open_
 have SQ:=Hy sq
 clear sq
 clear b3 HM
 obtain⟨c0,c1,c2,c3,c4,c5⟩:=H3.out.box.cells
 obtain⟨f0,f1,f2,f3,f4,f5⟩:=H3.out.out.frz
 obtain⟨z0,z1,z2,z3,z4,z5⟩:=H3.out.out.cells
 go_wp2
 obtain⟨kk,ss,bb⟩:=H3.out.done SQ.out
 generalize World.setCell _ _ _=w9 at kk ss bb ⊢
 obtain⟨x0,x1,x2,x3,x4,x5⟩:=kk.cells
 refine bodyPost_ret (v:=.tuple #[.agg #[(.slice Ap2 q.2.poly.length cp2),(.slice Ae2 q.2.eng.length ce2),(.slice At2 q.2.tab.length ct2),.int .i64 q.2.rw,.int .i64 q.2.ac,.int .i64 q.2.wi],.string q.1]) (by simp[results,results10,go_sem,x0,x1,x2,x3,x4,x5]) rfl ?_
 rw[HRQ.out]
 exact⟨_,rfl,ss,bb⟩
theorem Et (P:Nat→Prop) (v:Value) (d:ae) (w:World) (hs:SxR P w v d) (hn:SxN P w):Calls prog 10 #[v,.string ky] w (SxQ P w (aP d ky)):=by
 obtain⟨p,e,t,rfl,hs0⟩:=hs.s
 obtain⟨Ap,cp,rfl,-,-,-⟩:=hs0.1.1.open_
 obtain⟨Ae,ce,rfl,-,-,-⟩:=hs0.2.1.1.open_
 obtain⟨At,ct,rfl,-,-,-⟩:=hs0.2.2.1.open_
 have HS:=Hy (Sxn.first hs0 hn)
 have HSAME:=Hy (SxS.same hs0 hn)
 obtain⟨c0,c1,c2,c3,c4,c5⟩:=HS.out.box.cells
 obtain⟨f0,f1,f2,f3,f4,f5⟩:=HS.out.out.frz
 obtain⟨z0,z1,z2,z3,z4,z5⟩:=HS.out.out.cells
 obtain⟨r,hr⟩:∃r:ByteArray×ae,aP d ky=r:=⟨_,rfl⟩
 have HRR:=Hy hr
 rw[hr]
 clear hs hs0 hn hr
 unfold ky
 go_enter func10,ntmps10
 go_wp2_with fail
 generalize hW:World.alloc _ _=W at HS c0 c1 c2 c3 c4 c5 f0 f1 f2 f3 f4 f5 z0 z1 z2 z3 z4 z5 ⊢
 clear hW
 refine(zb _ d.eng _ HS.out.sta.2.1.1).mono ?_
 rintro e1 w1 ⟨x1,rfl,o1,b1⟩
 obtain⟨A1,k1,rfl,-,-,-⟩:=o1.strs.open_
 have ba:Below w1.heap.size w1 (w1.alloc (.cells #[.slice A1 (aS aW d.eng).length k1] 32)):=ab w1 _
 have KE:=Blk.new' w1 32 (.slice A1 (aS aW d.eng).length k1) w1.heap.size rfl
 have H1:=Hy (HS.out.next (aa b1 ba))
 have HX:=Hy (o1.strs.bel ba)
 have HXO:=Hy (HS.out.engO o1)
 clear c0 c1 c2 c3 c4 c5 f0 f1 f2 f3 f4 f5 z0 z1 z2 z3 z4 z5 b1 ba o1
 obtain⟨c0,c1,c2,c3,c4,c5⟩:=H1.out.box.cells
 obtain⟨f0,f1,f2,f3,f4,f5⟩:=H1.out.out.frz
 obtain⟨z0,z1,z2,z3,z4,z5⟩:=H1.out.out.cells
 obtain⟨u0,-⟩:=KE.one
 go_wp2_with fail
 generalize hW1:w1.alloc (.cells #[.slice A1 (aS aW d.eng).length k1] 32)=W1 at H1 HX ⊢
 clear hW1 c0 c1 c2 c3 c4 c5 f0 f1 f2 f3 f4 f5 z0 z1 z2 z3 z4 z5 u0 KE
 have HM:=fm _ _ _ d (aS aW d.eng) (af d.eng) W1 H1.out.sta.r HX.out HXO.out H1.out.new
 obtain⟨q,hq⟩:∃q:ByteArray×ae,(aj (bx (aS aW d.eng)) (af d.eng),aX d (aS aW d.eng) (af d.eng))=q:=⟨_,rfl⟩
 have HRQ:=Hy (show r=q from HRR.out.symm.trans ((mp d).trans hq))
 rw[hq] at HM
 clear hq
 refine HM.mono ?_
 rintro e3 w3 ⟨v3,rfl,s3,b3⟩
 have H3:=Hy (H1.out.next b3)
 obtain⟨p2,e2,t2,rfl,sq⟩:=s3.s
 obtain⟨Ap2,cp2,rfl,-,-,-⟩:=sq.1.1.open_
 obtain⟨Ae2,ce2,rfl,-,-,-⟩:=sq.2.1.1.open_
 obtain⟨At2,ct2,rfl,-,-,-⟩:=sq.2.2.1.open_
 have SQ:=Hy sq
 clear sq
 clear b3 HM
 obtain⟨c0,c1,c2,c3,c4,c5⟩:=H3.out.box.cells
 obtain⟨f0,f1,f2,f3,f4,f5⟩:=H3.out.out.frz
 obtain⟨z0,z1,z2,z3,z4,z5⟩:=H3.out.out.cells
 go_wp2
 obtain⟨kk,ss,bb⟩:=H3.out.done SQ.out
 generalize World.setCell _ _ _=w9 at kk ss bb ⊢
 obtain⟨x0,x1,x2,x3,x4,x5⟩:=kk.cells
 refine bodyPost_ret (v:=.tuple #[.agg #[(.slice Ap2 q.2.poly.length cp2),(.slice Ae2 q.2.eng.length ce2),(.slice At2 q.2.tab.length ct2),.int .i64 q.2.rw,.int .i64 q.2.ac,.int .i64 q.2.wi],.string q.1]) (by simp[results,results10,go_sem,x0,x1,x2,x3,x4,x5]) rfl ?_
 rw[HRQ.out]
 exact⟨_,rfl,ss,bb⟩
theorem DM (P:Nat→Prop) (v:Value) (d:ae) (w:World) (hs:SxR P w v d) (hn:SxN P w):Calls prog 10 #[v,.string kA] w (SxQ P w (aP d kA)):=by
 obtain⟨p,e,t,rfl,hs0⟩:=hs.s
 obtain⟨Ap,cp,rfl,-,-,-⟩:=hs0.1.1.open_
 obtain⟨Ae,ce,rfl,-,-,-⟩:=hs0.2.1.1.open_
 obtain⟨At,ct,rfl,-,-,-⟩:=hs0.2.2.1.open_
 have HS:=Hy (Sxn.first hs0 hn)
 have HSAME:=Hy (SxS.same hs0 hn)
 obtain⟨c0,c1,c2,c3,c4,c5⟩:=HS.out.box.cells
 obtain⟨f0,f1,f2,f3,f4,f5⟩:=HS.out.out.frz
 obtain⟨z0,z1,z2,z3,z4,z5⟩:=HS.out.out.cells
 obtain⟨r,hr⟩:∃r:ByteArray×ae,aP d kA=r:=⟨_,rfl⟩
 have HRR:=Hy hr
 rw[hr]
 clear hs hs0 hn hr
 unfold kA
 go_enter func10,ntmps10
 go_wp2_with fail
 generalize hW:World.alloc _ _=W at HS c0 c1 c2 c3 c4 c5 f0 f1 f2 f3 f4 f5 z0 z1 z2 z3 z4 z5 ⊢
 clear hW
 refine(Ao _ d.eng _ HS.out.sta.2.1.1).mono ?_
 rintro e1 w1 ⟨x1,rfl,o1,b1⟩
 obtain⟨A1,k1,rfl,-,-,-⟩:=o1.strs.open_
 have ba:Below w1.heap.size w1 (w1.alloc (.cells #[.slice A1 (aS bI d.eng).length k1] 32)):=ab w1 _
 have KE:=Blk.new' w1 32 (.slice A1 (aS bI d.eng).length k1) w1.heap.size rfl
 have H1:=Hy (HS.out.next (aa b1 ba))
 have HX:=Hy (o1.strs.bel ba)
 have HXO:=Hy (HS.out.engO o1)
 clear c0 c1 c2 c3 c4 c5 f0 f1 f2 f3 f4 f5 z0 z1 z2 z3 z4 z5 b1 ba o1
 obtain⟨c0,c1,c2,c3,c4,c5⟩:=H1.out.box.cells
 obtain⟨f0,f1,f2,f3,f4,f5⟩:=H1.out.out.frz
 obtain⟨z0,z1,z2,z3,z4,z5⟩:=H1.out.out.cells
 obtain⟨u0,-⟩:=KE.one
 go_wp2_with fail
 generalize hW1:w1.alloc (.cells #[.slice A1 (aS bI d.eng).length k1] 32)=W1 at H1 HX ⊢
 clear hW1 c0 c1 c2 c3 c4 c5 f0 f1 f2 f3 f4 f5 z0 z1 z2 z3 z4 z5 u0 KE
 have HM:=fm _ _ _ d (aS bI d.eng) (af d.eng) W1 H1.out.sta.r HX.out HXO.out H1.out.new
 obtain⟨q,hq⟩:∃q:ByteArray×ae,(aj (bx (aS bI d.eng)) (af d.eng),aX d (aS bI d.eng) (af d.eng))=q:=⟨_,rfl⟩
 have HRQ:=Hy (show r=q from HRR.out.symm.trans ((mF d).trans hq))
 rw[hq] at HM
 clear hq
 refine HM.mono ?_
 rintro e3 w3 ⟨v3,rfl,s3,b3⟩
 have H3:=Hy (H1.out.next b3)
 obtain⟨p2,e2,t2,rfl,sq⟩:=s3.s
 obtain⟨Ap2,cp2,rfl,-,-,-⟩:=sq.1.1.open_
 obtain⟨Ae2,ce2,rfl,-,-,-⟩:=sq.2.1.1.open_
 obtain⟨At2,ct2,rfl,-,-,-⟩:=sq.2.2.1.open_
 have SQ:=Hy sq
 clear sq
 clear b3 HM
 obtain⟨c0,c1,c2,c3,c4,c5⟩:=H3.out.box.cells
 obtain⟨f0,f1,f2,f3,f4,f5⟩:=H3.out.out.frz
 obtain⟨z0,z1,z2,z3,z4,z5⟩:=H3.out.out.cells
 go_wp2
 obtain⟨kk,ss,bb⟩:=H3.out.done SQ.out
 generalize World.setCell _ _ _=w9 at kk ss bb ⊢
 obtain⟨x0,x1,x2,x3,x4,x5⟩:=kk.cells
 refine bodyPost_ret (v:=.tuple #[.agg #[(.slice Ap2 q.2.poly.length cp2),(.slice Ae2 q.2.eng.length ce2),(.slice At2 q.2.tab.length ct2),.int .i64 q.2.rw,.int .i64 q.2.ac,.int .i64 q.2.wi],.string q.1]) (by simp[results,results10,go_sem,x0,x1,x2,x3,x4,x5]) rfl ?_
 rw[HRQ.out]
 exact⟨_,rfl,ss,bb⟩
theorem As (P:Nat→Prop) (v:Value) (d:ae) (w:World) (hs:SxR P w v d) (hn:SxN P w):Calls prog 10 #[v,.string gw] w (SxQ P w (aP d gw)):=by
 obtain⟨p,e,t,rfl,hs0⟩:=hs.s
 obtain⟨Ap,cp,rfl,-,-,-⟩:=hs0.1.1.open_
 obtain⟨Ae,ce,rfl,-,-,-⟩:=hs0.2.1.1.open_
 obtain⟨At,ct,rfl,-,-,-⟩:=hs0.2.2.1.open_
 have HS:=Hy (Sxn.first hs0 hn)
 have HSAME:=Hy (SxS.same hs0 hn)
 obtain⟨c0,c1,c2,c3,c4,c5⟩:=HS.out.box.cells
 obtain⟨f0,f1,f2,f3,f4,f5⟩:=HS.out.out.frz
 obtain⟨z0,z1,z2,z3,z4,z5⟩:=HS.out.out.cells
 obtain⟨r,hr⟩:∃r:ByteArray×ae,aP d gw=r:=⟨_,rfl⟩
 have HRR:=Hy hr
 rw[hr]
 clear hs hs0 hn hr
 unfold gw
 go_enter func10,ntmps10
 go_wp2_with fail
 generalize hW:World.alloc _ _=W at HS c0 c1 c2 c3 c4 c5 f0 f1 f2 f3 f4 f5 z0 z1 z2 z3 z4 z5 ⊢
 clear hW
 refine(yJ _ d.eng _ HS.out.sta.2.1.1).mono ?_
 rintro e1 w1 ⟨x1,rfl,o1,b1⟩
 obtain⟨A1,k1,rfl,-,-,-⟩:=o1.strs.open_
 have ba:Below w1.heap.size w1 (w1.alloc (.cells #[.slice A1 (aS du d.eng).length k1] 32)):=ab w1 _
 have KE:=Blk.new' w1 32 (.slice A1 (aS du d.eng).length k1) w1.heap.size rfl
 have H1:=Hy (HS.out.next (aa b1 ba))
 have HX:=Hy (o1.strs.bel ba)
 have HXO:=Hy (HS.out.engO o1)
 clear c0 c1 c2 c3 c4 c5 f0 f1 f2 f3 f4 f5 z0 z1 z2 z3 z4 z5 b1 ba o1
 obtain⟨c0,c1,c2,c3,c4,c5⟩:=H1.out.box.cells
 obtain⟨f0,f1,f2,f3,f4,f5⟩:=H1.out.out.frz
 obtain⟨z0,z1,z2,z3,z4,z5⟩:=H1.out.out.cells
 obtain⟨u0,-⟩:=KE.one
 go_wp2_with fail
 generalize hW1:w1.alloc (.cells #[.slice A1 (aS du d.eng).length k1] 32)=W1 at H1 HX ⊢
 clear hW1 c0 c1 c2 c3 c4 c5 f0 f1 f2 f3 f4 f5 z0 z1 z2 z3 z4 z5 u0 KE
 have HM:=fm _ _ _ d (aS du d.eng) (af d.eng) W1 H1.out.sta.r HX.out HXO.out H1.out.new
 obtain⟨q,hq⟩:∃q:ByteArray×ae,(aj (bx (aS du d.eng)) (af d.eng),aX d (aS du d.eng) (af d.eng))=q:=⟨_,rfl⟩
 have HRQ:=Hy (show r=q from HRR.out.symm.trans ((kQ d).trans hq))
 rw[hq] at HM
 clear hq
 refine HM.mono ?_
 rintro e3 w3 ⟨v3,rfl,s3,b3⟩
 have H3:=Hy (H1.out.next b3)
 obtain⟨p2,e2,t2,rfl,sq⟩:=s3.s
 obtain⟨Ap2,cp2,rfl,-,-,-⟩:=sq.1.1.open_
 obtain⟨Ae2,ce2,rfl,-,-,-⟩:=sq.2.1.1.open_
 obtain⟨At2,ct2,rfl,-,-,-⟩:=sq.2.2.1.open_
 have SQ:=Hy sq
 clear sq
 clear b3 HM
 obtain⟨c0,c1,c2,c3,c4,c5⟩:=H3.out.box.cells
 obtain⟨f0,f1,f2,f3,f4,f5⟩:=H3.out.out.frz
 obtain⟨z0,z1,z2,z3,z4,z5⟩:=H3.out.out.cells
 go_wp2
 obtain⟨kk,ss,bb⟩:=H3.out.done SQ.out
 generalize World.setCell _ _ _=w9 at kk ss bb ⊢
 obtain⟨x0,x1,x2,x3,x4,x5⟩:=kk.cells
 refine bodyPost_ret (v:=.tuple #[.agg #[(.slice Ap2 q.2.poly.length cp2),(.slice Ae2 q.2.eng.length ce2),(.slice At2 q.2.tab.length ct2),.int .i64 q.2.rw,.int .i64 q.2.ac,.int .i64 q.2.wi],.string q.1]) (by simp[results,results10,go_sem,x0,x1,x2,x3,x4,x5]) rfl ?_
 rw[HRQ.out]
 exact⟨_,rfl,ss,bb⟩
theorem yL (P:Nat→Prop) (v:Value) (d:ae) (w:World) (hs:SxR P w v d) (hn:SxN P w):Calls prog 10 #[v,.string gC] w (SxQ P w (aP d gC)):=by
 obtain⟨p,e,t,rfl,hs0⟩:=hs.s
 obtain⟨Ap,cp,rfl,-,-,-⟩:=hs0.1.1.open_
 obtain⟨Ae,ce,rfl,-,-,-⟩:=hs0.2.1.1.open_
 obtain⟨At,ct,rfl,-,-,-⟩:=hs0.2.2.1.open_
 have HS:=Hy (Sxn.first hs0 hn)
 have HSAME:=Hy (SxS.same hs0 hn)
 obtain⟨c0,c1,c2,c3,c4,c5⟩:=HS.out.box.cells
 obtain⟨f0,f1,f2,f3,f4,f5⟩:=HS.out.out.frz
 obtain⟨z0,z1,z2,z3,z4,z5⟩:=HS.out.out.cells
 obtain⟨r,hr⟩:∃r:ByteArray×ae,aP d gC=r:=⟨_,rfl⟩
 have HRR:=Hy hr
 rw[hr]
 clear hs hs0 hn hr
 unfold gC
 go_enter func10,ntmps10
 go_wp2_with fail
 generalize hW:World.alloc _ _=W at HS c0 c1 c2 c3 c4 c5 f0 f1 f2 f3 f4 f5 z0 z1 z2 z3 z4 z5 ⊢
 clear hW
 refine(show Calls prog 27 #[.agg #[.slice Ae d.eng.length ce]] W (cw W (aS gQ d.eng) (af d.eng)) from Al _ d.eng _ HS.out.sta.2.1.1).mono ?_
 rintro e1 w1 ⟨x1,rfl,o1,b1⟩
 obtain⟨A1,k1,rfl,-,-,-⟩:=o1.strs.open_
 have ba:Below w1.heap.size w1 (w1.alloc (.cells #[.slice A1 (aS gQ d.eng).length k1] 32)):=ab w1 _
 have KE:=Blk.new' w1 32 (.slice A1 (aS gQ d.eng).length k1) w1.heap.size rfl
 have H1:=Hy (HS.out.next (aa b1 ba))
 have HX:=Hy (o1.strs.bel ba)
 have HXO:=Hy (HS.out.engO o1)
 clear c0 c1 c2 c3 c4 c5 f0 f1 f2 f3 f4 f5 z0 z1 z2 z3 z4 z5 b1 ba o1
 obtain⟨c0,c1,c2,c3,c4,c5⟩:=H1.out.box.cells
 obtain⟨f0,f1,f2,f3,f4,f5⟩:=H1.out.out.frz
 obtain⟨z0,z1,z2,z3,z4,z5⟩:=H1.out.out.cells
 obtain⟨u0,-⟩:=KE.one
 go_wp2_with fail
 generalize hW1:w1.alloc (.cells #[.slice A1 (aS gQ d.eng).length k1] 32)=W1 at H1 HX ⊢
 clear hW1 c0 c1 c2 c3 c4 c5 f0 f1 f2 f3 f4 f5 z0 z1 z2 z3 z4 z5 u0 KE
 have HM:=fm _ _ _ d (aS gQ d.eng) (af d.eng) W1 H1.out.sta.r HX.out HXO.out H1.out.new
 obtain⟨q,hq⟩:∃q:ByteArray×ae,(aj (bx (aS gQ d.eng)) (af d.eng),aX d (aS gQ d.eng) (af d.eng))=q:=⟨_,rfl⟩
 have HRQ:=Hy (show r=q from HRR.out.symm.trans ((kX d).trans hq))
 rw[hq] at HM
 clear hq
 refine HM.mono ?_
 rintro e3 w3 ⟨v3,rfl,s3,b3⟩
 have H3:=Hy (H1.out.next b3)
 obtain⟨p2,e2,t2,rfl,sq⟩:=s3.s
 obtain⟨Ap2,cp2,rfl,-,-,-⟩:=sq.1.1.open_
 obtain⟨Ae2,ce2,rfl,-,-,-⟩:=sq.2.1.1.open_
 obtain⟨At2,ct2,rfl,-,-,-⟩:=sq.2.2.1.open_
 have SQ:=Hy sq
 clear sq
 clear b3 HM
 obtain⟨c0,c1,c2,c3,c4,c5⟩:=H3.out.box.cells
 obtain⟨f0,f1,f2,f3,f4,f5⟩:=H3.out.out.frz
 obtain⟨z0,z1,z2,z3,z4,z5⟩:=H3.out.out.cells
 go_wp2
 obtain⟨kk,ss,bb⟩:=H3.out.done SQ.out
 generalize World.setCell _ _ _=w9 at kk ss bb ⊢
 obtain⟨x0,x1,x2,x3,x4,x5⟩:=kk.cells
 refine bodyPost_ret (v:=.tuple #[.agg #[(.slice Ap2 q.2.poly.length cp2),(.slice Ae2 q.2.eng.length ce2),(.slice At2 q.2.tab.length ct2),.int .i64 q.2.rw,.int .i64 q.2.ac,.int .i64 q.2.wi],.string q.1]) (by simp[results,results10,go_sem,x0,x1,x2,x3,x4,x5]) rfl ?_
 rw[HRQ.out]
 exact⟨_,rfl,ss,bb⟩
theorem DL (P:Nat→Prop) (v:Value) (d:ae) (w:World) (hs:SxR P w v d) (hn:SxN P w):Calls prog 10 #[v,.string d8] w (SxQ P w (aP d d8)):=by
 obtain⟨p,e,t,rfl,hs0⟩:=hs.s
 obtain⟨Ap,cp,rfl,-,-,-⟩:=hs0.1.1.open_
 obtain⟨Ae,ce,rfl,-,-,-⟩:=hs0.2.1.1.open_
 obtain⟨At,ct,rfl,-,-,-⟩:=hs0.2.2.1.open_
 have HS:=Hy (Sxn.first hs0 hn)
 have HSAME:=Hy (SxS.same hs0 hn)
 obtain⟨c0,c1,c2,c3,c4,c5⟩:=HS.out.box.cells
 obtain⟨f0,f1,f2,f3,f4,f5⟩:=HS.out.out.frz
 obtain⟨z0,z1,z2,z3,z4,z5⟩:=HS.out.out.cells
 obtain⟨r,hr⟩:∃r:ByteArray×ae,aP d d8=r:=⟨_,rfl⟩
 have HRR:=Hy hr
 rw[hr]
 clear hs hs0 hn hr
 have hsz:=fv d.poly
 have hcat:¬ 9223372036854775807<(av d.poly).size+1:=by omega
 unfold d8
 have HVP0:=Hy HS.out.sta.1.1
 go_enter func10,ntmps10
 have tok1:True:=trivial
 go_wp2_with fail
 generalize hW:World.alloc _ _=W at HS c0 c1 c2 c3 c4 c5 f0 f1 f2 f3 f4 f5 z0 z1 z2 z3 z4 z5 HVP0 ⊢
 clear hW
 have HVP:=HVP0
 go_region_law (first
  |((try go_simp);go_at_call 30;have _t:=tok1;go_loud (refine(bJ _ d.poly _ (by first|exact HVP.out|exact HVP.out.bel (ah _))).mono ?_;rintro e5 w5 ⟨rfl,b5⟩;replace b5:Below W.heap.size W w5:=(by first|exact b5|exact aa (ah _) b5);have G5:=Hy (HS.out.next b5);obtain⟨f0,f1,f2,f3,f4,f5⟩:=G5.out.out.frz;obtain⟨z0,z1,z2,z3,z4,z5⟩:=G5.out.out.cells;obtain⟨y0,y1,y2,y3,y4,y5⟩:=G5.out.box.cells;clear tok1 b5;(try dsimp only)))
  |fail)
 all_goals
  go_wp2
  obtain⟨kk,ss,bb⟩:=G5.out.done G5.out.sta
  generalize World.setCell _ _ _=w9 at kk ss bb ⊢
  obtain⟨x0,x1,x2,x3,x4,x5⟩:=kk.cells
  refine bodyPost_ret (v:=.tuple #[.agg #[(.slice Ap d.poly.length cp),(.slice Ae d.eng.length ce),(.slice At d.tab.length ct),.int .i64 d.rw,.int .i64 d.ac,.int .i64 d.wi],.string (av d.poly++⟨#[10]⟩)]) (by simp[results,results10,go_sem,x0,x1,x2,x3,x4,x5]) rfl ?_
  rw[show r=(av d.poly++⟨#[10]⟩,d) from HRR.out.symm.trans (mC d)]
  exact⟨_,rfl,ss,bb⟩
theorem zY (P:Nat→Prop) (v:Value) (d:ae) (w:World) (ht:d.tab.length≤1048576) (hs:SxR P w v d) (hn:SxN P w):Calls prog 10 #[v,.string gx] w (SxQ P w (aP d gx)):=by
 obtain⟨p,e,t,rfl,hs0⟩:=hs.s
 obtain⟨Ap,cp,rfl,-,-,-⟩:=hs0.1.1.open_
 obtain⟨Ae,ce,rfl,-,-,-⟩:=hs0.2.1.1.open_
 obtain⟨At,ct,rfl,-,-,-⟩:=hs0.2.2.1.open_
 have HS:=Hy (Sxn.first hs0 hn)
 have HSAME:=Hy (SxS.same hs0 hn)
 obtain⟨c0,c1,c2,c3,c4,c5⟩:=HS.out.box.cells
 obtain⟨f0,f1,f2,f3,f4,f5⟩:=HS.out.out.frz
 obtain⟨z0,z1,z2,z3,z4,z5⟩:=HS.out.out.cells
 obtain⟨r,hr⟩:∃r:ByteArray×ae,aP d gx=r:=⟨_,rfl⟩
 have HRR:=Hy hr
 rw[hr]
 clear hs hs0 hn hr
 have hdb:=rZ d.tab
 have hsz:=tj d.tab
 unfold gx
 have HVT0:=Hy HS.out.sta.2.2.1
 go_enter func10,ntmps10
 have tok1:True:=trivial
 have tok2:True:=trivial
 have tok3:True:=trivial
 have tok4:True:=trivial
 go_wp2_with fail
 generalize hW:World.alloc _ _=W at HS c0 c1 c2 c3 c4 c5 f0 f1 f2 f3 f4 f5 z0 z1 z2 z3 z4 z5 HVT0 ⊢
 clear hW
 have HVT:=HVT0
 go_region_held3 (fun w'=>w'.cell? ⟨w.heap.size,0,none⟩=some (.slice Ap d.poly.length cp)∧w'.cell? ⟨w.heap.size,1,none⟩=some (.slice Ae d.eng.length ce)∧w'.cell? ⟨w.heap.size,2,none⟩=some (.slice At d.tab.length ct)∧w'.cell? ⟨w.heap.size,3,none⟩=some (.int .i64 d.rw)∧w'.cell? ⟨w.heap.size,4,none⟩=some (.int .i64 d.ac)∧w'.cell? ⟨w.heap.size,5,none⟩=some (.int .i64 d.wi)) (first|with_reducible exact⟨c0,c1,c2,c3,c4,c5⟩|with_reducible exact G7.out.kept (.slice Ap d.poly.length cp) (.slice Ae d.eng.length ce) (.slice At d.tab.length ct) d|exact⟨c0,c1,c2,c3,c4,c5⟩|exact G7.out.kept (.slice Ap d.poly.length cp) (.slice Ae d.eng.length ce) (.slice At d.tab.length ct) d|go_keep)
  (first
  |((try go_simp);go_at_call 32;have _t:=tok1;go_loud (refine(ax _ d.tab _ (by first|exact HVT.out|exact HVT.out.bel (ah _))).mono ?_;rintro e5 w5 ⟨rfl,rfl⟩;clear tok1;(try dsimp only)))
  |((try go_simp);go_at_call 34;have _t:=tok2;go_loud (refine(mz _ d.tab _ (by first|exact HVT.out|exact HVT.out.bel (ah _)) ht).mono ?_;rintro e6 w6 ⟨rfl,b6⟩;replace b6:Below W.heap.size W w6:=(by first|exact b6|exact aa (ah _) b6);have G6:=Hy (HS.out.next b6);obtain⟨f0,f1,f2,f3,f4,f5⟩:=G6.out.out.frz;obtain⟨z0,z1,z2,z3,z4,z5⟩:=G6.out.out.cells;obtain⟨c0,c1,c2,c3,c4,c5⟩:=G6.out.box.cells;clear tok2 b6;(try dsimp only)))
  |((try go_simp);go_at_call 33;have _t:=tok3;go_loud (refine(eC (et d.tab) _ (by omega) (by omega)).mono ?_;rintro e7 w7 ⟨rfl,b7⟩;replace b7:Below w6.heap.size w6 w7:=(by first|exact b7|exact aa (ah _) b7);have G7:=Hy (G6.out.next b7);obtain⟨f0,f1,f2,f3,f4,f5⟩:=G7.out.out.frz;obtain⟨z0,z1,z2,z3,z4,z5⟩:=G7.out.out.cells;obtain⟨c0,c1,c2,c3,c4,c5⟩:=G7.out.box.cells;clear tok3 b7;(try dsimp only)))
  |((try go_simp);go_at_call 29;have _t:=tok4;go_loud (refine(dB (ag d.tab) (aA (et d.tab)) _ (by omega)).mono ?_;rintro e8 w8 ⟨rfl,rfl⟩;clear tok4;(try dsimp only)))
  |fail)
 all_goals
  go_wp2
  obtain⟨kk,ss,bb⟩:=G7.out.done G7.out.sta
  generalize World.setCell _ _ _=w9 at kk ss bb ⊢
  obtain⟨x0,x1,x2,x3,x4,x5⟩:=kk.cells
  refine bodyPost_ret (v:=.tuple #[.agg #[(.slice Ap d.poly.length cp),(.slice Ae d.eng.length ce),(.slice At d.tab.length ct),.int .i64 d.rw,.int .i64 d.ac,.int .i64 d.wi],.string (aj (aA (et d.tab)) (ag d.tab))]) (by simp[results,results10,go_sem,x0,x1,x2,x3,x4,x5]) rfl ?_
  rw[show r=(aj (aA (et d.tab)) (ag d.tab),d) from HRR.out.symm.trans (kU d)]
  exact⟨_,rfl,ss,bb⟩
theorem AK (P:Nat→Prop) (v:Value) (d:ae) (w:World) (ht:d.tab.length≤60) (hs:SxR P w v d) (hn:SxN P w):Calls prog 10 #[v,.string iO] w (SxQ P w (aP d iO)):=by
 obtain⟨p,e,t,rfl,hs0⟩:=hs.s
 obtain⟨Ap,cp,rfl,-,-,-⟩:=hs0.1.1.open_
 obtain⟨Ae,ce,rfl,-,-,-⟩:=hs0.2.1.1.open_
 obtain⟨At,ct,rfl,-,-,-⟩:=hs0.2.2.1.open_
 have HS:=Hy (Sxn.first hs0 hn)
 have HSAME:=Hy (SxS.same hs0 hn)
 obtain⟨c0,c1,c2,c3,c4,c5⟩:=HS.out.box.cells
 obtain⟨f0,f1,f2,f3,f4,f5⟩:=HS.out.out.frz
 obtain⟨z0,z1,z2,z3,z4,z5⟩:=HS.out.out.cells
 obtain⟨r,hr⟩:∃r:ByteArray×ae,aP d iO=r:=⟨_,rfl⟩
 have HRR:=Hy hr
 rw[hr]
 clear hs hs0 hn hr
 obtain⟨hsz,hsl⟩:=oF d.tab ht
 unfold iO
 have HVT0:=Hy HS.out.sta.2.2.1
 go_enter func10,ntmps10
 have tok1:True:=trivial
 have tok2:True:=trivial
 have tok3:True:=trivial
 have tok4:True:=trivial
 go_wp2_with fail
 generalize hW:World.alloc _ _=W at HS c0 c1 c2 c3 c4 c5 f0 f1 f2 f3 f4 f5 z0 z1 z2 z3 z4 z5 HVT0 ⊢
 clear hW
 have HVT:=HVT0
 go_region_held3 (fun w'=>w'.cell? ⟨w.heap.size,0,none⟩=some (.slice Ap d.poly.length cp)∧w'.cell? ⟨w.heap.size,1,none⟩=some (.slice Ae d.eng.length ce)∧w'.cell? ⟨w.heap.size,2,none⟩=some (.slice At d.tab.length ct)∧w'.cell? ⟨w.heap.size,3,none⟩=some (.int .i64 d.rw)∧w'.cell? ⟨w.heap.size,4,none⟩=some (.int .i64 d.ac)∧w'.cell? ⟨w.heap.size,5,none⟩=some (.int .i64 d.wi)) (first|with_reducible exact⟨c0,c1,c2,c3,c4,c5⟩|with_reducible exact G7.out.kept (.slice Ap d.poly.length cp) (.slice Ae d.eng.length ce) (.slice At d.tab.length ct) d|exact⟨c0,c1,c2,c3,c4,c5⟩|exact G7.out.kept (.slice Ap d.poly.length cp) (.slice Ae d.eng.length ce) (.slice At d.tab.length ct) d|go_keep)
  (first
  |((try go_simp);go_at_call 32;have _t:=tok1;go_loud (refine(ax _ d.tab _ (by first|exact HVT.out|exact HVT.out.bel (ah _))).mono ?_;rintro e5 w5 ⟨rfl,rfl⟩;clear tok1;(try dsimp only)))
  |((try go_simp);go_at_call 36;have _t:=tok2;go_loud (refine(tN _ d.tab _ (by first|exact HVT.out|exact HVT.out.bel (ah _))).mono ?_;rintro e6 w6 ⟨x1,rfl,o1,b6⟩;replace b6:Below W.heap.size W w6:=(by first|exact b6|exact aa (ah _) b6);have G6:=Hy (HS.out.next b6);have HO:=Hy o1.ints;obtain⟨A1,k1,rfl,-,-,-⟩:=o1.ints.open_;clear o1;obtain⟨f0,f1,f2,f3,f4,f5⟩:=G6.out.out.frz;obtain⟨z0,z1,z2,z3,z4,z5⟩:=G6.out.out.cells;obtain⟨c0,c1,c2,c3,c4,c5⟩:=G6.out.box.cells;clear tok2 b6;(try dsimp only)))
  |((try go_simp);go_at_call 35;have _t:=tok3;go_loud (refine(dC _ (ff d.tab 9) _ HO.out (by omega)).mono ?_;rintro e7 w7 ⟨rfl,b7⟩;replace b7:Below w6.heap.size w6 w7:=(by first|exact b7|exact aa (ah _) b7);have G7:=Hy (G6.out.next b7);obtain⟨f0,f1,f2,f3,f4,f5⟩:=G7.out.out.frz;obtain⟨z0,z1,z2,z3,z4,z5⟩:=G7.out.out.cells;obtain⟨c0,c1,c2,c3,c4,c5⟩:=G7.out.box.cells;clear tok3 b7;(try dsimp only)))
  |((try go_simp);go_at_call 29;have _t:=tok4;go_loud (refine(dB (ag d.tab) (aw (ff d.tab 9)) _ (by omega)).mono ?_;rintro e8 w8 ⟨rfl,rfl⟩;clear tok4;(try dsimp only)))
  |fail)
 all_goals
  go_wp2
  obtain⟨kk,ss,bb⟩:=G7.out.done G7.out.sta
  generalize World.setCell _ _ _=w9 at kk ss bb ⊢
  obtain⟨x0,x1,x2,x3,x4,x5⟩:=kk.cells
  refine bodyPost_ret (v:=.tuple #[.agg #[(.slice Ap d.poly.length cp),(.slice Ae d.eng.length ce),(.slice At d.tab.length ct),.int .i64 d.rw,.int .i64 d.ac,.int .i64 d.wi],.string (aj (aw (ff d.tab 9)) (ag d.tab))]) (by simp[results,results10,go_sem,x0,x1,x2,x3,x4,x5]) rfl ?_
  rw[show r=(aj (aw (ff d.tab 9)) (ag d.tab),d) from HRR.out.symm.trans (lD d)]
  exact⟨_,rfl,ss,bb⟩
theorem Be (P:Nat→Prop) (v:Value) (d:ae) (w:World) (ok:d.Ok) (hs:SxR P w v d) (hn:SxN P w):Calls prog 10 #[v,.string iR] w (SxQ P w (aP d iR)):=by
 obtain⟨p,e,t,rfl,hs0⟩:=hs.s
 obtain⟨Ap,cp,rfl,-,-,-⟩:=hs0.1.1.open_
 obtain⟨Ae,ce,rfl,-,-,-⟩:=hs0.2.1.1.open_
 obtain⟨At,ct,rfl,-,-,-⟩:=hs0.2.2.1.open_
 have HS:=Hy (Sxn.first hs0 hn)
 have HSAME:=Hy (SxS.same hs0 hn)
 obtain⟨c0,c1,c2,c3,c4,c5⟩:=HS.out.box.cells
 obtain⟨f0,f1,f2,f3,f4,f5⟩:=HS.out.out.frz
 obtain⟨z0,z1,z2,z3,z4,z5⟩:=HS.out.out.cells
 obtain⟨r,hr⟩:∃r:ByteArray×ae,aP d iR=r:=⟨_,rfl⟩
 have HRR:=Hy hr
 rw[hr]
 clear hs hs0 hn hr
 have hsz:=congrArg ByteArray.size (kK ok)
 have hpl:=n6 ok
 rw[Ii] at hsz
 have h10:(⟨#[10]⟩:ByteArray).size=1:=rfl
 have hcat:¬ 9223372036854775807<(jT d).size+1:=by omega
 unfold iR
 have HVT0:=Hy HS.out.sta.2.2.1
 go_enter func10,ntmps10
 have tok1:True:=trivial
 go_wp2_with fail
 generalize hW:World.alloc _ _=W at HS c0 c1 c2 c3 c4 c5 f0 f1 f2 f3 f4 f5 z0 z1 z2 z3 z4 z5 HVT0 ⊢
 clear hW
 have HVT:=HVT0
 go_region_held3 (fun w'=>w'.cell? ⟨w.heap.size,0,none⟩=some (.slice Ap d.poly.length cp)∧w'.cell? ⟨w.heap.size,1,none⟩=some (.slice Ae d.eng.length ce)∧w'.cell? ⟨w.heap.size,2,none⟩=some (.slice At d.tab.length ct)∧w'.cell? ⟨w.heap.size,3,none⟩=some (.int .i64 d.rw)∧w'.cell? ⟨w.heap.size,4,none⟩=some (.int .i64 d.ac)∧w'.cell? ⟨w.heap.size,5,none⟩=some (.int .i64 d.wi)) (first|with_reducible exact⟨c0,c1,c2,c3,c4,c5⟩|with_reducible exact G5.out.kept (.slice Ap d.poly.length cp) (.slice Ae d.eng.length ce) (.slice At d.tab.length ct) d|exact⟨c0,c1,c2,c3,c4,c5⟩|exact G5.out.kept (.slice Ap d.poly.length cp) (.slice Ae d.eng.length ce) (.slice At d.tab.length ct) d|go_keep)
  (first
  |((try go_simp);go_at_call 37;have _t:=tok1;go_loud (refine(pU d _ _ (by first|exact HVT.out|exact HVT.out.bel (ah _)) ok).mono ?_;rintro e5 w5 ⟨rfl,b5⟩;replace b5:Below W.heap.size W w5:=(by first|exact b5|exact aa (ah _) b5);have G5:=Hy (HS.out.next b5);obtain⟨f0,f1,f2,f3,f4,f5⟩:=G5.out.out.frz;obtain⟨z0,z1,z2,z3,z4,z5⟩:=G5.out.out.cells;obtain⟨c0,c1,c2,c3,c4,c5⟩:=G5.out.box.cells;clear tok1 b5;(try dsimp only)))
  |fail)
 all_goals
  go_wp2
  obtain⟨kk,ss,bb⟩:=G5.out.done G5.out.sta
  generalize World.setCell _ _ _=w9 at kk ss bb ⊢
  obtain⟨x0,x1,x2,x3,x4,x5⟩:=kk.cells
  refine bodyPost_ret (v:=.tuple #[.agg #[(.slice Ap d.poly.length cp),(.slice Ae d.eng.length ce),(.slice At d.tab.length ct),.int .i64 d.rw,.int .i64 d.ac,.int .i64 d.wi],.string (jT d++⟨#[10]⟩)]) (by simp[results,results10,go_sem,x0,x1,x2,x3,x4,x5]) rfl ?_
  rw[show r=(jT d++⟨#[10]⟩,d) from HRR.out.symm.trans ((lV d).trans (by rw[kK ok]))]
  exact⟨_,rfl,ss,bb⟩
theorem Ed (P:Nat→Prop) (v:Value) (d:ae) (s:ByteArray) (w:World) (hs:SxR P w v d) (hn:SxN P w) (h:s∉dc):Calls prog 10 #[v,.string s] w (SxQ P w (aP d s)):=by
 have HW:=Hy (qf d s (fun w hw e=>h (e▸hw)))
 simp only[dc,Iq,Ir,or_false,not_or] at h
 obtain⟨h1,h2,h3,h4,h5,h6,h7,h8,h9,h10,h11⟩:=h
 replace h1:=bG (l:=[116,117,114,110]) h1
 replace h2:=bG (l:=[98,97,99,107]) h2
 replace h3:=bG (l:=[115,107,101,119]) h3
 replace h4:=bG (l:=[117,110,115,107,101,119]) h4
 replace h5:=bG (l:=[104,97,108,118,101,115]) h5
 replace h6:=bG (l:=[114,101,97,100]) h6
 replace h7:=bG (l:=[102,105,116]) h7
 replace h8:=bG (l:=[100,101,103,114,101,101]) h8
 replace h9:=bG (l:=[110,105,110,101,115]) h9
 replace h10:=bG (l:=[112,114,105,110,116]) h10
 replace h11:=bG (l:=[112,111,108,121]) h11
 obtain⟨p,e,t,rfl,hs0⟩:=hs.s
 obtain⟨Ap,cp,rfl,-,-,-⟩:=hs0.1.1.open_
 obtain⟨Ae,ce,rfl,-,-,-⟩:=hs0.2.1.1.open_
 obtain⟨At,ct,rfl,-,-,-⟩:=hs0.2.2.1.open_
 have HS:=Hy (Sxn.first hs0 hn)
 have HSAME:=Hy (SxS.same hs0 hn)
 obtain⟨c0,c1,c2,c3,c4,c5⟩:=HS.out.box.cells
 obtain⟨f0,f1,f2,f3,f4,f5⟩:=HS.out.out.frz
 obtain⟨z0,z1,z2,z3,z4,z5⟩:=HS.out.out.cells
 obtain⟨r,hr⟩:∃r:ByteArray×ae,aP d s=r:=⟨_,rfl⟩
 have HRR:=Hy hr
 rw[hr]
 clear hs hs0 hn hr
 go_enter func10,ntmps10
 go_wp2
 obtain⟨kk,ss,bb⟩:=HSAME.out
 generalize World.alloc _ _=w9 at kk ss bb ⊢
 obtain⟨x0,x1,x2,x3,x4,x5⟩:=kk.cells
 refine bodyPost_ret (v:=.tuple #[.agg #[(.slice Ap d.poly.length cp),(.slice Ae d.eng.length ce),(.slice At d.tab.length ct),.int .i64 d.rw,.int .i64 d.ac,.int .i64 d.wi],.string ⟨#[119,104,97,116,10]⟩]) (by simp[results,results10,go_sem,x0,x1,x2,x3,x4,x5]) rfl ?_
 rw[show r=(⟨#[119,104,97,116,10]⟩,d) from HRR.out.symm.trans (HW.out)]
 exact⟨_,rfl,ss,bb⟩
theorem Sxn.keptB {P:Nat→Prop} {w:World} {R:Nat} {p e t:Value} {d:ae} {X:World} {b:Nat} {ty:TypeId} {cs:List Value} (h:Sxn P w R p e t d X) (hb:Blk X b ty cs) (hne:b≠R) (p' e' t':Value) (d':ae):
  Blk ((((((X.setCell ⟨R,0,none⟩ p').setCell ⟨R,1,none⟩ e').setCell ⟨R,2,none⟩ t').setCell ⟨R,3,none⟩ (.int .i64 d'.rw)).setCell ⟨R,4,none⟩ (.int .i64 d'.ac)).setCell ⟨R,5,none⟩ (.int .i64 d'.wi)) b ty cs:=by
 obtain⟨-,hg⟩:=up h.out p' e' t' d'
 exact(hg.block b hb.lt (fun e=>hne (It e))).trans hb
theorem C8 (P:Nat→Prop) (v:Value) (d:ae) (t:ByteArray) (w:World) (ht:t.size≤1048576) (ok:d.Ok) (hs:SxR P w v d) (hn:SxN P w):
  Calls prog 47 #[v,.string t] w (SxQ P w (gk d t,iX d t)):=by
 have HOK:=Hy ok
 obtain⟨J,T,hR⟩:∃J T,spR t=(J,T):=⟨_,_,rfl⟩
 have HR:=Hy hR
 clear hR ok
 obtain⟨p,e,tt,rfl,hs0⟩:=hs.s
 obtain⟨Ap,cp,rfl,-,-,-⟩:=hs0.1.1.open_
 obtain⟨Ae,ce,rfl,-,-,-⟩:=hs0.2.1.1.open_
 obtain⟨At,ct,rfl,-,-,-⟩:=hs0.2.2.1.open_
 have HS:=Hy (Sxn.first hs0 hn)
 have HSAME:=Hy (SxS.same hs0 hn)
 obtain⟨c0,c1,c2,c3,c4,c5⟩:=HS.out.box.cells
 obtain⟨f0,f1,f2,f3,f4,f5⟩:=HS.out.out.frz
 obtain⟨z0,z1,z2,z3,z4,z5⟩:=HS.out.out.cells
 obtain⟨r,hr⟩:∃r:ByteArray×ae,(gk d t,iX d t)=r:=⟨_,rfl⟩
 have HRR:=Hy hr
 rw[hr]
 clear hs hs0 hn hr
 go_enter func47,ntmps47
 go_wp2_with fail
 generalize hW:World.alloc _ _=W at HS c0 c1 c2 c3 c4 c5 f0 f1 f2 f3 f4 f5 z0 z1 z2 z3 z4 z5 ⊢
 clear hW
 refine(zW t _ ht).mono ?_
 rintro e2 w2 ⟨⟨v2,he,o2,jin⟩,b2⟩
 rw[HR.out] at he o2 jin
 subst he
 obtain⟨A,c,rfl,-,-,-⟩:=o2.ints.open_
 have ba:Below w2.heap.size w2 (w2.alloc (.cells (bh (.slice A J.poly.length c) J).toArray 97)):=ab w2 _
 have K2:=Blk.new w2 97 (bh (.slice A J.poly.length c) J)
 have HPO:=Hy (HS.out.polyO o2)
 have hwz:=HS.out.siz
 have hne1:w.heap.size≠w2.heap.size:=by have:=b2.size;omega
 have hne2:w2.heap.size≠w.heap.size+1:=by have:=b2.size;omega
 have HX:=Hy (o2.ints.bel ba)
 have H2:=Hy (HS.out.next (aa b2 ba))
 have HJ:=Hy (show J.In from jin)
 obtain⟨a0,a1,a2,a3,a4,a5,a6,a7,a8⟩:=K2.job
 clear c0 c1 c2 c3 c4 c5 f0 f1 f2 f3 f4 f5 z0 z1 z2 z3 z4 z5 b2 ba o2 jin
 unfold bE
 go_wp2_with fail
 clear a0 a1 a2 a3 a4 a5 a6 a7 a8
 change Calls _ _ #[bE (.slice A J.poly.length c) J] (w2.alloc (.cells (bh (.slice A J.poly.length c) J).toArray 97)) _
 generalize hW3:w2.alloc (.cells (bh (.slice A J.poly.length c) J).toArray 97)=w3 at K2 H2 HX ⊢
 clear hW3
 refine(zH _ J _ HX.out HJ.out).mono ?_
 rintro e3 w4 ⟨x4,rfl,o4,b4⟩
 obtain⟨A4,k4,rfl,-,-,-⟩:=o4.ints.open_
 have H4:=Hy (H2.out.next b4)
 have HX4:=Hy (HX.out.bel b4)
 have HK4:=Hy (K2.below b4 K2.lt)
 have HO4:=Hy o4
 have HTO:=Hy (H2.out.tabO o4)
 clear b4 K2 o4
 cases T
 ·have HN:=Hy (mW d (show dZ t=false by unfold dZ;rw[HR.out];rfl))
  obtain⟨c0,c1,c2,c3,c4,c5⟩:=H4.out.box.cells
  obtain⟨f0,f1,f2,f3,f4,f5⟩:=H4.out.out.frz
  obtain⟨z0,z1,z2,z3,z4,z5⟩:=H4.out.out.cells
  go_wp2
  obtain⟨kk,ss,bb⟩:=H4.out.done H4.out.sta
  generalize World.setCell _ _ _=w9 at kk ss bb ⊢
  obtain⟨x0,x1,x2,x3,x4,x5⟩:=kk.cells
  refine bodyPost_ret (v:=.tuple #[.agg #[(.slice Ap d.poly.length cp),(.slice Ae d.eng.length ce),(.slice At d.tab.length ct),.int .i64 d.rw,.int .i64 d.ac,.int .i64 d.wi],.string ⟨#[110,111,10]⟩]) (by simp[results,results47,go_sem,x0,x1,x2,x3,x4,x5]) rfl ?_
  rw[show r=(⟨#[110,111,10]⟩,d) from HRR.out.symm.trans (by rw[HN.out.1,HN.out.2];rfl)]
  exact⟨_,rfl,ss,bb⟩
 ·cases hq:k8 J
  ·have HQ:=Hy hq
   clear hq
   have HN:=Hy (mW d (show dZ t=false by unfold dZ;rw[HR.out];show k8 J=false;exact HQ.out))
   obtain⟨c0,c1,c2,c3,c4,c5⟩:=H4.out.box.cells
   obtain⟨f0,f1,f2,f3,f4,f5⟩:=H4.out.out.frz
   obtain⟨z0,z1,z2,z3,z4,z5⟩:=H4.out.out.cells
   go_wp2
   obtain⟨kk,ss,bb⟩:=H4.out.done H4.out.sta
   generalize World.setCell _ _ _=w9 at kk ss bb ⊢
   obtain⟨x0,x1,x2,x3,x4,x5⟩:=kk.cells
   refine bodyPost_ret (v:=.tuple #[.agg #[(.slice Ap d.poly.length cp),(.slice Ae d.eng.length ce),(.slice At d.tab.length ct),.int .i64 d.rw,.int .i64 d.ac,.int .i64 d.wi],.string ⟨#[110,111,10]⟩]) (by simp[results,results47,go_sem,x0,x1,x2,x3,x4,x5]) rfl ?_
   rw[show r=(⟨#[110,111,10]⟩,d) from HRR.out.symm.trans (by rw[HN.out.1,HN.out.2];rfl)]
   exact⟨_,rfl,ss,bb⟩
  ·obtain⟨r1,a1,i1,er,ea,ei,h1,h2,h3⟩:=uF hq
   have HY:=Hy (po d (show dZ t=true by unfold dZ;rw[HR.out];exact hq))
   have HDK:=Hy (show({ poly:=J.poly,eng:=d.eng,tab:=jtL J,rw:=r1,ac:=a1,wi:=i1 }:ae)=eI d (spR t).1 by rw[HR.out];unfold eI;rw[er,ea,ei];simp)
   have HDO:=Hy (show(eI d (spR t).1).Ok by rw[HR.out];exact lh HOK.out hq)
   have HP:=Hy (H4.out.poly HX4.out HPO.out)
   have HL:=Hy (HP.out.lay r1 a1 i1)
   have HX5:=Hy (show ai (((((w4.setCell ⟨w.heap.size,0,none⟩ (.slice A J.poly.length c)).setCell ⟨w.heap.size,3,none⟩ (.int .i64 (r1:Nat))).setCell ⟨w.heap.size,4,none⟩ (.int .i64 (a1:Nat))).setCell ⟨w.heap.size,5,none⟩ (.int .i64 (i1:Nat)))) (.slice A4 (jtL J).length k4) (jtL J) from(HO4.out.ints.rowFar (az (az (az (aI w4 w.heap.size 0 (.slice A J.poly.length c)) (aI _ w.heap.size 3 (.int .i64 (r1:Nat)))) (aI _ w.heap.size 4 (.int .i64 (a1:Nat)))) (aI _ w.heap.size 5 (.int .i64 (i1:Nat)))) (HTO.out.mono fun j hj e=>hj.2.2 (It e))))
   have HT:=Hy (HL.out.tab HX5.out HTO.out)
   have HXT:=Hy HT.out.sta.2.2.1
   have HK5:=Hy (show Blk (((((w4.setCell ⟨w.heap.size,0,none⟩ (.slice A J.poly.length c)).setCell ⟨w.heap.size,3,none⟩ (.int .i64 (r1:Nat))).setCell ⟨w.heap.size,4,none⟩ (.int .i64 (a1:Nat))).setCell ⟨w.heap.size,5,none⟩ (.int .i64 (i1:Nat))).setCell ⟨w.heap.size,2,none⟩ (.slice A4 (jtL J).length k4)) w2.heap.size 97 (bh (.slice A J.poly.length c) J) from((((HK4.out.far (p:=⟨w.heap.size,0,none⟩) hne1.symm _).far (p:=⟨w.heap.size,3,none⟩) hne1.symm _).far (p:=⟨w.heap.size,4,none⟩) hne1.symm _).far (p:=⟨w.heap.size,5,none⟩) hne1.symm _).far (p:=⟨w.heap.size,2,none⟩) hne1.symm _)
   clear hq
   obtain⟨c0,c1,c2,c3,c4,c5⟩:=H4.out.box.cells
   obtain⟨f0,f1,f2,f3,f4,f5⟩:=H4.out.out.frz
   obtain⟨z0,z1,z2,z3,z4,z5⟩:=H4.out.out.cells
   obtain⟨g0,g1,g2,g3,g4,g5⟩:=H4.out.box.frz
   obtain⟨b0,b1,b2,b3,b4,b5,b6,b7,b8⟩:=HK4.out.job
   rw[er] at b6
   rw[ea] at b7
   rw[ei] at b8
   go_wp2_with fail
   generalize hW5:((((w4.setCell ⟨w.heap.size,0,none⟩ (.slice A J.poly.length c)).setCell ⟨w.heap.size,3,none⟩ (.int .i64 (r1:Nat))).setCell ⟨w.heap.size,4,none⟩ (.int .i64 (a1:Nat))).setCell ⟨w.heap.size,5,none⟩ (.int .i64 (i1:Nat))).setCell ⟨w.heap.size,2,none⟩ (.slice A4 (jtL J).length k4)=W5 at HT HXT HK5 ⊢
   clear hW5 c0 c1 c2 c3 c4 c5 f0 f1 f2 f3 f4 f5 z0 z1 z2 z3 z4 z5 g0 g1 g2 g3 g4 g5 b0 b1 b2 b3 b4 b5 b6 b7 b8
   obtain⟨D,hD⟩:∃D,({ poly:=J.poly,eng:=d.eng,tab:=jtL J,rw:=r1,ac:=a1,wi:=i1 }:ae)=D:=⟨_,rfl⟩
   have HDD:=Hy (hD.symm.trans HDK.out)
   have HT2:Hid (Sxn P w (w.heap.size+1) (.slice A J.poly.length c) (.slice Ae d.eng.length ce) (.slice A4 (jtL J).length k4) D W5):=by rw[←hD];exact HT
   have HXT2:Hid (ai W5 (.slice A4 (jtL J).length k4) D.tab):=by rw[←hD];exact HXT
   obtain⟨-,-,-,-,-,-,b6,b7,b8⟩:=HK5.out.job
   rw[er,show r1=D.rw by rw[←hD]] at b6
   rw[ea,show a1=D.ac by rw[←hD]] at b7
   rw[ei,show i1=D.wi by rw[←hD]] at b8
   have HOD:=Hy (show D.Ok by rw[HDD.out];exact HDO.out)
   have HKC:Hid (∀X,Below W5.heap.size W5 X→X.cell? ⟨w2.heap.size,6,none⟩=some (.int .i64 D.rw)∧X.cell? ⟨w2.heap.size,7,none⟩=some (.int .i64 D.ac)∧X.cell? ⟨w2.heap.size,8,none⟩=some (.int .i64 D.wi)):=Hy fun X h=>⟨(h.cell (by exact HK5.out.lt)).trans b6,(h.cell (by exact HK5.out.lt)).trans b7,(h.cell (by exact HK5.out.lt)).trans b8⟩
   have HKD:=Hy (fun X (h:Below W5.heap.size W5 X) (G:Sxn P w (w.heap.size+1) (.slice A J.poly.length c) (.slice Ae d.eng.length ce) (.slice A4 (jtL J).length k4) D X)=>show(((((((X.setCell ⟨w.heap.size+1,0,none⟩ (.slice A J.poly.length c)).setCell ⟨w.heap.size+1,1,none⟩ (.slice Ae d.eng.length ce)).setCell ⟨w.heap.size+1,2,none⟩ (.slice A4 (jtL J).length k4)).setCell ⟨w.heap.size+1,3,none⟩ (.int .i64 D.rw)).setCell ⟨w.heap.size+1,4,none⟩ (.int .i64 D.ac)).setCell ⟨w.heap.size+1,5,none⟩ (.int .i64 D.wi)).cell? ⟨w2.heap.size,6,none⟩=some (.int .i64 D.rw)∧((((((X.setCell ⟨w.heap.size+1,0,none⟩ (.slice A J.poly.length c)).setCell ⟨w.heap.size+1,1,none⟩ (.slice Ae d.eng.length ce)).setCell ⟨w.heap.size+1,2,none⟩ (.slice A4 (jtL J).length k4)).setCell ⟨w.heap.size+1,3,none⟩ (.int .i64 D.rw)).setCell ⟨w.heap.size+1,4,none⟩ (.int .i64 D.ac)).setCell ⟨w.heap.size+1,5,none⟩ (.int .i64 D.wi)).cell? ⟨w2.heap.size,7,none⟩=some (.int .i64 D.ac)∧((((((X.setCell ⟨w.heap.size+1,0,none⟩ (.slice A J.poly.length c)).setCell ⟨w.heap.size+1,1,none⟩ (.slice Ae d.eng.length ce)).setCell ⟨w.heap.size+1,2,none⟩ (.slice A4 (jtL J).length k4)).setCell ⟨w.heap.size+1,3,none⟩ (.int .i64 D.rw)).setCell ⟨w.heap.size+1,4,none⟩ (.int .i64 D.ac)).setCell ⟨w.heap.size+1,5,none⟩ (.int .i64 D.wi)).cell? ⟨w2.heap.size,8,none⟩=some (.int .i64 D.wi)) from by
    obtain⟨-,-,-,-,-,-,q6,q7,q8⟩:=(G.keptB (HK5.out.below h HK5.out.lt) hne2 (.slice A J.poly.length c) (.slice Ae d.eng.length ce) (.slice A4 (jtL J).length k4) D).job
    rw[er,show r1=D.rw by rw[←hD]] at q6
    rw[ea,show a1=D.ac by rw[←hD]] at q7
    rw[ei,show i1=D.wi by rw[←hD]] at q8
    exact⟨q6,q7,q8⟩)
   have HSP:=Hy (kK HOD.out)
   have hsz:=congrArg ByteArray.size (kK HOD.out)
   have hpl:=n6 HOD.out
   rw[Ii] at hsz
   have h10:(⟨#[10]⟩:ByteArray).size=1:=rfl
   have hcat:¬ 9223372036854775807<(jT D).size+1:=by omega
   clear hD hsz hpl HT HXT er ea ei h1 h2 h3
   obtain⟨c0,c1,c2,c3,c4,c5⟩:=HT2.out.box.cells
   obtain⟨f0,f1,f2,f3,f4,f5⟩:=HT2.out.out.frz
   obtain⟨z0,z1,z2,z3,z4,z5⟩:=HT2.out.out.cells
   have tok1:True:=trivial
   try rw[show((r1:Nat):Int)=D.rw from rfl]
   go_region_held3 (fun w'=>(w'.cell? ⟨w.heap.size,0,none⟩=some (.slice A J.poly.length c)∧w'.cell? ⟨w.heap.size,1,none⟩=some (.slice Ae d.eng.length ce)∧w'.cell? ⟨w.heap.size,2,none⟩=some (.slice A4 (jtL J).length k4)∧w'.cell? ⟨w.heap.size,3,none⟩=some (.int .i64 D.rw)∧w'.cell? ⟨w.heap.size,4,none⟩=some (.int .i64 D.ac)∧w'.cell? ⟨w.heap.size,5,none⟩=some (.int .i64 D.wi))∧w'.cell? ⟨w2.heap.size,6,none⟩=some (.int .i64 D.rw)∧w'.cell? ⟨w2.heap.size,7,none⟩=some (.int .i64 D.ac)∧w'.cell? ⟨w2.heap.size,8,none⟩=some (.int .i64 D.wi)) (first|with_reducible exact⟨⟨c0,c1,c2,c3,c4,c5⟩,b6,b7,b8⟩|with_reducible exact⟨⟨c0,c1,c2,c3,c4,c5⟩,HKC.out _ B5.out⟩|with_reducible exact⟨G5.out.kept (.slice A J.poly.length c) (.slice Ae d.eng.length ce) (.slice A4 (jtL J).length k4) D,HKD.out _ B5.out G5.out⟩|exact⟨⟨c0,c1,c2,c3,c4,c5⟩,b6,b7,b8⟩|exact⟨G5.out.kept (.slice A J.poly.length c) (.slice Ae d.eng.length ce) (.slice A4 (jtL J).length k4) D,HKD.out _ B5.out G5.out⟩|go_keep) (first
    |((try go_simp);go_at_call 37;have _t:=tok1;go_loud (refine(pU D _ _ (by first|exact HXT2.out|exact HXT2.out.bel (ah _)) HOD.out).mono ?_;rintro e5 w5 ⟨rfl,b5⟩;replace b5:Below W5.heap.size W5 w5:=(by first|exact b5|exact aa (ah _) b5);have B5:=Hy b5;have G5:=Hy (HT2.out.next b5);obtain⟨f0,f1,f2,f3,f4,f5⟩:=G5.out.out.frz;obtain⟨z0,z1,z2,z3,z4,z5⟩:=G5.out.out.cells;obtain⟨c0,c1,c2,c3,c4,c5⟩:=G5.out.box.cells;clear tok1 b5;(try dsimp only)))
    |fail)
   all_goals
    go_wp2
    obtain⟨kk,ss,bb⟩:=G5.out.done G5.out.sta
    generalize World.setCell _ _ _=w9 at kk ss bb ⊢
    obtain⟨x0,x1,x2,x3,x4,x5⟩:=kk.cells
    refine bodyPost_ret (v:=.tuple #[.agg #[(.slice A J.poly.length c),(.slice Ae d.eng.length ce),(.slice A4 (jtL J).length k4),.int .i64 D.rw,.int .i64 D.ac,.int .i64 D.wi],.string (jT D++⟨#[10]⟩)]) (by simp[results,results47,go_sem,x0,x1,x2,x3,x4,x5]) rfl ?_
    rw[show r=(jT D++⟨#[10]⟩,D) from HRR.out.symm.trans (by rw[HY.out.1,HY.out.2,←HDD.out,HSP.out])]
    exact⟨_,rfl,ss,bb⟩
theorem kh {w w':World} {g b:Nat} (hne:g≠b) (hl:g<w.heap.size) (i:Nat) (h:w.grownBy w' (some b)):w'.cell? ⟨g,i,none⟩=w.cell? ⟨g,i,none⟩:=by
 have:=h.block g hl (fun e=>hne (It e))
 simp only[World.cell?,this]
theorem uJ (l:List ByteArray) (n t c a:Int):(eY l n t c a).length≤1048576:=by
 cases h:dk l n t c a
 ·rw[vu h]
  exact Ip _
 ·unfold eY
  rw[if_pos h,rC]
  have:=(pu h).2.1
  omega
theorem vZ {d:ae} {a c:Int} (ha : -9223372036854775808≤a∧a≤9223372036854775807) (hc : -9223372036854775808≤c∧c≤9223372036854775807):cG dK [a,c] d (aj (aw (bY d.poly a c)) (cf d.poly a c&&ag (bY d.poly a c))) (aJ d (bY d.poly a c) (cf d.poly a c)):=by
 intro b v w hv hd hg
 have HD:=Hy hd
 have HG:=Hy hg
 have hrl:(bY d.poly a c).length≤1048576:=Ih (kj d.poly a c) (by omega)
 obtain⟨pv,en,t,k0,k1,k2,k3⟩:=hd
 have HT:=Hy (k1.ints)
 obtain⟨A,cp,rfl,-,-,-⟩:=(k1.ints).open_
 have hvw:=hv
 obtain⟨g,cn,rfl,hgl,hcn⟩:=eH hv (by simp)
 have hgb:g≠b:=fun e=>qM k0 hvw.1 (by decide) (by rw[e];rfl)
 have n0:w.cell? ⟨g,0,none⟩=some (.int .i64 a):=hcn 0 (by simp)
 have n1:w.cell? ⟨g,1,none⟩=some (.int .i64 c):=hcn 1 (by simp)
 obtain⟨c0,c1,c2,c3,c4,c5⟩:=k0.desk
 have HS0:=Hy (show w.cell? ⟨b,0,none⟩=some (.slice A d.poly.length cp)∧w.cell? ⟨g,0,none⟩=some (.int .i64 a)∧w.cell? ⟨g,1,none⟩=some (.int .i64 c) from⟨c0,n0,n1⟩)
 have hbl:=k0.lt
 clear c1 c2 c3 c4 c5
 have tok1:True:=trivial
 have tok2:True:=trivial
 clear k0 k1 k2 k3 hg hv hcn hvw
 unfold dK
 go_enter func56,ntmps56
 go_wp2_with fail
 go_region_held3 (fun w'=>w'.cell? ⟨b,0,none⟩=some (.slice A d.poly.length cp)∧w'.cell? ⟨g,0,none⟩=some (.int .i64 a)∧w'.cell? ⟨g,1,none⟩=some (.int .i64 c)) (first|exact HS0.out|exact HS3.out|exact HS4.out|go_keep) (first
  |((try go_simp);go_at_call 123;have _t:=tok1;go_loud (refine(iE _ d.poly a c _ (by first|exact HT.out|exact HT.out.bel (ah _)) ha hc).mono ?_;rintro e1 w3 ⟨r,rfl,o3,b3⟩;replace b3:Below w.heap.size w w3:=(by first|exact b3|exact aa (ah _) b3);have HB:=Hy b3;have HO:=Hy o3.low;have HS3:=Hy (show w3.cell? ⟨b,0,none⟩=some (.slice A d.poly.length cp)∧w3.cell? ⟨g,0,none⟩=some (.int .i64 a)∧w3.cell? ⟨g,1,none⟩=some (.int .i64 c) from⟨(b3.cell (by exact hbl)).trans c0,(b3.cell (by exact hgl)).trans n0,(b3.cell (by exact hgl)).trans n1⟩);have HG3:=Hy (Ie (Im hgl b3.size) (Im hbl b3.size));clear tok1 b3 o3;(try dsimp only)))
  |((try go_simp);go_at_call 122;have _t:=tok2;go_loud (refine(mu b d _ (bY d.poly a c) (cf d.poly a c) _ (HD.out.bel HB.out) HO.out hrl (HG.out.bel HB.out)).mono ?_;rintro e2 w4 ⟨⟨rfl,d4,g4⟩,h4⟩;have HE:=Hy (Ie d4 g4);have HS4:=Hy (show w4.cell? ⟨b,0,none⟩=some (.slice A d.poly.length cp)∧w4.cell? ⟨g,0,none⟩=some (.int .i64 a)∧w4.cell? ⟨g,1,none⟩=some (.int .i64 c) from⟨(h4 0 (by decide)).trans HS3.out.1,(kh hgb HG3.out.1 0 g4).trans HS3.out.2.1,(kh hgb HG3.out.1 1 g4).trans HS3.out.2.2⟩);clear tok2 d4 g4 h4;(try dsimp only)))
  |fail)
 all_goals
  go_wp2
  go_ret
  exact⟨rfl,HE.out.1,az (aC _ HB.out) HE.out.2⟩
theorem yR (d:ae) (n t cc a:Int):cG fY [n,t,cc,a] d (aj (aw (eY d.eng n t cc a)) (dk d.eng n t cc a&&ag (eY d.eng n t cc a))) (aJ d (eY d.eng n t cc a) (dk d.eng n t cc a)):=by
 intro b v w hv hd hg
 have HD:=Hy hd
 have HG:=Hy hg
 have hrl:=uJ d.eng n t cc a
 obtain⟨pv,en,tv,k0,k1,k2,k3⟩:=hd
 have HT:=Hy (k2.strs)
 obtain⟨A,cp,rfl,-,-,-⟩:=(k2.strs).open_
 have hvw:=hv
 obtain⟨g,cn,rfl,hgl,hcn⟩:=eH hv (by simp)
 have hgb:g≠b:=fun e=>qM k0 hvw.1 (by decide) (by rw[e];rfl)
 have n0:w.cell? ⟨g,0,none⟩=some (.int .i64 n):=hcn 0 (by simp)
 have n1:w.cell? ⟨g,1,none⟩=some (.int .i64 t):=hcn 1 (by simp)
 have n2:w.cell? ⟨g,2,none⟩=some (.int .i64 cc):=hcn 2 (by simp)
 have n3:w.cell? ⟨g,3,none⟩=some (.int .i64 a):=hcn 3 (by simp)
 obtain⟨c0,c1,c2,c3,c4,c5⟩:=k0.desk
 have HS0:=Hy (show w.cell? ⟨b,1,none⟩=some (.slice A d.eng.length cp)∧w.cell? ⟨g,0,none⟩=some (.int .i64 n)∧w.cell? ⟨g,1,none⟩=some (.int .i64 t)∧w.cell? ⟨g,2,none⟩=some (.int .i64 cc)∧w.cell? ⟨g,3,none⟩=some (.int .i64 a) from⟨c1,n0,n1,n2,n3⟩)
 have hbl:=k0.lt
 clear c0 c2 c3 c4 c5
 have tok1:True:=trivial
 have tok2:True:=trivial
 clear k0 k1 k2 k3 hg hv hcn hvw
 unfold fY
 go_enter func56,ntmps56
 go_wp2_with fail
 go_region_held3 (fun w'=>w'.cell? ⟨b,1,none⟩=some (.slice A d.eng.length cp)∧w'.cell? ⟨g,0,none⟩=some (.int .i64 n)∧w'.cell? ⟨g,1,none⟩=some (.int .i64 t)∧w'.cell? ⟨g,2,none⟩=some (.int .i64 cc)∧w'.cell? ⟨g,3,none⟩=some (.int .i64 a)) (first|exact HS0.out|exact HS3.out|exact HS4.out|go_keep) (first
  |((try go_simp);go_at_call 125;have _t:=tok1;go_loud (refine(y9 _ d.eng n t cc a _ (by first|exact HT.out|exact HT.out.bel (ah _))).mono ?_;rintro e1 w3 ⟨r,rfl,o3,b3⟩;replace b3:Below w.heap.size w w3:=(by first|exact b3|exact aa (ah _) b3);have HB:=Hy b3;have HO:=Hy o3.low;have HS3:=Hy (show w3.cell? ⟨b,1,none⟩=some (.slice A d.eng.length cp)∧w3.cell? ⟨g,0,none⟩=some (.int .i64 n)∧w3.cell? ⟨g,1,none⟩=some (.int .i64 t)∧w3.cell? ⟨g,2,none⟩=some (.int .i64 cc)∧w3.cell? ⟨g,3,none⟩=some (.int .i64 a) from⟨(b3.cell (by exact hbl)).trans c1,(b3.cell (by exact hgl)).trans n0,(b3.cell (by exact hgl)).trans n1,(b3.cell (by exact hgl)).trans n2,(b3.cell (by exact hgl)).trans n3⟩);have HG3:=Hy (Ie (Im hgl b3.size) (Im hbl b3.size));clear tok1 b3 o3;(try dsimp only)))
  |((try go_simp);go_at_call 122;have _t:=tok2;go_loud (refine(mu b d _ (eY d.eng n t cc a) (dk d.eng n t cc a) _ (HD.out.bel HB.out) HO.out hrl (HG.out.bel HB.out)).mono ?_;rintro e2 w4 ⟨⟨rfl,d4,g4⟩,h4⟩;have HE:=Hy (Ie d4 g4);have HS4:=Hy (show w4.cell? ⟨b,1,none⟩=some (.slice A d.eng.length cp)∧w4.cell? ⟨g,0,none⟩=some (.int .i64 n)∧w4.cell? ⟨g,1,none⟩=some (.int .i64 t)∧w4.cell? ⟨g,2,none⟩=some (.int .i64 cc)∧w4.cell? ⟨g,3,none⟩=some (.int .i64 a) from⟨(h4 1 (by decide)).trans HS3.out.1,(kh hgb HG3.out.1 0 g4).trans HS3.out.2.1,(kh hgb HG3.out.1 1 g4).trans HS3.out.2.2.1,(kh hgb HG3.out.1 2 g4).trans HS3.out.2.2.2.1,(kh hgb HG3.out.1 3 g4).trans HS3.out.2.2.2.2⟩);clear tok2 d4 g4 h4;(try dsimp only)))
  |fail)
 all_goals
  go_wp2
  go_ret
  exact⟨rfl,HE.out.1,az (aC _ HB.out) HE.out.2⟩
theorem Da (P:Nat→Prop) (v n:Value) (d:ae) (l:List Int) (w:World) (hs:SxR P w v d) (hn:SxN P w) (hl:ai w n l) (hll:l.length=1):Calls prog 50 #[v,.string jf,n] w (SxQ P w (aK d jf l)):=by
 have hlw:=hl.2
 obtain⟨An,cn,rfl,hnc,hncc,hrd⟩:=hl.open_
 obtain⟨nb,no,rfl,hnb,hnn⟩:=hrd.ints (by omega)
 have q0:=hnn 0 (by omega)
 have i0:=hlw _ (bN l 0 (by omega))
 obtain⟨x0,hx0⟩:∃x,at_ l 0=x:=⟨_,rfl⟩
 rw[hx0] at q0 i0
 have HX0:=Hy hx0
 rw[Nat.add_zero] at q0
 rw[hll] at hnc ⊢
 clear hl hrd hnn hlw hll hx0
 obtain⟨p,e,t,rfl,hs0⟩:=hs.s
 obtain⟨Ap,cp,rfl,-,-,-⟩:=hs0.1.1.open_
 obtain⟨Ae,ce,rfl,-,-,-⟩:=hs0.2.1.1.open_
 obtain⟨At,ct,rfl,-,-,-⟩:=hs0.2.2.1.open_
 have HS:=Hy (Sxn.first hs0 hn)
 have HSAME:=Hy (SxS.same hs0 hn)
 obtain⟨c0,c1,c2,c3,c4,c5⟩:=HS.out.box.cells
 obtain⟨f0,f1,f2,f3,f4,f5⟩:=HS.out.out.frz
 obtain⟨z0,z1,z2,z3,z4,z5⟩:=HS.out.out.cells
 obtain⟨r,hr⟩:∃r:ByteArray×ae,aK d jf l=r:=⟨_,rfl⟩
 have HRR:=Hy hr
 rw[hr]
 clear hs hs0 hn hr
 unfold jf
 go_enter func50,ntmps50
 go_wp2_with fail
 generalize hW:World.alloc _ _=W at HS c0 c1 c2 c3 c4 c5 f0 f1 f2 f3 f4 f5 z0 z1 z2 z3 z4 z5 ⊢
 clear hW
 have HNC:=Hy (fun X (h:Below w.heap.size w X)=>((h.cell (by exact hnb)).trans q0:X.cell? ⟨nb,no,none⟩=some (.int .i64 x0)))
 have n0:=HNC.out _ HS.out.bel
 clear q0
 have tok1:True:=trivial
 go_region_held3 (fun w'=>(w'.cell? ⟨w.heap.size,0,none⟩=some (.slice Ap d.poly.length cp)∧w'.cell? ⟨w.heap.size,1,none⟩=some (.slice Ae d.eng.length ce)∧w'.cell? ⟨w.heap.size,2,none⟩=some (.slice At d.tab.length ct)∧w'.cell? ⟨w.heap.size,3,none⟩=some (.int .i64 d.rw)∧w'.cell? ⟨w.heap.size,4,none⟩=some (.int .i64 d.ac)∧w'.cell? ⟨w.heap.size,5,none⟩=some (.int .i64 d.wi))∧w'.cell? ⟨nb,no,none⟩=some (.int .i64 x0)) (first|with_reducible exact⟨⟨c0,c1,c2,c3,c4,c5⟩,n0⟩|exact⟨⟨c0,c1,c2,c3,c4,c5⟩,n0⟩|go_keep)
  (first
  |((try go_simp);go_at_call 86;have _t:=tok1;go_loud (refine(wY _ d.eng x0 _ (by first|exact HS.out.sta.2.1.1|exact HS.out.sta.2.1.1.bel (ah _)) i0).mono ?_;rintro e5 w5 ⟨x1,rfl,o1,b5⟩;replace b5:Below W.heap.size W w5:=(by first|exact b5|exact aa (ah _) b5);have G5:=Hy (HS.out.next b5);have HX:=Hy o1.ints;have HXO:=Hy (HS.out.tabO o1);obtain⟨A1,k1,rfl,-,-,-⟩:=o1.ints.open_;clear o1;obtain⟨c0,c1,c2,c3,c4,c5⟩:=G5.out.box.cells;obtain⟨f0,f1,f2,f3,f4,f5⟩:=G5.out.out.frz;obtain⟨z0,z1,z2,z3,z4,z5⟩:=G5.out.out.cells;have n0:=HNC.out _ G5.out.bel;clear tok1 b5;(try dsimp only)))
  |fail)
 all_goals
  go_wp2_with fail
  have HM:=fQ _ _ _ d (eN d.eng x0) (ci d.eng x0) w5 G5.out.sta.r HX.out HXO.out (ya d.eng x0) G5.out.new
  obtain⟨q,hq⟩:∃q:ByteArray×ae,(aj (aw (eN d.eng x0)) ((ci d.eng x0)&&ag (eN d.eng x0)),aJ d (eN d.eng x0) (ci d.eng x0))=q:=⟨_,rfl⟩
  have HRQ:=Hy (show r=q from HRR.out.symm.trans (((n9 d l).trans (by rw[HX0.out])).trans hq))
  rw[hq] at HM
  clear hq
  refine HM.mono ?_
  rintro e3 w3 ⟨v3,rfl,s3,b3⟩
  have H3:=Hy (G5.out.next b3)
  obtain⟨p2,e2,t2,rfl,sq⟩:=s3.s
  obtain⟨Ap2,cp2,rfl,-,-,-⟩:=sq.1.1.open_
  obtain⟨Ae2,ce2,rfl,-,-,-⟩:=sq.2.1.1.open_
  obtain⟨At2,ct2,rfl,-,-,-⟩:=sq.2.2.1.open_
  have SQ:=Hy sq
  clear sq
  clear b3 HM c0 c1 c2 c3 c4 c5 f0 f1 f2 f3 f4 f5 z0 z1 z2 z3 z4 z5
  obtain⟨c0,c1,c2,c3,c4,c5⟩:=H3.out.box.cells
  obtain⟨f0,f1,f2,f3,f4,f5⟩:=H3.out.out.frz
  obtain⟨z0,z1,z2,z3,z4,z5⟩:=H3.out.out.cells
  go_wp2
  obtain⟨kk,ss,bb⟩:=H3.out.done SQ.out
  generalize World.setCell _ _ _=w9 at kk ss bb ⊢
  obtain⟨x0,x1,x2,x3,x4,x5⟩:=kk.cells
  refine bodyPost_ret (v:=.tuple #[.agg #[(.slice Ap2 q.2.poly.length cp2),(.slice Ae2 q.2.eng.length ce2),(.slice At2 q.2.tab.length ct2),.int .i64 q.2.rw,.int .i64 q.2.ac,.int .i64 q.2.wi],.string q.1]) (by simp[results,results50,go_sem,x0,x1,x2,x3,x4,x5]) rfl ?_
  rw[HRQ.out]
  exact⟨_,rfl,ss,bb⟩
theorem vx (P:Nat→Prop) (v n:Value) (d:ae) (l:List Int) (w:World) (hs:SxR P w v d) (hn:SxN P w) (hl:ai w n l) (hll:l.length=2):Calls prog 50 #[v,.string dK,n] w (SxQ P w (aK d dK l)):=by
 have hlw:=hl.2
 obtain⟨An,cn,rfl,hnc,hncc,hrd⟩:=hl.open_
 obtain⟨nb,no,rfl,hnb,hnn⟩:=hrd.ints (by omega)
 have q0:=hnn 0 (by omega)
 have i0:=hlw _ (bN l 0 (by omega))
 obtain⟨x0,hx0⟩:∃x,at_ l 0=x:=⟨_,rfl⟩
 rw[hx0] at q0 i0
 have HX0:=Hy hx0
 have q1:=hnn 1 (by omega)
 have i1:=hlw _ (bN l 1 (by omega))
 obtain⟨x1,hx1⟩:∃x,at_ l 1=x:=⟨_,rfl⟩
 rw[hx1] at q1 i1
 have HX1:=Hy hx1
 rw[Nat.add_zero] at q0
 rw[hll] at hnc ⊢
 clear hl hrd hnn hlw hll hx0 hx1
 obtain⟨p,e,t,rfl,hs0⟩:=hs.s
 obtain⟨Ap,cp,rfl,-,-,-⟩:=hs0.1.1.open_
 obtain⟨Ae,ce,rfl,-,-,-⟩:=hs0.2.1.1.open_
 obtain⟨At,ct,rfl,-,-,-⟩:=hs0.2.2.1.open_
 have HS:=Hy (Sxn.first hs0 hn)
 have HSAME:=Hy (SxS.same hs0 hn)
 obtain⟨c0,c1,c2,c3,c4,c5⟩:=HS.out.box.cells
 obtain⟨f0,f1,f2,f3,f4,f5⟩:=HS.out.out.frz
 obtain⟨z0,z1,z2,z3,z4,z5⟩:=HS.out.out.cells
 obtain⟨r,hr⟩:∃r:ByteArray×ae,aK d dK l=r:=⟨_,rfl⟩
 have HRR:=Hy hr
 rw[hr]
 clear hs hs0 hn hr
 unfold dK
 go_enter func50,ntmps50
 go_wp2_with fail
 generalize hW:World.alloc _ _=W at HS c0 c1 c2 c3 c4 c5 f0 f1 f2 f3 f4 f5 z0 z1 z2 z3 z4 z5 ⊢
 clear hW
 have HNC:=Hy (fun X (h:Below w.heap.size w X)=>(⟨(h.cell (by exact hnb)).trans q0,(h.cell (by exact hnb)).trans q1⟩:X.cell? ⟨nb,no,none⟩=some (.int .i64 x0)∧X.cell? ⟨nb,no+1,none⟩=some (.int .i64 x1)))
 obtain⟨n0,n1⟩:=HNC.out _ HS.out.bel
 clear q0 q1
 have tok1:True:=trivial
 go_region_held3 (fun w'=>(w'.cell? ⟨w.heap.size,0,none⟩=some (.slice Ap d.poly.length cp)∧w'.cell? ⟨w.heap.size,1,none⟩=some (.slice Ae d.eng.length ce)∧w'.cell? ⟨w.heap.size,2,none⟩=some (.slice At d.tab.length ct)∧w'.cell? ⟨w.heap.size,3,none⟩=some (.int .i64 d.rw)∧w'.cell? ⟨w.heap.size,4,none⟩=some (.int .i64 d.ac)∧w'.cell? ⟨w.heap.size,5,none⟩=some (.int .i64 d.wi))∧w'.cell? ⟨nb,no,none⟩=some (.int .i64 x0)∧w'.cell? ⟨nb,no+1,none⟩=some (.int .i64 x1)) (first|with_reducible exact⟨⟨c0,c1,c2,c3,c4,c5⟩,n0,n1⟩|exact⟨⟨c0,c1,c2,c3,c4,c5⟩,n0,n1⟩|go_keep)
  (first
  |((try go_simp);go_at_call 88;have _t:=tok1;go_loud (refine(ke _ d.poly x0 x1 _ (by first|exact HS.out.sta.1.1|exact HS.out.sta.1.1.bel (ah _)) i0 i1).mono ?_;rintro e5 w5 ⟨x1,rfl,o1,b5⟩;replace b5:Below W.heap.size W w5:=(by first|exact b5|exact aa (ah _) b5);have G5:=Hy (HS.out.next b5);have HX:=Hy o1.ints;have HXO:=Hy (HS.out.tabO o1);obtain⟨A1,k1,rfl,-,-,-⟩:=o1.ints.open_;clear o1;obtain⟨c0,c1,c2,c3,c4,c5⟩:=G5.out.box.cells;obtain⟨f0,f1,f2,f3,f4,f5⟩:=G5.out.out.frz;obtain⟨z0,z1,z2,z3,z4,z5⟩:=G5.out.out.cells;obtain⟨n0,n1⟩:=HNC.out _ G5.out.bel;clear tok1 b5;(try dsimp only)))
  |fail)
 all_goals
  go_wp2_with fail
  have HM:=fQ _ _ _ d (bY d.poly x0 x1) (cf d.poly x0 x1) w5 G5.out.sta.r HX.out HXO.out (Ih (kj d.poly x0 x1) (by omega)) G5.out.new
  obtain⟨q,hq⟩:∃q:ByteArray×ae,(aj (aw (bY d.poly x0 x1)) ((cf d.poly x0 x1)&&ag (bY d.poly x0 x1)),aJ d (bY d.poly x0 x1) (cf d.poly x0 x1))=q:=⟨_,rfl⟩
  have HRQ:=Hy (show r=q from HRR.out.symm.trans (((kY d l).trans (by rw[HX0.out,HX1.out])).trans hq))
  rw[hq] at HM
  clear hq
  refine HM.mono ?_
  rintro e3 w3 ⟨v3,rfl,s3,b3⟩
  have H3:=Hy (G5.out.next b3)
  obtain⟨p2,e2,t2,rfl,sq⟩:=s3.s
  obtain⟨Ap2,cp2,rfl,-,-,-⟩:=sq.1.1.open_
  obtain⟨Ae2,ce2,rfl,-,-,-⟩:=sq.2.1.1.open_
  obtain⟨At2,ct2,rfl,-,-,-⟩:=sq.2.2.1.open_
  have SQ:=Hy sq
  clear sq
  clear b3 HM c0 c1 c2 c3 c4 c5 f0 f1 f2 f3 f4 f5 z0 z1 z2 z3 z4 z5
  obtain⟨c0,c1,c2,c3,c4,c5⟩:=H3.out.box.cells
  obtain⟨f0,f1,f2,f3,f4,f5⟩:=H3.out.out.frz
  obtain⟨z0,z1,z2,z3,z4,z5⟩:=H3.out.out.cells
  go_wp2
  obtain⟨kk,ss,bb⟩:=H3.out.done SQ.out
  generalize World.setCell _ _ _=w9 at kk ss bb ⊢
  obtain⟨x0,x1,x2,x3,x4,x5⟩:=kk.cells
  refine bodyPost_ret (v:=.tuple #[.agg #[(.slice Ap2 q.2.poly.length cp2),(.slice Ae2 q.2.eng.length ce2),(.slice At2 q.2.tab.length ct2),.int .i64 q.2.rw,.int .i64 q.2.ac,.int .i64 q.2.wi],.string q.1]) (by simp[results,results50,go_sem,x0,x1,x2,x3,x4,x5]) rfl ?_
  rw[HRQ.out]
  exact⟨_,rfl,ss,bb⟩
theorem xu (P:Nat→Prop) (v n:Value) (d:ae) (l:List Int) (w:World) (ht:d.tab.length≤60) (hs:SxR P w v d) (hn:SxN P w) (hl:ai w n l) (hll:l.length=2):Calls prog 50 #[v,.string eM,n] w (SxQ P w (aK d eM l)):=by
 have hlw:=hl.2
 obtain⟨An,cn,rfl,hnc,hncc,hrd⟩:=hl.open_
 obtain⟨nb,no,rfl,hnb,hnn⟩:=hrd.ints (by omega)
 have q0:=hnn 0 (by omega)
 have i0:=hlw _ (bN l 0 (by omega))
 obtain⟨x0,hx0⟩:∃x,at_ l 0=x:=⟨_,rfl⟩
 rw[hx0] at q0 i0
 have HX0:=Hy hx0
 have q1:=hnn 1 (by omega)
 have i1:=hlw _ (bN l 1 (by omega))
 obtain⟨x1,hx1⟩:∃x,at_ l 1=x:=⟨_,rfl⟩
 rw[hx1] at q1 i1
 have HX1:=Hy hx1
 rw[Nat.add_zero] at q0
 rw[hll] at hnc ⊢
 clear hl hrd hnn hlw hll hx0 hx1
 obtain⟨p,e,t,rfl,hs0⟩:=hs.s
 obtain⟨Ap,cp,rfl,-,-,-⟩:=hs0.1.1.open_
 obtain⟨Ae,ce,rfl,-,-,-⟩:=hs0.2.1.1.open_
 obtain⟨At,ct,rfl,-,-,-⟩:=hs0.2.2.1.open_
 have HS:=Hy (Sxn.first hs0 hn)
 have HSAME:=Hy (SxS.same hs0 hn)
 obtain⟨c0,c1,c2,c3,c4,c5⟩:=HS.out.box.cells
 obtain⟨f0,f1,f2,f3,f4,f5⟩:=HS.out.out.frz
 obtain⟨z0,z1,z2,z3,z4,z5⟩:=HS.out.out.cells
 obtain⟨r,hr⟩:∃r:ByteArray×ae,aK d eM l=r:=⟨_,rfl⟩
 have HRR:=Hy hr
 rw[hr]
 clear hs hs0 hn hr
 unfold eM
 go_enter func50,ntmps50
 go_wp2_with fail
 generalize hW:World.alloc _ _=W at HS c0 c1 c2 c3 c4 c5 f0 f1 f2 f3 f4 f5 z0 z1 z2 z3 z4 z5 ⊢
 clear hW
 have HNC:=Hy (fun X (h:Below w.heap.size w X)=>(⟨(h.cell (by exact hnb)).trans q0,(h.cell (by exact hnb)).trans q1⟩:X.cell? ⟨nb,no,none⟩=some (.int .i64 x0)∧X.cell? ⟨nb,no+1,none⟩=some (.int .i64 x1)))
 obtain⟨n0,n1⟩:=HNC.out _ HS.out.bel
 clear q0 q1
 have tok1:True:=trivial
 go_region_held3 (fun w'=>(w'.cell? ⟨w.heap.size,0,none⟩=some (.slice Ap d.poly.length cp)∧w'.cell? ⟨w.heap.size,1,none⟩=some (.slice Ae d.eng.length ce)∧w'.cell? ⟨w.heap.size,2,none⟩=some (.slice At d.tab.length ct)∧w'.cell? ⟨w.heap.size,3,none⟩=some (.int .i64 d.rw)∧w'.cell? ⟨w.heap.size,4,none⟩=some (.int .i64 d.ac)∧w'.cell? ⟨w.heap.size,5,none⟩=some (.int .i64 d.wi))∧w'.cell? ⟨nb,no,none⟩=some (.int .i64 x0)∧w'.cell? ⟨nb,no+1,none⟩=some (.int .i64 x1)) (first|with_reducible exact⟨⟨c0,c1,c2,c3,c4,c5⟩,n0,n1⟩|exact⟨⟨c0,c1,c2,c3,c4,c5⟩,n0,n1⟩|go_keep)
  (first
  |((try go_simp);go_at_call 89;have _t:=tok1;go_loud (refine(qC _ d.tab x0 x1 _ (by first|exact HS.out.sta.2.2.1|exact HS.out.sta.2.2.1.bel (ah _))).mono ?_;rintro e5 w5 ⟨x1,rfl,o1,b5⟩;replace b5:Below W.heap.size W w5:=(by first|exact b5|exact aa (ah _) b5);have G5:=Hy (HS.out.next b5);have HX:=Hy o1.ints;have HXO:=Hy (HS.out.tabO o1);obtain⟨A1,k1,rfl,-,-,-⟩:=o1.ints.open_;clear o1;obtain⟨c0,c1,c2,c3,c4,c5⟩:=G5.out.box.cells;obtain⟨f0,f1,f2,f3,f4,f5⟩:=G5.out.out.frz;obtain⟨z0,z1,z2,z3,z4,z5⟩:=G5.out.out.cells;obtain⟨n0,n1⟩:=HNC.out _ G5.out.bel;clear tok1 b5;(try dsimp only)))
  |fail)
 all_goals
  go_wp2_with fail
  have HM:=fQ _ _ _ d (rtL d.tab x0 x1) (eX d.tab x0 x1) w5 G5.out.sta.r HX.out HXO.out (Ih (sl d.tab x0 x1) (by omega)) G5.out.new
  obtain⟨q,hq⟩:∃q:ByteArray×ae,(aj (aw (rtL d.tab x0 x1)) ((eX d.tab x0 x1)&&ag (rtL d.tab x0 x1)),aJ d (rtL d.tab x0 x1) (eX d.tab x0 x1))=q:=⟨_,rfl⟩
  have HRQ:=Hy (show r=q from HRR.out.symm.trans (((lF d l).trans (by rw[HX0.out,HX1.out])).trans hq))
  rw[hq] at HM
  clear hq
  refine HM.mono ?_
  rintro e3 w3 ⟨v3,rfl,s3,b3⟩
  have H3:=Hy (G5.out.next b3)
  obtain⟨p2,e2,t2,rfl,sq⟩:=s3.s
  obtain⟨Ap2,cp2,rfl,-,-,-⟩:=sq.1.1.open_
  obtain⟨Ae2,ce2,rfl,-,-,-⟩:=sq.2.1.1.open_
  obtain⟨At2,ct2,rfl,-,-,-⟩:=sq.2.2.1.open_
  have SQ:=Hy sq
  clear sq
  clear b3 HM c0 c1 c2 c3 c4 c5 f0 f1 f2 f3 f4 f5 z0 z1 z2 z3 z4 z5
  obtain⟨c0,c1,c2,c3,c4,c5⟩:=H3.out.box.cells
  obtain⟨f0,f1,f2,f3,f4,f5⟩:=H3.out.out.frz
  obtain⟨z0,z1,z2,z3,z4,z5⟩:=H3.out.out.cells
  go_wp2
  obtain⟨kk,ss,bb⟩:=H3.out.done SQ.out
  generalize World.setCell _ _ _=w9 at kk ss bb ⊢
  obtain⟨x0,x1,x2,x3,x4,x5⟩:=kk.cells
  refine bodyPost_ret (v:=.tuple #[.agg #[(.slice Ap2 q.2.poly.length cp2),(.slice Ae2 q.2.eng.length ce2),(.slice At2 q.2.tab.length ct2),.int .i64 q.2.rw,.int .i64 q.2.ac,.int .i64 q.2.wi],.string q.1]) (by simp[results,results50,go_sem,x0,x1,x2,x3,x4,x5]) rfl ?_
  rw[HRQ.out]
  exact⟨_,rfl,ss,bb⟩
theorem tU (P:Nat→Prop) (v n:Value) (d:ae) (l:List Int) (w:World) (ht:d.tab.length≤60) (hs:SxR P w v d) (hn:SxN P w) (hl:ai w n l) (hll:l.length=1):Calls prog 50 #[v,.string dn,n] w (SxQ P w (aK d dn l)):=by
 have hlw:=hl.2
 obtain⟨An,cn,rfl,hnc,hncc,hrd⟩:=hl.open_
 obtain⟨nb,no,rfl,hnb,hnn⟩:=hrd.ints (by omega)
 have q0:=hnn 0 (by omega)
 have i0:=hlw _ (bN l 0 (by omega))
 obtain⟨x0,hx0⟩:∃x,at_ l 0=x:=⟨_,rfl⟩
 rw[hx0] at q0 i0
 have HX0:=Hy hx0
 rw[Nat.add_zero] at q0
 rw[hll] at hnc ⊢
 clear hl hrd hnn hlw hll hx0
 obtain⟨p,e,t,rfl,hs0⟩:=hs.s
 obtain⟨Ap,cp,rfl,-,-,-⟩:=hs0.1.1.open_
 obtain⟨Ae,ce,rfl,-,-,-⟩:=hs0.2.1.1.open_
 obtain⟨At,ct,rfl,-,-,-⟩:=hs0.2.2.1.open_
 have HS:=Hy (Sxn.first hs0 hn)
 have HSAME:=Hy (SxS.same hs0 hn)
 obtain⟨c0,c1,c2,c3,c4,c5⟩:=HS.out.box.cells
 obtain⟨f0,f1,f2,f3,f4,f5⟩:=HS.out.out.frz
 obtain⟨z0,z1,z2,z3,z4,z5⟩:=HS.out.out.cells
 obtain⟨r,hr⟩:∃r:ByteArray×ae,aK d dn l=r:=⟨_,rfl⟩
 have HRR:=Hy hr
 rw[hr]
 clear hs hs0 hn hr
 unfold dn
 go_enter func50,ntmps50
 go_wp2_with fail
 generalize hW:World.alloc _ _=W at HS c0 c1 c2 c3 c4 c5 f0 f1 f2 f3 f4 f5 z0 z1 z2 z3 z4 z5 ⊢
 clear hW
 have HNC:=Hy (fun X (h:Below w.heap.size w X)=>((h.cell (by exact hnb)).trans q0:X.cell? ⟨nb,no,none⟩=some (.int .i64 x0)))
 have n0:=HNC.out _ HS.out.bel
 clear q0
 have tok1:True:=trivial
 go_region_held3 (fun w'=>(w'.cell? ⟨w.heap.size,0,none⟩=some (.slice Ap d.poly.length cp)∧w'.cell? ⟨w.heap.size,1,none⟩=some (.slice Ae d.eng.length ce)∧w'.cell? ⟨w.heap.size,2,none⟩=some (.slice At d.tab.length ct)∧w'.cell? ⟨w.heap.size,3,none⟩=some (.int .i64 d.rw)∧w'.cell? ⟨w.heap.size,4,none⟩=some (.int .i64 d.ac)∧w'.cell? ⟨w.heap.size,5,none⟩=some (.int .i64 d.wi))∧w'.cell? ⟨nb,no,none⟩=some (.int .i64 x0)) (first|with_reducible exact⟨⟨c0,c1,c2,c3,c4,c5⟩,n0⟩|exact⟨⟨c0,c1,c2,c3,c4,c5⟩,n0⟩|go_keep)
  (first
  |((try go_simp);go_at_call 90;have _t:=tok1;go_loud (refine(vS _ d.tab x0 _ (by first|exact HS.out.sta.2.2.1|exact HS.out.sta.2.2.1.bel (ah _)) (by omega)).mono ?_;rintro e5 w5 ⟨x1,rfl,o1,b5⟩;replace b5:Below W.heap.size W w5:=(by first|exact b5|exact aa (ah _) b5);have G5:=Hy (HS.out.next b5);have HX:=Hy o1.ints;have HXO:=Hy (HS.out.tabO o1);obtain⟨A1,k1,rfl,-,-,-⟩:=o1.ints.open_;clear o1;obtain⟨c0,c1,c2,c3,c4,c5⟩:=G5.out.box.cells;obtain⟨f0,f1,f2,f3,f4,f5⟩:=G5.out.out.frz;obtain⟨z0,z1,z2,z3,z4,z5⟩:=G5.out.out.cells;have n0:=HNC.out _ G5.out.bel;clear tok1 b5;(try dsimp only)))
  |fail)
 all_goals
  go_wp2_with fail
  have HM:=fQ _ _ _ d (crL d.tab x0) (ed d.tab x0) w5 G5.out.sta.r HX.out HXO.out (Ih (yc d.tab x0 ht) (by omega)) G5.out.new
  obtain⟨q,hq⟩:∃q:ByteArray×ae,(aj (aw (crL d.tab x0)) ((ed d.tab x0)&&ag (crL d.tab x0)),aJ d (crL d.tab x0) (ed d.tab x0))=q:=⟨_,rfl⟩
  have HRQ:=Hy (show r=q from HRR.out.symm.trans (((jS d l).trans (by rw[HX0.out])).trans hq))
  rw[hq] at HM
  clear hq
  refine HM.mono ?_
  rintro e3 w3 ⟨v3,rfl,s3,b3⟩
  have H3:=Hy (G5.out.next b3)
  obtain⟨p2,e2,t2,rfl,sq⟩:=s3.s
  obtain⟨Ap2,cp2,rfl,-,-,-⟩:=sq.1.1.open_
  obtain⟨Ae2,ce2,rfl,-,-,-⟩:=sq.2.1.1.open_
  obtain⟨At2,ct2,rfl,-,-,-⟩:=sq.2.2.1.open_
  have SQ:=Hy sq
  clear sq
  clear b3 HM c0 c1 c2 c3 c4 c5 f0 f1 f2 f3 f4 f5 z0 z1 z2 z3 z4 z5
  obtain⟨c0,c1,c2,c3,c4,c5⟩:=H3.out.box.cells
  obtain⟨f0,f1,f2,f3,f4,f5⟩:=H3.out.out.frz
  obtain⟨z0,z1,z2,z3,z4,z5⟩:=H3.out.out.cells
  go_wp2
  obtain⟨kk,ss,bb⟩:=H3.out.done SQ.out
  generalize World.setCell _ _ _=w9 at kk ss bb ⊢
  obtain⟨x0,x1,x2,x3,x4,x5⟩:=kk.cells
  refine bodyPost_ret (v:=.tuple #[.agg #[(.slice Ap2 q.2.poly.length cp2),(.slice Ae2 q.2.eng.length ce2),(.slice At2 q.2.tab.length ct2),.int .i64 q.2.rw,.int .i64 q.2.ac,.int .i64 q.2.wi],.string q.1]) (by simp[results,results50,go_sem,x0,x1,x2,x3,x4,x5]) rfl ?_
  rw[HRQ.out]
  exact⟨_,rfl,ss,bb⟩
theorem yU (P:Nat→Prop) (v n:Value) (d:ae) (l:List Int) (w:World) (hs:SxR P w v d) (hn:SxN P w) (hl:ai w n l) (hll:l.length=4):Calls prog 50 #[v,.string fY,n] w (SxQ P w (aK d fY l)):=by
 have hlw:=hl.2
 obtain⟨An,cn,rfl,hnc,hncc,hrd⟩:=hl.open_
 obtain⟨nb,no,rfl,hnb,hnn⟩:=hrd.ints (by omega)
 have q0:=hnn 0 (by omega)
 have i0:=hlw _ (bN l 0 (by omega))
 obtain⟨x0,hx0⟩:∃x,at_ l 0=x:=⟨_,rfl⟩
 rw[hx0] at q0 i0
 have HX0:=Hy hx0
 have q1:=hnn 1 (by omega)
 have i1:=hlw _ (bN l 1 (by omega))
 obtain⟨x1,hx1⟩:∃x,at_ l 1=x:=⟨_,rfl⟩
 rw[hx1] at q1 i1
 have HX1:=Hy hx1
 have q2:=hnn 2 (by omega)
 have i2:=hlw _ (bN l 2 (by omega))
 obtain⟨x2,hx2⟩:∃x,at_ l 2=x:=⟨_,rfl⟩
 rw[hx2] at q2 i2
 have HX2:=Hy hx2
 have q3:=hnn 3 (by omega)
 have i3:=hlw _ (bN l 3 (by omega))
 obtain⟨x3,hx3⟩:∃x,at_ l 3=x:=⟨_,rfl⟩
 rw[hx3] at q3 i3
 have HX3:=Hy hx3
 rw[Nat.add_zero] at q0
 rw[hll] at hnc ⊢
 clear hl hrd hnn hlw hll hx0 hx1 hx2 hx3
 obtain⟨p,e,t,rfl,hs0⟩:=hs.s
 obtain⟨Ap,cp,rfl,-,-,-⟩:=hs0.1.1.open_
 obtain⟨Ae,ce,rfl,-,-,-⟩:=hs0.2.1.1.open_
 obtain⟨At,ct,rfl,-,-,-⟩:=hs0.2.2.1.open_
 have HS:=Hy (Sxn.first hs0 hn)
 have HSAME:=Hy (SxS.same hs0 hn)
 obtain⟨c0,c1,c2,c3,c4,c5⟩:=HS.out.box.cells
 obtain⟨f0,f1,f2,f3,f4,f5⟩:=HS.out.out.frz
 obtain⟨z0,z1,z2,z3,z4,z5⟩:=HS.out.out.cells
 obtain⟨r,hr⟩:∃r:ByteArray×ae,aK d fY l=r:=⟨_,rfl⟩
 have HRR:=Hy hr
 rw[hr]
 clear hs hs0 hn hr
 unfold fY
 go_enter func50,ntmps50
 go_wp2_with fail
 generalize hW:World.alloc _ _=W at HS c0 c1 c2 c3 c4 c5 f0 f1 f2 f3 f4 f5 z0 z1 z2 z3 z4 z5 ⊢
 clear hW
 have HNC:=Hy (fun X (h:Below w.heap.size w X)=>(⟨(h.cell (by exact hnb)).trans q0,(h.cell (by exact hnb)).trans q1,(h.cell (by exact hnb)).trans q2,(h.cell (by exact hnb)).trans q3⟩:X.cell? ⟨nb,no,none⟩=some (.int .i64 x0)∧X.cell? ⟨nb,no+1,none⟩=some (.int .i64 x1)∧X.cell? ⟨nb,no+2,none⟩=some (.int .i64 x2)∧X.cell? ⟨nb,no+3,none⟩=some (.int .i64 x3)))
 obtain⟨n0,n1,n2,n3⟩:=HNC.out _ HS.out.bel
 clear q0 q1 q2 q3
 have tok1:True:=trivial
 go_region_held3 (fun w'=>(w'.cell? ⟨w.heap.size,0,none⟩=some (.slice Ap d.poly.length cp)∧w'.cell? ⟨w.heap.size,1,none⟩=some (.slice Ae d.eng.length ce)∧w'.cell? ⟨w.heap.size,2,none⟩=some (.slice At d.tab.length ct)∧w'.cell? ⟨w.heap.size,3,none⟩=some (.int .i64 d.rw)∧w'.cell? ⟨w.heap.size,4,none⟩=some (.int .i64 d.ac)∧w'.cell? ⟨w.heap.size,5,none⟩=some (.int .i64 d.wi))∧w'.cell? ⟨nb,no,none⟩=some (.int .i64 x0)∧w'.cell? ⟨nb,no+1,none⟩=some (.int .i64 x1)∧w'.cell? ⟨nb,no+2,none⟩=some (.int .i64 x2)∧w'.cell? ⟨nb,no+3,none⟩=some (.int .i64 x3)) (first|with_reducible exact⟨⟨c0,c1,c2,c3,c4,c5⟩,n0,n1,n2,n3⟩|exact⟨⟨c0,c1,c2,c3,c4,c5⟩,n0,n1,n2,n3⟩|go_keep)
  (first
  |((try go_simp);go_at_call 87;have _t:=tok1;go_loud (refine(yz _ d.eng x0 x1 x2 x3 _ (by first|exact HS.out.sta.2.1.1|exact HS.out.sta.2.1.1.bel (ah _))).mono ?_;rintro e5 w5 ⟨x1,rfl,o1,b5⟩;replace b5:Below W.heap.size W w5:=(by first|exact b5|exact aa (ah _) b5);have G5:=Hy (HS.out.next b5);have HX:=Hy o1.ints;have HXO:=Hy (HS.out.tabO o1);obtain⟨A1,k1,rfl,-,-,-⟩:=o1.ints.open_;clear o1;obtain⟨c0,c1,c2,c3,c4,c5⟩:=G5.out.box.cells;obtain⟨f0,f1,f2,f3,f4,f5⟩:=G5.out.out.frz;obtain⟨z0,z1,z2,z3,z4,z5⟩:=G5.out.out.cells;obtain⟨n0,n1,n2,n3⟩:=HNC.out _ G5.out.bel;clear tok1 b5;(try dsimp only)))
  |fail)
 all_goals
  go_wp2_with fail
  have HM:=fQ _ _ _ d (eY d.eng x0 x1 x2 x3) (dk d.eng x0 x1 x2 x3) w5 G5.out.sta.r HX.out HXO.out (uJ d.eng x0 x1 x2 x3) G5.out.new
  obtain⟨q,hq⟩:∃q:ByteArray×ae,(aj (aw (eY d.eng x0 x1 x2 x3)) ((dk d.eng x0 x1 x2 x3)&&ag (eY d.eng x0 x1 x2 x3)),aJ d (eY d.eng x0 x1 x2 x3) (dk d.eng x0 x1 x2 x3))=q:=⟨_,rfl⟩
  have HRQ:=Hy (show r=q from HRR.out.symm.trans (((mt d l).trans (by rw[HX0.out,HX1.out,HX2.out,HX3.out])).trans hq))
  rw[hq] at HM
  clear hq
  refine HM.mono ?_
  rintro e3 w3 ⟨v3,rfl,s3,b3⟩
  have H3:=Hy (G5.out.next b3)
  obtain⟨p2,e2,t2,rfl,sq⟩:=s3.s
  obtain⟨Ap2,cp2,rfl,-,-,-⟩:=sq.1.1.open_
  obtain⟨Ae2,ce2,rfl,-,-,-⟩:=sq.2.1.1.open_
  obtain⟨At2,ct2,rfl,-,-,-⟩:=sq.2.2.1.open_
  have SQ:=Hy sq
  clear sq
  clear b3 HM c0 c1 c2 c3 c4 c5 f0 f1 f2 f3 f4 f5 z0 z1 z2 z3 z4 z5
  obtain⟨c0,c1,c2,c3,c4,c5⟩:=H3.out.box.cells
  obtain⟨f0,f1,f2,f3,f4,f5⟩:=H3.out.out.frz
  obtain⟨z0,z1,z2,z3,z4,z5⟩:=H3.out.out.cells
  go_wp2
  obtain⟨kk,ss,bb⟩:=H3.out.done SQ.out
  generalize World.setCell _ _ _=w9 at kk ss bb ⊢
  obtain⟨x0,x1,x2,x3,x4,x5⟩:=kk.cells
  refine bodyPost_ret (v:=.tuple #[.agg #[(.slice Ap2 q.2.poly.length cp2),(.slice Ae2 q.2.eng.length ce2),(.slice At2 q.2.tab.length ct2),.int .i64 q.2.rw,.int .i64 q.2.ac,.int .i64 q.2.wi],.string q.1]) (by simp[results,results50,go_sem,x0,x1,x2,x3,x4,x5]) rfl ?_
  rw[HRQ.out]
  exact⟨_,rfl,ss,bb⟩
theorem wW (P:Nat→Prop) (v n:Value) (d:ae) (l:List Int) (w:World) (hs:SxR P w v d) (hn:SxN P w) (hl:ai w n l) (hll:l.length=2):Calls prog 50 #[v,.string eQ,n] w (SxQ P w (aK d eQ l)):=by
 have hlw:=hl.2
 obtain⟨An,cn,rfl,hnc,hncc,hrd⟩:=hl.open_
 obtain⟨nb,no,rfl,hnb,hnn⟩:=hrd.ints (by omega)
 have q0:=hnn 0 (by omega)
 have i0:=hlw _ (bN l 0 (by omega))
 obtain⟨x0,hx0⟩:∃x,at_ l 0=x:=⟨_,rfl⟩
 rw[hx0] at q0 i0
 have HX0:=Hy hx0
 have q1:=hnn 1 (by omega)
 have i1:=hlw _ (bN l 1 (by omega))
 obtain⟨x1,hx1⟩:∃x,at_ l 1=x:=⟨_,rfl⟩
 rw[hx1] at q1 i1
 have HX1:=Hy hx1
 rw[Nat.add_zero] at q0
 rw[hll] at hnc ⊢
 clear hl hrd hnn hlw hll hx0 hx1
 obtain⟨p,e,t,rfl,hs0⟩:=hs.s
 obtain⟨Ap,cp,rfl,-,-,-⟩:=hs0.1.1.open_
 obtain⟨Ae,ce,rfl,-,-,-⟩:=hs0.2.1.1.open_
 obtain⟨At,ct,rfl,-,-,-⟩:=hs0.2.2.1.open_
 have HS:=Hy (Sxn.first hs0 hn)
 have HSAME:=Hy (SxS.same hs0 hn)
 obtain⟨c0,c1,c2,c3,c4,c5⟩:=HS.out.box.cells
 obtain⟨f0,f1,f2,f3,f4,f5⟩:=HS.out.out.frz
 obtain⟨z0,z1,z2,z3,z4,z5⟩:=HS.out.out.cells
 obtain⟨r,hr⟩:∃r:ByteArray×ae,aK d eQ l=r:=⟨_,rfl⟩
 have HRR:=Hy hr
 rw[hr]
 clear hs hs0 hn hr
 unfold eQ
 go_enter func50,ntmps50
 go_wp2_with fail
 generalize hW:World.alloc _ _=W at HS c0 c1 c2 c3 c4 c5 f0 f1 f2 f3 f4 f5 z0 z1 z2 z3 z4 z5 ⊢
 clear hW
 have HNC:=Hy (fun X (h:Below w.heap.size w X)=>(⟨(h.cell (by exact hnb)).trans q0,(h.cell (by exact hnb)).trans q1⟩:X.cell? ⟨nb,no,none⟩=some (.int .i64 x0)∧X.cell? ⟨nb,no+1,none⟩=some (.int .i64 x1)))
 obtain⟨n0,n1⟩:=HNC.out _ HS.out.bel
 clear q0 q1
 have HB:=Hy (show ∀X,Below W.heap.size W X→((X.cell? ⟨w.heap.size,0,none⟩=some (.slice Ap d.poly.length cp)∧X.cell? ⟨w.heap.size,1,none⟩=some (.slice Ae d.eng.length ce)∧X.cell? ⟨w.heap.size,2,none⟩=some (.slice At d.tab.length ct)∧X.cell? ⟨w.heap.size,3,none⟩=some (.int .i64 d.rw)∧X.cell? ⟨w.heap.size,4,none⟩=some (.int .i64 d.ac)∧X.cell? ⟨w.heap.size,5,none⟩=some (.int .i64 d.wi))∧X.cell? ⟨nb,no,none⟩=some (.int .i64 x0)∧X.cell? ⟨nb,no+1,none⟩=some (.int .i64 x1)) from fun X h=>⟨(HS.out.next h).box.cells,HNC.out X (HS.out.next h).bel⟩)
 have HV:=Hy (HS.out.sta.1.1)
 have hsA:W.heap.size<(W.alloc (.cells #[Value.slice none 0 0] 32)).heap.size:=by simp
 have tok1:True:=trivial
 go_region_held3 (fun w'=>(w'.cell? ⟨w.heap.size,0,none⟩=some (.slice Ap d.poly.length cp)∧w'.cell? ⟨w.heap.size,1,none⟩=some (.slice Ae d.eng.length ce)∧w'.cell? ⟨w.heap.size,2,none⟩=some (.slice At d.tab.length ct)∧w'.cell? ⟨w.heap.size,3,none⟩=some (.int .i64 d.rw)∧w'.cell? ⟨w.heap.size,4,none⟩=some (.int .i64 d.ac)∧w'.cell? ⟨w.heap.size,5,none⟩=some (.int .i64 d.wi))∧w'.cell? ⟨nb,no,none⟩=some (.int .i64 x0)∧w'.cell? ⟨nb,no+1,none⟩=some (.int .i64 x1)) (first|with_reducible exact HB.out _ (Below.refl _ _)|with_reducible exact HB.out _ (ah _)|with_reducible exact HB.out _ (ab _ _)|with_reducible exact HB.out _ ((ab _ _).drew)|with_reducible exact HB.out _ (((Below.refl _ _).drew).alloc (Ig _) _)|with_reducible exact HB.out _ B5.out|with_reducible exact HB.out _ (B5.out.alloc B5.out.size _)|with_reducible exact HB.out _ (B5.out.setCell (p:=⟨_,0,none⟩) (Ig _) _)|with_reducible exact HB.out _ ((B5.out.alloc B5.out.size _).setCell (p:=⟨_,0,none⟩) B5.out.size _)|exact HB.out _ (B5.out.setCell (p:=⟨_,0,none⟩) (Ig _) _)|go_keep)
 (first
 |((try go_simp);go_at_call 84;have _t:=tok1;go_loud (refine(lc _ d.poly x0 x1 _ (by first|exact HV.out.bel (ab _ _)|exact HV.out.bel ((ab _ _).drew)|exact HV.out.bel (((Below.refl _ _).drew).alloc (Ig _) _)) i0).mono ?_;rintro e5 w5 ⟨y1,rfl,o1,b5⟩;have K5:Blk w5 W.heap.size 32 [Value.slice none 0 0]:=(b5.block _ hsA).trans (heap_alloc_new W _);obtain⟨bs,hbs,o1⟩:∃bs,W.heap.size<bs∧ak w5 bs y1 (di d.poly x0 x1):=⟨_,hsA,o1⟩;have B5:=Hy (show Below W.heap.size W w5 from(by first|exact aa (ab _ _) b5|exact aa ((ab _ _).drew) b5|exact aa (((Below.refl _ _).drew).alloc (Ig _) _) b5|fail));have O5:=Hy o1;obtain⟨A1,k1,rfl,-,-,-⟩:=o1.strs.open_;have n5:=HB.out _ B5.out;obtain⟨⟨c0,c1,c2,c3,c4,c5⟩,n0,n1⟩:=n5;(try obtain⟨e5,f5⟩:=K5.one);clear tok1 b5 o1;(try dsimp only)))
 |((try go_simp);go_at_call 84;have _t:=tok1;go_loud (refine(lc _ d.poly x0 x1 _ (by first|exact HV.out|exact HV.out.bel (ah _)) i0).mono ?_;rintro e5 w5 ⟨y1,rfl,o1,b5⟩;obtain⟨bs,hbs,o1⟩:∃bs,W.heap.size≤bs∧ak w5 bs y1 (di d.poly x0 x1):=⟨_,Ig _,o1⟩;have B5:=Hy (show Below W.heap.size W w5 from(by first|exact b5|exact aa (ah _) b5|fail));have O5:=Hy o1;obtain⟨A1,k1,rfl,-,-,-⟩:=o1.strs.open_;have n5:=HB.out _ B5.out;obtain⟨⟨c0,c1,c2,c3,c4,c5⟩,n0,n1⟩:=n5;(try obtain⟨e5,f5⟩:=K5.one);clear tok1 b5 o1;(try dsimp only)))
 |fail)
 all_goals
  have HXO:=Hy (show Off (.slice A1 (di d.poly x0 x1).length k1) (di d.poly x0 x1) (fun j=>P j∧(j≠w.heap.size+1∧j≠w.heap.size)) from(O5.out.off).mono fun j hj=>HS.out.new j (by omega))
  clear c0 c1 c2 c3 c4 c5 f0 f1 f2 f3 f4 f5 z0 z1 z2 z3 z4 z5 n0 n1
  first
   |(have B6:=Hy (B5.out.setCell (p:=⟨W.heap.size,0,none⟩) (Ig _) (.slice A1 (di d.poly x0 x1).length k1));have KE:=K5.set_ 0 (.slice A1 (di d.poly x0 x1).length k1);have O6:=Hy (O5.out.setCell ⟨W.heap.size,0,none⟩ (.slice A1 (di d.poly x0 x1).length k1) hbs);(try clear e5 f5);generalize hW6:w5.setCell ⟨W.heap.size,0,none⟩ (.slice A1 (di d.poly x0 x1).length k1)=W6 at B6 KE O6 ⊢)
   |(have B6:=Hy (aa B5.out (ab w5 (.cells #[.slice A1 (di d.poly x0 x1).length k1] 32)));have KE:=Blk.new' w5 32 (.slice A1 (di d.poly x0 x1).length k1) w5.heap.size rfl;have O6:=Hy (O5.out.bel (ab w5 (.cells #[.slice A1 (di d.poly x0 x1).length k1] 32)));generalize hW6:w5.alloc (.cells #[.slice A1 (di d.poly x0 x1).length k1] 32)=W6 at B6 KE O6 ⊢)
  clear hW6
  have HX:=Hy O6.out.strs
  have H1:=Hy (HS.out.next B6.out)
  obtain⟨c0,c1,c2,c3,c4,c5⟩:=H1.out.box.cells
  obtain⟨f0,f1,f2,f3,f4,f5⟩:=H1.out.out.frz
  obtain⟨z0,z1,z2,z3,z4,z5⟩:=H1.out.out.cells
  obtain⟨u0,-⟩:=KE.one
  go_wp2_with fail
  clear c0 c1 c2 c3 c4 c5 f0 f1 f2 f3 f4 f5 z0 z1 z2 z3 z4 z5 u0 KE
  have HM:=fm _ _ _ d (di d.poly x0 x1) (cF d.poly x0 x1) W6 H1.out.sta.r HX.out HXO.out H1.out.new
  obtain⟨q,hq⟩:∃q:ByteArray×ae,(aj (bx (di d.poly x0 x1)) (cF d.poly x0 x1),aX d (di d.poly x0 x1) (cF d.poly x0 x1))=q:=⟨_,rfl⟩
  have HRQ:=Hy (show r=q from HRR.out.symm.trans (((lR d l).trans (by rw[HX0.out,HX1.out])).trans hq))
  rw[hq] at HM
  clear hq
  refine HM.mono ?_
  rintro e3 w3 ⟨v3,rfl,s3,b3⟩
  have H3:=Hy (H1.out.next b3)
  obtain⟨p2,e2,t2,rfl,sq⟩:=s3.s
  obtain⟨Ap2,cp2,rfl,-,-,-⟩:=sq.1.1.open_
  obtain⟨Ae2,ce2,rfl,-,-,-⟩:=sq.2.1.1.open_
  obtain⟨At2,ct2,rfl,-,-,-⟩:=sq.2.2.1.open_
  have SQ:=Hy sq
  clear sq
  clear b3 HM
  obtain⟨c0,c1,c2,c3,c4,c5⟩:=H3.out.box.cells
  obtain⟨f0,f1,f2,f3,f4,f5⟩:=H3.out.out.frz
  obtain⟨z0,z1,z2,z3,z4,z5⟩:=H3.out.out.cells
  go_wp2
  obtain⟨kk,ss,bb⟩:=H3.out.done SQ.out
  generalize World.setCell _ _ _=w9 at kk ss bb ⊢
  obtain⟨x0,x1,x2,x3,x4,x5⟩:=kk.cells
  refine bodyPost_ret (v:=.tuple #[.agg #[(.slice Ap2 q.2.poly.length cp2),(.slice Ae2 q.2.eng.length ce2),(.slice At2 q.2.tab.length ct2),.int .i64 q.2.rw,.int .i64 q.2.ac,.int .i64 q.2.wi],.string q.1]) (by simp[results,results50,go_sem,x0,x1,x2,x3,x4,x5]) rfl ?_
  rw[HRQ.out]
  exact⟨_,rfl,ss,bb⟩
theorem xr (P:Nat→Prop) (v n:Value) (d:ae) (l:List Int) (w:World) (hs:SxR P w v d) (hn:SxN P w) (hl:ai w n l) (hll:l.length=1):Calls prog 50 #[v,.string eO,n] w (SxQ P w (aK d eO l)):=by
 have hlw:=hl.2
 obtain⟨An,cn,rfl,hnc,hncc,hrd⟩:=hl.open_
 obtain⟨nb,no,rfl,hnb,hnn⟩:=hrd.ints (by omega)
 have q0:=hnn 0 (by omega)
 have i0:=hlw _ (bN l 0 (by omega))
 obtain⟨x0,hx0⟩:∃x,at_ l 0=x:=⟨_,rfl⟩
 rw[hx0] at q0 i0
 have HX0:=Hy hx0
 rw[Nat.add_zero] at q0
 rw[hll] at hnc ⊢
 clear hl hrd hnn hlw hll hx0
 obtain⟨p,e,t,rfl,hs0⟩:=hs.s
 obtain⟨Ap,cp,rfl,-,-,-⟩:=hs0.1.1.open_
 obtain⟨Ae,ce,rfl,-,-,-⟩:=hs0.2.1.1.open_
 obtain⟨At,ct,rfl,-,-,-⟩:=hs0.2.2.1.open_
 have HS:=Hy (Sxn.first hs0 hn)
 have HSAME:=Hy (SxS.same hs0 hn)
 obtain⟨c0,c1,c2,c3,c4,c5⟩:=HS.out.box.cells
 obtain⟨f0,f1,f2,f3,f4,f5⟩:=HS.out.out.frz
 obtain⟨z0,z1,z2,z3,z4,z5⟩:=HS.out.out.cells
 obtain⟨r,hr⟩:∃r:ByteArray×ae,aK d eO l=r:=⟨_,rfl⟩
 have HRR:=Hy hr
 rw[hr]
 clear hs hs0 hn hr
 unfold eO
 go_enter func50,ntmps50
 go_wp2_with fail
 generalize hW:World.alloc _ _=W at HS c0 c1 c2 c3 c4 c5 f0 f1 f2 f3 f4 f5 z0 z1 z2 z3 z4 z5 ⊢
 clear hW
 have HNC:=Hy (fun X (h:Below w.heap.size w X)=>((h.cell (by exact hnb)).trans q0:X.cell? ⟨nb,no,none⟩=some (.int .i64 x0)))
 have n0:=HNC.out _ HS.out.bel
 clear q0
 have HB:=Hy (show ∀X,Below W.heap.size W X→((X.cell? ⟨w.heap.size,0,none⟩=some (.slice Ap d.poly.length cp)∧X.cell? ⟨w.heap.size,1,none⟩=some (.slice Ae d.eng.length ce)∧X.cell? ⟨w.heap.size,2,none⟩=some (.slice At d.tab.length ct)∧X.cell? ⟨w.heap.size,3,none⟩=some (.int .i64 d.rw)∧X.cell? ⟨w.heap.size,4,none⟩=some (.int .i64 d.ac)∧X.cell? ⟨w.heap.size,5,none⟩=some (.int .i64 d.wi))∧X.cell? ⟨nb,no,none⟩=some (.int .i64 x0)) from fun X h=>⟨(HS.out.next h).box.cells,HNC.out X (HS.out.next h).bel⟩)
 have HV:=Hy (HS.out.sta.2.1.1)
 have hsA:W.heap.size<(W.alloc (.cells #[Value.slice none 0 0] 32)).heap.size:=by simp
 have tok1:True:=trivial
 go_region_held3 (fun w'=>(w'.cell? ⟨w.heap.size,0,none⟩=some (.slice Ap d.poly.length cp)∧w'.cell? ⟨w.heap.size,1,none⟩=some (.slice Ae d.eng.length ce)∧w'.cell? ⟨w.heap.size,2,none⟩=some (.slice At d.tab.length ct)∧w'.cell? ⟨w.heap.size,3,none⟩=some (.int .i64 d.rw)∧w'.cell? ⟨w.heap.size,4,none⟩=some (.int .i64 d.ac)∧w'.cell? ⟨w.heap.size,5,none⟩=some (.int .i64 d.wi))∧w'.cell? ⟨nb,no,none⟩=some (.int .i64 x0)) (first|with_reducible exact HB.out _ (Below.refl _ _)|with_reducible exact HB.out _ (ah _)|with_reducible exact HB.out _ (ab _ _)|with_reducible exact HB.out _ ((ab _ _).drew)|with_reducible exact HB.out _ (((Below.refl _ _).drew).alloc (Ig _) _)|with_reducible exact HB.out _ B5.out|with_reducible exact HB.out _ (B5.out.alloc B5.out.size _)|with_reducible exact HB.out _ (B5.out.setCell (p:=⟨_,0,none⟩) (Ig _) _)|with_reducible exact HB.out _ ((B5.out.alloc B5.out.size _).setCell (p:=⟨_,0,none⟩) B5.out.size _)|exact HB.out _ (B5.out.setCell (p:=⟨_,0,none⟩) (Ig _) _)|go_keep)
 (first
 |((try go_simp);go_at_call 85;have _t:=tok1;go_loud (refine(show Calls prog 85 #[.agg #[.slice Ae d.eng.length ce],.int .i64 x0] _ (cw _ (tmL d.eng x0) (cD d.eng x0)) from qL _ d.eng x0 _ (by first|exact HV.out.bel (ab _ _)|exact HV.out.bel ((ab _ _).drew)|exact HV.out.bel (((Below.refl _ _).drew).alloc (Ig _) _))).mono ?_;rintro e5 w5 ⟨y1,rfl,o1,b5⟩;have K5:Blk w5 W.heap.size 32 [Value.slice none 0 0]:=(b5.block _ hsA).trans (heap_alloc_new W _);obtain⟨bs,hbs,o1⟩:∃bs,W.heap.size<bs∧ak w5 bs y1 (tmL d.eng x0):=⟨_,hsA,o1⟩;have B5:=Hy (show Below W.heap.size W w5 from(by first|exact aa (ab _ _) b5|exact aa ((ab _ _).drew) b5|exact aa (((Below.refl _ _).drew).alloc (Ig _) _) b5|fail));have O5:=Hy o1;obtain⟨A1,k1,rfl,-,-,-⟩:=o1.strs.open_;have n5:=HB.out _ B5.out;obtain⟨⟨c0,c1,c2,c3,c4,c5⟩,n0⟩:=n5;(try obtain⟨e5,f5⟩:=K5.one);clear tok1 b5 o1;(try dsimp only)))
 |((try go_simp);go_at_call 85;have _t:=tok1;go_loud (refine(show Calls prog 85 #[.agg #[.slice Ae d.eng.length ce],.int .i64 x0] _ (cw _ (tmL d.eng x0) (cD d.eng x0)) from qL _ d.eng x0 _ (by first|exact HV.out|exact HV.out.bel (ah _))).mono ?_;rintro e5 w5 ⟨y1,rfl,o1,b5⟩;obtain⟨bs,hbs,o1⟩:∃bs,W.heap.size≤bs∧ak w5 bs y1 (tmL d.eng x0):=⟨_,Ig _,o1⟩;have B5:=Hy (show Below W.heap.size W w5 from(by first|exact b5|exact aa (ah _) b5|fail));have O5:=Hy o1;obtain⟨A1,k1,rfl,-,-,-⟩:=o1.strs.open_;have n5:=HB.out _ B5.out;obtain⟨⟨c0,c1,c2,c3,c4,c5⟩,n0⟩:=n5;(try obtain⟨e5,f5⟩:=K5.one);clear tok1 b5 o1;(try dsimp only)))
 |fail)
 all_goals
  have HXO:=Hy (show Off (.slice A1 (tmL d.eng x0).length k1) (tmL d.eng x0) (fun j=>P j∧(j≠w.heap.size+1∧j≠w.heap.size)) from(O5.out.off).mono fun j hj=>HS.out.new j (by omega))
  clear c0 c1 c2 c3 c4 c5 f0 f1 f2 f3 f4 f5 z0 z1 z2 z3 z4 z5 n0
  first
   |(have B6:=Hy (B5.out.setCell (p:=⟨W.heap.size,0,none⟩) (Ig _) (.slice A1 (tmL d.eng x0).length k1));have KE:=K5.set_ 0 (.slice A1 (tmL d.eng x0).length k1);have O6:=Hy (O5.out.setCell ⟨W.heap.size,0,none⟩ (.slice A1 (tmL d.eng x0).length k1) hbs);(try clear e5 f5);generalize hW6:w5.setCell ⟨W.heap.size,0,none⟩ (.slice A1 (tmL d.eng x0).length k1)=W6 at B6 KE O6 ⊢)
   |(have B6:=Hy (aa B5.out (ab w5 (.cells #[.slice A1 (tmL d.eng x0).length k1] 32)));have KE:=Blk.new' w5 32 (.slice A1 (tmL d.eng x0).length k1) w5.heap.size rfl;have O6:=Hy (O5.out.bel (ab w5 (.cells #[.slice A1 (tmL d.eng x0).length k1] 32)));generalize hW6:w5.alloc (.cells #[.slice A1 (tmL d.eng x0).length k1] 32)=W6 at B6 KE O6 ⊢)
  clear hW6
  have HX:=Hy O6.out.strs
  have H1:=Hy (HS.out.next B6.out)
  obtain⟨c0,c1,c2,c3,c4,c5⟩:=H1.out.box.cells
  obtain⟨f0,f1,f2,f3,f4,f5⟩:=H1.out.out.frz
  obtain⟨z0,z1,z2,z3,z4,z5⟩:=H1.out.out.cells
  obtain⟨u0,-⟩:=KE.one
  go_wp2_with fail
  clear c0 c1 c2 c3 c4 c5 f0 f1 f2 f3 f4 f5 z0 z1 z2 z3 z4 z5 u0 KE
  have HM:=fm _ _ _ d (tmL d.eng x0) (cD d.eng x0) W6 H1.out.sta.r HX.out HXO.out H1.out.new
  obtain⟨q,hq⟩:∃q:ByteArray×ae,(aj (bx (tmL d.eng x0)) (cD d.eng x0),aX d (tmL d.eng x0) (cD d.eng x0))=q:=⟨_,rfl⟩
  have HRQ:=Hy (show r=q from HRR.out.symm.trans (((lE d l).trans (by rw[HX0.out])).trans hq))
  rw[hq] at HM
  clear hq
  refine HM.mono ?_
  rintro e3 w3 ⟨v3,rfl,s3,b3⟩
  have H3:=Hy (H1.out.next b3)
  obtain⟨p2,e2,t2,rfl,sq⟩:=s3.s
  obtain⟨Ap2,cp2,rfl,-,-,-⟩:=sq.1.1.open_
  obtain⟨Ae2,ce2,rfl,-,-,-⟩:=sq.2.1.1.open_
  obtain⟨At2,ct2,rfl,-,-,-⟩:=sq.2.2.1.open_
  have SQ:=Hy sq
  clear sq
  clear b3 HM
  obtain⟨c0,c1,c2,c3,c4,c5⟩:=H3.out.box.cells
  obtain⟨f0,f1,f2,f3,f4,f5⟩:=H3.out.out.frz
  obtain⟨z0,z1,z2,z3,z4,z5⟩:=H3.out.out.cells
  go_wp2
  obtain⟨kk,ss,bb⟩:=H3.out.done SQ.out
  generalize World.setCell _ _ _=w9 at kk ss bb ⊢
  obtain⟨x0,x1,x2,x3,x4,x5⟩:=kk.cells
  refine bodyPost_ret (v:=.tuple #[.agg #[(.slice Ap2 q.2.poly.length cp2),(.slice Ae2 q.2.eng.length ce2),(.slice At2 q.2.tab.length ct2),.int .i64 q.2.rw,.int .i64 q.2.ac,.int .i64 q.2.wi],.string q.1]) (by simp[results,results50,go_sem,x0,x1,x2,x3,x4,x5]) rfl ?_
  rw[HRQ.out]
  exact⟨_,rfl,ss,bb⟩
theorem Sxn.keptN {P:Nat→Prop} {w:World} {R:Nat} {p e t:Value} {d:ae} {X:World} (h:Sxn P w R p e t d X) {nb no:Nat} {v:Value} (hb:nb<w.heap.size) (hc:X.cell? ⟨nb,no,none⟩=some v) (p' e' t':Value) (d':ae):
  ((((((X.setCell ⟨R,0,none⟩ p').setCell ⟨R,1,none⟩ e').setCell ⟨R,2,none⟩ t').setCell ⟨R,3,none⟩ (.int .i64 d'.rw)).setCell ⟨R,4,none⟩ (.int .i64 d'.ac)).setCell ⟨R,5,none⟩ (.int .i64 d'.wi)).cell? ⟨nb,no,none⟩=some v:=by
 obtain⟨-,hg⟩:=up h.out p' e' t' d'
 have hR:=h.siz.1
 have hz:=h.bel.size
 have k1:nb<X.heap.size:=by omega
 have k2:some nb≠some R:=by intro e;injection e;omega
 exact(World.grownBy.cell_far hg ⟨nb,no,none⟩ k1 k2).trans hc
theorem yS (P:Nat→Prop) (v n:Value) (d:ae) (l:List Int) (w:World) (hs:SxR P w v d) (hn:SxN P w) (hl:ai w n l) (hll:l.length=1):Calls prog 50 #[v,.string gh,n] w (SxQ P w (aK d gh l)):=by
 have hlw:=hl.2
 obtain⟨An,cn,rfl,hnc,hncc,hrd⟩:=hl.open_
 obtain⟨nb,no,rfl,hnb,hnn⟩:=hrd.ints (by omega)
 have q0:=hnn 0 (by omega)
 have i0:=hlw _ (bN l 0 (by omega))
 obtain⟨x0,hx0⟩:∃x,at_ l 0=x:=⟨_,rfl⟩
 rw[hx0] at q0 i0
 have HX0:=Hy hx0
 rw[Nat.add_zero] at q0
 rw[hll] at hnc ⊢
 clear hl hrd hnn hlw hll hx0
 obtain⟨p,e,t,rfl,hs0⟩:=hs.s
 obtain⟨Ap,cp,rfl,-,-,-⟩:=hs0.1.1.open_
 obtain⟨Ae,ce,rfl,-,-,-⟩:=hs0.2.1.1.open_
 obtain⟨At,ct,rfl,-,-,-⟩:=hs0.2.2.1.open_
 have HS:=Hy (Sxn.first hs0 hn)
 have HSAME:=Hy (SxS.same hs0 hn)
 obtain⟨c0,c1,c2,c3,c4,c5⟩:=HS.out.box.cells
 obtain⟨f0,f1,f2,f3,f4,f5⟩:=HS.out.out.frz
 obtain⟨z0,z1,z2,z3,z4,z5⟩:=HS.out.out.cells
 obtain⟨r,hr⟩:∃r:ByteArray×ae,aK d gh l=r:=⟨_,rfl⟩
 have HRR:=Hy hr
 rw[hr]
 clear hs hs0 hn hr
 unfold gh
 go_enter func50,ntmps50
 go_wp2_with fail
 generalize hW:World.alloc _ _=W at HS c0 c1 c2 c3 c4 c5 f0 f1 f2 f3 f4 f5 z0 z1 z2 z3 z4 z5 ⊢
 clear hW
 have HNC:=Hy (fun X (h:Below w.heap.size w X)=>((h.cell (by exact hnb)).trans q0:X.cell? ⟨nb,no,none⟩=some (.int .i64 x0)))
 have n0:=HNC.out _ HS.out.bel
 clear q0
 have HB:=Hy (show ∀X,Below W.heap.size W X→((X.cell? ⟨w.heap.size,0,none⟩=some (.slice Ap d.poly.length cp)∧X.cell? ⟨w.heap.size,1,none⟩=some (.slice Ae d.eng.length ce)∧X.cell? ⟨w.heap.size,2,none⟩=some (.slice At d.tab.length ct)∧X.cell? ⟨w.heap.size,3,none⟩=some (.int .i64 d.rw)∧X.cell? ⟨w.heap.size,4,none⟩=some (.int .i64 d.ac)∧X.cell? ⟨w.heap.size,5,none⟩=some (.int .i64 d.wi))∧X.cell? ⟨nb,no,none⟩=some (.int .i64 x0)) from fun X h=>⟨(HS.out.next h).box.cells,HNC.out X (HS.out.next h).bel⟩)
 have HVT:=Hy HS.out.sta.2.2.1
 have tok1:True:=trivial
 go_region_held3 (fun w'=>(w'.cell? ⟨w.heap.size,0,none⟩=some (.slice Ap d.poly.length cp)∧w'.cell? ⟨w.heap.size,1,none⟩=some (.slice Ae d.eng.length ce)∧w'.cell? ⟨w.heap.size,2,none⟩=some (.slice At d.tab.length ct)∧w'.cell? ⟨w.heap.size,3,none⟩=some (.int .i64 d.rw)∧w'.cell? ⟨w.heap.size,4,none⟩=some (.int .i64 d.ac)∧w'.cell? ⟨w.heap.size,5,none⟩=some (.int .i64 d.wi))∧w'.cell? ⟨nb,no,none⟩=some (.int .i64 x0)) (first|with_reducible exact⟨⟨c0,c1,c2,c3,c4,c5⟩,n0⟩|with_reducible exact⟨G5.out.kept (.slice Ap d.poly.length cp) (.slice Ae d.eng.length ce) (.slice At d.tab.length ct) d,G5.out.keptN hnb n0 (.slice Ap d.poly.length cp) (.slice Ae d.eng.length ce) (.slice At d.tab.length ct) d⟩|exact⟨⟨c0,c1,c2,c3,c4,c5⟩,n0⟩|exact⟨G5.out.kept (.slice Ap d.poly.length cp) (.slice Ae d.eng.length ce) (.slice At d.tab.length ct) d,G5.out.keptN hnb n0 (.slice Ap d.poly.length cp) (.slice Ae d.eng.length ce) (.slice At d.tab.length ct) d⟩|go_keep)
 (first
 |((try go_simp);go_at_call 91;have _t:=tok1;go_loud (refine(zs _ d.tab x0 _ (by first|exact HVT.out|exact HVT.out.bel (ah _))).mono ?_;rintro e5 w5 ⟨rfl,b5⟩;replace b5:Below W.heap.size W w5:=(by first|exact b5|exact aa (ah _) b5);have B5:=Hy b5;have G5:=Hy (HS.out.next b5);obtain⟨⟨c0,c1,c2,c3,c4,c5⟩,n0⟩:=HB.out _ b5;obtain⟨f0,f1,f2,f3,f4,f5⟩:=G5.out.out.frz;obtain⟨z0,z1,z2,z3,z4,z5⟩:=G5.out.out.cells;clear tok1 b5;(try dsimp only)))
 |fail)
 all_goals
  go_wp2
  obtain⟨kk,ss,bb⟩:=G5.out.done G5.out.sta
  generalize World.setCell _ _ _=w9 at kk ss bb ⊢
  obtain⟨m0,m1,m2,m3,m4,m5⟩:=kk.cells
  refine bodyPost_ret (v:=.tuple #[.agg #[(.slice Ap d.poly.length cp),(.slice Ae d.eng.length ce),(.slice At d.tab.length ct),.int .i64 d.rw,.int .i64 d.ac,.int .i64 d.wi],.string (eA d.tab x0)]) (by simp[results,results50,go_sem,m0,m1,m2,m3,m4,m5]) rfl ?_
  rw[show r=(eA d.tab x0,d) from HRR.out.symm.trans ((ml d l).trans (by rw[HX0.out]))]
  exact⟨_,rfl,ss,bb⟩
theorem yV (P:Nat→Prop) (v n:Value) (d:ae) (l:List Int) (w:World) (hs:SxR P w v d) (hn:SxN P w) (hl:ai w n l) (hll:l.length=1):Calls prog 50 #[v,.string fU,n] w (SxQ P w (aK d fU l)):=by
 have hlw:=hl.2
 obtain⟨An,cn,rfl,hnc,hncc,hrd⟩:=hl.open_
 obtain⟨nb,no,rfl,hnb,hnn⟩:=hrd.ints (by omega)
 have q0:=hnn 0 (by omega)
 have i0:=hlw _ (bN l 0 (by omega))
 obtain⟨x0,hx0⟩:∃x,at_ l 0=x:=⟨_,rfl⟩
 rw[hx0] at q0 i0
 have HX0:=Hy hx0
 rw[Nat.add_zero] at q0
 rw[hll] at hnc ⊢
 clear hl hrd hnn hlw hll hx0
 obtain⟨p,e,t,rfl,hs0⟩:=hs.s
 obtain⟨Ap,cp,rfl,-,-,-⟩:=hs0.1.1.open_
 obtain⟨Ae,ce,rfl,-,-,-⟩:=hs0.2.1.1.open_
 obtain⟨At,ct,rfl,-,-,-⟩:=hs0.2.2.1.open_
 have HS:=Hy (Sxn.first hs0 hn)
 have HSAME:=Hy (SxS.same hs0 hn)
 obtain⟨c0,c1,c2,c3,c4,c5⟩:=HS.out.box.cells
 obtain⟨f0,f1,f2,f3,f4,f5⟩:=HS.out.out.frz
 obtain⟨z0,z1,z2,z3,z4,z5⟩:=HS.out.out.cells
 obtain⟨r,hr⟩:∃r:ByteArray×ae,aK d fU l=r:=⟨_,rfl⟩
 have HRR:=Hy hr
 rw[hr]
 clear hs hs0 hn hr
 unfold fU
 go_enter func50,ntmps50
 go_wp2_with fail
 generalize hW:World.alloc _ _=W at HS c0 c1 c2 c3 c4 c5 f0 f1 f2 f3 f4 f5 z0 z1 z2 z3 z4 z5 ⊢
 clear hW
 have HNC:=Hy (fun X (h:Below w.heap.size w X)=>((h.cell (by exact hnb)).trans q0:X.cell? ⟨nb,no,none⟩=some (.int .i64 x0)))
 have n0:=HNC.out _ HS.out.bel
 clear q0
 have HSZ:=Hy ((oB d.tab x0).1)
 have HCN:=Hy (ys d.tab x0)
 have hsz:=li (grP d.tab x0)
 have tok1:True:=trivial
 go_region_held3 (fun w'=>(w'.cell? ⟨w.heap.size,0,none⟩=some (.slice Ap d.poly.length cp)∧w'.cell? ⟨w.heap.size,1,none⟩=some (.slice Ae d.eng.length ce)∧w'.cell? ⟨w.heap.size,2,none⟩=some (.slice At d.tab.length ct)∧w'.cell? ⟨w.heap.size,3,none⟩=some (.int .i64 d.rw)∧w'.cell? ⟨w.heap.size,4,none⟩=some (.int .i64 d.ac)∧w'.cell? ⟨w.heap.size,5,none⟩=some (.int .i64 d.wi))∧w'.cell? ⟨nb,no,none⟩=some (.int .i64 x0)) (first|with_reducible exact⟨⟨c0,c1,c2,c3,c4,c5⟩,n0⟩|exact⟨⟨c0,c1,c2,c3,c4,c5⟩,n0⟩|go_keep)
  (first
  |((try go_simp);go_at_call 92;have _t:=tok1;go_loud (refine(qW _ d.tab x0 _ (by first|exact HS.out.sta.2.2.1|exact HS.out.sta.2.2.1.bel (ah _))).mono ?_;rintro e5 w5 ⟨y1,rfl,o1,b5⟩;replace b5:Below W.heap.size W w5:=(by first|exact b5|exact aa (ah _) b5);have G5:=Hy (HS.out.next b5);have HX:=Hy (o1.read);obtain⟨us,A1,k1,hus,rfl,hk1,hk2,hk3,hk4⟩:=o1.read;clear o1 hus hk1 hk2 hk3 hk4;obtain⟨c0,c1,c2,c3,c4,c5⟩:=G5.out.box.cells;obtain⟨f0,f1,f2,f3,f4,f5⟩:=G5.out.out.frz;obtain⟨z0,z1,z2,z3,z4,z5⟩:=G5.out.out.cells;have n0:=HNC.out _ G5.out.bel;clear tok1 b5;(try dsimp only)))
  |fail)
 all_goals
  have HB:=Hy (show ∀X,Below w5.heap.size w5 X→(X.cell? ⟨w.heap.size,0,none⟩=some (.slice Ap d.poly.length cp)∧X.cell? ⟨w.heap.size,1,none⟩=some (.slice Ae d.eng.length ce)∧X.cell? ⟨w.heap.size,2,none⟩=some (.slice At d.tab.length ct)∧X.cell? ⟨w.heap.size,3,none⟩=some (.int .i64 d.rw)∧X.cell? ⟨w.heap.size,4,none⟩=some (.int .i64 d.ac)∧X.cell? ⟨w.heap.size,5,none⟩=some (.int .i64 d.wi)) from fun X h=>(G5.out.next h).box.cells)
  clear n0
  have tok2:True:=trivial
  have tok3:True:=trivial
  go_wp2_with fail
  go_region_held3 (fun w'=>w'.cell? ⟨w.heap.size,0,none⟩=some (.slice Ap d.poly.length cp)∧w'.cell? ⟨w.heap.size,1,none⟩=some (.slice Ae d.eng.length ce)∧w'.cell? ⟨w.heap.size,2,none⟩=some (.slice At d.tab.length ct)∧w'.cell? ⟨w.heap.size,3,none⟩=some (.int .i64 d.rw)∧w'.cell? ⟨w.heap.size,4,none⟩=some (.int .i64 d.ac)∧w'.cell? ⟨w.heap.size,5,none⟩=some (.int .i64 d.wi)) (first|with_reducible exact⟨c0,c1,c2,c3,c4,c5⟩|with_reducible exact G7.out.kept (.slice Ap d.poly.length cp) (.slice Ae d.eng.length ce) (.slice At d.tab.length ct) d|exact⟨c0,c1,c2,c3,c4,c5⟩|exact G7.out.kept (.slice Ap d.poly.length cp) (.slice Ae d.eng.length ce) (.slice At d.tab.length ct) d|go_keep)
  (first
  |((try go_simp);go_at_call 93;have _t:=tok2;go_loud (refine(pF _ (grP d.tab x0) _ (by first|exact HX.out|exact HX.out.bel (ah _)) (Ih HSZ.out (by omega)) HCN.out).mono ?_;rintro e7 w7 ⟨rfl,b7⟩;replace b7:Below w5.heap.size w5 w7:=(by first|exact b7|exact aa (ah _) b7);have B7:=Hy b7;have G7:=Hy (G5.out.next b7);obtain⟨c0,c1,c2,c3,c4,c5⟩:=HB.out _ b7;obtain⟨f0,f1,f2,f3,f4,f5⟩:=G7.out.out.frz;obtain⟨z0,z1,z2,z3,z4,z5⟩:=G7.out.out.cells;clear tok2 b7;(try dsimp only)))
  |((try go_simp);go_at_call 29;have _t:=tok3;go_loud (refine(dB (eo d.tab x0) (cW (grP d.tab x0)) _ (by omega)).mono ?_;rintro e8 w8 ⟨rfl,rfl⟩;clear tok3;(try dsimp only)))
  |fail)
  all_goals
   go_wp2
   obtain⟨kk,ss,bb⟩:=G7.out.done G7.out.sta
   generalize World.setCell _ _ _=w9 at kk ss bb ⊢
   obtain⟨m0,m1,m2,m3,m4,m5⟩:=kk.cells
   refine bodyPost_ret (v:=.tuple #[.agg #[(.slice Ap d.poly.length cp),(.slice Ae d.eng.length ce),(.slice At d.tab.length ct),.int .i64 d.rw,.int .i64 d.ac,.int .i64 d.wi],.string (aj (cW (grP d.tab x0)) (eo d.tab x0))]) (by simp[results,results50,go_sem,m0,m1,m2,m3,m4,m5]) rfl ?_
   rw[show r=(aj (cW (grP d.tab x0)) (eo d.tab x0),d) from HRR.out.symm.trans ((mJ d l).trans (by rw[HX0.out]))]
   exact⟨_,rfl,ss,bb⟩
theorem wK (P:Nat→Prop) (v n:Value) (d:ae) (l:List Int) (w:World) (hs:SxR P w v d) (hn:SxN P w) (hl:ai w n l) (hll:l.length=3):Calls prog 50 #[v,.string eK,n] w (SxQ P w (aK d eK l)):=by
 have hlw:=hl.2
 obtain⟨An,cn,rfl,hnc,hncc,hrd⟩:=hl.open_
 obtain⟨nb,no,rfl,hnb,hnn⟩:=hrd.ints (by omega)
 have q0:=hnn 0 (by omega)
 have i0:=hlw _ (bN l 0 (by omega))
 obtain⟨x0,hx0⟩:∃x,at_ l 0=x:=⟨_,rfl⟩
 rw[hx0] at q0 i0
 have HX0:=Hy hx0
 have q1:=hnn 1 (by omega)
 have i1:=hlw _ (bN l 1 (by omega))
 obtain⟨x1,hx1⟩:∃x,at_ l 1=x:=⟨_,rfl⟩
 rw[hx1] at q1 i1
 have HX1:=Hy hx1
 have q2:=hnn 2 (by omega)
 have i2:=hlw _ (bN l 2 (by omega))
 obtain⟨x2,hx2⟩:∃x,at_ l 2=x:=⟨_,rfl⟩
 rw[hx2] at q2 i2
 have HX2:=Hy hx2
 rw[Nat.add_zero] at q0
 rw[hll] at hnc ⊢
 clear hl hrd hnn hlw hll hx0 hx1 hx2
 obtain⟨p,e,t,rfl,hs0⟩:=hs.s
 obtain⟨Ap,cp,rfl,-,-,-⟩:=hs0.1.1.open_
 obtain⟨Ae,ce,rfl,-,-,-⟩:=hs0.2.1.1.open_
 obtain⟨At,ct,rfl,-,-,-⟩:=hs0.2.2.1.open_
 have HS:=Hy (Sxn.first hs0 hn)
 have HSAME:=Hy (SxS.same hs0 hn)
 obtain⟨c0,c1,c2,c3,c4,c5⟩:=HS.out.box.cells
 obtain⟨f0,f1,f2,f3,f4,f5⟩:=HS.out.out.frz
 obtain⟨z0,z1,z2,z3,z4,z5⟩:=HS.out.out.cells
 obtain⟨r,hr⟩:∃r:ByteArray×ae,aK d eK l=r:=⟨_,rfl⟩
 have HRR:=Hy hr
 rw[hr]
 clear hs hs0 hn hr
 unfold eK
 go_enter func50,ntmps50
 go_wp2_with fail
 generalize hW:World.alloc _ _=W at HS c0 c1 c2 c3 c4 c5 f0 f1 f2 f3 f4 f5 z0 z1 z2 z3 z4 z5 ⊢
 clear hW
 have HNC:=Hy (fun X (h:Below w.heap.size w X)=>(⟨(h.cell (by exact hnb)).trans q0,(h.cell (by exact hnb)).trans q1,(h.cell (by exact hnb)).trans q2⟩:X.cell? ⟨nb,no,none⟩=some (.int .i64 x0)∧X.cell? ⟨nb,no+1,none⟩=some (.int .i64 x1)∧X.cell? ⟨nb,no+2,none⟩=some (.int .i64 x2)))
 obtain⟨n0,n1,n2⟩:=HNC.out _ HS.out.bel
 clear q0 q1 q2
 have HSZ:=Hy ((oU d.tab x0 x1 x2).1)
 have HCN:=Hy (yn d.tab x0 x1 x2)
 have hsz:=li (chP d.tab x0 x1 x2)
 have tok1:True:=trivial
 go_region_held3 (fun w'=>(w'.cell? ⟨w.heap.size,0,none⟩=some (.slice Ap d.poly.length cp)∧w'.cell? ⟨w.heap.size,1,none⟩=some (.slice Ae d.eng.length ce)∧w'.cell? ⟨w.heap.size,2,none⟩=some (.slice At d.tab.length ct)∧w'.cell? ⟨w.heap.size,3,none⟩=some (.int .i64 d.rw)∧w'.cell? ⟨w.heap.size,4,none⟩=some (.int .i64 d.ac)∧w'.cell? ⟨w.heap.size,5,none⟩=some (.int .i64 d.wi))∧w'.cell? ⟨nb,no,none⟩=some (.int .i64 x0)∧w'.cell? ⟨nb,no+1,none⟩=some (.int .i64 x1)∧w'.cell? ⟨nb,no+2,none⟩=some (.int .i64 x2)) (first|with_reducible exact⟨⟨c0,c1,c2,c3,c4,c5⟩,n0,n1,n2⟩|exact⟨⟨c0,c1,c2,c3,c4,c5⟩,n0,n1,n2⟩|go_keep)
  (first
  |((try go_simp);go_at_call 94;have _t:=tok1;go_loud (refine(tJ _ d.tab x0 x1 x2 _ (by first|exact HS.out.sta.2.2.1|exact HS.out.sta.2.2.1.bel (ah _))).mono ?_;rintro e5 w5 ⟨y1,rfl,o1,b5⟩;replace b5:Below W.heap.size W w5:=(by first|exact b5|exact aa (ah _) b5);have G5:=Hy (HS.out.next b5);have HX:=Hy (o1.read);obtain⟨us,A1,k1,hus,rfl,hk1,hk2,hk3,hk4⟩:=o1.read;clear o1 hus hk1 hk2 hk3 hk4;obtain⟨c0,c1,c2,c3,c4,c5⟩:=G5.out.box.cells;obtain⟨f0,f1,f2,f3,f4,f5⟩:=G5.out.out.frz;obtain⟨z0,z1,z2,z3,z4,z5⟩:=G5.out.out.cells;obtain⟨n0,n1,n2⟩:=HNC.out _ G5.out.bel;clear tok1 b5;(try dsimp only)))
  |fail)
 all_goals
  have HB:=Hy (show ∀X,Below w5.heap.size w5 X→(X.cell? ⟨w.heap.size,0,none⟩=some (.slice Ap d.poly.length cp)∧X.cell? ⟨w.heap.size,1,none⟩=some (.slice Ae d.eng.length ce)∧X.cell? ⟨w.heap.size,2,none⟩=some (.slice At d.tab.length ct)∧X.cell? ⟨w.heap.size,3,none⟩=some (.int .i64 d.rw)∧X.cell? ⟨w.heap.size,4,none⟩=some (.int .i64 d.ac)∧X.cell? ⟨w.heap.size,5,none⟩=some (.int .i64 d.wi)) from fun X h=>(G5.out.next h).box.cells)
  clear n0 n1 n2
  have tok2:True:=trivial
  have tok3:True:=trivial
  go_wp2_with fail
  go_region_held3 (fun w'=>w'.cell? ⟨w.heap.size,0,none⟩=some (.slice Ap d.poly.length cp)∧w'.cell? ⟨w.heap.size,1,none⟩=some (.slice Ae d.eng.length ce)∧w'.cell? ⟨w.heap.size,2,none⟩=some (.slice At d.tab.length ct)∧w'.cell? ⟨w.heap.size,3,none⟩=some (.int .i64 d.rw)∧w'.cell? ⟨w.heap.size,4,none⟩=some (.int .i64 d.ac)∧w'.cell? ⟨w.heap.size,5,none⟩=some (.int .i64 d.wi)) (first|with_reducible exact⟨c0,c1,c2,c3,c4,c5⟩|with_reducible exact G7.out.kept (.slice Ap d.poly.length cp) (.slice Ae d.eng.length ce) (.slice At d.tab.length ct) d|exact⟨c0,c1,c2,c3,c4,c5⟩|exact G7.out.kept (.slice Ap d.poly.length cp) (.slice Ae d.eng.length ce) (.slice At d.tab.length ct) d|go_keep)
  (first
  |((try go_simp);go_at_call 93;have _t:=tok2;go_loud (refine(pF _ (chP d.tab x0 x1 x2) _ (by first|exact HX.out|exact HX.out.bel (ah _)) (Ih HSZ.out (by omega)) HCN.out).mono ?_;rintro e7 w7 ⟨rfl,b7⟩;replace b7:Below w5.heap.size w5 w7:=(by first|exact b7|exact aa (ah _) b7);have B7:=Hy b7;have G7:=Hy (G5.out.next b7);obtain⟨c0,c1,c2,c3,c4,c5⟩:=HB.out _ b7;obtain⟨f0,f1,f2,f3,f4,f5⟩:=G7.out.out.frz;obtain⟨z0,z1,z2,z3,z4,z5⟩:=G7.out.out.cells;clear tok2 b7;(try dsimp only)))
  |((try go_simp);go_at_call 29;have _t:=tok3;go_loud (refine(dB (eu d.tab x0 x1 x2) (cW (chP d.tab x0 x1 x2)) _ (by omega)).mono ?_;rintro e8 w8 ⟨rfl,rfl⟩;clear tok3;(try dsimp only)))
  |fail)
  all_goals
   go_wp2
   obtain⟨kk,ss,bb⟩:=G7.out.done G7.out.sta
   generalize World.setCell _ _ _=w9 at kk ss bb ⊢
   obtain⟨m0,m1,m2,m3,m4,m5⟩:=kk.cells
   refine bodyPost_ret (v:=.tuple #[.agg #[(.slice Ap d.poly.length cp),(.slice Ae d.eng.length ce),(.slice At d.tab.length ct),.int .i64 d.rw,.int .i64 d.ac,.int .i64 d.wi],.string (aj (cW (chP d.tab x0 x1 x2)) (eu d.tab x0 x1 x2))]) (by simp[results,results50,go_sem,m0,m1,m2,m3,m4,m5]) rfl ?_
   rw[show r=(aj (cW (chP d.tab x0 x1 x2)) (eu d.tab x0 x1 x2),d) from HRR.out.symm.trans ((lP d l).trans (by rw[HX0.out,HX1.out,HX2.out]))]
   exact⟨_,rfl,ss,bb⟩
theorem DY {d:ae} (ok:d.Ok) (p:Int):(dX d p).length≤1048576:=by
 have h2:=ok.ac
 unfold dX
 split
 ·have hl:(iu d.rw d.ac d.tab p.toNat).length=d.ac:=gD _ _ _ _
  omega
 ·simp
theorem yy (d:ae) (ok:d.Ok) (p:Int) (v:Value) (w:World) (hv:ai w v d.tab):
  Calls prog 95 #[.agg #[.int .i64 d.rw,.int .i64 d.ac,.int .i64 d.wi],v,.int .i64 p] w fun e w'=>∃r,e=.returned r∧Own w' w.heap.size r (dX d p)∧Below w.heap.size w w':=by
 have ht:=ok.tab
 have h1:=ok.rw
 have h2:=ok.ac
 have h3:=ok.wi
 by_cases h:ag d.tab=true∧0≤p∧p<(pgN d.tab (d.rw*d.ac):Int)
 ·obtain⟨k1,k2,k3⟩:=h
  obtain⟨p,rfl⟩:∃k:Nat,p=k:=⟨p.toNat,by omega⟩
  have e:dX d (p:Int)=iu d.rw d.ac d.tab p:=by unfold dX;rw[if_pos (by unfold nF;rw[k1];exact decide_eq_true ⟨k2,k3⟩)];rfl
  rw[e]
  exact zV d.rw d.ac d.wi p v d.tab w hv h1 h2 h3 ht k1 (by omega)
 ·have e:dX d p=[]:=by
   unfold dX
   rw[if_neg]
   intro hk
   unfold nF at hk
   rw[Is] at hk
   exact h ⟨hk.1,of_decide_eq_true hk.2⟩
  rw[e]
  exact BG d.rw d.ac d.wi p v d.tab w hv h1 h2 h3 ht h
theorem yI (P:Nat→Prop) (v n:Value) (d:ae) (l:List Int) (w:World) (ok:d.Ok) (hs:SxR P w v d) (hn:SxN P w) (hl:ai w n l) (hll:l.length=1):Calls prog 50 #[v,.string eV,n] w (SxQ P w (aK d eV l)):=by
 have hlw:=hl.2
 obtain⟨An,cn,rfl,hnc,hncc,hrd⟩:=hl.open_
 obtain⟨nb,no,rfl,hnb,hnn⟩:=hrd.ints (by omega)
 have q0:=hnn 0 (by omega)
 have i0:=hlw _ (bN l 0 (by omega))
 obtain⟨x0,hx0⟩:∃x,at_ l 0=x:=⟨_,rfl⟩
 rw[hx0] at q0 i0
 have HX0:=Hy hx0
 rw[Nat.add_zero] at q0
 rw[hll] at hnc ⊢
 clear hl hrd hnn hlw hll hx0
 obtain⟨p,e,t,rfl,hs0⟩:=hs.s
 obtain⟨Ap,cp,rfl,-,-,-⟩:=hs0.1.1.open_
 obtain⟨Ae,ce,rfl,-,-,-⟩:=hs0.2.1.1.open_
 obtain⟨At,ct,rfl,-,-,-⟩:=hs0.2.2.1.open_
 have HS:=Hy (Sxn.first hs0 hn)
 have HSAME:=Hy (SxS.same hs0 hn)
 obtain⟨c0,c1,c2,c3,c4,c5⟩:=HS.out.box.cells
 obtain⟨f0,f1,f2,f3,f4,f5⟩:=HS.out.out.frz
 obtain⟨z0,z1,z2,z3,z4,z5⟩:=HS.out.out.cells
 obtain⟨r,hr⟩:∃r:ByteArray×ae,aK d eV l=r:=⟨_,rfl⟩
 have HRR:=Hy hr
 rw[hr]
 clear hs hs0 hn hr
 have HSM:=ra ok x0
 have HLEN:=Hy (DY ok x0)
 have HOK:=Hy ok
 clear ok
 unfold eV
 go_enter func50,ntmps50
 go_wp2_with fail
 generalize hW:World.alloc _ _=W at HS c0 c1 c2 c3 c4 c5 f0 f1 f2 f3 f4 f5 z0 z1 z2 z3 z4 z5 ⊢
 clear hW
 have HNC:=Hy (fun X (h:Below w.heap.size w X)=>((h.cell (by exact hnb)).trans q0:X.cell? ⟨nb,no,none⟩=some (.int .i64 x0)))
 have n0:=HNC.out _ HS.out.bel
 clear q0
 have tok1:True:=trivial
 go_region_held3 (fun w'=>(w'.cell? ⟨w.heap.size,0,none⟩=some (.slice Ap d.poly.length cp)∧w'.cell? ⟨w.heap.size,1,none⟩=some (.slice Ae d.eng.length ce)∧w'.cell? ⟨w.heap.size,2,none⟩=some (.slice At d.tab.length ct)∧w'.cell? ⟨w.heap.size,3,none⟩=some (.int .i64 d.rw)∧w'.cell? ⟨w.heap.size,4,none⟩=some (.int .i64 d.ac)∧w'.cell? ⟨w.heap.size,5,none⟩=some (.int .i64 d.wi))∧w'.cell? ⟨nb,no,none⟩=some (.int .i64 x0)) (first|with_reducible exact⟨⟨c0,c1,c2,c3,c4,c5⟩,n0⟩|exact⟨⟨c0,c1,c2,c3,c4,c5⟩,n0⟩|go_keep)
  (first
  |((try go_simp);go_at_call 95;have _t:=tok1;go_loud (refine(yy d HOK.out x0 _ _ (by first|exact HS.out.sta.2.2.1|exact HS.out.sta.2.2.1.bel (ah _))).mono ?_;rintro e5 w5 ⟨y1,rfl,o1,b5⟩;replace b5:Below W.heap.size W w5:=(by first|exact b5|exact aa (ah _) b5);have G5:=Hy (HS.out.next b5);have HX:=Hy o1.ints;obtain⟨A1,k1,rfl,-,-,-⟩:=o1.ints.open_;clear o1;obtain⟨c0,c1,c2,c3,c4,c5⟩:=G5.out.box.cells;obtain⟨f0,f1,f2,f3,f4,f5⟩:=G5.out.out.frz;obtain⟨z0,z1,z2,z3,z4,z5⟩:=G5.out.out.cells;have n0:=HNC.out _ G5.out.bel;clear tok1 b5;(try dsimp only)))
  |fail)
 all_goals
  have HB:=Hy (show ∀X,Below w5.heap.size w5 X→(X.cell? ⟨w.heap.size,0,none⟩=some (.slice Ap d.poly.length cp)∧X.cell? ⟨w.heap.size,1,none⟩=some (.slice Ae d.eng.length ce)∧X.cell? ⟨w.heap.size,2,none⟩=some (.slice At d.tab.length ct)∧X.cell? ⟨w.heap.size,3,none⟩=some (.int .i64 d.rw)∧X.cell? ⟨w.heap.size,4,none⟩=some (.int .i64 d.ac)∧X.cell? ⟨w.heap.size,5,none⟩=some (.int .i64 d.wi)) from fun X h=>(G5.out.next h).box.cells)
  have hlen:=HLEN.out
  clear n0
  obtain⟨N,hN⟩:∃N,(dX d x0).length=N:=⟨_,rfl⟩
  have HN:=Hy hN
  have HX2:=Hy (show ai w5 (.slice A1 N k1) (dX d x0) from hN▸HX.out)
  have HLN:=Hy hlen
  rw[hN]
  clear HX hN hlen
  have tok2:True:=trivial
  have tok3:True:=trivial
  have HK:=Hy (show decide (0<(dX d x0).length)=decide (0<N) by rw[HN.out])
  go_wp2_with fail
  go_region_held3 (fun w'=>w'.cell? ⟨w.heap.size,0,none⟩=some (.slice Ap d.poly.length cp)∧w'.cell? ⟨w.heap.size,1,none⟩=some (.slice Ae d.eng.length ce)∧w'.cell? ⟨w.heap.size,2,none⟩=some (.slice At d.tab.length ct)∧w'.cell? ⟨w.heap.size,3,none⟩=some (.int .i64 d.rw)∧w'.cell? ⟨w.heap.size,4,none⟩=some (.int .i64 d.ac)∧w'.cell? ⟨w.heap.size,5,none⟩=some (.int .i64 d.wi)) (first|with_reducible exact⟨c0,c1,c2,c3,c4,c5⟩|with_reducible exact G7.out.kept (.slice Ap d.poly.length cp) (.slice Ae d.eng.length ce) (.slice At d.tab.length ct) d|exact⟨c0,c1,c2,c3,c4,c5⟩|exact G7.out.kept (.slice Ap d.poly.length cp) (.slice Ae d.eng.length ce) (.slice At d.tab.length ct) d|go_keep)
  (first
  |((try go_simp);go_at_call 35;have _t:=tok2;go_loud (refine(dC _ (dX d x0) _ (by first|exact HX2.out|exact HX2.out.bel (ah _)) HLN.out).mono ?_;rintro e7 w7 ⟨rfl,b7⟩;replace b7:Below w5.heap.size w5 w7:=(by first|exact b7|exact aa (ah _) b7);have B7:=Hy b7;have G7:=Hy (G5.out.next b7);obtain⟨c0,c1,c2,c3,c4,c5⟩:=HB.out _ b7;obtain⟨f0,f1,f2,f3,f4,f5⟩:=G7.out.out.frz;obtain⟨z0,z1,z2,z3,z4,z5⟩:=G7.out.out.cells;clear tok2 b7;(try dsimp only)))
  |((try go_simp);go_at_call 29;have _t:=tok3;go_loud (refine(dB _ (aw (dX d x0)) _ (by omega)).mono ?_;rintro e8 w8 ⟨rfl,rfl⟩;clear tok3;(try dsimp only)))
  |fail)
  all_goals
   go_wp2
   obtain⟨kk,ss,bb⟩:=G7.out.done G7.out.sta
   generalize World.setCell _ _ _=w9 at kk ss bb ⊢
   obtain⟨m0,m1,m2,m3,m4,m5⟩:=kk.cells
   refine bodyPost_ret (v:=.tuple #[.agg #[(.slice Ap d.poly.length cp),(.slice Ae d.eng.length ce),(.slice At d.tab.length ct),.int .i64 d.rw,.int .i64 d.ac,.int .i64 d.wi],.string (aj (aw (dX d x0)) (decide (0<N)))]) (by simp[results,results50,go_sem,m0,m1,m2,m3,m4,m5]) rfl ?_
   rw[show r=(aj (aw (dX d x0)) (decide (0<N)),d) from HRR.out.symm.trans ((mE d l).trans (by rw[HX0.out,HK.out]))]
   exact⟨_,rfl,ss,bb⟩
theorem uD (P:Nat→Prop) (v n:Value) (d:ae) (l:List Int) (w:World) (hs:SxR P w v d) (hn:SxN P w) (hl:ai w n l) (hll:l.length=3):Calls prog 50 #[v,.string dN,n] w (SxQ P w (aK d dN l)):=by
 have hlw:=hl.2
 obtain⟨An,cn,rfl,hnc,hncc,hrd⟩:=hl.open_
 obtain⟨nb,no,rfl,hnb,hnn⟩:=hrd.ints (by omega)
 have q0:=hnn 0 (by omega)
 have i0:=hlw _ (bN l 0 (by omega))
 obtain⟨x0,hx0⟩:∃x,at_ l 0=x:=⟨_,rfl⟩
 rw[hx0] at q0 i0
 have HX0:=Hy hx0
 have q1:=hnn 1 (by omega)
 have i1:=hlw _ (bN l 1 (by omega))
 obtain⟨x1,hx1⟩:∃x,at_ l 1=x:=⟨_,rfl⟩
 rw[hx1] at q1 i1
 have HX1:=Hy hx1
 have q2:=hnn 2 (by omega)
 have i2:=hlw _ (bN l 2 (by omega))
 obtain⟨x2,hx2⟩:∃x,at_ l 2=x:=⟨_,rfl⟩
 rw[hx2] at q2 i2
 have HX2:=Hy hx2
 rw[Nat.add_zero] at q0
 rw[hll] at hnc ⊢
 clear hl hrd hnn hlw hll hx0 hx1 hx2
 obtain⟨p,e,t,rfl,hs0⟩:=hs.s
 obtain⟨Ap,cp,rfl,-,-,-⟩:=hs0.1.1.open_
 obtain⟨Ae,ce,rfl,-,-,-⟩:=hs0.2.1.1.open_
 obtain⟨At,ct,rfl,-,-,-⟩:=hs0.2.2.1.open_
 have HS:=Hy (Sxn.first hs0 hn)
 have HSAME:=Hy (SxS.same hs0 hn)
 obtain⟨c0,c1,c2,c3,c4,c5⟩:=HS.out.box.cells
 obtain⟨f0,f1,f2,f3,f4,f5⟩:=HS.out.out.frz
 obtain⟨z0,z1,z2,z3,z4,z5⟩:=HS.out.out.cells
 obtain⟨r,hr⟩:∃r:ByteArray×ae,aK d dN l=r:=⟨_,rfl⟩
 have HRR:=Hy hr
 rw[hr]
 clear hs hs0 hn hr
 unfold dN
 go_enter func50,ntmps50
 go_wp2_with fail
 generalize hW:World.alloc _ _=W at HS c0 c1 c2 c3 c4 c5 f0 f1 f2 f3 f4 f5 z0 z1 z2 z3 z4 z5 ⊢
 clear hW
 have HNC:=Hy (fun X (h:Below w.heap.size w X)=>(⟨(h.cell (by exact hnb)).trans q0,(h.cell (by exact hnb)).trans q1,(h.cell (by exact hnb)).trans q2⟩:X.cell? ⟨nb,no,none⟩=some (.int .i64 x0)∧X.cell? ⟨nb,no+1,none⟩=some (.int .i64 x1)∧X.cell? ⟨nb,no+2,none⟩=some (.int .i64 x2)))
 obtain⟨n0,n1,n2⟩:=HNC.out _ HS.out.bel
 clear q0 q1 q2
 have HB:=Hy (show ∀X,Below W.heap.size W X→(X.cell? ⟨nb,no,none⟩=some (.int .i64 x0)∧X.cell? ⟨nb,no+1,none⟩=some (.int .i64 x1)∧X.cell? ⟨nb,no+2,none⟩=some (.int .i64 x2)) from fun X h=>HNC.out X (HS.out.next h).bel)
 have B6:=Hy ((ab W (.cells #[.int .i64 x0,.int .i64 x1,.int .i64 x2] 29)).drew)
 have KL:Blk (W.alloc (.cells #[.int .i64 x0,.int .i64 x1,.int .i64 x2] 29)).drew W.heap.size 29 [.int .i64 x0,.int .i64 x1,.int .i64 x2]:=Blk.new W 29 [.int .i64 x0,.int .i64 x1,.int .i64 x2]
 go_region_held3 (fun w'=>w'.cell? ⟨nb,no,none⟩=some (.int .i64 x0)∧w'.cell? ⟨nb,no+1,none⟩=some (.int .i64 x1)∧w'.cell? ⟨nb,no+2,none⟩=some (.int .i64 x2)) (first|with_reducible exact HB.out _ (Below.refl _ _)|with_reducible exact HB.out _ (ah _)|with_reducible exact HB.out _ (ab _ _)|with_reducible exact HB.out _ ((ab _ _).drew)|go_keep) (first|fail|fail)
 all_goals
  generalize World.drew _=W6 at B6 KL ⊢
  have H6:=Hy (HS.out.next B6.out)
  have HKL:=Hy KL
  clear c0 c1 c2 c3 c4 c5 f0 f1 f2 f3 f4 f5 z0 z1 z2 z3 z4 z5 n0 n1 n2 KL
  obtain⟨c0,c1,c2,c3,c4,c5⟩:=H6.out.box.cells
  obtain⟨f0,f1,f2,f3,f4,f5⟩:=H6.out.out.frz
  obtain⟨z0,z1,z2,z3,z4,z5⟩:=H6.out.out.cells
  obtain⟨l0,l1,l2⟩:=HKL.out.three
  go_wp2_with fail
  refine(eE x0 x1 x2 _).mono ?_
  rintro e7 w7 ⟨rfl,b7⟩
  have H7:=Hy (H6.out.next b7)
  have HK7:=Hy (HKL.out.below b7 HKL.out.lt)
  clear c0 c1 c2 c3 c4 c5 f0 f1 f2 f3 f4 f5 z0 z1 z2 z3 z4 z5 l0 l1 l2 b7
  cases hq:dA x0 x1 x2
  ·have HQ:=Hy hq
   clear hq
   obtain⟨c0,c1,c2,c3,c4,c5⟩:=H7.out.box.cells
   obtain⟨f0,f1,f2,f3,f4,f5⟩:=H7.out.out.frz
   obtain⟨z0,z1,z2,z3,z4,z5⟩:=H7.out.out.cells
   go_wp2
   obtain⟨kk,ss,bb⟩:=H7.out.done H7.out.sta
   generalize World.setCell _ _ _=w9 at kk ss bb ⊢
   obtain⟨m0,m1,m2,m3,m4,m5⟩:=kk.cells
   refine bodyPost_ret (v:=.tuple #[.agg #[(.slice Ap d.poly.length cp),(.slice Ae d.eng.length ce),(.slice At d.tab.length ct),.int .i64 d.rw,.int .i64 d.ac,.int .i64 d.wi],.string ⟨#[110,111,10]⟩]) (by simp[results,results50,go_sem,m0,m1,m2,m3,m4,m5]) rfl ?_
   rw[show r=(⟨#[110,111,10]⟩,d) from HRR.out.symm.trans ((iU d l).trans (by rw[HX0.out,HX1.out,HX2.out];unfold jU eJ;rw[HQ.out];rfl))]
   exact⟨_,rfl,ss,bb⟩
  ·obtain⟨r1,a1,i1,er,ea,ei,h1,h2,h3⟩:=mS hq
   have HQ:=Hy hq
   have HL:=Hy (H7.out.lay r1 a1 i1)
   have HD:=Hy (show eJ d x0 x1 x2={ d with rw:=r1,ac:=a1,wi:=i1 } by unfold eJ;rw[if_pos hq,er,ea,ei];rfl)
   have HO:=Hy (show jU x0 x1 x2=okS by unfold jU;rw[if_pos hq])
   clear hq
   obtain⟨c0,c1,c2,c3,c4,c5⟩:=H7.out.box.cells
   obtain⟨f0,f1,f2,f3,f4,f5⟩:=H7.out.out.frz
   obtain⟨z0,z1,z2,z3,z4,z5⟩:=H7.out.out.cells
   obtain⟨g0,g1,g2,g3,g4,g5⟩:=H7.out.box.frz
   obtain⟨l0,l1,l2⟩:=HK7.out.three
   rw[er] at l0
   rw[ea] at l1
   rw[ei] at l2
   go_wp2_with fail
   generalize World.setCell _ _ _=W8 at HL ⊢
   clear c0 c1 c2 c3 c4 c5 f0 f1 f2 f3 f4 f5 z0 z1 z2 z3 z4 z5 g0 g1 g2 g3 g4 g5 l0 l1 l2
   obtain⟨c0,c1,c2,c3,c4,c5⟩:=HL.out.box.cells
   obtain⟨f0,f1,f2,f3,f4,f5⟩:=HL.out.out.frz
   obtain⟨z0,z1,z2,z3,z4,z5⟩:=HL.out.out.cells
   go_wp2
   obtain⟨kk,ss,bb⟩:=HL.out.done HL.out.sta
   generalize World.setCell _ _ _=w9 at kk ss bb ⊢
   obtain⟨m0,m1,m2,m3,m4,m5⟩:=kk.cells
   refine bodyPost_ret (v:=.tuple #[.agg #[(.slice Ap d.poly.length cp),(.slice Ae d.eng.length ce),(.slice At d.tab.length ct),.int .i64 { d with rw:=r1,ac:=a1,wi:=i1 }.rw,.int .i64 { d with rw:=r1,ac:=a1,wi:=i1 }.ac,.int .i64 { d with rw:=r1,ac:=a1,wi:=i1 }.wi],.string ⟨#[111,107,10]⟩]) (by simp[results,results50,go_sem,m0,m1,m2,m3,m4,m5]) rfl ?_
   rw[show r=(⟨#[111,107,10]⟩,{ d with rw:=r1,ac:=a1,wi:=i1 }) from HRR.out.symm.trans ((iU d l).trans (by rw[HX0.out,HX1.out,HX2.out,HD.out,HO.out];rfl))]
   exact⟨_,rfl,ss,bb⟩
theorem Eg (P:Nat→Prop) (v:Value) (d:ae) (w:World) (hs:SxR P w v d) (hn:SxN P w):Calls prog 10 #[v,.string kD] w (SxQ P w (aP d kD)):=by
 obtain⟨p,e,t,rfl,hs0⟩:=hs.s
 obtain⟨Ap,cp,rfl,-,-,-⟩:=hs0.1.1.open_
 obtain⟨Ae,ce,rfl,-,-,-⟩:=hs0.2.1.1.open_
 obtain⟨At,ct,rfl,-,-,-⟩:=hs0.2.2.1.open_
 have HS:=Hy (Sxn.first hs0 hn)
 have HSAME:=Hy (SxS.same hs0 hn)
 obtain⟨c0,c1,c2,c3,c4,c5⟩:=HS.out.box.cells
 obtain⟨f0,f1,f2,f3,f4,f5⟩:=HS.out.out.frz
 obtain⟨z0,z1,z2,z3,z4,z5⟩:=HS.out.out.cells
 obtain⟨r,hr⟩:∃r:ByteArray×ae,aP d kD=r:=⟨_,rfl⟩
 have HRR:=Hy hr
 rw[hr]
 clear hs hs0 hn hr
 have hsz:=fv (rdL d.eng)
 unfold kD
 go_enter func10,ntmps10
 go_wp2_with fail
 generalize hW:World.alloc _ _=W at HS c0 c1 c2 c3 c4 c5 f0 f1 f2 f3 f4 f5 z0 z1 z2 z3 z4 z5 ⊢
 clear hW
 refine(Ai _ d.eng _ HS.out.sta.2.1.1).mono ?_
 rintro e1 w1 ⟨x1,rfl,o1,b1⟩
 obtain⟨A1,k1,rfl,-,-,-⟩:=o1.ints.open_
 have H1:=Hy (HS.out.next b1)
 have HX:=Hy o1.ints
 have HXO:=Hy (HS.out.polyO o1)
 clear c0 c1 c2 c3 c4 c5 f0 f1 f2 f3 f4 f5 z0 z1 z2 z3 z4 z5 o1
 clear b1
 obtain⟨c0,c1,c2,c3,c4,c5⟩:=H1.out.box.cells
 obtain⟨f0,f1,f2,f3,f4,f5⟩:=H1.out.out.frz
 obtain⟨z0,z1,z2,z3,z4,z5⟩:=H1.out.out.cells
 have tok1:True:=trivial
 have tok2:True:=trivial
 go_wp2_with fail
 go_region_law (first
  |((try go_simp);go_at_call 30;have _t:=tok1;go_loud (refine(bJ _ (rdL d.eng) _ (by first|exact HX.out|exact HX.out.bel (ah _))).mono ?_;rintro e5 w5 ⟨rfl,b5⟩;replace b5:Below w1.heap.size w1 w5:=(by first|exact b5|exact aa (ah _) b5);have G5:=Hy (H1.out.next b5);obtain⟨f0,f1,f2,f3,f4,f5⟩:=G5.out.out.frz;obtain⟨z0,z1,z2,z3,z4,z5⟩:=G5.out.out.cells;obtain⟨y0,y1,y2,y3,y4,y5⟩:=G5.out.box.cells;clear tok1 b5;(try dsimp only)))
  |((try go_simp);go_at_call 29;have _t:=tok2;go_loud (refine(dB (jY d.eng) (av (rdL d.eng)) _ (by omega)).mono ?_;rintro e6 w6 ⟨rfl,rfl⟩;clear tok2;(try dsimp only)))
  |fail)
 all_goals
  go_wp2
  obtain⟨kk,ss,bb⟩:=G5.out.done G5.out.sta
  generalize World.setCell _ _ _=w9 at kk ss bb ⊢
  obtain⟨x0,x1,x2,x3,x4,x5⟩:=kk.cells
  refine bodyPost_ret (v:=.tuple #[.agg #[(.slice Ap d.poly.length cp),(.slice Ae d.eng.length ce),(.slice At d.tab.length ct),.int .i64 d.rw,.int .i64 d.ac,.int .i64 d.wi],.string (aj (av (rdL d.eng)) (jY d.eng))]) (by simp[results,results10,go_sem,x0,x1,x2,x3,x4,x5]) rfl ?_
  rw[show r=(aj (av (rdL d.eng)) (jY d.eng),d) from HRR.out.symm.trans (mB d)]
  exact⟨_,rfl,ss,bb⟩
theorem F9 (P:Nat→Prop) (v:Value) (d:ae) (w:World) (ht:d.tab.length≤1048576) (hs:SxR P w v d) (hn:SxN P w):Calls prog 10 #[v,.string mr] w (SxQ P w (aP d mr)):=by
 obtain⟨p,e,t,rfl,hs0⟩:=hs.s
 obtain⟨Ap,cp,rfl,-,-,-⟩:=hs0.1.1.open_
 obtain⟨Ae,ce,rfl,-,-,-⟩:=hs0.2.1.1.open_
 obtain⟨At,ct,rfl,-,-,-⟩:=hs0.2.2.1.open_
 have HS:=Hy (Sxn.first hs0 hn)
 have HSAME:=Hy (SxS.same hs0 hn)
 obtain⟨c0,c1,c2,c3,c4,c5⟩:=HS.out.box.cells
 obtain⟨f0,f1,f2,f3,f4,f5⟩:=HS.out.out.frz
 obtain⟨z0,z1,z2,z3,z4,z5⟩:=HS.out.out.cells
 obtain⟨r,hr⟩:∃r:ByteArray×ae,aP d mr=r:=⟨_,rfl⟩
 have HRR:=Hy hr
 rw[hr]
 clear hs hs0 hn hr
 have hsz:=fv (itL d.tab)
 unfold mr
 go_enter func10,ntmps10
 go_wp2_with fail
 generalize hW:World.alloc _ _=W at HS c0 c1 c2 c3 c4 c5 f0 f1 f2 f3 f4 f5 z0 z1 z2 z3 z4 z5 ⊢
 clear hW
 refine(rt _ d.tab _ HS.out.sta.2.2.1 ht).mono ?_
 rintro e1 w1 ⟨x1,rfl,o1,b1⟩
 obtain⟨A1,k1,rfl,-,-,-⟩:=o1.ints.open_
 have H1:=Hy (HS.out.next b1)
 have HX:=Hy o1.ints
 have HXO:=Hy (HS.out.polyO o1)
 clear c0 c1 c2 c3 c4 c5 f0 f1 f2 f3 f4 f5 z0 z1 z2 z3 z4 z5 o1
 clear b1
 cases hq:ej d.tab
 ·have HQ:=Hy hq
  clear hq
  obtain⟨c0,c1,c2,c3,c4,c5⟩:=H1.out.box.cells
  obtain⟨f0,f1,f2,f3,f4,f5⟩:=H1.out.out.frz
  obtain⟨z0,z1,z2,z3,z4,z5⟩:=H1.out.out.cells
  have tok1:True:=trivial
  have tok2:True:=trivial
  go_wp2_with fail
  go_region_law (first
   |((try go_simp);go_at_call 30;have _t:=tok1;go_loud (refine(bJ _ (itL d.tab) _ (by first|exact HX.out|exact HX.out.bel (ah _))).mono ?_;rintro e5 w5 ⟨rfl,b5⟩;replace b5:Below w1.heap.size w1 w5:=(by first|exact b5|exact aa (ah _) b5);have G5:=Hy (H1.out.next b5);obtain⟨f0,f1,f2,f3,f4,f5⟩:=G5.out.out.frz;obtain⟨z0,z1,z2,z3,z4,z5⟩:=G5.out.out.cells;obtain⟨y0,y1,y2,y3,y4,y5⟩:=G5.out.box.cells;clear tok1 b5;(try dsimp only)))
   |((try go_simp);go_at_call 29;have _t:=tok2;go_loud (refine(dB false (av (itL d.tab)) _ (by omega)).mono ?_;rintro e6 w6 ⟨rfl,rfl⟩;clear tok2;(try dsimp only)))
   |fail)
  all_goals
   go_wp2
   obtain⟨kk,ss,bb⟩:=G5.out.done G5.out.sta
   generalize World.setCell _ _ _=w9 at kk ss bb ⊢
   obtain⟨x0,x1,x2,x3,x4,x5⟩:=kk.cells
   refine bodyPost_ret (v:=.tuple #[.agg #[(.slice Ap d.poly.length cp),(.slice Ae d.eng.length ce),(.slice At d.tab.length ct),.int .i64 d.rw,.int .i64 d.ac,.int .i64 d.wi],.string (aj (av (itL d.tab)) false)]) (by simp[results,results10,go_sem,x0,x1,x2,x3,x4,x5]) rfl ?_
   rw[show r=(aj (av (itL d.tab)) false,d) from HRR.out.symm.trans ((lj d).trans (by unfold dD;rw[HQ.out];rfl))]
   exact⟨_,rfl,ss,bb⟩
 ·have HQ:=Hy hq
  have HP:=Hy (H1.out.poly HX.out HXO.out)
  have HX2:=Hy (show ai (w1.setCell ⟨w.heap.size,0,none⟩ (.slice A1 (itL d.tab).length k1)) _ (itL d.tab) from HP.out.sta.1.1)
  clear hq
  obtain⟨c0,c1,c2,c3,c4,c5⟩:=H1.out.box.cells
  obtain⟨f0,f1,f2,f3,f4,f5⟩:=H1.out.out.frz
  obtain⟨z0,z1,z2,z3,z4,z5⟩:=H1.out.out.cells
  obtain⟨g0,g1,g2,g3,g4,g5⟩:=H1.out.box.frz
  have tok1:True:=trivial
  have tok2:True:=trivial
  go_wp2_with fail
  generalize hW2:w1.setCell ⟨w.heap.size,0,none⟩ (.slice A1 (itL d.tab).length k1)=W2 at HP HX2 ⊢
  clear hW2 c0 c1 c2 c3 c4 c5 f0 f1 f2 f3 f4 f5 z0 z1 z2 z3 z4 z5 g0 g1 g2 g3 g4 g5
  obtain⟨c0,c1,c2,c3,c4,c5⟩:=HP.out.box.cells
  obtain⟨f0,f1,f2,f3,f4,f5⟩:=HP.out.out.frz
  obtain⟨z0,z1,z2,z3,z4,z5⟩:=HP.out.out.cells
  go_region_law (first
   |((try go_simp);go_at_call 30;have _t:=tok1;go_loud (refine(bJ _ (itL d.tab) _ (by first|exact HX2.out|exact HX2.out.bel (ah _))).mono ?_;rintro e5 w5 ⟨rfl,b5⟩;replace b5:Below W2.heap.size W2 w5:=(by first|exact b5|exact aa (ah _) b5);have G5:=Hy (HP.out.next b5);obtain⟨f0,f1,f2,f3,f4,f5⟩:=G5.out.out.frz;obtain⟨z0,z1,z2,z3,z4,z5⟩:=G5.out.out.cells;obtain⟨y0,y1,y2,y3,y4,y5⟩:=G5.out.box.cells;clear tok1 b5;(try dsimp only)))
   |((try go_simp);go_at_call 29;have _t:=tok2;go_loud (refine(dB true (av (itL d.tab)) _ (by omega)).mono ?_;rintro e6 w6 ⟨rfl,rfl⟩;clear tok2;(try dsimp only)))
   |fail)
  all_goals
   go_wp2
   obtain⟨kk,ss,bb⟩:=G5.out.done G5.out.sta
   generalize World.setCell _ _ _=w9 at kk ss bb ⊢
   obtain⟨x0,x1,x2,x3,x4,x5⟩:=kk.cells
   refine bodyPost_ret (v:=.tuple #[.agg #[(.slice A1 (itL d.tab).length k1),(.slice Ae d.eng.length ce),(.slice At d.tab.length ct),.int .i64 { d with poly:=itL d.tab }.rw,.int .i64 { d with poly:=itL d.tab }.ac,.int .i64 { d with poly:=itL d.tab }.wi],.string (aj (av (itL d.tab)) true)]) (by simp[results,results10,go_sem,x0,x1,x2,x3,x4,x5]) rfl ?_
   rw[show r=(aj (av (itL d.tab)) true,{ d with poly:=itL d.tab }) from HRR.out.symm.trans ((lj d).trans (by unfold dD;rw[HQ.out];rfl))]
   exact⟨_,rfl,ss,bb⟩
theorem BP (P:Nat→Prop) (v:Value) (d:ae) (s:ByteArray) (w:World) (ok:d.Ok) (hs:SxR P w v d) (hn:SxN P w):Calls prog 10 #[v,.string s] w (SxQ P w (aP d s)):=by
 have ht:=ok.tab
 by_cases h:s∈dc
 ·simp only[dc,Iq,Ir,or_false] at h
  rcases h with rfl|rfl|rfl|rfl|rfl|rfl|rfl|rfl|rfl|rfl|rfl
  ·exact Dh P v d w hs hn
  ·exact Et P v d w hs hn
  ·exact DM P v d w hs hn
  ·exact As P v d w hs hn
  ·exact yL P v d w hs hn
  ·exact Eg P v d w hs hn
  ·exact F9 P v d w (by omega) hs hn
  ·exact zY P v d w (by omega) hs hn
  ·exact AK P v d w ht hs hn
  ·exact Be P v d w ok hs hn
  ·exact DL P v d w hs hn
 ·exact Ed P v d s w hs hn h
end Go.Proofs.YtfmjklgfpiffbaaGreatDoor
namespace Go.Proofs.YtfmjklgfpiffbaaGreatDoor
open Go.RowKit Go.Proofs.Tryz
set_option linter.unusedVariables false
set_option linter.unusedSimpArgs false
set_option maxRecDepth 100000
set_option maxHeartbeats 8000000
noncomputable def cL (d:ae) (l:ByteArray):ByteArray×ae:=
 if bO 32 l=false then aP d l
 else if bL (bef 32 l)=12 then bH d (bef 32 l) (aft 32 l)
 else if fA (bL (bef 32 l)) (aft 32 l)=true then aK d (bef 32 l) (bj (aft 32 l)) else(ey,d)
theorem uW {d:ae} (ok:d.Ok) (l:ByteArray):(cL d l).2.Ok∧(cL d l).1.size≤30000:=by
 unfold cL
 split
 ·exact Dt ok _
 ·split
  ·exact El ok _ _
  ·split
   ·exact DP ok _ _
   ·exact⟨ok,(show ey.size≤30000 by decide)⟩
theorem BF {d:ae} (ok:d.Ok) (s:ByteArray):gd s d (aP d s).1 (aP d s).2:=by
 by_cases h:s∈dc
 ·simp only[dc,Iq,Ir,or_false] at h
  rcases h with rfl|rfl|rfl|rfl|rfl|rfl|rfl|rfl|rfl|rfl|rfl
  ·rw[mD];exact zg d
  ·rw[mp];exact zD d
  ·rw[mF];exact yW d
  ·rw[kQ];exact vl d
  ·rw[kX];exact wu d
  ·rw[mB];exact zT d
  ·rw[lj];exact AM ok
  ·rw[kU];exact xG ok
  ·rw[lD];exact zA ok
  ·rw[lV];exact Am ok
  ·rw[mC];exact CE ok
 ·rw[qf d s (fun w hw e=>h (e▸hw))]
  exact Bs h
theorem BU {d:ae} (ok:d.Ok) (s r:ByteArray) (ht:r.size≤1000000):jL s r d (bH d s r).1 (bH d s r).2:=by
 by_cases h:s∈dr
 ·simp only[dr,Iq,Ir,or_false] at h
  rcases h with rfl|rfl|rfl|rfl|rfl|rfl|rfl
  ·rw[kB];exact Bc ht
  ·rw[gn];exact vp ht
  ·rw[kV];exact vt ht
  ·rw[lT];exact zB ht
  ·rw[iT];exact xK ht
  ·rw[jH];exact yP ok ht
  ·rw[nk];exact DH ok (by omega)
 ·rw[qw d r s (fun w hw e=>h (e▸hw))]
  exact Ck h
theorem na {l:List Int} (h:l.length=1):l=[at_ l 0]:=by
 match l,h with
 |[a],_=>rfl
theorem uS {l:List Int} (h:l.length=2):l=[at_ l 0,at_ l 1]:=by
 match l,h with
 |[a,b],_=>rfl
theorem Cm {l:List Int} (h:l.length=3):l=[at_ l 0,at_ l 1,at_ l 2]:=by
 match l,h with
 |[a,b,c],_=>rfl
theorem GW {l:List Int} (h:l.length=4):l=[at_ l 0,at_ l 1,at_ l 2,at_ l 3]:=by
 match l,h with
 |[a,b,c,d],_=>rfl
theorem Bt {d:ae} (ok:d.Ok) (j:Nat) (hj:j<12) (l:List Int) (hl:(l.length:Int)=at_ bV j) (hs:Sm l):cG (sat cM j) l d (aK d (sat cM j) l).1 (aK d (sat cM j) l).2:=by
 have b0:=ua hs 0
 have b1:=ua hs 1
 have hc:j=0∨j=1∨j=2∨j=3∨j=4∨j=5∨j=6∨j=7∨j=8∨j=9∨j=10∨j=11:=by omega
 rcases hc with rfl|rfl|rfl|rfl|rfl|rfl|rfl|rfl|rfl|rfl|rfl|rfl
 ·have hn:l.length=2:=by have:at_ bV 0=2:=rfl;omega
  have hw:sat cM 0=eQ:=rfl
  rw[hw,lR]
  have key:=(show cG eQ [at_ l 0,at_ l 1] d _ _ from zM (by omega))
  rwa[←uS hn] at key
 ·have hn:l.length=1:=by have:at_ bV 1=1:=rfl;omega
  have hw:sat cM 1=eO:=rfl
  rw[hw,lE]
  have key:=(show cG eO [at_ l 0] d _ _ from wN d _)
  rwa[←na hn] at key
 ·have hn:l.length=2:=by have:at_ bV 2=2:=rfl;omega
  have hw:sat cM 2=dK:=rfl
  rw[hw,kY]
  have key:=(show cG dK [at_ l 0,at_ l 1] d _ _ from vZ (by omega) (by omega))
  rwa[←uS hn] at key
 ·have hn:l.length=1:=by have:at_ bV 3=1:=rfl;omega
  have hw:sat cM 3=jf:=rfl
  rw[hw,n9]
  have key:=(show cG jf [at_ l 0] d _ _ from Dl (by omega))
  rwa[←na hn] at key
 ·have hn:l.length=4:=by have:at_ bV 4=4:=rfl;omega
  have hw:sat cM 4=fY:=rfl
  rw[hw,mt]
  have key:=(show cG fY [at_ l 0,at_ l 1,at_ l 2,at_ l 3] d _ _ from yR d _ _ _ _)
  rwa[←GW hn] at key
 ·have hn:l.length=1:=by have:at_ bV 5=1:=rfl;omega
  have hw:sat cM 5=dn:=rfl
  rw[hw,jS]
  have key:=(show cG dn [at_ l 0] d _ _ from wk ok (by omega))
  rwa[←na hn] at key
 ·have hn:l.length=2:=by have:at_ bV 6=2:=rfl;omega
  have hw:sat cM 6=eM:=rfl
  rw[hw,lF]
  have key:=(show cG eM [at_ l 0,at_ l 1] d _ _ from zR ok)
  rwa[←uS hn] at key
 ·have hn:l.length=3:=by have:at_ bV 7=3:=rfl;omega
  have hw:sat cM 7=dN:=rfl
  rw[hw,iU]
  have key:=(show cG dN [at_ l 0,at_ l 1,at_ l 2] d _ _ from xh)
  rwa[←Cm hn] at key
 ·have hn:l.length=1:=by have:at_ bV 8=1:=rfl;omega
  have hw:sat cM 8=gh:=rfl
  rw[hw,ml]
  have key:=(show cG gh [at_ l 0] d _ _ from AN ok (by omega))
  rwa[←na hn] at key
 ·have hn:l.length=1:=by have:at_ bV 9=1:=rfl;omega
  have hw:sat cM 9=fU:=rfl
  rw[hw,mJ]
  have key:=(show cG fU [at_ l 0] d _ _ from AG ok)
  rwa[←na hn] at key
 ·have hn:l.length=3:=by have:at_ bV 10=3:=rfl;omega
  have hw:sat cM 10=eK:=rfl
  rw[hw,lP]
  have key:=(show cG eK [at_ l 0,at_ l 1,at_ l 2] d _ _ from zf ok)
  rwa[←Cm hn] at key
 ·have hn:l.length=1:=by have:at_ bV 11=1:=rfl;omega
  have hw:sat cM 11=eV:=rfl
  rw[hw,mE]
  have key:=(show cG eV [at_ l 0] d _ _ from Ad ok)
  rwa[←na hn] at key
theorem DZ {d:ae} (ok:d.Ok) {l:ByteArray} (hs:l.size≤1000000):mf l d (cL d l).1 (cL d l).2:=by
 have hz:=np 32 l
 refine zh hs (fun h=>?_) (fun h hj=>?_) (fun h hj hf=>?_) (fun h hj hf=>?_)
 ·have e:cL d l=aP d l:=by unfold cL;rw[if_pos h]
  rw[e]
  exact BF ok l
 ·have e:cL d l=bH d (bef 32 l) (aft 32 l):=by unfold cL;rw[if_neg (by rw[h];simp),if_pos hj]
  rw[e]
  exact BU ok _ _ (by omega)
 ·have e:cL d l=aK d (bef 32 l) (bj (aft 32 l)):=by unfold cL;rw[if_neg (by rw[h];simp),if_neg (by omega),if_pos hf]
  rw[e]
  have hw:=(jp (bef 32 l)).2.2 hj
  have hf2:=hf
  unfold fA at hf2
  rw[Is] at hf2
  have key:=Bt ok _ hj (bj (aft 32 l)) (of_decide_eq_true hf2.2) (qj _)
  rwa[hw] at key
 ·have e:cL d l=(ey,d):=by unfold cL;rw[if_neg (by rw[h];simp),if_neg (by omega),if_neg (by rw[hf];simp)]
  rw[e]
  exact⟨rfl,rfl⟩
theorem rX (t:ByteArray) (w:World) (hg:GlbC w):Calls prog 6 #[.string t] w fun e w'=>e=.returned (.string (lC cL t))∧Below w.heap.size w w':=
 rV cL ae.Ok t w hg uU fun d l ok hl=>⟨DZ ok (by omega),uW ok l⟩
end Go.Proofs.YtfmjklgfpiffbaaGreatDoor
