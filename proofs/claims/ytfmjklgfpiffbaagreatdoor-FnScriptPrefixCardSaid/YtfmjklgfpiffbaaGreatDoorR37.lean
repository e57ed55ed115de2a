/-
  Parts of the proof of one statement, merged: ErH EsTc EsF Sem OkD ExS EsH EsO EsOc EsJ ExD EsMb EsMc EsMd EsOb EsOd ExL.
-/
import Derived.Test.YtfmjklgfpiffbaaGreatDoorR34
import Derived.Test.YtfmjklgfpiffbaaGreatDoorR35
namespace Go.Proofs.YtfmjklgfpiffbaaGreatDoor
open Go.RowKit Go.Proofs.Tryz
set_option linter.unusedVariables false
set_option linter.unusedSimpArgs false
set_option maxRecDepth 100000
set_option maxHeartbeats 8000000
attribute [local go_sem ↓] Go.wp_at_zero Go.wp_at_succ
def B9:ByteArray:=⟨#[99,108,101,97,110,10]⟩
def F4:ByteArray:=⟨#[109,97,110,121,10]⟩
def vC (a m:Int):ByteArray:=⟨#[101,114,114,111,114,32]⟩++au a++⟨#[32]⟩++au m++⟨#[10]⟩
def ey (l:List Int) (d:Int):ByteArray:=if fdC l d=0 then B9 else if fdC l d=1 then vC (fdA l d) (fdM l d) else if fdC l d=2 then F4 else noS
theorem Ja {I J:ByteArray} (hI:I.size≤21) (hJ:J.size≤21):¬ 9223372036854775807<6+I.size∧¬ 9223372036854775807<6+I.size+1∧¬ 9223372036854775807<6+I.size+1+J.size∧¬ 9223372036854775807<6+I.size+1+J.size+1 ∧
  (⟨#[101,114,114,111,114,32]⟩++I).size=6+I.size∧(⟨#[101,114,114,111,114,32]⟩++I++⟨#[32]⟩).size=6+I.size+1∧(⟨#[101,114,114,111,114,32]⟩++I++⟨#[32]⟩++J).size=6+I.size+1+J.size:=by
 refine⟨by omega,by omega,by omega,by omega,?_,?_,?_⟩ <;> (simp only[Jt];rfl)
theorem Ig (l:List Int) (d:Int) (hl:l.length≤60):0≤fdA l d∧fdA l d≤60:=by
 unfold fdA
 split
 ·rename_i h
  have:=(ks h).1;omega
 ·omega
theorem EQ (b:Nat) (d:ae) (dg:Int) (w:World) (hd:bO w b d) (ok:d.Ok) (hg:dY b w) (hdg : -9223372036854775808≤dg∧dg≤9223372036854775807):
  Calls prog 129 #[.pointer (some ⟨b,0,none⟩),.int .i64 dg] w fun e w'=>jc w b (ey d.tab dg) d e w':=by
 have HD:=Jj hd;have HG:=Jj hg;have htl:=ok.tab;have ha:=Ig d.tab dg htl;have hm:=ph d.tab dg;obtain⟨p,en,t,k0,-,-,k3⟩:=hd;have HT:=Jj k3.ints;obtain⟨A,c,rfl,-,-,-⟩:=k3.ints.open_;obtain⟨c0,c1,c2,c3,c4,c5⟩:=k0.desk;have HF:=Jj (show ey d.tab dg=if fdC d.tab dg=0 then B9 else if fdC d.tab dg=1 then vC (fdA d.tab dg) (fdM d.tab dg) else if fdC d.tab dg=2 then F4 else noS from rfl);have hcase:=mt d.tab dg;have HI:=Jj (pn _ d.tab dg w HT.out hdg);clear k0 k3 hg c0 c1 c3 c4 c5;obtain⟨a,hA⟩:∃a,fdA d.tab dg=a:=⟨_,rfl⟩;obtain⟨m,hM⟩:∃m,fdM d.tab dg=m:=⟨_,rfl⟩;obtain⟨k,hK⟩:∃k,fdC d.tab dg=k:=⟨_,rfl⟩;unfold FdE at HI;rw[hA] at ha;rw[hM] at hm;rw[hK] at hcase;rw[hA,hM,hK] at HI HF;clear hA hM hK
 go_enter func129,ntmps129
 go_wp2_with fail
 refine HI.out.mono ?_;rintro e w1 ⟨rfl,b1⟩;have HB:=Jj b1;clear b1 c2
 rcases hcase with rfl|rfl|rfl|rfl
 ·go_wp2;go_ret;exact⟨by rw[HF.out];rfl,HD.out.bel HB.out,aB _ HB.out⟩
 ·have s1:=aJ (n:=a) (by omega) (by omega);have s2:=aJ (n:=m) (by omega) (by omega);obtain⟨I,hI⟩:∃I,au a=I:=⟨_,rfl⟩;obtain⟨J,hJ⟩:∃J,au m=J:=⟨_,rfl⟩;have HII:=Jj (show ∀w,Tab w→Calls prog 113 #[.int .i64 a] w fun e w'=>e=.returned (.string I)∧Below w.heap.size w w' from fun w h=>by rw[←hI];exact fG a w (by omega) h);have HJJ:=Jj (show ∀w,Tab w→Calls prog 113 #[.int .i64 m] w fun e w'=>e=.returned (.string J)∧Below w.heap.size w w' from fun w h=>by rw[←hJ];exact fG m w (by omega) h);have HFE:=Jj (show ey d.tab dg=⟨#[101,114,114,111,114,32]⟩++I++⟨#[32]⟩++J++⟨#[10]⟩ by rw[HF.out,←hI,←hJ];rfl);rw[hI] at s1;rw[hJ] at s2;clear hI hJ;obtain⟨g1,g2,g3,g4,r1,r2,r3⟩:=Ja s1 s2
  go_wp2_with fail
  refine(HII.out _ (HG.out.bel HB.out).glb.1).mono ?_;rintro e w2 ⟨rfl,b2⟩;have HB2:=Jj (aa HB.out b2);clear b2
  go_wp2_with fail
  refine(HJJ.out _ (HG.out.bel HB2.out).glb.1).mono ?_;rintro e w3 ⟨rfl,b3⟩;have HB3:=Jj (aa HB2.out b3);clear b3;go_wp2;go_ret;exact⟨by rw[HFE.out];rfl,HD.out.bel HB3.out,aB _ HB3.out⟩
 ·go_wp2;go_ret;exact⟨by rw[HF.out];rfl,HD.out.bel HB.out,aB _ HB.out⟩
 ·go_wp2;go_ret;exact⟨by rw[HF.out];rfl,HD.out.bel HB.out,aB _ HB.out⟩
def gk:ByteArray:=⟨#[102,105,110,100]⟩
def dt:ByteArray:=⟨#[99,111,114,114,101,99,116]⟩
def gM:ByteArray:=⟨#[101,114,114,97,116,97]⟩
def iY:ByteArray:=⟨#[97,112,112,108,121]⟩
def gK:ByteArray:=⟨#[100,101,103,114,101,101]⟩
theorem C7 {d:ae} {dg:Int} (ok:d.Ok) (hdg : -9223372036854775808≤dg∧dg≤9223372036854775807):cD gk [dg] d (ey d.tab dg) d:=by
 intro b v w hv hd hg;have HD:=Jj hd;have HG:=Jj hg;have HOK:=Jj ok;have HDG:=Jj hdg;obtain⟨g,cn,rfl,hgl,hcn⟩:=eL hv (by simp);have n0:w.cell? ⟨g,0,none⟩=some (.int .i64 dg):=hcn 0 (by simp);have tok2:True:=trivial;clear hg hv hcn hd ok hdg;unfold gk
 go_enter func56,ntmps56
 go_wp2_with fail
 refine(EQ b d dg w HD.out HOK.out HG.out HDG.out).mono ?_;rintro e w4 ⟨rfl,d4,g4⟩;have HE:=Jj (Jq d4 g4);clear d4 g4 n0;go_wp2;go_ret;exact⟨rfl,HE.out.1,HE.out.2⟩
theorem yS (l:List Int) (d:Int) (h:l.length≤60):(crL l d).length≤60:=by
 unfold crL
 split
 ·exact h
 ·split
  ·rw[List.length_set];exact h
  ·exact Jy _
theorem wv {d:ae} {dg:Int} (ok:d.Ok) (hdg : -9223372036854775808≤dg∧dg≤9223372036854775807):cD dt [dg] d (ak (aw (crL d.tab dg)) (eN d.tab dg&&ag (crL d.tab dg))) (aR d (crL d.tab dg) (eN d.tab dg)):=by
 intro b v w hv hd hg;have HD:=Jj hd;have HG:=Jj hg;have HDG:=Jj hdg;have htl:=ok.tab;have hrl:(crL d.tab dg).length≤1048576:=Js (yS _ _ htl) (by omega);obtain⟨pv,en,t,k0,-,-,k3⟩:=hd;have HT:=Jj k3.ints;obtain⟨A,c,rfl,-,-,-⟩:=k3.ints.open_;obtain⟨g,cn,rfl,hgl,hcn⟩:=eL hv (by simp);have n0:w.cell? ⟨g,0,none⟩=some (.int .i64 dg):=hcn 0 (by simp);obtain⟨c0,c1,c2,c3,c4,c5⟩:=k0.desk;clear c0 c1 c3 c4 c5;have tok1:True:=trivial;have tok2:True:=trivial;clear k0 k3 hg ok hv hcn hdg;unfold dt
 go_enter func56,ntmps56
 go_wp2_with fail
 go_region_law (first
  |(go_simp;go_at_call 126;have _t:=tok1;refine(vO _ d.tab dg _ (by first|exact HT.out|exact HT.out.bel (ah _)) HDG.out).mono ?_;rintro e1 w3 ⟨r,rfl,o3,b3⟩;replace b3:Below w.heap.size w w3:=(by first|exact b3|exact aa (ah _) b3);have HB:=Jj b3;have HO:=Jj o3.low;clear tok1 b3 o3 n0 c2)
  |(go_simp;go_at_call 122;have _t:=tok2;refine(jX b d _ (crL d.tab dg) (eN d.tab dg) _ (HD.out.bel HB.out) HO.out hrl (HG.out.bel HB.out)).mono ?_;rintro e2 w4 ⟨rfl,d4,g4⟩;have HE:=Jj (Jq d4 g4);clear tok2 d4 g4)
  |fail)
 all_goals
  go_wp2;go_ret;exact⟨rfl,HE.out.1,ay (aB _ HB.out) HE.out.2⟩
theorem pd (es:List Etm) (h:∀k,k<es.length→kr (aC es k)):(cm es).size≤4000:=by
 unfold cm
 split
 ·rename_i ho
  split
  ·decide
  ·have hl:=ni ho;have:=im (l:=es.map etS) (sep:=⟨#[59]⟩) (B:=65) (fun x hx=>by
    obtain⟨y,hy,rfl⟩:=List.mem_map.1 hx;obtain⟨j,hj,rfl⟩:=List.getElem_of_mem hy;rw[←iC hj];exact nO _ (h j hj))
   rw[List.length_map] at this;have e:(⟨#[59]⟩:ByteArray).size=1:=rfl;rw[e] at this;have:(1+65)*es.length≤66*60:=Nat.mul_le_mul (by omega) hl;omega
 ·exact Jy _
theorem yF {d:ae} {t:ByteArray} (ht:t.size≤1000000):jy gM t d (ak (cm (cl (spL t) d.tab)) (aE t&&bt (spL t) d.tab)) d:=by
 intro b w hd hg;have HD:=Jj hd;have HG:=Jj hg;obtain⟨pv,en,tv,k0,-,-,k3⟩:=hd;have HT:=Jj k3.ints;have HK:=Jj k0;clear hg k0;unfold gM
 go_enter func57,ntmps57
 go_wp2_with fail
 refine(ec t w (by omega) HG.out.glb).mono ?_;rintro e w2 ⟨r,rfl,o,b2⟩;have HB:=Jj b2;have HO:=Jj o.ints;have HK2:=Jj (HK.out.below b2 HK.out.lt);have HT2:=Jj (HT.out.bel b2);obtain⟨A,c,rfl,-,-,-⟩:=k3.ints.open_;clear o b2 k3;have HS:=Jj (show ak (cm (cl (spL t) d.tab)) (aE t&&bt (spL t) d.tab)=if aE t=true then ak (cm (cl (spL t) d.tab)) (bt (spL t) d.tab) else noS by
  cases aE t <;> rfl)
 cases hq:aE t
 ·have HN:=Jj (show ak (cm (cl (spL t) d.tab)) (aE t&&bt (spL t) d.tab)=noS by rw[HS.out,hq];rfl);clear hq;go_wp2;go_ret;exact⟨by rw[HN.out];rfl,HD.out.bel HB.out,aB _ HB.out⟩
 ·have HN:=Jj (show ak (cm (cl (spL t) d.tab)) (aE t&&bt (spL t) d.tab)=ak (cm (cl (spL t) d.tab)) (bt (spL t) d.tab) by rw[HS.out,hq];rfl);obtain⟨c0,c1,c2,c3,c4,c5⟩:=HK2.out.desk;clear c0 c1 c3 c4 c5 hq
  go_wp2_with fail
  refine(xN _ _ (spL t) d.tab _ HO.out HT2.out).mono ?_;rintro e w3 ⟨r3,rfl,o3,b3⟩;have HB3:=Jj (aa HB.out b3);have HR3:=Jj o3.read;have hsz:=pd _ o3.2.2;clear o3 b3 c2
  go_wp2_with fail
  refine(zR _ _ _ HR3.out (HG.out.bel HB3.out).glb.1).mono ?_;rintro e w4 ⟨rfl,b4⟩;have HB4:=Jj (aa HB3.out b4);clear b4
  go_wp2_with fail
  refine(cy _ (bt (spL t) d.tab) _ (by omega)).mono ?_;rintro e w6 ⟨rfl,rfl⟩;go_wp2;go_ret;exact⟨by rw[HN.out];rfl,HD.out.bel HB4.out,aB _ HB4.out⟩
theorem tu:∀ {es:List Etm} {l m:List Int},fh l es=some m→m.length=l.length
 |[],l,m,h=>by injection h with h;rw[h]
 |x::es,l,m,h=>by
  unfold fh at h
  split at h
  ·have:=tu h;rwa[List.length_set] at this
  ·cases h
theorem sC (l:List Int) (es:List Etm) (h:l.length≤60):(apL l es).length≤60:=by
 unfold apL
 split
 ·rename_i ho
  cases hm:fh l es with
  |none=>exact Jy _
  |some m=>
   have:=tu hm
   show m.length≤60
   omega
 ·exact Jy _
def ee (d:ae) (t:ByteArray):Bool:=iP t&&eX d.tab (peL t)
theorem Bl {d:ae} {t:ByteArray} (ok:d.Ok) (ht:t.size≤1000000):jy iY t d (ak (aw (apL d.tab (peL t))) (ee d t&&ag (apL d.tab (peL t)))) (aR d (apL d.tab (peL t)) (ee d t)):=by
 intro b w hd hg;have HD:=Jj hd;have HG:=Jj hg;have hlen:(apL d.tab (peL t)).length≤1048576:=Js (sC _ _ ok.tab) (by omega);obtain⟨pv,en,tv,k0,-,-,k3⟩:=hd;have HT:=Jj k3.ints;have HK:=Jj k0;have hnm:1<w.heap.size:=by
  obtain⟨m,hm⟩:=hg.glb.2.1;exact World.block_lt_of_cell? _ _ hm
 clear hg k0;unfold iY
 go_enter func57,ntmps57
 go_wp2_with fail
 refine(zT t w ht HG.out.glb hnm).mono ?_;rintro e w2 ⟨r,rfl,o,b2⟩;have HB:=Jj b2;have HO:=Jj o.read;have HK2:=Jj (HK.out.below b2 HK.out.lt);have HT2:=Jj (HT.out.bel b2);obtain⟨A,c,rfl,-,-,-⟩:=k3.ints.open_;clear o b2 k3 hnm;cases hq:iP t
 ·have HN:=Jj (show ee d t=false by unfold ee;rw[hq];rfl);clear hq;go_wp2;go_ret;exact⟨by rw[HN.out];rfl,by unfold aR;rw[HN.out];exact HD.out.bel HB.out,aB _ HB.out⟩
 ·have HN:=Jj (show ee d t=eX d.tab (peL t) by unfold ee;rw[hq];rfl);obtain⟨c0,c1,c2,c3,c4,c5⟩:=HK2.out.desk;clear c0 c1 c3 c4 c5 hq
  go_wp2_with fail
  refine(xL _ _ d.tab (peL t) _ HT2.out HO.out).mono ?_;rintro e w3 ⟨r3,rfl,o3,b3⟩;have HB3:=Jj (aa HB.out b3);have HO3:=Jj o3.low;clear o3 b3 c2
  go_wp2_with fail
  refine(jX b d _ (apL d.tab (peL t)) (eX d.tab (peL t)) _ (HD.out.bel HB3.out) HO3.out hlen (HG.out.bel HB3.out)).mono ?_;rintro e2 w4 ⟨rfl,d4,g4⟩;have HE:=Jj (Jq d4 g4);clear d4 g4;go_wp2;go_ret;exact⟨by rw[HN.out];rfl,by rw[HN.out];exact HE.out.1,ay (aB _ HB3.out) HE.out.2⟩
theorem sH (l:List Int) : -2≤ew l∧ew l≤7:=by
 unfold ew
 split
 ·have:=Gs l;omega
 ·omega
theorem yI {d:ae} (ok:d.Ok):fZ gK d (ak (au (ew d.tab)) (ag d.tab)) d:=by
 intro b w hd hg;have HD:=Jj hd;have HG:=Jj hg;have hdb:=sH d.tab;have htl:=ok.tab;have hz:=aJ (n:=ew d.tab) (by omega) (by omega);obtain⟨pv,en,t,k0,-,-,k3⟩:=hd;have HT:=Jj k3.ints;have HK:=Jj k0;obtain⟨A,c,rfl,-,-,-⟩:=k3.ints.open_;obtain⟨c0,c1,c2,c3,c4,c5⟩:=k0.desk;have tok1:True:=trivial;have tok2:True:=trivial;have tok3:True:=trivial;have tok4:True:=trivial;clear k0 k3 hg ok;unfold gK
 go_enter func54,ntmps54
 go_wp2_with fail
 go_region_held3 (fun w'=>w'.cell? ⟨b,2,none⟩=some (.slice A d.tab.length c)) (first|exact HK.out.desk4.1|exact HK3.out.desk4.1|exact HK4.out.desk4.1|go_keep) (first
  |((try go_simp);go_at_call 114;have _t:=tok1;go_loud (refine(mE _ d.tab _ (by first|exact HT.out|exact HT.out.bel (ah _)) (by omega)).mono ?_;rintro e w3 ⟨rfl,b3⟩;replace b3:Below w.heap.size w w3:=(by first|exact b3|exact aa (ah _) b3);have HB:=Jj b3;have HK3:=Jj (HK.out.below b3 HK.out.lt);clear tok1 b3;(try dsimp only)))
  |((try go_simp);go_at_call 113;have _t:=tok2;go_loud (refine(fG (ew d.tab) _ (by omega) (HG.out.bel HB.out).glb.1).mono ?_;rintro e w4 ⟨rfl,b3⟩;have HB4:=Jj (aa HB.out b3);have HK4:=Jj (HK3.out.below b3 HK3.out.lt);have HT4:=Jj (HT.out.bel HB4.out);clear tok2 b3;(try dsimp only)))
  |((try go_simp);go_at_call 115;have _t:=tok3;go_loud (refine(aF _ d.tab _ HT4.out).mono ?_;rintro e w5 ⟨rfl,rfl⟩;clear tok3;(try dsimp only)))
  |((try go_simp);go_at_call 102;have _t:=tok4;go_loud (refine(cy _ (ag d.tab) _ (by omega)).mono ?_;rintro e w6 ⟨rfl,rfl⟩;clear tok4;(try dsimp only)))
  |fail)
 clear c0 c1 c2 c3 c4 c5;go_wp2;go_ret;exact⟨rfl,HD.out.bel HB4.out,aB _ HB4.out⟩
theorem Gb {c:UInt8}:∀ {l r:List UInt8},c∈l→((l++r).takeWhile fun b=>b != c).length<l.length
 |[],_,h=>by cases h
 |b::l,r,h=>by
  rw[List.cons_append,List.takeWhile_cons];by_cases e:b=c
  ·simp[e]
  ·have e2:(b != c)=true:=by simp[e]
   rw[e2];simp only[if_true,List.length_cons];have:=Gb (r:=r) (show c∈l from (List.mem_cons.1 h).elim (fun h=>absurd h.symm e) fun h=>h)
   omega
theorem Gg (c:UInt8) (s:ByteArray):(bef c s).size=(s.data.toList.takeWhile fun b=>b != c).length:=by
 have:=congrArg List.length (fB (s.data.toList.takeWhile fun b=>b != c));have e2:(bef c s).data.toList.length=(bef c s).size:=Array.length_toList;rw[←this,←e2]
 rfl
theorem IA (c:UInt8) (h0:c≠45) (h1:Lib.digitVal c=none) {s:ByteArray} (h:c∈s.data.toList):(bn s).isSome=false:=by
 cases hq:(bn s).isSome
 ·rfl
 ·have e:=jK hq;rw[←e] at h;exact absurd h (nT c h1 h0 _)
theorem Gz {s:ByteArray} (h:bL 58 s=false):etT s=false:=by
 unfold etT vD;rw[(jm h).2,(jm (c:=62) (s:=⟨#[]⟩) (by decide)).2,n6];simp
theorem GA {s:ByteArray} (h:62∈(bef 58 s).data.toList):etT s=false:=by
 unfold etT zK;rw[IA 62 (by decide) (by decide) h]
 rfl
theorem GB {s:ByteArray} (h:bL 62 (aft 58 s)=false):etT s=false:=by
 unfold etT vD;rw[(jm h).2,n6];simp
theorem Cq {s:ByteArray} (h:bL 58 s=true) (h2:62∈(bef 58 s).data.toList):(bef 62 s).size<(bef 58 s).size:=by
 have e:=gC h;have hl:s.data.toList=(bef 58 s).data.toList++(58::(aft 58 s).data.toList):=by
  conv=>lhs;rw[←e]
  simp
 rw[Gg,hl];have:=Gb (r:=58::(aft 58 s).data.toList) h2;have e2:(bef 58 s).data.toList.length=(bef 58 s).size:=Array.length_toList;omega
theorem Gv {s:ByteArray} (h:bL 58 s=true) (h2:62∉(bef 58 s).data.toList) (h3:bL 62 (aft 58 s)=false):bL 62 s=false:=by
 rw[Bool.eq_false_iff] at h3 ⊢;intro h4;have e:=gC h;have h5:=gd.1 h4;rw[←e] at h5;simp at h5
 rcases h5 with h5|h5
 ·exact h2 (by simpa using h5)
 ·exact h3 (gd.2 (by simpa using h5))
theorem EI {s:ByteArray} (h:bL 58 s=true) (h2:62∉(bef 58 s).data.toList) (h3:bL 62 (aft 58 s)=true):
  bL 62 s=true∧bef 62 s=bef 58 s++⟨#[58]⟩++bef 62 (aft 58 s)∧aft 62 s=aft 62 (aft 58 s)∧s.extract ((bef 58 s).size+1) (bef 62 s).size=bef 62 (aft 58 s)∧(bef 62 s).size=(bef 58 s).size+1+(bef 62 (aft 58 s)).size:=by
 have e:=gC h;have e3:=gC h3;have e4:s=(bef 58 s++⟨#[58]⟩++bef 62 (aft 58 s))++⟨#[62]⟩++aft 62 (aft 58 s):=by
  conv=>lhs;rw[←e]
  apply vc
  have:=congrArg (fun x=>x.data.toList) e3;simp only[ByteArray.toList_data_append] at this ⊢;rw[←this];simp
 have hno:(62:UInt8)∉(bef 58 s++⟨#[58]⟩++bef 62 (aft 58 s)).data.toList:=by
  have:=vd 62 (aft 58 s);simp;exact⟨by simpa using h2,by simpa using this⟩
 obtain⟨b1,b2,b3⟩:=Gf (c:=62) (a:=bef 58 s++⟨#[58]⟩++bef 62 (aft 58 s)) (aft 62 (aft 58 s)) hno;rw[←e4] at b1 b2 b3;have hsz:(bef 62 s).size=(bef 58 s).size+1+(bef 62 (aft 58 s)).size:=by
  rw[b1,Jt,Jt];rfl
 refine⟨b3,b1,b2,?_,hsz⟩;have hl:s.data.toList=(bef 58 s).data.toList++58::((bef 62 (aft 58 s)).data.toList++62::(aft 62 (aft 58 s)).data.toList):=by
  conv=>lhs;rw[e4]
  simp
 have hb:(bef 58 s).data.toList.length=(bef 58 s).size:=Array.length_toList;have hc:(bef 62 (aft 58 s)).data.toList.length=(bef 62 (aft 58 s)).size:=Array.length_toList;rw[gH];unfold mid;rw[hl,show(bef 58 s).size+1=(bef 58 s).data.toList.length+1 by omega,List.drop_append];have:((bef 58 s).data.toList).drop ((bef 58 s).data.toList.length+1)=[]:=List.drop_eq_nil_of_le (by omega);rw[this,show(bef 58 s).data.toList.length+1-(bef 58 s).data.toList.length=1 by omega,List.drop_succ_cons,List.drop_zero,List.nil_append,show(bef 62 s).size-((bef 58 s).data.toList.length+1)=(bef 62 (aft 58 s)).data.toList.length by omega,List.take_left];exact f9 _
theorem E4 (s:ByteArray) (w:World) (hs:s.size≤1048576):
  Calls prog 81 #[.string s] w fun e w'=>∃a b c:Int,e=.returned (.tuple #[.agg #[.int .i64 a,.int .i64 b,.int .i64 c],.bool (etT s)])∧(etT s=true→(a,b,c)=etV s)∧kr (a,b,c)∧Below w.heap.size w w':=by
 have HK:=Jj (Blk.new w 111 [.int .i64 0,.int .i64 0,.int .i64 0]);have HB:=Jj (ab w (.cells #[.int .i64 0,.int .i64 0,.int .i64 0] 111))
 go_enter func81,ntmps81
 go_wp2_with fail
 generalize hW:w.alloc (.cells #[.int .i64 0,.int .i64 0,.int .i64 0] 111)=W at HK HB ⊢;clear hW;refine(nX s 58 _ hs).mono ?_;rintro e w1 ⟨rfl,rfl⟩
 go_wp2_with fail
 refine(nX s 62 _ hs).mono ?_;rintro e w1 ⟨rfl,rfl⟩;have f0:=HK.out.frozen 0;have f1:=HK.out.frozen 1;have f2:=HK.out.frozen 2;obtain⟨c0,c1,c2⟩:=HK.out.three;have fin:∀(a b c:Int),Blk (((W.setCell ⟨w.heap.size,0,none⟩ (.int .i64 a)).setCell ⟨w.heap.size,1,none⟩ (.int .i64 b)).setCell ⟨w.heap.size,2,none⟩ (.int .i64 c)) w.heap.size 111 [.int .i64 a,.int .i64 b,.int .i64 c]∧Below w.heap.size w (((W.setCell ⟨w.heap.size,0,none⟩ (.int .i64 a)).setCell ⟨w.heap.size,1,none⟩ (.int .i64 b)).setCell ⟨w.heap.size,2,none⟩ (.int .i64 c)):=fun a b c=>
  ⟨((HK.out.set_ 0 (.int .i64 a)).set_ 1 (.int .i64 b)).set_ 2 (.int .i64 c),((HB.out.setCell (p:=⟨w.heap.size,0,none⟩) (Jr _) _).setCell (p:=⟨w.heap.size,1,none⟩) (Jr _) _).setCell (p:=⟨w.heap.size,2,none⟩) (Jr _) _⟩
 have HFN:=Jj fin;clear fin;by_cases hgood:bL 58 s=true∧62∉(bef 58 s).data.toList∧bL 62 (aft 58 s)=true
 ·obtain⟨q1,q2,q3⟩:=hgood;obtain⟨p1,p2,p3,p4,p5⟩:=EI q1 q2 q3;obtain⟨m1,m2,m3⟩:=sF q1;obtain⟨n1,n2,n3⟩:=sF p1;have HF1:=Jj (nj q1);have HF2:=Jj (nj p1);have HV:=Jj (show etV s=(cA (bef 58 s),cA (bef 62 (aft 58 s)),cA (aft 62 (aft 58 s))) from rfl);have HT:=Jj (show etT s=(((bn (bef 58 s)).isSome&&(bn (bef 62 (aft 58 s))).isSome)&&(bn (aft 62 (aft 58 s))).isSome) from rfl);rw[p3] at n2 n3;have z1:(bef 58 s).size≤1048576:=by omega
  have z2:(bef 62 (aft 58 s)).size≤1048576:=by omega
  have z3:(aft 62 (aft 58 s)).size≤1048576:=by omega
  rw[HF1.out,HF2.out];clear p1 p2 p3 n1 q1 q2 q3 HF1 HF2;obtain⟨X,hX⟩:∃X,bef 58 s=X:=⟨_,rfl⟩;obtain⟨Y,hY⟩:∃Y,bef 62 (aft 58 s)=Y:=⟨_,rfl⟩;obtain⟨Z,hZ⟩:∃Z,aft 62 (aft 58 s)=Z:=⟨_,rfl⟩;obtain⟨a,ha⟩:∃a,(bef 58 s).size=a:=⟨_,rfl⟩;obtain⟨b,hb⟩:∃b,(bef 62 s).size=b:=⟨_,rfl⟩;rw[ha] at m1 m3 p4 p5 z1 ⊢;rw[hb] at p4 p5 n2 n3 ⊢;rw[hX] at m1 HV HT;rw[hY] at p4 p5 z2 HV HT;rw[hZ] at n2 n3 z3 HV HT;have hXz:X.size=a:=by rw[←hX];exact ha
  have hab:a+1≤b:=by omega
  have hbs:b+1≤s.size:=by omega
  have t1:¬((a:Nat):Int)<0:=by omega
  have t2:¬((b:Nat):Int)<(a:Int):=by omega
  have t3:(a:Int)≤(s.size:Int):=by omega
  have t4:(0:Int)≤(a:Int):=by omega
  have t5:(a:Int)+1≤(b:Int):=by omega
  have t6:(b:Int)≤(s.size:Int):=by omega
  have t7:(b:Int)+1≤(s.size:Int):=by omega
  have t8:(0:Int)≤(b:Int):=by omega
  have HM:=Jj (Jq m1 (Jq p4 n2));clear hX hY hZ ha hb m1 m2 m3 p4 p5 n2 n3
  go_wp2_with fail
  rw[HM.out.1];refine(js X _ (by omega)).mono ?_;rintro e w3 ⟨he,hw3⟩;rw[hw3];unfold cV at he;subst he;clear hw3 w3
  go_wp2_with fail
  first|rw[HM.out.2.1]|(rw[show((a:Int)+1).toNat=a+1 by omega,HM.out.2.1])
  refine(js Y _ z2).mono ?_;rintro e w3 ⟨he,hw3⟩;rw[hw3];unfold cV at he;subst he;clear hw3 w3
  go_wp2_with fail
  first|rw[HM.out.2.2]|(rw[show((b:Int)+1).toNat=b+1 by omega,HM.out.2.2])
  refine(js Z _ z3).mono ?_;rintro e w3 ⟨he,hw3⟩;rw[hw3];unfold cV at he;subst he;clear hw3 w3;have v1:=fM X;have v2:=fM Y;have v3:=fM Z;obtain⟨n1,hn1⟩:∃x,cA X=x:=⟨_,rfl⟩;obtain⟨n2,hn2⟩:∃x,cA Y=x:=⟨_,rfl⟩;obtain⟨n3,hn3⟩:∃x,cA Z=x:=⟨_,rfl⟩;obtain⟨o1,ho1⟩:∃x,(bn X).isSome=x:=⟨_,rfl⟩;obtain⟨o2,ho2⟩:∃x,(bn Y).isSome=x:=⟨_,rfl⟩;obtain⟨o3,ho3⟩:∃x,(bn Z).isSome=x:=⟨_,rfl⟩;rw[hn1] at v1;rw[hn2] at v2;rw[hn3] at v3;rw[hn1,hn2,hn3] at HV;rw[ho1,ho2,ho3] at HT;rw[hn1,hn2,hn3,ho1,ho2,ho3];clear hn1 hn2 hn3 ho1 ho2 ho3;cases o1
  case' true=>cases o2
  all_goals
   go_wp2;obtain⟨kk,bb⟩:=HFN.out n1 n2 n3;generalize hW:((W.setCell ⟨w.heap.size,0,none⟩ (.int .i64 n1)).setCell ⟨w.heap.size,1,none⟩ (.int .i64 n2)).setCell ⟨w.heap.size,2,none⟩ (.int .i64 n3)=w6 at kk bb ⊢;obtain⟨x0,x1,x2⟩:=kk.three
   first
    |refine bodyPost_ret (v:=.tuple #[.agg #[.int .i64 n1,.int .i64 n2,.int .i64 n3],.bool false]) (by simp[results,results81,go_sem,x0,x1,x2]) rfl ⟨n1,n2,n3,by rw[HT.out];rfl,fun _=>HV.out.symm,⟨by show _≤n1∧n1≤_;omega,by show _≤n2∧n2≤_;omega,by show _≤n3∧n3≤_;omega⟩,bb⟩
    |refine bodyPost_ret (v:=.tuple #[.agg #[.int .i64 n1,.int .i64 n2,.int .i64 n3],.bool o3]) (by simp[results,results81,go_sem,x0,x1,x2]) rfl ⟨n1,n2,n3,by rw[HT.out];rfl,fun _=>HV.out.symm,⟨by show _≤n1∧n1≤_;omega,by show _≤n2∧n2≤_;omega,by show _≤n3∧n3≤_;omega⟩,bb⟩
 ·have HTF:=Jj (show etT s=false by
   cases h1:bL 58 s
   ·exact Gz h1
   ·by_cases h2:62∈(bef 58 s).data.toList
    ·exact GA h2
    ·cases h3:bL 62 (aft 58 s)
     ·exact GB h3
     ·exact absurd ⟨h1,h2,h3⟩ hgood)
  have hf:jF 58 s = -1∨(0≤jF 58 s∧jF 62 s<jF 58 s):=by
   cases h1:bL 58 s
   ·exact .inl (rx h1)
   ·right
    rw[nj h1];refine⟨by omega,?_⟩;by_cases h2:62∈(bef 58 s).data.toList
    ·have:=Cq h1 h2;unfold jF
     split <;> omega
    ·have h3:bL 62 (aft 58 s)=false:=by
      cases h3:bL 62 (aft 58 s)
      ·rfl
      ·exact absurd ⟨h1,h2,h3⟩ hgood
     rw[rx (Gv h1 h2 h3)];omega
  clear hgood;obtain⟨x,hx⟩:∃x,jF 58 s=x:=⟨_,rfl⟩;obtain⟨y,hy⟩:∃y,jF 62 s=y:=⟨_,rfl⟩;rw[hx,hy] at hf ⊢;clear hx hy;have hB:=HB.out
  rcases hf with rfl|⟨h1,h2⟩
  all_goals
   try have t1:¬x<0:=by omega
   go_wp2;obtain⟨kk,bb⟩:=HFN.out 0 0 0;generalize hW:((W.setCell ⟨w.heap.size,0,none⟩ (.int .i64 0)).setCell ⟨w.heap.size,1,none⟩ (.int .i64 0)).setCell ⟨w.heap.size,2,none⟩ (.int .i64 0)=w6 at kk bb ⊢;obtain⟨x0,x1,x2⟩:=kk.three;refine bodyPost_ret (v:=.tuple #[.agg #[.int .i64 0,.int .i64 0,.int .i64 0],.bool false]) (by simp[results,results81,go_sem,x0,x1,x2]) rfl ⟨0,0,0,by rw[HTF.out],fun h=>absurd h (by rw[HTF.out];simp),⟨by decide,by decide,by decide⟩,bb⟩
theorem CP (v:Value) (l:List Int) (k:Nat) (a:Int) (w:World) (hv:ai w v l) (ht:ag l=true) (hk:k<l.length) (ha : -128000000000≤a∧a≤128000000000):
  Calls prog 167 #[v,.int .i64 k,.int .i64 a] w fun e w'=>∃r,e=.returned r∧Own w' w.heap.size r (l.set k (at_ l k+a))∧Below w.heap.size w w':=by
 have HV:=Jj hv;obtain⟨t1,t60,tb⟩:=aA ht;have hx:=tb k hk;obtain⟨A,c,rfl,-,-,-⟩:=hv.open_;have OE:=Jj (Own.empty w w.heap.size (Jr _));have BA:=Jj (ab w (.cells #[] 3));clear hv tb ht;have p1:(k:Int)<(l.length:Int):=by omega
 have p2:(0:Int)≤(k:Int):=by omega
 have HSET:=Jj (fun (W:World) (v:Value) (h:Own W w.heap.size v l) (g cp:Nat) (hv:v=.slice (some ⟨g,0,none⟩) l.length cp)=>(by subst hv;exact h.set_ k (at_ l k+a) hk (by omega):Own (W.setCell ⟨g,k,none⟩ (.int .i64 (at_ l k+a))) w.heap.size (.slice (some ⟨g,0,none⟩) l.length cp) (l.set k (at_ l k+a))));have HOP:=Jj (fun (W:World) (v:Value) (h:Own W w.heap.size v l)=>h.openN (by omega));obtain⟨X,hX⟩:∃X,at_ l k=X:=⟨_,rfl⟩;have HX:=Jj hX;rw[hX] at hx HSET;have wz:IntKind.i64.wrap (X+a)=X+a:=(IntWalk.i64_left _).trans (IntWalk.wrap64_in _ (by omega));have HT60:=Jj (Jq hk t60);clear hX
 go_enter func167,ntmps167
 go_wp2_with (at_builtin;go_must (refine kd rfl _ _ (by rfl) w.heap.size (.slice (some ⟨w.heap.size,0,none⟩) 0 0) _ [] l (by rfl) (by exact OE.out) (by rfl) (by exact HV.out.bel BA.out) (by simp only[List.length_nil];omega) (by simp) ?_);intro v1 w1 ho hg hat;rw[List.nil_append] at ho;obtain⟨g,cp,hv1,hg1,hcl,hcm,hgz,hcells⟩:=HOP.out _ _ ho;have HO:=Jj (HSET.out _ _ ho g cp hv1);subst hv1;obtain⟨x1,x2⟩:=hcells k hk;rw[HX.out] at x1;have HB2:=Jj ((dN BA.out OE.out hg).setCell (p:=⟨g,k,none⟩) hg1 (.int .i64 (X+a)));clear hcells hg hat ho)
 go_ret;exact⟨_,rfl,by rw[HX.out];exact HO.out,HB2.out⟩
theorem xd (v:Value) (l:List Int) (d:Int) (w:World) (hv:ai w v l) (hl:l.length≤1048576):
  Calls prog 90 #[v,.int .i64 d] w (cK w (crL l d) (eN l d)):=by
 have HV:=Jj hv;obtain⟨A,c,rfl,-,-,-⟩:=hv.open_;clear hv;have hcs:=mt l d
 go_enter func90,ntmps90
 go_wp2_with fail
 refine(pI _ l d _ HV.out).mono ?_;rintro e w2 ⟨he,b2⟩;unfold FdE at he;subst he;have HB:=Jj b2;have hmb:=ph l d;clear b2;by_cases h1:fdC l d=1
 ·have HY:=Jj (show eN l d=true∧crL l d=l.set (ga l d) (at_ l (ga l d) + -(fdM l d)) from⟨by unfold eN;rw[h1];rfl,by unfold crL;rw[if_neg (by omega),if_pos h1];rfl⟩);obtain⟨q1,q2⟩:=ks h1;have HT:=Jj (lU q2).1;have HA:=Jj (show fdA l d=(ga l d:Int) by unfold fdA;rw[if_pos h1]);rw[HA.out,h1];obtain⟨k,hk⟩:∃k,ga l d=k:=⟨_,rfl⟩;obtain⟨M,hM⟩:∃M,fdM l d=M:=⟨_,rfl⟩;rw[hk] at q1 HY ⊢;rw[hM] at hmb HY ⊢;have hng:IntKind.i64.wrap (-M) = -M:=(IntWalk.i64_left _).trans (IntWalk.wrap64_in _ (by omega));clear hk hM h1 q2 HA hcs
  go_wp2_with fail
  refine(CP _ l k (-M) _ (HV.out.bel HB.out) HT.out q1 (by omega)).mono ?_;rintro e w3 ⟨r,rfl,o3,b3⟩;obtain⟨L,hL⟩:∃L,l.set k (at_ l k + -M)=L:=⟨_,rfl⟩;rw[hL] at o3 HY;have HO:=Jj (Jq (o3.lower HB.out.size) (aa HB.out b3));obtain⟨A3,c3,rfl,-,-,-⟩:=o3.ints.open_;clear o3 b3 hL;go_wp2;go_ret2;exact⟨_,by rw[HY.out.1];rfl,by rw[HY.out.2];exact HO.out.1,HO.out.2⟩
 ·by_cases h0:fdC l d=0
  ·have HY:=Jj (show eN l d=true∧crL l d=l from⟨by unfold eN;rw[h0];rfl,by unfold crL;rw[if_pos h0]⟩);rw[h0];have OE:=Jj (Own.empty w2 w2.heap.size (Jr _));have BA:=Jj (ab w2 (.cells #[] 3));have HV2:=Jj (HV.out.bel (aa HB.out BA.out));clear h0 h1 hcs
   go_wp2_with (at_builtin;go_must (refine kd rfl _ _ (by rfl) w2.heap.size (.slice (some ⟨w2.heap.size,0,none⟩) 0 0) _ [] l (by rfl) (by exact OE.out) (by rfl) (by exact HV2.out) (by simp only[List.length_nil];omega) (by simp) ?_);intro v1 w3 ho hg hat;rw[List.nil_append] at ho)
   have HB3:=Jj (aa HB.out (dN BA.out OE.out hg));have HO:=Jj (ho.lower HB.out.size);go_ret2;exact⟨_,by rw[HY.out.1];rfl,by rw[HY.out.2];exact HO.out,HB3.out⟩
  ·have HN:=Jj (show eN l d=false∧crL l d=[] from⟨by unfold eN;exact decide_eq_false (by omega),by unfold crL;rw[if_neg h0,if_neg h1]⟩);obtain⟨C,hC⟩:∃C,fdC l d=C:=⟨_,rfl⟩;rw[hC] at h0 h1 ⊢;have z0:(C==0)=false:=by rw[beq_eq_false_iff_ne];exact h0
   have z1:(C==1)=false:=by rw[beq_eq_false_iff_ne];exact h1
   have OE:=Jj (Own.empty w2 w.heap.size HB.out.size);clear hC hcs;go_wp2;go_ret2;exact⟨_,by rw[HN.out.1];rfl,by rw[HN.out.2];exact OE.out,aa HB.out (ab _ _)⟩
theorem Ah (v:Value) (l:List Int) (d:Int) (w:World) (hv:ai w v l):
  Calls prog 91 #[v,.int .i64 d] w fun e w'=>e=.returned (.string (ey l d))∧Below w.heap.size w w':=by
 have HV:=Jj hv;obtain⟨A,c,rfl,-,-,-⟩:=hv.open_;clear hv;have hcs:=mt l d
 go_enter func91,ntmps91
 go_wp2_with fail
 refine(pI _ l d _ HV.out).mono ?_;rintro e w2 ⟨he,b2⟩;unfold FdE at he;subst he;have HB:=Jj b2;have hmb:=ph l d;clear b2
 rcases hcs with h|h|h|h
 ·have HF:=Jj (show ey l d=⟨#[99,108,101,97,110,10]⟩ by unfold ey;rw[if_pos h];rfl);rw[h];clear h;go_wp2;go_ret;exact⟨by rw[HF.out];rfl,HB.out⟩
 ·have HF:=Jj (show ey l d=vC (fdA l d) (fdM l d) by unfold ey;rw[if_neg (by omega),if_pos h]);have hat:0≤fdA l d∧fdA l d≤60:=by
   have e1:fdA l d=(ga l d:Int):=by unfold fdA;rw[if_pos h]
   obtain⟨q1,q2⟩:=ks h;have:=(aA (lU q2).1).2.1;omega
  rw[h];obtain⟨a,ha⟩:∃a,fdA l d=a:=⟨_,rfl⟩;obtain⟨M,hM⟩:∃M,fdM l d=M:=⟨_,rfl⟩;rw[ha] at hat HF ⊢;rw[hM] at hmb HF ⊢;have s1:=aJ (n:=a) (by omega) (by omega);have s2:=aJ (n:=M) (by omega) (by omega);have HI1:=Jj (fun w=>cO a w (by omega) (by omega));have HI2:=Jj (fun w=>cO M w (by omega) (by omega));have HFE:vC a M=⟨#[101,114,114,111,114,32]⟩++au a++⟨#[32]⟩++au M++⟨#[10]⟩:=rfl;rw[HFE] at HF;obtain⟨I,hI⟩:∃I,au a=I:=⟨_,rfl⟩;obtain⟨J,hJ⟩:∃J,au M=J:=⟨_,rfl⟩;rw[hI] at s1 HI1 HF;rw[hJ] at s2 HI2 HF;have e6:(⟨#[101,114,114,111,114,32]⟩:ByteArray).size=6:=rfl;have e1:(⟨#[32]⟩:ByteArray).size=1:=rfl;have g1:((⟨#[101,114,114,111,114,32]⟩:ByteArray)++I).size=6+I.size:=by rw[Jt];rfl
  have g2:((⟨#[101,114,114,111,114,32]⟩:ByteArray)++I++⟨#[32]⟩).size=6+I.size+1:=by rw[Jt,g1];rfl
  have g3:((⟨#[101,114,114,111,114,32]⟩:ByteArray)++I++⟨#[32]⟩++J).size=6+I.size+1+J.size:=by rw[Jt,g2]
  have k1:¬ 9223372036854775807<6+I.size:=by omega
  have k2:¬ 9223372036854775807<6+I.size+1:=by omega
  have k3:¬ 9223372036854775807<6+I.size+1+J.size:=by omega
  have k4:¬ 9223372036854775807<6+I.size+1+J.size+1:=by omega
  clear h ha hM hI hJ HFE
  go_wp2_with fail
  refine(HI1.out _).mono ?_;rintro e w3 ⟨rfl,b3⟩;have HB3:=Jj (aa HB.out b3);clear b3
  go_wp2_with fail
  refine(HI2.out _).mono ?_;rintro e w4 ⟨rfl,b4⟩;have HB4:=Jj (aa HB3.out b4);clear b4;go_wp2;go_ret;exact⟨by rw[HF.out];rfl,HB4.out⟩
 ·have HF:=Jj (show ey l d=⟨#[109,97,110,121,10]⟩ by unfold ey;rw[if_neg (by omega),if_neg (by omega),if_pos h];rfl);rw[h];clear h;go_wp2;go_ret;exact⟨by rw[HF.out];rfl,HB.out⟩
 ·have HF:=Jj (show ey l d=⟨#[110,111,10]⟩ by unfold ey;rw[if_neg (by omega),if_neg (by omega),if_neg (by omega)];rfl);rw[h];clear h;go_wp2;go_ret;exact⟨by rw[HF.out];rfl,HB.out⟩
end Go.Proofs.YtfmjklgfpiffbaaGreatDoor
namespace Go.Proofs.YtfmjklgfpiffbaaGreatDoor
open Go.RowKit Go.Proofs.Tryz
set_option linter.unusedVariables false
set_option linter.unusedSimpArgs false
set_option maxRecDepth 100000
set_option maxHeartbeats 8000000
def dj:List ByteArray:=[kQ,kN,kP,gQ,gN,kO,mW,gK,iZ,ja,ej]
def dy:List ByteArray:=[ej,gP,gL,jb,gM,iY,mX]
def df:List ByteArray:=[eU,eV,dT,jp,gn,dt,eT,dS,gk,gl,eS,eW]
def aM (d:ae) (s:ByteArray):ByteArray×ae:=
 if s=kQ then(ak (bD (gY d.eng)) (af d.eng),bd d (gY d.eng) (af d.eng)) else
 if s=kN then(ak (bD (bw aY d.eng)) (af d.eng),bd d (bw aY d.eng) (af d.eng)) else
 if s=kP then(ak (bD (bw bY d.eng)) (af d.eng),bd d (bw bY d.eng) (af d.eng)) else
 if s=gQ then(ak (bD (bw eD d.eng)) (af d.eng),bd d (bw eD d.eng) (af d.eng)) else
 if s=gN then(ak (bD (bw lB d.eng)) (af d.eng),bd d (bw lB d.eng) (af d.eng)) else
 if s=kO then(ak (ax (rdL d.eng)) (kA d.eng),d) else
 if s=mW then(ak (ax (itL d.tab)) (eB d.tab),dF d (itL d.tab) (eB d.tab)) else
 if s=gK then(ak (au (ew d.tab)) (ag d.tab),d) else
 if s=iZ then(ak (aw (fc d.tab 9)) (ag d.tab),d) else
 if s=ja then(dh d,d) else
 if s=ej then(ax d.poly++nlS,d) else
 (eF,d)
noncomputable def bC (d:ae) (s r:ByteArray):ByteArray×ae:=
 if s=ej then(fO r,jU d r) else
 if s=gP then(ak (ax (fpL (ppL r))) (cP r&&iO (ppL r)),dF d (fpL (ppL r)) (cP r&&iO (ppL r))) else
 if s=gL then(ak (bD (peE r)) (af (aq 32 r)),bd d (peE r) (af (aq 32 r))) else
 if s=jb then(ak (aw (spL r)) (aE r&&ag (spL r)),aR d (spL r) (aE r)) else
 if s=gM then(ak (cm (cl (spL r) d.tab)) (aE r&&bt (spL r) d.tab),d) else
 if s=iY then(ak (aw (apL d.tab (peL r))) (ee d r&&ag (apL d.tab (peL r))),aR d (apL d.tab (peL r)) (ee d r)) else
 if s=mX then(gx d r,jh d r) else
 (eF,d)
def aK (d:ae) (s:ByteArray) (l:List Int):ByteArray×ae:=
 if s=eU then(ak (bD (dm d.poly (at_ l 0) (at_ l 1))) (cE d.poly (at_ l 0) (at_ l 1)),bd d (dm d.poly (at_ l 0) (at_ l 1)) (cE d.poly (at_ l 0) (at_ l 1))) else
 if s=eV then(ak (bD (tmL d.eng (at_ l 0))) (cC d.eng (at_ l 0)),bd d (tmL d.eng (at_ l 0)) (cC d.eng (at_ l 0))) else
 if s=dT then(ak (aw (cf d.poly (at_ l 0) (at_ l 1))) (cw d.poly (at_ l 0) (at_ l 1)&&ag (cf d.poly (at_ l 0) (at_ l 1))),aR d (cf d.poly (at_ l 0) (at_ l 1)) (cw d.poly (at_ l 0) (at_ l 1))) else
 if s=jp then(ak (aw (fI d.eng (at_ l 0))) (cu d.eng (at_ l 0)&&ag (fI d.eng (at_ l 0))),aR d (fI d.eng (at_ l 0)) (cu d.eng (at_ l 0))) else
 if s=gn then(ak (aw (fU d.eng (at_ l 0) (at_ l 1) (at_ l 2) (at_ l 3))) (dG d.eng (at_ l 0) (at_ l 1) (at_ l 2) (at_ l 3)&&ag (fU d.eng (at_ l 0) (at_ l 1) (at_ l 2) (at_ l 3))),aR d (fU d.eng (at_ l 0) (at_ l 1) (at_ l 2) (at_ l 3)) (dG d.eng (at_ l 0) (at_ l 1) (at_ l 2) (at_ l 3))) else
 if s=dt then(ak (aw (crL d.tab (at_ l 0))) (eN d.tab (at_ l 0)&&ag (crL d.tab (at_ l 0))),aR d (crL d.tab (at_ l 0)) (eN d.tab (at_ l 0))) else
 if s=eT then(ak (aw (rtL d.tab (at_ l 0) (at_ l 1))) (fR d.tab (at_ l 0) (at_ l 1)&&ag (rtL d.tab (at_ l 0) (at_ l 1))),aR d (rtL d.tab (at_ l 0) (at_ l 1)) (fR d.tab (at_ l 0) (at_ l 1))) else
 if s=dS then(kv (at_ l 0) (at_ l 1) (at_ l 2),eM d (at_ l 0) (at_ l 1) (at_ l 2)) else
 if s=gk then(ey d.tab (at_ l 0),d) else
 if s=gl then(ak (da (grP d.tab (at_ l 0))) (eA d.tab (at_ l 0)),d) else
 if s=eS then(ak (da (chP d.tab (at_ l 0) (at_ l 1) (at_ l 2))) (eu d.tab (at_ l 0) (at_ l 1) (at_ l 2)),d) else
 if s=eW then(ak (aw (eb d (at_ l 0))) (decide (0<(eb d (at_ l 0)).length)),d) else
 (eF,d)
theorem m8 (d:ae):aM d kQ=(ak (bD (gY d.eng)) (af d.eng),bd d (gY d.eng) (af d.eng)):=by
 unfold aM;rw[if_pos rfl]
theorem mY (d:ae):aM d kN=(ak (bD (bw aY d.eng)) (af d.eng),bd d (bw aY d.eng) (af d.eng)):=by
 unfold aM;rw[if_neg (by decide)];rw[if_pos rfl]
theorem m7 (d:ae):aM d kP=(ak (bD (bw bY d.eng)) (af d.eng),bd d (bw bY d.eng) (af d.eng)):=by
 unfold aM;rw[if_neg (by decide)];rw[if_neg (by decide)];rw[if_pos rfl]
theorem lv (d:ae):aM d gQ=(ak (bD (bw eD d.eng)) (af d.eng),bd d (bw eD d.eng) (af d.eng)):=by
 unfold aM;rw[if_neg (by decide)];rw[if_neg (by decide)];rw[if_neg (by decide)];rw[if_pos rfl]
theorem lu (d:ae):aM d gN=(ak (bD (bw lB d.eng)) (af d.eng),bd d (bw lB d.eng) (af d.eng)):=by
 unfold aM;rw[if_neg (by decide)];rw[if_neg (by decide)];rw[if_neg (by decide)];rw[if_neg (by decide)];rw[if_pos rfl]
theorem m6 (d:ae):aM d kO=(ak (ax (rdL d.eng)) (kA d.eng),d):=by
 unfold aM;rw[if_neg (by decide)];rw[if_neg (by decide)];rw[if_neg (by decide)];rw[if_neg (by decide)];rw[if_neg (by decide)];rw[if_pos rfl]
theorem lN (d:ae):aM d mW=(ak (ax (itL d.tab)) (eB d.tab),dF d (itL d.tab) (eB d.tab)):=by
 unfold aM;rw[if_neg (by decide)];rw[if_neg (by decide)];rw[if_neg (by decide)];rw[if_neg (by decide)];rw[if_neg (by decide)];rw[if_neg (by decide)];rw[if_pos rfl]
theorem lr (d:ae):aM d gK=(ak (au (ew d.tab)) (ag d.tab),d):=by
 unfold aM;rw[if_neg (by decide)];rw[if_neg (by decide)];rw[if_neg (by decide)];rw[if_neg (by decide)];rw[if_neg (by decide)];rw[if_neg (by decide)];rw[if_neg (by decide)];rw[if_pos rfl]
theorem mi (d:ae):aM d iZ=(ak (aw (fc d.tab 9)) (ag d.tab),d):=by
 unfold aM;rw[if_neg (by decide)];rw[if_neg (by decide)];rw[if_neg (by decide)];rw[if_neg (by decide)];rw[if_neg (by decide)];rw[if_neg (by decide)];rw[if_neg (by decide)];rw[if_neg (by decide)];rw[if_pos rfl]
theorem mj (d:ae):aM d ja=(dh d,d):=by
 unfold aM;rw[if_neg (by decide)];rw[if_neg (by decide)];rw[if_neg (by decide)];rw[if_neg (by decide)];rw[if_neg (by decide)];rw[if_neg (by decide)];rw[if_neg (by decide)];rw[if_neg (by decide)];rw[if_neg (by decide)];rw[if_pos rfl]
theorem mZ (d:ae):aM d ej=(ax d.poly++nlS,d):=by
 unfold aM;rw[if_neg (by decide)];rw[if_neg (by decide)];rw[if_neg (by decide)];rw[if_neg (by decide)];rw[if_neg (by decide)];rw[if_neg (by decide)];rw[if_neg (by decide)];rw[if_neg (by decide)];rw[if_neg (by decide)];rw[if_neg (by decide)];rw[if_pos rfl]
theorem rc (d:ae) (s:ByteArray) (hn:∀w∈dj,s≠w):aM d s=(eF,d):=by
 unfold aM;rw[if_neg (hn kQ (by simp[dj]))];rw[if_neg (hn kN (by simp[dj]))];rw[if_neg (hn kP (by simp[dj]))];rw[if_neg (hn gQ (by simp[dj]))];rw[if_neg (hn gN (by simp[dj]))];rw[if_neg (hn kO (by simp[dj]))];rw[if_neg (hn mW (by simp[dj]))];rw[if_neg (hn gK (by simp[dj]))];rw[if_neg (hn iZ (by simp[dj]))];rw[if_neg (hn ja (by simp[dj]))];rw[if_neg (hn ej (by simp[dj]))]
theorem kM (d:ae) (r:ByteArray):bC d ej r=(fO r,jU d r):=by
 unfold bC;rw[if_pos rfl]
theorem gB (d:ae) (r:ByteArray):bC d gP r=(ak (ax (fpL (ppL r))) (cP r&&iO (ppL r)),dF d (fpL (ppL r)) (cP r&&iO (ppL r))):=by
 unfold bC;rw[if_neg (by decide)];rw[if_pos rfl]
theorem lq (d:ae) (r:ByteArray):bC d gL r=(ak (bD (peE r)) (af (aq 32 r)),bd d (peE r) (af (aq 32 r))):=by
 unfold bC;rw[if_neg (by decide)];rw[if_neg (by decide)];rw[if_pos rfl]
theorem mh (d:ae) (r:ByteArray):bC d jb r=(ak (aw (spL r)) (aE r&&ag (spL r)),aR d (spL r) (aE r)):=by
 unfold bC;rw[if_neg (by decide)];rw[if_neg (by decide)];rw[if_neg (by decide)];rw[if_pos rfl]
theorem jk (d:ae) (r:ByteArray):bC d gM r=(ak (cm (cl (spL r) d.tab)) (aE r&&bt (spL r) d.tab),d):=by
 unfold bC;rw[if_neg (by decide)];rw[if_neg (by decide)];rw[if_neg (by decide)];rw[if_neg (by decide)];rw[if_pos rfl]
theorem jZ (d:ae) (r:ByteArray):bC d iY r=(ak (aw (apL d.tab (peL r))) (ee d r&&ag (apL d.tab (peL r))),aR d (apL d.tab (peL r)) (ee d r)):=by
 unfold bC;rw[if_neg (by decide)];rw[if_neg (by decide)];rw[if_neg (by decide)];rw[if_neg (by decide)];rw[if_neg (by decide)];rw[if_pos rfl]
theorem oB (d:ae) (r:ByteArray):bC d mX r=(gx d r,jh d r):=by
 unfold bC;rw[if_neg (by decide)];rw[if_neg (by decide)];rw[if_neg (by decide)];rw[if_neg (by decide)];rw[if_neg (by decide)];rw[if_neg (by decide)];rw[if_pos rfl]
theorem qY (d:ae) (r:ByteArray) (s:ByteArray) (hn:∀w∈dy,s≠w):bC d s r=(eF,d):=by
 unfold bC;rw[if_neg (hn ej (by simp[dy]))];rw[if_neg (hn gP (by simp[dy]))];rw[if_neg (hn gL (by simp[dy]))];rw[if_neg (hn jb (by simp[dy]))];rw[if_neg (hn gM (by simp[dy]))];rw[if_neg (hn iY (by simp[dy]))];rw[if_neg (hn mX (by simp[dy]))]
theorem l5 (d:ae) (l:List Int):aK d eU l=(ak (bD (dm d.poly (at_ l 0) (at_ l 1))) (cE d.poly (at_ l 0) (at_ l 1)),bd d (dm d.poly (at_ l 0) (at_ l 1)) (cE d.poly (at_ l 0) (at_ l 1))):=by
 unfold aK;rw[if_pos rfl]
theorem l8 (d:ae) (l:List Int):aK d eV l=(ak (bD (tmL d.eng (at_ l 0))) (cC d.eng (at_ l 0)),bd d (tmL d.eng (at_ l 0)) (cC d.eng (at_ l 0))):=by
 unfold aK;rw[if_neg (by decide)];rw[if_pos rfl]
theorem lm (d:ae) (l:List Int):aK d dT l=(ak (aw (cf d.poly (at_ l 0) (at_ l 1))) (cw d.poly (at_ l 0) (at_ l 1)&&ag (cf d.poly (at_ l 0) (at_ l 1))),aR d (cf d.poly (at_ l 0) (at_ l 1)) (cw d.poly (at_ l 0) (at_ l 1))):=by
 unfold aK;rw[if_neg (by decide)];rw[if_neg (by decide)];rw[if_pos rfl]
theorem n8 (d:ae) (l:List Int):aK d jp l=(ak (aw (fI d.eng (at_ l 0))) (cu d.eng (at_ l 0)&&ag (fI d.eng (at_ l 0))),aR d (fI d.eng (at_ l 0)) (cu d.eng (at_ l 0))):=by
 unfold aK;rw[if_neg (by decide)];rw[if_neg (by decide)];rw[if_neg (by decide)];rw[if_pos rfl]
theorem mL (d:ae) (l:List Int):aK d gn l=(ak (aw (fU d.eng (at_ l 0) (at_ l 1) (at_ l 2) (at_ l 3))) (dG d.eng (at_ l 0) (at_ l 1) (at_ l 2) (at_ l 3)&&ag (fU d.eng (at_ l 0) (at_ l 1) (at_ l 2) (at_ l 3))),aR d (fU d.eng (at_ l 0) (at_ l 1) (at_ l 2) (at_ l 3)) (dG d.eng (at_ l 0) (at_ l 1) (at_ l 2) (at_ l 3))):=by
 unfold aK;rw[if_neg (by decide)];rw[if_neg (by decide)];rw[if_neg (by decide)];rw[if_neg (by decide)];rw[if_pos rfl]
theorem ky (d:ae) (l:List Int):aK d dt l=(ak (aw (crL d.tab (at_ l 0))) (eN d.tab (at_ l 0)&&ag (crL d.tab (at_ l 0))),aR d (crL d.tab (at_ l 0)) (eN d.tab (at_ l 0))):=by
 unfold aK;rw[if_neg (by decide)];rw[if_neg (by decide)];rw[if_neg (by decide)];rw[if_neg (by decide)];rw[if_neg (by decide)];rw[if_pos rfl]
theorem l4 (d:ae) (l:List Int):aK d eT l=(ak (aw (rtL d.tab (at_ l 0) (at_ l 1))) (fR d.tab (at_ l 0) (at_ l 1)&&ag (rtL d.tab (at_ l 0) (at_ l 1))),aR d (rtL d.tab (at_ l 0) (at_ l 1)) (fR d.tab (at_ l 0) (at_ l 1))):=by
 unfold aK;rw[if_neg (by decide)];rw[if_neg (by decide)];rw[if_neg (by decide)];rw[if_neg (by decide)];rw[if_neg (by decide)];rw[if_neg (by decide)];rw[if_pos rfl]
theorem ji (d:ae) (l:List Int):aK d dS l=(kv (at_ l 0) (at_ l 1) (at_ l 2),eM d (at_ l 0) (at_ l 1) (at_ l 2)):=by
 unfold aK;rw[if_neg (by decide)];rw[if_neg (by decide)];rw[if_neg (by decide)];rw[if_neg (by decide)];rw[if_neg (by decide)];rw[if_neg (by decide)];rw[if_neg (by decide)];rw[if_pos rfl]
theorem mJ (d:ae) (l:List Int):aK d gk l=(ey d.tab (at_ l 0),d):=by
 unfold aK;rw[if_neg (by decide)];rw[if_neg (by decide)];rw[if_neg (by decide)];rw[if_neg (by decide)];rw[if_neg (by decide)];rw[if_neg (by decide)];rw[if_neg (by decide)];rw[if_neg (by decide)];rw[if_pos rfl]
theorem mK (d:ae) (l:List Int):aK d gl l=(ak (da (grP d.tab (at_ l 0))) (eA d.tab (at_ l 0)),d):=by
 unfold aK;rw[if_neg (by decide)];rw[if_neg (by decide)];rw[if_neg (by decide)];rw[if_neg (by decide)];rw[if_neg (by decide)];rw[if_neg (by decide)];rw[if_neg (by decide)];rw[if_neg (by decide)];rw[if_neg (by decide)];rw[if_pos rfl]
theorem lZ (d:ae) (l:List Int):aK d eS l=(ak (da (chP d.tab (at_ l 0) (at_ l 1) (at_ l 2))) (eu d.tab (at_ l 0) (at_ l 1) (at_ l 2)),d):=by
 unfold aK;rw[if_neg (by decide)];rw[if_neg (by decide)];rw[if_neg (by decide)];rw[if_neg (by decide)];rw[if_neg (by decide)];rw[if_neg (by decide)];rw[if_neg (by decide)];rw[if_neg (by decide)];rw[if_neg (by decide)];rw[if_neg (by decide)];rw[if_pos rfl]
theorem mM (d:ae) (l:List Int):aK d eW l=(ak (aw (eb d (at_ l 0))) (decide (0<(eb d (at_ l 0)).length)),d):=by
 unfold aK;rw[if_neg (by decide)];rw[if_neg (by decide)];rw[if_neg (by decide)];rw[if_neg (by decide)];rw[if_neg (by decide)];rw[if_neg (by decide)];rw[if_neg (by decide)];rw[if_neg (by decide)];rw[if_neg (by decide)];rw[if_neg (by decide)];rw[if_neg (by decide)];rw[if_pos rfl]
theorem Fd (d:ae) (l:List Int) (s:ByteArray) (hn:∀w∈df,s≠w):aK d s l=(eF,d):=by
 unfold aK;rw[if_neg (hn eU (by simp[df]))];rw[if_neg (hn eV (by simp[df]))];rw[if_neg (hn dT (by simp[df]))];rw[if_neg (hn jp (by simp[df]))];rw[if_neg (hn gn (by simp[df]))];rw[if_neg (hn dt (by simp[df]))];rw[if_neg (hn eT (by simp[df]))];rw[if_neg (hn dS (by simp[df]))];rw[if_neg (hn gk (by simp[df]))];rw[if_neg (hn gl (by simp[df]))];rw[if_neg (hn eS (by simp[df]))];rw[if_neg (hn eW (by simp[df]))]
theorem fv {d:ae} {l:List ByteArray} {k:Bool} (ok:d.Ok) (h:k=true→af l=true):(bd d l k).Ok:=by
 unfold bd
 split
 ·rename_i hk
  exact⟨ok.poly,.inr (h hk),ok.tab,ok.rw,ok.ac,ok.wi⟩
 ·exact ok
theorem qu {d:ae} {l:List Int} {k:Bool} (ok:d.Ok) (h:k=true→av l=true):(dF d l k).Ok:=by
 unfold dF
 split
 ·rename_i hk
  exact⟨h hk,ok.eng,ok.tab,ok.rw,ok.ac,ok.wi⟩
 ·exact ok
theorem gh {d:ae} {l:List Int} {k:Bool} (ok:d.Ok):(aR d l k).Ok:=by
 unfold aR
 split
 ·rename_i hk
  rw[JB] at hk;exact⟨ok.poly,ok.eng,(aA hk.2).2.1,ok.rw,ok.ac,ok.wi⟩
 ·exact ok
theorem AP {d:ae} {r a i:Int} (ok:d.Ok):(eM d r a i).Ok:=by
 unfold eM
 split
 ·rename_i hk
  obtain⟨R,A,W,rfl,rfl,rfl,h1,h2,h3⟩:=nn hk;exact⟨ok.poly,ok.eng,ok.tab,h1,h2,h3⟩
 ·exact ok
theorem vi {l:List Int} (h:av l=true):av (gS l)=true:=by rw[ic h];exact h
theorem GY {t:ByteArray} (h:cP t=true):av (ppL t)=true:=by
 unfold cP at h;rw[JB] at h;exact vi h.2
theorem Fm {d:ae} {t:ByteArray} (ok:d.Ok):(jU d t).Ok:=by
 unfold jU
 split
 ·rename_i hk
  exact⟨GY hk,ok.eng,ok.tab,ok.rw,ok.ac,ok.wi⟩
 ·exact ok
theorem GL {l:List Int} (h:eB l=true):av (itL l)=true:=by
 unfold itL;rw[if_pos h];unfold eB at h;rw[JB] at h;exact h.2
theorem GI {l:List Int} (h:iO l=true):av (fpL l)=true:=by
 unfold iO at h;rw[JB] at h;rw[(vK h.1).2];exact vi h.2
theorem IT {l:List ByteArray} {n:Int} (h:cC l n=true):af (tmL l n)=true:=by
 rw[th h];unfold cC at h;rw[JB] at h;unfold tmS
 split
 ·exact eR h.1 _
 ·exact ek h.1 _
theorem E2 {d:ae} {t:ByteArray} (ok:d.Ok):(jh d t).Ok:=by
 cases h:ef t
 ·rw[(nk d h).2];exact ok
 ·rw[(pX d h).2];unfold ef at h;rw[JB] at h;exact lC ok h.2
theorem db {s:ByteArray} {k:Bool} {B C:Nat} (h:s.size≤B) (hB:B+3≤C):(ak s k).size≤C:=by
 unfold ak
 split
 ·rw[Jt];have:nlS.size=1:=rfl;omega
 ·have:noS.size=3:=rfl;omega
theorem I4 {s:ByteArray} {B C:Nat} (h:s.size≤B) (hB:B+3≤C):(s++nlS).size≤C:=db (k:=true) h hB
theorem fs (l:List Int):(ax l).size≤154:=by
 cases hq:av l
 ·rw[mc hq];exact Jy _
 ·rw[fX hq];obtain⟨p1,p7,hp⟩:=bf.1 hq;have h1:=bM (l:=l) (fun n hn=>by
   obtain⟨k,hk,rfl⟩:=List.getElem_of_mem hn;have:=hp k hk;rw[fi l k hk] at this;omega)
  omega
theorem IS {l:List Int} (h:ag l=true):Wf l:=fun n hn=>by
 obtain⟨k,hk,rfl⟩:=List.getElem_of_mem hn;have:=(aA h).2.2 k hk;rw[fi l k hk] at this;omega
theorem gi (l:List Int) (k:Bool):(ak (aw l) (k&&ag l)).size≤30000:=by
 cases h:ag l
 ·rw[Bool.and_false]
  show noS.size≤30000
  decide
 ·have h1:=bM (IS h);have h2:=(aA h).2.1;exact db (B:=1320) (by omega) (by omega)
theorem tH (l:List Int):(au (ew l)).size≤21:=by
 have:=sH l;exact aJ (by omega) (by omega)
theorem og {d:ae} (ok:d.Ok):(dh d).size≤30000:=by
 unfold dh
 split
 ·rename_i h
  unfold dQ at h;rw[JB] at h;have:=zn h.2 ok.rw.1 ok.ac.1 ok.wi.2 ok.tab;omega
 ·exact Nat.le_of_lt (by decide)
theorem Ip {d:ae} (ok:d.Ok) (t:ByteArray):(gx d t).size≤30000:=by
 cases h:ef t
 ·rw[(nk d h).1];exact Nat.le_of_lt (by decide)
 ·rw[(pX d h).1];unfold ef at h;rw[JB] at h;exact og (lC ok h.2)
theorem AJ (t:ByteArray):(fO t).size≤30000:=by
 unfold fO
 split <;> exact Nat.le_of_lt (by decide)
theorem It (r a i:Int):(kv r a i).size≤30000:=by
 unfold kv
 split <;> exact Nat.le_of_lt (by decide)
theorem GF (l:List Int) (g:Int):(ey l g).size≤30000:=by
 unfold ey
 split
 ·exact Nat.le_of_lt (by decide)
 ·split
  ·rename_i h
   have h1:(au (fdA l g)).size≤21:=by
    have:fdA l g=(ga l g:Int):=by unfold fdA;rw[if_pos h]
    have h2:=(ks h);have h3:=(lU h2.2).1;have h4:=(aA h3).2.1;exact aJ (by omega) (by omega)
   have h2:(au (fdM l g)).size≤21:=by
    have:=ph l g;exact aJ (by omega) (by omega)
   unfold vC;rw[Jt,Jt,Jt,Jt];have e1:(⟨#[101,114,114,111,114,32]⟩:ByteArray).size=6:=rfl;have e2:(⟨#[32]⟩:ByteArray).size=1:=rfl;have e3:(⟨#[10]⟩:ByteArray).size=1:=rfl;omega
  ·split <;> exact Nat.le_of_lt (by decide)
theorem un:∀ {ps:List (Nat×List Int)},(∀x∈ps,1≤x.1)→ps.length≤bX ps
 |[],_=>Jy _
 |x::ps,h=>by
  have ih:=un (ps:=ps) (fun y hy=>h y (List.mem_cons_of_mem _ hy));have:=h x List.mem_cons_self
  show ps.length+1≤_
  unfold bX;omega
theorem lK (ps:List (Nat×List Int)):(da ps).size≤12060:=by
 unfold da
 split
 ·rename_i h
  unfold gT at h;rw[JB,JB,List.all_eq_true] at h;obtain⟨h1,h2,h3⟩:=h;have key:∀x∈ps,(1≤x.1∧x.1≤60)∧av x.2=true:=by
   intro x hx;have:=h1 x hx;unfold fJ at this;rw[JB,JB] at this;have q:=am.1 this.1;exact⟨by omega,(iL.1 this.2.1).1⟩
  have hl:=un (ps:=ps) (fun x hx=>(key x hx).1.1);have h60:=of_decide_eq_true h2;have hj:=im (l:=ps.map dL) (sep:=⟨#[47]⟩) (B:=200) (fun s hs=>by
   obtain⟨x,hx,rfl⟩:=List.mem_map.1 hs;have hk:=key x hx;exact ju x (fun n hn=>by
    obtain⟨k,hkk,rfl⟩:=List.getElem_of_mem hn;have:=(bf.1 hk.2).2.2 k hkk;rw[fi x.2 k hkk] at this;omega) (by omega))
  rw[List.length_map] at hj;have e:(⟨#[47]⟩:ByteArray).size=1:=rfl;rw[e] at hj;omega
 ·exact Jy _
theorem yV (r p:List Int):∀x∈cl r p,kr x:=by
 intro x hx;unfold cl at hx
 split at hx
 ·rename_i h
  unfold bt at h;rw[JB,JB] at h;obtain⟨⟨h1,h2⟩,h3⟩:=h;have h3:=of_decide_eq_true h3;unfold fk at hx;obtain⟨i,hi,he⟩:=List.mem_filterMap.1 hx;have hi:=List.mem_range.1 hi;unfold uP at he
  split at he
  ·cases he
  ·injection he with he;subst he;have t1:=(aA h1).2.1;have b1:=(aA h1).2.2 i hi;have b2:=(aA h2).2.2 i (by omega);exact⟨⟨by show _≤(i:Int);omega,by show(i:Int)≤_;omega⟩,⟨by show _≤at_ p i;omega,by show at_ p i≤_;omega⟩,⟨by show _≤at_ r i;omega,by show at_ r i≤_;omega⟩⟩
 ·cases hx
theorem Ia (d:ae) (r:ByteArray):∀k,k<(cl (spL r) d.tab).length→kr (aC (cl (spL r) d.tab) k):=by
 intro k hk;rw[iC hk];exact yV _ _ _ (List.getElem_mem hk)
theorem sj {d:ae} (ok:d.Ok) (p:Int):(aw (eb d p)).size≤1320:=by
 unfold eb
 split
 ·rename_i h
  unfold n9 at h;rw[JB] at h;have hl:(iI d.rw d.ac d.tab p.toNat).length=d.ac:=gI _ _ _ _;have h2:=ok.ac.2;have h1:=bM (l:=iI d.rw d.ac d.tab p.toNat) (fun n hn=>by
   have:=IH (Dl h.1 (d.rw*d.ac) p.toNat) (Jr _) (by rw[dH];have:=(aA h.1).2.1;omega) n hn;omega)
  omega
 ·exact Jy _
theorem FS {d:ae} (ok:d.Ok) (s:ByteArray):(aM d s).2.Ok∧(aM d s).1.size≤30000:=by
 by_cases h:s∈dj
 ·simp only[dj,Jz,JA,or_false] at h
  rcases h with rfl|rfl|rfl|rfl|rfl|rfl|rfl|rfl|rfl|rfl|rfl
  ·rw[m8];exact⟨fv ok fun h=>by rw[pL h];exact lz h,db (eH _) (by omega)⟩
  ·rw[mY];exact⟨fv ok fun h=>by rw[dO h];exact nM h,db (eH _) (by omega)⟩
  ·rw[m7];exact⟨fv ok fun h=>by rw[dO h];exact FB h,db (eH _) (by omega)⟩
  ·rw[lv];exact⟨fv ok fun h=>by rw[dO h];exact qZ h,db (eH _) (by omega)⟩
  ·rw[lu];exact⟨fv ok fun h=>by rw[dO h];exact iB (iB h 0) 1,db (eH _) (by omega)⟩
  ·rw[m6];exact⟨ok,db (fs _) (by omega)⟩
  ·rw[lN];exact⟨qu ok fun h=>GL h,db (fs _) (by omega)⟩
  ·rw[lr];exact⟨ok,db (tH d.tab) (by omega)⟩
  ·rw[mi];exact⟨ok,db (pB d.tab ok.tab).1 (by omega)⟩
  ·rw[mj];exact⟨ok,og ok⟩
  ·rw[mZ];exact⟨ok,I4 (fs _) (by omega)⟩
 ·rw[rc d s (fun w hw e=>h (e▸hw))];exact⟨ok,(show eF.size≤30000 by decide)⟩
theorem FL {d:ae} (ok:d.Ok) (s r:ByteArray):(bC d s r).2.Ok∧(bC d s r).1.size≤30000:=by
 by_cases h:s∈dy
 ·simp only[dy,Jz,JA,or_false] at h
  rcases h with rfl|rfl|rfl|rfl|rfl|rfl|rfl
  ·rw[kM];exact⟨Fm ok,AJ _⟩
  ·rw[gB];exact⟨qu ok fun h=>GI (JB _ _▸h).2,db (fs _) (by omega)⟩
  ·rw[lq];exact⟨fv ok fun h=>by unfold peE;rw[dO h];exact h,db (eH _) (by omega)⟩
  ·rw[mh];exact⟨gh ok,gi _ _⟩
  ·rw[jk];exact⟨ok,db (pd _ (Ia d r)) (by omega)⟩
  ·rw[jZ];exact⟨gh ok,gi _ _⟩
  ·rw[oB];exact⟨E2 ok,Ip ok r⟩
 ·rw[qY d r s (fun w hw e=>h (e▸hw))];exact⟨ok,(show eF.size≤30000 by decide)⟩
theorem Fe {d:ae} (ok:d.Ok) (s:ByteArray) (l:List Int):(aK d s l).2.Ok∧(aK d s l).1.size≤30000:=by
 by_cases h:s∈df
 ·simp only[df,Jz,JA,or_false] at h
  rcases h with rfl|rfl|rfl|rfl|rfl|rfl|rfl|rfl|rfl|rfl|rfl|rfl
  ·rw[l5];exact⟨fv ok fun h=>Hd h,db (eH _) (by omega)⟩
  ·rw[l8];exact⟨fv ok fun h=>IT h,db (eH _) (by omega)⟩
  ·rw[lm];exact⟨gh ok,gi _ _⟩
  ·rw[n8];exact⟨gh ok,gi _ _⟩
  ·rw[mL];exact⟨gh ok,gi _ _⟩
  ·rw[ky];exact⟨gh ok,gi _ _⟩
  ·rw[l4];exact⟨gh ok,gi _ _⟩
  ·rw[ji];exact⟨AP ok,It _ _ _⟩
  ·rw[mJ];exact⟨ok,GF _ _⟩
  ·rw[mK];exact⟨ok,db (lK _) (by omega)⟩
  ·rw[lZ];exact⟨ok,db (lK _) (by omega)⟩
  ·rw[mM];exact⟨ok,db (sj ok _) (by omega)⟩
 ·rw[Fd d l s (fun w hw e=>h (e▸hw))];exact⟨ok,(show eF.size≤30000 by decide)⟩
attribute [local go_sem ↓] Go.wp_at_zero Go.wp_at_succ
theorem Dm (R A W M:Nat) (p:Int) (v:Value) (l:List Int) (w:World) (hv:ai w v l) (h1:1≤R∧R≤20) (h2:1≤A∧A≤6) (h3:1≤W∧W≤12) (hl:l.length≤60) (hM:R*A=M) (hno:¬(ag l=true∧0≤p∧p<(pgN l M:Int))):
  Calls prog 220 #[.agg #[.int .i64 R,.int .i64 A,.int .i64 W],v,.int .i64 p] w fun e w'=>e=.returned (.bool false)∧Below w.heap.size w w':=by
 have HV:=Jj hv;have HM:=Jj hM;have HNO:=Jj hno;have hlay:=fp h1 h2 h3;have hM0:0<M:=by rw[←hM];exact Nat.mul_pos h1.1 h2.1
 have hq60:pgN l M≤60:=Js (jS hM0) hl;obtain⟨q0,hq0⟩:∃q,pgN l M=q:=⟨_,rfl⟩;rw[hq0] at hq60 HNO;have HQ:=Jj hq0;obtain⟨B,cp,rfl,hlc,hc,hrd⟩:=hv.open_;have K1:=Blk.new w 29 [.int .i64 R,.int .i64 A,.int .i64 W];have B1:=ab w (.cells #[.int .i64 R,.int .i64 A,.int .i64 W] 29);obtain⟨a0,a1,a2⟩:=K1.lay;clear hv hrd hM hq0 hno
 go_enter func220,ntmps220
 go_wp2_with fail
 refine(eI R A W _).mono ?_;rintro e w2 ⟨rfl,b2⟩;rw[hlay];replace K1:=K1.below b2 K1.lt;have HB:=Jj (aa B1 b2);clear a0 a1 a2 b2 B1;obtain⟨a0,a1,a2⟩:=K1.lay
 go_wp2_with fail
 refine(aF _ l _ (HV.out.bel HB.out)).mono ?_;rintro e w3 ⟨rfl,rfl⟩;cases ht:ag l
 ·clear ht;go_wp2;go_ret;exact⟨rfl,HB.out⟩
 ·by_cases hp:0≤p
  ·have hpq:¬p<(q0:Int):=fun h=>HNO.out ⟨ht,hp,h⟩;clear ht
   go_wp2_with fail
   refine(nR R A W l _ h1 h2 h3 hl).mono ?_;rw[HM.out,HQ.out];rintro e w4 ⟨rfl,b4⟩;have HB4:=Jj (aa HB.out b4);clear a0 a1 a2 b4;go_wp2;go_ret;exact⟨aD (decide_eq_false (Int.not_lt.2 hpq)),HB4.out⟩
  ·clear ht;go_wp2;go_ret;exact⟨rfl,HB.out⟩
theorem uE (R A W M:Nat) (p:Int) (v:Value) (l:List Int) (w:World) (hv:ai w v l) (h1:1≤R∧R≤20) (h2:1≤A∧A≤6) (h3:1≤W∧W≤12) (hl:l.length≤60) (hM:R*A=M) (hno:¬(ag l=true∧0≤p∧p<(pgN l M:Int))):
  Calls prog 133 #[.agg #[.int .i64 R,.int .i64 A,.int .i64 W],v,.int .i64 p] w fun e w'=>e=.returned (.slice none 0 0)∧Below w.heap.size w w':=by
 have HV:=Jj hv;have HM:=Jj hM;have HNO:=Jj hno;obtain⟨B,cp,rfl,hlc,hc,hrd⟩:=hv.open_;have K1:=Blk.new w 29 [.int .i64 R,.int .i64 A,.int .i64 W];have B1:=ab w (.cells #[.int .i64 R,.int .i64 A,.int .i64 W] 29);obtain⟨a0,a1,a2⟩:=K1.lay;clear hv hrd hM hno
 go_enter func133,ntmps133
 go_wp2_with fail
 refine(Dm R A W M p _ l _ (HV.out.bel B1) h1 h2 h3 hl HM.out HNO.out).mono ?_;rintro e w2 ⟨rfl,b2⟩;have HB:=Jj (aa B1 b2);clear a0 a1 a2 b2 B1;go_wp2;go_ret;exact⟨rfl,HB.out⟩
theorem Aw {d:ae} {p:Int} (ok:d.Ok) (hno:¬(ag d.tab=true∧0≤p∧p<(pgN d.tab (d.rw*d.ac):Int))):cD eW [p] d noS d:=by
 intro b v w hv hd hg;have HD:=Jj hd;have HG:=Jj hg;have htl:=ok.tab;have HNO:=Jj hno;obtain⟨h1,h2,h3⟩:=Jq ok.rw (Jq ok.ac ok.wi);obtain⟨pv,en,t,k0,-,-,k3⟩:=hd;have HT:=Jj k3.ints;have HK:=Jj k0;obtain⟨A,c,rfl,-,-,-⟩:=k3.ints.open_;obtain⟨g,cn,rfl,hgl,hcn⟩:=eL hv (by simp);have n0:w.cell? ⟨g,0,none⟩=some (.int .i64 p):=hcn 0 (by simp);obtain⟨c0,c1,c2,c3,c4,c5⟩:=k0.desk;have HN:=Jj n0;have tok1:True:=trivial;clear k0 k3 hg ok hno hv hcn;unfold eW
 go_enter func56,ntmps56
 go_wp2_with fail
 go_region_held3 (fun w'=>(w'.cell? ⟨b,2,none⟩=some (.slice A d.tab.length c)∧w'.cell? ⟨b,3,none⟩=some (.int .i64 d.rw)∧w'.cell? ⟨b,4,none⟩=some (.int .i64 d.ac)∧w'.cell? ⟨b,5,none⟩=some (.int .i64 d.wi))∧w'.cell? ⟨g,0,none⟩=some (.int .i64 p)) (first|exact⟨HK.out.desk4,HN.out⟩|exact⟨(HK.out.below HB.out HK.out.lt).desk4,(HB.out.cell (by exact hgl)).trans HN.out⟩|go_keep) (first
  |((try go_simp);go_at_call 133;have _t:=tok1;go_loud (refine(uE d.rw d.ac d.wi (d.rw*d.ac) p _ d.tab _ (by first|exact HT.out|exact HT.out.bel (ah _)) h1 h2 h3 htl rfl HNO.out).mono ?_;rintro e w3 ⟨rfl,b3⟩;replace b3:Below w.heap.size w w3:=(by first|exact b3|exact aa (ah _) b3);have HB:=Jj b3;clear tok1 b3;(try dsimp only)))
  |fail)
 clear c0 c1 c2 c3 c4 c5 n0;have HE:=Jj (show ∀w,ai w (.slice none 0 0) [] from fun w=>(Own.nil_ w 0).ints)
 go_wp2_with fail
 refine(dC _ [] _ (HE.out _) (by simp) (HG.out.bel HB.out).glb.1).mono ?_;rintro e w4 ⟨rfl,b4⟩;replace HB:=Jj (aa HB.out b4);clear b4
 go_wp2_with fail
 refine(cy _ false _ (by decide)).mono ?_;rintro e w5 ⟨rfl,rfl⟩;go_wp2;go_ret;exact⟨rfl,HD.out.bel HB.out,aB _ HB.out⟩
theorem AB {d:ae} {p:Int} (ok:d.Ok):cD eW [p] d (ak (aw (eb d p)) (decide (0<(eb d p).length))) d:=by
 cases h:n9 d p
 ·have e:eb d p=[]:=by unfold eb;rw[if_neg (by rw[h];simp)]
  rw[e];refine Aw ok fun hc=>?_;unfold n9 at h;rw[hc.1,decide_eq_true hc.2] at h;cases h
 ·have e:eb d p=iI d.rw d.ac d.tab p.toNat:=by unfold eb;rw[if_pos h]
  unfold n9 at h;rw[JB] at h;have h2:=of_decide_eq_true h.2;obtain⟨p,rfl⟩:∃k:Nat,p=k:=⟨p.toNat,by omega⟩;rw[e];have hl:(iI d.rw d.ac d.tab (p:Int).toNat).length=d.ac:=gI _ _ _ _;rw[decide_eq_true (show 0<(iI d.rw d.ac d.tab (p:Int).toNat).length by rw[hl];exact ok.ac.1)];exact C9 ok h.1 (by omega)
theorem bB {x:ByteArray} {l:List UInt8} (h:¬x=⟨l.toArray⟩):(x.toList==l)=false:=by
 rw[beq_eq_false_iff_ne];intro e;rw[ByteArray.toList_eq] at e;exact h (ByteArray.ext (by rw[←e]))
theorem D7 {d:ae} {s:ByteArray} (h:s∉dj):fZ s d eF d:=by
 intro b w hd hg;have HD:=Jj hd;clear hd hg;simp only[dj,Jz,JA,or_false,not_or] at h;obtain⟨h1,h2,h3,h4,h5,h6,h7,h8,h9,h10,h11⟩:=h;replace h1:=bB (l:=[116,117,114,110]) h1;replace h2:=bB (l:=[98,97,99,107]) h2;replace h3:=bB (l:=[115,107,101,119]) h3;replace h4:=bB (l:=[117,110,115,107,101,119]) h4;replace h5:=bB (l:=[104,97,108,118,101,115]) h5;replace h6:=bB (l:=[114,101,97,100]) h6;replace h7:=bB (l:=[102,105,116]) h7;replace h8:=bB (l:=[100,101,103,114,101,101]) h8;replace h9:=bB (l:=[110,105,110,101,115]) h9;replace h10:=bB (l:=[112,114,105,110,116]) h10;replace h11:=bB (l:=[112,111,108,121]) h11
 go_enter func54,ntmps54
 go_wp2;go_ret;exact⟨rfl,HD.out,aB _ (Below.refl _ _)⟩
theorem DS {d:ae} {s r:ByteArray} (h:s∉dy):jy s r d eF d:=by
 intro b w hd hg;have HD:=Jj hd;clear hd hg;simp only[dy,Jz,JA,or_false,not_or] at h;obtain⟨h1,h2,h3,h4,h5,h6,h7⟩:=h;replace h1:=bB (l:=[112,111,108,121]) h1;replace h2:=bB (l:=[112,111,119,101,114,115]) h2;replace h3:=bB (l:=[101,110,103,105,110,101]) h3;replace h4:=bB (l:=[116,97,98,108,101]) h4;replace h5:=bB (l:=[101,114,114,97,116,97]) h5;replace h6:=bB (l:=[97,112,112,108,121]) h6;replace h7:=bB (l:=[106,111,98]) h7
 go_enter func57,ntmps57
 go_wp2;go_ret;exact⟨rfl,HD.out,aB _ (Below.refl _ _)⟩
def je (ps:List (Nat×List Int)):Bool:=ps.all fun x=>inB (x.1:Int) 1 60
def nY (ps:List (Nat×List Int)):Int:=if je ps=true then(bX ps:Int) else -1
theorem tg:∀ps:List (Nat×List Int),je ps=true→ps.length≤bX ps
 |[],_=>Jr _
 |x::r,h=>by
  unfold je at h;rw[List.all_cons,JB] at h;have h1:=am.1 h.1;have h2:=tg r h.2;rw[bX,List.length_cons];omega
theorem zh {ps:List (Nat×List Int)} (h:gT ps=true):je ps=true∧bX ps≤60∧1≤ps.length∧ps.length≤60:=by
 unfold gT at h;simp only[JB,decide_eq_true_eq] at h;obtain⟨h1,h2,h3⟩:=h;have h4:je ps=true:=by
  unfold je;rw[List.all_eq_true] at h1 ⊢;intro x hx;have:=h1 x hx;unfold fJ at this;rw[JB] at this;exact this.1
 exact⟨h4,h2,h3,Js (tg ps h4) h2⟩
theorem IG {ps:List (Nat×List Int)} (h:60<ps.length):gT ps=false:=by
 rw[Bool.eq_false_iff];intro hp;have:=zh hp;omega
theorem GV {ps:List (Nat×List Int)} (h:inB (nY ps) 1 60=false):gT ps=false:=by
 rw[Bool.eq_false_iff];intro hp;obtain⟨h1,h2,h3,h4⟩:=zh hp;have h5:=tg ps h1;have:nY ps=(bX ps:Int):=if_pos h1;rw[this] at h;have:=bm.1 h;omega
theorem GO {ps:List (Nat×List Int)} (h:inB (nY ps) 1 60=true):je ps=true∧bX ps≤60∧1≤ps.length:=by
 have h1:=am.1 h;by_cases h2:je ps=true
 ·have:nY ps=(bX ps:Int):=if_pos h2;rw[this] at h1;refine⟨h2,by omega,?_⟩;cases ps with
  |nil=>simp[bX] at h1
  |cons x r=>simp
 ·have:nY ps = -1:=if_neg h2;omega
theorem DI {ps:List (Nat×List Int)} {k:Nat} (hk:k<ps.length):ps[k]=(sgn ps k,sgp ps k):=by simp[sgn,sgp,List.getD,hk]
theorem vQ {ps:List (Nat×List Int)} {k:Nat} (h:je ps=true) (hk:k<ps.length):1≤sgn ps k∧sgn ps k≤60:=by
 unfold je at h;rw[List.all_eq_true] at h;have:=am.1 (h ps[k] (List.getElem_mem hk));rw[DI hk] at this;omega
theorem E1 {ps:List (Nat×List Int)} (h:∀j,j<ps.length→1≤sgn ps j∧sgn ps j≤60):je ps=true:=by
 unfold je;rw[List.all_eq_true];intro x hx;obtain⟨j,hj,rfl⟩:=List.getElem_of_mem hx;rw[DI hj,am];have:=h j hj
 show(1:Int)≤(sgn ps j:Int)∧(sgn ps j:Int)≤60
 omega
theorem EZ {ps:List (Nat×List Int)} {k:Nat} (hk:k<ps.length) (h:inB (sgn ps k:Int) 1 60=false):nY ps = -1:=by
 refine if_neg (fun hp=>?_);have:=vQ hp hk;have:=bm.1 h;omega
theorem DF {n:Nat} {X:List Int} (h1:1≤n) (h2:n≤60):fJ n X=(av X&&ag (hH X 0 1 n)):=by
 unfold fJ;rw[am.2 (by omega),Bool.true_and];cases hp:av X
 ·rw[(iW (p:=X) (a:=0) (c:=(n:Int)) (by rw[hp];simp)).1];rfl
 ·have hv:cw X 0 (n:Int)=true:=iL.2 ⟨hp,by omega,by omega,by omega⟩;rw[hv,tn hv,pO X (by omega) (by omega)]
theorem CR (v:Value) (ps:List (Nat×List Int)) (w:World) (hv:oM w v ps) (hl:ps.length≤60) (hn:∀k,k<ps.length→sgn ps k≤1000):
  Calls prog 241 #[v] w fun e w'=>e=.returned (.int .i64 (nY ps))∧Below w.heap.size w w':=by
 have HNN:=Jj hn;obtain⟨us,A,c,h1,rfl,h3,h4,h5,h6⟩:=hv;have H5:=Jj h5;clear h5 h6 hn
 go_enter func241,ntmps241
 go_wp2
 go_loopw [3,4] (fun t i wr=>∃k:Nat,k≤ps.length∧i=.int .i64 k∧t=.int .i64 (bX (ps.take k):Nat)∧bX (ps.take k)≤60*k∧(∀j,j<k→1≤sgn ps j∧sgn ps j≤60)∧Below w.heap.size w wr) (fun _ i _=>ps.length-(intOf i).toNat)
 case atStart=>exact⟨0,Jy _,rfl,rfl,Jy _,fun j hj=>absurd hj (by omega),Below.refl _ _⟩
 case round=>
  obtain⟨k,hk,rfl,rfl,hs,hall,hb⟩:=hrel;have H:=Jj (Jq hall hb);clear hall hb;by_cases hlt:k<ps.length
  ·obtain⟨b,o,rfl,hbb,hcell⟩:=H5.out (by omega);obtain⟨e0,e1⟩:=hcell k hlt;have y0:=(H.out.2.cell (p:=⟨b,o+k*2,none⟩) hbb).trans e0;have hn:=HNN.out k hlt;have HSN:=Jj (rW hlt);have HBAD:=Jj (fun h=>EZ (ps:=ps) hlt h);have HALL:=Jj (fun h=>cS H.out.1 (show(fun j=>1≤sgn ps j∧sgn ps j≤60) k from h));obtain⟨n,hnn⟩:∃n,sgn ps k=n:=⟨_,rfl⟩;rw[hnn] at y0 HSN hn HBAD HALL;clear hnn e0 e1 hcell;obtain⟨S,hS⟩:∃S,bX (ps.take k)=S:=⟨_,rfl⟩;rw[hS] at hs HSN ⊢;clear hS
   go_wp2_with fail
   refine(aL _ _ _ _).mono ?_;rintro e w5 ⟨rfl,rfl⟩;cases hq:inB (n:Int) 1 60
   ·have HZ:=Jj (HBAD.out hq);clear hq;go_wp2;go_ret;exact⟨by rw[HZ.out];rfl,H.out.2⟩
   ·have h6:=am.1 hq;have HZ:=Jj (HALL.out (by omega));clear hq;go_wp2;go_roundw
    case rel=>exact⟨k+1,hlt,by go_num,by rw[HSN.out];go_num,by rw[HSN.out];omega,HZ.out,H.out.2⟩
    case measure=>simp[intOf];omega
  ·obtain rfl:k=ps.length:=by omega
   have HS:=Jj (show nY ps=(bX ps:Int) from if_pos (E1 H.out.1));rw[List.take_length];go_wp2;go_ret;exact⟨by rw[HS.out];rfl,H.out.2⟩
theorem xe (v:Value) (ps:List (Nat×List Int)) (w:World) (hv:oM w v ps) (hl:ps.length≤1000000) (hn:∀k,k<ps.length→sgn ps k≤1000):
  Calls prog 170 #[v] w fun e w'=>e=.returned (.bool (gT ps))∧Below w.heap.size w w':=by
 have HV:=Jj hv;have HNN:=Jj hn;obtain⟨us,A,c,h1,rfl,h3,h4,h5,h6⟩:=hv;have H5:=Jj h5;have H6:=Jj h6;clear h5 h6 hn
 go_enter func170,ntmps170
 by_cases hgt:60<ps.length
 ·have HZ:=Jj (IG hgt);have hi:(60:Int)<(ps.length:Int):=by omega
  clear hgt;go_wp2;go_ret;exact⟨by rw[HZ.out];rfl,Below.refl _ _⟩
 ·have hi:¬(60:Int)<(ps.length:Int):=by omega
  go_wp2_with fail
  refine(CR _ ps _ HV.out (by omega) HNN.out).mono ?_;rintro e w2 ⟨rfl,b2⟩;have HB:=Jj b2;clear b2
  go_wp2_with fail
  refine(aL _ _ _ _).mono ?_;rintro e w3 ⟨rfl,rfl⟩;cases hq:inB (nY ps) 1 60
  ·have HZ:=Jj (GV hq);clear hq;go_wp2;go_ret;exact⟨by rw[HZ.out];rfl,HB.out⟩
  ·have HLN:=Jj (GO hq);clear hq;go_wp2
   go_loopw [3] (fun i wr=>∃k:Nat,k≤ps.length∧i=.int .i64 k∧(∀j,j<k→fJ (sgn ps j) (sgp ps j)=true)∧Below w.heap.size w wr) (fun i _=>ps.length-(intOf i).toNat)
   case atStart=>exact⟨0,Jy _,rfl,fun j hj=>absurd hj (by omega),HB.out⟩
   case round=>
    obtain⟨k,hk,rfl,hall,hb⟩:=hrel;have H:=Jj (Jq hall hb);have hz:=hb.size;clear hall hb;by_cases hlt:k<ps.length
    ·obtain⟨b,o,rfl,hbb0,hcell⟩:=H5.out (by omega);obtain⟨e0,e1⟩:=hcell k hlt;have y0:=(H.out.2.cell (p:=⟨b,o+k*2,none⟩) hbb0).trans e0;have y1:=(H.out.2.cell (p:=⟨b,o+k*2+1,none⟩) hbb0).trans e1;have hbb:b<wr.heap.size:=by omega
     have HI:=Jj ((H6.out k hlt).bel H.out.2);have hn:=vQ HLN.out.1 hlt;have HBAD:=Jj (fun h=>Dn (ps:=ps) hlt h);have HALL:=Jj (fun h=>cS H.out.1 (show(fun j=>fJ (sgn ps j) (sgp ps j)=true) k from h));obtain⟨n,hnn⟩:∃n,sgn ps k=n:=⟨_,rfl⟩;obtain⟨X,hX⟩:∃X,sgp ps k=X:=⟨_,rfl⟩;obtain⟨u,hu⟩:∃u,sgu us k=u:=⟨_,rfl⟩;rw[hnn] at y0 hn HBAD HALL;rw[hu] at y1 HI;rw[hX] at HI HBAD HALL;clear hnn hX hu e0 e1 hcell hbb0;obtain⟨A3,c3,rfl,hXc,-,-⟩:=HI.out.open_;have HOK:=Jj (DF (X:=X) hn.1 hn.2);cases hp:av X
     ·have HZ:=Jj (HBAD.out (by rw[HOK.out,hp];rfl))
      go_wp2_with fail
      refine wp_region_held_drew (S:=(fun w'=>w'.cell? ⟨b,o+k*2,none⟩=some (.int .i64 n)∧w'.cell? ⟨b,o+k*2+1,none⟩=some (.slice A3 X.length c3))) (by kernel_rfl) ?_ (fun hHeld=>?_)
      ·exact⟨y0,y1⟩
      refine wpAnyH_take (i:=0) (v:=?v0) rfl (by kernel_rfl) (by kernel_rfl) (by kernel_rfl) (fun _ _ _ h=>h) (Or.inl ⟨by kernel_rfl,?hy0⟩) (by assumption) ?rest0
      case hy0=>(intro w' hSw;(try dsimp only at hSw);go_simp;all_goals with_reducible rfl)
      try simp only[Act.put,Jp,Jo,Jn,Jm,Jk,Jl]
      refine wpAnyH_take (i:=1) (v:=?v1) rfl (by kernel_rfl) (by kernel_rfl) (by kernel_rfl) (fun _ _ _ h=>h) (Or.inl ⟨by kernel_rfl,?hy1⟩) (by assumption) ?rest1
      case hy1=>(intro w' hSw;(try dsimp only at hSw);go_simp;all_goals with_reducible rfl)
      try simp only[Act.put,Jp,Jo,Jn,Jm,Jk,Jl]
      refine wpAnyH_take (i:=2) (v:=?v2) rfl (by kernel_rfl) (by kernel_rfl) (by kernel_rfl) (fun _ _ _ h=>h) (Or.inl ⟨by kernel_rfl,?hy2⟩) (by assumption) ?rest2
      case hy2=>(intro w' hSw;(try dsimp only at hSw);go_simp;all_goals with_reducible rfl)
      try simp only[Act.put,Jp,Jo,Jn,Jm,Jk,Jl]
      refine wpAnyH_take (i:=3) (v:=?v3) rfl (by kernel_rfl) (by kernel_rfl) (by kernel_rfl) (fun _ _ _ h=>h) (Or.inl ⟨by kernel_rfl,?hy3⟩) (by assumption) ?rest3
      case hy3=>(intro w' hSw;(try dsimp only at hSw);go_simp;all_goals with_reducible rfl)
      try simp only[Act.put,Jp,Jo,Jn,Jm,Jk,Jl]
      refine wpAnyH_take (i:=4) (v:=?v4) rfl (by kernel_rfl) (by kernel_rfl) (by kernel_rfl) (fun _ _ _ h=>h) (Or.inl ⟨by kernel_rfl,?hy4⟩) (by assumption) ?rest4
      case hy4=>(intro w' hSw;(try dsimp only at hSw);go_simp;all_goals with_reducible rfl)
      try simp only[Act.put,Jp,Jo,Jn,Jm,Jk,Jl]
      refine wpAnyH_ready (rs:=[5]) (by kernel_rfl) (by simp) ?_;refine AllReadyH.cons rfl (fun K hK=>?_) AllReadyH.nil
      ((try go_simp);go_at_call 71;refine(bo _ X _ (by first|exact HI.out|exact HI.out.bel (ah _))).mono ?_;rw[hp];rintro e5 w5 ⟨rfl,rfl⟩;(try dsimp only))
      refine hK.out _ _ ?_ (fun hHeld=>?_)
      ·first|exact⟨y0,y1⟩|exact hHeld
      clear hK K
      try simp only[Act.put,Jp,Jo,Jn,Jm,Jk,Jl]
      refine wpAnyH_take (i:=6) (v:=?v6) rfl (by kernel_rfl) (by kernel_rfl) (by kernel_rfl) (fun _ _ _ h=>h) (Or.inl ⟨by kernel_rfl,?hy6⟩) (by assumption) ?rest6
      case hy6=>(intro w' hSw;(try dsimp only at hSw);go_simp;all_goals with_reducible rfl)
      try simp only[Act.put,Jp,Jo,Jn,Jm,Jk,Jl]
      refine wpAnyH_take (i:=7) (v:=?v7) rfl (by kernel_rfl) (by kernel_rfl) (by kernel_rfl) (fun _ _ _ h=>h) (Or.inl ⟨by kernel_rfl,?hy7⟩) (by assumption) ?rest7
      case hy7=>(intro w' hSw;(try dsimp only at hSw);go_simp;all_goals with_reducible rfl)
      try simp only[Act.put,Jp,Jo,Jn,Jm,Jk,Jl]
      refine wpAnyH_take (i:=8) (v:=undef) rfl (by kernel_rfl) (by kernel_rfl) (by kernel_rfl) (fun _ _ _ h=>h) (Or.inr ⟨by kernel_rfl,rfl⟩) (by assumption) ?_
      try simp only[Act.put,Jp,Jo,Jn,Jm,Jk,Jl]
      refine wpAnyH_take (i:=9) (v:=undef) rfl (by kernel_rfl) (by kernel_rfl) (by kernel_rfl) (fun _ _ _ h=>h) (Or.inr ⟨by kernel_rfl,rfl⟩) (by assumption) ?_
      try simp only[Act.put,Jp,Jo,Jn,Jm,Jk,Jl]
      refine wpAnyH_take (i:=10) (v:=undef) rfl (by kernel_rfl) (by kernel_rfl) (by kernel_rfl) (fun _ _ _ h=>h) (Or.inr ⟨by kernel_rfl,rfl⟩) (by assumption) ?_
      try simp only[Act.put,Jp,Jo,Jn,Jm,Jk,Jl]
      refine wpAnyH_take (i:=11) (v:=undef) rfl (by kernel_rfl) (by kernel_rfl) (by kernel_rfl) (fun _ _ _ h=>h) (Or.inr ⟨by kernel_rfl,rfl⟩) (by assumption) ?_
      try simp only[Act.put,Jp,Jo,Jn,Jm,Jk,Jl]
      refine wpAnyH_take (i:=12) (v:=undef) rfl (by kernel_rfl) (by kernel_rfl) (by kernel_rfl) (fun _ _ _ h=>h) (Or.inr ⟨by kernel_rfl,rfl⟩) (by assumption) ?_
      try simp only[Act.put,Jp,Jo,Jn,Jm,Jk,Jl]
      refine wpAnyH_take (i:=13) (v:=undef) rfl (by kernel_rfl) (by kernel_rfl) (by kernel_rfl) (fun _ _ _ h=>h) (Or.inr ⟨by kernel_rfl,rfl⟩) (by assumption) ?_
      try simp only[Act.put,Jp,Jo,Jn,Jm,Jk,Jl]
      refine wpAnyH_take (i:=14) (v:=undef) rfl (by kernel_rfl) (by kernel_rfl) (by kernel_rfl) (fun _ _ _ h=>h) (Or.inr ⟨by kernel_rfl,rfl⟩) (by assumption) ?_
      try simp only[Act.put,Jp,Jo,Jn,Jm,Jk,Jl]
      refine wpAnyH_take (i:=15) (v:=undef) rfl (by kernel_rfl) (by kernel_rfl) (by kernel_rfl) (fun _ _ _ h=>h) (Or.inr ⟨by kernel_rfl,rfl⟩) (by assumption) ?_
      try simp only[Act.put,Jp,Jo,Jn,Jm,Jk,Jl]
      refine wpAnyH_take (i:=16) (v:=undef) rfl (by kernel_rfl) (by kernel_rfl) (by kernel_rfl) (fun _ _ _ h=>h) (Or.inr ⟨by kernel_rfl,rfl⟩) (by assumption) ?_
      try simp only[Act.put,Jp,Jo,Jn,Jm,Jk,Jl]
      refine wpAnyH_take (i:=17) (v:=undef) rfl (by kernel_rfl) (by kernel_rfl) (by kernel_rfl) (fun _ _ _ h=>h) (Or.inr ⟨by kernel_rfl,rfl⟩) (by assumption) ?_
      try simp only[Act.put,Jp,Jo,Jn,Jm,Jk,Jl]
      refine wpAnyH_take (i:=18) (v:=undef) rfl (by kernel_rfl) (by kernel_rfl) (by kernel_rfl) (fun _ _ _ h=>h) (Or.inr ⟨by kernel_rfl,rfl⟩) (by assumption) ?_
      try simp only[Act.put,Jp,Jo,Jn,Jm,Jk,Jl]
      refine wpAnyH_take (i:=19) (v:=undef) rfl (by kernel_rfl) (by kernel_rfl) (by kernel_rfl) (fun _ _ _ h=>h) (Or.inr ⟨by kernel_rfl,rfl⟩) (by assumption) ?_
      try simp only[Act.put,Jp,Jo,Jn,Jm,Jk,Jl]
      refine wpAnyH_take (i:=20) (v:=undef) rfl (by kernel_rfl) (by kernel_rfl) (by kernel_rfl) (fun _ _ _ h=>h) (Or.inr ⟨by kernel_rfl,rfl⟩) (by assumption) ?_
      try simp only[Act.put,Jp,Jo,Jn,Jm,Jk,Jl]
      refine wpAnyH_take (i:=21) (v:=?v21) rfl (by kernel_rfl) (by kernel_rfl) (by kernel_rfl) (fun _ _ _ h=>h) (Or.inl ⟨by kernel_rfl,?hy21⟩) (by assumption) ?rest21
      case hy21=>(intro w' hSw;(try dsimp only at hSw);go_simp;all_goals with_reducible rfl)
      try simp only[Act.put,Jp,Jo,Jn,Jm,Jk,Jl]
      refine wpAnyH_done (by kernel_rfl) ?_ _;go_wp2;go_ret;exact⟨by rw[HZ.out];rfl,by first|exact H.out.2|exact H.out.2.drew⟩
     ·have hx7:=(bf.1 hp).2.1;have HLV:=Jj (fun W h=>jN (.slice A3 X.length c3) X 0 1 n W h (by omega) (by omega) (by omega) (by omega));obtain⟨V,hV⟩:∃V,hH X 0 1 n=V:=⟨_,rfl⟩;rw[hV] at HLV HOK;clear hV;cases ht:ag V
      ·have HZ:=Jj (HBAD.out (by rw[HOK.out,hp,ht];rfl));have tok1:True:=trivial;have tok2:True:=trivial;have tok3:True:=trivial
       go_wp2_with fail
       go_region_held3 (fun w'=>w'.cell? ⟨b,o+k*2,none⟩=some (.int .i64 n)∧w'.cell? ⟨b,o+k*2+1,none⟩=some (.slice A3 X.length c3)) (first|with_reducible exact⟨y0,y1⟩|with_reducible exact⟨(B5.out.cell hbb).trans y0,(B5.out.cell hbb).trans y1⟩|exact⟨y0,y1⟩|go_keep) (first
      |((try go_simp);go_at_call 71;have _t:=tok1;go_loud (refine(bo _ X _ (by first|exact HI.out|exact HI.out.bel (ah _))).mono ?_;rw[hp];rintro e5 w5 ⟨rfl,rfl⟩;clear tok1;(try dsimp only)))
      |((try go_simp);go_at_call 142;have _t:=tok2;go_loud (refine(HLV.out _ (by first|exact HI.out|exact HI.out.bel (ah _))).mono ?_;rintro e6 w6 ⟨r6,rfl,o6,b6⟩;replace b6:Below wr.heap.size wr w6:=(by first|exact b6|exact aa (ah _) b6);have B5:=Jj b6;have HO:=Jj o6.ints;obtain⟨A6,k6,rfl,-,-,-⟩:=o6.ints.open_;clear tok2 o6 b6;(try dsimp only)))
      |((try go_simp);go_at_call 32;have _t:=tok3;go_loud (refine(az _ V _ HO.out).mono ?_;rw[ht];rintro e7 w7 ⟨rfl,rfl⟩;clear tok3;(try dsimp only)))
      |fail)
       all_goals
        have HBE:=Jj (aa H.out.2 B5.out);go_wp2;go_ret;exact⟨by rw[HZ.out];rfl,by first|exact HBE.out|exact HBE.out.drew⟩
      ·have HZ:=Jj (HALL.out (by rw[HOK.out,hp,ht];rfl));have tok1:True:=trivial;have tok2:True:=trivial;have tok3:True:=trivial
       go_wp2_with fail
       go_region_held3 (fun w'=>w'.cell? ⟨b,o+k*2,none⟩=some (.int .i64 n)∧w'.cell? ⟨b,o+k*2+1,none⟩=some (.slice A3 X.length c3)) (first|with_reducible exact⟨y0,y1⟩|with_reducible exact⟨(B5.out.cell hbb).trans y0,(B5.out.cell hbb).trans y1⟩|exact⟨y0,y1⟩|go_keep) (first
      |((try go_simp);go_at_call 71;have _t:=tok1;go_loud (refine(bo _ X _ (by first|exact HI.out|exact HI.out.bel (ah _))).mono ?_;rw[hp];rintro e5 w5 ⟨rfl,rfl⟩;clear tok1;(try dsimp only)))
      |((try go_simp);go_at_call 142;have _t:=tok2;go_loud (refine(HLV.out _ (by first|exact HI.out|exact HI.out.bel (ah _))).mono ?_;rintro e6 w6 ⟨r6,rfl,o6,b6⟩;replace b6:Below wr.heap.size wr w6:=(by first|exact b6|exact aa (ah _) b6);have B5:=Jj b6;have HO:=Jj o6.ints;obtain⟨A6,k6,rfl,-,-,-⟩:=o6.ints.open_;clear tok2 o6 b6;(try dsimp only)))
      |((try go_simp);go_at_call 32;have _t:=tok3;go_loud (refine(az _ V _ HO.out).mono ?_;rw[ht];rintro e7 w7 ⟨rfl,rfl⟩;clear tok3;(try dsimp only)))
      |fail)
       all_goals
        have HBE:=Jj (aa H.out.2 B5.out);go_wp2;go_roundw
        case rel=>exact⟨k+1,hlt,by go_num,HZ.out,by first|exact HBE.out|exact HBE.out.drew⟩
        case measure=>simp[intOf];omega
    ·obtain rfl:k=ps.length:=by omega
     have HS:=Jj (show gT ps=true by rw[Do H.out.1 HLN.out.2.1];exact decide_eq_true HLN.out.2.2);go_wp2;go_ret;exact⟨by rw[HS.out];rfl,H.out.2⟩
theorem DC {ps:List (Nat×List Int)} {k:Nat} (h:k<ps.length):(ps.take (k+1)).map dL=(ps.take k).map dL++[dL (sgn ps k,sgp ps k)]:=by
 rw[wX h,List.map_append];rfl
theorem Dp {ps:List (Nat×List Int)} {k:Nat} (h:k<ps.length):aW ((ps.take (k+1)).map dL) ⟨#[47]⟩=(if k=0 then aW ((ps.take k).map dL) ⟨#[47]⟩ else aW ((ps.take k).map dL) ⟨#[47]⟩++⟨#[47]⟩)++dL (sgn ps k,sgp ps k):=by
 rw[DC h];by_cases hk:k=0
 ·subst hk;rw[if_pos rfl,List.take_zero,List.map_nil,nU]
 ·rw[if_neg hk,mF (fun e=>hk (by
   have:=congrArg List.length e;rw[List.length_map,List.length_take,List.length_nil] at this;omega))]
theorem qy (v:Value) (ps:List (Nat×List Int)) (w:World) (hv:oM w v ps) (hl:ps.length≤1000) (hn:∀k,k<ps.length→sgn ps k≤1000):
  Calls prog 93 #[v] w fun e w'=>e=.returned (.string (da ps))∧Below w.heap.size w w':=by
 have HV:=Jj hv;have HNN:=Jj hn;obtain⟨us,A,c,h1,rfl,h3,h4,h5,h6⟩:=hv;have H5:=Jj h5;have H6:=Jj h6;clear h5 h6 hn
 go_enter func93,ntmps93
 go_wp2_with fail
 refine(xe _ ps _ HV.out (by omega) HNN.out).mono ?_;rintro e w2 ⟨rfl,b2⟩;have HB:=Jj b2;clear b2;cases hq:gT ps
 ·have HZ:=Jj (show da ps=⟨#[]⟩ by simp[da,hq]);go_wp2;go_ret;exact⟨by rw[HZ.out];rfl,HB.out⟩
 ·have HZ:=Jj (show da ps=aW (ps.map dL) ⟨#[47]⟩ by simp[da,hq]);clear hq;go_wp2
  go_loopw [3,4] (fun s i wr=>∃(k:Nat) (O:ByteArray),k≤ps.length∧i=.int .i64 k∧s=.string O∧O=aW ((ps.take k).map dL) ⟨#[47]⟩∧O.size≤201*k∧Below w.heap.size w wr) (fun _ i _=>ps.length-(intOf i).toNat)
  case atStart=>exact⟨0,_,Jy _,rfl,rfl,rfl,Jy _,HB.out⟩
  case round=>
   obtain⟨k,O,hk,rfl,rfl,ho,hos,hb⟩:=hrel;have H:=Jj (Jq ho hb);have hz:=hb.size;clear ho hb;by_cases hlt:k<ps.length
   ·obtain⟨b,o,rfl,hbb0,hcell⟩:=H5.out (by omega);obtain⟨e0,e1⟩:=hcell k hlt;have y0:=(H.out.2.cell (p:=⟨b,o+k*2,none⟩) hbb0).trans e0;have y1:=(H.out.2.cell (p:=⟨b,o+k*2+1,none⟩) hbb0).trans e1;have hbb:b<wr.heap.size:=by omega
    have HI:=Jj ((H6.out k hlt).bel H.out.2);have hn:=HNN.out k hlt;have hss:=ju (sgn ps k,sgp ps k) (H6.out k hlt).2 (by show sgn ps k≤1000000;omega);have HJ:=Jj (Dp hlt);rw[←H.out.1] at HJ;obtain⟨n,hnn⟩:∃n,sgn ps k=n:=⟨_,rfl⟩;obtain⟨X,hX⟩:∃X,sgp ps k=X:=⟨_,rfl⟩;obtain⟨u,hu⟩:∃u,sgu us k=u:=⟨_,rfl⟩;rw[hnn] at y0 hn hss HJ;rw[hu] at y1 HI;rw[hX] at HI hss HJ;clear hX hu hnn e0 e1 hcell hbb0;obtain⟨A3,c3,rfl,-,-,-⟩:=HI.out.open_;have hi1:=aJ (n:=(n:Int)) (by omega) (by omega);have hi2:=fs X;have HSEG:dL (n,X)=au n++⟨#[58]⟩++ax X:=rfl;have HFP:=Jj (fun w (h1:ai w (.slice A3 X.length c3) X)=>bE (.slice A3 X.length c3) X w h1);have HIT:=Jj (fun w=>cO (n:Int) w (by omega) (by omega));obtain⟨I,hI⟩:∃I,au (n:Int)=I:=⟨_,rfl⟩;obtain⟨J,hJ⟩:∃J,ax X=J:=⟨_,rfl⟩;rw[hI,hJ] at HSEG;rw[hI] at hi1 HIT;rw[hJ] at hi2 HFP;rw[HSEG] at HJ;clear hI hJ HSEG hss;obtain⟨Q,hQ⟩:∃Q,(if k=0 then O else O++⟨#[47]⟩)=Q:=⟨_,rfl⟩;have hQs:Q.size≤O.size+1:=by
     rw[←hQ]
     split
     ·omega
     ·rw[Jt];exact Jr _
    rw[hQ] at HJ;have hOs:¬ 9223372036854775807<O.size+1:=by omega
    have g0:¬ 9223372036854775807<Q.size+I.size:=by omega
    have g1:¬ 9223372036854775807<Q.size+I.size+1:=by omega
    have g2:¬ 9223372036854775807<Q.size+I.size+1+J.size:=by omega
    have r0:(Q++I).size=Q.size+I.size:=by rw[Jt]
    have r1:(Q++I++⟨#[58]⟩).size=Q.size+I.size+1:=by rw[Jt,r0];rfl
    have r2:(Q++I++⟨#[58]⟩++J).size=Q.size+I.size+1+J.size:=by rw[Jt,r1]
    have HJ2:=Jj (show aW ((ps.take (k+1)).map dL) ⟨#[47]⟩=Q++I++⟨#[58]⟩++J by rw[HJ.out];simp only[ByteArray.append_assoc]);have HR:=Jj (show(Q++I++⟨#[58]⟩++J).size≤201*(k+1) by omega);clear HJ;by_cases hk0:k=0
    ·obtain rfl:O=Q:=by rw[←hQ,if_pos hk0]
     clear hQ;subst hk0;rw[Nat.zero_mul,Nat.add_zero] at y0 y1;have tok1:True:=trivial;have tok2:True:=trivial
     go_wp2_with fail
     go_region_held3 (fun w'=>w'.cell? ⟨b,o,none⟩=some (.int .i64 n)∧w'.cell? ⟨b,o+1,none⟩=some (.slice A3 X.length c3)) (first|with_reducible exact⟨y0,y1⟩|with_reducible exact⟨(B6.out.cell hbb).trans y0,(B6.out.cell hbb).trans y1⟩|with_reducible exact⟨(B7.out.cell hb6).trans ((B6.out.cell hbb).trans y0),(B7.out.cell hb6).trans ((B6.out.cell hbb).trans y1)⟩|exact⟨y0,y1⟩|go_keep) (first
      |((try go_simp);go_at_call 33;have _t:=tok1;go_loud (refine(HIT.out _).mono ?_;rintro e6 w6 ⟨rfl,b6⟩;replace b6:Below wr.heap.size wr w6:=(by first|exact b6|exact aa (ah _) b6);have B6:=Jj b6;have hb6:=Jw hbb b6.size;have HI6:=Jj (HI.out.bel b6);clear tok1 b6;(try dsimp only)))
      |((try go_simp);go_at_call 30;have _t:=tok2;go_loud (refine(HFP.out _ HI6.out).mono ?_;rintro e7 w7 ⟨rfl,b7⟩;have B7:=Jj b7;clear tok2 b7;(try dsimp only)))
      |fail)
     all_goals
      have HBE:=Jj (aa (aa H.out.2 B6.out) B7.out);go_wp2;go_roundw
      case rel=>exact⟨0+1,_,hlt,by go_num,rfl,HJ2.out.symm,HR.out,by first|exact HBE.out|exact HBE.out.drew⟩
      case measure=>simp[intOf];omega
    ·have hQ2:O++⟨#[47]⟩=Q:=by rw[←hQ,if_neg hk0]
     have HQ2:=Jj hQ2;have hki:(0:Int)<(k:Int):=by omega
     clear hQ hQ2;have tok1:True:=trivial;have tok2:True:=trivial
     go_wp2_with fail
     rw[HQ2.out]
     go_region_held3 (fun w'=>w'.cell? ⟨b,o+k*2,none⟩=some (.int .i64 n)∧w'.cell? ⟨b,o+k*2+1,none⟩=some (.slice A3 X.length c3)) (first|with_reducible exact⟨y0,y1⟩|with_reducible exact⟨(B6.out.cell hbb).trans y0,(B6.out.cell hbb).trans y1⟩|with_reducible exact⟨(B7.out.cell hb6).trans ((B6.out.cell hbb).trans y0),(B7.out.cell hb6).trans ((B6.out.cell hbb).trans y1)⟩|exact⟨y0,y1⟩|go_keep) (first
      |((try go_simp);go_at_call 33;have _t:=tok1;go_loud (refine(HIT.out _).mono ?_;rintro e6 w6 ⟨rfl,b6⟩;replace b6:Below wr.heap.size wr w6:=(by first|exact b6|exact aa (ah _) b6);have B6:=Jj b6;have hb6:=Jw hbb b6.size;have HI6:=Jj (HI.out.bel b6);clear tok1 b6;(try dsimp only)))
      |((try go_simp);go_at_call 30;have _t:=tok2;go_loud (refine(HFP.out _ HI6.out).mono ?_;rintro e7 w7 ⟨rfl,b7⟩;have B7:=Jj b7;clear tok2 b7;(try dsimp only)))
      |fail)
     all_goals
      have HBE:=Jj (aa (aa H.out.2 B6.out) B7.out);go_wp2;go_roundw
      case rel=>exact⟨k+1,_,hlt,by go_num,rfl,HJ2.out.symm,HR.out,by first|exact HBE.out|exact HBE.out.drew⟩
      case measure=>simp[intOf];omega
   ·obtain rfl:k=ps.length:=by omega
    have HE:=Jj (show O=da ps by rw[HZ.out,H.out.1,List.take_length]);go_wp2;go_ret;exact⟨by rw[←HE.out];rfl,H.out.2⟩
theorem Sxn.kept {P:Nat→Prop} {w:World} {R:Nat} {p e t:Value} {d:ae} {X:World} (h:Sxn P w R p e t d X) (p' e' t':Value) (d':ae):
  ((((((X.setCell ⟨R,0,none⟩ p').setCell ⟨R,1,none⟩ e').setCell ⟨R,2,none⟩ t').setCell ⟨R,3,none⟩ (.int .i64 d'.rw)).setCell ⟨R,4,none⟩ (.int .i64 d'.ac)).setCell ⟨R,5,none⟩ (.int .i64 d'.wi)).cell? ⟨w.heap.size,0,none⟩=some p∧((((((X.setCell ⟨R,0,none⟩ p').setCell ⟨R,1,none⟩ e').setCell ⟨R,2,none⟩ t').setCell ⟨R,3,none⟩ (.int .i64 d'.rw)).setCell ⟨R,4,none⟩ (.int .i64 d'.ac)).setCell ⟨R,5,none⟩ (.int .i64 d'.wi)).cell? ⟨w.heap.size,1,none⟩=some e∧((((((X.setCell ⟨R,0,none⟩ p').setCell ⟨R,1,none⟩ e').setCell ⟨R,2,none⟩ t').setCell ⟨R,3,none⟩ (.int .i64 d'.rw)).setCell ⟨R,4,none⟩ (.int .i64 d'.ac)).setCell ⟨R,5,none⟩ (.int .i64 d'.wi)).cell? ⟨w.heap.size,2,none⟩=some t∧((((((X.setCell ⟨R,0,none⟩ p').setCell ⟨R,1,none⟩ e').setCell ⟨R,2,none⟩ t').setCell ⟨R,3,none⟩ (.int .i64 d'.rw)).setCell ⟨R,4,none⟩ (.int .i64 d'.ac)).setCell ⟨R,5,none⟩ (.int .i64 d'.wi)).cell? ⟨w.heap.size,3,none⟩=some (.int .i64 d.rw)∧((((((X.setCell ⟨R,0,none⟩ p').setCell ⟨R,1,none⟩ e').setCell ⟨R,2,none⟩ t').setCell ⟨R,3,none⟩ (.int .i64 d'.rw)).setCell ⟨R,4,none⟩ (.int .i64 d'.ac)).setCell ⟨R,5,none⟩ (.int .i64 d'.wi)).cell? ⟨w.heap.size,4,none⟩=some (.int .i64 d.ac)∧((((((X.setCell ⟨R,0,none⟩ p').setCell ⟨R,1,none⟩ e').setCell ⟨R,2,none⟩ t').setCell ⟨R,3,none⟩ (.int .i64 d'.rw)).setCell ⟨R,4,none⟩ (.int .i64 d'.ac)).setCell ⟨R,5,none⟩ (.int .i64 d'.wi)).cell? ⟨w.heap.size,5,none⟩=some (.int .i64 d.wi):=by
 have hne:w.heap.size≠R:=by have:=h.siz.1;omega
 obtain⟨-,hg⟩:=wI h.out p' e' t' d';have hb:SxB ((((((X.setCell ⟨R,0,none⟩ p').setCell ⟨R,1,none⟩ e').setCell ⟨R,2,none⟩ t').setCell ⟨R,3,none⟩ (.int .i64 d'.rw)).setCell ⟨R,4,none⟩ (.int .i64 d'.ac)).setCell ⟨R,5,none⟩ (.int .i64 d'.wi)) w.heap.size p e t d:=by
  have:=hg.block w.heap.size h.box.lt (fun e=>hne (JC e));unfold SxB Blk;rw[this];exact h.box
 exact hb.cells
theorem kX (P:Nat→Prop) (v:Value) (d:ae) (w:World) (hs:SxR P w v d) (hn:SxN P w):
  Calls prog 10 #[v,.string kQ] w (SxQ P w (aM d kQ)) ∧
  Calls prog 10 #[v,.string kN] w (SxQ P w (aM d kN)) ∧
  Calls prog 10 #[v,.string kP] w (SxQ P w (aM d kP)) ∧
  Calls prog 10 #[v,.string gQ] w (SxQ P w (aM d gQ)) ∧
  Calls prog 10 #[v,.string gN] w (SxQ P w (aM d gN)):=by
 obtain⟨p,e,t,rfl,hs0⟩:=hs.s;obtain⟨Ap,cp,rfl,-,-,-⟩:=hs0.1.1.open_;obtain⟨Ae,ce,rfl,-,-,-⟩:=hs0.2.1.1.open_;obtain⟨At,ct,rfl,-,-,-⟩:=hs0.2.2.1.open_;have HS:=Jj (Sxn.first hs0 hn);obtain⟨c0,c1,c2,c3,c4,c5⟩:=HS.out.box.cells;obtain⟨f0,f1,f2,f3,f4,f5⟩:=HS.out.out.frz;obtain⟨z0,z1,z2,z3,z4,z5⟩:=HS.out.out.cells;clear hs hs0 hn;refine⟨?a0,?a1,?a2,?a3,?a4⟩
 case' a0=>
  obtain⟨r,hr⟩:∃r:ByteArray×ae,aM d kQ=r:=⟨_,rfl⟩;have HRR:=Jj (hr.symm.trans (m8 d));rw[hr];clear hr;unfold kQ
  go_enter func10,ntmps10
  go_wp2_with fail
  generalize hW:World.alloc _ _=W at HS c0 c1 c2 c3 c4 c5 f0 f1 f2 f3 f4 f5 z0 z1 z2 z3 z4 z5 ⊢;clear hW;refine(show Calls prog 22 #[.agg #[.slice Ae d.eng.length ce]] W (cj W (gY d.eng) (af d.eng)) from Bg _ d.eng _ HS.out.sta.2.1.1).mono ?_;rintro e1 w1 ⟨x1,rfl,o1,b1⟩;obtain⟨A1,k1,rfl,-,-,-⟩:=o1.strs.open_;generalize (gY d.eng)=L at o1 HRR ⊢
 case' a1=>
  obtain⟨r,hr⟩:∃r:ByteArray×ae,aM d kN=r:=⟨_,rfl⟩;have HRR:=Jj (hr.symm.trans (mY d));rw[hr];clear hr;unfold kN
  go_enter func10,ntmps10
  go_wp2_with fail
  generalize hW:World.alloc _ _=W at HS c0 c1 c2 c3 c4 c5 f0 f1 f2 f3 f4 f5 z0 z1 z2 z3 z4 z5 ⊢;clear hW;refine(Be _ d.eng _ HS.out.sta.2.1.1).mono ?_;rintro e1 w1 ⟨x1,rfl,o1,b1⟩;obtain⟨A1,k1,rfl,-,-,-⟩:=o1.strs.open_;generalize (bw aY d.eng)=L at o1 HRR ⊢
 case' a2=>
  obtain⟨r,hr⟩:∃r:ByteArray×ae,aM d kP=r:=⟨_,rfl⟩;have HRR:=Jj (hr.symm.trans (m7 d));rw[hr];clear hr;unfold kP
  go_enter func10,ntmps10
  go_wp2_with fail
  generalize hW:World.alloc _ _=W at HS c0 c1 c2 c3 c4 c5 f0 f1 f2 f3 f4 f5 z0 z1 z2 z3 z4 z5 ⊢;clear hW;refine(Bb _ d.eng _ HS.out.sta.2.1.1).mono ?_;rintro e1 w1 ⟨x1,rfl,o1,b1⟩;obtain⟨A1,k1,rfl,-,-,-⟩:=o1.strs.open_;generalize (bw bY d.eng)=L at o1 HRR ⊢
 case' a3=>
  obtain⟨r,hr⟩:∃r:ByteArray×ae,aM d gQ=r:=⟨_,rfl⟩;have HRR:=Jj (hr.symm.trans (lv d));rw[hr];clear hr;unfold gQ
  go_enter func10,ntmps10
  go_wp2_with fail
  generalize hW:World.alloc _ _=W at HS c0 c1 c2 c3 c4 c5 f0 f1 f2 f3 f4 f5 z0 z1 z2 z3 z4 z5 ⊢;clear hW;refine(Bh _ d.eng _ HS.out.sta.2.1.1).mono ?_;rintro e1 w1 ⟨x1,rfl,o1,b1⟩;obtain⟨A1,k1,rfl,-,-,-⟩:=o1.strs.open_;generalize (bw eD d.eng)=L at o1 HRR ⊢
 case' a4=>
  obtain⟨r,hr⟩:∃r:ByteArray×ae,aM d gN=r:=⟨_,rfl⟩;have HRR:=Jj (hr.symm.trans (lu d));rw[hr];clear hr;unfold gN
  go_enter func10,ntmps10
  go_wp2_with fail
  generalize hW:World.alloc _ _=W at HS c0 c1 c2 c3 c4 c5 f0 f1 f2 f3 f4 f5 z0 z1 z2 z3 z4 z5 ⊢;clear hW;refine(show Calls prog 27 #[.agg #[.slice Ae d.eng.length ce]] W (cj W (bw lB d.eng) (af d.eng)) from Bf _ d.eng _ HS.out.sta.2.1.1).mono ?_;rintro e1 w1 ⟨x1,rfl,o1,b1⟩;obtain⟨A1,k1,rfl,-,-,-⟩:=o1.strs.open_;generalize (bw lB d.eng)=L at o1 HRR ⊢
 all_goals
  have ba:Below w1.heap.size w1 (w1.alloc (.cells #[.slice A1 (L).length k1] 32)):=ab w1 _;have KE:=Blk.new' w1 32 (.slice A1 (L).length k1) w1.heap.size rfl;have H1:=Jj (HS.out.next (aa b1 ba));have HX:=Jj (o1.strs.bel ba);have HXO:=Jj (HS.out.engO o1);clear c0 c1 c2 c3 c4 c5 f0 f1 f2 f3 f4 f5 z0 z1 z2 z3 z4 z5 b1 ba o1;obtain⟨c0,c1,c2,c3,c4,c5⟩:=H1.out.box.cells;obtain⟨f0,f1,f2,f3,f4,f5⟩:=H1.out.out.frz;obtain⟨z0,z1,z2,z3,z4,z5⟩:=H1.out.out.cells;obtain⟨u0,-⟩:=KE.one
  go_wp2_with fail
  generalize hW1:w1.alloc (.cells #[.slice A1 (L).length k1] 32)=W1 at H1 HX ⊢;clear hW1 c0 c1 c2 c3 c4 c5 f0 f1 f2 f3 f4 f5 z0 z1 z2 z3 z4 z5 u0 KE;have HM:=lF _ _ _ d (L) (af d.eng) W1 H1.out.sta.r HX.out HXO.out H1.out.new;obtain⟨q,hq⟩:∃q:ByteArray×ae,(ak (bD (L)) (af d.eng),bd d (L) (af d.eng))=q:=⟨_,rfl⟩;have HRQ:=Jj (show r=q from HRR.out.trans hq);rw[hq] at HM;clear hq;refine HM.mono ?_;rintro e3 w3 ⟨v3,rfl,s3,b3⟩;have H3:=Jj (H1.out.next b3);obtain⟨p2,e2,t2,rfl,sq⟩:=s3.s;obtain⟨Ap2,cp2,rfl,-,-,-⟩:=sq.1.1.open_;obtain⟨Ae2,ce2,rfl,-,-,-⟩:=sq.2.1.1.open_;obtain⟨At2,ct2,rfl,-,-,-⟩:=sq.2.2.1.open_;have SQ:=Jj sq;clear sq;clear b3 HM;obtain⟨c0,c1,c2,c3,c4,c5⟩:=H3.out.box.cells;obtain⟨f0,f1,f2,f3,f4,f5⟩:=H3.out.out.frz;obtain⟨z0,z1,z2,z3,z4,z5⟩:=H3.out.out.cells;go_wp2;obtain⟨kk,ss,bb⟩:=H3.out.done SQ.out;generalize World.setCell _ _ _=w9 at kk ss bb ⊢;obtain⟨x0,x1,x2,x3,x4,x5⟩:=kk.cells;refine bodyPost_ret (v:=.tuple #[.agg #[(.slice Ap2 q.2.poly.length cp2),(.slice Ae2 q.2.eng.length ce2),(.slice At2 q.2.tab.length ct2),.int .i64 q.2.rw,.int .i64 q.2.ac,.int .i64 q.2.wi],.string q.1]) (by simp[results,results10,go_sem,x0,x1,x2,x3,x4,x5]) rfl ?_;rw[HRQ.out];exact⟨_,rfl,ss,bb⟩
theorem Fg (P:Nat→Prop) (v:Value) (d:ae) (w:World) (hs:SxR P w v d) (hn:SxN P w):Calls prog 10 #[v,.string ej] w (SxQ P w (aM d ej)):=by
 obtain⟨p,e,t,rfl,hs0⟩:=hs.s;obtain⟨Ap,cp,rfl,-,-,-⟩:=hs0.1.1.open_;obtain⟨Ae,ce,rfl,-,-,-⟩:=hs0.2.1.1.open_;obtain⟨At,ct,rfl,-,-,-⟩:=hs0.2.2.1.open_;have HS:=Jj (Sxn.first hs0 hn);have HSAME:=Jj (SxS.same hs0 hn);obtain⟨c0,c1,c2,c3,c4,c5⟩:=HS.out.box.cells;obtain⟨f0,f1,f2,f3,f4,f5⟩:=HS.out.out.frz;obtain⟨z0,z1,z2,z3,z4,z5⟩:=HS.out.out.cells;obtain⟨r,hr⟩:∃r:ByteArray×ae,aM d ej=r:=⟨_,rfl⟩;have HRR:=Jj hr;rw[hr];clear hs hs0 hn hr;have hsz:=fs d.poly;have hcat:¬ 9223372036854775807<(ax d.poly).size+1:=by omega
 unfold ej;have HVP0:=Jj HS.out.sta.1.1
 go_enter func10,ntmps10
 have tok1:True:=trivial
 go_wp2_with fail
 generalize hW:World.alloc _ _=W at HS c0 c1 c2 c3 c4 c5 f0 f1 f2 f3 f4 f5 z0 z1 z2 z3 z4 z5 HVP0 ⊢;clear hW;have HVP:=HVP0
 go_region_law (first
  |((try go_simp);go_at_call 30;have _t:=tok1;go_loud (refine(bE _ d.poly _ (by first|exact HVP.out|exact HVP.out.bel (ah _))).mono ?_;rintro e5 w5 ⟨rfl,b5⟩;replace b5:Below W.heap.size W w5:=(by first|exact b5|exact aa (ah _) b5);have G5:=Jj (HS.out.next b5);obtain⟨f0,f1,f2,f3,f4,f5⟩:=G5.out.out.frz;obtain⟨z0,z1,z2,z3,z4,z5⟩:=G5.out.out.cells;obtain⟨y0,y1,y2,y3,y4,y5⟩:=G5.out.box.cells;clear tok1 b5;(try dsimp only)))
  |fail)
 all_goals
  go_wp2;obtain⟨kk,ss,bb⟩:=G5.out.done G5.out.sta;generalize World.setCell _ _ _=w9 at kk ss bb ⊢;obtain⟨x0,x1,x2,x3,x4,x5⟩:=kk.cells;refine bodyPost_ret (v:=.tuple #[.agg #[(.slice Ap d.poly.length cp),(.slice Ae d.eng.length ce),(.slice At d.tab.length ct),.int .i64 d.rw,.int .i64 d.ac,.int .i64 d.wi],.string (ax d.poly++⟨#[10]⟩)]) (by simp[results,results10,go_sem,x0,x1,x2,x3,x4,x5]) rfl ?_;rw[show r=(ax d.poly++⟨#[10]⟩,d) from HRR.out.symm.trans (mZ d)];exact⟨_,rfl,ss,bb⟩
theorem AF (P:Nat→Prop) (v:Value) (d:ae) (w:World) (ht:d.tab.length≤1048576) (hs:SxR P w v d) (hn:SxN P w):Calls prog 10 #[v,.string gK] w (SxQ P w (aM d gK)):=by
 obtain⟨p,e,t,rfl,hs0⟩:=hs.s;obtain⟨Ap,cp,rfl,-,-,-⟩:=hs0.1.1.open_;obtain⟨Ae,ce,rfl,-,-,-⟩:=hs0.2.1.1.open_;obtain⟨At,ct,rfl,-,-,-⟩:=hs0.2.2.1.open_;have HS:=Jj (Sxn.first hs0 hn);have HSAME:=Jj (SxS.same hs0 hn);obtain⟨c0,c1,c2,c3,c4,c5⟩:=HS.out.box.cells;obtain⟨f0,f1,f2,f3,f4,f5⟩:=HS.out.out.frz;obtain⟨z0,z1,z2,z3,z4,z5⟩:=HS.out.out.cells;obtain⟨r,hr⟩:∃r:ByteArray×ae,aM d gK=r:=⟨_,rfl⟩;have HRR:=Jj hr;rw[hr];clear hs hs0 hn hr;have hdb:=sH d.tab;have hsz:=tH d.tab;unfold gK;have HVT0:=Jj HS.out.sta.2.2.1
 go_enter func10,ntmps10
 have tok1:True:=trivial;have tok2:True:=trivial;have tok3:True:=trivial;have tok4:True:=trivial
 go_wp2_with fail
 generalize hW:World.alloc _ _=W at HS c0 c1 c2 c3 c4 c5 f0 f1 f2 f3 f4 f5 z0 z1 z2 z3 z4 z5 HVT0 ⊢;clear hW;have HVT:=HVT0
 go_region_held3 (fun w'=>w'.cell? ⟨w.heap.size,0,none⟩=some (.slice Ap d.poly.length cp)∧w'.cell? ⟨w.heap.size,1,none⟩=some (.slice Ae d.eng.length ce)∧w'.cell? ⟨w.heap.size,2,none⟩=some (.slice At d.tab.length ct)∧w'.cell? ⟨w.heap.size,3,none⟩=some (.int .i64 d.rw)∧w'.cell? ⟨w.heap.size,4,none⟩=some (.int .i64 d.ac)∧w'.cell? ⟨w.heap.size,5,none⟩=some (.int .i64 d.wi)) (first|with_reducible exact⟨c0,c1,c2,c3,c4,c5⟩|with_reducible exact G7.out.kept (.slice Ap d.poly.length cp) (.slice Ae d.eng.length ce) (.slice At d.tab.length ct) d|exact⟨c0,c1,c2,c3,c4,c5⟩|exact G7.out.kept (.slice Ap d.poly.length cp) (.slice Ae d.eng.length ce) (.slice At d.tab.length ct) d|go_keep)
  (first
  |((try go_simp);go_at_call 32;have _t:=tok1;go_loud (refine(az _ d.tab _ (by first|exact HVT.out|exact HVT.out.bel (ah _))).mono ?_;rintro e5 w5 ⟨rfl,rfl⟩;clear tok1;(try dsimp only)))
  |((try go_simp);go_at_call 34;have _t:=tok2;go_loud (refine(mT _ d.tab _ (by first|exact HVT.out|exact HVT.out.bel (ah _)) ht).mono ?_;rintro e6 w6 ⟨rfl,b6⟩;replace b6:Below W.heap.size W w6:=(by first|exact b6|exact aa (ah _) b6);have G6:=Jj (HS.out.next b6);obtain⟨f0,f1,f2,f3,f4,f5⟩:=G6.out.out.frz;obtain⟨z0,z1,z2,z3,z4,z5⟩:=G6.out.out.cells;obtain⟨c0,c1,c2,c3,c4,c5⟩:=G6.out.box.cells;clear tok2 b6;(try dsimp only)))
  |((try go_simp);go_at_call 33;have _t:=tok3;go_loud (refine(cO (ew d.tab) _ (by omega) (by omega)).mono ?_;rintro e7 w7 ⟨rfl,b7⟩;replace b7:Below w6.heap.size w6 w7:=(by first|exact b7|exact aa (ah _) b7);have G7:=Jj (G6.out.next b7);obtain⟨f0,f1,f2,f3,f4,f5⟩:=G7.out.out.frz;obtain⟨z0,z1,z2,z3,z4,z5⟩:=G7.out.out.cells;obtain⟨c0,c1,c2,c3,c4,c5⟩:=G7.out.box.cells;clear tok3 b7;(try dsimp only)))
  |((try go_simp);go_at_call 29;have _t:=tok4;go_loud (refine(dD (ag d.tab) (au (ew d.tab)) _ (by omega)).mono ?_;rintro e8 w8 ⟨rfl,rfl⟩;clear tok4;(try dsimp only)))
  |fail)
 all_goals
  go_wp2;obtain⟨kk,ss,bb⟩:=G7.out.done G7.out.sta;generalize World.setCell _ _ _=w9 at kk ss bb ⊢;obtain⟨x0,x1,x2,x3,x4,x5⟩:=kk.cells;refine bodyPost_ret (v:=.tuple #[.agg #[(.slice Ap d.poly.length cp),(.slice Ae d.eng.length ce),(.slice At d.tab.length ct),.int .i64 d.rw,.int .i64 d.ac,.int .i64 d.wi],.string (ak (au (ew d.tab)) (ag d.tab))]) (by simp[results,results10,go_sem,x0,x1,x2,x3,x4,x5]) rfl ?_;rw[show r=(ak (au (ew d.tab)) (ag d.tab),d) from HRR.out.symm.trans (lr d)];exact⟨_,rfl,ss,bb⟩
theorem Dc (P:Nat→Prop) (v:Value) (d:ae) (w:World) (ht:d.tab.length≤60) (hs:SxR P w v d) (hn:SxN P w):Calls prog 10 #[v,.string iZ] w (SxQ P w (aM d iZ)):=by
 obtain⟨p,e,t,rfl,hs0⟩:=hs.s;obtain⟨Ap,cp,rfl,-,-,-⟩:=hs0.1.1.open_;obtain⟨Ae,ce,rfl,-,-,-⟩:=hs0.2.1.1.open_;obtain⟨At,ct,rfl,-,-,-⟩:=hs0.2.2.1.open_;have HS:=Jj (Sxn.first hs0 hn);have HSAME:=Jj (SxS.same hs0 hn);obtain⟨c0,c1,c2,c3,c4,c5⟩:=HS.out.box.cells;obtain⟨f0,f1,f2,f3,f4,f5⟩:=HS.out.out.frz;obtain⟨z0,z1,z2,z3,z4,z5⟩:=HS.out.out.cells;obtain⟨r,hr⟩:∃r:ByteArray×ae,aM d iZ=r:=⟨_,rfl⟩;have HRR:=Jj hr;rw[hr];clear hs hs0 hn hr;obtain⟨hsz,hsl⟩:=pB d.tab ht;unfold iZ;have HVT0:=Jj HS.out.sta.2.2.1
 go_enter func10,ntmps10
 have tok1:True:=trivial;have tok2:True:=trivial;have tok3:True:=trivial;have tok4:True:=trivial
 go_wp2_with fail
 generalize hW:World.alloc _ _=W at HS c0 c1 c2 c3 c4 c5 f0 f1 f2 f3 f4 f5 z0 z1 z2 z3 z4 z5 HVT0 ⊢;clear hW;have HVT:=HVT0
 go_region_held3 (fun w'=>w'.cell? ⟨w.heap.size,0,none⟩=some (.slice Ap d.poly.length cp)∧w'.cell? ⟨w.heap.size,1,none⟩=some (.slice Ae d.eng.length ce)∧w'.cell? ⟨w.heap.size,2,none⟩=some (.slice At d.tab.length ct)∧w'.cell? ⟨w.heap.size,3,none⟩=some (.int .i64 d.rw)∧w'.cell? ⟨w.heap.size,4,none⟩=some (.int .i64 d.ac)∧w'.cell? ⟨w.heap.size,5,none⟩=some (.int .i64 d.wi)) (first|with_reducible exact⟨c0,c1,c2,c3,c4,c5⟩|with_reducible exact G7.out.kept (.slice Ap d.poly.length cp) (.slice Ae d.eng.length ce) (.slice At d.tab.length ct) d|exact⟨c0,c1,c2,c3,c4,c5⟩|exact G7.out.kept (.slice Ap d.poly.length cp) (.slice Ae d.eng.length ce) (.slice At d.tab.length ct) d|go_keep)
  (first
  |((try go_simp);go_at_call 32;have _t:=tok1;go_loud (refine(az _ d.tab _ (by first|exact HVT.out|exact HVT.out.bel (ah _))).mono ?_;rintro e5 w5 ⟨rfl,rfl⟩;clear tok1;(try dsimp only)))
  |((try go_simp);go_at_call 36;have _t:=tok2;go_loud (refine(uI _ d.tab _ (by first|exact HVT.out|exact HVT.out.bel (ah _))).mono ?_;rintro e6 w6 ⟨x1,rfl,o1,b6⟩;replace b6:Below W.heap.size W w6:=(by first|exact b6|exact aa (ah _) b6);have G6:=Jj (HS.out.next b6);have HO:=Jj o1.ints;obtain⟨A1,k1,rfl,-,-,-⟩:=o1.ints.open_;clear o1;obtain⟨f0,f1,f2,f3,f4,f5⟩:=G6.out.out.frz;obtain⟨z0,z1,z2,z3,z4,z5⟩:=G6.out.out.cells;obtain⟨c0,c1,c2,c3,c4,c5⟩:=G6.out.box.cells;clear tok2 b6;(try dsimp only)))
  |((try go_simp);go_at_call 35;have _t:=tok3;go_loud (refine(cW _ (fc d.tab 9) _ HO.out (by omega)).mono ?_;rintro e7 w7 ⟨rfl,b7⟩;replace b7:Below w6.heap.size w6 w7:=(by first|exact b7|exact aa (ah _) b7);have G7:=Jj (G6.out.next b7);obtain⟨f0,f1,f2,f3,f4,f5⟩:=G7.out.out.frz;obtain⟨z0,z1,z2,z3,z4,z5⟩:=G7.out.out.cells;obtain⟨c0,c1,c2,c3,c4,c5⟩:=G7.out.box.cells;clear tok3 b7;(try dsimp only)))
  |((try go_simp);go_at_call 29;have _t:=tok4;go_loud (refine(dD (ag d.tab) (aw (fc d.tab 9)) _ (by omega)).mono ?_;rintro e8 w8 ⟨rfl,rfl⟩;clear tok4;(try dsimp only)))
  |fail)
 all_goals
  go_wp2;obtain⟨kk,ss,bb⟩:=G7.out.done G7.out.sta;generalize World.setCell _ _ _=w9 at kk ss bb ⊢;obtain⟨x0,x1,x2,x3,x4,x5⟩:=kk.cells;refine bodyPost_ret (v:=.tuple #[.agg #[(.slice Ap d.poly.length cp),(.slice Ae d.eng.length ce),(.slice At d.tab.length ct),.int .i64 d.rw,.int .i64 d.ac,.int .i64 d.wi],.string (ak (aw (fc d.tab 9)) (ag d.tab))]) (by simp[results,results10,go_sem,x0,x1,x2,x3,x4,x5]) rfl ?_;rw[show r=(ak (aw (fc d.tab 9)) (ag d.tab),d) from HRR.out.symm.trans (mi d)];exact⟨_,rfl,ss,bb⟩
theorem Dd (P:Nat→Prop) (v:Value) (d:ae) (w:World) (ok:d.Ok) (hs:SxR P w v d) (hn:SxN P w):Calls prog 10 #[v,.string ja] w (SxQ P w (aM d ja)):=by
 obtain⟨p,e,t,rfl,hs0⟩:=hs.s;obtain⟨Ap,cp,rfl,-,-,-⟩:=hs0.1.1.open_;obtain⟨Ae,ce,rfl,-,-,-⟩:=hs0.2.1.1.open_;obtain⟨At,ct,rfl,-,-,-⟩:=hs0.2.2.1.open_;have HS:=Jj (Sxn.first hs0 hn);have HSAME:=Jj (SxS.same hs0 hn);obtain⟨c0,c1,c2,c3,c4,c5⟩:=HS.out.box.cells;obtain⟨f0,f1,f2,f3,f4,f5⟩:=HS.out.out.frz;obtain⟨z0,z1,z2,z3,z4,z5⟩:=HS.out.out.cells;obtain⟨r,hr⟩:∃r:ByteArray×ae,aM d ja=r:=⟨_,rfl⟩;have HRR:=Jj hr;rw[hr];clear hs hs0 hn hr;have hsz:=congrArg ByteArray.size (lc ok);have hpl:=og ok;rw[Jt] at hsz;have h10:(⟨#[10]⟩:ByteArray).size=1:=rfl;have hcat:¬ 9223372036854775807<(kD d).size+1:=by omega
 unfold ja;have HVT0:=Jj HS.out.sta.2.2.1
 go_enter func10,ntmps10
 have tok1:True:=trivial
 go_wp2_with fail
 generalize hW:World.alloc _ _=W at HS c0 c1 c2 c3 c4 c5 f0 f1 f2 f3 f4 f5 z0 z1 z2 z3 z4 z5 HVT0 ⊢;clear hW;have HVT:=HVT0
 go_region_held3 (fun w'=>w'.cell? ⟨w.heap.size,0,none⟩=some (.slice Ap d.poly.length cp)∧w'.cell? ⟨w.heap.size,1,none⟩=some (.slice Ae d.eng.length ce)∧w'.cell? ⟨w.heap.size,2,none⟩=some (.slice At d.tab.length ct)∧w'.cell? ⟨w.heap.size,3,none⟩=some (.int .i64 d.rw)∧w'.cell? ⟨w.heap.size,4,none⟩=some (.int .i64 d.ac)∧w'.cell? ⟨w.heap.size,5,none⟩=some (.int .i64 d.wi)) (first|with_reducible exact⟨c0,c1,c2,c3,c4,c5⟩|with_reducible exact G5.out.kept (.slice Ap d.poly.length cp) (.slice Ae d.eng.length ce) (.slice At d.tab.length ct) d|exact⟨c0,c1,c2,c3,c4,c5⟩|exact G5.out.kept (.slice Ap d.poly.length cp) (.slice Ae d.eng.length ce) (.slice At d.tab.length ct) d|go_keep)
  (first
  |((try go_simp);go_at_call 37;have _t:=tok1;go_loud (refine(qo d _ _ (by first|exact HVT.out|exact HVT.out.bel (ah _)) ok).mono ?_;rintro e5 w5 ⟨rfl,b5⟩;replace b5:Below W.heap.size W w5:=(by first|exact b5|exact aa (ah _) b5);have G5:=Jj (HS.out.next b5);obtain⟨f0,f1,f2,f3,f4,f5⟩:=G5.out.out.frz;obtain⟨z0,z1,z2,z3,z4,z5⟩:=G5.out.out.cells;obtain⟨c0,c1,c2,c3,c4,c5⟩:=G5.out.box.cells;clear tok1 b5;(try dsimp only)))
  |fail)
 all_goals
  go_wp2;obtain⟨kk,ss,bb⟩:=G5.out.done G5.out.sta;generalize World.setCell _ _ _=w9 at kk ss bb ⊢;obtain⟨x0,x1,x2,x3,x4,x5⟩:=kk.cells;refine bodyPost_ret (v:=.tuple #[.agg #[(.slice Ap d.poly.length cp),(.slice Ae d.eng.length ce),(.slice At d.tab.length ct),.int .i64 d.rw,.int .i64 d.ac,.int .i64 d.wi],.string (kD d++⟨#[10]⟩)]) (by simp[results,results10,go_sem,x0,x1,x2,x3,x4,x5]) rfl ?_;rw[show r=(kD d++⟨#[10]⟩,d) from HRR.out.symm.trans ((mj d).trans (by rw[lc ok]))];exact⟨_,rfl,ss,bb⟩
theorem Fi (P:Nat→Prop) (v:Value) (d:ae) (s:ByteArray) (w:World) (hs:SxR P w v d) (hn:SxN P w) (h:s∉dj):Calls prog 10 #[v,.string s] w (SxQ P w (aM d s)):=by
 have HW:=Jj (rc d s (fun w hw e=>h (e▸hw)));simp only[dj,Jz,JA,or_false,not_or] at h;obtain⟨h1,h2,h3,h4,h5,h6,h7,h8,h9,h10,h11⟩:=h;replace h1:=bB (l:=[116,117,114,110]) h1;replace h2:=bB (l:=[98,97,99,107]) h2;replace h3:=bB (l:=[115,107,101,119]) h3;replace h4:=bB (l:=[117,110,115,107,101,119]) h4;replace h5:=bB (l:=[104,97,108,118,101,115]) h5;replace h6:=bB (l:=[114,101,97,100]) h6;replace h7:=bB (l:=[102,105,116]) h7;replace h8:=bB (l:=[100,101,103,114,101,101]) h8;replace h9:=bB (l:=[110,105,110,101,115]) h9;replace h10:=bB (l:=[112,114,105,110,116]) h10;replace h11:=bB (l:=[112,111,108,121]) h11;obtain⟨p,e,t,rfl,hs0⟩:=hs.s;obtain⟨Ap,cp,rfl,-,-,-⟩:=hs0.1.1.open_;obtain⟨Ae,ce,rfl,-,-,-⟩:=hs0.2.1.1.open_;obtain⟨At,ct,rfl,-,-,-⟩:=hs0.2.2.1.open_;have HS:=Jj (Sxn.first hs0 hn);have HSAME:=Jj (SxS.same hs0 hn);obtain⟨c0,c1,c2,c3,c4,c5⟩:=HS.out.box.cells;obtain⟨f0,f1,f2,f3,f4,f5⟩:=HS.out.out.frz;obtain⟨z0,z1,z2,z3,z4,z5⟩:=HS.out.out.cells;obtain⟨r,hr⟩:∃r:ByteArray×ae,aM d s=r:=⟨_,rfl⟩;have HRR:=Jj hr;rw[hr];clear hs hs0 hn hr
 go_enter func10,ntmps10
 go_wp2;obtain⟨kk,ss,bb⟩:=HSAME.out;generalize World.alloc _ _=w9 at kk ss bb ⊢;obtain⟨x0,x1,x2,x3,x4,x5⟩:=kk.cells;refine bodyPost_ret (v:=.tuple #[.agg #[(.slice Ap d.poly.length cp),(.slice Ae d.eng.length ce),(.slice At d.tab.length ct),.int .i64 d.rw,.int .i64 d.ac,.int .i64 d.wi],.string ⟨#[119,104,97,116,10]⟩]) (by simp[results,results10,go_sem,x0,x1,x2,x3,x4,x5]) rfl ?_;rw[show r=(⟨#[119,104,97,116,10]⟩,d) from HRR.out.symm.trans (HW.out)];exact⟨_,rfl,ss,bb⟩
theorem Sxn.keptB {P:Nat→Prop} {w:World} {R:Nat} {p e t:Value} {d:ae} {X:World} {b:Nat} {ty:TypeId} {cs:List Value} (h:Sxn P w R p e t d X) (hb:Blk X b ty cs) (hne:b≠R) (p' e' t':Value) (d':ae):
  Blk ((((((X.setCell ⟨R,0,none⟩ p').setCell ⟨R,1,none⟩ e').setCell ⟨R,2,none⟩ t').setCell ⟨R,3,none⟩ (.int .i64 d'.rw)).setCell ⟨R,4,none⟩ (.int .i64 d'.ac)).setCell ⟨R,5,none⟩ (.int .i64 d'.wi)) b ty cs:=by
 obtain⟨-,hg⟩:=wI h.out p' e' t' d';exact(hg.block b hb.lt (fun e=>hne (JC e))).trans hb
theorem CS (P:Nat→Prop) (v:Value) (d:ae) (t:ByteArray) (w:World) (ht:t.size≤1048576) (ok:d.Ok) (hs:SxR P w v d) (hn:SxN P w):
  Calls prog 47 #[v,.string t] w (SxQ P w (gx d t,jh d t)):=by
 have HOK:=Jj ok;obtain⟨J,T,hR⟩:∃J T,spR t=(J,T):=⟨_,_,rfl⟩;have HR:=Jj hR;clear hR ok;obtain⟨p,e,tt,rfl,hs0⟩:=hs.s;obtain⟨Ap,cp,rfl,-,-,-⟩:=hs0.1.1.open_;obtain⟨Ae,ce,rfl,-,-,-⟩:=hs0.2.1.1.open_;obtain⟨At,ct,rfl,-,-,-⟩:=hs0.2.2.1.open_;have HS:=Jj (Sxn.first hs0 hn);have HSAME:=Jj (SxS.same hs0 hn);obtain⟨c0,c1,c2,c3,c4,c5⟩:=HS.out.box.cells;obtain⟨f0,f1,f2,f3,f4,f5⟩:=HS.out.out.frz;obtain⟨z0,z1,z2,z3,z4,z5⟩:=HS.out.out.cells;obtain⟨r,hr⟩:∃r:ByteArray×ae,(gx d t,jh d t)=r:=⟨_,rfl⟩;have HRR:=Jj hr;rw[hr];clear hs hs0 hn hr
 go_enter func47,ntmps47
 go_wp2_with fail
 generalize hW:World.alloc _ _=W at HS c0 c1 c2 c3 c4 c5 f0 f1 f2 f3 f4 f5 z0 z1 z2 z3 z4 z5 ⊢;clear hW;refine(AW t _ ht).mono ?_;rintro e2 w2 ⟨⟨v2,he,o2,jin⟩,b2⟩;rw[HR.out] at he o2 jin;subst he;obtain⟨A,c,rfl,-,-,-⟩:=o2.ints.open_;have ba:Below w2.heap.size w2 (w2.alloc (.cells (aS (.slice A J.poly.length c) J).toArray 97)):=ab w2 _;have K2:=Blk.new w2 97 (aS (.slice A J.poly.length c) J);have HPO:=Jj (HS.out.polyO o2);have hwz:=HS.out.siz;have hne1:w.heap.size≠w2.heap.size:=by have:=b2.size;omega
 have hne2:w2.heap.size≠w.heap.size+1:=by have:=b2.size;omega
 have HX:=Jj (o2.ints.bel ba);have H2:=Jj (HS.out.next (aa b2 ba));have HJ:=Jj (show J.In from jin);obtain⟨a0,a1,a2,a3,a4,a5,a6,a7,a8⟩:=K2.job;clear c0 c1 c2 c3 c4 c5 f0 f1 f2 f3 f4 f5 z0 z1 z2 z3 z4 z5 b2 ba o2 jin;unfold cr
 go_wp2_with fail
 clear a0 a1 a2 a3 a4 a5 a6 a7 a8;change Calls _ _ #[cr (.slice A J.poly.length c) J] (w2.alloc (.cells (aS (.slice A J.poly.length c) J).toArray 97)) _;generalize hW3:w2.alloc (.cells (aS (.slice A J.poly.length c) J).toArray 97)=w3 at K2 H2 HX ⊢;clear hW3;refine(AU _ J _ HX.out HJ.out).mono ?_;rintro e3 w4 ⟨x4,rfl,o4,b4⟩;obtain⟨A4,k4,rfl,-,-,-⟩:=o4.ints.open_;have H4:=Jj (H2.out.next b4);have HX4:=Jj (HX.out.bel b4);have HK4:=Jj (K2.below b4 K2.lt);have HO4:=Jj o4;have HTO:=Jj (H2.out.tabO o4);clear b4 K2 o4;cases T
 ·have HN:=Jj (nk d (show ef t=false by unfold ef;rw[HR.out];rfl));obtain⟨c0,c1,c2,c3,c4,c5⟩:=H4.out.box.cells;obtain⟨f0,f1,f2,f3,f4,f5⟩:=H4.out.out.frz;obtain⟨z0,z1,z2,z3,z4,z5⟩:=H4.out.out.cells;go_wp2;obtain⟨kk,ss,bb⟩:=H4.out.done H4.out.sta;generalize World.setCell _ _ _=w9 at kk ss bb ⊢;obtain⟨x0,x1,x2,x3,x4,x5⟩:=kk.cells;refine bodyPost_ret (v:=.tuple #[.agg #[(.slice Ap d.poly.length cp),(.slice Ae d.eng.length ce),(.slice At d.tab.length ct),.int .i64 d.rw,.int .i64 d.ac,.int .i64 d.wi],.string ⟨#[110,111,10]⟩]) (by simp[results,results47,go_sem,x0,x1,x2,x3,x4,x5]) rfl ?_;rw[show r=(⟨#[110,111,10]⟩,d) from HRR.out.symm.trans (by rw[HN.out.1,HN.out.2];rfl)];exact⟨_,rfl,ss,bb⟩
 ·cases hq:li J
  ·have HQ:=Jj hq;clear hq;have HN:=Jj (nk d (show ef t=false by unfold ef;rw[HR.out];show li J=false;exact HQ.out));obtain⟨c0,c1,c2,c3,c4,c5⟩:=H4.out.box.cells;obtain⟨f0,f1,f2,f3,f4,f5⟩:=H4.out.out.frz;obtain⟨z0,z1,z2,z3,z4,z5⟩:=H4.out.out.cells;go_wp2;obtain⟨kk,ss,bb⟩:=H4.out.done H4.out.sta;generalize World.setCell _ _ _=w9 at kk ss bb ⊢;obtain⟨x0,x1,x2,x3,x4,x5⟩:=kk.cells;refine bodyPost_ret (v:=.tuple #[.agg #[(.slice Ap d.poly.length cp),(.slice Ae d.eng.length ce),(.slice At d.tab.length ct),.int .i64 d.rw,.int .i64 d.ac,.int .i64 d.wi],.string ⟨#[110,111,10]⟩]) (by simp[results,results47,go_sem,x0,x1,x2,x3,x4,x5]) rfl ?_;rw[show r=(⟨#[110,111,10]⟩,d) from HRR.out.symm.trans (by rw[HN.out.1,HN.out.2];rfl)];exact⟨_,rfl,ss,bb⟩
  ·obtain⟨r1,a1,i1,er,ea,ei,h1,h2,h3⟩:=vT hq;have HY:=Jj (pX d (show ef t=true by unfold ef;rw[HR.out];exact hq));have HDK:=Jj (show({ poly:=J.poly,eng:=d.eng,tab:=jtL J,rw:=r1,ac:=a1,wi:=i1 }:ae)=eK d (spR t).1 by rw[HR.out];unfold eK;rw[er,ea,ei];simp);have HDO:=Jj (show(eK d (spR t).1).Ok by rw[HR.out];exact lC HOK.out hq);have HP:=Jj (H4.out.poly HX4.out HPO.out);have HL:=Jj (HP.out.lay r1 a1 i1);have HX5:=Jj (show ai (((((w4.setCell ⟨w.heap.size,0,none⟩ (.slice A J.poly.length c)).setCell ⟨w.heap.size,3,none⟩ (.int .i64 (r1:Nat))).setCell ⟨w.heap.size,4,none⟩ (.int .i64 (a1:Nat))).setCell ⟨w.heap.size,5,none⟩ (.int .i64 (i1:Nat)))) (.slice A4 (jtL J).length k4) (jtL J) from(HO4.out.ints.rowFar (ay (ay (ay (aI w4 w.heap.size 0 (.slice A J.poly.length c)) (aI _ w.heap.size 3 (.int .i64 (r1:Nat)))) (aI _ w.heap.size 4 (.int .i64 (a1:Nat)))) (aI _ w.heap.size 5 (.int .i64 (i1:Nat)))) (HTO.out.mono fun j hj e=>hj.2.2 (JC e))));have HT:=Jj (HL.out.tab HX5.out HTO.out);have HXT:=Jj HT.out.sta.2.2.1;have HK5:=Jj (show Blk (((((w4.setCell ⟨w.heap.size,0,none⟩ (.slice A J.poly.length c)).setCell ⟨w.heap.size,3,none⟩ (.int .i64 (r1:Nat))).setCell ⟨w.heap.size,4,none⟩ (.int .i64 (a1:Nat))).setCell ⟨w.heap.size,5,none⟩ (.int .i64 (i1:Nat))).setCell ⟨w.heap.size,2,none⟩ (.slice A4 (jtL J).length k4)) w2.heap.size 97 (aS (.slice A J.poly.length c) J) from((((HK4.out.far (p:=⟨w.heap.size,0,none⟩) hne1.symm _).far (p:=⟨w.heap.size,3,none⟩) hne1.symm _).far (p:=⟨w.heap.size,4,none⟩) hne1.symm _).far (p:=⟨w.heap.size,5,none⟩) hne1.symm _).far (p:=⟨w.heap.size,2,none⟩) hne1.symm _);clear hq;obtain⟨c0,c1,c2,c3,c4,c5⟩:=H4.out.box.cells;obtain⟨f0,f1,f2,f3,f4,f5⟩:=H4.out.out.frz;obtain⟨z0,z1,z2,z3,z4,z5⟩:=H4.out.out.cells;obtain⟨g0,g1,g2,g3,g4,g5⟩:=H4.out.box.frz;obtain⟨b0,b1,b2,b3,b4,b5,b6,b7,b8⟩:=HK4.out.job;rw[er] at b6;rw[ea] at b7;rw[ei] at b8
   go_wp2_with fail
   generalize hW5:((((w4.setCell ⟨w.heap.size,0,none⟩ (.slice A J.poly.length c)).setCell ⟨w.heap.size,3,none⟩ (.int .i64 (r1:Nat))).setCell ⟨w.heap.size,4,none⟩ (.int .i64 (a1:Nat))).setCell ⟨w.heap.size,5,none⟩ (.int .i64 (i1:Nat))).setCell ⟨w.heap.size,2,none⟩ (.slice A4 (jtL J).length k4)=W5 at HT HXT HK5 ⊢;clear hW5 c0 c1 c2 c3 c4 c5 f0 f1 f2 f3 f4 f5 z0 z1 z2 z3 z4 z5 g0 g1 g2 g3 g4 g5 b0 b1 b2 b3 b4 b5 b6 b7 b8;obtain⟨D,hD⟩:∃D,({ poly:=J.poly,eng:=d.eng,tab:=jtL J,rw:=r1,ac:=a1,wi:=i1 }:ae)=D:=⟨_,rfl⟩;have HDD:=Jj (hD.symm.trans HDK.out);have HT2:Hid (Sxn P w (w.heap.size+1) (.slice A J.poly.length c) (.slice Ae d.eng.length ce) (.slice A4 (jtL J).length k4) D W5):=by rw[←hD];exact HT
   have HXT2:Hid (ai W5 (.slice A4 (jtL J).length k4) D.tab):=by rw[←hD];exact HXT
   obtain⟨-,-,-,-,-,-,b6,b7,b8⟩:=HK5.out.job;rw[er,show r1=D.rw by rw[←hD]] at b6;rw[ea,show a1=D.ac by rw[←hD]] at b7;rw[ei,show i1=D.wi by rw[←hD]] at b8;have HOD:=Jj (show D.Ok by rw[HDD.out];exact HDO.out);have HKC:Hid (∀X,Below W5.heap.size W5 X→X.cell? ⟨w2.heap.size,6,none⟩=some (.int .i64 D.rw)∧X.cell? ⟨w2.heap.size,7,none⟩=some (.int .i64 D.ac)∧X.cell? ⟨w2.heap.size,8,none⟩=some (.int .i64 D.wi)):=Jj fun X h=>⟨(h.cell (by exact HK5.out.lt)).trans b6,(h.cell (by exact HK5.out.lt)).trans b7,(h.cell (by exact HK5.out.lt)).trans b8⟩;have HKD:=Jj (fun X (h:Below W5.heap.size W5 X) (G:Sxn P w (w.heap.size+1) (.slice A J.poly.length c) (.slice Ae d.eng.length ce) (.slice A4 (jtL J).length k4) D X)=>show(((((((X.setCell ⟨w.heap.size+1,0,none⟩ (.slice A J.poly.length c)).setCell ⟨w.heap.size+1,1,none⟩ (.slice Ae d.eng.length ce)).setCell ⟨w.heap.size+1,2,none⟩ (.slice A4 (jtL J).length k4)).setCell ⟨w.heap.size+1,3,none⟩ (.int .i64 D.rw)).setCell ⟨w.heap.size+1,4,none⟩ (.int .i64 D.ac)).setCell ⟨w.heap.size+1,5,none⟩ (.int .i64 D.wi)).cell? ⟨w2.heap.size,6,none⟩=some (.int .i64 D.rw)∧((((((X.setCell ⟨w.heap.size+1,0,none⟩ (.slice A J.poly.length c)).setCell ⟨w.heap.size+1,1,none⟩ (.slice Ae d.eng.length ce)).setCell ⟨w.heap.size+1,2,none⟩ (.slice A4 (jtL J).length k4)).setCell ⟨w.heap.size+1,3,none⟩ (.int .i64 D.rw)).setCell ⟨w.heap.size+1,4,none⟩ (.int .i64 D.ac)).setCell ⟨w.heap.size+1,5,none⟩ (.int .i64 D.wi)).cell? ⟨w2.heap.size,7,none⟩=some (.int .i64 D.ac)∧((((((X.setCell ⟨w.heap.size+1,0,none⟩ (.slice A J.poly.length c)).setCell ⟨w.heap.size+1,1,none⟩ (.slice Ae d.eng.length ce)).setCell ⟨w.heap.size+1,2,none⟩ (.slice A4 (jtL J).length k4)).setCell ⟨w.heap.size+1,3,none⟩ (.int .i64 D.rw)).setCell ⟨w.heap.size+1,4,none⟩ (.int .i64 D.ac)).setCell ⟨w.heap.size+1,5,none⟩ (.int .i64 D.wi)).cell? ⟨w2.heap.size,8,none⟩=some (.int .i64 D.wi)) from by
    obtain⟨-,-,-,-,-,-,q6,q7,q8⟩:=(G.keptB (HK5.out.below h HK5.out.lt) hne2 (.slice A J.poly.length c) (.slice Ae d.eng.length ce) (.slice A4 (jtL J).length k4) D).job;rw[er,show r1=D.rw by rw[←hD]] at q6;rw[ea,show a1=D.ac by rw[←hD]] at q7;rw[ei,show i1=D.wi by rw[←hD]] at q8;exact⟨q6,q7,q8⟩)
   have HSP:=Jj (lc HOD.out);have hsz:=congrArg ByteArray.size (lc HOD.out);have hpl:=og HOD.out;rw[Jt] at hsz;have h10:(⟨#[10]⟩:ByteArray).size=1:=rfl;have hcat:¬ 9223372036854775807<(kD D).size+1:=by omega
   clear hD hsz hpl HT HXT er ea ei h1 h2 h3;obtain⟨c0,c1,c2,c3,c4,c5⟩:=HT2.out.box.cells;obtain⟨f0,f1,f2,f3,f4,f5⟩:=HT2.out.out.frz;obtain⟨z0,z1,z2,z3,z4,z5⟩:=HT2.out.out.cells;have tok1:True:=trivial
   try rw[show((r1:Nat):Int)=D.rw from rfl]
   go_region_held3 (fun w'=>(w'.cell? ⟨w.heap.size,0,none⟩=some (.slice A J.poly.length c)∧w'.cell? ⟨w.heap.size,1,none⟩=some (.slice Ae d.eng.length ce)∧w'.cell? ⟨w.heap.size,2,none⟩=some (.slice A4 (jtL J).length k4)∧w'.cell? ⟨w.heap.size,3,none⟩=some (.int .i64 D.rw)∧w'.cell? ⟨w.heap.size,4,none⟩=some (.int .i64 D.ac)∧w'.cell? ⟨w.heap.size,5,none⟩=some (.int .i64 D.wi))∧w'.cell? ⟨w2.heap.size,6,none⟩=some (.int .i64 D.rw)∧w'.cell? ⟨w2.heap.size,7,none⟩=some (.int .i64 D.ac)∧w'.cell? ⟨w2.heap.size,8,none⟩=some (.int .i64 D.wi)) (first|with_reducible exact⟨⟨c0,c1,c2,c3,c4,c5⟩,b6,b7,b8⟩|with_reducible exact⟨⟨c0,c1,c2,c3,c4,c5⟩,HKC.out _ B5.out⟩|with_reducible exact⟨G5.out.kept (.slice A J.poly.length c) (.slice Ae d.eng.length ce) (.slice A4 (jtL J).length k4) D,HKD.out _ B5.out G5.out⟩|exact⟨⟨c0,c1,c2,c3,c4,c5⟩,b6,b7,b8⟩|exact⟨G5.out.kept (.slice A J.poly.length c) (.slice Ae d.eng.length ce) (.slice A4 (jtL J).length k4) D,HKD.out _ B5.out G5.out⟩|go_keep) (first
    |((try go_simp);go_at_call 37;have _t:=tok1;go_loud (refine(qo D _ _ (by first|exact HXT2.out|exact HXT2.out.bel (ah _)) HOD.out).mono ?_;rintro e5 w5 ⟨rfl,b5⟩;replace b5:Below W5.heap.size W5 w5:=(by first|exact b5|exact aa (ah _) b5);have B5:=Jj b5;have G5:=Jj (HT2.out.next b5);obtain⟨f0,f1,f2,f3,f4,f5⟩:=G5.out.out.frz;obtain⟨z0,z1,z2,z3,z4,z5⟩:=G5.out.out.cells;obtain⟨c0,c1,c2,c3,c4,c5⟩:=G5.out.box.cells;clear tok1 b5;(try dsimp only)))
    |fail)
   all_goals
    go_wp2;obtain⟨kk,ss,bb⟩:=G5.out.done G5.out.sta;generalize World.setCell _ _ _=w9 at kk ss bb ⊢;obtain⟨x0,x1,x2,x3,x4,x5⟩:=kk.cells;refine bodyPost_ret (v:=.tuple #[.agg #[(.slice A J.poly.length c),(.slice Ae d.eng.length ce),(.slice A4 (jtL J).length k4),.int .i64 D.rw,.int .i64 D.ac,.int .i64 D.wi],.string (kD D++⟨#[10]⟩)]) (by simp[results,results47,go_sem,x0,x1,x2,x3,x4,x5]) rfl ?_;rw[show r=(kD D++⟨#[10]⟩,D) from HRR.out.symm.trans (by rw[HY.out.1,HY.out.2,←HDD.out,HSP.out])];exact⟨_,rfl,ss,bb⟩
theorem kh {w w':World} {g b:Nat} (hne:g≠b) (hl:g<w.heap.size) (i:Nat) (h:w.grownBy w' (some b)):w'.cell? ⟨g,i,none⟩=w.cell? ⟨g,i,none⟩:=by
 have:=h.block g hl (fun e=>hne (JC e));simp only[World.cell?,this]
theorem xf (l:List ByteArray) (n t c a:Int):(fU l n t c a).length≤1048576:=by
 cases h:dG l n t c a
 ·rw[xg h];exact Jy _
 ·unfold fU;rw[if_pos h,rY];have:=(qc h).2.1;omega
theorem wu {d:ae} {a c:Int} (ha : -9223372036854775808≤a∧a≤9223372036854775807) (hc : -9223372036854775808≤c∧c≤9223372036854775807):cD dT [a,c] d (ak (aw (cf d.poly a c)) (cw d.poly a c&&ag (cf d.poly a c))) (aR d (cf d.poly a c) (cw d.poly a c)):=by
 intro b v w hv hd hg;have HD:=Jj hd;have HG:=Jj hg;have hrl:(cf d.poly a c).length≤1048576:=Js (kF d.poly a c) (by omega);obtain⟨pv,en,t,k0,k1,k2,k3⟩:=hd;have HT:=Jj (k1.ints);obtain⟨A,cp,rfl,-,-,-⟩:=(k1.ints).open_;have hvw:=hv;obtain⟨g,cn,rfl,hgl,hcn⟩:=eL hv (by simp);have hgb:g≠b:=fun e=>rR k0 hvw.1 (by decide) (by rw[e];rfl);have n0:w.cell? ⟨g,0,none⟩=some (.int .i64 a):=hcn 0 (by simp);have n1:w.cell? ⟨g,1,none⟩=some (.int .i64 c):=hcn 1 (by simp);obtain⟨c0,c1,c2,c3,c4,c5⟩:=k0.desk;have HS0:=Jj (show w.cell? ⟨b,0,none⟩=some (.slice A d.poly.length cp)∧w.cell? ⟨g,0,none⟩=some (.int .i64 a)∧w.cell? ⟨g,1,none⟩=some (.int .i64 c) from⟨c0,n0,n1⟩);have hbl:=k0.lt;clear c1 c2 c3 c4 c5;have tok1:True:=trivial;have tok2:True:=trivial;clear k0 k1 k2 k3 hg hv hcn hvw;unfold dT
 go_enter func56,ntmps56
 go_wp2_with fail
 go_region_held3 (fun w'=>w'.cell? ⟨b,0,none⟩=some (.slice A d.poly.length cp)∧w'.cell? ⟨g,0,none⟩=some (.int .i64 a)∧w'.cell? ⟨g,1,none⟩=some (.int .i64 c)) (first|exact HS0.out|exact HS3.out|exact HS4.out|go_keep) (first
  |((try go_simp);go_at_call 123;have _t:=tok1;go_loud (refine(iD _ d.poly a c _ (by first|exact HT.out|exact HT.out.bel (ah _)) ha hc).mono ?_;rintro e1 w3 ⟨r,rfl,o3,b3⟩;replace b3:Below w.heap.size w w3:=(by first|exact b3|exact aa (ah _) b3);have HB:=Jj b3;have HO:=Jj o3.low;have HS3:=Jj (show w3.cell? ⟨b,0,none⟩=some (.slice A d.poly.length cp)∧w3.cell? ⟨g,0,none⟩=some (.int .i64 a)∧w3.cell? ⟨g,1,none⟩=some (.int .i64 c) from⟨(b3.cell (by exact hbl)).trans c0,(b3.cell (by exact hgl)).trans n0,(b3.cell (by exact hgl)).trans n1⟩);have HG3:=Jj (Jq (Jw hgl b3.size) (Jw hbl b3.size));clear tok1 b3 o3;(try dsimp only)))
  |((try go_simp);go_at_call 122;have _t:=tok2;go_loud (refine(mR b d _ (cf d.poly a c) (cw d.poly a c) _ (HD.out.bel HB.out) HO.out hrl (HG.out.bel HB.out)).mono ?_;rintro e2 w4 ⟨⟨rfl,d4,g4⟩,h4⟩;have HE:=Jj (Jq d4 g4);have HS4:=Jj (show w4.cell? ⟨b,0,none⟩=some (.slice A d.poly.length cp)∧w4.cell? ⟨g,0,none⟩=some (.int .i64 a)∧w4.cell? ⟨g,1,none⟩=some (.int .i64 c) from⟨(h4 0 (by decide)).trans HS3.out.1,(kh hgb HG3.out.1 0 g4).trans HS3.out.2.1,(kh hgb HG3.out.1 1 g4).trans HS3.out.2.2⟩);clear tok2 d4 g4 h4;(try dsimp only)))
  |fail)
 all_goals
  go_wp2;go_ret;exact⟨rfl,HE.out.1,ay (aB _ HB.out) HE.out.2⟩
theorem AA (d:ae) (n t cc a:Int):cD gn [n,t,cc,a] d (ak (aw (fU d.eng n t cc a)) (dG d.eng n t cc a&&ag (fU d.eng n t cc a))) (aR d (fU d.eng n t cc a) (dG d.eng n t cc a)):=by
 intro b v w hv hd hg;have HD:=Jj hd;have HG:=Jj hg;have hrl:=xf d.eng n t cc a;obtain⟨pv,en,tv,k0,k1,k2,k3⟩:=hd;have HT:=Jj (k2.strs);obtain⟨A,cp,rfl,-,-,-⟩:=(k2.strs).open_;have hvw:=hv;obtain⟨g,cn,rfl,hgl,hcn⟩:=eL hv (by simp);have hgb:g≠b:=fun e=>rR k0 hvw.1 (by decide) (by rw[e];rfl);have n0:w.cell? ⟨g,0,none⟩=some (.int .i64 n):=hcn 0 (by simp);have n1:w.cell? ⟨g,1,none⟩=some (.int .i64 t):=hcn 1 (by simp);have n2:w.cell? ⟨g,2,none⟩=some (.int .i64 cc):=hcn 2 (by simp);have n3:w.cell? ⟨g,3,none⟩=some (.int .i64 a):=hcn 3 (by simp);obtain⟨c0,c1,c2,c3,c4,c5⟩:=k0.desk;have HS0:=Jj (show w.cell? ⟨b,1,none⟩=some (.slice A d.eng.length cp)∧w.cell? ⟨g,0,none⟩=some (.int .i64 n)∧w.cell? ⟨g,1,none⟩=some (.int .i64 t)∧w.cell? ⟨g,2,none⟩=some (.int .i64 cc)∧w.cell? ⟨g,3,none⟩=some (.int .i64 a) from⟨c1,n0,n1,n2,n3⟩);have hbl:=k0.lt;clear c0 c2 c3 c4 c5;have tok1:True:=trivial;have tok2:True:=trivial;clear k0 k1 k2 k3 hg hv hcn hvw;unfold gn
 go_enter func56,ntmps56
 go_wp2_with fail
 go_region_held3 (fun w'=>w'.cell? ⟨b,1,none⟩=some (.slice A d.eng.length cp)∧w'.cell? ⟨g,0,none⟩=some (.int .i64 n)∧w'.cell? ⟨g,1,none⟩=some (.int .i64 t)∧w'.cell? ⟨g,2,none⟩=some (.int .i64 cc)∧w'.cell? ⟨g,3,none⟩=some (.int .i64 a)) (first|exact HS0.out|exact HS3.out|exact HS4.out|go_keep) (first
  |((try go_simp);go_at_call 125;have _t:=tok1;go_loud (refine(zW _ d.eng n t cc a _ (by first|exact HT.out|exact HT.out.bel (ah _))).mono ?_;rintro e1 w3 ⟨r,rfl,o3,b3⟩;replace b3:Below w.heap.size w w3:=(by first|exact b3|exact aa (ah _) b3);have HB:=Jj b3;have HO:=Jj o3.low;have HS3:=Jj (show w3.cell? ⟨b,1,none⟩=some (.slice A d.eng.length cp)∧w3.cell? ⟨g,0,none⟩=some (.int .i64 n)∧w3.cell? ⟨g,1,none⟩=some (.int .i64 t)∧w3.cell? ⟨g,2,none⟩=some (.int .i64 cc)∧w3.cell? ⟨g,3,none⟩=some (.int .i64 a) from⟨(b3.cell (by exact hbl)).trans c1,(b3.cell (by exact hgl)).trans n0,(b3.cell (by exact hgl)).trans n1,(b3.cell (by exact hgl)).trans n2,(b3.cell (by exact hgl)).trans n3⟩);have HG3:=Jj (Jq (Jw hgl b3.size) (Jw hbl b3.size));clear tok1 b3 o3;(try dsimp only)))
  |((try go_simp);go_at_call 122;have _t:=tok2;go_loud (refine(mR b d _ (fU d.eng n t cc a) (dG d.eng n t cc a) _ (HD.out.bel HB.out) HO.out hrl (HG.out.bel HB.out)).mono ?_;rintro e2 w4 ⟨⟨rfl,d4,g4⟩,h4⟩;have HE:=Jj (Jq d4 g4);have HS4:=Jj (show w4.cell? ⟨b,1,none⟩=some (.slice A d.eng.length cp)∧w4.cell? ⟨g,0,none⟩=some (.int .i64 n)∧w4.cell? ⟨g,1,none⟩=some (.int .i64 t)∧w4.cell? ⟨g,2,none⟩=some (.int .i64 cc)∧w4.cell? ⟨g,3,none⟩=some (.int .i64 a) from⟨(h4 1 (by decide)).trans HS3.out.1,(kh hgb HG3.out.1 0 g4).trans HS3.out.2.1,(kh hgb HG3.out.1 1 g4).trans HS3.out.2.2.1,(kh hgb HG3.out.1 2 g4).trans HS3.out.2.2.2.1,(kh hgb HG3.out.1 3 g4).trans HS3.out.2.2.2.2⟩);clear tok2 d4 g4 h4;(try dsimp only)))
  |fail)
 all_goals
  go_wp2;go_ret;exact⟨rfl,HE.out.1,ay (aB _ HB.out) HE.out.2⟩
theorem xH (P:Nat→Prop) (v n:Value) (d:ae) (l:List Int) (w:World) (hs:SxR P w v d) (hn:SxN P w) (hl:ai w n l) (hll:l.length=2):Calls prog 50 #[v,.string eU,n] w (SxQ P w (aK d eU l)):=by
 have hlw:=hl.2;obtain⟨An,cn,rfl,hnc,hncc,hrd⟩:=hl.open_;obtain⟨nb,no,rfl,hnb,hnn⟩:=hrd.ints (by omega);have q0:=hnn 0 (by omega);have i0:=hlw _ (bG l 0 (by omega));obtain⟨x0,hx0⟩:∃x,at_ l 0=x:=⟨_,rfl⟩;rw[hx0] at q0 i0;have HX0:=Jj hx0;have q1:=hnn 1 (by omega);have i1:=hlw _ (bG l 1 (by omega));obtain⟨x1,hx1⟩:∃x,at_ l 1=x:=⟨_,rfl⟩;rw[hx1] at q1 i1;have HX1:=Jj hx1;rw[Nat.add_zero] at q0;rw[hll] at hnc ⊢;clear hl hrd hnn hlw hll hx0 hx1;obtain⟨p,e,t,rfl,hs0⟩:=hs.s;obtain⟨Ap,cp,rfl,-,-,-⟩:=hs0.1.1.open_;obtain⟨Ae,ce,rfl,-,-,-⟩:=hs0.2.1.1.open_;obtain⟨At,ct,rfl,-,-,-⟩:=hs0.2.2.1.open_;have HS:=Jj (Sxn.first hs0 hn);have HSAME:=Jj (SxS.same hs0 hn);obtain⟨c0,c1,c2,c3,c4,c5⟩:=HS.out.box.cells;obtain⟨f0,f1,f2,f3,f4,f5⟩:=HS.out.out.frz;obtain⟨z0,z1,z2,z3,z4,z5⟩:=HS.out.out.cells;obtain⟨r,hr⟩:∃r:ByteArray×ae,aK d eU l=r:=⟨_,rfl⟩;have HRR:=Jj hr;rw[hr];clear hs hs0 hn hr;unfold eU
 go_enter func50,ntmps50
 go_wp2_with fail
 generalize hW:World.alloc _ _=W at HS c0 c1 c2 c3 c4 c5 f0 f1 f2 f3 f4 f5 z0 z1 z2 z3 z4 z5 ⊢;clear hW;have HNC:=Jj (fun X (h:Below w.heap.size w X)=>(⟨(h.cell (by exact hnb)).trans q0,(h.cell (by exact hnb)).trans q1⟩:X.cell? ⟨nb,no,none⟩=some (.int .i64 x0)∧X.cell? ⟨nb,no+1,none⟩=some (.int .i64 x1)));obtain⟨n0,n1⟩:=HNC.out _ HS.out.bel;clear q0 q1;have HB:=Jj (show ∀X,Below W.heap.size W X→((X.cell? ⟨w.heap.size,0,none⟩=some (.slice Ap d.poly.length cp)∧X.cell? ⟨w.heap.size,1,none⟩=some (.slice Ae d.eng.length ce)∧X.cell? ⟨w.heap.size,2,none⟩=some (.slice At d.tab.length ct)∧X.cell? ⟨w.heap.size,3,none⟩=some (.int .i64 d.rw)∧X.cell? ⟨w.heap.size,4,none⟩=some (.int .i64 d.ac)∧X.cell? ⟨w.heap.size,5,none⟩=some (.int .i64 d.wi))∧X.cell? ⟨nb,no,none⟩=some (.int .i64 x0)∧X.cell? ⟨nb,no+1,none⟩=some (.int .i64 x1)) from fun X h=>⟨(HS.out.next h).box.cells,HNC.out X (HS.out.next h).bel⟩);have HV:=Jj (HS.out.sta.1.1);have hsA:W.heap.size<(W.alloc (.cells #[Value.slice none 0 0] 32)).heap.size:=by simp
 have tok1:True:=trivial
 go_region_held3 (fun w'=>(w'.cell? ⟨w.heap.size,0,none⟩=some (.slice Ap d.poly.length cp)∧w'.cell? ⟨w.heap.size,1,none⟩=some (.slice Ae d.eng.length ce)∧w'.cell? ⟨w.heap.size,2,none⟩=some (.slice At d.tab.length ct)∧w'.cell? ⟨w.heap.size,3,none⟩=some (.int .i64 d.rw)∧w'.cell? ⟨w.heap.size,4,none⟩=some (.int .i64 d.ac)∧w'.cell? ⟨w.heap.size,5,none⟩=some (.int .i64 d.wi))∧w'.cell? ⟨nb,no,none⟩=some (.int .i64 x0)∧w'.cell? ⟨nb,no+1,none⟩=some (.int .i64 x1)) (first|with_reducible exact HB.out _ (Below.refl _ _)|with_reducible exact HB.out _ (ah _)|with_reducible exact HB.out _ (ab _ _)|with_reducible exact HB.out _ ((ab _ _).drew)|with_reducible exact HB.out _ (((Below.refl _ _).drew).alloc (Jr _) _)|with_reducible exact HB.out _ B5.out|with_reducible exact HB.out _ (B5.out.alloc B5.out.size _)|with_reducible exact HB.out _ (B5.out.setCell (p:=⟨_,0,none⟩) (Jr _) _)|with_reducible exact HB.out _ ((B5.out.alloc B5.out.size _).setCell (p:=⟨_,0,none⟩) B5.out.size _)|exact HB.out _ (B5.out.setCell (p:=⟨_,0,none⟩) (Jr _) _)|go_keep)
 (first
 |((try go_simp);go_at_call 84;have _t:=tok1;go_loud (refine(lp _ d.poly x0 x1 _ (by first|exact HV.out.bel (ab _ _)|exact HV.out.bel ((ab _ _).drew)|exact HV.out.bel (((Below.refl _ _).drew).alloc (Jr _) _)) i0).mono ?_;rintro e5 w5 ⟨y1,rfl,o1,b5⟩;have K5:Blk w5 W.heap.size 32 [Value.slice none 0 0]:=(b5.block _ hsA).trans (heap_alloc_new W _);obtain⟨bs,hbs,o1⟩:∃bs,W.heap.size<bs∧aj w5 bs y1 (dm d.poly x0 x1):=⟨_,hsA,o1⟩;have B5:=Jj (show Below W.heap.size W w5 from(by first|exact aa (ab _ _) b5|exact aa ((ab _ _).drew) b5|exact aa (((Below.refl _ _).drew).alloc (Jr _) _) b5|fail));have O5:=Jj o1;obtain⟨A1,k1,rfl,-,-,-⟩:=o1.strs.open_;have n5:=HB.out _ B5.out;obtain⟨⟨c0,c1,c2,c3,c4,c5⟩,n0,n1⟩:=n5;(try obtain⟨e5,f5⟩:=K5.one);clear tok1 b5 o1;(try dsimp only)))
 |((try go_simp);go_at_call 84;have _t:=tok1;go_loud (refine(lp _ d.poly x0 x1 _ (by first|exact HV.out|exact HV.out.bel (ah _)) i0).mono ?_;rintro e5 w5 ⟨y1,rfl,o1,b5⟩;obtain⟨bs,hbs,o1⟩:∃bs,W.heap.size≤bs∧aj w5 bs y1 (dm d.poly x0 x1):=⟨_,Jr _,o1⟩;have B5:=Jj (show Below W.heap.size W w5 from(by first|exact b5|exact aa (ah _) b5|fail));have O5:=Jj o1;obtain⟨A1,k1,rfl,-,-,-⟩:=o1.strs.open_;have n5:=HB.out _ B5.out;obtain⟨⟨c0,c1,c2,c3,c4,c5⟩,n0,n1⟩:=n5;(try obtain⟨e5,f5⟩:=K5.one);clear tok1 b5 o1;(try dsimp only)))
 |fail)
 all_goals
  have HXO:=Jj (show Off (.slice A1 (dm d.poly x0 x1).length k1) (dm d.poly x0 x1) (fun j=>P j∧(j≠w.heap.size+1∧j≠w.heap.size)) from(O5.out.off).mono fun j hj=>HS.out.new j (by omega));clear c0 c1 c2 c3 c4 c5 f0 f1 f2 f3 f4 f5 z0 z1 z2 z3 z4 z5 n0 n1
  first
   |(have B6:=Jj (B5.out.setCell (p:=⟨W.heap.size,0,none⟩) (Jr _) (.slice A1 (dm d.poly x0 x1).length k1));have KE:=K5.set_ 0 (.slice A1 (dm d.poly x0 x1).length k1);have O6:=Jj (O5.out.setCell ⟨W.heap.size,0,none⟩ (.slice A1 (dm d.poly x0 x1).length k1) hbs);(try clear e5 f5);generalize hW6:w5.setCell ⟨W.heap.size,0,none⟩ (.slice A1 (dm d.poly x0 x1).length k1)=W6 at B6 KE O6 ⊢)
   |(have B6:=Jj (aa B5.out (ab w5 (.cells #[.slice A1 (dm d.poly x0 x1).length k1] 32)));have KE:=Blk.new' w5 32 (.slice A1 (dm d.poly x0 x1).length k1) w5.heap.size rfl;have O6:=Jj (O5.out.bel (ab w5 (.cells #[.slice A1 (dm d.poly x0 x1).length k1] 32)));generalize hW6:w5.alloc (.cells #[.slice A1 (dm d.poly x0 x1).length k1] 32)=W6 at B6 KE O6 ⊢)
  clear hW6;have HX:=Jj O6.out.strs;have H1:=Jj (HS.out.next B6.out);obtain⟨c0,c1,c2,c3,c4,c5⟩:=H1.out.box.cells;obtain⟨f0,f1,f2,f3,f4,f5⟩:=H1.out.out.frz;obtain⟨z0,z1,z2,z3,z4,z5⟩:=H1.out.out.cells;obtain⟨u0,-⟩:=KE.one
  go_wp2_with fail
  clear c0 c1 c2 c3 c4 c5 f0 f1 f2 f3 f4 f5 z0 z1 z2 z3 z4 z5 u0 KE;have HM:=lF _ _ _ d (dm d.poly x0 x1) (cE d.poly x0 x1) W6 H1.out.sta.r HX.out HXO.out H1.out.new;obtain⟨q,hq⟩:∃q:ByteArray×ae,(ak (bD (dm d.poly x0 x1)) (cE d.poly x0 x1),bd d (dm d.poly x0 x1) (cE d.poly x0 x1))=q:=⟨_,rfl⟩;have HRQ:=Jj (show r=q from HRR.out.symm.trans (((l5 d l).trans (by rw[HX0.out,HX1.out])).trans hq));rw[hq] at HM;clear hq;refine HM.mono ?_;rintro e3 w3 ⟨v3,rfl,s3,b3⟩;have H3:=Jj (H1.out.next b3);obtain⟨p2,e2,t2,rfl,sq⟩:=s3.s;obtain⟨Ap2,cp2,rfl,-,-,-⟩:=sq.1.1.open_;obtain⟨Ae2,ce2,rfl,-,-,-⟩:=sq.2.1.1.open_;obtain⟨At2,ct2,rfl,-,-,-⟩:=sq.2.2.1.open_;have SQ:=Jj sq;clear sq;clear b3 HM;obtain⟨c0,c1,c2,c3,c4,c5⟩:=H3.out.box.cells;obtain⟨f0,f1,f2,f3,f4,f5⟩:=H3.out.out.frz;obtain⟨z0,z1,z2,z3,z4,z5⟩:=H3.out.out.cells;go_wp2;obtain⟨kk,ss,bb⟩:=H3.out.done SQ.out;generalize World.setCell _ _ _=w9 at kk ss bb ⊢;obtain⟨m0,m1,m2,m3,m4,m5⟩:=kk.cells;refine bodyPost_ret (v:=.tuple #[.agg #[(.slice Ap2 q.2.poly.length cp2),(.slice Ae2 q.2.eng.length ce2),(.slice At2 q.2.tab.length ct2),.int .i64 q.2.rw,.int .i64 q.2.ac,.int .i64 q.2.wi],.string q.1]) (by simp[results,results50,go_sem,m0,m1,m2,m3,m4,m5]) rfl ?_;rw[HRQ.out];exact⟨_,rfl,ss,bb⟩
theorem xI (P:Nat→Prop) (v n:Value) (d:ae) (l:List Int) (w:World) (hs:SxR P w v d) (hn:SxN P w) (hl:ai w n l) (hll:l.length=1):Calls prog 50 #[v,.string eV,n] w (SxQ P w (aK d eV l)):=by
 have hlw:=hl.2;obtain⟨An,cn,rfl,hnc,hncc,hrd⟩:=hl.open_;obtain⟨nb,no,rfl,hnb,hnn⟩:=hrd.ints (by omega);have q0:=hnn 0 (by omega);have i0:=hlw _ (bG l 0 (by omega));obtain⟨x0,hx0⟩:∃x,at_ l 0=x:=⟨_,rfl⟩;rw[hx0] at q0 i0;have HX0:=Jj hx0;rw[Nat.add_zero] at q0;rw[hll] at hnc ⊢;clear hl hrd hnn hlw hll hx0;obtain⟨p,e,t,rfl,hs0⟩:=hs.s;obtain⟨Ap,cp,rfl,-,-,-⟩:=hs0.1.1.open_;obtain⟨Ae,ce,rfl,-,-,-⟩:=hs0.2.1.1.open_;obtain⟨At,ct,rfl,-,-,-⟩:=hs0.2.2.1.open_;have HS:=Jj (Sxn.first hs0 hn);have HSAME:=Jj (SxS.same hs0 hn);obtain⟨c0,c1,c2,c3,c4,c5⟩:=HS.out.box.cells;obtain⟨f0,f1,f2,f3,f4,f5⟩:=HS.out.out.frz;obtain⟨z0,z1,z2,z3,z4,z5⟩:=HS.out.out.cells;obtain⟨r,hr⟩:∃r:ByteArray×ae,aK d eV l=r:=⟨_,rfl⟩;have HRR:=Jj hr;rw[hr];clear hs hs0 hn hr;unfold eV
 go_enter func50,ntmps50
 go_wp2_with fail
 generalize hW:World.alloc _ _=W at HS c0 c1 c2 c3 c4 c5 f0 f1 f2 f3 f4 f5 z0 z1 z2 z3 z4 z5 ⊢;clear hW;have HNC:=Jj (fun X (h:Below w.heap.size w X)=>((h.cell (by exact hnb)).trans q0:X.cell? ⟨nb,no,none⟩=some (.int .i64 x0)));have n0:=HNC.out _ HS.out.bel;clear q0;have HB:=Jj (show ∀X,Below W.heap.size W X→((X.cell? ⟨w.heap.size,0,none⟩=some (.slice Ap d.poly.length cp)∧X.cell? ⟨w.heap.size,1,none⟩=some (.slice Ae d.eng.length ce)∧X.cell? ⟨w.heap.size,2,none⟩=some (.slice At d.tab.length ct)∧X.cell? ⟨w.heap.size,3,none⟩=some (.int .i64 d.rw)∧X.cell? ⟨w.heap.size,4,none⟩=some (.int .i64 d.ac)∧X.cell? ⟨w.heap.size,5,none⟩=some (.int .i64 d.wi))∧X.cell? ⟨nb,no,none⟩=some (.int .i64 x0)) from fun X h=>⟨(HS.out.next h).box.cells,HNC.out X (HS.out.next h).bel⟩);have HV:=Jj (HS.out.sta.2.1.1);have hsA:W.heap.size<(W.alloc (.cells #[Value.slice none 0 0] 32)).heap.size:=by simp
 have tok1:True:=trivial
 go_region_held3 (fun w'=>(w'.cell? ⟨w.heap.size,0,none⟩=some (.slice Ap d.poly.length cp)∧w'.cell? ⟨w.heap.size,1,none⟩=some (.slice Ae d.eng.length ce)∧w'.cell? ⟨w.heap.size,2,none⟩=some (.slice At d.tab.length ct)∧w'.cell? ⟨w.heap.size,3,none⟩=some (.int .i64 d.rw)∧w'.cell? ⟨w.heap.size,4,none⟩=some (.int .i64 d.ac)∧w'.cell? ⟨w.heap.size,5,none⟩=some (.int .i64 d.wi))∧w'.cell? ⟨nb,no,none⟩=some (.int .i64 x0)) (first|with_reducible exact HB.out _ (Below.refl _ _)|with_reducible exact HB.out _ (ah _)|with_reducible exact HB.out _ (ab _ _)|with_reducible exact HB.out _ ((ab _ _).drew)|with_reducible exact HB.out _ (((Below.refl _ _).drew).alloc (Jr _) _)|with_reducible exact HB.out _ B5.out|with_reducible exact HB.out _ (B5.out.alloc B5.out.size _)|with_reducible exact HB.out _ (B5.out.setCell (p:=⟨_,0,none⟩) (Jr _) _)|with_reducible exact HB.out _ ((B5.out.alloc B5.out.size _).setCell (p:=⟨_,0,none⟩) B5.out.size _)|exact HB.out _ (B5.out.setCell (p:=⟨_,0,none⟩) (Jr _) _)|go_keep)
 (first
 |((try go_simp);go_at_call 85;have _t:=tok1;go_loud (refine(show Calls prog 85 #[.agg #[.slice Ae d.eng.length ce],.int .i64 x0] _ (cj _ (tmL d.eng x0) (cC d.eng x0)) from sh _ d.eng x0 _ (by first|exact HV.out.bel (ab _ _)|exact HV.out.bel ((ab _ _).drew)|exact HV.out.bel (((Below.refl _ _).drew).alloc (Jr _) _))).mono ?_;rintro e5 w5 ⟨y1,rfl,o1,b5⟩;have K5:Blk w5 W.heap.size 32 [Value.slice none 0 0]:=(b5.block _ hsA).trans (heap_alloc_new W _);obtain⟨bs,hbs,o1⟩:∃bs,W.heap.size<bs∧aj w5 bs y1 (tmL d.eng x0):=⟨_,hsA,o1⟩;have B5:=Jj (show Below W.heap.size W w5 from(by first|exact aa (ab _ _) b5|exact aa ((ab _ _).drew) b5|exact aa (((Below.refl _ _).drew).alloc (Jr _) _) b5|fail));have O5:=Jj o1;obtain⟨A1,k1,rfl,-,-,-⟩:=o1.strs.open_;have n5:=HB.out _ B5.out;obtain⟨⟨c0,c1,c2,c3,c4,c5⟩,n0⟩:=n5;(try obtain⟨e5,f5⟩:=K5.one);clear tok1 b5 o1;(try dsimp only)))
 |((try go_simp);go_at_call 85;have _t:=tok1;go_loud (refine(show Calls prog 85 #[.agg #[.slice Ae d.eng.length ce],.int .i64 x0] _ (cj _ (tmL d.eng x0) (cC d.eng x0)) from sh _ d.eng x0 _ (by first|exact HV.out|exact HV.out.bel (ah _))).mono ?_;rintro e5 w5 ⟨y1,rfl,o1,b5⟩;obtain⟨bs,hbs,o1⟩:∃bs,W.heap.size≤bs∧aj w5 bs y1 (tmL d.eng x0):=⟨_,Jr _,o1⟩;have B5:=Jj (show Below W.heap.size W w5 from(by first|exact b5|exact aa (ah _) b5|fail));have O5:=Jj o1;obtain⟨A1,k1,rfl,-,-,-⟩:=o1.strs.open_;have n5:=HB.out _ B5.out;obtain⟨⟨c0,c1,c2,c3,c4,c5⟩,n0⟩:=n5;(try obtain⟨e5,f5⟩:=K5.one);clear tok1 b5 o1;(try dsimp only)))
 |fail)
 all_goals
  have HXO:=Jj (show Off (.slice A1 (tmL d.eng x0).length k1) (tmL d.eng x0) (fun j=>P j∧(j≠w.heap.size+1∧j≠w.heap.size)) from(O5.out.off).mono fun j hj=>HS.out.new j (by omega));clear c0 c1 c2 c3 c4 c5 f0 f1 f2 f3 f4 f5 z0 z1 z2 z3 z4 z5 n0
  first
   |(have B6:=Jj (B5.out.setCell (p:=⟨W.heap.size,0,none⟩) (Jr _) (.slice A1 (tmL d.eng x0).length k1));have KE:=K5.set_ 0 (.slice A1 (tmL d.eng x0).length k1);have O6:=Jj (O5.out.setCell ⟨W.heap.size,0,none⟩ (.slice A1 (tmL d.eng x0).length k1) hbs);(try clear e5 f5);generalize hW6:w5.setCell ⟨W.heap.size,0,none⟩ (.slice A1 (tmL d.eng x0).length k1)=W6 at B6 KE O6 ⊢)
   |(have B6:=Jj (aa B5.out (ab w5 (.cells #[.slice A1 (tmL d.eng x0).length k1] 32)));have KE:=Blk.new' w5 32 (.slice A1 (tmL d.eng x0).length k1) w5.heap.size rfl;have O6:=Jj (O5.out.bel (ab w5 (.cells #[.slice A1 (tmL d.eng x0).length k1] 32)));generalize hW6:w5.alloc (.cells #[.slice A1 (tmL d.eng x0).length k1] 32)=W6 at B6 KE O6 ⊢)
  clear hW6;have HX:=Jj O6.out.strs;have H1:=Jj (HS.out.next B6.out);obtain⟨c0,c1,c2,c3,c4,c5⟩:=H1.out.box.cells;obtain⟨f0,f1,f2,f3,f4,f5⟩:=H1.out.out.frz;obtain⟨z0,z1,z2,z3,z4,z5⟩:=H1.out.out.cells;obtain⟨u0,-⟩:=KE.one
  go_wp2_with fail
  clear c0 c1 c2 c3 c4 c5 f0 f1 f2 f3 f4 f5 z0 z1 z2 z3 z4 z5 u0 KE;have HM:=lF _ _ _ d (tmL d.eng x0) (cC d.eng x0) W6 H1.out.sta.r HX.out HXO.out H1.out.new;obtain⟨q,hq⟩:∃q:ByteArray×ae,(ak (bD (tmL d.eng x0)) (cC d.eng x0),bd d (tmL d.eng x0) (cC d.eng x0))=q:=⟨_,rfl⟩;have HRQ:=Jj (show r=q from HRR.out.symm.trans (((l8 d l).trans (by rw[HX0.out])).trans hq));rw[hq] at HM;clear hq;refine HM.mono ?_;rintro e3 w3 ⟨v3,rfl,s3,b3⟩;have H3:=Jj (H1.out.next b3);obtain⟨p2,e2,t2,rfl,sq⟩:=s3.s;obtain⟨Ap2,cp2,rfl,-,-,-⟩:=sq.1.1.open_;obtain⟨Ae2,ce2,rfl,-,-,-⟩:=sq.2.1.1.open_;obtain⟨At2,ct2,rfl,-,-,-⟩:=sq.2.2.1.open_;have SQ:=Jj sq;clear sq;clear b3 HM;obtain⟨c0,c1,c2,c3,c4,c5⟩:=H3.out.box.cells;obtain⟨f0,f1,f2,f3,f4,f5⟩:=H3.out.out.frz;obtain⟨z0,z1,z2,z3,z4,z5⟩:=H3.out.out.cells;go_wp2;obtain⟨kk,ss,bb⟩:=H3.out.done SQ.out;generalize World.setCell _ _ _=w9 at kk ss bb ⊢;obtain⟨m0,m1,m2,m3,m4,m5⟩:=kk.cells;refine bodyPost_ret (v:=.tuple #[.agg #[(.slice Ap2 q.2.poly.length cp2),(.slice Ae2 q.2.eng.length ce2),(.slice At2 q.2.tab.length ct2),.int .i64 q.2.rw,.int .i64 q.2.ac,.int .i64 q.2.wi],.string q.1]) (by simp[results,results50,go_sem,m0,m1,m2,m3,m4,m5]) rfl ?_;rw[HRQ.out];exact⟨_,rfl,ss,bb⟩
theorem Sxn.keptN {P:Nat→Prop} {w:World} {R:Nat} {p e t:Value} {d:ae} {X:World} (h:Sxn P w R p e t d X) {nb no:Nat} {v:Value} (hb:nb<w.heap.size) (hc:X.cell? ⟨nb,no,none⟩=some v) (p' e' t':Value) (d':ae):
  ((((((X.setCell ⟨R,0,none⟩ p').setCell ⟨R,1,none⟩ e').setCell ⟨R,2,none⟩ t').setCell ⟨R,3,none⟩ (.int .i64 d'.rw)).setCell ⟨R,4,none⟩ (.int .i64 d'.ac)).setCell ⟨R,5,none⟩ (.int .i64 d'.wi)).cell? ⟨nb,no,none⟩=some v:=by
 obtain⟨-,hg⟩:=wI h.out p' e' t' d';have hR:=h.siz.1;have hz:=h.bel.size;have k1:nb<X.heap.size:=by omega
 have k2:some nb≠some R:=by intro e;injection e;omega
 exact(World.grownBy.cell_far hg ⟨nb,no,none⟩ k1 k2).trans hc
theorem zO (P:Nat→Prop) (v n:Value) (d:ae) (l:List Int) (w:World) (hs:SxR P w v d) (hn:SxN P w) (hl:ai w n l) (hll:l.length=1):Calls prog 50 #[v,.string gk,n] w (SxQ P w (aK d gk l)):=by
 have hlw:=hl.2;obtain⟨An,cn,rfl,hnc,hncc,hrd⟩:=hl.open_;obtain⟨nb,no,rfl,hnb,hnn⟩:=hrd.ints (by omega);have q0:=hnn 0 (by omega);have i0:=hlw _ (bG l 0 (by omega));obtain⟨x0,hx0⟩:∃x,at_ l 0=x:=⟨_,rfl⟩;rw[hx0] at q0 i0;have HX0:=Jj hx0;rw[Nat.add_zero] at q0;rw[hll] at hnc ⊢;clear hl hrd hnn hlw hll hx0;obtain⟨p,e,t,rfl,hs0⟩:=hs.s;obtain⟨Ap,cp,rfl,-,-,-⟩:=hs0.1.1.open_;obtain⟨Ae,ce,rfl,-,-,-⟩:=hs0.2.1.1.open_;obtain⟨At,ct,rfl,-,-,-⟩:=hs0.2.2.1.open_;have HS:=Jj (Sxn.first hs0 hn);have HSAME:=Jj (SxS.same hs0 hn);obtain⟨c0,c1,c2,c3,c4,c5⟩:=HS.out.box.cells;obtain⟨f0,f1,f2,f3,f4,f5⟩:=HS.out.out.frz;obtain⟨z0,z1,z2,z3,z4,z5⟩:=HS.out.out.cells;obtain⟨r,hr⟩:∃r:ByteArray×ae,aK d gk l=r:=⟨_,rfl⟩;have HRR:=Jj hr;rw[hr];clear hs hs0 hn hr;unfold gk
 go_enter func50,ntmps50
 go_wp2_with fail
 generalize hW:World.alloc _ _=W at HS c0 c1 c2 c3 c4 c5 f0 f1 f2 f3 f4 f5 z0 z1 z2 z3 z4 z5 ⊢;clear hW;have HNC:=Jj (fun X (h:Below w.heap.size w X)=>((h.cell (by exact hnb)).trans q0:X.cell? ⟨nb,no,none⟩=some (.int .i64 x0)));have n0:=HNC.out _ HS.out.bel;clear q0;have HB:=Jj (show ∀X,Below W.heap.size W X→((X.cell? ⟨w.heap.size,0,none⟩=some (.slice Ap d.poly.length cp)∧X.cell? ⟨w.heap.size,1,none⟩=some (.slice Ae d.eng.length ce)∧X.cell? ⟨w.heap.size,2,none⟩=some (.slice At d.tab.length ct)∧X.cell? ⟨w.heap.size,3,none⟩=some (.int .i64 d.rw)∧X.cell? ⟨w.heap.size,4,none⟩=some (.int .i64 d.ac)∧X.cell? ⟨w.heap.size,5,none⟩=some (.int .i64 d.wi))∧X.cell? ⟨nb,no,none⟩=some (.int .i64 x0)) from fun X h=>⟨(HS.out.next h).box.cells,HNC.out X (HS.out.next h).bel⟩);have HVT:=Jj HS.out.sta.2.2.1;have tok1:True:=trivial
 go_region_held3 (fun w'=>(w'.cell? ⟨w.heap.size,0,none⟩=some (.slice Ap d.poly.length cp)∧w'.cell? ⟨w.heap.size,1,none⟩=some (.slice Ae d.eng.length ce)∧w'.cell? ⟨w.heap.size,2,none⟩=some (.slice At d.tab.length ct)∧w'.cell? ⟨w.heap.size,3,none⟩=some (.int .i64 d.rw)∧w'.cell? ⟨w.heap.size,4,none⟩=some (.int .i64 d.ac)∧w'.cell? ⟨w.heap.size,5,none⟩=some (.int .i64 d.wi))∧w'.cell? ⟨nb,no,none⟩=some (.int .i64 x0)) (first|with_reducible exact⟨⟨c0,c1,c2,c3,c4,c5⟩,n0⟩|with_reducible exact⟨G5.out.kept (.slice Ap d.poly.length cp) (.slice Ae d.eng.length ce) (.slice At d.tab.length ct) d,G5.out.keptN hnb n0 (.slice Ap d.poly.length cp) (.slice Ae d.eng.length ce) (.slice At d.tab.length ct) d⟩|exact⟨⟨c0,c1,c2,c3,c4,c5⟩,n0⟩|exact⟨G5.out.kept (.slice Ap d.poly.length cp) (.slice Ae d.eng.length ce) (.slice At d.tab.length ct) d,G5.out.keptN hnb n0 (.slice Ap d.poly.length cp) (.slice Ae d.eng.length ce) (.slice At d.tab.length ct) d⟩|go_keep)
 (first
 |((try go_simp);go_at_call 91;have _t:=tok1;go_loud (refine(Ah _ d.tab x0 _ (by first|exact HVT.out|exact HVT.out.bel (ah _))).mono ?_;rintro e5 w5 ⟨rfl,b5⟩;replace b5:Below W.heap.size W w5:=(by first|exact b5|exact aa (ah _) b5);have B5:=Jj b5;have G5:=Jj (HS.out.next b5);obtain⟨⟨c0,c1,c2,c3,c4,c5⟩,n0⟩:=HB.out _ b5;obtain⟨f0,f1,f2,f3,f4,f5⟩:=G5.out.out.frz;obtain⟨z0,z1,z2,z3,z4,z5⟩:=G5.out.out.cells;clear tok1 b5;(try dsimp only)))
 |fail)
 all_goals
  go_wp2;obtain⟨kk,ss,bb⟩:=G5.out.done G5.out.sta;generalize World.setCell _ _ _=w9 at kk ss bb ⊢;obtain⟨m0,m1,m2,m3,m4,m5⟩:=kk.cells;refine bodyPost_ret (v:=.tuple #[.agg #[(.slice Ap d.poly.length cp),(.slice Ae d.eng.length ce),(.slice At d.tab.length ct),.int .i64 d.rw,.int .i64 d.ac,.int .i64 d.wi],.string (ey d.tab x0)]) (by simp[results,results50,go_sem,m0,m1,m2,m3,m4,m5]) rfl ?_;rw[show r=(ey d.tab x0,d) from HRR.out.symm.trans ((mJ d l).trans (by rw[HX0.out]))];exact⟨_,rfl,ss,bb⟩
theorem zP (P:Nat→Prop) (v n:Value) (d:ae) (l:List Int) (w:World) (hs:SxR P w v d) (hn:SxN P w) (hl:ai w n l) (hll:l.length=1):Calls prog 50 #[v,.string gl,n] w (SxQ P w (aK d gl l)):=by
 have hlw:=hl.2;obtain⟨An,cn,rfl,hnc,hncc,hrd⟩:=hl.open_;obtain⟨nb,no,rfl,hnb,hnn⟩:=hrd.ints (by omega);have q0:=hnn 0 (by omega);have i0:=hlw _ (bG l 0 (by omega));obtain⟨x0,hx0⟩:∃x,at_ l 0=x:=⟨_,rfl⟩;rw[hx0] at q0 i0;have HX0:=Jj hx0;rw[Nat.add_zero] at q0;rw[hll] at hnc ⊢;clear hl hrd hnn hlw hll hx0;obtain⟨p,e,t,rfl,hs0⟩:=hs.s;obtain⟨Ap,cp,rfl,-,-,-⟩:=hs0.1.1.open_;obtain⟨Ae,ce,rfl,-,-,-⟩:=hs0.2.1.1.open_;obtain⟨At,ct,rfl,-,-,-⟩:=hs0.2.2.1.open_;have HS:=Jj (Sxn.first hs0 hn);have HSAME:=Jj (SxS.same hs0 hn);obtain⟨c0,c1,c2,c3,c4,c5⟩:=HS.out.box.cells;obtain⟨f0,f1,f2,f3,f4,f5⟩:=HS.out.out.frz;obtain⟨z0,z1,z2,z3,z4,z5⟩:=HS.out.out.cells;obtain⟨r,hr⟩:∃r:ByteArray×ae,aK d gl l=r:=⟨_,rfl⟩;have HRR:=Jj hr;rw[hr];clear hs hs0 hn hr;unfold gl
 go_enter func50,ntmps50
 go_wp2_with fail
 generalize hW:World.alloc _ _=W at HS c0 c1 c2 c3 c4 c5 f0 f1 f2 f3 f4 f5 z0 z1 z2 z3 z4 z5 ⊢;clear hW;have HNC:=Jj (fun X (h:Below w.heap.size w X)=>((h.cell (by exact hnb)).trans q0:X.cell? ⟨nb,no,none⟩=some (.int .i64 x0)));have n0:=HNC.out _ HS.out.bel;clear q0;have HSZ:=Jj ((pk d.tab x0).1);have HCN:=Jj (zb d.tab x0);have hsz:=lK (grP d.tab x0);have tok1:True:=trivial
 go_region_held3 (fun w'=>(w'.cell? ⟨w.heap.size,0,none⟩=some (.slice Ap d.poly.length cp)∧w'.cell? ⟨w.heap.size,1,none⟩=some (.slice Ae d.eng.length ce)∧w'.cell? ⟨w.heap.size,2,none⟩=some (.slice At d.tab.length ct)∧w'.cell? ⟨w.heap.size,3,none⟩=some (.int .i64 d.rw)∧w'.cell? ⟨w.heap.size,4,none⟩=some (.int .i64 d.ac)∧w'.cell? ⟨w.heap.size,5,none⟩=some (.int .i64 d.wi))∧w'.cell? ⟨nb,no,none⟩=some (.int .i64 x0)) (first|with_reducible exact⟨⟨c0,c1,c2,c3,c4,c5⟩,n0⟩|exact⟨⟨c0,c1,c2,c3,c4,c5⟩,n0⟩|go_keep)
  (first
  |((try go_simp);go_at_call 92;have _t:=tok1;go_loud (refine(sc _ d.tab x0 _ (by first|exact HS.out.sta.2.2.1|exact HS.out.sta.2.2.1.bel (ah _))).mono ?_;rintro e5 w5 ⟨y1,rfl,o1,b5⟩;replace b5:Below W.heap.size W w5:=(by first|exact b5|exact aa (ah _) b5);have G5:=Jj (HS.out.next b5);have HX:=Jj (o1.read);obtain⟨us,A1,k1,hus,rfl,hk1,hk2,hk3,hk4⟩:=o1.read;clear o1 hus hk1 hk2 hk3 hk4;obtain⟨c0,c1,c2,c3,c4,c5⟩:=G5.out.box.cells;obtain⟨f0,f1,f2,f3,f4,f5⟩:=G5.out.out.frz;obtain⟨z0,z1,z2,z3,z4,z5⟩:=G5.out.out.cells;have n0:=HNC.out _ G5.out.bel;clear tok1 b5;(try dsimp only)))
  |fail)
 all_goals
  have HB:=Jj (show ∀X,Below w5.heap.size w5 X→(X.cell? ⟨w.heap.size,0,none⟩=some (.slice Ap d.poly.length cp)∧X.cell? ⟨w.heap.size,1,none⟩=some (.slice Ae d.eng.length ce)∧X.cell? ⟨w.heap.size,2,none⟩=some (.slice At d.tab.length ct)∧X.cell? ⟨w.heap.size,3,none⟩=some (.int .i64 d.rw)∧X.cell? ⟨w.heap.size,4,none⟩=some (.int .i64 d.ac)∧X.cell? ⟨w.heap.size,5,none⟩=some (.int .i64 d.wi)) from fun X h=>(G5.out.next h).box.cells);clear n0;have tok2:True:=trivial;have tok3:True:=trivial
  go_wp2_with fail
  go_region_held3 (fun w'=>w'.cell? ⟨w.heap.size,0,none⟩=some (.slice Ap d.poly.length cp)∧w'.cell? ⟨w.heap.size,1,none⟩=some (.slice Ae d.eng.length ce)∧w'.cell? ⟨w.heap.size,2,none⟩=some (.slice At d.tab.length ct)∧w'.cell? ⟨w.heap.size,3,none⟩=some (.int .i64 d.rw)∧w'.cell? ⟨w.heap.size,4,none⟩=some (.int .i64 d.ac)∧w'.cell? ⟨w.heap.size,5,none⟩=some (.int .i64 d.wi)) (first|with_reducible exact⟨c0,c1,c2,c3,c4,c5⟩|with_reducible exact G7.out.kept (.slice Ap d.poly.length cp) (.slice Ae d.eng.length ce) (.slice At d.tab.length ct) d|exact⟨c0,c1,c2,c3,c4,c5⟩|exact G7.out.kept (.slice Ap d.poly.length cp) (.slice Ae d.eng.length ce) (.slice At d.tab.length ct) d|go_keep)
  (first
  |((try go_simp);go_at_call 93;have _t:=tok2;go_loud (refine(qy _ (grP d.tab x0) _ (by first|exact HX.out|exact HX.out.bel (ah _)) (Js HSZ.out (by omega)) HCN.out).mono ?_;rintro e7 w7 ⟨rfl,b7⟩;replace b7:Below w5.heap.size w5 w7:=(by first|exact b7|exact aa (ah _) b7);have B7:=Jj b7;have G7:=Jj (G5.out.next b7);obtain⟨c0,c1,c2,c3,c4,c5⟩:=HB.out _ b7;obtain⟨f0,f1,f2,f3,f4,f5⟩:=G7.out.out.frz;obtain⟨z0,z1,z2,z3,z4,z5⟩:=G7.out.out.cells;clear tok2 b7;(try dsimp only)))
  |((try go_simp);go_at_call 29;have _t:=tok3;go_loud (refine(dD (eA d.tab x0) (da (grP d.tab x0)) _ (by omega)).mono ?_;rintro e8 w8 ⟨rfl,rfl⟩;clear tok3;(try dsimp only)))
  |fail)
  all_goals
   go_wp2;obtain⟨kk,ss,bb⟩:=G7.out.done G7.out.sta;generalize World.setCell _ _ _=w9 at kk ss bb ⊢;obtain⟨m0,m1,m2,m3,m4,m5⟩:=kk.cells;refine bodyPost_ret (v:=.tuple #[.agg #[(.slice Ap d.poly.length cp),(.slice Ae d.eng.length ce),(.slice At d.tab.length ct),.int .i64 d.rw,.int .i64 d.ac,.int .i64 d.wi],.string (ak (da (grP d.tab x0)) (eA d.tab x0))]) (by simp[results,results50,go_sem,m0,m1,m2,m3,m4,m5]) rfl ?_;rw[show r=(ak (da (grP d.tab x0)) (eA d.tab x0),d) from HRR.out.symm.trans ((mK d l).trans (by rw[HX0.out]))];exact⟨_,rfl,ss,bb⟩
theorem xG (P:Nat→Prop) (v n:Value) (d:ae) (l:List Int) (w:World) (hs:SxR P w v d) (hn:SxN P w) (hl:ai w n l) (hll:l.length=3):Calls prog 50 #[v,.string eS,n] w (SxQ P w (aK d eS l)):=by
 have hlw:=hl.2;obtain⟨An,cn,rfl,hnc,hncc,hrd⟩:=hl.open_;obtain⟨nb,no,rfl,hnb,hnn⟩:=hrd.ints (by omega);have q0:=hnn 0 (by omega);have i0:=hlw _ (bG l 0 (by omega));obtain⟨x0,hx0⟩:∃x,at_ l 0=x:=⟨_,rfl⟩;rw[hx0] at q0 i0;have HX0:=Jj hx0;have q1:=hnn 1 (by omega);have i1:=hlw _ (bG l 1 (by omega));obtain⟨x1,hx1⟩:∃x,at_ l 1=x:=⟨_,rfl⟩;rw[hx1] at q1 i1;have HX1:=Jj hx1;have q2:=hnn 2 (by omega);have i2:=hlw _ (bG l 2 (by omega));obtain⟨x2,hx2⟩:∃x,at_ l 2=x:=⟨_,rfl⟩;rw[hx2] at q2 i2;have HX2:=Jj hx2;rw[Nat.add_zero] at q0;rw[hll] at hnc ⊢;clear hl hrd hnn hlw hll hx0 hx1 hx2;obtain⟨p,e,t,rfl,hs0⟩:=hs.s;obtain⟨Ap,cp,rfl,-,-,-⟩:=hs0.1.1.open_;obtain⟨Ae,ce,rfl,-,-,-⟩:=hs0.2.1.1.open_;obtain⟨At,ct,rfl,-,-,-⟩:=hs0.2.2.1.open_;have HS:=Jj (Sxn.first hs0 hn);have HSAME:=Jj (SxS.same hs0 hn);obtain⟨c0,c1,c2,c3,c4,c5⟩:=HS.out.box.cells;obtain⟨f0,f1,f2,f3,f4,f5⟩:=HS.out.out.frz;obtain⟨z0,z1,z2,z3,z4,z5⟩:=HS.out.out.cells;obtain⟨r,hr⟩:∃r:ByteArray×ae,aK d eS l=r:=⟨_,rfl⟩;have HRR:=Jj hr;rw[hr];clear hs hs0 hn hr;unfold eS
 go_enter func50,ntmps50
 go_wp2_with fail
 generalize hW:World.alloc _ _=W at HS c0 c1 c2 c3 c4 c5 f0 f1 f2 f3 f4 f5 z0 z1 z2 z3 z4 z5 ⊢;clear hW;have HNC:=Jj (fun X (h:Below w.heap.size w X)=>(⟨(h.cell (by exact hnb)).trans q0,(h.cell (by exact hnb)).trans q1,(h.cell (by exact hnb)).trans q2⟩:X.cell? ⟨nb,no,none⟩=some (.int .i64 x0)∧X.cell? ⟨nb,no+1,none⟩=some (.int .i64 x1)∧X.cell? ⟨nb,no+2,none⟩=some (.int .i64 x2)));obtain⟨n0,n1,n2⟩:=HNC.out _ HS.out.bel;clear q0 q1 q2;have HSZ:=Jj ((oS d.tab x0 x1 x2).1);have HCN:=Jj (yQ d.tab x0 x1 x2);have hsz:=lK (chP d.tab x0 x1 x2);have tok1:True:=trivial
 go_region_held3 (fun w'=>(w'.cell? ⟨w.heap.size,0,none⟩=some (.slice Ap d.poly.length cp)∧w'.cell? ⟨w.heap.size,1,none⟩=some (.slice Ae d.eng.length ce)∧w'.cell? ⟨w.heap.size,2,none⟩=some (.slice At d.tab.length ct)∧w'.cell? ⟨w.heap.size,3,none⟩=some (.int .i64 d.rw)∧w'.cell? ⟨w.heap.size,4,none⟩=some (.int .i64 d.ac)∧w'.cell? ⟨w.heap.size,5,none⟩=some (.int .i64 d.wi))∧w'.cell? ⟨nb,no,none⟩=some (.int .i64 x0)∧w'.cell? ⟨nb,no+1,none⟩=some (.int .i64 x1)∧w'.cell? ⟨nb,no+2,none⟩=some (.int .i64 x2)) (first|with_reducible exact⟨⟨c0,c1,c2,c3,c4,c5⟩,n0,n1,n2⟩|exact⟨⟨c0,c1,c2,c3,c4,c5⟩,n0,n1,n2⟩|go_keep)
  (first
  |((try go_simp);go_at_call 94;have _t:=tok1;go_loud (refine(uG _ d.tab x0 x1 x2 _ (by first|exact HS.out.sta.2.2.1|exact HS.out.sta.2.2.1.bel (ah _))).mono ?_;rintro e5 w5 ⟨y1,rfl,o1,b5⟩;replace b5:Below W.heap.size W w5:=(by first|exact b5|exact aa (ah _) b5);have G5:=Jj (HS.out.next b5);have HX:=Jj (o1.read);obtain⟨us,A1,k1,hus,rfl,hk1,hk2,hk3,hk4⟩:=o1.read;clear o1 hus hk1 hk2 hk3 hk4;obtain⟨c0,c1,c2,c3,c4,c5⟩:=G5.out.box.cells;obtain⟨f0,f1,f2,f3,f4,f5⟩:=G5.out.out.frz;obtain⟨z0,z1,z2,z3,z4,z5⟩:=G5.out.out.cells;obtain⟨n0,n1,n2⟩:=HNC.out _ G5.out.bel;clear tok1 b5;(try dsimp only)))
  |fail)
 all_goals
  have HB:=Jj (show ∀X,Below w5.heap.size w5 X→(X.cell? ⟨w.heap.size,0,none⟩=some (.slice Ap d.poly.length cp)∧X.cell? ⟨w.heap.size,1,none⟩=some (.slice Ae d.eng.length ce)∧X.cell? ⟨w.heap.size,2,none⟩=some (.slice At d.tab.length ct)∧X.cell? ⟨w.heap.size,3,none⟩=some (.int .i64 d.rw)∧X.cell? ⟨w.heap.size,4,none⟩=some (.int .i64 d.ac)∧X.cell? ⟨w.heap.size,5,none⟩=some (.int .i64 d.wi)) from fun X h=>(G5.out.next h).box.cells);clear n0 n1 n2;have tok2:True:=trivial;have tok3:True:=trivial
  go_wp2_with fail
  go_region_held3 (fun w'=>w'.cell? ⟨w.heap.size,0,none⟩=some (.slice Ap d.poly.length cp)∧w'.cell? ⟨w.heap.size,1,none⟩=some (.slice Ae d.eng.length ce)∧w'.cell? ⟨w.heap.size,2,none⟩=some (.slice At d.tab.length ct)∧w'.cell? ⟨w.heap.size,3,none⟩=some (.int .i64 d.rw)∧w'.cell? ⟨w.heap.size,4,none⟩=some (.int .i64 d.ac)∧w'.cell? ⟨w.heap.size,5,none⟩=some (.int .i64 d.wi)) (first|with_reducible exact⟨c0,c1,c2,c3,c4,c5⟩|with_reducible exact G7.out.kept (.slice Ap d.poly.length cp) (.slice Ae d.eng.length ce) (.slice At d.tab.length ct) d|exact⟨c0,c1,c2,c3,c4,c5⟩|exact G7.out.kept (.slice Ap d.poly.length cp) (.slice Ae d.eng.length ce) (.slice At d.tab.length ct) d|go_keep)
  (first
  |((try go_simp);go_at_call 93;have _t:=tok2;go_loud (refine(qy _ (chP d.tab x0 x1 x2) _ (by first|exact HX.out|exact HX.out.bel (ah _)) (Js HSZ.out (by omega)) HCN.out).mono ?_;rintro e7 w7 ⟨rfl,b7⟩;replace b7:Below w5.heap.size w5 w7:=(by first|exact b7|exact aa (ah _) b7);have B7:=Jj b7;have G7:=Jj (G5.out.next b7);obtain⟨c0,c1,c2,c3,c4,c5⟩:=HB.out _ b7;obtain⟨f0,f1,f2,f3,f4,f5⟩:=G7.out.out.frz;obtain⟨z0,z1,z2,z3,z4,z5⟩:=G7.out.out.cells;clear tok2 b7;(try dsimp only)))
  |((try go_simp);go_at_call 29;have _t:=tok3;go_loud (refine(dD (eu d.tab x0 x1 x2) (da (chP d.tab x0 x1 x2)) _ (by omega)).mono ?_;rintro e8 w8 ⟨rfl,rfl⟩;clear tok3;(try dsimp only)))
  |fail)
  all_goals
   go_wp2;obtain⟨kk,ss,bb⟩:=G7.out.done G7.out.sta;generalize World.setCell _ _ _=w9 at kk ss bb ⊢;obtain⟨m0,m1,m2,m3,m4,m5⟩:=kk.cells;refine bodyPost_ret (v:=.tuple #[.agg #[(.slice Ap d.poly.length cp),(.slice Ae d.eng.length ce),(.slice At d.tab.length ct),.int .i64 d.rw,.int .i64 d.ac,.int .i64 d.wi],.string (ak (da (chP d.tab x0 x1 x2)) (eu d.tab x0 x1 x2))]) (by simp[results,results50,go_sem,m0,m1,m2,m3,m4,m5]) rfl ?_;rw[show r=(ak (da (chP d.tab x0 x1 x2)) (eu d.tab x0 x1 x2),d) from HRR.out.symm.trans ((lZ d l).trans (by rw[HX0.out,HX1.out,HX2.out]))];exact⟨_,rfl,ss,bb⟩
theorem FH {d:ae} (ok:d.Ok) (p:Int):(eb d p).length≤1048576:=by
 have h2:=ok.ac;unfold eb
 split
 ·have hl:(iI d.rw d.ac d.tab p.toNat).length=d.ac:=gI _ _ _ _;omega
 ·simp
theorem AY (d:ae) (ok:d.Ok) (p:Int) (v:Value) (w:World) (hv:ai w v d.tab):
  Calls prog 95 #[.agg #[.int .i64 d.rw,.int .i64 d.ac,.int .i64 d.wi],v,.int .i64 p] w fun e w'=>∃r,e=.returned r∧Own w' w.heap.size r (eb d p)∧Below w.heap.size w w':=by
 have ht:=ok.tab;have h1:=ok.rw;have h2:=ok.ac;have h3:=ok.wi;by_cases h:ag d.tab=true∧0≤p∧p<(pgN d.tab (d.rw*d.ac):Int)
 ·obtain⟨k1,k2,k3⟩:=h;obtain⟨p,rfl⟩:∃k:Nat,p=k:=⟨p.toNat,by omega⟩;have e:eb d (p:Int)=iI d.rw d.ac d.tab p:=by unfold eb;rw[if_pos (by unfold n9;rw[k1];exact decide_eq_true ⟨k2,k3⟩)];rfl
  rw[e];exact AZ d.rw d.ac d.wi p v d.tab w hv h1 h2 h3 ht k1 (by omega)
 ·have e:eb d p=[]:=by
   unfold eb;rw[if_neg];intro hk;unfold n9 at hk;rw[JB] at hk;exact h ⟨hk.1,of_decide_eq_true hk.2⟩
  rw[e];exact DM d.rw d.ac d.wi p v d.tab w hv h1 h2 h3 ht h
theorem zQ (P:Nat→Prop) (v n:Value) (d:ae) (l:List Int) (w:World) (ok:d.Ok) (hs:SxR P w v d) (hn:SxN P w) (hl:ai w n l) (hll:l.length=1):Calls prog 50 #[v,.string eW,n] w (SxQ P w (aK d eW l)):=by
 have hlw:=hl.2;obtain⟨An,cn,rfl,hnc,hncc,hrd⟩:=hl.open_;obtain⟨nb,no,rfl,hnb,hnn⟩:=hrd.ints (by omega);have q0:=hnn 0 (by omega);have i0:=hlw _ (bG l 0 (by omega));obtain⟨x0,hx0⟩:∃x,at_ l 0=x:=⟨_,rfl⟩;rw[hx0] at q0 i0;have HX0:=Jj hx0;rw[Nat.add_zero] at q0;rw[hll] at hnc ⊢;clear hl hrd hnn hlw hll hx0;obtain⟨p,e,t,rfl,hs0⟩:=hs.s;obtain⟨Ap,cp,rfl,-,-,-⟩:=hs0.1.1.open_;obtain⟨Ae,ce,rfl,-,-,-⟩:=hs0.2.1.1.open_;obtain⟨At,ct,rfl,-,-,-⟩:=hs0.2.2.1.open_;have HS:=Jj (Sxn.first hs0 hn);have HSAME:=Jj (SxS.same hs0 hn);obtain⟨c0,c1,c2,c3,c4,c5⟩:=HS.out.box.cells;obtain⟨f0,f1,f2,f3,f4,f5⟩:=HS.out.out.frz;obtain⟨z0,z1,z2,z3,z4,z5⟩:=HS.out.out.cells;obtain⟨r,hr⟩:∃r:ByteArray×ae,aK d eW l=r:=⟨_,rfl⟩;have HRR:=Jj hr;rw[hr];clear hs hs0 hn hr;have HSM:=sj ok x0;have HLEN:=Jj (FH ok x0);have HOK:=Jj ok;clear ok;unfold eW
 go_enter func50,ntmps50
 go_wp2_with fail
 generalize hW:World.alloc _ _=W at HS c0 c1 c2 c3 c4 c5 f0 f1 f2 f3 f4 f5 z0 z1 z2 z3 z4 z5 ⊢;clear hW;have HNC:=Jj (fun X (h:Below w.heap.size w X)=>((h.cell (by exact hnb)).trans q0:X.cell? ⟨nb,no,none⟩=some (.int .i64 x0)));have n0:=HNC.out _ HS.out.bel;clear q0;have tok1:True:=trivial
 go_region_held3 (fun w'=>(w'.cell? ⟨w.heap.size,0,none⟩=some (.slice Ap d.poly.length cp)∧w'.cell? ⟨w.heap.size,1,none⟩=some (.slice Ae d.eng.length ce)∧w'.cell? ⟨w.heap.size,2,none⟩=some (.slice At d.tab.length ct)∧w'.cell? ⟨w.heap.size,3,none⟩=some (.int .i64 d.rw)∧w'.cell? ⟨w.heap.size,4,none⟩=some (.int .i64 d.ac)∧w'.cell? ⟨w.heap.size,5,none⟩=some (.int .i64 d.wi))∧w'.cell? ⟨nb,no,none⟩=some (.int .i64 x0)) (first|with_reducible exact⟨⟨c0,c1,c2,c3,c4,c5⟩,n0⟩|exact⟨⟨c0,c1,c2,c3,c4,c5⟩,n0⟩|go_keep)
  (first
  |((try go_simp);go_at_call 95;have _t:=tok1;go_loud (refine(AY d HOK.out x0 _ _ (by first|exact HS.out.sta.2.2.1|exact HS.out.sta.2.2.1.bel (ah _))).mono ?_;rintro e5 w5 ⟨y1,rfl,o1,b5⟩;replace b5:Below W.heap.size W w5:=(by first|exact b5|exact aa (ah _) b5);have G5:=Jj (HS.out.next b5);have HX:=Jj o1.ints;obtain⟨A1,k1,rfl,-,-,-⟩:=o1.ints.open_;clear o1;obtain⟨c0,c1,c2,c3,c4,c5⟩:=G5.out.box.cells;obtain⟨f0,f1,f2,f3,f4,f5⟩:=G5.out.out.frz;obtain⟨z0,z1,z2,z3,z4,z5⟩:=G5.out.out.cells;have n0:=HNC.out _ G5.out.bel;clear tok1 b5;(try dsimp only)))
  |fail)
 all_goals
  have HB:=Jj (show ∀X,Below w5.heap.size w5 X→(X.cell? ⟨w.heap.size,0,none⟩=some (.slice Ap d.poly.length cp)∧X.cell? ⟨w.heap.size,1,none⟩=some (.slice Ae d.eng.length ce)∧X.cell? ⟨w.heap.size,2,none⟩=some (.slice At d.tab.length ct)∧X.cell? ⟨w.heap.size,3,none⟩=some (.int .i64 d.rw)∧X.cell? ⟨w.heap.size,4,none⟩=some (.int .i64 d.ac)∧X.cell? ⟨w.heap.size,5,none⟩=some (.int .i64 d.wi)) from fun X h=>(G5.out.next h).box.cells);have hlen:=HLEN.out;clear n0;obtain⟨N,hN⟩:∃N,(eb d x0).length=N:=⟨_,rfl⟩;have HN:=Jj hN;have HX2:=Jj (show ai w5 (.slice A1 N k1) (eb d x0) from hN▸HX.out);have HLN:=Jj hlen;rw[hN];clear HX hN hlen;have tok2:True:=trivial;have tok3:True:=trivial;have HK:=Jj (show decide (0<(eb d x0).length)=decide (0<N) by rw[HN.out])
  go_wp2_with fail
  go_region_held3 (fun w'=>w'.cell? ⟨w.heap.size,0,none⟩=some (.slice Ap d.poly.length cp)∧w'.cell? ⟨w.heap.size,1,none⟩=some (.slice Ae d.eng.length ce)∧w'.cell? ⟨w.heap.size,2,none⟩=some (.slice At d.tab.length ct)∧w'.cell? ⟨w.heap.size,3,none⟩=some (.int .i64 d.rw)∧w'.cell? ⟨w.heap.size,4,none⟩=some (.int .i64 d.ac)∧w'.cell? ⟨w.heap.size,5,none⟩=some (.int .i64 d.wi)) (first|with_reducible exact⟨c0,c1,c2,c3,c4,c5⟩|with_reducible exact G7.out.kept (.slice Ap d.poly.length cp) (.slice Ae d.eng.length ce) (.slice At d.tab.length ct) d|exact⟨c0,c1,c2,c3,c4,c5⟩|exact G7.out.kept (.slice Ap d.poly.length cp) (.slice Ae d.eng.length ce) (.slice At d.tab.length ct) d|go_keep)
  (first
  |((try go_simp);go_at_call 35;have _t:=tok2;go_loud (refine(cW _ (eb d x0) _ (by first|exact HX2.out|exact HX2.out.bel (ah _)) HLN.out).mono ?_;rintro e7 w7 ⟨rfl,b7⟩;replace b7:Below w5.heap.size w5 w7:=(by first|exact b7|exact aa (ah _) b7);have B7:=Jj b7;have G7:=Jj (G5.out.next b7);obtain⟨c0,c1,c2,c3,c4,c5⟩:=HB.out _ b7;obtain⟨f0,f1,f2,f3,f4,f5⟩:=G7.out.out.frz;obtain⟨z0,z1,z2,z3,z4,z5⟩:=G7.out.out.cells;clear tok2 b7;(try dsimp only)))
  |((try go_simp);go_at_call 29;have _t:=tok3;go_loud (refine(dD _ (aw (eb d x0)) _ (by omega)).mono ?_;rintro e8 w8 ⟨rfl,rfl⟩;clear tok3;(try dsimp only)))
  |fail)
  all_goals
   go_wp2;obtain⟨kk,ss,bb⟩:=G7.out.done G7.out.sta;generalize World.setCell _ _ _=w9 at kk ss bb ⊢;obtain⟨m0,m1,m2,m3,m4,m5⟩:=kk.cells;refine bodyPost_ret (v:=.tuple #[.agg #[(.slice Ap d.poly.length cp),(.slice Ae d.eng.length ce),(.slice At d.tab.length ct),.int .i64 d.rw,.int .i64 d.ac,.int .i64 d.wi],.string (ak (aw (eb d x0)) (decide (0<N)))]) (by simp[results,results50,go_sem,m0,m1,m2,m3,m4,m5]) rfl ?_;rw[show r=(ak (aw (eb d x0)) (decide (0<N)),d) from HRR.out.symm.trans ((mM d l).trans (by rw[HX0.out,HK.out]))];exact⟨_,rfl,ss,bb⟩
theorem vL (P:Nat→Prop) (v n:Value) (d:ae) (l:List Int) (w:World) (hs:SxR P w v d) (hn:SxN P w) (hl:ai w n l) (hll:l.length=3):Calls prog 50 #[v,.string dS,n] w (SxQ P w (aK d dS l)):=by
 have hlw:=hl.2;obtain⟨An,cn,rfl,hnc,hncc,hrd⟩:=hl.open_;obtain⟨nb,no,rfl,hnb,hnn⟩:=hrd.ints (by omega);have q0:=hnn 0 (by omega);have i0:=hlw _ (bG l 0 (by omega));obtain⟨x0,hx0⟩:∃x,at_ l 0=x:=⟨_,rfl⟩;rw[hx0] at q0 i0;have HX0:=Jj hx0;have q1:=hnn 1 (by omega);have i1:=hlw _ (bG l 1 (by omega));obtain⟨x1,hx1⟩:∃x,at_ l 1=x:=⟨_,rfl⟩;rw[hx1] at q1 i1;have HX1:=Jj hx1;have q2:=hnn 2 (by omega);have i2:=hlw _ (bG l 2 (by omega));obtain⟨x2,hx2⟩:∃x,at_ l 2=x:=⟨_,rfl⟩;rw[hx2] at q2 i2;have HX2:=Jj hx2;rw[Nat.add_zero] at q0;rw[hll] at hnc ⊢;clear hl hrd hnn hlw hll hx0 hx1 hx2;obtain⟨p,e,t,rfl,hs0⟩:=hs.s;obtain⟨Ap,cp,rfl,-,-,-⟩:=hs0.1.1.open_;obtain⟨Ae,ce,rfl,-,-,-⟩:=hs0.2.1.1.open_;obtain⟨At,ct,rfl,-,-,-⟩:=hs0.2.2.1.open_;have HS:=Jj (Sxn.first hs0 hn);have HSAME:=Jj (SxS.same hs0 hn);obtain⟨c0,c1,c2,c3,c4,c5⟩:=HS.out.box.cells;obtain⟨f0,f1,f2,f3,f4,f5⟩:=HS.out.out.frz;obtain⟨z0,z1,z2,z3,z4,z5⟩:=HS.out.out.cells;obtain⟨r,hr⟩:∃r:ByteArray×ae,aK d dS l=r:=⟨_,rfl⟩;have HRR:=Jj hr;rw[hr];clear hs hs0 hn hr;unfold dS
 go_enter func50,ntmps50
 go_wp2_with fail
 generalize hW:World.alloc _ _=W at HS c0 c1 c2 c3 c4 c5 f0 f1 f2 f3 f4 f5 z0 z1 z2 z3 z4 z5 ⊢;clear hW;have HNC:=Jj (fun X (h:Below w.heap.size w X)=>(⟨(h.cell (by exact hnb)).trans q0,(h.cell (by exact hnb)).trans q1,(h.cell (by exact hnb)).trans q2⟩:X.cell? ⟨nb,no,none⟩=some (.int .i64 x0)∧X.cell? ⟨nb,no+1,none⟩=some (.int .i64 x1)∧X.cell? ⟨nb,no+2,none⟩=some (.int .i64 x2)));obtain⟨n0,n1,n2⟩:=HNC.out _ HS.out.bel;clear q0 q1 q2;have HB:=Jj (show ∀X,Below W.heap.size W X→(X.cell? ⟨nb,no,none⟩=some (.int .i64 x0)∧X.cell? ⟨nb,no+1,none⟩=some (.int .i64 x1)∧X.cell? ⟨nb,no+2,none⟩=some (.int .i64 x2)) from fun X h=>HNC.out X (HS.out.next h).bel);have B6:=Jj ((ab W (.cells #[.int .i64 x0,.int .i64 x1,.int .i64 x2] 29)).drew);have KL:Blk (W.alloc (.cells #[.int .i64 x0,.int .i64 x1,.int .i64 x2] 29)).drew W.heap.size 29 [.int .i64 x0,.int .i64 x1,.int .i64 x2]:=Blk.new W 29 [.int .i64 x0,.int .i64 x1,.int .i64 x2]
 go_region_held3 (fun w'=>w'.cell? ⟨nb,no,none⟩=some (.int .i64 x0)∧w'.cell? ⟨nb,no+1,none⟩=some (.int .i64 x1)∧w'.cell? ⟨nb,no+2,none⟩=some (.int .i64 x2)) (first|with_reducible exact HB.out _ (Below.refl _ _)|with_reducible exact HB.out _ (ah _)|with_reducible exact HB.out _ (ab _ _)|with_reducible exact HB.out _ ((ab _ _).drew)|go_keep) (first|fail|fail)
 all_goals
  generalize World.drew _=W6 at B6 KL ⊢;have H6:=Jj (HS.out.next B6.out);have HKL:=Jj KL;clear c0 c1 c2 c3 c4 c5 f0 f1 f2 f3 f4 f5 z0 z1 z2 z3 z4 z5 n0 n1 n2 KL;obtain⟨c0,c1,c2,c3,c4,c5⟩:=H6.out.box.cells;obtain⟨f0,f1,f2,f3,f4,f5⟩:=H6.out.out.frz;obtain⟨z0,z1,z2,z3,z4,z5⟩:=H6.out.out.cells;obtain⟨l0,l1,l2⟩:=HKL.out.three
  go_wp2_with fail
  refine(eJ x0 x1 x2 _).mono ?_;rintro e7 w7 ⟨rfl,b7⟩;have H7:=Jj (H6.out.next b7);have HK7:=Jj (HKL.out.below b7 HKL.out.lt);clear c0 c1 c2 c3 c4 c5 f0 f1 f2 f3 f4 f5 z0 z1 z2 z3 z4 z5 l0 l1 l2 b7;cases hq:dE x0 x1 x2
  ·have HQ:=Jj hq;clear hq;obtain⟨c0,c1,c2,c3,c4,c5⟩:=H7.out.box.cells;obtain⟨f0,f1,f2,f3,f4,f5⟩:=H7.out.out.frz;obtain⟨z0,z1,z2,z3,z4,z5⟩:=H7.out.out.cells;go_wp2;obtain⟨kk,ss,bb⟩:=H7.out.done H7.out.sta;generalize World.setCell _ _ _=w9 at kk ss bb ⊢;obtain⟨m0,m1,m2,m3,m4,m5⟩:=kk.cells;refine bodyPost_ret (v:=.tuple #[.agg #[(.slice Ap d.poly.length cp),(.slice Ae d.eng.length ce),(.slice At d.tab.length ct),.int .i64 d.rw,.int .i64 d.ac,.int .i64 d.wi],.string ⟨#[110,111,10]⟩]) (by simp[results,results50,go_sem,m0,m1,m2,m3,m4,m5]) rfl ?_;rw[show r=(⟨#[110,111,10]⟩,d) from HRR.out.symm.trans ((ji d l).trans (by rw[HX0.out,HX1.out,HX2.out];unfold kv eM;rw[HQ.out];rfl))];exact⟨_,rfl,ss,bb⟩
  ·obtain⟨r1,a1,i1,er,ea,ei,h1,h2,h3⟩:=nn hq;have HQ:=Jj hq;have HL:=Jj (H7.out.lay r1 a1 i1);have HD:=Jj (show eM d x0 x1 x2={ d with rw:=r1,ac:=a1,wi:=i1 } by unfold eM;rw[if_pos hq,er,ea,ei];rfl);have HO:=Jj (show kv x0 x1 x2=okS by unfold kv;rw[if_pos hq]);clear hq;obtain⟨c0,c1,c2,c3,c4,c5⟩:=H7.out.box.cells;obtain⟨f0,f1,f2,f3,f4,f5⟩:=H7.out.out.frz;obtain⟨z0,z1,z2,z3,z4,z5⟩:=H7.out.out.cells;obtain⟨g0,g1,g2,g3,g4,g5⟩:=H7.out.box.frz;obtain⟨l0,l1,l2⟩:=HK7.out.three;rw[er] at l0;rw[ea] at l1;rw[ei] at l2
   go_wp2_with fail
   generalize World.setCell _ _ _=W8 at HL ⊢;clear c0 c1 c2 c3 c4 c5 f0 f1 f2 f3 f4 f5 z0 z1 z2 z3 z4 z5 g0 g1 g2 g3 g4 g5 l0 l1 l2;obtain⟨c0,c1,c2,c3,c4,c5⟩:=HL.out.box.cells;obtain⟨f0,f1,f2,f3,f4,f5⟩:=HL.out.out.frz;obtain⟨z0,z1,z2,z3,z4,z5⟩:=HL.out.out.cells;go_wp2;obtain⟨kk,ss,bb⟩:=HL.out.done HL.out.sta;generalize World.setCell _ _ _=w9 at kk ss bb ⊢;obtain⟨m0,m1,m2,m3,m4,m5⟩:=kk.cells;refine bodyPost_ret (v:=.tuple #[.agg #[(.slice Ap d.poly.length cp),(.slice Ae d.eng.length ce),(.slice At d.tab.length ct),.int .i64 { d with rw:=r1,ac:=a1,wi:=i1 }.rw,.int .i64 { d with rw:=r1,ac:=a1,wi:=i1 }.ac,.int .i64 { d with rw:=r1,ac:=a1,wi:=i1 }.wi],.string ⟨#[111,107,10]⟩]) (by simp[results,results50,go_sem,m0,m1,m2,m3,m4,m5]) rfl ?_;rw[show r=(⟨#[111,107,10]⟩,{ d with rw:=r1,ac:=a1,wi:=i1 }) from HRR.out.symm.trans ((ji d l).trans (by rw[HX0.out,HX1.out,HX2.out,HD.out,HO.out];rfl))];exact⟨_,rfl,ss,bb⟩
theorem Fh (P:Nat→Prop) (v:Value) (d:ae) (w:World) (hs:SxR P w v d) (hn:SxN P w):Calls prog 10 #[v,.string kO] w (SxQ P w (aM d kO)):=by
 obtain⟨p,e,t,rfl,hs0⟩:=hs.s;obtain⟨Ap,cp,rfl,-,-,-⟩:=hs0.1.1.open_;obtain⟨Ae,ce,rfl,-,-,-⟩:=hs0.2.1.1.open_;obtain⟨At,ct,rfl,-,-,-⟩:=hs0.2.2.1.open_;have HS:=Jj (Sxn.first hs0 hn);have HSAME:=Jj (SxS.same hs0 hn);obtain⟨c0,c1,c2,c3,c4,c5⟩:=HS.out.box.cells;obtain⟨f0,f1,f2,f3,f4,f5⟩:=HS.out.out.frz;obtain⟨z0,z1,z2,z3,z4,z5⟩:=HS.out.out.cells;obtain⟨r,hr⟩:∃r:ByteArray×ae,aM d kO=r:=⟨_,rfl⟩;have HRR:=Jj hr;rw[hr];clear hs hs0 hn hr;have hsz:=fs (rdL d.eng);unfold kO
 go_enter func10,ntmps10
 go_wp2_with fail
 generalize hW:World.alloc _ _=W at HS c0 c1 c2 c3 c4 c5 f0 f1 f2 f3 f4 f5 z0 z1 z2 z3 z4 z5 ⊢;clear hW;refine(Ba _ d.eng _ HS.out.sta.2.1.1).mono ?_;rintro e1 w1 ⟨x1,rfl,o1,b1⟩;obtain⟨A1,k1,rfl,-,-,-⟩:=o1.ints.open_;have H1:=Jj (HS.out.next b1);have HX:=Jj o1.ints;have HXO:=Jj (HS.out.polyO o1);clear c0 c1 c2 c3 c4 c5 f0 f1 f2 f3 f4 f5 z0 z1 z2 z3 z4 z5 o1;clear b1;obtain⟨c0,c1,c2,c3,c4,c5⟩:=H1.out.box.cells;obtain⟨f0,f1,f2,f3,f4,f5⟩:=H1.out.out.frz;obtain⟨z0,z1,z2,z3,z4,z5⟩:=H1.out.out.cells;have tok1:True:=trivial;have tok2:True:=trivial
 go_wp2_with fail
 go_region_law (first
  |((try go_simp);go_at_call 30;have _t:=tok1;go_loud (refine(bE _ (rdL d.eng) _ (by first|exact HX.out|exact HX.out.bel (ah _))).mono ?_;rintro e5 w5 ⟨rfl,b5⟩;replace b5:Below w1.heap.size w1 w5:=(by first|exact b5|exact aa (ah _) b5);have G5:=Jj (H1.out.next b5);obtain⟨f0,f1,f2,f3,f4,f5⟩:=G5.out.out.frz;obtain⟨z0,z1,z2,z3,z4,z5⟩:=G5.out.out.cells;obtain⟨y0,y1,y2,y3,y4,y5⟩:=G5.out.box.cells;clear tok1 b5;(try dsimp only)))
  |((try go_simp);go_at_call 29;have _t:=tok2;go_loud (refine(dD (kA d.eng) (ax (rdL d.eng)) _ (by omega)).mono ?_;rintro e6 w6 ⟨rfl,rfl⟩;clear tok2;(try dsimp only)))
  |fail)
 all_goals
  go_wp2;obtain⟨kk,ss,bb⟩:=G5.out.done G5.out.sta;generalize World.setCell _ _ _=w9 at kk ss bb ⊢;obtain⟨x0,x1,x2,x3,x4,x5⟩:=kk.cells;refine bodyPost_ret (v:=.tuple #[.agg #[(.slice Ap d.poly.length cp),(.slice Ae d.eng.length ce),(.slice At d.tab.length ct),.int .i64 d.rw,.int .i64 d.ac,.int .i64 d.wi],.string (ak (ax (rdL d.eng)) (kA d.eng))]) (by simp[results,results10,go_sem,x0,x1,x2,x3,x4,x5]) rfl ?_;rw[show r=(ak (ax (rdL d.eng)) (kA d.eng),d) from HRR.out.symm.trans (m6 d)];exact⟨_,rfl,ss,bb⟩
theorem GS (P:Nat→Prop) (v:Value) (d:ae) (w:World) (ht:d.tab.length≤1048576) (hs:SxR P w v d) (hn:SxN P w):Calls prog 10 #[v,.string mW] w (SxQ P w (aM d mW)):=by
 obtain⟨p,e,t,rfl,hs0⟩:=hs.s;obtain⟨Ap,cp,rfl,-,-,-⟩:=hs0.1.1.open_;obtain⟨Ae,ce,rfl,-,-,-⟩:=hs0.2.1.1.open_;obtain⟨At,ct,rfl,-,-,-⟩:=hs0.2.2.1.open_;have HS:=Jj (Sxn.first hs0 hn);have HSAME:=Jj (SxS.same hs0 hn);obtain⟨c0,c1,c2,c3,c4,c5⟩:=HS.out.box.cells;obtain⟨f0,f1,f2,f3,f4,f5⟩:=HS.out.out.frz;obtain⟨z0,z1,z2,z3,z4,z5⟩:=HS.out.out.cells;obtain⟨r,hr⟩:∃r:ByteArray×ae,aM d mW=r:=⟨_,rfl⟩;have HRR:=Jj hr;rw[hr];clear hs hs0 hn hr;have hsz:=fs (itL d.tab);unfold mW
 go_enter func10,ntmps10
 go_wp2_with fail
 generalize hW:World.alloc _ _=W at HS c0 c1 c2 c3 c4 c5 f0 f1 f2 f3 f4 f5 z0 z1 z2 z3 z4 z5 ⊢;clear hW;refine(sd _ d.tab _ HS.out.sta.2.2.1 ht).mono ?_;rintro e1 w1 ⟨x1,rfl,o1,b1⟩;obtain⟨A1,k1,rfl,-,-,-⟩:=o1.ints.open_;have H1:=Jj (HS.out.next b1);have HX:=Jj o1.ints;have HXO:=Jj (HS.out.polyO o1);clear c0 c1 c2 c3 c4 c5 f0 f1 f2 f3 f4 f5 z0 z1 z2 z3 z4 z5 o1;clear b1;cases hq:eB d.tab
 ·have HQ:=Jj hq;clear hq;obtain⟨c0,c1,c2,c3,c4,c5⟩:=H1.out.box.cells;obtain⟨f0,f1,f2,f3,f4,f5⟩:=H1.out.out.frz;obtain⟨z0,z1,z2,z3,z4,z5⟩:=H1.out.out.cells;have tok1:True:=trivial;have tok2:True:=trivial
  go_wp2_with fail
  go_region_law (first
   |((try go_simp);go_at_call 30;have _t:=tok1;go_loud (refine(bE _ (itL d.tab) _ (by first|exact HX.out|exact HX.out.bel (ah _))).mono ?_;rintro e5 w5 ⟨rfl,b5⟩;replace b5:Below w1.heap.size w1 w5:=(by first|exact b5|exact aa (ah _) b5);have G5:=Jj (H1.out.next b5);obtain⟨f0,f1,f2,f3,f4,f5⟩:=G5.out.out.frz;obtain⟨z0,z1,z2,z3,z4,z5⟩:=G5.out.out.cells;obtain⟨y0,y1,y2,y3,y4,y5⟩:=G5.out.box.cells;clear tok1 b5;(try dsimp only)))
   |((try go_simp);go_at_call 29;have _t:=tok2;go_loud (refine(dD false (ax (itL d.tab)) _ (by omega)).mono ?_;rintro e6 w6 ⟨rfl,rfl⟩;clear tok2;(try dsimp only)))
   |fail)
  all_goals
   go_wp2;obtain⟨kk,ss,bb⟩:=G5.out.done G5.out.sta;generalize World.setCell _ _ _=w9 at kk ss bb ⊢;obtain⟨x0,x1,x2,x3,x4,x5⟩:=kk.cells;refine bodyPost_ret (v:=.tuple #[.agg #[(.slice Ap d.poly.length cp),(.slice Ae d.eng.length ce),(.slice At d.tab.length ct),.int .i64 d.rw,.int .i64 d.ac,.int .i64 d.wi],.string (ak (ax (itL d.tab)) false)]) (by simp[results,results10,go_sem,x0,x1,x2,x3,x4,x5]) rfl ?_;rw[show r=(ak (ax (itL d.tab)) false,d) from HRR.out.symm.trans ((lN d).trans (by unfold dF;rw[HQ.out];rfl))];exact⟨_,rfl,ss,bb⟩
 ·have HQ:=Jj hq;have HP:=Jj (H1.out.poly HX.out HXO.out);have HX2:=Jj (show ai (w1.setCell ⟨w.heap.size,0,none⟩ (.slice A1 (itL d.tab).length k1)) _ (itL d.tab) from HP.out.sta.1.1);clear hq;obtain⟨c0,c1,c2,c3,c4,c5⟩:=H1.out.box.cells;obtain⟨f0,f1,f2,f3,f4,f5⟩:=H1.out.out.frz;obtain⟨z0,z1,z2,z3,z4,z5⟩:=H1.out.out.cells;obtain⟨g0,g1,g2,g3,g4,g5⟩:=H1.out.box.frz;have tok1:True:=trivial;have tok2:True:=trivial
  go_wp2_with fail
  generalize hW2:w1.setCell ⟨w.heap.size,0,none⟩ (.slice A1 (itL d.tab).length k1)=W2 at HP HX2 ⊢;clear hW2 c0 c1 c2 c3 c4 c5 f0 f1 f2 f3 f4 f5 z0 z1 z2 z3 z4 z5 g0 g1 g2 g3 g4 g5;obtain⟨c0,c1,c2,c3,c4,c5⟩:=HP.out.box.cells;obtain⟨f0,f1,f2,f3,f4,f5⟩:=HP.out.out.frz;obtain⟨z0,z1,z2,z3,z4,z5⟩:=HP.out.out.cells
  go_region_law (first
   |((try go_simp);go_at_call 30;have _t:=tok1;go_loud (refine(bE _ (itL d.tab) _ (by first|exact HX2.out|exact HX2.out.bel (ah _))).mono ?_;rintro e5 w5 ⟨rfl,b5⟩;replace b5:Below W2.heap.size W2 w5:=(by first|exact b5|exact aa (ah _) b5);have G5:=Jj (HP.out.next b5);obtain⟨f0,f1,f2,f3,f4,f5⟩:=G5.out.out.frz;obtain⟨z0,z1,z2,z3,z4,z5⟩:=G5.out.out.cells;obtain⟨y0,y1,y2,y3,y4,y5⟩:=G5.out.box.cells;clear tok1 b5;(try dsimp only)))
   |((try go_simp);go_at_call 29;have _t:=tok2;go_loud (refine(dD true (ax (itL d.tab)) _ (by omega)).mono ?_;rintro e6 w6 ⟨rfl,rfl⟩;clear tok2;(try dsimp only)))
   |fail)
  all_goals
   go_wp2;obtain⟨kk,ss,bb⟩:=G5.out.done G5.out.sta;generalize World.setCell _ _ _=w9 at kk ss bb ⊢;obtain⟨x0,x1,x2,x3,x4,x5⟩:=kk.cells;refine bodyPost_ret (v:=.tuple #[.agg #[(.slice A1 (itL d.tab).length k1),(.slice Ae d.eng.length ce),(.slice At d.tab.length ct),.int .i64 { d with poly:=itL d.tab }.rw,.int .i64 { d with poly:=itL d.tab }.ac,.int .i64 { d with poly:=itL d.tab }.wi],.string (ak (ax (itL d.tab)) true)]) (by simp[results,results10,go_sem,x0,x1,x2,x3,x4,x5]) rfl ?_;rw[show r=(ak (ax (itL d.tab)) true,{ d with poly:=itL d.tab }) from HRR.out.symm.trans ((lN d).trans (by unfold dF;rw[HQ.out];rfl))];exact⟨_,rfl,ss,bb⟩
theorem CT (P:Nat→Prop) (v:Value) (d:ae) (s:ByteArray) (w:World) (ok:d.Ok) (hs:SxR P w v d) (hn:SxN P w):Calls prog 10 #[v,.string s] w (SxQ P w (aM d s)):=by
 have ht:=ok.tab;by_cases h:s∈dj
 ·simp only[dj,Jz,JA,or_false] at h
  rcases h with rfl|rfl|rfl|rfl|rfl|rfl|rfl|rfl|rfl|rfl|rfl
  ·exact(kX P v d w hs hn).1
  ·exact(kX P v d w hs hn).2.1
  ·exact(kX P v d w hs hn).2.2.1
  ·exact(kX P v d w hs hn).2.2.2.1
  ·exact(kX P v d w hs hn).2.2.2.2
  ·exact Fh P v d w hs hn
  ·exact GS P v d w (by omega) hs hn
  ·exact AF P v d w (by omega) hs hn
  ·exact Dc P v d w ht hs hn
  ·exact Dd P v d w ok hs hn
  ·exact Fg P v d w hs hn
 ·exact Fi P v d s w hs hn h
end Go.Proofs.YtfmjklgfpiffbaaGreatDoor
namespace Go.Proofs.YtfmjklgfpiffbaaGreatDoor
open Go.RowKit Go.Proofs.Tryz
set_option linter.unusedVariables false
set_option linter.unusedSimpArgs false
set_option maxRecDepth 100000
set_option maxHeartbeats 8000000
noncomputable def b9 (d:ae) (l:ByteArray):ByteArray×ae:=
 if bL 32 l=false then aM d l
 else if bI (bef 32 l)=12 then bC d (bef 32 l) (aft 32 l)
 else if fC (bI (bef 32 l)) (aft 32 l)=true then aK d (bef 32 l) (bg (aft 32 l)) else(eF,d)
theorem vG {d:ae} (ok:d.Ok) (l:ByteArray):(b9 d l).2.Ok∧(b9 d l).1.size≤30000:=by
 unfold b9
 split
 ·exact FS ok _
 ·split
  ·exact FL ok _ _
  ·split
   ·exact Fe ok _ _
   ·exact⟨ok,(show eF.size≤30000 by decide)⟩
theorem DZ {d:ae} (ok:d.Ok) (s:ByteArray):fZ s d (aM d s).1 (aM d s).2:=by
 by_cases h:s∈dj
 ·simp only[dj,Jz,JA,or_false] at h
  rcases h with rfl|rfl|rfl|rfl|rfl|rfl|rfl|rfl|rfl|rfl|rfl
  ·rw[m8];exact Bv d
  ·rw[mY];exact Bs d
  ·rw[m7];exact Bu d
  ·rw[lv];exact xx d
  ·rw[lu];exact xw d
  ·rw[m6];exact Bt d
  ·rw[lN];exact D5 ok
  ·rw[lr];exact yI ok
  ·rw[mi];exact Bw ok
  ·rw[mj];exact Bx ok
  ·rw[mZ];exact D6 ok
 ·rw[rc d s (fun w hw e=>h (e▸hw))];exact D7 h
theorem DQ {d:ae} (ok:d.Ok) (s r:ByteArray) (ht:r.size≤1000000):jy s r d (bC d s r).1 (bC d s r).2:=by
 by_cases h:s∈dy
 ·simp only[dy,Jz,JA,or_false] at h
  rcases h with rfl|rfl|rfl|rfl|rfl|rfl|rfl
  ·rw[kM];exact DR ht
  ·rw[gB];exact xk ht
  ·rw[lq];exact xj ht
  ·rw[mh];exact Bm ht
  ·rw[jk];exact yF ht
  ·rw[jZ];exact Bl ok ht
  ·rw[oB];exact FM ok (by omega)
 ·rw[qY d r s (fun w hw e=>h (e▸hw))];exact DS h
theorem ns {l:List Int} (h:l.length=1):l=[at_ l 0]:=by
 match l,h with
 |[a],_=>rfl
theorem vW {l:List Int} (h:l.length=2):l=[at_ l 0,at_ l 1]:=by
 match l,h with
 |[a,b],_=>rfl
theorem CW {l:List Int} (h:l.length=3):l=[at_ l 0,at_ l 1,at_ l 2]:=by
 match l,h with
 |[a,b,c],_=>rfl
theorem Iv {l:List Int} (h:l.length=4):l=[at_ l 0,at_ l 1,at_ l 2,at_ l 3]:=by
 match l,h with
 |[a,b,c,d],_=>rfl
theorem C4 {d:ae} (ok:d.Ok) (j:Nat) (hj:j<12) (l:List Int) (hl:(l.length:Int)=at_ bT j) (hs:Sm l):cD (sat cN j) l d (aK d (sat cN j) l).1 (aK d (sat cN j) l).2:=by
 have b0:=uU hs 0;have b1:=uU hs 1;have hc:j=0∨j=1∨j=2∨j=3∨j=4∨j=5∨j=6∨j=7∨j=8∨j=9∨j=10∨j=11:=by omega
 rcases hc with rfl|rfl|rfl|rfl|rfl|rfl|rfl|rfl|rfl|rfl|rfl|rfl
 ·have hn:l.length=2:=by have:at_ bT 0=2:=rfl;omega
  have hw:sat cN 0=eU:=rfl;rw[hw,l5];have key:=(show cD eU [at_ l 0,at_ l 1] d _ _ from AE (by omega));rwa[←vW hn] at key
 ·have hn:l.length=1:=by have:at_ bT 1=1:=rfl;omega
  have hw:sat cN 1=eV:=rfl;rw[hw,l8];have key:=(show cD eV [at_ l 0] d _ _ from yl d _);rwa[←ns hn] at key
 ·have hn:l.length=2:=by have:at_ bT 2=2:=rfl;omega
  have hw:sat cN 2=dT:=rfl;rw[hw,lm];have key:=(show cD dT [at_ l 0,at_ l 1] d _ _ from wu (by omega) (by omega));rwa[←vW hn] at key
 ·have hn:l.length=1:=by have:at_ bT 3=1:=rfl;omega
  have hw:sat cN 3=jp:=rfl;rw[hw,n8];have key:=(show cD jp [at_ l 0] d _ _ from Ff (by omega));rwa[←ns hn] at key
 ·have hn:l.length=4:=by have:at_ bT 4=4:=rfl;omega
  have hw:sat cN 4=gn:=rfl;rw[hw,mL];have key:=(show cD gn [at_ l 0,at_ l 1,at_ l 2,at_ l 3] d _ _ from AA d _ _ _ _);rwa[←Iv hn] at key
 ·have hn:l.length=1:=by have:at_ bT 5=1:=rfl;omega
  have hw:sat cN 5=dt:=rfl;rw[hw,ky];have key:=(show cD dt [at_ l 0] d _ _ from wv ok (by omega));rwa[←ns hn] at key
 ·have hn:l.length=2:=by have:at_ bT 6=2:=rfl;omega
  have hw:sat cN 6=eT:=rfl;rw[hw,l4];have key:=(show cD eT [at_ l 0,at_ l 1] d _ _ from AD ok);rwa[←vW hn] at key
 ·have hn:l.length=3:=by have:at_ bT 7=3:=rfl;omega
  have hw:sat cN 7=dS:=rfl;rw[hw,ji];have key:=(show cD dS [at_ l 0,at_ l 1,at_ l 2] d _ _ from ym);rwa[←CW hn] at key
 ·have hn:l.length=1:=by have:at_ bT 8=1:=rfl;omega
  have hw:sat cN 8=gk:=rfl;rw[hw,mJ];have key:=(show cD gk [at_ l 0] d _ _ from C7 ok (by omega));rwa[←ns hn] at key
 ·have hn:l.length=1:=by have:at_ bT 9=1:=rfl;omega
  have hw:sat cN 9=gl:=rfl;rw[hw,mK];have key:=(show cD gl [at_ l 0] d _ _ from C8 ok);rwa[←ns hn] at key
 ·have hn:l.length=3:=by have:at_ bT 10=3:=rfl;omega
  have hw:sat cN 10=eS:=rfl;rw[hw,lZ];have key:=(show cD eS [at_ l 0,at_ l 1,at_ l 2] d _ _ from AC ok);rwa[←CW hn] at key
 ·have hn:l.length=1:=by have:at_ bT 11=1:=rfl;omega
  have hw:sat cN 11=eW:=rfl;rw[hw,mM];have key:=(show cD eW [at_ l 0] d _ _ from AB ok);rwa[←ns hn] at key
theorem E7 {d:ae} (ok:d.Ok) {l:ByteArray} (hs:l.size≤1000000):mm l d (b9 d l).1 (b9 d l).2:=by
 have hz:=nD 32 l;refine Ao hs (fun h=>?_) (fun h hj=>?_) (fun h hj hf=>?_) (fun h hj hf=>?_)
 ·have e:b9 d l=aM d l:=by unfold b9;rw[if_pos h]
  rw[e];exact DZ ok l
 ·have e:b9 d l=bC d (bef 32 l) (aft 32 l):=by unfold b9;rw[if_neg (by rw[h];simp),if_pos hj]
  rw[e];exact DQ ok _ _ (by omega)
 ·have e:b9 d l=aK d (bef 32 l) (bg (aft 32 l)):=by unfold b9;rw[if_neg (by rw[h];simp),if_neg (by omega),if_pos hf]
  rw[e];have hw:=(jq (bef 32 l)).2.2 hj;have hf2:=hf;unfold fC at hf2;rw[JB] at hf2;have key:=C4 ok _ hj (bg (aft 32 l)) (of_decide_eq_true hf2.2) (qP _);rwa[hw] at key
 ·have e:b9 d l=(eF,d):=by unfold b9;rw[if_neg (by rw[h];simp),if_neg (by omega),if_neg (by rw[hf];simp)]
  rw[e];exact⟨rfl,rfl⟩
theorem ku (t:ByteArray) (w:World) (hg:GlbC w):Calls prog 6 #[.string t] w fun e w'=>e=.returned (.string (fT b9 t))∧Below w.heap.size w w':=
 s6 b9 ae.Ok t w hg vs fun d l ok hl=>⟨E7 ok (by omega),vG ok l⟩
end Go.Proofs.YtfmjklgfpiffbaaGreatDoor
