/-
  Parts of the proof of one statement, merged: ScX ScL ScR ScT EnF EsC EsT EsTb ScA ScB ScG RunS EsN EsQ EsR ExB ExC ExR ScJ Pfx ExX.
-/
import Derived.Test.YtfmjklgfpiffbaaGreatDoorR25
import Derived.Test.YtfmjklgfpiffbaaGreatDoorR30
import Derived.Test.YtfmjklgfpiffbaaGreatDoorR33
namespace Go.Proofs.YtfmjklgfpiffbaaGreatDoor
open Go.RowKit Go.Proofs.Tryz
set_option linter.unusedVariables false
set_option linter.unusedSimpArgs false
set_option maxRecDepth 100000
set_option maxHeartbeats 8000000
attribute [local go_sem ↓] Go.wp_at_zero Go.wp_at_succ
def mm (line:ByteArray) (d:ae) (out:ByteArray) (d2:ae):Prop:=
 ∀(b:Nat) (w:World),bO w b d→dY b w→Calls prog 15 #[.pointer (some ⟨b,0,none⟩),.string line] w fun e w'=>jc w b out d2 e w'
def fZ (word:ByteArray) (d:ae) (out:ByteArray) (d2:ae):Prop:=
 ∀(b:Nat) (w:World),bO w b d→dY b w→Calls prog 54 #[.pointer (some ⟨b,0,none⟩),.string word] w fun e w'=>jc w b out d2 e w'
def jy (word rest:ByteArray) (d:ae) (out:ByteArray) (d2:ae):Prop:=
 ∀(b:Nat) (w:World),bO w b d→dY b w→Calls prog 57 #[.pointer (some ⟨b,0,none⟩),.string word,.string rest] w fun e w'=>jc w b out d2 e w'
def cD (word:ByteArray) (l:List Int) (d:ae) (out:ByteArray) (d2:ae):Prop:=
 ∀(b:Nat) (v:Value) (w:World),Own w 0 v l→bO w b d→dY b w→Calls prog 56 #[.pointer (some ⟨b,0,none⟩),.string word,v] w fun e w'=>jc w b out d2 e w'
theorem CB {word:ByteArray} {d d2:ae} {out:ByteArray} (h32:(32:UInt8)∉word.data.toList) (hs:word.size≤1048576) (hc:fZ word d out d2):mm word d out d2:=by
 intro b w hd hg;have HD:=Jj hd;have HG:=Jj hg;clear hd hg
 go_enter func15,ntmps15
 go_wp2_with fail
 refine(tE word 32 _ hs h32 HG.out.glb).mono ?_;rintro e w2 ⟨rfl,b2⟩;have HB:=Jj b2;clear b2
 go_wp2_with fail
 refine(hc b w2 (HD.out.bel HB.out) (HG.out.bel HB.out)).mono ?_;rintro e w3 ⟨rfl,h2,h3⟩;have HE:=Jj (Jq h2 h3);clear h2 h3;go_wp2;go_ret;exact⟨rfl,HE.out.1,ay (aB _ HB.out) HE.out.2⟩
theorem Cz {word rest:ByteArray} {d d2:ae} {out:ByteArray} (h32:(32:UInt8)∉word.data.toList) (hs:word.size+rest.size≤1048576) (hw:∀k,k<12→sat cN k≠word) (hc:jy word rest d out d2):mm (word++⟨#[32]⟩++rest) d out d2:=by
 intro b w hd hg;have HD:=Jj hd;have HG:=Jj hg;have HW:=Jj hw;clear hd hg hw
 go_enter func15,ntmps15
 go_wp2_with fail
 refine(lx word rest 32 _ hs h32 HG.out.glb).mono ?_;rintro e w2 ⟨rfl,b2⟩;have HB:=Jj b2;obtain⟨gb,go,gc,hgl,hgc1,hgc2,hgb,hgt⟩:=(HG.out.bel b2).cmd;have HC:=Jj (Jq hgb hgt);clear b2 hgt hgb
 go_wp2_with fail
 clear hgl
 go_loopw [25] (fun i wr=>∃k:Nat,k≤12∧i=.int .i64 k∧Below w2.heap.size w2 wr) (fun i _=>12-(intOf i).toNat)
 case atStart=>exact⟨0,Jy _,rfl,Below.refl _ _⟩
 case round=>
  obtain⟨k,hk,rfl,hb⟩:=hrel;have HB2:=Jj hb;have hz:=hb.size;by_cases hlt:k<12
  ·have hc1:=(hb.cell (by exact HC.out.1)).trans (HC.out.2 k hlt).1;have hc2:=(hb.cell (by exact HC.out.1)).trans (HC.out.2 k hlt).2;have hne:=gD (HW.out k hlt);obtain⟨Z,hZ⟩:∃Z,sat cN k=Z:=⟨_,rfl⟩;obtain⟨z,hz2⟩:∃z,at_ bT k=z:=⟨_,rfl⟩;rw[hZ] at hc1 hne;rw[hz2] at hc2;clear hb hZ hz2;go_wp2;go_roundw
   case rel=>exact⟨k+1,hlt,by go_num,(HB2.out.alloc hz _)⟩
   case measure=>simp[intOf];omega
  ·have hke:k=12:=by omega
   subst hke;clear hb
   go_wp2_with fail
   refine(hc b wr (HD.out.bel (aa HB.out HB2.out)) (HG.out.bel (aa HB.out HB2.out))).mono ?_;rintro e w3 ⟨rfl,h2,h3⟩;have HE:=Jj (Jq h2 h3);clear h2 h3;go_wp2;go_ret;exact⟨rfl,HE.out.1,ay (aB _ (aa HB.out HB2.out)) HE.out.2⟩
theorem Cy {word rest:ByteArray} {j:Nat} {l:List Int} {d d2:ae} {out:ByteArray} (h32:(32:UInt8)∉word.data.toList) (hs:word.size+rest.size≤1048576)
  (hj:j<12) (hw:sat cN j=word) (hw2:∀k,k<j→sat cN k≠word) (hn:at_ bT j=l.length) (hok:aE rest=true) (hl:bg rest=l) (hc:cD word l d out d2):mm (word++⟨#[32]⟩++rest) d out d2:=by
 intro b w hd hg;have HD:=Jj hd;have HG:=Jj hg;have HW:=Jj (Jq hw hw2);have HN:=Jj hn;have HL:=Jj hl;have HK:=Jj hok;clear hd hg hw hw2 hn hl hok
 go_enter func15,ntmps15
 go_wp2_with fail
 refine(lx word rest 32 _ hs h32 HG.out.glb).mono ?_;rintro e w2 ⟨rfl,b2⟩;have HB:=Jj b2;obtain⟨gb,go,gc,hgl,hgc1,hgc2,hgb,hgt⟩:=(HG.out.bel b2).cmd;have HC:=Jj (Jq hgb hgt);clear b2 hgt hgb
 go_wp2_with fail
 clear hgl
 go_loopw [25] (fun i wr=>∃k:Nat,k≤j∧i=.int .i64 k∧Below w2.heap.size w2 wr) (fun i _=>12-(intOf i).toNat)
 case atStart=>exact⟨0,Jy _,rfl,Below.refl _ _⟩
 case round=>
  obtain⟨k,hk,rfl,hb⟩:=hrel;have HB2:=Jj hb;have hz:=hb.size;have h12:k<12:=by omega
  have hc1:=(hb.cell (by exact HC.out.1)).trans (HC.out.2 k h12).1;have hc2:=(hb.cell (by exact HC.out.1)).trans (HC.out.2 k h12).2;by_cases hlt:k<j
  ·have hne:=gD (HW.out.2 k hlt);obtain⟨Z,hZ⟩:∃Z,sat cN k=Z:=⟨_,rfl⟩;obtain⟨z,hz2⟩:∃z,at_ bT k=z:=⟨_,rfl⟩;rw[hZ] at hc1 hne;rw[hz2] at hc2;clear hb hZ hz2;go_wp2;go_roundw
   case rel=>exact⟨k+1,hlt,by go_num,(HB2.out.alloc hz _)⟩
   case measure=>simp[intOf];omega
  ·have hke:k=j:=by omega
   subst hke;rw[HW.out.1] at hc1;rw[HN.out] at hc2;have heq:(!word.toList==word.toList)=false:=by simp
   have BA:=ab wr (.cells #[.string word,.int .i64 l.length] 88);have K1:=Blk.new wr 88 [.string word,.int .i64 l.length];have HB3:=Jj (aa HB2.out BA);clear hb
   go_wp2_with fail
   generalize hW:wr.alloc (.cells #[.string word,.int .i64 l.length] 88)=w4 at *;refine(ec rest _ (by omega) (HG.out.bel (aa HB.out HB3.out)).glb).mono ?_;rw[HK.out];rintro e w5 ⟨r,rfl,o,b5⟩;rw[dI HK.out,HL.out] at o;have HB5:=Jj (aa HB.out (aa HB3.out b5));have HO:=Jj o;replace K1:=K1.below b5 K1.lt;have a0:w5.cell? ⟨wr.heap.size,0,none⟩=some (.string word):=by rw[K1.cell];rfl
   have a1:w5.cell? ⟨wr.heap.size,1,none⟩=some (.int .i64 l.length):=by rw[K1.cell];rfl
   obtain⟨A,c,rfl,-,-,-⟩:=o.ints.open_;clear b5 o K1 hW BA hc1 hc2
   go_wp2_with fail
   clear a0 a1;refine(hc b _ w5 HO.out.low (HD.out.bel HB5.out) (HG.out.bel HB5.out)).mono ?_;rintro e w3 ⟨rfl,h2,h3⟩;have HE:=Jj (Jq h2 h3);clear h2 h3;go_wp2;go_ret;exact⟨rfl,HE.out.1,ay (aB _ HB5.out) HE.out.2⟩
def ja:ByteArray:=⟨#[112,114,105,110,116]⟩
def ej:ByteArray:=⟨#[112,111,108,121]⟩
def mX:ByteArray:=⟨#[106,111,98]⟩
def jb:ByteArray:=⟨#[116,97,98,108,101]⟩
def eW:ByteArray:=⟨#[115,117,109,115]⟩
def eT:ByteArray:=⟨#[114,111,117,110,100]⟩
def dS:ByteArray:=⟨#[108,97,121,111,117,116]⟩
theorem AK (p:List Int) (h:Wf p):(ax p).size≤154:=by
 unfold ax
 split
 ·rename_i hp
  have h1:=bM h;have h2:=(bf.1 hp).2.1;omega
 ·exact Jy _
theorem Bx {d:ae} (ok:d.Ok):fZ ja d (dh d) d:=by
 intro b w hd hg;have HD:=Jj hd;have HG:=Jj hg;clear hd hg;unfold ja
 go_enter func54,ntmps54
 go_wp2_with fail
 refine(uf b d w HD.out ok HG.out).mono ?_;rintro e w3 ⟨rfl,h2,h3⟩;have HE:=Jj (Jq h2 h3);clear h2 h3;go_wp2;go_ret;exact⟨rfl,HE.out.1,HE.out.2⟩
theorem D6 {d:ae} (ok:d.Ok):fZ ej d (ax d.poly++nlS) d:=by
 intro b w hd hg;have HD:=Jj hd;have HG:=Jj hg;obtain⟨p,en,t,k0,k1,-,-⟩:=hd;have HP:=Jj k1.ints;obtain⟨A,c,rfl,-,-,-⟩:=k1.ints.open_;obtain⟨c0,c1,c2,c3,c4,c5⟩:=k0.desk;have hsz:=AK _ HP.out.2;clear hg k0 k1;unfold ej
 go_enter func54,ntmps54
 go_wp2_with fail
 refine(jI _ d.poly w HP.out HG.out.glb.1).mono ?_;rintro e w2 ⟨rfl,b2⟩;have HB:=Jj b2;clear b2
 go_wp2_with fail
 refine(cy _ true _ (by omega)).mono ?_;rintro e w4 ⟨rfl,rfl⟩;go_wp2;go_ret;exact⟨rfl,HD.out.bel HB.out,aB _ HB.out⟩
theorem FM {d:ae} {t:ByteArray} (ok:d.Ok) (ht:t.size≤1048576):jy mX t d (gx d t) (jh d t):=by
 intro b w hd hg;have HD:=Jj hd;have HG:=Jj hg;clear hd hg;unfold mX
 go_enter func57,ntmps57
 go_wp2_with fail
 refine(xT b d t w ht HD.out ok HG.out).mono ?_;rintro e w3 ⟨rfl,h2,h3⟩;have HE:=Jj (Jq h2 h3);clear h2 h3;go_wp2;go_ret;exact⟨rfl,HE.out.1,HE.out.2⟩
theorem Hi (t:ByteArray) (ht:t.size≤1000000):(spL t).length≤1048576:=by
 have:=ff 32 t;unfold spL
 split
 ·unfold bg;rw[List.length_map];omega
 ·exact Jy _
theorem Bm {d:ae} {t:ByteArray} (ht:t.size≤1000000):jy jb t d (ak (aw (spL t)) (aE t&&ag (spL t))) (aR d (spL t) (aE t)):=by
 intro b w hd hg;have HD:=Jj hd;have HG:=Jj hg;have hlen:=Hi t ht;clear hd hg;unfold jb
 go_enter func57,ntmps57
 go_wp2_with fail
 refine(ec t w (by omega) HG.out.glb).mono ?_;rintro e w2 ⟨r,rfl,o,b2⟩;have HB:=Jj b2;have HO:=Jj o;clear o b2
 go_wp2_with fail
 refine(jX b d r (spL t) (aE t) w2 (HD.out.bel HB.out) HO.out.low hlen (HG.out.bel HB.out)).mono ?_;rintro e w3 ⟨rfl,h2,h3⟩;have HE:=Jj (Jq h2 h3);clear h2 h3;go_wp2;go_ret;exact⟨rfl,HE.out.1,ay (aB _ HB.out) HE.out.2⟩
theorem eL {w:World} {v:Value} {l:List Int} (h:Own w 0 v l) (hl:0<l.length):∃g c,v=.slice (some ⟨g,0,none⟩) l.length c∧g<w.heap.size∧∀k,k<l.length→w.cell? ⟨g,k,none⟩=some (.int .i64 (at_ l k)):=by
 obtain⟨g,c,rfl,h1,-,-,-,h9⟩:=h.openN hl;exact⟨g,c,rfl,(h.lt g rfl).2,fun k hk=>(h9 k hk).1⟩
theorem C9 {d:ae} {p:Nat} (ok:d.Ok) (ht:ag d.tab=true) (hp:p<pgN d.tab (d.rw*d.ac)):cD eW [(p:Int)] d (ak (aw (iI d.rw d.ac d.tab p)) true) d:=by
 intro b v w hv hd hg;have HD:=Jj hd;have HG:=Jj hg;have htl:=ok.tab;have HTO:=Jj ht;have HP:=Jj hp;obtain⟨h1,h2,h3⟩:=Jq ok.rw (Jq ok.ac ok.wi);obtain⟨pv,en,t,k0,-,-,k3⟩:=hd;have HT:=Jj k3.ints;have HK:=Jj k0;obtain⟨A,c,rfl,-,-,-⟩:=k3.ints.open_;obtain⟨g,cn,rfl,hgl,hcn⟩:=eL hv (by simp);have n0:w.cell? ⟨g,0,none⟩=some (.int .i64 p):=hcn 0 (by simp);obtain⟨c0,c1,c2,c3,c4,c5⟩:=k0.desk;have HN:=Jj n0;obtain⟨L,hL⟩:∃L,iI d.rw d.ac d.tab p=L:=⟨_,rfl⟩;have hpl:L.length=d.ac:=by rw[←hL];exact gI _ _ _ _
 have hp0:0<L.length:=by omega
 have hp1:(0:Int)<(L.length:Int):=by omega
 have hp6:L.length≤6:=by omega
 have HL:=Jj hL;have HQ:Hid (∀w3 r,Own w3 0 r (psL (pgE d.tab (d.rw*d.ac) p) d.rw d.ac (pgE d.tab (d.rw*d.ac) p).length)→Own w3 0 r L):=Jj (fun w3 r h=>by rw[←hL];exact h);rw[hL];clear hL hpl;have tok1:True:=trivial;clear k0 k3 hg ok ht hp hv hcn;unfold eW
 go_enter func56,ntmps56
 go_wp2_with fail
 go_region_held3 (fun w'=>(w'.cell? ⟨b,2,none⟩=some (.slice A d.tab.length c)∧w'.cell? ⟨b,3,none⟩=some (.int .i64 d.rw)∧w'.cell? ⟨b,4,none⟩=some (.int .i64 d.ac)∧w'.cell? ⟨b,5,none⟩=some (.int .i64 d.wi))∧w'.cell? ⟨g,0,none⟩=some (.int .i64 p)) (first|exact⟨HK.out.desk4,HN.out⟩|exact⟨HK3.out.desk4,HN3.out⟩|go_keep) (first
  |((try go_simp);go_at_call 133;have _t:=tok1;go_loud (refine(wC d.rw d.ac d.wi (d.rw*d.ac) p _ d.tab _ (by first|exact HT.out|exact HT.out.bel (ah _)) h1 h2 h3 htl rfl HTO.out HP.out).mono ?_;rintro e w3 ⟨r,rfl,o3,b3⟩;replace b3:Below w.heap.size w w3:=(by first|exact b3|exact aa (ah _) b3);have HB:=Jj b3;have HK3:=Jj (HK.out.below b3 HK.out.lt);have HN3:=Jj ((b3.cell (by exact hgl)).trans HN.out);replace o3:=HQ.out _ _ o3.low;have HO:=Jj o3;obtain⟨A3,c6,rfl,-,-,-⟩:=o3.ints.open_;clear tok1 b3 o3;(try dsimp only)))
  |fail)
 clear c0 c1 c2 c3 c4 c5 n0;have hns:=bM HO.out.ints.2
 go_wp2_with fail
 refine(dC _ L _ HO.out.ints (by omega) (HG.out.bel HB.out).glb.1).mono ?_;rintro e w4 ⟨rfl,b4⟩;replace HB:=Jj (aa HB.out b4);clear b4
 go_wp2_with fail
 refine(cy _ true _ (by omega)).mono ?_;rintro e w5 ⟨rfl,rfl⟩;go_wp2;go_ret;exact⟨rfl,HD.out.bel HB.out,aB _ HB.out⟩
theorem AD {d:ae} {dg wy:Int} (ok:d.Ok):cD eT [dg,wy] d (ak (aw (rtL d.tab dg wy)) (fR d.tab dg wy&&ag (rtL d.tab dg wy))) (aR d (rtL d.tab dg wy) (fR d.tab dg wy)):=by
 intro b v w hv hd hg;have HD:=Jj hd;have HG:=Jj hg;have htl:=ok.tab;have hrl:(rtL d.tab dg wy).length≤1048576:=Js (sW _ _ _) (by omega);obtain⟨pv,en,t,k0,-,-,k3⟩:=hd;have HT:=Jj k3.ints;obtain⟨A,c,rfl,-,-,-⟩:=k3.ints.open_;obtain⟨g,cn,rfl,hgl,hcn⟩:=eL hv (by simp);have n0:w.cell? ⟨g,0,none⟩=some (.int .i64 dg):=hcn 0 (by simp);have n1:w.cell? ⟨g,1,none⟩=some (.int .i64 wy):=hcn 1 (by simp);obtain⟨c0,c1,c2,c3,c4,c5⟩:=k0.desk;clear c0 c1 c3 c4 c5;have tok1:True:=trivial;have tok2:True:=trivial;clear k0 k3 hg ok hv hcn;unfold eT
 go_enter func56,ntmps56
 go_wp2_with fail
 go_region_law (first
  |(go_simp;go_at_call 127;have _t:=tok1;refine(rB _ d.tab dg wy _ (by first|exact HT.out|exact HT.out.bel (ah _))).mono ?_;rintro e1 w3 ⟨r,rfl,o3,b3⟩;replace b3:Below w.heap.size w w3:=(by first|exact b3|exact aa (ah _) b3);have HB:=Jj b3;have HO:=Jj o3.low;clear tok1 b3 o3 n0 n1 c2)
  |(go_simp;go_at_call 122;have _t:=tok2;refine(jX b d _ (rtL d.tab dg wy) (fR d.tab dg wy) _ (HD.out.bel HB.out) HO.out hrl (HG.out.bel HB.out)).mono ?_;rintro e2 w4 ⟨rfl,d4,g4⟩;have HE:=Jj (Jq d4 g4);clear tok2 d4 g4)
  |fail)
 all_goals
  go_wp2;go_ret;exact⟨rfl,HE.out.1,ay (aB _ HB.out) HE.out.2⟩
theorem ym {d:ae} {r a i:Int}:cD dS [r,a,i] d (kv r a i) (eM d r a i):=by
 intro b v w hv hd hg;have HD:=Jj hd;have HV:=Jj hv;obtain⟨g,cn,rfl,hgl,hcn⟩:=eL hv (by simp);have n0:w.cell? ⟨g,0,none⟩=some (.int .i64 r):=hcn 0 (by simp);have n1:w.cell? ⟨g,1,none⟩=some (.int .i64 a):=hcn 1 (by simp);have n2:w.cell? ⟨g,2,none⟩=some (.int .i64 i):=hcn 2 (by simp);have tok2:True:=trivial;clear hg hv hcn hd;unfold dS
 go_enter func56,ntmps56
 go_wp2_with fail
 go_region_law (first
  |(go_simp;go_at_call 128;have _t:=tok2;refine(AQ b d r a i _ (by first|exact HD.out|exact HD.out.bel (ah _))).mono ?_;rintro e2 w4 ⟨rfl,d4,g4⟩;replace g4:w.grownBy w4 (some b):=(by first|exact g4|exact ay (aB _ (ah _)) g4);have HE:=Jj (Jq d4 g4);clear tok2 d4 g4)
  |fail)
 all_goals
  go_wp2;go_ret;exact⟨rfl,HE.out.1,HE.out.2⟩
def bD (l:List ByteArray):ByteArray:=if af l=true then aW l ⟨#[32]⟩ else⟨#[]⟩
theorem qK {l:List ByteArray} (h:af l=true):bD l=aW l ⟨#[32]⟩:=by simp[bD,h]
theorem o9 {l:List ByteArray} (h:af l=true):∀s∈l,s.size≤12:=by
 intro s hs;obtain⟨k,hk,rfl⟩:=List.getElem_of_mem hs;have:=((ap.1 h).2.2 k hk).1;rw[bV l k hk] at this;exact(aQ this).2.1
theorem eH (l:List ByteArray):(bD l).size≤91:=by
 unfold bD
 split
 ·rename_i h
  have h1:=im (sep:=⟨#[32]⟩) (o9 h);have h2:=(ap.1 h).2.1;have h3:(⟨#[32]⟩:ByteArray).size=1:=rfl;rw[h3] at h1;omega
 ·exact Jy _
theorem rv (v:Value) (l:List ByteArray) (w:World) (hv:aG w v l):
  Calls prog 179 #[.agg #[v]] w fun e w'=>e=.returned (.string (bD l))∧Below w.heap.size w w':=by
 have HV:=Jj hv;obtain⟨A,c,rfl,-,-,-⟩:=hv.open_;have B0:=ab w (.cells #[.slice A l.length c] 32);have K0:=Blk.new' w 32 (.slice A l.length c) w.heap.size rfl;obtain⟨c0,-⟩:=K0.one;clear hv
 go_enter func179,ntmps179
 go_wp2_with fail
 clear c0;refine(bF _ l _ (HV.out.bel B0)).mono ?_;rintro e w2 ⟨rfl,hb⟩;replace K0:=K0.below hb K0.lt;have HB:=Jj (aa B0 hb);obtain⟨c0,-⟩:=K0.one;clear B0 hb;cases hq:af l
 ·have HN:=Jj (show bD l=⟨#[]⟩ by unfold bD;rw[hq];rfl);clear hq;go_wp2;go_ret;exact⟨by rw[HN.out];rfl,HB.out⟩
 ·have HN:=Jj (qK hq);have HS:=Jj (o9 hq);have hl:=(ap.1 hq).2.1;clear hq
  go_wp2_with fail
  refine(kS _ l ⟨#[32]⟩ _ (HV.out.bel HB.out) (by omega) 12 HS.out (by omega) (by decide)).mono ?_;rintro e w3 ⟨rfl,b⟩;have HB3:=Jj (aa HB.out b);clear b c0;go_wp2;go_ret;exact⟨by rw[HN.out];rfl,HB3.out⟩
def bd (d:ae) (l:List ByteArray) (k:Bool):ae:=if k=true then { d with eng:=l } else d
theorem fw (b:Nat) (d:ae) (v:Value) (l:List ByteArray) (k:Bool) (w:World) (hd:bO w b d) (hv:aj w 0 v l) (hg:dY b w):
  Calls prog 106 #[.pointer (some ⟨b,0,none⟩),.agg #[v],.bool k] w fun e w'=>jc w b (ak (bD l) k) (bd d l k) e w':=by
 have hdl:=hd.lt;have hfs:=eH l;obtain⟨A,c,rfl,-,-,-⟩:=hv.strs.open_;have B0:=ab w (.cells #[.slice A l.length c] 32);have K0:=Blk.new' w 32 (.slice A l.length c) w.heap.size rfl;have HD:=Jj (hd.bel B0);have HD0:=Jj hd;have HV0:=Jj hv;have HG0:=Jj hg;have HV:=Jj (hv.bel B0);have HB:=Jj B0;have HG:=Jj (hg.bel B0);obtain⟨c0,-⟩:=K0.one;clear hv hd hg B0;cases k
 ·go_enter func106,ntmps106
  go_wp2_with fail
  refine(rv _ l _ HV.out.strs).mono ?_;rintro e w2 ⟨rfl,b2⟩;have HB2:=Jj b2;clear b2 c0
  go_wp2_with fail
  refine(cy _ false _ (by omega)).mono ?_;rintro e w3 ⟨rfl,rfl⟩;go_wp2;go_ret;exact⟨rfl,HD.out.bel HB2.out,aB _ (aa HB.out HB2.out)⟩
 ·have hne1:¬w.heap.size=b:=by omega
  have hne2:¬b=w.heap.size:=by omega
  obtain⟨p,en,t,k0,-,-,-⟩:=HD.out;obtain⟨f0,f1,f2,f3,f4,f5⟩:=k0.deskF;obtain⟨d0,d1,d2,d3,d4,d5⟩:=k0.desk;clear k0;have G2:=Jj (ay (aI w b 1 (.slice A l.length c)) (aB (some b) (ab (w.setCell ⟨b,1,none⟩ (.slice A l.length c)) (.cells #[.slice A l.length c] 32))));have D2:=Jj ((HD0.out.setEng HV0.out).bel (ab (w.setCell ⟨b,1,none⟩ (.slice A l.length c)) (.cells #[.slice A l.length c] 32)));have V2:=Jj (HD0.out.keepOwnS HV0.out G2.out);have HG2:=Jj (HG0.out.grown G2.out)
  go_enter func106,ntmps106
  go_wp2_with fail
  generalize hW:(w.setCell ⟨b,1,none⟩ (.slice A l.length c)).alloc (.cells #[.slice A l.length c] 32)=w2 at D2 G2 V2 HG2 ⊢;clear hW c0 d0 d1 d2 d3 d4 d5 f0 f1 f2 f3 f4 f5;refine(rv _ l _ V2.out.strs).mono ?_;rintro e w3 ⟨rfl,b2⟩;have HB2:=Jj b2;clear b2
  go_wp2_with fail
  refine(cy _ true _ (by omega)).mono ?_;rintro e w4 ⟨rfl,rfl⟩;go_wp2;go_ret;exact⟨rfl,D2.out.bel HB2.out,ay G2.out (aB _ HB2.out)⟩
def fc (l:List Int) (m:Nat):List Int:=if ag l=true then gen (fun i=>(md (at_ l i) m:Int)) l.length else[]
theorem wK {l:List Int} (m:Nat) (h:ag l=true):fc l m=gen (fun i=>(md (at_ l i) m:Int)) l.length:=by simp[fc,h]
theorem Ha (v:Value) (l:List Int) (m:Nat) (w:World) (hv:ai w v l) (hm:1≤m∧m≤1000):
  Calls prog 193 #[v,.int .i64 m] w fun e w'=>∃r,e=.returned r∧Own w' w.heap.size r (fc l m)∧Below w.heap.size w w':=by
 have HV:=Jj hv;obtain⟨A,c,rfl,-,-,-⟩:=hv.open_;clear hv
 go_enter func193,ntmps193
 go_wp2_with fail
 refine(aF _ l _ HV.out).mono ?_;rintro e wz ⟨rfl,rfl⟩;cases hq:ag l
 ·have HN:=Jj (show fc l m=[] by unfold fc;rw[hq];rfl);clear hq;go_wp2;go_ret;exact⟨_,rfl,by rw[HN.out];exact Own.nil_ _ _,Below.refl _ _⟩
 ·have HN:=Jj (wK m hq);have h60:=(aA hq).2.1;have hmk:=fun W=>Tryz.mkInts l.length (by omega) W;have OZ:=Own.zeros w l.length (by omega);have BZ:=ab w (.cells (bz l.length (.int .i64 0)).toArray 3);have hz2:=BZ.size;clear hq
  go_wp2_with fail
  generalize hW:w.alloc (.cells (bz l.length (.int .i64 0)).toArray 3)=w3 at *;clear hW
  go_loopw [16] (fun i wr=>∃(k:Nat) (L:List Int),k≤l.length∧i=.int .i64 k∧L.length=l.length∧(∀j,j<k→at_ L j=(md (at_ l j) m:Int))∧Own wr w.heap.size (.slice (some ⟨w.heap.size,0,none⟩) l.length l.length) L∧Below w.heap.size w wr) (fun i _=>l.length-(intOf i).toNat)
  case atStart=>exact⟨0,_,Jy _,rfl,iN _,fun j hj=>absurd hj (Nat.not_lt_zero _),OZ,BZ⟩
  case round=>
   obtain⟨k,L,hk,rfl,hL,hat,hO,hB⟩:=hrel;have H:=Jj (Jq hat (Jq hO hB));have HLL:=Jj hL;have hz:=hB.size;clear hat hO hB hL OZ BZ;by_cases hkl:k<l.length
   ·obtain⟨A6,c6,e6,-,-,hrd⟩:=(HV.out.bel H.out.2.2).open_;cases e6;obtain⟨b,o,rfl,hbb,hcell⟩:=hrd.ints (Nat.lt_of_le_of_lt (Jy _) hkl);have hck:=hcell k hkl;have hml:=gW (at_ l k) hm.1;obtain⟨x,hx⟩:∃x,at_ l k=x:=⟨_,rfl⟩;rw[hx] at hck hml;have HX:=Jj hx;obtain⟨g9,c9,e9,-,-,-,-,h9⟩:=H.out.2.1.openN (by rw[HLL.out];omega);injection e9 with e1 e2 e3;injection e1 with e1;injection e1 with e1;subst e1;clear e2 e3;obtain⟨f0,f1⟩:=h9 k (by rw[HLL.out];exact hkl);clear hcell hrd h9 hx
    go_wp2_with fail
    refine(dp x m _ ⟨hm.1,by omega⟩).mono ?_;rintro e w5 ⟨rfl,rfl⟩;go_wp2;go_roundw
    case rel=>
     refine⟨k+1,L.set k (md x m:Int),hkl,by go_num,by rw[List.length_set];exact HLL.out,fun j hj=>?_,H.out.2.1.set_ k _ (by rw[HLL.out];exact hkl) ⟨by omega,by omega⟩,H.out.2.2.setCell (Jr _) _⟩;rw[re j (by rw[HLL.out];exact hkl)];by_cases e:j=k
     ·rw[if_pos e,e,HX.out]
     ·rw[if_neg e];exact H.out.1 j (by omega)
    case measure=>simp[intOf];omega
   ·have hke:k=l.length:=by omega
    subst hke;have HE:=Jj (show fc l m=L from by
     rw[HN.out];refine gg (by rw[ar,HLL.out]) (fun j hj=>?_);rw[ar] at hj;rw[bP hj,H.out.1 j hj])
    have HO:=Jj H.out.2.1;have hll:=HLL.out;go_wp2;go_ret;refine⟨_,rfl,?_,H.out.2.2⟩;rw[HE.out];exact HO.out
theorem CZ (v:Value) (l:List Int) (w:World) (hv:ai w v l):
  Calls prog 117 #[v] w fun e w'=>∃r,e=.returned r∧Own w' w.heap.size r (fc l 9)∧Below w.heap.size w w':=by
 go_enter func117,ntmps117
 go_wp2_with fail
 refine(Ha v l 9 w hv ⟨by omega,by omega⟩).mono ?_;rintro e w2 ⟨r,rfl,o,b⟩;go_wp2;go_ret;exact⟨r,rfl,o,b⟩
theorem zZ (sep:ByteArray):aW [] sep=⟨#[]⟩:=rfl
theorem mF {l:List ByteArray} (h:l≠[]) (x sep:ByteArray):aW (l++[x]) sep=aW l sep++sep++x:=by
 unfold aW;rw[List.map_append,List.map_cons,List.map_nil,pq,if_neg (by simpa using h)]
 apply ByteArray.ext
 apply Array.toList_inj.1
 simp
theorem nU (x sep:ByteArray):aW ([]++[x]) sep=aW [] sep++x:=by
 rw[zZ];unfold aW
 apply ByteArray.ext
 apply Array.toList_inj.1
 simp[Lib.join_one]
theorem Bk (l:List ByteArray) {k:Nat} (h:k<l.length):l.take (k+1)=l.take k++[sat l k]:=by
 rw[List.take_succ_eq_append_getElem h,bV l k h]
theorem r9 (v:Value) (l:List ByteArray) (w:World) (hv:aG w v l):
  Calls prog 64 #[.agg #[v]] w fun e w'=>e=.returned (.string (bD l))∧Below w.heap.size w w':=by
 have HV:=Jj hv;obtain⟨A,c,rfl,hlc,hcm,hrd⟩:=hv.open_;have HR:=Jj hrd;have B0:=ab w (.cells #[.slice A l.length c] 32);have K0:=Blk.new' w 32 (.slice A l.length c) w.heap.size rfl;obtain⟨c0,-⟩:=K0.one;clear hv hrd
 go_enter func64,ntmps64
 go_wp2_with fail
 clear c0;refine(dX _ l _ (HV.out.bel B0)).mono ?_;rintro e w2 ⟨rfl,hb⟩;replace K0:=K0.below hb K0.lt;have HB:=Jj (aa B0 hb);have HK:=Jj K0;obtain⟨c0,-⟩:=K0.one;clear B0 hb;cases hq:af l
 ·have HN:=Jj (show bD l=⟨#[]⟩ by unfold bD;rw[hq];rfl);clear hq;go_wp2;go_ret;exact⟨by rw[HN.out];rfl,HB.out⟩
 ·have HN:=Jj (qK hq);have HS:=Jj (o9 hq);obtain⟨l1,l7,-⟩:=ap.1 hq;obtain⟨b,o,rfl,hbb,hcell⟩:=HR.out.strs (by omega);have HC:=Jj (Jq hbb hcell);clear hq hcell hbb c0 K0
  go_wp2_with fail
  go_loopw [3,4] (fun s i wr=>∃k:Nat,k≤l.length∧i=.int .i64 k∧s=.string (aW (l.take k) ⟨#[32]⟩)∧Below w2.heap.size w2 wr) (fun _ i _=>l.length-(intOf i).toNat)
  case atStart=>exact⟨0,Jy _,rfl,rfl,Below.refl _ _⟩
  case round=>
   obtain⟨k,hk,rfl,rfl,hb⟩:=hrel;have HB2:=Jj hb;have c0:=(HK.out.below hb HK.out.lt).one.1;by_cases hlt:k<l.length
   ·have hck:=((aa HB.out hb).cell (by exact HC.out.1)).trans (HC.out.2 k hlt);have hs:=im (l:=l.take k) (sep:=⟨#[32]⟩) (B:=12) (fun s h=>HS.out s (List.mem_of_mem_take h));have htk:(l.take k).length=k:=by rw[List.length_take];omega
    have h1:(⟨#[32]⟩:ByteArray).size=1:=rfl;rw[htk,h1] at hs;have hi:=HS.out _ (cJ l k hlt);have TS:=Jj (Bk l hlt);clear hb h1;by_cases h0:0<k
    ·have NS:=Jj (mF (l:=l.take k) (fun e=>by rw[e] at htk;simp at htk;omega) (sat l k) ⟨#[32]⟩);have hcat:¬ 9223372036854775807<(aW (l.take k) ⟨#[32]⟩).size+1:=by omega
     have hcat2:¬ 9223372036854775807<(aW (l.take k) ⟨#[32]⟩++⟨#[32]⟩).size+(sat l k).size:=by rw[Jt];have:(⟨#[32]⟩:ByteArray).size=1:=rfl;omega
     have hcat3:¬ 9223372036854775807<(aW (l.take k) ⟨#[32]⟩).size+1+(sat l k).size:=by omega
     clear htk hs hi;go_wp2;go_roundw
     case rel=>exact⟨k+1,by omega,by go_num,by rw[TS.out,NS.out],HB2.out⟩
     case measure=>simp[intOf];omega
    ·have e0:l.take k=[]:=by
      have:k=0:=by omega
      rw[this,List.take_zero]
     have NS:=Jj (show aW (l.take k++[sat l k]) ⟨#[32]⟩=aW (l.take k) ⟨#[32]⟩++sat l k by rw[e0,nU]);have hcat:¬ 9223372036854775807<(aW (l.take k) ⟨#[32]⟩).size+(sat l k).size:=by omega
     clear e0 htk hs hi;go_wp2;go_roundw
     case rel=>exact⟨k+1,by omega,by go_num,by rw[TS.out,NS.out],HB2.out⟩
     case measure=>simp[intOf];omega
   ·obtain rfl:k=l.length:=by omega
    go_wp2;go_ret;exact⟨by rw[HN.out,List.take_length];rfl,aa HB.out HB2.out⟩
theorem DU {x:ByteArray} (h:x≠⟨#[]⟩):x.toList.isEmpty=false:=by
 cases hq:x.toList.isEmpty
 ·rfl
 ·rw[ByteArray.toList_eq] at hq;exact absurd (ByteArray.ext (Array.toList_inj.1 (by simpa using hq))) h
def peE (t:ByteArray):List ByteArray:=bw (fun x=>x) (aq 32 t)
theorem GG {t:ByteArray} (h:af (aq 32 t)=true):bD (aq 32 t)=t:=by rw[qK h];exact mx 32 t
theorem H8 {t:ByteArray} (h:af (aq 32 t)=true):t≠⟨#[]⟩:=by
 rintro rfl;exact absurd h (by decide)
theorem yz (t:ByteArray) (w:World) (ht:t.size≤1048576):
  Calls prog 40 #[.string t] w (cj w (peE t) (af (aq 32 t))):=by
 have B0:=ab w (.cells #[.slice none 0 0] 32);have K0:=Blk.new' w 32 (.slice none 0 0) w.heap.size rfl
 go_enter func40,ntmps40
 go_wp2_with fail
 generalize hW:w.alloc (.cells #[.slice none 0 0] 32)=W at *;have hWz:W.heap.size=w.heap.size+1:=by rw[←hW];simp
 clear hW;refine(ip t 32 _ ht).mono ?_;rintro e w1 ⟨r,rfl,o1,b1⟩;have HF:=Jj (fun h=>GG (t:=t) h);have HNE:=Jj (fun h=>H8 (t:=t) h);have HPE:=Jj (show peE t=bw (fun x=>x) (aq 32 t) from rfl);have HOK:=Jj (show af (aq 32 t)=af (aq 32 t) from rfl);obtain⟨L,hL⟩:∃L,aq 32 t=L:=⟨_,rfl⟩;replace HOK:=Jj (show af (aq 32 t)=af L by rw[hL]);rw[hL] at o1 HF HNE HPE;clear hL;obtain⟨A,c,rfl,-,-,-⟩:=o1.strs.open_;have ba:Below w1.heap.size w1 (w1.alloc (.cells #[.slice A L.length c] 32)):=ab w1 _;have K1:=Blk.new' w1 32 (.slice A L.length c) _ rfl;have K2:=(K0.below b1 K0.lt).below ba (by have:=b1.size;have:=K0.lt;omega);have HO:=Jj (Jq ((o1.bel ba).lower (base':=w.heap.size+1) (by omega)) (aa (aa B0 b1) ba));clear o1 b1 B0 K0;obtain⟨c1,-⟩:=K1.one
 go_wp2_with fail
 generalize hW3:w1.alloc (.cells #[.slice A L.length c] 32)=W3 at *;clear hW3 ba;refine(r9 _ L _ HO.out.1.strs).mono ?_;rintro e w2 ⟨rfl,b2⟩;replace K1:=K1.below b2 K1.lt;replace K2:=K2.below b2 K2.lt;have HP:=Jj (Jq (HO.out.1.bel b2) (aa HO.out.2 b2));obtain⟨y1,-⟩:=K1.one;obtain⟨y2,g2⟩:=K2.one;clear b2 c1;cases he:af L
 ·have HN:=Jj (Jq (HPE.out.trans (jr he)) he);have HE:=Jj (show bD L=⟨#[]⟩ by unfold bD;rw[he];rfl);clear he;by_cases ht0:t=⟨#[]⟩
  ·subst ht0;rw[HE.out];go_wp2;rw[HN.out.1,HOK.out,HN.out.2];refine bodyPost_ret (v:=.tuple #[.agg #[.slice none 0 0],.bool false]) (by simp[results,results40,go_sem,y2]) rfl ⟨.slice none 0 0,rfl,aj.nil_ _ _,HP.out.2.setCell (Jr _) _⟩
  ·have hb:t.toList.isEmpty=false:=DU ht0;rw[HE.out];go_wp2;rw[HN.out.1,HOK.out,HN.out.2];refine bodyPost_ret (v:=.tuple #[.agg #[.slice none 0 0],.bool false]) (by simp[results,results40,go_sem,y2]) rfl ⟨.slice none 0 0,rfl,aj.nil_ _ _,HP.out.2.setCell (Jr _) _⟩
 ·have HY:=Jj (Jq (HPE.out.trans (dO he)) he);have HE:=Jj (HF.out he);have hz:t.toList.isEmpty=false:=DU (HNE.out he);rw[HE.out];clear he;have hb:(!t.toList==t.toList)=false:=by simp
  generalize hp:L.length=p at *;clear hp;go_wp2;rw[HY.out.1,HOK.out,HY.out.2];refine bodyPost_ret (v:=.tuple #[.agg #[.slice A p c],.bool true]) (by simp[results,results40,go_sem,y2]) rfl ⟨_,rfl,(HP.out.1.setCell _ _ (by simp)).lower (by omega),HP.out.2.setCell (Jr _) _⟩
def kA (l:List ByteArray):Bool:=af l&&av (l.map sg)
def rdL (l:List ByteArray):List Int:=if af l=true then gS (l.map sg) else[]
theorem F5 {l:List ByteArray} (h:af l=false):kA l=false∧rdL l=[]:=by simp[kA,rdL,h]
theorem Dt {l:List ByteArray} (h:af l=true):kA l=av (l.map sg)∧rdL l=gS (l.map sg):=by simp[kA,rdL,h]
def oo (l:List ByteArray) (k:Nat):List Int:=gen (fun i=>sg (sat l i)) k
theorem wW (l:List ByteArray):oo l l.length=l.map sg:=by
 apply gg
 ·unfold oo;rw[ar,List.length_map]
 ·intro j hj;unfold oo at hj ⊢;rw[ar] at hj;rw[bP hj,fi _ j (by rw[List.length_map];exact hj),List.getElem_map,bV l j hj]
theorem qw (l:List ByteArray) (k:Nat):(oo l k).length=k:=ar _ _
theorem DG (l:List ByteArray) (k:Nat):oo l (k+1)=oo l k++[sg (sat l k)]:=fE _ _
theorem Ba (v:Value) (l:List ByteArray) (w:World) (hv:aG w v l):
  Calls prog 28 #[.agg #[v]] w (cK w (rdL l) (kA l)):=by
 have HV:=Jj hv;obtain⟨A,c,rfl,-,-,hrd⟩:=hv.open_;have HR:=Jj hrd;clear hv hrd;have B0:=Jj (show Below w.heap.size w ((w.alloc (.cells #[.slice A l.length c] 32)).alloc (.cells #[] 3)) from(ab w _).alloc (by simp) _);have K0:=(Blk.new' w 32 (.slice A l.length c) w.heap.size rfl).alloc (.cells #[] 3);have OE:=Own.empty (w.alloc (.cells #[.slice A l.length c] 32)) (w.heap.size+1) (by simp);rw[show(w.alloc (.cells #[.slice A l.length c] 32)).heap.size=w.heap.size+1 by simp] at OE;obtain⟨c0,-⟩:=K0.one
 go_enter func28,ntmps28
 go_wp2_with fail
 clear c0;generalize hW:(w.alloc (.cells #[.slice A l.length c] 32)).alloc (.cells #[] 3)=W at *;clear hW;refine(dX _ l _ (HV.out.bel B0.out)).mono ?_;rintro e w2 ⟨rfl,hb⟩;replace K0:=K0.below hb K0.lt;have HOE:=Jj (OE.bel hb);have HB:=Jj (aa B0.out hb);have hz:=HB.out.size;clear hb OE;cases he:af l
 ·have HN:=Jj (F5 he);clear he;go_wp2;go_ret2;exact⟨_,by rw[HN.out.1];rfl,by rw[HN.out.2];exact HOE.out.lower (by omega),HB.out⟩
 ·have HY:=Jj (Dt he);obtain⟨l1,l7,hcol⟩:=ap.1 he;have HC:=Jj hcol;obtain⟨b,o,rfl,hbb,hcell⟩:=HR.out.strs (by omega);have HCL:=Jj (Jq hbb hcell);have HK:=Jj K0;clear he hcol hcell hbb K0
  go_wp2_with fail
  go_loopw [4,5] (fun r i wr=>∃k:Nat,k≤l.length∧i=.int .i64 k∧Own wr (w.heap.size+1) r (oo l k)∧Below w.heap.size w wr∧Blk wr w.heap.size 32 [.slice (some ⟨b,o,none⟩) l.length c]) (fun _ i _=>l.length-(intOf i).toNat)
  case atStart=>exact⟨0,Jy _,rfl,HOE.out,HB.out,HK.out⟩
  case round=>
   clear HK;obtain⟨k,hk,rfl,ho,hb,K0⟩:=hrel;have HO:=Jj (Jq ho (Jq hb K0));have hz2:=hb.size;have hkl:=K0.lt;obtain⟨c0,-⟩:=K0.one;by_cases hlt:k<l.length
   ·have hck:=(hb.cell (by exact HCL.out.1)).trans (HCL.out.2 k hlt);have hcol:=(HC.out k hlt).1;have hbd:=oq hcol;clear ho hb K0
    go_wp2_with fail
    refine(jL _ _ hcol).mono ?_;rintro e w3 ⟨rfl,rfl⟩;have hrl:=qw l k
    go_wp2_with (at_builtin;refine du rfl (.tmp 18) (.tmp 25) (by rfl) (w.heap.size+1) u4 _ (by rfl) (by exact HO.out.1.bel (ab _ _)) _ _ (sg (sat l k)) (by rfl) (by exact bh _ _ _) (by omega) (by rw[hrl];omega) (by simp;omega) ?_;intro v1 w4 ho1 hg1 hat1)
    have hown:=HO.out.1;have K1:=(HO.out.2.2.alloc (.cells #[.int .i64 (sg (sat l k))] 3)).grown hg1 (fun e=>by have:=(hown.lt _ e.symm).1;omega);have hb1:=(aa HO.out.2.1 (ab _ (.cells #[.int .i64 (sg (sat l k))] 3))).trans (bQ hg1 (aa HO.out.2.1 (ab _ (.cells #[.int .i64 (sg (sat l k))] 3))).size (fun j hj=>by have:=(hown.lt j hj).1;omega));go_roundw
    case rel=>exact⟨k+1,by omega,by go_num,by rw[DG];exact ho1,hb1,K1⟩
    case measure=>simp[intOf];omega
   ·obtain rfl:k=l.length:=by omega
    have HP:=Jj (show Own wr (w.heap.size+1) u4 (l.map sg) by rw[←wW];exact HO.out.1);obtain⟨M,hM⟩:∃M,l.map sg=M:=⟨_,rfl⟩;rw[hM] at HP HY;clear hM;obtain⟨A1,c1,e1,-,-,-⟩:=HP.out.ints.open_;clear ho hb K0;cases e1
    go_wp2_with fail
    refine(bo _ (M) _ HP.out.ints).mono ?_;rintro e w3 ⟨rfl,rfl⟩;cases hq:av (M)
    ·have HN:=Jj (Jq (HY.out.1.trans hq) (HY.out.2.trans (nc hq)));have OE:=Jj (Own.empty wr w.heap.size HO.out.2.1.size);clear hq;go_wp2;go_ret2;exact⟨_,by rw[HN.out.1];rfl,by rw[HN.out.2];exact OE.out,aa HO.out.2.1 (ab _ _)⟩
    ·have HN:=Jj (Jq (HY.out.1.trans hq) (HY.out.2.trans (ic hq)));clear hq;go_wp2;go_ret2;exact⟨_,by rw[HN.out.1];rfl,by rw[HN.out.2];exact HP.out.lower (by omega),HO.out.2.1⟩
theorem cX {α:Type} {l:List α} {i:Nat} {h:i<l.toArray.size}:l.toArray[i]=l[i]'(by simpa using h):=Jp _
theorem cY {α:Type} {a:α} {l:List α} {i:Nat} {h:i+1<(a::l).length}:(a::l)[i+1]=l[i]'(by simpa using h):=Jo ..
theorem cZ {α:Type} {l:List α} {i:Nat} {a:α}:l.toArray.setIfInBounds i a=(l.set i a).toArray:=Jm ..
theorem tkH (i:Nat) {P:Program} {ops:Array Oper} {Q:Exit→Act→World→Prop} {md:Region.Mode} {S:World→Prop} {oi:Oper} {v:Value} {fuel:Nat} {listed:Array Bool} {a:Act} {w:World} (hi:ops[i]?=some oi)
  (hf:(Region.noSelect ops&&(Region.free md ops listed i&&(Region.ready md ops listed).contains i))=true) (hw:Region.wanted oi (yielded ops a.tmps)=true) (hQ:∀c a w,Q (.panic c) (a.put oi.dst v) w→Q (.panic c) a w) (hS:S w)
  (hy:∀w,S w→(execOp a.eval oi).run P w=.ok (.value v) w) (h:wpAnyH P md ops Q S fuel (listed.setIfInBounds i true) (a.put oi.dst v) w):wpAnyH P md ops Q S (fuel+1) listed a w:=by
 simp only[JB] at hf;exact wpAnyH_take hi hf.1 hf.2.1 hf.2.2 hQ (Or.inl ⟨hw,hy⟩) hS h
theorem tkN {i:Nat} {P:Program} {ops:Array Oper} {Q:Exit→Act→World→Prop} {md:Region.Mode} {S:World→Prop} {oi:Oper} {v:Value} {fuel:Nat} {listed:Array Bool} {a:Act} {w:World} (hi:ops[i+1]?=some oi)
  (hf:(Region.noSelect ops&&(Region.free md ops (listed.setIfInBounds i true) (i+1)&&(Region.ready md ops (listed.setIfInBounds i true)).contains (i+1)))=true) (hw:Region.wanted oi (yielded ops a.tmps)=true) (hQ:∀c a w,Q (.panic c) (a.put oi.dst v) w→Q (.panic c) a w) (hS:S w)
  (hy:∀w,S w→(execOp a.eval oi).run P w=.ok (.value v) w) (h:wpAnyH P md ops Q S fuel ((listed.setIfInBounds i true).setIfInBounds (i+1) true) (a.put oi.dst v) w):wpAnyH P md ops Q S (fuel+1) (listed.setIfInBounds i true) a w:=tkH (i+1) hi hf hw hQ hS hy h
theorem unN {i:Nat} {P:Program} {ops:Array Oper} {Q:Exit→Act→World→Prop} {md:Region.Mode} {S:World→Prop} {oi:Oper} {fuel:Nat} {listed:Array Bool} {a:Act} {w:World} (hi:ops[i+1]?=some oi)
  (hf:(Region.noSelect ops&&(Region.free md ops (listed.setIfInBounds i true) (i+1)&&(Region.ready md ops (listed.setIfInBounds i true)).contains (i+1)))=true) (hw:Region.wanted oi (yielded ops a.tmps)=false) (hQ:∀c a w,Q (.panic c) (a.put oi.dst undef) w→Q (.panic c) a w) (hS:S w)
  (h:wpAnyH P md ops Q S fuel ((listed.setIfInBounds i true).setIfInBounds (i+1) true) (a.put oi.dst undef) w):wpAnyH P md ops Q S (fuel+1) (listed.setIfInBounds i true) a w:=by
 simp only[JB] at hf;exact wpAnyH_take hi hf.1 hf.2.1 hf.2.2 hQ (Or.inr ⟨hw,rfl⟩) hS h
theorem io (n:Int) (w:World):
  Calls prog 155 #[.int .i64 n] w fun e w'=>e=.returned (.bool (inB n (-1000000000) 1000000000))∧w=w':=by
 go_enter func155,ntmps155
 go_wp2_with fail
 refine(aL _ _ _ _).mono ?_;rintro e w2 ⟨rfl,rfl⟩;go_wp2;go_ret;exact⟨rfl,rfl⟩
theorem Cu {L P W R:Int} (hL : -1≤L) (h:inB P 0 59=false):((decide (L<P)&&decide (P<60))&&((inB W (-1000000000) 1000000000&&inB R (-1000000000) 1000000000)&&decide (W≠R)))=false:=by
 have:=bm.1 h
 rcases Int.lt_or_le P 0 with h1|h1
 ·rw[decide_eq_false (show ¬L<P by omega)];rfl
 ·rw[decide_eq_false (show ¬P<60 by omega)];simp
theorem IY {L P W R:Int} (h:P≤L):((decide (L<P)&&decide (P<60))&&((inB W (-1000000000) 1000000000&&inB R (-1000000000) 1000000000)&&decide (W≠R)))=false:=by
 rw[decide_eq_false (show ¬L<P by omega)];rfl
theorem FZ {L P W R:Int} (h:W=R):((decide (L<P)&&decide (P<60))&&((inB W (-1000000000) 1000000000&&inB R (-1000000000) 1000000000)&&decide (W≠R)))=false:=by
 rw[decide_eq_false (show ¬W≠R from fun q=>q h)];simp
theorem F1 {L P W R:Int} (h:inB W (-1000000000) 1000000000=false):((decide (L<P)&&decide (P<60))&&((inB W (-1000000000) 1000000000&&inB R (-1000000000) 1000000000)&&decide (W≠R)))=false:=by
 rw[h];simp
theorem F0 {L P W R:Int} (h:inB R (-1000000000) 1000000000=false):((decide (L<P)&&decide (P<60))&&((inB W (-1000000000) 1000000000&&inB R (-1000000000) 1000000000)&&decide (W≠R)))=false:=by
 rw[h];simp
theorem yX {L P W R:Int} (h1:L<P) (h2:P<60) (h3:inB W (-1000000000) 1000000000=true) (h4:inB R (-1000000000) 1000000000=true) (h5:¬W=R):((decide (L<P)&&decide (P<60))&&((inB W (-1000000000) 1000000000&&inB R (-1000000000) 1000000000)&&decide (W≠R)))=true:=by
 rw[h3,h4,decide_eq_true h1,decide_eq_true h2,decide_eq_true h5];rfl
theorem mU (v:Value) (es:List Etm) (w:World) (hv:EtR w v es) (hl:es.length≤1048576):
  Calls prog 80 #[v] w fun e w'=>e=.returned (.bool (dz es))∧Below w.heap.size w w':=by
 obtain⟨A,c,rfl,hlc,hc,hrd,hin⟩:=hv;have HRD:=Jj hrd;have HIN:=Jj hin;clear hrd hin
 go_enter func80,ntmps80
 go_wp2
 go_loopw [3] (fun i wr=>∃k:Nat,k≤es.length∧i=.int .i64 k∧(∀j,j<k→etK es j=true)∧Below w.heap.size w wr) (fun i _=>es.length-(intOf i).toNat)
 case atStart=>exact⟨0,Jy _,rfl,fun j hj=>absurd hj (by omega),Below.refl _ _⟩
 case round=>
  obtain⟨k,hk,rfl,hall,hb⟩:=hrel;have H:=Jj (Jq hall hb);have hz:=hb.size;clear hall hb;by_cases hlt:k<es.length
  ·obtain⟨b,o,rfl,hbb,hcell⟩:=HRD.out (by omega);obtain⟨e0,e1,e2⟩:=hcell k hlt;have y0:=(H.out.2.cell (p:=⟨b,o+k*3,none⟩) hbb).trans e0;have y1:=(H.out.2.cell (p:=⟨b,o+k*3+1,none⟩) hbb).trans e1;have y2:=(H.out.2.cell (p:=⟨b,o+k*3+2,none⟩) hbb).trans e2;obtain⟨i1,i2,i3⟩:=HIN.out k hlt;have HBAD:=Jj (fun h=>yZ (es:=es) hlt h);have HALL:=Jj (fun h=>cS H.out.1 (show(fun j=>etK es j=true) k from h));obtain⟨P,hP⟩:∃P,(aC es k).1=P:=⟨_,rfl⟩;obtain⟨W,hW⟩:∃W,(aC es k).2.1=W:=⟨_,rfl⟩;obtain⟨R,hR⟩:∃R,(aC es k).2.2=R:=⟨_,rfl⟩;obtain⟨L,hL⟩:∃L,etL es k=L:=⟨_,rfl⟩;have HK:=Jj (Cv hL hP hW hR);have HL:=Jj hL;rw[hP] at y0 i1;rw[hW] at y1 i2;rw[hR] at y2 i3;clear hP hW hR hL e0 e1 e2;have K5:=Blk.new wr 111 [.int .i64 P,.int .i64 W,.int .i64 R];have BX:=Jj (aa H.out.2 (ab wr (.cells #[.int .i64 P,.int .i64 W,.int .i64 R] 111)));obtain⟨t0,t1,t2⟩:=K5.three;clear K5;cases k with
   |zero=>
    have hLv:L = -1:=HL.out.symm;clear hcell;rw[Nat.zero_mul,Nat.add_zero] at y0 y1 y2
    go_wp2_with fail
    generalize hW5:wr.alloc (.cells #[.int .i64 P,.int .i64 W,.int .i64 R] 111)=W5 at *;clear hW5 y0 y1 y2;refine wp_region_held_drew (S:=(fun w'=>w'.cell? ⟨wr.heap.size,0,none⟩=some (.int .i64 P)∧w'.cell? ⟨wr.heap.size,1,none⟩=some (.int .i64 W)∧w'.cell? ⟨wr.heap.size,2,none⟩=some (.int .i64 R))) (by kernel_rfl) ?_ (fun hHeld=>?_)
    ·exact⟨t0,t1,t2⟩
    refine tkH 0 rfl (by kernel_rfl) (by kernel_rfl) (fun _ _ _ h=>h) hHeld (by intro w' hSw;(try dsimp only at hSw);go_simp;all_goals with_reducible rfl) ?_
    try simp only[Act.put,cX,cY,cZ,Jn,Jk,Jl]
    iterate 1 (refine tkN rfl (by kernel_rfl) (by kernel_rfl) (fun _ _ _ h=>h) hHeld (by intro w' hSw;(try dsimp only at hSw);go_simp;all_goals with_reducible rfl) ?_;try simp only[Act.put,cX,cY,cZ,Jn,Jk,Jl])
    cases hat:inB P 0 59
    ·refine wpAnyH_ready (rs:=[2]) (by kernel_rfl) (by simp) ?_;refine AllReadyH.cons rfl (fun K hK=>?_) AllReadyH.nil
     (go_simp;go_at_call 72;refine(aL _ _ _ _).mono ?_;rw[hat];rintro e5 w5 ⟨rfl,rfl⟩;(try dsimp only))
     refine hK.out _ _ ?_ (fun _=>?_)
     ·exact hHeld
     clear hK K
     try simp only[Act.put,cX,cY,cZ,Jn,Jk,Jl]
     iterate 35 ((first|(refine tkN rfl (by kernel_rfl) (by rfl) (fun _ _ _ h=>h) hHeld (by intro w' hSw;(try dsimp only at hSw);go_simp;all_goals with_reducible rfl) ?_)|(refine unN rfl (by kernel_rfl) (by rfl) (fun _ _ _ h=>h) hHeld ?_));try simp only[Act.put,cX,cY,cZ,Jn,Jk,Jl])
     refine wpAnyH_done (by kernel_rfl) ?_ _;have HZ:=Jj (HBAD.out (by rw[HK.out];exact Cu (by omega) hat));go_wp2;go_ret;exact⟨by rw[HZ.out];rfl,by first|exact BX.out|exact BX.out.drew⟩
    ·have hat2:=am.1 hat;refine wpAnyH_ready (rs:=[2]) (by kernel_rfl) (by simp) ?_;refine AllReadyH.cons rfl (fun K hK=>?_) AllReadyH.nil
     (go_simp;go_at_call 72;refine(aL _ _ _ _).mono ?_;rw[hat];rintro e5 w5 ⟨rfl,rfl⟩;(try dsimp only))
     refine hK.out _ _ ?_ (fun _=>?_)
     ·exact hHeld
     clear hK K
     try simp only[Act.put,cX,cY,cZ,Jn,Jk,Jl]
     iterate 17 ((first|(refine tkN rfl (by kernel_rfl) (by rfl) (fun _ _ _ h=>h) hHeld (by intro w' hSw;(try dsimp only at hSw);go_simp;all_goals with_reducible rfl) ?_)|(refine unN rfl (by kernel_rfl) (by rfl) (fun _ _ _ h=>h) hHeld ?_));try simp only[Act.put,cX,cY,cZ,Jn,Jk,Jl])
     by_cases hWR:W=R
     ·have z1:(W==R)=true:=by simp[hWR]
      have HE:=Jj hWR;clear hWR
      iterate 18 ((first|(refine tkN rfl (by kernel_rfl) (by rfl) (fun _ _ _ h=>h) hHeld (by intro w' hSw;(try dsimp only at hSw);go_simp;all_goals with_reducible rfl) ?_)|(refine unN rfl (by kernel_rfl) (by rfl) (fun _ _ _ h=>h) hHeld ?_));try simp only[Act.put,cX,cY,cZ,Jn,Jk,Jl])
      refine wpAnyH_done (by kernel_rfl) ?_ _;have HZ:=Jj (HBAD.out (by rw[HK.out];exact FZ HE.out));go_wp2;go_ret;exact⟨by rw[HZ.out];rfl,by first|exact BX.out|exact BX.out.drew⟩
     ·have z1:(W==R)=false:=by simp[hWR]
      have HE:=Jj hWR;clear hWR
      iterate 9 (refine tkN rfl (by kernel_rfl) (by kernel_rfl) (fun _ _ _ h=>h) hHeld (by intro w' hSw;(try dsimp only at hSw);go_simp;all_goals with_reducible rfl) ?_;try simp only[Act.put,cX,cY,cZ,Jn,Jk,Jl])
      cases hw1:inB W (-1000000000) 1000000000
      ·refine wpAnyH_ready (rs:=[29]) (by kernel_rfl) (by simp) ?_;refine AllReadyH.cons rfl (fun K hK=>?_) AllReadyH.nil
       (go_simp;go_at_call 155;refine(io W _).mono ?_;rw[hw1];rintro e5 w5 ⟨rfl,rfl⟩;(try dsimp only))
       refine hK.out _ _ ?_ (fun _=>?_)
       ·exact hHeld
       clear hK K
       try simp only[Act.put,cX,cY,cZ,Jn,Jk,Jl]
       iterate 8 ((first|(refine tkN rfl (by kernel_rfl) (by rfl) (fun _ _ _ h=>h) hHeld (by intro w' hSw;(try dsimp only at hSw);go_simp;all_goals with_reducible rfl) ?_)|(refine unN rfl (by kernel_rfl) (by rfl) (fun _ _ _ h=>h) hHeld ?_));try simp only[Act.put,cX,cY,cZ,Jn,Jk,Jl])
       refine wpAnyH_done (by kernel_rfl) ?_ _;have HZ:=Jj (HBAD.out (by rw[HK.out];exact F1 hw1));go_wp2;go_ret;exact⟨by rw[HZ.out];rfl,by first|exact BX.out|exact BX.out.drew⟩
      ·refine wpAnyH_ready (rs:=[29]) (by kernel_rfl) (by simp) ?_;refine AllReadyH.cons rfl (fun K hK=>?_) AllReadyH.nil
       (go_simp;go_at_call 155;refine(io W _).mono ?_;rw[hw1];rintro e5 w5 ⟨rfl,rfl⟩;(try dsimp only))
       refine hK.out _ _ ?_ (fun _=>?_)
       ·exact hHeld
       clear hK K
       try simp only[Act.put,cX,cY,cZ,Jn,Jk,Jl]
       iterate 5 (refine tkN rfl (by kernel_rfl) (by kernel_rfl) (fun _ _ _ h=>h) hHeld (by intro w' hSw;(try dsimp only at hSw);go_simp;all_goals with_reducible rfl) ?_;try simp only[Act.put,cX,cY,cZ,Jn,Jk,Jl])
       cases hw2:inB R (-1000000000) 1000000000
       ·refine wpAnyH_ready (rs:=[35]) (by kernel_rfl) (by simp) ?_;refine AllReadyH.cons rfl (fun K hK=>?_) AllReadyH.nil
        (go_simp;go_at_call 155;refine(io R _).mono ?_;rw[hw2];rintro e5 w5 ⟨rfl,rfl⟩;(try dsimp only))
        refine hK.out _ _ ?_ (fun _=>?_)
        ·exact hHeld
        clear hK K
        try simp only[Act.put,cX,cY,cZ,Jn,Jk,Jl]
        iterate 2 (refine tkN rfl (by kernel_rfl) (by kernel_rfl) (fun _ _ _ h=>h) hHeld (by intro w' hSw;(try dsimp only at hSw);go_simp;all_goals with_reducible rfl) ?_;try simp only[Act.put,cX,cY,cZ,Jn,Jk,Jl])
        refine wpAnyH_done (by kernel_rfl) ?_ _;have HZ:=Jj (HBAD.out (by rw[HK.out];exact F0 hw2));go_wp2;go_ret;exact⟨by rw[HZ.out];rfl,by first|exact BX.out|exact BX.out.drew⟩
       ·refine wpAnyH_ready (rs:=[35]) (by kernel_rfl) (by simp) ?_;refine AllReadyH.cons rfl (fun K hK=>?_) AllReadyH.nil
        (go_simp;go_at_call 155;refine(io R _).mono ?_;rw[hw2];rintro e5 w5 ⟨rfl,rfl⟩;(try dsimp only))
        refine hK.out _ _ ?_ (fun _=>?_)
        ·exact hHeld
        clear hK K
        try simp only[Act.put,cX,cY,cZ,Jn,Jk,Jl]
        iterate 2 (refine tkN rfl (by kernel_rfl) (by kernel_rfl) (fun _ _ _ h=>h) hHeld (by intro w' hSw;(try dsimp only at hSw);go_simp;all_goals with_reducible rfl) ?_;try simp only[Act.put,cX,cY,cZ,Jn,Jk,Jl])
        refine wpAnyH_done (by kernel_rfl) ?_ _;have HZ:=Jj (HALL.out (by rw[HK.out];exact yX (by omega) (by omega) hw1 hw2 HE.out));go_wp2;go_roundw
        case rel=>exact⟨0+1,hlt,by go_num,HZ.out,by first|exact BX.out|exact BX.out.drew⟩
        case measure=>simp[intOf];omega
   |succ j=>
    have hLv:etL es (j+1)=(aC es j).1:=by unfold etL;rw[if_neg (by omega)];rfl
    have hLj:(j:Int)≤L:=by
     rw[←HL.out,hLv];exact ru (fun q hq=>H.out.1 q (by omega))
    have y3:=((aa H.out.2 (ab wr (.cells #[.int .i64 P,.int .i64 W,.int .i64 R] 111))).cell (p:=⟨b,o+j*3,none⟩) hbb).trans (hcell j (by omega)).1;rw[←hLv,HL.out] at y3;have hwj:IntKind.i64.wrap (j:Int)=(j:Int):=(IntWalk.i64_left _).trans (IntWalk.wrap64_in _ (by omega));have hj1:(j:Int)<(es.length:Int):=by omega
    have hj2:(0:Int)≤(j:Int):=by omega
    have hj3:(0:Int)<(j:Int)+1:=by omega
    clear hcell hLv
    go_wp2_with fail
    generalize hW5:wr.alloc (.cells #[.int .i64 P,.int .i64 W,.int .i64 R] 111)=W5 at *;clear hW5 y0 y1 y2;refine wp_region_held_drew (S:=(fun w'=>w'.cell? ⟨wr.heap.size,0,none⟩=some (.int .i64 P)∧w'.cell? ⟨wr.heap.size,1,none⟩=some (.int .i64 W)∧w'.cell? ⟨wr.heap.size,2,none⟩=some (.int .i64 R)∧w'.cell? ⟨b,o+j*3,none⟩=some (.int .i64 L))) (by kernel_rfl) ?_ (fun hHeld=>?_)
    ·exact⟨t0,t1,t2,y3⟩
    refine tkH 0 rfl (by kernel_rfl) (by kernel_rfl) (fun _ _ _ h=>h) hHeld (by intro w' hSw;(try dsimp only at hSw);go_simp;all_goals with_reducible rfl) ?_
    try simp only[Act.put,cX,cY,cZ,Jn,Jk,Jl]
    iterate 1 (refine tkN rfl (by kernel_rfl) (by kernel_rfl) (fun _ _ _ h=>h) hHeld (by intro w' hSw;(try dsimp only at hSw);go_simp;all_goals with_reducible rfl) ?_;try simp only[Act.put,cX,cY,cZ,Jn,Jk,Jl])
    cases hat:inB P 0 59
    ·refine wpAnyH_ready (rs:=[2]) (by kernel_rfl) (by simp) ?_;refine AllReadyH.cons rfl (fun K hK=>?_) AllReadyH.nil
     (go_simp;go_at_call 72;refine(aL _ _ _ _).mono ?_;rw[hat];rintro e5 w5 ⟨rfl,rfl⟩;(try dsimp only))
     refine hK.out _ _ ?_ (fun _=>?_)
     ·exact hHeld
     clear hK K
     try simp only[Act.put,cX,cY,cZ,Jn,Jk,Jl]
     iterate 35 ((first|(refine tkN rfl (by kernel_rfl) (by rfl) (fun _ _ _ h=>h) hHeld (by intro w' hSw;(try dsimp only at hSw);go_simp;all_goals with_reducible rfl) ?_)|(refine unN rfl (by kernel_rfl) (by rfl) (fun _ _ _ h=>h) hHeld ?_));try simp only[Act.put,cX,cY,cZ,Jn,Jk,Jl])
     refine wpAnyH_done (by kernel_rfl) ?_ _;have HZ:=Jj (HBAD.out (by rw[HK.out];exact Cu (by omega) hat));go_wp2;go_ret;exact⟨by rw[HZ.out];rfl,by first|exact BX.out|exact BX.out.drew⟩
    ·have hat2:=am.1 hat;refine wpAnyH_ready (rs:=[2]) (by kernel_rfl) (by simp) ?_;refine AllReadyH.cons rfl (fun K hK=>?_) AllReadyH.nil
     (go_simp;go_at_call 72;refine(aL _ _ _ _).mono ?_;rw[hat];rintro e5 w5 ⟨rfl,rfl⟩;(try dsimp only))
     refine hK.out _ _ ?_ (fun _=>?_)
     ·exact hHeld
     clear hK K
     try simp only[Act.put,cX,cY,cZ,Jn,Jk,Jl]
     iterate 5 (refine tkN rfl (by kernel_rfl) (by kernel_rfl) (fun _ _ _ h=>h) hHeld (by intro w' hSw;(try dsimp only at hSw);go_simp;all_goals with_reducible rfl) ?_;try simp only[Act.put,cX,cY,cZ,Jn,Jk,Jl])
     by_cases hpl:P≤L
     ·iterate 30 ((first|(refine tkN rfl (by kernel_rfl) (by rfl) (fun _ _ _ h=>h) hHeld (by intro w' hSw;(try dsimp only at hSw);go_simp;all_goals with_reducible rfl) ?_)|(refine unN rfl (by kernel_rfl) (by rfl) (fun _ _ _ h=>h) hHeld ?_));try simp only[Act.put,cX,cY,cZ,Jn,Jk,Jl])
      refine wpAnyH_done (by kernel_rfl) ?_ _;have HZ:=Jj (HBAD.out (by rw[HK.out];exact IY hpl));go_wp2;go_ret;exact⟨by rw[HZ.out];rfl,by first|exact BX.out|exact BX.out.drew⟩
     ·iterate 12 (refine tkN rfl (by kernel_rfl) (by kernel_rfl) (fun _ _ _ h=>h) hHeld (by intro w' hSw;(try dsimp only at hSw);go_simp;all_goals with_reducible rfl) ?_;try simp only[Act.put,cX,cY,cZ,Jn,Jk,Jl])
      by_cases hWR:W=R
      ·have z1:(W==R)=true:=by simp[hWR]
       have HE:=Jj hWR;clear hWR
       iterate 18 ((first|(refine tkN rfl (by kernel_rfl) (by rfl) (fun _ _ _ h=>h) hHeld (by intro w' hSw;(try dsimp only at hSw);go_simp;all_goals with_reducible rfl) ?_)|(refine unN rfl (by kernel_rfl) (by rfl) (fun _ _ _ h=>h) hHeld ?_));try simp only[Act.put,cX,cY,cZ,Jn,Jk,Jl])
       refine wpAnyH_done (by kernel_rfl) ?_ _;have HZ:=Jj (HBAD.out (by rw[HK.out];exact FZ HE.out));go_wp2;go_ret;exact⟨by rw[HZ.out];rfl,by first|exact BX.out|exact BX.out.drew⟩
      ·have z1:(W==R)=false:=by simp[hWR]
       have HE:=Jj hWR;clear hWR
       iterate 9 (refine tkN rfl (by kernel_rfl) (by kernel_rfl) (fun _ _ _ h=>h) hHeld (by intro w' hSw;(try dsimp only at hSw);go_simp;all_goals with_reducible rfl) ?_;try simp only[Act.put,cX,cY,cZ,Jn,Jk,Jl])
       cases hw1:inB W (-1000000000) 1000000000
       ·refine wpAnyH_ready (rs:=[29]) (by kernel_rfl) (by simp) ?_;refine AllReadyH.cons rfl (fun K hK=>?_) AllReadyH.nil
        (go_simp;go_at_call 155;refine(io W _).mono ?_;rw[hw1];rintro e5 w5 ⟨rfl,rfl⟩;(try dsimp only))
        refine hK.out _ _ ?_ (fun _=>?_)
        ·exact hHeld
        clear hK K
        try simp only[Act.put,cX,cY,cZ,Jn,Jk,Jl]
        iterate 8 ((first|(refine tkN rfl (by kernel_rfl) (by rfl) (fun _ _ _ h=>h) hHeld (by intro w' hSw;(try dsimp only at hSw);go_simp;all_goals with_reducible rfl) ?_)|(refine unN rfl (by kernel_rfl) (by rfl) (fun _ _ _ h=>h) hHeld ?_));try simp only[Act.put,cX,cY,cZ,Jn,Jk,Jl])
        refine wpAnyH_done (by kernel_rfl) ?_ _;have HZ:=Jj (HBAD.out (by rw[HK.out];exact F1 hw1));go_wp2;go_ret;exact⟨by rw[HZ.out];rfl,by first|exact BX.out|exact BX.out.drew⟩
       ·refine wpAnyH_ready (rs:=[29]) (by kernel_rfl) (by simp) ?_;refine AllReadyH.cons rfl (fun K hK=>?_) AllReadyH.nil
        (go_simp;go_at_call 155;refine(io W _).mono ?_;rw[hw1];rintro e5 w5 ⟨rfl,rfl⟩;(try dsimp only))
        refine hK.out _ _ ?_ (fun _=>?_)
        ·exact hHeld
        clear hK K
        try simp only[Act.put,cX,cY,cZ,Jn,Jk,Jl]
        iterate 5 (refine tkN rfl (by kernel_rfl) (by kernel_rfl) (fun _ _ _ h=>h) hHeld (by intro w' hSw;(try dsimp only at hSw);go_simp;all_goals with_reducible rfl) ?_;try simp only[Act.put,cX,cY,cZ,Jn,Jk,Jl])
        cases hw2:inB R (-1000000000) 1000000000
        ·refine wpAnyH_ready (rs:=[35]) (by kernel_rfl) (by simp) ?_;refine AllReadyH.cons rfl (fun K hK=>?_) AllReadyH.nil
         (go_simp;go_at_call 155;refine(io R _).mono ?_;rw[hw2];rintro e5 w5 ⟨rfl,rfl⟩;(try dsimp only))
         refine hK.out _ _ ?_ (fun _=>?_)
         ·exact hHeld
         clear hK K
         try simp only[Act.put,cX,cY,cZ,Jn,Jk,Jl]
         iterate 2 (refine tkN rfl (by kernel_rfl) (by kernel_rfl) (fun _ _ _ h=>h) hHeld (by intro w' hSw;(try dsimp only at hSw);go_simp;all_goals with_reducible rfl) ?_;try simp only[Act.put,cX,cY,cZ,Jn,Jk,Jl])
         refine wpAnyH_done (by kernel_rfl) ?_ _;have HZ:=Jj (HBAD.out (by rw[HK.out];exact F0 hw2));go_wp2;go_ret;exact⟨by rw[HZ.out];rfl,by first|exact BX.out|exact BX.out.drew⟩
        ·refine wpAnyH_ready (rs:=[35]) (by kernel_rfl) (by simp) ?_;refine AllReadyH.cons rfl (fun K hK=>?_) AllReadyH.nil
         (go_simp;go_at_call 155;refine(io R _).mono ?_;rw[hw2];rintro e5 w5 ⟨rfl,rfl⟩;(try dsimp only))
         refine hK.out _ _ ?_ (fun _=>?_)
         ·exact hHeld
         clear hK K
         try simp only[Act.put,cX,cY,cZ,Jn,Jk,Jl]
         iterate 2 (refine tkN rfl (by kernel_rfl) (by kernel_rfl) (fun _ _ _ h=>h) hHeld (by intro w' hSw;(try dsimp only at hSw);go_simp;all_goals with_reducible rfl) ?_;try simp only[Act.put,cX,cY,cZ,Jn,Jk,Jl])
         refine wpAnyH_done (by kernel_rfl) ?_ _;have HZ:=Jj (HALL.out (by rw[HK.out];exact yX (by omega) (by omega) hw1 hw2 HE.out));go_wp2;go_roundw
         case rel=>exact⟨j+1+1,hlt,by go_num,HZ.out,by first|exact BX.out|exact BX.out.drew⟩
         case measure=>simp[intOf];omega
  ·obtain rfl:k=es.length:=by omega
   have HS:=Jj (show dz es=true from ij.2 H.out.1);go_wp2;go_ret;exact⟨by rw[HS.out];rfl,H.out.2⟩
theorem yx (v u:Value) (r p:List Int) (w:World) (hv:ai w v r) (hu:ai w u p):
  Calls prog 43 #[v,u] w (EtQ w (cl r p) (bt r p)):=by
 have HV:=Jj hv;have HU:=Jj hu;obtain⟨A,c,rfl,hlc,hc,hrd⟩:=hv.open_;obtain⟨B,d,rfl,hld,hd,hrd2⟩:=hu.open_;have OE:=Jj (EtO.empty w w.heap.size (Jr _));have BE:=Jj (ab w (.cells #[] 111));clear hv hu
 go_enter func43,ntmps43
 cases h1:ag r
 ·have HZ:=Jj (show bt r p=false∧cl r p=[] by have:bt r p=false:=by {unfold bt;rw[h1];rfl};exact⟨this,by unfold cl;rw[this];rfl⟩)
  go_wp2_with fail
  refine(az _ r _ (HV.out.bel BE.out)).mono ?_;rw[h1];rintro e w' ⟨rfl,rfl⟩;go_wp2;go_ret2;exact⟨_,by rw[HZ.out.1];rfl,by rw[HZ.out.2];exact OE.out,BE.out⟩
 ·cases h2:ag p
  ·have HZ:=Jj (show bt r p=false∧cl r p=[] by have:bt r p=false:=by {unfold bt;rw[h1,h2];rfl};exact⟨this,by unfold cl;rw[this];rfl⟩)
   go_wp2_with fail
   refine(az _ r _ (HV.out.bel BE.out)).mono ?_;rw[h1];rintro e w' ⟨rfl,rfl⟩
   go_wp2_with fail
   refine(az _ p _ (HU.out.bel BE.out)).mono ?_;rw[h2];rintro e w' ⟨rfl,rfl⟩;go_wp2;go_ret2;exact⟨_,by rw[HZ.out.1];rfl,by rw[HZ.out.2];exact OE.out,BE.out⟩
  ·have t1:=aA h1;have t2:=aA h2;by_cases hl:r.length=p.length
   ·have hl1:((r.length:Int) != (p.length:Int))=false:=by simp[hl]
    have hq:bt r p=true:=by unfold bt;rw[h1,h2,decide_eq_true hl];rfl
    have HZ:=Jj (Jq hq (show cl r p=fk r p r.length by unfold cl;rw[hq];rfl));have h60:=t1.2.1;have HIN:=Jj (show(∀k,k<r.length → -1000000000≤at_ r k∧at_ r k≤1000000000)∧∀k,k<r.length → -1000000000≤at_ p k∧at_ p k≤1000000000 from⟨t1.2.2,fun k hk=>t2.2.2 k (by omega)⟩);have HLN:=Jj hl;have HR1:=Jj hrd;have HR2:=Jj hrd2;clear hl hq t1 t2 hrd hrd2
    go_wp2_with fail
    refine(az _ r _ (HV.out.bel BE.out)).mono ?_;rw[h1];rintro e w' ⟨rfl,rfl⟩
    go_wp2_with fail
    refine(az _ p _ (HU.out.bel BE.out)).mono ?_;rw[h2];rintro e w' ⟨rfl,rfl⟩;clear h1 h2;go_wp2;clear hl1
    go_loopw [6,7] (fun s i wr=>∃k:Nat,k≤r.length∧i=.int .i64 k∧EtO wr w.heap.size s (fk r p k)∧Below w.heap.size w wr) (fun _ i _=>r.length-(intOf i).toNat)
    case atStart=>exact⟨0,Jy _,rfl,OE.out,BE.out⟩
    case round=>
     obtain⟨k,hk,rfl,ho,hb⟩:=hrel;have H:=Jj (Jq ho hb);have hz:=hb.size;obtain⟨A3,c3,rfl⟩:=ho.open_;have hle:=tJ r p k;clear ho hb;by_cases hlt:k<r.length
     ·have hltp:k<p.length:=by have:=HLN.out;omega
      obtain⟨b,o,rfl,hbb,hcell⟩:=HR1.out.ints (by omega);obtain⟨b2,o2,rfl,hbb2,hcell2⟩:=HR2.out.ints (by omega);have q1:=hcell k hlt;have q2:=hcell2 k hltp;have D:=Jj (Jq q1 q2);have c1:=(H.out.2.cell hbb).trans q1;have c2:=(H.out.2.cell hbb2).trans q2;have p1:(k:Int)<(r.length:Int):=by omega
      have p2:(k:Int)<(p.length:Int):=by omega
      have p3:(0:Int)≤(k:Int):=by omega
      have i1:=HIN.out.1 k hlt;have i2:=HIN.out.2 k hlt;have HS:=Jj (fun h=>rr (r:=r) (p:=p) (n:=k) h);have HD:=Jj (fun h=>rq (r:=r) (p:=p) (n:=k) h);obtain⟨es,hes⟩:∃es,fk r p k=es:=⟨_,rfl⟩;obtain⟨X,hX⟩:∃X,at_ r k=X:=⟨_,rfl⟩;obtain⟨Y,hY⟩:∃Y,at_ p k=Y:=⟨_,rfl⟩;rw[hes] at H hle HS HD;rw[hX] at c1 i1 D HS HD;rw[hY] at c2 i2 D HS HD;rw[hes];clear hes hX hY hcell hcell2 q1 q2;go_wp2
      go_quiet (fail)
      have BQ:=Jj (aV (Below.refl wr.heap.size wr) nq);have H1:=Jj (Jq (H.out.1.bel BQ.out) (aa H.out.2 BQ.out));replace c1:=(H1.out.2.cell hbb).trans D.out.1;replace c2:=(H1.out.2.cell hbb2).trans D.out.2;have hz1:=H1.out.2.size;obtain⟨w1,hw1⟩:∃w1,wr.drewN nq=w1:=⟨_,rfl⟩;rw[hw1] at H1 c1 c2 hz1 ⊢;clear hw1 BQ H;by_cases hxy:X=Y
      ·have HN:=Jj (HS.out hxy);have z1:(X != Y)=false:=by simp[hxy]
       clear hxy;go_wp2;go_roundw
       case rel=>exact⟨k+1,hlt,by go_num,by rw[HN.out];exact H1.out.1,H1.out.2⟩
       case measure=>simp[intOf];omega
      ·have HN:=Jj (HD.out hxy);have z1:(X != Y)=true:=by simp[hxy]
       have HE:=Jj (yW (a:=(k:Int)) (b:=Y) (c:=X) ⟨by omega,by omega⟩ ⟨by omega,by omega⟩ ⟨by omega,by omega⟩);have hl1:es.length+1≤1048576:=by omega
       have hbr1:b<w1.heap.size:=by omega
       have hbr2:b2<w1.heap.size:=by omega
       have tok1:True:=trivial;clear hxy
       go_wp2_with fail
       go_region_held3 (fun w'=>w'.cell? ⟨b,o+k,none⟩=some (.int .i64 X)∧w'.cell? ⟨b2,o2+k,none⟩=some (.int .i64 Y)) (first|exact⟨c1,c2⟩|exact⟨(B5.cell (by exact hbb)).trans D.out.1,(B5.cell (by exact hbb2)).trans D.out.2⟩|exact⟨((ab _ _).cell (by exact hbr1)).trans c1,((ab _ _).cell (by exact hbr2)).trans c2⟩|go_keep) (first
        |(have _t:=tok1;go_loud (refine qC rfl (.tmp 40) (.tmp 51) (by rfl) w.heap.size _ es (by rfl) (by first|exact H1.out.1.bel (ab _ _)|exact H1.out.1.bel ((ab _ _).drew)|exact H1.out.1.bel (((Below.refl _ _).drew).alloc (Jr _) _)) _ _ ((k:Int),Y,X) (by rfl) (by first|exact Blk.newG _ _ [.int .i64 (k:Int),.int .i64 Y,.int .i64 X] _ rfl|exact Blk.newG _ _ [.int .i64 (k:Int),.int .i64 Y,.int .i64 X] _ (by simp)) HE.out hl1 (by first|(simp;omega)|omega) ?_;intro A5 c5 w5 ho hg;have B5:Below w.heap.size w w5:=(by first|exact kc (aa H1.out.2 (ab _ _)) (H1.out.1.bel (ab _ _)) hg|exact kc (aa H1.out.2 ((ab _ _).drew)) (H1.out.1.bel ((ab _ _).drew)) hg|exact kc (aa H1.out.2 (((Below.refl _ _).drew).alloc (Jr _) _)) (H1.out.1.bel (((Below.refl _ _).drew).alloc (Jr _) _)) hg);clear tok1))
        |fail)
       go_wp2;go_roundw
       case rel=>exact⟨k+1,hlt,by go_num,by rw[HN.out];exact ho,B5⟩
       case measure=>simp[intOf];omega
     ·obtain rfl:k=r.length:=by omega
      go_wp2;go_ret2;exact⟨_,by rw[HZ.out.1];rfl,by rw[HZ.out.2];exact H.out.1,H.out.2⟩
   ·have hl1:((r.length:Int) != (p.length:Int))=true:=by simp;omega
    have HZ:=Jj (show bt r p=false∧cl r p=[] by have:bt r p=false:=by {unfold bt;rw[decide_eq_false hl];simp};exact⟨this,by unfold cl;rw[this];rfl⟩);clear hl
    go_wp2_with fail
    refine(az _ r _ (HV.out.bel BE.out)).mono ?_;rw[h1];rintro e w' ⟨rfl,rfl⟩
    go_wp2_with fail
    refine(az _ p _ (HU.out.bel BE.out)).mono ?_;rw[h2];rintro e w' ⟨rfl,rfl⟩;go_wp2;go_ret2;exact⟨_,by rw[HZ.out.1];rfl,by rw[HZ.out.2];exact OE.out,BE.out⟩
theorem yv (v u:Value) (l:List Int) (es:List Etm) (w:World) (hv:ai w v l) (hu:EtR w u es) (hl:es.length≤1048576):
  Calls prog 46 #[v,u] w (cK w (apL l es) (eX l es)):=by
 have HV:=Jj hv;have HU:=Jj hu;obtain⟨A,c,rfl,hlc,hc,-⟩:=hv.open_;obtain⟨B,d,rfl,hld,hd,hrd,hin⟩:=hu;have HRD:=Jj hrd;have HIN:=Jj hin;clear hv hrd hin
 go_enter func46,ntmps46
 cases ht:ag l
 ·have HZ:=Jj (BH (l:=l) (es:=es) ht)
  go_wp2_with fail
  refine(az _ l _ HV.out).mono ?_;rw[ht];rintro e w1 ⟨rfl,rfl⟩;go_wp2;go_ret2;exact⟨_,by rw[HZ.out.1];rfl,by rw[HZ.out.2];exact Own.empty _ _ (Jr _),ab _ _⟩
 ·cases he:dz es
  ·have HZ:=Jj (BG (l:=l) (es:=es) he)
   go_wp2_with fail
   refine(az _ l _ HV.out).mono ?_;rw[ht];rintro e w1 ⟨rfl,rfl⟩
   go_wp2_with fail
   refine(mU _ es _ HU.out hl).mono ?_;rw[he];rintro e w2 ⟨rfl,b2⟩;have HB:=Jj b2;clear b2;go_wp2;go_ret2;exact⟨_,by rw[HZ.out.1];rfl,by rw[HZ.out.2];exact Own.empty _ _ HB.out.size,aa HB.out (ab _ _)⟩
  ·have HT:=Jj (Jq ht he);obtain⟨t1,t60,-⟩:=aA ht;have HSM:=Jj (show ∀k,k<es.length→0≤(aC es k).1∧(-1000000000≤(aC es k).2.2∧(aC es k).2.2≤1000000000) from fun k hk=>by
    have:=vE he (aC es k) (by rw[iC hk];exact List.getElem_mem hk);exact⟨this.1.1,this.2.2⟩)
   go_wp2_with fail
   refine(az _ l _ HV.out).mono ?_;rw[ht];rintro e w1 ⟨rfl,rfl⟩
   go_wp2_with fail
   refine(mU _ es _ HU.out hl).mono ?_;rw[he];rintro e w2 ⟨rfl,b2⟩;have HB:=Jj b2;have HBA:=Jj (ab w2 (.cells #[] 3));have OE:=Jj (Own.empty w2 w2.heap.size (Jr _));have HV2:=Jj ((HV.out.bel b2).bel HBA.out);clear b2 ht he;obtain⟨N,hN⟩:∃N,l.length=N:=⟨_,rfl⟩;have HNN:=Jj hN;rw[hN] at HV2
   go_wp2_with (at_builtin;go_must (refine kd rfl _ _ (by rfl) w2.heap.size (.slice (some ⟨w2.heap.size,0,none⟩) 0 0) _ [] l (by rfl) (by exact OE.out) (by rfl) (by exact HV2.out) (by simp only[List.length_nil];omega) (by simp) ?_);intro v1 w3 ho hg hat;rw[List.nil_append] at ho;obtain⟨g,cap,rfl,hg1,-,-,-,-⟩:=ho.openN (by omega);have HB3:=Jj (aa HB.out (dN HBA.out OE.out hg));have HO:=Jj (ho.lower HB.out.size);have hg3:w.heap.size≤g:=(Js HB.out.size hg1);clear ho hg hat hg1;rw[hN] at HO t1 t60 ⊢;clear hN)
   go_loopw [7] (fun i wr=>∃(k:Nat) (cur:List Int),k≤es.length∧i=.int .i64 k∧cur.length=N∧Own wr w.heap.size (.slice (some ⟨g,0,none⟩) N cap) cur∧fh cur (es.drop k)=fh l es∧Below w.heap.size w wr) (fun i _=>es.length-(intOf i).toNat)
   case atStart=>exact⟨0,l,Jy _,rfl,HNN.out,HO.out,rfl,HB3.out⟩
   case round=>
    obtain⟨k,cur,hk,rfl,hcl,ho,ha,hb⟩:=hrel;have H:=Jj (Jq hcl (Jq ho (Jq ha hb)));have hz:=hb.size;clear hcl ho ha hb;by_cases hlt:k<es.length
    ·obtain⟨b,o,rfl,hbb,hcell⟩:=HRD.out (by omega);obtain⟨e0,e1,e2⟩:=hcell k hlt;have y0:=(H.out.2.2.2.cell (p:=⟨b,o+k*3,none⟩) hbb).trans e0;have y1:=(H.out.2.2.2.cell (p:=⟨b,o+k*3+1,none⟩) hbb).trans e1;have y2:=(H.out.2.2.2.cell (p:=⟨b,o+k*3+2,none⟩) hbb).trans e2;obtain⟨i1,i2,i3⟩:=HIN.out k hlt;have hp0:=(HSM.out k hlt).1;have hR:=(HSM.out k hlt).2;have HSTEP:=Jj (fun h1 h2=>uY (m:=[]) hlt H.out.2.2.1 h1 h2);have HSTOP:=Jj (fun h1=>uZ hlt H.out.2.2.1 h1);rw[H.out.1] at HSTEP HSTOP;obtain⟨P,hP⟩:∃P,(aC es k).1=P:=⟨_,rfl⟩;obtain⟨W,hW⟩:∃W,(aC es k).2.1=W:=⟨_,rfl⟩;obtain⟨R,hR2⟩:∃R,(aC es k).2.2=R:=⟨_,rfl⟩;rw[hP] at y0 e0 i1 hp0 HSTEP HSTOP;rw[hW] at y1 i2 HSTEP HSTOP;rw[hR2] at y2 e2 i3 hR HSTEP;have HE:=Jj (Jq e0 e2);clear hP hW hR2 e0 e1 e2 hcell;by_cases c1:(N:Int)≤P
     ·have HZ:=Jj (pP (l:=l) (es:=es) (HSTOP.out (fun h=>by omega)))
      go_wp2_with fail
      go_quiet (fail)
      have BQ:=aV (Below.refl wr.heap.size wr) nq;have hzq:=(aa H.out.2.2.2 BQ).size;go_wp2;go_ret2;exact⟨_,by rw[HZ.out.1];rfl,by rw[HZ.out.2];exact Own.empty _ _ hzq,aa (aa H.out.2.2.2 BQ) (ab _ _)⟩
     ·obtain⟨q,rfl⟩:∃q:Nat,P=q:=⟨P.toNat,by omega⟩;have hq:q<N:=by omega
      rw[Int.toNat_natCast] at HSTEP HSTOP;obtain⟨g',cap',ev,-,-,-,-,hcells⟩:=H.out.2.1.openN (by rw[H.out.1];omega);rw[H.out.1] at ev hcells;injection ev with ev1 ev2 ev3;injection ev1 with ev1;injection ev1 with ev1;subst ev1;obtain⟨x1,x2⟩:=hcells q hq;have hglt:g<wr.heap.size:=by have:=(H.out.2.1.lt g rfl).2;exact this
      obtain⟨X,hX⟩:∃X,at_ cur q=X:=⟨_,rfl⟩;rw[hX] at x1 HSTEP HSTOP;have p1:(q:Int)<(N:Int):=by omega
      have p2:(0:Int)≤(q:Int):=by omega
      clear hX hcells ev2 ev3;by_cases hne:X=W
      ·have HZ:=Jj (HSTEP.out p1 hne);have z1:(X != W)=false:=by simp[hne]
       clear hne
       go_wp2_with fail
       go_quiet (fail)
       have BQ:=aV (Below.refl wr.heap.size wr) nq;have O6:=H.out.2.1.bel BQ;have B6:=Jj (aa H.out.2.2.2 BQ);obtain⟨w6,hw6⟩:∃w6,wr.drewN nq=w6:=⟨_,rfl⟩;rw[hw6] at O6 B6 ⊢;clear hw6 BQ x1 x2 y0 y1 y2;have y0:=(B6.out.cell (p:=⟨b,o+k*3,none⟩) hbb).trans HE.out.1;have y2:=(B6.out.cell (p:=⟨b,o+k*3+2,none⟩) hbb).trans HE.out.2;obtain⟨g',cap',ev,-,-,-,-,hcells⟩:=O6.openN (by rw[H.out.1];omega);rw[H.out.1] at ev hcells;injection ev with ev1 ev2 ev3;injection ev1 with ev1;injection ev1 with ev1;subst ev1;obtain⟨x1,x2⟩:=hcells q hq;have HS:=Jj (O6.set_ q R (by rw[H.out.1];exact hq) (by omega));have B7:=Jj (B6.out.setCell (p:=⟨g,q,none⟩) hg3 (.int .i64 R));have hbg:g≠b:=by omega
       clear hcells ev2 ev3
       go_wp2_with fail
       go_region_held3 (fun w'=>w'.cell? ⟨b,o+k*3,none⟩=some (.int .i64 q)∧w'.cell? ⟨b,o+k*3+2,none⟩=some (.int .i64 R)) (first|with_reducible exact⟨y0,y2⟩|exact⟨y0,y2⟩|exact⟨(Below.cell_setCell_other _ _ _ _ (by show b≠g;omega)).trans y0,(Below.cell_setCell_other _ _ _ _ (by show b≠g;omega)).trans y2⟩|go_keep) (first
        |fail)
       all_goals
        have BD:=Jj (Below.drew (Below.refl (w6.setCell ⟨g,q,none⟩ (.int .i64 R)).heap.size (w6.setCell ⟨g,q,none⟩ (.int .i64 R))));have BE:=Jj (Below.drew (Below.refl w6.heap.size w6));go_wp2;go_roundw
        case rel=>first
         |exact⟨k+1,cur.set q R,hlt,by go_num,by rw[List.length_set];exact H.out.1,HS.out,HZ.out,B7.out⟩
         |exact⟨k+1,cur.set q R,hlt,by go_num,by rw[List.length_set];exact H.out.1,(O6.bel BE.out).set_ q R (by rw[H.out.1];exact hq) (by omega),HZ.out,(aa B6.out BE.out).setCell (p:=⟨g,q,none⟩) hg3 (.int .i64 R)⟩
         |exact⟨k+1,cur.set q R,hlt,by go_num,by rw[List.length_set];exact H.out.1,HS.out.bel BD.out,HZ.out,aa B7.out BD.out⟩
        case measure=>simp[intOf];omega
      ·have HZ:=Jj (pP (l:=l) (es:=es) (HSTOP.out (fun h=>hne h.2)));have z1:(X != W)=true:=by simp[hne]
       clear hne
       go_wp2_with fail
       go_quiet (fail)
       have BQ:=aV (Below.refl wr.heap.size wr) nq;have hzq:=(aa H.out.2.2.2 BQ).size;go_wp2;go_ret2;exact⟨_,by rw[HZ.out.1];rfl,by rw[HZ.out.2];exact Own.empty _ _ hzq,aa (aa H.out.2.2.2 BQ) (ab _ _)⟩
    ·obtain rfl:k=es.length:=by omega
     have HZ:=Jj (BI (l:=l) (es:=es) (m:=cur) HT.out.1 HT.out.2 (by
      have:=H.out.2.2.1;rw[List.drop_length] at this;exact this.symm))
     go_wp2;go_ret2;exact⟨_,by rw[HZ.out.1];rfl,by rw[HZ.out.2];exact H.out.2.1,H.out.2.2.2⟩
theorem EM {es:List Etm} {k:Nat} (h:k<es.length):(es.take (k+1)).map etS=(es.take k).map etS++[etS (aC es k)]:=by
 rw[List.take_add_one,List.getElem?_eq_getElem h,←iC h,List.map_append];rfl
theorem EL {es:List Etm} {k:Nat} (h:k<es.length):aW ((es.take (k+1)).map etS) ⟨#[59]⟩=(if k=0 then aW ((es.take k).map etS) ⟨#[59]⟩ else aW ((es.take k).map etS) ⟨#[59]⟩++⟨#[59]⟩)++etS (aC es k):=by
 rw[EM h];by_cases hk:k=0
 ·subst hk;rw[if_pos rfl,List.take_zero,List.map_nil,nU]
 ·rw[if_neg hk,mF (fun e=>hk (by
   have:=congrArg List.length e;rw[List.length_map,List.length_take,List.length_nil] at this;omega))]
theorem Gy (x:Etm):2≤(etS x).size:=by
 unfold etS;have h1:(⟨#[58]⟩:ByteArray).size=1:=rfl;have h2:(⟨#[62]⟩:ByteArray).size=1:=rfl;rw[Jt,Jt,Jt,Jt];omega
theorem ld (v:Value) (es:List Etm) (w:World) (hv:EtR w v es) (hl:es.length≤1048576):
  Calls prog 44 #[v] w fun e w'=>e=.returned (.string (cm es))∧Below w.heap.size w w':=by
 have HV:=Jj hv;obtain⟨A,c,rfl,h3,h4,h5,h6⟩:=hv;have H5:=Jj h5;have H6:=Jj h6;clear h5 h6
 go_enter func44,ntmps44
 go_wp2_with fail
 refine(mU _ es _ HV.out hl).mono ?_;rintro e w2 ⟨rfl,b2⟩;have HB:=Jj b2;clear b2;cases hq:dz es
 ·have HZ:=Jj (show cm es=⟨#[]⟩ by simp[cm,hq]);go_wp2;go_ret;exact⟨by rw[HZ.out];rfl,HB.out⟩
 ·have hl60:=ni hq;have HZ:=Jj (show cm es=(if es=[] then⟨#[45]⟩ else aW (es.map etS) ⟨#[59]⟩) by simp[cm,hq]);clear hq;go_wp2
  go_loopw [3,4] (fun s i wr=>∃(k:Nat) (O:ByteArray),k≤es.length∧i=.int .i64 k∧s=.string O∧O=aW ((es.take k).map etS) ⟨#[59]⟩∧(O.size≤66*k∧k≤O.size)∧Below w.heap.size w wr) (fun _ i _=>es.length-(intOf i).toNat)
  case atStart=>exact⟨0,_,Jy _,rfl,rfl,rfl,⟨Jy _,Jy _⟩,HB.out⟩
  case round=>
   obtain⟨k,O,hk,rfl,rfl,ho,⟨hos,hos2⟩,hb⟩:=hrel;have H:=Jj (Jq ho hb);have hz:=hb.size;clear ho hb;by_cases hlt:k<es.length
   ·obtain⟨b,o,rfl,hbb0,hcell⟩:=H5.out (by omega);obtain⟨e0,e1,e2⟩:=hcell k hlt;have y0:=(H.out.2.cell (p:=⟨b,o+k*3,none⟩) hbb0).trans e0;have y1:=(H.out.2.cell (p:=⟨b,o+k*3+1,none⟩) hbb0).trans e1;have y2:=(H.out.2.cell (p:=⟨b,o+k*3+2,none⟩) hbb0).trans e2;have hbb:b<wr.heap.size:=by omega
    obtain⟨i1,i2,i3⟩:=H6.out k hlt;have HJ:=Jj (EL hlt);rw[←H.out.1] at HJ;have hps:=Gy (aC es k);have HSEG:etS (aC es k)=au (aC es k).1++⟨#[58]⟩++au (aC es k).2.1++⟨#[62]⟩++au (aC es k).2.2:=rfl;have hss:=nO (aC es k) (H6.out k hlt);rw[HSEG] at HJ hss hps;obtain⟨P,hP⟩:∃P,(aC es k).1=P:=⟨_,rfl⟩;obtain⟨Y,hY⟩:∃Y,(aC es k).2.1=Y:=⟨_,rfl⟩;obtain⟨R,hR2⟩:∃R,(aC es k).2.2=R:=⟨_,rfl⟩;rw[hP] at y0 i1 HJ hss hps;rw[hY] at y1 i2 HJ hss hps;rw[hR2] at y2 i3 HJ hss hps;have HI1:=Jj (fun w=>cO P w i1.1 i1.2);have HI2:=Jj (fun w=>cO Y w i2.1 i2.2);have HI3:=Jj (fun w=>cO R w i3.1 i3.2);obtain⟨I,hI⟩:∃I,au P=I:=⟨_,rfl⟩;obtain⟨J,hJ⟩:∃J,au Y=J:=⟨_,rfl⟩;obtain⟨L,hL⟩:∃L,au R=L:=⟨_,rfl⟩;rw[hI] at HI1 HJ hss hps;rw[hJ] at HI2 HJ hss hps;rw[hL] at HI3 HJ hss hps;clear hP hY hR2 hI hJ hL e0 e1 e2 hcell HSEG hbb0;have h58:(⟨#[58]⟩:ByteArray).size=1:=rfl;have h62:(⟨#[62]⟩:ByteArray).size=1:=rfl;rw[Jt,Jt,Jt,Jt,h58,h62] at hss hps;obtain⟨Q,hQ⟩:∃Q,(if k=0 then O else O++⟨#[59]⟩)=Q:=⟨_,rfl⟩;have hQs:Q.size≤O.size+1∧O.size≤Q.size:=by
     rw[←hQ]
     split
     ·omega
     ·rw[Jt];exact⟨Jr _,Nat.le_add_right _ _⟩
    rw[hQ] at HJ;have hOs:¬ 9223372036854775807<O.size+1:=by omega
    have g0:¬ 9223372036854775807<Q.size+I.size:=by omega
    have g1:¬ 9223372036854775807<Q.size+I.size+1:=by omega
    have g2:¬ 9223372036854775807<Q.size+I.size+1+J.size:=by omega
    have g3:¬ 9223372036854775807<Q.size+I.size+1+J.size+1:=by omega
    have g4:¬ 9223372036854775807<Q.size+I.size+1+J.size+1+L.size:=by omega
    have r0:(Q++I).size=Q.size+I.size:=by rw[Jt]
    have r1:(Q++I++⟨#[58]⟩).size=Q.size+I.size+1:=by rw[Jt,r0];rfl
    have r2:(Q++I++⟨#[58]⟩++J).size=Q.size+I.size+1+J.size:=by rw[Jt,r1]
    have r3:(Q++I++⟨#[58]⟩++J++⟨#[62]⟩).size=Q.size+I.size+1+J.size+1:=by rw[Jt,r2];rfl
    have r4:(Q++I++⟨#[58]⟩++J++⟨#[62]⟩++L).size=Q.size+I.size+1+J.size+1+L.size:=by rw[Jt,r3]
    have HJ2:=Jj (show aW ((es.take (k+1)).map etS) ⟨#[59]⟩=Q++I++⟨#[58]⟩++J++⟨#[62]⟩++L by rw[HJ.out];simp only[ByteArray.append_assoc]);have HR:=Jj (show(Q++I++⟨#[58]⟩++J++⟨#[62]⟩++L).size≤66*(k+1)∧k+1≤(Q++I++⟨#[58]⟩++J++⟨#[62]⟩++L).size by omega);clear HJ hss hps;by_cases hk0:k=0
    ·obtain rfl:O=Q:=by rw[←hQ,if_pos hk0]
     clear hQ;subst hk0;rw[Nat.zero_mul,Nat.add_zero] at y0 y1 y2;have tok1:True:=trivial;have tok2:True:=trivial;have tok3:True:=trivial
     go_wp2_with fail
     go_region_held3 (fun w'=>w'.cell? ⟨b,o,none⟩=some (.int .i64 P)∧w'.cell? ⟨b,o+1,none⟩=some (.int .i64 Y)∧w'.cell? ⟨b,o+2,none⟩=some (.int .i64 R)) (first|with_reducible exact⟨y0,y1,y2⟩|with_reducible exact⟨y60,y61,y62⟩|with_reducible exact⟨y70,y71,y72⟩|with_reducible exact⟨y80,y81,y82⟩|exact⟨y0,y1,y2⟩|go_keep) (first
      |((try go_simp);go_at_call 33;have _t:=tok1;go_loud (refine(HI1.out _).mono ?_;rintro e w6 ⟨rfl,bq⟩;replace bq:Below wr.heap.size wr w6:=(by first|exact bq|exact aa (ah _) bq);have B6:=Jj bq;have hb6:=Jw hbb bq.size;have y60:=(bq.cell (by exact hbb)).trans y0;have y61:=(bq.cell (by exact hbb)).trans y1;have y62:=(bq.cell (by exact hbb)).trans y2;clear tok1 bq;(try dsimp only)))
      |((try go_simp);go_at_call 33;have _t:=tok2;go_loud (refine(HI2.out _).mono ?_;rintro e w7 ⟨rfl,bq⟩;replace bq:Below w6.heap.size w6 w7:=(by first|exact bq|exact aa (ah _) bq);have B7:=Jj bq;have hb7:=Jw hb6 bq.size;have y70:=(bq.cell (by exact hb6)).trans y60;have y71:=(bq.cell (by exact hb6)).trans y61;have y72:=(bq.cell (by exact hb6)).trans y62;clear tok2 bq;(try dsimp only)))
      |((try go_simp);go_at_call 33;have _t:=tok3;go_loud (refine(HI3.out _).mono ?_;rintro e w8 ⟨rfl,bq⟩;replace bq:Below w7.heap.size w7 w8:=(by first|exact bq|exact aa (ah _) bq);have B8:=Jj bq;have hb8:=Jw hb7 bq.size;have y80:=(bq.cell (by exact hb7)).trans y70;have y81:=(bq.cell (by exact hb7)).trans y71;have y82:=(bq.cell (by exact hb7)).trans y72;clear tok3 bq;(try dsimp only)))
      |fail)
     all_goals
      have HBE:=Jj (aa (aa (aa H.out.2 B6.out) B7.out) B8.out);go_wp2;go_roundw
      case rel=>exact⟨0+1,_,hlt,by go_num,rfl,HJ2.out.symm,HR.out,by first|exact HBE.out|exact HBE.out.drew⟩
      case measure=>simp[intOf];omega
    ·have hQ2:O++⟨#[59]⟩=Q:=by rw[←hQ,if_neg hk0]
     have HQ2:=Jj hQ2;have hki:(0:Int)<(k:Int):=by omega
     clear hQ hQ2;have tok1:True:=trivial;have tok2:True:=trivial;have tok3:True:=trivial
     go_wp2_with fail
     rw[HQ2.out]
     go_region_held3 (fun w'=>w'.cell? ⟨b,o+k*3,none⟩=some (.int .i64 P)∧w'.cell? ⟨b,o+k*3+1,none⟩=some (.int .i64 Y)∧w'.cell? ⟨b,o+k*3+2,none⟩=some (.int .i64 R)) (first|with_reducible exact⟨y0,y1,y2⟩|with_reducible exact⟨y60,y61,y62⟩|with_reducible exact⟨y70,y71,y72⟩|with_reducible exact⟨y80,y81,y82⟩|exact⟨y0,y1,y2⟩|go_keep) (first
      |((try go_simp);go_at_call 33;have _t:=tok1;go_loud (refine(HI1.out _).mono ?_;rintro e w6 ⟨rfl,bq⟩;replace bq:Below wr.heap.size wr w6:=(by first|exact bq|exact aa (ah _) bq);have B6:=Jj bq;have hb6:=Jw hbb bq.size;have y60:=(bq.cell (by exact hbb)).trans y0;have y61:=(bq.cell (by exact hbb)).trans y1;have y62:=(bq.cell (by exact hbb)).trans y2;clear tok1 bq;(try dsimp only)))
      |((try go_simp);go_at_call 33;have _t:=tok2;go_loud (refine(HI2.out _).mono ?_;rintro e w7 ⟨rfl,bq⟩;replace bq:Below w6.heap.size w6 w7:=(by first|exact bq|exact aa (ah _) bq);have B7:=Jj bq;have hb7:=Jw hb6 bq.size;have y70:=(bq.cell (by exact hb6)).trans y60;have y71:=(bq.cell (by exact hb6)).trans y61;have y72:=(bq.cell (by exact hb6)).trans y62;clear tok2 bq;(try dsimp only)))
      |((try go_simp);go_at_call 33;have _t:=tok3;go_loud (refine(HI3.out _).mono ?_;rintro e w8 ⟨rfl,bq⟩;replace bq:Below w7.heap.size w7 w8:=(by first|exact bq|exact aa (ah _) bq);have B8:=Jj bq;have hb8:=Jw hb7 bq.size;have y80:=(bq.cell (by exact hb7)).trans y70;have y81:=(bq.cell (by exact hb7)).trans y71;have y82:=(bq.cell (by exact hb7)).trans y72;clear tok3 bq;(try dsimp only)))
      |fail)
     all_goals
      have HBE:=Jj (aa (aa (aa H.out.2 B6.out) B7.out) B8.out);go_wp2;go_roundw
      case rel=>exact⟨k+1,_,hlt,by go_num,rfl,HJ2.out.symm,HR.out,by first|exact HBE.out|exact HBE.out.drew⟩
      case measure=>simp[intOf];omega
   ·obtain rfl:k=es.length:=by omega
    by_cases hn:es=[]
    ·have hO:O=⟨#[]⟩:=by rw[H.out.1,hn];rfl
     have HE:=Jj (show cm es=⟨#[45]⟩ by rw[HZ.out,if_pos hn]);subst hO;clear hn;go_wp2;go_ret;exact⟨by rw[HE.out];rfl,H.out.2⟩
    ·have HE:=Jj (show cm es=O by rw[HZ.out,if_neg hn,H.out.1,List.take_length]);have hpos:0<es.length:=List.length_pos_iff.2 hn;have hO:O.toList.isEmpty=false:=by
      have h1:O.toList.length=O.size:=by rw[ByteArray.toList_eq];exact Array.length_toList
      cases hc:O.toList with
      |nil=>rw[hc] at h1;simp at h1;omega
      |cons a r=>rfl
     clear hn;go_wp2;go_ret;exact⟨by rw[HE.out];rfl,H.out.2⟩
theorem uy (v:Value) (l:List Int) (d s c:Int) (w:World) (hv:ai w v l):
  Calls prog 132 #[v,.int .i64 d,.int .i64 s,.int .i64 c] w (lf w (chP l d s c) (eu l d s c)):=by
 cases h:eu l d s c
 ·rw[FW h];exact xD v l d s c w hv h
 ·have:chP l d s c=chL l d s c:=by simp[chP,h]
  rw[this];exact vh v l d s c w hv h
theorem tc {v:List Int} {g:Nat→Nat} (hg:∀i,i<v.length→g i≤60):∀f i k,k<(sgF v g f i).length→sgn (sgF v g f i) k≤60
 |0,i,k,hk=>absurd hk (by simp[sgF])
 |f+1,i,k,hk=>by
  unfold sgF at hk ⊢;by_cases hi:i<v.length
  ·rw[if_pos hi] at hk ⊢;cases k with
   |zero=>exact hg i hi
   |succ k=>exact tc hg f (i+g i) k (by simpa using hk)
  ·rw[if_neg hi] at hk;exact absurd hk (by simp)
theorem yQ (l:List Int) (d s c:Int):∀k,k<(chP l d s c).length→sgn (chP l d s c) k≤1000:=by
 intro k hk;unfold chP at hk ⊢
 split at hk
 ·rename_i h
  rw[if_pos h];unfold eu at h;rw[JB,JB,JB] at h;obtain⟨⟨⟨h1,h2⟩,-⟩,-⟩:=h;have d':=am.1 h2;have h60:=(cd.1 h1).2.1;have:=tc (v:=l) (g:=chN l d s c) (fun i hi=>by
   have:=oR (s:=s) (c:=c) h1 d'.1 d'.2 hi;omega) (l.length-0) 0 k hk
  show sgn (sgF l (chN l d s c) (l.length-0) 0) k≤1000
  omega
 ·exact absurd hk (by simp)
theorem zb (l:List Int) (d:Int):∀k,k<(grP l d).length→sgn (grP l d) k≤1000:=by
 intro k hk;unfold grP at hk ⊢
 split at hk
 ·rename_i h
  rw[if_pos h];unfold eA at h;rw[JB] at h;have h60:=(cd.1 h.1).2.1;have:=tc (v:=l) (g:=fun i=>lgN (l.drop i) d) (fun i hi=>by
   have:=jP (l.drop i) d;rw[List.length_drop] at this
   show lgN (l.drop i) d≤60
   omega) (l.length-0) 0 k hk
  show sgn (sgF l (fun i=>lgN (l.drop i) d) (l.length-0) 0) k≤1000
  omega
 ·exact absurd hk (by simp)
theorem rO {w:World} {v:Value} {ps:List (Nat×List Int)} (h:oM w v ps) (hl:ps.length≤60) (hn:∀k,k<ps.length→sgn ps k≤1000):(da ps).size≤12060:=by
 obtain⟨us,A,c,-,-,-,-,-,h6⟩:=h;unfold da
 split
 ·have:=im (l:=ps.map dL) (sep:=⟨#[47]⟩) (B:=200) (fun x hx=>by
   rw[←qV] at hx;unfold eY at hx;obtain⟨j,hj,rfl⟩:=List.mem_map.1 hx;have hj:=List.mem_range.1 hj;exact ju (sgn ps j,sgp ps j) (h6 j hj).2 (by show sgn ps j≤1000000;have:=hn j hj;omega))
  rw[List.length_map] at this;have e:(⟨#[47]⟩:ByteArray).size=1:=rfl;rw[e] at this;have:(1+200)*ps.length≤201*60:=Nat.mul_le_mul (by omega) hl;omega
 ·exact Jy _
def gl:ByteArray:=⟨#[112,108,97,110]⟩
def eS:ByteArray:=⟨#[99,104,101,97,112]⟩
theorem C8 {d:ae} {dg:Int} (ok:d.Ok):cD gl [dg] d (ak (da (grP d.tab dg)) (eA d.tab dg)) d:=by
 intro b v w hv hd hg;have HD:=Jj hd;have HG:=Jj hg;obtain⟨pv,en,t,k0,-,-,k3⟩:=hd;have HT:=Jj k3.ints;obtain⟨A,c,rfl,-,-,-⟩:=k3.ints.open_;obtain⟨g,cn,rfl,hgl,hcn⟩:=eL hv (by simp);have n0:w.cell? ⟨g,0,none⟩=some (.int .i64 dg):=hcn 0 (by simp);obtain⟨c0,c1,c2,c3,c4,c5⟩:=k0.desk;clear c0 c1 c3 c4 c5;have tok1:True:=trivial;clear k0 k3 hg ok hv hcn;unfold gl
 go_enter func56,ntmps56
 go_wp2_with fail
 go_region_law (first
  |(go_simp;go_at_call 130;have _t:=tok1;refine(sP _ d.tab dg _ (by first|exact HT.out|exact HT.out.bel (ah _))).mono ?_;rintro e1 w3 ⟨r,rfl,o3,b3⟩;replace b3:Below w.heap.size w w3:=(by first|exact b3|exact aa (ah _) b3);have HB:=Jj b3;have HO:=Jj o3.read;obtain⟨us3,A3,c3,-,rfl,-⟩:=o3.read;clear tok1 b3 o3 n0 c2)
  |fail)
 all_goals
  have hps:=pk d.tab dg;have hpc:=Jj (zb d.tab dg);have hsz:=rO HO.out hps.1 hpc.out
  go_wp2_with fail
  refine(ql _ _ _ HO.out (by omega) hpc.out (HG.out.bel HB.out).glb.1).mono ?_;rintro e w4 ⟨rfl,b4⟩;have HB4:=Jj (aa HB.out b4);clear b4
  go_wp2_with fail
  refine(cy _ (eA d.tab dg) _ (by omega)).mono ?_;rintro e w6 ⟨rfl,rfl⟩;go_wp2;go_ret;exact⟨rfl,HD.out.bel HB4.out,aB _ HB4.out⟩
theorem AC {d:ae} {dg s cc:Int} (ok:d.Ok):cD eS [dg,s,cc] d (ak (da (chP d.tab dg s cc)) (eu d.tab dg s cc)) d:=by
 intro b v w hv hd hg;have HD:=Jj hd;have HG:=Jj hg;obtain⟨pv,en,t,k0,-,-,k3⟩:=hd;have HT:=Jj k3.ints;obtain⟨A,c,rfl,-,-,-⟩:=k3.ints.open_;obtain⟨g,cn,rfl,hgl,hcn⟩:=eL hv (by simp);have n0:w.cell? ⟨g,0,none⟩=some (.int .i64 dg):=hcn 0 (by simp);have n1:w.cell? ⟨g,1,none⟩=some (.int .i64 s):=hcn 1 (by simp);have n2:w.cell? ⟨g,2,none⟩=some (.int .i64 cc):=hcn 2 (by simp);obtain⟨c0,c1,c2,c3,c4,c5⟩:=k0.desk;clear c0 c1 c3 c4 c5;have tok1:True:=trivial;have hlb:=k0.lt;clear k0 k3 hg ok hv hcn;unfold eS
 go_enter func56,ntmps56
 go_wp2_with fail
 go_region_held3 (fun w'=>w'.cell? ⟨b,2,none⟩=some (.slice A d.tab.length c)∧w'.cell? ⟨g,0,none⟩=some (.int .i64 dg)∧w'.cell? ⟨g,1,none⟩=some (.int .i64 s)∧w'.cell? ⟨g,2,none⟩=some (.int .i64 cc)) (first|exact⟨c2,n0,n1,n2⟩|exact⟨m0,m1,m2,m3⟩|go_keep) (first
  |((try go_simp);go_at_call 132;have _t:=tok1;go_loud (refine(uy _ d.tab dg s cc _ (by first|exact HT.out|exact HT.out.bel (ah _))).mono ?_;rintro e1 w3 ⟨r,rfl,o3,b3⟩;replace b3:Below w.heap.size w w3:=(by first|exact b3|exact aa (ah _) b3);have HB:=Jj b3;have HO:=Jj o3.read;have m0:=(b3.cell (p:=⟨b,2,none⟩) hlb).trans c2;have m1:=(b3.cell (p:=⟨g,0,none⟩) hgl).trans n0;have m2:=(b3.cell (p:=⟨g,1,none⟩) hgl).trans n1;have m3:=(b3.cell (p:=⟨g,2,none⟩) hgl).trans n2;obtain⟨us3,A3,c3,-,rfl,-⟩:=o3.read;clear tok1 b3 o3;(try dsimp only)))
  |fail)
 try clear c2 n0 n1 n2 m0 m1 m2 m3
 all_goals
  have hps:=oS d.tab dg s cc;have hpc:=Jj (yQ d.tab dg s cc);have hsz:=rO HO.out hps.1 hpc.out
  go_wp2_with fail
  refine(ql _ _ _ HO.out (by omega) hpc.out (HG.out.bel HB.out).glb.1).mono ?_;rintro e w4 ⟨rfl,b4⟩;have HB4:=Jj (aa HB.out b4);clear b4
  go_wp2_with fail
  refine(cy _ (eu d.tab dg s cc) _ (by omega)).mono ?_;rintro e w6 ⟨rfl,rfl⟩;go_wp2;go_ret;exact⟨rfl,HD.out.bel HB4.out,aB _ HB4.out⟩
def eU:ByteArray:=⟨#[115,101,116,117,112]⟩
def eV:ByteArray:=⟨#[116,117,114,110,115]⟩
def jp:ByteArray:=⟨#[114,117,110]⟩
def kP:ByteArray:=⟨#[115,107,101,119]⟩
def gQ:ByteArray:=⟨#[117,110,115,107,101,119]⟩
def iZ:ByteArray:=⟨#[110,105,110,101,115]⟩
def fO (t:ByteArray):ByteArray:=if cP t=true then okS else noS
def jU (d:ae) (t:ByteArray):ae:=if cP t=true then { d with poly:=ppL t } else d
theorem DR {d:ae} {t:ByteArray} (ht:t.size≤1000000):jy ej t d (fO t) (jU d t):=by
 intro b w hd hg;have HD:=Jj hd;have HG:=Jj hg;clear hd hg;unfold ej
 go_enter func57,ntmps57
 go_wp2_with fail
 refine(nS t w (by omega) HG.out.glb).mono ?_;rintro e w2 ⟨r,rfl,o,b2⟩;have HB:=Jj b2;have HO:=Jj o.low;clear o b2;cases hq:cP t
 ·have HN:=Jj (show fO t=noS∧jU d t=d by unfold fO jU;rw[hq];exact⟨rfl,rfl⟩);clear hq;go_wp2;go_ret;exact⟨by rw[HN.out.1];rfl,by rw[HN.out.2];exact HD.out.bel HB.out,aB _ HB.out⟩
 ·have HN:=Jj (show fO t=okS∧jU d t={ d with poly:=ppL t } by unfold fO jU;rw[hq];exact⟨rfl,rfl⟩);have HD2:=Jj (HD.out.bel HB.out);obtain⟨p,en,u,k0,-,-,-⟩:=HD2.out;obtain⟨f0,f1,f2,f3,f4,f5⟩:=k0.deskF;obtain⟨c0,c1,c2,c3,c4,c5⟩:=k0.desk;obtain⟨A,c,rfl,-,-,-⟩:=HO.out.ints.open_;clear hq k0;go_wp2;go_ret;exact⟨by rw[HN.out.1];rfl,by rw[HN.out.2];exact HD2.out.setPoly HO.out,ay (aB _ HB.out) (aI _ b 0 _)⟩
theorem AE {d:ae} {n k:Int} (hn : -9223372036854775808≤n∧n≤9223372036854775807):cD eU [n,k] d (ak (bD (dm d.poly n k)) (cE d.poly n k)) (bd d (dm d.poly n k) (cE d.poly n k)):=by
 intro b v w hv hd hg;have HD:=Jj hd;have HG:=Jj hg;obtain⟨pv,en,t,k0,k1,-,-⟩:=hd;have HP:=Jj k1.ints;obtain⟨A,c,rfl,-,-,-⟩:=k1.ints.open_;obtain⟨g,cn,rfl,hgl,hcn⟩:=eL hv (by simp);have n0:w.cell? ⟨g,0,none⟩=some (.int .i64 n):=hcn 0 (by simp);have n1:w.cell? ⟨g,1,none⟩=some (.int .i64 k):=hcn 1 (by simp);obtain⟨c0,c1,c2,c3,c4,c5⟩:=k0.desk;have HN:=Jj hn;clear c1 c2 c3 c4 c5;have tok1:True:=trivial;have tok2:True:=trivial;clear k0 k1 hg hv hcn hn;unfold eU
 go_enter func56,ntmps56
 go_wp2_with fail
 go_region_law (first
  |(go_simp;go_at_call 120;have _t:=tok1;refine(oI _ d.poly n k _ (by first|exact HP.out|exact HP.out.bel (ah _)) HN.out).mono ?_;rintro e1 w3 ⟨r,rfl,o3,b3⟩;replace b3:Below w.heap.size w w3:=(by first|exact b3|exact aa (ah _) b3);have HB:=Jj b3;have HO:=Jj o3.low;clear tok1 b3 o3 n0 n1 c0)
  |(go_simp;go_at_call 106;have _t:=tok2;refine(fw b d _ (dm d.poly n k) (cE d.poly n k) _ (HD.out.bel HB.out) HO.out (HG.out.bel HB.out)).mono ?_;rintro e2 w4 ⟨rfl,d4,g4⟩;have HE:=Jj (Jq d4 g4);clear tok2 d4 g4)
  |fail)
 all_goals
  go_wp2;go_ret;exact⟨rfl,HE.out.1,ay (aB _ HB.out) HE.out.2⟩
theorem zk (l:List ByteArray) (n:Int):(fI l n).length≤1048576:=by
 unfold fI
 split
 ·rename_i h
  simp only[cu,JB] at h;have:=am.1 h.2;rw[qt];omega
 ·simp
theorem Ff {d:ae} {n:Int} (hn : -9223372036854775808≤n∧n≤9223372036854775807):cD jp [n] d (ak (aw (fI d.eng n)) (cu d.eng n&&ag (fI d.eng n))) (aR d (fI d.eng n) (cu d.eng n)):=by
 intro b v w hv hd hg;have HD:=Jj hd;have HG:=Jj hg;obtain⟨pv,en,t,k0,-,k2,-⟩:=hd;have HP:=Jj k2.strs;obtain⟨A,c,rfl,-,-,-⟩:=k2.strs.open_;obtain⟨g,cn,rfl,hgl,hcn⟩:=eL hv (by simp);have n0:w.cell? ⟨g,0,none⟩=some (.int .i64 n):=hcn 0 (by simp);obtain⟨c0,c1,c2,c3,c4,c5⟩:=k0.desk;have HN:=Jj hn;have hrl:=zk d.eng n;clear c0 c2 c3 c4 c5;have tok1:True:=trivial;have tok2:True:=trivial;clear k0 k2 hg hv hcn hn;unfold jp
 go_enter func56,ntmps56
 go_wp2_with fail
 go_region_law (first
  |(go_simp;go_at_call 124;have _t:=tok1;refine(xQ _ d.eng n _ (by first|exact HP.out|exact HP.out.bel (ah _)) HN.out).mono ?_;rintro e1 w3 ⟨r,rfl,o3,b3⟩;replace b3:Below w.heap.size w w3:=(by first|exact b3|exact aa (ah _) b3);have HB:=Jj b3;have HO:=Jj o3.low;clear tok1 b3 o3 n0 c1)
  |(go_simp;go_at_call 122;have _t:=tok2;refine(jX b d _ (fI d.eng n) (cu d.eng n) _ (HD.out.bel HB.out) HO.out hrl (HG.out.bel HB.out)).mono ?_;rintro e2 w4 ⟨rfl,d4,g4⟩;have HE:=Jj (Jq d4 g4);clear tok2 d4 g4)
  |fail)
 all_goals
  go_wp2;go_ret;exact⟨rfl,HE.out.1,ay (aB _ HB.out) HE.out.2⟩
theorem pB (l:List Int) (h:l.length≤60):(aw (fc l 9)).size≤1320∧(fc l 9).length≤60:=by
 unfold fc
 split
 ·have hl:=ar (fun i=>((md (at_ l i) 9:Nat):Int)) l.length;have h1:=bM (l:=gen (fun i=>((md (at_ l i) 9:Nat):Int)) l.length) (xu fun j hj=>by have:=gW (at_ l j) (show 1≤9 by omega);omega);rw[hl] at h1 ⊢;omega
 ·exact⟨Jy _,Jy _⟩
theorem Bw {d:ae} (ok:d.Ok):fZ iZ d (ak (aw (fc d.tab 9)) (ag d.tab)) d:=by
 intro b w hd hg;have HD:=Jj hd;have HG:=Jj hg;have hz:=pB d.tab ok.tab;obtain⟨pv,en,t,k0,-,-,k3⟩:=hd;have HT:=Jj k3.ints;have HK:=Jj k0;obtain⟨A,c,rfl,-,-,-⟩:=k3.ints.open_;obtain⟨c0,c1,c2,c3,c4,c5⟩:=k0.desk;have tok1:True:=trivial;have tok2:True:=trivial;have tok3:True:=trivial;have tok4:True:=trivial;clear k0 k3 hg ok;unfold iZ
 go_enter func54,ntmps54
 go_wp2_with fail
 go_region_held3 (fun w'=>w'.cell? ⟨b,2,none⟩=some (.slice A d.tab.length c)) (first|exact HK.out.desk4.1|exact HK3.out.desk4.1|exact HK4.out.desk4.1|go_keep) (first
  |((try go_simp);go_at_call 117;have _t:=tok1;go_loud (refine(CZ _ d.tab _ (by first|exact HT.out|exact HT.out.bel (ah _))).mono ?_;rintro e w3 ⟨r,rfl,o3,b3⟩;replace b3:Below w.heap.size w w3:=(by first|exact b3|exact aa (ah _) b3);have HB:=Jj b3;have HK3:=Jj (HK.out.below b3 HK.out.lt);have HO:=Jj o3.ints;obtain⟨A3,c6,rfl,-,-,-⟩:=o3.ints.open_;clear tok1 b3 o3;(try dsimp only)))
  |((try go_simp);go_at_call 116;have _t:=tok2;go_loud (refine(dC _ (fc d.tab 9) _ HO.out (by omega) (HG.out.bel HB.out).glb.1).mono ?_;rintro e w4 ⟨rfl,b3⟩;have HB4:=Jj (aa HB.out b3);have HK4:=Jj (HK3.out.below b3 HK3.out.lt);have HT4:=Jj (HT.out.bel HB4.out);clear tok2 b3;(try dsimp only)))
  |((try go_simp);go_at_call 115;have _t:=tok3;go_loud (refine(aF _ d.tab _ HT4.out).mono ?_;rintro e w5 ⟨rfl,rfl⟩;clear tok3;(try dsimp only)))
  |((try go_simp);go_at_call 102;have _t:=tok4;go_loud (refine(cy _ (ag d.tab) _ (by omega)).mono ?_;rintro e w6 ⟨rfl,rfl⟩;clear tok4;(try dsimp only)))
  |fail)
 clear c0 c1 c2 c3 c4 c5;go_wp2;go_ret;exact⟨rfl,HD.out.bel HB4.out,aB _ HB4.out⟩
theorem Bld.shape {w:World} {b:Nat} {T:ByteArray} (h:Bld w b T):w.shape? b=some (44,2):=h.elim (fun x=>x.shape) (fun x=>x.shape)
theorem tz {w w':World} {B bb b:Nat} {p:Value} {bs:List Value} {cs:List Value} (h:Lib.BuilderAtF 44 5 B bb p bs w) (hd:Blk w b 41 cs) (hg:w.grownBy w' (some b)) (hne:bb≠b):Lib.BuilderAtF 44 5 B bb p bs w':=by
 have hlt:=h.lt;obtain⟨hB,v,hh,hown,hn⟩:=h;exact⟨hB,v,(hg.block bb hlt (fun e=>hne (JC e))).trans hh,hown.kept hg (.inr (Lib.ownBlock_neF hown hd (by decide))),hn⟩
theorem Bld.grw {w w':World} {bb b:Nat} {T:ByteArray} {d:ae} (h:Bld w bb T) (hd:bO w b d) (hg:w.grownBy w' (some b)) (hne:bb≠b):Bld w' bb T:=by
 obtain⟨p,e,t,h0,-⟩:=hd;exact h.elim (fun x=>.inl (tz x h0 hg hne)) (fun x=>.inr (tz x h0 hg hne))
theorem aj.others {w w':World} {base bb:Nat} {v:Value} {l:List ByteArray} {T:ByteArray} (h:aj w base v l) (hB:Bld w bb T) (hk:Lib.OthersKept 5 (some bb) w w'):aj w' base v l:=by
 refine⟨lL h.1 hk (fun h5=>?_) (by decide),h.2⟩;have hs:=hB.shape
 rcases h.1.2 with ⟨rfl,-⟩|⟨g,cap,cur,rfl,-,hg,-⟩
 ·simp[Value.ownBlock] at h5
 ·have h6:g=bb:=JC h5;subst h6;simp[World.shape?,hg] at hs
theorem wB {w:World} {g:Nat} (h:Blk w g 3 [.int .i64 0]):Own w 0 (.slice (some ⟨g,0,none⟩) 1 1) [0]:=by
 refine Own.mk' (cs:=[.int .i64 0]) (l:=[0]) (Jy _) h (Jr _) (by decide) rfl (fun j hj=>?_) (fun n hn=>?_)
 ·have:j=0:=by simp at hj;exact hj
  subst this
  rfl
 ·simp at hn;omega
theorem nx {x:ByteArray} (h:x.toList.isEmpty=false):x≠⟨#[]⟩:=by
 rintro rfl;rw[ByteArray.toList_eq] at h;exact absurd h (by decide)
theorem DT {x:ByteArray} (h:x.toList.isEmpty=true):x=⟨#[]⟩:=by
 rw[ByteArray.toList_eq] at h
 apply ByteArray.ext
 apply Array.toList_inj.1
 simpa using h
def gV:ae:=⟨[0],[],[],5,2,8⟩
theorem qe (a b:ByteArray):(a++b).size=a.size+b.size:=Jt
theorem vw {l:List ByteArray} {k:Nat} (h:k<l.length):l.drop k=sat l k::l.drop (k+1):=by
 rw[List.drop_eq_getElem_cons h,bV l k h]
def uS (l:List Int) (m k:Nat):List Int:=gen (fun i=>(md (at_ l i) m:Int)) k
theorem wL (l:List Int) (m k:Nat):(uS l m k).length=k:=ar _ _
theorem AN (l:List Int) (m k:Nat):uS l m (k+1)=uS l m k++[(md (at_ l k) m:Int)]:=fE _ _
theorem x6 (v:Value) (l:List Int) (m:Nat) (w:World) (hv:ai w v l) (hm:1≤m∧m≤1000):
  Calls prog 76 #[v,.int .i64 m] w fun e w'=>∃r,e=.returned r∧Own w' w.heap.size r (fc l m)∧Below w.heap.size w w':=by
 have HV:=Jj hv;obtain⟨A,c,rfl,-,-,hrd⟩:=hv.open_;have HR:=Jj hrd;have OE:=Jj (Own.empty w w.heap.size (Jr _));clear hv hrd;cases ht:ag l
 ·have HN:=Jj (show fc l m=[] by unfold fc;rw[ht];rfl);by_cases h0:0<l.length
  ·go_enter func76,ntmps76
   go_wp2_with fail
   refine wp_loop_rounds 1 ?_;rw[rounds_succ]
   go_wp2_with fail
   refine(az _ l _ (HV.out.bel (ab _ _))).mono ?_;rw[ht];rintro e w1 ⟨rfl,rfl⟩;go_wp2;go_ret;exact⟨_,rfl,by rw[HN.out];exact OE.out,ab _ _⟩
  ·have h0':l.length=0:=by omega
   have hl:l=[]:=List.eq_nil_of_length_eq_zero h0';subst hl
   go_enter func76,ntmps76
   go_wp2_with fail
   refine wp_loop_rounds 1 ?_;rw[rounds_succ];go_wp2;go_ret;exact⟨_,rfl,by rw[HN.out];exact OE.out,ab _ _⟩
 ·have HY:=Jj (wK m ht);have HT:=Jj ht;obtain⟨t1,t60,-⟩:=aA ht;obtain⟨b,o,rfl,hbb,hcell⟩:=HR.out.ints (by omega);have HC:=Jj (Jq hbb hcell);clear ht hcell hbb
  go_enter func76,ntmps76
  go_wp2_with fail
  go_loopw [5,6] (fun r i wr=>∃k:Nat,k≤l.length∧i=.int .i64 k∧Own wr w.heap.size r (uS l m k)∧Below w.heap.size w wr) (fun _ i _=>l.length-(intOf i).toNat)
  case atStart=>exact⟨0,Jy _,rfl,OE.out,ab _ _⟩
  case round=>
   obtain⟨k,hk,rfl,ho,hb⟩:=hrel;have HO:=Jj (Jq ho hb);have hz:=hb.size;by_cases hlt:k<l.length
   ·have hck:=(hb.cell (by exact HC.out.1)).trans (HC.out.2 k hlt);have HVr:=Jj (HV.out.bel hb);clear ho hb
    go_wp2_with fail
    refine(az _ l _ HVr.out).mono ?_;rw[HT.out];rintro e w1 ⟨rfl,rfl⟩
    go_wp2_with fail
    refine(fo _ m _ (by omega)).mono ?_;rintro e w1 ⟨rfl,rfl⟩;have hml:=gW (at_ l k) hm.1;have hrl:=wL l m k
    go_wp2_with (at_builtin;refine du rfl (.tmp 18) (.tmp 25) (by rfl) w.heap.size u5 _ (by rfl) (by exact HO.out.1.bel (ab _ _)) _ _ _ (by rfl) (by exact bh _ _ _) (by omega) (by rw[hrl];omega) (by simp;omega) ?_;intro v1 w2 ho hg _)
    go_roundw
    case rel=>exact⟨k+1,by omega,by go_num,by rw[AN];exact ho,dN (aa HO.out.2 (ab _ _)) (HO.out.1.bel (ab _ _)) hg⟩
    case measure=>simp[intOf];omega
   ·obtain rfl:k=l.length:=by omega
    clear ho hb;go_wp2;go_ret;exact⟨_,rfl,by rw[HY.out];exact HO.out.1,HO.out.2⟩
theorem uI (v:Value) (l:List Int) (w:World) (hv:ai w v l):
  Calls prog 36 #[v] w fun e w'=>∃r,e=.returned r∧Own w' w.heap.size r (fc l 9)∧Below w.heap.size w w':=by
 have HV:=Jj hv;obtain⟨A,c,rfl,-,-,-⟩:=hv.open_;clear hv
 go_enter func36,ntmps36
 go_wp2_with fail
 refine(show Calls prog 76 #[.slice A l.length c,.int .i64 9] w _ from x6 _ l 9 _ HV.out (by omega)).mono ?_;rintro e w2 ⟨r,rfl,o2,b2⟩;have HO:=Jj (Jq o2 b2);obtain⟨A2,c2,rfl,-,-,-⟩:=o2.ints.open_;clear o2 b2;go_wp2;go_ret;exact⟨_,rfl,HO.out.1,HO.out.2⟩
def SxR (P:Nat→Prop) (w:World) (v:Value) (d:ae):Prop:=
 ∃p e t,v=.agg #[p,e,t,.int .i64 d.rw,.int .i64 d.ac,.int .i64 d.wi]∧(ai w p d.poly∧ia p d.poly P)∧(aG w e d.eng∧Off e d.eng P)∧(ai w t d.tab∧ia t d.tab P)
def SxS (P:Nat→Prop) (w:World) (p e t:Value) (d:ae):Prop:=(ai w p d.poly∧ia p d.poly P)∧(aG w e d.eng∧Off e d.eng P)∧(ai w t d.tab∧ia t d.tab P)
theorem SxS.r {P:Nat→Prop} {w:World} {p e t:Value} {d:ae} (h:SxS P w p e t d):SxR P w (.agg #[p,e,t,.int .i64 d.rw,.int .i64 d.ac,.int .i64 d.wi]) d:=⟨p,e,t,rfl,h⟩
theorem SxR.s {P:Nat→Prop} {w:World} {v:Value} {d:ae} (h:SxR P w v d):∃p e t,v=.agg #[p,e,t,.int .i64 d.rw,.int .i64 d.ac,.int .i64 d.wi]∧SxS P w p e t d:=h
def SxQ (P:Nat→Prop) (w:World) (x:ByteArray×ae) (e:Ending) (w':World):Prop:=∃v,e=.returned (.tuple #[v,.string x.1])∧SxR P w' v x.2∧Below w.heap.size w w'
def SxN (P:Nat→Prop) (w:World):Prop:=∀j,w.heap.size≤j→P j
theorem SxN.bel {P:Nat→Prop} {w w':World} {B:Nat} (h:SxN P w) (hb:Below B w w'):SxN P w':=fun j hj=>h j (Js hb.size hj)
theorem SxS.bel {P:Nat→Prop} {w w':World} {p e t:Value} {d:ae} (h:SxS P w p e t d) (hb:Below w.heap.size w w'):SxS P w' p e t d:=by
 obtain⟨⟨h1,h2⟩,⟨h3,h4⟩,h5,h6⟩:=h;exact⟨⟨h1.bel hb,h2⟩,⟨h3.bel hb,h4⟩,h5.bel hb,h6⟩
theorem SxS.old {P:Nat→Prop} {w:World} {p e t:Value} {d:ae} (h:SxS P w p e t d):SxS (fun j=>P j∧j<w.heap.size) w p e t d:=by
 obtain⟨⟨h1,h2⟩,⟨h3,h4⟩,h5,h6⟩:=h;exact⟨⟨h1,fun a n c e hl=>⟨h2 a n c e hl,h1.offI a n c e hl⟩⟩,⟨h3,fun a n c e hl=>⟨h4 a n c e hl,h3.off a n c e hl⟩⟩,h5,fun a n c e hl=>⟨h6 a n c e hl,h5.offI a n c e hl⟩⟩
theorem SxS.mono {P Q:Nat→Prop} {w:World} {p e t:Value} {d:ae} (h:SxS P w p e t d) (hk:∀j,P j→Q j):SxS Q w p e t d:=by
 obtain⟨⟨h1,h2⟩,⟨h3,h4⟩,h5,h6⟩:=h;exact⟨⟨h1,h2.mono hk⟩,⟨h3,h4.mono hk⟩,h5,h6.mono hk⟩
theorem SxS.row {P:Nat→Prop} {w w':World} {p e t:Value} {d:ae} {R:Nat} (h:SxS P w p e t d) (hR:∀j,P j→j≠R) (hg:w.grownBy w' (some R)):SxS P w' p e t d:=by
 obtain⟨⟨h1,h2⟩,⟨h3,h4⟩,h5,h6⟩:=h;have hne:∀k,P k→some k≠some R:=fun k hk e=>hR k hk (JC e);exact⟨⟨h1.rowFar hg (h2.mono hne),h2⟩,⟨h3.rowFar hg (h4.mono hne),h4⟩,h5.rowFar hg (h6.mono hne),h6⟩
def SxB (w:World) (b:Nat) (p e t:Value) (d:ae):Prop:=Blk w b 34 [p,e,t,.int .i64 d.rw,.int .i64 d.ac,.int .i64 d.wi]
theorem SxB.cells {w:World} {b:Nat} {p e t:Value} {d:ae} (h:SxB w b p e t d):
  w.cell? ⟨b,0,none⟩=some p∧w.cell? ⟨b,1,none⟩=some e∧w.cell? ⟨b,2,none⟩=some t∧w.cell? ⟨b,3,none⟩=some (.int .i64 d.rw)∧w.cell? ⟨b,4,none⟩=some (.int .i64 d.ac)∧w.cell? ⟨b,5,none⟩=some (.int .i64 d.wi):=by
 unfold SxB at h;refine⟨?_,?_,?_,?_,?_,?_⟩ <;> rw[h.cell] <;> rfl
theorem SxB.frz {w:World} {b:Nat} {p e t:Value} {d:ae} (h:SxB w b p e t d):
  w.frozen? ⟨b,0,none⟩=false∧w.frozen? ⟨b,1,none⟩=false∧w.frozen? ⟨b,2,none⟩=false∧w.frozen? ⟨b,3,none⟩=false∧w.frozen? ⟨b,4,none⟩=false∧w.frozen? ⟨b,5,none⟩=false:=
 ⟨Blk.frozen h 0,Blk.frozen h 1,Blk.frozen h 2,Blk.frozen h 3,Blk.frozen h 4,Blk.frozen h 5⟩
theorem SxB.below {w w':World} {b B:Nat} {p e t:Value} {d:ae} (h:SxB w b p e t d) (hb:Below B w w') (hB:b<B):SxB w' b p e t d:=Blk.below h hb hB
theorem SxB.lt {w:World} {b:Nat} {p e t:Value} {d:ae} (h:SxB w b p e t d):b<w.heap.size:=Blk.lt h
def Jd:ae:=⟨[],[],[],0,0,0⟩
theorem wI {w:World} {b:Nat} {p e t:Value} {d:ae} (h:SxB w b p e t d) (p' e' t':Value) (d':ae):
  SxB ((((((w.setCell ⟨b,0,none⟩ p').setCell ⟨b,1,none⟩ e').setCell ⟨b,2,none⟩ t').setCell ⟨b,3,none⟩ (.int .i64 d'.rw)).setCell ⟨b,4,none⟩ (.int .i64 d'.ac)).setCell ⟨b,5,none⟩ (.int .i64 d'.wi)) b p' e' t' d'∧w.grownBy ((((((w.setCell ⟨b,0,none⟩ p').setCell ⟨b,1,none⟩ e').setCell ⟨b,2,none⟩ t').setCell ⟨b,3,none⟩ (.int .i64 d'.rw)).setCell ⟨b,4,none⟩ (.int .i64 d'.ac)).setCell ⟨b,5,none⟩ (.int .i64 d'.wi)) (some b):=by
 refine⟨?_,?_⟩
 ·exact(((((Blk.set_ h 0 p').set_ 1 e').set_ 2 t').set_ 3 _).set_ 4 _).set_ 5 _
 ·exact ay (ay (ay (ay (ay (aI w b 0 _) (aI _ b 1 _)) (aI _ b 2 _)) (aI _ b 3 _)) (aI _ b 4 _)) (aI _ b 5 _)
structure Sxn (P:Nat→Prop) (w:World) (R:Nat) (p e t:Value) (d:ae) (X:World):Prop where
 box:SxB X w.heap.size p e t d
 out:SxB X R (.slice none 0 0) (.slice none 0 0) (.slice none 0 0) Jd
 bel:Below w.heap.size w X
 siz:w.heap.size<R∧R<X.heap.size
 sta:SxS (fun j=>P j∧(j≠R∧j≠w.heap.size)) X p e t d
 new:SxN (fun j=>P j∧(j≠R∧j≠w.heap.size)) X
theorem Sxn.next {P:Nat→Prop} {w:World} {R:Nat} {p e t:Value} {d:ae} {X Y:World} (h:Sxn P w R p e t d X) (hb:Below X.heap.size X Y):Sxn P w R p e t d Y:=
 ⟨h.box.below hb h.box.lt,h.out.below hb h.out.lt,aa h.bel hb,⟨h.siz.1,Jw h.siz.2 hb.size⟩,h.sta.bel hb,h.new.bel hb⟩
theorem Sxn.first {P:Nat→Prop} {w:World} {p e t:Value} {d:ae} (hs:SxS P w p e t d) (hn:SxN P w):Sxn P w (w.heap.size+1) p e t d ((w.alloc (.cells #[p,e,t,.int .i64 d.rw,.int .i64 d.ac,.int .i64 d.wi] 34)).alloc (.cells #[.slice none 0 0,.slice none 0 0,.slice none 0 0,.int .i64 0,.int .i64 0,.int .i64 0] 34)):=by
 have h3:Below w.heap.size w ((w.alloc (.cells #[p,e,t,.int .i64 d.rw,.int .i64 d.ac,.int .i64 d.wi] 34)).alloc (.cells #[.slice none 0 0,.slice none 0 0,.slice none 0 0,.int .i64 0,.int .i64 0,.int .i64 0] 34)):=(ab w _).alloc (by simp) _;have h2:=Blk.new (w.alloc (.cells #[p,e,t,.int .i64 d.rw,.int .i64 d.ac,.int .i64 d.wi] 34)) 34 [.slice none 0 0,.slice none 0 0,.slice none 0 0,.int .i64 0,.int .i64 0,.int .i64 0];rw[JD] at h2;have hz:w.heap.size+2≤((w.alloc (.cells #[p,e,t,.int .i64 d.rw,.int .i64 d.ac,.int .i64 d.wi] 34)).alloc (.cells #[.slice none 0 0,.slice none 0 0,.slice none 0 0,.int .i64 0,.int .i64 0,.int .i64 0] 34)).heap.size:=by simp
 exact⟨(Blk.new w 34 [p,e,t,.int .i64 d.rw,.int .i64 d.ac,.int .i64 d.wi]).alloc _,h2,h3,⟨Nat.lt_succ_self _,hz⟩,(hs.old.mono fun j hj=>⟨hj.1,by omega,by omega⟩).bel h3,fun j hj=>⟨hn j (by omega),by omega,by omega⟩⟩
theorem SxS.same {P:Nat→Prop} {w:World} {p e t:Value} {d:ae} (hs:SxS P w p e t d) (hn:SxN P w):
  SxB ((w.alloc (.cells #[p,e,t,.int .i64 d.rw,.int .i64 d.ac,.int .i64 d.wi] 34)).alloc (.cells #[p,e,t,.int .i64 d.rw,.int .i64 d.ac,.int .i64 d.wi] 34)) (w.heap.size+1) p e t d∧SxR P ((w.alloc (.cells #[p,e,t,.int .i64 d.rw,.int .i64 d.ac,.int .i64 d.wi] 34)).alloc (.cells #[p,e,t,.int .i64 d.rw,.int .i64 d.ac,.int .i64 d.wi] 34)) (.agg #[p,e,t,.int .i64 d.rw,.int .i64 d.ac,.int .i64 d.wi]) d∧Below w.heap.size w ((w.alloc (.cells #[p,e,t,.int .i64 d.rw,.int .i64 d.ac,.int .i64 d.wi] 34)).alloc (.cells #[p,e,t,.int .i64 d.rw,.int .i64 d.ac,.int .i64 d.wi] 34)):=by
 have h3:Below w.heap.size w ((w.alloc (.cells #[p,e,t,.int .i64 d.rw,.int .i64 d.ac,.int .i64 d.wi] 34)).alloc (.cells #[p,e,t,.int .i64 d.rw,.int .i64 d.ac,.int .i64 d.wi] 34)):=(ab w _).alloc (by simp) _;have h2:=Blk.new (w.alloc (.cells #[p,e,t,.int .i64 d.rw,.int .i64 d.ac,.int .i64 d.wi] 34)) 34 [p,e,t,.int .i64 d.rw,.int .i64 d.ac,.int .i64 d.wi];rw[JD] at h2;exact⟨h2,(hs.bel h3).r,h3⟩
theorem Sxn.done {P:Nat→Prop} {w:World} {R:Nat} {p e t p' e' t':Value} {d d':ae} {X:World} (h:Sxn P w R p e t d X) (hs:SxS (fun j=>P j∧(j≠R∧j≠w.heap.size)) X p' e' t' d'):
  SxB ((((((X.setCell ⟨R,0,none⟩ p').setCell ⟨R,1,none⟩ e').setCell ⟨R,2,none⟩ t').setCell ⟨R,3,none⟩ (.int .i64 d'.rw)).setCell ⟨R,4,none⟩ (.int .i64 d'.ac)).setCell ⟨R,5,none⟩ (.int .i64 d'.wi)) R p' e' t' d'∧SxR P ((((((X.setCell ⟨R,0,none⟩ p').setCell ⟨R,1,none⟩ e').setCell ⟨R,2,none⟩ t').setCell ⟨R,3,none⟩ (.int .i64 d'.rw)).setCell ⟨R,4,none⟩ (.int .i64 d'.ac)).setCell ⟨R,5,none⟩ (.int .i64 d'.wi)) (.agg #[p',e',t',.int .i64 d'.rw,.int .i64 d'.ac,.int .i64 d'.wi]) d'∧Below w.heap.size w ((((((X.setCell ⟨R,0,none⟩ p').setCell ⟨R,1,none⟩ e').setCell ⟨R,2,none⟩ t').setCell ⟨R,3,none⟩ (.int .i64 d'.rw)).setCell ⟨R,4,none⟩ (.int .i64 d'.ac)).setCell ⟨R,5,none⟩ (.int .i64 d'.wi)):=by
 obtain⟨h1,h2⟩:=wI h.out p' e' t' d';exact⟨h1,((hs.row (fun j hj=>hj.2.1) h2).mono fun j hj=>hj.1).r,h.bel.grown h2 h.bel.size (fun k hk=>by cases hk;exact Nat.le_of_lt h.siz.1)⟩
theorem Sxn.poly {P:Nat→Prop} {w:World} {R:Nat} {p e t x:Value} {d:ae} {l:List Int} {X:World} (h:Sxn P w R p e t d X) (hx:ai X x l) (ho:ia x l (fun j=>P j∧(j≠R∧j≠w.heap.size))):Sxn P w R x e t { d with poly:=l } (X.setCell ⟨w.heap.size,0,none⟩ x):=by
 have hg:=aI X w.heap.size 0 x;have k:=h.sta.row (fun j hj=>hj.2.2) hg;have hx2:=hx.rowFar hg (ho.mono fun j hj e=>hj.2.2 (JC e));have hz:(X.setCell ⟨w.heap.size,0,none⟩ x).heap.size=X.heap.size:=by simp[World.setCell]
 exact⟨Blk.set_ h.box 0 x,Blk.far h.out (by show R≠w.heap.size;have:=h.siz.1;omega) x,h.bel.setCell (Jr _) x,⟨h.siz.1,by rw[hz];exact h.siz.2⟩,⟨⟨hx2,ho⟩,k.2⟩,fun j hj=>h.new j (by rwa[hz] at hj)⟩
theorem Sxn.polyO {P:Nat→Prop} {w:World} {R:Nat} {p e t x:Value} {d:ae} {l:List Int} {X Y:World} (h:Sxn P w R p e t d X) (hx:Own Y X.heap.size x l):ia x l (fun j=>P j∧(j≠R∧j≠w.heap.size)):=hx.offI.mono fun j hj=>h.new j hj
theorem Sxn.engO {P:Nat→Prop} {w:World} {R:Nat} {p e t x:Value} {d:ae} {l:List ByteArray} {X Y:World} (h:Sxn P w R p e t d X) (hx:aj Y X.heap.size x l):Off x l (fun j=>P j∧(j≠R∧j≠w.heap.size)):=hx.off.mono fun j hj=>h.new j hj
theorem Sxn.tab {P:Nat→Prop} {w:World} {R:Nat} {p e t x:Value} {d:ae} {l:List Int} {X:World} (h:Sxn P w R p e t d X) (hx:ai X x l) (ho:ia x l (fun j=>P j∧(j≠R∧j≠w.heap.size))):Sxn P w R p e x { d with tab:=l } (X.setCell ⟨w.heap.size,2,none⟩ x):=by
 have hg:=aI X w.heap.size 2 x;have k:=h.sta.row (fun j hj=>hj.2.2) hg;have hx2:=hx.rowFar hg (ho.mono fun j hj e=>hj.2.2 (JC e));have hz:(X.setCell ⟨w.heap.size,2,none⟩ x).heap.size=X.heap.size:=by simp[World.setCell]
 exact⟨Blk.set_ h.box 2 x,Blk.far h.out (by show R≠w.heap.size;have:=h.siz.1;omega) x,h.bel.setCell (Jr _) x,⟨h.siz.1,by rw[hz];exact h.siz.2⟩,⟨k.1,k.2.1,hx2,ho⟩,fun j hj=>h.new j (by rwa[hz] at hj)⟩
theorem Sxn.tabO {P:Nat→Prop} {w:World} {R:Nat} {p e t x:Value} {d:ae} {l:List Int} {X Y:World} (h:Sxn P w R p e t d X) (hx:Own Y X.heap.size x l):ia x l (fun j=>P j∧(j≠R∧j≠w.heap.size)):=hx.offI.mono fun j hj=>h.new j hj
theorem Sxn.lay {P:Nat→Prop} {w:World} {R:Nat} {p e t:Value} {d:ae} {X:World} (h:Sxn P w R p e t d X) (a b c:Nat):Sxn P w R p e t { d with rw:=a,ac:=b,wi:=c } (((X.setCell ⟨w.heap.size,3,none⟩ (.int .i64 a)).setCell ⟨w.heap.size,4,none⟩ (.int .i64 b)).setCell ⟨w.heap.size,5,none⟩ (.int .i64 c)):=by
 have hg:=ay (ay (aI X w.heap.size 3 (.int .i64 a)) (aI _ w.heap.size 4 (.int .i64 b))) (aI _ w.heap.size 5 (.int .i64 c));have k:=h.sta.row (fun j hj=>hj.2.2) hg;have hz:(((X.setCell ⟨w.heap.size,3,none⟩ (.int .i64 a)).setCell ⟨w.heap.size,4,none⟩ (.int .i64 b)).setCell ⟨w.heap.size,5,none⟩ (.int .i64 c)).heap.size=X.heap.size:=by simp[World.setCell]
 have hne:R≠w.heap.size:=by have:=h.siz.1;omega
 exact⟨((Blk.set_ h.box 3 _).set_ 4 _).set_ 5 _,((Blk.far h.out (p:=⟨w.heap.size,3,none⟩) hne _).far (p:=⟨w.heap.size,4,none⟩) hne _).far (p:=⟨w.heap.size,5,none⟩) hne _,((h.bel.setCell (p:=⟨w.heap.size,3,none⟩) (Jr _) _).setCell (p:=⟨w.heap.size,4,none⟩) (Jr _) _).setCell (p:=⟨w.heap.size,5,none⟩) (Jr _) _,⟨h.siz.1,by rw[hz];exact h.siz.2⟩,k,fun j hj=>h.new j (by rwa[hz] at hj)⟩
theorem dD (k:Bool) (s:ByteArray) (w:World) (hs:s.size≤1000000000):
  Calls prog 29 #[.bool k,.string s,.string ⟨#[110,111]⟩] w fun e w'=>e=.returned (.string (ak s k))∧w=w':=by
 have hc:¬ 9223372036854775807<s.size+1:=by omega
 cases k
 ·go_enter func29,ntmps29
  go_wp2;go_ret;exact⟨rfl,rfl⟩
 ·go_enter func29,ntmps29
  go_wp2;go_ret;exact⟨rfl,rfl⟩
theorem my (P:Nat→Prop) (v x:Value) (d:ae) (l:List Int) (k:Bool) (w:World) (hs:SxR P w v d) (hx:ai w x l) (hxo:ia x l P) (hl:l.length≤1048576) (hn:SxN P w):
  Calls prog 42 #[v,x,.bool k] w (SxQ P w (ak (aw l) (k&&ag l),aR d l k)):=by
 have HX:=Jj hx;have HXO:=Jj (show ia x l (fun j=>P j∧(j≠w.heap.size+1∧j≠w.heap.size)) from fun a n c e hl=>by have h1:=hx.offI a n c e hl;exact⟨hxo a n c e hl,by omega,by omega⟩);have hns:=bM hx.2;obtain⟨A,c,rfl,-,-,-⟩:=hx.open_;clear hx hxo;obtain⟨p,e,t,rfl,hs0⟩:=hs.s;obtain⟨Ap,cp,rfl,-,-,-⟩:=hs0.1.1.open_;obtain⟨Ae,ce,rfl,-,-,-⟩:=hs0.2.1.1.open_;obtain⟨At,ct,rfl,-,-,-⟩:=hs0.2.2.1.open_;have HS:=Jj (Sxn.first hs0 hn);have HSAME:=Jj (SxS.same hs0 hn);obtain⟨c0,c1,c2,c3,c4,c5⟩:=HS.out.box.cells;obtain⟨f0,f1,f2,f3,f4,f5⟩:=HS.out.out.frz;obtain⟨z0,z1,z2,z3,z4,z5⟩:=HS.out.out.cells;obtain⟨r,hr⟩:∃r:ByteArray×ae,(ak (aw l) (k&&ag l),aR d l k)=r:=⟨_,rfl⟩;have HRR:=Jj hr;rw[hr];clear hs hs0 hn hr;cases k
 ·go_enter func42,ntmps42
  go_wp2;obtain⟨kk,ss,bb⟩:=HSAME.out;generalize World.alloc _ _=w9 at kk ss bb ⊢;obtain⟨x0,x1,x2,x3,x4,x5⟩:=kk.cells;refine bodyPost_ret (v:=.tuple #[.agg #[(.slice Ap d.poly.length cp),(.slice Ae d.eng.length ce),(.slice At d.tab.length ct),.int .i64 d.rw,.int .i64 d.ac,.int .i64 d.wi],.string ⟨#[110,111,10]⟩]) (by simp[results,results42,go_sem,x0,x1,x2,x3,x4,x5]) rfl ?_;rw[show r=(⟨#[110,111,10]⟩,d) from HRR.out.symm.trans (rfl)];exact⟨_,rfl,ss,bb⟩
 ·go_enter func42,ntmps42
  go_wp2_with fail
  generalize hW:World.alloc _ _=W at HS c0 c1 c2 c3 c4 c5 f0 f1 f2 f3 f4 f5 z0 z1 z2 z3 z4 z5 ⊢;clear hW;refine(az _ l _ (HX.out.bel HS.out.bel)).mono ?_;rintro e2 w2 ⟨rfl,rfl⟩;cases hq:ag l
  ·have HQ:=Jj hq;clear hq;go_wp2;obtain⟨kk,ss,bb⟩:=HS.out.done HS.out.sta;generalize World.setCell _ _ _=w9 at kk ss bb ⊢;obtain⟨x0,x1,x2,x3,x4,x5⟩:=kk.cells;refine bodyPost_ret (v:=.tuple #[.agg #[(.slice Ap d.poly.length cp),(.slice Ae d.eng.length ce),(.slice At d.tab.length ct),.int .i64 d.rw,.int .i64 d.ac,.int .i64 d.wi],.string ⟨#[110,111,10]⟩]) (by simp[results,results42,go_sem,x0,x1,x2,x3,x4,x5]) rfl ?_;rw[show r=(⟨#[110,111,10]⟩,d) from HRR.out.symm.trans (by unfold aR;rw[HQ.out];rfl)];exact⟨_,rfl,ss,bb⟩
  ·have HQ:=Jj hq;have HT:=Jj (HS.out.tab (HX.out.bel HS.out.bel) HXO.out);obtain⟨g0,g1,g2,g3,g4,g5⟩:=HS.out.box.frz;have HX2:=Jj (show ai (W.setCell ⟨w.heap.size,2,none⟩ (.slice A l.length c)) (.slice A l.length c) l from HT.out.sta.2.2.1);clear hq
   go_wp2_with fail
   generalize hW3:W.setCell ⟨w.heap.size,2,none⟩ (.slice A l.length c)=W3 at HT HX2 ⊢;clear hW3 c0 c1 c2 c3 c4 c5 f0 f1 f2 f3 f4 f5 g0 g1 g2 g3 g4 g5 z0 z1 z2 z3 z4 z5;obtain⟨c0,c1,c2,c3,c4,c5⟩:=HT.out.box.cells;have tok1:True:=trivial;have hcat:¬ 9223372036854775807<(aw l).size+1:=by omega
   go_wp2_with fail
   go_region_law (first
    |((try go_simp);go_at_call 35;have _t:=tok1;go_loud (refine(cW _ l _ (by first|exact HX2.out|exact HX2.out.bel (ah _)) hl).mono ?_;rintro e3 w3 ⟨rfl,b3⟩;replace b3:Below W3.heap.size W3 w3:=(by first|exact b3|exact aa (ah _) b3);have HT3:=Jj (HT.out.next b3);obtain⟨y0,y1,y2,y3,y4,y5⟩:=HT3.out.box.cells;obtain⟨f0,f1,f2,f3,f4,f5⟩:=HT3.out.out.frz;obtain⟨z0,z1,z2,z3,z4,z5⟩:=HT3.out.out.cells;clear tok1 b3;(try dsimp only)))
    |fail)
   all_goals
    go_wp2;obtain⟨kk,ss,bb⟩:=HT3.out.done HT3.out.sta;generalize World.setCell _ _ _=w9 at kk ss bb ⊢;obtain⟨x0,x1,x2,x3,x4,x5⟩:=kk.cells;refine bodyPost_ret (v:=.tuple #[.agg #[(.slice Ap d.poly.length cp),(.slice Ae d.eng.length ce),(.slice A l.length c),.int .i64 { d with tab:=l }.rw,.int .i64 { d with tab:=l }.ac,.int .i64 { d with tab:=l }.wi],.string (aw l++⟨#[10]⟩)]) (by simp[results,results42,go_sem,x0,x1,x2,x3,x4,x5]) rfl ?_;rw[show r=(aw l++⟨#[10]⟩,{ d with tab:=l }) from HRR.out.symm.trans (by unfold aR;rw[HQ.out];rfl)];exact⟨_,rfl,ss,bb⟩
theorem Sxn.first2 {P:Nat→Prop} {w:World} {p e t x:Value} {d:ae} (hs:SxS P w p e t d) (hn:SxN P w):
  Sxn P w (w.heap.size+1+1) p e t d (((w.alloc (.cells #[p,e,t,.int .i64 d.rw,.int .i64 d.ac,.int .i64 d.wi] 34)).alloc (.cells #[x] 32)).alloc (.cells #[.slice none 0 0,.slice none 0 0,.slice none 0 0,.int .i64 0,.int .i64 0,.int .i64 0] 34))∧Blk (((w.alloc (.cells #[p,e,t,.int .i64 d.rw,.int .i64 d.ac,.int .i64 d.wi] 34)).alloc (.cells #[x] 32)).alloc (.cells #[.slice none 0 0,.slice none 0 0,.slice none 0 0,.int .i64 0,.int .i64 0,.int .i64 0] 34)) (w.heap.size+1) 32 [x]:=by
 have h3:Below w.heap.size w (((w.alloc (.cells #[p,e,t,.int .i64 d.rw,.int .i64 d.ac,.int .i64 d.wi] 34)).alloc (.cells #[x] 32)).alloc (.cells #[.slice none 0 0,.slice none 0 0,.slice none 0 0,.int .i64 0,.int .i64 0,.int .i64 0] 34)):=((ab w _).alloc (by simp) _).alloc (by simp;omega) _;have h2:=Blk.new ((w.alloc (.cells #[p,e,t,.int .i64 d.rw,.int .i64 d.ac,.int .i64 d.wi] 34)).alloc (.cells #[x] 32)) 34 [.slice none 0 0,.slice none 0 0,.slice none 0 0,.int .i64 0,.int .i64 0,.int .i64 0];have h1:=(Blk.new (w.alloc (.cells #[p,e,t,.int .i64 d.rw,.int .i64 d.ac,.int .i64 d.wi] 34)) 32 [x]).alloc (.cells #[.slice none 0 0,.slice none 0 0,.slice none 0 0,.int .i64 0,.int .i64 0,.int .i64 0] 34);rw[JD,JD] at h2;rw[JD] at h1;have hz:w.heap.size+3≤(((w.alloc (.cells #[p,e,t,.int .i64 d.rw,.int .i64 d.ac,.int .i64 d.wi] 34)).alloc (.cells #[x] 32)).alloc (.cells #[.slice none 0 0,.slice none 0 0,.slice none 0 0,.int .i64 0,.int .i64 0,.int .i64 0] 34)).heap.size:=by simp
 exact⟨⟨((Blk.new w 34 [p,e,t,.int .i64 d.rw,.int .i64 d.ac,.int .i64 d.wi]).alloc _).alloc _,h2,h3,⟨by omega,hz⟩,(hs.old.mono fun j hj=>⟨hj.1,by omega,by omega⟩).bel h3,fun j hj=>⟨hn j (by omega),by omega,by omega⟩⟩,h1⟩
theorem SxS.same2 {P:Nat→Prop} {w:World} {p e t:Value} {d:ae} (x:Value) (hs:SxS P w p e t d) (hn:SxN P w):
  SxB (((w.alloc (.cells #[p,e,t,.int .i64 d.rw,.int .i64 d.ac,.int .i64 d.wi] 34)).alloc (.cells #[x] 32)).alloc (.cells #[p,e,t,.int .i64 d.rw,.int .i64 d.ac,.int .i64 d.wi] 34)) (w.heap.size+1+1) p e t d∧SxR P (((w.alloc (.cells #[p,e,t,.int .i64 d.rw,.int .i64 d.ac,.int .i64 d.wi] 34)).alloc (.cells #[x] 32)).alloc (.cells #[p,e,t,.int .i64 d.rw,.int .i64 d.ac,.int .i64 d.wi] 34)) (.agg #[p,e,t,.int .i64 d.rw,.int .i64 d.ac,.int .i64 d.wi]) d∧Below w.heap.size w (((w.alloc (.cells #[p,e,t,.int .i64 d.rw,.int .i64 d.ac,.int .i64 d.wi] 34)).alloc (.cells #[x] 32)).alloc (.cells #[p,e,t,.int .i64 d.rw,.int .i64 d.ac,.int .i64 d.wi] 34)):=by
 have h3:Below w.heap.size w (((w.alloc (.cells #[p,e,t,.int .i64 d.rw,.int .i64 d.ac,.int .i64 d.wi] 34)).alloc (.cells #[x] 32)).alloc (.cells #[p,e,t,.int .i64 d.rw,.int .i64 d.ac,.int .i64 d.wi] 34)):=((ab w _).alloc (by simp) _).alloc (by simp;omega) _;have h2:=Blk.new ((w.alloc (.cells #[p,e,t,.int .i64 d.rw,.int .i64 d.ac,.int .i64 d.wi] 34)).alloc (.cells #[x] 32)) 34 [p,e,t,.int .i64 d.rw,.int .i64 d.ac,.int .i64 d.wi];rw[JD,JD] at h2;exact⟨h2,(hs.bel h3).r,h3⟩
theorem lF (P:Nat→Prop) (v x:Value) (d:ae) (l:List ByteArray) (k:Bool) (w:World) (hs:SxR P w v d) (hx:aG w x l) (hxo:Off x l P) (hn:SxN P w):
  Calls prog 23 #[v,.agg #[x],.bool k] w (SxQ P w (ak (bD l) k,bd d l k)):=by
 have HX:=Jj hx;have HXO:=Jj (show Off x l (fun j=>P j∧(j≠w.heap.size+1+1∧j≠w.heap.size)) from fun a n c e hl=>by have h1:=hx.off a n c e hl;exact⟨hxo a n c e hl,by omega,by omega⟩);have hns:=eH l;have HXP:=Jj hxo;obtain⟨A,c,rfl,-,-,-⟩:=hx.open_;clear hx hxo;obtain⟨p,e,t,rfl,hs0⟩:=hs.s;obtain⟨Ap,cp,rfl,-,-,-⟩:=hs0.1.1.open_;obtain⟨Ae,ce,rfl,-,-,-⟩:=hs0.2.1.1.open_;obtain⟨At,ct,rfl,-,-,-⟩:=hs0.2.2.1.open_;have HN:=Jj hn;have HS0:=Jj hs0;have HSX:=Jj (show SxS P w (.slice Ap d.poly.length cp) (.slice A l.length c) (.slice At d.tab.length ct) { d with eng:=l } from⟨hs0.1,⟨HX.out,HXP.out⟩,hs0.2.2⟩);obtain⟨r,hr⟩:∃r:ByteArray×ae,(ak (bD l) k,bd d l k)=r:=⟨_,rfl⟩;have HRR:=Jj hr;rw[hr];clear hs hs0 hn hr;cases k
 ·obtain⟨hs1,hs2⟩:=Sxn.first2 (x:=.slice A l.length c) HS0.out HN.out;obtain⟨c0,c1,c2,c3,c4,c5⟩:=hs1.box.cells;obtain⟨kk,ss,bb⟩:=SxS.same2 (.slice A l.length c) HS0.out HN.out;have HSAME:=Jj (Jq kk (Jq ss bb));clear hs1 hs2 kk ss bb
  go_enter func23,ntmps23
  go_wp2;obtain⟨kk,ss,bb⟩:=HSAME.out;generalize World.alloc _ _=w9 at kk ss bb ⊢;obtain⟨x0,x1,x2,x3,x4,x5⟩:=kk.cells;refine bodyPost_ret (v:=.tuple #[.agg #[(.slice Ap d.poly.length cp),(.slice Ae d.eng.length ce),(.slice At d.tab.length ct),.int .i64 d.rw,.int .i64 d.ac,.int .i64 d.wi],.string ⟨#[110,111,10]⟩]) (by simp[results,results23,go_sem,x0,x1,x2,x3,x4,x5]) rfl ?_;rw[show r=(⟨#[110,111,10]⟩,d) from HRR.out.symm.trans (rfl)];exact⟨_,rfl,ss,bb⟩
 ·obtain⟨hs1,hs2⟩:=Sxn.first2 (x:=.slice A l.length c) HS0.out HN.out;obtain⟨c0,c1,c2,c3,c4,c5⟩:=hs1.box.cells;obtain⟨g0,g1,g2,g3,g4,g5⟩:=hs1.box.frz;obtain⟨u0,-⟩:=hs2.one;obtain⟨ht1,ht2⟩:=Sxn.first2 (x:=.slice A l.length c) HSX.out HN.out;have HT:=Jj ht1;have HU:=Jj ht2;clear hs1 hs2 ht1 ht2
  go_enter func23,ntmps23
  go_wp2_with fail
  generalize hW3:(((w.alloc (.cells #[.slice Ap d.poly.length cp,.slice A l.length c,.slice At d.tab.length ct,.int .i64 d.rw,.int .i64 d.ac,.int .i64 d.wi] 34)).alloc (.cells #[.slice A l.length c] 32)).alloc (.cells #[.slice none 0 0,.slice none 0 0,.slice none 0 0,.int .i64 0,.int .i64 0,.int .i64 0] 34))=W3 at HT HU ⊢;clear hW3 c0 c1 c2 c3 c4 c5 g0 g1 g2 g3 g4 g5 u0;obtain⟨c0,c1,c2,c3,c4,c5⟩:=HT.out.box.cells;obtain⟨u0,-⟩:=HU.out.one;have tok1:True:=trivial;have hcat:¬ 9223372036854775807<(bD l).size+1:=by omega
  have HX2:=Jj (HX.out.bel HT.out.bel)
  go_region_law (first
    |((try go_simp);go_at_call 64;have _t:=tok1;go_loud (refine(r9 _ l _ (by first|exact HX2.out|exact HX2.out.bel (ah _))).mono ?_;rintro e3 w3 ⟨rfl,b3⟩;replace b3:Below W3.heap.size W3 w3:=(by first|exact b3|exact aa (ah _) b3);have HT3:=Jj (HT.out.next b3);obtain⟨y0,y1,y2,y3,y4,y5⟩:=HT3.out.box.cells;obtain⟨f0,f1,f2,f3,f4,f5⟩:=HT3.out.out.frz;obtain⟨z0,z1,z2,z3,z4,z5⟩:=HT3.out.out.cells;clear tok1 b3;(try dsimp only)))
    |fail)
  all_goals
    go_wp2;obtain⟨kk,ss,bb⟩:=HT3.out.done HT3.out.sta;generalize World.setCell _ _ _=w9 at kk ss bb ⊢;obtain⟨x0,x1,x2,x3,x4,x5⟩:=kk.cells;refine bodyPost_ret (v:=.tuple #[.agg #[(.slice Ap d.poly.length cp),(.slice A l.length c),(.slice At d.tab.length ct),.int .i64 { d with eng:=l }.rw,.int .i64 { d with eng:=l }.ac,.int .i64 { d with eng:=l }.wi],.string (bD l++⟨#[10]⟩)]) (by simp[results,results23,go_sem,x0,x1,x2,x3,x4,x5]) rfl ?_;rw[show r=(bD l++⟨#[10]⟩,{ d with eng:=l }) from HRR.out.symm.trans (rfl)];exact⟨_,rfl,ss,bb⟩
theorem zV (v:Value) (l:List ByteArray) (w:World) (hv:aG w v l):
  Calls prog 112 #[.agg #[v]] w (cK w (rdL l) (kA l)):=by
 have HV:=Jj hv;obtain⟨A,c,rfl,-,-,hrd⟩:=hv.open_;have HR:=Jj hrd;clear hv hrd;have B0:=Jj (show Below w.heap.size w (w.alloc (.cells #[.slice A l.length c] 32)) from ab w _);have K0:=Blk.new' w 32 (.slice A l.length c) w.heap.size rfl;obtain⟨c0,-⟩:=K0.one
 go_enter func112,ntmps112
 go_wp2_with fail
 clear c0;generalize hW:w.alloc (.cells #[.slice A l.length c] 32)=W at *;clear hW;refine(bF _ l _ (HV.out.bel B0.out)).mono ?_;rintro e w2 ⟨rfl,hb⟩;replace K0:=K0.below hb K0.lt;have HB:=Jj (aa B0.out hb);have hz:=HB.out.size;clear hb;cases he:af l
 ·have HN:=Jj (F5 he);clear he;go_wp2;go_ret2;exact⟨_,by rw[HN.out.1];rfl,by rw[HN.out.2];exact Own.nil_ _ _,HB.out⟩
 ·have HY:=Jj (Dt he);obtain⟨l1,l7,hcol⟩:=ap.1 he;have HC:=Jj hcol;obtain⟨b,o,rfl,hbb,hcell⟩:=HR.out.strs (by omega);have HCL:=Jj (Jq hbb hcell);have hmk:=fun W=>Tryz.mkInts l.length (by omega) W;have BZ:=ab w2 (.cells (bz l.length (.int .i64 0)).toArray 3);have KZ:=Blk.new w2 3 (bz l.length (.int .i64 0));have K1:=K0.below BZ K0.lt;have HBZ:=Jj (aa HB.out BZ);obtain⟨c0,-⟩:=K0.one;obtain⟨c1,-⟩:=K1.one;clear he hcol hcell hbb
  go_wp2_with fail
  generalize hW3:w2.alloc (.cells (bz l.length (.int .i64 0)).toArray 3)=W3 at *;clear hW3 c1 hmk
  go_loopw [17] (fun i wr=>∃(k:Nat) (cs:List Value),k≤l.length∧i=.int .i64 k∧Blk wr w2.heap.size 3 cs∧cs.length=l.length∧(∀j,j<k→cs[j]?=some (.int .i64 (sg (sat l j))))∧Below w.heap.size w wr) (fun i _=>l.length-(intOf i).toNat)
  case atStart=>exact⟨0,_,Jy _,rfl,KZ,bi _ _,fun j hj=>absurd hj (by omega),HBZ.out⟩
  case round=>
   obtain⟨k,cs,hk,rfl,hblk,hcl,hcs,hb⟩:=hrel;have HO:=Jj (Jq hcl (Jq hcs hb));have HBK:=Jj hblk;by_cases hlt:k<l.length
   ·have hck:=(hb.cell (by exact HCL.out.1)).trans (HCL.out.2 k hlt);have hcol:=(HC.out k hlt).1;have hfw:=hblk.frozen k;have c3:wr.cell? ⟨w2.heap.size,k,none⟩=some (cs[k]'(by rw[HO.out.1];exact hlt)):=by rw[hblk.cell];exact List.getElem?_eq_getElem _
    clear hb hblk hcl hcs
    go_wp2_with fail
    refine(lM _ _ hcol).mono ?_;rintro e w3 ⟨rfl,rfl⟩;go_wp2;go_roundw
    case rel=>exact⟨k+1,_,by omega,by go_num,HBK.out.set_ k _,by rw[List.length_set];exact HO.out.1,fun j hj=>by
     by_cases e:j=k
     ·subst e;rw[List.getElem?_set_self (by rw[HO.out.1];exact hlt)]
     ·rw[List.getElem?_set_ne (by omega)];exact HO.out.2.1 j (by omega),HO.out.2.2.setCell (p:=⟨w2.heap.size,k,none⟩) hz _⟩
    case measure=>simp[intOf];omega
   ·obtain rfl:k=l.length:=by omega
    have OW:=Jj (show Own wr w2.heap.size (.slice (some ⟨w2.heap.size,0,none⟩) l.length l.length) (oo l l.length) from jt (f:=fun j=>sg (sat l j)) (Jr _) HBK.out HO.out.1 (by omega) HO.out.2.1 (fun j hj=>by have:=oq (HC.out j hj).1;omega));have hwl:=qw l l.length;have HS:=Jj (wW l);obtain⟨M,hM⟩:∃M,oo l l.length=M:=⟨_,rfl⟩;rw[hM] at OW hwl HS;obtain⟨N,hN⟩:∃N,l.length=N:=⟨_,rfl⟩;have HIN:=Jj (show ai wr (.slice (some ⟨w2.heap.size,0,none⟩) M.length l.length) M by rw[hwl];exact OW.out.ints);rw[←HS.out] at HY;have HM:=Jj hwl;clear hb hblk hcl hcs hM hN hwl
    go_wp2_with fail
    refine(show Calls prog 177 #[.slice (some ⟨w2.heap.size,0,none⟩) l.length l.length] wr _ from by have:=gF _ M wr HIN.out;rw[HM.out] at this;exact this).mono ?_;rintro e w4 ⟨rfl,rfl⟩;have HF:=Jj (show Own wr w.heap.size (nF M (.slice (some ⟨w2.heap.size,0,none⟩) l.length l.length)) (gS M) from(OW.out.lower hz).chk);go_wp2;go_ret2;exact⟨_,by rw[HY.out.1];rfl,by rw[HY.out.2];exact HF.out,HO.out.2.2⟩
theorem zC (s:ByteArray) (w:World) (hs:s.size≤1048576):
  Calls prog 222 #[.string s] w fun e w'=>e=.returned (.string s)∧Below w.heap.size w w':=by
 go_enter func222,ntmps222
 go_wp2_with fail
 refine(Tryz.stringslite_Clone s w (by omega)).mono ?_;rintro e w2 ⟨rfl,b⟩;have HB:=Jj b;clear b;go_wp2;go_ret;exact⟨rfl,HB.out⟩
theorem xP (t:ByteArray) (w:World) (ht:t.size≤1048576) (hg:Glb w):
  Calls prog 136 #[.string t] w (cj w (peE t) (af (aq 32 t))):=by
 have B0:=ab w (.cells #[.slice none 0 0] 32);have K0:=Blk.new' w 32 (.slice none 0 0) w.heap.size rfl;have HG:=Jj (hg.bel B0);clear hg
 go_enter func136,ntmps136
 go_wp2_with fail
 generalize hW:w.alloc (.cells #[.slice none 0 0] 32)=W at *;have hWz:W.heap.size=w.heap.size+1:=by rw[←hW];simp
 clear hW;refine(zC t _ ht).mono ?_;rintro e w0 ⟨rfl,b0⟩;replace K0:=K0.below b0 K0.lt;have HG0:=Jj (HG.out.bel b0);have HB0:=Jj (aa B0 b0);have hz0:=b0.size;clear b0 B0
 go_wp2_with fail
 refine(mD t 32 _ ht HG0.out).mono ?_;rintro e w1 ⟨A,rfl,o1,b1⟩;have HPE:=Jj (show peE t=bw (fun x=>x) (aq 32 t) from rfl);obtain⟨L,hL⟩:∃L,aq 32 t=L:=⟨_,rfl⟩;have HOK:=Jj (show af (aq 32 t)=af L by rw[hL]);rw[hL] at o1 HPE ⊢;clear hL;have ba:Below w1.heap.size w1 (w1.alloc (.cells #[.slice A L.length L.length] 32)):=ab w1 _;have K1:=Blk.new' w1 32 (.slice A L.length L.length) _ rfl;have K2:=(K0.below b1 K0.lt).below ba (by have:=b1.size;have:=K0.lt;omega);have HO:=Jj (Jq ((o1.bel ba).lower (base':=w.heap.size+1) (by omega)) (aa (aa HB0.out b1) ba));clear o1 b1 K0;obtain⟨c1,-⟩:=K1.one
 go_wp2_with fail
 generalize hW3:w1.alloc (.cells #[.slice A L.length L.length] 32)=W3 at *;clear hW3 ba;refine(bF _ L _ HO.out.1.strs).mono ?_;rintro e w2 ⟨rfl,b2⟩;replace K1:=K1.below b2 K1.lt;replace K2:=K2.below b2 K2.lt;have HP:=Jj (Jq (HO.out.1.bel b2) (aa HO.out.2 b2));obtain⟨y1,-⟩:=K1.one;obtain⟨y2,g2⟩:=K2.one;clear b2 c1;cases he:af L
 ·have HN:=Jj (Jq (HPE.out.trans (jr he)) he);clear he;go_wp2;rw[HN.out.1,HOK.out,HN.out.2];refine bodyPost_ret (v:=.tuple #[.agg #[.slice none 0 0],.bool false]) (by simp[results,results136,go_sem,y2]) rfl ⟨.slice none 0 0,rfl,aj.nil_ _ _,HP.out.2.setCell (Jr _) _⟩
 ·have HY:=Jj (Jq (HPE.out.trans (dO he)) he);clear he;generalize hp:L.length=p at *;clear hp;go_wp2;rw[HY.out.1,HOK.out,HY.out.2];refine bodyPost_ret (v:=.tuple #[.agg #[.slice A p p],.bool true]) (by simp[results,results136,go_sem,y2]) rfl ⟨_,rfl,(HP.out.1.setCell _ _ (by simp)).lower (by omega),HP.out.2.setCell (Jr _) _⟩
theorem Bv (d:ae):fZ kQ d (ak (bD (gY d.eng)) (af d.eng)) (bd d (gY d.eng) (af d.eng)):=by
 intro b w hd hg;have HD:=Jj hd;have HG:=Jj hg;obtain⟨p,en,t,k0,-,k2,-⟩:=hd;have HE:=Jj k2.strs;obtain⟨A,c,rfl,-,-,-⟩:=k2.strs.open_;obtain⟨c0,c1,c2,c3,c4,c5⟩:=k0.desk;clear hg k0 k2;unfold kQ
 go_enter func54,ntmps54
 go_wp2_with fail
 refine(oL _ d.eng w HE.out).mono ?_;rintro e w2 ⟨r,rfl,o,b2⟩;have HB:=Jj b2;have HO:=Jj o.low;clear o b2 c0 c1 c2 c3 c4 c5
 go_wp2_with fail
 refine(fw b d r (gY d.eng) (af d.eng) w2 (HD.out.bel HB.out) HO.out (HG.out.bel HB.out)).mono ?_;rintro e w3 ⟨rfl,h2,h3⟩;have HF:=Jj (Jq h2 h3);clear h2 h3;go_wp2;go_ret;exact⟨rfl,HF.out.1,ay (aB _ HB.out) HF.out.2⟩
theorem Bs (d:ae):fZ kN d (ak (bD (bw aY d.eng)) (af d.eng)) (bd d (bw aY d.eng) (af d.eng)):=by
 intro b w hd hg;have HD:=Jj hd;have HG:=Jj hg;obtain⟨p,en,t,k0,-,k2,-⟩:=hd;have HE:=Jj k2.strs;obtain⟨A,c,rfl,-,-,-⟩:=k2.strs.open_;obtain⟨c0,c1,c2,c3,c4,c5⟩:=k0.desk;clear hg k0 k2;unfold kN
 go_enter func54,ntmps54
 go_wp2_with fail
 refine(uL _ d.eng w HE.out).mono ?_;rintro e w2 ⟨r,rfl,o,b2⟩;have HB:=Jj b2;have HO:=Jj o.low;clear o b2 c0 c1 c2 c3 c4 c5
 go_wp2_with fail
 refine(fw b d r (bw aY d.eng) (af d.eng) w2 (HD.out.bel HB.out) HO.out (HG.out.bel HB.out)).mono ?_;rintro e w3 ⟨rfl,h2,h3⟩;have HF:=Jj (Jq h2 h3);clear h2 h3;go_wp2;go_ret;exact⟨rfl,HF.out.1,ay (aB _ HB.out) HF.out.2⟩
theorem Bu (d:ae):fZ kP d (ak (bD (bw bY d.eng)) (af d.eng)) (bd d (bw bY d.eng) (af d.eng)):=by
 intro b w hd hg;have HD:=Jj hd;have HG:=Jj hg;obtain⟨p,en,t,k0,-,k2,-⟩:=hd;have HE:=Jj k2.strs;obtain⟨A,c,rfl,-,-,-⟩:=k2.strs.open_;obtain⟨c0,c1,c2,c3,c4,c5⟩:=k0.desk;clear hg k0 k2;unfold kP
 go_enter func54,ntmps54
 go_wp2_with fail
 refine(DJ _ d.eng w HE.out).mono ?_;rintro e w2 ⟨r,rfl,o,b2⟩;have HB:=Jj b2;have HO:=Jj o.low;clear o b2 c0 c1 c2 c3 c4 c5
 go_wp2_with fail
 refine(fw b d r (bw bY d.eng) (af d.eng) w2 (HD.out.bel HB.out) HO.out (HG.out.bel HB.out)).mono ?_;rintro e w3 ⟨rfl,h2,h3⟩;have HF:=Jj (Jq h2 h3);clear h2 h3;go_wp2;go_ret;exact⟨rfl,HF.out.1,ay (aB _ HB.out) HF.out.2⟩
theorem xx (d:ae):fZ gQ d (ak (bD (bw eD d.eng)) (af d.eng)) (bd d (bw eD d.eng) (af d.eng)):=by
 intro b w hd hg;have HD:=Jj hd;have HG:=Jj hg;obtain⟨p,en,t,k0,-,k2,-⟩:=hd;have HE:=Jj k2.strs;obtain⟨A,c,rfl,-,-,-⟩:=k2.strs.open_;obtain⟨c0,c1,c2,c3,c4,c5⟩:=k0.desk;clear hg k0 k2;unfold gQ
 go_enter func54,ntmps54
 go_wp2_with fail
 refine(yH _ d.eng w HE.out).mono ?_;rintro e w2 ⟨r,rfl,o,b2⟩;have HB:=Jj b2;have HO:=Jj o.low;clear o b2 c0 c1 c2 c3 c4 c5
 go_wp2_with fail
 refine(fw b d r (bw eD d.eng) (af d.eng) w2 (HD.out.bel HB.out) HO.out (HG.out.bel HB.out)).mono ?_;rintro e w3 ⟨rfl,h2,h3⟩;have HF:=Jj (Jq h2 h3);clear h2 h3;go_wp2;go_ret;exact⟨rfl,HF.out.1,ay (aB _ HB.out) HF.out.2⟩
theorem xw (d:ae):fZ gN d (ak (bD (bw lB d.eng)) (af d.eng)) (bd d (bw lB d.eng) (af d.eng)):=by
 intro b w hd hg;have HD:=Jj hd;have HG:=Jj hg;obtain⟨p,en,t,k0,-,k2,-⟩:=hd;have HE:=Jj k2.strs;obtain⟨A,c,rfl,-,-,-⟩:=k2.strs.open_;obtain⟨c0,c1,c2,c3,c4,c5⟩:=k0.desk;clear hg k0 k2;unfold gN
 go_enter func54,ntmps54
 go_wp2_with fail
 refine(xJ _ d.eng w HE.out).mono ?_;rintro e w2 ⟨r,rfl,o,b2⟩;have HB:=Jj b2;have HO:=Jj o.low;clear o b2 c0 c1 c2 c3 c4 c5
 go_wp2_with fail
 refine(fw b d r (bw lB d.eng) (af d.eng) w2 (HD.out.bel HB.out) HO.out (HG.out.bel HB.out)).mono ?_;rintro e w3 ⟨rfl,h2,h3⟩;have HF:=Jj (Jq h2 h3);clear h2 h3;go_wp2;go_ret;exact⟨rfl,HF.out.1,ay (aB _ HB.out) HF.out.2⟩
theorem yl (d:ae) (n:Int):cD eV [n] d (ak (bD (tmL d.eng n)) (cC d.eng n)) (bd d (tmL d.eng n) (cC d.eng n)):=by
 intro b v w hv hd hg;have HD:=Jj hd;have HG:=Jj hg;obtain⟨pv,en,t,k0,-,k2,-⟩:=hd;have HP:=Jj k2.strs;obtain⟨A,c,rfl,-,-,-⟩:=k2.strs.open_;obtain⟨g,cn,rfl,hgl,hcn⟩:=eL hv (by simp);have n0:w.cell? ⟨g,0,none⟩=some (.int .i64 n):=hcn 0 (by simp);obtain⟨c0,c1,c2,c3,c4,c5⟩:=k0.desk;clear c0 c2 c3 c4 c5;have tok1:True:=trivial;have tok2:True:=trivial;clear k0 k2 hg hv hcn;unfold eV
 go_enter func56,ntmps56
 go_wp2_with fail
 go_region_law (first
  |(go_simp;go_at_call 121;have _t:=tok1;refine(uM _ d.eng n _ (by first|exact HP.out|exact HP.out.bel (ah _))).mono ?_;rintro e1 w3 ⟨r,rfl,o3,b3⟩;replace b3:Below w.heap.size w w3:=(by first|exact b3|exact aa (ah _) b3);have HB:=Jj b3;have HO:=Jj o3.low;clear tok1 b3 o3 n0 c1)
  |(go_simp;go_at_call 106;have _t:=tok2;refine(fw b d _ (tmL d.eng n) (cC d.eng n) _ (HD.out.bel HB.out) HO.out (HG.out.bel HB.out)).mono ?_;rintro e2 w4 ⟨rfl,d4,g4⟩;have HE:=Jj (Jq d4 g4);clear tok2 d4 g4)
  |fail)
 all_goals
  go_wp2;go_ret;exact⟨rfl,HE.out.1,ay (aB _ HB.out) HE.out.2⟩
theorem qs {l:List Int} (h:Wf l):(ax l).size≤154:=by
 cases hq:av l
 ·rw[mc hq];exact Jy _
 ·rw[fX hq];have h1:=bM h;have h2:=(bf.1 hq).2.1;omega
theorem qv (b:Nat) (d:ae) (v:Value) (l:List Int) (k:Bool) (w:World) (hd:bO w b d) (hv:Own w 0 v l) (hg:dY b w):
  Calls prog 104 #[.pointer (some ⟨b,0,none⟩),v,.bool k] w fun e w'=>jc w b (ak (ax l) k) (dF d l k) e w':=by
 have hfs:=qs hv.ints.2;have HD:=Jj hd;have HV:=Jj hv;have HG:=Jj hg;obtain⟨A,c,rfl,-,-,-⟩:=hv.ints.open_;obtain⟨p,en,t,k0,-,-,-⟩:=hd;have HK:=Jj k0;clear hv hg k0;cases k
 ·go_enter func104,ntmps104
  go_wp2_with fail
  refine(jI _ l _ HV.out.ints HG.out.glb.1).mono ?_;rintro e w2 ⟨rfl,b2⟩;have HB2:=Jj b2;clear b2
  go_wp2_with fail
  refine(cy _ false _ (by omega)).mono ?_;rintro e w3 ⟨rfl,rfl⟩;go_wp2;go_ret;exact⟨rfl,HD.out.bel HB2.out,aB _ HB2.out⟩
 ·obtain⟨f0,f1,f2,f3,f4,f5⟩:=HK.out.deskF;obtain⟨d0,d1,d2,d3,d4,d5⟩:=HK.out.desk;have G2:=Jj (aI w b 0 (.slice A l.length c));have D2:=Jj (HD.out.setPoly HV.out);have V2:=Jj (HD.out.keepOwn HV.out G2.out);have HG2:=Jj (HG.out.grown G2.out)
  go_enter func104,ntmps104
  go_wp2_with fail
  generalize hW:w.setCell ⟨b,0,none⟩ (.slice A l.length c)=w2 at D2 G2 V2 HG2 ⊢;clear hW d0 d1 d2 d3 d4 d5 f0 f1 f2 f3 f4 f5;refine(jI _ l _ V2.out.ints HG2.out.glb.1).mono ?_;rintro e w3 ⟨rfl,b2⟩;have HB2:=Jj b2;clear b2
  go_wp2_with fail
  refine(cy _ true _ (by omega)).mono ?_;rintro e w4 ⟨rfl,rfl⟩;go_wp2;go_ret;exact⟨rfl,D2.out.bel HB2.out,ay G2.out (aB _ HB2.out)⟩
theorem D5 {d:ae} (ok:d.Ok):fZ mW d (ak (ax (itL d.tab)) (eB d.tab)) (dF d (itL d.tab) (eB d.tab)):=by
 intro b w hd hg;have HD:=Jj hd;have HG:=Jj hg;have htl:=ok.tab;obtain⟨p,en,t,k0,-,-,k3⟩:=hd;have HE:=Jj k3.ints;obtain⟨A,c,rfl,-,-,-⟩:=k3.ints.open_;obtain⟨c0,c1,c2,c3,c4,c5⟩:=k0.desk;clear hg k0 k3 ok;unfold mW
 go_enter func54,ntmps54
 go_wp2_with fail
 refine(ry _ d.tab w HE.out (by omega)).mono ?_;rintro e w2 ⟨r,rfl,o,b2⟩;have HB:=Jj b2;have HO:=Jj o.low;clear o b2 c0 c1 c2 c3 c4 c5
 go_wp2_with fail
 refine(qv b d r (itL d.tab) (eB d.tab) w2 (HD.out.bel HB.out) HO.out (HG.out.bel HB.out)).mono ?_;rintro e w3 ⟨rfl,h2,h3⟩;have HF:=Jj (Jq h2 h3);clear h2 h3;go_wp2;go_ret;exact⟨rfl,HF.out.1,ay (aB _ HB.out) HF.out.2⟩
theorem Bt (d:ae):fZ kO d (ak (ax (rdL d.eng)) (kA d.eng)) d:=by
 intro b w hd hg;have HD:=Jj hd;have HG:=Jj hg;obtain⟨p,en,t,k0,-,k2,-⟩:=hd;have HE:=Jj k2.strs;obtain⟨A,c,rfl,-,-,-⟩:=k2.strs.open_;obtain⟨c0,c1,c2,c3,c4,c5⟩:=k0.desk;clear hg k0 k2;unfold kO
 go_enter func54,ntmps54
 go_wp2_with fail
 refine(zV _ d.eng w HE.out).mono ?_;rintro e w2 ⟨r,rfl,o,b2⟩;have HB:=Jj b2;have HO:=Jj o.ints;have hfs:=qs o.ints.2;obtain⟨A2,c2',rfl,-,-,-⟩:=o.ints.open_;clear o b2 c0 c1 c2 c3 c4 c5
 go_wp2_with fail
 refine(jI _ (rdL d.eng) w2 HO.out (HG.out.bel HB.out).glb.1).mono ?_;rintro e w3 ⟨rfl,b3⟩;have HB3:=Jj (aa HB.out b3);clear b3
 go_wp2_with fail
 refine(cy _ (kA d.eng) _ (by omega)).mono ?_;rintro e w4 ⟨rfl,rfl⟩;go_wp2;go_ret;exact⟨rfl,HD.out.bel HB3.out,aB _ HB3.out⟩
theorem xj {d:ae} {t:ByteArray} (ht:t.size≤1000000):jy gL t d (ak (bD (peE t)) (af (aq 32 t))) (bd d (peE t) (af (aq 32 t))):=by
 intro b w hd hg;have HD:=Jj hd;have HG:=Jj hg;clear hd hg;unfold gL
 go_enter func57,ntmps57
 go_wp2_with fail
 refine(xP t w (by omega) HG.out.glb).mono ?_;rintro e w2 ⟨r,rfl,o,b2⟩;have HB:=Jj b2;have HO:=Jj o.low;clear o b2
 go_wp2_with fail
 refine(fw b d r (peE t) (af (aq 32 t)) w2 (HD.out.bel HB.out) HO.out (HG.out.bel HB.out)).mono ?_;rintro e w3 ⟨rfl,h2,h3⟩;have HE:=Jj (Jq h2 h3);clear h2 h3;go_wp2;go_ret;exact⟨rfl,HE.out.1,ay (aB _ HB.out) HE.out.2⟩
theorem xk {d:ae} {t:ByteArray} (ht:t.size≤1000000):jy gP t d (ak (ax (fpL (ppL t))) (cP t&&iO (ppL t))) (dF d (fpL (ppL t)) (cP t&&iO (ppL t))):=by
 intro b w hd hg;have HD:=Jj hd;have HG:=Jj hg;clear hd hg;unfold gP
 go_enter func57,ntmps57
 go_wp2_with fail
 refine(nS t w (by omega) HG.out.glb).mono ?_;rintro e w2 ⟨r,rfl,o,b2⟩;have HB:=Jj b2;have HO:=Jj o.ints;clear o b2;cases hq:cP t
 ·have HQ:=Jj hq;clear hq;go_wp2;go_ret;exact⟨by rw[HQ.out];rfl,by rw[HQ.out];exact HD.out.bel HB.out,aB _ HB.out⟩
 ·have HQ:=Jj hq;clear hq
  go_wp2_with fail
  refine(xO _ (ppL t) w2 HO.out).mono ?_;rintro e w3 ⟨r3,rfl,o3,b3⟩;have HB3:=Jj (aa HB.out b3);have HO3:=Jj o3.low;clear o3 b3
  go_wp2_with fail
  refine(qv b d r3 (fpL (ppL t)) (iO (ppL t)) w3 (HD.out.bel HB3.out) HO3.out (HG.out.bel HB3.out)).mono ?_;rintro e w4 ⟨rfl,h2,h3⟩;have HE:=Jj (Jq h2 h3);clear h2 h3;go_wp2;go_ret;exact⟨by rw[HQ.out];rfl,by rw[HQ.out];exact HE.out.1,ay (aB _ HB3.out) HE.out.2⟩
def zN:ByteArray:=⟨#[102,117,108,108,10]⟩
def Ar:ByteArray:=⟨#[108,111,110,103,10]⟩
def fQ (F:ae→ByteArray→ByteArray×ae) (d:ae) (k:Nat) (T:ByteArray):List ByteArray→ByteArray
 |[]=>T
 |l::r=>if l=⟨#[]⟩ then fQ F d (k+1) T r else if 100≤k∨40000<T.size then T++zN else fQ F (F d l).2 (k+1) (T++(F d l).1) r
theorem fu {F:ae→ByteArray→ByteArray×ae} {d:ae} {k:Nat} {T:ByteArray} {r:List ByteArray}:fQ F d k T (⟨#[]⟩::r)=fQ F d (k+1) T r:=by
 show(if _ then _ else _)=_
 rw[if_pos rfl]
theorem ft {F:ae→ByteArray→ByteArray×ae} {d:ae} {k:Nat} {T l:ByteArray} {r:List ByteArray} (h:l≠⟨#[]⟩) (hf:100≤k∨40000<T.size):fQ F d k T (l::r)=T++zN:=by
 show(if _ then _ else _)=_
 rw[if_neg h,if_pos hf]
theorem iq {F:ae→ByteArray→ByteArray×ae} {d:ae} {k:Nat} {T l:ByteArray} {r:List ByteArray} (h:l≠⟨#[]⟩) (h1:¬ 100≤k) (h2:¬ 40000<T.size):fQ F d k T (l::r)=fQ F (F d l).2 (k+1) (T++(F d l).1) r:=by
 show(if _ then _ else _)=_
 rw[if_neg h,if_neg (fun e=>e.elim h1 h2)]
def fT (F:ae→ByteArray→ByteArray×ae) (t:ByteArray):ByteArray:=if 20000<t.size then Ar else fQ F gV 0 ⟨#[]⟩ (aq 10 t)
theorem s7 (F:ae→ByteArray→ByteArray×ae) (Inv:ae→Prop) (t:ByteArray) (w:World) (hs:t.size≤20000) (hg:GlbC w) (h0:Inv gV)
  (hF:∀d l,Inv d→l.size≤20000→mm l d (F d l).1 (F d l).2∧Inv (F d l).2∧(F d l).1.size≤30000):
  Calls prog 6 #[.string t] w fun e w'=>e=.returned (.string (fQ F gV 0 ⟨#[]⟩ (aq 10 t)))∧Below w.heap.size w w':=by
 have HG:=Jj hg;have HF:=Jj hF;have HI:=Jj h0;clear hg hF h0;have h2:¬(20000:Int)<(t.size:Int):=by omega
 have B1:Below w.heap.size w (w.alloc (.cells #[.int .i64 0] 3)):=ab w _;have B2:Below w.heap.size w ((w.alloc (.cells #[.int .i64 0] 3)).alloc (.cells #[.slice (some ⟨w.heap.size,0,none⟩) 1 1,.slice none 0 0,.slice none 0 0,.int .i64 5,.int .i64 2,.int .i64 8] 41)):=B1.alloc (by simp) _;have B3:Below w.heap.size w (((w.alloc (.cells #[.int .i64 0] 3)).alloc (.cells #[.slice (some ⟨w.heap.size,0,none⟩) 1 1,.slice none 0 0,.slice none 0 0,.int .i64 5,.int .i64 2,.int .i64 8] 41)).alloc (.cells #[.pointer none,.slice none 0 0] 44)):=B2.alloc (by simp;omega) _;have K0:Blk (((w.alloc (.cells #[.int .i64 0] 3)).alloc (.cells #[.slice (some ⟨w.heap.size,0,none⟩) 1 1,.slice none 0 0,.slice none 0 0,.int .i64 5,.int .i64 2,.int .i64 8] 41)).alloc (.cells #[.pointer none,.slice none 0 0] 44)) w.heap.size 3 [.int .i64 0]:=((Blk.new w 3 [.int .i64 0]).alloc _).alloc _;have KD:Blk (((w.alloc (.cells #[.int .i64 0] 3)).alloc (.cells #[.slice (some ⟨w.heap.size,0,none⟩) 1 1,.slice none 0 0,.slice none 0 0,.int .i64 5,.int .i64 2,.int .i64 8] 41)).alloc (.cells #[.pointer none,.slice none 0 0] 44)) (w.heap.size+1) 41 (pU (.slice (some ⟨w.heap.size,0,none⟩) 1 1) (.slice none 0 0) (.slice none 0 0) 5 2 8):=by
  have h:=(Blk.new (w.alloc (.cells #[.int .i64 0] 3)) 41 (pU (.slice (some ⟨w.heap.size,0,none⟩) 1 1) (.slice none 0 0) (.slice none 0 0) 5 2 8)).alloc (.cells #[.pointer none,.slice none 0 0] 44);rw[JD] at h;exact h
 have BN:Bld (((w.alloc (.cells #[.int .i64 0] 3)).alloc (.cells #[.slice (some ⟨w.heap.size,0,none⟩) 1 1,.slice none 0 0,.slice none 0 0,.int .i64 5,.int .i64 2,.int .i64 8] 41)).alloc (.cells #[.pointer none,.slice none 0 0] 44)) (w.heap.size+1+1) ⟨#[]⟩:=by
  have h:=Bld.new ((w.alloc (.cells #[.int .i64 0] 3)).alloc (.cells #[.slice (some ⟨w.heap.size,0,none⟩) 1 1,.slice none 0 0,.slice none 0 0,.int .i64 5,.int .i64 2,.int .i64 8] 41));rw[JD,JD] at h;exact h
 have D0:bO (((w.alloc (.cells #[.int .i64 0] 3)).alloc (.cells #[.slice (some ⟨w.heap.size,0,none⟩) 1 1,.slice none 0 0,.slice none 0 0,.int .i64 5,.int .i64 2,.int .i64 8] 41)).alloc (.cells #[.pointer none,.slice none 0 0] 44)) (w.heap.size+1) gV:=⟨_,_,_,KD,wB K0,aj.nil_ _ _,Own.nil_ _ _⟩;clear B1 B2 K0 KD;have HG0:dY (w.heap.size+1) (((w.alloc (.cells #[.int .i64 0] 3)).alloc (.cells #[.slice (some ⟨w.heap.size,0,none⟩) 1 1,.slice none 0 0,.slice none 0 0,.int .i64 5,.int .i64 2,.int .i64 8] 41)).alloc (.cells #[.pointer none,.slice none 0 0] 44)):=⟨w,HG.out,Nat.le_succ _,B3⟩
 go_enter func6,ntmps6
 go_wp2_with fail
 generalize hW:(((w.alloc (.cells #[.int .i64 0] 3)).alloc (.cells #[.slice (some ⟨w.heap.size,0,none⟩) 1 1,.slice none 0 0,.slice none 0 0,.int .i64 5,.int .i64 2,.int .i64 8] 41)).alloc (.cells #[.pointer none,.slice none 0 0] 44))=w0 at B3 BN D0 HG0 ⊢;clear hW;refine(mD t 10 _ (by omega) HG0.glb).mono ?_;rintro e w1 ⟨A,rfl,o,b⟩;have BN1:=BN.bel b;have D1:=D0.bel b;have HG1:=HG0.bel b;have HB1:=aa B3 b;obtain⟨ls,hls⟩:∃ls,aq 10 t=ls:=⟨_,rfl⟩;have hln:=ff 10 t;rw[hls] at o hln;rw[hls];obtain⟨out,hout⟩:∃out,fQ F gV 0 ⟨#[]⟩ ls=out:=⟨_,rfl⟩;have HOUT:=Jj hout;have HLS:=Jj hls;have HMS:=Jj (show ∀s∈ls,s.size≤t.size from fun s h=>cT (c:=10) (by rw[hls];exact h));have O1:=o.low;have hne2:w.heap.size+1+1≠w.heap.size+1:=by omega
 clear B3 BN D0 HG0 b o hls hout
 go_wp2_with fail
 go_loopw [16] (fun i wr=>∃(k:Nat) (T:ByteArray) (d:ae),k≤ls.length∧i=.int .i64 k∧T.size≤70000∧(fQ F d k T (ls.drop k)=out∧Inv d)∧bO wr (w.heap.size+1) d∧Bld wr (w.heap.size+1+1) T∧aj wr 0 (.slice A ls.length ls.length) ls∧dY (w.heap.size+1) wr∧Below w.heap.size w wr) (fun i _=>ls.length-(intOf i).toNat)
 case atStart=>exact⟨0,⟨#[]⟩,gV,Jy _,rfl,by decide,⟨HOUT.out,HI.out⟩,D1,BN1,O1,HG1,HB1⟩
 case round=>
  obtain⟨k,T,d,hk,rfl,hTR,hRan,hD,hBd,hO,hGB,hB⟩:=hrel;have H:=Jj (Jq hTR (Jq hRan (Jq hD (Jq hBd (Jq hO (Jq hGB hB))))));have hTs:=hTR;have hbl:=hBd.lt;clear hTR hRan hD hBd hO hGB hB D1 BN1 O1 HG1 HB1;by_cases hlt:k<ls.length
  ·obtain⟨A6,c6,e6,-,-,hrd⟩:=H.out.2.2.2.2.1.strs.open_;cases e6;obtain⟨lb,lo,rfl,hbb,hcell⟩:=hrd.strs (Nat.lt_of_le_of_lt (Jy _) hlt);have hck:=hcell k hlt;have hsz:=HMS.out _ (cJ ls k hlt);have hnext:=H.out.2.1;rw[vw hlt] at hnext;obtain⟨Z,hZ⟩:∃Z,sat ls k=Z:=⟨_,rfl⟩;rw[hZ] at hck hsz hnext;have HN:=Jj hnext;clear hcell hrd hZ hnext;cases hq:Z.toList.isEmpty
   ·have hlen:=Lib.byteCells_length T.data.toList;have hlT:T.data.toList.length=T.size:=rfl;rw[hlT] at hlen;by_cases h100:100≤k
    ·have h100i:(100:Int)≤(k:Int):=by omega
     have HE:=Jj (show T++⟨#[102,117,108,108,10]⟩=out from(ft (nx hq) (.inl h100)).symm.trans HN.out.1)
     go_wp2_with fail
     refine(Bld.str (w.heap.size+1+1) T ⟨#[102,117,108,108,10]⟩ _ H.out.2.2.2.1 (by omega) (by decide)).mono ?_;rintro e w4 ⟨rfl,bd4,b4,k4⟩;have W4:=Jj (H.out.2.2.2.2.2.2.trans (b4.mono (by omega)));have hbl4:=bd4.lt;have HBD:=Jj bd4;clear bd4 b4 k4 hck
     go_wp2_with fail
     refine(Tryz.Builder_String_any_k (w.heap.size+1+1) (w.heap.size+1+1) (T++(⟨#[102,117,108,108,10]⟩:ByteArray)).data.toList _ HBD.out (Nat.le_of_lt hbl4)).mono ?_;rw[lQ];rintro e w5 ⟨rfl,-,b5,-⟩;go_wp2;go_ret;exact⟨by rw[HLS.out,HOUT.out,←HE.out];rfl,W4.out.trans (b5.mono (by omega))⟩
    ·have h100i:¬(100:Int)≤(k:Int):=by omega
     by_cases hT4:40000<T.size
     ·have hTi:(40000:Int)<(T.size:Int):=by omega
      have HE:=Jj (show T++⟨#[102,117,108,108,10]⟩=out from(ft (nx hq) (.inr hT4)).symm.trans HN.out.1)
      go_wp2_with fail
      refine(Tryz.Builder_Len_f (w.heap.size+1+1) (w.heap.size+1+1) _ wr H.out.2.2.2.1).mono ?_;rw[hlen];rintro e w2 ⟨rfl,rfl⟩
      go_wp2_with fail
      refine(Bld.str (w.heap.size+1+1) T ⟨#[102,117,108,108,10]⟩ _ H.out.2.2.2.1 (by omega) (by decide)).mono ?_;rintro e w4 ⟨rfl,bd4,b4,k4⟩;have W4:=Jj (H.out.2.2.2.2.2.2.trans (b4.mono (by omega)));have hbl4:=bd4.lt;have HBD:=Jj bd4;clear bd4 b4 k4 hck
      go_wp2_with fail
      refine(Tryz.Builder_String_any_k (w.heap.size+1+1) (w.heap.size+1+1) (T++(⟨#[102,117,108,108,10]⟩:ByteArray)).data.toList _ HBD.out (Nat.le_of_lt hbl4)).mono ?_;rw[lQ];rintro e w5 ⟨rfl,-,b5,-⟩;go_wp2;go_ret;exact⟨by rw[HLS.out,HOUT.out,←HE.out];rfl,W4.out.trans (b5.mono (by omega))⟩
     ·have hTi:¬(40000:Int)<(T.size:Int):=by omega
      go_wp2_with fail
      refine(Tryz.Builder_Len_f (w.heap.size+1+1) (w.heap.size+1+1) _ wr H.out.2.2.2.1).mono ?_;rw[hlen];rintro e w2 ⟨rfl,rfl⟩;have hnx:=iq (F:=F) (d:=d) (k:=k) (T:=T) (r:=ls.drop (k+1)) (nx hq) (by omega) (by omega);obtain⟨hc,hinv,hos⟩:=HF.out d Z H.out.2.1.2 (by omega);obtain⟨o,ho⟩:∃o,(F d Z).1=o:=⟨_,rfl⟩;obtain⟨d2,hd2⟩:∃d2,(F d Z).2=d2:=⟨_,rfl⟩;rw[ho,hd2] at hc hnx;rw[hd2] at hinv;rw[ho] at hos;have HR2:=Jj (Jq hnx hinv);have HC:=Jj hc;have hto:(T++o).size≤70000:=by rw[qe];omega
      have HTO:=Jj hto;clear hc hnx hinv ho hd2 hto hlen
      go_wp2_with fail
      refine(HC.out _ w2 H.out.2.2.1 H.out.2.2.2.2.2.1).mono ?_;rintro e w3 ⟨rfl,d3,g3⟩;have B3:=H.out.2.2.2.1.grw H.out.2.2.1 g3 hne2;have O3:=H.out.2.2.1.keepOwnS H.out.2.2.2.2.1 g3;have G3:=H.out.2.2.2.2.2.1.grown g3;have W3:=H.out.2.2.2.2.2.2.grown g3 H.out.2.2.2.2.2.2.size (fun k hk=>by cases hk;exact Nat.le_succ _);have HX:=Jj (Jq d3 (Jq B3 (Jq O3 (Jq G3 W3))));clear d3 B3 O3 G3 W3 g3 hck
      go_wp2_with fail
      refine(Bld.str (w.heap.size+1+1) T o _ HX.out.2.1 (by omega) (by omega)).mono ?_;rintro e w4 ⟨rfl,bd4,b4,k4⟩;have D4:=HX.out.1.others HX.out.2.1.shape k4;have O4:=HX.out.2.2.1.others HX.out.2.1 k4;have G4:=HX.out.2.2.2.1.from b4 (Nat.le_succ _);have W4:=HX.out.2.2.2.2.trans (b4.mono (by omega));have HY:=Jj (Jq D4 (Jq bd4 (Jq O4 (Jq G4 W4))));clear D4 O4 G4 W4 bd4 b4 k4;go_wp2;go_roundw
      case rel=>exact⟨k+1,T++o,d2,hlt,by go_num,HTO.out,⟨HR2.out.1.symm.trans HN.out.1,HR2.out.2⟩,HY.out.1,HY.out.2.1,HY.out.2.2.1,HY.out.2.2.2.1,HY.out.2.2.2.2⟩
      case measure=>simp[intOf];omega
   ·obtain rfl:=DT hq;go_wp2;go_roundw
    case rel=>exact⟨k+1,T,d,hlt,by go_num,H.out.1,⟨(fu (F:=F) (d:=d) (k:=k) (T:=T) (r:=ls.drop (k+1))).symm.trans HN.out.1,H.out.2.1.2⟩,H.out.2.2.1,H.out.2.2.2.1,H.out.2.2.2.2.1,H.out.2.2.2.2.2.1,H.out.2.2.2.2.2.2⟩
    case measure=>simp[intOf];omega
  ·have hke:k=ls.length:=by omega
   subst hke;have HE:=Jj (show T=out from by
    have h5:=H.out.2.1.1;rw[List.drop_length] at h5;exact h5)
   go_wp2_with fail
   refine(Tryz.Builder_String_any_k (w.heap.size+1+1) (w.heap.size+1+1) T.data.toList _ H.out.2.2.2.1 (Nat.le_of_lt hbl)).mono ?_;rw[lQ];rintro e w5 ⟨rfl,-,b5,-⟩;go_wp2;go_ret;exact⟨by rw[HLS.out,HOUT.out,←HE.out];rfl,H.out.2.2.2.2.2.2.trans (b5.mono (by omega))⟩
theorem ys (t:ByteArray) (w:World) (hs:20000<t.size):Calls prog 6 #[.string t] w fun e w'=>e=.returned (.string Ar)∧Below w.heap.size w w':=by
 have h1:(20000:Int)<(t.size:Int):=by omega
 go_enter func6,ntmps6
 go_wp2;go_ret;exact⟨rfl,Below.refl _ _⟩
theorem s6 (F:ae→ByteArray→ByteArray×ae) (Inv:ae→Prop) (t:ByteArray) (w:World) (hg:GlbC w) (h0:Inv gV)
  (hF:∀d l,Inv d→l.size≤20000→mm l d (F d l).1 (F d l).2∧Inv (F d l).2∧(F d l).1.size≤30000):
  Calls prog 6 #[.string t] w fun e w'=>e=.returned (.string (fT F t))∧Below w.heap.size w w':=by
 unfold fT;by_cases h:20000<t.size
 ·rw[if_pos h];exact ys t w h
 ·rw[if_neg h];exact s7 F Inv t w (by omega) hg h0 hF
end Go.Proofs.YtfmjklgfpiffbaaGreatDoor
namespace Go.Proofs.YtfmjklgfpiffbaaGreatDoor
open Go.RowKit Go.Proofs.Tryz
set_option linter.unusedVariables false
set_option linter.unusedSimpArgs false
set_option maxRecDepth 100000
set_option maxHeartbeats 8000000
theorem vs:gV.Ok:=⟨by decide,.inl rfl,by decide,by decide,by decide,by decide⟩
theorem zy (a b c:ByteArray):a++b++c=a++(b++c):=ByteArray.ext (Array.toList_inj.1 (by simp))
theorem yN (a:ByteArray):a++⟨#[]⟩=a:=ByteArray.ext (Array.toList_inj.1 (by simp))
theorem mB (F:ae→ByteArray→ByteArray×ae):∀(l:List ByteArray) (d:ae) (k:Nat) (T:ByteArray),∃S,fQ F d k T l=T++S
 |[],d,k,T=>⟨⟨#[]⟩,by rw[yN];rfl⟩
 |x::r,d,k,T=>by
  by_cases h:x=⟨#[]⟩
  ·subst h;rw[fu];exact mB F r d (k+1) T
  ·by_cases hf:100≤k∨40000<T.size
   ·exact⟨zN,ft h hf⟩
   ·rw[iq h (fun e=>hf (.inl e)) (fun e=>hf (.inr e))];obtain⟨S,hS⟩:=mB F r (F d x).2 (k+1) (T++(F d x).1);exact⟨(F d x).1++S,by rw[hS,zy]⟩
theorem qU (F:ae→ByteArray→ByteArray×ae):∀(l:List ByteArray) (d:ae) (k:Nat) (T:ByteArray),fQ F d k T (l++[⟨#[]⟩])=fQ F d k T l
 |[],d,k,T=>by rw[List.nil_append,fu];rfl
 |x::r,d,k,T=>by
  rw[List.cons_append];by_cases h:x=⟨#[]⟩
  ·subst h;rw[fu,fu];exact qU F r d (k+1) T
  ·by_cases hf:100≤k∨40000<T.size
   ·rw[ft h hf,ft h hf]
   ·rw[iq h (fun e=>hf (.inl e)) (fun e=>hf (.inr e)),iq h (fun e=>hf (.inl e)) (fun e=>hf (.inr e))];exact qU F r _ _ _
theorem qT (F:ae→ByteArray→ByteArray×ae) (m:List ByteArray):∀(l:List ByteArray) (d:ae) (k:Nat) (T:ByteArray),∃S,fQ F d k T (l++m)=fQ F d k T l++S
 |[],d,k,T=>mB F m d k T
 |x::r,d,k,T=>by
  rw[List.cons_append];by_cases h:x=⟨#[]⟩
  ·subst h;rw[fu,fu];exact qT F m r d (k+1) T
  ·by_cases hf:100≤k∨40000<T.size
   ·exact⟨⟨#[]⟩,by rw[ft h hf,ft h hf,yN]⟩
   ·rw[iq h (fun e=>hf (.inl e)) (fun e=>hf (.inr e)),iq h (fun e=>hf (.inl e)) (fun e=>hf (.inr e))];exact qT F m r _ _ _
theorem EU {p:List UInt8} {x y:List (List UInt8)} (h:x≠[]):ez p (x++y)=ez p x++y:=by
 cases x with
 |nil=>exact absurd rfl h
 |cons a r=>rfl
theorem nJ (c:UInt8) (b:List UInt8):∀a:List UInt8,bJ c (a++c::b)=bJ c a++bJ c b
 |[]=>by rw[List.nil_append,ie];rfl
 |x::a=>by
  rw[List.cons_append];by_cases h:x=c
  ·subst h;rw[ie,ie,nJ x b a];rfl
  ·rw[fW h,fW h,nJ c b a,EU (kj c a)]
theorem Gm {t:ByteArray} {n:Nat} (hn:t.data.toList[n]?=some 10):∃l m,aq 10 (t.extract 0 (n+1))=l++[⟨#[]⟩]∧aq 10 t=l++m:=by
 obtain⟨hlt,he⟩:=List.getElem?_eq_some_iff.1 hn;have e:t.data.toList=t.data.toList.take n++10::t.data.toList.drop (n+1):=by
  conv=>lhs;rw[←List.take_append_drop n t.data.toList]
  rw[List.drop_eq_getElem_cons hlt,he]
 have e2:(t.extract 0 (n+1)).data.toList=t.data.toList.take n++[10]:=by
  have h1:(t.extract 0 (n+1)).data.toList=t.data.toList.take (n+1):=by simp
  rw[h1,List.take_succ_eq_append_getElem hlt,he]
 refine⟨(bJ 10 (t.data.toList.take n)).map baL,(bJ 10 (t.data.toList.drop (n+1))).map baL,?_,?_⟩
 ·unfold aq;rw[e2,nJ,List.map_append]
  rfl
 ·unfold aq
  conv=>lhs;rw[e]
  rw[nJ,List.map_append]
def FX (t:ByteArray) (c:Nat):Prop:=c=0∨∃n,c=n+1∧t.data.toList[n]?=some 10
theorem yt (F:ae→ByteArray→ByteArray×ae) {t:ByteArray} {c:Nat} (hc:FX t c) (ht:t.size≤20000):∃S,fT F t=fT F (t.extract 0 c)++S:=by
 have hz:(t.extract 0 c).size≤t.size:=by rw[ByteArray.size_extract];omega
 unfold fT;rw[if_neg (by omega),if_neg (by omega)]
 rcases hc with rfl|⟨n,rfl,hn⟩
 ·have e:aq 10 (t.extract 0 0)=[⟨#[]⟩]:=by
   have h0:t.extract 0 0=⟨#[]⟩:=ByteArray.ext (Array.toList_inj.1 (by simp));rw[h0];rfl
  rw[e,fu];exact mB F _ _ _ _
 ·obtain⟨l,m,h1,h2⟩:=Gm hn;rw[h1,h2,qU];exact qT F m l _ _ _
attribute [local go_sem ↓] Go.wp_at_zero Go.wp_at_succ
theorem CA {word rest:ByteArray} {j:Nat} {d:ae} (h32:(32:UInt8)∉word.data.toList) (hs:word.size+rest.size≤1048576)
  (hj:j<12) (hw:sat cN j=word) (hw2:∀k,k<j→sat cN k≠word) (hbad:¬(aE rest=true∧((bg rest).length:Int)=at_ bT j)):mm (word++⟨#[32]⟩++rest) d eF d:=by
 intro b w hd hg;have HD:=Jj hd;have HG:=Jj hg;have HW:=Jj (Jq hw hw2);have HBAD:=Jj hbad;clear hd hg hw hw2 hbad
 go_enter func15,ntmps15
 go_wp2_with fail
 refine(lx word rest 32 _ hs h32 HG.out.glb).mono ?_;rintro e w2 ⟨rfl,b2⟩;have HB:=Jj b2;obtain⟨gb,go,gc,hgl,hgc1,hgc2,hgb,hgt⟩:=(HG.out.bel b2).cmd;have HC:=Jj (Jq hgb hgt);clear b2 hgt hgb
 go_wp2_with fail
 clear hgl
 go_loopw [25] (fun i wr=>∃k:Nat,k≤j∧i=.int .i64 k∧Below w2.heap.size w2 wr) (fun i _=>12-(intOf i).toNat)
 case atStart=>exact⟨0,Jy _,rfl,Below.refl _ _⟩
 case round=>
  obtain⟨k,hk,rfl,hb⟩:=hrel;have HB2:=Jj hb;have hz:=hb.size;have h12:k<12:=by omega
  have hc1:=(hb.cell (by exact HC.out.1)).trans (HC.out.2 k h12).1;have hc2:=(hb.cell (by exact HC.out.1)).trans (HC.out.2 k h12).2;by_cases hlt:k<j
  ·have hne:=gD (HW.out.2 k hlt);obtain⟨Z,hZ⟩:∃Z,sat cN k=Z:=⟨_,rfl⟩;obtain⟨z,hz2⟩:∃z,at_ bT k=z:=⟨_,rfl⟩;rw[hZ] at hc1 hne;rw[hz2] at hc2;clear hb hZ hz2;go_wp2;go_roundw
   case rel=>exact⟨k+1,hlt,by go_num,(HB2.out.alloc hz _)⟩
   case measure=>simp[intOf];omega
  ·have hke:k=j:=by omega
   subst hke;rw[HW.out.1] at hc1;obtain⟨N,hN⟩:∃N,at_ bT k=N:=⟨_,rfl⟩;have HBN:=Jj (show ¬(aE rest=true∧((bg rest).length:Int)=N) by rw[←hN];exact HBAD.out);rw[hN] at hc2;have heq:(!word.toList==word.toList)=false:=by simp
   have BA:=ab wr (.cells #[.string word,.int .i64 N] 88);have K1:=Blk.new wr 88 [.string word,.int .i64 N];have HB3:=Jj (aa HB2.out BA);clear hb hN
   go_wp2_with fail
   generalize hW:wr.alloc (.cells #[.string word,.int .i64 N] 88)=w4 at *;refine(ec rest _ (by omega) (HG.out.bel (aa HB.out HB3.out)).glb).mono ?_;rintro e w5 ⟨r,rfl,o,b5⟩;have HB5:=Jj (aa HB.out (aa HB3.out b5));replace K1:=K1.below b5 K1.lt;have a0:w5.cell? ⟨wr.heap.size,0,none⟩=some (.string word):=by rw[K1.cell];rfl
   have a1:w5.cell? ⟨wr.heap.size,1,none⟩=some (.int .i64 N):=by rw[K1.cell];rfl
   obtain⟨A,c,rfl,-,-,-⟩:=o.ints.open_;clear b5 o K1 hW BA hc1 hc2;cases hq:aE rest
   ·clear hq;go_wp2;go_ret;exact⟨rfl,HD.out.bel HB5.out,aB _ HB5.out⟩
   ·have HNE:=Jj (show((spL rest).length:Int)≠N from fun e=>HBN.out ⟨hq,by rw[←dI hq];exact e⟩);obtain⟨M,hM⟩:∃M,(spL rest).length=M:=⟨_,rfl⟩;rw[hM] at HNE ⊢;have z1:((M:Int) != N)=true:=by rw[bne_iff_ne];exact HNE.out
    clear hq hM;go_wp2;go_ret;exact⟨rfl,HD.out.bel HB5.out,aB _ HB5.out⟩
def bI (s:ByteArray):Nat:=((List.range 12).takeWhile fun k=>decide (sat cN k≠s)).length
theorem jq (s:ByteArray):bI s≤12∧(∀k,k<bI s→sat cN k≠s)∧(bI s<12→sat cN (bI s)=s):=by
 obtain⟨h1,h2,h3⟩:=dc (fun k=>decide (sat cN k≠s)) 12;refine⟨h1,fun k hk=>of_decide_eq_true (h2 k hk),fun hlt=>?_⟩
 rcases h3 with h3|h3
 ·have:bI s=12:=h3;omega
 ·have h4:decide (sat cN (bI s)≠s)=false:=h3;exact Decidable.byContradiction fun h=>by rw[decide_eq_true h] at h4;cases h4
def fC (j:Nat) (r:ByteArray):Bool:=aE r&&decide (((bg r).length:Int)=at_ bT j)
theorem Aq {line:ByteArray} (h:bL 32 line=true):line=bef 32 line++⟨#[32]⟩++aft 32 line:=(gC h).symm
theorem Ao {line:ByteArray} {d d2:ae} {out:ByteArray} (hs:line.size≤1000000)
  (h1:bL 32 line=false→fZ line d out d2)
  (h2:bL 32 line=true→bI (bef 32 line)=12→jy (bef 32 line) (aft 32 line) d out d2)
  (h3:bL 32 line=true→bI (bef 32 line)<12→fC (bI (bef 32 line)) (aft 32 line)=true→cD (bef 32 line) (bg (aft 32 line)) d out d2)
  (h4:bL 32 line=true→bI (bef 32 line)<12→fC (bI (bef 32 line)) (aft 32 line)=false→out=eF∧d2=d):mm line d out d2:=by
 have hz:=nD 32 line;cases hb:bL 32 line
 ·exact CB (fun h=>by rw[gd.2 h] at hb;cases hb) (by omega) (h1 hb)
 ·obtain⟨c1,c2,c3⟩:=jq (bef 32 line);have e:=Aq hb;have hn:=vd 32 line
  rcases Nat.lt_or_ge (bI (bef 32 line)) 12 with hj|hj
  ·cases hf:fC (bI (bef 32 line)) (aft 32 line)
   ·obtain⟨rfl,rfl⟩:=h4 hb hj hf;rw[e];refine CA hn (by omega) hj (c3 hj) c2 (fun h=>?_);unfold fC at hf;rw[h.1,decide_eq_true h.2] at hf;cases hf
   ·have h:=h3 hb hj hf;unfold fC at hf;rw[JB] at hf;have key:=Cy (d:=d) (d2:=d2) (out:=out) hn (show(bef 32 line).size+(aft 32 line).size≤1048576 by omega) hj (c3 hj) c2 (of_decide_eq_true hf.2).symm hf.1 rfl h;rwa[←e] at key
  ·have hj12:bI (bef 32 line)=12:=by omega
   have key:=Cz (d:=d) (d2:=d2) (out:=out) hn (show(bef 32 line).size+(aft 32 line).size≤1048576 by omega) (fun k hk=>c2 k (by omega)) (h2 hb hj12);rwa[←e] at key
end Go.Proofs.YtfmjklgfpiffbaaGreatDoor
