/-
  Parts of the proof of one statement, merged: SplitS EngLaw Turn WhA.
-/
import Derived.Test.YtfmjklgfpiffbaaGreatDoorR6
namespace Go.Proofs.YtfmjklgfpiffbaaGreatDoor
open Go.RowKit Go.Proofs.Tryz
set_option linter.unusedVariables false
set_option linter.unusedSimpArgs false
set_option maxRecDepth 100000
set_option maxHeartbeats 8000000
attribute [local go_sem ↓] Go.wp_at_zero Go.wp_at_succ
theorem fm (v:Value) (l:List ByteArray) (w:World) (hv:aG w v l) (hl:l.length≤1048576):
  Calls prog 67 #[.agg #[v]] w fun e w'=>∃r,e=.returned (.agg #[r])∧aj w' w.heap.size r l∧Below w.heap.size w w':=by
 have HV:=Jj hv;obtain⟨A,c,rfl,hlc,hc,hrd⟩:=hv.open_;clear hv hrd;have b0:=Jj (show Below w.heap.size w (((w.alloc (.cells #[.slice A l.length c] 32)).alloc (.cells #[.slice none 0 0] 32)).alloc (.cells #[] 9)) from
  (((ab w _).alloc (by simp) _).alloc (by simp;omega) _))
 have kk:=Jj (((Blk.new' (w.alloc (.cells #[.slice A l.length c] 32)) 32 (.slice none 0 0) (w.heap.size+1) (by simp)).alloc (.cells #[] 9)));have oe:=Jj (show aj (((w.alloc (.cells #[.slice A l.length c] 32)).alloc (.cells #[.slice none 0 0] 32)).alloc (.cells #[] 9)) (w.heap.size+1+1) (.slice (some ⟨w.heap.size+1+1,0,none⟩) 0 0) [] by
  have:=aj.empty ((w.alloc (.cells #[.slice A l.length c] 32)).alloc (.cells #[.slice none 0 0] 32)) (w.heap.size+1+1) (by simp);simpa using this)
 go_enter func67,ntmps67
 go_wp2_with (at_builtin;refine va rfl (.tmp 3) (.tmp 5) (by rfl) (w.heap.size+1+1) _ _ [] l (by rfl) (by exact oe.out) (by rfl) (by exact HV.out.bel b0.out) (by simp;omega) (by simp) ?_;intro v3 w3 ho hg hat;replace ho:aj w3 (w.heap.size+1+1) v3 l:=ho;have k1:=kk.out.grown hg (fun e=>by injection e with e;simp at e);obtain⟨c1,f1⟩:=k1.one;have hb:=bQ hg (show w.heap.size≤_ from b0.out.size) (fun k hk=>by injection hk with hk;simp at hk;omega);obtain⟨A3,c3,rfl,_,_,_⟩:=ho.strs.open_;have H:=Jj (Jq ho (b0.out.trans hb));clear ho hg hat hb kk oe b0)
 refine bodyPost_ret (v:=.agg #[.slice A3 l.length c3]) (by simp[results,results67,go_sem,c1]) rfl ⟨_,rfl,?_,?_⟩
 ·exact(H.out.1.setCell _ _ (by simp)).lower (by omega)
 ·exact H.out.2.setCell (by simp) _
end Go.Proofs.YtfmjklgfpiffbaaGreatDoor
namespace Go.Proofs.YtfmjklgfpiffbaaGreatDoor
open Go.RowKit Go.Proofs.Tryz
set_option linter.unusedVariables false
set_option linter.unusedSimpArgs false
set_option maxRecDepth 100000
set_option maxHeartbeats 8000000
theorem de {P G:Prop} (h:P) (k:P→G):G:=k h
attribute [local go_sem ↓] Go.wp_at_zero Go.wp_at_succ
def kx (l:List ByteArray) (k j:Nat):ByteArray:=if j<k then sat (bu l) j else sat l j
theorem tV (l:List ByteArray) (j:Nat):kx l 0 j=sat l j:=by simp[kx]
theorem Fa {l:List ByteArray} {k j:Nat} (hk:k+1=l.length) (hj:j<l.length):kx l k j=sat (bu l) j:=by
 unfold kx
 split
 ·rfl
 ·rw[gj hj,if_neg (by omega)]
theorem pt (l:List ByteArray) (k:Nat):kx l k k=sat l k:=by simp[kx]
theorem wk {l:List ByteArray} {k:Nat} {cs:List Value} (hk:k+1<l.length) (hc:l.length≤cs.length) (h:∀j,j<l.length→cs[j]?=some (.string (kx l k j))):
  ∀j,j<l.length→(cs.set k (.string (bS (sat l k) (sat l (k+1)))))[j]?=some (.string (kx l (k+1) j)):=by
 intro j hj;by_cases e:j=k
 ·subst e;rw[List.getElem?_set_self (by omega)];unfold kx;rw[if_pos (by omega),gj hj,if_pos hk]
 ·rw[List.getElem?_set_ne (by omega),h j hj];unfold kx;by_cases h1:j<k
  ·rw[if_pos h1,if_pos (by omega)]
  ·rw[if_neg h1,if_neg (by omega)]
theorem wA {w:World} {base g cap:Nat} {cs:List Value} {l:List ByteArray} {k:Nat} (ok:af l=true) (hk:k+1=l.length) (hg:base≤g) (hb:Blk w g 9 cs) (hl:l.length≤cap) (hc:cap≤9223372036854775807) (hs:cs.length=cap)
  (h:∀j,j<l.length→cs[j]?=some (.string (kx l k j))):aj w base (.slice (some ⟨g,0,none⟩) l.length cap) (bu l):=by
 have:=aj.mk' (l:=bu l) hg hb (by rw[bW];exact hl) hc hs (fun j hj=>by rw[bW] at hj;rw[h j hj,Fa hk hj]) (iS (lz ok));rwa[bW] at this
theorem iJ (v:Value) (l:List ByteArray) (w:World) (hv:aG w v l) (ok:af l=true):
  Calls prog 181 #[v] w fun e w'=>∃r,e=.returned r∧aj w' w.heap.size r (bu l)∧Below w.heap.size w w':=by
 have HV:=Jj hv;obtain⟨A,c,rfl,hlc,hc,hrd⟩:=hv.open_;obtain⟨l1,l7,hcol⟩:=ap.1 ok;obtain⟨b,o,rfl,hb,hcell⟩:=hrd.strs (by omega);have HC:=Jj hcell;have HL:=Jj hcol;have OK:=Jj ok;clear hrd hv hcell hcol ok
 go_enter func181,ntmps181
 go_wp2_with fail
 refine(fj _ l _ HV.out (by omega)).mono ?_;rintro e w1 ⟨r,rfl,ho,hb1⟩
 rcases ho.form with ⟨_,h0⟩|⟨g,cap,cs0,rfl,hg,hblk0,hlcap,hcm,hcl0,hcs0⟩
 ·exfalso;rw[h0] at l1;simp at l1
 ·have H0:=Jj (Jq hcl0 (Jq hcs0 hb1));have hgz:=Jj hblk0.lt;clear hcl0 hcs0 hb1 ho
  go_wp2_with fail
  go_loopw [4] (fun i wr=>∃(k:Nat) (cs:List Value),k+1≤l.length∧i=.int .i64 k∧Blk wr g 9 cs∧cs.length=cap∧(∀j,j<l.length→cs[j]?=some (.string (kx l k j)))∧Below w.heap.size w wr)
   (fun i _=>l.length-(intOf i).toNat)
  case atStart=>exact⟨0,cs0,by omega,rfl,hblk0,H0.out.1,fun j hj=>by rw[tV];exact H0.out.2.1 j hj,H0.out.2.2⟩
  case round=>
   obtain⟨k,cs,hk,rfl,hblk,hcl,hcs,hbel⟩:=hrel;have H:=Jj (Jq hcl (Jq hcs hbel));clear hcl hcs hbel H0 hblk0;by_cases hlt:k+1<l.length
   ·have hck:wr.cell? ⟨b,o+k,none⟩=some (.string (sat l k)):=(H.out.2.2.cell (by exact hb)).trans (HC.out k (by omega));have hck1:wr.cell? ⟨b,o+(k+1),none⟩=some (.string (sat l (k+1))):=(H.out.2.2.cell (by exact hb)).trans (HC.out (k+1) hlt);have hcw:wr.cell? ⟨g,k,none⟩=some (.string (sat l k)):=by rw[hblk.cell,H.out.2.1 k (by omega),pt]
    have hp:(k:Int)+1<(l.length:Int):=by omega
    have hp0:(0:Int)≤(k:Int)+1:=by omega
    have hwr:IntKind.i64.wrap ((k:Int)+1)=(k:Int)+1:=(by first|go_num|(rw[IntWalk.i64_in] <;> omega));have htn:((k:Int)+1).toNat=k+1:=by omega
    have hk0:k<l.length:=by omega
    have hz:=hblk.lt;have tok1:True:=trivial
    go_wp2_with fail
    go_region_law (first
     |(go_simp;go_at_call 250;have _t:=tok1;refine(qk _ _ _ (HL.out k hk0).1 (HL.out (k+1) hlt).1 ((HL.out k hk0).2.trans (HL.out (k+1) hlt).2.symm)).mono ?_;rintro e w2 ⟨rfl,b2⟩;replace b2:Below wr.heap.size wr w2:=(by first|exact b2|exact aa ((Below.refl _ _).drew) b2);have hbl2:=hblk.below b2 hz;have hcw2:w2.cell? ⟨g,k,none⟩=some (.string (sat l k)):=(hbl2.cell k).trans ((H.out.2.1 k hk0).trans (by rw[pt]));have hfw2:=hbl2.frozen k;clear tok1))
    all_goals
     go_wp2;go_roundw
     case rel=>
      have hB:=aa (show Below w.heap.size w wr from H.out.2.2) b2;refine⟨k+1,_,by omega,by go_num,(by first|exact hbl2.set_ k _|exact hbl2.set_ k _),by rw[List.length_set];exact H.out.1,wk hlt (by rw[H.out.1];exact hlcap) H.out.2.1,(by first|exact hB.setCell hg _|exact(hB.setCell hg _).drew)⟩
     case measure=>simp[intOf];omega
   ·go_wp2;go_ret;exact⟨_,rfl,wA OK.out (by omega) hg hblk hlcap hcm H.out.1 H.out.2.1,H.out.2.2⟩
theorem xR (s t:ByteArray) (w:World) (hs:aP s=true) (ht:aP t=true) (he:s.size=t.size):
  Calls prog 251 #[.string s,.string t] w fun e w'=>e=.returned (.tuple #[.string (mV s t),.bool true])∧Below w.heap.size w w':=by
 have ha:=eG.2 ⟨hs,ht,he⟩;have s3:s.size≤9223372036854775807:=by have:=aQ hs;omega
 have t3:t.size≤9223372036854775807:=by have:=aQ ht;omega
 have k12:=(aQ hs).2.1;have c1:=iz hs;have c2:=iz ht;have hT:=em k12;have hT1:=fV s.size;have hm:md ((cv s:Int)-(cv t:Int)) (ten s.size)<1000000000000:=by have:=gW ((cv s:Int)-(cv t:Int)) hT1;omega
 have HE:=Jj he;clear he
 go_enter func251,ntmps251
 go_wp2_with (first|(go_at_call 249;refine(jd _ _ _ (by assumption) (by assumption)).mono ?_;rintro e w' ⟨rfl,rfl⟩)|(go_at_call 204;refine(iX _ _ (by assumption)).mono ?_;rintro e w' ⟨rfl,rfl⟩)|(go_at_call 207;refine(dk s.size _ k12).mono ?_;rintro e w' ⟨rfl,rfl⟩))
 refine(dp ((cv s:Int)-(cv t:Int)) (ten s.size) _ ⟨hT1,hT⟩).mono ?_;rintro e w' ⟨rfl,rfl⟩
 go_wp2_with fail
 refine(ov _ s.size _ hm k12).mono ?_;rintro e w' ⟨rfl,hb⟩;go_wp2;go_ret2;exact⟨rfl,hb⟩
def jQ (l:List ByteArray) (k j:Nat):ByteArray:=if k≤j then sat (aY l) j else sat l j
theorem rI {l:List ByteArray} {k:Nat} (hk:k+1=l.length) (j:Nat) (hj:j<l.length):jQ l k j=sat l j:=by
 unfold jQ
 split
 ·rw[kf l j hj,if_neg (by omega)]
 ·rfl
theorem we {l:List ByteArray} {k:Nat} {cs:List Value} (hk:k+1<l.length) (hc:l.length≤cs.length) (h:∀j,j<l.length→cs[j]?=some (.string (jQ l (k+1) j))):
  ∀j,j<l.length→(cs.set k (.string (mV (sat l k) (sat (aY l) (k+1)))))[j]?=some (.string (jQ l k j)):=by
 intro j hj;by_cases e:j=k
 ·subst e;rw[List.getElem?_set_self (by omega)];unfold jQ;rw[if_pos (by omega),kf l j hj,if_pos hk]
 ·rw[List.getElem?_set_ne (by omega),h j hj];unfold jQ;by_cases h1:k+1≤j
  ·rw[if_pos h1,if_pos (by omega)]
  ·rw[if_neg h1,if_neg (by omega)]
theorem ww {w:World} {base g cap:Nat} {cs:List Value} {l:List ByteArray} (ok:af l=true) (hg:base≤g) (hb:Blk w g 9 cs) (hl:l.length≤cap) (hc:cap≤9223372036854775807) (hs:cs.length=cap)
  (h:∀j,j<l.length→cs[j]?=some (.string (jQ l 0 j))):aj w base (.slice (some ⟨g,0,none⟩) l.length cap) (aY l):=by
 have:=aj.mk' (l:=aY l) hg hb (by rw[cM];exact hl) hc hs (fun j hj=>by rw[cM] at hj;rw[h j hj];unfold jQ;rw[if_pos (Jy _)]) (iS (nM ok));rwa[cM] at this
theorem ny (v:Value) (l:List ByteArray) (w:World) (hv:aG w v l) (ok:af l=true):
  Calls prog 182 #[v] w fun e w'=>∃r,e=.returned r∧aj w' w.heap.size r (aY l)∧Below w.heap.size w w':=by
 have HV:=Jj hv;obtain⟨A,c,rfl,hlc,hc,hrd⟩:=hv.open_;obtain⟨l1,l7,hcol⟩:=ap.1 ok;obtain⟨b,o,rfl,hb,hcell⟩:=hrd.strs (by omega);have HC:=Jj hcell;have HL:=Jj hcol;have OK:=Jj ok;clear hrd hv hcell hcol ok
 go_enter func182,ntmps182
 go_wp2_with fail
 refine(fj _ l _ HV.out (by omega)).mono ?_;rintro e w1 ⟨r,rfl,ho,hb1⟩
 rcases ho.form with ⟨_,h0⟩|⟨g,cap,cs0,rfl,hg,hblk0,hlcap,hcm,hcl0,hcs0⟩
 ·exfalso;rw[h0] at l1;simp at l1
 ·have H0:=Jj (Jq hcl0 (Jq hcs0 hb1));have hgz:=Jj hblk0.lt;clear hcl0 hcs0 hb1 ho
  go_wp2_with fail
  go_loopw [4] (fun i wr=>∃(k:Nat) (cs:List Value),k<l.length∧i=.int .i64 ((k:Int)-1)∧Blk wr g 9 cs∧cs.length=cap∧(∀j,j<l.length→cs[j]?=some (.string (jQ l k j)))∧Below w.heap.size w wr)
   (fun i _=>((intOf i)+1).toNat)
  case atStart=>exact⟨l.length-1,cs0,by omega,by go_num,hblk0,H0.out.1,fun j hj=>by rw[rI (by omega) j hj];exact H0.out.2.1 j hj,H0.out.2.2⟩
  case round=>
   obtain⟨k,cs,hk,rfl,hblk,hcl,hcs,hbel⟩:=hrel;have H:=Jj (Jq hcl (Jq hcs hbel));clear hcl hcs hbel H0 hblk0;cases k with
   |zero=>
    go_wp2;go_ret;exact⟨_,rfl,ww OK.out hg hblk hlcap hcm H.out.1 H.out.2.1,H.out.2.2⟩
   |succ k=>
    have hck:wr.cell? ⟨b,o+k,none⟩=some (.string (sat l k)):=(H.out.2.2.cell (by exact hb)).trans (HC.out k (by omega));have hcn:wr.cell? ⟨g,k+1,none⟩=some (.string (sat (aY l) (k+1))):=by rw[hblk.cell,H.out.2.1 (k+1) hk];unfold jQ;rw[if_pos (Jr _)]
    have hcw:wr.cell? ⟨g,k,none⟩=some (.string (sat l k)):=by rw[hblk.cell,H.out.2.1 k (by omega)];unfold jQ;rw[if_neg (by omega)]
    have hkk:(((k+1:Nat):Int)-1)=(k:Int):=by omega
    rw[hkk];have hp:(k:Int)+1<(l.length:Int):=by omega
    have hp0:(0:Int)≤(k:Int)+1:=by omega
    have hwr:IntKind.i64.wrap ((k:Int)+1)=(k:Int)+1:=(by first|go_num|(rw[IntWalk.i64_in] <;> omega));have htn:((k:Int)+1).toNat=k+1:=by omega
    have hk0:k<l.length:=by omega
    have hz:=hblk.lt;have BK:=Jj (fy OK.out (k+1) hk);have tok1:True:=trivial
    go_wp2_with fail
    go_region_law (first
     |(go_simp;go_at_call 251;have _t:=tok1;refine(xR _ _ _ (HL.out k hk0).1 BK.out.1 ((HL.out k hk0).2.trans BK.out.2.symm)).mono ?_;rintro e w2 ⟨rfl,b2⟩;replace b2:Below wr.heap.size wr w2:=(by first|exact b2|exact aa ((Below.refl _ _).drew) b2);have hbl2:=hblk.below b2 hz;have hcw2:w2.cell? ⟨g,k,none⟩=some (.string (sat l k)):=(b2.cell hz).trans hcw;have hfw2:=hbl2.frozen k;clear tok1))
    all_goals
     go_wp2;go_roundw
     case rel=>
      have hB:=aa (show Below w.heap.size w wr from H.out.2.2) b2;refine⟨k,_,by omega,by go_num,(by first|exact hbl2.set_ k _|exact hbl2.set_ k _),by rw[List.length_set];exact H.out.1,we hk (by rw[H.out.1];exact hlcap) H.out.2.1,(by first|exact hB.setCell hg _|exact(hB.setCell hg _).drew)⟩
     case measure=>simp[intOf]
def kw (l:List ByteArray) (f k j:Nat):ByteArray:=if j<k then sat (aZ l f) j else sat l j
theorem wh {l:List ByteArray} {f k:Nat} {cs:List Value} (hf:k % 2=f) (hk:k+1<l.length) (hc:l.length≤cs.length) (h:∀j,j<l.length→cs[j]?=some (.string (kw l f k j))):
  ∀j,j<l.length→(cs.set k (.string (bS (sat l k) (sat l (k+1)))))[j]?=some (.string (kw l f (k+2) j)):=by
 intro j hj;by_cases e:j=k
 ·subst e;rw[List.getElem?_set_self (by omega)];unfold kw;rw[if_pos (by omega),jn hj,if_pos ⟨hf,hk⟩]
 ·rw[List.getElem?_set_ne (by omega),h j hj];unfold kw;by_cases h1:j<k
  ·rw[if_pos h1,if_pos (by omega)]
  ·rw[if_neg h1];by_cases h2:j<k+2
   ·rw[if_pos h2,jn hj,if_neg (fun h=>by omega)]
   ·rw[if_neg h2]
theorem rJ (l:List ByteArray) (f j:Nat) (hf:f≤1) (hj:j<l.length):kw l f f j=sat l j:=by
 unfold kw
 split
 ·rw[jn hj,if_neg (fun h=>by omega)]
 ·rfl
theorem wg {l:List ByteArray} {f k j:Nat} (hf:k % 2=f) (hk:¬k+1<l.length) (hj:j<l.length):kw l f k j=sat (aZ l f) j:=by
 unfold kw
 split
 ·rfl
 ·rw[jn hj,if_neg (fun h=>by omega)]
theorem iB {l:List ByteArray} (h:af l=true) (f:Nat):af (aZ l f)=true:=by
 obtain⟨h1,h2,h3⟩:=ap.1 h;have key:∀i,i<l.length→aP (sat (aZ l f) i)=true∧(sat (aZ l f) i).size=(sat l 0).size:=by
  intro i hi;rw[jn hi]
  split
  ·exact⟨sA (h3 i hi).1,by rw[oN];exact(h3 i hi).2⟩
  ·exact h3 i hi
 refine ap.2 ⟨by rw[bU];exact h1,by rw[bU];exact h2,fun k hk=>?_⟩;rw[bU] at hk;exact⟨(key k hk).1,by rw[(key k hk).2,(key 0 (by omega)).2]⟩
theorem Fk {w:World} {base g cap:Nat} {cs:List Value} {l:List ByteArray} {f:Nat} (ok:af l=true) (hg:base≤g) (hb:Blk w g 9 cs) (hl:l.length≤cap) (hc:cap≤9223372036854775807) (hs:cs.length=cap)
  (h:∀j,j<l.length→cs[j]?=some (.string (sat (aZ l f) j))):aj w base (.slice (some ⟨g,0,none⟩) l.length cap) (aZ l f):=by
 have:=aj.mk' (l:=aZ l f) hg hb (by rw[bU];exact hl) hc hs (fun j hj=>by rw[bU] at hj;exact h j hj) (iS (iB ok f));rwa[bU] at this
theorem nz (v:Value) (l:List ByteArray) (f:Nat) (w:World) (hf:f≤1) (hv:aG w v l) (ok:af l=true):
  Calls prog 252 #[v,.int .i64 f] w fun e w'=>∃r,e=.returned r∧aj w' w.heap.size r (aZ l f)∧Below w.heap.size w w':=by
 have HV:=Jj hv;obtain⟨A,c,rfl,hlc,hc,hrd⟩:=hv.open_;obtain⟨l1,l7,hcol⟩:=ap.1 ok;obtain⟨b,o,rfl,hb,hcell⟩:=hrd.strs (by omega);have HC:=Jj hcell;have HL:=Jj hcol;have OK:=Jj ok;clear hrd hv hcell hcol ok
 go_enter func252,ntmps252
 go_wp2_with fail
 refine(fj _ l _ HV.out (by omega)).mono ?_;rintro e w1 ⟨r,rfl,ho,hb1⟩
 rcases ho.form with ⟨_,h0⟩|⟨g,cap,cs0,rfl,hg,hblk0,hlcap,hcm,hcl0,hcs0⟩
 ·exfalso;rw[h0] at l1;simp at l1
 ·have H0:=Jj (Jq hcl0 (Jq hcs0 hb1));have hgz:=Jj hblk0.lt;clear hcl0 hcs0 hb1 ho
  go_wp2_with fail
  go_loopw [6] (fun i wr=>∃(k:Nat) (cs:List Value),(k % 2=f∧k≤l.length+1)∧i=.int .i64 k∧Blk wr g 9 cs∧cs.length=cap∧(∀j,j<l.length→cs[j]?=some (.string (kw l f k j)))∧Below w.heap.size w wr)
   (fun i _=>l.length+2-(intOf i).toNat)
  case atStart=>exact⟨f,cs0,⟨by omega,by omega⟩,rfl,hblk0,H0.out.1,fun j hj=>by rw[rJ l f j hf hj];exact H0.out.2.1 j hj,H0.out.2.2⟩
  case round=>
   obtain⟨k,cs,hk,rfl,hblk,hcl,hcs,hbel⟩:=hrel;have H:=Jj (Jq hcl (Jq hcs hbel));clear hcl hcs hbel H0 hblk0;by_cases hlt:k+1<l.length
   ·have hck:wr.cell? ⟨b,o+k,none⟩=some (.string (sat l k)):=(H.out.2.2.cell (by exact hb)).trans (HC.out k (by omega));have hck1:wr.cell? ⟨b,o+(k+1),none⟩=some (.string (sat l (k+1))):=(H.out.2.2.cell (by exact hb)).trans (HC.out (k+1) hlt);have hcw:wr.cell? ⟨g,k,none⟩=some (.string (sat l k)):=by rw[hblk.cell,H.out.2.1 k (by omega)];unfold kw;rw[if_neg (by omega)]
    have hp:(k:Int)+1<(l.length:Int):=by omega
    have hp0:(0:Int)≤(k:Int)+1:=by omega
    have hwr:IntKind.i64.wrap ((k:Int)+1)=(k:Int)+1:=(by first|go_num|(rw[IntWalk.i64_in] <;> omega));have htn:((k:Int)+1).toNat=k+1:=by omega
    have hk0:k<l.length:=by omega
    have hz:=hblk.lt;have tok1:True:=trivial
    go_wp2_with fail
    go_region_law (first
     |(go_simp;go_at_call 250;have _t:=tok1;refine(qk _ _ _ (HL.out k hk0).1 (HL.out (k+1) hlt).1 ((HL.out k hk0).2.trans (HL.out (k+1) hlt).2.symm)).mono ?_;rintro e w2 ⟨rfl,b2⟩;replace b2:Below wr.heap.size wr w2:=(by first|exact b2|exact aa ((Below.refl _ _).drew) b2);have hbl2:=hblk.below b2 hz;have hcw2:w2.cell? ⟨g,k,none⟩=some (.string (sat l k)):=(b2.cell hz).trans hcw;have hfw2:=hbl2.frozen k;clear tok1))
    all_goals
     go_wp2;go_roundw
     case rel=>
      have hB:=aa (show Below w.heap.size w wr from H.out.2.2) b2;refine⟨k+2,_,⟨by omega,by omega⟩,by go_num,(by first|exact hbl2.set_ k _|exact hbl2.set_ k _),by rw[List.length_set];exact H.out.1,wh hk.1 hlt (by rw[H.out.1];exact hlcap) H.out.2.1,(by first|exact hB.setCell hg _|exact(hB.setCell hg _).drew)⟩
     case measure=>simp[intOf];omega
   ·go_wp2;go_ret;exact⟨_,rfl,Fk OK.out hg hblk hlcap hcm H.out.1 (fun j hj=>by rw[H.out.2.1 j hj,wg hk.1 hlt hj]),H.out.2.2⟩
end Go.Proofs.YtfmjklgfpiffbaaGreatDoor
