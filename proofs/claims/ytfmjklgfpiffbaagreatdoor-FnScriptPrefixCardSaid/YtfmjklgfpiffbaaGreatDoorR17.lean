/-
  Parts of the proof of one statement, merged: TurnS EsA.
-/
import Derived.Deep.RegionHeld3
import Derived.Test.YtfmjklgfpiffbaaGreatDoorR10
namespace Go.Proofs.YtfmjklgfpiffbaaGreatDoor
open Go.RowKit Go.Proofs.Tryz
set_option linter.unusedVariables false
set_option linter.unusedSimpArgs false
set_option maxRecDepth 100000
set_option maxHeartbeats 8000000
attribute [local go_sem ↓] Go.wp_at_zero Go.wp_at_succ
theorem jO (v:Value) (l:List ByteArray) (w:World) (hv:aG w v l) (ok:af l=true):
  Calls prog 63 #[.agg #[v]] w fun e w'=>∃r,e=.returned (.agg #[r])∧aj w' w.heap.size r (bu l)∧Below w.heap.size w w':=by
 have HV:=Jj hv;obtain⟨A,c,rfl,hlc,hc,hrd⟩:=hv.open_;obtain⟨l1,l7,hcol⟩:=ap.1 ok;obtain⟨b,o,rfl,hb,hcell⟩:=hrd.strs (by omega);have HC:=Jj hcell;have HL:=Jj hcol;have OK:=Jj ok;clear hrd hv hcell hcol ok;have B0:=Jj (show Below w.heap.size w ((w.alloc (.cells #[.slice (some ⟨b,o,none⟩) l.length c] 32)).alloc (.cells #[.slice none 0 0] 32)) from(ab w _).alloc (by simp) _);have K1:=(Blk.new' w 32 (.slice (some ⟨b,o,none⟩) l.length c) w.heap.size rfl).alloc (.cells #[.slice none 0 0] 32);have K2:=Blk.new' (w.alloc (.cells #[.slice (some ⟨b,o,none⟩) l.length c] 32)) 32 (.slice none 0 0) (w.heap.size+1) (by simp);obtain⟨c0,-⟩:=K1.one
 go_enter func63,ntmps63
 go_wp2_with fail
 clear c0;generalize hW:(w.alloc (.cells #[.slice (some ⟨b,o,none⟩) l.length c] 32)).alloc (.cells #[.slice none 0 0] 32)=W at *;clear hW;refine(fm _ l _ (HV.out.bel B0.out) (by omega)).mono ?_;rintro e w1 ⟨r,rfl,ho,hb1⟩;have k2:=K2.lt;replace K1:=K1.below hb1 K1.lt;replace K2:=K2.below hb1 K2.lt;have HB1:=Jj (aa B0.out hb1)
 rcases ho.form with ⟨_,h0⟩|⟨g,cap,cs0,rfl,hg,hblk0,hlcap,hcm,hcl0,hcs0⟩
 ·exfalso;rw[h0] at l1;simp at l1
 ·have H0:=Jj (Jq hcl0 hcs0);have hg2:w.heap.size+1<g:=by omega
  have hgz:=hblk0.lt;have hbg:b<w1.heap.size:=by have:=HB1.out.size;omega
  clear hcl0 hcs0 hb1 ho;have ba:Below w1.heap.size w1 (w1.alloc (.cells #[.slice (some ⟨g,0,none⟩) l.length cap] 32)):=ab w1 _;have K3:=Blk.new' w1 32 (.slice (some ⟨g,0,none⟩) l.length cap) _ rfl;replace K1:=K1.below ba K1.lt;replace K2:=K2.below ba K2.lt;have hblk:=hblk0.below ba hgz;have HB:=Jj (aa HB1.out ba)
  go_wp2_with fail
  generalize hW3:w1.alloc (.cells #[.slice (some ⟨g,0,none⟩) l.length cap] 32)=W3 at *;clear hW3 ba hblk0;have HK:=Jj (Jq K1 (Jq K2 K3));clear K1 K2 K3 k2
  go_loopw [4] (fun i wr=>∃(k:Nat) (cs:List Value),k+1≤l.length∧i=.int .i64 k∧Blk wr g 9 cs∧cs.length=cap∧(∀j,j<l.length→cs[j]?=some (.string (kx l k j)))∧Below w.heap.size w wr∧Blk wr w.heap.size 32 [.slice (some ⟨b,o,none⟩) l.length c]∧Blk wr (w.heap.size+1) 32 [.slice none 0 0]∧Blk wr w1.heap.size 32 [.slice (some ⟨g,0,none⟩) l.length cap])
   (fun i _=>l.length-(intOf i).toNat)
  case atStart=>exact⟨0,cs0,by omega,rfl,hblk,H0.out.1,fun j hj=>by rw[tV];exact H0.out.2 j hj,HB.out,HK.out.1,HK.out.2.1,HK.out.2.2⟩
  case round=>
   clear HK HB hblk;obtain⟨k,cs,hk,rfl,hblk,hcl,hcs,hbel,K1,K2,K3⟩:=hrel;have H:=Jj (Jq hcl (Jq hcs hbel));clear hcl hcs hbel H0;obtain⟨e1,-⟩:=K1.one;obtain⟨e2,f2⟩:=K2.one;obtain⟨e3,-⟩:=K3.one;by_cases hlt:k+1<l.length
   ·have hck:wr.cell? ⟨b,o+k,none⟩=some (.string (sat l k)):=(H.out.2.2.cell (by exact hb)).trans (HC.out k (by omega));have hck1:wr.cell? ⟨b,o+(k+1),none⟩=some (.string (sat l (k+1))):=(H.out.2.2.cell (by exact hb)).trans (HC.out (k+1) hlt);have hp:(k:Int)+1<(l.length:Int):=by omega
    have hp0:(0:Int)≤(k:Int)+1:=by omega
    have hwr:IntKind.i64.wrap ((k:Int)+1)=(k:Int)+1:=(by first|go_num|(rw[IntWalk.i64_in] <;> omega));have htn:((k:Int)+1).toNat=k+1:=by omega
    have hk0:k<l.length:=by omega
    have hpk:(k:Int)<(l.length:Int):=by omega
    have hpk0:(0:Int)≤(k:Int):=by omega
    have hz:=hblk.lt;have hne1:=HB1.out.size;have hzb:b<wr.heap.size:=by have:=H.out.2.2.size;omega
    clear e2 f2;have tok1:True:=trivial
    go_wp2_with fail
    go_region_held3 (fun w'=>w'.cell? ⟨w.heap.size,0,none⟩=some (.slice (some ⟨b,o,none⟩) l.length c)∧w'.cell? ⟨w1.heap.size,0,none⟩=some (.slice (some ⟨g,0,none⟩) l.length cap)∧w'.cell? ⟨b,o+k,none⟩=some (.string (sat l k))∧w'.cell? ⟨b,o+(k+1),none⟩=some (.string (sat l (k+1))))
     (first|exact⟨e1,e3,hck,hck1⟩|exact⟨(Ju _ _ _ _ (by intro e;injection e with q;omega)).trans e1,(Ju _ _ _ _ (by intro e;injection e with q;omega)).trans e3,(Ju _ _ _ _ (by intro e;injection e with q;omega)).trans hck,(Ju _ _ _ _ (by intro e;injection e with q;omega)).trans hck1⟩|go_keep)
     (first
     |((try go_simp);go_at_call 145;have _t:=tok1;refine(nW _ _ _ (HL.out k hk0).1 (HL.out (k+1) hlt).1 ((HL.out k hk0).2.trans (HL.out (k+1) hlt).2.symm)).mono ?_;rintro e w2 ⟨rfl,b2⟩;replace b2:Below wr.heap.size wr w2:=(by first|exact b2|exact aa ((Below.refl _ _).drew) b2);have hbl2:=hblk.below b2 hz;replace K1:=K1.below b2 K1.lt;replace K2:=K2.below b2 K2.lt;replace K3:=K3.below b2 K3.lt;replace e1:=K1.one.1;replace e3:=K3.one.1;replace hck:=(b2.cell (by exact hzb)).trans hck;replace hck1:=(b2.cell (by exact hzb)).trans hck1;have hcw2:w2.cell? ⟨g,k,none⟩=some (.string (sat l k)):=(hbl2.cell k).trans ((H.out.2.1 k hk0).trans (by rw[pt]));have hfw2:=hbl2.frozen k;clear tok1))
    all_goals
     go_wp2;go_roundw
     case rel=>
      have hB:=aa (show Below w.heap.size w wr from H.out.2.2) b2;exact⟨k+1,_,by omega,by go_num,hbl2.set_ k _,by rw[List.length_set];exact H.out.1,wk hlt (by rw[H.out.1];exact hlcap) H.out.2.1,hB.setCell (by show w.heap.size≤g;omega) _,K1.far (by show w.heap.size≠g;omega) _,K2.far (by show w.heap.size+1≠g;omega) _,K3.far (by show w1.heap.size≠g;omega) _⟩
     case measure=>simp[intOf];omega
   ·have HO:=Jj (Jq (wA OK.out (by omega) (show w.heap.size+1+1≤g by omega) hblk hlcap hcm H.out.1 H.out.2.1) H.out.2.2);go_wp2;refine bodyPost_ret (v:=.agg #[.slice (some ⟨g,0,none⟩) l.length cap]) (by simp[results,results63,go_sem,e2]) rfl ⟨_,rfl,?_,?_⟩
    ·exact(HO.out.1.setCell _ _ (by simp)).lower (by omega)
    ·exact HO.out.2.setCell (by simp) _
theorem nA (v:Value) (l:List ByteArray) (n:Nat) (w:World) (hv:aG w v l) (ok:af l=true) (hn:n≤300):
  Calls prog 184 #[v,.int .i64 n] w fun e w'=>∃r,e=.returned r∧aj w' w.heap.size r (aH l n)∧Below w.heap.size w w':=by
 have HV:=Jj hv;obtain⟨A,c,rfl,hlc,hc,hrd⟩:=hv.open_;have l7:=(ap.1 ok).2.1;have OK:=Jj ok;clear hrd hv ok
 go_enter func184,ntmps184
 go_wp2_with fail
 refine(fj _ l _ HV.out (by omega)).mono ?_;rintro e w1 ⟨r,rfl,ho,hb1⟩;have H0:=Jj (Jq ho hb1);clear ho hb1
 go_wp2_with fail
 go_loopw [1,5] (fun m x wr=>∃(k:Nat),k≤n∧m=.int .i64 ((n:Int)-(k:Int))∧aj wr w.heap.size x (aH l k)∧Below w.heap.size w wr) (fun m _ _=>(intOf m).toNat)
 case atStart=>exact⟨0,by omega,by simp,H0.out.1,H0.out.2⟩
 case round=>
  clear H0;obtain⟨k,hk,rfl,hox,hbel⟩:=hrel;have H:=Jj (Jq hox hbel);clear hox hbel;by_cases hlt:k<n
  ·go_wp2_with fail
   refine(iJ _ (aH l k) _ H.out.1.strs (eR OK.out k)).mono ?_;rintro e w2 ⟨r2,rfl,ho2,hb2⟩;have H2:=Jj (Jq (ho2.lower (base':=w.heap.size) H.out.2.size) (aa H.out.2 hb2));clear ho2 hb2
   go_wp2_with fail
   go_roundw
   case rel=>exact⟨k+1,by omega,by go_num,H2.out.1,H2.out.2⟩
   case measure=>simp[intOf];omega
  ·have:k=n:=by omega
   subst this
   go_wp2_with fail
   refine wp_loop_rounds 1 ?_;rw[rounds_succ]
   go_wp2_with fail
   go_ret;exact⟨_,rfl,H.out.1,H.out.2⟩
theorem Aa (v:Value) (l:List ByteArray) (n:Nat) (w:World) (hv:aG w v l) (ok:af l=true) (hn:n≤300):
  Calls prog 147 #[.agg #[v],.int .i64 n] w fun e w'=>∃r,e=.returned (.agg #[r])∧aj w' w.heap.size r (aH l n)∧Below w.heap.size w w':=by
 have HV:=Jj hv;obtain⟨A,c,rfl,hlc,hc,hrd⟩:=hv.open_;have l7:=(ap.1 ok).2.1;have OK:=Jj ok;clear hrd hv ok;have B0:=Jj (show Below w.heap.size w ((w.alloc (.cells #[.slice A l.length c] 32)).alloc (.cells #[.slice none 0 0] 32)) from(ab w _).alloc (by simp) _);have K1:=(Blk.new' w 32 (.slice A l.length c) w.heap.size rfl).alloc (.cells #[.slice none 0 0] 32);have K2:=Blk.new' (w.alloc (.cells #[.slice A l.length c] 32)) 32 (.slice none 0 0) (w.heap.size+1) (by simp);obtain⟨c0,-⟩:=K1.one
 go_enter func147,ntmps147
 go_wp2_with fail
 clear c0;generalize hW:(w.alloc (.cells #[.slice A l.length c] 32)).alloc (.cells #[.slice none 0 0] 32)=W at *;clear hW K1;refine(fm _ l _ (HV.out.bel B0.out) (by omega)).mono ?_;rintro e w1 ⟨r,rfl,ho,hb1⟩;have k2:=K2.lt;have hz1:=hb1.size;replace K2:=K2.below hb1 K2.lt;have HB1:=Jj (aa B0.out hb1);obtain⟨A1,c1,rfl,-,-,-⟩:=ho.strs.open_;have ba:Below w1.heap.size w1 (w1.alloc (.cells #[.slice A1 l.length c1] 32)):=ab w1 _;have K3:=Blk.new' w1 32 (.slice A1 l.length c1) _ rfl;have hlt1:=fun k hk=>(ho.lt k hk).2;replace K2:=K2.below ba K2.lt;have H0:=Jj (Jq ((ho.bel ba).lower (base':=w.heap.size+1+1) (by omega)) (Jq (aa HB1.out ba) (Jq K2 (Jq K3 hlt1))));clear ho hb1 K2 K3 hlt1
 go_wp2_with fail
 generalize hW3:w1.alloc (.cells #[.slice A1 l.length c1] 32)=W3 at *;clear hW3 ba
 go_loopw [6] (fun i wr=>∃(k:Nat) (x:Value),k≤n∧i=.int .i64 k∧aj wr (w.heap.size+1+1) x (aH l k)∧Below w.heap.size w wr∧Blk wr (w.heap.size+1) 32 [.slice none 0 0]∧Blk wr w1.heap.size 32 [x]∧(∀j,x.ownBlock=some j→j≠w1.heap.size)) (fun i _=>n-(intOf i).toNat)
 case atStart=>exact⟨0,_,by omega,rfl,H0.out.1,H0.out.2.1,H0.out.2.2.1,H0.out.2.2.2.1,fun j hj=>by have:=H0.out.2.2.2.2 j hj;omega⟩
 case round=>
  clear H0;obtain⟨k,x,hk,rfl,hox,hbel,K2,K3,hne⟩:=hrel;obtain⟨A4,c4,rfl,-,-,-⟩:=hox.strs.open_;have H:=Jj (Jq hox (Jq hbel hne));clear hox hbel hne;obtain⟨e3,f3⟩:=K3.one;by_cases hlt:k<n
  ·go_wp2_with fail
   refine(jO _ (aH l k) _ H.out.1.strs (eR OK.out k)).mono ?_;rintro e w2 ⟨r2,rfl,ho2,hb2⟩;have k3:=K3.lt;replace K2:=K2.below hb2 K2.lt;replace K3:=K3.below hb2 K3.lt;have H2:=Jj (Jq ho2 (aa H.out.2.1 hb2));obtain⟨A5,c5,rfl,-,-,-⟩:=ho2.strs.open_;clear ho2 hb2 e3 f3;obtain⟨e3,f3⟩:=K3.one
   go_wp2_with fail
   go_roundw
   case rel=>
    have z1:=H.out.2.1.size;refine⟨k+1,.slice A5 (bu (aH l k)).length c5,by omega,by go_num,?_,H2.out.2.setCell (by show w.heap.size≤w1.heap.size;omega) _,K2.far (by show w.heap.size+1≠w1.heap.size;omega) _,K3.set_ 0 _,fun j hj=>by have:=(H2.out.1.lt j hj).1;omega⟩;exact(H2.out.1.setCell _ _ (by show w1.heap.size<wr.heap.size;exact k3)).lower (by omega)
   case measure=>simp[intOf];omega
  ·have:k=n:=by omega
   subst this
   go_wp2_with fail
   refine wp_loop_rounds 1 ?_;rw[rounds_succ];obtain⟨e2,f2⟩:=K2.one;have k22:=K2.lt;generalize hp:(aH l k).length=p at *;clear hp
   go_wp2_with fail
   refine bodyPost_ret (v:=.agg #[.slice A4 p c4]) (by simp[results,results147,go_sem,e2]) rfl ⟨_,rfl,?_,?_⟩
   ·exact(H.out.1.setCell _ _ (by simp)).lower (by omega)
   ·exact H.out.2.1.setCell (by simp) _
theorem De {w:World} {base g cap:Nat} {cs:List Value} {l:List ByteArray} {f k:Nat} (ok:af l=true) (hf:k % 2=f) (hk:¬k+1<l.length) (hg:base≤g) (hb:Blk w g 9 cs) (hl:l.length≤cap) (hc:cap≤9223372036854775807) (hs:cs.length=cap)
  (h:∀j,j<l.length→cs[j]?=some (.string (kw l f k j))):aj w base (.slice (some ⟨g,0,none⟩) l.length cap) (aZ l f):=by
 have:=aj.mk' (l:=aZ l f) hg hb (by rw[bU];exact hl) hc hs (fun j hj=>by rw[bU] at hj;rw[h j hj,wg hf hk hj]) (iS (iB ok f));rwa[bU] at this
theorem xY (s t:ByteArray) (w:World) (hs:aP s=true) (ht:aP t=true) (he:s.size=t.size):
  Calls prog 146 #[.string s,.string t] w fun e w'=>e=.returned (.string (mV s t))∧Below w.heap.size w w':=by
 have k12:=(aQ hs);have c1:=iz hs;have c2:=iz ht;have HE:=Jj he;clear he
 go_enter func146,ntmps146
 go_wp2_with ((go_at_call 149;refine(iU _ _ (by assumption)).mono ?_;rintro e w' ⟨rfl,rfl⟩))
 refine(lE ((cv s:Int)-(cv t:Int)) s.size _ (by omega) ⟨k12.1,k12.2.1⟩).mono ?_;rintro e w' ⟨rfl,hb⟩;go_wp2;go_ret;exact⟨rfl,hb⟩
theorem rF (v:Value) (l:List ByteArray) (w:World) (hv:aG w v l) (ok:af l=true):
  Calls prog 65 #[.agg #[v]] w fun e w'=>∃r,e=.returned (.agg #[r])∧aj w' w.heap.size r (aY l)∧Below w.heap.size w w':=by
 have HV:=Jj hv;obtain⟨A,c,rfl,hlc,hc,hrd⟩:=hv.open_;obtain⟨l1,l7,hcol⟩:=ap.1 ok;obtain⟨b,o,rfl,hb,hcell⟩:=hrd.strs (by omega);have HC:=Jj hcell;have HL:=Jj hcol;have OK:=Jj ok;clear hrd hv hcell hcol ok;have B0:=Jj (show Below w.heap.size w ((w.alloc (.cells #[.slice (some ⟨b,o,none⟩) l.length c] 32)).alloc (.cells #[.slice none 0 0] 32)) from(ab w _).alloc (by simp) _);have K1:=(Blk.new' w 32 (.slice (some ⟨b,o,none⟩) l.length c) w.heap.size rfl).alloc (.cells #[.slice none 0 0] 32);have K2:=Blk.new' (w.alloc (.cells #[.slice (some ⟨b,o,none⟩) l.length c] 32)) 32 (.slice none 0 0) (w.heap.size+1) (by simp);obtain⟨c0,-⟩:=K1.one
 go_enter func65,ntmps65
 go_wp2_with fail
 clear c0;generalize hW:(w.alloc (.cells #[.slice (some ⟨b,o,none⟩) l.length c] 32)).alloc (.cells #[.slice none 0 0] 32)=W at *;clear hW;refine(fm _ l _ (HV.out.bel B0.out) (by omega)).mono ?_;rintro e w1 ⟨r,rfl,ho,hb1⟩;have k2:=K2.lt;replace K1:=K1.below hb1 K1.lt;replace K2:=K2.below hb1 K2.lt;have HB1:=Jj (aa B0.out hb1)
 rcases ho.form with ⟨_,h0⟩|⟨g,cap,cs0,rfl,hg,hblk0,hlcap,hcm,hcl0,hcs0⟩
 ·exfalso;rw[h0] at l1;simp at l1
 ·have H0:=Jj (Jq hcl0 hcs0);have hg2:w.heap.size+1<g:=by omega
  have hgz:=hblk0.lt;have hbg:b<w1.heap.size:=by have:=HB1.out.size;omega
  clear hcl0 hcs0 hb1 ho;have ba:Below w1.heap.size w1 (w1.alloc (.cells #[.slice (some ⟨g,0,none⟩) l.length cap] 32)):=ab w1 _;have K3:=Blk.new' w1 32 (.slice (some ⟨g,0,none⟩) l.length cap) _ rfl;replace K1:=K1.below ba K1.lt;replace K2:=K2.below ba K2.lt;have hblk:=hblk0.below ba hgz;have HB:=Jj (aa HB1.out ba);obtain⟨y1,-⟩:=K1.one
  go_wp2_with fail
  clear y1;generalize hW3:w1.alloc (.cells #[.slice (some ⟨g,0,none⟩) l.length cap] 32)=W3 at *;clear hW3 ba hblk0;have HK:=Jj (Jq K1 (Jq K2 K3));clear K1 K2 K3 k2
  go_loopw [4] (fun i wr=>∃(k:Nat) (cs:List Value),k<l.length∧i=.int .i64 ((k:Int)-1)∧Blk wr g 9 cs∧cs.length=cap∧(∀j,j<l.length→cs[j]?=some (.string (jQ l k j)))∧Below w.heap.size w wr∧Blk wr w.heap.size 32 [.slice (some ⟨b,o,none⟩) l.length c]∧Blk wr (w.heap.size+1) 32 [.slice none 0 0]∧Blk wr w1.heap.size 32 [.slice (some ⟨g,0,none⟩) l.length cap])
   (fun i _=>((intOf i)+1).toNat)
  case atStart=>exact⟨l.length-1,cs0,by omega,by go_num,hblk,H0.out.1,fun j hj=>by rw[rI (by omega) j hj];exact H0.out.2 j hj,HB.out,HK.out.1,HK.out.2.1,HK.out.2.2⟩
  case round=>
   clear HK HB hblk;obtain⟨k,cs,hk,rfl,hblk,hcl,hcs,hbel,K1,K2,K3⟩:=hrel;have H:=Jj (Jq hcl (Jq hcs hbel));clear hcl hcs hbel H0;obtain⟨e1,-⟩:=K1.one;obtain⟨e2,f2⟩:=K2.one;obtain⟨e3,-⟩:=K3.one;cases k with
   |zero=>
    have HO:=Jj (Jq (ww OK.out (show w.heap.size+1+1≤g by omega) hblk hlcap hcm H.out.1 H.out.2.1) H.out.2.2);go_wp2;refine bodyPost_ret (v:=.agg #[.slice (some ⟨g,0,none⟩) l.length cap]) (by simp[results,results65,go_sem,e2]) rfl ⟨_,rfl,?_,?_⟩
    ·exact(HO.out.1.setCell _ _ (by simp)).lower (by omega)
    ·exact HO.out.2.setCell (by simp) _
   |succ k=>
    have hck:wr.cell? ⟨b,o+k,none⟩=some (.string (sat l k)):=(H.out.2.2.cell (by exact hb)).trans (HC.out k (by omega));have hcn:wr.cell? ⟨g,k+1,none⟩=some (.string (sat (aY l) (k+1))):=by rw[hblk.cell,H.out.2.1 (k+1) hk];unfold jQ;rw[if_pos (Jr _)]
    have hcw:wr.cell? ⟨g,k,none⟩=some (.string (sat l k)):=by rw[hblk.cell,H.out.2.1 k (by omega)];unfold jQ;rw[if_neg (by omega)]
    have hkk:(((k+1:Nat):Int)-1)=(k:Int):=by omega
    rw[hkk];have hp:(k:Int)+1<(l.length:Int):=by omega
    have hp0:(0:Int)≤(k:Int)+1:=by omega
    have hwr:IntKind.i64.wrap ((k:Int)+1)=(k:Int)+1:=(by first|go_num|(rw[IntWalk.i64_in] <;> omega));have htn:((k:Int)+1).toNat=k+1:=by omega
    have hk0:k<l.length:=by omega
    have hpk:(k:Int)<(l.length:Int):=by omega
    have hpk0:(0:Int)≤(k:Int):=by omega
    have hz:=hblk.lt;have hne1:=HB1.out.size;have hzb:b<wr.heap.size:=by have:=H.out.2.2.size;omega
    have BK:=Jj (fy OK.out (k+1) hk);clear e2 f2;have tok1:True:=trivial
    go_wp2_with fail
    go_region_held3 (fun w'=>w'.cell? ⟨w.heap.size,0,none⟩=some (.slice (some ⟨b,o,none⟩) l.length c)∧w'.cell? ⟨w1.heap.size,0,none⟩=some (.slice (some ⟨g,0,none⟩) l.length cap)∧w'.cell? ⟨b,o+k,none⟩=some (.string (sat l k))∧w'.cell? ⟨g,k+1,none⟩=some (.string (sat (aY l) (k+1))))
     (first|exact⟨e1,e3,hck,hcn⟩|exact⟨(Ju _ _ _ _ (by intro e;injection e with q;omega)).trans e1,(Ju _ _ _ _ (by intro e;injection e with q;omega)).trans e3,(Ju _ _ _ _ (by intro e;injection e with q;omega)).trans hck,(Ju _ _ _ _ (by intro e;injection e with q1 q2;omega)).trans hcn⟩|go_keep)
     (first
     |((try go_simp);go_at_call 146;have _t:=tok1;refine(xY _ _ _ (HL.out k hk0).1 BK.out.1 ((HL.out k hk0).2.trans BK.out.2.symm)).mono ?_;rintro e w2 ⟨rfl,b2⟩;replace b2:Below wr.heap.size wr w2:=(by first|exact b2|exact aa ((Below.refl _ _).drew) b2);have hbl2:=hblk.below b2 hz;replace K1:=K1.below b2 K1.lt;replace K2:=K2.below b2 K2.lt;replace K3:=K3.below b2 K3.lt;replace e1:=K1.one.1;replace e3:=K3.one.1;replace hck:=(b2.cell (by exact hzb)).trans hck;replace hcn:=(b2.cell hz).trans hcn;have hcw2:w2.cell? ⟨g,k,none⟩=some (.string (sat l k)):=(b2.cell hz).trans hcw;have hfw2:=hbl2.frozen k;clear tok1))
    all_goals
     go_wp2;go_roundw
     case rel=>
      have hB:=aa (show Below w.heap.size w wr from H.out.2.2) b2;exact⟨k,_,by omega,by go_num,hbl2.set_ k _,by rw[List.length_set];exact H.out.1,we hk (by rw[H.out.1];exact hlcap) H.out.2.1,hB.setCell (by show w.heap.size≤g;omega) _,K1.far (by show w.heap.size≠g;omega) _,K2.far (by show w.heap.size+1≠g;omega) _,K3.far (by show w1.heap.size≠g;omega) _⟩
     case measure=>simp[intOf]
theorem rE (v:Value) (l:List ByteArray) (f:Nat) (w:World) (hv:aG w v l) (ok:af l=true) (hf1:f≤1):
  Calls prog 148 #[.agg #[v],.int .i64 f] w fun e w'=>∃r,e=.returned (.agg #[r])∧aj w' w.heap.size r (aZ l f)∧Below w.heap.size w w':=by
 have HV:=Jj hv;obtain⟨A,c,rfl,hlc,hc,hrd⟩:=hv.open_;obtain⟨l1,l7,hcol⟩:=ap.1 ok;obtain⟨b,o,rfl,hb,hcell⟩:=hrd.strs (by omega);have HC:=Jj hcell;have HL:=Jj hcol;have OK:=Jj ok;clear hrd hv hcell hcol ok;have B0:=Jj (show Below w.heap.size w ((w.alloc (.cells #[.slice (some ⟨b,o,none⟩) l.length c] 32)).alloc (.cells #[.slice none 0 0] 32)) from(ab w _).alloc (by simp) _);have K1:=(Blk.new' w 32 (.slice (some ⟨b,o,none⟩) l.length c) w.heap.size rfl).alloc (.cells #[.slice none 0 0] 32);have K2:=Blk.new' (w.alloc (.cells #[.slice (some ⟨b,o,none⟩) l.length c] 32)) 32 (.slice none 0 0) (w.heap.size+1) (by simp);obtain⟨c0,-⟩:=K1.one
 go_enter func148,ntmps148
 go_wp2_with fail
 clear c0;generalize hW:(w.alloc (.cells #[.slice (some ⟨b,o,none⟩) l.length c] 32)).alloc (.cells #[.slice none 0 0] 32)=W at *;clear hW;refine(fm _ l _ (HV.out.bel B0.out) (by omega)).mono ?_;rintro e w1 ⟨r,rfl,ho,hb1⟩;have k2:=K2.lt;replace K1:=K1.below hb1 K1.lt;replace K2:=K2.below hb1 K2.lt;have HB1:=Jj (aa B0.out hb1)
 rcases ho.form with ⟨_,h0⟩|⟨g,cap,cs0,rfl,hg,hblk0,hlcap,hcm,hcl0,hcs0⟩
 ·exfalso;rw[h0] at l1;simp at l1
 ·have H0:=Jj (Jq hcl0 hcs0);have hg2:w.heap.size+1<g:=by omega
  have hgz:=hblk0.lt;have hbg:b<w1.heap.size:=by have:=HB1.out.size;omega
  clear hcl0 hcs0 hb1 ho;have ba:Below w1.heap.size w1 (w1.alloc (.cells #[.slice (some ⟨g,0,none⟩) l.length cap] 32)):=ab w1 _;have K3:=Blk.new' w1 32 (.slice (some ⟨g,0,none⟩) l.length cap) _ rfl;replace K1:=K1.below ba K1.lt;replace K2:=K2.below ba K2.lt;have hblk:=hblk0.below ba hgz;have HB:=Jj (aa HB1.out ba)
  go_wp2_with fail
  generalize hW3:w1.alloc (.cells #[.slice (some ⟨g,0,none⟩) l.length cap] 32)=W3 at *;clear hW3 ba hblk0;have HK:=Jj (Jq K1 (Jq K2 K3));clear K1 K2 K3 k2
  go_loopw [6] (fun i wr=>∃(k:Nat) (cs:List Value),(k≤l.length+1∧k % 2=f)∧i=.int .i64 k∧Blk wr g 9 cs∧cs.length=cap∧(∀j,j<l.length→cs[j]?=some (.string (kw l f k j)))∧Below w.heap.size w wr∧Blk wr w.heap.size 32 [.slice (some ⟨b,o,none⟩) l.length c]∧Blk wr (w.heap.size+1) 32 [.slice none 0 0]∧Blk wr w1.heap.size 32 [.slice (some ⟨g,0,none⟩) l.length cap])
   (fun i _=>l.length+2-(intOf i).toNat)
  case atStart=>exact⟨f,cs0,⟨by omega,by omega⟩,rfl,hblk,H0.out.1,fun j hj=>by rw[rJ l f j hf1 hj];exact H0.out.2 j hj,HB.out,HK.out.1,HK.out.2.1,HK.out.2.2⟩
  case round=>
   clear HK HB hblk;obtain⟨k,cs,⟨hk,hkf⟩,rfl,hblk,hcl,hcs,hbel,K1,K2,K3⟩:=hrel;have H:=Jj (Jq hcl (Jq hcs hbel));have HKF:=Jj hkf;clear hkf;clear hcl hcs hbel H0;obtain⟨e1,-⟩:=K1.one;obtain⟨e2,f2⟩:=K2.one;obtain⟨e3,-⟩:=K3.one;by_cases hlt:k+1<l.length
   ·have hck:wr.cell? ⟨b,o+k,none⟩=some (.string (sat l k)):=(H.out.2.2.cell (by exact hb)).trans (HC.out k (by omega));have hck1:wr.cell? ⟨b,o+(k+1),none⟩=some (.string (sat l (k+1))):=(H.out.2.2.cell (by exact hb)).trans (HC.out (k+1) hlt);have hp:(k:Int)+1<(l.length:Int):=by omega
    have hp0:(0:Int)≤(k:Int)+1:=by omega
    have hwr:IntKind.i64.wrap ((k:Int)+1)=(k:Int)+1:=(by first|go_num|(rw[IntWalk.i64_in] <;> omega));have htn:((k:Int)+1).toNat=k+1:=by omega
    have hk0:k<l.length:=by omega
    have hpk:(k:Int)<(l.length:Int):=by omega
    have hpk0:(0:Int)≤(k:Int):=by omega
    have hz:=hblk.lt;have hne1:=HB1.out.size;have hzb:b<wr.heap.size:=by have:=H.out.2.2.size;omega
    clear e2 f2;have tok1:True:=trivial
    go_wp2_with fail
    go_region_held3 (fun w'=>w'.cell? ⟨w.heap.size,0,none⟩=some (.slice (some ⟨b,o,none⟩) l.length c)∧w'.cell? ⟨w1.heap.size,0,none⟩=some (.slice (some ⟨g,0,none⟩) l.length cap)∧w'.cell? ⟨b,o+k,none⟩=some (.string (sat l k))∧w'.cell? ⟨b,o+(k+1),none⟩=some (.string (sat l (k+1))))
     (first|exact⟨e1,e3,hck,hck1⟩|exact⟨(Ju _ _ _ _ (by intro e;injection e with q;omega)).trans e1,(Ju _ _ _ _ (by intro e;injection e with q;omega)).trans e3,(Ju _ _ _ _ (by intro e;injection e with q;omega)).trans hck,(Ju _ _ _ _ (by intro e;injection e with q;omega)).trans hck1⟩|go_keep)
     (first
     |((try go_simp);go_at_call 145;have _t:=tok1;refine(nW _ _ _ (HL.out k hk0).1 (HL.out (k+1) hlt).1 ((HL.out k hk0).2.trans (HL.out (k+1) hlt).2.symm)).mono ?_;rintro e w2 ⟨rfl,b2⟩;replace b2:Below wr.heap.size wr w2:=(by first|exact b2|exact aa ((Below.refl _ _).drew) b2);have hbl2:=hblk.below b2 hz;replace K1:=K1.below b2 K1.lt;replace K2:=K2.below b2 K2.lt;replace K3:=K3.below b2 K3.lt;replace e1:=K1.one.1;replace e3:=K3.one.1;replace hck:=(b2.cell (by exact hzb)).trans hck;replace hck1:=(b2.cell (by exact hzb)).trans hck1;have hcw2:w2.cell? ⟨g,k,none⟩=some (.string (sat l k)):=(hbl2.cell k).trans ((H.out.2.1 k hk0).trans (by unfold kw;rw[if_neg (by omega)]));have hfw2:=hbl2.frozen k;clear tok1))
    all_goals
     go_wp2;go_roundw
     case rel=>
      have hB:=aa (show Below w.heap.size w wr from H.out.2.2) b2;exact⟨k+2,_,⟨by omega,by have:=HKF.out;omega⟩,by go_num,hbl2.set_ k _,by rw[List.length_set];exact H.out.1,wh HKF.out hlt (by rw[H.out.1];exact hlcap) H.out.2.1,hB.setCell (by show w.heap.size≤g;omega) _,K1.far (by show w.heap.size≠g;omega) _,K2.far (by show w.heap.size+1≠g;omega) _,K3.far (by show w1.heap.size≠g;omega) _⟩
     case measure=>simp[intOf];omega
   ·have HO:=Jj (Jq (De OK.out HKF.out (by omega) (show w.heap.size+1+1≤g by omega) hblk hlcap hcm H.out.1 H.out.2.1) H.out.2.2);go_wp2;refine bodyPost_ret (v:=.agg #[.slice (some ⟨g,0,none⟩) l.length cap]) (by simp[results,results148,go_sem,e2]) rfl ⟨_,rfl,?_,?_⟩
    ·exact(HO.out.1.setCell _ _ (by simp)).lower (by omega)
    ·exact HO.out.2.setCell (by simp) _
theorem mH (v:Value) (l:List ByteArray) (n:Nat) (w:World) (hv:aG w v l) (ok:af l=true) (hn:n≤300):
  Calls prog 147 #[.agg #[v],.int .i64 (-(n:Int))] w fun e w'=>∃r,e=.returned (.agg #[r])∧aj w' w.heap.size r (aT l n)∧Below w.heap.size w w':=by
 have HV:=Jj hv;obtain⟨A,c,rfl,hlc,hc,hrd⟩:=hv.open_;have l7:=(ap.1 ok).2.1;have OK:=Jj ok;clear hrd hv ok;have B0:=Jj (show Below w.heap.size w ((w.alloc (.cells #[.slice A l.length c] 32)).alloc (.cells #[.slice none 0 0] 32)) from(ab w _).alloc (by simp) _);have K1:=(Blk.new' w 32 (.slice A l.length c) w.heap.size rfl).alloc (.cells #[.slice none 0 0] 32);have K2:=Blk.new' (w.alloc (.cells #[.slice A l.length c] 32)) 32 (.slice none 0 0) (w.heap.size+1) (by simp);obtain⟨c0,-⟩:=K1.one
 go_enter func147,ntmps147
 go_wp2_with fail
 clear c0;generalize hW:(w.alloc (.cells #[.slice A l.length c] 32)).alloc (.cells #[.slice none 0 0] 32)=W at *;clear hW K1;refine(fm _ l _ (HV.out.bel B0.out) (by omega)).mono ?_;rintro e w1 ⟨r,rfl,ho,hb1⟩;have k2:=K2.lt;have hz1:=hb1.size;replace K2:=K2.below hb1 K2.lt;have HB1:=Jj (aa B0.out hb1);obtain⟨A1,c1,rfl,-,-,-⟩:=ho.strs.open_;have ba:Below w1.heap.size w1 (w1.alloc (.cells #[.slice A1 l.length c1] 32)):=ab w1 _;have K3:=Blk.new' w1 32 (.slice A1 l.length c1) _ rfl;have hlt1:=fun k hk=>(ho.lt k hk).2;replace K2:=K2.below ba K2.lt;have H0:=Jj (Jq ((ho.bel ba).lower (base':=w.heap.size+1+1) (by omega)) (Jq (aa HB1.out ba) (Jq K2 (Jq K3 hlt1))));clear ho hb1 K2 K3 hlt1
 go_wp2_with fail
 generalize hW3:w1.alloc (.cells #[.slice A1 l.length c1] 32)=W3 at *;clear hW3 ba;have hn0:¬(0:Int) < -(n:Int):=by omega
 refine wp_loop_rounds 1 ?_;rw[rounds_succ]
 go_wp2_with fail
 have hnn:IntKind.i64.wrap (-(-(n:Int)))=(n:Int):=(IntWalk.i64_left _).trans (by rw[Int.neg_neg];exact IntWalk.wrap64_in _ (by omega))
 go_loopw [7] (fun i wr=>∃(k:Nat) (x:Value),k≤n∧i=.int .i64 k∧aj wr (w.heap.size+1+1) x (aT l k)∧Below w.heap.size w wr∧Blk wr (w.heap.size+1) 32 [.slice none 0 0]∧Blk wr w1.heap.size 32 [x]∧(∀j,x.ownBlock=some j→j≠w1.heap.size)) (fun i _=>n-(intOf i).toNat)
 case atStart=>exact⟨0,_,by omega,rfl,H0.out.1,H0.out.2.1,H0.out.2.2.1,H0.out.2.2.2.1,fun j hj=>by have:=H0.out.2.2.2.2 j hj;omega⟩
 case round=>
  clear H0;obtain⟨k,x,hk,rfl,hox,hbel,K2,K3,hne⟩:=hrel;obtain⟨A4,c4,rfl,-,-,-⟩:=hox.strs.open_;have H:=Jj (Jq hox (Jq hbel hne));clear hox hbel hne;obtain⟨e3,f3⟩:=K3.one;by_cases hlt:k<n
  ·go_wp2_with fail
   refine(rF _ (aT l k) _ H.out.1.strs (ek OK.out k)).mono ?_;rintro e w2 ⟨r2,rfl,ho2,hb2⟩;have k3:=K3.lt;replace K2:=K2.below hb2 K2.lt;replace K3:=K3.below hb2 K3.lt;have H2:=Jj (Jq ho2 (aa H.out.2.1 hb2));obtain⟨A5,c5,rfl,-,-,-⟩:=ho2.strs.open_;clear ho2 hb2 e3 f3;obtain⟨e3,f3⟩:=K3.one
   go_wp2_with fail
   go_roundw
   case rel=>
    have z1:=H.out.2.1.size;refine⟨k+1,.slice A5 (aY (aT l k)).length c5,by omega,by go_num,?_,H2.out.2.setCell (by show w.heap.size≤w1.heap.size;omega) _,K2.far (by show w.heap.size+1≠w1.heap.size;omega) _,K3.set_ 0 _,fun j hj=>by have:=(H2.out.1.lt j hj).1;omega⟩;exact(H2.out.1.setCell _ _ (by show w1.heap.size<wr.heap.size;exact k3)).lower (by omega)
   case measure=>simp[intOf];omega
  ·have:k=n:=by omega
   subst this;obtain⟨e2,f2⟩:=K2.one;have k22:=K2.lt;generalize hp:(aT l k).length=p at *;clear hp
   go_wp2_with fail
   refine bodyPost_ret (v:=.agg #[.slice A4 p c4]) (by simp[results,results147,go_sem,e2]) rfl ⟨_,rfl,?_,?_⟩
   ·exact(H.out.1.setCell _ _ (by simp)).lower (by omega)
   ·exact H.out.2.1.setCell (by simp) _
theorem vU (v:Value) (l:List ByteArray) (w:World) (hv:aG w v l) (ok:af l=true):
  Calls prog 69 #[.agg #[v]] w fun e w'=>∃r,e=.returned (.agg #[r])∧aj w' w.heap.size r (aZ (aZ l 0) 1)∧Below w.heap.size w w':=by
 have HV:=Jj hv;have OK:=Jj ok;obtain⟨A,c,rfl,-,-,-⟩:=hv.open_;clear hv ok;have B0:=Jj (show Below w.heap.size w ((w.alloc (.cells #[.slice A l.length c] 32)).alloc (.cells #[.slice none 0 0] 32)) from(ab w _).alloc (by simp) _);have K0:=(Blk.new' w 32 (.slice A l.length c) w.heap.size rfl).alloc (.cells #[.slice none 0 0] 32);have K2:=Blk.new' (w.alloc (.cells #[.slice A l.length c] 32)) 32 (.slice none 0 0) (w.heap.size+1) (by simp);obtain⟨c0,-⟩:=K0.one
 go_enter func69,ntmps69
 go_wp2_with fail
 clear c0;generalize hW:(w.alloc (.cells #[.slice A l.length c] 32)).alloc (.cells #[.slice none 0 0] 32)=W at *;have hWz:W.heap.size=w.heap.size+2:=by rw[←hW];simp
 clear hW;refine(show Calls prog 148 #[.agg #[.slice A l.length c],.int .i64 0] W _ from rE _ l 0 _ (HV.out.bel B0.out) OK.out (by omega)).mono ?_;rintro e w1 ⟨r,rfl,o1,b1⟩;obtain⟨A1,c1,rfl,-,-,-⟩:=o1.strs.open_;have K3:=K2.below b1 K2.lt;have HO:=Jj (Jq o1 (aa B0.out b1));have hz1:=b1.size;clear o1 b1 K0
 go_wp2_with fail
 refine(show Calls prog 148 #[.agg #[.slice A1 (aZ l 0).length c1],.int .i64 1] w1 _ from rE _ (aZ l 0) 1 _ HO.out.1.strs (iB OK.out 0) (by omega)).mono ?_;rintro e w2 ⟨r,rfl,o2,b2⟩;obtain⟨A2,c2',rfl,-,-,-⟩:=o2.strs.open_;have K4:=K3.below b2 K3.lt;have HP:=Jj (Jq (o2.lower (base':=w.heap.size+1+1) (by omega)) (aa HO.out.2 b2));clear o2 b2 K2 K3;obtain⟨c2,f2⟩:=K4.one;generalize hp:(aZ (aZ l 0) 1).length=p at *;clear hp;go_wp2;refine bodyPost_ret (v:=.agg #[.slice A2 p c2']) (by simp[results,results69,go_sem,c2]) rfl ⟨_,rfl,(HP.out.1.setCell _ _ (by simp)).lower (by omega),HP.out.2.setCell (by simp) _⟩
end Go.Proofs.YtfmjklgfpiffbaaGreatDoor
