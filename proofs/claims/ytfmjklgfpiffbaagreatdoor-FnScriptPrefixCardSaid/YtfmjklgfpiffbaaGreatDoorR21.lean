/-
  Parts of the proof of one statement, merged: Total Run RunI WhB WhC WhD.
-/
import Derived.Test.YtfmjklgfpiffbaaGreatDoorR14
import Derived.Test.YtfmjklgfpiffbaaGreatDoorR17
namespace Go.Proofs.YtfmjklgfpiffbaaGreatDoor
open Go.RowKit Go.Proofs.Tryz
set_option linter.unusedVariables false
set_option linter.unusedSimpArgs false
set_option maxRecDepth 100000
set_option maxHeartbeats 8000000
attribute [local go_sem ↓] Go.wp_at_zero Go.wp_at_succ
theorem Tryz.fieldEng (A:Option Addr) (n c:Nat) (W:World):(Instr.field 32 (.agg #[.slice A n c]) 0).run prog W=.ok (.slice A n c) W:=by kernel_rfl
def Off (x:Value) (l:List ByteArray) (Q:Nat→Prop):Prop:=∀a n c,x=.slice (some a) n c→0<l.length→Q a.block
theorem Off.mono {x:Value} {l:List ByteArray} {Q R:Nat→Prop} (h:Off x l Q) (hk:∀k,Q k→R k):Off x l R:=fun a n c e hl=>hk _ (h a n c e hl)
theorem aG.off {w:World} {x:Value} {l:List ByteArray} (h:aG w x l):Off x l (fun k=>k<w.heap.size):=h.low
theorem aj.off {w:World} {base:Nat} {x:Value} {l:List ByteArray} (h:aj w base x l):Off x l (fun k=>base≤k):=by
 intro a n c e hl
 rcases h.form with ⟨rfl,_⟩|⟨g,cap,cs,rfl,hg,_⟩
 ·cases e
 ·injection e with e1;injection e1 with e1;rw[←e1];exact hg
theorem aG.setFar {w:World} {x:Value} {l:List ByteArray} (h:aG w x l) (p:Addr) (u:Value) (hp:Off x l (fun k=>p.block≠k)):aG (w.setCell p u) x l:=by
 obtain⟨⟨A,c,rfl,h1,h2,h3⟩,hwf⟩:=h;refine⟨⟨A,c,rfl,h1,h2,fun hn=>?_⟩,hwf⟩;obtain⟨b,o,rfl,hlt,hc⟩:=h3 hn;have hb:=hp _ _ _ rfl (by rw[ed] at hn;exact hn);exact⟨b,o,rfl,by simpa using hlt,fun k u hu=>(World.cell?_setCell_far _ _ _ _ (by simpa using hb)).trans (hc k u hu)⟩
theorem aG.rowFar {w w':World} {x:Value} {l:List ByteArray} {row:Option Nat} (h:aG w x l) (hg:w.grownBy w' row) (hx:Off x l (fun k=>some k≠row)):aG w' x l:=by
 obtain⟨⟨A,c,rfl,h1,h2,h3⟩,hwf⟩:=h;refine⟨⟨A,c,rfl,h1,h2,fun hn=>?_⟩,hwf⟩;obtain⟨b,o,rfl,hlt,hc⟩:=h3 hn;have hb:=hx _ _ _ rfl (by rw[ed] at hn;exact hn);exact⟨b,o,rfl,Jw hlt hg.size,fun k u hu=>hg.cell (hc k u hu) (fun e=>hb e)⟩
theorem Own.setCell {w:World} {base:Nat} {v:Value} {l:List Int} (h:Own w base v l) (p:Addr) (u:Value) (hp:p.block<base):Own (w.setCell p u) base v l:=
 h.far (row:=some p.block) (dl (World.grownBy.refl w (some p.block)) (.inl rfl) u) (fun k hk=>by injection hk with hk;omega)
theorem Dz (l:List ByteArray) (n:Nat):sZ l (n+1)=sZ l n++[sg (sat (aH l n) 0)]:=fE _ _
theorem qt (l:List ByteArray) (n:Nat):(sZ l n).length=n:=ar _ _
def zv (w:World) (l:List Int) (q:Bool) (e:Ending) (w':World):Prop:=
 ∃r,e=.returned (.tuple #[r,.bool q])∧Own w' w.heap.size r l∧Below w.heap.size w w'
def cu (l:List ByteArray) (n:Int):Bool:=af l&&inB n 0 60
def fI (l:List ByteArray) (n:Int):List Int:=if cu l n=true then sZ l n.toNat else[]
theorem sY {l:List ByteArray} {n:Int} (h:af l=false):cu l n=false:=by simp[cu,h]
theorem zl {l:List ByteArray} {n:Int} (h:inB n 0 60=false):cu l n=false:=by simp[cu,h]
theorem sX {l:List ByteArray} {n:Int} (h:cu l n=false):fI l n=[]:=by simp[fI,h]
theorem wT {l:List ByteArray} {n:Nat} (h:cu l n=true):fI l n=sZ l n:=by simp[fI,h]
theorem EG {l:List ByteArray} (h:af l=true) (n:Nat):aP (sat (aH l n) 0)=true:=((ap.1 (eR h n)).2.2 0 (ap.1 (eR h n)).1).1
theorem mG (u:Value) (l:List ByteArray) (n:Int) (w:World) (hu:aG w u l):
  Calls prog 160 #[.agg #[u],.int .i64 n] w fun e w'=>e=.returned (.bool (cu l n))∧Below w.heap.size w w':=by
 have HU:=Jj hu;obtain⟨A,c,rfl,-,-,-⟩:=hu.open_;clear hu;have B0:=ab w (.cells #[.slice A l.length c] 32)
 go_enter func160,ntmps160
 go_wp2_with fail
 refine(dX _ l _ (HU.out.bel B0)).mono ?_;rintro e w2 ⟨rfl,hb⟩;have HB:=Jj (aa B0 hb);clear B0 hb;cases he:af l
 ·have HN:=Jj (sY (n:=n) he);go_wp2;go_ret;exact⟨aD HN.out.symm,HB.out⟩
 ·have HN:=Jj (show cu l n=inB n 0 60 by simp[cu,he])
  go_wp2_with (go_at_call 72;refine(aL _ _ _ _).mono ?_;rintro e w' ⟨rfl,rfl⟩)
  go_ret;exact⟨aD HN.out.symm,HB.out⟩
theorem yB (u:Value) (l:List ByteArray) (n:Int) (w:World) (hu:aG w u l) (hn : -9223372036854775808≤n∧n≤9223372036854775807):
  Calls prog 86 #[.agg #[u],.int .i64 n] w (zv w (fI l n) (cu l n)):=by
 have HU:=Jj hu;have HOF:=Jj hu.off;obtain⟨A,c,rfl,-,-,-⟩:=hu.open_;clear hu;have B0:=Jj (show Below w.heap.size w ((w.alloc (.cells #[.slice A l.length c] 32)).alloc (.cells #[] 3)) from(ab w _).alloc (by simp) _);have K0:=(Blk.new' w 32 (.slice A l.length c) w.heap.size rfl).alloc (.cells #[] 3);have OE:=Own.empty (w.alloc (.cells #[.slice A l.length c] 32)) (w.heap.size+1) (by simp);rw[show(w.alloc (.cells #[.slice A l.length c] 32)).heap.size=w.heap.size+1 by simp] at OE;obtain⟨c0,-⟩:=K0.one
 go_enter func86,ntmps86
 go_wp2_with fail
 clear c0;generalize hW:(w.alloc (.cells #[.slice A l.length c] 32)).alloc (.cells #[] 3)=W at *;clear hW;refine(mG _ l n _ (HU.out.bel B0.out)).mono ?_;rintro e w2 ⟨rfl,hb⟩;have k0:=K0.lt;replace K0:=K0.below hb K0.lt;have HOE:=Jj (OE.bel hb);have HB:=Jj (aa B0.out hb);have hz:=HB.out.size;clear hb OE;cases ho:cu l n
 ·have HN:=Jj (sX ho);go_wp2;go_ret2;exact⟨_,by rw[ho];rfl,by rw[HN.out];exact HOE.out.lower (by omega),HB.out⟩
 ·have ho2:=ho;simp only[cu,JB] at ho2;have hn2:=am.1 ho2.2;obtain⟨n,rfl⟩:∃k:Nat,n=k:=⟨n.toNat,by omega⟩;have HY:=Jj (Jq ho (Jq (wT ho) ho2.1));have n60:n≤60:=by omega
  have HX:=Jj (HU.out.bel HB.out);clear ho ho2 hn2 hn
  go_wp2_with fail
  go_loopw [6,7] (fun y i wr=>∃(k:Nat) (x:Value),k≤n∧i=.int .i64 k∧Own wr (w.heap.size+1) y (sZ l k)∧Blk wr w.heap.size 32 [x]∧aG wr x (aH l k)∧Off x (aH l k) (fun j=>j≠w.heap.size∧some j≠y.ownBlock)∧Below w.heap.size w wr)
   (fun _ i _=>n-(intOf i).toNat)
  case atStart=>
   refine⟨0,_,Jy _,rfl,HOE.out,K0,HX.out,fun a m c e hl=>?_,HB.out⟩;have:=HOF.out a m c e hl;refine⟨by omega,fun e=>?_⟩;injection e with e;have e':a.block=w.heap.size+1:=e;omega
  case round=>
   clear HOE K0 HX HB;obtain⟨k,x,hk,rfl,hown,K0,hx,hoff,hbel⟩:=hrel;have H:=Jj (Jq hown (Jq hx (Jq hoff hbel)));have E0:=EG HY.out.2.2 k;obtain⟨t1,t7,-⟩:=ap.1 (eR HY.out.2.2 k);obtain⟨A4,c4,rfl,-,-,hrd⟩:=hx.open_;obtain⟨b,o,rfl,hbb,hcell⟩:=hrd.strs (by omega);have ca:=hcell 0 (by omega);rw[Nat.add_zero] at ca;clear hown hx hoff hbel hcell hrd;obtain⟨e0,f0⟩:=K0.one;have hzz:=H.out.2.2.2.size;have hrl:=qt l k;by_cases hlt:k<n
   ·have ca2:(wr.alloc (.cells #[.int .i64 (sg (sat (aH l k) 0))] 3)).cell? ⟨w.heap.size,0,none⟩=some (.slice (some ⟨b,o,none⟩) (aH l k).length c4):=((ab wr _).cell (by exact K0.lt)).trans e0
    go_wp2_with (first|(go_at_call 70;refine(jL _ _ (by assumption)).mono ?_;rintro e w' ⟨rfl,rfl⟩)|(at_builtin;refine du rfl (.tmp 19) (.tmp 25) (by rfl) (w.heap.size+1) u6 _ (by rfl) (by exact H.out.1.bel (ab _ _)) _ _ (sg (sat (aH l k) 0)) (by rfl) (by exact bh _ _ _) (by have:=oq E0;omega) (by rw[hrl];omega) (by simp;have:=K0.lt;omega) ?_;intro v1 w1 ho1 hg1 hat1;have hkl:=K0.lt;have hown:=H.out.1;have K1:=(K0.alloc (.cells #[.int .i64 (sg (sat (aH l k) 0))] 3)).grown hg1 (fun e=>by have:=(hown.lt _ e.symm).1;omega);have hx1:=(H.out.2.1.bel (ab wr (.cells #[.int .i64 (sg (sat (aH l k) 0))] 3))).rowFar hg1 (H.out.2.2.1.mono (fun j hj=>hj.2));have hb0:=aa H.out.2.2.2 (ab wr (.cells #[.int .i64 (sg (sat (aH l k) 0))] 3));have hb1:=hb0.trans (bQ hg1 hb0.size (fun j hj=>by have:=(hown.lt j hj).1;omega));clear hb0;obtain⟨e1,f1⟩:=K1.one;clear ca ca2 e0 f0))
    have HP:=Jj (Jq ho1 hb1);have hk1:=K1.lt;clear ho1 hg1 hat1 hb1 hown;refine(jO _ (aH l k) _ hx1 (eR HY.out.2.2 k)).mono ?_;rintro e w3 ⟨r,rfl,ho3,hb3⟩;replace K1:=K1.below hb3 K1.lt;have HQ:=Jj (Jq ho3 hb3);obtain⟨A5,c5,rfl,-,-,-⟩:=ho3.strs.open_;clear ho3 hb3 hx1 e1 f1;obtain⟨e1,f1⟩:=K1.one
    go_wp2_with fail
    go_roundw
    case rel=>
     have z1:=HP.out.2.size;refine⟨k+1,.slice A5 (bu (aH l k)).length c5,by omega,by go_num,?_,K1.set_ 0 _,(HQ.out.1.setCell _ _ (by show w.heap.size<w1.heap.size;omega)).strs,?_,(aa HP.out.2 HQ.out.2).setCell (by show w.heap.size≤w.heap.size;omega) _⟩
     ·rw[Dz];exact(HP.out.1.bel HQ.out.2).setCell _ _ (by show w.heap.size<w.heap.size+1;omega)
     ·refine HQ.out.1.off.mono fun j hj=>⟨by omega,fun e=>?_⟩;have:=(HP.out.1.lt j e.symm).2;omega
    case measure=>simp[intOf];omega
   ·have:k=n:=by omega
    subst this;go_wp2;go_ret2;exact⟨_,by rw[HY.out.1];rfl,by rw[HY.out.2.1];exact H.out.1.lower (by omega),H.out.2.2.2⟩
def gY (l:List ByteArray):List ByteArray:=if af l=true then bu l else[]
theorem pL {l:List ByteArray} (h:af l=true):gY l=bu l:=by simp[gY,h]
theorem FP {l:List ByteArray} (h:af l=false):gY l=[]:=by simp[gY,h]
theorem oL (v:Value) (l:List ByteArray) (w:World) (hv:aG w v l):
  Calls prog 107 #[.agg #[v]] w (cj w (gY l) (af l)):=by
 have HV:=Jj hv;obtain⟨A,c,rfl,-,-,-⟩:=hv.open_;clear hv;have B0:=Jj (show Below w.heap.size w ((w.alloc (.cells #[.slice A l.length c] 32)).alloc (.cells #[.slice none 0 0] 32)) from(ab w _).alloc (by simp) _);have K0:=(Blk.new' w 32 (.slice A l.length c) w.heap.size rfl).alloc (.cells #[.slice none 0 0] 32);have K2:=Blk.new' (w.alloc (.cells #[.slice A l.length c] 32)) 32 (.slice none 0 0) (w.heap.size+1) (by simp);obtain⟨c0,-⟩:=K0.one
 go_enter func107,ntmps107
 go_wp2_with fail
 clear c0;generalize hW:(w.alloc (.cells #[.slice A l.length c] 32)).alloc (.cells #[.slice none 0 0] 32)=W at *;clear hW;refine(bF _ l _ (HV.out.bel B0.out)).mono ?_;rintro e w2 ⟨rfl,hb⟩;replace K0:=K0.below hb K0.lt;replace K2:=K2.below hb K2.lt;have HB:=Jj (aa B0.out hb);have hz:=HB.out.size;clear hb;obtain⟨c0,-⟩:=K0.one;obtain⟨c2,f2⟩:=K2.one;cases he:af l
 ·have HN:=Jj (FP he);go_wp2;refine bodyPost_ret (v:=.tuple #[.agg #[.slice none 0 0],.bool false]) (by simp[results,results107,go_sem,c2]) rfl ⟨.slice none 0 0,by rw[he],?_,?_⟩
  ·rw[HN.out];exact aj.nil_ _ _
  ·exact HB.out.setCell (by simp) _
 ·have HY:=Jj (Jq (pL he) he);clear he
  go_wp2_with fail
  refine(iJ _ l _ (HV.out.bel HB.out) HY.out.2).mono ?_;rintro e w3 ⟨r,rfl,ho,hb3⟩;have k2:=K2.lt;replace K2:=K2.below hb3 K2.lt;have HO:=Jj (Jq (ho.lower (base':=w.heap.size+1+1) (by omega)) (aa HB.out hb3));obtain⟨A3,d3,rfl,-,-,-⟩:=ho.strs.open_;clear ho hb3 c2 f2;obtain⟨c2,f2⟩:=K2.one;generalize hp:(bu l).length=p at *;clear hp;go_wp2;refine bodyPost_ret (v:=.tuple #[.agg #[.slice A3 p d3],.bool true]) (by simp[results,results107,go_sem,c2]) rfl ⟨_,by rw[HY.out.2],?_,?_⟩
  ·rw[HY.out.1];exact(HO.out.1.setCell _ _ (by simp)).lower (by omega)
  ·exact HO.out.2.setCell (by simp) _
theorem uF (u:Value) (l:List ByteArray) (n:Int) (w:World) (hu:aG w u l) (hn : -9223372036854775808≤n∧n≤9223372036854775807):
  Calls prog 201 #[.agg #[u],.int .i64 n,.func (Fn.func 107) #[] #[]] w (zv w (fI l n) (cu l n)):=by
 have HU:=Jj hu;have HOF:=Jj hu.off;obtain⟨A,c,rfl,-,-,-⟩:=hu.open_;clear hu;have B0:=Jj (show Below w.heap.size w (w.alloc (.cells #[.slice A l.length c] 32)) from ab w _);have K0:=Blk.new' w 32 (.slice A l.length c) w.heap.size rfl;obtain⟨c0,-⟩:=K0.one
 go_enter func201,ntmps201
 go_wp2_with fail
 clear c0;generalize hW:w.alloc (.cells #[.slice A l.length c] 32)=W at *;clear hW;refine(bF _ l _ (HU.out.bel B0.out)).mono ?_;rintro e w2 ⟨rfl,hb⟩;have k0:=K0.lt;have hbz:=hb.size;replace K0:=K0.below hb K0.lt;have HB:=Jj (aa B0.out hb);have hz:=HB.out.size;clear hb;cases he:af l
 ·have HN:=Jj (Jq (sY (n:=n) he) (sX (sY (n:=n) he)))
  go_wp2_with fail
  go_ret2;exact⟨_,by rw[HN.out.1];rfl,by rw[HN.out.2];exact Own.nil_ _ _,HB.out⟩
 ·cases hc:inB n 0 60
  ·have HN:=Jj (Jq (zl (l:=l) hc) (sX (zl (l:=l) hc)));have hc':=bm.1 hc;by_cases hlo:n<0
   ·go_wp2_with fail
    go_ret2;exact⟨_,by rw[HN.out.1];rfl,by rw[HN.out.2];exact Own.nil_ _ _,HB.out⟩
   ·have hhi:60<n:=by omega
    go_wp2_with fail
    go_ret2;exact⟨_,by rw[HN.out.1];rfl,by rw[HN.out.2];exact Own.nil_ _ _,HB.out⟩
  ·have hn2:=am.1 hc;obtain⟨n,rfl⟩:∃k:Nat,n=k:=⟨n.toNat,by omega⟩;have n60:n≤60:=by omega
   have hrc:cu l n=true:=by simp[cu,he,hc]
   have HY:=Jj (Jq hrc (Jq (wT hrc) he));have hmk:=fun W=>Tryz.mkInts n (by omega) W;have HS0:=Jj (Jq (HU.out.bel HB.out) K0);have hlo:¬((n:Int)<0):=by omega
   have hhi:¬(60<(n:Int)):=by omega
   clear hrc hn2 hn he hc K0
   go_wp2_with fail
   go_loopw [25] (fun i wr=>∃(k:Nat) (cs:List Value) (x:Value),k≤n∧i=.int .i64 k∧Blk wr w2.heap.size 3 cs∧cs.length=n∧(∀j,j<k→cs[j]?=some (.int .i64 (sg (sat (aH l j) 0)))) ∧
     Blk wr w.heap.size 32 [x]∧aG wr x (aH l k)∧Off x (aH l k) (fun j=>j≠w.heap.size∧j≠w2.heap.size)∧Below w.heap.size w wr)
    (fun i _=>n-(intOf i).toNat)
   case atStart=>
    refine⟨0,_,_,Jy _,rfl,Blk.new w2 _ _,bi _ _,fun j hj=>absurd hj (by omega),HS0.out.2.alloc _,HS0.out.1.bel (ab w2 _),?_,aa HB.out (ab w2 _)⟩;exact HOF.out.mono fun j hj=>by omega
   case round=>
    clear HS0;obtain⟨k,cs,x,hk,rfl,hblk,hcl,hcs,K0,hx,ox,hbel⟩:=hrel;have E0:=EG HY.out.2.2 k;obtain⟨t1,t7,-⟩:=ap.1 (eR HY.out.2.2 k);obtain⟨Ax,cx,rfl,-,-,hrd⟩:=hx.open_;obtain⟨bb,ob,rfl,hbb,hcell⟩:=hrd.strs (by omega);have ca:=hcell 0 (by omega);rw[Nat.add_zero] at ca;have H:=Jj (Jq hcl (Jq hcs (Jq hbel (Jq hx ox))));clear hcl hcs hbel hx ox hcell hrd;have hsz:=H.out.2.2.1.size;by_cases hlt:k<n
    ·obtain⟨e0,-⟩:=K0.one;have hcw:wr.cell? ⟨w2.heap.size,k,none⟩=some (cs[k]'(by rw[H.out.1];exact hlt)):=by rw[hblk.cell];exact List.getElem?_eq_getElem _
     have hfw:=hblk.frozen k;have e0':(wr.setCell ⟨w2.heap.size,k,none⟩ (.int .i64 (sg (sat (aH l k) 0)))).cell? ⟨w.heap.size,0,none⟩=_:=(Ju _ _ _ _ (by intro e;injection e with q;omega)).trans e0
     go_wp2_with (go_at_call 187;refine(lM _ _ (by assumption)).mono ?_;rintro e w' ⟨rfl,rfl⟩)
     have Kg:=hblk.set_ k (.int .i64 (sg (sat (aH l k) 0)));replace K0:=K0.far (p:=⟨w2.heap.size,k,none⟩) (by show w.heap.size≠w2.heap.size;omega) (.int .i64 (sg (sat (aH l k) 0)));have sx:=H.out.2.2.2.1.setFar ⟨w2.heap.size,k,none⟩ (.int .i64 (sg (sat (aH l k) 0))) (H.out.2.2.2.2.mono fun j hj=>by show w2.heap.size≠j;omega);have hB5:=H.out.2.2.1.setCell (p:=⟨w2.heap.size,k,none⟩) (by show w.heap.size≤w2.heap.size;omega) (.int .i64 (sg (sat (aH l k) 0)));clear e0 e0' ca hcw hfw hblk;generalize hW5:wr.setCell ⟨w2.heap.size,k,none⟩ (.int .i64 (sg (sat (aH l k) 0)))=W5 at *;clear hW5;refine(oL _ (aH l k) _ sx).mono ?_;rintro e w6 ⟨r,rfl,oa,hb6⟩;rw[pL (eR HY.out.2.2 k)] at oa;have kg:=Kg.lt;have k05:=K0.lt;replace K0:=K0.below hb6 K0.lt;replace Kg:=Kg.below hb6 Kg.lt;have HQ:=Jj (Jq oa (aa hB5 hb6));obtain⟨A6,c6,rfl,-,-,-⟩:=oa.strs.open_;clear oa hb6 sx hB5;obtain⟨e0,f0⟩:=K0.one
     go_wp2_with fail
     go_roundw
     case rel=>
      refine⟨k+1,_,.slice A6 (bu (aH l k)).length c6,by omega,by go_num,Kg.far (by show w2.heap.size≠w.heap.size;omega) _,by rw[List.length_set];exact H.out.1,fun j hj=>?_,K0.set_ 0 _,(HQ.out.1.setCell _ _ (by show w.heap.size<W5.heap.size;omega)).strs,?_,HQ.out.2.setCell (by show w.heap.size≤w.heap.size;omega) _⟩
      ·by_cases e:j=k
       ·subst e;rw[List.getElem?_set_self (by rw[H.out.1];omega)]
       ·rw[List.getElem?_set_ne (by omega)];exact H.out.2.1 j (by omega)
      ·exact HQ.out.1.off.mono fun j hj=>by omega
     case measure=>simp[intOf];omega
    ·have:k=n:=by omega
     subst this
     go_wp2_with fail
     go_ret2;refine⟨_,by rw[HY.out.1];rfl,?_,H.out.2.2.1⟩;rw[HY.out.2.1];refine jt hz hblk H.out.1 (by omega) H.out.2.1 (fun j hj=>?_);have hc2:=oq (EG HY.out.2.2 j);omega
theorem xQ (u:Value) (l:List ByteArray) (n:Int) (w:World) (hu:aG w u l) (hn : -9223372036854775808≤n∧n≤9223372036854775807):
  Calls prog 124 #[.agg #[u],.int .i64 n] w (zv w (fI l n) (cu l n)):=by
 have HU:=Jj hu;obtain⟨A,c,rfl,-,-,-⟩:=hu.open_;clear hu
 go_enter func124,ntmps124
 go_wp2_with fail
 refine(uF _ l n _ (HU.out.bel (ab w _)) hn).mono ?_;rintro e w2 ⟨r,rfl,ho,hb⟩;have HF:=Jj (Jq (ho.lower (base':=w.heap.size) (by simp)) (aa (ab w (.cells #[.slice A l.length c] 32)) hb));obtain⟨A3,d3,rfl,-,-,-⟩:=ho.ints.open_;clear ho hb;go_wp2;go_ret2;exact⟨_,rfl,HF.out.1,HF.out.2⟩
theorem ka (v:Value) (l:List ByteArray) (n:Nat) (w:World) (hv:aG w v l) (ok:af l=true) (hn:n≤300):
  Calls prog 184 #[v,.int .i64 (-(n:Int))] w fun e w'=>∃r,e=.returned r∧aj w' w.heap.size r (aT l n)∧Below w.heap.size w w':=by
 have HV:=Jj hv;obtain⟨A,c,rfl,hlc,hc,hrd⟩:=hv.open_;have l7:=(ap.1 ok).2.1;have OK:=Jj ok;clear hrd hv ok
 go_enter func184,ntmps184
 go_wp2_with fail
 refine(fj _ l _ HV.out (by omega)).mono ?_;rintro e w1 ⟨r,rfl,ho,hb1⟩;have H0:=Jj (Jq ho hb1);clear ho hb1
 go_wp2_with fail
 refine wp_loop_rounds 1 ?_;rw[rounds_succ]
 go_wp2_with fail
 go_loopw [1,5] (fun m x wr=>∃(k:Nat),k≤n∧m=.int .i64 ((k:Int)-(n:Int))∧aj wr w.heap.size x (aT l k)∧Below w.heap.size w wr) (fun m _ _=>(-(intOf m)).toNat)
 case atStart=>exact⟨0,by omega,by simp,H0.out.1,H0.out.2⟩
 case round=>
  clear H0;obtain⟨k,hk,rfl,hox,hbel⟩:=hrel;have H:=Jj (Jq hox hbel);clear hox hbel;by_cases hlt:k<n
  ·go_wp2_with fail
   refine(ny _ (aT l k) _ H.out.1.strs (ek OK.out k)).mono ?_;rintro e w2 ⟨r2,rfl,ho2,hb2⟩;have H2:=Jj (Jq (ho2.lower (base':=w.heap.size) H.out.2.size) (aa H.out.2 hb2));clear ho2 hb2
   go_wp2_with fail
   go_roundw
   case rel=>exact⟨k+1,by omega,by go_num,H2.out.1,H2.out.2⟩
   case measure=>simp[intOf];omega
  ·have:k=n:=by omega
   subst this
   go_wp2_with fail
   go_ret;exact⟨_,rfl,H.out.1,H.out.2⟩
def nQ (f:Nat) (l:List ByteArray):List ByteArray:=if af l=true then aZ l f else[]
theorem mv (f:Nat) {l:List ByteArray} (h:af l=true):nQ f l=aZ l f:=by simp[nQ,h]
theorem vN (f:Nat) {l:List ByteArray} (h:af l=false):nQ f l=[]:=by simp[nQ,h]
theorem oK (v:Value) (l:List ByteArray) (w:World) (hv:aG w v l):
  Calls prog 185 #[.agg #[v]] w (cj w (nQ 0 l) (af l)):=by
 have HV:=Jj hv;obtain⟨A,c,rfl,-,-,-⟩:=hv.open_;clear hv;have B0:=Jj (show Below w.heap.size w ((w.alloc (.cells #[.slice A l.length c] 32)).alloc (.cells #[.slice none 0 0] 32)) from(ab w _).alloc (by simp) _);have K0:=(Blk.new' w 32 (.slice A l.length c) w.heap.size rfl).alloc (.cells #[.slice none 0 0] 32);have K2:=Blk.new' (w.alloc (.cells #[.slice A l.length c] 32)) 32 (.slice none 0 0) (w.heap.size+1) (by simp);obtain⟨c0,-⟩:=K0.one
 go_enter func185,ntmps185
 go_wp2_with fail
 clear c0;generalize hW:(w.alloc (.cells #[.slice A l.length c] 32)).alloc (.cells #[.slice none 0 0] 32)=W at *;clear hW;refine(bF _ l _ (HV.out.bel B0.out)).mono ?_;rintro e w2 ⟨rfl,hb⟩;replace K0:=K0.below hb K0.lt;replace K2:=K2.below hb K2.lt;have HB:=Jj (aa B0.out hb);have hz:=HB.out.size;clear hb;obtain⟨c0,-⟩:=K0.one;obtain⟨c2,f2⟩:=K2.one;cases he:af l
 ·have HN:=Jj (vN 0 he);go_wp2;refine bodyPost_ret (v:=.tuple #[.agg #[.slice none 0 0],.bool false]) (by simp[results,results185,go_sem,c2]) rfl ⟨.slice none 0 0,by rw[he],?_,?_⟩
  ·rw[HN.out];exact aj.nil_ _ _
  ·exact HB.out.setCell (by simp) _
 ·have HY:=Jj (Jq (mv 0 he) he);clear he
  go_wp2_with fail
  refine(nz _ l 0 _ (by omega) (HV.out.bel HB.out) HY.out.2).mono ?_;rintro e w3 ⟨r,rfl,ho,hb3⟩;have k2:=K2.lt;replace K2:=K2.below hb3 K2.lt;have HO:=Jj (Jq (ho.lower (base':=w.heap.size+1+1) (by omega)) (aa HB.out hb3));obtain⟨A3,d3,rfl,-,-,-⟩:=ho.strs.open_;clear ho hb3 c2 f2;obtain⟨c2,f2⟩:=K2.one;generalize hp:(aZ l 0).length=p at *;clear hp;go_wp2;refine bodyPost_ret (v:=.tuple #[.agg #[.slice A3 p d3],.bool true]) (by simp[results,results185,go_sem,c2]) rfl ⟨_,by rw[HY.out.2],?_,?_⟩
  ·rw[HY.out.1];exact(HO.out.1.setCell _ _ (by simp)).lower (by omega)
  ·exact HO.out.2.setCell (by simp) _
theorem tm (v:Value) (l:List ByteArray) (w:World) (hv:aG w v l):
  Calls prog 186 #[.agg #[v]] w (cj w (nQ 1 l) (af l)):=by
 have HV:=Jj hv;obtain⟨A,c,rfl,-,-,-⟩:=hv.open_;clear hv;have B0:=Jj (show Below w.heap.size w ((w.alloc (.cells #[.slice A l.length c] 32)).alloc (.cells #[.slice none 0 0] 32)) from(ab w _).alloc (by simp) _);have K0:=(Blk.new' w 32 (.slice A l.length c) w.heap.size rfl).alloc (.cells #[.slice none 0 0] 32);have K2:=Blk.new' (w.alloc (.cells #[.slice A l.length c] 32)) 32 (.slice none 0 0) (w.heap.size+1) (by simp);obtain⟨c0,-⟩:=K0.one
 go_enter func186,ntmps186
 go_wp2_with fail
 clear c0;generalize hW:(w.alloc (.cells #[.slice A l.length c] 32)).alloc (.cells #[.slice none 0 0] 32)=W at *;clear hW;refine(bF _ l _ (HV.out.bel B0.out)).mono ?_;rintro e w2 ⟨rfl,hb⟩;replace K0:=K0.below hb K0.lt;replace K2:=K2.below hb K2.lt;have HB:=Jj (aa B0.out hb);have hz:=HB.out.size;clear hb;obtain⟨c0,-⟩:=K0.one;obtain⟨c2,f2⟩:=K2.one;cases he:af l
 ·have HN:=Jj (vN 1 he);go_wp2;refine bodyPost_ret (v:=.tuple #[.agg #[.slice none 0 0],.bool false]) (by simp[results,results186,go_sem,c2]) rfl ⟨.slice none 0 0,by rw[he],?_,?_⟩
  ·rw[HN.out];exact aj.nil_ _ _
  ·exact HB.out.setCell (by simp) _
 ·have HY:=Jj (Jq (mv 1 he) he);clear he
  go_wp2_with fail
  refine(nz _ l 1 _ (by omega) (HV.out.bel HB.out) HY.out.2).mono ?_;rintro e w3 ⟨r,rfl,ho,hb3⟩;have k2:=K2.lt;replace K2:=K2.below hb3 K2.lt;have HO:=Jj (Jq (ho.lower (base':=w.heap.size+1+1) (by omega)) (aa HB.out hb3));obtain⟨A3,d3,rfl,-,-,-⟩:=ho.strs.open_;clear ho hb3 c2 f2;obtain⟨c2,f2⟩:=K2.one;generalize hp:(aZ l 1).length=p at *;clear hp;go_wp2;refine bodyPost_ret (v:=.tuple #[.agg #[.slice A3 p d3],.bool true]) (by simp[results,results186,go_sem,c2]) rfl ⟨_,by rw[HY.out.2],?_,?_⟩
  ·rw[HY.out.1];exact(HO.out.1.setCell _ _ (by simp)).lower (by omega)
  ·exact HO.out.2.setCell (by simp) _
theorem tl (v:Value) (l:List ByteArray) (w:World) (hv:aG w v l) (ok:af l=true):
  Calls prog 111 #[.agg #[v]] w (cj w (aZ (aZ l 0) 1) true):=by
 have HV:=Jj hv;have OK:=Jj ok;obtain⟨A,c,rfl,-,-,-⟩:=hv.open_;clear hv ok;have B0:=Jj (show Below w.heap.size w ((w.alloc (.cells #[.slice A l.length c] 32)).alloc (.cells #[.slice none 0 0] 32)) from(ab w _).alloc (by simp) _);have K2:=Blk.new' (w.alloc (.cells #[.slice A l.length c] 32)) 32 (.slice none 0 0) (w.heap.size+1) (by simp)
 go_enter func111,ntmps111
 go_wp2_with fail
 generalize hW:(w.alloc (.cells #[.slice A l.length c] 32)).alloc (.cells #[.slice none 0 0] 32)=W at *;have hWz:W.heap.size=w.heap.size+2:=by rw[←hW];simp
 clear hW;refine(oK _ l _ (HV.out.bel B0.out)).mono ?_;rintro e w2 ⟨r,rfl,o1,b1⟩;rw[mv 0 OK.out] at o1;rw[OK.out];obtain⟨A1,d1,rfl,-,-,-⟩:=o1.strs.open_;have OK1:=Jj (iB OK.out 0);obtain⟨L,hL⟩:∃L,aZ l 0=L:=⟨_,rfl⟩;rw[hL] at o1 OK1 ⊢;replace hL:=Jj hL;have bA:Below w2.heap.size w2 (w2.alloc (.cells #[.slice A1 L.length d1] 32)):=ab w2 _;have bb:=aa b1 bA;have hz2:=b1.size;replace K2:=Jj (K2.below bb K2.lt);have HB:=Jj (aa B0.out bb);have O1:=Jj (o1.strs.bel bA);have K4:=Blk.new' w2 32 (.slice A1 L.length d1) w2.heap.size rfl;obtain⟨c4,-⟩:=K4.one;clear b1 bA bb o1 K4
 go_wp2_with fail
 clear c4;generalize hW:w2.alloc (.cells #[.slice A1 L.length d1] 32)=w3 at *;have hWz3:w3.heap.size=w2.heap.size+1:=by rw[←hW];simp
 clear hW;refine(tm _ L _ O1.out).mono ?_;rintro e w4 ⟨r,rfl,o2,b2⟩;rw[mv 1 OK1.out] at o2;rw[OK1.out];obtain⟨A2,d2,rfl,-,-,-⟩:=o2.strs.open_;replace K2:=K2.out.below b2 K2.out.lt;replace HB:=Jj (aa HB.out b2);have HO:=Jj (o2.lower (base':=w.heap.size+1+1) (by omega));obtain⟨M,hM⟩:∃M,aZ L 1=M:=⟨_,rfl⟩;rw[hM] at HO ⊢;have HLM:=Jj (show aZ (aZ l 0) 1=M by rw[hL.out,hM]);clear o2 b2 hM;obtain⟨c2,f2⟩:=K2.one;generalize hp:M.length=p at *;clear hp;go_wp2;refine bodyPost_ret (v:=.tuple #[.agg #[.slice A2 p d2],.bool true]) (by simp[results,results111,go_sem,c2]) rfl ⟨_,rfl,by rw[HLM.out];exact(HO.out.setCell ⟨w.heap.size+1,0,none⟩ _ (by show w.heap.size+1<w.heap.size+1+1;omega)).lower (base':=w.heap.size) (by omega),HB.out.setCell (p:=⟨w.heap.size+1,0,none⟩) (by show w.heap.size≤w.heap.size+1;omega) _⟩
def lk (l:List ByteArray) (k j:Nat):ByteArray:=if j<k then sat (bY l) j else sat l j
theorem wj {l:List ByteArray} {k:Nat} {cs:List Value} (hk:k<l.length) (hc:l.length≤cs.length) (h:∀j,j<l.length→cs[j]?=some (.string (lk l k j))):
  ∀j,j<l.length→(cs.set k (.string (sat (aT l (k / 2)) k)))[j]?=some (.string (lk l (k+1) j)):=by
 intro j hj;by_cases e:j=k
 ·subst e;rw[List.getElem?_set_self (by omega)];unfold lk;rw[if_pos (by omega)];unfold bY;rw[ke hj]
 ·rw[List.getElem?_set_ne (by omega),h j hj];unfold lk;by_cases h1:j<k
  ·rw[if_pos h1,if_pos (by omega)]
  ·rw[if_neg h1,if_neg (by omega)]
theorem Hh {l:List ByteArray} (ok:af l=true):WfS (bY l):=iS (by have:=F2 ok 0;exact this)
theorem wx {w:World} {base g cap:Nat} {cs:List Value} {l:List ByteArray} (ok:af l=true) (hg:base≤g) (hb:Blk w g 9 cs) (hl:l.length≤cap) (hc:cap≤9223372036854775807) (hs:cs.length=cap)
  (h:∀j,j<l.length→cs[j]?=some (.string (lk l l.length j))):aj w base (.slice (some ⟨g,0,none⟩) l.length cap) (bY l):=by
 have:=aj.mk' (l:=bY l) hg hb (by rw[it];exact hl) hc hs (fun j hj=>by rw[it] at hj;rw[h j hj];unfold lk;rw[if_pos hj]) (Hh ok);rwa[it] at this
theorem FC (v:Value) (l:List ByteArray) (w:World) (hv:aG w v l) (ok:af l=true):
  Calls prog 109 #[.agg #[v]] w (cj w (bY l) true):=by
 have HV:=Jj hv;have OK:=Jj ok;obtain⟨l1,l7,-⟩:=ap.1 ok;obtain⟨A,c,rfl,-,-,-⟩:=hv.open_;clear hv ok;have B0:=Jj (show Below w.heap.size w ((w.alloc (.cells #[.slice A l.length c] 32)).alloc (.cells #[.slice none 0 0] 32)) from(ab w _).alloc (by simp) _);have K0:=(Blk.new' w 32 (.slice A l.length c) w.heap.size rfl).alloc (.cells #[.slice none 0 0] 32);have K2:=Blk.new' (w.alloc (.cells #[.slice A l.length c] 32)) 32 (.slice none 0 0) (w.heap.size+1) (by simp);obtain⟨c0,-⟩:=K0.one
 go_enter func109,ntmps109
 go_wp2_with fail
 clear c0;generalize hW:(w.alloc (.cells #[.slice A l.length c] 32)).alloc (.cells #[.slice none 0 0] 32)=W at *;have hWz:W.heap.size=w.heap.size+2:=by rw[←hW];simp
 clear hW;refine(bF _ l _ (HV.out.bel B0.out)).mono ?_;rintro e w2 ⟨rfl,hb⟩;rw[OK.out];replace K0:=K0.below hb K0.lt;replace K2:=K2.below hb K2.lt;have HB:=Jj (aa B0.out hb);have hz2:=hb.size;clear hb;obtain⟨c0,-⟩:=K0.one
 go_wp2_with fail
 clear c0;refine(fj _ l _ (HV.out.bel HB.out) (by omega)).mono ?_;rintro e w3 ⟨r,rfl,ho,hb1⟩
 rcases ho.form with ⟨_,h0⟩|⟨g,cap,cs0,rfl,hg,hblk0,hlcap,hcm,hcl0,hcs0⟩
 ·exfalso;rw[h0] at l1;simp at l1
 ·replace K0:=Jj (K0.below hb1 K0.lt);replace K2:=Jj (K2.below hb1 K2.lt);have HB3:=Jj (aa HB.out hb1);have H0:=Jj (Jq hcl0 hcs0);clear hb1 ho hcl0 hcs0
  go_wp2_with fail
  go_loopw [15] (fun i wr=>∃(k:Nat) (cs:List Value),k≤l.length∧i=.int .i64 k∧Blk wr g 9 cs∧cs.length=cap∧(∀j,j<l.length→cs[j]?=some (.string (lk l k j)))∧Blk wr w.heap.size 32 [.slice A l.length c]∧Blk wr (w.heap.size+1) 32 [.slice none 0 0]∧Below w.heap.size w wr)
   (fun i _=>l.length-(intOf i).toNat)
  case atStart=>exact⟨0,cs0,Jy _,rfl,hblk0,H0.out.1,fun j hj=>by unfold lk;rw[if_neg (by omega)];exact H0.out.2 j hj,K0.out,K2.out,HB3.out⟩
  case round=>
   obtain⟨k,cs,hk,rfl,hblk,hcl,hcs,k0,k2,hbel⟩:=hrel;have H:=Jj (Jq hcl (Jq hcs (Jq k0 (Jq k2 hbel))));have hbz:=hblk.lt;have HBK:=Jj hblk;clear hcl hcs k0 k2 hbel H0 hblk0 hblk K0 K2;by_cases hlt:k<l.length
   ·obtain⟨c0,-⟩:=H.out.2.2.1.one;have hq:(k:Int).tdiv 2=((k / 2:Nat):Int):=by rw[Int.tdiv_eq_ediv_of_nonneg (by omega)];omega
    obtain⟨d,hd⟩:∃d,k / 2=d:=⟨_,rfl⟩;rw[hd] at hq;have hd3:d≤3:=by omega
    replace hd:=Jj hd;have hng:IntKind.i64.wrap (-(d:Int)) = -(d:Int):=(IntWalk.i64_left _).trans (IntWalk.wrap64_in _ (by omega))
    go_wp2_with fail
    refine(ka _ l d _ (HV.out.bel H.out.2.2.2.2) OK.out (by omega)).mono ?_;rintro e w4 ⟨r,rfl,o4,b4⟩;have hlB:=cL l d;have HMX:=Jj (show sat (aT l (k / 2)) k=sat (aT l d) k by rw[hd.out]);obtain⟨A4,c4,rfl,hlc4,-,hrd⟩:=o4.strs.open_;obtain⟨b4',o4',rfl,hbb,hcell⟩:=hrd.strs (by omega);have ck:=hcell k (by omega);have hbl4:=HBK.out.below b4 hbz;have hcw:w4.cell? ⟨g,k,none⟩=some (.string (lk l k k)):=(b4.cell hbz).trans ((HBK.out.cell k).trans (H.out.2.1 k hlt));have hfw:=hbl4.frozen k;have HB4:=Jj (aa H.out.2.2.2.2 b4);have K04:=Jj (H.out.2.2.1.below b4 H.out.2.2.1.lt);have K24:=Jj (H.out.2.2.2.1.below b4 H.out.2.2.2.1.lt);have HBL:=Jj hbl4;rw[hlB] at *;obtain⟨Z,hZ⟩:∃Z,sat (aT l d) k=Z:=⟨_,rfl⟩;rw[hZ] at ck HMX;clear hcell hrd o4 b4 c0 hbl4 hZ
    go_wp2_with fail
    go_roundw
    case rel=>
     refine⟨k+1,cs.set k (.string Z),by omega,by go_num,HBL.out.set_ k _,by rw[List.length_set];exact H.out.1,by rw[←HMX.out];exact wj hlt (by rw[H.out.1];exact hlcap) H.out.2.1,K04.out.far (by show w.heap.size≠g;omega) _,K24.out.far (by show w.heap.size+1≠g;omega) _,HB4.out.setCell (by show w.heap.size≤g;omega) _⟩
    case measure=>simp[intOf];omega
   ·have hke:k=l.length:=by omega
    subst hke;obtain⟨c2,f2⟩:=H.out.2.2.2.1.one;have HO:=Jj (wx OK.out hg HBK.out hlcap hcm H.out.1 H.out.2.1);go_wp2;refine bodyPost_ret (v:=.tuple #[.agg #[.slice (some ⟨g,0,none⟩) l.length cap],.bool true]) (by simp[results,results109,go_sem,c2]) rfl ⟨_,rfl,(HO.out.setCell ⟨w.heap.size+1,0,none⟩ _ (by show w.heap.size+1<w2.heap.size;omega)).lower (base':=w.heap.size) (by omega),H.out.2.2.2.2.setCell (p:=⟨w.heap.size+1,0,none⟩) (by show w.heap.size≤w.heap.size+1;omega) _⟩
theorem aj.openS {w:World} {base:Nat} {v:Value} {l:List ByteArray} (h:aj w base v l) (hl:0<l.length):
  ∃b cap,v=.slice (some ⟨b,0,none⟩) l.length cap∧base≤b∧b<w.heap.size∧l.length≤cap∧cap≤9223372036854775807∧∀j,j<l.length→w.cell? ⟨b,j,none⟩=some (.string (sat l j))∧w.frozen? ⟨b,j,none⟩=false:=by
 rcases h.form with ⟨_,e⟩|⟨b,cap,cs,e,hg,hblk,h1,h2,h3,h4⟩
 ·subst e;simp at hl
 ·exact⟨b,cap,e,hg,hblk.lt,h1,h2,fun j hj=>⟨by rw[hblk.cell];exact h4 j hj,hblk.frozen j⟩⟩
theorem aj.setJ {w:World} {base b n cap:Nat} {l:List ByteArray} (h:aj w base (.slice (some ⟨b,0,none⟩) n cap) l) (j:Nat) (z:ByteArray) (hj:j<l.length) (hz:z.size≤9223372036854775807):
  aj (w.setCell ⟨b,j,none⟩ (.string z)) base (.slice (some ⟨b,0,none⟩) n cap) (l.set j z):=by
 rcases h.form with ⟨e,_⟩|⟨g1,cap1,cs,e,hg,hblk,h1,h2,h3,h4⟩
 ·cases e
 ·injection e with e1 e2 e3;injection e1 with e1;injection e1 with e1;subst e1 e2 e3;have:=aj.mk' (l:=l.set j z) (cs:=cs.set j (.string z)) hg (hblk.set_ j (.string z)) (by rw[List.length_set];exact h1) h2 (by rw[List.length_set];exact h3) (fun i hi=>by
   rw[List.length_set] at hi;rw[bV _ i (by rw[List.length_set];exact hi),List.getElem_set];by_cases q:j=i
   ·subst q;rw[List.getElem?_set_self (by omega),if_pos rfl]
   ·rw[List.getElem?_set_ne (by omega),if_neg q,←bV l i hi];exact h4 i hi) (fun s hs=>by
   rcases List.mem_or_eq_of_mem_set hs with h5|h5
   ·exact h.2.1 s h5
   ·rw[h5];exact hz)
  rwa[List.length_set] at this
theorem jH (w:World) (b j:Nat) (u:Value):w.grownBy (w.setCell ⟨b,j,none⟩ u) (some b):=dl ⟨rfl,rfl,rfl,Jr _,fun _ _ _=>rfl⟩ (.inl rfl) u
end Go.Proofs.YtfmjklgfpiffbaaGreatDoor
