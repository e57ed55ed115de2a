/-
  Parts of the proof of one statement, merged: ShK ShN ShO.
-/
import Derived.Lib.JoinLaws
import Derived.Test.YtfmjklgfpiffbaaGreatDoorR23
namespace Go.Proofs.YtfmjklgfpiffbaaGreatDoor
open Go.RowKit Go.Proofs.Tryz
set_option linter.unusedVariables false
set_option linter.unusedSimpArgs false
set_option maxRecDepth 100000
set_option maxHeartbeats 8000000
attribute [local go_sem ↓] Go.wp_at_zero Go.wp_at_succ
theorem Hb (n:Nat) (w:World) (hn:n≤1000):
  Calls prog 282 #[.string ⟨#[32]⟩,.int .i64 n] w fun e w'=>e=.returned (.string (spS n))∧Below w.heap.size w w':=
 Tryz.strings_Repeat ⟨#[32]⟩ n w (by omega) (by rw[show(⟨#[32]⟩:ByteArray).size=1 from rfl];omega)
theorem Tryz.mkRoom (c:Nat) (hc:c≤1000) (W:World):(Instr.makeSlice 30 (.int .i64 0) (.int .i64 (c:Int))).run prog W =
  .ok (.slice (some ⟨W.heap.size,0,none⟩) 0 c) (W.alloc (.cells (bz c (.string ⟨#[]⟩)).toArray 9)):=by
 rw[run_make_room 30 9 (.string ⟨#[]⟩) 16 Tryz.underlying30 Tryz.infoStr rfl .i64 .i64 c (by omega) (by omega) W];have:=nt (.string ⟨#[]⟩) c rfl;rw[show(Value.string ⟨#[]⟩).cells = #[.string ⟨#[]⟩] from rfl] at this;rw[this]
theorem aj.room (w:World) (c:Nat) (hc:c≤1000):aj (w.alloc (.cells (bz c (.string ⟨#[]⟩)).toArray 9)) w.heap.size (.slice (some ⟨w.heap.size,0,none⟩) 0 c) []:=
 aj.mk' (cs:=bz c (.string ⟨#[]⟩)) (l:=[]) (Jr _) (Blk.new w 9 _) (Jy _) (by omega) (bi _ _) (fun j hj=>absurd hj (by simp)) (fun _ h=>by simp at h)
theorem uD (R A W M p:Nat) (v:Value) (l:List Int) (w:World) (hv:ai w v l) (h1:1≤R∧R≤20) (h2:1≤A∧A≤6) (h3:1≤W∧W≤12) (hl:l.length≤60) (hM:R*A=M) (ht:ag l=true) (hp:p<pgN l M) (hT:Tab w):
  Calls prog 257 #[.agg #[.int .i64 R,.int .i64 A,.int .i64 W],v,.int .i64 p] w fun e w'=>BC w' w.heap.size (pgL W l R M p) (pgF W l R M p) e∧Below w.heap.size w w':=by
 have HV:=Jj hv;have HM:=Jj hM;have HT:=Jj hT;have HPL:=Jj hp;have HTO:=Jj ht;have hel:(pgE l M p).length≤60:=by rw[dH];exact Js (Nat.min_le_right _ _) (Js (Nat.sub_le _ _) hl)
 have hrw:eP l R M p=min R (pgE l M p).length:=rfl;have hr0:0<(pgE l M p).length:=by
  have:=(zg (l:=l) p (by rw[←HM.out];exact Nat.mul_pos h1.1 h2.1)).2 HPL.out;rw[dH];have hM0:0<M:=by rw[←HM.out];exact Nat.mul_pos h1.1 h2.1
  omega
 unfold pgL pgF;obtain⟨E,hE⟩:∃E,pgE l M p=E:=⟨_,rfl⟩;obtain⟨q0,hq0⟩:∃q,eP l R M p=q:=⟨_,rfl⟩;rw[hE] at hel hrw hr0;rw[hq0] at hrw;rw[hq0,hE];have hq20:q0≤20:=by omega
 have hminI:min (R:Int) (E.length:Int)=(q0:Int):=by omega
 have EE:=Jj hE;clear hE hq0;obtain⟨B,cp,rfl,hlc,hc,hrd⟩:=hv.open_;have K1:=Blk.new w 29 [.int .i64 R,.int .i64 A,.int .i64 W];have B1:=ab w (.cells #[.int .i64 R,.int .i64 A,.int .i64 W] 29);obtain⟨a0,a1,a2⟩:=K1.lay;clear hv hrd hM hT hp ht
 go_enter func257,ntmps257
 go_wp2_with fail
 refine(wE R A W M p _ l _ (HV.out.bel B1) h1 h2 h3 hl HM.out HTO.out HPL.out).mono ?_;rintro e w2 ⟨rfl,b2⟩;replace K1:=K1.below b2 K1.lt;have HB:=Jj (aa B1 b2);clear a0 a1 a2 b2 B1;obtain⟨a0,a1,a2⟩:=K1.lay
 go_wp2_with fail
 refine(qi R A W M p _ l _ (HV.out.bel HB.out) h1 h2 h3 hl HM.out HPL.out).mono ?_;rintro e w3 ⟨r,rfl,hi,b3⟩;have HE:=Jj (show ai w r E by rw[←EE.out];exact hi w HV.out);replace K1:=K1.below b3 K1.lt;replace HB:=Jj (aa HB.out b3);obtain⟨A3,c3,rfl,-,-,-⟩:=HE.out.open_;clear a0 a1 a2 b3 hi;obtain⟨a0,a1,a2⟩:=K1.lay;have hmk:=fun W=>Tryz.mkRoom R (by omega) W;have OR:=aj.room w3 R (by omega);have BR:=ab w3 (.cells (bz R (.string ⟨#[]⟩)).toArray 9);have KR:=K1.below BR K1.lt;obtain⟨d0,d1,d2⟩:=KR.lay;have HBR:=Jj (aa HB.out BR);have hgt:dW W E R 0=[]:=rfl
 go_wp2_with fail
 generalize hW4:w3.alloc (.cells (bz R (.string ⟨#[]⟩)).toArray 9)=w4 at *;clear hW4 d0 d1 d2 a0 a1 a2 hmk BR;have hbase:w.heap.size+1≤w3.heap.size:=K1.lt;have OR1:=OR.lower hbase;clear OR K1
 go_loopw [9,31] (fun s i wr=>∃n:Nat,n≤q0∧kK W E R n∧i=.int .i64 n∧aj wr (w.heap.size+1) s (dW W E R n)∧Below w.heap.size w wr∧Blk wr w.heap.size 29 [.int .i64 R,.int .i64 A,.int .i64 W]) (fun _ i _=>q0-(intOf i).toNat)
 case atStart=>exact⟨0,Jy _,fun r hr=>absurd hr (Nat.not_lt_zero _),rfl,by rw[hgt];exact OR1,HBR.out,KR⟩
 case round=>
  obtain⟨n,hn,hF,rfl,hO,hb,hK⟩:=hrel;obtain⟨wo,hwo⟩:∃wo,wo=wr:=⟨_,rfl⟩;subst hwo;have H:=Jj (Jq hF (Jq hO hb));have hbz:=hb.size;have HKR:=Jj hK;have HEn:=Jj (HE.out.bel hb);have HTn:=Jj (HT.out.bel hb);have kl:=HKR.out.lt;clear hF hO hb hK OR1 KR;by_cases hlt:n<q0
  ·have hnR:n<R:=by omega
   have hltm:n<min R E.length:=by omega
   have hltd:decide (n<min R E.length)=true:=decide_eq_true hltm
   go_wp2_with fail
   go_loopw [11,12] (fun s i wc=>∃c I:Nat,c≤jB E.length R n∧nP W E R n c∧i=.int .i64 I∧I=n+c*R∧aj wc wo.heap.size s (gU W E R n c)∧Below wo.heap.size wo wc) (fun _ i _=>E.length-(intOf i).toNat)
   case atStart=>exact⟨0,n,Jy _,fun i hi=>absurd hi (Nat.not_lt_zero _),rfl,by omega,aj.nil_ _ _,Below.refl _ _⟩
   case round=>
    obtain⟨c,I,hc1,hfit,rfl,hI,hO,hb⟩:=hrel;have H2:=Jj (Jq hc1 (Jq hfit (Jq hI (Jq hO hb))));have hbz2:=hb.size;have HK2:=Jj (HKR.out.below hb kl);have HE2:=Jj (HEn.out.bel hb);have HT2:=Jj (HTn.out.bel hb);obtain⟨d0,d1,d2⟩:=HK2.out.lay;clear hc1 hfit hI hO hb;by_cases hil:I<E.length
    ·have hR0:0<R:=h1.1;obtain⟨b,o,e3,hbb,hcell⟩:=HE2.out.open_.choose_spec.choose_spec.2.2.2.ints hr0;have hA3:=(Value.slice.inj HE2.out.open_.choose_spec.choose_spec.1).1;rw[←hA3] at e3;subst e3;have hck:=hcell I hil;have hx:=HE2.out.2.at _ I;have hmore:=Jj ((ki (L:=E.length) (r:=n) c hR0).1 (by rw[←H2.out.2.2.1];exact hil));have his:=aJ hx.1 hx.2;obtain⟨Z,hZ⟩:∃Z,au (at_ E I)=Z:=⟨_,rfl⟩;rw[hZ] at his;have HZ:=Jj hZ;clear hcell hA3
     go_wp2_with fail
     refine(fG (at_ E I) _ hx HT2.out).mono ?_;rw[hZ];rintro e w5 ⟨rfl,b5⟩;clear hZ;have HB5:=Jj (aa (H2.out.2.2.2.2) b5);have HO5:=Jj (H2.out.2.2.2.1.bel b5);have HK5:=HK2.out.below b5 HK2.out.lt;clear b5 d0 d1 d2 hck;obtain⟨d0,d1,d2⟩:=HK5.lay;have HCI:=Jj (show au (at_ E (n+c*R))=Z by rw[←H2.out.2.2.1];exact HZ.out);obtain⟨m,hm⟩:∃m:Nat,Z.size=m:=⟨_,rfl⟩;rw[hm] at his;by_cases hmW:m≤W
     ·obtain⟨d,hd⟩:∃d:Nat,W-m=d:=⟨_,rfl⟩;have hsub:((W:Int)-(m:Int))=(d:Int):=by omega
      have hd12:d≤1000:=by omega
      have hz5:=HB5.out.size;have hsz:=qX d;have hcat:¬ 9223372036854775807<(spS d).size+Z.size:=by omega
      have hcat2:¬ 9223372036854775807<d+m:=by omega
      have HPD:=Jj (show ln W (at_ E (n+c*R))=spS d++Z by unfold ln;rw[HCI.out,hm,hd]);have HF2:=Jj (show nP W E R n (c+1) from by
       intro i hi
       rcases Nat.lt_or_ge i c with h'|h'
       ·exact H2.out.2.1 i h'
       ·obtain rfl:i=c:=by omega
        rw[HCI.out,hm];exact hmW)
      have HCL:=Jj (nE W E R n c);have hcl:=mo W E R n c;have hc60:c≤60:=Js (Nat.le_of_lt hmore.out) (Js (pQ hR0) hel);have HI2:=Jj (show I+R=n+(c+1)*R by rw[H2.out.2.2.1,Nat.succ_mul];omega);obtain⟨S,hS⟩:∃S,gU W E R n c=S:=⟨_,rfl⟩;rw[hS] at hcl;replace HO5:=Jj (show aj w5 wo.heap.size u11 S by rw[←hS];exact HO5.out);replace HCL:=Jj (show gU W E R n (c+1)=S++[spS d++Z] by rw[HCL.out,hS,HPD.out]);clear hd hS
      go_wp2_with fail
      refine(Hb d _ hd12).mono ?_;rintro e w6 ⟨rfl,b6⟩;have HB6:=Jj (HB5.out.trans (b6.mono hz5));have HO6:=Jj (HO5.out.bel b6);have hz6:=HB6.out.size;have hzz:(spS d++Z).size≤9223372036854775807:=by rw[Jt];omega
      clear b6 d0 d1 d2
      go_wp2_with (at_builtin;go_must (refine lP rfl (.tmp 53) (.tmp 62) (by rfl) wo.heap.size _ S (by rfl) (by exact HO6.out.bel (ab _ _)) _ _ (spS d++Z) (by rfl) (by exact bh _ _ _) hzz (by omega) (by simp;omega) ?_;intro v7 w7 ho7 hg7 hat7;have B7:=(HB6.out.alloc hz6 (.cells #[.string (spS d++Z)] 9)).trans (bQ (base:=wo.heap.size) hg7 (by simp;omega) (fun q hq=>by have:=(HO6.out.lt q hq).1;omega));obtain⟨f0,f1,f2⟩:=(HKR.out.below B7 kl).lay))
      go_roundw
      case rel=>
       exact⟨c+1,I+R,hmore.out,HF2.out,by go_num,HI2.out,by rw[HCL.out];exact ho7,B7⟩
      case measure=>simp[intOf];omega
     ·have hlt3:W<m:=Nat.lt_of_not_le hmW;go_wp2;go_ret2;refine⟨⟨_,.inr ⟨fun hF=>?_,rfl⟩⟩,?_⟩
      ·have:=hF n hlt c hmore.out;rw[HCI.out,hm] at this;exact hmW this
      ·exact H.out.2.2.trans (HB5.out.mono hbz)
    ·have hR0:0<R:=h1.1;have hce:c=jB E.length R n:=Nat.le_antisymm H2.out.1 (Nat.le_of_not_lt fun h=>hil (by rw[H2.out.2.2.1];exact(ki c hR0).2 h));have hcl:=mo W E R n c;have hc60:c≤60:=Js H2.out.1 (Js (pQ hR0) hel);have HLS:=lG H2.out.2.1;have hl13:(1+W)*c≤13*60:=Nat.mul_le_mul (by omega) hc60;have HRF:=Jj (show kK W E R (n+1) from rS H.out.1 (by unfold mP;rw[←hce];exact H2.out.2.1));have HRL:=Jj (show dW W E R (n+1)=dW W E R n++[fK W E R n c] by rw[rU];unfold mQ;rw[←hce]);have hrl:=kZ W E R n
     go_wp2_with fail
     refine(kS _ (gU W E R n c) ⟨#[32]⟩ _ H2.out.2.2.2.1.strs (by omega) 12 (fun s hs=>Js (tB H2.out.2.1 s hs) h3.2) (by omega) (by decide)).mono ?_;rw[show aW (gU W E R n c) ⟨#[32]⟩=fK W E R n c from rfl];rintro e w5 ⟨rfl,b5⟩;have HB5:=Jj (aa (H2.out.2.2.2.2) b5);have HO5:=Jj (H.out.2.1.bel HB5.out);have HK5:=Jj (HKR.out.below HB5.out kl);have HBw:=Jj (aa H.out.2.2 HB5.out);have hz5:=HBw.out.size;have hz5':=HK5.out.lt;obtain⟨Z,hZ⟩:∃Z,fK W E R n c=Z:=⟨_,rfl⟩;obtain⟨S,hS⟩:∃S,dW W E R n=S:=⟨_,rfl⟩;rw[hZ] at HLS;rw[hS] at hrl;rw[hZ];replace HO5:=Jj (show aj w5 (w.heap.size+1) u9 S by rw[←hS];exact HO5.out);replace HRL:=Jj (show dW W E R (n+1)=S++[Z] by rw[HRL.out,hS,hZ]);clear b5 hZ hS d0 d1 d2 hce
     go_wp2_with (at_builtin;go_must (refine lP rfl (.tmp 64) (.tmp 67) (by rfl) (w.heap.size+1) _ S (by rfl) (by exact HO5.out.bel (ab _ _)) _ _ Z (by rfl) (by exact bh _ _ _) (by omega) (by omega) (by simp;omega) ?_;intro v6 w6 ho6 hg6 hat6;have K6:=(HK5.out.alloc (.cells #[.string Z] 9)).grown hg6 (fun e=>by have:=(HO5.out.lt _ e.symm).1;omega);have B6:=(HBw.out.alloc hz5 (.cells #[.string Z] 9)).trans (bQ (base:=w.heap.size) hg6 (by simp;omega) (fun q hq=>by have:=(HO5.out.lt q hq).1;omega))))
     go_roundw
     case rel=>exact⟨n+1,hlt,HRF.out,by go_num,by rw[HRL.out];exact ho6,B6,K6⟩
     case measure=>simp[intOf];omega
  ·have hnq:n=q0:=by omega
   subst hnq;go_wp2;go_ret2;exact⟨⟨_,.inl ⟨H.out.1,rfl,H.out.2.1.lower (Nat.le_succ _)⟩⟩,H.out.2.2⟩
def Bld (w:World) (b:Nat) (T:ByteArray):Prop:=Lib.IsBuilderF 44 5 b b (Lib.byteCells T.data.toList) w
theorem tx {w w':World} {B b:Nat} {p:Value} {bs:List Value} (h:Lib.BuilderAtF 44 5 B b p bs w) (hb:Below w.heap.size w w'):Lib.BuilderAtF 44 5 B b p bs w':=by
 have hlt:=h.lt;obtain⟨hB,v,hh,hown,hne⟩:=h;exact⟨hB,v,(hb.block b hlt).trans hh,hown.kept (row:=none) ⟨hb.os,hb.tape,hb.output,hb.size,fun i hi _=>hb.block i hi⟩ (by cases v.ownBlock <;> simp),hne⟩
theorem Bld.bel {w w':World} {b:Nat} {T:ByteArray} (h:Bld w b T) (hb:Below w.heap.size w w'):Bld w' b T:=h.elim (fun x=>.inl (tx x hb)) (fun x=>.inr (tx x hb))
theorem Bld.lt {w:World} {b:Nat} {T:ByteArray} (h:Bld w b T):b<w.heap.size:=h.elim (fun x=>x.lt) (fun x=>x.lt)
theorem tC (T s:ByteArray):Lib.byteCells (T++s).data.toList=Lib.byteCells T.data.toList++Lib.byteCells s.data.toList:=by
 rw[ByteArray.data_append,Array.toList_append];unfold Lib.byteCells;exact List.map_append
theorem Bld.byte (b:Nat) (T:ByteArray) (w:World) (h:Bld w b T) (hl:T.size≤100000000):
  Calls prog 258 #[.pointer (some ⟨b,0,none⟩),.int .u8 10] w fun e w'=>e=.returned .nilIface∧Bld w' b (T++⟨#[10]⟩)∧Below b w w'∧Lib.OthersKept 5 (some b) w w':=by
 refine(DX b b _ 10 w h (by rw[Lib.byteCells_length];have:T.data.toList.length=T.size:=rfl;omega) (Nat.le_of_lt h.lt)).mono ?_;rintro e w' ⟨rfl,h1,h2,h3⟩;refine⟨rfl,.inr ?_,h2,h3⟩;rw[tC];exact h1
theorem Bld.str (b:Nat) (T s:ByteArray) (w:World) (h:Bld w b T) (hl:T.size≤100000000) (hs:s.size≤100000000):
  Calls prog 14 #[.pointer (some ⟨b,0,none⟩),.string s] w fun e w'=>e=.returned (.tuple #[.int .i64 s.size,.nilIface])∧Bld w' b (T++s)∧Below b w w'∧Lib.OthersKept 5 (some b) w w':=by
 refine(FR b b _ s w h (by rw[Lib.byteCells_length];have:T.data.toList.length=T.size:=rfl;omega) (Nat.le_of_lt h.lt)).mono ?_;rintro e w' ⟨rfl,h1,h2,h3⟩;refine⟨rfl,.inr ?_,h2,h3⟩;rw[tC];exact h1
theorem Bld.new (w:World):Bld (w.alloc (.cells #[.pointer none,.slice none 0 0] 44)) w.heap.size ⟨#[]⟩:=
 .inl ⟨Jr _,_,heap_alloc_new w _,⟨rfl,.inl ⟨rfl,rfl⟩⟩,by simp[Value.ownBlock]⟩
theorem rA (R A W M:Nat) (v:Value) (l:List Int) (w:World) (hv:ai w v l) (h1:1≤R∧R≤20) (h2:1≤A∧A≤6) (h3:1≤W∧W≤12) (hl:l.length≤60) (hM:R*A=M) (hT:Tab w):
  Calls prog 194 #[.agg #[.int .i64 R,.int .i64 A,.int .i64 W],v] w fun e w'=>uV (shS W l R A) (ag l=true∧mS W l R A=true) e∧Below w.heap.size w w':=by
 have HV:=Jj hv;have HM:=Jj hM;have HT:=Jj hT;have hlay:=fp h1 h2 h3;have hM0:0<M:=by rw[←hM];exact Nat.mul_pos h1.1 h2.1
 obtain⟨B,cp,rfl,hlc,hc,hrd⟩:=hv.open_;have K1:=Blk.new w 29 [.int .i64 R,.int .i64 A,.int .i64 W];have B1:=ab w (.cells #[.int .i64 R,.int .i64 A,.int .i64 W] 29);obtain⟨a0,a1,a2⟩:=K1.lay;clear hv hrd hM hT
 go_enter func194,ntmps194
 go_wp2_with fail
 refine(eI R A W _).mono ?_;rintro e w2 ⟨rfl,b2⟩;rw[hlay];replace K1:=K1.below b2 K1.lt;have HB:=Jj (aa B1 b2);clear a0 a1 a2 b2 B1;obtain⟨a0,a1,a2⟩:=K1.lay
 go_wp2_with fail
 refine(aF _ l _ (HV.out.bel HB.out)).mono ?_;rintro e w3 ⟨rfl,rfl⟩;cases ht:ag l
 ·go_wp2;go_ret2;exact⟨.inr ⟨fun h=>by rw[ht] at h;exact Bool.noConfusion h.1,rfl⟩,HB.out⟩
 ·obtain⟨q0,hq0⟩:∃q,pgN l M=q:=⟨_,rfl⟩;have hq60:q0≤60:=by rw[←hq0];exact Js (jS hM0) hl
  have HTO:=Jj ht;have HQ:=Jj hq0;have ba:=ab w2 (.cells #[.pointer none,.slice none 0 0] 44);have BN:=Bld.new w2;have KA:=K1.below ba K1.lt;have kl2:w.heap.size<w2.heap.size:=K1.lt;have HBA:=Jj (aa HB.out ba);obtain⟨d0,d1,d2⟩:=KA.lay;clear hq0 ba
  go_wp2_with fail
  refine(nR R A W l _ h1 h2 h3 hl).mono ?_;rw[HM.out,HQ.out];rintro e w4 ⟨rfl,b4⟩;have BN4:=BN.bel b4;have K4:=KA.below b4 KA.lt;have HB4:=Jj (aa HBA.out b4);have hz4:=BN4.lt;clear a0 a1 a2 d0 d1 d2 BN KA b4 K1
  go_wp2_with fail
  go_loopw [24] (fun i wr=>∃q:Nat,q≤q0∧i=.int .i64 q∧mN W l R M q∧Bld wr w2.heap.size (br W l R M q)∧Below w.heap.size w wr∧Blk wr w.heap.size 29 [.int .i64 R,.int .i64 A,.int .i64 W]) (fun i _=>q0-(intOf i).toNat)
  case atStart=>exact⟨0,Jy _,rfl,fun p hp=>absurd hp (Nat.not_lt_zero _),BN4,HB4.out,K4⟩
  case round=>
   obtain⟨q,hq,rfl,hF,hbd,hb,hK⟩:=hrel;obtain⟨wo,hwo⟩:∃wo,wo=wr:=⟨_,rfl⟩;subst hwo;obtain⟨c0,c1,c2⟩:=hK.lay;have hbl:=hbd.lt;have hts:=sl hF (Jw Nat.zero_lt_one h1.1) h1.2 h3.2 hl;have H:=Jj (Jq hF (Jq hbd (Jq hb hK)));clear hF hbd hb hK K4 BN4;by_cases hlt:q<q0
   ·have hp60:q≤60:=by omega
    have hmore:=Jj hlt
    go_wp2_with fail
    refine(uD R A W M q _ l _ (HV.out.bel H.out.2.2.1) h1 h2 h3 hl HM.out HTO.out (by rw[HQ.out];exact hmore.out) (HT.out.bel H.out.2.2.1)).mono ?_;rintro e w5 ⟨⟨u,T⟩,b5⟩;have BN5:=H.out.2.1.bel b5;have HB5:=Jj (b5.mono (Nat.le_of_lt hbl));clear b5 c0 c1 c2
    rcases T with ⟨hP,rfl,hO⟩|⟨hP,rfl⟩
    ·have HO5:=hO;obtain⟨A5,c5,rfl,hlc5,-,-⟩:=hO.strs.open_;replace HO5:=Jj HO5;have HF2:=Jj (uc H.out.1 hP);have HSZ:=Jj (wF hP (Jw Nat.zero_lt_one h1.1) h3.2 hl);have hlen:(pgL W l R M q).length≤20:=by rw[sS];exact Js (tZ _ _ _ _) h1.2
     obtain⟨ls,hls⟩:∃ls,pgL W l R M q=ls:=⟨_,rfl⟩;obtain⟨T0,hT0⟩:∃T0,br W l R M q=T0:=⟨_,rfl⟩;rw[hls] at HO5 HSZ hlen hlc5;rw[hls];rw[hT0] at hts BN5;clear hP hO;by_cases hq1:0<q
     ·have NS:=Jj (show br W l R M (q+1)=cB (T0++⟨#[10]⟩) ls by rw[sm hq1,hT0,hls]);have ha:(T0++⟨#[10]⟩).size≤20000*q+1:=by rw[Jt];exact Nat.add_le_add hts (Jr _)
      have hne5:(Value.slice A5 ls.length c5).ownBlock≠some w2.heap.size:=fun e=>by have:=(HO5.out.lt _ e).1;omega
      clear hls hT0;replace BN5:=Jj BN5
      go_wp2_with fail
      refine(Bld.byte w2.heap.size T0 _ BN5.out (by omega)).mono ?_;rintro e w6 ⟨rfl,bd6,b6,k6⟩;replace HO5:=Jj (kY HO5.out k6 hne5);replace HB5:=Jj (HB5.out.trans b6);replace BN5:=bd6;clear bd6 b6 k6
      go_wp2_with fail
      go_loopw [41] (fun i wc=>∃k:Nat,k≤ls.length∧i=.int .i64 k∧Bld wc w2.heap.size (cB (T0++⟨#[10]⟩) (ls.take k))∧aj wc wo.heap.size (.slice A5 ls.length c5) ls∧Below w2.heap.size wo wc) (fun i _=>ls.length-(intOf i).toNat)
      case atStart=>exact⟨0,Jy _,rfl,BN5,HO5.out,HB5.out⟩
      case round=>
       obtain⟨k,hk,rfl,hbd,ho,hbw⟩:=hrel;have hbl:=hbd.lt;have HBD:=Jj hbd;have HO:=Jj ho;have HBW:=Jj hbw;clear hbd ho hbw BN5;by_cases hkl:k<ls.length
       ·obtain⟨A6,c6,e6,-,-,hrd⟩:=HO.out.strs.open_;cases e6;obtain⟨b,o,rfl,hbb,hcell⟩:=hrd.strs (Nat.lt_of_le_of_lt (Jy _) hkl);have hck:=hcell k hkl;have hps:=jV HSZ.out hk hlen ha hp60;have hzz:=HSZ.out _ (cJ ls k hkl);have PT:=Jj (mA (T0++⟨#[10]⟩) hkl);obtain⟨Z,hZ⟩:∃Z,sat ls k=Z:=⟨_,rfl⟩;obtain⟨U,hU⟩:∃U,cB (T0++⟨#[10]⟩) (ls.take k)=U:=⟨_,rfl⟩;rw[hZ] at hck hzz;rw[hU] at hps;replace PT:=Jj (show cB (T0++⟨#[10]⟩) (ls.take (k+1))=U++Z++⟨#[10]⟩ by rw[PT.out,hU,hZ]);replace HBD:=Jj (show Bld wr w2.heap.size U by rw[←hU];exact HBD.out);have hne:(Value.slice (some ⟨b,o,none⟩) ls.length c5).ownBlock≠some w2.heap.size:=fun e=>by have:=(HO.out.lt _ e).1;omega
        have hs2:(U++Z).size≤100000000:=by rw[Jt];omega
        clear hcell hZ hU ha hts hrd
        go_wp2_with fail
        refine(Bld.str w2.heap.size U Z _ HBD.out (by omega) (by omega)).mono ?_;rintro e w6 ⟨rfl,bd6,b6,k6⟩;have HO6:=kY HO.out k6 hne;have hb6:=HBW.out.trans b6
        go_wp2_with fail
        refine(Bld.byte w2.heap.size (U++Z) _ bd6 hs2).mono ?_;rintro e w7 ⟨rfl,bd7,b7,k7⟩;have HO7:=Jj (kY HO6 k7 hne);have hb7:=Jj (hb6.trans b7);have HB7:=Jj bd7;clear HO6 hb6 bd6 bd7 b6 b7 k6 k7 hck
        go_wp2_with fail
        go_roundw
        case rel=>exact⟨k+1,hkl,by go_num,by rw[PT.out];exact HB7.out,HO7.out,hb7.out⟩
        case measure=>simp[intOf];omega
       ·have hke:k=ls.length:=by omega
        have TE:=Jj (show cB (T0++⟨#[10]⟩) (ls.take k)=br W l R M (q+1) by rw[hke,List.take_length,NS.out]);rw[TE.out] at HBD;clear hke ha hts
        go_wp2_with fail
        go_roundw
        case rel=>exact⟨q+1,hmore.out,by go_num,HF2.out,HBD.out,H.out.2.2.1.trans (HBW.out.mono (Nat.le_of_lt kl2)),H.out.2.2.2.below HBW.out kl2⟩
        case measure=>simp[intOf];omega
     ·have e0:q=0:=by omega
      have NS:=Jj (show br W l R M (q+1)=cB T0 ls by rw[←hT0,←hls,e0];exact ur _ _ _ _);have ha:T0.size≤20000*q+1:=by omega
      clear hls hT0 e0
      go_wp2_with fail
      go_loopw [41] (fun i wc=>∃k:Nat,k≤ls.length∧i=.int .i64 k∧Bld wc w2.heap.size (cB T0 (ls.take k))∧aj wc wo.heap.size (.slice A5 ls.length c5) ls∧Below w2.heap.size wo wc) (fun i _=>ls.length-(intOf i).toNat)
      case atStart=>exact⟨0,Jy _,rfl,BN5,HO5.out,HB5.out⟩
      case round=>
       obtain⟨k,hk,rfl,hbd,ho,hbw⟩:=hrel;have hbl:=hbd.lt;have HBD:=Jj hbd;have HO:=Jj ho;have HBW:=Jj hbw;clear hbd ho hbw BN5;by_cases hkl:k<ls.length
       ·obtain⟨A6,c6,e6,-,-,hrd⟩:=HO.out.strs.open_;cases e6;obtain⟨b,o,rfl,hbb,hcell⟩:=hrd.strs (Nat.lt_of_le_of_lt (Jy _) hkl);have hck:=hcell k hkl;have hps:=jV HSZ.out hk hlen ha hp60;have hzz:=HSZ.out _ (cJ ls k hkl);have PT:=Jj (mA T0 hkl);obtain⟨Z,hZ⟩:∃Z,sat ls k=Z:=⟨_,rfl⟩;obtain⟨U,hU⟩:∃U,cB T0 (ls.take k)=U:=⟨_,rfl⟩;rw[hZ] at hck hzz;rw[hU] at hps;replace PT:=Jj (show cB T0 (ls.take (k+1))=U++Z++⟨#[10]⟩ by rw[PT.out,hU,hZ]);replace HBD:=Jj (show Bld wr w2.heap.size U by rw[←hU];exact HBD.out);have hne:(Value.slice (some ⟨b,o,none⟩) ls.length c5).ownBlock≠some w2.heap.size:=fun e=>by have:=(HO.out.lt _ e).1;omega
        have hs2:(U++Z).size≤100000000:=by rw[Jt];omega
        clear hcell hZ hU ha hts hrd
        go_wp2_with fail
        refine(Bld.str w2.heap.size U Z _ HBD.out (by omega) (by omega)).mono ?_;rintro e w6 ⟨rfl,bd6,b6,k6⟩;have HO6:=kY HO.out k6 hne;have hb6:=HBW.out.trans b6
        go_wp2_with fail
        refine(Bld.byte w2.heap.size (U++Z) _ bd6 hs2).mono ?_;rintro e w7 ⟨rfl,bd7,b7,k7⟩;have HO7:=Jj (kY HO6 k7 hne);have hb7:=Jj (hb6.trans b7);have HB7:=Jj bd7;clear HO6 hb6 bd6 bd7 b6 b7 k6 k7 hck
        go_wp2_with fail
        go_roundw
        case rel=>exact⟨k+1,hkl,by go_num,by rw[PT.out];exact HB7.out,HO7.out,hb7.out⟩
        case measure=>simp[intOf];omega
       ·have hke:k=ls.length:=by omega
        have TE:=Jj (show cB T0 (ls.take k)=br W l R M (q+1) by rw[hke,List.take_length,NS.out]);rw[TE.out] at HBD;clear hke ha hts
        go_wp2_with fail
        go_roundw
        case rel=>exact⟨q+1,hmore.out,by go_num,HF2.out,HBD.out,H.out.2.2.1.trans (HBW.out.mono (Nat.le_of_lt kl2)),H.out.2.2.2.below HBW.out kl2⟩
        case measure=>simp[intOf];omega
    ·go_wp2;go_ret2;refine⟨.inr ⟨fun h=>hP ?_,rfl⟩,H.out.2.2.1.trans (HB5.out.mono (Nat.le_of_lt kl2))⟩;exact(ot HM.out).1 h.2 q (by rw[HQ.out];exact hmore.out)
   ·have hqe:q=q0:=by omega
    subst hqe
    go_wp2_with fail
    refine(Tryz.Builder_String_any_k w2.heap.size w2.heap.size (br W l R M q).data.toList _ H.out.2.1 (Nat.le_of_lt hbl)).mono ?_;rintro e w5 ⟨rfl,-,b5,-⟩;go_wp2;go_ret2;refine⟨.inl ⟨⟨HTO.out,(ot HM.out).2 (by rw[HQ.out];exact H.out.1)⟩,?_⟩,H.out.2.2.1.trans (b5.mono (Nat.le_of_lt kl2))⟩;unfold shS;rw[HM.out,HQ.out]
    trivial
end Go.Proofs.YtfmjklgfpiffbaaGreatDoor
