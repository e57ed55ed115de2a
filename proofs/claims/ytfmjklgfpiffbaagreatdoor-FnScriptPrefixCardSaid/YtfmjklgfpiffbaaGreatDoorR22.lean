/-
  Parts of the proof of one statement, merged: Fmt FmtS Fpl.
-/
import Derived.Test.YtfmjklgfpiffbaaGreatDoorR15
import Derived.Test.YtfmjklgfpiffbaaGreatDoorR18
import Derived.Test.YtfmjklgfpiffbaaGreatDoorR19
namespace Go.Proofs.YtfmjklgfpiffbaaGreatDoor
open Go.RowKit Go.Proofs.Tryz
set_option linter.unusedVariables false
set_option linter.unusedSimpArgs false
set_option maxRecDepth 100000
set_option maxHeartbeats 8000000
attribute [local go_sem ↓] Go.wp_at_zero Go.wp_at_succ
theorem an {P:Program} {md:Region.Mode} {ops:Array Oper} {Q:Exit→Act→World→Prop} {S:World→Prop} {fuel:Nat} {l l':Array Bool} {a:Act} {w:World} (h:l=l') (H:wpAnyH P md ops Q S fuel l' a w):wpAnyH P md ops Q S fuel l a w:=by rw[h];exact H
theorem nZ (w:World) (l:List Int) (hl:l.length≤1000) (hwf:Wf l):ai (w.alloc (.cells (iv l).toArray 3)) (.slice (some ⟨w.heap.size,0,none⟩) l.length l.length) l:=
 ⟨Sl.own ((Blk.new w 3 (iv l)).own (Jr _) (be l) (by unfold maxLen;omega)) (by unfold maxLen;omega),hwf⟩
theorem tS (w:World) (l:List ByteArray) (hl:l.length≤1000) (hwf:WfS l):aG (w.alloc (.cells (sv l).toArray 9)) (.slice (some ⟨w.heap.size,0,none⟩) l.length l.length) l:=
 ⟨Sl.own ((Blk.new w 9 (sv l)).own (Jr _) (ed l) (by unfold maxLen;omega)) (by unfold maxLen;omega),hwf⟩
def ax (p:List Int):ByteArray:=if av p=true then aw p else⟨#[]⟩
theorem mc {p:List Int} (h:av p=false):ax p=⟨#[]⟩:=by simp[ax,h]
theorem fX {p:List Int} (h:av p=true):ax p=aw p:=by simp[ax,h]
theorem me {p:List Int} (h:av p=true):p.length≤7:=(bf.1 h).2.1
theorem jI (v:Value) (p:List Int) (w:World) (hv:ai w v p) (ht:Tab w):
  Calls prog 103 #[v] w fun e w'=>e=.returned (.string (ax p))∧Below w.heap.size w w':=by
 have HV:=Jj hv;obtain⟨A,c,rfl,-,-,-⟩:=hv.open_;clear hv
 go_enter func103,ntmps103
 go_wp2_with fail
 refine(co _ p _ HV.out).mono ?_;rintro e w2 ⟨rfl,rfl⟩;cases hp:av p
 ·have HN:=Jj (mc hp);go_wp2;go_ret;exact⟨by rw[HN.out];rfl,Below.refl _ _⟩
 ·have HN:=Jj (fX hp);have hl:=me hp
  go_wp2_with fail
  refine(dC _ p _ HV.out (by omega) ht).mono ?_;rintro e w3 ⟨rfl,b⟩;go_wp2;go_ret;exact⟨by rw[HN.out];rfl,b⟩
theorem bE (v:Value) (p:List Int) (w:World) (hv:ai w v p):
  Calls prog 30 #[v] w fun e w'=>e=.returned (.string (ax p))∧Below w.heap.size w w':=by
 have HV:=Jj hv;obtain⟨A,c,rfl,-,-,-⟩:=hv.open_;clear hv
 go_enter func30,ntmps30
 go_wp2_with fail
 refine(bo _ p _ HV.out).mono ?_;rintro e w2 ⟨rfl,rfl⟩;cases hp:av p
 ·have HN:=Jj (mc hp);go_wp2;go_ret;exact⟨by rw[HN.out];rfl,Below.refl _ _⟩
 ·have HN:=Jj (fX hp);have hl:=me hp
  go_wp2_with fail
  refine(cW _ p _ HV.out (by omega)).mono ?_;rintro e w3 ⟨rfl,b⟩;go_wp2;go_ret;exact⟨by rw[HN.out];rfl,b⟩
def gr1 (j:bK):ByteArray:=aw [j.fr,j.ct,j.wd]
def gr2 (j:bK):ByteArray:=aw [j.dg,j.wy]
def gr3 (j:bK):ByteArray:=aw [j.rw,j.ac,j.wi]
def dr:ByteArray:=⟨#[59]⟩
def jE (j:bK):ByteArray:=if bH j=true then ax j.poly++dr++gr1 j++dr++gr2 j++dr++gr3 j else⟨#[]⟩
theorem vJ {j:bK} (h:bH j=false):jE j=⟨#[]⟩:=by simp[jE,h]
theorem pV {j:bK} (h:bH j=true):jE j=ax j.poly++dr++gr1 j++dr++gr2 j++dr++gr3 j:=by simp[jE,h]
theorem tQ (a b c d:ByteArray):aW [a,b,c,d] dr=a++dr++b++dr++c++dr++d:=by
 unfold aW dr;simp only[List.map_cons,List.map_nil];rw[Lib.join_cons]
 apply ByteArray.ext
 apply Array.toList_inj.1
 simp[Lib.joinTail]
theorem qM {j:bK} (h:bH j=true):av j.poly=true:=(nC.1 (s8 (iE.1 h).1).1).1
theorem tK {j:bK} (hv:Wf j.poly) (hj:j.In) (h:bH j=true):(ax j.poly).size≤154∧(gr1 j).size≤66∧(gr2 j).size≤66∧(gr3 j).size≤66:=by
 have h0:=qM h;have h7:=me h0;have w1:Wf [j.fr,j.ct,j.wd]:=fun x hx=>by simp at hx;rcases hx with rfl|rfl|rfl;exact hj.fr;exact hj.ct;exact hj.wd
 have w2:Wf [j.dg,j.wy]:=fun x hx=>by simp at hx;rcases hx with rfl|rfl;exact hj.dg;exact hj.wy
 have w3:Wf [j.rw,j.ac,j.wi]:=fun x hx=>by simp at hx;rcases hx with rfl|rfl|rfl;exact hj.rw;exact hj.ac;exact hj.wi
 rw[fX h0];have s0:=bM hv;have s1:=bM w1;have s2:=bM w2;have s3:=bM w3;simp at s1 s2 s3;exact⟨by omega,s1,by unfold gr2;omega,s3⟩
theorem Ir {j:bK} (hj:j.In):Wf [j.fr,j.ct,j.wd]∧Wf [j.dg,j.wy]∧Wf [j.rw,j.ac,j.wi]:=
 ⟨fun x hx=>by simp at hx;rcases hx with rfl|rfl|rfl;exact hj.fr;exact hj.ct;exact hj.wd,fun x hx=>by simp at hx;rcases hx with rfl|rfl;exact hj.dg;exact hj.wy,fun x hx=>by simp at hx;rcases hx with rfl|rfl|rfl;exact hj.rw;exact hj.ac;exact hj.wi⟩
def bmF (m:Nat):Array Bool:=((List.range 35).map fun i=>m.testBit i).toArray
theorem tkF (i:Nat) {P:Program} {ops:Array Oper} {Q:Exit→Act→World→Prop} {md:Region.Mode} {S:World→Prop} {oi:Oper} {v:Value} {fuel:Nat} {listed:Array Bool} {a:Act} {w:World} (hi:ops[i]?=some oi)
  (hf:(Region.noSelect ops&&(Region.free md ops listed i&&(Region.ready md ops listed).contains i))=true) (hw:Region.wanted oi (yielded ops a.tmps)=true) (hQ:∀c a w,Q (.panic c) (a.put oi.dst v) w→Q (.panic c) a w) (hS:S w)
  (hy:∀w,S w→(execOp a.eval oi).run P w=.ok (.value v) w) (h:wpAnyH P md ops Q S fuel (listed.setIfInBounds i true) (a.put oi.dst v) w):wpAnyH P md ops Q S (fuel+1) listed a w:=by
 simp only[JB] at hf;exact wpAnyH_take hi hf.1 hf.2.1 hf.2.2 hQ (Or.inl ⟨hw,hy⟩) hS h
theorem qx (v:Value) (j:bK) (w:World) (hv:ai w v j.poly) (hj:j.In):
  Calls prog 60 #[cr v j] w fun e w'=>e=.returned (.string (jE j))∧Below w.heap.size w w':=by
 have HV:=Jj hv;have HJ:=Jj hj;obtain⟨A,c,rfl,-,hc,-⟩:=hv.open_;clear hv;have B0:Below w.heap.size w (w.alloc (.cells (aS (.slice A j.poly.length c) j).toArray 97)):=ab w _;have K1:=Blk.new w 97 (aS (.slice A j.poly.length c) j);unfold cr
 go_enter func60,ntmps60
 go_wp2_with fail
 change Calls _ _ #[cr (.slice A j.poly.length c) j] (w.alloc (.cells (aS (.slice A j.poly.length c) j).toArray 97)) _;generalize hW:w.alloc (.cells (aS (.slice A j.poly.length c) j).toArray 97)=W at K1 B0 ⊢;clear hW;refine(qz _ j _ (HV.out.bel B0) hj).mono ?_;rintro e w2 ⟨rfl,b1⟩;have HB:=Jj (aa B0 b1);have K2:=K1.below b1 K1.lt;clear b1 B0 K1 hj;cases hq:bH j
 ·have HN:=Jj (vJ hq);go_wp2;go_ret;exact⟨by rw[HN.out];rfl,HB.out⟩
 ·have HN:=Jj (pV hq);have HP:=Jj (HV.out.bel HB.out);have HWF:=Jj (Ir HJ.out);obtain⟨z0,z1,z2,z3⟩:=tK HV.out.2 HJ.out hq;have hsemi:dr.size=1:=rfl;obtain⟨a0,a1,a2,a3,a4,a5,a6,a7,a8⟩:=K2.job;have hl2:=K2.lt;clear hq HV
  go_wp2_with fail
  have f0:(ax j.poly).size=(ax j.poly).size:=by rfl
  have c0a:¬ 9223372036854775807<(ax j.poly).size+1:=by omega
  have c0b:¬ 9223372036854775807<(ax j.poly).size+1:=by omega
  have f1:(ax j.poly++dr).size=(ax j.poly).size+1:=by rw[Jt,f0];rfl
  have c1a:¬ 9223372036854775807<(ax j.poly++dr).size+(gr1 j).size:=by omega
  have c1b:¬ 9223372036854775807<(ax j.poly).size+1+(gr1 j).size:=by omega
  have f2:(ax j.poly++dr++gr1 j).size=(ax j.poly).size+1+(gr1 j).size:=by rw[Jt,f1]
  have c2a:¬ 9223372036854775807<(ax j.poly++dr++gr1 j).size+1:=by omega
  have c2b:¬ 9223372036854775807<(ax j.poly).size+1+(gr1 j).size+1:=by omega
  have f3:(ax j.poly++dr++gr1 j++dr).size=(ax j.poly).size+1+(gr1 j).size+1:=by rw[Jt,f2];rfl
  have c3a:¬ 9223372036854775807<(ax j.poly++dr++gr1 j++dr).size+(gr2 j).size:=by omega
  have c3b:¬ 9223372036854775807<(ax j.poly).size+1+(gr1 j).size+1+(gr2 j).size:=by omega
  have f4:(ax j.poly++dr++gr1 j++dr++gr2 j).size=(ax j.poly).size+1+(gr1 j).size+1+(gr2 j).size:=by rw[Jt,f3]
  have c4a:¬ 9223372036854775807<(ax j.poly++dr++gr1 j++dr++gr2 j).size+1:=by omega
  have c4b:¬ 9223372036854775807<(ax j.poly).size+1+(gr1 j).size+1+(gr2 j).size+1:=by omega
  have f5:(ax j.poly++dr++gr1 j++dr++gr2 j++dr).size=(ax j.poly).size+1+(gr1 j).size+1+(gr2 j).size+1:=by rw[Jt,f4];rfl
  have c5a:¬ 9223372036854775807<(ax j.poly++dr++gr1 j++dr++gr2 j++dr).size+(gr3 j).size:=by omega
  have c5b:¬ 9223372036854775807<(ax j.poly).size+1+(gr1 j).size+1+(gr2 j).size+1+(gr3 j).size:=by omega
  have L10:=Jj (show ∀X:World,Hid (ai (X.alloc (.cells #[Value.int .i64 j.fr,Value.int .i64 j.ct,Value.int .i64 j.wd] 3)) (Value.slice (some ⟨X.heap.size,0,none⟩) 3 3) [j.fr,j.ct,j.wd])∧Below X.heap.size X (X.alloc (.cells #[Value.int .i64 j.fr,Value.int .i64 j.ct,Value.int .i64 j.wd] 3)) from fun X=>⟨Jj (nZ X [j.fr,j.ct,j.wd] (by simp) HWF.out.1),ab X _⟩);have L18:=Jj (show ∀X:World,Hid (ai (X.alloc (.cells #[Value.int .i64 j.dg,Value.int .i64 j.wy] 3)) (Value.slice (some ⟨X.heap.size,0,none⟩) 2 2) [j.dg,j.wy])∧Below X.heap.size X (X.alloc (.cells #[Value.int .i64 j.dg,Value.int .i64 j.wy] 3)) from fun X=>⟨Jj (nZ X [j.dg,j.wy] (by simp) HWF.out.2.1),ab X _⟩);have L31:=Jj (show ∀X:World,Hid (ai (X.alloc (.cells #[Value.int .i64 j.rw,Value.int .i64 j.ac,Value.int .i64 j.wi] 3)) (Value.slice (some ⟨X.heap.size,0,none⟩) 3 3) [j.rw,j.ac,j.wi])∧Below X.heap.size X (X.alloc (.cells #[Value.int .i64 j.rw,Value.int .i64 j.ac,Value.int .i64 j.wi] 3)) from fun X=>⟨Jj (nZ X [j.rw,j.ac,j.wi] (by simp) HWF.out.2.2),ab X _⟩);have HSP:=Jj (show ∀X,Below w2.heap.size w2 X→(fun w'=>w'.cell? ⟨w.heap.size,0,none⟩=some (.slice A j.poly.length c)∧w'.cell? ⟨w.heap.size,1,none⟩=some (.int .i64 j.fr)∧w'.cell? ⟨w.heap.size,2,none⟩=some (.int .i64 j.ct)∧w'.cell? ⟨w.heap.size,3,none⟩=some (.int .i64 j.wd)∧w'.cell? ⟨w.heap.size,4,none⟩=some (.int .i64 j.dg)∧w'.cell? ⟨w.heap.size,5,none⟩=some (.int .i64 j.wy)∧w'.cell? ⟨w.heap.size,6,none⟩=some (.int .i64 j.rw)∧w'.cell? ⟨w.heap.size,7,none⟩=some (.int .i64 j.ac)∧w'.cell? ⟨w.heap.size,8,none⟩=some (.int .i64 j.wi)) X from fun X B=>⟨(B.cell (by exact hl2)).trans a0,(B.cell (by exact hl2)).trans a1,(B.cell (by exact hl2)).trans a2,(B.cell (by exact hl2)).trans a3,(B.cell (by exact hl2)).trans a4,(B.cell (by exact hl2)).trans a5,(B.cell (by exact hl2)).trans a6,(B.cell (by exact hl2)).trans a7,(B.cell (by exact hl2)).trans a8⟩);refine de (P:=?P0) ?hk0 (fun key0=>?main0)
  case' main0=>replace key0:=Jj key0
  refine de (P:=?P1) ?hk1 (fun key1=>?main1)
  case' main1=>replace key1:=Jj key1
  refine de (P:=?P2) ?hk2 (fun key2=>?main2)
  case' main2=>replace key2:=Jj key2
  refine de (P:=?P3) ?hk3 (fun key3=>?main3)
  case' main3=>replace key3:=Jj key3
  refine de (P:=?P4) ?hk4 (fun key4=>?main4)
  case' main4=>replace key4:=Jj key4
  refine de (P:=?P5) ?hk5 (fun key5=>?main5)
  case' main5=>replace key5:=Jj key5
  refine de (P:=?P6) ?hk6 (fun key6=>?main6)
  case' main6=>replace key6:=Jj key6
  refine de (P:=?P7) ?hk7 (fun key7=>?main7)
  case' main7=>replace key7:=Jj key7
  refine de (P:=?P8) ?hk8 (fun key8=>?main8)
  case' main8=>replace key8:=Jj key8
  refine de (P:=?P9) ?hk9 (fun key9=>?main9)
  case' main9=>replace key9:=Jj key9
  refine de (P:=?P10) ?hk10 (fun key10=>?main10)
  case' main10=>replace key10:=Jj key10
  refine de (P:=?P11) ?hk11 (fun key11=>?main11)
  case' main11=>replace key11:=Jj key11
  refine de (P:=?P12) ?hk12 (fun key12=>?main12)
  case' main12=>replace key12:=Jj key12
  refine de (P:=?P13) ?hk13 (fun key13=>?main13)
  case' main13=>replace key13:=Jj key13
  refine de (P:=?P14) ?hk14 (fun key14=>?main14)
  case' main14=>replace key14:=Jj key14
  refine de (P:=?P15) ?hk15 (fun key15=>?main15)
  case' main15=>replace key15:=Jj key15
  refine de (P:=?P16) ?hk16 (fun key16=>?main16)
  case' main16=>replace key16:=Jj key16
  refine de (P:=?P17) ?hk17 (fun key17=>?main17)
  case' main17=>replace key17:=Jj key17
  refine de (P:=?P18) ?hk18 (fun key18=>?main18)
  case' main18=>replace key18:=Jj key18
  refine de (P:=?P19) ?hk19 (fun key19=>?main19)
  case' main19=>replace key19:=Jj key19
  refine de (P:=?P20) ?hk20 (fun key20=>?main20)
  case' main20=>replace key20:=Jj key20
  refine de (P:=?P21) ?hk21 (fun key21=>?main21)
  case' main21=>replace key21:=Jj key21
  refine wp_region_held_drew (S:=(fun w'=>w'.cell? ⟨w.heap.size,0,none⟩=some (.slice A j.poly.length c)∧w'.cell? ⟨w.heap.size,1,none⟩=some (.int .i64 j.fr)∧w'.cell? ⟨w.heap.size,2,none⟩=some (.int .i64 j.ct)∧w'.cell? ⟨w.heap.size,3,none⟩=some (.int .i64 j.wd)∧w'.cell? ⟨w.heap.size,4,none⟩=some (.int .i64 j.dg)∧w'.cell? ⟨w.heap.size,5,none⟩=some (.int .i64 j.wy)∧w'.cell? ⟨w.heap.size,6,none⟩=some (.int .i64 j.rw)∧w'.cell? ⟨w.heap.size,7,none⟩=some (.int .i64 j.ac)∧w'.cell? ⟨w.heap.size,8,none⟩=some (.int .i64 j.wi))) (by kernel_rfl) ?_ (fun hS=>?_)
  ·skip
   exact⟨a0,a1,a2,a3,a4,a5,a6,a7,a8⟩
  have B:Below w2.heap.size w2 w2.drew:=(Below.refl _ _).drew;generalize hW:w2.drew=wr at *;clear hW;refine tkF 0 rfl (by kernel_rfl) (by kernel_rfl) (fun _ _ _ h=>h) hS (by intro w' hSw;(try dsimp only at hSw);go_simp;all_goals with_reducible rfl) ?_
  (try simp only[Act.put,Jm,Jk,Jl])
  refine tkF 1 rfl (by kernel_rfl) (by kernel_rfl) (fun _ _ _ h=>h) hS (by intro w' hSw;(try dsimp only at hSw);go_simp;all_goals with_reducible rfl) ?_
  (try simp only[Act.put,Jm,Jk,Jl])
  refine tkF 4 rfl (by kernel_rfl) (by kernel_rfl) (fun _ _ _ h=>h) hS (by intro w' hSw;(try dsimp only at hSw);go_simp;all_goals with_reducible rfl) ?_
  (try simp only[Act.put,Jm,Jk,Jl])
  refine tkF 5 rfl (by kernel_rfl) (by kernel_rfl) (fun _ _ _ h=>h) hS (by intro w' hSw;(try dsimp only at hSw);go_simp;all_goals with_reducible rfl) ?_
  (try simp only[Act.put,Jm,Jk,Jl])
  refine tkF 6 rfl (by kernel_rfl) (by kernel_rfl) (fun _ _ _ h=>h) hS (by intro w' hSw;(try dsimp only at hSw);go_simp;all_goals with_reducible rfl) ?_
  (try simp only[Act.put,Jm,Jk,Jl])
  refine tkF 7 rfl (by kernel_rfl) (by kernel_rfl) (fun _ _ _ h=>h) hS (by intro w' hSw;(try dsimp only at hSw);go_simp;all_goals with_reducible rfl) ?_
  (try simp only[Act.put,Jm,Jk,Jl])
  refine tkF 8 rfl (by kernel_rfl) (by kernel_rfl) (fun _ _ _ h=>h) hS (by intro w' hSw;(try dsimp only at hSw);go_simp;all_goals with_reducible rfl) ?_
  (try simp only[Act.put,Jm,Jk,Jl])
  refine tkF 9 rfl (by kernel_rfl) (by kernel_rfl) (fun _ _ _ h=>h) hS (by intro w' hSw;(try dsimp only at hSw);go_simp;all_goals with_reducible rfl) ?_
  (try simp only[Act.put,Jm,Jk,Jl])
  refine tkF 14 rfl (by kernel_rfl) (by kernel_rfl) (fun _ _ _ h=>h) hS (by intro w' hSw;(try dsimp only at hSw);go_simp;all_goals with_reducible rfl) ?_
  (try simp only[Act.put,Jm,Jk,Jl])
  refine tkF 15 rfl (by kernel_rfl) (by kernel_rfl) (fun _ _ _ h=>h) hS (by intro w' hSw;(try dsimp only at hSw);go_simp;all_goals with_reducible rfl) ?_
  (try simp only[Act.put,Jm,Jk,Jl])
  refine tkF 16 rfl (by kernel_rfl) (by kernel_rfl) (fun _ _ _ h=>h) hS (by intro w' hSw;(try dsimp only at hSw);go_simp;all_goals with_reducible rfl) ?_
  (try simp only[Act.put,Jm,Jk,Jl])
  refine tkF 17 rfl (by kernel_rfl) (by kernel_rfl) (fun _ _ _ h=>h) hS (by intro w' hSw;(try dsimp only at hSw);go_simp;all_goals with_reducible rfl) ?_
  (try simp only[Act.put,Jm,Jk,Jl])
  refine tkF 22 rfl (by kernel_rfl) (by kernel_rfl) (fun _ _ _ h=>h) hS (by intro w' hSw;(try dsimp only at hSw);go_simp;all_goals with_reducible rfl) ?_
  (try simp only[Act.put,Jm,Jk,Jl])
  refine tkF 23 rfl (by kernel_rfl) (by kernel_rfl) (fun _ _ _ h=>h) hS (by intro w' hSw;(try dsimp only at hSw);go_simp;all_goals with_reducible rfl) ?_
  (try simp only[Act.put,Jm,Jk,Jl])
  refine tkF 24 rfl (by kernel_rfl) (by kernel_rfl) (fun _ _ _ h=>h) hS (by intro w' hSw;(try dsimp only at hSw);go_simp;all_goals with_reducible rfl) ?_
  (try simp only[Act.put,Jm,Jk,Jl])
  refine tkF 25 rfl (by kernel_rfl) (by kernel_rfl) (fun _ _ _ h=>h) hS (by intro w' hSw;(try dsimp only at hSw);go_simp;all_goals with_reducible rfl) ?_
  (try simp only[Act.put,Jm,Jk,Jl])
  refine tkF 26 rfl (by kernel_rfl) (by kernel_rfl) (fun _ _ _ h=>h) hS (by intro w' hSw;(try dsimp only at hSw);go_simp;all_goals with_reducible rfl) ?_
  (try simp only[Act.put,Jm,Jk,Jl])
  refine tkF 27 rfl (by kernel_rfl) (by kernel_rfl) (fun _ _ _ h=>h) hS (by intro w' hSw;(try dsimp only at hSw);go_simp;all_goals with_reducible rfl) ?_
  (try simp only[Act.put,Jm,Jk,Jl])
  refine tkF 28 rfl (by kernel_rfl) (by kernel_rfl) (fun _ _ _ h=>h) hS (by intro w' hSw;(try dsimp only at hSw);go_simp;all_goals with_reducible rfl) ?_
  (try simp only[Act.put,Jm,Jk,Jl])
  refine tkF 29 rfl (by kernel_rfl) (by kernel_rfl) (fun _ _ _ h=>h) hS (by intro w' hSw;(try dsimp only at hSw);go_simp;all_goals with_reducible rfl) ?_
  (try simp only[Act.put,Jm,Jk,Jl])
  refine tkF 30 rfl (by kernel_rfl) (by kernel_rfl) (fun _ _ _ h=>h) hS (by intro w' hSw;(try dsimp only at hSw);go_simp;all_goals with_reducible rfl) ?_
  (try simp only[Act.put,Jm,Jk,Jl])
  refine an (l':=bmF 2143536115) (by kernel_rfl) ?_;clear hS;refine wpAnyH_ready (rs:=[2,10,18,31]) (by kernel_rfl) (by simp) ?_;refine AllReadyH.cons rfl (fun K hK=>?_) ?_
  ·skip
   (try go_simp)
   go_at_call 30
   refine(bE _ j.poly _ (HP.out.bel B)).mono ?_;rintro e wn ⟨rfl,b⟩;replace B:=aa B b;clear b
   (try dsimp only)
   refine hK.out _ _ (HSP.out _ B) (fun hS=>?_);clear hK K
   (try simp only[Act.put,Jm,Jk,Jl])
   refine tkF 3 rfl (by kernel_rfl) (by kernel_rfl) (fun _ _ _ h=>h) hS (by intro w' hSw;(try dsimp only at hSw);go_simp;all_goals with_reducible rfl) ?_
   (try simp only[Act.put,Jm,Jk,Jl])
   refine an (l':=bmF 2143536127) (by kernel_rfl) ?_;clear hS
   (try clear hwx)
   revert B
   revert wn
   exact key21.out
  refine AllReadyH.cons rfl (fun K hK=>?_) ?_
  ·skip
   go_simp
   obtain⟨J10,b⟩:=L10.out wr;replace B:=aa B b;clear b;refine hK.out _ _ (HSP.out _ B) (fun hS=>?_);clear hK K
   (try simp only[Act.put,Jm,Jk,Jl])
   refine an (l':=bmF 2143537139) (by kernel_rfl) ?_;clear hS
   (try clear hwx)
   revert J10;revert B
   generalize World.alloc wr _=wn;generalize wr.heap.size=b10
   revert b10;revert wn
   exact key20.out
  refine AllReadyH.cons rfl (fun K hK=>?_) ?_
  ·skip
   go_simp
   obtain⟨J18,b⟩:=L18.out wr;replace B:=aa B b;clear b;refine hK.out _ _ (HSP.out _ B) (fun hS=>?_);clear hK K
   (try simp only[Act.put,Jm,Jk,Jl])
   refine an (l':=bmF 2143798259) (by kernel_rfl) ?_;clear hS
   (try clear hwx)
   revert J18;revert B
   generalize World.alloc wr _=wn;generalize wr.heap.size=b18
   revert b18;revert wn
   exact key19.out
  refine AllReadyH.cons rfl (fun K hK=>?_) ?_
  ·skip
   go_simp
   obtain⟨J31,b⟩:=L31.out wr;replace B:=aa B b;clear b;refine hK.out _ _ (HSP.out _ B) (fun hS=>?_);clear hK K
   (try simp only[Act.put,Jm,Jk,Jl])
   refine an (l':=bmF 4291019763) (by kernel_rfl) ?_;clear hS
   (try clear hwx)
   revert J31;revert B
   generalize World.alloc wr _=wn;generalize wr.heap.size=b31
   revert b31;revert wn
   exact key18.out
  exact AllReadyH.nil
  case hk21=>
   intro wr B;refine wpAnyH_ready (rs:=[10,18,31]) (by kernel_rfl) (by simp) ?_;refine AllReadyH.cons rfl (fun K hK=>?_) ?_
   ·skip
    go_simp
    obtain⟨J10,b⟩:=L10.out wr;replace B:=aa B b;clear b;refine hK.out _ _ (HSP.out _ B) (fun hS=>?_);clear hK K
    (try simp only[Act.put,Jm,Jk,Jl])
    refine an (l':=bmF 2143537151) (by kernel_rfl) ?_;clear hS
    (try clear hwx)
    revert J10;revert B
    generalize World.alloc wr _=wn;generalize wr.heap.size=b10
    revert b10;revert wn
    exact key17.out
   refine AllReadyH.cons rfl (fun K hK=>?_) ?_
   ·skip
    go_simp
    obtain⟨J18,b⟩:=L18.out wr;replace B:=aa B b;clear b;refine hK.out _ _ (HSP.out _ B) (fun hS=>?_);clear hK K
    (try simp only[Act.put,Jm,Jk,Jl])
    refine an (l':=bmF 2143798271) (by kernel_rfl) ?_;clear hS
    (try clear hwx)
    revert J18;revert B
    generalize World.alloc wr _=wn;generalize wr.heap.size=b18
    revert b18;revert wn
    exact key16.out
   refine AllReadyH.cons rfl (fun K hK=>?_) ?_
   ·skip
    go_simp
    obtain⟨J31,b⟩:=L31.out wr;replace B:=aa B b;clear b;refine hK.out _ _ (HSP.out _ B) (fun hS=>?_);clear hK K
    (try simp only[Act.put,Jm,Jk,Jl])
    refine an (l':=bmF 4291019775) (by kernel_rfl) ?_;clear hS
    (try clear hwx)
    revert J31;revert B
    generalize World.alloc wr _=wn;generalize wr.heap.size=b31
    revert b31;revert wn
    exact key15.out
   exact AllReadyH.nil
  case hk20=>
   intro wr b10 B J10;refine wpAnyH_ready (rs:=[2,18,31]) (by kernel_rfl) (by simp) ?_;refine AllReadyH.cons rfl (fun K hK=>?_) ?_
   ·skip
    (try go_simp)
    go_at_call 30
    refine(bE _ j.poly _ (HP.out.bel B)).mono ?_;rintro e wn ⟨rfl,b⟩;replace J10:=Jj (J10.out.bel b);replace B:=aa B b;clear b
    (try dsimp only)
    refine hK.out _ _ (HSP.out _ B) (fun hS=>?_);clear hK K
    (try simp only[Act.put,Jm,Jk,Jl])
    refine tkF 3 rfl (by kernel_rfl) (by kernel_rfl) (fun _ _ _ h=>h) hS (by intro w' hSw;(try dsimp only at hSw);go_simp;all_goals with_reducible rfl) ?_
    (try simp only[Act.put,Jm,Jk,Jl])
    refine an (l':=bmF 2143537151) (by kernel_rfl) ?_;clear hS
    (try clear hwx)
    revert J10;revert B
    revert b10;revert wn
    exact key17.out
   refine AllReadyH.cons rfl (fun K hK=>?_) ?_
   ·skip
    go_simp
    obtain⟨J18,b⟩:=L18.out wr;replace J10:=Jj (J10.out.bel b);replace B:=aa B b;clear b;refine hK.out _ _ (HSP.out _ B) (fun hS=>?_);clear hK K
    (try simp only[Act.put,Jm,Jk,Jl])
    refine an (l':=bmF 2143799283) (by kernel_rfl) ?_;clear hS
    (try clear hwx)
    revert J18;revert J10;revert B
    generalize World.alloc wr _=wn;generalize wr.heap.size=b18
    revert b18;revert b10;revert wn
    exact key14.out
   refine AllReadyH.cons rfl (fun K hK=>?_) ?_
   ·skip
    go_simp
    obtain⟨J31,b⟩:=L31.out wr;replace J10:=Jj (J10.out.bel b);replace B:=aa B b;clear b;refine hK.out _ _ (HSP.out _ B) (fun hS=>?_);clear hK K
    (try simp only[Act.put,Jm,Jk,Jl])
    refine an (l':=bmF 4291020787) (by kernel_rfl) ?_;clear hS
    (try clear hwx)
    revert J31;revert J10;revert B
    generalize World.alloc wr _=wn;generalize wr.heap.size=b31
    revert b31;revert b10;revert wn
    exact key13.out
   exact AllReadyH.nil
  case hk19=>
   intro wr b18 B J18;refine wpAnyH_ready (rs:=[2,10,31]) (by kernel_rfl) (by simp) ?_;refine AllReadyH.cons rfl (fun K hK=>?_) ?_
   ·skip
    (try go_simp)
    go_at_call 30
    refine(bE _ j.poly _ (HP.out.bel B)).mono ?_;rintro e wn ⟨rfl,b⟩;replace J18:=Jj (J18.out.bel b);replace B:=aa B b;clear b
    (try dsimp only)
    refine hK.out _ _ (HSP.out _ B) (fun hS=>?_);clear hK K
    (try simp only[Act.put,Jm,Jk,Jl])
    refine tkF 3 rfl (by kernel_rfl) (by kernel_rfl) (fun _ _ _ h=>h) hS (by intro w' hSw;(try dsimp only at hSw);go_simp;all_goals with_reducible rfl) ?_
    (try simp only[Act.put,Jm,Jk,Jl])
    refine an (l':=bmF 2143798271) (by kernel_rfl) ?_;clear hS
    (try clear hwx)
    revert J18;revert B
    revert b18;revert wn
    exact key16.out
   refine AllReadyH.cons rfl (fun K hK=>?_) ?_
   ·skip
    go_simp
    obtain⟨J10,b⟩:=L10.out wr;replace J18:=Jj (J18.out.bel b);replace B:=aa B b;clear b;refine hK.out _ _ (HSP.out _ B) (fun hS=>?_);clear hK K
    (try simp only[Act.put,Jm,Jk,Jl])
    refine an (l':=bmF 2143799283) (by kernel_rfl) ?_;clear hS
    (try clear hwx)
    revert J18;revert J10;revert B
    generalize World.alloc wr _=wn;generalize wr.heap.size=b10
    revert b18;revert b10;revert wn
    exact key14.out
   refine AllReadyH.cons rfl (fun K hK=>?_) ?_
   ·skip
    go_simp
    obtain⟨J31,b⟩:=L31.out wr;replace J18:=Jj (J18.out.bel b);replace B:=aa B b;clear b;refine hK.out _ _ (HSP.out _ B) (fun hS=>?_);clear hK K
    (try simp only[Act.put,Jm,Jk,Jl])
    refine an (l':=bmF 4291281907) (by kernel_rfl) ?_;clear hS
    (try clear hwx)
    revert J31;revert J18;revert B
    generalize World.alloc wr _=wn;generalize wr.heap.size=b31
    revert b31;revert b18;revert wn
    exact key12.out
   exact AllReadyH.nil
  case hk18=>
   intro wr b31 B J31;refine wpAnyH_ready (rs:=[2,10,18]) (by kernel_rfl) (by simp) ?_;refine AllReadyH.cons rfl (fun K hK=>?_) ?_
   ·skip
    (try go_simp)
    go_at_call 30
    refine(bE _ j.poly _ (HP.out.bel B)).mono ?_;rintro e wn ⟨rfl,b⟩;replace J31:=Jj (J31.out.bel b);replace B:=aa B b;clear b
    (try dsimp only)
    refine hK.out _ _ (HSP.out _ B) (fun hS=>?_);clear hK K
    (try simp only[Act.put,Jm,Jk,Jl])
    refine tkF 3 rfl (by kernel_rfl) (by kernel_rfl) (fun _ _ _ h=>h) hS (by intro w' hSw;(try dsimp only at hSw);go_simp;all_goals with_reducible rfl) ?_
    (try simp only[Act.put,Jm,Jk,Jl])
    refine an (l':=bmF 4291019775) (by kernel_rfl) ?_;clear hS
    (try clear hwx)
    revert J31;revert B
    revert b31;revert wn
    exact key15.out
   refine AllReadyH.cons rfl (fun K hK=>?_) ?_
   ·skip
    go_simp
    obtain⟨J10,b⟩:=L10.out wr;replace J31:=Jj (J31.out.bel b);replace B:=aa B b;clear b;refine hK.out _ _ (HSP.out _ B) (fun hS=>?_);clear hK K
    (try simp only[Act.put,Jm,Jk,Jl])
    refine an (l':=bmF 4291020787) (by kernel_rfl) ?_;clear hS
    (try clear hwx)
    revert J31;revert J10;revert B
    generalize World.alloc wr _=wn;generalize wr.heap.size=b10
    revert b31;revert b10;revert wn
    exact key13.out
   refine AllReadyH.cons rfl (fun K hK=>?_) ?_
   ·skip
    go_simp
    obtain⟨J18,b⟩:=L18.out wr;replace J31:=Jj (J31.out.bel b);replace B:=aa B b;clear b;refine hK.out _ _ (HSP.out _ B) (fun hS=>?_);clear hK K
    (try simp only[Act.put,Jm,Jk,Jl])
    refine an (l':=bmF 4291281907) (by kernel_rfl) ?_;clear hS
    (try clear hwx)
    revert J31;revert J18;revert B
    generalize World.alloc wr _=wn;generalize wr.heap.size=b18
    revert b31;revert b18;revert wn
    exact key12.out
   exact AllReadyH.nil
  case hk17=>
   intro wr b10 B J10;refine wpAnyH_ready (rs:=[11,18,31]) (by kernel_rfl) (by simp) ?_;refine AllReadyH.cons rfl (fun K hK=>?_) ?_
   ·skip
    (try go_simp)
    go_at_call 35
    refine(show Calls _ _ _ _ (fun e w'=>e=.returned (.string (gr1 j))∧_) from cW _ [j.fr,j.ct,j.wd] _ J10.out (by simp)).mono ?_;rintro e wn ⟨rfl,b⟩;clear J10;replace B:=aa B b;clear b
    (try dsimp only)
    refine hK.out _ _ (HSP.out _ B) (fun hS=>?_);clear hK K
    (try simp only[Act.put,Jm,Jk,Jl])
    refine tkF 12 rfl (by kernel_rfl) (by kernel_rfl) (fun _ _ _ h=>h) hS (by intro w' hSw;(try dsimp only at hSw);go_simp;all_goals with_reducible rfl) ?_
    (try simp only[Act.put,Jm,Jk,Jl])
    refine tkF 13 rfl (by kernel_rfl) (by kernel_rfl) (fun _ _ _ h=>h) hS (by intro w' hSw;(try dsimp only at hSw);go_simp;all_goals with_reducible rfl) ?_
    (try simp only[Act.put,Jm,Jk,Jl])
    refine an (l':=bmF 2143551487) (by kernel_rfl) ?_;clear hS
    (try clear hwx)
    revert B
    revert b10;revert wn
    exact key11.out
   refine AllReadyH.cons rfl (fun K hK=>?_) ?_
   ·skip
    go_simp
    obtain⟨J18,b⟩:=L18.out wr;replace J10:=Jj (J10.out.bel b);replace B:=aa B b;clear b;refine hK.out _ _ (HSP.out _ B) (fun hS=>?_);clear hK K
    (try simp only[Act.put,Jm,Jk,Jl])
    refine an (l':=bmF 2143799295) (by kernel_rfl) ?_;clear hS
    (try clear hwx)
    revert J18;revert J10;revert B
    generalize World.alloc wr _=wn;generalize wr.heap.size=b18
    revert b18;revert b10;revert wn
    exact key10.out
   refine AllReadyH.cons rfl (fun K hK=>?_) ?_
   ·skip
    go_simp
    obtain⟨J31,b⟩:=L31.out wr;replace J10:=Jj (J10.out.bel b);replace B:=aa B b;clear b;refine hK.out _ _ (HSP.out _ B) (fun hS=>?_);clear hK K
    (try simp only[Act.put,Jm,Jk,Jl])
    refine an (l':=bmF 4291020799) (by kernel_rfl) ?_;clear hS
    (try clear hwx)
    revert J31;revert J10;revert B
    generalize World.alloc wr _=wn;generalize wr.heap.size=b31
    revert b31;revert b10;revert wn
    exact key9.out
   exact AllReadyH.nil
  case hk16=>
   intro wr b18 B J18;refine wpAnyH_ready (rs:=[10,31]) (by kernel_rfl) (by simp) ?_;refine AllReadyH.cons rfl (fun K hK=>?_) ?_
   ·skip
    go_simp
    obtain⟨J10,b⟩:=L10.out wr;replace J18:=Jj (J18.out.bel b);replace B:=aa B b;clear b;refine hK.out _ _ (HSP.out _ B) (fun hS=>?_);clear hK K
    (try simp only[Act.put,Jm,Jk,Jl])
    refine an (l':=bmF 2143799295) (by kernel_rfl) ?_;clear hS
    (try clear hwx)
    revert J18;revert J10;revert B
    generalize World.alloc wr _=wn;generalize wr.heap.size=b10
    revert b18;revert b10;revert wn
    exact key10.out
   refine AllReadyH.cons rfl (fun K hK=>?_) ?_
   ·skip
    go_simp
    obtain⟨J31,b⟩:=L31.out wr;replace J18:=Jj (J18.out.bel b);replace B:=aa B b;clear b;refine hK.out _ _ (HSP.out _ B) (fun hS=>?_);clear hK K
    (try simp only[Act.put,Jm,Jk,Jl])
    refine an (l':=bmF 4291281919) (by kernel_rfl) ?_;clear hS
    (try clear hwx)
    revert J31;revert J18;revert B
    generalize World.alloc wr _=wn;generalize wr.heap.size=b31
    revert b31;revert b18;revert wn
    exact key8.out
   exact AllReadyH.nil
  case hk15=>
   intro wr b31 B J31;refine wpAnyH_ready (rs:=[10,18]) (by kernel_rfl) (by simp) ?_;refine AllReadyH.cons rfl (fun K hK=>?_) ?_
   ·skip
    go_simp
    obtain⟨J10,b⟩:=L10.out wr;replace J31:=Jj (J31.out.bel b);replace B:=aa B b;clear b;refine hK.out _ _ (HSP.out _ B) (fun hS=>?_);clear hK K
    (try simp only[Act.put,Jm,Jk,Jl])
    refine an (l':=bmF 4291020799) (by kernel_rfl) ?_;clear hS
    (try clear hwx)
    revert J31;revert J10;revert B
    generalize World.alloc wr _=wn;generalize wr.heap.size=b10
    revert b31;revert b10;revert wn
    exact key9.out
   refine AllReadyH.cons rfl (fun K hK=>?_) ?_
   ·skip
    go_simp
    obtain⟨J18,b⟩:=L18.out wr;replace J31:=Jj (J31.out.bel b);replace B:=aa B b;clear b;refine hK.out _ _ (HSP.out _ B) (fun hS=>?_);clear hK K
    (try simp only[Act.put,Jm,Jk,Jl])
    refine an (l':=bmF 4291281919) (by kernel_rfl) ?_;clear hS
    (try clear hwx)
    revert J31;revert J18;revert B
    generalize World.alloc wr _=wn;generalize wr.heap.size=b18
    revert b31;revert b18;revert wn
    exact key8.out
   exact AllReadyH.nil
  case hk14=>
   intro wr b10 b18 B J10 J18;refine wpAnyH_ready (rs:=[2,31]) (by kernel_rfl) (by simp) ?_;refine AllReadyH.cons rfl (fun K hK=>?_) ?_
   ·skip
    (try go_simp)
    go_at_call 30
    refine(bE _ j.poly _ (HP.out.bel B)).mono ?_;rintro e wn ⟨rfl,b⟩;replace J10:=Jj (J10.out.bel b);replace J18:=Jj (J18.out.bel b);replace B:=aa B b;clear b
    (try dsimp only)
    refine hK.out _ _ (HSP.out _ B) (fun hS=>?_);clear hK K
    (try simp only[Act.put,Jm,Jk,Jl])
    refine tkF 3 rfl (by kernel_rfl) (by kernel_rfl) (fun _ _ _ h=>h) hS (by intro w' hSw;(try dsimp only at hSw);go_simp;all_goals with_reducible rfl) ?_
    (try simp only[Act.put,Jm,Jk,Jl])
    refine an (l':=bmF 2143799295) (by kernel_rfl) ?_;clear hS
    (try clear hwx)
    revert J18;revert J10;revert B
    revert b18;revert b10;revert wn
    exact key10.out
   refine AllReadyH.cons rfl (fun K hK=>?_) ?_
   ·skip
    go_simp
    obtain⟨J31,b⟩:=L31.out wr;replace J10:=Jj (J10.out.bel b);replace J18:=Jj (J18.out.bel b);replace B:=aa B b;clear b;refine hK.out _ _ (HSP.out _ B) (fun hS=>?_);clear hK K
    (try simp only[Act.put,Jm,Jk,Jl])
    refine an (l':=bmF 4291282931) (by kernel_rfl) ?_;clear hS
    (try clear hwx)
    revert J31;revert J18;revert J10;revert B
    generalize World.alloc wr _=wn;generalize wr.heap.size=b31
    revert b31;revert b18;revert b10;revert wn
    exact key7.out
   exact AllReadyH.nil
  case hk13=>
   intro wr b10 b31 B J10 J31;refine wpAnyH_ready (rs:=[2,18]) (by kernel_rfl) (by simp) ?_;refine AllReadyH.cons rfl (fun K hK=>?_) ?_
   ·skip
    (try go_simp)
    go_at_call 30
    refine(bE _ j.poly _ (HP.out.bel B)).mono ?_;rintro e wn ⟨rfl,b⟩;replace J10:=Jj (J10.out.bel b);replace J31:=Jj (J31.out.bel b);replace B:=aa B b;clear b
    (try dsimp only)
    refine hK.out _ _ (HSP.out _ B) (fun hS=>?_);clear hK K
    (try simp only[Act.put,Jm,Jk,Jl])
    refine tkF 3 rfl (by kernel_rfl) (by kernel_rfl) (fun _ _ _ h=>h) hS (by intro w' hSw;(try dsimp only at hSw);go_simp;all_goals with_reducible rfl) ?_
    (try simp only[Act.put,Jm,Jk,Jl])
    refine an (l':=bmF 4291020799) (by kernel_rfl) ?_;clear hS
    (try clear hwx)
    revert J31;revert J10;revert B
    revert b31;revert b10;revert wn
    exact key9.out
   refine AllReadyH.cons rfl (fun K hK=>?_) ?_
   ·skip
    go_simp
    obtain⟨J18,b⟩:=L18.out wr;replace J10:=Jj (J10.out.bel b);replace J31:=Jj (J31.out.bel b);replace B:=aa B b;clear b;refine hK.out _ _ (HSP.out _ B) (fun hS=>?_);clear hK K
    (try simp only[Act.put,Jm,Jk,Jl])
    refine an (l':=bmF 4291282931) (by kernel_rfl) ?_;clear hS
    (try clear hwx)
    revert J31;revert J18;revert J10;revert B
    generalize World.alloc wr _=wn;generalize wr.heap.size=b18
    revert b31;revert b18;revert b10;revert wn
    exact key7.out
   exact AllReadyH.nil
  case hk12=>
   intro wr b18 b31 B J18 J31;refine wpAnyH_ready (rs:=[2,10]) (by kernel_rfl) (by simp) ?_;refine AllReadyH.cons rfl (fun K hK=>?_) ?_
   ·skip
    (try go_simp)
    go_at_call 30
    refine(bE _ j.poly _ (HP.out.bel B)).mono ?_;rintro e wn ⟨rfl,b⟩;replace J18:=Jj (J18.out.bel b);replace J31:=Jj (J31.out.bel b);replace B:=aa B b;clear b
    (try dsimp only)
    refine hK.out _ _ (HSP.out _ B) (fun hS=>?_);clear hK K
    (try simp only[Act.put,Jm,Jk,Jl])
    refine tkF 3 rfl (by kernel_rfl) (by kernel_rfl) (fun _ _ _ h=>h) hS (by intro w' hSw;(try dsimp only at hSw);go_simp;all_goals with_reducible rfl) ?_
    (try simp only[Act.put,Jm,Jk,Jl])
    refine an (l':=bmF 4291281919) (by kernel_rfl) ?_;clear hS
    (try clear hwx)
    revert J31;revert J18;revert B
    revert b31;revert b18;revert wn
    exact key8.out
   refine AllReadyH.cons rfl (fun K hK=>?_) ?_
   ·skip
    go_simp
    obtain⟨J10,b⟩:=L10.out wr;replace J18:=Jj (J18.out.bel b);replace J31:=Jj (J31.out.bel b);replace B:=aa B b;clear b;refine hK.out _ _ (HSP.out _ B) (fun hS=>?_);clear hK K
    (try simp only[Act.put,Jm,Jk,Jl])
    refine an (l':=bmF 4291282931) (by kernel_rfl) ?_;clear hS
    (try clear hwx)
    revert J31;revert J18;revert J10;revert B
    generalize World.alloc wr _=wn;generalize wr.heap.size=b10
    revert b31;revert b18;revert b10;revert wn
    exact key7.out
   exact AllReadyH.nil
  case hk11=>
   intro wr b10 B;refine wpAnyH_ready (rs:=[18,31]) (by kernel_rfl) (by simp) ?_;refine AllReadyH.cons rfl (fun K hK=>?_) ?_
   ·skip
    go_simp
    obtain⟨J18,b⟩:=L18.out wr;replace B:=aa B b;clear b;refine hK.out _ _ (HSP.out _ B) (fun hS=>?_);clear hK K
    (try simp only[Act.put,Jm,Jk,Jl])
    refine an (l':=bmF 2143813631) (by kernel_rfl) ?_;clear hS
    (try clear hwx)
    revert J18;revert B
    generalize World.alloc wr _=wn;generalize wr.heap.size=b18
    revert b18;revert b10;revert wn
    exact key6.out
   refine AllReadyH.cons rfl (fun K hK=>?_) ?_
   ·skip
    go_simp
    obtain⟨J31,b⟩:=L31.out wr;replace B:=aa B b;clear b;refine hK.out _ _ (HSP.out _ B) (fun hS=>?_);clear hK K
    (try simp only[Act.put,Jm,Jk,Jl])
    refine an (l':=bmF 4291035135) (by kernel_rfl) ?_;clear hS
    (try clear hwx)
    revert J31;revert B
    generalize World.alloc wr _=wn;generalize wr.heap.size=b31
    revert b31;revert b10;revert wn
    exact key5.out
   exact AllReadyH.nil
  case hk10=>
   intro wr b10 b18 B J10 J18;refine wpAnyH_ready (rs:=[11,31]) (by kernel_rfl) (by simp) ?_;refine AllReadyH.cons rfl (fun K hK=>?_) ?_
   ·skip
    (try go_simp)
    go_at_call 35
    refine(show Calls _ _ _ _ (fun e w'=>e=.returned (.string (gr1 j))∧_) from cW _ [j.fr,j.ct,j.wd] _ J10.out (by simp)).mono ?_;rintro e wn ⟨rfl,b⟩;clear J10;replace J18:=Jj (J18.out.bel b);replace B:=aa B b;clear b
    (try dsimp only)
    refine hK.out _ _ (HSP.out _ B) (fun hS=>?_);clear hK K
    (try simp only[Act.put,Jm,Jk,Jl])
    refine tkF 12 rfl (by kernel_rfl) (by kernel_rfl) (fun _ _ _ h=>h) hS (by intro w' hSw;(try dsimp only at hSw);go_simp;all_goals with_reducible rfl) ?_
    (try simp only[Act.put,Jm,Jk,Jl])
    refine tkF 13 rfl (by kernel_rfl) (by kernel_rfl) (fun _ _ _ h=>h) hS (by intro w' hSw;(try dsimp only at hSw);go_simp;all_goals with_reducible rfl) ?_
    (try simp only[Act.put,Jm,Jk,Jl])
    refine an (l':=bmF 2143813631) (by kernel_rfl) ?_;clear hS
    (try clear hwx)
    revert J18;revert B
    revert b18;revert b10;revert wn
    exact key6.out
   refine AllReadyH.cons rfl (fun K hK=>?_) ?_
   ·skip
    go_simp
    obtain⟨J31,b⟩:=L31.out wr;replace J10:=Jj (J10.out.bel b);replace J18:=Jj (J18.out.bel b);replace B:=aa B b;clear b;refine hK.out _ _ (HSP.out _ B) (fun hS=>?_);clear hK K
    (try simp only[Act.put,Jm,Jk,Jl])
    refine an (l':=bmF 4291282943) (by kernel_rfl) ?_;clear hS
    (try clear hwx)
    revert J31;revert J18;revert J10;revert B
    generalize World.alloc wr _=wn;generalize wr.heap.size=b31
    revert b31;revert b18;revert b10;revert wn
    exact key4.out
   exact AllReadyH.nil
  case hk9=>
   intro wr b10 b31 B J10 J31;refine wpAnyH_ready (rs:=[11,18]) (by kernel_rfl) (by simp) ?_;refine AllReadyH.cons rfl (fun K hK=>?_) ?_
   ·skip
    (try go_simp)
    go_at_call 35
    refine(show Calls _ _ _ _ (fun e w'=>e=.returned (.string (gr1 j))∧_) from cW _ [j.fr,j.ct,j.wd] _ J10.out (by simp)).mono ?_;rintro e wn ⟨rfl,b⟩;clear J10;replace J31:=Jj (J31.out.bel b);replace B:=aa B b;clear b
    (try dsimp only)
    refine hK.out _ _ (HSP.out _ B) (fun hS=>?_);clear hK K
    (try simp only[Act.put,Jm,Jk,Jl])
    refine tkF 12 rfl (by kernel_rfl) (by kernel_rfl) (fun _ _ _ h=>h) hS (by intro w' hSw;(try dsimp only at hSw);go_simp;all_goals with_reducible rfl) ?_
    (try simp only[Act.put,Jm,Jk,Jl])
    refine tkF 13 rfl (by kernel_rfl) (by kernel_rfl) (fun _ _ _ h=>h) hS (by intro w' hSw;(try dsimp only at hSw);go_simp;all_goals with_reducible rfl) ?_
    (try simp only[Act.put,Jm,Jk,Jl])
    refine an (l':=bmF 4291035135) (by kernel_rfl) ?_;clear hS
    (try clear hwx)
    revert J31;revert B
    revert b31;revert b10;revert wn
    exact key5.out
   refine AllReadyH.cons rfl (fun K hK=>?_) ?_
   ·skip
    go_simp
    obtain⟨J18,b⟩:=L18.out wr;replace J10:=Jj (J10.out.bel b);replace J31:=Jj (J31.out.bel b);replace B:=aa B b;clear b;refine hK.out _ _ (HSP.out _ B) (fun hS=>?_);clear hK K
    (try simp only[Act.put,Jm,Jk,Jl])
    refine an (l':=bmF 4291282943) (by kernel_rfl) ?_;clear hS
    (try clear hwx)
    revert J31;revert J18;revert J10;revert B
    generalize World.alloc wr _=wn;generalize wr.heap.size=b18
    revert b31;revert b18;revert b10;revert wn
    exact key4.out
   exact AllReadyH.nil
  case hk8=>
   intro wr b18 b31 B J18 J31;refine wpAnyH_ready (rs:=[10]) (by kernel_rfl) (by simp) ?_;refine AllReadyH.cons rfl (fun K hK=>?_) ?_
   ·skip
    go_simp
    obtain⟨J10,b⟩:=L10.out wr;replace J18:=Jj (J18.out.bel b);replace J31:=Jj (J31.out.bel b);replace B:=aa B b;clear b;refine hK.out _ _ (HSP.out _ B) (fun hS=>?_);clear hK K
    (try simp only[Act.put,Jm,Jk,Jl])
    refine an (l':=bmF 4291282943) (by kernel_rfl) ?_;clear hS
    (try clear hwx)
    revert J31;revert J18;revert J10;revert B
    generalize World.alloc wr _=wn;generalize wr.heap.size=b10
    revert b31;revert b18;revert b10;revert wn
    exact key4.out
   exact AllReadyH.nil
  case hk7=>
   intro wr b10 b18 b31 B J10 J18 J31;refine wpAnyH_ready (rs:=[2]) (by kernel_rfl) (by simp) ?_;refine AllReadyH.cons rfl (fun K hK=>?_) ?_
   ·skip
    (try go_simp)
    go_at_call 30
    refine(bE _ j.poly _ (HP.out.bel B)).mono ?_;rintro e wn ⟨rfl,b⟩;replace J10:=Jj (J10.out.bel b);replace J18:=Jj (J18.out.bel b);replace J31:=Jj (J31.out.bel b);replace B:=aa B b;clear b
    (try dsimp only)
    refine hK.out _ _ (HSP.out _ B) (fun hS=>?_);clear hK K
    (try simp only[Act.put,Jm,Jk,Jl])
    refine tkF 3 rfl (by kernel_rfl) (by kernel_rfl) (fun _ _ _ h=>h) hS (by intro w' hSw;(try dsimp only at hSw);go_simp;all_goals with_reducible rfl) ?_
    (try simp only[Act.put,Jm,Jk,Jl])
    refine an (l':=bmF 4291282943) (by kernel_rfl) ?_;clear hS
    (try clear hwx)
    revert J31;revert J18;revert J10;revert B
    revert b31;revert b18;revert b10;revert wn
    exact key4.out
   exact AllReadyH.nil
  case hk6=>
   intro wr b10 b18 B J18;refine wpAnyH_ready (rs:=[19,31]) (by kernel_rfl) (by simp) ?_;refine AllReadyH.cons rfl (fun K hK=>?_) ?_
   ·skip
    (try go_simp)
    go_at_call 35
    refine(show Calls _ _ _ _ (fun e w'=>e=.returned (.string (gr2 j))∧_) from cW _ [j.dg,j.wy] _ J18.out (by simp)).mono ?_;rintro e wn ⟨rfl,b⟩;clear J18;replace B:=aa B b;clear b
    (try dsimp only)
    refine hK.out _ _ (HSP.out _ B) (fun hS=>?_);clear hK K
    (try simp only[Act.put,Jm,Jk,Jl])
    refine tkF 20 rfl (by kernel_rfl) (by kernel_rfl) (fun _ _ _ h=>h) hS (by intro w' hSw;(try dsimp only at hSw);go_simp;all_goals with_reducible rfl) ?_
    (try simp only[Act.put,Jm,Jk,Jl])
    refine tkF 21 rfl (by kernel_rfl) (by kernel_rfl) (fun _ _ _ h=>h) hS (by intro w' hSw;(try dsimp only at hSw);go_simp;all_goals with_reducible rfl) ?_
    (try simp only[Act.put,Jm,Jk,Jl])
    refine an (l':=bmF 2147483647) (by kernel_rfl) ?_;clear hS
    (try clear hwx)
    revert B
    revert b18;revert b10;revert wn
    exact key3.out
   refine AllReadyH.cons rfl (fun K hK=>?_) ?_
   ·skip
    go_simp
    obtain⟨J31,b⟩:=L31.out wr;replace J18:=Jj (J18.out.bel b);replace B:=aa B b;clear b;refine hK.out _ _ (HSP.out _ B) (fun hS=>?_);clear hK K
    (try simp only[Act.put,Jm,Jk,Jl])
    refine an (l':=bmF 4291297279) (by kernel_rfl) ?_;clear hS
    (try clear hwx)
    revert J31;revert J18;revert B
    generalize World.alloc wr _=wn;generalize wr.heap.size=b31
    revert b31;revert b18;revert b10;revert wn
    exact key2.out
   exact AllReadyH.nil
  case hk5=>
   intro wr b10 b31 B J31;refine wpAnyH_ready (rs:=[18]) (by kernel_rfl) (by simp) ?_;refine AllReadyH.cons rfl (fun K hK=>?_) ?_
   ·skip
    go_simp
    obtain⟨J18,b⟩:=L18.out wr;replace J31:=Jj (J31.out.bel b);replace B:=aa B b;clear b;refine hK.out _ _ (HSP.out _ B) (fun hS=>?_);clear hK K
    (try simp only[Act.put,Jm,Jk,Jl])
    refine an (l':=bmF 4291297279) (by kernel_rfl) ?_;clear hS
    (try clear hwx)
    revert J31;revert J18;revert B
    generalize World.alloc wr _=wn;generalize wr.heap.size=b18
    revert b31;revert b18;revert b10;revert wn
    exact key2.out
   exact AllReadyH.nil
  case hk4=>
   intro wr b10 b18 b31 B J10 J18 J31;refine wpAnyH_ready (rs:=[11]) (by kernel_rfl) (by simp) ?_;refine AllReadyH.cons rfl (fun K hK=>?_) ?_
   ·skip
    (try go_simp)
    go_at_call 35
    refine(show Calls _ _ _ _ (fun e w'=>e=.returned (.string (gr1 j))∧_) from cW _ [j.fr,j.ct,j.wd] _ J10.out (by simp)).mono ?_;rintro e wn ⟨rfl,b⟩;clear J10;replace J18:=Jj (J18.out.bel b);replace J31:=Jj (J31.out.bel b);replace B:=aa B b;clear b
    (try dsimp only)
    refine hK.out _ _ (HSP.out _ B) (fun hS=>?_);clear hK K
    (try simp only[Act.put,Jm,Jk,Jl])
    refine tkF 12 rfl (by kernel_rfl) (by kernel_rfl) (fun _ _ _ h=>h) hS (by intro w' hSw;(try dsimp only at hSw);go_simp;all_goals with_reducible rfl) ?_
    (try simp only[Act.put,Jm,Jk,Jl])
    refine tkF 13 rfl (by kernel_rfl) (by kernel_rfl) (fun _ _ _ h=>h) hS (by intro w' hSw;(try dsimp only at hSw);go_simp;all_goals with_reducible rfl) ?_
    (try simp only[Act.put,Jm,Jk,Jl])
    refine an (l':=bmF 4291297279) (by kernel_rfl) ?_;clear hS
    (try clear hwx)
    revert J31;revert J18;revert B
    revert b31;revert b18;revert b10;revert wn
    exact key2.out
   exact AllReadyH.nil
  case hk3=>
   intro wr b10 b18 B;refine wpAnyH_ready (rs:=[31]) (by kernel_rfl) (by simp) ?_;refine AllReadyH.cons rfl (fun K hK=>?_) ?_
   ·skip
    go_simp
    obtain⟨J31,b⟩:=L31.out wr;replace B:=aa B b;clear b;refine hK.out _ _ (HSP.out _ B) (fun hS=>?_);clear hK K
    (try simp only[Act.put,Jm,Jk,Jl])
    refine an (l':=bmF 4294967295) (by kernel_rfl) ?_;clear hS
    (try clear hwx)
    revert J31;revert B
    generalize World.alloc wr _=wn;generalize wr.heap.size=b31
    revert b31;revert b18;revert b10;revert wn
    exact key1.out
   exact AllReadyH.nil
  case hk2=>
   intro wr b10 b18 b31 B J18 J31;refine wpAnyH_ready (rs:=[19]) (by kernel_rfl) (by simp) ?_;refine AllReadyH.cons rfl (fun K hK=>?_) ?_
   ·skip
    (try go_simp)
    go_at_call 35
    refine(show Calls _ _ _ _ (fun e w'=>e=.returned (.string (gr2 j))∧_) from cW _ [j.dg,j.wy] _ J18.out (by simp)).mono ?_;rintro e wn ⟨rfl,b⟩;clear J18;replace J31:=Jj (J31.out.bel b);replace B:=aa B b;clear b
    (try dsimp only)
    refine hK.out _ _ (HSP.out _ B) (fun hS=>?_);clear hK K
    (try simp only[Act.put,Jm,Jk,Jl])
    refine tkF 20 rfl (by kernel_rfl) (by kernel_rfl) (fun _ _ _ h=>h) hS (by intro w' hSw;(try dsimp only at hSw);go_simp;all_goals with_reducible rfl) ?_
    (try simp only[Act.put,Jm,Jk,Jl])
    refine tkF 21 rfl (by kernel_rfl) (by kernel_rfl) (fun _ _ _ h=>h) hS (by intro w' hSw;(try dsimp only at hSw);go_simp;all_goals with_reducible rfl) ?_
    (try simp only[Act.put,Jm,Jk,Jl])
    refine an (l':=bmF 4294967295) (by kernel_rfl) ?_;clear hS
    (try clear hwx)
    revert J31;revert B
    revert b31;revert b18;revert b10;revert wn
    exact key1.out
   exact AllReadyH.nil
  case hk1=>
   intro wr b10 b18 b31 B J31;refine wpAnyH_ready (rs:=[32]) (by kernel_rfl) (by simp) ?_;refine AllReadyH.cons rfl (fun K hK=>?_) ?_
   ·skip
    (try go_simp)
    go_at_call 35
    refine(show Calls _ _ _ _ (fun e w'=>e=.returned (.string (gr3 j))∧_) from cW _ [j.rw,j.ac,j.wi] _ J31.out (by simp)).mono ?_;rintro e wn ⟨rfl,b⟩;clear J31;replace B:=aa B b;clear b
    (try dsimp only)
    refine hK.out _ _ (HSP.out _ B) (fun hS=>?_);clear hK K
    (try simp only[Act.put,Jm,Jk,Jl])
    refine tkF 33 rfl (by kernel_rfl) (by kernel_rfl) (fun _ _ _ h=>h) hS (by intro w' hSw;(try dsimp only at hSw);go_simp;all_goals with_reducible rfl) ?_
    (try simp only[Act.put,Jm,Jk,Jl])
    refine tkF 34 rfl (by kernel_rfl) (by kernel_rfl) (fun _ _ _ h=>h) hS (by intro w' hSw;(try dsimp only at hSw);go_simp;all_goals with_reducible rfl) ?_
    (try simp only[Act.put,Jm,Jk,Jl])
    refine an (l':=bmF 34359738367) (by kernel_rfl) ?_;clear hS
    (try clear hwx)
    revert B
    revert b31;revert b18;revert b10;revert wn
    exact key0.out
   exact AllReadyH.nil
  intro w5 b10 b18 b31 B;refine wpAnyH_done (by kernel_rfl) ?_ _;have HB5:=Jj (aa HB.out B);clear a0 a1 a2 a3 a4 a5 a6 a7 a8;go_wp2;go_ret;exact⟨by rw[HN.out];rfl,HB5.out⟩
def fJ (n:Nat) (p:List Int):Bool:=inB (n:Int) 1 60&&(cw p 0 n&&ag (cf p 0 n))
def bX:List (Nat×List Int)→Nat
 |[]=>0
 |x::r=>x.1+bX r
theorem um (a b:List (Nat×List Int)):bX (a++b)=bX a+bX b:=by
 induction a with
 |nil=>simp[bX]
 |cons x r ih=>rw[List.cons_append,bX,bX,ih,Nat.add_assoc]
def gT (ps:List (Nat×List Int)):Bool:=(ps.all fun x=>fJ x.1 x.2)&&(decide (bX ps≤60)&&decide (1≤ps.length))
theorem Dn {ps:List (Nat×List Int)} {k:Nat} (hk:k<ps.length) (h:fJ (sgn ps k) (sgp ps k)=false):gT ps=false:=by
 unfold gT;have:(ps.all fun x=>fJ x.1 x.2)=false:=by
  rw[Bool.eq_false_iff];intro ha;rw[List.all_eq_true] at ha;have e:(sgn ps k,sgp ps k)=ps[k]:=by simp[sgn,sgp,List.getD,hk]
  have:=ha ps[k] (List.getElem_mem hk);rw[←e] at this;rw[h] at this;cases this
 rw[this]
 rfl
theorem AR {ps:List (Nat×List Int)} (k:Nat):bX (ps.take k)≤bX ps:=by
 have:=um (ps.take k) (ps.drop k);rw[List.take_append_drop] at this;omega
theorem GW {ps:List (Nat×List Int)} {k:Nat} (h:60<bX (ps.take k)):gT ps=false:=by
 unfold gT;have h2:=AR (ps:=ps) k;have:decide (bX ps≤60)=false:=decide_eq_false (by omega);rw[this];simp
theorem Do {ps:List (Nat×List Int)} (ha:∀j,j<ps.length→fJ (sgn ps j) (sgp ps j)=true) (h:bX ps≤60):gT ps=decide (1≤ps.length):=by
 unfold gT;have:(ps.all fun x=>fJ x.1 x.2)=true:=by
  rw[List.all_eq_true];intro x hx;obtain⟨j,hj,rfl⟩:=List.getElem_of_mem hx;have e:(sgn ps j,sgp ps j)=ps[j]:=by simp[sgn,sgp,List.getD,hj]
  have:=ha j hj;rw[←e];exact this
 rw[this];simp[h]
def dL (x:Nat×List Int):ByteArray:=au (x.1:Int)++⟨#[58]⟩++ax x.2
def da (ps:List (Nat×List Int)):ByteArray:=if gT ps=true then aW (ps.map dL) ⟨#[47]⟩ else⟨#[]⟩
theorem AO (n:Nat) (u:Value) (p:List Int) (w:World) (hu:ai w u p) (hn:n≤1000000):
  Calls prog 267 #[.agg #[.int .i64 n,u]] w fun e w'=>e=.returned (.bool (fJ n p))∧Below w.heap.size w w':=by
 have HU:=Jj hu;obtain⟨A,c,rfl,hlc,hc,-⟩:=hu.open_;have K1:=Blk.new w 159 [.int .i64 n,.slice A p.length c];have B1:=Jj (ab w (.cells #[.int .i64 n,.slice A p.length c] 159));obtain⟨x0,x1,-,-⟩:=K1.two;clear hu K1
 go_enter func267,ntmps267
 by_cases h1:(n:Int)<1
 ·have HN:=Jj (show fJ n p=false by simp[fJ,inB];omega);have t1:decide ((n:Int)<1)=true:=decide_eq_true h1;clear h1;go_wp2;go_ret;exact⟨by rw[HN.out];rfl,B1.out⟩
 ·have t1:decide ((n:Int)<1)=false:=decide_eq_false h1;by_cases h2:(60:Int)<(n:Int)
  ·have HN:=Jj (show fJ n p=false by simp[fJ,inB];omega);have t2:decide ((60:Int)<(n:Int))=true:=decide_eq_true h2;clear h1 h2;go_wp2;go_ret;exact⟨by rw[HN.out];rfl,B1.out⟩
  ·have HN:=Jj (show fJ n p=(cw p 0 n&&ag (cf p 0 n)) by
    unfold fJ;rw[am.2 (by omega)]
    rfl)
   have t2:decide ((60:Int)<(n:Int))=false:=decide_eq_false h2;clear h1 h2
   go_wp2_with fail
   refine(iD _ p 0 n _ (HU.out.bel B1.out) (by omega) (by omega)).mono ?_;rintro e w2 ⟨r,rfl,o2,b2⟩;have HO:=Jj o2.ints;have HB:=Jj (aa B1.out b2);obtain⟨A2,c2,rfl,-,-,-⟩:=o2.ints.open_;clear o2 b2 x0 x1;cases hv:cw p 0 n
   ·go_wp2;go_ret;exact⟨by rw[HN.out,hv];rfl,HB.out⟩
   ·go_wp2_with fail
    refine(aF _ _ _ HO.out).mono ?_;rintro e w3 ⟨rfl,rfl⟩;go_wp2;go_ret;exact⟨by rw[HN.out,hv];rfl,HB.out⟩
theorem wX {ps:List (Nat×List Int)} {k:Nat} (h:k<ps.length):ps.take (k+1)=ps.take k++[(sgn ps k,sgp ps k)]:=by
 have e:(sgn ps k,sgp ps k)=ps[k]:=by simp[sgn,sgp,List.getD,h]
 rw[e,List.take_add_one,List.getElem?_eq_getElem h]
 rfl
theorem rW {ps:List (Nat×List Int)} {k:Nat} (h:k<ps.length):bX (ps.take (k+1))=bX (ps.take k)+sgn ps k:=by
 rw[wX h,um]
 rfl
theorem yp (v:Value) (ps:List (Nat×List Int)) (w:World) (hv:oM w v ps) (hl:ps.length≤1000000) (hn:∀k,k<ps.length→sgn ps k≤1000):
  Calls prog 217 #[v] w fun e w'=>e=.returned (.bool (gT ps))∧Below w.heap.size w w':=by
 have HV:=Jj hv;have HNN:=Jj hn;obtain⟨us,A,c,h1,rfl,h3,h4,h5,h6⟩:=hv;have H5:=Jj h5;have H6:=Jj h6;clear h5 h6 hn
 go_enter func217,ntmps217
 go_wp2
 go_loopw [3,8] (fun t i wr=>∃k:Nat,k≤ps.length∧i=.int .i64 k∧t=.int .i64 (bX (ps.take k):Nat)∧bX (ps.take k)≤60∧(∀j,j<k→fJ (sgn ps j) (sgp ps j)=true)∧Below w.heap.size w wr) (fun _ i _=>ps.length-(intOf i).toNat)
 case atStart=>exact⟨0,Jy _,rfl,rfl,Jy _,fun j hj=>absurd hj (by omega),Below.refl _ _⟩
 case round=>
  obtain⟨k,hk,rfl,rfl,hs,hall,hb⟩:=hrel;have H:=Jj (Jq hall hb);have hz:=hb.size;clear hall hb;by_cases hlt:k<ps.length
  ·obtain⟨b,o,rfl,hbb,hcell⟩:=H5.out (by omega);obtain⟨e0,e1⟩:=hcell k hlt;have y0:=(H.out.2.cell (p:=⟨b,o+k*2,none⟩) hbb).trans e0;have y1:=(H.out.2.cell (p:=⟨b,o+k*2+1,none⟩) hbb).trans e1;have HI:=Jj ((H6.out k hlt).bel H.out.2);have hn:=HNN.out k hlt;have HSN:=Jj (rW hlt);have HBAD:=Jj (fun h=>Dn (ps:=ps) hlt h);have HLONG:=Jj (fun h=>GW (ps:=ps) (k:=k+1) h);have HALL:=Jj (fun h=>cS H.out.1 (show(fun j=>fJ (sgn ps j) (sgp ps j)=true) k from h));obtain⟨n,hnn⟩:∃n,sgn ps k=n:=⟨_,rfl⟩;obtain⟨X,hX⟩:∃X,sgp ps k=X:=⟨_,rfl⟩;obtain⟨u,hu⟩:∃u,sgu us k=u:=⟨_,rfl⟩;rw[hnn] at y0 HSN hn HBAD HALL;rw[hu] at y1 HI;rw[hX] at HI HBAD HALL;clear hnn hX hu e0 e1 hcell;obtain⟨A3,c3,rfl,-,-,-⟩:=HI.out.open_;have K5:=Blk.new wr 159 [.int .i64 n,.slice A3 X.length c3];have BX:=Jj (ab wr (.cells #[.int .i64 n,.slice A3 X.length c3] 159));obtain⟨t0,t1,-,-⟩:=K5.two;have HK5:=Jj K5;obtain⟨S,hS⟩:∃S,bX (ps.take k)=S:=⟨_,rfl⟩;rw[hS] at hs HSN ⊢;clear hS K5
   go_wp2_with fail
   clear t0 t1;refine(AO n _ X _ (HI.out.bel BX.out) (by omega)).mono ?_;rintro e w5 ⟨rfl,b5⟩;have HB5:=Jj (aa (aa H.out.2 BX.out) b5);obtain⟨t0,t1,-,-⟩:=(HK5.out.below b5 HK5.out.lt).two;clear b5;cases hq:fJ n X
   ·have HZ:=Jj (HBAD.out hq);go_wp2;go_ret;exact⟨by rw[HZ.out];rfl,HB5.out⟩
   ·have HZ:=Jj (HALL.out hq);clear hq;by_cases hgt:(60:Int)<(S:Int)+(n:Int)
    ·have HL:=Jj (HLONG.out (by rw[HSN.out];omega));go_wp2;go_ret;exact⟨by rw[HL.out];rfl,HB5.out⟩
    ·go_wp2;go_roundw
     case rel=>exact⟨k+1,hlt,by go_num,by rw[HSN.out];go_num,by rw[HSN.out];omega,HZ.out,HB5.out⟩
     case measure=>simp[intOf];omega
  ·obtain rfl:k=ps.length:=by omega
   have HS:=Jj (show gT ps=decide (1≤ps.length) from Do H.out.1 (by rw[List.take_length] at hs;exact hs));rw[List.take_length] at hs ⊢;go_wp2;go_ret;exact⟨by rw[HS.out];simp;omega,H.out.2⟩
theorem wG (p:List Int) (h:Wf p):(ax p).size≤154:=by
 unfold ax
 split
 ·rename_i hp
  have h1:=bM h;have h2:=(bf.1 hp).2.1;omega
 ·exact Jy _
theorem ju (x:Nat×List Int) (h:Wf x.2) (hn:x.1≤1000000):(dL x).size≤200:=by
 unfold dL;have h1:=aJ (n:=(x.1:Int)) (by omega) (by omega);have h2:=wG _ h;have:(⟨#[58]⟩:ByteArray).size=1:=rfl;rw[Jt,Jt];omega
theorem Fy {ps:List (Nat×List Int)} {cs:List Value} {k:Nat} (hl:cs.length=ps.length) (hk:k<ps.length) (h:∀j,j<k→cs[j]?=some (.string (dL (sgn ps j,sgp ps j)))):
  ∀j,j<k+1→(cs.set k (.string (dL (sgn ps k,sgp ps k))))[j]?=some (.string (dL (sgn ps j,sgp ps j))):=by
 intro j hj;by_cases e:j=k
 ·subst e;rw[List.getElem?_set_self (by omega)]
 ·rw[List.getElem?_set_ne (by omega)];exact h j (by omega)
theorem qV (ps:List (Nat×List Int)):eY (fun j=>dL (sgn ps j,sgp ps j)) ps.length=ps.map dL:=by
 unfold eY
 apply List.ext_getElem
 ·simp
 ·intro i h1 h2;simp at h1;simp[sgn,sgp,List.getD,h1]
theorem ql (v:Value) (ps:List (Nat×List Int)) (w:World) (hv:oM w v ps) (hl:ps.length≤1000) (hn:∀k,k<ps.length→sgn ps k≤1000) (ht:Tab w):
  Calls prog 131 #[v] w fun e w'=>e=.returned (.string (da ps))∧Below w.heap.size w w':=by
 have HV:=Jj hv;have HNN:=Jj hn;have HT:=Jj ht;obtain⟨us,A,c,h1,rfl,h3,h4,h5,h6⟩:=hv;have H5:=Jj h5;have H6:=Jj h6;have hmk:=fun W=>Tryz.mkStrs ps.length (by omega) W;clear h5 h6 hn ht
 go_enter func131,ntmps131
 go_wp2_with fail
 refine(yp _ ps _ HV.out (by omega) HNN.out).mono ?_;rintro e w2 ⟨rfl,b2⟩;have HB:=Jj b2;clear b2;cases hq:gT ps
 ·have HZ:=Jj (show da ps=⟨#[]⟩ by simp[da,hq]);go_wp2;go_ret;exact⟨by rw[HZ.out];rfl,HB.out⟩
 ·have HZ:=Jj (show da ps=aW (ps.map dL) ⟨#[47]⟩ by simp[da,hq]);clear hq;have KS:=Blk.new w2 9 (bz ps.length (.string ⟨#[]⟩));have BS:=Jj (aa HB.out (ab w2 (.cells (bz ps.length (.string ⟨#[]⟩)).toArray 9)))
  go_wp2_with fail
  generalize hW:w2.alloc (.cells (bz ps.length (.string ⟨#[]⟩)).toArray 9)=W at *;have hWz:W.heap.size=w2.heap.size+1:=by rw[←hW];simp
  have hz2:=HB.out.size;clear hW
  go_loopw [14] (fun i wr=>∃(k:Nat) (cs:List Value),k≤ps.length∧i=.int .i64 k∧Blk wr w2.heap.size 9 cs∧cs.length=ps.length∧(∀j,j<k→cs[j]?=some (.string (dL (sgn ps j,sgp ps j))))∧Below w.heap.size w wr∧w2.heap.size+1≤wr.heap.size) (fun i _=>ps.length-(intOf i).toNat)
  case atStart=>exact⟨0,_,Jy _,rfl,KS,bi _ _,fun j hj=>absurd hj (by omega),BS.out,by omega⟩
  case round=>
   obtain⟨k,cs,hk,rfl,hbk,hcl,hcs,hb,hz⟩:=hrel;have H:=Jj (Jq hcl (Jq hcs hb));have HBK:=Jj hbk;clear hcl hcs hb KS;by_cases hlt:k<ps.length
   ·obtain⟨b,o,rfl,hbb,hcell⟩:=H5.out (by omega);obtain⟨e0,e1⟩:=hcell k hlt;have y0:=(H.out.2.2.cell (p:=⟨b,o+k*2,none⟩) hbb).trans e0;have y1:=(H.out.2.2.cell (p:=⟨b,o+k*2+1,none⟩) hbb).trans e1;have HI:=Jj ((H6.out k hlt).bel H.out.2.2);have hn:=HNN.out k hlt;have HSET:=Jj (Fy H.out.1 hlt H.out.2.1);have hss:=ju (sgn ps k,sgp ps k) (H6.out k hlt).2 (by show sgn ps k≤1000000;omega);obtain⟨n,hnn⟩:∃n,sgn ps k=n:=⟨_,rfl⟩;obtain⟨X,hX⟩:∃X,sgp ps k=X:=⟨_,rfl⟩;obtain⟨u,hu⟩:∃u,sgu us k=u:=⟨_,rfl⟩;rw[hnn] at y0 hn hss HSET;rw[hu] at y1 HI;rw[hX] at HI hss HSET;clear hX hu e0 e1 hcell;obtain⟨A3,c3,rfl,-,-,-⟩:=HI.out.open_;have K5:=Blk.new wr 159 [.int .i64 n,.slice A3 X.length c3];have BX:=Jj (ab wr (.cells #[.int .i64 n,.slice A3 X.length c3] 159));obtain⟨t0,t1,-,-⟩:=K5.two;have HK5:=Jj K5;have hi1:=aJ (n:=(n:Int)) (by omega) (by omega);have hi2:=wG X HI.out.2;have HSEG:dL (n,X)=au n++⟨#[58]⟩++ax X:=rfl;have HFP:=Jj (fun w (h1:ai w (.slice A3 X.length c3) X) (h2:Tab w)=>jI (.slice A3 X.length c3) X w h1 h2);have HIT:=Jj (fun w (h2:Tab w)=>fG (n:Int) w (by omega) h2);obtain⟨I,hI⟩:∃I,au (n:Int)=I:=⟨_,rfl⟩;obtain⟨J,hJ⟩:∃J,ax X=J:=⟨_,rfl⟩;rw[hI,hJ] at HSEG;rw[hI] at hi1 HIT;rw[hJ] at hi2 HFP;rw[HSEG] at HSET;clear hI hJ HSEG;have g1:¬ 9223372036854775807<I.size+1:=by omega
    have g2:¬ 9223372036854775807<I.size+1+J.size:=by omega
    have r1:(I++⟨#[58]⟩).size=I.size+1:=by rw[Jt];rfl
    have r2:(I++⟨#[58]⟩++J).size=I.size+1+J.size:=by rw[Jt,r1]
    have HBX:=Jj (hbk.alloc (.cells #[.int .i64 n,.slice A3 X.length c3] 159));have HB0:=Jj (aa H.out.2.2 BX.out);have HI0:=Jj (HI.out.bel BX.out);have hkc:k<cs.length:=by rw[H.out.1];exact hlt
    have hz5:w2.heap.size+1≤(wr.alloc (.cells #[.int .i64 n,.slice A3 X.length c3] 159)).heap.size:=by simp;omega
    have hk5:=K5.lt;have hne:wr.heap.size≠w2.heap.size:=by omega
    have tok1:True:=trivial;have tok2:True:=trivial;clear hbk hss hnn K5
    go_wp2_with fail
    generalize hW5:wr.alloc (.cells #[.int .i64 n,.slice A3 X.length c3] 159)=W5 at *;clear hW5
    go_region_law (first
     |((try go_simp);go_at_call 113;have _t:=tok1;go_loud (refine(HIT.out _ (by first|exact HT.out.bel HB0.out|exact(HT.out.bel HB0.out).bel ((Below.refl _ _).drew))).mono ?_;rintro e w6 ⟨rfl,b⟩;replace b:Below W5.heap.size W5 w6:=(by first|exact b|exact aa ((Below.refl _ _).drew) b);have HK6:=Jj (HK5.out.below b hk5);have HB6:=Jj (aa HB0.out b);have HI6:=Jj (HI0.out.bel b);have HS6:=Jj (HBX.out.below b HBX.out.lt);obtain⟨s0,s1,-,-⟩:=HK6.out.two;clear tok1 b;(try dsimp only)))
     |((try go_simp);go_at_call 103;have _t:=tok2;go_loud (refine(HFP.out _ HI6.out (HT.out.bel HB6.out)).mono ?_;rintro e w7 ⟨rfl,b⟩;have HB7:=Jj (aa HB6.out b);have HS7:=Jj (HS6.out.below b HS6.out.lt);have f7:=HS7.out.frozen k;have x7:w7.cell? ⟨w2.heap.size,k,none⟩=some (cs[k]'hkc):=(by rw[HS7.out.cell];exact List.getElem?_eq_getElem _);have hz7:=b.size;clear tok2 b;(try dsimp only)))
     |fail)
    all_goals
     have HS8:=Jj (HS7.out.set_ k (.string (I++⟨#[58]⟩++J)));have HB8:=Jj (HB7.out.setCell (p:=⟨w2.heap.size,k,none⟩) hz2 (.string (I++⟨#[58]⟩++J)));have hz8:w2.heap.size+1≤(w7.setCell ⟨w2.heap.size,k,none⟩ (.string (I++⟨#[58]⟩++J))).heap.size:=by
      simp only[World.setCell,Array.size_modify];have:=HS7.out.lt;omega
     obtain⟨W8,hW8⟩:∃W8,w7.setCell ⟨w2.heap.size,k,none⟩ (.string (I++⟨#[58]⟩++J))=W8:=⟨_,rfl⟩;rw[hW8] at HS8 HB8 hz8 ⊢;clear hW8 t0 t1 s0 s1 f7 x7;have hlc:(cs.set k (.string (I++⟨#[58]⟩++J))).length=ps.length:=by rw[List.length_set];exact H.out.1
     have HLC:=Jj hlc;clear hlc
     try (have HB9:=Jj (aa HB8.out (Below.drew (Below.refl W8.heap.size W8)));have HS9:=Jj (HS8.out.below (Below.drew (Below.refl W8.heap.size W8)) HS8.out.lt))
     go_wp2;go_roundw
     case rel=>first
      |exact⟨k+1,_,hlt,by go_num,HS9.out,HLC.out,HSET.out,HB9.out,hz8⟩
      |exact⟨k+1,_,hlt,by go_num,HS8.out,HLC.out,HSET.out,HB8.out,hz8⟩
     case measure=>simp[intOf];omega
   ·obtain rfl:k=ps.length:=by omega
    have HO:=Jj (show aj wr w2.heap.size (.slice (some ⟨w2.heap.size,0,none⟩) ps.length ps.length) (ps.map dL) by
     rw[←qV];exact qS (Jr _) HBK.out H.out.1 (by omega) H.out.2.1 (fun j hj=>by
      have:=ju (sgn ps j,sgp ps j) (H6.out j hj).2 (by show sgn ps j≤1000000;have:=HNN.out j hj;omega);omega))
    have HSZ:=Jj (show ∀x∈ps.map dL,x.size≤200 by
     intro x hx;rw[←qV] at hx;unfold eY at hx;obtain⟨j,hj,rfl⟩:=List.mem_map.1 hx;have hj:=List.mem_range.1 hj;exact ju (sgn ps j,sgp ps j) (H6.out j hj).2 (by show sgn ps j≤1000000;have:=HNN.out j hj;omega))
    have HLE:=Jj (show(ps.map dL).length≤1048576 by rw[List.length_map];omega);clear hbk
    go_wp2_with fail
    refine(kS _ (ps.map dL) ⟨#[47]⟩ _ HO.out.strs HLE.out 200 HSZ.out (by omega) (by decide)).mono ?_;rintro e w5 ⟨rfl,b5⟩;have HB5:=Jj (aa H.out.2.2 b5);clear b5;go_wp2;go_ret;exact⟨by rw[HZ.out];rfl,HB5.out⟩
end Go.Proofs.YtfmjklgfpiffbaaGreatDoor
