/-
  Parts of the proof of one statement, merged: EsM.
-/
import Derived.Test.YtfmjklgfpiffbaaGreatDoorR36
import Derived.Test.YtfmjklgfpiffbaaGreatDoorR37
namespace Go.Proofs.YtfmjklgfpiffbaaGreatDoor
open Go.RowKit Go.Proofs.Tryz
set_option linter.unusedVariables false
set_option linter.unusedSimpArgs false
set_option maxRecDepth 100000
set_option maxHeartbeats 8000000
attribute [local go_sem ↓] Go.wp_at_zero Go.wp_at_succ
theorem jG (P:Nat→Prop) (v:Value) (d:ae) (w:World) (ht:d.tab.length≤60) (hs:SxR P w v d) (hn:SxN P w):
  (∀(n:Value) (l:List Int),ai w n l→l.length=1→Calls prog 50 #[v,.string jp,n] w (SxQ P w (aK d jp l))) ∧
  (∀(n:Value) (l:List Int),ai w n l→l.length=1→Calls prog 50 #[v,.string dt,n] w (SxQ P w (aK d dt l))) ∧
  (∀(n:Value) (l:List Int),ai w n l→l.length=2→Calls prog 50 #[v,.string dT,n] w (SxQ P w (aK d dT l))) ∧
  (∀(n:Value) (l:List Int),ai w n l→l.length=2→Calls prog 50 #[v,.string eT,n] w (SxQ P w (aK d eT l))) ∧
  (∀(n:Value) (l:List Int),ai w n l→l.length=4→Calls prog 50 #[v,.string gn,n] w (SxQ P w (aK d gn l))):=by
 obtain⟨p,e,t,rfl,hs0⟩:=hs.s;obtain⟨Ap,cp,rfl,-,-,-⟩:=hs0.1.1.open_;obtain⟨Ae,ce,rfl,-,-,-⟩:=hs0.2.1.1.open_;obtain⟨At,ct,rfl,-,-,-⟩:=hs0.2.2.1.open_;have HS:=Jj (Sxn.first hs0 hn);obtain⟨c0,c1,c2,c3,c4,c5⟩:=HS.out.box.cells;obtain⟨f0,f1,f2,f3,f4,f5⟩:=HS.out.out.frz;obtain⟨z0,z1,z2,z3,z4,z5⟩:=HS.out.out.cells;clear hs hs0 hn;refine⟨?a0,?a1,?a2,?a3,?a4⟩
 case' a0=>
  intro n l hl hll;have hlw:=hl.2;obtain⟨An,cn,rfl,hnc,hncc,hrd⟩:=hl.open_;obtain⟨nb,no,rfl,hnb,hnn⟩:=hrd.ints (by omega);have q0:=hnn 0 (by omega);have i0:=hlw _ (bG l 0 (by omega));obtain⟨x0,hx0⟩:∃x,at_ l 0=x:=⟨_,rfl⟩;rw[hx0] at q0 i0;have HX0:=Jj hx0;rw[Nat.add_zero] at q0;rw[hll] at hnc ⊢;clear hl hrd hnn hlw hll hx0;obtain⟨r,hr⟩:∃r:ByteArray×ae,aK d jp l=r:=⟨_,rfl⟩;have HRR:=Jj (hr.symm.trans ((n8 d l).trans (by rw[HX0.out])));rw[hr];clear hr;unfold jp
  go_enter func50,ntmps50
  go_wp2_with fail
  generalize hW:World.alloc _ _=W at HS c0 c1 c2 c3 c4 c5 f0 f1 f2 f3 f4 f5 z0 z1 z2 z3 z4 z5 ⊢;clear hW;have HNC:=Jj (fun X (h:Below w.heap.size w X)=>((h.cell (by exact hnb)).trans q0:X.cell? ⟨nb,no,none⟩=some (.int .i64 x0)));have n0:=HNC.out _ HS.out.bel;clear q0;have tok1:True:=trivial
  go_region_held3 (fun w'=>(w'.cell? ⟨w.heap.size,0,none⟩=some (.slice Ap d.poly.length cp)∧w'.cell? ⟨w.heap.size,1,none⟩=some (.slice Ae d.eng.length ce)∧w'.cell? ⟨w.heap.size,2,none⟩=some (.slice At d.tab.length ct)∧w'.cell? ⟨w.heap.size,3,none⟩=some (.int .i64 d.rw)∧w'.cell? ⟨w.heap.size,4,none⟩=some (.int .i64 d.ac)∧w'.cell? ⟨w.heap.size,5,none⟩=some (.int .i64 d.wi))∧w'.cell? ⟨nb,no,none⟩=some (.int .i64 x0)) (first|with_reducible exact⟨⟨c0,c1,c2,c3,c4,c5⟩,n0⟩|exact⟨⟨c0,c1,c2,c3,c4,c5⟩,n0⟩|go_keep)
   (first
   |((try go_simp);go_at_call 86;have _t:=tok1;go_loud (refine(yB _ d.eng x0 _ (by first|exact HS.out.sta.2.1.1|exact HS.out.sta.2.1.1.bel (ah _)) i0).mono ?_;rintro e5 w5 ⟨y1,rfl,o1,b5⟩;replace b5:Below W.heap.size W w5:=(by first|exact b5|exact aa (ah _) b5);have G5:=Jj (HS.out.next b5);have HX:=Jj o1.ints;have HXO:=Jj (HS.out.tabO o1);obtain⟨A1,k1,rfl,-,-,-⟩:=o1.ints.open_;clear o1;obtain⟨c0,c1,c2,c3,c4,c5⟩:=G5.out.box.cells;obtain⟨f0,f1,f2,f3,f4,f5⟩:=G5.out.out.frz;obtain⟨z0,z1,z2,z3,z4,z5⟩:=G5.out.out.cells;have n0:=HNC.out _ G5.out.bel;clear tok1 b5;(try dsimp only)))
   |fail)
  have HLEN:=Jj (show(fI d.eng x0).length≤1048576 from zk d.eng x0);generalize (fI d.eng x0)=L at HX HXO HLEN HRR ⊢;generalize (cu d.eng x0)=K at HRR ⊢;clear HNC n0
 case' a1=>
  intro n l hl hll;have hlw:=hl.2;obtain⟨An,cn,rfl,hnc,hncc,hrd⟩:=hl.open_;obtain⟨nb,no,rfl,hnb,hnn⟩:=hrd.ints (by omega);have q0:=hnn 0 (by omega);have i0:=hlw _ (bG l 0 (by omega));obtain⟨x0,hx0⟩:∃x,at_ l 0=x:=⟨_,rfl⟩;rw[hx0] at q0 i0;have HX0:=Jj hx0;rw[Nat.add_zero] at q0;rw[hll] at hnc ⊢;clear hl hrd hnn hlw hll hx0;obtain⟨r,hr⟩:∃r:ByteArray×ae,aK d dt l=r:=⟨_,rfl⟩;have HRR:=Jj (hr.symm.trans ((ky d l).trans (by rw[HX0.out])));rw[hr];clear hr;unfold dt
  go_enter func50,ntmps50
  go_wp2_with fail
  generalize hW:World.alloc _ _=W at HS c0 c1 c2 c3 c4 c5 f0 f1 f2 f3 f4 f5 z0 z1 z2 z3 z4 z5 ⊢;clear hW;have HNC:=Jj (fun X (h:Below w.heap.size w X)=>((h.cell (by exact hnb)).trans q0:X.cell? ⟨nb,no,none⟩=some (.int .i64 x0)));have n0:=HNC.out _ HS.out.bel;clear q0;have tok1:True:=trivial
  go_region_held3 (fun w'=>(w'.cell? ⟨w.heap.size,0,none⟩=some (.slice Ap d.poly.length cp)∧w'.cell? ⟨w.heap.size,1,none⟩=some (.slice Ae d.eng.length ce)∧w'.cell? ⟨w.heap.size,2,none⟩=some (.slice At d.tab.length ct)∧w'.cell? ⟨w.heap.size,3,none⟩=some (.int .i64 d.rw)∧w'.cell? ⟨w.heap.size,4,none⟩=some (.int .i64 d.ac)∧w'.cell? ⟨w.heap.size,5,none⟩=some (.int .i64 d.wi))∧w'.cell? ⟨nb,no,none⟩=some (.int .i64 x0)) (first|with_reducible exact⟨⟨c0,c1,c2,c3,c4,c5⟩,n0⟩|exact⟨⟨c0,c1,c2,c3,c4,c5⟩,n0⟩|go_keep)
   (first
   |((try go_simp);go_at_call 90;have _t:=tok1;go_loud (refine(xd _ d.tab x0 _ (by first|exact HS.out.sta.2.2.1|exact HS.out.sta.2.2.1.bel (ah _)) (by omega)).mono ?_;rintro e5 w5 ⟨y1,rfl,o1,b5⟩;replace b5:Below W.heap.size W w5:=(by first|exact b5|exact aa (ah _) b5);have G5:=Jj (HS.out.next b5);have HX:=Jj o1.ints;have HXO:=Jj (HS.out.tabO o1);obtain⟨A1,k1,rfl,-,-,-⟩:=o1.ints.open_;clear o1;obtain⟨c0,c1,c2,c3,c4,c5⟩:=G5.out.box.cells;obtain⟨f0,f1,f2,f3,f4,f5⟩:=G5.out.out.frz;obtain⟨z0,z1,z2,z3,z4,z5⟩:=G5.out.out.cells;have n0:=HNC.out _ G5.out.bel;clear tok1 b5;(try dsimp only)))
   |fail)
  have HLEN:=Jj (show(crL d.tab x0).length≤1048576 from Js (yS d.tab x0 ht) (by omega));generalize (crL d.tab x0)=L at HX HXO HLEN HRR ⊢;generalize (eN d.tab x0)=K at HRR ⊢;clear HNC n0
 case' a2=>
  intro n l hl hll;have hlw:=hl.2;obtain⟨An,cn,rfl,hnc,hncc,hrd⟩:=hl.open_;obtain⟨nb,no,rfl,hnb,hnn⟩:=hrd.ints (by omega);have q0:=hnn 0 (by omega);have i0:=hlw _ (bG l 0 (by omega));obtain⟨x0,hx0⟩:∃x,at_ l 0=x:=⟨_,rfl⟩;rw[hx0] at q0 i0;have HX0:=Jj hx0;have q1:=hnn 1 (by omega);have i1:=hlw _ (bG l 1 (by omega));obtain⟨x1,hx1⟩:∃x,at_ l 1=x:=⟨_,rfl⟩;rw[hx1] at q1 i1;have HX1:=Jj hx1;rw[Nat.add_zero] at q0;rw[hll] at hnc ⊢;clear hl hrd hnn hlw hll hx0 hx1;obtain⟨r,hr⟩:∃r:ByteArray×ae,aK d dT l=r:=⟨_,rfl⟩;have HRR:=Jj (hr.symm.trans ((lm d l).trans (by rw[HX0.out,HX1.out])));rw[hr];clear hr;unfold dT
  go_enter func50,ntmps50
  go_wp2_with fail
  generalize hW:World.alloc _ _=W at HS c0 c1 c2 c3 c4 c5 f0 f1 f2 f3 f4 f5 z0 z1 z2 z3 z4 z5 ⊢;clear hW;have HNC:=Jj (fun X (h:Below w.heap.size w X)=>(⟨(h.cell (by exact hnb)).trans q0,(h.cell (by exact hnb)).trans q1⟩:X.cell? ⟨nb,no,none⟩=some (.int .i64 x0)∧X.cell? ⟨nb,no+1,none⟩=some (.int .i64 x1)));obtain⟨n0,n1⟩:=HNC.out _ HS.out.bel;clear q0 q1;have tok1:True:=trivial
  go_region_held3 (fun w'=>(w'.cell? ⟨w.heap.size,0,none⟩=some (.slice Ap d.poly.length cp)∧w'.cell? ⟨w.heap.size,1,none⟩=some (.slice Ae d.eng.length ce)∧w'.cell? ⟨w.heap.size,2,none⟩=some (.slice At d.tab.length ct)∧w'.cell? ⟨w.heap.size,3,none⟩=some (.int .i64 d.rw)∧w'.cell? ⟨w.heap.size,4,none⟩=some (.int .i64 d.ac)∧w'.cell? ⟨w.heap.size,5,none⟩=some (.int .i64 d.wi))∧w'.cell? ⟨nb,no,none⟩=some (.int .i64 x0)∧w'.cell? ⟨nb,no+1,none⟩=some (.int .i64 x1)) (first|with_reducible exact⟨⟨c0,c1,c2,c3,c4,c5⟩,n0,n1⟩|exact⟨⟨c0,c1,c2,c3,c4,c5⟩,n0,n1⟩|go_keep)
   (first
   |((try go_simp);go_at_call 88;have _t:=tok1;go_loud (refine(kE _ d.poly x0 x1 _ (by first|exact HS.out.sta.1.1|exact HS.out.sta.1.1.bel (ah _)) i0 i1).mono ?_;rintro e5 w5 ⟨y1,rfl,o1,b5⟩;replace b5:Below W.heap.size W w5:=(by first|exact b5|exact aa (ah _) b5);have G5:=Jj (HS.out.next b5);have HX:=Jj o1.ints;have HXO:=Jj (HS.out.tabO o1);obtain⟨A1,k1,rfl,-,-,-⟩:=o1.ints.open_;clear o1;obtain⟨c0,c1,c2,c3,c4,c5⟩:=G5.out.box.cells;obtain⟨f0,f1,f2,f3,f4,f5⟩:=G5.out.out.frz;obtain⟨z0,z1,z2,z3,z4,z5⟩:=G5.out.out.cells;obtain⟨n0,n1⟩:=HNC.out _ G5.out.bel;clear tok1 b5;(try dsimp only)))
   |fail)
  have HLEN:=Jj (show(cf d.poly x0 x1).length≤1048576 from Js (kF d.poly x0 x1) (by omega));generalize (cf d.poly x0 x1)=L at HX HXO HLEN HRR ⊢;generalize (cw d.poly x0 x1)=K at HRR ⊢;clear HNC n0 n1
 case' a3=>
  intro n l hl hll;have hlw:=hl.2;obtain⟨An,cn,rfl,hnc,hncc,hrd⟩:=hl.open_;obtain⟨nb,no,rfl,hnb,hnn⟩:=hrd.ints (by omega);have q0:=hnn 0 (by omega);have i0:=hlw _ (bG l 0 (by omega));obtain⟨x0,hx0⟩:∃x,at_ l 0=x:=⟨_,rfl⟩;rw[hx0] at q0 i0;have HX0:=Jj hx0;have q1:=hnn 1 (by omega);have i1:=hlw _ (bG l 1 (by omega));obtain⟨x1,hx1⟩:∃x,at_ l 1=x:=⟨_,rfl⟩;rw[hx1] at q1 i1;have HX1:=Jj hx1;rw[Nat.add_zero] at q0;rw[hll] at hnc ⊢;clear hl hrd hnn hlw hll hx0 hx1;obtain⟨r,hr⟩:∃r:ByteArray×ae,aK d eT l=r:=⟨_,rfl⟩;have HRR:=Jj (hr.symm.trans ((l4 d l).trans (by rw[HX0.out,HX1.out])));rw[hr];clear hr;unfold eT
  go_enter func50,ntmps50
  go_wp2_with fail
  generalize hW:World.alloc _ _=W at HS c0 c1 c2 c3 c4 c5 f0 f1 f2 f3 f4 f5 z0 z1 z2 z3 z4 z5 ⊢;clear hW;have HNC:=Jj (fun X (h:Below w.heap.size w X)=>(⟨(h.cell (by exact hnb)).trans q0,(h.cell (by exact hnb)).trans q1⟩:X.cell? ⟨nb,no,none⟩=some (.int .i64 x0)∧X.cell? ⟨nb,no+1,none⟩=some (.int .i64 x1)));obtain⟨n0,n1⟩:=HNC.out _ HS.out.bel;clear q0 q1;have tok1:True:=trivial
  go_region_held3 (fun w'=>(w'.cell? ⟨w.heap.size,0,none⟩=some (.slice Ap d.poly.length cp)∧w'.cell? ⟨w.heap.size,1,none⟩=some (.slice Ae d.eng.length ce)∧w'.cell? ⟨w.heap.size,2,none⟩=some (.slice At d.tab.length ct)∧w'.cell? ⟨w.heap.size,3,none⟩=some (.int .i64 d.rw)∧w'.cell? ⟨w.heap.size,4,none⟩=some (.int .i64 d.ac)∧w'.cell? ⟨w.heap.size,5,none⟩=some (.int .i64 d.wi))∧w'.cell? ⟨nb,no,none⟩=some (.int .i64 x0)∧w'.cell? ⟨nb,no+1,none⟩=some (.int .i64 x1)) (first|with_reducible exact⟨⟨c0,c1,c2,c3,c4,c5⟩,n0,n1⟩|exact⟨⟨c0,c1,c2,c3,c4,c5⟩,n0,n1⟩|go_keep)
   (first
   |((try go_simp);go_at_call 89;have _t:=tok1;go_loud (refine(se _ d.tab x0 x1 _ (by first|exact HS.out.sta.2.2.1|exact HS.out.sta.2.2.1.bel (ah _))).mono ?_;rintro e5 w5 ⟨y1,rfl,o1,b5⟩;replace b5:Below W.heap.size W w5:=(by first|exact b5|exact aa (ah _) b5);have G5:=Jj (HS.out.next b5);have HX:=Jj o1.ints;have HXO:=Jj (HS.out.tabO o1);obtain⟨A1,k1,rfl,-,-,-⟩:=o1.ints.open_;clear o1;obtain⟨c0,c1,c2,c3,c4,c5⟩:=G5.out.box.cells;obtain⟨f0,f1,f2,f3,f4,f5⟩:=G5.out.out.frz;obtain⟨z0,z1,z2,z3,z4,z5⟩:=G5.out.out.cells;obtain⟨n0,n1⟩:=HNC.out _ G5.out.bel;clear tok1 b5;(try dsimp only)))
   |fail)
  have HLEN:=Jj (show(rtL d.tab x0 x1).length≤1048576 from Js (sW d.tab x0 x1) (by omega));generalize (rtL d.tab x0 x1)=L at HX HXO HLEN HRR ⊢;generalize (fR d.tab x0 x1)=K at HRR ⊢;clear HNC n0 n1
 case' a4=>
  intro n l hl hll;have hlw:=hl.2;obtain⟨An,cn,rfl,hnc,hncc,hrd⟩:=hl.open_;obtain⟨nb,no,rfl,hnb,hnn⟩:=hrd.ints (by omega);have q0:=hnn 0 (by omega);have i0:=hlw _ (bG l 0 (by omega));obtain⟨x0,hx0⟩:∃x,at_ l 0=x:=⟨_,rfl⟩;rw[hx0] at q0 i0;have HX0:=Jj hx0;have q1:=hnn 1 (by omega);have i1:=hlw _ (bG l 1 (by omega));obtain⟨x1,hx1⟩:∃x,at_ l 1=x:=⟨_,rfl⟩;rw[hx1] at q1 i1;have HX1:=Jj hx1;have q2:=hnn 2 (by omega);have i2:=hlw _ (bG l 2 (by omega));obtain⟨x2,hx2⟩:∃x,at_ l 2=x:=⟨_,rfl⟩;rw[hx2] at q2 i2;have HX2:=Jj hx2;have q3:=hnn 3 (by omega);have i3:=hlw _ (bG l 3 (by omega));obtain⟨x3,hx3⟩:∃x,at_ l 3=x:=⟨_,rfl⟩;rw[hx3] at q3 i3;have HX3:=Jj hx3;rw[Nat.add_zero] at q0;rw[hll] at hnc ⊢;clear hl hrd hnn hlw hll hx0 hx1 hx2 hx3;obtain⟨r,hr⟩:∃r:ByteArray×ae,aK d gn l=r:=⟨_,rfl⟩;have HRR:=Jj (hr.symm.trans ((mL d l).trans (by rw[HX0.out,HX1.out,HX2.out,HX3.out])));rw[hr];clear hr;unfold gn
  go_enter func50,ntmps50
  go_wp2_with fail
  generalize hW:World.alloc _ _=W at HS c0 c1 c2 c3 c4 c5 f0 f1 f2 f3 f4 f5 z0 z1 z2 z3 z4 z5 ⊢;clear hW;have HNC:=Jj (fun X (h:Below w.heap.size w X)=>(⟨(h.cell (by exact hnb)).trans q0,(h.cell (by exact hnb)).trans q1,(h.cell (by exact hnb)).trans q2,(h.cell (by exact hnb)).trans q3⟩:X.cell? ⟨nb,no,none⟩=some (.int .i64 x0)∧X.cell? ⟨nb,no+1,none⟩=some (.int .i64 x1)∧X.cell? ⟨nb,no+2,none⟩=some (.int .i64 x2)∧X.cell? ⟨nb,no+3,none⟩=some (.int .i64 x3)));obtain⟨n0,n1,n2,n3⟩:=HNC.out _ HS.out.bel;clear q0 q1 q2 q3;have tok1:True:=trivial
  go_region_held3 (fun w'=>(w'.cell? ⟨w.heap.size,0,none⟩=some (.slice Ap d.poly.length cp)∧w'.cell? ⟨w.heap.size,1,none⟩=some (.slice Ae d.eng.length ce)∧w'.cell? ⟨w.heap.size,2,none⟩=some (.slice At d.tab.length ct)∧w'.cell? ⟨w.heap.size,3,none⟩=some (.int .i64 d.rw)∧w'.cell? ⟨w.heap.size,4,none⟩=some (.int .i64 d.ac)∧w'.cell? ⟨w.heap.size,5,none⟩=some (.int .i64 d.wi))∧w'.cell? ⟨nb,no,none⟩=some (.int .i64 x0)∧w'.cell? ⟨nb,no+1,none⟩=some (.int .i64 x1)∧w'.cell? ⟨nb,no+2,none⟩=some (.int .i64 x2)∧w'.cell? ⟨nb,no+3,none⟩=some (.int .i64 x3)) (first|with_reducible exact⟨⟨c0,c1,c2,c3,c4,c5⟩,n0,n1,n2,n3⟩|exact⟨⟨c0,c1,c2,c3,c4,c5⟩,n0,n1,n2,n3⟩|go_keep)
   (first
   |((try go_simp);go_at_call 87;have _t:=tok1;go_loud (refine(Bc _ d.eng x0 x1 x2 x3 _ (by first|exact HS.out.sta.2.1.1|exact HS.out.sta.2.1.1.bel (ah _))).mono ?_;rintro e5 w5 ⟨y1,rfl,o1,b5⟩;replace b5:Below W.heap.size W w5:=(by first|exact b5|exact aa (ah _) b5);have G5:=Jj (HS.out.next b5);have HX:=Jj o1.ints;have HXO:=Jj (HS.out.tabO o1);obtain⟨A1,k1,rfl,-,-,-⟩:=o1.ints.open_;clear o1;obtain⟨c0,c1,c2,c3,c4,c5⟩:=G5.out.box.cells;obtain⟨f0,f1,f2,f3,f4,f5⟩:=G5.out.out.frz;obtain⟨z0,z1,z2,z3,z4,z5⟩:=G5.out.out.cells;obtain⟨n0,n1,n2,n3⟩:=HNC.out _ G5.out.bel;clear tok1 b5;(try dsimp only)))
   |fail)
  have HLEN:=Jj (show(fU d.eng x0 x1 x2 x3).length≤1048576 from xf d.eng x0 x1 x2 x3);generalize (fU d.eng x0 x1 x2 x3)=L at HX HXO HLEN HRR ⊢;generalize (dG d.eng x0 x1 x2 x3)=K at HRR ⊢;clear HNC n0 n1 n2 n3
 all_goals
  go_wp2_with fail
  have HM:=my _ _ _ d L K w5 G5.out.sta.r HX.out HXO.out HLEN.out G5.out.new;obtain⟨q,hq⟩:∃q:ByteArray×ae,(ak (aw L) (K&&ag L),aR d L K)=q:=⟨_,rfl⟩;have HRQ:=Jj (show r=q from HRR.out.trans hq);rw[hq] at HM;clear hq;refine HM.mono ?_;rintro e3 w3 ⟨v3,rfl,s3,b3⟩;have H3:=Jj (G5.out.next b3);obtain⟨p2,e2,t2,rfl,sq⟩:=s3.s;obtain⟨Ap2,cp2,rfl,-,-,-⟩:=sq.1.1.open_;obtain⟨Ae2,ce2,rfl,-,-,-⟩:=sq.2.1.1.open_;obtain⟨At2,ct2,rfl,-,-,-⟩:=sq.2.2.1.open_;have SQ:=Jj sq;clear sq;clear b3 HM c0 c1 c2 c3 c4 c5 f0 f1 f2 f3 f4 f5 z0 z1 z2 z3 z4 z5;obtain⟨c0,c1,c2,c3,c4,c5⟩:=H3.out.box.cells;obtain⟨f0,f1,f2,f3,f4,f5⟩:=H3.out.out.frz;obtain⟨z0,z1,z2,z3,z4,z5⟩:=H3.out.out.cells;go_wp2;obtain⟨kk,ss,bb⟩:=H3.out.done SQ.out;generalize World.setCell _ _ _=w9 at kk ss bb ⊢;obtain⟨x0,x1,x2,x3,x4,x5⟩:=kk.cells;refine bodyPost_ret (v:=.tuple #[.agg #[(.slice Ap2 q.2.poly.length cp2),(.slice Ae2 q.2.eng.length ce2),(.slice At2 q.2.tab.length ct2),.int .i64 q.2.rw,.int .i64 q.2.ac,.int .i64 q.2.wi],.string q.1]) (by simp[results,results50,go_sem,x0,x1,x2,x3,x4,x5]) rfl ?_;rw[HRQ.out];exact⟨_,rfl,ss,bb⟩
end Go.Proofs.YtfmjklgfpiffbaaGreatDoor
