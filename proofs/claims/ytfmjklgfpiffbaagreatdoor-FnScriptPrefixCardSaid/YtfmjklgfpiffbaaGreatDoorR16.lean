/-
  Parts of the proof of one statement, merged: DrawE.
-/
import Derived.Test.YtfmjklgfpiffbaaGreatDoorR11
import Derived.Test.YtfmjklgfpiffbaaGreatDoorR6
namespace Go.Proofs.YtfmjklgfpiffbaaGreatDoor
open Go.RowKit Go.Proofs.Tryz
set_option linter.unusedVariables false
set_option linter.unusedSimpArgs false
set_option maxRecDepth 100000
set_option maxHeartbeats 8000000
attribute [local go_sem ↓] Go.wp_at_zero Go.wp_at_succ
def Ec (g K':Nat) (w:World) (lo hi:Nat) (e:Ending) (w':World):Prop:=
 ∃s:ByteArray,e=.returned (.string s)∧lo≤s.size∧s.size≤hi∧Rdr w' g K'∧w.grownBy w' (some g)
theorem Da (g K:Nat) (v:Value) (l:List ByteArray) (B:Nat) (w:World) (hr:Rdr w g K) (hK:K≤1000000000) (hv:aG w v l) (hl:0<l.length) (hne:∀a n c,v=.slice (some a) n c→0<l.length→a.block≠g) (hB:∀s∈l,s.size≤B):
  Calls prog 21 #[.pointer (some ⟨g,0,none⟩),v] w (Ec g (K+1) w 0 B):=by
 have hlen:=hv.open_;obtain⟨A,c,rfl,hlc,hc,hrd⟩:=hlen;obtain⟨b,o,rfl,hb,hcell⟩:=hrd.strs hl;have hbg:=hne _ _ _ rfl hl;have HC:=Jj hcell;clear hcell hne
 go_enter func21,ntmps21
 go_wp2_with fail
 refine(l9 g K _ _ hr hK (by omega)).mono ?_;rintro e w1 ⟨m,rfl,hm,-,hr1,hg1⟩;have hm':=hm (by omega);obtain⟨n,rfl⟩:∃n:Nat,m=n:=⟨m.toNat,by omega⟩;have hcn:w1.cell? ⟨b,o+n,none⟩=some (.string (sat l n)):=hg1.cell (HC.out n (by omega)) (fun e=>by injection e with e;exact hbg e);have H:=Jj (Jq hr1 hg1);clear hm hr1 hg1;go_wp2;go_ret;exact⟨_,rfl,Jy _,hB _ (cJ l n (by omega)),H.out.1,H.out.2⟩
end Go.Proofs.YtfmjklgfpiffbaaGreatDoor
