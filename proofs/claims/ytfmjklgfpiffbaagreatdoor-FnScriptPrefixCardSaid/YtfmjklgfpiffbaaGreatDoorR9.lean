/-
  Parts of the proof of one statement, merged: Dec.
-/
import Derived.Lib.ItoaLen
import Derived.Lib.Join
import Derived.Test.YtfmjklgfpiffbaaGreatDoorR6
namespace Go.Proofs.YtfmjklgfpiffbaaGreatDoor
open Go.RowKit Go.Proofs.Tryz
set_option linter.unusedVariables false
set_option linter.unusedSimpArgs false
set_option maxRecDepth 100000
set_option maxHeartbeats 8000000
def ig (u:Nat):ByteArray:=⟨(Lib.decDigits u).toArray⟩
def au (n:Int):ByteArray:=⟨(Lib.itoa n).toArray⟩
theorem BM (a b:List UInt8):(⟨a.toArray⟩:ByteArray)++⟨b.toArray⟩=⟨(a++b).toArray⟩:=by
 apply ByteArray.ext
 apply Array.toList_inj.1
 simp
theorem zI {j:Nat} (h:j<10):ig j=strOfNums [48+(j:Int)]:=by
 unfold ig strOfNums;rw[Lib.decDigits_one h];have:((48+(j:Int)).toNat)=48+j:=by omega
 simp[this]
theorem Ch {j:Nat} (h:¬j<10):ig j=ig (j / 10)++strOfNums [48+(j:Int) % 10]:=by
 unfold ig strOfNums;rw[Lib.decDigits,dif_neg h,BM];have:((48+(j:Int) % 10).toNat)=48+j % 10:=by omega
 simp[this]
theorem po (u:Nat):au (u:Int)=ig u:=by unfold au ig;rw[Lib.itoa_nonneg]
theorem tP {u:Nat} (h:1≤u):au (-(u:Int))=⟨#[45]⟩++ig u:=by
 unfold au ig;rw[Lib.itoa_neg u h,show(⟨#[45]⟩:ByteArray)=⟨([45]:List UInt8).toArray⟩ from rfl,BM]
 rfl
theorem aJ {n:Int} (h0 : -9223372036854775808≤n) (h1:n≤9223372036854775807):(au n).size≤21:=by
 have:=Lib.itoa_length_le n h0 h1;unfold au;simpa[ByteArray.size] using this
theorem xS:au (-9223372036854775808)=⟨#[45,57,50,50,51,51,55,50,48,51,54,56,53,52,55,55,53,56,48,56]⟩:=by
 have e:(-9223372036854775808:Int) = -((9223372036854775808:Nat):Int):=by omega
 rw[e,tP (by omega)];have d:ig 9223372036854775808=⟨#[57,50,50,51,51,55,50,48,51,54,56,53,52,55,55,53,56,48,56]⟩:=by
  unfold ig;simp[Lib.decDigits]
 rw[d]
 rfl
theorem yT (k:Nat) (w:World) (hk:k≤9223372036854775807):
  Calls prog 33 #[.int .i64 k] w fun e w'=>e=.returned (.string (ig k))∧Below w.heap.size w w':=by
 have hcv:=Tryz.conv1;have h1:¬(k:Int) < -9223372036854775807:=by omega
 have h2:¬(k:Int)<0:=by omega
 go_enter func33,ntmps33
 go_wp2
 go_loopw [0,3] (fun n s wr=>∃(j:Nat) (t:ByteArray),n=.int .i64 j∧j≤k∧t.size+j≤k∧s=.string t∧ig j++t=ig k∧Below w.heap.size w wr) (fun n _ _=>(intOf n).toNat)
 case atStart=>exact⟨k,ByteArray.empty,rfl,Jr _,by simp,rfl,by simp,Below.refl _ _⟩
 case round=>
  obtain⟨j,t,rfl,hjk,hj,rfl,hd,hb⟩:=hrel;have HD:=Jj (Jq hd hb);have hz:=hb.size;clear hd hb h1 h2;have hsz:(strOfNums [48+(j:Int) % 10]).size=1:=strOfNums_size _;have hsz2:(strOfNums [48+(j:Int)]).size=1:=strOfNums_size _;have hts:t.size≤21:=by
   have e:=congrArg ByteArray.size HD.out.1;rw[Jt] at e;have:=aJ (n:=(k:Int)) (by omega) (by omega);rw[po] at this;omega
  have hcat:¬ 9223372036854775807<1+t.size:=by omega
  by_cases hlt:j<10
  ·have hl:¬(9:Int)<(j:Int):=by omega
   go_wp2;go_ret;refine⟨?_,HD.out.2.alloc hz _⟩;rw[←HD.out.1,zI hlt]
   rfl
  ·have hl:(9:Int)<(j:Int):=by omega
   go_wp2;go_roundw
   case rel=>exact⟨j / 10,_,by go_num,by omega,by rw[Jt,strOfNums_size];simp;omega,rfl,by rw[←ByteArray.append_assoc,←Ch hlt];exact HD.out.1,HD.out.2.alloc hz _⟩
   case measure=>simp[intOf];omega
theorem cO (n:Int) (w:World) (h0 : -9223372036854775808≤n) (h1:n≤9223372036854775807):
  Calls prog 33 #[.int .i64 n] w fun e w'=>e=.returned (.string (au n))∧Below w.heap.size w w':=by
 by_cases hn:n<0
 ·by_cases hm:n < -9223372036854775807
  ·obtain rfl:n = -9223372036854775808:=by omega
   have HL:=Jj xS
   go_enter func33,ntmps33
   go_wp2;go_ret;exact⟨by rw[HL.out];rfl,Below.refl _ _⟩
  ·obtain⟨u,rfl⟩:∃u:Nat,n = -(u:Int):=⟨(-n).toNat,by omega⟩;have hu:1≤u:=by omega
   have HL:=Jj (tP hu)
   go_enter func33,ntmps33
   go_wp2_with fail
   refine(yT u _ (by omega)).mono ?_;rintro e w2 ⟨rfl,b⟩;have HB:=Jj b;have hsz:(ig u).size≤21:=by rw[←po];exact aJ (by omega) (by omega)
   have hcat:¬ 9223372036854775807<1+(ig u).size:=by omega
   have hcat2:¬ 9223372036854775807<(ig u).size+1:=by omega
   clear b;go_wp2;go_ret;exact⟨by rw[HL.out];rfl,HB.out⟩
 ·obtain⟨u,rfl⟩:∃u:Nat,n=(u:Int):=⟨n.toNat,by omega⟩;rw[po];exact yT u w (by omega)
end Go.Proofs.YtfmjklgfpiffbaaGreatDoor
