/-
  Short names of lemmas of the kit.
-/
import Derived.Lib.Hide
import Derived.WalkKit
import Derived.Deep.AppendLies
namespace Go.Proofs.YtfmjklgfpiffbaaGreatDoor
open Go.RowKit
theorem Hy {p:Prop}(h:p):Hid p:=Lib.hid h
theorem Hz:type_of% @List.set_cons_zero:=@List.set_cons_zero
theorem H8:type_of% @List.set_cons_succ:=@List.set_cons_succ
theorem H9:type_of% @List.setIfInBounds_toArray:=@List.setIfInBounds_toArray
theorem Ia:type_of% @List.getElem_cons_zero:=@List.getElem_cons_zero
theorem Ib:type_of% @List.getElem_cons_succ:=@List.getElem_cons_succ
theorem Ic:type_of% @List.getElem_toArray:=@List.getElem_toArray
theorem Ie:type_of% @And.intro:=@And.intro
theorem Ig:type_of% @Nat.le_refl:=@Nat.le_refl
theorem Ih:type_of% @Nat.le_trans:=@Nat.le_trans
theorem Ii:type_of% @ByteArray.size_append:=@ByteArray.size_append
theorem Ij:type_of% @World.cell?_setCell_other:=@World.cell?_setCell_other
theorem Ik:type_of% @List.length_append:=@List.length_append
theorem Im:type_of% @Nat.lt_of_lt_of_le:=@Nat.lt_of_lt_of_le
theorem Ip:type_of% @Nat.zero_le:=@Nat.zero_le
theorem Iq:type_of% @List.mem_cons:=@List.mem_cons
theorem Ir:type_of% @List.not_mem_nil:=@List.not_mem_nil
theorem Is:type_of% @Bool.and_eq_true:=@Bool.and_eq_true
theorem It:type_of% @Option.some.inj:=@Option.some.inj
theorem Iu:type_of% @World.size_alloc:=@World.size_alloc
end Go.Proofs.YtfmjklgfpiffbaaGreatDoor
