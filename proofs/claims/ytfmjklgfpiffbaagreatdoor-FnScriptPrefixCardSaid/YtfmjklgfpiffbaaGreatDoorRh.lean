/-
  Short names of lemmas of the kit.
-/
import Derived.Lib.Hide
import Derived.WalkKit
import Derived.Deep.AppendLies
namespace Go.Proofs.YtfmjklgfpiffbaaGreatDoor
open Go.RowKit
theorem Jj {p:Prop}(h:p):Hid p:=Lib.hid h
theorem Jk:type_of% @List.set_cons_zero:=@List.set_cons_zero
theorem Jl:type_of% @List.set_cons_succ:=@List.set_cons_succ
theorem Jm:type_of% @List.setIfInBounds_toArray:=@List.setIfInBounds_toArray
theorem Jn:type_of% @List.getElem_cons_zero:=@List.getElem_cons_zero
theorem Jo:type_of% @List.getElem_cons_succ:=@List.getElem_cons_succ
theorem Jp:type_of% @List.getElem_toArray:=@List.getElem_toArray
theorem Jq:type_of% @And.intro:=@And.intro
theorem Jr:type_of% @Nat.le_refl:=@Nat.le_refl
theorem Js:type_of% @Nat.le_trans:=@Nat.le_trans
theorem Jt:type_of% @ByteArray.size_append:=@ByteArray.size_append
theorem Ju:type_of% @World.cell?_setCell_other:=@World.cell?_setCell_other
theorem Jv:type_of% @List.length_append:=@List.length_append
theorem Jw:type_of% @Nat.lt_of_lt_of_le:=@Nat.lt_of_lt_of_le
theorem Jy:type_of% @Nat.zero_le:=@Nat.zero_le
theorem Jz:type_of% @List.mem_cons:=@List.mem_cons
theorem JA:type_of% @List.not_mem_nil:=@List.not_mem_nil
theorem JB:type_of% @Bool.and_eq_true:=@Bool.and_eq_true
theorem JC:type_of% @Option.some.inj:=@Option.some.inj
theorem JD:type_of% @World.size_alloc:=@World.size_alloc
end Go.Proofs.YtfmjklgfpiffbaaGreatDoor
