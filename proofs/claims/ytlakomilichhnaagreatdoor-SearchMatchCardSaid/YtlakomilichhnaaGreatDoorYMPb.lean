/- Texts of this seat's, what the claim needs of them. -/
import Derived.Test.YtlakomilichhnaaGreatDoorZPb
import Derived.Test.YtlakomilichhnaaGreatDoorYMOm
import Derived.Test.YtlakomilichhnaaGreatDoorYMShelfB
namespace Go.Proofs.YtlakomilichhnaaGreatDoor
set_option maxRecDepth 100000
open Go.RowKit
open List renaming getElem?_eq_some_iff→Ai,isPrefixOf_iff_prefix→Be,mem_range→F8
namespace Qr
end Qr
namespace Rc
end Rc
namespace Sr
open Rc hiding bys
open Qr
theorem drop_pre {s:By}{l T:List By}{n:Nat}:(s::l) <+: T.drop n↔T[n]?=some s∧l <+: T.drop (n+1):=by
 cases h:T[n]? with
 | none =>
  have:=List.getElem?_eq_none_iff.1 h
  rw[List.drop_eq_nil_of_le this]
  simp
 | some x =>
  obtain⟨hlt,e⟩:=Ai.1 h
  rw[List.drop_eq_getElem_cons hlt,List.cons_prefix_cons,e,Option.some.injEq]
  exact⟨fun⟨a,b⟩=>⟨a.symm,b⟩,fun⟨a,b⟩=>⟨a.symm,b⟩⟩
theorem stands_iff {l ws:List By}:stands l ws=true↔∃ i,i<l.length∧ws <+: l.drop i:=by
 unfold stands
 rw[List.any_eq_true]
 constructor
 ·rintro⟨i,hi,h⟩
  exact⟨i,F8.1 hi,Be.1 h⟩
 ·rintro⟨i,hi,h⟩
  exact⟨i,F8.2 hi,Be.2 h⟩
theorem stands_one {l:List By}{w:By}:stands l [w]=decide (w∈l):=by
 rw[Bool.eq_iff_iff,stands_iff,decide_eq_true_eq]
 constructor
 ·rintro⟨i,hi,h⟩
  exact List.mem_of_getElem? (drop_pre.1 h).1
 ·intro h
  obtain⟨i,hi⟩:=List.getElem?_of_mem h
  exact⟨i,(Ai.1 hi).1,drop_pre.2 ⟨hi,List.nil_prefix⟩⟩
end Sr
end Go.Proofs.YtlakomilichhnaaGreatDoor
