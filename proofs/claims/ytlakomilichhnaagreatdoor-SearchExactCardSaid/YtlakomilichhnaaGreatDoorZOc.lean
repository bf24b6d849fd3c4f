/- Texts of this seat's, what the claim needs of them. -/
import Derived.Test.YtlakomilichhnaaGreatDoorZOl
import Derived.Test.YtlakomilichhnaaGreatDoorZOa
namespace Go.Proofs.YtlakomilichhnaaGreatDoor
set_option maxRecDepth 100000
open Go.RowKit
namespace Tx
theorem own_later {B:Nat}{w w':World}{e size n:Nat}{v:Value}{xs:List Value} (h:Below w.heap.size w w') (ho:w.ownsRow B e size v n xs):w'.ownsRow B e size v n xs:=by
 refine⟨ho.1,?_⟩
 rcases ho.2 with h1 | ⟨k,cap,cur,h1,h2,h3,h4⟩
 ·exact .inl h1
 ·exact .inr ⟨k,cap,cur,h1,h2,(h.block k (Array.getElem?_eq_some_iff.1 h3).1).trans h3,h4⟩
abbrev sv (x:List UInt8):Value:=.string ⟨x.toArray⟩
end Tx
end Go.Proofs.YtlakomilichhnaaGreatDoor
