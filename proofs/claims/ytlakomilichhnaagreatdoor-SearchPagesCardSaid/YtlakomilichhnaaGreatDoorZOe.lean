/- Texts of this seat's, what the claim needs of them. -/
import Derived.Test.YtlakomilichhnaaGreatDoorZOb
import Derived.Test.YtlakomilichhnaaGreatDoorZOl
import Derived.Sort.Walk0
namespace Go.Proofs.YtlakomilichhnaaGreatDoor
open Go.RowKit
set_option maxRecDepth 100000
namespace Rc
theorem two {s : ByteArray} (h : s.size = 2) : ∃ x y : UInt8, s = ⟨#[x, y]⟩ := by
 obtain ⟨⟨l⟩⟩ := s
 match l, h with
 | [x, y], _ => exact ⟨x, y, rfl⟩
end Rc
end Go.Proofs.YtlakomilichhnaaGreatDoor
