/- Texts of this seat's, what the claim needs of them. -/
import Derived.Test.YtlakomilichhnaaGreatDoorZOa
import Derived.Test.YtlakomilichhnaaGreatDoorYOOt
import Derived.Lib.RuneCount
namespace Go.Proofs.YtlakomilichhnaaGreatDoor
open Go.RowKit
namespace Rc
open Go.Lib
theorem yr_le:∀ (l:By) (n d:Nat),yr n d l≤2199
 | [],n,d=>by unfold yr;split <;> omega
 | c::r,n,d=>by
  unfold yr
  repeat' split
  all_goals first | exact yr_le r _ _ | omega
end Rc
namespace Ds
open Go.Lib Rc
theorem firstNZ_le (M:Nat):∀ (l:List Nat),(∀ x∈l,x≤M)→firstNZ l≤M
 | [],_=>by simp[firstNZ]
 | x::r,h=>by
  unfold firstNZ
  split
  ·exact firstNZ_le M r (fun y hy=>h y (by simp[hy]))
  ·exact h x (by simp)
theorem yearF_le (l:List ByteArray):yearF l≤2199:=firstNZ_le _ _ fun x hx=>by
 obtain⟨y,_,rfl⟩:=List.mem_map.1 hx
 exact yr_le _ _ _
theorem year_le (fs:List Fl):year fs≤2199:=firstNZ_le _ _ fun x hx=>by
 obtain⟨f,_,rfl⟩:=List.mem_map.1 hx
 split
 ·exact yearF_le _
 ·omega
end Ds
end Go.Proofs.YtlakomilichhnaaGreatDoor
