/- Texts of this seat's, what the claim needs of them. -/
import Derived.Test.YtlakomilichhnaaGreatDoorZOo
import Derived.Test.YtlakomilichhnaaGreatDoorYEOj
namespace Go.Proofs.YtlakomilichhnaaGreatDoor
set_option maxRecDepth 100000
open Go.RowKit
namespace Rc
end Rc
namespace Ix
open Rc
theorem ascF_pos:∀ {l:List Int}{m:Int},ascF m l=true→∀ n∈l,m<n
 | [],_,_,n,hn=>by cases hn
 | x::l,m,h,n,hn=>by
  unfold ascF at h
  rw[Bool.and_eq_true,decide_eq_true_eq]at h
  rcases List.mem_cons.1 hn with rfl | hn
  ·exact h.1
  ·have:=ascF_pos h.2 n hn;omega
theorem right_at {x:List Post} (h:right x=true):∀ p∈x,∀ n∈p.at_,0≤n:=fun p hp n hn=>by
 have h1:=rightF_ok x none h p hp
 unfold okP at h1
 simp only[Bool.and_eq_true]at h1
 have:=ascF_pos h1.2 n hn
 omega
end Ix
end Go.Proofs.YtlakomilichhnaaGreatDoor
