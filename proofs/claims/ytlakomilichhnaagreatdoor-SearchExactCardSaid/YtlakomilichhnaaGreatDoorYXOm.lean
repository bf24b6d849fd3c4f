/- Texts of this seat's, what the claim needs of them. -/
import Derived.Test.YtlakomilichhnaaGreatDoorYXOj
import Derived.Test.YtlakomilichhnaaGreatDoorZOm
namespace Go.Proofs.YtlakomilichhnaaGreatDoor
set_option maxRecDepth 100000
open Go.RowKit
namespace Qr
end Qr
namespace Rc
end Rc
namespace Sr
open Rc hiding bys
open Qr
def stands (l ws:List By):Bool:=(List.range l.length).any fun i=>ws.isPrefixOf (l.drop i)
def leafM (fs:List Fl) (q:Qy):Bool :=
 if q.op=4 then yearsB fs q
 else if q.op=2 then (Ix.terms fs q.fld).any fun t=>Lib.hasPrefix t ((bys q.ws).headD [])
 else stands (Ix.terms fs q.fld) (bys q.ws)
def matchB (fs:List Fl) (q:Qy):Bool:=ev (leafM fs) q
end Sr
end Go.Proofs.YtlakomilichhnaaGreatDoor
