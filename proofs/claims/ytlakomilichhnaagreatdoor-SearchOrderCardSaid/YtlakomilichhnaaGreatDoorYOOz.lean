/- Texts of this seat's, what the claim needs of them. -/
import Derived.Test.YtlakomilichhnaaGreatDoorZOz
import Derived.Test.YtlakomilichhnaaGreatDoorYOOp
import Derived.Test.YtlakomilichhnaaGreatDoorYOOr
namespace Go.Proofs.YtlakomilichhnaaGreatDoor
set_option maxRecDepth 100000
open Go.RowKit
namespace Qr
def kR (k:UInt8):Int:=if k=113 then 2 else if k=114 then 1 else if k=0 then 0 else 3
def tx (t:Tok):By:=if t.k=113∨t.k=114 then t.t else if t.k=0 then [] else [t.k]
def Lg (t:Tok):Prop:=t.k=113∨t.k=114∨t.k=40∨t.k=41∨t.k=58∨t.k=42∨(t.k=0∧t.t=[]∧t.g=false)
structure RT (w:World) (toks:List Tok) (b o c:Nat):Prop where
 cap:toks.length+1≤c
 max:c≤maxLen
 len:toks.length≤2000
 lt:b<w.heap.size
 lg:∀ t∈toks,Lg t
 ok:TokOk toks
 at_:∀ r,r <:+ toks→w.cell? ⟨b,o+(toks.length - r.length)*3,none⟩=some (.int .i64 (kR (lk r).k))∧w.cell? ⟨b,o+(toks.length - r.length)*3+1,none⟩=some (.string ⟨(tx (lk r)).toArray⟩)∧w.cell? ⟨b,o+(toks.length - r.length)*3+2,none⟩=some (.bool (lk r).g)
end Qr
end Go.Proofs.YtlakomilichhnaaGreatDoor
