/- Texts of this seat's, what the claim needs of them. -/
import Derived.Test.YtlakomilichhnaaGreatDoorZOw
namespace Go.Proofs.YtlakomilichhnaaGreatDoor
set_option maxRecDepth 100000
open Go.RowKit
namespace Qr
def Hd (base P:Nat) (w:World) (own:Option Nat) (k:Qy) (t:QT):Prop :=
 ∃ B w0,QC B w0 k (encQ t)∧Kp B w0 w∧(∀ b,own=some b→b<B∨w0.heap.size≤b)∧(P<B∨w0.heap.size≤P)∧base≤B
def HD (base P:Nat) (w:World) (own:Option Nat) (ks:List Qy) (T:List QT):Prop:=T.length=ks.length∧∀ (j:Nat) k t,ks[j]?=some k→T[j]?=some t→Hd base P w own k t
end Qr
end Go.Proofs.YtlakomilichhnaaGreatDoor
