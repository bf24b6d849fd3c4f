/- Plain: the table of rules, the kinds of tags, and what control makes of fields; no program stands in this file. -/
import Derived.Test.YtlinaeklhkfbcaaGreatDoorHdA
import Derived.Test.YtlinaeklhkfbcaaGreatDoorRgA
namespace Go.Proofs.YtlinaeklhkfbcaaGreatDoor
namespace Ct
open Go.Lib Rc

/-- A rule. -/
structure TR where
  tag : By
  rep : Bool
  must : Bool
  codes : By
  once : By
  needs : By
  auth : Int
def std : List TR := [
  ⟨[48, 50, 48], true, false, [97, 122], [], [], 0⟩,
  ⟨[48, 50, 50], true, false, [97], [], [], 0⟩,
  ⟨[48, 52, 49], true, false, [97], [], [], 0⟩,
  ⟨[49, 48, 48], false, false, [52, 97, 100], [97], [97], 1⟩,
  ⟨[49, 49, 48], false, false, [97, 98], [97], [97], 2⟩,
  ⟨[50, 52, 53], false, true, [97, 98, 99, 110, 112], [97, 99], [97], 0⟩,
  ⟨[50, 52, 54], true, false, [97, 98], [97], [97], 0⟩,
  ⟨[50, 53, 48], false, false, [97, 98], [], [], 0⟩,
  ⟨[50, 54, 48], true, false, [97, 98, 99], [], [], 0⟩,
  ⟨[50, 54, 52], true, false, [97, 98, 99], [], [], 0⟩,
  ⟨[51, 48, 48], true, false, [97, 98, 99], [], [], 0⟩,
  ⟨[52, 52, 48], true, false, [97, 118], [97], [97], 4⟩,
  ⟨[52, 57, 48], true, false, [97, 118], [97], [97], 0⟩,
  ⟨[53, 48, 48], true, false, [97], [97], [97], 0⟩,
  ⟨[53, 50, 48], true, false, [97], [], [], 0⟩,
  ⟨[54, 48, 48], true, false, [97, 100, 120, 121, 122], [97], [97], 1⟩,
  ⟨[54, 49, 48], true, false, [97, 98, 120, 121, 122], [97], [97], 2⟩,
  ⟨[54, 53, 48], true, false, [97, 120, 121, 122], [97], [97], 3⟩,
  ⟨[54, 53, 49], true, false, [97, 120, 121, 122], [97], [97], 3⟩,
  ⟨[55, 48, 48], true, false, [52, 97, 100], [97], [97], 1⟩,
  ⟨[55, 49, 48], true, false, [97, 98], [97], [97], 2⟩,
  ⟨[55, 55, 54], true, false, [116, 119], [], [], 0⟩,
  ⟨[55, 56, 55], true, false, [116, 119], [], [], 0⟩,
  ⟨[56, 51, 48], true, false, [97, 118], [97], [97], 4⟩,
  ⟨[56, 53, 54], true, false, [117, 122], [], [], 0⟩]
def kindOf (t : By) : Int := match std.find? (fun r => r.tag == t) with
  | some r => r.auth
  | none => 0
theorem std_auth : ∀ r ∈ std, 0 ≤ r.auth ∧ r.auth ≤ 4 := by decide
theorem kind_range (t : By) : 0 ≤ kindOf t ∧ kindOf t ≤ 4 := by
  unfold kindOf
  split
  · rename_i r h
    exact std_auth r (List.mem_of_find?_eq_some h)
  · omega

/-! ### names -/
open Hd
def wrongPart (p : By) : Bool := p == [] || Tx.clean p != p || contains p [44]
/-- The parts of a name: last, first, dates; none where it is no name. -/
def name (s : By) : Option (By × By × By) :=
  if Tx.valid s = false then none
  else if (split s [44, 32]).any wrongPart = true then none
  else match split s [44, 32] with
    | [a] => some (a, [], [])
    | [a, b] => if dates b = true then some (a, [], b) else some (a, b, [])
    | [a, b, c] => if dates c = true then some (a, b, c) else none
    | _ => none

/-! ### another heading -/
/-- The subfields of a heading. -/
def partSubs : Bool → List By → List (UInt8 × By)
  | _, [] => []
  | b, p :: r => ((if b = true then 97 else 120), p) :: partSubs false r
def headSubs (k : Int) (h : By) : List (UInt8 × By) :=
  if k = 3 then partSubs true (parts h)
  else if k = 1 then (match name h with
    | some (l, f, d) => if d = [] then [(97, h)] else [(97, if f = [] then l else l ++ [44, 32] ++ f), (100, d)]
    | none => [(97, h)])
  else [(97, h)]
def headCodes (k : Int) : By := if k = 1 then [97, 100] else if k = 3 then [97, 120, 121, 122] else [97]
def putF (f : Fl) (h : By) : Fl :=
  if kindOf f.tag.data.toList = 0 then f
  else { f with subs := (headSubs (kindOf f.tag.data.toList) h).map (fun x => (x.1, (⟨x.2.toArray⟩ : ByteArray))) ++ f.subs.filter fun x => !(headCodes (kindOf f.tag.data.toList)).contains x.1 }

/-! ### links -/
def looseF (f : Fl) : Bool := decide (f.auth = 0) && decide (0 < kindOf f.tag.data.toList)
def looseAt : Nat → List Fl → List Int
  | _, [] => []
  | k, f :: r => if looseF f = true then (k : Int) :: looseAt (k + 1) r else looseAt (k + 1) r
def usesR (r : Rd) (id : Int) : Bool := r.fields.any fun f => f.auth == id
def turnF (a b : Int) (f : Fl) : Fl := if f.auth = a then { f with auth := b } else f
def turnR (a b : Int) (r : Rd) : Rd := { r with fields := r.fields.map (turnF a b) }
def turn (a b : Int) (l : List Rd) : List Rd := if a < 1 then l else l.map (turnR a b)
end Ct
end Go.Proofs.YtlinaeklhkfbcaaGreatDoor
