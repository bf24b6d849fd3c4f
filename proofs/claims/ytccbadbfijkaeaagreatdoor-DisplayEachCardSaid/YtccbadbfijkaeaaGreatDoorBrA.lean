/- Plain: the lines of copies do not hang on the items' order. -/
import Derived.Test.YtccbadbfijkaeaaGreatDoorCpA
namespace Go.Proofs.YtccbadbfijkaeaaGreatDoor
namespace Br
open Cp
theorem block_rev (l : List It) (b : Int) : block l.reverse b = block l b := by
  have h1 : ofB b l.reverse = (ofB b l).reverse := by unfold ofB; rw [List.filter_reverse]
  have h2 : ∀ m : List It, shelf m.reverse = shelf m := fun m => by unfold shelf; rw [List.filter_reverse, List.length_reverse]
  have h3 : ∀ m : List It, callsOf m.reverse = (callsOf m).reverse := fun m => by unfold callsOf; rw [List.filter_reverse, List.map_reverse]
  unfold block head
  rw [h1, h2, h3, List.length_reverse, puts_same ordB (a := (callsOf (ofB b l)).reverse) (b := callsOf (ofB b l)) (fun z => List.mem_reverse)]
theorem copies_rev (items : List It) (id : Int) : copies items.reverse id = copies items id := by
  have h1 : live id items.reverse = (live id items).reverse := by unfold live; rw [List.filter_reverse]
  unfold copies
  rw [h1, List.map_reverse, puts_same ordI (a := ((live id items).map (·.branch)).reverse) (b := (live id items).map (·.branch)) (fun z => List.mem_reverse)]
  congr 1
  funext b
  exact block_rev _ b
end Br
end Go.Proofs.YtccbadbfijkaeaaGreatDoor
