/- Plain: the lines of copies are those of each branch, one branch after the other. -/
import Derived.Test.YtccbadbfijkaeaaGreatDoorBrA
namespace Go.Proofs.YtccbadbfijkaeaaGreatDoor
namespace Br
open Cp
theorem live_ofB (id b : Int) (items : List It) : live id (ofB b items) = ofB b (live id items) := by
  unfold live ofB
  rw [List.filter_filter, List.filter_filter]
  congr 1
  funext x
  rw [Bool.and_comm]
theorem ofB_ofB (b : Int) (l : List It) : ofB b (ofB b l) = ofB b l := by
  unfold ofB
  rw [List.filter_filter]
  simp
theorem block_own (l : List It) (b : Int) : block (ofB b l) b = block l b := by
  unfold block
  rw [ofB_ofB]
theorem one_branch (L : List It) (b : Int) (h : b ∈ L.map (·.branch)) : puts ltI ((ofB b L).map (·.branch)) = [b] := by
  refine asc_unique ordI _ [b] (puts_asc ordI _) (by simp [Asc]) fun z => ?_
  rw [puts_mem, List.mem_map, List.mem_singleton]
  constructor
  · rintro ⟨x, hx, rfl⟩
    unfold ofB at hx
    rw [List.mem_filter] at hx
    simpa using hx.2
  · rintro rfl
    obtain ⟨x, hx, rfl⟩ := List.mem_map.1 h
    exact ⟨x, by unfold ofB; rw [List.mem_filter]; exact ⟨hx, by simp⟩, rfl⟩
theorem no_branch (L : List It) (b : Int) (h : b ∉ L.map (·.branch)) : ofB b L = [] := by
  unfold ofB
  rw [List.filter_eq_nil_iff]
  intro x hx e
  exact h (List.mem_map.2 ⟨x, hx, by simpa using e⟩)
theorem copies_own (items : List It) (id b : Int) : copies (ofB b items) id = if b ∈ (live id items).map (·.branch) then block (live id items) b else [] := by
  unfold copies
  rw [live_ofB]
  split
  · rename_i h
    rw [one_branch _ b h, List.flatMap_cons, List.flatMap_nil, List.append_nil, block_own]
  · rename_i h
    rw [no_branch _ b h]
    rfl
theorem flat_filter {α β : Type} (p : α → Prop) [DecidablePred p] (g : α → List β) : ∀ l : List α, l.flatMap (fun b => if p b then g b else []) = (l.filter fun b => decide (p b)).flatMap g
  | [] => rfl
  | x :: l => by
    rw [List.flatMap_cons, flat_filter p g l, List.filter_cons]
    by_cases h : p x
    · simp [h]
    · simp [h]
/-- The lines of each branch's own items, one branch after the other, are the lines of all. -/
theorem copies_each (items : List It) (id : Int) : (puts ltI (items.map (·.branch))).flatMap (fun b => copies (ofB b items) id) = copies items id := by
  have h1 : (fun b => copies (ofB b items) id) = fun b => if b ∈ (live id items).map (·.branch) then block (live id items) b else [] := funext fun b => copies_own items id b
  rw [h1, flat_filter]
  unfold copies
  congr 1
  refine asc_unique ordI _ _ (List.Pairwise.filter _ (puts_asc ordI _)) (puts_asc ordI _) fun z => ?_
  rw [List.mem_filter, puts_mem, puts_mem, decide_eq_true_iff]
  constructor
  · exact fun h => h.2
  · intro h
    refine ⟨?_, h⟩
    obtain ⟨x, hx, rfl⟩ := List.mem_map.1 h
    exact List.mem_map.2 ⟨x, (List.mem_filter.1 hx).1, rfl⟩
end Br
end Go.Proofs.YtccbadbfijkaeaaGreatDoor
