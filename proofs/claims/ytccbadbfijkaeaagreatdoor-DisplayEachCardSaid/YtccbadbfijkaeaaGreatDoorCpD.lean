/- slices.Sort and slices.Compact on slices that the call owns: what the calls leave. -/
import Derived.Test.YtccbadbfijkaeaaGreatDoorCpB
import Derived.Sort.OwnSorted
import Derived.Sort.OwnSortedInts
import Derived.Lib.OwnBridge
import Derived.Lib.RowBridge
namespace Go.Proofs.YtccbadbfijkaeaaGreatDoor
open Go.RowKit Go.Sort
set_option maxRecDepth 100000

theorem grownBy_put {α : Type} [Inhabited α] {enc : α → Value} {w : World} {g q : Nat} {d : Array α} : w.grownBy (putRow enc (Sort.ahead w q) g 0 d) (some g) := by
  refine ⟨rfl, rfl, rfl, by simp [putRow, mapBlock, Sort.ahead], fun k hk hne => ?_⟩
  have : g ≠ k := fun e => hne (by rw [e])
  simp [putRow, mapBlock, Sort.ahead, Array.getElem?_modify, this]
theorem SortI_c {v : Value} {bs : List Int} {B : Nat} {w : World} (h : w.ownsRow B 3 1 v bs.length (bs.map (Value.int .i64))) (hl : bs.length ≤ 1000000) :
    Calls Tryz.prog 48 #[v] w fun e w' => e = .returned (.tuple #[]) ∧ w'.ownsRow B 3 1 v bs.length ((bs.mergeSort fun x y => decide (x ≤ y)).map (Value.int .i64)) ∧ w.grownBy w' v.ownBlock := by
  rcases h.2 with ⟨rfl, h0⟩ | ⟨g, cap, cur, rfl, hbase, hb, h1, h2, h3, h4⟩
  · refine (Tryz.slices_Sort_int_none none 0 w).mono fun e w' ⟨he, hw⟩ => ?_
    subst hw
    have hnil := List.eq_nil_of_length_eq_zero h0
    subst hnil
    exact ⟨he, by rw [List.mergeSort_nil]; exact World.ownsRow_nil _ _ _ _, ⟨rfl, rfl, rfl, Nat.le_refl _, fun _ _ _ => rfl⟩⟩
  · refine (Tryz.slices_Sort_int g 0 cap bs w (holds_of_blockI hb (by simpa using h4)) (Array.getElem?_eq_some_iff.1 hb).1 (by omega)).mono fun e w' ⟨he, n, os, hw⟩ => ?_
    subst hw
    exact ⟨he, ownsRow_sortedI (by simp) hbase hb h1 h2 h3, grownBy_sortedI _⟩
theorem SortS_c {v : Value} {xs : List (List UInt8)} {B : Nat} {w : World} (h : w.ownsRow B 9 1 v xs.length (Cp.strs xs)) (hl : xs.length ≤ 1000000) :
    Calls Tryz.prog 49 #[v] w fun e w' => e = .returned (.tuple #[]) ∧ w'.ownsRow B 9 1 v xs.length (Cp.strs (xs.mergeSort fun x y => decide (x ≤ y))) ∧ w.grownBy w' v.ownBlock := by
  rcases h.2 with ⟨rfl, h0⟩ | ⟨g, cap, cur, rfl, hbase, hb, h1, h2, h3, h4⟩
  · refine (Tryz.slices_Sort_string_none none 0 w).mono fun e w' ⟨he, hw⟩ => ?_
    subst hw
    have hnil := List.eq_nil_of_length_eq_zero h0
    subst hnil
    exact ⟨he, by rw [List.mergeSort_nil]; exact World.ownsRow_nil _ _ _ _, ⟨rfl, rfl, rfl, Nat.le_refl _, fun _ _ _ => rfl⟩⟩
  · refine (Tryz.slices_Sort_string g 0 cap xs w (holds_of_block hb (by simpa using h4)) (Array.getElem?_eq_some_iff.1 hb).1 (by omega)).mono fun e w' ⟨he, n, os, hw⟩ => ?_
    subst hw
    exact ⟨he, ownsRow_sorted (by simp) hbase hb h1 h2 h3, grownBy_sorted _⟩
theorem CompactS_c {v : Value} {xs : List (List UInt8)} {B : Nat} {w : World} (h : w.ownsRow B 9 1 v xs.length (Cp.strs xs)) (hl : xs.length ≤ 1000000) :
    Calls Tryz.prog 50 #[v] w fun e w' => ∃ va vc, e = .returned (.slice va (Lib.compact xs).length vc) ∧ w'.ownsRow B 9 1 (.slice va (Lib.compact xs).length vc) (Lib.compact xs).length (Cp.strs (Lib.compact xs)) ∧ (Value.slice va (Lib.compact xs).length vc).ownBlock = v.ownBlock ∧ w.grownBy w' v.ownBlock := by
  by_cases hnil : v = .slice none 0 0
  · subst hnil
    have h0 : xs = [] := by
      rcases h.2 with ⟨_, h0⟩ | ⟨g, cap, cur, e0, _⟩
      · exact List.eq_nil_of_length_eq_zero h0
      · cases e0
    subst h0
    refine (Tryz.slices_Compact_string_empty none 0 w).mono fun e w' ⟨he, hw⟩ => ?_
    subst hw
    exact ⟨none, 0, he, World.ownsRow_nil _ _ _ _, rfl, ⟨rfl, rfl, rfl, Nat.le_refl _, fun _ _ _ => rfl⟩⟩
  · obtain ⟨g, cap, rfl, hbg, hgl, hncap, hcm, hlen, hH⟩ := Lib.holds_of_ownsRow (enc := encStr) h hnil
    have hle := Lib.compact_length_le xs
    refine (Tryz.slices_Compact_string g 0 cap xs w hH (by omega) hncap).mono fun e w' ⟨he, q, hw⟩ => ?_
    subst hw
    have hc := Lib.ownsRow_putRow (enc := encStr) (q := q) (k := (Lib.compact xs).length) (ys := Lib.compact xs ++ List.replicate (xs.length - (Lib.compact xs).length) []) h (by simp; omega) hle
    rw [List.take_left] at hc
    exact ⟨_, cap, he, hc, rfl, grownBy_put⟩
namespace Cp
theorem sorted_pairI (bs : List Int) : (bs.mergeSort fun x y => decide (x ≤ y)).Pairwise fun x y => ltI y x = false := by
  have h := List.pairwise_mergeSort (le := fun x y : Int => decide (x ≤ y)) (fun a b c h1 h2 => by simp at *; omega) (fun a b => by simp; omega) bs
  exact h.imp fun h => by unfold ltI; simp at *; omega
theorem sorted_pairS (xs : List Rc.By) : (xs.mergeSort fun x y => decide (x ≤ y)).Pairwise fun x y => ltB y x = false := by
  have h := List.pairwise_mergeSort (le := fun x y : Rc.By => decide (x ≤ y)) (fun a b c h1 h2 => by simp at *; exact List.le_trans h1 h2) (fun a b => by simp; exact List.le_total a b) xs
  exact h.imp fun h => by unfold ltB; simp at *; exact h
/-- The sorted branches are the branches put in order, where none stands twice. -/
theorem sorted_puts {bs ys : List Int} (hn : bs.Nodup) (hm : ∀ z, z ∈ bs ↔ z ∈ ys) : (bs.mergeSort fun x y => decide (x ≤ y)) = puts ltI ys := by
  have hp := List.mergeSort_perm bs fun x y => decide (x ≤ y)
  refine puts_of ordI ?_ fun z => by rw [hp.mem_iff]; exact hm z
  have hs := sorted_pairI bs
  have hnd : (bs.mergeSort fun x y => decide (x ≤ y)).Nodup := hp.nodup_iff.2 hn
  unfold Asc
  refine (hs.and hnd).imp fun ⟨h1, h2⟩ => ?_
  exact ordI.tot h1 (fun e => h2 e.symm)
theorem compact_sorted (xs : List Rc.By) : Lib.compact (xs.mergeSort fun x y => decide (x ≤ y)) = puts ltB xs := compact_puts ordB (List.mergeSort_perm _ _) (sorted_pairS xs)
end Cp
end Go.Proofs.YtccbadbfijkaeaaGreatDoor
