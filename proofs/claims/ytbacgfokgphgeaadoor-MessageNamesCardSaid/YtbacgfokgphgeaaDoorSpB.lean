/- strings.SplitN at a blank: what the call returns. -/
import Derived.Test.YtbacgfokgphgeaaDoorSl
import Derived.Test.YtbacgfokgphgeaaDoorSpA
namespace Go.Proofs.YtbacgfokgphgeaaDoor
open Go.RowKit

theorem SL.of_cells {w : World} {xs : List ByteArray} {N : Nat} {e : TypeId} (h : xs.length ≤ N) (hN : N ≤ maxLen) : SL (w.alloc (.cells (Lib.cellsOf xs N) e)) (.slice (some ⟨w.heap.size, 0, none⟩) xs.length N) xs := by
  refine .inr ⟨w.heap.size, 0, N, rfl, h, hN, by simp, fun j x hx => ?_⟩
  have hj : j < xs.length := (List.getElem?_eq_some_iff.1 hx).1
  rw [Nat.zero_add, cell_of_row _ w.heap.size j _ e (0, 0) (heap_alloc_new w _)]
  unfold Lib.cellsOf
  rw [List.getElem?_toArray, List.getElem?_append_left (by simpa using hj), List.getElem?_map, hx]
  rfl
theorem SplitN_c (s : ByteArray) (c : UInt8) (n : Nat) (w : World) (hs : s.size ≤ 4000000000) (hn : 1 ≤ n) (hn2 : n ≤ 1000000000) (hG : G w) :
    Calls Tryd.prog 26 #[.string s, .string ⟨#[c]⟩, .int .i64 n] w fun e w' => ∃ v xs, e = .returned v ∧ SL w' v xs ∧ xs.map (·.data.toList) = Sp.splitW c (n - 1) s.data.toList ∧ Below w.heap.size w w' := by
  obtain ⟨m, hm⟩ := hG.m
  refine (Tryd.strings_SplitN s ⟨#[c]⟩ n m w (by omega) hm (by simp [ByteArray.size]) hn (by omega)).mono fun e w' ⟨he, hw⟩ => ?_
  subst hw
  have hle := Lib.splitB_length_le ⟨#[c]⟩ 0 (min n (s.size + 1) - 1) s
  exact ⟨_, _, he, SL.of_cells (by omega) (by unfold maxLen; omega), Sp.splitN_eq c n s hn, Tx.newb _ _⟩
end Go.Proofs.YtbacgfokgphgeaaDoor
