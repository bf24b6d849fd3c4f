/- Lists of strings in memory, and what strings.Join returns of one. -/
import Derived.Test.YtkahplbjbidemaaGreatDoorTxD
namespace Go.Proofs.YtkahplbjbidemaaGreatDoor
open Go.RowKit

theorem info_str : (Tryz.prog.info? 9).map (fun i => (i.zero, i.size, i.bytes)) = some (some (.string ⟨#[]⟩), 1, 16) := by kernel_rfl
theorem Tx.newb (w : World) (o : Obj) : Below w.heap.size w (w.alloc o) := (Below.refl _ _).alloc (Nat.le_refl _) _
theorem Tx.cell_one_at (w : World) (g : Nat) (hg : g = w.heap.size) (x : Value) (t : TypeId) : ∀ j u, [x][j]? = some u → (w.alloc (.cells #[x] t)).cell? ((⟨g, 0, none⟩ : Addr).add j) = some u := by
  subst hg
  exact cell_one_new w x t

/-- The value reads as these strings. -/
def SL (w : World) (v : Value) (xs : List ByteArray) : Prop :=
  (xs = [] ∧ ∃ a c, v = .slice a 0 c) ∨
  ∃ b o c, v = .slice (some ⟨b, o, none⟩) xs.length c ∧ xs.length ≤ c ∧ c ≤ maxLen ∧ b < w.heap.size ∧ ∀ (j : Nat) x, xs[j]? = some x → w.cell? ⟨b, o + j, none⟩ = some (.string x)
theorem SL.below {w w' : World} {v : Value} {xs : List ByteArray} (h : SL w v xs) (hb : Below w.heap.size w w') : SL w' v xs := by
  rcases h with h | ⟨b, o, c, h1, h2, h5, h3, h4⟩
  · exact .inl h
  · exact .inr ⟨b, o, c, h1, h2, h5, Nat.lt_of_lt_of_le h3 hb.size, fun j x hx => cell_later hb (h4 j x hx)⟩
theorem SL.of_own {w : World} {B e n : Nat} {v : Value} {xs : List ByteArray} {ys : List Value} (h : w.ownsRow B e 1 v n ys) (hy : ys = xs.map Value.string) : SL w v xs := by
  subst hy
  have hn : n = xs.length := by have := h.1; simp at this; omega
  subst hn
  rcases h.2 with ⟨rfl, h0⟩ | ⟨g, cap, cur, rfl, hb, hg, h1, h2, _⟩
  · exact .inl ⟨List.eq_nil_of_length_eq_zero h0, _, _, rfl⟩
  · exact .inr ⟨g, 0, cap, rfl, h1, h2, (Array.getElem?_eq_some_iff.1 hg).1, fun j x hx => by
      have hj : j < xs.length := (List.getElem?_eq_some_iff.1 hx).1
      rw [Nat.zero_add, h.cellAt j (by omega), List.getElem?_map, hx]
      rfl⟩

theorem Join_c (v : Value) (xs : List ByteArray) (sep : ByteArray) (w : World) (h : SL w v xs) (hlen : (Lib.join (xs.map (·.data.toList)) sep.data.toList).length ≤ 140737488355328) (hN : xs.length ≤ 140737488355328) :
    Calls Tryz.prog 58 #[v, .string sep] w fun e w' => e = .returned (.string ⟨(Lib.join (xs.map (·.data.toList)) sep.data.toList).toArray⟩) ∧ Below w.heap.size w w' := by
  rcases h with ⟨rfl, a, c, rfl⟩ | ⟨b, o, c, rfl, h1, _, h2, h3⟩
  · exact (Any.strings_Join_none Tryz.lays156 Tryz.Builder_Extra_156 a c sep w).mono fun _ _ ⟨he, hw⟩ => ⟨he, hw ▸ Below.refl _ _⟩
  · exact Tryz.strings_Join b o c xs sep w h3 h2 hN h1 hlen
end Go.Proofs.YtkahplbjbidemaaGreatDoor
