/- The program's small functions on texts: what the calls return. -/
import Derived.Test.YtcjalpegffldaaaGreatDoorJa
import Derived.Test.YtcjalpegffldaaaGreatDoorShelf
import Derived.Deep.LoopGhost
import Derived.Lib.OthersKept
namespace Go.Proofs.YtcjalpegffldaaaGreatDoor
open Go.RowKit

/-- What the world holds of Go's own tables. -/
structure G (w : World) : Prop where
  u : Lib.Utf8Tabs 1 2 w
  m : ∃ m, w.cell? ⟨0, 0, none⟩ = some (.int .i64 m)
  lo : 2 < w.heap.size
theorem G.below {w w' : World} (h : G w) (hb : Below w.heap.size w w') : G w' := by
  obtain ⟨m, hm⟩ := h.m
  first | exact ⟨Utf8Tabs_below h.u hb, var?_below hb (by kernel_rfl) h.lo h.p, ⟨m, cell_later hb hm⟩, Nat.lt_of_lt_of_le h.lo hb.size⟩ | exact ⟨Utf8Tabs_below h.u hb, ⟨m, cell_later hb hm⟩, Nat.lt_of_lt_of_le h.lo hb.size⟩

namespace Tx
theorem decide_blank (c : Nat) : ((c : Int) == 32 || (c : Int) == 160) = blank c := by
  have e1 : ((c : Int) == 32) = (c == 32) := by rw [Bool.eq_iff_iff]; simp; omega
  have e2 : ((c : Int) == 160) = (c == 160) := by rw [Bool.eq_iff_iff]; simp; omega
  rw [e1, e2]; rfl
theorem spans_len (p : Nat → Bool) (s : ByteArray) : ∀ (f pos : Nat) (st : Option Nat) (acc : List (Nat × Nat)), (Lib.spansFromP p s f pos st acc).1.length ≤ acc.length + f
  | 0, pos, st, acc => by simp [Lib.spansFromP]
  | f + 1, pos, st, acc => by
    unfold Lib.spansFromP
    repeat' split
    · have h := spans_len p s f (pos + (Utf8.decode s pos).2) none (acc ++ [(‹Nat›, pos)])
      rw [List.length_append] at h
      simp at h
      omega
    all_goals first | (refine Nat.le_trans (spans_len p s f _ _ _) ?_; omega) | simp
theorem fields_len (p : Nat → Bool) (s : ByteArray) : (Lib.goFieldsP p s).length ≤ s.size + 1 := by
  unfold Lib.goFieldsP Lib.spansOfP Lib.closeSpans
  have := spans_len p s s.size 0 none []
  rw [List.length_map]
  split
  · rw [List.length_append]; simp at this ⊢; omega
  · simp at this; omega
theorem cleanFold_len : ∀ (n : Nat) (l : List UInt8) (out : List UInt8) (gap : Bool), l.length ≤ n → (foldT cleanStep (out, gap) l).1.length ≤ out.length + 2 * l.length
  | 0, l, out, gap, h => by
    have : l = [] := List.eq_nil_of_length_eq_zero (by omega)
    subst this
    rw [foldT_nil]
    simp
  | n + 1, l, out, gap, h => by
    by_cases hne : l = []
    · subst hne
      rw [foldT_nil]
      simp
    · have hw := wid_pos l
      have hl := wid_le hne
      rw [foldT_step cleanStep _ hne]
      have ih := fun o g => cleanFold_len n (l.drop (wid l)) o g (by rw [List.length_drop]; omega)
      have e : (cleanStep (out, gap) (l.take (wid l)) (rdec l).1).1.length ≤ out.length + 1 + wid l := by
        unfold cleanStep
        repeat' split
        all_goals simp only [List.length_append, List.length_take, List.length_cons, List.length_nil]
        all_goals omega
      have h2 := ih (cleanStep (out, gap) (l.take (wid l)) (rdec l).1).1 (cleanStep (out, gap) (l.take (wid l)) (rdec l).1).2
      rw [List.length_drop] at h2
      refine Nat.le_trans h2 ?_
      omega
theorem clean_len (l : List UInt8) : (clean l).length ≤ 2 * l.length := by
  have := cleanFold_len l.length l [] false (Nat.le_refl _)
  simpa [clean] using this
theorem own_cells {w : World} {B e cap A : Nat} {xs : List ByteArray} (h : w.ownsRow B e 1 (.slice (some ⟨A, 0, none⟩) xs.length cap) xs.length (xs.map Value.string)) :
    ∀ (j : Nat) x, xs[j]? = some x → w.cell? ⟨A, 0 + j, none⟩ = some (.string x) := by
  intro j x hx
  have hj : j < xs.length := (List.getElem?_eq_some_iff.1 hx).1
  rw [Nat.zero_add, h.cellAt j (by omega), List.getElem?_map, hx]
  rfl
theorem own_lt {w : World} {B e n m cap A : Nat} {xs : List Value} (h : w.ownsRow B e 1 (.slice (some ⟨A, 0, none⟩) m cap) n xs) : A < w.heap.size := (h.lt A rfl).2
end Tx



end Go.Proofs.YtcjalpegffldaaaGreatDoor
