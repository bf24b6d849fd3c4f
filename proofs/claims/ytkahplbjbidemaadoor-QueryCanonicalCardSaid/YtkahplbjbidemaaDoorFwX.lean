/- The reference's folding and words: what the calls return. -/
import Derived.Test.YtkahplbjbidemaaDoorTxC
import Derived.Test.YtkahplbjbidemaaDoorWdA
import Derived.Test.YtkahplbjbidemaaDoorMm
namespace Go.Proofs.YtkahplbjbidemaaDoor
open Go.RowKit
set_option maxRecDepth 100000

theorem Tx.foldC_up : ∀ c, c < 26 → ((⟨#[97, 98, 99, 100, 101, 102, 103, 104, 105, 106, 107, 108, 109, 110, 111, 112, 113, 114, 115, 116, 117, 118, 119, 120, 121, 122]⟩ : ByteArray).extract c (c + 1)) = ⟨(Tx.foldC (c + 65)).toArray⟩ := by decide +kernel
end Go.Proofs.YtkahplbjbidemaaDoor

/- The reference's letters and folded texts: what the calls return. -/
namespace Go.Proofs.YtkahplbjbidemaaDoor
open Go.RowKit
set_option maxRecDepth 100000

theorem Tx.fold_round {s : ByteArray} {k : Nat} {out out' : List UInt8} (hlt : k < s.size) (hol : out.length ≤ 2 * k)
    (hv : Tx.foldT Tx.foldStep out (s.data.toList.drop k) = Tx.foldS s.data.toList)
    (h : out ++ Tx.foldP ((s.data.toList.drop k).take (Tx.wid (s.data.toList.drop k))) (Tx.rdec (s.data.toList.drop k)).1 = out') :
    out'.length ≤ 2 * (k + Tx.wid (s.data.toList.drop k)) ∧ Tx.foldT Tx.foldStep out' (s.data.toList.drop (k + Tx.wid (s.data.toList.drop k))) = Tx.foldS s.data.toList := by
  have hw := Tx.wid_pos (s.data.toList.drop k)
  constructor
  · rw [← h, List.length_append]
    have : (Tx.foldP ((s.data.toList.drop k).take (Tx.wid (s.data.toList.drop k))) (Tx.rdec (s.data.toList.drop k)).1).length ≤ 2 * Tx.wid (s.data.toList.drop k) := by
      unfold Tx.foldP
      split
      · rw [List.length_take]; omega
      · have := Tx.foldC_len (Tx.rdec (s.data.toList.drop k)).1; omega
    omega
  · rw [← hv, Tx.foldT_step Tx.foldStep out (Tx.drop_ne (by rw [← Lib.size_eq]; exact hlt)), show Tx.foldStep out ((s.data.toList.drop k).take (Tx.wid (s.data.toList.drop k))) (Tx.rdec (s.data.toList.drop k)).1 = out' from h, List.drop_drop]

end Go.Proofs.YtkahplbjbidemaaDoor

/- The reference's words of a text: what the call returns. -/
namespace Go.Proofs.YtkahplbjbidemaaDoor
open Go.RowKit
set_option maxRecDepth 100000

namespace Tx
theorem words_round {l : List UInt8} {k : Nat} {st st' : List (List UInt8) × List UInt8} (hlt : k < l.length) (hn : st.2.length ≤ k) (hc : st.1.length ≤ k)
    (hv : wEnd (foldT (wStep sepW) st (l.drop k)) = fieldsT sepW l)
    (h : wStep sepW st ((l.drop k).take (wid (l.drop k))) (rdec (l.drop k)).1 = st') :
    st'.2.length ≤ k + wid (l.drop k) ∧ st'.1.length ≤ k + wid (l.drop k) ∧ wEnd (foldT (wStep sepW) st' (l.drop (k + wid (l.drop k)))) = fieldsT sepW l := by
  have hw := wid_pos (l.drop k)
  have htl : ((l.drop k).take (wid (l.drop k))).length ≤ wid (l.drop k) := by rw [List.length_take]; omega
  refine ⟨?_, ?_, ?_⟩
  · rw [← h]
    unfold wStep
    repeat' split
    all_goals first | omega | (simp only [List.length_append, List.length_nil]; omega)
  · rw [← h]
    unfold wStep
    repeat' split
    all_goals first | omega | (simp only [List.length_append, List.length_cons, List.length_nil]; omega)
  · rw [← hv, foldT_step (wStep sepW) st (drop_ne hlt), h, List.drop_drop]
theorem own_later {B : Nat} {w w' : World} {e size n : Nat} {v : Value} {xs : List Value} (h : Below w.heap.size w w') (ho : w.ownsRow B e size v n xs) : w'.ownsRow B e size v n xs := by
  refine ⟨ho.1, ?_⟩
  rcases ho.2 with h1 | ⟨k, cap, cur, h1, h2, h3, h4⟩
  · exact .inl h1
  · exact .inr ⟨k, cap, cur, h1, h2, (h.block k (Array.getElem?_eq_some_iff.1 h3).1).trans h3, h4⟩
theorem foldS_len2 (l : List UInt8) : (foldS l).length ≤ 2 * l.length := by
  have : ∀ (n : Nat) (l out : List UInt8), l.length ≤ n → (foldT foldStep out l).length ≤ out.length + 2 * l.length := by
    intro n
    induction n with
    | zero =>
      intro l out h
      have := List.eq_nil_of_length_eq_zero (Nat.le_zero.1 h)
      subst this
      rw [foldT_nil]; omega
    | succ n ih =>
      intro l out h
      by_cases hne : l = []
      · subst hne; rw [foldT_nil]; omega
      · rw [foldT_step foldStep out hne]
        have hw := wid_pos l
        have hwl := wid_le hne
        have h1 := ih (l.drop (wid l)) (foldStep out (l.take (wid l)) (rdec l).1) (by rw [List.length_drop]; omega)
        have h2 : (foldStep out (l.take (wid l)) (rdec l).1).length ≤ out.length + 2 * wid l := by
          unfold foldStep foldP
          rw [List.length_append]
          split
          · rw [List.length_take]; omega
          · have := foldC_len (rdec l).1; omega
        rw [List.length_drop] at h1
        omega
  have := this l.length l [] (Nat.le_refl _)
  simpa [foldS] using this
abbrev sv (x : List UInt8) : Value := .string ⟨x.toArray⟩
end Tx

end Go.Proofs.YtkahplbjbidemaaDoor
