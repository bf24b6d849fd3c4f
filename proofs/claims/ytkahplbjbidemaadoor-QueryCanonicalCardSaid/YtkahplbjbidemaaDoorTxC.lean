/- The reference's small functions on texts: what the calls return. -/
import Derived.Test.YtkahplbjbidemaaDoorTxB
namespace Go.Proofs.YtkahplbjbidemaaDoor
open Go.RowKit

namespace Tx
theorem ret1 {k : IntKind} {a b : Int} (h : a = b) : Ending.returned (.int k a) = .returned (.int k b) := by rw [h]
theorem retb {a b : Bool} (h : a = b) : Ending.returned (.bool a) = .returned (.bool b) := by rw [h]
theorem rets {a b : ByteArray} (h : a = b) : Ending.returned (.string a) = .returned (.string b) := by rw [h]
theorem drop_ne {l : List UInt8} {k : Nat} (h : k < l.length) : l.drop k ≠ [] := by
  intro h0
  have := congrArg List.length h0
  rw [List.length_drop] at this
  simp at this
  omega
theorem bcat (l : List UInt8) (y : ByteArray) : (⟨l.toArray⟩ : ByteArray) ++ y = ⟨(l ++ y.data.toList).toArray⟩ := by
  apply ByteArray.ext
  simp
theorem extract_wid (s : ByteArray) (k n : Nat) : (s.extract k (k + n)).data.toList = (s.data.toList.drop k).take n := by
  rw [Lib.extract_data, Nat.add_sub_cancel_left]
theorem clean_round {s : ByteArray} {k : Nat} {out out' : List UInt8} {gap gap' : Bool} (hlt : k < s.size) (hol : out.length ≤ 2 * k)
    (hv : (foldT cleanStep (out, gap) (s.data.toList.drop k)).1 = clean s.data.toList)
    (h : cleanStep (out, gap) ((s.data.toList.drop k).take (wid (s.data.toList.drop k))) (rdec (s.data.toList.drop k)).1 = (out', gap')) :
    out'.length ≤ 2 * (k + wid (s.data.toList.drop k)) ∧ (foldT cleanStep (out', gap') (s.data.toList.drop (k + wid (s.data.toList.drop k)))).1 = clean s.data.toList := by
  have hw := wid_pos (s.data.toList.drop k)
  constructor
  · have e : out' = (cleanStep (out, gap) ((s.data.toList.drop k).take (wid (s.data.toList.drop k))) (rdec (s.data.toList.drop k)).1).1 := by rw [h]
    rw [e]
    unfold cleanStep
    repeat' split
    all_goals simp only [List.length_append, List.length_take, List.length_cons, List.length_nil]
    all_goals omega
  · rw [← hv, foldT_step cleanStep (out, gap) (drop_ne (by rw [← Lib.size_eq]; exact hlt)), h, List.drop_drop]
theorem rdec_fits {s : ByteArray} {k : Nat} (h : k < s.size) : k + (rdec (s.data.toList.drop k)).2 ≤ s.size ∧ (rdec (s.data.toList.drop k)).2 ≤ 3 ∧ 1 ≤ wid (s.data.toList.drop k) ∧ k + wid (s.data.toList.drop k) ≤ s.size ∧ wid (s.data.toList.drop k) ≤ 3 := by
  have h1 := rdec_le (drop_ne (by rw [← Lib.size_eq]; exact h) : s.data.toList.drop k ≠ [])
  have h2 := wid_le (drop_ne (by rw [← Lib.size_eq]; exact h) : s.data.toList.drop k ≠ [])
  have h3 := rdec_width3 (s.data.toList.drop k)
  rw [List.length_drop, ← Lib.size_eq] at h1 h2
  refine ⟨by omega, h3, wid_pos _, by omega, ?_⟩
  unfold wid
  omega
end Tx

end Go.Proofs.YtkahplbjbidemaaDoor
