/- The reference's small functions on texts: what the calls return. -/
import Derived.Test.YtkahplbjbidemaaGreatDoorTxB
namespace Go.Proofs.YtkahplbjbidemaaGreatDoor
open Go.RowKit

namespace Tx
theorem ret1 {k : IntKind} {a b : Int} (h : a = b) : Ending.returned (.int k a) = .returned (.int k b) := by rw [h]
theorem retb {a b : Bool} (h : a = b) : Ending.returned (.bool a) = .returned (.bool b) := by rw [h]
theorem rets {a b : ByteArray} (h : a = b) : Ending.returned (.string a) = .returned (.string b) := by rw [h]
theorem drop_ne {l : List UInt8} {k : Nat} (h : k < l.length) : l.drop k ≠ [] := by
  intro h0
  have := congrArg List.length h0
  rw [List.length_drop] at this
  simp at this
  omega
theorem bcat (l : List UInt8) (y : ByteArray) : (⟨l.toArray⟩ : ByteArray) ++ y = ⟨(l ++ y.data.toList).toArray⟩ := by
  apply ByteArray.ext
  simp
theorem extract_wid (s : ByteArray) (k n : Nat) : (s.extract k (k + n)).data.toList = (s.data.toList.drop k).take n := by
  rw [Lib.extract_data, Nat.add_sub_cancel_left]
theorem clean_round {s : ByteArray} {k : Nat} {out out' : List UInt8} {gap gap' : Bool} (hlt : k < s.size) (hol : out.length ≤ 2 * k)
    (hv : (foldT cleanStep (out, gap) (s.data.toList.drop k)).1 = clean s.data.toList)
    (h : cleanStep (out, gap) ((s.data.toList.drop k).take (wid (s.data.toList.drop k))) (rdec (s.data.toList.drop k)).1 = (out', gap')) :
    out'.length ≤ 2 * (k + wid (s.data.toList.drop k)) ∧ (foldT cleanStep (out', gap') (s.data.toList.drop (k + wid (s.data.toList.drop k)))).1 = clean s.data.toList := by
  have hw := wid_pos (s.data.toList.drop k)
  constructor
  · have e : out' = (cleanStep (out, gap) ((s.data.toList.drop k).take (wid (s.data.toList.drop k))) (rdec (s.data.toList.drop k)).1).1 := by rw [h]
    rw [e]
    unfold cleanStep
    repeat' split
    all_goals simp only [List.length_append, List.length_take, List.length_cons, List.length_nil]
    all_goals omega
  · rw [← hv, foldT_step cleanStep (out, gap) (drop_ne (by rw [← Lib.size_eq]; exact hlt)), h, List.drop_drop]
theorem rdec_fits {s : ByteArray} {k : Nat} (h : k < s.size) : k + (rdec (s.data.toList.drop k)).2 ≤ s.size ∧ (rdec (s.data.toList.drop k)).2 ≤ 3 ∧ 1 ≤ wid (s.data.toList.drop k) ∧ k + wid (s.data.toList.drop k) ≤ s.size ∧ wid (s.data.toList.drop k) ≤ 3 := by
  have h1 := rdec_le (drop_ne (by rw [← Lib.size_eq]; exact h) : s.data.toList.drop k ≠ [])
  have h2 := wid_le (drop_ne (by rw [← Lib.size_eq]; exact h) : s.data.toList.drop k ≠ [])
  have h3 := rdec_width3 (s.data.toList.drop k)
  rw [List.length_drop, ← Lib.size_eq] at h1 h2
  refine ⟨by omega, h3, wid_pos _, by omega, ?_⟩
  unfold wid
  omega
end Tx

set_option maxHeartbeats 400000 in
theorem r01_size_c (s : ByteArray) (i : Nat) (w : World) (hi : i < s.size) (hs : s.size ≤ 9223372036854775000) :
    Calls Tryz.prog 120 #[.string s, .int .i64 i] w fun e w' => e = .returned (.int .i64 (Tx.wid (s.data.toList.drop i))) ∧ Below w.heap.size w w' := by
  go_enter Tryz.func120, Tryz.ntmps120
  go_wp2_with (go_at_call 37; refine (r01_decode_c s i _ hi hs).mono ?_; rintro e w1 ⟨rfl, hb⟩)
  all_goals
    go_ret
    exact ⟨Tx.ret1 (by unfold Tx.wid; omega), hb⟩


set_option maxHeartbeats 400000 in
theorem r01_Valid_c (s : ByteArray) (w : World) (hs : s.size ≤ 9223372036854775000) :
    Calls Tryz.prog 20 #[.string s] w fun e w' => e = .returned (.bool (Tx.valid s.data.toList)) ∧ Below w.heap.size w w' := by
  go_enter Tryz.func20, Tryz.ntmps20
  go_wp2
  go_loopw [3] (fun i wr => ∃ k : Nat, k ≤ s.size ∧ i = .int .i64 k ∧ Hid (Tx.valid (s.data.toList.drop k) = Tx.valid s.data.toList) ∧ Below w.heap.size w wr) (fun i _ => s.size - (intOf i).toNat)
  case atStart => exact ⟨0, Nat.zero_le _, rfl, Lib.hid (by rw [List.drop_zero]), Below.refl _ _⟩
  case round =>
    obtain ⟨k, hk, rfl, hv, hb⟩ := hrel
    by_cases hlt : k < s.size
    · obtain ⟨hle, _, _, _, _⟩ := Tx.rdec_fits hlt
      have hne : s.data.toList.drop k ≠ [] := Tx.drop_ne (by rw [← Lib.size_eq]; exact hlt)
      have HN := Lib.hid hne; clear hne
      go_wp2_with (go_at_call 37; refine (r01_decode_c s k _ hlt hs).mono ?_; rintro e w1 ⟨rfl, hb1⟩)
      · go_ret
        have hz : (Tx.rdec (s.data.toList.drop k)).2 = 0 := by
          have h := ‹((Tx.rdec (s.data.toList.drop k)).2 : Int) == 0› 
          simpa using h
        exact ⟨Tx.retb (by rw [← hv.out, Tx.valid_step HN.out, if_pos hz]), hb.trans (hb1.mono hb.size)⟩
      · have hz : (Tx.rdec (s.data.toList.drop k)).2 ≠ 0 := by
          have h : (((Tx.rdec (s.data.toList.drop k)).2 : Int) == 0) = false := by assumption
          simpa using h
        go_roundw
        case rel => exact ⟨k + (Tx.rdec (s.data.toList.drop k)).2, by omega, by go_num, Lib.hid (by rw [← hv.out, Tx.valid_step HN.out, if_neg hz, List.drop_drop]), hb.trans (hb1.mono hb.size)⟩
        case measure => simp [intOf]; omega
    · go_wp2
      go_ret
      have : s.data.toList.drop k = [] := List.drop_eq_nil_of_le (by rw [← Lib.size_eq]; omega)
      exact ⟨Tx.retb (by rw [← hv.out, this]; rfl), hb⟩

end Go.Proofs.YtkahplbjbidemaaGreatDoor
