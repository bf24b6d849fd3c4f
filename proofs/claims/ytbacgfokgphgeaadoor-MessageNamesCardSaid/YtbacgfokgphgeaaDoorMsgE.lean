/- Layer 41: Cut, kindOf, Same: what the calls return. -/
import Derived.Test.YtbacgfokgphgeaaDoorMsgD
import Derived.Test.YtbacgfokgphgeaaDoorSpB
namespace Go.Proofs.YtbacgfokgphgeaaDoor
open Go.RowKit
set_option maxRecDepth 100000

namespace Mg
/-- What the reference's Cut returns. -/
def cutA (l : List UInt8) : List UInt8 := match Sp.cut 32 l with | some (a, _) => a | none => l
def cutB (l : List UInt8) : List UInt8 := match Sp.cut 32 l with | some (_, b) => b | none => []
def cutM (l : List UInt8) : Bool := match Sp.cut 32 l with | some _ => true | none => false
def kgo : List (List UInt8) → Int → List UInt8 → Int
  | [], _, _ => 0
  | x :: r, k, l => if x = l then k else kgo r (k + 1) l
/-- The kind with a name, or 0. -/
def kindOf (l : List UInt8) : Int := kgo names 1 l
theorem kindOf_iff {k : Int} {l : List UInt8} (h : 1 ≤ k ∧ k ≤ 11) : nameOf k = l ↔ kindOf l = k := by
  constructor
  · intro e
    subst e
    rcases cases11 h with rfl | rfl | rfl | rfl | rfl | rfl | rfl | rfl | rfl | rfl | rfl <;> decide
  · intro e
    unfold kindOf names at e
    simp only [kgo] at e
    repeat' split at e
    all_goals first | (subst e; rename_i hx; rw [← hx]; decide) | (exfalso; omega)
theorem kindOf_range (l : List UInt8) : 0 ≤ kindOf l ∧ kindOf l ≤ 11 := by
  unfold kindOf names
  simp only [kgo]
  repeat' split
  all_goals omega
end Mg

theorem Tx.ret3 {a a' b b' : ByteArray} {m m' : Bool} (h1 : a = a') (h2 : b = b') (h3 : m = m') : Ending.returned (.tuple #[.string a, .string b, .bool m]) = .returned (.tuple #[.string a', .string b', .bool m']) := by rw [h1, h2, h3]
theorem Tx.ext_list (s : ByteArray) (a b : Nat) : s.extract a b = ⟨((s.data.toList.drop a).take (b - a)).toArray⟩ := by
  apply ByteArray.ext
  apply Array.ext'
  rw [Lib.extract_data]
theorem Tx.mk_list (s : ByteArray) : s = ⟨s.data.toList.toArray⟩ := by
  apply ByteArray.ext
  simp

set_option maxHeartbeats 1000000 in
theorem Cut_c (s : ByteArray) (w : World) (hs : s.size ≤ 9223372036854775000) :
    Calls Tryd.prog 29 #[.string s] w fun e w' => e = .returned (.tuple #[.string ⟨(Mg.cutA s.data.toList).toArray⟩, .string ⟨(Mg.cutB s.data.toList).toArray⟩, .bool (Mg.cutM s.data.toList)]) ∧ Below w.heap.size w w' := by
  go_enter Tryd.func29, Tryd.ntmps29
  go_wp2
  go_loop [5] (fun i => ∃ k : Nat, k ≤ s.size ∧ i = .int .i64 k ∧ Hid ((32 : UInt8) ∉ s.data.toList.take k)) (fun i => s.size - (intOf i).toNat)
  case atStart => exact ⟨0, Nat.zero_le _, rfl, Lib.hid (by simp)⟩
  case round =>
    obtain ⟨k, hk, rfl, hn⟩ := hrel
    by_cases hlt : k < s.size
    · have hst : s.data.toList.drop k = s[k]'hlt :: s.data.toList.drop (k + 1) := by
        rw [List.drop_eq_getElem_cons (by rw [← Lib.size_eq]; exact hlt)]
        rfl
      have hat : s.data.toList.take (k + 1) = s.data.toList.take k ++ [s[k]'hlt] := by
        rw [List.take_succ_eq_append_getElem (by rw [← Lib.size_eq]; exact hlt)]
        rfl
      by_cases hc : (s[k]'hlt).toNat = 32
      · have hc2 : s[k]'hlt = 32 := UInt8.toNat.inj hc
        have hcut : Sp.cut 32 s.data.toList = some (s.data.toList.take k, s.data.toList.drop (k + 1)) := by
          have h1 := Sp.cut_append (c := 32) (b := s.data.toList.drop (k + 1)) hn.out
          rw [← h1]
          congr 1
          rw [← hc2, ← hst, List.take_append_drop]
        have HC := Lib.hid hcut
        have hc3 : ((s[k]'hlt).toNat : Int) = 32 := by omega
        have hb : (((s[k]'hlt).toNat : Int) == 32) = true := by simp [hc]
        have b1 : (0 : Int) ≤ k := by omega
        have b2 : (k : Int) ≤ s.size := by omega
        have b3 : (0 : Int) ≤ (k : Int) + 1 := by omega
        have b4 : (k : Int) + 1 ≤ s.size := by omega
        clear hst hat hn hc2 hcut hc hc3
        go_wp2
        go_quiet (fail)
        go_wp2
        go_ret3
        refine ⟨Tx.ret3 ?_ ?_ ?_, Tx.below_drewN (Below.refl _ _) _⟩
        · unfold Mg.cutA
          rw [HC.out, Tx.ext_list]
          simp
        · unfold Mg.cutB
          rw [HC.out, Tx.ext_list]
          simp only
          rw [List.take_of_length_le (by rw [List.length_drop, ← Lib.size_eq]; exact Nat.le_refl _)]
        · unfold Mg.cutM
          rw [HC.out]
      · have hb : (((s[k]'hlt).toNat : Int) == 32) = false := by
          rw [beq_eq_false_iff_ne]
          omega
        have HN : Hid ((32 : UInt8) ∉ s.data.toList.take (k + 1)) := Lib.hid (by
          rw [hat]
          simp only [List.mem_append, List.mem_cons, List.not_mem_nil, or_false, not_or]
          exact ⟨hn.out, fun e => hc (by rw [← e]; rfl)⟩)
        clear hst hat hn hc
        go_wp2
        go_round
        case rel => exact ⟨k + 1, by omega, by go_num, HN⟩
        case measure => simp [intOf]; omega
    · have hcut : Sp.cut 32 s.data.toList = none := by
        rw [Sp.cut_none]
        have := hn.out
        rwa [List.take_of_length_le (by rw [← Lib.size_eq]; omega)] at this
      have HC := Lib.hid hcut; clear hcut hn
      go_wp2
      go_ret3
      refine ⟨Tx.ret3 ?_ ?_ ?_, Below.refl _ _⟩
      · unfold Mg.cutA
        rw [HC.out]
      · unfold Mg.cutB
        rw [HC.out]
      · unfold Mg.cutM
        rw [HC.out]

set_option maxHeartbeats 1000000 in
theorem kindOf_c (s : ByteArray) (w : World) :
    Calls Tryd.prog 30 #[.string s] w fun e w' => e = .returned (.int .i64 (Mg.kindOf s.data.toList)) ∧ Below w.heap.size w w' := by
  go_enter Tryd.func30, Tryd.ntmps30
  go_wp2
  go_loopw [3] (fun i wr => ∃ k : Int, 1 ≤ k ∧ k ≤ 12 ∧ i = .int .i64 k ∧ Hid (Mg.kindOf s.data.toList = 0 ∨ k ≤ Mg.kindOf s.data.toList) ∧ Below w.heap.size w wr) (fun i _ => (12 - intOf i).toNat)
  case atStart => exact ⟨1, by omega, by omega, rfl, Lib.hid (by have := Mg.kindOf_range s.data.toList; omega), Below.refl _ _⟩
  case round =>
    obtain ⟨k, hk1, hk2, rfl, hv, hb⟩ := hrel
    have hr := Mg.kindOf_range s.data.toList
    by_cases hlt : k ≤ 11
    · have hif := Mg.kindOf_iff (l := s.data.toList) ⟨hk1, hlt⟩
      have HI := Lib.hid hif; clear hif
      go_wp2_with (go_at_call 17; refine (name_r _ _).mono ?_; rintro e w1 ⟨rfl, hb1⟩)
      · have h : (Mg.nameOf k == s.toList) = true := by assumption
        rw [Lib.toList_data] at h
        have hkk := HI.out.1 (by simpa using h)
        go_ret
        exact ⟨Tx.ret1 hkk.symm, hb.trans (hb1.mono hb.size)⟩
      · have h : (Mg.nameOf k == s.toList) = false := by assumption
        rw [Lib.toList_data] at h
        have hkk : ¬ Mg.kindOf s.data.toList = k := fun e => by
          have := HI.out.2 e
          simp [this] at h
        go_roundw
        case rel => exact ⟨k + 1, by omega, by omega, by go_num, Lib.hid (by have := hv.out; omega), hb.trans (hb1.mono hb.size)⟩
        case measure => simp [intOf]; omega
    · go_wp2
      go_ret
      have h0 : Mg.kindOf s.data.toList = 0 := by have := hv.out; omega
      exact ⟨Tx.ret1 (by rw [h0]), hb⟩
end Go.Proofs.YtbacgfokgphgeaaDoor
