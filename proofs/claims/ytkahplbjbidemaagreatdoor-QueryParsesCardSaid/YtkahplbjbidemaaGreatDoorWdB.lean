/- Plain: a character of a text written again; the table of accents; no program stands in this file. -/
import Derived.Test.YtkahplbjbidemaaGreatDoorHdA
import Derived.Lib.RuneBytes
namespace Go.Proofs.YtkahplbjbidemaaGreatDoor
namespace Tx
open Go.Lib Rc
theorem take2 {l : By} (h : 2 ≤ l.length) : l.take 2 = [l.getD 0 0, l.getD 1 0] := by
  match l, h with
  | a :: b :: r, _ => rfl
theorem take3 {l : By} (h : 3 ≤ l.length) : l.take 3 = [l.getD 0 0, l.getD 1 0, l.getD 2 0] := by
  match l, h with
  | a :: b :: c :: r, _ => rfl
theorem take1 {l : By} (h : 1 ≤ l.length) : l.take 1 = [l.getD 0 0] := by
  match l, h with
  | a :: r, _ => rfl
theorem byte_of {n : Int} {b : UInt8} (h : n = b.toNat) : n.toNat.toUInt8 = b := by
  subst h
  simp
/-- A character that is read and written stands as it stood. -/
theorem enc_head {l : By} (hne : l ≠ []) (h : (rdec l).2 ≠ 0) : encodeRune ((rdec l).1 : Int) = l.take (rdec l).2 := by
  have hl : 0 < l.length := List.length_pos_iff.2 hne
  have b0 := UInt8.toNat_lt (l.getD 0 0)
  have b1 := UInt8.toNat_lt (l.getD 1 0)
  have b2 := UInt8.toNat_lt (l.getD 2 0)
  unfold rdec rdecN at h ⊢
  by_cases ha : 32 ≤ (l.getD 0 0).toNat ∧ (l.getD 0 0).toNat < 127
  · simp only [if_pos ha] at h ⊢
    rw [take1 (by omega)]
    unfold encodeRune
    rw [encodeRuneZ_one (by omega) (by omega)]
    simp
  · simp only [if_neg ha] at h ⊢
    by_cases hb : 194 ≤ (l.getD 0 0).toNat ∧ (l.getD 0 0).toNat < 224 ∧ 1 < l.length ∧ 128 ≤ (l.getD 1 0).toNat ∧ (l.getD 1 0).toNat < 192
    · simp only [if_pos hb] at h ⊢
      by_cases hc : 160 ≤ ((l.getD 0 0).toNat - 192) * 64 + (l.getD 1 0).toNat - 128
      · simp only [if_pos hc] at h ⊢
        rw [take2 (by omega)]
        unfold encodeRune
        rw [encodeRuneZ_two (by omega) (by omega)]
        simp only [List.map_cons, List.map_nil]
        rw [byte_of (b := l.getD 0 0) (by omega), byte_of (b := l.getD 1 0) (by omega)]
      · simp only [if_neg hc] at h
        exact absurd rfl h
    · simp only [if_neg hb] at h ⊢
      by_cases hd : 224 ≤ (l.getD 0 0).toNat ∧ (l.getD 0 0).toNat < 240 ∧ 2 < l.length ∧ 128 ≤ (l.getD 1 0).toNat ∧ (l.getD 1 0).toNat < 192 ∧ 128 ≤ (l.getD 2 0).toNat ∧ (l.getD 2 0).toNat < 192
      · simp only [if_pos hd] at h ⊢
        split at h
        · rename_i hq
          simp only [if_pos hq]
          rw [take3 (by omega)]
          unfold encodeRune
          rw [encodeRuneZ_three (by omega)]
          simp only [List.map_cons, List.map_nil]
          rw [byte_of (b := l.getD 0 0) (by omega), byte_of (b := l.getD 1 0) (by omega), byte_of (b := l.getD 2 0) (by omega)]
        · exact absurd rfl h
      · simp only [if_neg hd] at h
        exact absurd rfl h
/-- The program's text of replacements. -/
def accL : By := [97, 44, 97, 44, 97, 44, 97, 44, 97, 44, 97, 44, 97, 101, 44, 99, 44, 101, 44, 101, 44, 101, 44, 101, 44, 105, 44, 105, 44, 105, 44, 105, 44, 100, 44, 110, 44, 111, 44, 111, 44, 111, 44, 111, 44, 111, 44, 44, 111, 44, 117, 44, 117, 44, 117, 44, 117, 44, 121, 44, 116, 104, 44, 115, 115, 44, 97, 44, 97, 44, 97, 44, 97, 44, 97, 44, 97, 44, 97, 101, 44, 99, 44, 101, 44, 101, 44, 101, 44, 101, 44, 105, 44, 105, 44, 105, 44, 105, 44, 100, 44, 110, 44, 111, 44, 111, 44, 111, 44, 111, 44, 111, 44, 44, 111, 44, 117, 44, 117, 44, 117, 44, 117, 44, 121, 44, 116, 104, 44, 121]
theorem acc_split : split accL [44] = (List.range 64).map fun k => foldC (192 + k) := by decide +kernel
theorem acc_count : count accL [44] = 63 := by decide +kernel
theorem foldP_up {q : By} {c : Nat} (h : 65 ≤ c ∧ c ≤ 90) : foldP q c = [UInt8.ofNat (c + 32)] := by
  unfold foldP foldC
  rw [if_pos h, if_neg (by simp)]
theorem foldP_tab {q : By} {c : Nat} (hne : foldC c ≠ []) : foldP q c = foldC c := by unfold foldP; rw [if_neg hne]
theorem foldP_same {q : By} {c : Nat} (he : foldC c = []) : foldP q c = q := by unfold foldP; rw [if_pos he]
theorem foldC_out {c : Nat} (h1 : ¬ (65 ≤ c ∧ c ≤ 90)) (h : c < 192 ∨ 255 < c) : foldC c = [] := by
  unfold foldC
  rw [if_neg h1, if_pos (by omega)]
theorem enc_up {c : Nat} (h : 65 ≤ c ∧ c ≤ 90) : encodeRune ((c + 32 : Nat) : Int) = [UInt8.ofNat (c + 32)] := by
  unfold encodeRune
  rw [encodeRuneZ_one (by omega) (by omega)]
  simp only [List.map_cons, List.map_nil]
  rfl
end Tx
end Go.Proofs.YtkahplbjbidemaaGreatDoor
