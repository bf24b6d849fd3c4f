/- Plain: dates, the program's way; names; no program stands in this file. -/
import Derived.Test.YtlinaeklhkfbcaaGreatDoorKdA
namespace Go.Proofs.YtlinaeklhkfbcaaGreatDoor
namespace Hd
open Go.Lib Rc

def dig4 (l : By) : Bool := decide (l.length = 4) && l.all digB
theorem digB_hyphen {c : UInt8} (h : digB c = true) : c ≠ 45 := by
  rintro rfl
  revert h
  decide
theorem dig4_iff {l : By} : dig4 l = true ↔ ∃ a b c d, l = [a, b, c, d] ∧ digB a = true ∧ digB b = true ∧ digB c = true ∧ digB d = true := by
  constructor
  · intro h
    unfold dig4 at h
    rw [Bool.and_eq_true, decide_eq_true_iff] at h
    match l, h with
    | [a, b, c, d], ⟨_, h⟩ =>
      simp at h
      exact ⟨a, b, c, d, rfl, h.1, h.2.1, h.2.2.1, h.2.2.2⟩
  · rintro ⟨a, b, c, d, rfl, h1, h2, h3, h4⟩
    unfold dig4
    simp [h1, h2, h3, h4]
theorem dates_iff {s : By} : dates s = true ↔ ∃ a b c d r, s = a :: b :: c :: d :: 45 :: r ∧ digB a = true ∧ digB b = true ∧ digB c = true ∧ digB d = true ∧ (r = [] ∨ dig4 r = true) := by
  constructor
  · intro h
    match s, h with
    | [a, b, c, d, e], h =>
      simp only [dates, Bool.and_eq_true, beq_iff_eq] at h
      obtain ⟨⟨⟨⟨h1, h2⟩, h3⟩, h4⟩, rfl⟩ := h
      exact ⟨a, b, c, d, [], rfl, h1, h2, h3, h4, .inl rfl⟩
    | [a, b, c, d, e, f, g, k, i], h =>
      simp only [dates, Bool.and_eq_true, beq_iff_eq] at h
      obtain ⟨⟨⟨⟨⟨⟨⟨⟨h1, h2⟩, h3⟩, h4⟩, rfl⟩, h5⟩, h6⟩, h7⟩, h8⟩ := h
      exact ⟨a, b, c, d, [f, g, k, i], rfl, h1, h2, h3, h4, .inr (dig4_iff.2 ⟨f, g, k, i, rfl, h5, h6, h7, h8⟩)⟩
  · rintro ⟨a, b, c, d, r, rfl, h1, h2, h3, h4, h | h⟩
    · subst h
      simp [dates, h1, h2, h3, h4]
    · obtain ⟨f, g, k, i, rfl, h5, h6, h7, h8⟩ := dig4_iff.1 h
      simp [dates, h1, h2, h3, h4, h5, h6, h7, h8]
/-- The program's way: cut at the first hyphen. -/
theorem dates_none {s : By} (h : index s [45] = -1) : dates s = false := by
  rw [Bool.eq_false_iff]
  intro hd
  obtain ⟨a, b, c, d, r, rfl, _⟩ := dates_iff.1 hd
  rcases index_spec (a :: b :: c :: d :: 45 :: r) [45] with ⟨_, h2⟩ | ⟨i, h1, _⟩
  · have := h2 4 (by simp)
    simp [occAt] at this
  · omega
theorem index_four {a b c d : UInt8} {r : By} (h1 : digB a = true) (h2 : digB b = true) (h3 : digB c = true) (h4 : digB d = true) : index (a :: b :: c :: d :: 45 :: r) [45] = 4 := by
  refine index_first (i := 4) (by simp) (by simp [occAt]) fun j hj => ?_
  have g1 := digB_hyphen h1
  have g2 := digB_hyphen h2
  have g3 := digB_hyphen h3
  have g4 := digB_hyphen h4
  match j, hj with
  | 0, _ =>
    have e : ((45 : UInt8) == a) = false := by simpa using Ne.symm g1
    simp [occAt, List.isPrefixOf, e]
  | 1, _ =>
    have e : ((45 : UInt8) == b) = false := by simpa using Ne.symm g2
    simp [occAt, List.isPrefixOf, e]
  | 2, _ =>
    have e : ((45 : UInt8) == c) = false := by simpa using Ne.symm g3
    simp [occAt, List.isPrefixOf, e]
  | 3, _ =>
    have e : ((45 : UInt8) == d) = false := by simpa using Ne.symm g4
    simp [occAt, List.isPrefixOf, e]
theorem dates_some {s : By} {i : Nat} (h : index s [45] = i) : dates s = (dig4 (s.take i) && (decide (s.drop (i + 1) = []) || dig4 (s.drop (i + 1)))) := by
  rw [Bool.eq_iff_iff, Bool.and_eq_true, Bool.or_eq_true, decide_eq_true_iff]
  constructor
  · intro hd
    obtain ⟨a, b, c, d, r, rfl, h1, h2, h3, h4, h5⟩ := dates_iff.1 hd
    have hi := index_four (r := r) h1 h2 h3 h4
    obtain rfl : i = 4 := by omega
    exact ⟨dig4_iff.2 ⟨a, b, c, d, rfl, h1, h2, h3, h4⟩, h5⟩
  · rintro ⟨hd, hr⟩
    obtain ⟨a, b, c, d, ht, h1, h2, h3, h4⟩ := dig4_iff.1 hd
    have hat := index_at h
    rw [ht] at hat
    refine dates_iff.2 ⟨a, b, c, d, s.drop (i + 1), ?_, h1, h2, h3, h4, hr⟩
    simpa using hat
end Hd
namespace Ct
open Go.Lib Rc Hd
theorem wrong_ref (p : By) : wrongPart p = (p == [] || Tx.clean p != p || decide (1 < (split p [44]).length)) := by
  unfold wrongPart
  congr 1
  rw [Bool.eq_iff_iff, decide_eq_true_iff, split_len (by simp)]
theorem name_invalid {s : By} (h : Tx.valid s = false) : name s = none := by unfold name; rw [if_pos h]
theorem name_wrong {s : By} (hv : Tx.valid s = true) {p : By} (hp : p ∈ split s [44, 32]) (h : wrongPart p = true) : name s = none := by
  unfold name
  rw [if_neg (by simp [hv]), if_pos (List.any_eq_true.2 ⟨p, hp, h⟩)]
theorem name_long {s : By} (h : 3 < (split s [44, 32]).length) : name s = none := by
  unfold name
  split
  · rfl
  · split
    · rfl
    · split
      · rename_i e; rw [e] at h; simp at h
      · rename_i e; rw [e] at h; simp at h
      · rename_i e; rw [e] at h; simp at h
      · rfl
theorem name_1 {s a : By} (hv : Tx.valid s = true) (hw : (split s [44, 32]).any wrongPart = false) (h : split s [44, 32] = [a]) : name s = some (a, [], []) := by
  unfold name; rw [if_neg (by simp [hv]), if_neg (by simp [hw]), h]
theorem name_2 {s a b : By} (hv : Tx.valid s = true) (hw : (split s [44, 32]).any wrongPart = false) (h : split s [44, 32] = [a, b]) : name s = if dates b = true then some (a, [], b) else some (a, b, []) := by
  unfold name; rw [if_neg (by simp [hv]), if_neg (by simp [hw]), h]
theorem name_3 {s a b c : By} (hv : Tx.valid s = true) (hw : (split s [44, 32]).any wrongPart = false) (h : split s [44, 32] = [a, b, c]) : name s = if dates c = true then some (a, b, c) else none := by
  unfold name; rw [if_neg (by simp [hv]), if_neg (by simp [hw]), h]
theorem short3 {α : Type} {l : List α} (h : l ≠ []) (h2 : ¬ 3 < l.length) : (∃ a, l = [a]) ∨ (∃ a b, l = [a, b]) ∨ ∃ a b c, l = [a, b, c] := by
  match l, h, h2 with
  | [a], _, _ => exact .inl ⟨a, rfl⟩
  | [a, b], _, _ => exact .inr (.inl ⟨a, b, rfl⟩)
  | [a, b, c], _, _ => exact .inr (.inr ⟨a, b, c, rfl⟩)
  | _ :: _ :: _ :: _ :: _, _, h2 => exact absurd (by simp) h2
end Ct
end Go.Proofs.YtlinaeklhkfbcaaGreatDoor
