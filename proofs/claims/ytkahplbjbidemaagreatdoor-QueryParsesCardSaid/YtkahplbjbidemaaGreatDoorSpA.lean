/- Plain facts about cutting a string at blanks (or another byte); no program stands in this file. -/
import Derived.Lib.Split
import Derived.Lib.IndexBytes
import Derived.Lib.IndexLaws
namespace Go.Proofs.YtkahplbjbidemaaGreatDoor
namespace Sp
open Go.Lib

/-- A string up to its first byte c, and what stands behind it. -/
def cut (c : UInt8) : List UInt8 → Option (List UInt8 × List UInt8)
  | [] => none
  | b :: t => if b = c then some ([], t) else match cut c t with
    | some (x, y) => some (b :: x, y)
    | none => none
theorem cut_len {c : UInt8} : ∀ {l a b : List UInt8}, cut c l = some (a, b) → l.length = a.length + 1 + b.length
  | [], a, b, h => by simp [cut] at h
  | x :: t, a, b, h => by
    simp only [cut] at h
    split at h
    · simp at h
      obtain ⟨rfl, rfl⟩ := h
      simp
      omega
    · cases ht : cut c t with
      | none => rw [ht] at h; simp at h
      | some p =>
        obtain ⟨x', y'⟩ := p
        rw [ht] at h
        simp at h
        obtain ⟨rfl, rfl⟩ := h
        have := cut_len ht
        simp
        omega
theorem cut_eq {c : UInt8} : ∀ {l a b : List UInt8}, cut c l = some (a, b) → l = a ++ c :: b ∧ c ∉ a
  | [], a, b, h => by simp [cut] at h
  | x :: t, a, b, h => by
    simp only [cut] at h
    split at h
    · rename_i hx
      simp at h
      obtain ⟨rfl, rfl⟩ := h
      simp [hx]
    · rename_i hx
      cases ht : cut c t with
      | none => rw [ht] at h; simp at h
      | some p =>
        obtain ⟨x', y'⟩ := p
        rw [ht] at h
        simp at h
        obtain ⟨rfl, rfl⟩ := h
        obtain ⟨h1, h2⟩ := cut_eq ht
        refine ⟨by rw [h1]; rfl, ?_⟩
        simp only [List.mem_cons, not_or]
        exact ⟨fun e => hx e.symm, h2⟩
theorem cut_none {c : UInt8} : ∀ {l : List UInt8}, cut c l = none ↔ c ∉ l
  | [] => by simp [cut]
  | x :: t => by
    simp only [cut]
    split
    · rename_i hx
      simp [hx]
    · rename_i hx
      cases ht : cut c t with
      | none =>
        have := (cut_none (l := t)).1 ht
        simp only [List.mem_cons, not_or, true_iff]
        exact ⟨fun e => hx e.symm, this⟩
      | some p =>
        have : ¬ c ∉ t := fun hn => by rw [(cut_none (l := t)).2 hn] at ht; cases ht
        simp only [List.mem_cons, not_or]
        constructor
        · intro h; cases h
        · intro h; exact absurd h.2 this
/-- To cut what was put together. -/
theorem cut_append {c : UInt8} {a b : List UInt8} (h : c ∉ a) : cut c (a ++ c :: b) = some (a, b) := by
  induction a with
  | nil => simp [cut]
  | cons x t ih =>
    simp only [List.mem_cons, not_or] at h
    simp only [List.cons_append, cut]
    rw [if_neg (fun e => h.1 e.symm), ih h.2]

/-- The pieces of a string, at most n cuts. -/
def splitW (c : UInt8) : Nat → List UInt8 → List (List UInt8)
  | 0, l => [l]
  | n + 1, l => match cut c l with
    | some (a, b) => a :: splitW c n b
    | none => [l]

theorem indexByte_cut (c : UInt8) : ∀ (l : List UInt8), (indexByte l c = -1 ∧ cut c l = none) ∨ ∃ i : Nat, indexByte l c = i ∧ cut c l = some (l.take i, l.drop (i + 1))
  | [] => .inl ⟨rfl, rfl⟩
  | b :: t => by
    simp only [indexByte, cut]
    by_cases hb : b = c
    · subst hb
      right
      exact ⟨0, by simp, by simp⟩
    · have hb' : (b == c) = false := by simpa using hb
      rw [hb', if_neg hb]
      simp only [Bool.false_eq_true, if_false]
      rcases indexByte_cut c t with ⟨h1, h2⟩ | ⟨i, h1, h2⟩
      · left
        rw [h1, h2]
        simp
      · right
        refine ⟨i + 1, ?_, ?_⟩
        · rw [h1]
          have : ¬ ((i : Int) == -1) = true := by simp
          rw [if_neg this]
          rfl
        · rw [h2]
          simp
theorem splitK_eq (c : UInt8) : ∀ (k : Nat) (l : List UInt8), splitK [c] 0 k l = splitW c k l
  | 0, l => rfl
  | k + 1, l => by
    simp only [splitK, splitW, index_one]
    rcases indexByte_cut c l with ⟨h1, h2⟩ | ⟨i, h1, h2⟩
    · rw [h1, h2]
      simp
    · rw [h1, h2]
      have : ¬ ((i : Int) == -1) = true := by simp
      rw [if_neg this]
      simp only [Int.toNat_natCast, Nat.add_zero, List.length_cons, List.length_nil]
      rw [splitK_eq c k]
theorem splitW_enough (c : UInt8) : ∀ (k m : Nat) (l : List UInt8), l.length ≤ k → k ≤ m → splitW c m l = splitW c k l
  | k, 0, l, h, hm => by
    have : k = 0 := by omega
    subst this
    rfl
  | 0, m + 1, l, h, _ => by
    have : l = [] := List.eq_nil_of_length_eq_zero (by omega)
    subst this
    rfl
  | k + 1, m + 1, l, h, hm => by
    simp only [splitW]
    cases hc : cut c l with
    | none => rfl
    | some p =>
      obtain ⟨a, b⟩ := p
      have := cut_len hc
      simp only
      rw [splitW_enough c k m b (by omega) (by omega)]
/-- strings.SplitN at one byte. -/
theorem splitN_eq (c : UInt8) (n : Nat) (s : ByteArray) (hn : 1 ≤ n) : (splitB ⟨#[c]⟩ 0 (min n (s.size + 1) - 1) s).map (·.data.toList) = splitW c (n - 1) s.data.toList := by
  rw [splitB_data]
  show splitK [c] 0 _ _ = _
  rw [splitK_eq]
  rcases Nat.lt_or_ge s.size (n - 1) with h | h
  · rw [show min n (s.size + 1) - 1 = s.size by omega]
    exact (splitW_enough c s.size (n - 1) _ (by rw [← size_eq]; exact Nat.le_refl _) (by omega)).symm
  · rw [show min n (s.size + 1) - 1 = n - 1 by omega]
end Sp
end Go.Proofs.YtkahplbjbidemaaGreatDoor
