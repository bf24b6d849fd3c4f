/- Layer 41: what Parse returns, in plain words; and the steps by which the reference comes to it. -/
import Derived.Test.YtbacgfokgphgeaaDoorMsgE
namespace Go.Proofs.YtbacgfokgphgeaaDoor
open Go.RowKit

namespace Mg
structure Msg where
  f : Int
  t : Int
  r : Int
  s : Int
  k : Int
  rc : Int
  d : Int
  n : List UInt8
def zero : Msg := ⟨0, 0, 0, 0, 0, 0, 0, []⟩
/-- The number that the word at a place is, or 0. -/
def N (ws : List (List UInt8)) (j : Nat) : Int := (((Nm.num (ws.getD j [])).getD 0 : Nat) : Int)
def ok (ws : List (List UInt8)) (j : Nat) : Bool := (Nm.num (ws.getD j [])).isSome
def mOf (ws : List (List UInt8)) : Msg := ⟨N ws 0, N ws 1, N ws 2, N ws 3, kindOf (ws.getD 4 []), N ws 5, N ws 6, ws.getD 7 []⟩
def rightM (m : Msg) : Int := right m.f m.t m.r m.s m.k m.rc m.d m.n
def bad (ws : List (List UInt8)) : Prop :=
  ws.length < 7 ∨ ok ws 0 = false ∨ ok ws 1 = false ∨ ok ws 2 = false ∨ ok ws 3 = false ∨ ok ws 5 = false ∨ ok ws 6 = false ∨ kindOf (ws.getD 4 []) = 0 ∨ (7 < ws.length ∧ ws.getD 7 [] = []) ∨ noteB (ws.getD 7 []) = false
instance (ws : List (List UInt8)) : Decidable (bad ws) := by unfold bad; infer_instance
/-- What Parse returns: the error, and the message. -/
def parse (l : List UInt8) : Int × Msg :=
  if bad (Sp.splitW 32 7 l) then (3, zero)
  else if rightM (mOf (Sp.splitW 32 7 l)) = 0 then (0, mOf (Sp.splitW 32 7 l)) else (rightM (mOf (Sp.splitW 32 7 l)), zero)
theorem parse_bad {l : List UInt8} (h : bad (Sp.splitW 32 7 l)) : parse l = (3, zero) := by unfold parse; rw [if_pos h]

/-- Where the reference stands ahead of word i. -/
structure Inv (ws : List (List UInt8)) (i : Nat) (rest : List UInt8) (more : Bool) : Prop where
  yes : more = true → Sp.splitW 32 (7 - i) rest = ws.drop i
  no : more = false → ws.length = i ∧ rest = []
theorem splitW_ne (c : UInt8) (k : Nat) (l : List UInt8) : Sp.splitW c k l ≠ [] := by
  cases k with
  | zero => simp [Sp.splitW]
  | succ k =>
    simp only [Sp.splitW]
    split <;> simp
theorem Inv.start (l : List UInt8) : Inv (Sp.splitW 32 7 l) 0 l true := ⟨fun _ => by simp, fun h => by cases h⟩
theorem Inv.lt {ws : List (List UInt8)} {i : Nat} {rest : List UInt8} (h : Inv ws i rest true) : i < ws.length := by
  have h1 := h.yes rfl
  have h2 := splitW_ne 32 (7 - i) rest
  rw [h1] at h2
  rcases Nat.lt_or_ge i ws.length with h3 | h3
  · exact h3
  · exact absurd (List.drop_eq_nil_of_le h3) h2
theorem drop_cons {α : Type} [Inhabited α] {ws r : List α} {i : Nat} {a d : α} (h : ws.drop i = a :: r) : ws.getD i d = a ∧ ws.drop (i + 1) = r := by
  have hi : i < ws.length := by
    rcases Nat.lt_or_ge i ws.length with h3 | h3
    · exact h3
    · rw [List.drop_eq_nil_of_le h3] at h; cases h
  rw [List.drop_eq_getElem_cons hi] at h
  injection h with h1 h2
  refine ⟨?_, h2⟩
  rw [List.getD_eq_getElem?_getD, List.getElem?_eq_getElem hi, h1]
  rfl
theorem Inv.next {ws : List (List UInt8)} {i : Nat} {rest : List UInt8} (h : Inv ws i rest true) (hi : i < 7) : ws.getD i [] = cutA rest ∧ Inv ws (i + 1) (cutB rest) (cutM rest) := by
  have h1 := h.yes rfl
  have h2 := h.lt
  obtain ⟨j, hj⟩ : ∃ j, 7 - i = j + 1 := ⟨6 - i, by omega⟩
  rw [hj] at h1
  simp only [Sp.splitW] at h1
  unfold cutA cutB cutM
  cases hc : Sp.cut 32 rest with
  | none =>
    rw [hc] at h1
    simp only at h1 ⊢
    obtain ⟨g1, g2⟩ := drop_cons (d := []) h1.symm
    refine ⟨g1, fun h => (by cases h), fun _ => ⟨?_, rfl⟩⟩
    have := congrArg List.length g2
    rw [List.length_drop] at this
    simp at this
    omega
  | some p =>
    obtain ⟨a, b⟩ := p
    rw [hc] at h1
    simp only at h1 ⊢
    obtain ⟨g1, g2⟩ := drop_cons (d := []) h1.symm
    exact ⟨g1, fun _ => by rw [g2, show 7 - (i + 1) = j by omega], fun h => by cases h⟩
/-- The numbers that the reference has gathered ahead of word i. -/
def nsOf (ws : List (List UInt8)) : Nat → List Int
  | 0 => []
  | i + 1 => if i = 4 then nsOf ws i else nsOf ws i ++ [N ws i]
theorem nsOf_7 (ws : List (List UInt8)) : nsOf ws 7 = [N ws 0, N ws 1, N ws 2, N ws 3, N ws 5, N ws 6] := rfl
theorem nsOf_len (ws : List (List UInt8)) : ∀ i, (nsOf ws i).length ≤ i
  | 0 => by simp [nsOf]
  | i + 1 => by
    have := nsOf_len ws i
    unfold nsOf
    split
    · omega
    · rw [List.length_append]; simp; omega
theorem Inv.bad_short {ws : List (List UInt8)} {i : Nat} {rest : List UInt8} (h : Inv ws i rest false) (hi : i < 7) : bad ws := .inl (by have := (h.no rfl).1; omega)
theorem bad_ok {ws : List (List UInt8)} {i : Nat} (hi : i < 7) (h4 : i ≠ 4) (h : ok ws i = false) : bad ws := by
  unfold bad
  rcases (show i = 0 ∨ i = 1 ∨ i = 2 ∨ i = 3 ∨ i = 5 ∨ i = 6 by omega) with rfl | rfl | rfl | rfl | rfl | rfl <;> simp [h]
theorem ok_of {ws : List (List UInt8)} {i : Nat} (l : List UInt8) (h : ws.getD i [] = l) : ok ws i = (Nm.num l).isSome ∧ N ws i = (((Nm.num l).getD 0 : Nat) : Int) := by
  unfold ok N
  rw [h]
  exact ⟨rfl, rfl⟩
/-- All numbers ahead of word i are numbers. -/
def okTo (ws : List (List UInt8)) (i : Nat) : Prop := ∀ j, j < i → j ≠ 4 → ok ws j = true
theorem okTo.next {ws : List (List UInt8)} {i : Nat} (h : okTo ws i) (hi : i ≠ 4 → ok ws i = true) : okTo ws (i + 1) := fun j hj h4 => by
  rcases Nat.lt_or_ge j i with h1 | h1
  · exact h j h1 h4
  · have : j = i := by omega
    subst this
    exact hi h4
/-- The tests behind the loop decide. -/
theorem Inv.bad_iff {ws : List (List UInt8)} {rest : List UInt8} {more : Bool} (h : Inv ws 7 rest more) (hok : okTo ws 7) :
    ws.getD 7 [] = rest ∧ (bad ws ↔ (kindOf (ws.getD 4 []) = 0 ∨ (more = true ∧ rest = []) ∨ noteB rest = false)) := by
  have h7 : ws.getD 7 [] = rest ∧ (7 < ws.length ↔ more = true) ∧ ¬ ws.length < 7 := by
    cases more with
    | false =>
      obtain ⟨h1, h2⟩ := h.no rfl
      refine ⟨?_, ?_, by omega⟩
      · rw [List.getD_eq_getElem?_getD, List.getElem?_eq_none (by omega), h2]
        rfl
      · simp
        omega
    | true =>
      have h1 := h.yes rfl
      have h2 := h.lt
      have h3 : ws.drop 7 = rest :: [] := by rw [← h1]; rfl
      exact ⟨(drop_cons (d := []) h3).1, by simp [h2], by omega⟩
  refine ⟨h7.1, ?_⟩
  unfold bad
  rw [h7.1, h7.2.1, hok 0 (by omega) (by omega), hok 1 (by omega) (by omega), hok 2 (by omega) (by omega), hok 3 (by omega) (by omega), hok 5 (by omega) (by omega), hok 6 (by omega) (by omega)]
  simp [h7.2.2]
end Mg
end Go.Proofs.YtbacgfokgphgeaaDoor
