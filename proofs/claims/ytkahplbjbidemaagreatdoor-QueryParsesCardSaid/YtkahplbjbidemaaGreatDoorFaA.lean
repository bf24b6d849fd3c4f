/- Memory: flat lists of structs that the call owns, or that lie at an address. -/
import Derived.Test.YtkahplbjbidemaaGreatDoorMm
namespace Go.Proofs.YtkahplbjbidemaaGreatDoor
open Go.RowKit
set_option maxRecDepth 100000

namespace Br
/-- The slice holds these structs, cell for cell. -/
structure FA {α : Type} (enc : α → List Value) (size : Nat) (w : World) (a : Option Addr) (c : Nat) (xs : List α) : Prop where
  cap : xs.length ≤ c
  max : c ≤ maxLen
  at_ : ∃ b o, (xs ≠ [] → a = some ⟨b, o, none⟩ ∧ b < w.heap.size) ∧ ∀ (j i : Nat) (x : α) (u : Value), xs[j]? = some x → (enc x)[i]? = some u → w.cell? ⟨b, o + j * size + i, none⟩ = some u
variable {α : Type} {enc : α → List Value} {size : Nat}
theorem FA.below {w w' : World} {a : Option Addr} {c : Nat} {xs : List α} (h : FA enc size w a c xs) (hb : Below w.heap.size w w') : FA enc size w' a c xs := by
  obtain ⟨b, o, h1, h2⟩ := h.at_
  exact ⟨h.cap, h.max, b, o, fun hn => ⟨(h1 hn).1, Nat.lt_of_lt_of_le (h1 hn).2 hb.size⟩, fun j i x u hx hu => cell_later hb (h2 j i x u hx hu)⟩
theorem FA.get {w : World} {a : Option Addr} {c : Nat} {xs : List α} (h : FA enc size w a c xs) {k : Nat} {x : α} (hk : xs[k]? = some x) :
    ∃ b o, a = some ⟨b, o, none⟩ ∧ b < w.heap.size ∧ ∀ i u, (enc x)[i]? = some u → w.cell? ⟨b, o + k * size + i, none⟩ = some u := by
  obtain ⟨b, o, h1, h2⟩ := h.at_
  have hne : xs ≠ [] := by intro h0; subst h0; simp at hk
  exact ⟨b, o, (h1 hne).1, (h1 hne).2, fun i u hu => h2 k i x u hk hu⟩
theorem FA.none {w : World} {a : Option Addr} {c : Nat} {xs : List α} (h : FA enc size w a c xs) : a = none → xs.length = 0 := by
  intro ha
  obtain ⟨b, o, h1, _⟩ := h.at_
  cases xs with
  | nil => rfl
  | cons x r => have := (h1 (by simp)).1; rw [ha] at this; cases this
theorem FA.cells (hs : ∀ x, (enc x).length = size) (h0 : 0 < size) {w : World} {a : Option Addr} {c : Nat} {xs : List α} (h : FA enc size w a c xs) : ∀ ad, a = some ad → ∀ j u, (xs.flatMap enc)[j]? = some u → w.cell? (ad.add j) = some u := by
  intro ad ha j u hj
  have hl : j < xs.length * size := by
    have := (List.getElem?_eq_some_iff.1 hj).1
    rw [flat_len enc size hs] at this
    exact this
  have hk : j / size < xs.length := (Nat.div_lt_iff_lt_mul h0).2 hl
  obtain ⟨x, hx⟩ : ∃ x, xs[j / size]? = some x := ⟨_, List.getElem?_eq_getElem hk⟩
  have hi := Nat.mod_lt j h0
  have e : j / size * size + j % size = j := by rw [Nat.mul_comm]; exact Nat.div_add_mod j size
  have hf := flat_at enc size hs xs (j / size) (j % size) x hx hi
  rw [e, hj] at hf
  obtain ⟨b, o, hb, _, hc⟩ := h.get hx
  rw [hb] at ha
  injection ha with ha
  subst ha
  have := hc (j % size) u hf.symm
  rw [Nat.add_assoc, e] at this
  rw [Cs.add_at]
  exact this
theorem FA.of_own (hs : ∀ x, (enc x).length = size) {w : World} {B e n : Nat} {v : Value} {xs : List α} (h : w.ownsRow B e size v n (xs.flatMap enc)) (hn : n = xs.length) : ∃ a c, v = .slice a xs.length c ∧ FA enc size w a c xs ∧ (∀ g, a = some g → B ≤ g.block) := by
  obtain ⟨a, c, rfl, hc, hm, hx⟩ := own_any hs h hn
  have hB : ∀ g, a = some g → B ≤ g.block := by
    intro g hg
    subst hg
    rcases h.2 with ⟨h7, _⟩ | ⟨g7, _, _, h7, h8, _⟩
    · cases h7
    · cases h7; exact h8
  refine ⟨a, c, rfl, ⟨hc, hm, ?_⟩, hB⟩
  rcases hx with rfl | ⟨g, rfl, _, hg, hat⟩
  · exact ⟨0, 0, fun h9 => absurd rfl h9, fun j i x u hj => by simp at hj⟩
  · refine ⟨g, 0, fun _ => ⟨rfl, hg⟩, fun j i x u hj hu => ?_⟩
    rw [Nat.zero_add]
    exact hat j i x u hj (by rw [← hs x]; exact (List.getElem?_eq_some_iff.1 hu).1) hu
/-- Things chosen for the elements of a list. -/
theorem choose_list {α β : Type} : ∀ (l : List α) (P : Nat → α × β → Prop), (∀ j x, l[j]? = some x → ∃ y, P j (x, y)) → ∃ T : List (α × β), T.map (·.1) = l ∧ ∀ j t, T[j]? = some t → P j t
  | [], _, _ => ⟨[], rfl, fun j t h => by simp at h⟩
  | x :: l, P, h => by
    obtain ⟨y, hy⟩ := h 0 x rfl
    obtain ⟨T, h1, h2⟩ := choose_list l (fun j => P (j + 1)) (fun j z hz => h (j + 1) z (by simpa using hz))
    refine ⟨(x, y) :: T, by simp [h1], fun j t ht => ?_⟩
    cases j with
    | zero => simp at ht; subst ht; exact hy
    | succ j => exact h2 j t (by simpa using ht)
theorem flat_one (h : ∀ x, ∀ u ∈ enc x, u.oneCell' = true) (xs : List α) : ∀ u ∈ xs.flatMap enc, u.oneCell' = true := fun u hu => by
  obtain ⟨x, _, h2⟩ := List.mem_flatMap.1 hu
  exact h x u h2
end Br
end Go.Proofs.YtkahplbjbidemaaGreatDoor
