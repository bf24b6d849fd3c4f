/- Searches that a reader of the reference's gathers, beside the block of the part that was read last. -/
import Derived.Test.YtkahplbjbidemaaGreatDoorQmI
namespace Go.Proofs.YtkahplbjbidemaaGreatDoor
open Go.RowKit
set_option maxRecDepth 100000

namespace Qr
def Hd (base P : Nat) (w : World) (own : Option Nat) (k : Qy) (t : QT) : Prop :=
  ∃ B w0, QC B w0 k (encQ t) ∧ Kp B w0 w ∧ (∀ b, own = some b → b < B ∨ w0.heap.size ≤ b) ∧ (P < B ∨ w0.heap.size ≤ P) ∧ base ≤ B
theorem Hd.set {base P : Nat} {w : World} {own : Option Nat} {k : Qy} {t : QT} (h : Hd base P w own k t) (i : Nat) (u : Value) : Hd base P (w.setCell ⟨P, i, none⟩ u) own k t := by
  obtain ⟨B, w0, a, b, c, d, e⟩ := h
  refine ⟨B, w0, a, ?_, c, d, e⟩
  rcases d with d | d
  · exact b.set d u
  · exact b.setN d u
theorem Hd.later {base P : Nat} {w w' : World} {own : Option Nat} {k : Qy} {t : QT} (h : Hd base P w own k t) (hb : Below w.heap.size w w') : Hd base P w' own k t := by
  obtain ⟨B, w0, a, b, c, d, e⟩ := h
  exact ⟨B, w0, a, b.trans (Kp.below hb), c, d, e⟩
theorem Hd.grown {base P : Nat} {w w' : World} {own own' : Option Nat} {k : Qy} {t : QT} (h : Hd base P w own k t) (hg : w.grownBy w' own) (ho : own' = own ∨ own' = some w.heap.size) : Hd base P w' own' k t := by
  obtain ⟨B, w0, a, b, c, d, e⟩ := h
  refine ⟨B, w0, a, ⟨Nat.le_trans b.size hg.size, fun i i1 i2 => ?_⟩, fun x hx => ?_, d, e⟩
  · exact (hg.block i (Nat.lt_of_lt_of_le i2 b.size) (fun e => by have := c i e.symm; omega)).trans (b.block i i1 i2)
  · rcases ho with ho | ho
    · exact c x (by rw [← ho]; exact hx)
    · rw [ho] at hx
      injection hx with hx
      have := b.size
      omega
theorem Hd.ql {base P : Nat} {w : World} {own : Option Nat} {k : Qy} {t : QT} (h : Hd base P w own k t) : QC base w k (encQ t) := by
  obtain ⟨B, w0, a, b, _, _, e⟩ := h
  exact (a.kp b).mono e
def HD (base P : Nat) (w : World) (own : Option Nat) (ks : List Qy) (T : List QT) : Prop := T.length = ks.length ∧ ∀ (j : Nat) k t, ks[j]? = some k → T[j]? = some t → Hd base P w own k t
theorem HD.nil (base P : Nat) (w : World) (own : Option Nat) : HD base P w own [] [] := ⟨rfl, fun j k t h => by simp at h⟩
theorem HD.map {base P : Nat} {w w' : World} {own own' : Option Nat} {ks : List Qy} {T : List QT} (h : HD base P w own ks T) (f : ∀ k t, Hd base P w own k t → Hd base P w' own' k t) : HD base P w' own' ks T := ⟨h.1, fun j k t h1 h2 => f k t (h.2 j k t h1 h2)⟩
theorem HD.snoc {base P : Nat} {w : World} {own : Option Nat} {ks : List Qy} {T : List QT} {q : Qy} {t : QT} (h : HD base P w own ks T) (h2 : Hd base P w own q t) : HD base P w own (ks ++ [q]) (T ++ [t]) := by
  refine ⟨by rw [List.length_append, List.length_append, h.1]; rfl, fun j k t hk ht => ?_⟩
  by_cases hj : j < ks.length
  · rw [List.getElem?_append_left hj] at hk
    rw [List.getElem?_append_left (by rw [h.1]; exact hj)] at ht
    exact h.2 j k t hk ht
  · rw [List.getElem?_append_right (by omega)] at hk
    rw [List.getElem?_append_right (by rw [h.1]; omega), h.1] at ht
    match hjj : j - ks.length, hk, ht with
    | 0, hk, ht => injection hk with hk; injection ht with ht; rw [← hk, ← ht]; exact h2
    | i + 1, hk, _ => simp at hk
theorem HD.ka {base P e : Nat} {w : World} {v : Value} {ks : List Qy} {T : List QT} (h : HD base P w v.ownBlock ks T) (ho : w.ownsRow base e 6 v T.length (T.flatMap encQ)) : ∃ a c, v = .slice a ks.length c ∧ KA base w a c ks := by
  obtain ⟨a, c, e1, hf, hb⟩ := Br.FA.of_own encQ_len ho rfl
  exact ⟨a, c, by rw [← h.1]; exact e1, KA.of_ts ⟨h.1, fun j k t h1 h2 => (h.2 j k t h1 h2).ql⟩ hf (fun _ ad had => hb ad had)⟩
/-- How far the reader still has to go. -/
def ms (P N : Nat) (w : World) : Nat := match w.cell? ⟨P, 7, none⟩ with
  | some (.bool true) => (match w.cell? ⟨P, 6, none⟩ with
    | some (.int _ n) => N + 1 - n.toNat
    | _ => 0)
  | _ => 0
theorem ms_of {P N : Nat} {w : World} {v0 v1 v2 v3 v4 v5 : Value} {n : Int} {z : Bool} {t : TypeId} (h : w.heap[P]? = some (.cells #[v0, v1, v2, v3, v4, v5, .int .i64 n, .bool z] t (0, 0))) : ms P N w = if z = true then N + 1 - n.toNat else 0 := by
  have c6 : w.cell? ⟨P, 6, none⟩ = some (.int .i64 n) := (Tx.blk h).1 6
  have c7 : w.cell? ⟨P, 7, none⟩ = some (.bool z) := (Tx.blk h).1 7
  unfold ms
  rw [c7, c6]
  cases z <;> rfl
theorem blk_put8 {P : Nat} {w : World} {o0 o1 o2 o3 o4 o5 o6 o7 : Value} {t : TypeId} (h : w.heap[P]? = some (.cells #[o0, o1, o2, o3, o4, o5, o6, o7] t (0, 0))) (v0 v1 v2 v3 v4 v5 v6 v7 : Value) :
    ((((((((w.setCell ⟨P, 0, none⟩ v0).setCell ⟨P, 1, none⟩ v1).setCell ⟨P, 2, none⟩ v2).setCell ⟨P, 3, none⟩ v3).setCell ⟨P, 4, none⟩ v4).setCell ⟨P, 5, none⟩ v5).setCell ⟨P, 6, none⟩ v6).setCell ⟨P, 7, none⟩ v7).heap[P]? = some (.cells #[v0, v1, v2, v3, v4, v5, v6, v7] t (0, 0)) := by
  have h0 := Tx.blk_set (i := 0) h v0
  have h1 := Tx.blk_set (i := 1) h0 v1
  have h2 := Tx.blk_set (i := 2) h1 v2
  have h3 := Tx.blk_set (i := 3) h2 v3
  have h4 := Tx.blk_set (i := 4) h3 v4
  have h5 := Tx.blk_set (i := 5) h4 v5
  have h6 := Tx.blk_set (i := 6) h5 v6
  have h7 := Tx.blk_set (i := 7) h6 v7
  simpa using h7
theorem Hd.put8 {base P : Nat} {w : World} {own : Option Nat} {k : Qy} {t : QT} (h : Hd base P w own k t) (v0 v1 v2 v3 v4 v5 v6 v7 : Value) : Hd base P ((((((((w.setCell ⟨P, 0, none⟩ v0).setCell ⟨P, 1, none⟩ v1).setCell ⟨P, 2, none⟩ v2).setCell ⟨P, 3, none⟩ v3).setCell ⟨P, 4, none⟩ v4).setCell ⟨P, 5, none⟩ v5).setCell ⟨P, 6, none⟩ v6).setCell ⟨P, 7, none⟩ v7) own k t :=
  (((((((h.set 0 v0).set 1 v1).set 2 v2).set 3 v3).set 4 v4).set 5 v5).set 6 v6).set 7 v7
theorem own_put8 {P base e n : Nat} {w : World} {v : Value} {xs : List Value} (h : w.ownsRow base e 6 v n xs) (hP : v.ownBlock ≠ some P) (v0 v1 v2 v3 v4 v5 v6 v7 : Value) : ((((((((w.setCell ⟨P, 0, none⟩ v0).setCell ⟨P, 1, none⟩ v1).setCell ⟨P, 2, none⟩ v2).setCell ⟨P, 3, none⟩ v3).setCell ⟨P, 4, none⟩ v4).setCell ⟨P, 5, none⟩ v5).setCell ⟨P, 6, none⟩ v6).setCell ⟨P, 7, none⟩ v7).ownsRow base e 6 v n xs :=
  ownsRow_setCell_other (ownsRow_setCell_other (ownsRow_setCell_other (ownsRow_setCell_other (ownsRow_setCell_other (ownsRow_setCell_other (ownsRow_setCell_other (ownsRow_setCell_other h hP _) hP _) hP _) hP _) hP _) hP _) hP _) hP _
/-- What was answered: it was a search, or it was not. -/
theorem RRes.two {toks : List Tok} {x : PR} {w w' : World} {o f a b n : Int} {sa ka : Option Addr} {sn sc kn kc : Nat} {z : Bool} (h : RRes toks x w (.returned (.agg #[.int .i64 o, .int .i64 f, .slice sa sn sc, .int .i64 a, .int .i64 b, .slice ka kn kc, .int .i64 n, .bool z])) w') :
    (z = false ∧ x = none) ∨ (z = true ∧ ∃ q r, x = some (q, r) ∧ n = ((toks.length - r.length : Nat) : Int) ∧ QC w.heap.size w' q (encQ ⟨o, f, sa, sn, sc, a, b, ka, kn, kc⟩)) := by
  cases x with
  | none =>
    obtain ⟨⟨o2, f2, sa2, sn2, sc2, a2, b2, ka2, kn2, kc2⟩, n2, e, _⟩ := h
    simp only [Ending.returned.injEq, Value.agg.injEq, Array.mk.injEq, List.cons.injEq, Value.bool.injEq, and_true] at e
    exact .inl ⟨e.2.2.2.2.2.2.2, rfl⟩
  | some p =>
    obtain ⟨q, r⟩ := p
    obtain ⟨⟨o2, f2, sa2, sn2, sc2, a2, b2, ka2, kn2, kc2⟩, e, h2, _⟩ := h
    simp only [Ending.returned.injEq, Value.agg.injEq, Array.mk.injEq, List.cons.injEq, Value.bool.injEq, Value.int.injEq, Value.slice.injEq, true_and, and_true] at e
    obtain ⟨rfl, rfl, ⟨rfl, rfl, rfl⟩, rfl, rfl, ⟨rfl, rfl, rfl⟩, rfl, rfl⟩ := e
    exact .inr ⟨rfl, q, r, rfl, rfl, h2⟩
def next (x : PR) (f : Qy → List Tok → PR) : PR := match x with
  | none => none
  | some (q, r) => f q r
/-- The part that was read last, in the reader's round: X is what will be answered; F reads on with the parts so far. -/
def GS (toks r : List Tok) (base P : Nat) (w : World) (own : Option Nat) (X : PR) (F : Nat → List Qy → List Tok → PR) (slack m : Nat) (acc : List Qy) (t : QT) (n : Int) (z : Bool) : Prop :=
  (z = false ∧ X = none) ∨ (z = true ∧ ∃ q r1, r1 <:+ toks ∧ n = ((toks.length - r1.length : Nat) : Int) ∧ 8 * r1.length + slack ≤ m ∧ F m (acc ++ [q]) r1 = X ∧ Hd base P w own q t ∧ nodesL acc + acc.length + nodes q + 1 + 2 * r1.length ≤ 2 * r.length)
theorem GS.put8 {toks r : List Tok} {base P : Nat} {w : World} {own : Option Nat} {X : PR} {F : Nat → List Qy → List Tok → PR} {slack m : Nat} {acc : List Qy} {t : QT} {n : Int} {z : Bool} (h : GS toks r base P w own X F slack m acc t n z) (v0 v1 v2 v3 v4 v5 v6 v7 : Value) : GS toks r base P ((((((((w.setCell ⟨P, 0, none⟩ v0).setCell ⟨P, 1, none⟩ v1).setCell ⟨P, 2, none⟩ v2).setCell ⟨P, 3, none⟩ v3).setCell ⟨P, 4, none⟩ v4).setCell ⟨P, 5, none⟩ v5).setCell ⟨P, 6, none⟩ v6).setCell ⟨P, 7, none⟩ v7) own X F slack m acc t n z := by
  rcases h with h9 | ⟨h9, q2, r2, a1, a2, a3, a4, a5, a6⟩
  · exact .inl h9
  · exact .inr ⟨h9, q2, r2, a1, a2, a3, a4, a5.put8 v0 v1 v2 v3 v4 v5 v6 v7, a6⟩
end Qr
end Go.Proofs.YtkahplbjbidemaaGreatDoor
