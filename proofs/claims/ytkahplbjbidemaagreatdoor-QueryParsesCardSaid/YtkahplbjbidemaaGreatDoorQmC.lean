/- The reference's tokens at an address; what a reader of the reference's answers. -/
import Derived.Test.YtkahplbjbidemaaGreatDoorQmB
namespace Go.Proofs.YtkahplbjbidemaaGreatDoor
open Go.RowKit
set_option maxRecDepth 100000

namespace Qr
/-- The tokens lie there, with an end behind them. -/
structure RT (w : World) (toks : List Tok) (b o c : Nat) : Prop where
  cap : toks.length + 1 ≤ c
  max : c ≤ maxLen
  len : toks.length ≤ 2000
  lt : b < w.heap.size
  lg : ∀ t ∈ toks, Lg t
  ok : TokOk toks
  at_ : ∀ r, r <:+ toks → w.cell? ⟨b, o + (toks.length - r.length) * 3, none⟩ = some (.int .i64 (kR (lk r).k)) ∧ w.cell? ⟨b, o + (toks.length - r.length) * 3 + 1, none⟩ = some (.string ⟨(tx (lk r)).toArray⟩) ∧ w.cell? ⟨b, o + (toks.length - r.length) * 3 + 2, none⟩ = some (.bool (lk r).g)
theorem RT.below {w w' : World} {toks : List Tok} {b o c : Nat} (h : RT w toks b o c) (hb : Below w.heap.size w w') : RT w' toks b o c :=
  ⟨h.cap, h.max, h.len, Nat.lt_of_lt_of_le h.lt hb.size, h.lg, h.ok, fun r hr => ⟨cell_later hb (h.at_ r hr).1, cell_later hb (h.at_ r hr).2.1, cell_later hb (h.at_ r hr).2.2⟩⟩
theorem RT.leg {w : World} {toks : List Tok} {b o c : Nat} (h : RT w toks b o c) {r : List Tok} (hr : r <:+ toks) : Lg (lk r) := lg_lk fun t ht => h.lg t (hr.subset ht)
theorem tail_suf {r toks : List Tok} (h : r <:+ toks) : r.tail <:+ toks := (List.tail_suffix r).trans h
theorem tail_at {r toks : List Tok} (h : r <:+ toks) (hk : (lk r).k ≠ 0) : toks.length - r.tail.length = toks.length - r.length + 1 := by
  have h1 := (tail_eats hk).2
  have h2 := h.length_le
  rw [List.length_tail] at h1 ⊢
  omega
/-- What a reader of the reference's answers. -/
def RRes (toks : List Tok) (x : PR) (w : World) (e : Ending) (w' : World) : Prop :=
  match x with
  | none => ∃ (t : QT) (n : Int), e = .returned (.agg #[.int .i64 t.op, .int .i64 t.fl, .slice t.sa t.sn t.sc, .int .i64 t.a, .int .i64 t.b, .slice t.ka t.kn t.kc, .int .i64 n, .bool false]) ∧ Below w.heap.size w w'
  | some (q, r) => ∃ t : QT, e = .returned (.agg #[.int .i64 t.op, .int .i64 t.fl, .slice t.sa t.sn t.sc, .int .i64 t.a, .int .i64 t.b, .slice t.ka t.kn t.kc, .int .i64 ((toks.length - r.length : Nat) : Int), .bool true]) ∧ QC w.heap.size w' q (encQ t) ∧ Below w.heap.size w w'
theorem RRes.bad {toks : List Tok} {w w' : World} {e : Ending} (h : RRes toks none w e w') : ∃ o f a b sa sn sc ka kn kc n, e = .returned (.agg #[.int .i64 o, .int .i64 f, .slice sa sn sc, .int .i64 a, .int .i64 b, .slice ka kn kc, .int .i64 n, .bool false]) ∧ Below w.heap.size w w' := by
  obtain ⟨⟨o, f, sa, sn, sc, a, b, ka, kn, kc⟩, n, h1, h2⟩ := h
  exact ⟨o, f, a, b, sa, sn, sc, ka, kn, kc, n, h1, h2⟩
theorem RRes.get {toks : List Tok} {q : Qy} {r : List Tok} {w w' : World} {e : Ending} (h : RRes toks (some (q, r)) w e w') : ∃ o f a b sa sn sc ka kn kc, e = .returned (.agg #[.int .i64 o, .int .i64 f, .slice sa sn sc, .int .i64 a, .int .i64 b, .slice ka kn kc, .int .i64 ((toks.length - r.length : Nat) : Int), .bool true]) ∧ QC w.heap.size w' q [.int .i64 o, .int .i64 f, .slice sa sn sc, .int .i64 a, .int .i64 b, .slice ka kn kc] ∧ Below w.heap.size w w' := by
  obtain ⟨⟨o, f, sa, sn, sc, a, b, ka, kn, kc⟩, h1, h2, h3⟩ := h
  exact ⟨o, f, a, b, sa, sn, sc, ka, kn, kc, h1, h2, h3⟩
theorem RRes.mk_none {toks : List Tok} {w w' : World} {o f a b n : Int} {sa ka : Option Addr} {sn sc kn kc : Nat} (h : Below w.heap.size w w') : RRes toks none w (.returned (.agg #[.int .i64 o, .int .i64 f, .slice sa sn sc, .int .i64 a, .int .i64 b, .slice ka kn kc, .int .i64 n, .bool false])) w' :=
  ⟨⟨o, f, sa, sn, sc, a, b, ka, kn, kc⟩, n, rfl, h⟩
theorem RRes.mk_some {toks r : List Tok} {q : Qy} {w w' : World} {o f a b n : Int} {sa ka : Option Addr} {sn sc kn kc : Nat} (hn : n = ((toks.length - r.length : Nat) : Int)) (hq : QC w.heap.size w' q [.int .i64 o, .int .i64 f, .slice sa sn sc, .int .i64 a, .int .i64 b, .slice ka kn kc]) (h : Below w.heap.size w w') : RRes toks (some (q, r)) w (.returned (.agg #[.int .i64 o, .int .i64 f, .slice sa sn sc, .int .i64 a, .int .i64 b, .slice ka kn kc, .int .i64 n, .bool true])) w' :=
  ⟨⟨o, f, sa, sn, sc, a, b, ka, kn, kc⟩, by rw [hn], hq, h⟩
abbrev zeroP : Array Value := #[Value.int .i64 0, .int .i64 0, .slice none 0 0, .int .i64 0, .int .i64 0, .slice none 0 0, .int .i64 0, .bool false]
theorem put8 {B g : Nat} {a w : World} (h : Below B a w) (hg : B ≤ g) (v0 v1 v2 v3 v4 v5 v6 v7 : Value) : Below B a ((((((((w.setCell ⟨g, 0, none⟩ v0).setCell ⟨g, 1, none⟩ v1).setCell ⟨g, 2, none⟩ v2).setCell ⟨g, 3, none⟩ v3).setCell ⟨g, 4, none⟩ v4).setCell ⟨g, 5, none⟩ v5).setCell ⟨g, 6, none⟩ v6).setCell ⟨g, 7, none⟩ v7) :=
  (((((((h.setCell hg _).setCell hg _).setCell hg _).setCell hg _).setCell hg _).setCell hg _).setCell hg _).setCell hg _
theorem Kp.put8 {M g : Nat} {a w : World} (h : Kp M a w) (hg : g < M) (v0 v1 v2 v3 v4 v5 v6 v7 : Value) : Kp M a ((((((((w.setCell ⟨g, 0, none⟩ v0).setCell ⟨g, 1, none⟩ v1).setCell ⟨g, 2, none⟩ v2).setCell ⟨g, 3, none⟩ v3).setCell ⟨g, 4, none⟩ v4).setCell ⟨g, 5, none⟩ v5).setCell ⟨g, 6, none⟩ v6).setCell ⟨g, 7, none⟩ v7) :=
  (((((((h.set hg _).set hg _).set hg _).set hg _).set hg _).set hg _).set hg _).set hg _
theorem Kp.setN {M : Nat} {a w : World} (h : Kp M a w) {p : Addr} (hp : a.heap.size ≤ p.block) (u : Value) : Kp M a (w.setCell p u) :=
  ⟨by simpa [World.setCell] using h.size, fun k h1 h2 => (Below.heap_setCell _ _ _ _ (by omega)).trans (h.block k h1 h2)⟩
theorem own_words2 {w : World} {B : Nat} {v : Value} {l : List UInt8} (h : w.ownsRow B 9 1 v (Tx.words l).length ((Tx.words l).map Tx.sv)) :
    ∃ a c, v = .slice a (Qr.wordsB l).length c ∧ SL w (.slice a (Qr.wordsB l).length c) (Qr.wordsB l) ∧ LowS B (.slice a (Qr.wordsB l).length c) (Qr.wordsB l) := by
  obtain ⟨a, c, rfl, hA⟩ := Qr.own_words h
  refine ⟨a, c, rfl, hA.sl, fun _ ad l2 c2 e => ?_⟩
  injection e with e _ _
  subst e
  rcases h.2 with ⟨h7, _⟩ | ⟨g7, _, _, h7, h8, _⟩
  · injection h7 with h7 _ _
    cases h7
  · injection h7 with h7 _ _
    injection h7 with h7
    subst h7
    exact h8
end Qr
end Go.Proofs.YtkahplbjbidemaaGreatDoor
