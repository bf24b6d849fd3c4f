/- Searches in memory; worlds that are alike but for one block. -/
import Derived.Test.YtkahplbjbidemaaGreatDoorQyP
import Derived.Test.YtkahplbjbidemaaGreatDoorFaA
namespace Go.Proofs.YtkahplbjbidemaaGreatDoor
open Go.RowKit
set_option maxRecDepth 100000

namespace Qr
/-- But for block g all that was there is as it was. -/
structure Fr (g : Nat) (w w' : World) : Prop where
  os : w'.os = w.os
  tape : w'.tape = w.tape
  output : w'.output = w.output
  size : w.heap.size ≤ w'.heap.size
  block : ∀ k, k ≠ g → k < w.heap.size → w'.heap[k]? = w.heap[k]?
theorem Fr.refl (g : Nat) (w : World) : Fr g w w := ⟨rfl, rfl, rfl, Nat.le_refl _, fun _ _ _ => rfl⟩
theorem Fr.trans {g : Nat} {a b c : World} (h : Fr g a b) (k : Fr g b c) : Fr g a c :=
  ⟨k.os.trans h.os, k.tape.trans h.tape, k.output.trans h.output, Nat.le_trans h.size k.size, fun i hi hl => (k.block i hi (Nat.lt_of_lt_of_le hl h.size)).trans (h.block i hi hl)⟩
theorem Fr.of_below {g : Nat} {w w' : World} (h : Below w.heap.size w w') : Fr g w w' := ⟨h.os, h.tape, h.output, h.size, fun k _ hl => h.block k hl⟩
theorem Fr.drew {g : Nat} {a w : World} (h : Fr g a w) : Fr g a w.drew := ⟨h.os, h.tape, h.output, h.size, h.block⟩
theorem Fr.alloc {g : Nat} {a w : World} (h : Fr g a w) (o : Obj) : Fr g a (w.alloc o) := h.trans (.of_below ((Below.refl _ _).alloc (Nat.le_refl _) _))
theorem Fr.set {g : Nat} {a w : World} (h : Fr g a w) {p : Addr} (hp : p.block = g) (u : Value) : Fr g a (w.setCell p u) :=
  h.trans ⟨rfl, rfl, rfl, by simp [World.setCell], fun k hk _ => Below.heap_setCell _ _ _ _ (by rw [hp]; exact hk)⟩
theorem Fr.setNew {g : Nat} {a w : World} (h : Fr g a w) {p : Addr} (hp : a.heap.size ≤ p.block) (u : Value) : Fr g a (w.setCell p u) :=
  ⟨h.os, h.tape, h.output, Nat.le_trans h.size (by simp [World.setCell]), fun k hk hl => (Below.heap_setCell _ _ _ _ (by omega)).trans (h.block k hk hl)⟩
theorem Fr.grown {g : Nat} {a w w' : World} {row : Option Nat} (h : Fr g a w) (hg : w.grownBy w' row) (hr : ∀ k, row = some k → a.heap.size ≤ k) : Fr g a w' :=
  ⟨hg.os.trans h.os, hg.tape.trans h.tape, hg.output.trans h.output, Nat.le_trans h.size hg.size, fun k hk hl => (hg.block k (Nat.lt_of_lt_of_le hl h.size) (fun e => by have := hr k e.symm; omega)).trans (h.block k hk hl)⟩
theorem Fr.below {g B : Nat} {w w' : World} (h : Fr g w w') (hB : B ≤ g) (hg : g < w.heap.size) : Below B w w' :=
  ⟨h.os, h.tape, h.output, h.size, fun k hk => h.block k (by omega) (by omega)⟩
theorem Fr.cell {g : Nat} {w w' : World} (h : Fr g w w') {b o : Nat} {v : Value} (hb : b ≠ g) (hc : w.cell? ⟨b, o, none⟩ = some v) : w'.cell? ⟨b, o, none⟩ = some v :=
  (World.cell?_of_block (w := w) (h.block b hb (Rc.cell_lt hc))).trans hc
theorem Fr.own {g B : Nat} {w w' : World} {e size n : Nat} {v : Value} {xs : List Value} (h : Fr g w w') (ho : w.ownsRow B e size v n xs) (hB : g < B) : w'.ownsRow B e size v n xs := by
  refine ⟨ho.1, ?_⟩
  rcases ho.2 with h1 | ⟨k, cap, cur, h1, h2, h3, h4⟩
  · exact .inl h1
  · exact .inr ⟨k, cap, cur, h1, h2, (h.block k (by omega) (Array.getElem?_eq_some_iff.1 h3).1).trans h3, h4⟩
theorem Fr.fa {α : Type} {enc : α → List Value} {size : Nat} {g : Nat} {w w' : World} {a : Option Addr} {c : Nat} {xs : List α} (h : Fr g w w') (hf : Br.FA enc size w a c xs) (hb : xs ≠ [] → ∀ ad, a = some ad → g + 1 ≤ ad.block) : Br.FA enc size w' a c xs := by
  obtain ⟨b, o, h1, h2⟩ := hf.at_
  by_cases hne : xs = []
  · subst hne
    exact ⟨hf.cap, hf.max, b, o, fun h9 => absurd rfl h9, fun j i x u hx => by simp at hx⟩
  · have h3 := hb hne _ (h1 hne).1
    refine ⟨hf.cap, hf.max, b, o, fun hn => ⟨(h1 hn).1, Nat.lt_of_lt_of_le (h1 hn).2 h.size⟩, fun j i x u hx hu => h.cell (show b ≠ g by simp only at h3; omega) (h2 j i x u hx hu)⟩

/-- The list of strings lies in blocks from B on. -/
def LowS (B : Nat) (v : Value) (xs : List ByteArray) : Prop := xs ≠ [] → ∀ ad l c, v = .slice (some ad) l c → B ≤ ad.block
theorem Fr.sl {g : Nat} {w w' : World} {v : Value} {xs : List ByteArray} (h : Fr g w w') (hs : SL w v xs) (hb : LowS (g + 1) v xs) : SL w' v xs := by
  rcases hs with h1 | ⟨b, o, c, h1, h2, h3, h4, h5⟩
  · exact .inl h1
  · by_cases hne : xs = []
    · exact .inl ⟨hne, _, _, by rw [h1, hne]; rfl⟩
    · have := hb hne _ _ _ h1
      exact .inr ⟨b, o, c, h1, h2, h3, Nat.lt_of_lt_of_le h4 h.size, fun j x hx => h.cell (show b ≠ g by simp only at this; omega) (h5 j x hx)⟩

/-- The cells of a search, all that it refers to in blocks from B on. -/
inductive QC (B : Nat) (w : World) : Qy → List Value → Prop
  | mk {op f a b : Int} {ws : List ByteArray} {ks : List Qy} {sa : Option Addr} {sc : Nat} {ka : Option Addr} {kc : Nat} {css : List (List Value)}
      (hw : SL w (.slice sa ws.length sc) ws) (hwb : LowS B (.slice sa ws.length sc) ws) (hl : css.length = ks.length)
      (hk : ∀ (j : Nat) k cs, ks[j]? = some k → css[j]? = some cs → QC B w k cs)
      (hf : Br.FA id 6 w ka kc css) (hfb : css ≠ [] → ∀ ad, ka = some ad → B ≤ ad.block) :
      QC B w (.mk op f ws a b ks) [.int .i64 op, .int .i64 f, .slice sa ws.length sc, .int .i64 a, .int .i64 b, .slice ka ks.length kc]
theorem QC.len {B : Nat} {w : World} {q : Qy} {cs : List Value} (h : QC B w q cs) : cs.length = 6 := by cases h; rfl
theorem QC.one {B : Nat} {w : World} {q : Qy} {cs : List Value} (h : QC B w q cs) : ∀ u ∈ cs, u.oneCell' = true := by
  cases h with
  | mk _ _ _ _ _ _ => simp [Value.oneCell']
theorem QC.fr {g B : Nat} {w w' : World} {q : Qy} {cs : List Value} (h : QC B w q cs) (hF : Fr g w w') (hB : g < B) : QC B w' q cs := by
  induction h with
  | mk hw hwb hl _ hf hfb ih =>
    exact .mk (hF.sl hw fun h1 ad l c h2 => Nat.le_trans (by omega) (hwb h1 ad l c h2)) hwb hl (fun j k cs h1 h2 => ih j k cs h1 h2) (hF.fa hf fun h1 ad h2 => Nat.le_trans (by omega) (hfb h1 ad h2)) hfb
theorem QC.later {B : Nat} {w w' : World} {q : Qy} {cs : List Value} (h : QC B w q cs) (hb : Below w.heap.size w w') : QC B w' q cs := by
  induction h with
  | mk hw hwb hl _ hf hfb ih => exact .mk (hw.below hb) hwb hl (fun j k cs h1 h2 => ih j k cs h1 h2) (hf.below hb) hfb
theorem QC.mono {B B' : Nat} {w : World} {q : Qy} {cs : List Value} (h : QC B w q cs) (hB : B' ≤ B) : QC B' w q cs := by
  induction h with
  | mk hw hwb hl _ hf hfb ih => exact .mk hw (fun h1 ad l c h2 => Nat.le_trans hB (hwb h1 ad l c h2)) hl (fun j k cs h1 h2 => ih j k cs h1 h2) hf (fun h1 ad h2 => Nat.le_trans hB (hfb h1 ad h2))

/-- Searches that lie in memory at an address. -/
structure KA (B : Nat) (w : World) (a : Option Addr) (c : Nat) (ks : List Qy) : Prop where
  ex : ∃ css : List (List Value), css.length = ks.length ∧ (∀ (j : Nat) k cs, ks[j]? = some k → css[j]? = some cs → QC B w k cs) ∧ Br.FA id 6 w a c css ∧ (css ≠ [] → ∀ ad, a = some ad → B ≤ ad.block)
theorem QC.kids {B : Nat} {w : World} {q : Qy} {cs : List Value} (h : QC B w q cs) : ∃ sa sc ka kc, cs = [.int .i64 q.op, .int .i64 q.fld, .slice sa q.ws.length sc, .int .i64 q.a, .int .i64 q.b, .slice ka q.ks.length kc] ∧ SL w (.slice sa q.ws.length sc) q.ws ∧ LowS B (.slice sa q.ws.length sc) q.ws ∧ KA B w ka kc q.ks := by
  cases h with
  | mk hw hwb hl hk hf hfb => exact ⟨_, _, _, _, rfl, hw, hwb, ⟨_, hl, hk, hf, hfb⟩⟩
theorem QC.of_kids {B : Nat} {w : World} {op f a b : Int} {ws : List ByteArray} {ks : List Qy} {sa : Option Addr} {sc : Nat} {ka : Option Addr} {kc : Nat} (hw : SL w (.slice sa ws.length sc) ws) (hwb : LowS B (.slice sa ws.length sc) ws) (hk : KA B w ka kc ks) :
    QC B w (.mk op f ws a b ks) [.int .i64 op, .int .i64 f, .slice sa ws.length sc, .int .i64 a, .int .i64 b, .slice ka ks.length kc] := by
  obtain ⟨css, h1, h2, h3, h4⟩ := hk.ex
  exact .mk hw hwb h1 h2 h3 h4
theorem KA.below {B : Nat} {w w' : World} {a : Option Addr} {c : Nat} {ks : List Qy} (h : KA B w a c ks) (hb : Below w.heap.size w w') : KA B w' a c ks := by
  obtain ⟨css, h1, h2, h3, h4⟩ := h.ex
  exact ⟨css, h1, fun j k cs a b => (h2 j k cs a b).later hb, h3.below hb, h4⟩
theorem KA.fr {g B : Nat} {w w' : World} {a : Option Addr} {c : Nat} {ks : List Qy} (h : KA B w a c ks) (hF : Fr g w w') (hB : g < B) : KA B w' a c ks := by
  obtain ⟨css, h1, h2, h3, h4⟩ := h.ex
  exact ⟨css, h1, fun j k cs a b => (h2 j k cs a b).fr hF hB, hF.fa h3 (fun x ad y => Nat.le_trans (by omega) (h4 x ad y)), h4⟩
theorem KA.max {B : Nat} {w : World} {a : Option Addr} {c : Nat} {ks : List Qy} (h : KA B w a c ks) : ks.length ≤ maxLen := by
  obtain ⟨css, h1, _, h3, _⟩ := h.ex
  rw [← h1]
  exact Nat.le_trans h3.cap h3.max
/-- A kid: its cells, where they lie. -/
theorem KA.get {B : Nat} {w : World} {a : Option Addr} {c : Nat} {ks : List Qy} (h : KA B w a c ks) {k : Nat} {q : Qy} (hk : ks[k]? = some q) :
    ∃ b o sa sc ka kc, a = some ⟨b, o, none⟩ ∧ b < w.heap.size ∧ w.cell? ⟨b, o + k * 6, none⟩ = some (.int .i64 q.op) ∧ w.cell? ⟨b, o + k * 6 + 1, none⟩ = some (.int .i64 q.fld) ∧ w.cell? ⟨b, o + k * 6 + 2, none⟩ = some (.slice sa q.ws.length sc) ∧ w.cell? ⟨b, o + k * 6 + 3, none⟩ = some (.int .i64 q.a) ∧ w.cell? ⟨b, o + k * 6 + 4, none⟩ = some (.int .i64 q.b) ∧ w.cell? ⟨b, o + k * 6 + 5, none⟩ = some (.slice ka q.ks.length kc) ∧
      QC B w q [.int .i64 q.op, .int .i64 q.fld, .slice sa q.ws.length sc, .int .i64 q.a, .int .i64 q.b, .slice ka q.ks.length kc] := by
  obtain ⟨css, h1, h2, h3, _⟩ := h.ex
  have hkl : k < css.length := by rw [h1]; exact (List.getElem?_eq_some_iff.1 hk).1
  have hc : css[k]? = some css[k] := List.getElem?_eq_getElem hkl
  have hq := h2 k q _ hk hc
  obtain ⟨sa, sc, ka, kc, e, _, _, _⟩ := hq.kids
  obtain ⟨b, o, ha, hb, hat⟩ := h3.get hc
  rw [e] at hat hq
  exact ⟨b, o, sa, sc, ka, kc, ha, hb, hat 0 _ rfl, hat 1 _ rfl, hat 2 _ rfl, hat 3 _ rfl, hat 4 _ rfl, hat 5 _ rfl, hq⟩
end Qr
theorem info_qy : (Tryz.prog.info? 25).map (fun i => (i.zero, i.size, i.bytes)) = some (some (.agg #[.int .i64 0, .int .i64 0, .slice none 0 0, .int .i64 0, .int .i64 0, .slice none 0 0]), 6, 80) := by kernel_rfl
end Go.Proofs.YtkahplbjbidemaaGreatDoor
