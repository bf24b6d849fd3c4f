/- Texts of this seat's, what the claim needs of them. -/
import Derived.Test.YtlakomilichhnaaGreatDoorZOl
import Derived.Test.YtlakomilichhnaaGreatDoorZOd
import Derived.Test.YtlakomilichhnaaGreatDoorZOb
import Derived.Test.YtlakomilichhnaaGreatDoorZOa
namespace Go.Proofs.YtlakomilichhnaaGreatDoor
open Go.RowKit
set_option maxRecDepth 100000
namespace Br
structure FA {α : Type} (enc : α → List Value) (size : Nat) (w : World) (a : Option Addr) (c : Nat) (xs : List α) : Prop where
 cap : xs.length ≤ c
 max : c ≤ maxLen
 at_ : ∃ b o, (xs ≠ [] → a = some ⟨b, o, none⟩ ∧ b < w.heap.size) ∧ ∀ (j i : Nat) (x : α) (u : Value), xs[j]? = some x → (enc x)[i]? = some u → w.cell? ⟨b, o + j * size + i, none⟩ = some u
variable {α : Type} {enc : α → List Value} {size : Nat}
theorem FA.below {w w' : World} {a : Option Addr} {c : Nat} {xs : List α} (h : FA enc size w a c xs) (hb : Below w.heap.size w w') : FA enc size w' a c xs := by
 obtain ⟨b, o, h1, h2⟩ := h.at_
 exact ⟨h.cap, h.max, b, o, fun hn => ⟨(h1 hn).1, Nat.lt_of_lt_of_le (h1 hn).2 hb.size⟩, fun j i x u hx hu => cell_later hb (h2 j i x u hx hu)⟩
theorem FA.get {w : World} {a : Option Addr} {c : Nat} {xs : List α} (h : FA enc size w a c xs) {k : Nat} {x : α} (hk : xs[k]? = some x) :
  ∃ b o, a = some ⟨b, o, none⟩ ∧ b < w.heap.size ∧ ∀ i u, (enc x)[i]? = some u → w.cell? ⟨b, o + k * size + i, none⟩ = some u := by
 obtain ⟨b, o, h1, h2⟩ := h.at_
 have hne : xs ≠ [] := by intro h0; subst h0; simp at hk
 exact ⟨b, o, (h1 hne).1, (h1 hne).2, fun i u hu => h2 k i x u hk hu⟩
theorem FA.none {w : World} {a : Option Addr} {c : Nat} {xs : List α} (h : FA enc size w a c xs) : a = none → xs.length = 0 := by
 intro ha
 obtain ⟨b, o, h1, _⟩ := h.at_
 cases xs with
 | nil => rfl
 | cons x r => have := (h1 (by simp)).1; rw [ha] at this; cases this
theorem FA.cells (hs : ∀ x, (enc x).length = size) (h0 : 0 < size) {w : World} {a : Option Addr} {c : Nat} {xs : List α} (h : FA enc size w a c xs) : ∀ ad, a = some ad → ∀ j u, (xs.flatMap enc)[j]? = some u → w.cell? (ad.add j) = some u := by
 intro ad ha j u hj
 have hl : j < xs.length * size := by
  have := (List.getElem?_eq_some_iff.1 hj).1
  rw [flat_len enc size hs] at this
  exact this
 have hk : j / size < xs.length := (Nat.div_lt_iff_lt_mul h0).2 hl
 obtain ⟨x, hx⟩ : ∃ x, xs[j / size]? = some x := ⟨_, List.getElem?_eq_getElem hk⟩
 have hi := Nat.mod_lt j h0
 have e : j / size * size + j % size = j := by rw [Nat.mul_comm]; exact Nat.div_add_mod j size
 have hf := flat_at enc size hs xs (j / size) (j % size) x hx hi
 rw [e, hj] at hf
 obtain ⟨b, o, hb, _, hc⟩ := h.get hx
 rw [hb] at ha
 injection ha with ha
 subst ha
 have := hc (j % size) u hf.symm
 rw [Nat.add_assoc, e] at this
 rw [Cs.add_at]
 exact this
theorem FA.of_own (hs : ∀ x, (enc x).length = size) {w : World} {B e n : Nat} {v : Value} {xs : List α} (h : w.ownsRow B e size v n (xs.flatMap enc)) (hn : n = xs.length) : ∃ a c, v = .slice a xs.length c ∧ FA enc size w a c xs ∧ (∀ g, a = some g → B ≤ g.block) := by
 obtain ⟨a, c, rfl, hc, hm, hx⟩ := own_any hs h hn
 have hB : ∀ g, a = some g → B ≤ g.block := by
  intro g hg
  subst hg
  rcases h.2 with ⟨h7, _⟩ | ⟨g7, _, _, h7, h8, _⟩
  ·cases h7
  ·cases h7; exact h8
 refine ⟨a, c, rfl, ⟨hc, hm, ?_⟩, hB⟩
 rcases hx with rfl | ⟨g, rfl, _, hg, hat⟩
 ·exact ⟨0, 0, fun h9 => absurd rfl h9, fun j i x u hj => by simp at hj⟩
 ·refine ⟨g, 0, fun _ => ⟨rfl, hg⟩, fun j i x u hj hu => ?_⟩
  rw [Nat.zero_add]
  exact hat j i x u hj (by rw [← hs x]; exact (List.getElem?_eq_some_iff.1 hu).1) hu
theorem choose_list {α β : Type} : ∀ (l : List α) (P : Nat → α × β → Prop), (∀ j x, l[j]? = some x → ∃ y, P j (x, y)) → ∃ T : List (α × β), T.map (·.1) = l ∧ ∀ j t, T[j]? = some t → P j t
 | [], _, _ => ⟨[], rfl, fun j t h => by simp at h⟩
 | x :: l, P, h => by
  obtain ⟨y, hy⟩ := h 0 x rfl
  obtain ⟨T, h1, h2⟩ := choose_list l (fun j => P (j + 1)) (fun j z hz => h (j + 1) z (by simpa using hz))
  refine ⟨(x, y) :: T, by simp [h1], fun j t ht => ?_⟩
  cases j with
  | zero => simp at ht; subst ht; exact hy
  | succ j => exact h2 j t (by simpa using ht)
theorem flat_one (h : ∀ x, ∀ u ∈ enc x, u.oneCell' = true) (xs : List α) : ∀ u ∈ xs.flatMap enc, u.oneCell' = true := fun u hu => by
 obtain ⟨x, _, h2⟩ := List.mem_flatMap.1 hu
 exact h x u h2
end Br
namespace Rc
open Go.Lib
abbrev encS (x : UInt8 × ByteArray) : List Value := [.int .u8 x.1.toNat, .string x.2]
theorem encS_len (x : UInt8 × ByteArray) : (encS x).length = 2 := rfl
theorem SubA.of_fa {w : World} {a : Option Addr} {c : Nat} {xs : List (UInt8 × ByteArray)} (h : Br.FA encS 2 w a c xs) : SubA w a c xs := by
 obtain ⟨b, o, h1, h2⟩ := h.at_
 exact ⟨h.cap, h.max, b, o, h1, fun j x hx => ⟨h2 j 0 x _ hx rfl, h2 j 1 x _ hx rfl⟩⟩
abbrev FT := Fl × Option Addr × Nat
abbrev encF (t : FT) : List Value := [.string t.1.tag, .string t.1.ind, .slice t.2.1 t.1.subs.length t.2.2, .int .i64 t.1.auth]
theorem encF_len (t : FT) : (encF t).length = 4 := rfl
theorem FldA.of_fa {w : World} {a : Option Addr} {c : Nat} {T : List FT} (h : Br.FA encF 4 w a c T) (hs : ∀ t ∈ T, SubA w t.2.1 t.2.2 t.1.subs) : FldA w a c (T.map (·.1)) := by
 obtain ⟨b, o, h1, h2⟩ := h.at_
 refine ⟨by rw [List.length_map]; exact h.cap, h.max, b, o, fun h9 => h1 (fun h8 => h9 (by rw [h8]; rfl)), fun j f hj => ?_⟩
 rw [List.getElem?_map] at hj
 obtain ⟨x, hx, rfl⟩ := Option.map_eq_some_iff.1 hj
 exact ⟨h2 j 0 x _ hx rfl, h2 j 1 x _ hx rfl, ⟨x.2.1, x.2.2, h2 j 2 x _ hx rfl, hs x (List.mem_of_getElem? hx)⟩, h2 j 3 x _ hx rfl⟩
abbrev RT := Rd × Option Addr × Nat
abbrev encR (t : RT) : List Value := [.int .i64 t.1.id, .int .i64 t.1.ver, .int .i64 t.1.kind, .string t.1.lang, .slice t.2.1 t.1.fields.length t.2.2]
theorem encR_len (t : RT) : (encR t).length = 5 := rfl
theorem r_one (t : RT) : ∀ u ∈ encR t, u.oneCell' = true := by simp [encR, Value.oneCell']
structure RdA (w : World) (a : Option Addr) (c : Nat) (rs : List Rd) : Prop where
 cap : rs.length ≤ c
 max : c ≤ maxLen
 at_ : ∃ b o, (rs ≠ [] → a = some ⟨b, o, none⟩ ∧ b < w.heap.size) ∧ ∀ (j : Nat) r, rs[j]? = some r → w.cell? ⟨b, o + j * 5, none⟩ = some (.int .i64 r.id) ∧ w.cell? ⟨b, o + j * 5 + 1, none⟩ = some (.int .i64 r.ver) ∧ w.cell? ⟨b, o + j * 5 + 2, none⟩ = some (.int .i64 r.kind) ∧ w.cell? ⟨b, o + j * 5 + 3, none⟩ = some (.string r.lang) ∧
  ∃ fa fc, w.cell? ⟨b, o + j * 5 + 4, none⟩ = some (.slice fa r.fields.length fc) ∧ FldA w fa fc r.fields
theorem RdA.below {w w' : World} {a : Option Addr} {c : Nat} {rs : List Rd} (h : RdA w a c rs) (hb : Below w.heap.size w w') : RdA w' a c rs := by
 obtain ⟨b, o, h1, h2⟩ := h.at_
 refine ⟨h.cap, h.max, b, o, fun hn => ⟨(h1 hn).1, Nat.lt_of_lt_of_le (h1 hn).2 hb.size⟩, fun j x hx => ?_⟩
 obtain ⟨c0, c1, c2, c3, fa, fc, c4, hf⟩ := h2 j x hx
 exact ⟨cell_later hb c0, cell_later hb c1, cell_later hb c2, cell_later hb c3, fa, fc, cell_later hb c4, hf.below hb⟩
theorem RdA.get {w : World} {a : Option Addr} {c : Nat} {rs : List Rd} (h : RdA w a c rs) {k : Nat} {r : Rd} (hk : rs[k]? = some r) :
  ∃ b o fa fc, a = some ⟨b, o, none⟩ ∧ b < w.heap.size ∧ w.cell? ⟨b, o + k * 5, none⟩ = some (.int .i64 r.id) ∧ w.cell? ⟨b, o + k * 5 + 1, none⟩ = some (.int .i64 r.ver) ∧ w.cell? ⟨b, o + k * 5 + 2, none⟩ = some (.int .i64 r.kind) ∧ w.cell? ⟨b, o + k * 5 + 3, none⟩ = some (.string r.lang) ∧
   w.cell? ⟨b, o + k * 5 + 4, none⟩ = some (.slice fa r.fields.length fc) ∧ FldA w fa fc r.fields := by
 obtain ⟨b, o, h1, h2⟩ := h.at_
 have hne : rs ≠ [] := by intro h0; subst h0; simp at hk
 obtain ⟨c0, c1, c2, c3, fa, fc, c4, hf⟩ := h2 k r hk
 exact ⟨b, o, fa, fc, (h1 hne).1, (h1 hne).2, c0, c1, c2, c3, c4, hf⟩
theorem RdA.of_fa {w : World} {a : Option Addr} {c : Nat} {T : List RT} (h : Br.FA encR 5 w a c T) (hs : ∀ t ∈ T, FldA w t.2.1 t.2.2 t.1.fields) : RdA w a c (T.map (·.1)) := by
 obtain ⟨b, o, h1, h2⟩ := h.at_
 refine ⟨by rw [List.length_map]; exact h.cap, h.max, b, o, fun h9 => h1 (fun h8 => h9 (by rw [h8]; rfl)), fun j f hj => ?_⟩
 rw [List.getElem?_map] at hj
 obtain ⟨x, hx, rfl⟩ := Option.map_eq_some_iff.1 hj
 exact ⟨h2 j 0 x _ hx rfl, h2 j 1 x _ hx rfl, h2 j 2 x _ hx rfl, h2 j 3 x _ hx rfl, x.2.1, x.2.2, h2 j 4 x _ hx rfl, hs x (List.mem_of_getElem? hx)⟩
end Rc
end Go.Proofs.YtlakomilichhnaaGreatDoor
namespace Go.Proofs.YtlakomilichhnaaGreatDoor
open Go.RowKit
set_option maxRecDepth 100000
namespace Qr
structure Fr (g : Nat) (w w' : World) : Prop where
 os : w'.os = w.os
 tape : w'.tape = w.tape
 output : w'.output = w.output
 size : w.heap.size ≤ w'.heap.size
 block : ∀ k, k ≠ g → k < w.heap.size → w'.heap[k]? = w.heap[k]?
theorem Fr.refl (g : Nat) (w : World) : Fr g w w := ⟨rfl, rfl, rfl, Nat.le_refl _, fun _ _ _ => rfl⟩
theorem Fr.trans {g : Nat} {a b c : World} (h : Fr g a b) (k : Fr g b c) : Fr g a c :=
 ⟨k.os.trans h.os, k.tape.trans h.tape, k.output.trans h.output, Nat.le_trans h.size k.size, fun i hi hl => (k.block i hi (Nat.lt_of_lt_of_le hl h.size)).trans (h.block i hi hl)⟩
theorem Fr.of_below {g : Nat} {w w' : World} (h : Below w.heap.size w w') : Fr g w w' := ⟨h.os, h.tape, h.output, h.size, fun k _ hl => h.block k hl⟩
theorem Fr.drew {g : Nat} {a w : World} (h : Fr g a w) : Fr g a w.drew := ⟨h.os, h.tape, h.output, h.size, h.block⟩
theorem Fr.alloc {g : Nat} {a w : World} (h : Fr g a w) (o : Obj) : Fr g a (w.alloc o) := h.trans (.of_below ((Below.refl _ _).alloc (Nat.le_refl _) _))
theorem Fr.set {g : Nat} {a w : World} (h : Fr g a w) {p : Addr} (hp : p.block = g) (u : Value) : Fr g a (w.setCell p u) :=
 h.trans ⟨rfl, rfl, rfl, by simp [World.setCell], fun k hk _ => Below.heap_setCell _ _ _ _ (by rw [hp]; exact hk)⟩
theorem Fr.setNew {g : Nat} {a w : World} (h : Fr g a w) {p : Addr} (hp : a.heap.size ≤ p.block) (u : Value) : Fr g a (w.setCell p u) :=
 ⟨h.os, h.tape, h.output, Nat.le_trans h.size (by simp [World.setCell]), fun k hk hl => (Below.heap_setCell _ _ _ _ (by omega)).trans (h.block k hk hl)⟩
theorem Fr.grown {g : Nat} {a w w' : World} {row : Option Nat} (h : Fr g a w) (hg : w.grownBy w' row) (hr : ∀ k, row = some k → a.heap.size ≤ k) : Fr g a w' :=
 ⟨hg.os.trans h.os, hg.tape.trans h.tape, hg.output.trans h.output, Nat.le_trans h.size hg.size, fun k hk hl => (hg.block k (Nat.lt_of_lt_of_le hl h.size) (fun e => by have := hr k e.symm; omega)).trans (h.block k hk hl)⟩
theorem Fr.below {g B : Nat} {w w' : World} (h : Fr g w w') (hB : B ≤ g) (hg : g < w.heap.size) : Below B w w' :=
 ⟨h.os, h.tape, h.output, h.size, fun k hk => h.block k (by omega) (by omega)⟩
theorem Fr.cell {g : Nat} {w w' : World} (h : Fr g w w') {b o : Nat} {v : Value} (hb : b ≠ g) (hc : w.cell? ⟨b, o, none⟩ = some v) : w'.cell? ⟨b, o, none⟩ = some v :=
 (World.cell?_of_block (w := w) (h.block b hb (Rc.cell_lt hc))).trans hc
theorem Fr.own {g B : Nat} {w w' : World} {e size n : Nat} {v : Value} {xs : List Value} (h : Fr g w w') (ho : w.ownsRow B e size v n xs) (hB : g < B) : w'.ownsRow B e size v n xs := by
 refine ⟨ho.1, ?_⟩
 rcases ho.2 with h1 | ⟨k, cap, cur, h1, h2, h3, h4⟩
 ·exact .inl h1
 ·exact .inr ⟨k, cap, cur, h1, h2, (h.block k (by omega) (Array.getElem?_eq_some_iff.1 h3).1).trans h3, h4⟩
theorem Fr.fa {α : Type} {enc : α → List Value} {size : Nat} {g : Nat} {w w' : World} {a : Option Addr} {c : Nat} {xs : List α} (h : Fr g w w') (hf : Br.FA enc size w a c xs) (hb : xs ≠ [] → ∀ ad, a = some ad → g + 1 ≤ ad.block) : Br.FA enc size w' a c xs := by
 obtain ⟨b, o, h1, h2⟩ := hf.at_
 by_cases hne : xs = []
 ·subst hne
  exact ⟨hf.cap, hf.max, b, o, fun h9 => absurd rfl h9, fun j i x u hx => by simp at hx⟩
 ·have h3 := hb hne _ (h1 hne).1
  refine ⟨hf.cap, hf.max, b, o, fun hn => ⟨(h1 hn).1, Nat.lt_of_lt_of_le (h1 hn).2 h.size⟩, fun j i x u hx hu => h.cell (show b ≠ g by simp only at h3; omega) (h2 j i x u hx hu)⟩
def LowS (B : Nat) (v : Value) (xs : List ByteArray) : Prop := xs ≠ [] → ∀ ad l c, v = .slice (some ad) l c → B ≤ ad.block
theorem Fr.sl {g : Nat} {w w' : World} {v : Value} {xs : List ByteArray} (h : Fr g w w') (hs : SL w v xs) (hb : LowS (g + 1) v xs) : SL w' v xs := by
 rcases hs with h1 | ⟨b, o, c, h1, h2, h3, h4, h5⟩
 ·exact .inl h1
 ·by_cases hne : xs = []
  ·exact .inl ⟨hne, _, _, by rw [h1, hne]; rfl⟩
  ·have := hb hne _ _ _ h1
   exact .inr ⟨b, o, c, h1, h2, h3, Nat.lt_of_lt_of_le h4 h.size, fun j x hx => h.cell (show b ≠ g by simp only at this; omega) (h5 j x hx)⟩
inductive QC (B : Nat) (w : World) : Qy → List Value → Prop
 | mk {op f a b : Int} {ws : List ByteArray} {ks : List Qy} {sa : Option Addr} {sc : Nat} {ka : Option Addr} {kc : Nat} {css : List (List Value)}
   (hw : SL w (.slice sa ws.length sc) ws) (hwb : LowS B (.slice sa ws.length sc) ws) (hl : css.length = ks.length)
   (hk : ∀ (j : Nat) k cs, ks[j]? = some k → css[j]? = some cs → QC B w k cs)
   (hf : Br.FA id 6 w ka kc css) (hfb : css ≠ [] → ∀ ad, ka = some ad → B ≤ ad.block) :
   QC B w (.mk op f ws a b ks) [.int .i64 op, .int .i64 f, .slice sa ws.length sc, .int .i64 a, .int .i64 b, .slice ka ks.length kc]
theorem QC.fr {g B : Nat} {w w' : World} {q : Qy} {cs : List Value} (h : QC B w q cs) (hF : Fr g w w') (hB : g < B) : QC B w' q cs := by
 induction h with
 | mk hw hwb hl _ hf hfb ih =>
  exact .mk (hF.sl hw fun h1 ad l c h2 => Nat.le_trans (by omega) (hwb h1 ad l c h2)) hwb hl (fun j k cs h1 h2 => ih j k cs h1 h2) (hF.fa hf fun h1 ad h2 => Nat.le_trans (by omega) (hfb h1 ad h2)) hfb
theorem QC.later {B : Nat} {w w' : World} {q : Qy} {cs : List Value} (h : QC B w q cs) (hb : Below w.heap.size w w') : QC B w' q cs := by
 induction h with
 | mk hw hwb hl _ hf hfb ih => exact .mk (hw.below hb) hwb hl (fun j k cs h1 h2 => ih j k cs h1 h2) (hf.below hb) hfb
theorem QC.mono {B B' : Nat} {w : World} {q : Qy} {cs : List Value} (h : QC B w q cs) (hB : B' ≤ B) : QC B' w q cs := by
 induction h with
 | mk hw hwb hl _ hf hfb ih => exact .mk hw (fun h1 ad l c h2 => Nat.le_trans hB (hwb h1 ad l c h2)) hl (fun j k cs h1 h2 => ih j k cs h1 h2) hf (fun h1 ad h2 => Nat.le_trans hB (hfb h1 ad h2))
structure KA (B : Nat) (w : World) (a : Option Addr) (c : Nat) (ks : List Qy) : Prop where
 ex : ∃ css : List (List Value), css.length = ks.length ∧ (∀ (j : Nat) k cs, ks[j]? = some k → css[j]? = some cs → QC B w k cs) ∧ Br.FA id 6 w a c css ∧ (css ≠ [] → ∀ ad, a = some ad → B ≤ ad.block)
theorem QC.kids {B : Nat} {w : World} {q : Qy} {cs : List Value} (h : QC B w q cs) : ∃ sa sc ka kc, cs = [.int .i64 q.op, .int .i64 q.fld, .slice sa q.ws.length sc, .int .i64 q.a, .int .i64 q.b, .slice ka q.ks.length kc] ∧ SL w (.slice sa q.ws.length sc) q.ws ∧ LowS B (.slice sa q.ws.length sc) q.ws ∧ KA B w ka kc q.ks := by
 cases h with
 | mk hw hwb hl hk hf hfb => exact ⟨_, _, _, _, rfl, hw, hwb, ⟨_, hl, hk, hf, hfb⟩⟩
theorem QC.of_kids {B : Nat} {w : World} {op f a b : Int} {ws : List ByteArray} {ks : List Qy} {sa : Option Addr} {sc : Nat} {ka : Option Addr} {kc : Nat} (hw : SL w (.slice sa ws.length sc) ws) (hwb : LowS B (.slice sa ws.length sc) ws) (hk : KA B w ka kc ks) :
  QC B w (.mk op f ws a b ks) [.int .i64 op, .int .i64 f, .slice sa ws.length sc, .int .i64 a, .int .i64 b, .slice ka ks.length kc] := by
 obtain ⟨css, h1, h2, h3, h4⟩ := hk.ex
 exact .mk hw hwb h1 h2 h3 h4
theorem KA.below {B : Nat} {w w' : World} {a : Option Addr} {c : Nat} {ks : List Qy} (h : KA B w a c ks) (hb : Below w.heap.size w w') : KA B w' a c ks := by
 obtain ⟨css, h1, h2, h3, h4⟩ := h.ex
 exact ⟨css, h1, fun j k cs a b => (h2 j k cs a b).later hb, h3.below hb, h4⟩
theorem KA.fr {g B : Nat} {w w' : World} {a : Option Addr} {c : Nat} {ks : List Qy} (h : KA B w a c ks) (hF : Fr g w w') (hB : g < B) : KA B w' a c ks := by
 obtain ⟨css, h1, h2, h3, h4⟩ := h.ex
 exact ⟨css, h1, fun j k cs a b => (h2 j k cs a b).fr hF hB, hF.fa h3 (fun x ad y => Nat.le_trans (by omega) (h4 x ad y)), h4⟩
theorem KA.max {B : Nat} {w : World} {a : Option Addr} {c : Nat} {ks : List Qy} (h : KA B w a c ks) : ks.length ≤ maxLen := by
 obtain ⟨css, h1, _, h3, _⟩ := h.ex
 rw [← h1]
 exact Nat.le_trans h3.cap h3.max
theorem KA.get {B : Nat} {w : World} {a : Option Addr} {c : Nat} {ks : List Qy} (h : KA B w a c ks) {k : Nat} {q : Qy} (hk : ks[k]? = some q) :
  ∃ b o sa sc ka kc, a = some ⟨b, o, none⟩ ∧ b < w.heap.size ∧ w.cell? ⟨b, o + k * 6, none⟩ = some (.int .i64 q.op) ∧ w.cell? ⟨b, o + k * 6 + 1, none⟩ = some (.int .i64 q.fld) ∧ w.cell? ⟨b, o + k * 6 + 2, none⟩ = some (.slice sa q.ws.length sc) ∧ w.cell? ⟨b, o + k * 6 + 3, none⟩ = some (.int .i64 q.a) ∧ w.cell? ⟨b, o + k * 6 + 4, none⟩ = some (.int .i64 q.b) ∧ w.cell? ⟨b, o + k * 6 + 5, none⟩ = some (.slice ka q.ks.length kc) ∧
   QC B w q [.int .i64 q.op, .int .i64 q.fld, .slice sa q.ws.length sc, .int .i64 q.a, .int .i64 q.b, .slice ka q.ks.length kc] := by
 obtain ⟨css, h1, h2, h3, _⟩ := h.ex
 have hkl : k < css.length := by rw [h1]; exact (List.getElem?_eq_some_iff.1 hk).1
 have hc : css[k]? = some css[k] := List.getElem?_eq_getElem hkl
 have hq := h2 k q _ hk hc
 obtain ⟨sa, sc, ka, kc, e, _, _, _⟩ := hq.kids
 obtain ⟨b, o, ha, hb, hat⟩ := h3.get hc
 rw [e] at hat hq
 exact ⟨b, o, sa, sc, ka, kc, ha, hb, hat 0 _ rfl, hat 1 _ rfl, hat 2 _ rfl, hat 3 _ rfl, hat 4 _ rfl, hat 5 _ rfl, hq⟩
end Qr
theorem info_qy : (Tryz.prog.info? 29).map (fun i => (i.zero, i.size, i.bytes)) = some (some (.agg #[.int .i64 0, .int .i64 0, .slice none 0 0, .int .i64 0, .int .i64 0, .slice none 0 0]), 6, 80) := by kernel_rfl
end Go.Proofs.YtlakomilichhnaaGreatDoor
namespace Go.Proofs.YtlakomilichhnaaGreatDoor
open Go.RowKit
set_option maxRecDepth 100000
set_option maxHeartbeats 1600000 in
theorem nodes_c (B : Nat) : ∀ (q : Qr.Qy) (cs : List Value) (w : World), Qr.QC B w q cs → Qr.nodes q ≤ 1000000000 →
  Calls Tryz.prog 198 #[.agg cs.toArray] w fun e w' => e = .returned (.int .i64 (Qr.nodes q)) ∧ Below w.heap.size w w' := by
 refine Qr.Qy.ind ?_
 intro op fl ws ya yb ks ih cs w h hn
 obtain ⟨sa, sc, ka, kc, rfl, _, _, hK⟩ := h.kids
 dsimp only [Qr.Qy.op, Qr.Qy.fld, Qr.Qy.a, Qr.Qy.b, Qr.Qy.ks, Qr.Qy.ws] at hK ⊢
 have IH := Lib.hid ih; clear ih
 obtain ⟨W, hW⟩ : ∃ W, w.alloc (.cells #[.int .i64 op, .int .i64 fl, .slice sa ws.length sc, .int .i64 ya, .int .i64 yb, .slice ka ks.length kc] 29) = W := ⟨_, rfl⟩
 have hB : Below w.heap.size w W := by rw [← hW]; exact Tx.newb _ _
 have c0 : W.cell? ⟨w.heap.size, 0, none⟩ = some (.int .i64 op) := by rw [← hW]; simp
 have c1 : W.cell? ⟨w.heap.size, 1, none⟩ = some (.int .i64 fl) := by rw [← hW]; simp
 have c2 : W.cell? ⟨w.heap.size, 2, none⟩ = some (.slice sa ws.length sc) := by rw [← hW]; simp
 have c3 : W.cell? ⟨w.heap.size, 3, none⟩ = some (.int .i64 ya) := by rw [← hW]; simp
 have c4 : W.cell? ⟨w.heap.size, 4, none⟩ = some (.int .i64 yb) := by rw [← hW]; simp
 have c5 : W.cell? ⟨w.heap.size, 5, none⟩ = some (.slice ka ks.length kc) := by rw [← hW]; simp
 have hS := hK.below hB
 have hmax := hK.max
 have hmx : maxLen = 9223372036854775807 := rfl
 have hkn := Qr.ks_nodes ks
 unfold Qr.nodes at hn ⊢
 go_enter Tryz.func198, Tryz.ntmps198
 go_wp2
 clear hW c0 c1 c2 c3 c4 c5
 go_loopw [3, 9] (fun n i wr => ∃ k : Nat, k ≤ ks.length ∧ i = .int .i64 k ∧ n = .int .i64 ((1 + Qr.nodesL (ks.take k) : Nat) : Int) ∧ Below W.heap.size W wr) (fun _ i _ => ks.length - (intOf i).toNat)
 case atStart => exact ⟨0, Nat.zero_le _, rfl, rfl, Below.refl _ _⟩
 case round =>
  obtain ⟨k, hk, rfl, rfl, hb⟩ := hrel
  by_cases hlt : k < ks.length
  ·obtain ⟨x, hx⟩ : ∃ x, ks[k]? = some x := ⟨_, List.getElem?_eq_getElem hlt⟩
   obtain ⟨b, o, sa2, sc2, ka2, kc2, rfl, hbl, d0, d1, d2, d3, d4, d5, hq⟩ := (hS.below hb).get hx
   have hmem := List.mem_of_getElem? hx
   have hxn := Qr.nodes_kid hmem
   have htk := Qr.take_snoc hx
   have hT : Qr.nodesL (ks.take (k + 1)) = Qr.nodesL (ks.take k) + Qr.nodes x := by rw [htk, Qr.nodesL_app]; simp [Qr.nodesL]
   have hle : Qr.nodesL (ks.take (k + 1)) ≤ Qr.nodesL ks := by
    have := Qr.nodesL_app (ks.take (k + 1)) (ks.drop (k + 1))
    rw [List.take_append_drop] at this
    omega
   have HT := Lib.hid hT; clear hT
   have HM := Lib.hid hmem; clear hmem
   have HQ := Lib.hid hq; clear hq
   clear htk hx
   go_wp2_with (go_at_call 198; refine (IH.out x HM.out _ _ (HQ.out.later (Tx.newb _ _)) (by omega)).mono ?_; rintro e w1 ⟨rfl, hb1⟩)
   have HT2 := HT.out
   go_roundw
   case rel => exact ⟨k + 1, hlt, by go_num, Tx.vint (by rw [HT2]; first | go_num | (unfold wrap64; omega)), hb.trans (((Tx.newb _ _).trans (hb1.mono (by simp))).mono hb.size)⟩
   case measure => simp [intOf]; omega
  ·go_wp2
   go_ret
   have hkk : k = ks.length := by omega
   subst hkk
   exact ⟨Tx.ret1 (by first | (rw [List.take_length]; done) | (rw [List.take_length]; unfold wrap64; omega)), hB.trans (hb.mono hB.size)⟩
set_option maxHeartbeats 1600000 in
theorem Depth_c (B : Nat) : ∀ (q : Qr.Qy) (cs : List Value) (w : World), Qr.QC B w q cs → Qr.nodes q ≤ 1000000000 →
  Calls Tryz.prog 199 #[.agg cs.toArray] w fun e w' => e = .returned (.int .i64 (Qr.depth q)) ∧ Below w.heap.size w w' := by
 refine Qr.Qy.ind ?_
 intro op fl ws ya yb ks ih cs w h hn
 obtain ⟨sa, sc, ka, kc, rfl, _, _, hK⟩ := h.kids
 dsimp only [Qr.Qy.op, Qr.Qy.fld, Qr.Qy.a, Qr.Qy.b, Qr.Qy.ks, Qr.Qy.ws] at hK ⊢
 have IH := Lib.hid ih; clear ih
 obtain ⟨W, hW⟩ : ∃ W, w.alloc (.cells #[.int .i64 op, .int .i64 fl, .slice sa ws.length sc, .int .i64 ya, .int .i64 yb, .slice ka ks.length kc] 29) = W := ⟨_, rfl⟩
 have hB : Below w.heap.size w W := by rw [← hW]; exact Tx.newb _ _
 have c0 : W.cell? ⟨w.heap.size, 0, none⟩ = some (.int .i64 op) := by rw [← hW]; simp
 have c1 : W.cell? ⟨w.heap.size, 1, none⟩ = some (.int .i64 fl) := by rw [← hW]; simp
 have c2 : W.cell? ⟨w.heap.size, 2, none⟩ = some (.slice sa ws.length sc) := by rw [← hW]; simp
 have c3 : W.cell? ⟨w.heap.size, 3, none⟩ = some (.int .i64 ya) := by rw [← hW]; simp
 have c4 : W.cell? ⟨w.heap.size, 4, none⟩ = some (.int .i64 yb) := by rw [← hW]; simp
 have c5 : W.cell? ⟨w.heap.size, 5, none⟩ = some (.slice ka ks.length kc) := by rw [← hW]; simp
 have hS := hK.below hB
 have hmax := hK.max
 have hmx : maxLen = 9223372036854775807 := rfl
 have hkn := Qr.ks_nodes ks
 have hdn := Qr.depth_nodes (.mk op fl ws ya yb ks)
 unfold Qr.nodes at hn hdn
 unfold Qr.depth at hdn ⊢
 go_enter Tryz.func199, Tryz.ntmps199
 go_wp2
 clear hW c0 c1 c2 c3 c4 c5
 go_loopw [3, 9] (fun n i wr => ∃ k : Nat, k ≤ ks.length ∧ i = .int .i64 k ∧ n = .int .i64 ((Qr.depthL (ks.take k) : Nat) : Int) ∧ Below W.heap.size W wr) (fun _ i _ => ks.length - (intOf i).toNat)
 case atStart => exact ⟨0, Nat.zero_le _, rfl, rfl, Below.refl _ _⟩
 case round =>
  obtain ⟨k, hk, rfl, rfl, hb⟩ := hrel
  by_cases hlt : k < ks.length
  ·obtain ⟨x, hx⟩ : ∃ x, ks[k]? = some x := ⟨_, List.getElem?_eq_getElem hlt⟩
   obtain ⟨b, o, sa2, sc2, ka2, kc2, rfl, hbl, d0, d1, d2, d3, d4, d5, hq⟩ := (hS.below hb).get hx
   have hmem := List.mem_of_getElem? hx
   have hxn := Qr.nodes_kid hmem
   have htk := Qr.take_snoc hx
   have hT : Qr.depthL (ks.take (k + 1)) = max (Qr.depthL (ks.take k)) (Qr.depth x) := by rw [htk, Qr.depthL_app]; simp [Qr.depthL]
   have hle : Qr.depthL (ks.take (k + 1)) ≤ Qr.depthL ks := by
    have := Qr.depthL_app (ks.take (k + 1)) (ks.drop (k + 1))
    rw [List.take_append_drop] at this
    omega
   have HT := Lib.hid hT; clear hT
   have HM := Lib.hid hmem; clear hmem
   have HQ := Lib.hid hq; clear hq
   clear htk hx
   go_wp2_with (go_at_call 199; refine (IH.out x HM.out _ _ (HQ.out.later (Tx.newb _ _)) (by omega)).mono ?_; rintro e w1 ⟨rfl, hb1⟩)
   have HT2 := HT.out
   go_roundw
   case rel => exact ⟨k + 1, hlt, by go_num, Tx.vint (by rw [HT2]; first | go_num | (unfold wrap64; omega)), hb.trans (((Tx.newb _ _).trans (hb1.mono (by simp))).mono hb.size)⟩
   case measure => simp [intOf]; omega
  ·go_wp2
   go_ret
   have hkk : k = ks.length := by omega
   subst hkk
   exact ⟨Tx.ret1 (by first | (rw [List.take_length]; done) | (rw [List.take_length]; unfold wrap64; omega)), hB.trans (hb.mono hB.size)⟩
end Go.Proofs.YtlakomilichhnaaGreatDoor
