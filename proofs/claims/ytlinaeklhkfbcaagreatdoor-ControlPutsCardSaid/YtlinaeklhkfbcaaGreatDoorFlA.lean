/- Memory: flat lists of structs; lists of subfields, fields and records that the call owns, or that lie at an address. -/
import Derived.Test.YtlinaeklhkfbcaaGreatDoorMm
import Derived.Test.YtlinaeklhkfbcaaGreatDoorRcB
import Derived.Test.YtlinaeklhkfbcaaGreatDoorRgA
namespace Go.Proofs.YtlinaeklhkfbcaaGreatDoor
open Go.RowKit
set_option maxRecDepth 100000

namespace Br
/-- The slice holds these structs, cell for cell. -/
structure FA {α : Type} (enc : α → List Value) (size : Nat) (w : World) (a : Option Addr) (c : Nat) (xs : List α) : Prop where
  cap : xs.length ≤ c
  max : c ≤ maxLen
  at_ : ∃ b o, (xs ≠ [] → a = some ⟨b, o, none⟩ ∧ b < w.heap.size) ∧ ∀ (j i : Nat) (x : α) (u : Value), xs[j]? = some x → (enc x)[i]? = some u → w.cell? ⟨b, o + j * size + i, none⟩ = some u
variable {α : Type} {enc : α → List Value} {size : Nat}
theorem FA.below {w w' : World} {a : Option Addr} {c : Nat} {xs : List α} (h : FA enc size w a c xs) (hb : Below w.heap.size w w') : FA enc size w' a c xs := by
  obtain ⟨b, o, h1, h2⟩ := h.at_
  exact ⟨h.cap, h.max, b, o, fun hn => ⟨(h1 hn).1, Nat.lt_of_lt_of_le (h1 hn).2 hb.size⟩, fun j i x u hx hu => cell_later hb (h2 j i x u hx hu)⟩
theorem FA.get {w : World} {a : Option Addr} {c : Nat} {xs : List α} (h : FA enc size w a c xs) {k : Nat} {x : α} (hk : xs[k]? = some x) :
    ∃ b o, a = some ⟨b, o, none⟩ ∧ b < w.heap.size ∧ ∀ i u, (enc x)[i]? = some u → w.cell? ⟨b, o + k * size + i, none⟩ = some u := by
  obtain ⟨b, o, h1, h2⟩ := h.at_
  have hne : xs ≠ [] := by intro h0; subst h0; simp at hk
  exact ⟨b, o, (h1 hne).1, (h1 hne).2, fun i u hu => h2 k i x u hk hu⟩
theorem FA.none {w : World} {a : Option Addr} {c : Nat} {xs : List α} (h : FA enc size w a c xs) : a = none → xs.length = 0 := by
  intro ha
  obtain ⟨b, o, h1, _⟩ := h.at_
  cases xs with
  | nil => rfl
  | cons x r => have := (h1 (by simp)).1; rw [ha] at this; cases this
theorem FA.cells (hs : ∀ x, (enc x).length = size) (h0 : 0 < size) {w : World} {a : Option Addr} {c : Nat} {xs : List α} (h : FA enc size w a c xs) : ∀ ad, a = some ad → ∀ j u, (xs.flatMap enc)[j]? = some u → w.cell? (ad.add j) = some u := by
  intro ad ha j u hj
  have hl : j < xs.length * size := by
    have := (List.getElem?_eq_some_iff.1 hj).1
    rw [flat_len enc size hs] at this
    exact this
  have hk : j / size < xs.length := (Nat.div_lt_iff_lt_mul h0).2 hl
  obtain ⟨x, hx⟩ : ∃ x, xs[j / size]? = some x := ⟨_, List.getElem?_eq_getElem hk⟩
  have hi := Nat.mod_lt j h0
  have e : j / size * size + j % size = j := by rw [Nat.mul_comm]; exact Nat.div_add_mod j size
  have hf := flat_at enc size hs xs (j / size) (j % size) x hx hi
  rw [e, hj] at hf
  obtain ⟨b, o, hb, _, hc⟩ := h.get hx
  rw [hb] at ha
  injection ha with ha
  subst ha
  have := hc (j % size) u hf.symm
  rw [Nat.add_assoc, e] at this
  rw [Cs.add_at]
  exact this
theorem FA.of_own (hs : ∀ x, (enc x).length = size) {w : World} {B e n : Nat} {v : Value} {xs : List α} (h : w.ownsRow B e size v n (xs.flatMap enc)) (hn : n = xs.length) : ∃ a c, v = .slice a xs.length c ∧ FA enc size w a c xs ∧ (∀ g, a = some g → B ≤ g.block) := by
  obtain ⟨a, c, rfl, hc, hm, hx⟩ := own_any hs h hn
  have hB : ∀ g, a = some g → B ≤ g.block := by
    intro g hg
    subst hg
    rcases h.2 with ⟨h7, _⟩ | ⟨g7, _, _, h7, h8, _⟩
    · cases h7
    · cases h7; exact h8
  refine ⟨a, c, rfl, ⟨hc, hm, ?_⟩, hB⟩
  rcases hx with rfl | ⟨g, rfl, _, hg, hat⟩
  · exact ⟨0, 0, fun h9 => absurd rfl h9, fun j i x u hj => by simp at hj⟩
  · refine ⟨g, 0, fun _ => ⟨rfl, hg⟩, fun j i x u hj hu => ?_⟩
    rw [Nat.zero_add]
    exact hat j i x u hj (by rw [← hs x]; exact (List.getElem?_eq_some_iff.1 hu).1) hu
/-- Things chosen for the elements of a list. -/
theorem choose_list {α β : Type} : ∀ (l : List α) (P : Nat → α × β → Prop), (∀ j x, l[j]? = some x → ∃ y, P j (x, y)) → ∃ T : List (α × β), T.map (·.1) = l ∧ ∀ j t, T[j]? = some t → P j t
  | [], _, _ => ⟨[], rfl, fun j t h => by simp at h⟩
  | x :: l, P, h => by
    obtain ⟨y, hy⟩ := h 0 x rfl
    obtain ⟨T, h1, h2⟩ := choose_list l (fun j => P (j + 1)) (fun j z hz => h (j + 1) z (by simpa using hz))
    refine ⟨(x, y) :: T, by simp [h1], fun j t ht => ?_⟩
    cases j with
    | zero => simp at ht; subst ht; exact hy
    | succ j => exact h2 j t (by simpa using ht)
theorem flat_one (h : ∀ x, ∀ u ∈ enc x, u.oneCell' = true) (xs : List α) : ∀ u ∈ xs.flatMap enc, u.oneCell' = true := fun u hu => by
  obtain ⟨x, _, h2⟩ := List.mem_flatMap.1 hu
  exact h x u h2
end Br

namespace Rc
open Go.Lib
/-! subfields -/
abbrev encS (x : UInt8 × ByteArray) : List Value := [.int .u8 x.1.toNat, .string x.2]
theorem encS_len (x : UInt8 × ByteArray) : (encS x).length = 2 := rfl
theorem encS_one (x : UInt8 × ByteArray) : ∀ u ∈ encS x, u.oneCell' = true := by simp [encS, Value.oneCell']
theorem SubA.fa {w : World} {a : Option Addr} {c : Nat} {xs : List (UInt8 × ByteArray)} (h : SubA w a c xs) : Br.FA encS 2 w a c xs := by
  obtain ⟨b, o, h1, h2⟩ := h.at_
  refine ⟨h.cap, h.max, b, o, h1, fun j i x u hx hu => ?_⟩
  have := h2 j x hx
  match i, hu with
  | 0, hu => injection hu with hu; rw [← hu]; exact this.1
  | 1, hu => injection hu with hu; rw [← hu]; exact this.2
  | i + 2, hu => simp [encS] at hu
theorem SubA.of_fa {w : World} {a : Option Addr} {c : Nat} {xs : List (UInt8 × ByteArray)} (h : Br.FA encS 2 w a c xs) : SubA w a c xs := by
  obtain ⟨b, o, h1, h2⟩ := h.at_
  exact ⟨h.cap, h.max, b, o, h1, fun j x hx => ⟨h2 j 0 x _ hx rfl, h2 j 1 x _ hx rfl⟩⟩
theorem SubA.of_own {w : World} {B e n : Nat} {v : Value} {xs : List (UInt8 × ByteArray)} (h : w.ownsRow B e 2 v n (xs.flatMap encS)) (hn : n = xs.length) : ∃ a c, v = .slice a xs.length c ∧ SubA w a c xs := by
  obtain ⟨a, c, e1, h1, _⟩ := Br.FA.of_own encS_len h hn
  exact ⟨a, c, e1, .of_fa h1⟩
/-! fields -/
/-- A field with the slice of its subfields. -/
abbrev FT := Fl × Option Addr × Nat
abbrev encF (t : FT) : List Value := [.string t.1.tag, .string t.1.ind, .slice t.2.1 t.1.subs.length t.2.2, .int .i64 t.1.auth]
theorem encF_len (t : FT) : (encF t).length = 4 := rfl
theorem f_new (w : World) (g : Nat) (hg : g = w.heap.size) (f : Fl) (sa : Option Addr) (sc : Nat) (t : TypeId) : ∀ j u, (encF (f, sa, sc))[j]? = some u → (w.alloc (.cells #[.string f.tag, .string f.ind, .slice sa f.subs.length sc, .int .i64 f.auth] t)).cell? ((⟨g, 0, none⟩ : Addr).add j) = some u :=
  Br.cells_new_at w g hg _ t
theorem f_one (t : FT) : ∀ u ∈ encF t, u.oneCell' = true := by simp [encF, Value.oneCell']
theorem FldA.of_fa {w : World} {a : Option Addr} {c : Nat} {T : List FT} (h : Br.FA encF 4 w a c T) (hs : ∀ t ∈ T, SubA w t.2.1 t.2.2 t.1.subs) : FldA w a c (T.map (·.1)) := by
  obtain ⟨b, o, h1, h2⟩ := h.at_
  refine ⟨by rw [List.length_map]; exact h.cap, h.max, b, o, fun h9 => h1 (fun h8 => h9 (by rw [h8]; rfl)), fun j f hj => ?_⟩
  rw [List.getElem?_map] at hj
  obtain ⟨x, hx, rfl⟩ := Option.map_eq_some_iff.1 hj
  exact ⟨h2 j 0 x _ hx rfl, h2 j 1 x _ hx rfl, ⟨x.2.1, x.2.2, h2 j 2 x _ hx rfl, hs x (List.mem_of_getElem? hx)⟩, h2 j 3 x _ hx rfl⟩
theorem FldA.of_own {w : World} {B e n : Nat} {v : Value} {T : List FT} (h : w.ownsRow B e 4 v n (T.flatMap encF)) (hn : n = T.length) (hs : ∀ t ∈ T, SubA w t.2.1 t.2.2 t.1.subs) : ∃ a c, v = .slice a (T.map (·.1)).length c ∧ FldA w a c (T.map (·.1)) := by
  obtain ⟨a, c, e1, h1, _⟩ := Br.FA.of_own encF_len h hn
  exact ⟨a, c, by rw [List.length_map]; exact e1, .of_fa h1 hs⟩
theorem FldA.fa {w : World} {a : Option Addr} {c : Nat} {fs : List Fl} (h : FldA w a c fs) : ∃ T : List FT, T.map (·.1) = fs ∧ Br.FA encF 4 w a c T ∧ ∀ t ∈ T, SubA w t.2.1 t.2.2 t.1.subs := by
  obtain ⟨b, o, h1, h2⟩ := h.at_
  obtain ⟨T, e, hT⟩ := Br.choose_list fs (fun j (t : FT) => (w.cell? ⟨b, o + j * 4, none⟩ = some (.string t.1.tag) ∧ w.cell? ⟨b, o + j * 4 + 1, none⟩ = some (.string t.1.ind) ∧ w.cell? ⟨b, o + j * 4 + 2, none⟩ = some (.slice t.2.1 t.1.subs.length t.2.2) ∧ w.cell? ⟨b, o + j * 4 + 3, none⟩ = some (.int .i64 t.1.auth)) ∧ SubA w t.2.1 t.2.2 t.1.subs) (fun j f hf => by
    obtain ⟨d0, d1, ⟨sa, sc, d2, hs⟩, d3⟩ := h2 j f hf
    exact ⟨(sa, sc), ⟨d0, d1, d2, d3⟩, hs⟩)
  refine ⟨T, e, ⟨by rw [← List.length_map (f := fun x : FT => x.1), e]; exact h.cap, h.max, b, o, fun h9 => h1 (fun h8 => h9 (by rw [← e] at h8; simpa using h8)), fun j i x u hx hu => ?_⟩, fun t ht => ?_⟩
  · obtain ⟨d0, d1, d2, d3⟩ := (hT j x hx).1
    match i, hu with
    | 0, hu => injection hu with hu; rw [← hu]; exact d0
    | 1, hu => injection hu with hu; rw [← hu]; exact d1
    | 2, hu => injection hu with hu; rw [← hu]; exact d2
    | 3, hu => injection hu with hu; rw [← hu]; exact d3
    | i + 4, hu => simp [encF] at hu
  · obtain ⟨j, hj⟩ := List.getElem?_of_mem ht
    exact (hT j t hj).2
/-! records -/
/-- A record with the slice of its fields. -/
abbrev RT := Rd × Option Addr × Nat
abbrev encR (t : RT) : List Value := [.int .i64 t.1.id, .int .i64 t.1.ver, .int .i64 t.1.kind, .string t.1.lang, .slice t.2.1 t.1.fields.length t.2.2]
theorem encR_len (t : RT) : (encR t).length = 5 := rfl
theorem r_one (t : RT) : ∀ u ∈ encR t, u.oneCell' = true := by simp [encR, Value.oneCell']
theorem r_new (w : World) (g : Nat) (hg : g = w.heap.size) (r : Rd) (fa : Option Addr) (fc : Nat) (t : TypeId) : ∀ j u, (encR (r, fa, fc))[j]? = some u → (w.alloc (.cells #[.int .i64 r.id, .int .i64 r.ver, .int .i64 r.kind, .string r.lang, .slice fa r.fields.length fc] t)).cell? ((⟨g, 0, none⟩ : Addr).add j) = some u :=
  Br.cells_new_at w g hg _ t
/-- The slice holds these records. -/
structure RdA (w : World) (a : Option Addr) (c : Nat) (rs : List Rd) : Prop where
  cap : rs.length ≤ c
  max : c ≤ maxLen
  at_ : ∃ b o, (rs ≠ [] → a = some ⟨b, o, none⟩ ∧ b < w.heap.size) ∧ ∀ (j : Nat) r, rs[j]? = some r → w.cell? ⟨b, o + j * 5, none⟩ = some (.int .i64 r.id) ∧ w.cell? ⟨b, o + j * 5 + 1, none⟩ = some (.int .i64 r.ver) ∧ w.cell? ⟨b, o + j * 5 + 2, none⟩ = some (.int .i64 r.kind) ∧ w.cell? ⟨b, o + j * 5 + 3, none⟩ = some (.string r.lang) ∧
    ∃ fa fc, w.cell? ⟨b, o + j * 5 + 4, none⟩ = some (.slice fa r.fields.length fc) ∧ FldA w fa fc r.fields
theorem RdA.below {w w' : World} {a : Option Addr} {c : Nat} {rs : List Rd} (h : RdA w a c rs) (hb : Below w.heap.size w w') : RdA w' a c rs := by
  obtain ⟨b, o, h1, h2⟩ := h.at_
  refine ⟨h.cap, h.max, b, o, fun hn => ⟨(h1 hn).1, Nat.lt_of_lt_of_le (h1 hn).2 hb.size⟩, fun j x hx => ?_⟩
  obtain ⟨c0, c1, c2, c3, fa, fc, c4, hf⟩ := h2 j x hx
  exact ⟨cell_later hb c0, cell_later hb c1, cell_later hb c2, cell_later hb c3, fa, fc, cell_later hb c4, hf.below hb⟩
theorem RdA.get {w : World} {a : Option Addr} {c : Nat} {rs : List Rd} (h : RdA w a c rs) {k : Nat} {r : Rd} (hk : rs[k]? = some r) :
    ∃ b o fa fc, a = some ⟨b, o, none⟩ ∧ b < w.heap.size ∧ w.cell? ⟨b, o + k * 5, none⟩ = some (.int .i64 r.id) ∧ w.cell? ⟨b, o + k * 5 + 1, none⟩ = some (.int .i64 r.ver) ∧ w.cell? ⟨b, o + k * 5 + 2, none⟩ = some (.int .i64 r.kind) ∧ w.cell? ⟨b, o + k * 5 + 3, none⟩ = some (.string r.lang) ∧
      w.cell? ⟨b, o + k * 5 + 4, none⟩ = some (.slice fa r.fields.length fc) ∧ FldA w fa fc r.fields := by
  obtain ⟨b, o, h1, h2⟩ := h.at_
  have hne : rs ≠ [] := by intro h0; subst h0; simp at hk
  obtain ⟨c0, c1, c2, c3, fa, fc, c4, hf⟩ := h2 k r hk
  exact ⟨b, o, fa, fc, (h1 hne).1, (h1 hne).2, c0, c1, c2, c3, c4, hf⟩
theorem RdA.of_fa {w : World} {a : Option Addr} {c : Nat} {T : List RT} (h : Br.FA encR 5 w a c T) (hs : ∀ t ∈ T, FldA w t.2.1 t.2.2 t.1.fields) : RdA w a c (T.map (·.1)) := by
  obtain ⟨b, o, h1, h2⟩ := h.at_
  refine ⟨by rw [List.length_map]; exact h.cap, h.max, b, o, fun h9 => h1 (fun h8 => h9 (by rw [h8]; rfl)), fun j f hj => ?_⟩
  rw [List.getElem?_map] at hj
  obtain ⟨x, hx, rfl⟩ := Option.map_eq_some_iff.1 hj
  exact ⟨h2 j 0 x _ hx rfl, h2 j 1 x _ hx rfl, h2 j 2 x _ hx rfl, h2 j 3 x _ hx rfl, x.2.1, x.2.2, h2 j 4 x _ hx rfl, hs x (List.mem_of_getElem? hx)⟩
theorem RdA.of_own {w : World} {B e n : Nat} {v : Value} {T : List RT} (h : w.ownsRow B e 5 v n (T.flatMap encR)) (hn : n = T.length) (hs : ∀ t ∈ T, FldA w t.2.1 t.2.2 t.1.fields) : ∃ a c, v = .slice a (T.map (·.1)).length c ∧ RdA w a c (T.map (·.1)) := by
  obtain ⟨a, c, e1, h1, _⟩ := Br.FA.of_own encR_len h hn
  exact ⟨a, c, by rw [List.length_map]; exact e1, .of_fa h1 hs⟩
theorem RdA.fa {w : World} {a : Option Addr} {c : Nat} {rs : List Rd} (h : RdA w a c rs) : ∃ T : List RT, T.map (·.1) = rs ∧ Br.FA encR 5 w a c T ∧ ∀ t ∈ T, FldA w t.2.1 t.2.2 t.1.fields := by
  obtain ⟨b, o, h1, h2⟩ := h.at_
  obtain ⟨T, e, hT⟩ := Br.choose_list rs (fun j (t : RT) => (w.cell? ⟨b, o + j * 5, none⟩ = some (.int .i64 t.1.id) ∧ w.cell? ⟨b, o + j * 5 + 1, none⟩ = some (.int .i64 t.1.ver) ∧ w.cell? ⟨b, o + j * 5 + 2, none⟩ = some (.int .i64 t.1.kind) ∧ w.cell? ⟨b, o + j * 5 + 3, none⟩ = some (.string t.1.lang) ∧ w.cell? ⟨b, o + j * 5 + 4, none⟩ = some (.slice t.2.1 t.1.fields.length t.2.2)) ∧ FldA w t.2.1 t.2.2 t.1.fields) (fun j f hf => by
    obtain ⟨c0, c1, c2, c3, fa, fc, c4, hs⟩ := h2 j f hf
    exact ⟨(fa, fc), ⟨c0, c1, c2, c3, c4⟩, hs⟩)
  refine ⟨T, e, ⟨by rw [← List.length_map (f := fun x : RT => x.1), e]; exact h.cap, h.max, b, o, fun h9 => h1 (fun h8 => h9 (by rw [← e] at h8; simpa using h8)), fun j i x u hx hu => ?_⟩, fun t ht => ?_⟩
  · obtain ⟨d0, d1, d2, d3, d4⟩ := (hT j x hx).1
    match i, hu with
    | 0, hu => injection hu with hu; rw [← hu]; exact d0
    | 1, hu => injection hu with hu; rw [← hu]; exact d1
    | 2, hu => injection hu with hu; rw [← hu]; exact d2
    | 3, hu => injection hu with hu; rw [← hu]; exact d3
    | 4, hu => injection hu with hu; rw [← hu]; exact d4
    | i + 5, hu => simp [encR] at hu
  · obtain ⟨j, hj⟩ := List.getElem?_of_mem ht
    exact (hT j t hj).2
end Rc
theorem info_sub : (Tryz.prog.info? 48).map (fun i => (i.zero, i.size, i.bytes)) = some (some (.agg #[.int .u8 0, .string ⟨#[]⟩]), 2, 24) := by kernel_rfl
theorem info_fld : (Tryz.prog.info? 24).map (fun i => (i.zero, i.size, i.bytes)) = some (some (.agg #[.string ⟨#[]⟩, .string ⟨#[]⟩, .slice none 0 0, .int .i64 0]), 4, 64) := by kernel_rfl
theorem info_rec : (Tryz.prog.info? 38).map (fun i => (i.zero, i.size, i.bytes)) = some (some (.agg #[.int .i64 0, .int .i64 0, .int .i64 0, .string ⟨#[]⟩, .slice none 0 0]), 5, 64) := by kernel_rfl
end Go.Proofs.YtlinaeklhkfbcaaGreatDoor
