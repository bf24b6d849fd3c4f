/- Fields in memory; what the program's functions of layer 7 return. -/
import Derived.Test.YtogpghpgnpoioaaGreatDoorKb
import Derived.Test.YtogpghpgnpoioaaGreatDoorKc
import Derived.Test.YtogpghpgnpoioaaGreatDoorKd
import Derived.Maps.OwnSet
import Derived.Sort.OwnSorted
import Derived.Sort.OwnSortedInts
import Derived.Lib.OwnBridge
import Derived.Lib.RowBridge
import Derived.Deep.RegionHeldLaw
import Derived.Lib.ItoaLen
import Derived.Deep.AppendLies
namespace Go.Proofs.YtogpghpgnpoioaaGreatDoor
open Go.RowKit
set_option maxRecDepth 100000

namespace Rc
/-- The slice (its address, its capacity) holds these subfields. -/
structure SubA (w : World) (a : Option Addr) (c : Nat) (xs : List (UInt8 × ByteArray)) : Prop where
  cap : xs.length ≤ c
  max : c ≤ maxLen
  at_ : ∃ b o, (xs ≠ [] → a = some ⟨b, o, none⟩ ∧ b < w.heap.size) ∧ ∀ (j : Nat) x, xs[j]? = some x → w.cell? ⟨b, o + j * 2, none⟩ = some (.int .u8 x.1.toNat) ∧ w.cell? ⟨b, o + j * 2 + 1, none⟩ = some (.string x.2)
theorem SubA.below {w w' : World} {a : Option Addr} {c : Nat} {xs : List (UInt8 × ByteArray)} (h : SubA w a c xs) (hb : Below w.heap.size w w') : SubA w' a c xs := by
  obtain ⟨b, o, h1, h2⟩ := h.at_
  exact ⟨h.cap, h.max, b, o, fun hn => ⟨(h1 hn).1, Nat.lt_of_lt_of_le (h1 hn).2 hb.size⟩, fun j x hx => ⟨cell_later hb (h2 j x hx).1, cell_later hb (h2 j x hx).2⟩⟩
/-- The slice holds these fields. -/
structure FldA (w : World) (a : Option Addr) (c : Nat) (fs : List Fl) : Prop where
  cap : fs.length ≤ c
  max : c ≤ maxLen
  at_ : ∃ b o, (fs ≠ [] → a = some ⟨b, o, none⟩ ∧ b < w.heap.size) ∧ ∀ (j : Nat) f, fs[j]? = some f → w.cell? ⟨b, o + j * 4, none⟩ = some (.string f.tag) ∧ w.cell? ⟨b, o + j * 4 + 1, none⟩ = some (.string f.ind) ∧
    (∃ sa sc, w.cell? ⟨b, o + j * 4 + 2, none⟩ = some (.slice sa f.subs.length sc) ∧ SubA w sa sc f.subs) ∧ w.cell? ⟨b, o + j * 4 + 3, none⟩ = some (.int .i64 f.auth)
theorem FldA.below {w w' : World} {a : Option Addr} {c : Nat} {fs : List Fl} (h : FldA w a c fs) (hb : Below w.heap.size w w') : FldA w' a c fs := by
  obtain ⟨b, o, h1, h2⟩ := h.at_
  refine ⟨h.cap, h.max, b, o, fun hn => ⟨(h1 hn).1, Nat.lt_of_lt_of_le (h1 hn).2 hb.size⟩, fun j x hx => ?_⟩
  obtain ⟨c0, c1, ⟨sa, sc, c2, hs⟩, c3⟩ := h2 j x hx
  exact ⟨cell_later hb c0, cell_later hb c1, ⟨sa, sc, cell_later hb c2, hs.below hb⟩, cell_later hb c3⟩
theorem SubA.get {w : World} {a : Option Addr} {c : Nat} {xs : List (UInt8 × ByteArray)} (h : SubA w a c xs) {k : Nat} {x : UInt8 × ByteArray} (hk : xs[k]? = some x) :
    ∃ b o, a = some ⟨b, o, none⟩ ∧ b < w.heap.size ∧ w.cell? ⟨b, o + k * 2, none⟩ = some (.int .u8 x.1.toNat) ∧ w.cell? ⟨b, o + k * 2 + 1, none⟩ = some (.string x.2) := by
  obtain ⟨b, o, h1, h2⟩ := h.at_
  have hne : xs ≠ [] := by intro h0; subst h0; simp at hk
  exact ⟨b, o, (h1 hne).1, (h1 hne).2, (h2 k x hk).1, (h2 k x hk).2⟩
theorem FldA.get {w : World} {a : Option Addr} {c : Nat} {xs : List Fl} (h : FldA w a c xs) {k : Nat} {f : Fl} (hk : xs[k]? = some f) :
    ∃ b o sa sc, a = some ⟨b, o, none⟩ ∧ b < w.heap.size ∧ w.cell? ⟨b, o + k * 4, none⟩ = some (.string f.tag) ∧ w.cell? ⟨b, o + k * 4 + 1, none⟩ = some (.string f.ind) ∧
      w.cell? ⟨b, o + k * 4 + 2, none⟩ = some (.slice sa f.subs.length sc) ∧ w.cell? ⟨b, o + k * 4 + 3, none⟩ = some (.int .i64 f.auth) ∧ SubA w sa sc f.subs := by
  obtain ⟨b, o, h1, h2⟩ := h.at_
  have hne : xs ≠ [] := by intro h0; subst h0; simp at hk
  obtain ⟨c0, c1, ⟨sa, sc, c2, hs⟩, c3⟩ := h2 k f hk
  exact ⟨b, o, sa, sc, (h1 hne).1, (h1 hne).2, c0, c1, c2, c3, hs⟩
theorem allV_take {xs : List (UInt8 × ByteArray)} {k : Nat} {x : UInt8 × ByteArray} (codes : By) (h : xs[k]? = some x) : allV (xs.take (k + 1)) codes = allV (xs.take k) codes ++ (if hasCode codes x.1 = true then [x.2] else []) := by
  unfold allV
  rw [List.take_add_one, h]
  simp only [Option.toList, List.filter_append, List.map_append]
  congr 1
  by_cases hc : hasCode codes x.1 = true
  · simp [hc]
  · simp [hc]
theorem indexByte_mem : ∀ (l : By) (c : UInt8), 0 ≤ Lib.indexByte l c ↔ c ∈ l
  | [], c => by simp [Lib.indexByte]
  | b :: l, c => by
    have ih := indexByte_mem l c
    have hg := Lib.indexByte_ge l c
    unfold Lib.indexByte
    by_cases hb : b = c
    · subst hb; simp
    · have hb' : (b == c) = false := by simpa using hb
      rw [hb', List.mem_cons]
      simp only [Bool.false_eq_true, if_false]
      by_cases h1 : Lib.indexByte l c = -1
      · rw [h1] at ih ⊢
        simp only [beq_self_eq_true, if_true]
        constructor
        · intro h; omega
        · rintro (h | h)
          · exact absurd h.symm hb
          · have := ih.2 h; omega
      · have h2 : (Lib.indexByte l c == -1) = false := by simpa using h1
        rw [h2]
        simp only [Bool.false_eq_true, if_false]
        constructor
        · intro _; exact .inr (ih.1 (by omega))
        · rintro (h | h)
          · exact absurd h.symm hb
          · have := ih.2 h; omega
theorem code_in {codes : By} {c : UInt8} (h : codes ≠ []) : 0 ≤ Lib.indexByte codes c ↔ hasCode codes c = true := by
  rw [indexByte_mem]
  unfold hasCode
  have : codes.isEmpty = false := by simpa using h
  simp [this]
theorem code_none {codes : By} (c : UInt8) (h : codes = []) : hasCode codes c = true := by subst h; rfl
theorem take_all {α : Type} (l : List α) : l.take l.length = l := List.take_of_length_le (Nat.le_refl _)
end Rc

end Go.Proofs.YtogpghpgnpoioaaGreatDoor

/- Memory: flat lists of structs; lists of subfields, fields and records that the call owns, or that lie at an address. -/
namespace Go.Proofs.YtogpghpgnpoioaaGreatDoor
open Go.RowKit
set_option maxRecDepth 100000

namespace Br
/-- The slice holds these structs, cell for cell. -/
structure FA {α : Type} (enc : α → List Value) (size : Nat) (w : World) (a : Option Addr) (c : Nat) (xs : List α) : Prop where
  cap : xs.length ≤ c
  max : c ≤ maxLen
  at_ : ∃ b o, (xs ≠ [] → a = some ⟨b, o, none⟩ ∧ b < w.heap.size) ∧ ∀ (j i : Nat) (x : α) (u : Value), xs[j]? = some x → (enc x)[i]? = some u → w.cell? ⟨b, o + j * size + i, none⟩ = some u
variable {α : Type} {enc : α → List Value} {size : Nat}
theorem FA.below {w w' : World} {a : Option Addr} {c : Nat} {xs : List α} (h : FA enc size w a c xs) (hb : Below w.heap.size w w') : FA enc size w' a c xs := by
  obtain ⟨b, o, h1, h2⟩ := h.at_
  exact ⟨h.cap, h.max, b, o, fun hn => ⟨(h1 hn).1, Nat.lt_of_lt_of_le (h1 hn).2 hb.size⟩, fun j i x u hx hu => cell_later hb (h2 j i x u hx hu)⟩
theorem FA.get {w : World} {a : Option Addr} {c : Nat} {xs : List α} (h : FA enc size w a c xs) {k : Nat} {x : α} (hk : xs[k]? = some x) :
    ∃ b o, a = some ⟨b, o, none⟩ ∧ b < w.heap.size ∧ ∀ i u, (enc x)[i]? = some u → w.cell? ⟨b, o + k * size + i, none⟩ = some u := by
  obtain ⟨b, o, h1, h2⟩ := h.at_
  have hne : xs ≠ [] := by intro h0; subst h0; simp at hk
  exact ⟨b, o, (h1 hne).1, (h1 hne).2, fun i u hu => h2 k i x u hk hu⟩
theorem FA.none {w : World} {a : Option Addr} {c : Nat} {xs : List α} (h : FA enc size w a c xs) : a = none → xs.length = 0 := by
  intro ha
  obtain ⟨b, o, h1, _⟩ := h.at_
  cases xs with
  | nil => rfl
  | cons x r => have := (h1 (by simp)).1; rw [ha] at this; cases this
theorem FA.cells (hs : ∀ x, (enc x).length = size) (h0 : 0 < size) {w : World} {a : Option Addr} {c : Nat} {xs : List α} (h : FA enc size w a c xs) : ∀ ad, a = some ad → ∀ j u, (xs.flatMap enc)[j]? = some u → w.cell? (ad.add j) = some u := by
  intro ad ha j u hj
  have hl : j < xs.length * size := by
    have := (List.getElem?_eq_some_iff.1 hj).1
    rw [flat_len enc size hs] at this
    exact this
  have hk : j / size < xs.length := (Nat.div_lt_iff_lt_mul h0).2 hl
  obtain ⟨x, hx⟩ : ∃ x, xs[j / size]? = some x := ⟨_, List.getElem?_eq_getElem hk⟩
  have hi := Nat.mod_lt j h0
  have e : j / size * size + j % size = j := by rw [Nat.mul_comm]; exact Nat.div_add_mod j size
  have hf := flat_at enc size hs xs (j / size) (j % size) x hx hi
  rw [e, hj] at hf
  obtain ⟨b, o, hb, _, hc⟩ := h.get hx
  rw [hb] at ha
  injection ha with ha
  subst ha
  have := hc (j % size) u hf.symm
  rw [Nat.add_assoc, e] at this
  rw [Cs.add_at]
  exact this
theorem FA.of_own (hs : ∀ x, (enc x).length = size) {w : World} {B e n : Nat} {v : Value} {xs : List α} (h : w.ownsRow B e size v n (xs.flatMap enc)) (hn : n = xs.length) : ∃ a c, v = .slice a xs.length c ∧ FA enc size w a c xs ∧ (∀ g, a = some g → B ≤ g.block) := by
  obtain ⟨a, c, rfl, hc, hm, hx⟩ := own_any hs h hn
  have hB : ∀ g, a = some g → B ≤ g.block := by
    intro g hg
    subst hg
    rcases h.2 with ⟨h7, _⟩ | ⟨g7, _, _, h7, h8, _⟩
    · cases h7
    · cases h7; exact h8
  refine ⟨a, c, rfl, ⟨hc, hm, ?_⟩, hB⟩
  rcases hx with rfl | ⟨g, rfl, _, hg, hat⟩
  · exact ⟨0, 0, fun h9 => absurd rfl h9, fun j i x u hj => by simp at hj⟩
  · refine ⟨g, 0, fun _ => ⟨rfl, hg⟩, fun j i x u hj hu => ?_⟩
    rw [Nat.zero_add]
    exact hat j i x u hj (by rw [← hs x]; exact (List.getElem?_eq_some_iff.1 hu).1) hu
/-- Things chosen for the elements of a list. -/
theorem choose_list {α β : Type} : ∀ (l : List α) (P : Nat → α × β → Prop), (∀ j x, l[j]? = some x → ∃ y, P j (x, y)) → ∃ T : List (α × β), T.map (·.1) = l ∧ ∀ j t, T[j]? = some t → P j t
  | [], _, _ => ⟨[], rfl, fun j t h => by simp at h⟩
  | x :: l, P, h => by
    obtain ⟨y, hy⟩ := h 0 x rfl
    obtain ⟨T, h1, h2⟩ := choose_list l (fun j => P (j + 1)) (fun j z hz => h (j + 1) z (by simpa using hz))
    refine ⟨(x, y) :: T, by simp [h1], fun j t ht => ?_⟩
    cases j with
    | zero => simp at ht; subst ht; exact hy
    | succ j => exact h2 j t (by simpa using ht)
theorem flat_one (h : ∀ x, ∀ u ∈ enc x, u.oneCell' = true) (xs : List α) : ∀ u ∈ xs.flatMap enc, u.oneCell' = true := fun u hu => by
  obtain ⟨x, _, h2⟩ := List.mem_flatMap.1 hu
  exact h x u h2
end Br

namespace Rc
open Go.Lib
/-! subfields -/
abbrev encS (x : UInt8 × ByteArray) : List Value := [.int .u8 x.1.toNat, .string x.2]
theorem encS_len (x : UInt8 × ByteArray) : (encS x).length = 2 := rfl
theorem encS_one (x : UInt8 × ByteArray) : ∀ u ∈ encS x, u.oneCell' = true := by simp [encS, Value.oneCell']
theorem SubA.fa {w : World} {a : Option Addr} {c : Nat} {xs : List (UInt8 × ByteArray)} (h : SubA w a c xs) : Br.FA encS 2 w a c xs := by
  obtain ⟨b, o, h1, h2⟩ := h.at_
  refine ⟨h.cap, h.max, b, o, h1, fun j i x u hx hu => ?_⟩
  have := h2 j x hx
  match i, hu with
  | 0, hu => injection hu with hu; rw [← hu]; exact this.1
  | 1, hu => injection hu with hu; rw [← hu]; exact this.2
  | i + 2, hu => simp [encS] at hu
theorem SubA.of_fa {w : World} {a : Option Addr} {c : Nat} {xs : List (UInt8 × ByteArray)} (h : Br.FA encS 2 w a c xs) : SubA w a c xs := by
  obtain ⟨b, o, h1, h2⟩ := h.at_
  exact ⟨h.cap, h.max, b, o, h1, fun j x hx => ⟨h2 j 0 x _ hx rfl, h2 j 1 x _ hx rfl⟩⟩
theorem SubA.of_own {w : World} {B e n : Nat} {v : Value} {xs : List (UInt8 × ByteArray)} (h : w.ownsRow B e 2 v n (xs.flatMap encS)) (hn : n = xs.length) : ∃ a c, v = .slice a xs.length c ∧ SubA w a c xs := by
  obtain ⟨a, c, e1, h1, _⟩ := Br.FA.of_own encS_len h hn
  exact ⟨a, c, e1, .of_fa h1⟩
/-! fields -/
/-- A field with the slice of its subfields. -/
abbrev FT := Fl × Option Addr × Nat
abbrev encF (t : FT) : List Value := [.string t.1.tag, .string t.1.ind, .slice t.2.1 t.1.subs.length t.2.2, .int .i64 t.1.auth]
theorem encF_len (t : FT) : (encF t).length = 4 := rfl
theorem f_new (w : World) (g : Nat) (hg : g = w.heap.size) (f : Fl) (sa : Option Addr) (sc : Nat) (t : TypeId) : ∀ j u, (encF (f, sa, sc))[j]? = some u → (w.alloc (.cells #[.string f.tag, .string f.ind, .slice sa f.subs.length sc, .int .i64 f.auth] t)).cell? ((⟨g, 0, none⟩ : Addr).add j) = some u :=
  Br.cells_new_at w g hg _ t
theorem f_one (t : FT) : ∀ u ∈ encF t, u.oneCell' = true := by simp [encF, Value.oneCell']
theorem FldA.of_fa {w : World} {a : Option Addr} {c : Nat} {T : List FT} (h : Br.FA encF 4 w a c T) (hs : ∀ t ∈ T, SubA w t.2.1 t.2.2 t.1.subs) : FldA w a c (T.map (·.1)) := by
  obtain ⟨b, o, h1, h2⟩ := h.at_
  refine ⟨by rw [List.length_map]; exact h.cap, h.max, b, o, fun h9 => h1 (fun h8 => h9 (by rw [h8]; rfl)), fun j f hj => ?_⟩
  rw [List.getElem?_map] at hj
  obtain ⟨x, hx, rfl⟩ := Option.map_eq_some_iff.1 hj
  exact ⟨h2 j 0 x _ hx rfl, h2 j 1 x _ hx rfl, ⟨x.2.1, x.2.2, h2 j 2 x _ hx rfl, hs x (List.mem_of_getElem? hx)⟩, h2 j 3 x _ hx rfl⟩
theorem FldA.of_own {w : World} {B e n : Nat} {v : Value} {T : List FT} (h : w.ownsRow B e 4 v n (T.flatMap encF)) (hn : n = T.length) (hs : ∀ t ∈ T, SubA w t.2.1 t.2.2 t.1.subs) : ∃ a c, v = .slice a (T.map (·.1)).length c ∧ FldA w a c (T.map (·.1)) := by
  obtain ⟨a, c, e1, h1, _⟩ := Br.FA.of_own encF_len h hn
  exact ⟨a, c, by rw [List.length_map]; exact e1, .of_fa h1 hs⟩
theorem FldA.fa {w : World} {a : Option Addr} {c : Nat} {fs : List Fl} (h : FldA w a c fs) : ∃ T : List FT, T.map (·.1) = fs ∧ Br.FA encF 4 w a c T ∧ ∀ t ∈ T, SubA w t.2.1 t.2.2 t.1.subs := by
  obtain ⟨b, o, h1, h2⟩ := h.at_
  obtain ⟨T, e, hT⟩ := Br.choose_list fs (fun j (t : FT) => (w.cell? ⟨b, o + j * 4, none⟩ = some (.string t.1.tag) ∧ w.cell? ⟨b, o + j * 4 + 1, none⟩ = some (.string t.1.ind) ∧ w.cell? ⟨b, o + j * 4 + 2, none⟩ = some (.slice t.2.1 t.1.subs.length t.2.2) ∧ w.cell? ⟨b, o + j * 4 + 3, none⟩ = some (.int .i64 t.1.auth)) ∧ SubA w t.2.1 t.2.2 t.1.subs) (fun j f hf => by
    obtain ⟨d0, d1, ⟨sa, sc, d2, hs⟩, d3⟩ := h2 j f hf
    exact ⟨(sa, sc), ⟨d0, d1, d2, d3⟩, hs⟩)
  refine ⟨T, e, ⟨by rw [← List.length_map (f := fun x : FT => x.1), e]; exact h.cap, h.max, b, o, fun h9 => h1 (fun h8 => h9 (by rw [← e] at h8; simpa using h8)), fun j i x u hx hu => ?_⟩, fun t ht => ?_⟩
  · obtain ⟨d0, d1, d2, d3⟩ := (hT j x hx).1
    match i, hu with
    | 0, hu => injection hu with hu; rw [← hu]; exact d0
    | 1, hu => injection hu with hu; rw [← hu]; exact d1
    | 2, hu => injection hu with hu; rw [← hu]; exact d2
    | 3, hu => injection hu with hu; rw [← hu]; exact d3
    | i + 4, hu => simp [encF] at hu
  · obtain ⟨j, hj⟩ := List.getElem?_of_mem ht
    exact (hT j t hj).2
/-! records -/
/-- A record with the slice of its fields. -/
abbrev RT := Rd × Option Addr × Nat
abbrev encR (t : RT) : List Value := [.int .i64 t.1.id, .int .i64 t.1.ver, .int .i64 t.1.kind, .string t.1.lang, .slice t.2.1 t.1.fields.length t.2.2]
theorem encR_len (t : RT) : (encR t).length = 5 := rfl
theorem r_one (t : RT) : ∀ u ∈ encR t, u.oneCell' = true := by simp [encR, Value.oneCell']
theorem r_new (w : World) (g : Nat) (hg : g = w.heap.size) (r : Rd) (fa : Option Addr) (fc : Nat) (t : TypeId) : ∀ j u, (encR (r, fa, fc))[j]? = some u → (w.alloc (.cells #[.int .i64 r.id, .int .i64 r.ver, .int .i64 r.kind, .string r.lang, .slice fa r.fields.length fc] t)).cell? ((⟨g, 0, none⟩ : Addr).add j) = some u :=
  Br.cells_new_at w g hg _ t
/-- The slice holds these records. -/
structure RdA (w : World) (a : Option Addr) (c : Nat) (rs : List Rd) : Prop where
  cap : rs.length ≤ c
  max : c ≤ maxLen
  at_ : ∃ b o, (rs ≠ [] → a = some ⟨b, o, none⟩ ∧ b < w.heap.size) ∧ ∀ (j : Nat) r, rs[j]? = some r → w.cell? ⟨b, o + j * 5, none⟩ = some (.int .i64 r.id) ∧ w.cell? ⟨b, o + j * 5 + 1, none⟩ = some (.int .i64 r.ver) ∧ w.cell? ⟨b, o + j * 5 + 2, none⟩ = some (.int .i64 r.kind) ∧ w.cell? ⟨b, o + j * 5 + 3, none⟩ = some (.string r.lang) ∧
    ∃ fa fc, w.cell? ⟨b, o + j * 5 + 4, none⟩ = some (.slice fa r.fields.length fc) ∧ FldA w fa fc r.fields
theorem RdA.below {w w' : World} {a : Option Addr} {c : Nat} {rs : List Rd} (h : RdA w a c rs) (hb : Below w.heap.size w w') : RdA w' a c rs := by
  obtain ⟨b, o, h1, h2⟩ := h.at_
  refine ⟨h.cap, h.max, b, o, fun hn => ⟨(h1 hn).1, Nat.lt_of_lt_of_le (h1 hn).2 hb.size⟩, fun j x hx => ?_⟩
  obtain ⟨c0, c1, c2, c3, fa, fc, c4, hf⟩ := h2 j x hx
  exact ⟨cell_later hb c0, cell_later hb c1, cell_later hb c2, cell_later hb c3, fa, fc, cell_later hb c4, hf.below hb⟩
theorem RdA.get {w : World} {a : Option Addr} {c : Nat} {rs : List Rd} (h : RdA w a c rs) {k : Nat} {r : Rd} (hk : rs[k]? = some r) :
    ∃ b o fa fc, a = some ⟨b, o, none⟩ ∧ b < w.heap.size ∧ w.cell? ⟨b, o + k * 5, none⟩ = some (.int .i64 r.id) ∧ w.cell? ⟨b, o + k * 5 + 1, none⟩ = some (.int .i64 r.ver) ∧ w.cell? ⟨b, o + k * 5 + 2, none⟩ = some (.int .i64 r.kind) ∧ w.cell? ⟨b, o + k * 5 + 3, none⟩ = some (.string r.lang) ∧
      w.cell? ⟨b, o + k * 5 + 4, none⟩ = some (.slice fa r.fields.length fc) ∧ FldA w fa fc r.fields := by
  obtain ⟨b, o, h1, h2⟩ := h.at_
  have hne : rs ≠ [] := by intro h0; subst h0; simp at hk
  obtain ⟨c0, c1, c2, c3, fa, fc, c4, hf⟩ := h2 k r hk
  exact ⟨b, o, fa, fc, (h1 hne).1, (h1 hne).2, c0, c1, c2, c3, c4, hf⟩
theorem RdA.of_fa {w : World} {a : Option Addr} {c : Nat} {T : List RT} (h : Br.FA encR 5 w a c T) (hs : ∀ t ∈ T, FldA w t.2.1 t.2.2 t.1.fields) : RdA w a c (T.map (·.1)) := by
  obtain ⟨b, o, h1, h2⟩ := h.at_
  refine ⟨by rw [List.length_map]; exact h.cap, h.max, b, o, fun h9 => h1 (fun h8 => h9 (by rw [h8]; rfl)), fun j f hj => ?_⟩
  rw [List.getElem?_map] at hj
  obtain ⟨x, hx, rfl⟩ := Option.map_eq_some_iff.1 hj
  exact ⟨h2 j 0 x _ hx rfl, h2 j 1 x _ hx rfl, h2 j 2 x _ hx rfl, h2 j 3 x _ hx rfl, x.2.1, x.2.2, h2 j 4 x _ hx rfl, hs x (List.mem_of_getElem? hx)⟩
theorem RdA.of_own {w : World} {B e n : Nat} {v : Value} {T : List RT} (h : w.ownsRow B e 5 v n (T.flatMap encR)) (hn : n = T.length) (hs : ∀ t ∈ T, FldA w t.2.1 t.2.2 t.1.fields) : ∃ a c, v = .slice a (T.map (·.1)).length c ∧ RdA w a c (T.map (·.1)) := by
  obtain ⟨a, c, e1, h1, _⟩ := Br.FA.of_own encR_len h hn
  exact ⟨a, c, by rw [List.length_map]; exact e1, .of_fa h1 hs⟩
theorem RdA.fa {w : World} {a : Option Addr} {c : Nat} {rs : List Rd} (h : RdA w a c rs) : ∃ T : List RT, T.map (·.1) = rs ∧ Br.FA encR 5 w a c T ∧ ∀ t ∈ T, FldA w t.2.1 t.2.2 t.1.fields := by
  obtain ⟨b, o, h1, h2⟩ := h.at_
  obtain ⟨T, e, hT⟩ := Br.choose_list rs (fun j (t : RT) => (w.cell? ⟨b, o + j * 5, none⟩ = some (.int .i64 t.1.id) ∧ w.cell? ⟨b, o + j * 5 + 1, none⟩ = some (.int .i64 t.1.ver) ∧ w.cell? ⟨b, o + j * 5 + 2, none⟩ = some (.int .i64 t.1.kind) ∧ w.cell? ⟨b, o + j * 5 + 3, none⟩ = some (.string t.1.lang) ∧ w.cell? ⟨b, o + j * 5 + 4, none⟩ = some (.slice t.2.1 t.1.fields.length t.2.2)) ∧ FldA w t.2.1 t.2.2 t.1.fields) (fun j f hf => by
    obtain ⟨c0, c1, c2, c3, fa, fc, c4, hs⟩ := h2 j f hf
    exact ⟨(fa, fc), ⟨c0, c1, c2, c3, c4⟩, hs⟩)
  refine ⟨T, e, ⟨by rw [← List.length_map (f := fun x : RT => x.1), e]; exact h.cap, h.max, b, o, fun h9 => h1 (fun h8 => h9 (by rw [← e] at h8; simpa using h8)), fun j i x u hx hu => ?_⟩, fun t ht => ?_⟩
  · obtain ⟨d0, d1, d2, d3, d4⟩ := (hT j x hx).1
    match i, hu with
    | 0, hu => injection hu with hu; rw [← hu]; exact d0
    | 1, hu => injection hu with hu; rw [← hu]; exact d1
    | 2, hu => injection hu with hu; rw [← hu]; exact d2
    | 3, hu => injection hu with hu; rw [← hu]; exact d3
    | 4, hu => injection hu with hu; rw [← hu]; exact d4
    | i + 5, hu => simp [encR] at hu
  · obtain ⟨j, hj⟩ := List.getElem?_of_mem ht
    exact (hT j t hj).2
end Rc
theorem info_sub : (Tryz.prog.info? 66).map (fun i => (i.zero, i.size, i.bytes)) = some (some (.agg #[.int .u8 0, .string ⟨#[]⟩]), 2, 24) := by kernel_rfl
theorem info_fld : (Tryz.prog.info? 57).map (fun i => (i.zero, i.size, i.bytes)) = some (some (.agg #[.string ⟨#[]⟩, .string ⟨#[]⟩, .slice none 0 0, .int .i64 0]), 4, 64) := by kernel_rfl
theorem info_rec : (Tryz.prog.info? 33).map (fun i => (i.zero, i.size, i.bytes)) = some (some (.agg #[.int .i64 0, .int .i64 0, .int .i64 0, .string ⟨#[]⟩, .slice none 0 0]), 5, 64) := by kernel_rfl
end Go.Proofs.YtogpghpgnpoioaaGreatDoor

/- A map from numbers to pointers that the call makes, and the groups of copies in memory: laws. -/
namespace Go.Proofs.YtogpghpgnpoioaaGreatDoor
open Go.RowKit
set_option maxRecDepth 100000

/-- How a pointer to the head of a block reads. -/
def ptrE (v : Value) : Option (DataW Unit × List MemPlace) := match v with
  | .pointer none => some (.lit (.int .i64 0), [])
  | .pointer (some ⟨p, 0, none⟩) => some (.lit (.int .i64 ((p : Int) + 1)), [])
  | _ => none
theorem ptrE_none {v : Value} {ps : List MemPlace} (h : ptrE v = some (.lit (.int .i64 0), ps)) : v = .pointer none := by
  unfold ptrE at h
  split at h
  · rfl
  · simp at h
    omega
  · cases h
theorem ptrE_some {v : Value} {p : Nat} {ps : List MemPlace} (h : ptrE v = some (.lit (.int .i64 ((p : Int) + 1)), ps)) : v = .pointer (some ⟨p, 0, none⟩) := by
  unfold ptrE at h
  split at h
  · simp at h
    omega
  · rename_i q
    simp at h
    have : q = p := by omega
    rw [this]
  · cases h

/-- The map's block leads each number to the block that f says. -/
structure PMap (w : World) (M n : Nat) (f : Int → Option Nat) : Prop where
  d : ∃ D : DataW Unit, w.ownsMap Tryz.prog 3 ptrE M n D ∧ ∀ b, (Lit.int .i64 b).wf = true → Maps.has D (.int .i64 b) = (f b).isSome ∧ D.atKey (.int .i64 b) (.lit (.int .i64 0)) = .lit (.int .i64 (match f b with | some p => (p : Int) + 1 | none => 0))
theorem pkey : Maps.Keyed Tryz.prog 3 := Maps.int_keyed Tryz.underlying3
theorem PMap.of_block {w w' : World} {M n : Nat} {f : Int → Option Nat} (h : PMap w M n f) (hb : w'.heap[M]? = w.heap[M]?) : PMap w' M n f := by
  obtain ⟨D, ⟨es, clock, h1, h2⟩, h3⟩ := h.d
  exact ⟨D, ⟨es, clock, hb.trans h1, h2⟩, h3⟩
theorem PMap.lt {w : World} {M n : Nat} {f : Int → Option Nat} (h : PMap w M n f) : M < w.heap.size := by
  obtain ⟨D, h1, _⟩ := h.d
  exact h1.lt
theorem PMap.obj {w : World} {M n : Nat} {f : Int → Option Nat} (h : PMap w M n f) : ∃ es c, w.heap[M]? = some (.map es c) := by
  obtain ⟨D, ⟨es, clock, h1, _⟩, _⟩ := h.d
  exact ⟨es, clock, h1⟩
theorem PMap.made (w : World) : PMap (w.alloc (.map #[] 0)) w.heap.size 0 (fun _ => none) :=
  ⟨⟨.map [], World.ownsMap_made _ _ _ _, fun _ _ => ⟨rfl, rfl⟩⟩⟩
section
variable {w : World} {ops : Array Oper} {rest : List Oper} {o : Oper} {a : Act} {Q : Exit → Act → World → Prop} {M n : Nat} {f : Int → Option Nat}
end

/-! ### blocks -/
theorem hp_set_same {w : World} {g : Nat} {cs : Array Value} {t : TypeId} (h : w.heap[g]? = some (.cells cs t (0, 0))) (i : Nat) (u : Value) : (w.setCell ⟨g, i, none⟩ u).heap[g]? = some (.cells (cs.setIfInBounds i u) t (0, 0)) := by
  simp [World.setCell, Array.getElem?_modify, h]
theorem hp_set_ne {w : World} {g k : Nat} (hk : k ≠ g) (i : Nat) (u : Value) : (w.setCell ⟨g, i, none⟩ u).heap[k]? = w.heap[k]? := Below.heap_setCell w ⟨g, i, none⟩ u k hk
theorem hp_alloc {w : World} {k : Nat} (hk : k < w.heap.size) (o : Obj) : (w.alloc o).heap[k]? = w.heap[k]? := Below.heap_alloc w o k hk
theorem own_of_block {w w' : World} {B e size n : Nat} {v : Value} {xs : List Value} (h : w.ownsRow B e size v n xs) (hb : ∀ g, v.ownBlock = some g → w'.heap[g]? = w.heap[g]?) : w'.ownsRow B e size v n xs := by
  refine ⟨h.1, ?_⟩
  rcases h.2 with hn | ⟨g, cap, cur, rfl, hg, hgg, rest⟩
  · exact .inl hn
  · exact .inr ⟨g, cap, cur, rfl, hg, by rw [hb g rfl]; exact hgg, rest⟩
theorem own_obj {w : World} {B e size n : Nat} {v : Value} {xs : List Value} (h : w.ownsRow B e size v n xs) {g : Nat} (hg : v.ownBlock = some g) : B ≤ g ∧ ∃ cur, w.heap[g]? = some (.cells cur e (0, 0)) := by
  rcases h.2 with ⟨rfl, _⟩ | ⟨g', cap, cur, rfl, hb, hgg, _⟩
  · cases hg
  · injection hg with hg
    subst hg
    exact ⟨hb, cur, hgg⟩

namespace Cp
open Rc
/-- The slice holds these items. -/
structure ItA (w : World) (a : Option Addr) (c : Nat) (xs : List It) : Prop where
  cap : xs.length ≤ c
  max : c ≤ maxLen
  at_ : ∃ b o, (xs ≠ [] → a = some ⟨b, o, none⟩ ∧ b < w.heap.size) ∧ ∀ (j : Nat) x, xs[j]? = some x → w.cell? ⟨b, o + j * 10, none⟩ = some (.int .i64 x.id) ∧ w.cell? ⟨b, o + j * 10 + 1, none⟩ = some (.int .i64 x.rec_) ∧ w.cell? ⟨b, o + j * 10 + 2, none⟩ = some (.int .i64 x.branch) ∧
    w.cell? ⟨b, o + j * 10 + 3, none⟩ = some (.int .i64 x.kind) ∧ w.cell? ⟨b, o + j * 10 + 4, none⟩ = some (.int .i64 x.price) ∧ w.cell? ⟨b, o + j * 10 + 5, none⟩ = some (.string x.call) ∧ w.cell? ⟨b, o + j * 10 + 6, none⟩ = some (.int .i64 x.state) ∧
    w.cell? ⟨b, o + j * 10 + 7, none⟩ = some (.int .i64 x.cb) ∧ w.cell? ⟨b, o + j * 10 + 8, none⟩ = some (.int .i64 x.who) ∧ w.cell? ⟨b, o + j * 10 + 9, none⟩ = some (.int .i64 x.to_)
theorem ItA.get {w : World} {a : Option Addr} {c : Nat} {xs : List It} (h : ItA w a c xs) {k : Nat} {x : It} (hk : xs[k]? = some x) :
    ∃ b o, a = some ⟨b, o, none⟩ ∧ b < w.heap.size ∧ w.cell? ⟨b, o + k * 10, none⟩ = some (.int .i64 x.id) ∧ w.cell? ⟨b, o + k * 10 + 1, none⟩ = some (.int .i64 x.rec_) ∧ w.cell? ⟨b, o + k * 10 + 2, none⟩ = some (.int .i64 x.branch) ∧
    w.cell? ⟨b, o + k * 10 + 3, none⟩ = some (.int .i64 x.kind) ∧ w.cell? ⟨b, o + k * 10 + 4, none⟩ = some (.int .i64 x.price) ∧ w.cell? ⟨b, o + k * 10 + 5, none⟩ = some (.string x.call) ∧ w.cell? ⟨b, o + k * 10 + 6, none⟩ = some (.int .i64 x.state) ∧
    w.cell? ⟨b, o + k * 10 + 7, none⟩ = some (.int .i64 x.cb) ∧ w.cell? ⟨b, o + k * 10 + 8, none⟩ = some (.int .i64 x.who) ∧ w.cell? ⟨b, o + k * 10 + 9, none⟩ = some (.int .i64 x.to_) := by
  obtain ⟨b, o, h1, h2⟩ := h.at_
  have hne : xs ≠ [] := by intro h0; subst h0; simp at hk
  exact ⟨b, o, (h1 hne).1, (h1 hne).2, h2 k x hk⟩
theorem ItA.below {w w' : World} {a : Option Addr} {c : Nat} {xs : List It} (h : ItA w a c xs) (hb : Below w.heap.size w w') : ItA w' a c xs := by
  obtain ⟨b, o, h1, h2⟩ := h.at_
  refine ⟨h.cap, h.max, b, o, fun hn => ⟨(h1 hn).1, Nat.lt_of_lt_of_le (h1 hn).2 hb.size⟩, fun j x hx => ?_⟩
  obtain ⟨c0, c1, c2, c3, c4, c5, c6, c7, c8, c9⟩ := h2 j x hx
  exact ⟨cell_later hb c0, cell_later hb c1, cell_later hb c2, cell_later hb c3, cell_later hb c4, cell_later hb c5, cell_later hb c6, cell_later hb c7, cell_later hb c8, cell_later hb c9⟩

/-- The block of a group: how many items, how many on the shelf, their calls. -/
abbrev gcells (l : List It) (b : Int) (v : Value) : Array Value := #[.int .i64 ((ofB b l).length : Nat), .int .i64 (shelf (ofB b l) : Nat), v]
abbrev strs (l : List By) : List Value := l.map fun x => Value.string ⟨x.toArray⟩
theorem ofB_snoc_same {b : Int} {l : List It} {x : It} (h : x.branch = b) : ofB b (l ++ [x]) = ofB b l ++ [x] := by
  unfold ofB; rw [List.filter_append]; simp [h]
theorem ofB_snoc_ne {b : Int} {l : List It} {x : It} (h : x.branch ≠ b) : ofB b (l ++ [x]) = ofB b l := by
  unfold ofB; rw [List.filter_append]; simp [h]
theorem ofB_none {b : Int} {l : List It} (h : ∀ x ∈ l, x.branch ≠ b) : ofB b l = [] := by
  unfold ofB
  rw [List.filter_eq_nil_iff]
  intro x hx
  simpa using h x hx
def cset (c : Int → Value) (b : Int) (v : Value) : Int → Value := fun y => if y = b then v else c y
def pset (p : Int → Nat) (b : Int) (v : Nat) : Int → Nat := fun y => if y = b then v else p y
theorem cset_same (c : Int → Value) (b : Int) (v : Value) : cset c b v b = v := if_pos rfl
theorem pset_same (p : Int → Nat) (b : Int) (v : Nat) : pset p b v b = v := if_pos rfl
theorem own_ne_blk {w : World} {B e size n P : Nat} {v : Value} {xs : List Value} {cs : Array Value} {t : TypeId} (h : w.ownsRow B e size v n xs) (hP : w.heap[P]? = some (.cells cs t (0, 0))) (hne : e ≠ t) : ∀ g, v.ownBlock = some g → g ≠ P := fun g hg he => by
  obtain ⟨_, cur, hc⟩ := own_obj h hg
  rw [he, hP] at hc
  injection hc with hc
  injection hc with _ h2 _
  exact hne h2.symm
theorem len_snoc (l : List It) (x : It) : ((ofB x.branch (l ++ [x])).length : Int) = (ofB x.branch l).length + 1 := by
  rw [ofB_snoc_same rfl, List.length_append]; simp
theorem own_ne_map {w : World} {B e size n M m : Nat} {v : Value} {xs : List Value} {f : Int → Option Nat} (h : w.ownsRow B e size v n xs) (hM : PMap w M m f) : v.ownBlock ≠ some M := fun e => by
  obtain ⟨es, cl, hM⟩ := hM.obj
  obtain ⟨_, cur, hc⟩ := own_obj h e
  rw [hM] at hc
  cases hc
theorem nodup_snoc {bs : List Int} {b : Int} (h : bs.Nodup ∧ ∀ y ∈ bs, -9223372036854775808 ≤ y ∧ y ≤ 9223372036854775807) (hb : b ∉ bs) (hw : -9223372036854775808 ≤ b ∧ b ≤ 9223372036854775807) : (bs ++ [b]).Nodup ∧ ∀ y ∈ bs ++ [b], -9223372036854775808 ≤ y ∧ y ≤ 9223372036854775807 := by
  refine ⟨?_, fun y hy => ?_⟩
  · rw [List.nodup_append]
    refine ⟨h.1, by simp, fun a ha b' hb' => ?_⟩
    simp at hb'
    subst hb'
    exact fun e => hb (e ▸ ha)
  · rcases List.mem_append.1 hy with h1 | h1
    · exact h.2 y h1
    · simp at h1; subst h1; exact hw
end Cp
end Go.Proofs.YtogpghpgnpoioaaGreatDoor

/- slices.Sort and slices.Compact on slices that the call owns: what the calls leave. -/
namespace Go.Proofs.YtogpghpgnpoioaaGreatDoor
open Go.RowKit Go.Sort
set_option maxRecDepth 100000

theorem grownBy_put {α : Type} [Inhabited α] {enc : α → Value} {w : World} {g q : Nat} {d : Array α} : w.grownBy (putRow enc (Sort.ahead w q) g 0 d) (some g) := by
  refine ⟨rfl, rfl, rfl, by simp [putRow, mapBlock, Sort.ahead], fun k hk hne => ?_⟩
  have : g ≠ k := fun e => hne (by rw [e])
  simp [putRow, mapBlock, Sort.ahead, Array.getElem?_modify, this]
theorem SortS_c {v : Value} {xs : List (List UInt8)} {B : Nat} {w : World} (h : w.ownsRow B 9 1 v xs.length (Cp.strs xs)) (hl : xs.length ≤ 1000000) :
    Calls Tryz.prog 61 #[v] w fun e w' => e = .returned (.tuple #[]) ∧ w'.ownsRow B 9 1 v xs.length (Cp.strs (xs.mergeSort fun x y => decide (x ≤ y))) ∧ w.grownBy w' v.ownBlock := by
  rcases h.2 with ⟨rfl, h0⟩ | ⟨g, cap, cur, rfl, hbase, hb, h1, h2, h3, h4⟩
  · refine (Tryz.slices_Sort_string_none none 0 w).mono fun e w' ⟨he, hw⟩ => ?_
    subst hw
    have hnil := List.eq_nil_of_length_eq_zero h0
    subst hnil
    exact ⟨he, by rw [List.mergeSort_nil]; exact World.ownsRow_nil _ _ _ _, ⟨rfl, rfl, rfl, Nat.le_refl _, fun _ _ _ => rfl⟩⟩
  · refine (Tryz.slices_Sort_string g 0 cap xs w (holds_of_block hb (by simpa using h4)) (Array.getElem?_eq_some_iff.1 hb).1 (by omega)).mono fun e w' ⟨he, n, os, hw⟩ => ?_
    subst hw
    exact ⟨he, ownsRow_sorted (by simp) hbase hb h1 h2 h3, grownBy_sorted _⟩
theorem CompactS_c {v : Value} {xs : List (List UInt8)} {B : Nat} {w : World} (h : w.ownsRow B 9 1 v xs.length (Cp.strs xs)) (hl : xs.length ≤ 1000000) :
    Calls Tryz.prog 62 #[v] w fun e w' => ∃ va vc, e = .returned (.slice va (Lib.compact xs).length vc) ∧ w'.ownsRow B 9 1 (.slice va (Lib.compact xs).length vc) (Lib.compact xs).length (Cp.strs (Lib.compact xs)) ∧ (Value.slice va (Lib.compact xs).length vc).ownBlock = v.ownBlock ∧ w.grownBy w' v.ownBlock := by
  by_cases hnil : v = .slice none 0 0
  · subst hnil
    have h0 : xs = [] := by
      rcases h.2 with ⟨_, h0⟩ | ⟨g, cap, cur, e0, _⟩
      · exact List.eq_nil_of_length_eq_zero h0
      · cases e0
    subst h0
    refine (Tryz.slices_Compact_string_empty none 0 w).mono fun e w' ⟨he, hw⟩ => ?_
    subst hw
    exact ⟨none, 0, he, World.ownsRow_nil _ _ _ _, rfl, ⟨rfl, rfl, rfl, Nat.le_refl _, fun _ _ _ => rfl⟩⟩
  · obtain ⟨g, cap, rfl, hbg, hgl, hncap, hcm, hlen, hH⟩ := Lib.holds_of_ownsRow (enc := encStr) h hnil
    have hle := Lib.compact_length_le xs
    refine (Tryz.slices_Compact_string g 0 cap xs w hH (by omega) hncap).mono fun e w' ⟨he, q, hw⟩ => ?_
    subst hw
    have hc := Lib.ownsRow_putRow (enc := encStr) (q := q) (k := (Lib.compact xs).length) (ys := Lib.compact xs ++ List.replicate (xs.length - (Lib.compact xs).length) []) h (by simp; omega) hle
    rw [List.take_left] at hc
    exact ⟨_, cap, he, hc, rfl, grownBy_put⟩
namespace Cp
theorem sorted_pairI (bs : List Int) : (bs.mergeSort fun x y => decide (x ≤ y)).Pairwise fun x y => ltI y x = false := by
  have h := List.pairwise_mergeSort (le := fun x y : Int => decide (x ≤ y)) (fun a b c h1 h2 => by simp at *; omega) (fun a b => by simp; omega) bs
  exact h.imp fun h => by unfold ltI; simp at *; omega
theorem sorted_pairS (xs : List Rc.By) : (xs.mergeSort fun x y => decide (x ≤ y)).Pairwise fun x y => ltB y x = false := by
  have h := List.pairwise_mergeSort (le := fun x y : Rc.By => decide (x ≤ y)) (fun a b c h1 h2 => by simp at *; exact List.le_trans h1 h2) (fun a b => by simp; exact List.le_total a b) xs
  exact h.imp fun h => by unfold ltB; simp at *; exact h
/-- The sorted branches are the branches put in order, where none stands twice. -/
theorem sorted_puts {bs ys : List Int} (hn : bs.Nodup) (hm : ∀ z, z ∈ bs ↔ z ∈ ys) : (bs.mergeSort fun x y => decide (x ≤ y)) = puts ltI ys := by
  have hp := List.mergeSort_perm bs fun x y => decide (x ≤ y)
  refine puts_of ordI ?_ fun z => by rw [hp.mem_iff]; exact hm z
  have hs := sorted_pairI bs
  have hnd : (bs.mergeSort fun x y => decide (x ≤ y)).Nodup := hp.nodup_iff.2 hn
  unfold Asc
  refine (hs.and hnd).imp fun ⟨h1, h2⟩ => ?_
  exact ordI.tot h1 (fun e => h2 e.symm)
theorem compact_sorted (xs : List Rc.By) : Lib.compact (xs.mergeSort fun x y => decide (x ≤ y)) = puts ltB xs := compact_puts ordB (List.mergeSort_perm _ _) (sorted_pairS xs)
end Cp
end Go.Proofs.YtogpghpgnpoioaaGreatDoor

/- An append at a step of a region that draws its order: the slice appended to still owns what it owned. -/
namespace Go.Proofs.YtogpghpgnpoioaaGreatDoor
open Go.RowKit
set_option maxRecDepth 100000

section
variable {P : Program} (w : World)
theorem run_append_keep (t ty : TypeId) (base : Nat) (e : TypeId) (i : TypeInfo) (z : Value) (bytes : Nat) (ht : P.underlying t = some (.slice e)) (hi : P.info? e = some i) (hz : i.zero = some z)
    (hsize : i.size = 1) (hby : i.bytes = bytes) (hzs : z.cells.size = 1) (v : Value) (n : Nat) (xs : List Value) (hown : w.ownsRow base e 1 v n xs)
    (a : Addr) (c : Nat) (y : Value) (hnews : ∀ j u, [y][j]? = some u → w.cell? (a.add j) = some u) (h1 : y.oneCell' = true)
    (h63 : n + 1 ≤ maxLen) (hbytes : (n + 1) * bytes ≤ 140737488355328) (hbase : base ≤ w.heap.size) :
    ∃ v' w', (Builtin.append_ #[t, t] ty #[v, .slice (some a) 1 c]).run P w = .ok v' w' ∧ w'.ownsRow base e 1 v' (n + 1) (xs ++ [y]) ∧ w.grownBy w' v.ownBlock ∧ w'.ownsRow base e 1 v n xs := by
  obtain ⟨v', w', hr, h2, h3, _, _⟩ := run_append_own_at (P := P) w base t ty e i z 1 bytes ht hi hz hsize hby hzs (by omega) v n xs hown a 1 c [y] (by simp) hnews (by simpa using h1) h63 hbytes hbase
  refine ⟨v', w', hr, h2, h3, ?_⟩
  rcases hown.2 with ⟨rfl, rfl⟩ | ⟨g, cap, cur, rfl, hbg, hg, hnc, hcm, hcs, htake⟩
  · have hx : xs = [] := List.eq_nil_of_length_eq_zero (by simpa using hown.1)
    subst hx
    exact World.ownsRow_nil _ _ _ _
  · by_cases hroom : n + 1 ≤ cap
    · have hr2 := run_append_room (P := P) w t ty e i ht hi g n cap cur hg a 1 c [y] (by simp [hsize]) hnews (by simpa using h1) hroom (by simp [hsize]; omega)
      rw [hr] at hr2
      injection hr2 with _ hw
      rw [hw]
      refine ⟨hown.1, .inr ⟨g, cap, _, rfl, hbg, setRow_heap w g cur _ e _ hg, hnc, hcm, ?_, ?_⟩⟩
      · simp [hsize]; omega
      · simp only [hsize, Nat.mul_one, List.append_assoc]
        rw [Nat.mul_one] at htake
        rw [htake]
        have hxl : xs.length = n := by have := hown.1; omega
        rw [← hxl]
        exact List.take_left
    · have holds : ∀ j u, xs[j]? = some u → w.cell? ((⟨g, 0, none⟩ : Addr).add j) = some u := hown.cells (g := g) rfl
      have hmx : maxLen = 9223372036854775807 := rfl
      have hr2 := run_append_grow (P := P) w t ty e i z ht hi hz ⟨g, 0, none⟩ n cap xs (by rw [hsize]; exact hown.1) holds a 1 c [y] (by simp [hsize]) hnews (by omega) (by omega) (growslice_fits (by omega) (by rw [hby]; exact hbytes))
      rw [hr] at hr2
      injection hr2 with _ hw
      rw [hw]
      exact hown.drew.alloc _
theorem step_append_keep {ops : Array Oper} {o : Oper} {a : Act} {K : Act → World → Prop} {Q : Exit → Act → World → Prop} {E : Prop} (hgd : o.guard = none) (s x : Operand) (t : TypeId)
    (ho : o.op = .call { callee := .builtin .append, args := #[s, x], argTypes := #[t, t] })
    (base : Nat) (e : TypeId) (i : TypeInfo) (z : Value) (bytes : Nat) (ht : P.underlying t = some (.slice e)) (hi : P.info? e = some i) (hz : i.zero = some z)
    (hsize : i.size = 1) (hby : i.bytes = bytes) (hzs : z.cells.size = 1) (v : Value) (n : Nat) (xs : List Value) (hs : a.eval s = v) (hown : w.ownsRow base e 1 v n xs)
    (ad : Addr) (c : Nat) (y : Value) (hx : a.eval x = .slice (some ad) 1 c) (hnews : ∀ j u, [y][j]? = some u → w.cell? (ad.add j) = some u) (h1 : y.oneCell' = true)
    (h63 : n + 1 ≤ maxLen) (hbytes : (n + 1) * bytes ≤ 140737488355328) (hbase : base ≤ w.heap.size)
    (h : ∀ v' w', w'.ownsRow base e 1 v' (n + 1) (xs ++ [y]) → w.grownBy w' v.ownBlock → w'.ownsRow base e 1 v n xs → K (a.put o.dst v') w') :
    if Region.wanted o (yielded ops a.tmps) = true then Oper.wp P o a w K Q else E := by
  have hw : Region.wanted o (yielded ops a.tmps) = true := by simp [Region.wanted, hgd]
  rw [if_pos hw]
  obtain ⟨v', w', hr, h2, h3, h4⟩ := run_append_keep (P := P) w t o.type base e i z bytes ht hi hz hsize hby hzs v n xs hown ad c y hnews h1 h63 hbytes hbase
  unfold Oper.wp execOp
  simp only [ho, resolve, invoke, builtin, Sem.run_bind, Sem.run_pure, Result.andThen_ok, List.map_toArray, List.map_cons, List.map_nil, hs, hx, hr]
  exact h v' w' h2 h3 h4
end
theorem own_shape {w : World} {B e n : Nat} {v : Value} {xs : List Value} (h : w.ownsRow B e 1 v n xs) : ∃ a c, v = .slice a n c ∧ (0 < n → ∃ g, a = some ⟨g, 0, none⟩) := by
  rcases h.2 with ⟨rfl, h0⟩ | ⟨g, cap, cur, rfl, _⟩
  · exact ⟨none, 0, by rw [h0], fun hp => by omega⟩
  · exact ⟨_, cap, rfl, fun _ => ⟨g, rfl⟩⟩
theorem stepB {B : Nat} {a b c : World} (h : Below B a b) (ha : B ≤ a.heap.size) (hb : Below b.heap.size b c) : Below B a c := h.trans (hb.mono (Nat.le_trans ha h.size))
theorem own_addr {w : World} {B e n : Nat} {a : Option Addr} {c : Nat} {xs : List Value} (h : w.ownsRow B e 1 (.slice a n c) n xs) (hn : 0 < n) : ∃ g, a = some ⟨g, 0, none⟩ := by
  rcases h.2 with ⟨_, h0⟩ | ⟨g, cap, cur, he, _⟩
  · omega
  · injection he with h1
    exact ⟨g, h1⟩
theorem own_far {w w' : World} {B e n : Nat} {v : Value} {xs : List Value} {row : Option Nat} (h : w.ownsRow B e 1 v n xs) (hr : ∀ g, row = some g → g < B) (hg : w.grownBy w' row) : w'.ownsRow B e 1 v n xs := by
  refine h.kept hg ?_
  cases hv : v.ownBlock with
  | none => exact .inl rfl
  | some j =>
    refine .inr fun e => ?_
    have h1 := (h.lt j hv).1
    have h2 := hr j e.symm
    omega
namespace Cp
theorem calls_le' (l : List It) : (callsOf l).length ≤ l.length := by
  unfold callsOf
  rw [List.length_map]
  exact List.length_filter_le _ _
theorem block_le (l : List It) (b : Int) : (block l b).length ≤ l.length + 1 := by
  unfold block
  rw [List.length_cons, List.length_map]
  have h1 : (puts ltB (callsOf (ofB b l))).length ≤ (callsOf (ofB b l)).length := by rw [← compact_sorted]; exact Nat.le_trans (Lib.compact_length_le _) (by simp)
  have h2 := calls_le' (ofB b l)
  have h3 : (ofB b l).length ≤ l.length := List.length_filter_le _ _
  omega
end Cp
end Go.Proofs.YtogpghpgnpoioaaGreatDoor
