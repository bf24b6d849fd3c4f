/- The program's small functions on texts: what the calls return. -/
import Derived.Test.YtogpghpgnpoioaaGreatDoorKa
import Derived.Test.YtogpghpgnpoioaaGreatDoorShelf
import Derived.Deep.LoopGhost
import Derived.Lib.OthersKept
import Derived.Laws.OwnMore
import Derived.Deep.AppendLies
import Derived.Maps.AppendAt
namespace Go.Proofs.YtogpghpgnpoioaaGreatDoor
open Go.RowKit

/-- What the world holds of Go's own tables. -/
structure G (w : World) : Prop where
  u : Lib.Utf8Tabs 1 2 w
  p : Lib.TabIs Tryz.prog w "internal/strconv.uint64pow10" .u64 Lib.pow10Tab
  m : ∃ m, w.cell? ⟨0, 0, none⟩ = some (.int .i64 m)
  lo : 3 < w.heap.size
theorem G.below {w w' : World} (h : G w) (hb : Below w.heap.size w w') : G w' := by
  obtain ⟨m, hm⟩ := h.m
  first | exact ⟨Utf8Tabs_below h.u hb, var?_below hb (by kernel_rfl) h.lo h.p, ⟨m, cell_later hb hm⟩, Nat.lt_of_lt_of_le h.lo hb.size⟩ | exact ⟨Utf8Tabs_below h.u hb, ⟨m, cell_later hb hm⟩, Nat.lt_of_lt_of_le h.lo hb.size⟩

namespace Tx
theorem decide_blank (c : Nat) : ((c : Int) == 32 || (c : Int) == 160) = blank c := by
  have e1 : ((c : Int) == 32) = (c == 32) := by rw [Bool.eq_iff_iff]; simp; omega
  have e2 : ((c : Int) == 160) = (c == 160) := by rw [Bool.eq_iff_iff]; simp; omega
  rw [e1, e2]; rfl
theorem spans_len (p : Nat → Bool) (s : ByteArray) : ∀ (f pos : Nat) (st : Option Nat) (acc : List (Nat × Nat)), (Lib.spansFromP p s f pos st acc).1.length ≤ acc.length + f
  | 0, pos, st, acc => by simp [Lib.spansFromP]
  | f + 1, pos, st, acc => by
    unfold Lib.spansFromP
    repeat' split
    · have h := spans_len p s f (pos + (Utf8.decode s pos).2) none (acc ++ [(‹Nat›, pos)])
      rw [List.length_append] at h
      simp at h
      omega
    all_goals first | (refine Nat.le_trans (spans_len p s f _ _ _) ?_; omega) | simp
theorem fields_len (p : Nat → Bool) (s : ByteArray) : (Lib.goFieldsP p s).length ≤ s.size + 1 := by
  unfold Lib.goFieldsP Lib.spansOfP Lib.closeSpans
  have := spans_len p s s.size 0 none []
  rw [List.length_map]
  split
  · rw [List.length_append]; simp at this ⊢; omega
  · simp at this; omega
theorem cleanFold_len : ∀ (n : Nat) (l : List UInt8) (out : List UInt8) (gap : Bool), l.length ≤ n → (foldT cleanStep (out, gap) l).1.length ≤ out.length + 2 * l.length
  | 0, l, out, gap, h => by
    have : l = [] := List.eq_nil_of_length_eq_zero (by omega)
    subst this
    rw [foldT_nil]
    simp
  | n + 1, l, out, gap, h => by
    by_cases hne : l = []
    · subst hne
      rw [foldT_nil]
      simp
    · have hw := wid_pos l
      have hl := wid_le hne
      rw [foldT_step cleanStep _ hne]
      have ih := fun o g => cleanFold_len n (l.drop (wid l)) o g (by rw [List.length_drop]; omega)
      have e : (cleanStep (out, gap) (l.take (wid l)) (rdec l).1).1.length ≤ out.length + 1 + wid l := by
        unfold cleanStep
        repeat' split
        all_goals simp only [List.length_append, List.length_take, List.length_cons, List.length_nil]
        all_goals omega
      have h2 := ih (cleanStep (out, gap) (l.take (wid l)) (rdec l).1).1 (cleanStep (out, gap) (l.take (wid l)) (rdec l).1).2
      rw [List.length_drop] at h2
      refine Nat.le_trans h2 ?_
      omega
theorem clean_len (l : List UInt8) : (clean l).length ≤ 2 * l.length := by
  have := cleanFold_len l.length l [] false (Nat.le_refl _)
  simpa [clean] using this
theorem own_cells {w : World} {B e cap A : Nat} {xs : List ByteArray} (h : w.ownsRow B e 1 (.slice (some ⟨A, 0, none⟩) xs.length cap) xs.length (xs.map Value.string)) :
    ∀ (j : Nat) x, xs[j]? = some x → w.cell? ⟨A, 0 + j, none⟩ = some (.string x) := by
  intro j x hx
  have hj : j < xs.length := (List.getElem?_eq_some_iff.1 hx).1
  rw [Nat.zero_add, h.cellAt j (by omega), List.getElem?_map, hx]
  rfl
theorem own_lt {w : World} {B e n m cap A : Nat} {xs : List Value} (h : w.ownsRow B e 1 (.slice (some ⟨A, 0, none⟩) m cap) n xs) : A < w.heap.size := (h.lt A rfl).2
end Tx



end Go.Proofs.YtogpghpgnpoioaaGreatDoor

/- Lists of strings in memory, and what strings.Join returns of one. -/
namespace Go.Proofs.YtogpghpgnpoioaaGreatDoor
open Go.RowKit

theorem info_str : (Tryz.prog.info? 9).map (fun i => (i.zero, i.size, i.bytes)) = some (some (.string ⟨#[]⟩), 1, 16) := by kernel_rfl
theorem Tx.newb (w : World) (o : Obj) : Below w.heap.size w (w.alloc o) := (Below.refl _ _).alloc (Nat.le_refl _) _
theorem Tx.cell_one_at (w : World) (g : Nat) (hg : g = w.heap.size) (x : Value) (t : TypeId) : ∀ j u, [x][j]? = some u → (w.alloc (.cells #[x] t)).cell? ((⟨g, 0, none⟩ : Addr).add j) = some u := by
  subst hg
  exact cell_one_new w x t

/-- The value reads as these strings. -/
def SL (w : World) (v : Value) (xs : List ByteArray) : Prop :=
  (xs = [] ∧ ∃ a c, v = .slice a 0 c) ∨
  ∃ b o c, v = .slice (some ⟨b, o, none⟩) xs.length c ∧ xs.length ≤ c ∧ c ≤ maxLen ∧ b < w.heap.size ∧ ∀ (j : Nat) x, xs[j]? = some x → w.cell? ⟨b, o + j, none⟩ = some (.string x)
theorem SL.below {w w' : World} {v : Value} {xs : List ByteArray} (h : SL w v xs) (hb : Below w.heap.size w w') : SL w' v xs := by
  rcases h with h | ⟨b, o, c, h1, h2, h5, h3, h4⟩
  · exact .inl h
  · exact .inr ⟨b, o, c, h1, h2, h5, Nat.lt_of_lt_of_le h3 hb.size, fun j x hx => cell_later hb (h4 j x hx)⟩
theorem SL.of_own {w : World} {B e n : Nat} {v : Value} {xs : List ByteArray} {ys : List Value} (h : w.ownsRow B e 1 v n ys) (hy : ys = xs.map Value.string) : SL w v xs := by
  subst hy
  have hn : n = xs.length := by have := h.1; simp at this; omega
  subst hn
  rcases h.2 with ⟨rfl, h0⟩ | ⟨g, cap, cur, rfl, hb, hg, h1, h2, _⟩
  · exact .inl ⟨List.eq_nil_of_length_eq_zero h0, _, _, rfl⟩
  · exact .inr ⟨g, 0, cap, rfl, h1, h2, (Array.getElem?_eq_some_iff.1 hg).1, fun j x hx => by
      have hj : j < xs.length := (List.getElem?_eq_some_iff.1 hx).1
      rw [Nat.zero_add, h.cellAt j (by omega), List.getElem?_map, hx]
      rfl⟩

theorem Join_c (v : Value) (xs : List ByteArray) (sep : ByteArray) (w : World) (h : SL w v xs) (hlen : (Lib.join (xs.map (·.data.toList)) sep.data.toList).length ≤ 140737488355328) (hN : xs.length ≤ 140737488355328) :
    Calls Tryz.prog 55 #[v, .string sep] w fun e w' => e = .returned (.string ⟨(Lib.join (xs.map (·.data.toList)) sep.data.toList).toArray⟩) ∧ Below w.heap.size w w' := by
  rcases h with ⟨rfl, a, c, rfl⟩ | ⟨b, o, c, rfl, h1, _, h2, h3⟩
  · exact (Any.strings_Join_none Tryz.lays156 Tryz.Builder_Extra_156 a c sep w).mono fun _ _ ⟨he, hw⟩ => ⟨he, hw ▸ Below.refl _ _⟩
  · exact Tryz.strings_Join b o c xs sep w h3 h2 hN h1 hlen
end Go.Proofs.YtogpghpgnpoioaaGreatDoor

/- Blocks, cells and joined texts: small facts that many walks use. -/
namespace Go.Proofs.YtogpghpgnpoioaaGreatDoor
open Go.RowKit

theorem Tx.bcell {B : Nat} {W w1 : World} (hb : Below B W w1) : ∀ b o, b < B → w1.cell? ⟨b, o, none⟩ = W.cell? ⟨b, o, none⟩ := fun b o h => hb.cell (p := ⟨b, o, none⟩) h
/-- What a chain of concatenations gives, one fact a '+'. -/
def Tx.Adds (P : Program) : ByteArray → List ByteArray → Prop
  | _, [] => True
  | a, b :: l => (∀ W, (Op.stringOp .add a b).run P W = .ok (.string (a ++ b)) W) ∧ Tx.Adds P (a ++ b) l
theorem Tx.adds_ok (P : Program) : ∀ (l : List ByteArray) (a : ByteArray), a.size + (l.map (·.size)).sum ≤ 9223372036854775807 → Tx.Adds P a l
  | [], _, _ => trivial
  | b :: l, a, h => by
    rw [List.map_cons, List.sum_cons] at h
    exact ⟨fun W => run_string_add_sum W a b (by omega), Tx.adds_ok P l (a ++ b) (by rw [ByteArray.size_append]; omega)⟩
theorem Tx.size_mk (l : List UInt8) : (⟨l.toArray⟩ : ByteArray).size = l.length := by simp [ByteArray.size]
theorem Tx.step {W wi w1 : World} (h : Below W.heap.size W wi) (hb : Below wi.heap.size wi w1) : Below W.heap.size W w1 := h.trans (hb.mono h.size)
theorem Tx.blk {w : World} {g : Nat} {cs : Array Value} {t : TypeId} (h : w.heap[g]? = some (.cells cs t (0, 0))) : (∀ i, w.cell? ⟨g, i, none⟩ = cs[i]?) ∧ (∀ i, w.frozen? ⟨g, i, none⟩ = false) ∧ g < w.heap.size :=
  ⟨fun i => cell_of_row w g i cs t (0, 0) h, fun i => by simp [World.frozen?, h], (Array.getElem?_eq_some_iff.1 h).1⟩
theorem Tx.later {g : Nat} {w w' : World} (hb : Below w.heap.size w w') (h : g < w.heap.size) : (∀ i, w'.cell? ⟨g, i, none⟩ = w.cell? ⟨g, i, none⟩) ∧ (∀ i, w'.frozen? ⟨g, i, none⟩ = w.frozen? ⟨g, i, none⟩) :=
  ⟨fun i => hb.cell (p := ⟨g, i, none⟩) h, fun i => hb.frozen (p := ⟨g, i, none⟩) h⟩
theorem Tx.blk_later {w w' : World} {g : Nat} {o : Obj} (h : w.heap[g]? = some o) (hb : Below w.heap.size w w') : w'.heap[g]? = some o := (hb.block g (Array.getElem?_eq_some_iff.1 h).1).trans h
theorem Tx.set4 {B g : Nat} {w wr : World} (h : Below B w wr) (hg : B ≤ g) (v0 v1 v2 v3 : Value) :
    Below B w ((((wr.setCell ⟨g, 0, none⟩ v0).setCell ⟨g, 1, none⟩ v1).setCell ⟨g, 2, none⟩ v2).setCell ⟨g, 3, none⟩ v3) :=
  (((h.setCell hg _).setCell hg _).setCell hg _).setCell hg _
theorem Tx.newd (w : World) (o : Obj) : Below w.heap.size w (w.alloc o).drew := ((Below.refl _ _).alloc (Nat.le_refl _) _).drew
theorem Tx.newcell (w : World) (cs : Array Value) (t : TypeId) (i : Nat) : (w.alloc (.cells cs t)).drew.cell? ⟨w.heap.size, i, none⟩ = cs[i]? := cell_of_row _ _ i cs t (0, 0) (heap_alloc_new w _)
end Go.Proofs.YtogpghpgnpoioaaGreatDoor

/- Memory: lists of strings and of structs at an address; slices that the call owns; a slice appended; small laws. -/
namespace Go.Proofs.YtogpghpgnpoioaaGreatDoor
open Go.RowKit
set_option maxRecDepth 100000

/-- The slice holds these strings. -/
structure SLA (w : World) (a : Option Addr) (c : Nat) (xs : List ByteArray) : Prop where
  cap : xs.length ≤ c
  max : c ≤ maxLen
  at_ : ∃ b o, (xs ≠ [] → a = some ⟨b, o, none⟩ ∧ b < w.heap.size) ∧ ∀ (j : Nat) x, xs[j]? = some x → w.cell? ⟨b, o + j, none⟩ = some (.string x)
theorem SLA.below {w w' : World} {a : Option Addr} {c : Nat} {xs : List ByteArray} (h : SLA w a c xs) (hb : Below w.heap.size w w') : SLA w' a c xs := by
  obtain ⟨b, o, h1, h2⟩ := h.at_
  exact ⟨h.cap, h.max, b, o, fun hn => ⟨(h1 hn).1, Nat.lt_of_lt_of_le (h1 hn).2 hb.size⟩, fun j x hx => cell_later hb (h2 j x hx)⟩
theorem SLA.get {w : World} {a : Option Addr} {c : Nat} {xs : List ByteArray} (h : SLA w a c xs) {k : Nat} {x : ByteArray} (hk : xs[k]? = some x) :
    ∃ b o, a = some ⟨b, o, none⟩ ∧ b < w.heap.size ∧ w.cell? ⟨b, o + k, none⟩ = some (.string x) := by
  obtain ⟨b, o, h1, h2⟩ := h.at_
  have hne : xs ≠ [] := by intro h0; subst h0; simp at hk
  exact ⟨b, o, (h1 hne).1, (h1 hne).2, h2 k x hk⟩
theorem SLA.of_own {w : World} {B e n : Nat} {v : Value} {xs : List ByteArray} {ys : List Value} (h : w.ownsRow B e 1 v n ys) (hy : ys = xs.map Value.string) : ∃ a c, v = .slice a xs.length c ∧ SLA w a c xs := by
  subst hy
  have hn : n = xs.length := by have := h.1; simp at this; omega
  subst hn
  rcases h.2 with ⟨rfl, h0⟩ | ⟨g, cap, cur, rfl, hb, hg, h1, h2, _⟩
  · rw [h0]
    have := List.eq_nil_of_length_eq_zero h0
    subst this
    exact ⟨none, 0, rfl, by simp, by simp, 0, 0, fun h => absurd rfl h, fun j x hx => by simp at hx⟩
  · exact ⟨_, cap, rfl, h1, h2, g, 0, fun _ => ⟨rfl, (Array.getElem?_eq_some_iff.1 hg).1⟩, fun j x hx => by
      have hj : j < xs.length := (List.getElem?_eq_some_iff.1 hx).1
      rw [Nat.zero_add, h.cellAt j (by omega), List.getElem?_map, hx]
      rfl⟩
theorem SLA.sl {w : World} {a : Option Addr} {c : Nat} {xs : List ByteArray} (h : SLA w a c xs) : SL w (.slice a xs.length c) xs := by
  by_cases hne : xs = []
  · subst hne
    exact .inl ⟨rfl, a, c, rfl⟩
  · obtain ⟨b, o, h1, h2⟩ := h.at_
    obtain ⟨rfl, hb⟩ := h1 hne
    exact .inr ⟨b, o, c, rfl, h.cap, h.max, hb, h2⟩
theorem SL.sla {w : World} {v : Value} {xs : List ByteArray} (h : SL w v xs) : ∃ a c, v = .slice a xs.length c ∧ (xs ≠ [] → SLA w a c xs) := by
  rcases h with ⟨rfl, a, c, rfl⟩ | ⟨b, o, c, rfl, h1, h2, h3, h4⟩
  · exact ⟨a, c, rfl, fun h => absurd rfl h⟩
  · exact ⟨_, c, rfl, fun _ => ⟨h1, h2, b, o, fun _ => ⟨rfl, h3⟩, h4⟩⟩

namespace Cs
/-- A list in memory, at an address that is there. -/
structure LA {α : Type} (enc : α → Value) (w : World) (b o c : Nat) (xs : List α) : Prop where
  cap : xs.length ≤ c
  max : c ≤ maxLen
  lt : b < w.heap.size
  at_ : ∀ (j : Nat) x, xs[j]? = some x → w.cell? ⟨b, o + j, none⟩ = some (enc x)
theorem LA.below {α : Type} {enc : α → Value} {w w' : World} {b o c : Nat} {xs : List α} (h : LA enc w b o c xs) (hb : Below w.heap.size w w') : LA enc w' b o c xs :=
  ⟨h.cap, h.max, Nat.lt_of_lt_of_le h.lt hb.size, fun j x hx => cell_later hb (h.at_ j x hx)⟩
theorem LA.of_own {α : Type} {enc : α → Value} {w : World} {B e n g cap : Nat} {xs : List α} (h : w.ownsRow B e 1 (.slice (some ⟨g, 0, none⟩) n cap) n (xs.map enc)) (hm : n = xs.length) : LA enc w g 0 cap xs := by
  subst hm
  refine ⟨?_, ?_, (h.lt g rfl).2, fun j x hx => ?_⟩
  · rcases h.2 with ⟨h0, _⟩ | ⟨g', cap', cur, h', _, _, h1, _⟩
    · simp at h0
    · simp only [Value.slice.injEq] at h'
      omega
  · rcases h.2 with ⟨h0, _⟩ | ⟨g', cap', cur, h', _, _, _, h1, _⟩
    · simp at h0
    · simp only [Value.slice.injEq] at h'
      omega
  · have hj : j < xs.length := (List.getElem?_eq_some_iff.1 hx).1
    rw [Nat.zero_add, h.cellAt j (by omega), List.getElem?_map, hx]
    rfl
theorem add_at (b o j : Nat) : (⟨b, o, none⟩ : Addr).add j = ⟨b, o + j, none⟩ := by unfold Addr.add; split <;> simp_all
theorem LA.cellsT {α : Type} {enc : α → Value} {w w' : World} {b o c : Nat} {xs : List α} (h : LA enc w b o c xs) (hb : Below w.heap.size w w') (k : Nat) : ∀ j u, ((xs.take k).map enc)[j]? = some u → w'.cell? ((⟨b, o, none⟩ : Addr).add j) = some u := by
  intro j u hj
  rw [List.getElem?_map, List.getElem?_take] at hj
  split at hj
  · obtain ⟨x, hx, rfl⟩ := Option.map_eq_some_iff.1 hj
    rw [add_at]
    exact cell_later hb (h.at_ j x hx)
  · cases hj
theorem LA.cellsD {α : Type} {enc : α → Value} {w w' : World} {b o c : Nat} {xs : List α} (h : LA enc w b o c xs) (hb : Below w.heap.size w w') (k : Nat) : ∀ j u, ((xs.drop k).map enc)[j]? = some u → w'.cell? ((⟨b, o + k, none⟩ : Addr).add j) = some u := by
  intro j u hj
  rw [List.getElem?_map, List.getElem?_drop] at hj
  obtain ⟨x, hx, rfl⟩ := Option.map_eq_some_iff.1 hj
  rw [add_at, Nat.add_assoc]
  exact cell_later hb (h.at_ (k + j) x hx)
theorem LA.cells {α : Type} {enc : α → Value} {w : World} {b o c : Nat} {xs : List α} (h : LA enc w b o c xs) : ∀ j u, (xs.map enc)[j]? = some u → w.cell? ((⟨b, o, none⟩ : Addr).add j) = some u := by
  intro j u hj
  rw [List.getElem?_map] at hj
  obtain ⟨x, hx, rfl⟩ := Option.map_eq_some_iff.1 hj
  rw [add_at]
  exact h.at_ j x hx
theorem LA.grown {α : Type} {enc : α → Value} {w w' : World} {row : Option Nat} {b o c : Nat} {xs : List α} (h : LA enc w b o c xs) (hg : w.grownBy w' row) (hne : some b ≠ row) : LA enc w' b o c xs :=
  ⟨h.cap, h.max, Nat.lt_of_lt_of_le h.lt hg.size, fun j x hx => (hg.cell_far ⟨b, o + j, none⟩ h.lt hne).trans (h.at_ j x hx)⟩
end Cs
namespace Br
theorem cells_new_at (w : World) (g : Nat) (hg : g = w.heap.size) (cs : Array Value) (t : TypeId) : ∀ j u, cs.toList[j]? = some u → (w.alloc (.cells cs t)).cell? ((⟨g, 0, none⟩ : Addr).add j) = some u := by
  subst hg
  intro j u h
  rw [Cs.add_at, Nat.zero_add]
  have hj : j < cs.size := by have := (List.getElem?_eq_some_iff.1 h).1; simpa using this
  simp only [World.cell?, heap_alloc_new]
  simpa using h
theorem flat_at {α : Type} (enc : α → List Value) (size : Nat) (hs : ∀ x, (enc x).length = size) : ∀ (xs : List α) (k i : Nat) (x : α), xs[k]? = some x → i < size → (xs.flatMap enc)[k * size + i]? = (enc x)[i]?
  | [], k, i, x, h, _ => by simp at h
  | y :: r, 0, i, x, h, hi => by
    simp at h
    subst h
    rw [Nat.zero_mul, Nat.zero_add, List.flatMap_cons, List.getElem?_append_left (by rw [hs]; exact hi)]
  | y :: r, k + 1, i, x, h, hi => by
    rw [List.flatMap_cons, List.getElem?_append_right (by rw [hs, Nat.succ_mul]; omega), hs, show (k + 1) * size + i - size = k * size + i by rw [Nat.succ_mul]; omega]
    exact flat_at enc size hs r k i x (by simpa using h) hi
theorem flat_len {α : Type} (enc : α → List Value) (size : Nat) (hs : ∀ x, (enc x).length = size) : ∀ xs : List α, (xs.flatMap enc).length = xs.length * size
  | [] => by simp
  | x :: r => by rw [List.flatMap_cons, List.length_append, hs, flat_len enc size hs r, List.length_cons, Nat.succ_mul]; omega
/-- A slice that the call owns: its value, and the cell of an element. -/
theorem own_any {α : Type} {enc : α → List Value} {size : Nat} (hs : ∀ x, (enc x).length = size) {w : World} {B e n : Nat} {v : Value} {xs : List α} (h : w.ownsRow B e size v n (xs.flatMap enc)) (hn : n = xs.length) :
    ∃ a c, v = .slice a xs.length c ∧ xs.length ≤ c ∧ c ≤ maxLen ∧ (xs = [] ∨ ∃ g, a = some ⟨g, 0, none⟩ ∧ B ≤ g ∧ g < w.heap.size ∧ ∀ (k i : Nat) (x : α) (u : Value), xs[k]? = some x → i < size → (enc x)[i]? = some u → w.cell? ⟨g, k * size + i, none⟩ = some u) := by
  subst hn
  have h0 := h
  rcases h.2 with ⟨rfl, h7⟩ | ⟨g, cap, cur, rfl, hb, hg, h1, h2, _⟩
  · have h8 := List.eq_nil_of_length_eq_zero h7
    subst h8
    exact ⟨none, 0, rfl, Nat.le_refl _, by simp, .inl rfl⟩
  · refine ⟨_, cap, rfl, h1, h2, .inr ⟨g, rfl, hb, (Array.getElem?_eq_some_iff.1 hg).1, fun k i x u hk hi hu => ?_⟩⟩
    have hkl : k < xs.length := (List.getElem?_eq_some_iff.1 hk).1
    rw [h0.cellAt (k * size + i) (Nat.lt_of_lt_of_le (Nat.add_lt_add_left hi _) (by rw [← Nat.succ_mul]; exact Nat.mul_le_mul_right _ hkl)), flat_at enc size hs xs k i x hk hi, hu]
end Br

section
variable {P : Program} {w : World}
theorem run_append_none_any (base : Nat) (t ty e : TypeId) (i : TypeInfo) (size : Nat) (ht : P.underlying t = some (.slice e)) (hi : P.info? e = some i)
    (v : Value) (n : Nat) (xs : List Value) (hown : w.ownsRow base e size v n xs) (c : Nat) :
    (Builtin.append_ #[t, t] ty #[v, .slice none 0 c]).run P w = .ok v w := by
  rcases hown.2 with ⟨rfl, rfl⟩ | ⟨g, cap, cur, rfl, _, _, hnc, _⟩
  · simp [Builtin.append_, run_underlying ht, sizeOf, typeInfo, hi, Builtin.lenOf, Builtin.firstCells]
  · simp [Builtin.append_, run_underlying ht, sizeOf, typeInfo, hi, Builtin.lenOf, Builtin.firstCells, hnc, storeCells]
/-- A slice appended to one that the call owns; nil too. -/
theorem wpList_append_sl {ops : Array Oper} {rest : List Oper} {o : Oper} {a : Act} {Q : Exit → Act → World → Prop} (hgd : o.guard = none) (s x : Operand) (t : TypeId)
    (ho : o.op = .call { callee := .builtin .append, args := #[s, x], argTypes := #[t, t] })
    (base : Nat) (e : TypeId) (i : TypeInfo) (z : Value) (size bytes : Nat) (ht : P.underlying t = some (.slice e)) (hi : P.info? e = some i) (hz : i.zero = some z)
    (hsize : i.size = size) (hby : i.bytes = bytes) (hzs : z.cells.size = size) (hsz : 0 < size)
    (v : Value) (n : Nat) (xs : List Value) (hs : a.eval s = v) (hown : w.ownsRow base e size v n xs)
    (ao : Option Addr) (m c : Nat) (news : List Value) (hx : a.eval x = .slice ao m c) (hl : news.length = m * size) (hno : ao = none → m = 0) (hnews : ∀ ad, ao = some ad → ∀ j u, news[j]? = some u → w.cell? (ad.add j) = some u) (h1 : ∀ u ∈ news, u.oneCell' = true)
    (h63 : n + m ≤ maxLen) (hbytes : (n + m) * bytes ≤ 140737488355328) (hbase : base ≤ w.heap.size)
    (h : ∀ v' w', w'.ownsRow base e size v' (n + m) (xs ++ news) → w.grownBy w' v.ownBlock → (v'.ownBlock = v.ownBlock ∨ v'.ownBlock = some w.heap.size) → wpList P ops Q rest (a.put o.dst v') w') : wpList P ops Q (o :: rest) a w := by
  cases ao with
  | none =>
    obtain rfl := hno rfl
    have hn : news = [] := List.eq_nil_of_length_eq_zero (by rw [hl]; omega)
    subst hn
    refine wpList_plain hgd fun K hK => ?_
    have hrun := run_append_none_any (P := P) (w := w) base t o.type e i size ht hi v n xs hown c
    unfold Oper.wp
    simp [execOp, ho, resolve, invoke, builtin, hs, hx, hrun, Result.andThen]
    exact hK _ _ (h v w (by simpa using hown) ⟨rfl, rfl, rfl, Nat.le_refl _, fun _ _ _ => rfl⟩ (.inl rfl))
  | some ad => exact wpList_append_own_at w hgd s x t ho base e i z size bytes ht hi hz hsize hby hzs hsz v n xs hs hown ad m c news hx hl (hnews ad rfl) h1 h63 hbytes hbase (fun v' w' h2 h3 _ h5 => h v' w' h2 h3 h5)
end
theorem SLA.none {w : World} {a : Option Addr} {c : Nat} {xs : List ByteArray} (h : SLA w a c xs) : a = none → xs.length = 0 := by
  intro ha
  obtain ⟨b, o, h1, _⟩ := h.at_
  cases xs with
  | nil => rfl
  | cons x r => have := (h1 (by simp)).1; rw [ha] at this; cases this
theorem SLA.cells {w : World} {a : Option Addr} {c : Nat} {xs : List ByteArray} (h : SLA w a c xs) : ∀ ad, a = some ad → ∀ j u, (xs.map Value.string)[j]? = some u → w.cell? (ad.add j) = some u := by
  intro ad ha j u hj
  rw [List.getElem?_map, Option.map_eq_some_iff] at hj
  obtain ⟨x, hx, rfl⟩ := hj
  obtain ⟨b, o, hb, _, hc⟩ := h.get hx
  rw [hb] at ha
  injection ha with ha
  subst ha
  rw [Cs.add_at]
  exact hc
theorem SLA.ones (xs : List ByteArray) : ∀ u ∈ xs.map Value.string, u.oneCell' = true := fun u hu => by
  obtain ⟨z, _, rfl⟩ := List.mem_map.1 hu
  rfl
theorem Tx.undrew {w w1 : World} (h : Below w.drew.heap.size w.drew w1) : Below w.heap.size w w1 := ((Below.refl _ _).drew).trans h
theorem Rc.cell_lt {w : World} {b o : Nat} {v : Value} (h : w.cell? ⟨b, o, none⟩ = some v) : b < w.heap.size := World.block_lt_of_cell? w ⟨b, o, none⟩ h
end Go.Proofs.YtogpghpgnpoioaaGreatDoor
