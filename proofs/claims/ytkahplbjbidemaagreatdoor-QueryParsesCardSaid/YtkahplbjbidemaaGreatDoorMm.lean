/- Memory: lists of strings and of structs at an address; slices that the call owns; a slice appended; small laws. -/
import Derived.Test.YtkahplbjbidemaaGreatDoorTxE
import Derived.Laws.OwnMore
import Derived.Deep.AppendLies
import Derived.Maps.AppendAt
namespace Go.Proofs.YtkahplbjbidemaaGreatDoor
open Go.RowKit
set_option maxRecDepth 100000

/-- The slice holds these strings. -/
structure SLA (w : World) (a : Option Addr) (c : Nat) (xs : List ByteArray) : Prop where
  cap : xs.length ≤ c
  max : c ≤ maxLen
  at_ : ∃ b o, (xs ≠ [] → a = some ⟨b, o, none⟩ ∧ b < w.heap.size) ∧ ∀ (j : Nat) x, xs[j]? = some x → w.cell? ⟨b, o + j, none⟩ = some (.string x)
theorem SLA.below {w w' : World} {a : Option Addr} {c : Nat} {xs : List ByteArray} (h : SLA w a c xs) (hb : Below w.heap.size w w') : SLA w' a c xs := by
  obtain ⟨b, o, h1, h2⟩ := h.at_
  exact ⟨h.cap, h.max, b, o, fun hn => ⟨(h1 hn).1, Nat.lt_of_lt_of_le (h1 hn).2 hb.size⟩, fun j x hx => cell_later hb (h2 j x hx)⟩
theorem SLA.get {w : World} {a : Option Addr} {c : Nat} {xs : List ByteArray} (h : SLA w a c xs) {k : Nat} {x : ByteArray} (hk : xs[k]? = some x) :
    ∃ b o, a = some ⟨b, o, none⟩ ∧ b < w.heap.size ∧ w.cell? ⟨b, o + k, none⟩ = some (.string x) := by
  obtain ⟨b, o, h1, h2⟩ := h.at_
  have hne : xs ≠ [] := by intro h0; subst h0; simp at hk
  exact ⟨b, o, (h1 hne).1, (h1 hne).2, h2 k x hk⟩
theorem SLA.of_own {w : World} {B e n : Nat} {v : Value} {xs : List ByteArray} {ys : List Value} (h : w.ownsRow B e 1 v n ys) (hy : ys = xs.map Value.string) : ∃ a c, v = .slice a xs.length c ∧ SLA w a c xs := by
  subst hy
  have hn : n = xs.length := by have := h.1; simp at this; omega
  subst hn
  rcases h.2 with ⟨rfl, h0⟩ | ⟨g, cap, cur, rfl, hb, hg, h1, h2, _⟩
  · rw [h0]
    have := List.eq_nil_of_length_eq_zero h0
    subst this
    exact ⟨none, 0, rfl, by simp, by simp, 0, 0, fun h => absurd rfl h, fun j x hx => by simp at hx⟩
  · exact ⟨_, cap, rfl, h1, h2, g, 0, fun _ => ⟨rfl, (Array.getElem?_eq_some_iff.1 hg).1⟩, fun j x hx => by
      have hj : j < xs.length := (List.getElem?_eq_some_iff.1 hx).1
      rw [Nat.zero_add, h.cellAt j (by omega), List.getElem?_map, hx]
      rfl⟩
theorem SLA.sl {w : World} {a : Option Addr} {c : Nat} {xs : List ByteArray} (h : SLA w a c xs) : SL w (.slice a xs.length c) xs := by
  by_cases hne : xs = []
  · subst hne
    exact .inl ⟨rfl, a, c, rfl⟩
  · obtain ⟨b, o, h1, h2⟩ := h.at_
    obtain ⟨rfl, hb⟩ := h1 hne
    exact .inr ⟨b, o, c, rfl, h.cap, h.max, hb, h2⟩
theorem SL.sla {w : World} {v : Value} {xs : List ByteArray} (h : SL w v xs) : ∃ a c, v = .slice a xs.length c ∧ (xs ≠ [] → SLA w a c xs) := by
  rcases h with ⟨rfl, a, c, rfl⟩ | ⟨b, o, c, rfl, h1, h2, h3, h4⟩
  · exact ⟨a, c, rfl, fun h => absurd rfl h⟩
  · exact ⟨_, c, rfl, fun _ => ⟨h1, h2, b, o, fun _ => ⟨rfl, h3⟩, h4⟩⟩

namespace Cs
/-- A list in memory, at an address that is there. -/
structure LA {α : Type} (enc : α → Value) (w : World) (b o c : Nat) (xs : List α) : Prop where
  cap : xs.length ≤ c
  max : c ≤ maxLen
  lt : b < w.heap.size
  at_ : ∀ (j : Nat) x, xs[j]? = some x → w.cell? ⟨b, o + j, none⟩ = some (enc x)
theorem LA.below {α : Type} {enc : α → Value} {w w' : World} {b o c : Nat} {xs : List α} (h : LA enc w b o c xs) (hb : Below w.heap.size w w') : LA enc w' b o c xs :=
  ⟨h.cap, h.max, Nat.lt_of_lt_of_le h.lt hb.size, fun j x hx => cell_later hb (h.at_ j x hx)⟩
theorem LA.of_own {α : Type} {enc : α → Value} {w : World} {B e n g cap : Nat} {xs : List α} (h : w.ownsRow B e 1 (.slice (some ⟨g, 0, none⟩) n cap) n (xs.map enc)) (hm : n = xs.length) : LA enc w g 0 cap xs := by
  subst hm
  refine ⟨?_, ?_, (h.lt g rfl).2, fun j x hx => ?_⟩
  · rcases h.2 with ⟨h0, _⟩ | ⟨g', cap', cur, h', _, _, h1, _⟩
    · simp at h0
    · simp only [Value.slice.injEq] at h'
      omega
  · rcases h.2 with ⟨h0, _⟩ | ⟨g', cap', cur, h', _, _, _, h1, _⟩
    · simp at h0
    · simp only [Value.slice.injEq] at h'
      omega
  · have hj : j < xs.length := (List.getElem?_eq_some_iff.1 hx).1
    rw [Nat.zero_add, h.cellAt j (by omega), List.getElem?_map, hx]
    rfl
theorem add_at (b o j : Nat) : (⟨b, o, none⟩ : Addr).add j = ⟨b, o + j, none⟩ := by unfold Addr.add; split <;> simp_all
theorem LA.cellsT {α : Type} {enc : α → Value} {w w' : World} {b o c : Nat} {xs : List α} (h : LA enc w b o c xs) (hb : Below w.heap.size w w') (k : Nat) : ∀ j u, ((xs.take k).map enc)[j]? = some u → w'.cell? ((⟨b, o, none⟩ : Addr).add j) = some u := by
  intro j u hj
  rw [List.getElem?_map, List.getElem?_take] at hj
  split at hj
  · obtain ⟨x, hx, rfl⟩ := Option.map_eq_some_iff.1 hj
    rw [add_at]
    exact cell_later hb (h.at_ j x hx)
  · cases hj
theorem LA.cellsD {α : Type} {enc : α → Value} {w w' : World} {b o c : Nat} {xs : List α} (h : LA enc w b o c xs) (hb : Below w.heap.size w w') (k : Nat) : ∀ j u, ((xs.drop k).map enc)[j]? = some u → w'.cell? ((⟨b, o + k, none⟩ : Addr).add j) = some u := by
  intro j u hj
  rw [List.getElem?_map, List.getElem?_drop] at hj
  obtain ⟨x, hx, rfl⟩ := Option.map_eq_some_iff.1 hj
  rw [add_at, Nat.add_assoc]
  exact cell_later hb (h.at_ (k + j) x hx)
theorem LA.cells {α : Type} {enc : α → Value} {w : World} {b o c : Nat} {xs : List α} (h : LA enc w b o c xs) : ∀ j u, (xs.map enc)[j]? = some u → w.cell? ((⟨b, o, none⟩ : Addr).add j) = some u := by
  intro j u hj
  rw [List.getElem?_map] at hj
  obtain ⟨x, hx, rfl⟩ := Option.map_eq_some_iff.1 hj
  rw [add_at]
  exact h.at_ j x hx
theorem LA.grown {α : Type} {enc : α → Value} {w w' : World} {row : Option Nat} {b o c : Nat} {xs : List α} (h : LA enc w b o c xs) (hg : w.grownBy w' row) (hne : some b ≠ row) : LA enc w' b o c xs :=
  ⟨h.cap, h.max, Nat.lt_of_lt_of_le h.lt hg.size, fun j x hx => (hg.cell_far ⟨b, o + j, none⟩ h.lt hne).trans (h.at_ j x hx)⟩
end Cs
namespace Br
theorem cells_new_at (w : World) (g : Nat) (hg : g = w.heap.size) (cs : Array Value) (t : TypeId) : ∀ j u, cs.toList[j]? = some u → (w.alloc (.cells cs t)).cell? ((⟨g, 0, none⟩ : Addr).add j) = some u := by
  subst hg
  intro j u h
  rw [Cs.add_at, Nat.zero_add]
  have hj : j < cs.size := by have := (List.getElem?_eq_some_iff.1 h).1; simpa using this
  simp only [World.cell?, heap_alloc_new]
  simpa using h
theorem flat_at {α : Type} (enc : α → List Value) (size : Nat) (hs : ∀ x, (enc x).length = size) : ∀ (xs : List α) (k i : Nat) (x : α), xs[k]? = some x → i < size → (xs.flatMap enc)[k * size + i]? = (enc x)[i]?
  | [], k, i, x, h, _ => by simp at h
  | y :: r, 0, i, x, h, hi => by
    simp at h
    subst h
    rw [Nat.zero_mul, Nat.zero_add, List.flatMap_cons, List.getElem?_append_left (by rw [hs]; exact hi)]
  | y :: r, k + 1, i, x, h, hi => by
    rw [List.flatMap_cons, List.getElem?_append_right (by rw [hs, Nat.succ_mul]; omega), hs, show (k + 1) * size + i - size = k * size + i by rw [Nat.succ_mul]; omega]
    exact flat_at enc size hs r k i x (by simpa using h) hi
theorem flat_len {α : Type} (enc : α → List Value) (size : Nat) (hs : ∀ x, (enc x).length = size) : ∀ xs : List α, (xs.flatMap enc).length = xs.length * size
  | [] => by simp
  | x :: r => by rw [List.flatMap_cons, List.length_append, hs, flat_len enc size hs r, List.length_cons, Nat.succ_mul]; omega
/-- A slice that the call owns: its value, and the cell of an element. -/
theorem own_any {α : Type} {enc : α → List Value} {size : Nat} (hs : ∀ x, (enc x).length = size) {w : World} {B e n : Nat} {v : Value} {xs : List α} (h : w.ownsRow B e size v n (xs.flatMap enc)) (hn : n = xs.length) :
    ∃ a c, v = .slice a xs.length c ∧ xs.length ≤ c ∧ c ≤ maxLen ∧ (xs = [] ∨ ∃ g, a = some ⟨g, 0, none⟩ ∧ B ≤ g ∧ g < w.heap.size ∧ ∀ (k i : Nat) (x : α) (u : Value), xs[k]? = some x → i < size → (enc x)[i]? = some u → w.cell? ⟨g, k * size + i, none⟩ = some u) := by
  subst hn
  have h0 := h
  rcases h.2 with ⟨rfl, h7⟩ | ⟨g, cap, cur, rfl, hb, hg, h1, h2, _⟩
  · have h8 := List.eq_nil_of_length_eq_zero h7
    subst h8
    exact ⟨none, 0, rfl, Nat.le_refl _, by simp, .inl rfl⟩
  · refine ⟨_, cap, rfl, h1, h2, .inr ⟨g, rfl, hb, (Array.getElem?_eq_some_iff.1 hg).1, fun k i x u hk hi hu => ?_⟩⟩
    have hkl : k < xs.length := (List.getElem?_eq_some_iff.1 hk).1
    rw [h0.cellAt (k * size + i) (Nat.lt_of_lt_of_le (Nat.add_lt_add_left hi _) (by rw [← Nat.succ_mul]; exact Nat.mul_le_mul_right _ hkl)), flat_at enc size hs xs k i x hk hi, hu]
end Br

section
variable {P : Program} {w : World}
theorem run_append_none_any (base : Nat) (t ty e : TypeId) (i : TypeInfo) (size : Nat) (ht : P.underlying t = some (.slice e)) (hi : P.info? e = some i)
    (v : Value) (n : Nat) (xs : List Value) (hown : w.ownsRow base e size v n xs) (c : Nat) :
    (Builtin.append_ #[t, t] ty #[v, .slice none 0 c]).run P w = .ok v w := by
  rcases hown.2 with ⟨rfl, rfl⟩ | ⟨g, cap, cur, rfl, _, _, hnc, _⟩
  · simp [Builtin.append_, run_underlying ht, sizeOf, typeInfo, hi, Builtin.lenOf, Builtin.firstCells]
  · simp [Builtin.append_, run_underlying ht, sizeOf, typeInfo, hi, Builtin.lenOf, Builtin.firstCells, hnc, storeCells]
/-- A slice appended to one that the call owns; nil too. -/
theorem wpList_append_sl {ops : Array Oper} {rest : List Oper} {o : Oper} {a : Act} {Q : Exit → Act → World → Prop} (hgd : o.guard = none) (s x : Operand) (t : TypeId)
    (ho : o.op = .call { callee := .builtin .append, args := #[s, x], argTypes := #[t, t] })
    (base : Nat) (e : TypeId) (i : TypeInfo) (z : Value) (size bytes : Nat) (ht : P.underlying t = some (.slice e)) (hi : P.info? e = some i) (hz : i.zero = some z)
    (hsize : i.size = size) (hby : i.bytes = bytes) (hzs : z.cells.size = size) (hsz : 0 < size)
    (v : Value) (n : Nat) (xs : List Value) (hs : a.eval s = v) (hown : w.ownsRow base e size v n xs)
    (ao : Option Addr) (m c : Nat) (news : List Value) (hx : a.eval x = .slice ao m c) (hl : news.length = m * size) (hno : ao = none → m = 0) (hnews : ∀ ad, ao = some ad → ∀ j u, news[j]? = some u → w.cell? (ad.add j) = some u) (h1 : ∀ u ∈ news, u.oneCell' = true)
    (h63 : n + m ≤ maxLen) (hbytes : (n + m) * bytes ≤ 140737488355328) (hbase : base ≤ w.heap.size)
    (h : ∀ v' w', w'.ownsRow base e size v' (n + m) (xs ++ news) → w.grownBy w' v.ownBlock → (v'.ownBlock = v.ownBlock ∨ v'.ownBlock = some w.heap.size) → wpList P ops Q rest (a.put o.dst v') w') : wpList P ops Q (o :: rest) a w := by
  cases ao with
  | none =>
    obtain rfl := hno rfl
    have hn : news = [] := List.eq_nil_of_length_eq_zero (by rw [hl]; omega)
    subst hn
    refine wpList_plain hgd fun K hK => ?_
    have hrun := run_append_none_any (P := P) (w := w) base t o.type e i size ht hi v n xs hown c
    unfold Oper.wp
    simp [execOp, ho, resolve, invoke, builtin, hs, hx, hrun, Result.andThen]
    exact hK _ _ (h v w (by simpa using hown) ⟨rfl, rfl, rfl, Nat.le_refl _, fun _ _ _ => rfl⟩ (.inl rfl))
  | some ad => exact wpList_append_own_at w hgd s x t ho base e i z size bytes ht hi hz hsize hby hzs hsz v n xs hs hown ad m c news hx hl (hnews ad rfl) h1 h63 hbytes hbase (fun v' w' h2 h3 _ h5 => h v' w' h2 h3 h5)
end
theorem SLA.none {w : World} {a : Option Addr} {c : Nat} {xs : List ByteArray} (h : SLA w a c xs) : a = none → xs.length = 0 := by
  intro ha
  obtain ⟨b, o, h1, _⟩ := h.at_
  cases xs with
  | nil => rfl
  | cons x r => have := (h1 (by simp)).1; rw [ha] at this; cases this
theorem SLA.cells {w : World} {a : Option Addr} {c : Nat} {xs : List ByteArray} (h : SLA w a c xs) : ∀ ad, a = some ad → ∀ j u, (xs.map Value.string)[j]? = some u → w.cell? (ad.add j) = some u := by
  intro ad ha j u hj
  rw [List.getElem?_map, Option.map_eq_some_iff] at hj
  obtain ⟨x, hx, rfl⟩ := hj
  obtain ⟨b, o, hb, _, hc⟩ := h.get hx
  rw [hb] at ha
  injection ha with ha
  subst ha
  rw [Cs.add_at]
  exact hc
theorem SLA.ones (xs : List ByteArray) : ∀ u ∈ xs.map Value.string, u.oneCell' = true := fun u hu => by
  obtain ⟨z, _, rfl⟩ := List.mem_map.1 hu
  rfl
theorem Tx.undrew {w w1 : World} (h : Below w.drew.heap.size w.drew w1) : Below w.heap.size w w1 := ((Below.refl _ _).drew).trans h
theorem Rc.cell_lt {w : World} {b o : Nat} {v : Value} (h : w.cell? ⟨b, o, none⟩ = some v) : b < w.heap.size := World.block_lt_of_cell? w ⟨b, o, none⟩ h
end Go.Proofs.YtkahplbjbidemaaGreatDoor
