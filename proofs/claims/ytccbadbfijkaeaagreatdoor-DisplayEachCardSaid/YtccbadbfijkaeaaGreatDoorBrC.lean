/- Items appended to a slice that the call owns; a slice that came back from a call appended: laws. -/
import Derived.Test.YtccbadbfijkaeaaGreatDoorCsD
import Derived.Test.YtccbadbfijkaeaaGreatDoorBrB
import Derived.Maps.AppendAt
namespace Go.Proofs.YtccbadbfijkaeaaGreatDoor
open Go.RowKit
set_option maxRecDepth 100000

namespace Br
open Cp
theorem cells_new_at (w : World) (g : Nat) (hg : g = w.heap.size) (cs : Array Value) (t : TypeId) : ∀ j u, cs.toList[j]? = some u → (w.alloc (.cells cs t)).cell? ((⟨g, 0, none⟩ : Addr).add j) = some u := by
  subst hg
  intro j u h
  rw [Cs.add_at, Nat.zero_add]
  have hj : j < cs.size := by have := (List.getElem?_eq_some_iff.1 h).1; simpa using this
  simp only [World.cell?, heap_alloc_new]
  simpa using h
theorem flat_at {α : Type} (enc : α → List Value) (size : Nat) (hs : ∀ x, (enc x).length = size) : ∀ (xs : List α) (k i : Nat) (x : α), xs[k]? = some x → i < size → (xs.flatMap enc)[k * size + i]? = (enc x)[i]?
  | [], k, i, x, h, _ => by simp at h
  | y :: r, 0, i, x, h, hi => by
    simp at h
    subst h
    rw [Nat.zero_mul, Nat.zero_add, List.flatMap_cons, List.getElem?_append_left (by rw [hs]; exact hi)]
  | y :: r, k + 1, i, x, h, hi => by
    rw [List.flatMap_cons, List.getElem?_append_right (by rw [hs, Nat.succ_mul]; omega), hs, show (k + 1) * size + i - size = k * size + i by rw [Nat.succ_mul]; omega]
    exact flat_at enc size hs r k i x (by simpa using h) hi
theorem flat_len {α : Type} (enc : α → List Value) (size : Nat) (hs : ∀ x, (enc x).length = size) : ∀ xs : List α, (xs.flatMap enc).length = xs.length * size
  | [] => by simp
  | x :: r => by rw [List.flatMap_cons, List.length_append, hs, flat_len enc size hs r, List.length_cons, Nat.succ_mul]; omega
/-- A slice that the call owns: its value, and the cell of an element. -/
theorem own_any {α : Type} {enc : α → List Value} {size : Nat} (hs : ∀ x, (enc x).length = size) {w : World} {B e n : Nat} {v : Value} {xs : List α} (h : w.ownsRow B e size v n (xs.flatMap enc)) (hn : n = xs.length) :
    ∃ a c, v = .slice a xs.length c ∧ xs.length ≤ c ∧ c ≤ maxLen ∧ (xs = [] ∨ ∃ g, a = some ⟨g, 0, none⟩ ∧ B ≤ g ∧ g < w.heap.size ∧ ∀ (k i : Nat) (x : α) (u : Value), xs[k]? = some x → i < size → (enc x)[i]? = some u → w.cell? ⟨g, k * size + i, none⟩ = some u) := by
  subst hn
  have h0 := h
  rcases h.2 with ⟨rfl, h7⟩ | ⟨g, cap, cur, rfl, hb, hg, h1, h2, _⟩
  · have h8 := List.eq_nil_of_length_eq_zero h7
    subst h8
    exact ⟨none, 0, rfl, Nat.le_refl _, by simp, .inl rfl⟩
  · refine ⟨_, cap, rfl, h1, h2, .inr ⟨g, rfl, hb, (Array.getElem?_eq_some_iff.1 hg).1, fun k i x u hk hi hu => ?_⟩⟩
    have hkl : k < xs.length := (List.getElem?_eq_some_iff.1 hk).1
    rw [h0.cellAt (k * size + i) (Nat.lt_of_lt_of_le (Nat.add_lt_add_left hi _) (by rw [← Nat.succ_mul]; exact Nat.mul_le_mul_right _ hkl)), flat_at enc size hs xs k i x hk hi, hu]
abbrev encIt (x : It) : List Value := [.int .i64 x.id, .int .i64 x.rec_, .int .i64 x.branch, .int .i64 x.kind, .int .i64 x.price, .string x.call, .int .i64 x.state, .int .i64 x.cb, .int .i64 x.who, .int .i64 x.to_]
theorem encIt_len (x : It) : (encIt x).length = 10 := rfl
theorem ItA.of_own {w : World} {B e n : Nat} {v : Value} {xs : List It} (h : w.ownsRow B e 10 v n (xs.flatMap encIt)) (hn : n = xs.length) : ∃ a c, v = .slice a xs.length c ∧ ItA w a c xs := by
  obtain ⟨a, c, rfl, hc, hm, hx⟩ := own_any encIt_len h hn
  refine ⟨a, c, rfl, hc, hm, ?_⟩
  rcases hx with rfl | ⟨g, rfl, _, hg, hat⟩
  · exact ⟨0, 0, fun h9 => absurd rfl h9, fun j x hj => by simp at hj⟩
  · refine ⟨g, 0, fun _ => ⟨rfl, hg⟩, fun j x hj => ?_⟩
    rw [Nat.zero_add]
    exact ⟨hat j 0 x _ hj (by omega) rfl, hat j 1 x _ hj (by omega) rfl, hat j 2 x _ hj (by omega) rfl, hat j 3 x _ hj (by omega) rfl, hat j 4 x _ hj (by omega) rfl, hat j 5 x _ hj (by omega) rfl, hat j 6 x _ hj (by omega) rfl, hat j 7 x _ hj (by omega) rfl, hat j 8 x _ hj (by omega) rfl, hat j 9 x _ hj (by omega) rfl⟩
end Br

section
variable {P : Program} {w : World}
theorem run_append_none_any (base : Nat) (t ty e : TypeId) (i : TypeInfo) (size : Nat) (ht : P.underlying t = some (.slice e)) (hi : P.info? e = some i)
    (v : Value) (n : Nat) (xs : List Value) (hown : w.ownsRow base e size v n xs) (c : Nat) :
    (Builtin.append_ #[t, t] ty #[v, .slice none 0 c]).run P w = .ok v w := by
  rcases hown.2 with ⟨rfl, rfl⟩ | ⟨g, cap, cur, rfl, _, _, hnc, _⟩
  · simp [Builtin.append_, run_underlying ht, sizeOf, typeInfo, hi, Builtin.lenOf, Builtin.firstCells]
  · simp [Builtin.append_, run_underlying ht, sizeOf, typeInfo, hi, Builtin.lenOf, Builtin.firstCells, hnc, storeCells]
/-- A slice appended to one that the call owns; nil too. -/
theorem wpList_append_sl {ops : Array Oper} {rest : List Oper} {o : Oper} {a : Act} {Q : Exit → Act → World → Prop} (hgd : o.guard = none) (s x : Operand) (t : TypeId)
    (ho : o.op = .call { callee := .builtin .append, args := #[s, x], argTypes := #[t, t] })
    (base : Nat) (e : TypeId) (i : TypeInfo) (z : Value) (size bytes : Nat) (ht : P.underlying t = some (.slice e)) (hi : P.info? e = some i) (hz : i.zero = some z)
    (hsize : i.size = size) (hby : i.bytes = bytes) (hzs : z.cells.size = size) (hsz : 0 < size)
    (v : Value) (n : Nat) (xs : List Value) (hs : a.eval s = v) (hown : w.ownsRow base e size v n xs)
    (ao : Option Addr) (m c : Nat) (news : List Value) (hx : a.eval x = .slice ao m c) (hl : news.length = m * size) (hno : ao = none → m = 0) (hnews : ∀ ad, ao = some ad → ∀ j u, news[j]? = some u → w.cell? (ad.add j) = some u) (h1 : ∀ u ∈ news, u.oneCell' = true)
    (h63 : n + m ≤ maxLen) (hbytes : (n + m) * bytes ≤ 140737488355328) (hbase : base ≤ w.heap.size)
    (h : ∀ v' w', w'.ownsRow base e size v' (n + m) (xs ++ news) → w.grownBy w' v.ownBlock → (v'.ownBlock = v.ownBlock ∨ v'.ownBlock = some w.heap.size) → wpList P ops Q rest (a.put o.dst v') w') : wpList P ops Q (o :: rest) a w := by
  cases ao with
  | none =>
    obtain rfl := hno rfl
    have hn : news = [] := List.eq_nil_of_length_eq_zero (by rw [hl]; omega)
    subst hn
    refine wpList_plain hgd fun K hK => ?_
    have hrun := run_append_none_any (P := P) (w := w) base t o.type e i size ht hi v n xs hown c
    unfold Oper.wp
    simp [execOp, ho, resolve, invoke, builtin, hs, hx, hrun, Result.andThen]
    exact hK _ _ (h v w (by simpa using hown) ⟨rfl, rfl, rfl, Nat.le_refl _, fun _ _ _ => rfl⟩ (.inl rfl))
  | some ad => exact wpList_append_own_at w hgd s x t ho base e i z size bytes ht hi hz hsize hby hzs hsz v n xs hs hown ad m c news hx hl (hnews ad rfl) h1 h63 hbytes hbase (fun v' w' h2 h3 _ h5 => h v' w' h2 h3 h5)
end
theorem SLA.none {w : World} {a : Option Addr} {c : Nat} {xs : List ByteArray} (h : SLA w a c xs) : a = none → xs.length = 0 := by
  intro ha
  obtain ⟨b, o, h1, _⟩ := h.at_
  cases xs with
  | nil => rfl
  | cons x r => have := (h1 (by simp)).1; rw [ha] at this; cases this
theorem SLA.cells {w : World} {a : Option Addr} {c : Nat} {xs : List ByteArray} (h : SLA w a c xs) : ∀ ad, a = some ad → ∀ j u, (xs.map Value.string)[j]? = some u → w.cell? (ad.add j) = some u := by
  intro ad ha j u hj
  rw [List.getElem?_map, Option.map_eq_some_iff] at hj
  obtain ⟨x, hx, rfl⟩ := hj
  obtain ⟨b, o, hb, _, hc⟩ := h.get hx
  rw [hb] at ha
  injection ha with ha
  subst ha
  rw [Cs.add_at]
  exact hc
theorem SLA.ones (xs : List ByteArray) : ∀ u ∈ xs.map Value.string, u.oneCell' = true := fun u hu => by
  obtain ⟨z, _, rfl⟩ := List.mem_map.1 hu
  rfl
end Go.Proofs.YtccbadbfijkaeaaGreatDoor
