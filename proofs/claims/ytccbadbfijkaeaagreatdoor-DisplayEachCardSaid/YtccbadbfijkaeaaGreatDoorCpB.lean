/- A map from numbers to pointers that the call makes, and the groups of copies in memory: laws. -/
import Derived.Test.YtccbadbfijkaeaaGreatDoorRcE
import Derived.Test.YtccbadbfijkaeaaGreatDoorCpA
import Derived.Maps.OwnSet
namespace Go.Proofs.YtccbadbfijkaeaaGreatDoor
open Go.RowKit
set_option maxRecDepth 100000

/-- How a pointer to the head of a block reads. -/
def ptrE (v : Value) : Option (DataW Unit × List MemPlace) := match v with
  | .pointer none => some (.lit (.int .i64 0), [])
  | .pointer (some ⟨p, 0, none⟩) => some (.lit (.int .i64 ((p : Int) + 1)), [])
  | _ => none
theorem ptrE_none {v : Value} {ps : List MemPlace} (h : ptrE v = some (.lit (.int .i64 0), ps)) : v = .pointer none := by
  unfold ptrE at h
  split at h
  · rfl
  · simp at h
    omega
  · cases h
theorem ptrE_some {v : Value} {p : Nat} {ps : List MemPlace} (h : ptrE v = some (.lit (.int .i64 ((p : Int) + 1)), ps)) : v = .pointer (some ⟨p, 0, none⟩) := by
  unfold ptrE at h
  split at h
  · simp at h
    omega
  · rename_i q
    simp at h
    have : q = p := by omega
    rw [this]
  · cases h

/-- The map's block leads each number to the block that f says. -/
structure PMap (w : World) (M n : Nat) (f : Int → Option Nat) : Prop where
  d : ∃ D : DataW Unit, w.ownsMap Tryz.prog 3 ptrE M n D ∧ ∀ b, (Lit.int .i64 b).wf = true → Maps.has D (.int .i64 b) = (f b).isSome ∧ D.atKey (.int .i64 b) (.lit (.int .i64 0)) = .lit (.int .i64 (match f b with | some p => (p : Int) + 1 | none => 0))
theorem pkey : Maps.Keyed Tryz.prog 3 := Maps.int_keyed Tryz.underlying3
theorem pzero (w : World) : (zeroValue 64).run Tryz.prog w = .ok (.pointer none) w := by kernel_rfl
theorem PMap.of_block {w w' : World} {M n : Nat} {f : Int → Option Nat} (h : PMap w M n f) (hb : w'.heap[M]? = w.heap[M]?) : PMap w' M n f := by
  obtain ⟨D, ⟨es, clock, h1, h2⟩, h3⟩ := h.d
  exact ⟨D, ⟨es, clock, hb.trans h1, h2⟩, h3⟩
theorem PMap.lt {w : World} {M n : Nat} {f : Int → Option Nat} (h : PMap w M n f) : M < w.heap.size := by
  obtain ⟨D, h1, _⟩ := h.d
  exact h1.lt
theorem PMap.obj {w : World} {M n : Nat} {f : Int → Option Nat} (h : PMap w M n f) : ∃ es c, w.heap[M]? = some (.map es c) := by
  obtain ⟨D, ⟨es, clock, h1, _⟩, _⟩ := h.d
  exact ⟨es, clock, h1⟩
theorem PMap.made (w : World) : PMap (w.alloc (.map #[] 0)) w.heap.size 0 (fun _ => none) :=
  ⟨⟨.map [], World.ownsMap_made _ _ _ _, fun _ _ => ⟨rfl, rfl⟩⟩⟩
section
variable {w : World} {ops : Array Oper} {rest : List Oper} {o : Oper} {a : Act} {Q : Exit → Act → World → Prop} {M n : Nat} {f : Int → Option Nat}
theorem pmap_look_some {b : Int} {p : Nat} (hp : PMap w M n f) (hf : f b = some p) (hw : (Lit.int .i64 b).wf = true) (hg : o.guard = none) (m x : Operand) (hop : o.op = Op.lookup 63 m x true)
    (hm : a.eval m = .map (some M)) (hx : a.eval x = .int .i64 b) (hK : wpList Tryz.prog ops Q rest (a.put o.dst (.tuple #[.pointer (some ⟨p, 0, none⟩), .bool true])) w) : wpList Tryz.prog ops Q (o :: rest) a w := by
  obtain ⟨D, h1, h2⟩ := hp.d
  obtain ⟨h3, h4⟩ := h2 b hw
  rw [hf] at h3 h4
  refine wpList_lookup_own_ok w hg m x _ hop 3 64 pkey Tryz.underlying63 ptrE (pzero w) (.lit (.int .i64 0)) [] rfl M n D hm h1 _ _ hx (Maps.keyOf_int_mk Tryz.underlying3 hw) fun v ps hv => ?_
  rw [h4] at hv
  obtain rfl := ptrE_some hv
  rw [h3]
  exact hK
theorem pmap_look_none {b : Int} (hp : PMap w M n f) (hf : f b = none) (hw : (Lit.int .i64 b).wf = true) (hg : o.guard = none) (m x : Operand) (hop : o.op = Op.lookup 63 m x true)
    (hm : a.eval m = .map (some M)) (hx : a.eval x = .int .i64 b) (hK : wpList Tryz.prog ops Q rest (a.put o.dst (.tuple #[.pointer none, .bool false])) w) : wpList Tryz.prog ops Q (o :: rest) a w := by
  obtain ⟨D, h1, h2⟩ := hp.d
  obtain ⟨h3, h4⟩ := h2 b hw
  rw [hf] at h3 h4
  refine wpList_lookup_own_ok w hg m x _ hop 3 64 pkey Tryz.underlying63 ptrE (pzero w) (.lit (.int .i64 0)) [] rfl M n D hm h1 _ _ hx (Maps.keyOf_int_mk Tryz.underlying3 hw) fun v ps hv => ?_
  rw [h4] at hv
  obtain rfl := ptrE_none hv
  rw [h3]
  exact hK
theorem pmap_look {b : Int} {p : Nat} (hp : PMap w M n f) (hf : f b = some p) (hw : (Lit.int .i64 b).wf = true) (hg : o.guard = none) (m x : Operand) (hop : o.op = Op.lookup 63 m x false)
    (hm : a.eval m = .map (some M)) (hx : a.eval x = .int .i64 b) (hK : wpList Tryz.prog ops Q rest (a.put o.dst (.pointer (some ⟨p, 0, none⟩))) w) : wpList Tryz.prog ops Q (o :: rest) a w := by
  obtain ⟨D, h1, h2⟩ := hp.d
  obtain ⟨h3, h4⟩ := h2 b hw
  rw [hf] at h3 h4
  refine wpList_plain hg fun K' hK' => ?_
  obtain ⟨v, ps, hrun, hv⟩ := h1.lookup pkey Tryz.underlying63 (pzero w) (zd := .lit (.int .i64 0)) (zp := []) rfl (Maps.keyOf_int_mk Tryz.underlying3 hw)
  rw [h4] at hv
  obtain rfl := ptrE_some hv
  unfold Oper.wp
  simp [execOp, hop, hm, hx, hrun, Result.andThen]
  exact hK' _ _ hK
theorem pmap_put {b : Int} {p : Nat} (hp : PMap w M n f) (hn : n < maxLen) (hw : (Lit.int .i64 b).wf = true) (hg : o.guard = none) (m x v : Operand) (hop : o.op = Op.mapUpdate 63 m x v)
    (hm : a.eval m = .map (some M)) (hx : a.eval x = .int .i64 b) (hv : a.eval v = .pointer (some ⟨p, 0, none⟩))
    (hK : ∀ w', PMap w' M (n + 1) (fun y => if y = b then some p else f y) → w.grownBy w' (some M) → wpList Tryz.prog ops Q rest (a.put o.dst undef) w') : wpList Tryz.prog ops Q (o :: rest) a w := by
  obtain ⟨D, h1, h2⟩ := hp.d
  refine wpList_mapUpdate_own w hg m x v _ hop 3 64 pkey Tryz.underlying63 ptrE M n D hm h1 hn _ _ _ hx hv (Maps.keyOf_int_mk Tryz.underlying3 hw) (.lit (.int .i64 ((p : Int) + 1))) [] rfl fun w' h3 h4 => ?_
  refine hK w' ⟨⟨_, h3, fun y hy => ?_⟩⟩ h4
  have ht := (h1.tidy pkey).isMap
  by_cases hyb : y = b
  · subst hyb
    have hk : WideAt.IsKeyLit (Lit.int .i64 y) := trivial
    rw [if_pos rfl, Maps.has_put_same ht hk, Maps.atKey_put_same ht hk]
    exact ⟨rfl, rfl⟩
  · have hne : Lit.int .i64 y ≠ Lit.int .i64 b := fun e => hyb (by injection e)
    rw [if_neg hyb, Maps.has_put_other hne, Maps.atKey_put_other hne]
    exact h2 y hy
end

/-! ### blocks -/
theorem hp_set_same {w : World} {g : Nat} {cs : Array Value} {t : TypeId} (h : w.heap[g]? = some (.cells cs t (0, 0))) (i : Nat) (u : Value) : (w.setCell ⟨g, i, none⟩ u).heap[g]? = some (.cells (cs.setIfInBounds i u) t (0, 0)) := by
  simp [World.setCell, Array.getElem?_modify, h]
theorem hp_set_ne {w : World} {g k : Nat} (hk : k ≠ g) (i : Nat) (u : Value) : (w.setCell ⟨g, i, none⟩ u).heap[k]? = w.heap[k]? := Below.heap_setCell w ⟨g, i, none⟩ u k hk
theorem hp_alloc {w : World} {k : Nat} (hk : k < w.heap.size) (o : Obj) : (w.alloc o).heap[k]? = w.heap[k]? := Below.heap_alloc w o k hk
theorem own_of_block {w w' : World} {B e size n : Nat} {v : Value} {xs : List Value} (h : w.ownsRow B e size v n xs) (hb : ∀ g, v.ownBlock = some g → w'.heap[g]? = w.heap[g]?) : w'.ownsRow B e size v n xs := by
  refine ⟨h.1, ?_⟩
  rcases h.2 with hn | ⟨g, cap, cur, rfl, hg, hgg, rest⟩
  · exact .inl hn
  · exact .inr ⟨g, cap, cur, rfl, hg, by rw [hb g rfl]; exact hgg, rest⟩
theorem own_obj {w : World} {B e size n : Nat} {v : Value} {xs : List Value} (h : w.ownsRow B e size v n xs) {g : Nat} (hg : v.ownBlock = some g) : B ≤ g ∧ ∃ cur, w.heap[g]? = some (.cells cur e (0, 0)) := by
  rcases h.2 with ⟨rfl, _⟩ | ⟨g', cap, cur, rfl, hb, hgg, _⟩
  · cases hg
  · injection hg with hg
    subst hg
    exact ⟨hb, cur, hgg⟩

namespace Cp
open Rc
/-- The slice holds these items. -/
structure ItA (w : World) (a : Option Addr) (c : Nat) (xs : List It) : Prop where
  cap : xs.length ≤ c
  max : c ≤ maxLen
  at_ : ∃ b o, (xs ≠ [] → a = some ⟨b, o, none⟩ ∧ b < w.heap.size) ∧ ∀ (j : Nat) x, xs[j]? = some x → w.cell? ⟨b, o + j * 10, none⟩ = some (.int .i64 x.id) ∧ w.cell? ⟨b, o + j * 10 + 1, none⟩ = some (.int .i64 x.rec_) ∧ w.cell? ⟨b, o + j * 10 + 2, none⟩ = some (.int .i64 x.branch) ∧
    w.cell? ⟨b, o + j * 10 + 3, none⟩ = some (.int .i64 x.kind) ∧ w.cell? ⟨b, o + j * 10 + 4, none⟩ = some (.int .i64 x.price) ∧ w.cell? ⟨b, o + j * 10 + 5, none⟩ = some (.string x.call) ∧ w.cell? ⟨b, o + j * 10 + 6, none⟩ = some (.int .i64 x.state) ∧
    w.cell? ⟨b, o + j * 10 + 7, none⟩ = some (.int .i64 x.cb) ∧ w.cell? ⟨b, o + j * 10 + 8, none⟩ = some (.int .i64 x.who) ∧ w.cell? ⟨b, o + j * 10 + 9, none⟩ = some (.int .i64 x.to_)
theorem ItA.get {w : World} {a : Option Addr} {c : Nat} {xs : List It} (h : ItA w a c xs) {k : Nat} {x : It} (hk : xs[k]? = some x) :
    ∃ b o, a = some ⟨b, o, none⟩ ∧ b < w.heap.size ∧ w.cell? ⟨b, o + k * 10, none⟩ = some (.int .i64 x.id) ∧ w.cell? ⟨b, o + k * 10 + 1, none⟩ = some (.int .i64 x.rec_) ∧ w.cell? ⟨b, o + k * 10 + 2, none⟩ = some (.int .i64 x.branch) ∧
    w.cell? ⟨b, o + k * 10 + 3, none⟩ = some (.int .i64 x.kind) ∧ w.cell? ⟨b, o + k * 10 + 4, none⟩ = some (.int .i64 x.price) ∧ w.cell? ⟨b, o + k * 10 + 5, none⟩ = some (.string x.call) ∧ w.cell? ⟨b, o + k * 10 + 6, none⟩ = some (.int .i64 x.state) ∧
    w.cell? ⟨b, o + k * 10 + 7, none⟩ = some (.int .i64 x.cb) ∧ w.cell? ⟨b, o + k * 10 + 8, none⟩ = some (.int .i64 x.who) ∧ w.cell? ⟨b, o + k * 10 + 9, none⟩ = some (.int .i64 x.to_) := by
  obtain ⟨b, o, h1, h2⟩ := h.at_
  have hne : xs ≠ [] := by intro h0; subst h0; simp at hk
  exact ⟨b, o, (h1 hne).1, (h1 hne).2, h2 k x hk⟩
theorem ItA.below {w w' : World} {a : Option Addr} {c : Nat} {xs : List It} (h : ItA w a c xs) (hb : Below w.heap.size w w') : ItA w' a c xs := by
  obtain ⟨b, o, h1, h2⟩ := h.at_
  refine ⟨h.cap, h.max, b, o, fun hn => ⟨(h1 hn).1, Nat.lt_of_lt_of_le (h1 hn).2 hb.size⟩, fun j x hx => ?_⟩
  obtain ⟨c0, c1, c2, c3, c4, c5, c6, c7, c8, c9⟩ := h2 j x hx
  exact ⟨cell_later hb c0, cell_later hb c1, cell_later hb c2, cell_later hb c3, cell_later hb c4, cell_later hb c5, cell_later hb c6, cell_later hb c7, cell_later hb c8, cell_later hb c9⟩

/-- The block of a group: how many items, how many on the shelf, their calls. -/
abbrev gcells (l : List It) (b : Int) (v : Value) : Array Value := #[.int .i64 ((ofB b l).length : Nat), .int .i64 (shelf (ofB b l) : Nat), v]
abbrev strs (l : List By) : List Value := l.map fun x => Value.string ⟨x.toArray⟩
/-- The groups of the items l, branches bs, in memory: the block of each and the slice in it. -/
structure Inv (w : World) (B M n : Nat) (l : List It) (bs : List Int) (p : Int → Nat) (c : Int → Value) : Prop where
  map : PMap w M n fun b => if b ∈ bs then some (p b) else none
  blk : ∀ b ∈ bs, B ≤ p b ∧ w.heap[p b]? = some (.cells (gcells l b (c b)) 67 (0, 0))
  row : ∀ b ∈ bs, w.ownsRow B 9 1 (c b) (callsOf (ofB b l)).length (strs (callsOf (ofB b l)))
  sep : ∀ b ∈ bs, ∀ b' ∈ bs, b ≠ b' → p b ≠ p b' ∧ ∀ k, (c b).ownBlock = some k → (c b').ownBlock ≠ some k
  mem : ∀ x ∈ l, x.branch ∈ bs
/-- .. where all that was there is as it was. -/
theorem Inv.below {w w' : World} {B M n : Nat} {l : List It} {bs : List Int} {p : Int → Nat} {c : Int → Value} (h : Inv w B M n l bs p c) (hb : Below w.heap.size w w') : Inv w' B M n l bs p c := by
  have hk : ∀ k, k < w.heap.size → w'.heap[k]? = w.heap[k]? := fun k hk => hb.block k hk
  refine ⟨h.map.of_block (hk _ h.map.lt), fun b hb2 => ⟨(h.blk b hb2).1, (hk _ ?_).trans (h.blk b hb2).2⟩, fun b hb2 => own_below (h.row b hb2) hb, h.sep, h.mem⟩
  exact (Array.getElem?_eq_some_iff.1 (h.blk b hb2).2).1
theorem ofB_snoc_same {b : Int} {l : List It} {x : It} (h : x.branch = b) : ofB b (l ++ [x]) = ofB b l ++ [x] := by
  unfold ofB; rw [List.filter_append]; simp [h]
theorem ofB_snoc_ne {b : Int} {l : List It} {x : It} (h : x.branch ≠ b) : ofB b (l ++ [x]) = ofB b l := by
  unfold ofB; rw [List.filter_append]; simp [h]
theorem ofB_none {b : Int} {l : List It} (h : ∀ x ∈ l, x.branch ≠ b) : ofB b l = [] := by
  unfold ofB
  rw [List.filter_eq_nil_iff]
  intro x hx
  simpa using h x hx
def cset (c : Int → Value) (b : Int) (v : Value) : Int → Value := fun y => if y = b then v else c y
def pset (p : Int → Nat) (b : Int) (v : Nat) : Int → Nat := fun y => if y = b then v else p y
theorem cset_same (c : Int → Value) (b : Int) (v : Value) : cset c b v b = v := if_pos rfl
theorem pset_same (p : Int → Nat) (b : Int) (v : Nat) : pset p b v b = v := if_pos rfl
/-- A new group. -/
theorem Inv.new {w w' : World} {B M n : Nat} {l : List It} {bs : List Int} {p : Int → Nat} {c : Int → Value} (h : Inv w B M n l bs p c) {b : Int} (hb : b ∉ bs) {q : Nat}
    (hm : PMap w' M (n + 1) fun y => if y = b then some q else if y ∈ bs then some (p y) else none)
    (hag : ∀ k, k < w.heap.size → k ≠ M → w'.heap[k]? = w.heap[k]?) (hq : w.heap.size ≤ q) (hB : B ≤ w.heap.size)
    (hblk : w'.heap[q]? = some (.cells #[.int .i64 0, .int .i64 0, .slice none 0 0] 67 (0, 0))) :
    Inv w' B M (n + 1) l (bs ++ [b]) (pset p b q) (cset c b (.slice none 0 0)) := by
  have hlt : ∀ y ∈ bs, p y < w.heap.size := fun y hy => (Array.getElem?_eq_some_iff.1 (h.blk y hy).2).1
  have hrl : ∀ y ∈ bs, ∀ k, (c y).ownBlock = some k → k < w.heap.size ∧ k ≠ M := fun y hy k hk => by
    obtain ⟨_, cur, hc⟩ := own_obj (h.row y hy) hk
    refine ⟨(Array.getElem?_eq_some_iff.1 hc).1, fun e => ?_⟩
    obtain ⟨es, cl, hM⟩ := h.map.obj
    rw [e, hM] at hc
    cases hc
  have hpM : ∀ y ∈ bs, p y ≠ M := fun y hy e => by
    obtain ⟨es, cl, hM⟩ := h.map.obj
    have := (h.blk y hy).2
    rw [e, hM] at this
    cases this
  have hne : ∀ y ∈ bs, y ≠ b := fun y hy e => hb (e ▸ hy)
  have h0 : ofB b l = [] := ofB_none fun x hx e => hb (e ▸ h.mem x hx)
  refine ⟨?_, ?_, ?_, ?_, fun x hx => List.mem_append_left _ (h.mem x hx)⟩
  · have e : (fun y => if y = b then some q else if y ∈ bs then some (p y) else none) = fun y => if y ∈ bs ++ [b] then some (pset p b q y) else none := by
      funext y
      unfold pset
      by_cases hy : y = b
      · simp [hy]
      · simp [hy]
    rw [← e]
    exact hm
  · intro y hy
    rcases List.mem_append.1 hy with h1 | h1
    · unfold pset cset
      rw [if_neg (hne y h1), if_neg (hne y h1)]
      exact ⟨(h.blk y h1).1, (hag _ (hlt y h1) (hpM y h1)).trans (h.blk y h1).2⟩
    · simp at h1
      subst h1
      unfold pset cset gcells
      rw [if_pos rfl, if_pos rfl, h0]
      exact ⟨by omega, hblk⟩
  · intro y hy
    rcases List.mem_append.1 hy with h1 | h1
    · unfold cset
      rw [if_neg (hne y h1)]
      exact own_of_block (h.row y h1) fun g hg => hag g (hrl y h1 g hg).1 (hrl y h1 g hg).2
    · simp at h1
      subst h1
      unfold cset
      rw [if_pos rfl, h0]
      exact World.ownsRow_nil _ _ _ _
  · intro y hy y' hy' hyy
    rcases List.mem_append.1 hy with h1 | h1 <;> rcases List.mem_append.1 hy' with h2 | h2
    · unfold pset cset
      rw [if_neg (hne y h1), if_neg (hne y' h2), if_neg (hne y h1), if_neg (hne y' h2)]
      exact h.sep y h1 y' h2 hyy
    · simp at h2
      subst h2
      unfold pset cset
      rw [if_neg (hne y h1), if_pos rfl, if_neg (hne y h1), if_pos rfl]
      exact ⟨by have := hlt y h1; omega, fun k _ => by simp [Value.ownBlock]⟩
    · simp at h1
      subst h1
      unfold pset cset
      rw [if_pos rfl, if_neg (hne y' h2), if_pos rfl, if_neg (hne y' h2)]
      exact ⟨by have := hlt y' h2; omega, fun k hk => by simp [Value.ownBlock] at hk⟩
    · simp at h1 h2
      exact absurd (h1.trans h2.symm) hyy
/-- One item more in a group that is there. -/
theorem Inv.step {w w' : World} {B M n : Nat} {l : List It} {bs : List Int} {p : Int → Nat} {c : Int → Value} (h : Inv w B M n l bs p c) {x : It} (hb : x.branch ∈ bs) {v : Value}
    (hag : ∀ k, k < w.heap.size → k ≠ p x.branch → (c x.branch).ownBlock ≠ some k → w'.heap[k]? = w.heap[k]?)
    (hblk : w'.heap[p x.branch]? = some (.cells (gcells (l ++ [x]) x.branch v) 67 (0, 0)))
    (hrow : w'.ownsRow B 9 1 v (callsOf (ofB x.branch (l ++ [x]))).length (strs (callsOf (ofB x.branch (l ++ [x])))))
    (hloc : ∀ k, v.ownBlock = some k → (c x.branch).ownBlock = some k ∨ w.heap.size ≤ k) :
    Inv w' B M n (l ++ [x]) bs p (cset c x.branch v) := by
  have hrl : ∀ y ∈ bs, ∀ k, (c y).ownBlock = some k → k < w.heap.size ∧ k ≠ M ∧ ∀ y' ∈ bs, k ≠ p y' := fun y hy k hk => by
    obtain ⟨_, cur, hc⟩ := own_obj (h.row y hy) hk
    refine ⟨(Array.getElem?_eq_some_iff.1 hc).1, fun e => ?_, fun y' hy' e => ?_⟩
    · obtain ⟨es, cl, hM⟩ := h.map.obj
      rw [e, hM] at hc
      cases hc
    · have := (h.blk y' hy').2
      rw [← e, hc] at this
      simp at this
  have hpM : ∀ y ∈ bs, M ≠ p y := fun y hy e => by
    obtain ⟨es, cl, hM⟩ := h.map.obj
    have := (h.blk y hy).2
    rw [← e, hM] at this
    cases this
  refine ⟨?_, ?_, ?_, ?_, ?_⟩
  · refine h.map.of_block (hag M h.map.lt (hpM _ hb) fun e => ?_)
    exact (hrl _ hb M e).2.1 rfl
  · intro y hy
    by_cases e : y = x.branch
    · subst e
      unfold cset
      rw [if_pos rfl]
      exact ⟨(h.blk _ hb).1, hblk⟩
    · unfold cset gcells
      rw [if_neg e, ofB_snoc_ne (fun h9 => e h9.symm)]
      refine ⟨(h.blk y hy).1, (hag _ ?_ ?_ ?_).trans (h.blk y hy).2⟩
      · exact (Array.getElem?_eq_some_iff.1 (h.blk y hy).2).1
      · exact (h.sep y hy _ hb e).1
      · intro h9
        exact (hrl _ hb _ h9).2.2 y hy rfl
  · intro y hy
    by_cases e : y = x.branch
    · subst e
      unfold cset
      rw [if_pos rfl]
      exact hrow
    · unfold cset
      rw [if_neg e, ofB_snoc_ne (fun h9 => e h9.symm)]
      exact own_of_block (h.row y hy) fun g hg => hag g (hrl y hy g hg).1 ((hrl y hy g hg).2.2 _ hb) ((h.sep y hy _ hb e).2 g hg)
  · intro y hy y' hy' hyy
    refine ⟨(h.sep y hy y' hy' hyy).1, fun k hk => ?_⟩
    unfold cset at hk ⊢
    by_cases e : y = x.branch
    · rw [if_pos e] at hk
      rw [if_neg (fun e2 => hyy (e.trans e2.symm))]
      rcases hloc k hk with h1 | h1
      · exact (h.sep _ hb y' hy' (fun e2 => hyy (e.trans e2))).2 k h1
      · intro h2
        have := (hrl y' hy' k h2).1
        omega
    · rw [if_neg e] at hk
      by_cases e' : y' = x.branch
      · rw [if_pos e']
        intro h2
        rcases hloc k h2 with h1 | h1
        · exact (h.sep y hy _ hb e).2 k hk h1
        · have := (hrl y hy k hk).1
          omega
      · rw [if_neg e']
        exact (h.sep y hy y' hy' hyy).2 k hk
  · intro z hz
    rcases List.mem_append.1 hz with h1 | h1
    · exact h.mem z h1
    · simp at h1; subst h1; exact hb
theorem own_ne_blk {w : World} {B e size n P : Nat} {v : Value} {xs : List Value} {cs : Array Value} {t : TypeId} (h : w.ownsRow B e size v n xs) (hP : w.heap[P]? = some (.cells cs t (0, 0))) (hne : e ≠ t) : ∀ g, v.ownBlock = some g → g ≠ P := fun g hg he => by
  obtain ⟨_, cur, hc⟩ := own_obj h hg
  rw [he, hP] at hc
  injection hc with hc
  injection hc with _ h2 _
  exact hne h2.symm
theorem len_snoc (l : List It) (x : It) : ((ofB x.branch (l ++ [x])).length : Int) = (ofB x.branch l).length + 1 := by
  rw [ofB_snoc_same rfl, List.length_append]; simp
/-- One item more, without a call. -/
theorem Inv.step0 {w w' : World} {B M n P : Nat} {l : List It} {bs : List Int} {p : Int → Nat} {c : Int → Value} {cv : Value} (h : Inv w B M n l bs p c) {x : It} (hb : x.branch ∈ bs) (hP : p x.branch = P) (hcv : c x.branch = cv) {S : Int}
    (hS : S = (shelf (ofB x.branch (l ++ [x])) : Nat)) (hc : callsOf (ofB x.branch (l ++ [x])) = callsOf (ofB x.branch l))
    (hag : ∀ k, k ≠ P → w'.heap[k]? = w.heap[k]?)
    (hblk : w'.heap[P]? = some (.cells #[.int .i64 ((ofB x.branch l).length + 1), .int .i64 S, cv] 67 (0, 0))) :
    Inv w' B M n (l ++ [x]) bs p (cset c x.branch cv) := by
  subst hP hcv
  refine h.step hb (fun k _ h2 _ => hag k h2) ?_ ?_ (fun k hk => .inl hk)
  · unfold gcells
    rw [len_snoc, ← hS]
    exact hblk
  · rw [hc]
    exact own_of_block (h.row _ hb) fun g hg => hag g (own_ne_blk (h.row _ hb) (h.blk _ hb).2 (by decide) g hg)
/-- One item more, with a call: its slice has grown. -/
theorem Inv.step1 {w w' : World} {B M n P : Nat} {l : List It} {bs : List Int} {p : Int → Nat} {c : Int → Value} {cv v : Value} (h : Inv w B M n l bs p c) {x : It} (hb : x.branch ∈ bs) (hP : p x.branch = P) (hcv : c x.branch = cv) {S : Int}
    (hS : S = (shelf (ofB x.branch (l ++ [x])) : Nat)) (hc : callsOf (ofB x.branch (l ++ [x])) = callsOf (ofB x.branch l) ++ [x.call.data.toList])
    (hag : ∀ k, k < w.heap.size → k ≠ P → cv.ownBlock ≠ some k → w'.heap[k]? = w.heap[k]?)
    (hblk : w'.heap[P]? = some (.cells #[.int .i64 ((ofB x.branch l).length + 1), .int .i64 S, v] 67 (0, 0)))
    (hrow : w'.ownsRow B 9 1 v ((callsOf (ofB x.branch l)).length + 1) (strs (callsOf (ofB x.branch l)) ++ [.string x.call]))
    (hloc : ∀ k, v.ownBlock = some k → cv.ownBlock = some k ∨ w.heap.size ≤ k) :
    Inv w' B M n (l ++ [x]) bs p (cset c x.branch v) := by
  subst hP hcv
  refine h.step hb hag ?_ ?_ hloc
  · unfold gcells
    rw [len_snoc, ← hS]
    exact hblk
  · rw [hc, List.length_append]
    unfold strs
    rw [List.map_append]
    exact hrow
/-- A call appended to the slice of a group, and the slice stored back. -/
theorem Inv.grow {w W1 W2 Wd w5 : World} {B M n P g cap : Nat} {l : List It} {bs : List Int} {p : Int → Nat} {c : Int → Value} {cv u : Value} (h : Inv W1 B M n l bs p c) {x : It} (hb : x.branch ∈ bs) (hP : p x.branch = P) (hcv : c x.branch = cv) {S : Int}
    (hS : S = (shelf (ofB x.branch (l ++ [x])) : Nat)) (hc : callsOf (ofB x.branch (l ++ [x])) = callsOf (ofB x.branch l) ++ [x.call.data.toList])
    (hag2 : ∀ k, k ≠ P → W2.heap[k]? = W1.heap[k]?) (hs2 : W2.heap.size = W1.heap.size)
    (hB2 : W2.heap[P]? = some (.cells #[.int .i64 ((ofB x.branch l).length + 1), .int .i64 S, cv] 67 (0, 0)))
    (hWd : ∀ k, k < W2.heap.size → Wd.heap[k]? = W2.heap[k]?) (hsd : W2.heap.size < Wd.heap.size) (hbd : Below B w Wd)
    (hg5 : Wd.grownBy w5 cv.ownBlock) (hown5 : w5.ownsRow B 9 1 (.slice (some ⟨g, 0, none⟩) ((callsOf (ofB x.branch l)).length + 1) cap) ((callsOf (ofB x.branch l)).length + 1) (strs (callsOf (ofB x.branch l)) ++ [.string x.call]))
    (hat5 : cv.ownBlock = some g ∨ W2.heap.size ≤ g) {bn : Nat} {ys : List Value} (hbr : W1.ownsRow B 3 1 u bn ys) (hBw : B ≤ Wd.heap.size) :
    Inv (w5.setCell ⟨P, 2, none⟩ (.slice (some ⟨g, 0, none⟩) ((callsOf (ofB x.branch l)).length + 1) cap)) B M n (l ++ [x]) bs p (cset c x.branch (.slice (some ⟨g, 0, none⟩) ((callsOf (ofB x.branch l)).length + 1) cap)) ∧
    (w5.setCell ⟨P, 2, none⟩ (.slice (some ⟨g, 0, none⟩) ((callsOf (ofB x.branch l)).length + 1) cap)).ownsRow B 3 1 u bn ys ∧ Below B w (w5.setCell ⟨P, 2, none⟩ (.slice (some ⟨g, 0, none⟩) ((callsOf (ofB x.branch l)).length + 1) cap)) := by
  have hrowc : W1.ownsRow B 9 1 cv (callsOf (ofB x.branch l)).length (strs (callsOf (ofB x.branch l))) := by rw [← hcv]; exact h.row _ hb
  have hblk1 := (h.blk _ hb).2
  rw [hP] at hblk1
  have hPn : some P ≠ cv.ownBlock := fun e => own_ne_blk hrowc hblk1 (by decide) P e.symm rfl
  have hPl : P < W2.heap.size := (Array.getElem?_eq_some_iff.1 hB2).1
  have hB5 : w5.heap[P]? = some (.cells #[.int .i64 ((ofB x.branch l).length + 1), .int .i64 S, cv] 67 (0, 0)) := (hg5.block P (by omega) hPn).trans ((hWd P hPl).trans hB2)
  have hag : ∀ k, k < W1.heap.size → k ≠ P → cv.ownBlock ≠ some k → (w5.setCell ⟨P, 2, none⟩ (.slice (some ⟨g, 0, none⟩) ((callsOf (ofB x.branch l)).length + 1) cap)).heap[k]? = W1.heap[k]? := fun k hk hkP hkc =>
    (hp_set_ne hkP _ _).trans ((hg5.block k (by omega) (fun e => hkc e.symm)).trans ((hWd k (by omega)).trans (hag2 k hkP)))
  have hBP : B ≤ P := by rw [← hP]; exact (h.blk _ hb).1
  refine ⟨h.step1 hb hP hcv hS hc hag ?_ ?_ ?_, ?_, ?_⟩
  · have := hp_set_same hB5 2 (.slice (some ⟨g, 0, none⟩) ((callsOf (ofB x.branch l)).length + 1) cap)
    simpa using this
  · exact own_of_block hown5 fun g' hg' => hp_set_ne (own_ne_blk hown5 hB5 (by decide) g' hg') _ _
  · intro k hk
    injection hk with hk
    subst hk
    rcases hat5 with h1 | h1
    · exact .inl h1
    · exact .inr (by simp only; omega)
  · refine own_of_block hbr fun g' hg' => ?_
    obtain ⟨_, cur, hcur⟩ := own_obj hbr hg'
    refine hag g' (Array.getElem?_eq_some_iff.1 hcur).1 (own_ne_blk hbr hblk1 (by decide) g' hg') fun e => ?_
    exact own_ne_blk hrowc hcur (by decide) g' e rfl
  · refine (hbd.grown hg5 hBw fun k hk => ?_).setCell hBP _
    exact (own_obj hrowc hk).1
/-- Writes to a slice of numbers, and new blocks, leave the groups as they are. -/
theorem Inv.off {w w' : World} {B M n : Nat} {l : List It} {bs : List Int} {p : Int → Nat} {c : Int → Value} (h : Inv w B M n l bs p c) {u : Value} {bn : Nat} {ys : List Value} (hu : w.ownsRow B 3 1 u bn ys)
    (hag : ∀ k, k < w.heap.size → u.ownBlock ≠ some k → w'.heap[k]? = w.heap[k]?) : Inv w' B M n l bs p c := by
  refine ⟨h.map.of_block (hag _ h.map.lt fun e => ?_), fun b hb => ⟨(h.blk b hb).1, (hag _ (Array.getElem?_eq_some_iff.1 (h.blk b hb).2).1 fun e => ?_).trans (h.blk b hb).2⟩, fun b hb => own_of_block (h.row b hb) fun g hg => ?_, h.sep, h.mem⟩
  · obtain ⟨es, cl, hM⟩ := h.map.obj
    obtain ⟨_, cur, hc⟩ := own_obj hu e
    rw [hM] at hc
    cases hc
  · exact own_ne_blk hu (h.blk b hb).2 (by decide) _ e rfl
  · obtain ⟨_, cur, hc⟩ := own_obj (h.row b hb) hg
    exact hag g (Array.getElem?_eq_some_iff.1 hc).1 fun e => own_ne_blk hu hc (by decide) _ e rfl
/-- A new group laid, and its number appended to the list of numbers. -/
theorem Inv.newgrow {w W1 w2 w3 : World} {B M n q P : Nat} {l : List It} {bs : List Int} {p : Int → Nat} {c : Int → Value} {b : Int} {u : Value} {bn : Nat} {ys : List Value} {o2 : Obj} {cs : Array Value} {tq : TypeId} (h : Inv W1 B M n l bs p c) (hb : b ∉ bs) (hPs : W1.heap.size = P)
    (hm2 : PMap w2 M (n + 1) fun y => if y = b then some P else if y ∈ bs then some (p y) else none)
    (hg2 : (W1.alloc (.cells #[.int .i64 0, .int .i64 0, .slice none 0 0] 67)).grownBy w2 (some M)) (hu : W1.ownsRow B 3 1 u bn ys) (hg3 : (w2.alloc o2).grownBy w3 u.ownBlock)
    (hBM : B ≤ M) (hb1 : Below B w W1) (hBW : B ≤ W1.heap.size) (hqb : W1.heap[q]? = some (.cells cs tq (0, 0))) (hqt : 3 ≠ tq) :
    Inv w3 B M (n + 1) l (bs ++ [b]) (pset p b P) (cset c b (.slice none 0 0)) ∧ w3.heap[P]? = some (.cells #[.int .i64 ((ofB b l).length : Nat), .int .i64 (shelf (ofB b l) : Nat), .slice none 0 0] 67 (0, 0)) ∧
    w3.heap[q]? = some (.cells cs tq (0, 0)) ∧ Below B w w3 ∧ P < w3.heap.size ∧ B ≤ P := by
  subst hPs
  have hM := h.map.lt
  have hs2 := hg2.size
  have hs3 := hg3.size
  simp at hs2 hs3
  have hag2 : ∀ k, k < W1.heap.size → k ≠ M → w2.heap[k]? = W1.heap[k]? := fun k hk hkM => (hg2.block k (by simp; omega) (fun e => hkM (by injection e))).trans (hp_alloc hk _)
  have hblk : w2.heap[W1.heap.size]? = some (.cells #[.int .i64 0, .int .i64 0, .slice none 0 0] 67 (0, 0)) := (hg2.block _ (by simp) (fun e => by injection e with e; omega)).trans (heap_alloc_new _ _)
  have hI2 := h.new hb hm2 hag2 (Nat.le_refl _) hBW hblk
  have huM : ∀ g, u.ownBlock = some g → g ≠ M := fun g hg e => by
    obtain ⟨es, cl, hM⟩ := h.map.obj
    obtain ⟨_, cur, hc⟩ := own_obj hu hg
    rw [e, hM] at hc
    cases hc
  have hu2 : w2.ownsRow B 3 1 u bn ys := own_of_block hu fun g hg => by
    obtain ⟨_, cur, hc⟩ := own_obj hu hg
    exact hag2 g (Array.getElem?_eq_some_iff.1 hc).1 (huM g hg)
  have hag3 : ∀ k, k < w2.heap.size → u.ownBlock ≠ some k → w3.heap[k]? = w2.heap[k]? := fun k hk hku => (hg3.block k (by simp; omega) (fun e => hku e.symm)).trans (hp_alloc hk _)
  have hql := (Array.getElem?_eq_some_iff.1 hqb).1
  have h0 : ofB b l = [] := ofB_none fun x hx e => hb (e ▸ h.mem x hx)
  refine ⟨hI2.off hu2 hag3, ?_, ?_, ?_, by omega, hBW⟩
  · rw [h0]
    refine (hag3 _ (by omega) fun e => ?_).trans hblk
    obtain ⟨_, cur, hc⟩ := own_obj hu e
    have := (Array.getElem?_eq_some_iff.1 hc).1
    omega
  · refine (hag3 q (by omega) fun e => own_ne_blk hu hqb hqt q e rfl).trans ((hag2 q hql fun e => ?_).trans hqb)
    obtain ⟨es, cl, hM⟩ := h.map.obj
    rw [e, hM] at hqb
    cases hqb
  · have hb2 : Below B w w2 := (hb1.alloc hBW _).grown hg2 (by simp; omega) (fun k hk => by injection hk with hk; omega)
    exact (hb2.alloc (by omega) _).grown hg3 (by simp; omega) (fun k hk => (own_obj hu hk).1)
theorem own_ne_map {w : World} {B e size n M m : Nat} {v : Value} {xs : List Value} {f : Int → Option Nat} (h : w.ownsRow B e size v n xs) (hM : PMap w M m f) : v.ownBlock ≠ some M := fun e => by
  obtain ⟨es, cl, hM⟩ := hM.obj
  obtain ⟨_, cur, hc⟩ := own_obj h e
  rw [hM] at hc
  cases hc
theorem nodup_snoc {bs : List Int} {b : Int} (h : bs.Nodup ∧ ∀ y ∈ bs, -9223372036854775808 ≤ y ∧ y ≤ 9223372036854775807) (hb : b ∉ bs) (hw : -9223372036854775808 ≤ b ∧ b ≤ 9223372036854775807) : (bs ++ [b]).Nodup ∧ ∀ y ∈ bs ++ [b], -9223372036854775808 ≤ y ∧ y ≤ 9223372036854775807 := by
  refine ⟨?_, fun y hy => ?_⟩
  · rw [List.nodup_append]
    refine ⟨h.1, by simp, fun a ha b' hb' => ?_⟩
    simp at hb'
    subst hb'
    exact fun e => hb (e ▸ ha)
  · rcases List.mem_append.1 hy with h1 | h1
    · exact h.2 y h1
    · simp at h1; subst h1; exact hw
end Cp
end Go.Proofs.YtccbadbfijkaeaaGreatDoor
