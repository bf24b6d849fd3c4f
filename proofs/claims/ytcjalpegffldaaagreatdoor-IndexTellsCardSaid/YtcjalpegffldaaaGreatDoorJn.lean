/- A map from words to numbers that the call makes; posts whose places grow, in memory: laws. -/
import Derived.Test.YtcjalpegffldaaaGreatDoorJm
import Derived.Maps.OwnSet
import Derived.StringKeys
namespace Go.Proofs.YtcjalpegffldaaaGreatDoor
open Go.RowKit
set_option maxRecDepth 100000

namespace Ix
open Rc
def intE (v : Value) : Option (DataW Unit × List MemPlace) := match v with
  | .int .i64 n => some (.lit (.int .i64 n), [])
  | _ => none
theorem intE_some {v : Value} {n : Int} {ps : List MemPlace} (h : intE v = some (.lit (.int .i64 n), ps)) : v = .int .i64 n := by
  unfold intE at h
  split at h
  · simp at h
    rw [h.1]
  · cases h
/-- The map's block leads each word to the number that f says. -/
structure SMap (w : World) (M n : Nat) (f : By → Option Nat) : Prop where
  d : ∃ D : DataW Unit, w.ownsMap Tryz.prog 9 intE M n D ∧ ∀ x : By, x.length ≤ 9223372036854775807 → Maps.has D (.string x) = (f x).isSome ∧ D.atKey (.string x) (.lit (.int .i64 0)) = .lit (.int .i64 (match f x with | some k => (k : Int) | none => 0))
theorem skey : Maps.Keyed Tryz.prog 9 := Maps.string_keyed Tryz.underlying9
theorem szero (w : World) : (zeroValue 3).run Tryz.prog w = .ok (.int .i64 0) w := by kernel_rfl
theorem SMap.of_block {w w' : World} {M n : Nat} {f : By → Option Nat} (h : SMap w M n f) (hb : w'.heap[M]? = w.heap[M]?) : SMap w' M n f := by
  obtain ⟨D, ⟨es, clock, h1, h2⟩, h3⟩ := h.d
  exact ⟨D, ⟨es, clock, hb.trans h1, h2⟩, h3⟩
theorem SMap.lt {w : World} {M n : Nat} {f : By → Option Nat} (h : SMap w M n f) : M < w.heap.size := by
  obtain ⟨D, h1, _⟩ := h.d
  exact h1.lt
theorem SMap.obj {w : World} {M n : Nat} {f : By → Option Nat} (h : SMap w M n f) : ∃ es c, w.heap[M]? = some (.map es c) := by
  obtain ⟨D, ⟨es, clock, h1, _⟩, _⟩ := h.d
  exact ⟨es, clock, h1⟩
theorem SMap.made (w : World) : SMap (w.alloc (.map #[] 0)) w.heap.size 0 (fun _ => none) :=
  ⟨⟨.map [], World.ownsMap_made _ _ _ _, fun _ _ => ⟨rfl, rfl⟩⟩⟩
section
variable {w : World} {ops : Array Oper} {rest : List Oper} {o : Oper} {a : Act} {Q : Exit → Act → World → Prop} {M n : Nat} {f : By → Option Nat}
theorem keyS (x : By) (h : x.length ≤ 9223372036854775807) : keyOf Tryz.prog 9 (.string ⟨x.toArray⟩) = some (.string x) :=
  Go.WideMaps.keyOf_string_mk Tryz.underlying9 (by unfold maxLen; show x.toArray.size ≤ _; simpa using h)
theorem smap_look {x : By} (hp : SMap w M n f) (hw : x.length ≤ 9223372036854775807) (hg : o.guard = none) (m k : Operand) (hop : o.op = Op.lookup 99 m k true)
    (hm : a.eval m = .map (some M)) (hx : a.eval k = .string ⟨x.toArray⟩) (hK : wpList Tryz.prog ops Q rest (a.put o.dst (.tuple #[.int .i64 (match f x with | some k => (k : Int) | none => 0), .bool (f x).isSome])) w) : wpList Tryz.prog ops Q (o :: rest) a w := by
  obtain ⟨D, h1, h2⟩ := hp.d
  obtain ⟨h3, h4⟩ := h2 x hw
  refine wpList_lookup_own_ok w hg m k _ hop 9 3 skey Tryz.underlying99 intE (szero w) (.lit (.int .i64 0)) [] rfl M n D hm h1 _ _ hx (keyS x hw) fun v ps hv => ?_
  rw [h4] at hv
  obtain rfl := intE_some hv
  rw [h3]
  exact hK
theorem smap_put {x : By} {k : Nat} (hp : SMap w M n f) (hn : n < maxLen) (hw : x.length ≤ 9223372036854775807) (hg : o.guard = none) (m y v : Operand) (hop : o.op = Op.mapUpdate 99 m y v)
    (hm : a.eval m = .map (some M)) (hx : a.eval y = .string ⟨x.toArray⟩) (hv : a.eval v = .int .i64 k)
    (hK : ∀ w', SMap w' M (n + 1) (fun y => if y = x then some k else f y) → w.grownBy w' (some M) → wpList Tryz.prog ops Q rest (a.put o.dst undef) w') : wpList Tryz.prog ops Q (o :: rest) a w := by
  obtain ⟨D, h1, h2⟩ := hp.d
  refine wpList_mapUpdate_own w hg m y v _ hop 9 3 skey Tryz.underlying99 intE M n D hm h1 hn _ _ _ hx hv (keyS x hw) (.lit (.int .i64 k)) [] rfl fun w' h3 h4 => ?_
  refine hK w' ⟨⟨_, h3, fun y hy => ?_⟩⟩ h4
  have ht := (h1.tidy skey).isMap
  by_cases hyb : y = x
  · subst hyb
    have hk : WideAt.IsKeyLit (Lit.string y) := trivial
    rw [if_pos rfl, Maps.has_put_same ht hk, Maps.atKey_put_same ht hk]
    exact ⟨rfl, rfl⟩
  · have hne : Lit.string y ≠ Lit.string x := fun e => hyb (by injection e)
    rw [if_neg hyb, Maps.has_put_other hne, Maps.atKey_put_other hne]
    exact h2 y hy
end
/-! where a word stands -/
def posF : List By → By → Option Nat
  | [], _ => none
  | y :: r, x => if y = x then some 0 else (posF r x).map (· + 1)
theorem posF_none : ∀ {l : List By} {x : By}, x ∉ l → posF l x = none
  | [], _, _ => rfl
  | y :: r, x, h => by
    rw [List.mem_cons, not_or] at h
    unfold posF
    rw [if_neg (fun e => h.1 e.symm), posF_none h.2]
    rfl
theorem posF_some : ∀ {l : List By} {x : By}, x ∈ l → ∃ k, posF l x = some k ∧ l[k]? = some x
  | [], _, h => by cases h
  | y :: r, x, h => by
    unfold posF
    by_cases e : y = x
    · exact ⟨0, by rw [if_pos e], by simp [e]⟩
    · obtain ⟨k, h1, h2⟩ := posF_some (l := r) (x := x) (by
        rcases List.mem_cons.1 h with h | h
        · exact absurd h.symm e
        · exact h)
      exact ⟨k + 1, by rw [if_neg e, h1]; rfl, by simpa using h2⟩
theorem posF_snoc : ∀ {l : List By} {y : By} (x : By), y ∉ l → posF (l ++ [y]) x = if x = y then some l.length else posF l x
  | [], y, x, _ => by
    by_cases e : x = y
    · rw [if_pos e, e]; simp [posF]
    · have e2 : ¬ y = x := fun e2 => e e2.symm
      rw [if_neg e]; simp [posF, e2]
  | z :: r, y, x, h => by
    rw [List.mem_cons, not_or] at h
    rw [List.cons_append, posF, posF, posF_snoc x h.2]
    by_cases e : x = y
    · have : ¬ z = x := fun e2 => h.1 (by rw [e2, e])
      rw [if_pos e, if_neg this, if_pos e]; rfl
    · rw [if_neg e, if_neg e]
/-! posts whose places grow -/
theorem own_ne2 {w : World} {B B2 e e2 s s2 n n2 : Nat} {v v2 : Value} {xs xs2 : List Value} (h : w.ownsRow B e s v n xs) (h2 : w.ownsRow B2 e2 s2 v2 n2 xs2) (he : e ≠ e2) : ∀ g, v.ownBlock = some g → v2.ownBlock ≠ some g := by
  intro g hg hg2
  rcases h.2 with ⟨rfl, _⟩ | ⟨b, cap, cur, rfl, _, hb, _⟩
  · cases hg
  · rcases h2.2 with ⟨rfl, _⟩ | ⟨b2, cap2, cur2, rfl, _, hb2, _⟩
    · cases hg2
    · have hg' : b = g := by injection hg
      have hg2' : b2 = g := by injection hg2
      subst hg'
      subst hg2'
      rw [hb] at hb2
      injection hb2 with hb2
      injection hb2 with _ hb2
      exact he hb2
theorem own_ne_map2 {w : World} {B e size n M m : Nat} {v : Value} {xs : List Value} {f : By → Option Nat} (h : w.ownsRow B e size v n xs) (hM : SMap w M m f) : v.ownBlock ≠ some M := fun e => by
  obtain ⟨es, cl, hM⟩ := hM.obj
  rcases h.2 with ⟨rfl, _⟩ | ⟨b, cap, cur, rfl, _, hb, _⟩
  · cases e
  · have e' : b = M := by injection e
    subst e'
    rw [hM] at hb
    cases hb
abbrev atV (t : PT) : Value := .slice t.2.1 t.1.at_.length t.2.2
abbrev AtO (w : World) (B : Nat) (t : PT) : Prop := w.ownsRow B 3 1 (atV t) t.1.at_.length (t.1.at_.map (Value.int .i64))
structure PosS (w : World) (B : Nat) (v : Value) (T : List PT) : Prop where
  own : OwnP w B v T
  rows : ∀ t ∈ T, AtO w B t
  sep : ∀ (i j : Nat) s t, i ≠ j → T[i]? = some s → T[j]? = some t → ∀ g, (atV s).ownBlock = some g → (atV t).ownBlock ≠ some g
theorem PosS.nil (w : World) (B : Nat) : PosS w B (.slice none 0 0) [] := ⟨World.ownsRow_nil _ _ _ _, (fun t ht => by cases ht), (fun i j s t _ hi => by simp at hi)⟩
theorem PosS.below {w w' : World} {B : Nat} {v : Value} {T : List PT} (h : PosS w B v T) (hb : Below w.heap.size w w') : PosS w' B v T :=
  ⟨own_below h.own hb, fun t ht => own_below (h.rows t ht) hb, h.sep⟩
/-- What changes one block that is none of theirs. -/
theorem PosS.kept {w w' : World} {B : Nat} {v : Value} {T : List PT} {row : Option Nat} (h : PosS w B v T) (hg : w.grownBy w' row) (h1 : ∀ g, v.ownBlock = some g → row ≠ some g) (h2 : ∀ t ∈ T, ∀ g, (atV t).ownBlock = some g → row ≠ some g) : PosS w' B v T := by
  have key : ∀ {u : Value}, (∀ g, u.ownBlock = some g → row ≠ some g) → u.ownBlock = none ∨ u.ownBlock ≠ row := fun {u} hu => by
    cases hv : u.ownBlock with
    | none => exact .inl rfl
    | some j => exact .inr (fun e => hu j hv e.symm)
  exact ⟨h.own.kept hg (key h1), fun t ht => (h.rows t ht).kept hg (key (h2 t ht)), h.sep⟩
/-- A post without places laid behind the others. -/
theorem PosS.push {w w' : World} {B : Nat} {v v' : Value} {T : List PT} {p : Post} (h : PosS w B v T) (hp : p.at_ = []) (hg : w.grownBy w' v.ownBlock) (hown : OwnP w' B v' (T ++ [(p, none, 0)])) : PosS w' B v' (T ++ [(p, none, 0)]) := by
  refine ⟨hown, fun t ht => ?_, ?_⟩
  · rcases List.mem_append.1 ht with ht | ht
    · have h1 := h.rows t ht
      refine h1.kept hg ?_
      cases hv : (atV t).ownBlock with
      | none => exact .inl rfl
      | some j => exact .inr (fun e => own_ne2 h1 h.own (by decide) j hv e.symm)
    · rw [List.mem_singleton] at ht
      rw [ht]
      unfold AtO atV
      simp only [hp]
      exact World.ownsRow_nil _ _ _ _
  · intro i j s t hij hi hj g hs ht
    have key : ∀ {j : Nat} {t : PT}, (T ++ [(p, none, 0)])[j]? = some t → (j < T.length ∧ T[j]? = some t) ∨ t = (p, none, 0) := fun {j} {t} hj => by
      rcases Nat.lt_or_ge j T.length with h1 | h1
      · rw [List.getElem?_append_left h1] at hj; exact .inl ⟨h1, hj⟩
      · rw [List.getElem?_append_right h1] at hj
        exact .inr (List.mem_singleton.1 (List.mem_of_getElem? hj))
    rcases key hi with ⟨_, hi⟩ | hi
    · rcases key hj with ⟨_, hj⟩ | hj
      · exact h.sep i j s t hij hi hj g hs ht
      · rw [hj] at ht; cases ht
    · rw [hi] at hs; cases hs
theorem flat_set : ∀ (T : List PT) (k : Nat) (t t' : PT) (u : Value), T[k]? = some t → encP t' = (encP t).set 3 u → (T.set k t').flatMap encP = (T.flatMap encP).set (k * 4 + 3) u
  | [], k, t, t', u, h, _ => by simp at h
  | y :: r, 0, t, t', u, h, he => by
    have h0 : y = t := by simpa using h
    subst h0
    rw [List.set_cons_zero, List.flatMap_cons, List.flatMap_cons, he]
    rfl
  | y :: r, k + 1, t, t', u, h, he => by
    have ih := flat_set r k t t' u (by simpa using h) he
    rw [List.set_cons_succ, List.flatMap_cons, List.flatMap_cons, ih, List.set_append, if_neg (by rw [encP_len]; omega), encP_len, show (k + 1) * 4 + 3 - 4 = k * 4 + 3 by omega]
/-- A cell of the row stored anew. -/
theorem own_cell_set {w : World} {B g cap k : Nat} {T : List PT} {t t' : PT} {u : Value} (h : OwnP w B (.slice (some ⟨g, 0, none⟩) T.length cap) T) (hk : T[k]? = some t) (he : encP t' = (encP t).set 3 u) : OwnP (w.setCell ⟨g, k * 4 + 3, none⟩ u) B (.slice (some ⟨g, 0, none⟩) (T.set k t').length cap) (T.set k t') := by
  unfold OwnP
  rw [flat_set T k t t' u hk he, List.length_set]
  refine ⟨by rw [List.length_set]; exact h.1, ?_⟩
  rcases h.2 with ⟨h1, _⟩ | ⟨b, cap2, cur, h1, h2, h3, h4, h5, h6, h7⟩
  · cases h1
  · have hb : b = g := by injection h1 with h1; injection h1 with h1; injection h1 with h1; exact h1.symm
    have hc : cap2 = cap := by injection h1 with _ _ h1; exact h1.symm
    subst hb hc
    refine .inr ⟨b, cap2, cur.setIfInBounds (k * 4 + 3) u, rfl, h2, ?_, h4, h5, by simpa using h6, ?_⟩
    · simp [World.setCell, Array.getElem?_modify, h3]
    · rw [Array.toList_setIfInBounds, ← h7, List.take_set]
theorem set_get {T : List PT} {k j : Nat} {t' t2 : PT} (h : (T.set k t')[j]? = some t2) : (j = k ∧ t2 = t') ∨ (j ≠ k ∧ T[j]? = some t2) := by
  by_cases e : j = k
  · subst e
    rw [List.getElem?_set_self' ] at h
    cases hj : T[j]? with
    | none => rw [hj] at h; cases h
    | some y => rw [hj] at h; simp at h; exact .inl ⟨rfl, h.symm⟩
  · rw [List.getElem?_set_ne (fun e2 => e e2.symm)] at h
    exact .inr ⟨e, h⟩
theorem row_set {w : World} {B e size n : Nat} {v : Value} {xs : List Value} (h : w.ownsRow B e size v n xs) (p : Addr) (u : Value) (hne : ∀ g, v.ownBlock = some g → g ≠ p.block) : (w.setCell p u).ownsRow B e size v n xs := by
  refine ⟨h.1, ?_⟩
  rcases h.2 with h1 | ⟨g, cap, cur, rfl, h2, h3, h4⟩
  · exact .inl h1
  · exact .inr ⟨g, cap, cur, rfl, h2, (Below.heap_setCell _ _ _ _ (hne g rfl)).trans h3, h4⟩
/-- The places of a post grown, and stored back. -/
theorem PosS.upd {w wA wq : World} {B g cap k : Nat} {T : List PT} {p : Post} {a a' : Option Addr} {c c' : Nat} {i : Int} (h : PosS w B (.slice (some ⟨g, 0, none⟩) T.length cap) T) (hA : Below w.heap.size w wA) (hk : T[k]? = some (p, a, c))
    (hg : wA.grownBy wq (atV (p, a, c)).ownBlock) (hown : wq.ownsRow B 3 1 (.slice a' (p.at_.length + 1) c') (p.at_.length + 1) (p.at_.map (Value.int .i64) ++ [.int .i64 i])) (hv : (Value.slice a' (p.at_.length + 1) c').ownBlock = (atV (p, a, c)).ownBlock ∨ (Value.slice a' (p.at_.length + 1) c').ownBlock = some wA.heap.size) :
    PosS (wq.setCell ⟨g, k * 4 + 3, none⟩ (.slice a' (p.at_.length + 1) c')) B (.slice (some ⟨g, 0, none⟩) (T.set k (⟨p.fld, p.word, p.id, p.at_ ++ [i]⟩, a', c')).length cap) (T.set k (⟨p.fld, p.word, p.id, p.at_ ++ [i]⟩, a', c')) := by
  have h1 := h.below hA
  have hmem := List.mem_of_getElem? hk
  have hrow := h1.rows _ hmem
  have keyn : ∀ {u : Value}, (∀ b, u.ownBlock = some b → (atV (p, a, c)).ownBlock ≠ some b) → u.ownBlock = none ∨ u.ownBlock ≠ (atV (p, a, c)).ownBlock := fun {u} hu => by
    cases hv : u.ownBlock with
    | none => exact .inl rfl
    | some j => exact .inr (fun e => hu j hv e.symm)
  have hownP : OwnP wq B (.slice (some ⟨g, 0, none⟩) T.length cap) T := h1.own.kept hg (keyn (own_ne2 h1.own hrow (by decide)))
  have hgb : (Value.slice (some ⟨g, 0, none⟩) T.length cap).ownBlock = some g := rfl
  have hlen : (Value.slice a' (p.at_ ++ [i]).length c') = .slice a' (p.at_.length + 1) c' := by rw [List.length_append]; rfl
  refine ⟨own_cell_set hownP hk (by simp [encP, List.length_append]), fun t2 ht2 => ?_, ?_⟩
  · obtain ⟨j, hj⟩ := List.getElem?_of_mem ht2
    rcases set_get hj with ⟨_, rfl⟩ | ⟨hne, hj⟩
    · unfold AtO atV
      simp only [List.length_append, List.length_cons, List.length_nil, List.map_append, List.map_cons, List.map_nil]
      refine row_set hown _ _ (fun b hb e => ?_)
      exact own_ne2 hown hownP (by decide) b hb (by rw [e]; exact hgb)
    · have hr2 := h1.rows t2 (List.mem_of_getElem? hj)
      have hr3 := hr2.kept hg (keyn (fun b hb => h1.sep j k t2 _ hne hj hk b hb))
      exact row_set hr3 _ _ (fun b hb e => own_ne2 hr3 hownP (by decide) b hb (by rw [e]; exact hgb))
  · intro x y s t hxy hx hy b hs ht
    have hnew : ∀ {j : Nat} {s : PT}, j ≠ k → T[j]? = some s → ∀ b, (atV s).ownBlock = some b → (Value.slice a' (p.at_.length + 1) c').ownBlock ≠ some b := fun {j} {s} hj hs b hb e => by
      rcases hv with hv | hv
      · rw [hv] at e
        exact h1.sep j k s _ hj hs hk b hb e
      · rw [hv] at e
        have := ((h1.rows s (List.mem_of_getElem? hs)).lt b hb).2
        injection e with e
        omega
    rcases set_get hx with ⟨hxk, rfl⟩ | ⟨hxk, hx⟩
    · rcases set_get hy with ⟨hyk, rfl⟩ | ⟨hyk, hy⟩
      · omega
      · exact hnew hyk hy b ht (by rw [← hlen]; exact hs)
    · rcases set_get hy with ⟨hyk, rfl⟩ | ⟨hyk, hy⟩
      · exact hnew hxk hx b hs (by rw [← hlen]; exact ht)
      · exact h1.sep x y s t hxy hx hy b hs ht
end Ix
end Go.Proofs.YtcjalpegffldaaaGreatDoor

/- The program's posts of a record: what the call returns. -/
namespace Go.Proofs.YtcjalpegffldaaaGreatDoor
open Go.RowKit
set_option maxRecDepth 100000

namespace Ix
open Rc
section
variable {w : World} {ops : Array Oper} {rest : List Oper} {o : Oper} {a : Act} {Q : Exit → Act → World → Prop} {M n : Nat} {f : By → Option Nat}
theorem smap_look_some {x : By} {q : Nat} (hp : SMap w M n f) (hf : f x = some q) (hw : x.length ≤ 9223372036854775807) (hg : o.guard = none) (m k : Operand) (hop : o.op = Op.lookup 99 m k true)
    (hm : a.eval m = .map (some M)) (hx : a.eval k = .string ⟨x.toArray⟩) (hK : wpList Tryz.prog ops Q rest (a.put o.dst (.tuple #[.int .i64 q, .bool true])) w) : wpList Tryz.prog ops Q (o :: rest) a w :=
  smap_look hp hw hg m k hop hm hx (by rw [hf]; exact hK)
theorem smap_look_none {x : By} (hp : SMap w M n f) (hf : f x = none) (hw : x.length ≤ 9223372036854775807) (hg : o.guard = none) (m k : Operand) (hop : o.op = Op.lookup 99 m k true)
    (hm : a.eval m = .map (some M)) (hx : a.eval k = .string ⟨x.toArray⟩) (hK : wpList Tryz.prog ops Q rest (a.put o.dst (.tuple #[.int .i64 0, .bool false])) w) : wpList Tryz.prog ops Q (o :: rest) a w :=
  smap_look hp hw hg m k hop hm hx (by rw [hf]; exact hK)
end
/-- The slice of posts that are there. -/
theorem PosS.shape {w : World} {B : Nat} {v : Value} {T : List PT} (h : PosS w B v T) {k : Nat} {t : PT} (hk : T[k]? = some t) : ∃ g cap, v = .slice (some ⟨g, 0, none⟩) T.length cap ∧ B ≤ g ∧ T.length ≤ cap ∧ cap ≤ maxLen ∧ g < w.heap.size ∧ (∃ cur, w.heap[g]? = some (.cells cur 52 (0, 0))) ∧ w.cell? ⟨g, k * 4 + 3, none⟩ = some (atV t) := by
  rcases h.own.2 with ⟨_, h1⟩ | ⟨g, cap, cur, rfl, hb, hg, h1, h2, _⟩
  · have := List.eq_nil_of_length_eq_zero h1
    rw [this] at hk
    simp at hk
  · obtain ⟨a, c, e, _, _, hx⟩ := Br.own_any encP_len h.own rfl
    injection e with e1 _ e2
    subst e1 e2
    rcases hx with h3 | ⟨g2, e3, _, _, hc⟩
    · rw [h3] at hk; simp at hk
    · injection e3 with e3
      injection e3 with e3
      subst e3
      exact ⟨g, cap, rfl, hb, h1, h2, (Array.getElem?_eq_some_iff.1 hg).1, ⟨cur, hg⟩, hc k 3 t _ hk (by omega) rfl⟩
def mks (k id : Int) (t : List By) (l : List By) : List Post := l.map (mkp k id t)
/-- A word that stood before: its post has another place. -/
theorem mks_old {k id : Int} {t : List By} {j : Nat} {y : By} (hy : t[j]? = some y) (hm : y ∈ t.take j) {q : Nat} (hq : (firsts (t.take j))[q]? = some y) :
    mks k id (t.take (j + 1)) (firsts (t.take (j + 1))) = (mks k id (t.take j) (firsts (t.take j))).set q ⟨k, y, id, places (t.take j) y ++ [(j : Int)]⟩ := by
  unfold mks
  rw [firsts_take hy, if_pos hm, List.append_nil]
  have hql := (List.getElem?_eq_some_iff.1 hq).1
  apply List.ext_getElem?
  intro i
  by_cases e : i = q
  · subst e
    rw [List.getElem?_map, hq, List.getElem?_set_self (by simpa using hql)]
    simp [mkp, places_take y hy]
  · rw [List.getElem?_set_ne (fun e2 => e e2.symm), List.getElem?_map, List.getElem?_map]
    cases hi : (firsts (t.take j))[i]? with
    | none => rfl
    | some x =>
      have hne : ¬ y = x := fun e2 => by
        subst e2
        have hn := firsts_nodup (t.take j)
        have hil := (List.getElem?_eq_some_iff.1 hi).1
        have h1 := (List.getElem?_eq_some_iff.1 hi).2
        have h2 := (List.getElem?_eq_some_iff.1 hq).2
        exact e ((List.getElem_inj hn).1 (h1.trans h2.symm))
      simp [mkp, places_take x hy, hne]
/-- A new word: a post of its own. -/
theorem mks_new {k id : Int} {t : List By} {j : Nat} {y : By} (hy : t[j]? = some y) (hm : y ∉ t.take j) :
    mks k id (t.take (j + 1)) (firsts (t.take (j + 1))) = mks k id (t.take j) (firsts (t.take j)) ++ [⟨k, y, id, [(j : Int)]⟩] := by
  unfold mks
  rw [firsts_take hy, if_neg hm, List.map_append]
  congr 1
  · apply List.map_congr_left
    intro x hx
    have hne : ¬ y = x := fun e => hm (by rw [e]; exact firsts_mem.1 hx)
    simp [mkp, places_take x hy, hne]
  · have h0 : places (t.take j) y = [] := placesF_nil hm
    simp [mkp, places_take y hy, h0]
end Ix

theorem own_addr2 {w : World} {B e n : Nat} {a : Option Addr} {c : Nat} {xs : List Value} (h : w.ownsRow B e 1 (.slice a n c) n xs) (hn : 0 < n) : ∃ g, a = some ⟨g, 0, none⟩ := by
  rcases h.2 with ⟨_, h0⟩ | ⟨g, cap, cur, he, _⟩
  · omega
  · injection he with h1
    exact ⟨g, h1⟩
theorem own_sep {u v : Value} (h : ∀ g, u.ownBlock = some g → v.ownBlock ≠ some g) : u.ownBlock = none ∨ u.ownBlock ≠ v.ownBlock := by
  cases hv : u.ownBlock with
  | none => exact .inl rfl
  | some j => exact .inr (fun e => h j hv e.symm)
theorem own_cell_kept {wN w8 : World} {B g cap : Nat} {T : List Ix.PT} {o : Obj} {row : Option Nat} (h : Ix.OwnP wN B (.slice (some ⟨g, 0, none⟩) T.length cap) T) (hg : (wN.alloc o).grownBy w8 row) (hne : some g ≠ row) : Ix.OwnP w8 B (.slice (some ⟨g, 0, none⟩) T.length cap) T :=
  (h.alloc o).kept hg (.inr hne)
theorem own_shape2 {w : World} {B e s n : Nat} {v : Value} {xs : List Value} (h : w.ownsRow B e s v n xs) : ∃ a c, v = .slice a n c ∧ (∀ g, a = some g → v.ownBlock = some g.block) := by
  rcases h.2 with ⟨rfl, h0⟩ | ⟨g, cap, cur, rfl, _⟩
  · exact ⟨none, 0, by rw [h0], fun g hg => by cases hg⟩
  · exact ⟨_, cap, rfl, fun g hg => by injection hg with hg; rw [← hg]; rfl⟩
set_option maxHeartbeats 6400000 in
theorem ix_posts_c (r : Rc.Rd) (ra : Option Addr) (rc : Nat) (w : World) (hG : G w) (hr : Rc.FldA w ra rc r.fields) (hM : Ix.Mod r.fields) (hV : ∀ f ∈ r.fields, Rc.Gd f) :
    Calls Tryz.prog 47 #[.agg #[.int .i64 r.id, .int .i64 r.ver, .int .i64 r.kind, .string r.lang, .slice ra r.fields.length rc]] w fun e w' => (∃ v T, e = .returned v ∧ Ix.OwnP w' w.heap.size v T ∧ Ix.Ats w' T ∧ (∀ t ∈ T, ∀ g, t.2.1 = some g → w.heap.size ≤ g.block) ∧ T.map (·.1) = Ix.posts r ∧ List.length T ≤ 1000000 ∧ Below w.heap.size w w') := by
  obtain ⟨i0, hi0, hz0, hz1, hz2⟩ := info_parts info_int
  have HI := Lib.hid hi0; clear hi0
  obtain ⟨i1, hi1, hy0, hy1, hy2⟩ := info_parts info_post
  have HI1 := Lib.hid hi1; clear hi1
  obtain ⟨W, hW⟩ : ∃ W, w.alloc (.cells #[.int .i64 r.id, .int .i64 r.ver, .int .i64 r.kind, .string r.lang, .slice ra r.fields.length rc] 24) = W := ⟨_, rfl⟩
  have hB : Below w.heap.size w W := by rw [← hW]; exact Tx.newb _ _
  have hbB := hB.size
  have KR : Hid (W.heap[w.heap.size]? = some (.cells #[.int .i64 r.id, .int .i64 r.ver, .int .i64 r.kind, .string r.lang, .slice ra r.fields.length rc] 24 (0, 0))) := Lib.hid (by rw [← hW]; exact heap_alloc_new w _)
  have hmm := @run_makeMap Tryz.prog
  go_enter Tryz.func47, Tryz.ntmps47
  go_wp2
  clear hW
  go_loopw [3, 4] (fun v f wr => ∃ (k : Nat) (T : List Ix.PT), k ≤ 5 ∧ f = .int .i64 k ∧ Ix.PosS wr W.heap.size v T ∧ Hid (T.map (·.1) = Ix.postsTo r k) ∧ T.length ≤ k * 200000 ∧ Below W.heap.size W wr) (fun _ f _ => 5 - (intOf f).toNat)
  case atStart => exact ⟨0, [], by omega, by go_num, Ix.PosS.nil _ _, Lib.hid rfl, by simp, Below.refl _ _⟩
  case round =>
    obtain ⟨k, T, hk, rfl, hPS, hE, hTl, hb⟩ := hrel
    have hbs := hb.size
    by_cases hlt : k < 5
    · obtain ⟨ts, hts⟩ : ∃ ts, Ix.terms r.fields (k : Int) = ts := ⟨_, rfl⟩
      have htl := Ix.terms_len hM (k : Int)
      rw [hts] at htl
      have hk4 : (k : Int) ≤ 4 := by omega
      have HPT : Hid (Ix.postsTo r (k + 1) = Ix.postsTo r k ++ Ix.mks k r.id ts (Ix.firsts ts)) := Lib.hid (by rw [Ix.postsTo, hts]; rfl)
      obtain ⟨W1, hW1⟩ : ∃ W1, wr.alloc (.map #[] 0) = W1 := ⟨_, rfl⟩
      have hb1 : Below wr.heap.size wr W1 := by rw [← hW1]; exact Tx.newb _ _
      have hSM1 : Ix.SMap W1 wr.heap.size 0 (fun _ => none) := by rw [← hW1]; exact Ix.SMap.made wr
      have e0 : W1.cell? ⟨w.heap.size, 0, none⟩ = some (.int .i64 r.id) := (Tx.blk (Tx.blk_later (Tx.blk_later KR.out hb) hb1)).1 0
      have e1 : W1.cell? ⟨w.heap.size, 1, none⟩ = some (.int .i64 r.ver) := (Tx.blk (Tx.blk_later (Tx.blk_later KR.out hb) hb1)).1 1
      have e2 : W1.cell? ⟨w.heap.size, 2, none⟩ = some (.int .i64 r.kind) := (Tx.blk (Tx.blk_later (Tx.blk_later KR.out hb) hb1)).1 2
      have e3 : W1.cell? ⟨w.heap.size, 3, none⟩ = some (.string r.lang) := (Tx.blk (Tx.blk_later (Tx.blk_later KR.out hb) hb1)).1 3
      have e4 : W1.cell? ⟨w.heap.size, 4, none⟩ = some (.slice ra r.fields.length rc) := (Tx.blk (Tx.blk_later (Tx.blk_later KR.out hb) hb1)).1 4
      have CT : Hid (Calls Tryz.prog 12 #[.agg #[.int .i64 r.id, .int .i64 r.ver, .int .i64 r.kind, .string r.lang, .slice ra r.fields.length rc], .int .i64 (k : Int)] W1 fun e w' => ∃ v, e = .returned v ∧ Ix.OwnT w' W1.heap.size v ts ∧ Below W1.heap.size W1 w') := Lib.hid (by
        have hbb := Tx.step hB (Tx.step hb hb1)
        have h9 := ix_Terms_c r.fields ra rc r.id r.ver r.kind r.lang (k : Int) W1 (hG.below hbb) (hr.below hbb) hM hV
        rw [hts] at h9
        exact h9)
      have HTS := Lib.hid hts; clear hts
      have hs1 := hb1.size
      go_wp2_with (go_at_call 12; ((with_reducible refine CT.out.mono ?_); rintro e w2 ⟨v2, rfl, hown2, hb2⟩; obtain ⟨ta, tc, rfl, hta⟩ := own_shape2 hown2; have HO2 := Lib.hid (Ix.row_lower hown2 (Nat.le_trans hbs hs1)); clear hown2))
      have hSM2 : Ix.SMap w2 wr.heap.size 0 (fun _ => none) := hSM1.of_block (hb2.block _ hSM1.lt)
      have hPS2 := (hPS.below hb1).below hb2
      have hb3 := Tx.step hb (Tx.step hb1 hb2)
      obtain ⟨M, hMd⟩ : ∃ M, wr.heap.size = M := ⟨_, rfl⟩
      rw [hMd] at hSM2
      rw [hMd]
      have HMB : Hid (W.heap.size ≤ M) := Lib.hid (by rw [← hMd]; exact hbs)
      clear hW1 e0 e1 e2 e3 e4 CT hSM1 hMd
      obtain ⟨L0, hL0⟩ : ∃ L0, T.length = L0 := ⟨_, rfl⟩
      have HL0 := Lib.hid hL0
      rw [hL0] at hTl
      clear hL0
      go_loopw [3, 19] (fun v i wr => ∃ (j : Nat) (T2 : List Ix.PT) (n : Nat), j ≤ ts.length ∧ i = .int .i64 j ∧ Ix.PosS wr W.heap.size v T2 ∧ Hid (T2.map (·.1) = Ix.postsTo r k ++ Ix.mks k r.id (ts.take j) (Ix.firsts (ts.take j))) ∧ Hid (Ix.SMap wr M n (fun x => (Ix.posF (Ix.firsts (ts.take j)) x).map (L0 + ·))) ∧ n ≤ j ∧ Hid (wr.ownsRow W.heap.size 9 1 (.slice ta ts.length tc) ts.length (ts.map Tx.sv)) ∧ T2.length ≤ L0 + j ∧ Below W.heap.size W wr) (fun _ i _ => ts.length - (intOf i).toNat)
      case atStart => exact ⟨0, T, 0, by omega, by go_num, hPS2, Lib.hid (by rw [hE.out]; exact (List.append_nil _).symm), Lib.hid hSM2, by omega, HO2, by rw [HL0.out]; omega, hb3⟩
      case round =>
        obtain ⟨j, T2, n, hj, rfl, hPS4, hE4, hSM4, hnj, hO4, hTl4, hb4⟩ := hrel
        have hb4s := hb4.size
        obtain ⟨wm, hwm⟩ : ∃ wm, wm = wr := ⟨_, rfl⟩
        subst hwm
        by_cases hlt2 : j < ts.length
        · obtain ⟨y, hy⟩ : ∃ y, ts[j]? = some y := ⟨_, List.getElem?_eq_getElem hlt2⟩
          obtain ⟨tb, rfl⟩ := own_addr2 hO4.out (by omega)
          have d0 : wm.cell? ⟨tb, j, none⟩ = some (.string ⟨y.toArray⟩) := (hO4.out.cellAt j (by omega)).trans (by rw [List.getElem?_map, hy]; rfl)
          have hyl : y.length ≤ 9223372036854775807 := by have := (Ix.terms_ok hV (k : Int) y (by rw [HTS.out]; exact List.mem_of_getElem? hy)).2; omega
          by_cases hm : y ∈ ts.take j
          · have hmf := Ix.firsts_mem.2 hm
            obtain ⟨q, hpq, hfq⟩ := Ix.posF_some hmf
            have hmo := Ix.mks_old (k := (k : Int)) (id := r.id) hy hm hfq
            have hft := Ix.firsts_take hy
            rw [if_pos hm, List.append_nil] at hft
            obtain ⟨K, hKd⟩ : ∃ K, L0 + q = K := ⟨_, rfl⟩
            have hLp : (Ix.postsTo r k).length = L0 := by rw [← hE.out, List.length_map]; exact HL0.out
            have hpk : (T2.map (·.1))[K]? = some (Ix.mkp (k : Int) r.id (ts.take j) y) := by
              rw [hE4.out, ← hKd, List.getElem?_append_right (by omega), hLp, Nat.add_sub_cancel_left]
              unfold Ix.mks
              rw [List.getElem?_map, hfq]; rfl
            rw [List.getElem?_map, Option.map_eq_some_iff] at hpk
            obtain ⟨⟨p, pa, pc⟩, hTK, hpe⟩ := hpk
            have hpe' : p = ⟨(k : Int), y, r.id, Ix.places (ts.take j) y⟩ := hpe
            have hpl := Ix.places_len (ts.take j) y
            rw [List.length_take] at hpl
            obtain ⟨PL, hPL⟩ : ∃ PL, Ix.places (ts.take j) y = PL := ⟨_, rfl⟩
            rw [hPL] at hpe' hmo hpl
            subst hpe'
            have HPL : Hid (PL.length ≤ 200000) := Lib.hid (by omega)
            have HTK := Lib.hid hTK
            have hPS3 := hPS4
            obtain ⟨T3, hT3⟩ : ∃ T3, T3 = T2 := ⟨_, rfl⟩
            subst hT3
            obtain ⟨g, cap, rfl, hBg, hTc, hcm, hgl, ⟨cur, hcur⟩, e3⟩ := hPS3.shape hTK
            have HGL := Lib.hid hgl
            have E3 : Hid (wm.cell? ⟨g, K * 4 + 3, none⟩ = some (.slice pa PL.length pc)) := Lib.hid (e3)
            have F3 := Lib.hid ((Tx.blk hcur).2.1 (K * 4 + 3))
            have hrow : wm.ownsRow W.heap.size 3 1 (.slice pa PL.length pc) PL.length (PL.map (Value.int .i64)) := hPS3.rows _ (List.mem_of_getElem? hTK)
            have HROW := Lib.hid hrow
            have HGN : Hid (some g ≠ Value.ownBlock (.slice pa PL.length pc)) := Lib.hid (fun e => Ix.own_ne2 hPS3.own hrow (by decide) g rfl e.symm)
            have HPS3 := Lib.hid hPS3
            have e3' := E3.out
            have hKT : (K : Int) < (T3.length : Int) := Int.ofNat_lt.2 (List.getElem?_eq_some_iff.1 hTK).1
            have hK0 : (0 : Int) ≤ (K : Int) := (by omega)
            clear hPS3 hrow hcur e3
            have HSM := hSM4
            have HON := hO4
            have HBL := Lib.hid hb4
            have HSMF : Hid ((fun x => (Ix.posF (Ix.firsts (ts.take j)) x).map (L0 + ·)) y = some K) := Lib.hid (by show (Ix.posF _ y).map _ = _; rw [hpq, ← hKd]; rfl)
            have HMO := Lib.hid hmo
            have HFT := Lib.hid hft
            have HKD := Lib.hid hKd
            have HLP := Lib.hid hLp
            clear hPL hmo hft hKd hLp hpq hfq hmf hTK hm hy hpe hpl hPS4
            go_wp2_with (first
              | (at_builtin; refine wpList_append_sl rfl _ _ 41 rfl W.heap.size 3 i0 _ 1 8 Tryz.underlying41 HI.out hz0 hz1 hz2 rfl (by decide) _ PL.length _ rfl (HROW.out.alloc _) (some ⟨_, 0, none⟩) 1 1 [.int .i64 (j : Int)] rfl rfl (fun h9 => by cases h9) (fun ad had => by cases had; exact Br.cells_new_at _ _ (by first | rfl | simp) _ _) (by simp [Value.oneCell']) (by unfold maxLen; have := HPL.out; omega) (by have := HPL.out; omega) (by simp; have := HBL.out.size; omega) ?_; intro v8 w8 hown8 hg8 hv8; obtain ⟨a8, c8, rfl, _⟩ := own_shape2 hown8; have e8 := (hg8.cell_far ⟨g, K * 4 + 3, none⟩ (by simp; have := HGL.out; omega) HGN.out).trans (cell_later (Tx.newb _ _) E3.out); have f8 := (hg8.frozen_far ⟨g, K * 4 + 3, none⟩ (by simp; have := HGL.out; omega) HGN.out).trans ((Tx.newb _ _).frozen (p := ⟨g, K * 4 + 3, none⟩) HGL.out |>.trans F3.out); have s8 := hg8.size; have g8 : g < w8.heap.size := (by have := HGL.out; simp at s8; omega))
              | (at_lookup; go_must (refine Ix.smap_look_some HSM.out HSMF.out hyl rfl _ _ rfl rfl rfl ?_)))
            have hupd := Ix.PosS.upd (i := (j : Int)) HPS3.out (Tx.newb _ _) HTK.out hg8 hown8 hv8
            rw [List.length_set] at hupd
            have hb8 : Below W.heap.size W (w8.setCell ⟨g, K * 4 + 3, none⟩ (.slice a8 (PL.length + 1) c8)) := ((HBL.out.alloc HBL.out.size _).grown hg8 (by simp; have := HBL.out.size; omega) (fun i hi => (HROW.out.lt i hi).1)).setCell (by show W.heap.size ≤ g; exact hBg) _
            have hown8P := own_cell_kept HPS3.out.own hg8 HGN.out
            have hO8 : (w8.setCell ⟨g, K * 4 + 3, none⟩ (.slice a8 (PL.length + 1) c8)).ownsRow W.heap.size 9 1 (.slice (some ⟨tb, 0, none⟩) ts.length tc) ts.length (ts.map Tx.sv) := by
              have h1 := HON.out.alloc (.cells #[.int .i64 (j : Int)] 3)
              have h2 := h1.kept hg8 (own_sep (Ix.own_ne2 HON.out HROW.out (by decide)))
              exact Ix.row_set h2 _ _ (fun b hb e => Ix.own_ne2 h2 hown8P (by decide) b hb (by rw [e]; rfl))
            have hM8 : (w8.setCell ⟨g, K * 4 + 3, none⟩ (.slice a8 (PL.length + 1) c8)).heap[M]? = wm.heap[M]? := by
              have h1 : M ≠ g := fun e => Ix.own_ne_map2 HPS3.out.own HSM.out (by rw [e]; rfl)
              exact (Below.heap_setCell w8 ⟨g, K * 4 + 3, none⟩ _ M h1).trans ((hg8.block M (by simp; have := HSM.out.lt; omega) (fun e => Ix.own_ne_map2 HROW.out HSM.out e.symm)).trans (hp_alloc_lt HSM.out.lt _))
            have hSM8 := HSM.out.of_block hM8
            have HE9 : Hid ((T3.set K ((⟨(k : Int), y, r.id, PL ++ [(j : Int)]⟩ : Ix.Post), a8, c8)).map (·.1) = Ix.postsTo r k ++ Ix.mks k r.id (ts.take (j + 1)) (Ix.firsts (ts.take (j + 1)))) := Lib.hid (by
              rw [List.map_set, hE4.out, HMO.out, List.set_append, if_neg (by have := HLP.out; have := HKD.out; omega), show K - (Ix.postsTo r k).length = q by have := HLP.out; have := HKD.out; omega])
            have HS9 : Hid (Ix.SMap (w8.setCell ⟨g, K * 4 + 3, none⟩ (.slice a8 (PL.length + 1) c8)) M n (fun x => (Ix.posF (Ix.firsts (ts.take (j + 1))) x).map (L0 + ·))) := Lib.hid (by rw [HFT.out]; exact hSM8)
            have hl9 : (T3.set K ((⟨(k : Int), y, r.id, PL ++ [(j : Int)]⟩ : Ix.Post), a8, c8)).length ≤ L0 + (j + 1) := by rw [List.length_set]; omega
            have HO9 := Lib.hid hO8
            go_roundw
            case rel => exact ⟨j + 1, _, n, hlt2, by go_num, hupd, HE9, HS9, by omega, HO9, hl9, hb8⟩
            case measure => simp [intOf]; omega
          · have hmn := Ix.mks_new (k := (k : Int)) (id := r.id) hy hm
            have hft := Ix.firsts_take hy
            rw [if_neg hm] at hft
            have hnf : y ∉ Ix.firsts (ts.take j) := fun h9 => hm (Ix.firsts_mem.1 h9)
            have hpn := Ix.posF_none hnf
            have HSN : Hid (∀ x, Ix.posF (Ix.firsts (ts.take j) ++ [y]) x = if x = y then some (Ix.firsts (ts.take j)).length else Ix.posF (Ix.firsts (ts.take j)) x) := Lib.hid (fun x => Ix.posF_snoc x hnf)
            obtain ⟨PL, hPL0⟩ : ∃ PL : List Int, PL = [] := ⟨_, rfl⟩
            have hPLe := Lib.hid hPL0
            have HPL : Hid (PL.length ≤ 200000) := Lib.hid (by rw [hPL0]; simp)
            have hLp : (Ix.postsTo r k).length = L0 := by rw [← hE.out, List.length_map]; exact HL0.out
            obtain ⟨K, hKd⟩ : ∃ K, T2.length = K := ⟨_, rfl⟩
            have HKD := Lib.hid hKd
            have HTL : Hid (T2.length ≤ 2000000) := Lib.hid (by omega)
            have hKf : K = L0 + (Ix.firsts (ts.take j)).length := by
              have := congrArg List.length hE4.out
              rw [List.length_map, List.length_append, hLp] at this
              unfold Ix.mks at this
              rw [List.length_map] at this
              omega
            have HKF := Lib.hid hKf
            have HMN := Lib.hid hmn
            have HFT := Lib.hid hft
            obtain ⟨a4, c4', rfl, _⟩ := own_shape2 hPS4.own
            have HPS0 := Lib.hid hPS4
            have HSM0 := hSM4
            have HNM : Hid (n < maxLen) := Lib.hid (by unfold maxLen; omega)
            have hlK : (T2.length : Int) = (K : Int) := by rw [hKd]
            have er : wm.cell? ⟨w.heap.size, 0, none⟩ = some (.int .i64 r.id) := (Tx.blk (Tx.blk_later KR.out hb4)).1 0
            have ERL : Hid (w.heap.size < wm.heap.size) := Lib.hid (Nat.lt_of_lt_of_le (Array.getElem?_eq_some_iff.1 KR.out).1 hb4s)
            have ERN : Hid (some w.heap.size ≠ some M) := Lib.hid (fun e => by injection e with e; have h1 := HMB.out; have h2 := (Array.getElem?_eq_some_iff.1 KR.out).1; omega)
            have HSMF : Hid ((fun x => (Ix.posF (Ix.firsts (ts.take j)) x).map (L0 + ·)) y = none) := Lib.hid (by show (Ix.posF _ y).map _ = _; rw [hpn]; rfl)
            clear hmn hft hnf hpn hPL0 hLp hKf hm hy hPS4 hKd
            go_wp2_with (first
              | (at_builtin; refine wpList_append_sl rfl _ _ 32 rfl W.heap.size 52 i1 _ 4 56 Tryz.underlying32 HI1.out hy0 hy1 hy2 rfl (by decide) _ T2.length _ rfl (HPSA.out.own.alloc _) (some ⟨_, 0, none⟩) 1 1 (Ix.encP ((⟨(k : Int), y, r.id, PL⟩ : Ix.Post), none, 0)) rfl rfl (fun h9 => by cases h9) (fun ad had => by cases had; rw [hPLe.out]; exact Br.cells_new_at _ _ (by first | rfl | simp) #[.int .i64 (k : Int), .string ⟨y.toArray⟩, .int .i64 r.id, .slice none 0 0] _) (Ix.p_one ((⟨(k : Int), y, r.id, PL⟩ : Ix.Post), none, 0)) (by unfold maxLen; have := HTL.out; omega) (by have := HTL.out; omega) (by simp; have := HBA.out.size; omega) ?_; intro v7 w7 hown7 hg7 hv7; obtain ⟨T3, hT3⟩ : ∃ T3, T3 = T2 ++ [((⟨(k : Int), y, r.id, PL⟩ : Ix.Post), none, 0)] := ⟨_, rfl⟩; have hPS3 : Ix.PosS w7 W.heap.size v7 T3 := (by rw [hT3]; exact Ix.PosS.push (HPSA.out.below (Tx.newb _ _)) hPLe.out hg7 (Ix.own_snoc hown7)); have hTK : T3[K]? = some ((⟨(k : Int), y, r.id, PL⟩ : Ix.Post), none, 0) := (by rw [hT3, ← HKD.out, List.getElem?_append_right (Nat.le_refl _), Nat.sub_self]; rfl); have HTK := Lib.hid hTK; have HT3 := Lib.hid hT3; obtain ⟨g, cap, rfl, hBg, hTc, hcm, hgl, ⟨cur, hcur⟩, e3⟩ := hPS3.shape hTK; have HGL := Lib.hid hgl; have E3 : Hid (w7.cell? ⟨g, K * 4 + 3, none⟩ = some (.slice none 0 0)) := Lib.hid (e3.trans (by rw [hPLe.out]; rfl)); have F3 := Lib.hid ((Tx.blk hcur).2.1 (K * 4 + 3)); have hrow : w7.ownsRow W.heap.size 3 1 (.slice none 0 0) PL.length (PL.map (Value.int .i64)) := (by rw [hPLe.out]; exact World.ownsRow_nil _ _ _ _); have HROW := Lib.hid hrow; have HGN : Hid (some g ≠ Value.ownBlock (.slice none 0 0)) := Lib.hid (fun e => Ix.own_ne2 hPS3.own hrow (by decide) g rfl e.symm); have HPS3 := Lib.hid hPS3; have e3' := E3.out; have hKT : (K : Int) < (T3.length : Int) := Int.ofNat_lt.2 (List.getElem?_eq_some_iff.1 hTK).1; have hK0 : (0 : Int) ≤ (K : Int) := (by omega); clear hPS3 hrow hcur e3; have hs7 := hg7.size; have HBL : Hid (Below W.heap.size W w7) := Lib.hid ((HBA.out.alloc HBA.out.size _).grown hg7 (by simp; have := HBA.out.size; omega) (fun i hi => (HPSA.out.own.lt i hi).1)); have HON : Hid (w7.ownsRow W.heap.size 9 1 (.slice (some ⟨tb, 0, none⟩) ts.length tc) ts.length (ts.map Tx.sv)) := Lib.hid ((HOA.out.alloc _).kept hg7 (own_sep (Ix.own_ne2 HOA.out HPSA.out.own (by decide)))); have hM7 : w7.heap[M]? = wa.heap[M]? := ((hg7.block M (by simp; have := HSMA.out.lt; omega) (fun e => Ix.own_ne_map2 HPSA.out.own HSMA.out e.symm)).trans (hp_alloc_lt HSMA.out.lt _)); have HSM := Lib.hid (HSMA.out.of_block hM7); clear hT3 hTK)
              | (at_builtin; refine wpList_append_sl rfl _ _ 41 rfl W.heap.size 3 i0 _ 1 8 Tryz.underlying41 HI.out hz0 hz1 hz2 rfl (by decide) _ PL.length _ rfl (HROW.out.alloc _) (some ⟨_, 0, none⟩) 1 1 [.int .i64 (j : Int)] rfl rfl (fun h9 => by cases h9) (fun ad had => by cases had; exact Br.cells_new_at _ _ (by first | rfl | simp) _ _) (by simp [Value.oneCell']) (by unfold maxLen; have := HPL.out; omega) (by have := HPL.out; omega) (by simp; have := HBL.out.size; omega) ?_; intro v8 w8 hown8 hg8 hv8; obtain ⟨a8, c8, rfl, _⟩ := own_shape2 hown8; have e8 := (hg8.cell_far ⟨g, K * 4 + 3, none⟩ (by simp; have := HGL.out; omega) HGN.out).trans (cell_later (Tx.newb _ _) E3.out); have f8 := (hg8.frozen_far ⟨g, K * 4 + 3, none⟩ (by simp; have := HGL.out; omega) HGN.out).trans ((Tx.newb _ _).frozen (p := ⟨g, K * 4 + 3, none⟩) HGL.out |>.trans F3.out); have s8 := hg8.size; have g8 : g < w8.heap.size := (by have := HGL.out; simp at s8; omega))
              | (at_mapUpdate; go_must (refine Ix.smap_put (k := K) HSM0.out HNM.out hyl rfl _ _ _ rfl rfl rfl rfl ?_); intro wa hma hga; have HSMA := Lib.hid hma; have hPSA := HPS0.out.kept hga (fun b hb e => Ix.own_ne_map2 HPS0.out.own HSM0.out (by rw [hb, ← e])) (fun t ht b hb e => Ix.own_ne_map2 (HPS0.out.rows t ht) HSM0.out (by rw [hb, ← e])); have HPSA := Lib.hid hPSA; have HOA := Lib.hid (hO4.out.kept hga (.inr (Ix.own_ne_map2 hO4.out HSM0.out))); have HBA := Lib.hid (hb4.grown hga hb4s (fun i hi => by injection hi with hi; rw [← hi]; exact HMB.out)); have era := (hga.cell_far ⟨w.heap.size, 0, none⟩ ERL.out ERN.out).trans er; clear hma hPSA)
              | (at_lookup; go_must (refine Ix.smap_look_none HSM0.out HSMF.out hyl rfl _ _ rfl rfl rfl ?_)))
            have hupd := Ix.PosS.upd (i := (j : Int)) HPS3.out (Tx.newb _ _) HTK.out hg8 hown8 hv8
            rw [List.length_set] at hupd
            have hb8 : Below W.heap.size W (w8.setCell ⟨g, K * 4 + 3, none⟩ (.slice a8 (PL.length + 1) c8)) := ((HBL.out.alloc HBL.out.size _).grown hg8 (by simp; have := HBL.out.size; omega) (fun i hi => (HROW.out.lt i hi).1)).setCell (by show W.heap.size ≤ g; exact hBg) _
            have hown8P := own_cell_kept HPS3.out.own hg8 HGN.out
            have hO8 : (w8.setCell ⟨g, K * 4 + 3, none⟩ (.slice a8 (PL.length + 1) c8)).ownsRow W.heap.size 9 1 (.slice (some ⟨tb, 0, none⟩) ts.length tc) ts.length (ts.map Tx.sv) := by
              have h1 := HON.out.alloc (.cells #[.int .i64 (j : Int)] 3)
              have h2 := h1.kept hg8 (own_sep (Ix.own_ne2 HON.out HROW.out (by decide)))
              exact Ix.row_set h2 _ _ (fun b hb e => Ix.own_ne2 h2 hown8P (by decide) b hb (by rw [e]; rfl))
            have hM8 : (w8.setCell ⟨g, K * 4 + 3, none⟩ (.slice a8 (PL.length + 1) c8)).heap[M]? = w7.heap[M]? := by
              have h1 : M ≠ g := fun e => Ix.own_ne_map2 HPS3.out.own HSM.out (by rw [e]; rfl)
              exact (Below.heap_setCell w8 ⟨g, K * 4 + 3, none⟩ _ M h1).trans ((hg8.block M (by simp; have := HSM.out.lt; omega) (fun e => Ix.own_ne_map2 HROW.out HSM.out e.symm)).trans (hp_alloc_lt HSM.out.lt _))
            have hSM8 := HSM.out.of_block hM8
            have HE9 : Hid ((T3.set K ((⟨(k : Int), y, r.id, PL ++ [(j : Int)]⟩ : Ix.Post), a8, c8)).map (·.1) = Ix.postsTo r k ++ Ix.mks k r.id (ts.take (j + 1)) (Ix.firsts (ts.take (j + 1)))) := Lib.hid (by
              rw [List.map_set, HT3.out, List.map_append, hE4.out, HMN.out, ← List.append_assoc, List.set_append, if_neg (by rw [← hE4.out, List.length_map, HKD.out]; omega), ← hE4.out, List.length_map, HKD.out, Nat.sub_self, hPLe.out]
              rfl)
            have HS9 : Hid (Ix.SMap (w8.setCell ⟨g, K * 4 + 3, none⟩ (.slice a8 (PL.length + 1) c8)) M (n + 1) (fun x => (Ix.posF (Ix.firsts (ts.take (j + 1))) x).map (L0 + ·))) := Lib.hid (by
              have hfe : (fun x => (Ix.posF (Ix.firsts (ts.take (j + 1))) x).map (L0 + ·)) = (fun z => if z = y then some K else (fun x => (Ix.posF (Ix.firsts (ts.take j)) x).map (L0 + ·)) z) := by
                funext x
                rw [HFT.out, HSN.out]
                by_cases e : x = y
                · rw [if_pos e, if_pos e, HKF.out]; rfl
                · rw [if_neg e, if_neg e]
              rw [hfe]
              exact hSM8)
            have hl9 : (T3.set K ((⟨(k : Int), y, r.id, PL ++ [(j : Int)]⟩ : Ix.Post), a8, c8)).length ≤ L0 + (j + 1) := by rw [List.length_set, HT3.out, List.length_append]; simp; omega
            have HO9 := Lib.hid hO8
            go_roundw
            case rel => exact ⟨j + 1, _, n + 1, hlt2, by go_num, hupd, HE9, HS9, by omega, HO9, hl9, hb8⟩
            case measure => simp [intOf]; omega
        · obtain rfl : j = ts.length := by omega
          have hN := hE4.out
          rw [List.take_length, ← HPT.out] at hN
          have HN := Lib.hid hN; clear hN hE4
          have hl9 : T2.length ≤ (k + 1) * 200000 := by omega
          go_wp2
          go_roundw
          case rel => exact ⟨k + 1, T2, hlt, by go_num, hPS4, HN, hl9, hb4⟩
          case measure => simp [intOf]; omega
    · obtain rfl : k = 5 := by omega
      have hN := hE.out
      rw [Ix.posts_to] at hN
      have HN := Lib.hid hN; clear hN hE
      go_wp2
      go_ret
      refine ⟨_, T, rfl, Ix.row_lower hPS.own hbB, fun t ht => ?_, fun t ht g hg => ?_, HN.out, by omega, Tx.step hB hb⟩
      · obtain ⟨a, c, e, hia, _⟩ := Ix.IA.of_own (hPS.rows t ht) rfl
        injection e with e1 _ e2
        rw [e1, e2]
        exact hia
      · obtain ⟨a, c, e, _, hlo⟩ := Ix.IA.of_own (hPS.rows t ht) rfl
        injection e with e1 _ e2
        have := hlo g (by rw [← e1]; exact hg)
        omega

end Go.Proofs.YtcjalpegffldaaaGreatDoor
