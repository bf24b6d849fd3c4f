/- Plain: the posts of records; indexes built, changed, checked and asked, as lists. -/
import Derived.Test.YtcjalpegffldaaaGreatDoorJe
import Derived.Test.YtcjalpegffldaaaGreatDoorJc
import Derived.StillTailTactics
import Derived.Test.YtcjalpegffldaaaGreatDoorJf
import Derived.Deep.QuietTactic
import Derived.BigQuiet
namespace Go.Proofs.YtcjalpegffldaaaGreatDoor
set_option maxRecDepth 100000

namespace Ix
open Rc
/-! places of a word -/
def placesF : Nat → List By → By → List Int
  | _, [], _ => []
  | k, y :: t, x => if y = x then (k : Int) :: placesF (k + 1) t x else placesF (k + 1) t x
def places (t : List By) (x : By) : List Int := placesF 0 t x
theorem placesF_snoc (x y : By) : ∀ (t : List By) (k : Nat), placesF k (t ++ [y]) x = placesF k t x ++ (if y = x then [((k + t.length : Nat) : Int)] else [])
  | [], k => by by_cases h : y = x <;> simp [placesF, h]
  | z :: t, k => by
    have ih := placesF_snoc x y t (k + 1)
    rw [List.cons_append, placesF, placesF, ih, List.length_cons, show k + 1 + t.length = k + (t.length + 1) by omega]
    by_cases h : z = x
    · rw [if_pos h, if_pos h]; rfl
    · rw [if_neg h, if_neg h]
theorem take_snoc {α : Type} {t : List α} {k : Nat} {y : α} (h : t[k]? = some y) : t.take (k + 1) = t.take k ++ [y] := by
  have hlt := (List.getElem?_eq_some_iff.1 h).1
  rw [List.take_succ_eq_append_getElem hlt]
  rw [List.getElem?_eq_getElem hlt] at h
  injection h with h
  rw [h]
theorem places_take {t : List By} {k : Nat} {y : By} (x : By) (h : t[k]? = some y) : places (t.take (k + 1)) x = places (t.take k) x ++ (if y = x then [(k : Int)] else []) := by
  have hlt := (List.getElem?_eq_some_iff.1 h).1
  unfold places
  rw [take_snoc h, placesF_snoc, List.length_take, Nat.min_eq_left (by omega), Nat.zero_add]
theorem placesF_len (x : By) : ∀ (t : List By) (k : Nat), (placesF k t x).length ≤ t.length
  | [], _ => Nat.le_refl _
  | y :: t, k => by
    have := placesF_len x t (k + 1)
    unfold placesF
    split <;> simp <;> omega
theorem places_len (t : List By) (x : By) : (places t x).length ≤ t.length := placesF_len x t 0
theorem placesF_nil {x : By} : ∀ {t : List By} {k : Nat}, x ∉ t → placesF k t x = []
  | [], _, _ => rfl
  | y :: t, k, h => by
    rw [List.mem_cons, not_or] at h
    unfold placesF
    rw [if_neg (fun e => h.1 e.symm)]
    exact placesF_nil h.2
theorem placesF_mem {x : By} : ∀ {t : List By} {k : Nat} {n : Int}, n ∈ placesF k t x ↔ ∃ j : Nat, n = ((k + j : Nat) : Int) ∧ t[j]? = some x
  | [], k, n => by simp [placesF]
  | y :: t, k, n => by
    have ih := @placesF_mem x t (k + 1) n
    unfold placesF
    constructor
    · intro h
      by_cases hy : y = x
      · rw [if_pos hy, List.mem_cons] at h
        rcases h with h | h
        · exact ⟨0, h, by simp [hy]⟩
        · obtain ⟨j, h1, h2⟩ := ih.1 h
          exact ⟨j + 1, by rw [h1]; congr 1; omega, by simpa using h2⟩
      · rw [if_neg hy] at h
        obtain ⟨j, h1, h2⟩ := ih.1 h
        exact ⟨j + 1, by rw [h1]; congr 1; omega, by simpa using h2⟩
    · rintro ⟨j, h1, h2⟩
      cases j with
      | zero =>
        have hy : y = x := by simpa using h2
        rw [if_pos hy]
        exact List.mem_cons.2 (.inl h1)
      | succ j =>
        have h3 := ih.2 ⟨j, by rw [h1]; congr 1; omega, by simpa using h2⟩
        split
        · exact List.mem_cons_of_mem _ h3
        · exact h3
/-- The first place is where the word did not occur before. -/
theorem places_head {t : List By} {i : Nat} {x : By} (h : t[i]? = some x) : ∃ n r, places t x = n :: r ∧ ((n = (i : Int)) ↔ x ∉ t.take i) := by
  have hlt := (List.getElem?_eq_some_iff.1 h).1
  have hs : places t x = placesF 0 (t.take i) x ++ placesF i (t.drop i) x := by
    have gen : ∀ (a b : List By) (k : Nat), placesF k (a ++ b) x = placesF k a x ++ placesF (k + a.length) b x := by
      intro a
      induction a with
      | nil => intro b k; simp [placesF]
      | cons y a ih =>
        intro b k
        rw [List.cons_append, placesF, placesF, ih, List.length_cons, show k + 1 + a.length = k + (a.length + 1) by omega]
        split <;> simp
    unfold places
    conv => lhs; rw [← List.take_append_drop i t]
    rw [gen, List.length_take, Nat.min_eq_left (by omega), Nat.zero_add]
  have hd : placesF i (t.drop i) x = (i : Int) :: placesF (i + 1) (t.drop (i + 1)) x := by
    rw [List.drop_eq_getElem_cons hlt, placesF]
    rw [List.getElem?_eq_getElem hlt] at h
    injection h with h
    rw [if_pos h]
  by_cases hm : x ∈ t.take i
  · obtain ⟨j, hj⟩ := List.getElem?_of_mem hm
    have hjl := (List.getElem?_eq_some_iff.1 hj).1
    rw [List.length_take] at hjl
    have hp : ((0 + j : Nat) : Int) ∈ placesF 0 (t.take i) x := placesF_mem.2 ⟨j, rfl, hj⟩
    cases hc : placesF 0 (t.take i) x with
    | nil => rw [hc] at hp; cases hp
    | cons n r =>
      refine ⟨n, r ++ placesF i (t.drop i) x, by rw [hs, hc]; rfl, fun e => ?_, fun h9 => absurd hm h9⟩
      have hn : n ∈ placesF 0 (t.take i) x := by rw [hc]; exact List.mem_cons_self ..
      obtain ⟨q, e1, e2⟩ := placesF_mem.1 hn
      have hql := (List.getElem?_eq_some_iff.1 e2).1
      rw [List.length_take] at hql
      omega
  · refine ⟨(i : Int), placesF (i + 1) (t.drop (i + 1)) x, ?_, fun _ => hm, fun _ => rfl⟩
    rw [hs, placesF_nil hm, hd, List.nil_append]
/-! the words, each once -/
def firsts (t : List By) : List By := t.foldl (fun acc x => if x ∈ acc then acc else acc ++ [x]) []
theorem firsts_snoc (t : List By) (x : By) : firsts (t ++ [x]) = if x ∈ firsts t then firsts t else firsts t ++ [x] := by
  unfold firsts
  rw [List.foldl_append]
  rfl
theorem firsts_fold_mem (x : By) : ∀ (t acc : List By), x ∈ t.foldl (fun acc x => if x ∈ acc then acc else acc ++ [x]) acc ↔ x ∈ acc ∨ x ∈ t
  | [], acc => by simp
  | y :: t, acc => by
    rw [List.foldl_cons, firsts_fold_mem x t]
    split
    · rename_i hy
      constructor
      · rintro (h | h)
        · exact .inl h
        · exact .inr (List.mem_cons_of_mem _ h)
      · rintro (h | h)
        · exact .inl h
        · rcases List.mem_cons.1 h with h | h
          · rw [h]; exact .inl hy
          · exact .inr h
    · simp only [List.mem_append, List.mem_cons, List.not_mem_nil, or_false]
      constructor
      · rintro ((h | h) | h)
        · exact .inl h
        · exact .inr (.inl h)
        · exact .inr (.inr h)
      · rintro (h | h | h)
        · exact .inl (.inl h)
        · exact .inl (.inr h)
        · exact .inr h
theorem firsts_mem {t : List By} {x : By} : x ∈ firsts t ↔ x ∈ t := by
  unfold firsts
  rw [firsts_fold_mem]
  simp
theorem firsts_take {t : List By} {k : Nat} {y : By} (h : t[k]? = some y) : firsts (t.take (k + 1)) = firsts (t.take k) ++ (if y ∈ t.take k then [] else [y]) := by
  rw [take_snoc h, firsts_snoc]
  by_cases hm : y ∈ t.take k
  · rw [if_pos (firsts_mem.2 hm), if_pos hm, List.append_nil]
  · rw [if_neg (fun h9 => hm (firsts_mem.1 h9)), if_neg hm]
theorem firsts_nodup : ∀ t : List By, (firsts t).Nodup := by
  have gen : ∀ (t acc : List By), acc.Nodup → (t.foldl (fun acc x => if x ∈ acc then acc else acc ++ [x]) acc).Nodup := by
    intro t
    induction t with
    | nil => intro acc h; exact h
    | cons y t ih =>
      intro acc h
      rw [List.foldl_cons]
      refine ih _ ?_
      split
      · exact h
      · rename_i hy
        rw [List.nodup_append]
        exact ⟨h, by simp, fun a ha b hb => by rw [List.mem_singleton] at hb; rw [hb]; intro e; exact hy (e ▸ ha)⟩
  exact fun t => gen t [] List.nodup_nil
theorem firsts_len (t : List By) : (firsts t).length ≤ t.length := by
  have gen : ∀ (t acc : List By), (t.foldl (fun acc x => if x ∈ acc then acc else acc ++ [x]) acc).length ≤ acc.length + t.length := by
    intro t
    induction t with
    | nil => intro acc; exact Nat.le_refl _
    | cons y t ih =>
      intro acc
      rw [List.foldl_cons, List.length_cons]
      refine Nat.le_trans (ih _) ?_
      split <;> simp <;> omega
  have := gen t []
  simpa [firsts] using this
/-! posts of a record -/
def mkp (f id : Int) (t : List By) (x : By) : Post := ⟨f, x, id, places t x⟩
def fposts (f id : Int) (t : List By) : List Post := (firsts t).map (mkp f id t)
def posts (r : Rd) : List Post := fposts 0 r.id (terms r.fields 0) ++ (fposts 1 r.id (terms r.fields 1) ++ (fposts 2 r.id (terms r.fields 2) ++ (fposts 3 r.id (terms r.fields 3) ++ fposts 4 r.id (terms r.fields 4))))
theorem fposts_mem {f id : Int} {t : List By} {p : Post} : p ∈ fposts f id t ↔ p.fld = f ∧ p.id = id ∧ p.word ∈ t ∧ p.at_ = places t p.word := by
  unfold fposts
  rw [List.mem_map]
  constructor
  · rintro ⟨x, hx, rfl⟩
    exact ⟨rfl, rfl, firsts_mem.1 hx, rfl⟩
  · rintro ⟨h1, h2, h3, h4⟩
    refine ⟨p.word, firsts_mem.2 h3, ?_⟩
    cases p
    simp only at h1 h2 h4
    subst h1 h2 h4
    rfl
theorem posts_mem {r : Rd} {p : Post} : p ∈ posts r ↔ 0 ≤ p.fld ∧ p.fld ≤ 4 ∧ p.id = r.id ∧ p.word ∈ terms r.fields p.fld ∧ p.at_ = places (terms r.fields p.fld) p.word := by
  unfold posts
  simp only [List.mem_append, fposts_mem]
  constructor
  · rintro (⟨h1, h2, h3, h4⟩ | ⟨h1, h2, h3, h4⟩ | ⟨h1, h2, h3, h4⟩ | ⟨h1, h2, h3, h4⟩ | ⟨h1, h2, h3, h4⟩) <;> rw [h1] <;> exact ⟨by omega, by omega, h2, h3, h4⟩
  · rintro ⟨h1, h2, h3, h4, h5⟩
    rcases (by omega : p.fld = 0 ∨ p.fld = 1 ∨ p.fld = 2 ∨ p.fld = 3 ∨ p.fld = 4) with h | h | h | h | h <;> rw [h] at h4 h5
    · exact .inl ⟨h, h3, h4, h5⟩
    · exact .inr (.inl ⟨h, h3, h4, h5⟩)
    · exact .inr (.inr (.inl ⟨h, h3, h4, h5⟩))
    · exact .inr (.inr (.inr (.inl ⟨h, h3, h4, h5⟩)))
    · exact .inr (.inr (.inr (.inr ⟨h, h3, h4, h5⟩)))
theorem fposts_own (f id : Int) (t : List By) : Ownk (fposts f id t) := by
  unfold fposts Ownk
  rw [List.pairwise_map]
  exact (firsts_nodup t).imp fun h e => h e.2.1
theorem ownk_app {a b : List Post} (ha : Ownk a) (hb : Ownk b) (h : ∀ x ∈ a, ∀ y ∈ b, ¬ sameK x y) : Ownk (a ++ b) := List.pairwise_append.2 ⟨ha, hb, h⟩
theorem posts_own (r : Rd) : Ownk (posts r) := by
  have key : ∀ (f g : Int) (s t : List By), f ≠ g → ∀ x ∈ fposts f r.id s, ∀ y ∈ fposts g r.id t, ¬ sameK x y := fun f g s t hne x hx y hy e => by
    have h1 := (fposts_mem.1 hx).1
    have h2 := (fposts_mem.1 hy).1
    have h3 := e.1
    omega
  unfold posts
  refine ownk_app (fposts_own ..) (ownk_app (fposts_own ..) (ownk_app (fposts_own ..) (ownk_app (fposts_own ..) (fposts_own ..) ?_) ?_) ?_) ?_
  · exact key _ _ _ _ (by decide)
  · intro x hx y hy
    rcases List.mem_append.1 hy with hy | hy <;> exact key _ _ _ _ (by decide) x hx y hy
  · intro x hx y hy
    rcases List.mem_append.1 hy with hy | hy
    · exact key _ _ _ _ (by decide) x hx y hy
    · rcases List.mem_append.1 hy with hy | hy <;> exact key _ _ _ _ (by decide) x hx y hy
  · intro x hx y hy
    rcases List.mem_append.1 hy with hy | hy
    · exact key _ _ _ _ (by decide) x hx y hy
    · rcases List.mem_append.1 hy with hy | hy
      · exact key _ _ _ _ (by decide) x hx y hy
      · rcases List.mem_append.1 hy with hy | hy <;> exact key _ _ _ _ (by decide) x hx y hy
/-! indexes -/
def known (x : List Post) (id : Int) : Bool := x.any fun p => p.id == id
def add (x : List Post) (r : Rd) : List Post := if r.id < 1 ∨ known x r.id = true then x else (posts r).foldl ins x
def met (l : List Rd) (k : Nat) (r : Rd) : Bool := (l.take k).any fun q => q.id == r.id
def bld (l : List Rd) : Nat → List Post
  | 0 => []
  | k + 1 => match l[k]? with
    | some r => if met l k r = true then bld l k else add (bld l k) r
    | none => bld l k
def build (l : List Rd) : List Post := bld l l.length
theorem bld_succ {l : List Rd} {k : Nat} {r : Rd} (h : l[k]? = some r) : bld l (k + 1) = if met l k r = true then bld l k else add (bld l k) r := by rw [bld, h]
/-- The records that an index is made of. -/
def chs (l : List Rd) : Nat → List Rd
  | 0 => []
  | k + 1 => match l[k]? with
    | some r => if r.id < 1 ∨ met l k r = true then chs l k else chs l k ++ [r]
    | none => chs l k
theorem chs_succ {l : List Rd} {k : Nat} {r : Rd} (h : l[k]? = some r) : chs l (k + 1) = if r.id < 1 ∨ met l k r = true then chs l k else chs l k ++ [r] := by rw [chs, h]
theorem chs_mem {l : List Rd} : ∀ {k : Nat} {r : Rd}, r ∈ chs l k → 1 ≤ r.id ∧ r ∈ l.take k
  | 0, r, h => by cases h
  | k + 1, r, h => by
    cases hk : l[k]? with
    | none =>
      rw [chs, hk] at h
      have := chs_mem h
      exact ⟨this.1, List.mem_of_mem_take (i := k) (by rw [List.take_take, Nat.min_eq_left (by omega)]; exact this.2)⟩
    | some q =>
      rw [chs_succ hk] at h
      rw [take_snoc hk, List.mem_append]
      split at h
      · exact ⟨(chs_mem h).1, .inl (chs_mem h).2⟩
      · rename_i hn
        rcases List.mem_append.1 h with h | h
        · exact ⟨(chs_mem h).1, .inl (chs_mem h).2⟩
        · rw [List.mem_singleton] at h
          subst h
          exact ⟨by omega, .inr (by simp)⟩
theorem known_iff {x : List Post} {id : Int} : known x id = true ↔ ∃ p ∈ x, p.id = id := by
  unfold known
  simp
theorem met_iff {l : List Rd} {k : Nat} {r : Rd} : met l k r = true ↔ ∃ q ∈ l.take k, q.id = r.id := by
  unfold met
  simp
theorem posts_id {r : Rd} {p : Post} (h : p ∈ posts r) : p.id = r.id := (posts_mem.1 h).2.2.1
theorem chs_own (l : List Rd) : ∀ k, Ownk ((chs l k).flatMap posts)
  | 0 => List.Pairwise.nil
  | k + 1 => by
    cases hk : l[k]? with
    | none => rw [chs, hk]; exact chs_own l k
    | some q =>
      rw [chs_succ hk]
      split
      · exact chs_own l k
      · rename_i hn
        rw [List.flatMap_append]
        refine ownk_app (chs_own l k) (by simpa using posts_own q) fun x hx y hy e => ?_
        obtain ⟨r, hr, hx⟩ := List.mem_flatMap.1 hx
        replace hy : y ∈ posts q := by simpa using hy
        refine hn (.inr (met_iff.2 ⟨r, (chs_mem hr).2, ?_⟩))
        rw [← posts_id hx, ← posts_id hy]
        exact e.2.2
theorem bld_eq (l : List Rd) : ∀ k, bld l k = ((chs l k).flatMap posts).foldl ins []
  | 0 => rfl
  | k + 1 => by
    have ih := bld_eq l k
    cases hk : l[k]? with
    | none => rw [bld, hk, chs, hk]; exact ih
    | some r =>
      rw [bld_succ hk, chs_succ hk]
      by_cases hm : met l k r = true
      · rw [if_pos hm, if_pos (.inr hm)]; exact ih
      · rw [if_neg hm]
        unfold add
        by_cases h1 : r.id < 1
        · rw [if_pos (.inl h1), if_pos (.inl h1)]; exact ih
        · have hkn : ¬ known (bld l k) r.id = true := by
            intro h9
            obtain ⟨p, hp, e⟩ := known_iff.1 h9
            rw [ih] at hp
            have hp2 := (fold_perm _ _).mem_iff.1 hp
            rw [List.nil_append] at hp2
            obtain ⟨q, hq, hp3⟩ := List.mem_flatMap.1 hp2
            exact hm (met_iff.2 ⟨q, (chs_mem hq).2, by rw [← posts_id hp3]; exact e⟩)
          rw [if_neg (by rintro (h | h); exact h1 h; exact hkn h), if_neg (by rintro (h | h); exact h1 h; exact hm h), List.flatMap_append, List.foldl_append, ih]
          simp
theorem bld_asc (l : List Rd) (k : Nat) : Asc (bld l k) := by
  rw [bld_eq]
  exact fold_asc _ _ List.Pairwise.nil (by rw [List.nil_append]; exact chs_own l k)
/-- What sorting the posts of the records gives. -/
theorem build_sorted {l : List Rd} {s : List Post} (hp : s.Perm ((chs l l.length).flatMap posts)) (hs : s.Pairwise fun x y => ltK y x = false) : s = build l := by
  unfold build
  rw [bld_eq]
  exact sorted_eq (acc := []) List.Pairwise.nil (by rw [List.nil_append]; exact chs_own l _) (by rw [List.nil_append]; exact hp) hs
/-- What sorting an index with the posts of another record gives. -/
theorem add_sorted {x s : List Post} {r : Rd} (ha : Asc x) (hk : known x r.id = false) (h1 : 1 ≤ r.id) (hp : s.Perm (x ++ posts r)) (hs : s.Pairwise fun x y => ltK y x = false) : s = add x r := by
  unfold add
  rw [if_neg (by rintro (h | h); omega; rw [hk] at h; cases h)]
  refine sorted_eq ha (ownk_app ha.own (posts_own r) fun p hp q hq e => ?_) hp hs
  have h2 := posts_id hq
  have : known x r.id = true := known_iff.2 ⟨p, hp, by rw [← h2]; exact e.2.2⟩
  rw [hk] at this
  cases this
def drop (x : List Post) (id : Int) : List Post := x.filter fun p => !(p.id == id)
/-! valid -/
def ascF : Int → List Int → Bool
  | _, [] => true
  | m, n :: l => decide (m < n) && ascF n l
def okP (p : Post) : Bool := decide (0 ≤ p.fld) && decide (p.fld ≤ 4) && !(p.word == []) && decide (1 ≤ p.id) && !(p.at_ == []) && ascF (-1) p.at_
def prevB : Option Post → Post → Bool
  | none, _ => true
  | some q, p => ltK q p
def rightF : Option Post → List Post → Bool
  | _, [] => true
  | q, p :: l => okP p && prevB q p && rightF (some p) l
theorem rightF_cons (q : Option Post) (p : Post) (l : List Post) : rightF q (p :: l) = (okP p && prevB q p && rightF (some p) l) := rfl
def right (x : List Post) : Bool := rightF none x
theorem rightF_asc : ∀ (l : List Post) (q : Post), rightF (some q) l = true → Asc (q :: l)
  | [], q, _ => List.pairwise_singleton _ _
  | p :: l, q, h => by
    rw [rightF_cons, Bool.and_eq_true, Bool.and_eq_true] at h
    have ih := rightF_asc l p h.2
    have ih' := List.pairwise_cons.1 ih
    refine List.pairwise_cons.2 ⟨fun y hy => ?_, ih⟩
    rcases List.mem_cons.1 hy with e | hy
    · rw [e]; exact h.1.2
    · exact ltK_trans h.1.2 (ih'.1 y hy)
theorem right_asc {x : List Post} (h : right x = true) : Asc x := by
  cases x with
  | nil => exact List.Pairwise.nil
  | cons p l =>
    unfold right at h
    rw [rightF_cons, Bool.and_eq_true] at h
    exact rightF_asc l p h.2
theorem rightF_ok : ∀ (l : List Post) (q : Option Post), rightF q l = true → ∀ p ∈ l, okP p = true
  | [], _, _, p, hp => by cases hp
  | p :: l, q, h, y, hy => by
    rw [rightF_cons, Bool.and_eq_true, Bool.and_eq_true] at h
    rcases List.mem_cons.1 hy with e | hy
    · rw [e]; exact h.1.1
    · exact rightF_ok l _ h.2 y hy
theorem rightF_of {l : List Post} : ∀ (q : Option Post), Asc (match q with | none => l | some q => q :: l) → (∀ p ∈ l, okP p = true) → rightF q l = true := by
  induction l with
  | nil => intro q _ _; rfl
  | cons p l ih =>
    intro q h hok
    rw [rightF_cons, Bool.and_eq_true, Bool.and_eq_true]
    refine ⟨⟨hok p (List.mem_cons_self ..), ?_⟩, ih (some p) ?_ (fun y hy => hok y (List.mem_cons_of_mem _ hy))⟩
    · cases q with
      | none => rfl
      | some q => exact (List.pairwise_cons.1 h).1 p (List.mem_cons_self ..)
    · cases q with
      | none => exact h
      | some q => exact (List.pairwise_cons.1 h).2
theorem right_of {x : List Post} (ha : Asc x) (hok : ∀ p ∈ x, okP p = true) : right x = true := rightF_of none ha hok
/-! what is found -/
def word (x : List Post) (f : Int) (s : By) : List Int := Cp.puts Cp.ltI ((x.filter fun p => decide (p.fld = f) && (p.word == s)).map (·.id))
def begP (s w : By) : Bool := w.take s.length == s
def prefix_ (x : List Post) (f : Int) (s : By) : List Int := Cp.puts Cp.ltI ((x.filter fun p => !(s == []) && (decide (p.fld = f) && begP s p.word)).map (·.id))
/-- The difference of two numbers as a machine has it. -/
def at_ (x : List Post) (f : Int) (s : By) (id start : Int) (far : Nat) : Bool := x.any fun p => decide (p.fld = f) && (p.word == s) && (p.id == id) && p.at_.any fun n => decide (IntKind.i64.wrap (n - far) = start)
def folF (x : List Post) (f id start : Int) : Nat → List By → Bool
  | _, [] => true
  | j, s :: l => at_ x f s id start j && folF x f id start (j + 1) l
def phr (x : List Post) (f : Int) (ws : List By) : List Int := match ws with
  | [] => []
  | s :: l => (x.filter fun p => decide (p.fld = f) && (p.word == s)).flatMap fun p => (p.at_.filter fun n => folF x f p.id n 1 l).map fun _ => p.id
def phrase (x : List Post) (f : Int) (ws : List By) : List Int := Cp.puts Cp.ltI (phr x f ws)
end Ix
end Go.Proofs.YtcjalpegffldaaaGreatDoor

/- Memory: lists of posts, lists of numbers. The reference's order of posts and its put: what the calls return. -/
namespace Go.Proofs.YtcjalpegffldaaaGreatDoor
open Go.RowKit
set_option maxRecDepth 100000

theorem info_int : (Tryz.prog.info? 3).map (fun i => (i.zero, i.size, i.bytes)) = some (some (.int .i64 0), 1, 8) := by kernel_rfl
theorem info_post : (Tryz.prog.info? 52).map (fun i => (i.zero, i.size, i.bytes)) = some (some (.agg #[.int .i64 0, .string ⟨#[]⟩, .int .i64 0, .slice none 0 0]), 4, 56) := by kernel_rfl

namespace Ix
open Rc
/-- The slice holds these ints. -/
abbrev IA (w : World) (a : Option Addr) (c : Nat) (xs : List Int) : Prop := Br.FA (fun x : Int => [Value.int .i64 x]) 1 w a c xs
theorem flat_int (xs : List Int) : xs.flatMap (fun x => [Value.int .i64 x]) = xs.map (Value.int .i64) := by
  induction xs with
  | nil => rfl
  | cons x r ih => simp [ih]
theorem IA.of_own {w : World} {B e n : Nat} {v : Value} {xs : List Int} (h : w.ownsRow B e 1 v n (xs.map (Value.int .i64))) (hn : n = xs.length) : ∃ a c, v = .slice a xs.length c ∧ IA w a c xs ∧ (∀ g, a = some g → B ≤ g.block) := by
  obtain ⟨a, c, e1, h1, h2⟩ := Br.FA.of_own (enc := fun x : Int => [Value.int .i64 x]) (fun _ => rfl) (by rw [flat_int]; exact h) hn
  exact ⟨a, c, e1, h1, h2⟩
theorem IA.cell {w : World} {a : Option Addr} {c : Nat} {xs : List Int} (h : IA w a c xs) {k : Nat} {x : Int} (hk : xs[k]? = some x) : ∃ b o, a = some ⟨b, o, none⟩ ∧ b < w.heap.size ∧ w.cell? ⟨b, o + k, none⟩ = some (.int .i64 x) := by
  obtain ⟨b, o, h1, h2, h3⟩ := h.get hk
  have := h3 0 _ rfl
  rw [Nat.mul_one, Nat.add_zero] at this
  exact ⟨b, o, h1, h2, this⟩
/-- A post with the slice of its places. -/
abbrev PT := Post × Option Addr × Nat
abbrev encP (t : PT) : List Value := [.int .i64 t.1.fld, .string ⟨t.1.word.toArray⟩, .int .i64 t.1.id, .slice t.2.1 t.1.at_.length t.2.2]
theorem encP_len (t : PT) : (encP t).length = 4 := rfl
theorem p_one (t : PT) : ∀ u ∈ encP t, u.oneCell' = true := by simp [encP, Value.oneCell']
def Ats (w : World) (T : List PT) : Prop := ∀ t ∈ T, IA w t.2.1 t.2.2 t.1.at_
theorem Ats.below {w w' : World} {T : List PT} (h : Ats w T) (hb : Below w.heap.size w w') : Ats w' T := fun t ht => (h t ht).below hb
/-- The slice holds these posts. -/
structure PsA (w : World) (a : Option Addr) (c : Nat) (T : List PT) : Prop where
  fa : Br.FA encP 4 w a c T
  ats : Ats w T
theorem PsA.below {w w' : World} {a : Option Addr} {c : Nat} {T : List PT} (h : PsA w a c T) (hb : Below w.heap.size w w') : PsA w' a c T := ⟨h.fa.below hb, h.ats.below hb⟩
theorem PsA.get {w : World} {a : Option Addr} {c : Nat} {T : List PT} (h : PsA w a c T) {k : Nat} {t : PT} (hk : T[k]? = some t) :
    ∃ b o, a = some ⟨b, o, none⟩ ∧ b < w.heap.size ∧ w.cell? ⟨b, o + k * 4, none⟩ = some (.int .i64 t.1.fld) ∧ w.cell? ⟨b, o + k * 4 + 1, none⟩ = some (.string ⟨t.1.word.toArray⟩) ∧ w.cell? ⟨b, o + k * 4 + 2, none⟩ = some (.int .i64 t.1.id) ∧
      w.cell? ⟨b, o + k * 4 + 3, none⟩ = some (.slice t.2.1 t.1.at_.length t.2.2) ∧ IA w t.2.1 t.2.2 t.1.at_ := by
  obtain ⟨b, o, h1, h2, h3⟩ := h.fa.get hk
  exact ⟨b, o, h1, h2, h3 0 _ rfl, h3 1 _ rfl, h3 2 _ rfl, h3 3 _ rfl, h.ats t (List.mem_of_getElem? hk)⟩
/-- Posts that a call owns. -/
abbrev OwnP (w' : World) (B : Nat) (v : Value) (T : List PT) : Prop := w'.ownsRow B 52 4 v T.length (T.flatMap encP)
theorem OwnP.ps {w : World} {B : Nat} {v : Value} {T : List PT} (h : OwnP w B v T) (ha : Ats w T) : ∃ a c, v = .slice a T.length c ∧ PsA w a c T ∧ (∀ g, a = some g → B ≤ g.block) := by
  obtain ⟨a, c, e, h1, h2⟩ := Br.FA.of_own encP_len h rfl
  exact ⟨a, c, e, ⟨h1, ha⟩, h2⟩
theorem own_snoc {w : World} {B : Nat} {v : Value} {T : List PT} {t : PT} (h : w.ownsRow B 52 4 v (T.length + 1) (T.flatMap encP ++ encP t)) : OwnP w B v (T ++ [t]) := by
  unfold OwnP
  rw [List.length_append, List.flatMap_append]
  simpa using h
/-- A post put into a list. -/
def insT : List PT → PT → List PT
  | [], x => [x]
  | y :: l, x => if ltK x.1 y.1 = true then x :: y :: l else y :: insT l x
theorem insT_map : ∀ (T : List PT) (t : PT), (insT T t).map (·.1) = ins (T.map (·.1)) t.1
  | [], t => rfl
  | y :: T, t => by
    unfold insT
    rw [List.map_cons, ins]
    split
    · rfl
    · rw [List.map_cons, insT_map T t]
theorem insT_len : ∀ (T : List PT) (t : PT), (insT T t).length = T.length + 1
  | [], _ => rfl
  | y :: T, t => by
    unfold insT
    split
    · rfl
    · rw [List.length_cons, insT_len T t, List.length_cons]
theorem insT_mem : ∀ {T : List PT} {t x : PT}, x ∈ insT T t → x = t ∨ x ∈ T
  | [], t, x, h => .inl (by simpa [insT] using h)
  | y :: T, t, x, h => by
    unfold insT at h
    split at h
    · rcases List.mem_cons.1 h with h | h
      · exact .inl h
      · exact .inr h
    · rcases List.mem_cons.1 h with h | h
      · exact .inr (h ▸ List.mem_cons_self ..)
      · rcases insT_mem h with h | h
        · exact .inl h
        · exact .inr (List.mem_cons_of_mem _ h)
theorem row_lower {w : World} {B B2 e size n : Nat} {v : Value} {xs : List Value} (h : w.ownsRow B2 e size v n xs) (hB : B ≤ B2) : w.ownsRow B e size v n xs := ⟨h.1, by
  rcases h.2 with h1 | ⟨g, cap, cur, h1, h2, h3, h4⟩
  · exact .inl h1
  · exact .inr ⟨g, cap, cur, h1, by omega, h3, h4⟩⟩
theorem drop_cons {α : Type} {l : List α} {k : Nat} {x : α} (h : l[k]? = some x) : l.drop k = x :: l.drop (k + 1) := by
  have hlt := (List.getElem?_eq_some_iff.1 h).1
  rw [List.drop_eq_getElem_cons hlt]
  rw [List.getElem?_eq_getElem hlt] at h
  injection h with h
  rw [h]
end Ix

set_option maxHeartbeats 1600000 in
theorem r20_before_c (p q : Ix.Post) (pa qa : Option Addr) (pc qc : Nat) (w : World) :
    Calls Tryz.prog 52 #[.agg #[.int .i64 p.fld, .string ⟨p.word.toArray⟩, .int .i64 p.id, .slice pa p.at_.length pc], .agg #[.int .i64 q.fld, .string ⟨q.word.toArray⟩, .int .i64 q.id, .slice qa q.at_.length qc]] w fun e w' => e = .returned (.bool (Ix.ltK p q)) ∧ Below w.heap.size w w' := by
  obtain ⟨W, hW⟩ : ∃ W, (w.alloc (.cells #[.int .i64 p.fld, .string ⟨p.word.toArray⟩, .int .i64 p.id, .slice pa p.at_.length pc] 52)).alloc (.cells #[.int .i64 q.fld, .string ⟨q.word.toArray⟩, .int .i64 q.id, .slice qa q.at_.length qc] 52) = W := ⟨_, rfl⟩
  have hB : Below w.heap.size w W := by rw [← hW]; exact (Tx.newb _ _).alloc (by simp) _
  have c0 : W.cell? ⟨w.heap.size, 0, none⟩ = some (.int .i64 p.fld) := by rw [← hW]; simp
  have c1 : W.cell? ⟨w.heap.size, 1, none⟩ = some (.string ⟨p.word.toArray⟩) := by rw [← hW]; simp
  have c2 : W.cell? ⟨w.heap.size, 2, none⟩ = some (.int .i64 p.id) := by rw [← hW]; simp
  have d0 : W.cell? ⟨w.heap.size + 1, 0, none⟩ = some (.int .i64 q.fld) := by rw [← hW]; simp
  have d1 : W.cell? ⟨w.heap.size + 1, 1, none⟩ = some (.string ⟨q.word.toArray⟩) := by rw [← hW]; simp
  have d2 : W.cell? ⟨w.heap.size + 1, 2, none⟩ = some (.int .i64 q.id) := by rw [← hW]; simp
  by_cases e0 : p.fld = q.fld
  · have t0 : (p.fld != q.fld) = false := by simpa using e0
    by_cases e1 : p.word = q.word
    · have t1 : (p.word == q.word) = true := by simpa using e1
      have hr : Ix.ltK p q = decide (p.id < q.id) := by unfold Ix.ltK Cp.ltI Cp.ltB; rw [e0, e1]; simp [List.lt_irrefl]
      have HR := Lib.hid hr
      clear hr e0 e1
      go_enter Tryz.func52, Tryz.ntmps52
      go_wp2
      go_ret
      exact ⟨by rw [HR.out]; rfl, hB⟩
    · have t1 : (p.word == q.word) = false := by simpa using e1
      have hbl : Op.bytesLess p.word q.word = decide (p.word < q.word) := Go.Proofs.bytesLess_eq _ _
      have hr : Ix.ltK p q = Op.bytesLess p.word q.word := by rw [hbl]; unfold Ix.ltK Cp.ltI Cp.ltB; rw [e0]; simp [e1]
      have HR := Lib.hid hr
      clear hr hbl e0 e1
      go_enter Tryz.func52, Tryz.ntmps52
      go_wp2
      go_ret
      exact ⟨by rw [HR.out]; rfl, hB⟩
  · have t0 : (p.fld != q.fld) = true := by simpa using e0
    have hr : Ix.ltK p q = decide (p.fld < q.fld) := by unfold Ix.ltK Cp.ltI; simp [e0]
    have HR := Lib.hid hr
    clear hr e0
    go_enter Tryz.func52, Tryz.ntmps52
    go_wp2
    go_ret
    exact ⟨by rw [HR.out]; rfl, hB⟩

set_option maxHeartbeats 3200000 in
theorem r20_put_c (T : List Ix.PT) (t : Ix.PT) (a : Option Addr) (c : Nat) (w : World) (h : Br.FA Ix.encP 4 w a c T) (hn : T.length ≤ 1000000000) :
    Calls Tryz.prog 64 #[.slice a T.length c, .agg #[.int .i64 t.1.fld, .string ⟨t.1.word.toArray⟩, .int .i64 t.1.id, .slice t.2.1 t.1.at_.length t.2.2]] w fun e w' => ∃ v, e = .returned v ∧ Ix.OwnP w' w.heap.size v (Ix.insT T t) ∧ Below w.heap.size w w' := by
  obtain ⟨i0, hi0, hz0, hz1, hz2⟩ := info_parts info_post
  have HI := Lib.hid hi0; clear hi0
  have hcap := h.cap
  obtain ⟨W, hW⟩ : ∃ W, w.alloc (.cells #[.int .i64 t.1.fld, .string ⟨t.1.word.toArray⟩, .int .i64 t.1.id, .slice t.2.1 t.1.at_.length t.2.2] 52) = W := ⟨_, rfl⟩
  have hB : Below w.heap.size w W := by rw [← hW]; exact Tx.newb _ _
  have c0 : W.cell? ⟨w.heap.size, 0, none⟩ = some (.int .i64 t.1.fld) := by rw [← hW]; simp
  have c1 : W.cell? ⟨w.heap.size, 1, none⟩ = some (.string ⟨t.1.word.toArray⟩) := by rw [← hW]; simp
  have c2 : W.cell? ⟨w.heap.size, 2, none⟩ = some (.int .i64 t.1.id) := by rw [← hW]; simp
  have c3 : W.cell? ⟨w.heap.size, 3, none⟩ = some (.slice t.2.1 t.1.at_.length t.2.2) := by rw [← hW]; simp
  have HS := Lib.hid (h.below hB); clear h
  have hbB := hB.size
  go_enter Tryz.func64, Tryz.ntmps64
  go_wp2
  clear hW
  go_loopw [5, 6, 7] (fun v d i wr => ∃ (k : Nat) (L : List Ix.PT) (d0 : Bool), k ≤ T.length ∧ i = .int .i64 k ∧ d = .bool d0 ∧ Hid (L ++ (if d0 = true then T.drop k else Ix.insT (T.drop k) t) = Ix.insT T t) ∧ L.length ≤ 2 * k ∧ Ix.OwnP wr W.heap.size v L ∧ Below W.heap.size W wr) (fun _ _ i _ => T.length - (intOf i).toNat)
  case atStart => exact ⟨0, [], false, Nat.zero_le _, rfl, rfl, Lib.hid (by simp), by simp, World.ownsRow_nil _ _ _ _, Below.refl _ _⟩
  case round =>
    obtain ⟨k, L, d, hk, rfl, rfl, hE, hL, hown, hb⟩ := hrel
    have hbs := hb.size
    replace c0 := cell_later hb c0
    replace c1 := cell_later hb c1
    replace c2 := cell_later hb c2
    replace c3 := cell_later hb c3
    have HK : Hid (L.length ≤ 2000000001) := Lib.hid (by omega)
    by_cases hlt : k < T.length
    · obtain ⟨y, hy⟩ : ∃ y, T[k]? = some y := ⟨_, List.getElem?_eq_getElem hlt⟩
      have hdr := Ix.drop_cons hy
      obtain ⟨b, o, rfl, hbl, hcs⟩ := HS.out.get hy
      have f0 := hcs 0 _ rfl
      have f1 := hcs 1 _ rfl
      have f2 := hcs 2 _ rfl
      have f3 := hcs 3 _ rfl
      rw [Nat.add_zero] at f0
      have e0 := cell_later hb f0
      have e1 := cell_later hb f1
      have e2 := cell_later hb f2
      have e3 := cell_later hb f3
      clear hcs
      cases d with
      | true =>
        have HN : Hid ((L ++ [y]) ++ (if true = true then T.drop (k + 1) else Ix.insT (T.drop (k + 1)) t) = Ix.insT T t) := Lib.hid (by
          rw [← hE.out, if_pos rfl, if_pos rfl, hdr, List.append_assoc]; rfl)
        clear hdr hy hE
        go_wp2
        go_quiet (fail)
        have hbq := Tx.below_drewN (Below.refl wr.heap.size wr) nq
        have hown3 := own_below hown hbq
        have hb3 := Tx.step hb hbq
        have hb3s := hb3.size
        have g0 := cell_later hb3 f0
        have g1 := cell_later hb3 f1
        have g2 := cell_later hb3 f2
        have g3 := cell_later hb3 f3
        clear hbq
        generalize wr.drewN nq = w3 at *
        go_wp2_with (at_builtin; go_must (refine wpList_append_sl rfl _ _ 32 rfl W.heap.size 52 i0 _ 4 56 Tryz.underlying32 HI.out hz0 hz1 hz2 rfl (by decide) _ (L.length) _ rfl (hown3.alloc _) (some ⟨_, 0, none⟩) 1 1 (Ix.encP y) rfl rfl (fun h9 => by cases h9) (fun ad had => by cases had; exact Br.cells_new_at _ _ (by first | rfl | simp) #[.int .i64 y.1.fld, .string ⟨y.1.word.toArray⟩, .int .i64 y.1.id, .slice y.2.1 y.1.at_.length y.2.2] _) (Ix.p_one y) (by unfold maxLen; have := HK.out; omega) (by have := HK.out; omega) (by simp; omega) ?_); intro v7 w7 hown7 hg7 hnil7)
        go_roundw
        case rel => exact ⟨k + 1, L ++ [y], true, hlt, by go_num, rfl, HN, by rw [List.length_append]; simp; omega, Ix.own_snoc hown7, (hb3.alloc hb3s _).grown hg7 (by simp; omega) (fun j hj => (hown3.lt j hj).1)⟩
        case measure => simp [intOf]; omega
      | false =>
        cases hq : Ix.ltK t.1 y.1 with
        | true =>
          have HN : Hid (((L ++ [t]) ++ [y]) ++ (if true = true then T.drop (k + 1) else Ix.insT (T.drop (k + 1)) t) = Ix.insT T t) := Lib.hid (by
            rw [← hE.out, if_pos rfl, if_neg (by decide), hdr, Ix.insT, if_pos hq, List.append_assoc, List.append_assoc]; rfl)
          have HQ := Lib.hid hq
          clear hdr hy hE hq
          have CB : Hid (∀ w', Calls Tryz.prog 52 #[.agg #[.int .i64 t.1.fld, .string ⟨t.1.word.toArray⟩, .int .i64 t.1.id, .slice t.2.1 t.1.at_.length t.2.2], .agg #[.int .i64 y.1.fld, .string ⟨y.1.word.toArray⟩, .int .i64 y.1.id, .slice y.2.1 y.1.at_.length y.2.2]] w' fun e w'' => e = .returned (.bool true) ∧ Below w'.heap.size w' w'') := Lib.hid (fun w' => by
            have h9 := r20_before_c t.1 y.1 t.2.1 y.2.1 t.2.2 y.2.2 w'
            rw [HQ.out] at h9
            exact h9)
          go_wp2
          go_still_tail 8, (by kernel_rfl)
          change wpList _ _ _ _ _ wr.drew
          have hbq := (Below.refl wr.heap.size wr).drew
          generalize wr.drew = w2 at hbq ⊢
          have HK2 : Hid ((L ++ [t]).length ≤ 2000000002) := Lib.hid (by rw [List.length_append]; simp; have := HK.out; omega)
          go_wp2_with (first
            | (at_builtin; refine wpList_append_sl rfl _ _ 32 rfl W.heap.size 52 i0 _ 4 56 Tryz.underlying32 HI.out hz0 hz1 hz2 rfl (by decide) _ ((L ++ [t]).length) _ rfl ((Ix.own_snoc hown7).alloc _) (some ⟨_, 0, none⟩) 1 1 (Ix.encP y) rfl rfl (fun h9 => by cases h9) (fun ad had => by cases had; exact Br.cells_new_at _ _ (by first | rfl | simp) #[.int .i64 y.1.fld, .string ⟨y.1.word.toArray⟩, .int .i64 y.1.id, .slice y.2.1 y.1.at_.length y.2.2] _) (Ix.p_one y) (by unfold maxLen; have := HK2.out; omega) (by have := HK2.out; omega) (by simp; omega) ?_; intro v8 w8 hown8 hg8 hnil8; have hb8 : Below W.heap.size W w8 := (hb7.alloc hb7.size _).grown hg8 (by simp; omega) (fun j hj => (hown7.lt j hj).1))
            | (at_builtin; go_must (refine wpList_append_sl rfl _ _ 32 rfl W.heap.size 52 i0 _ 4 56 Tryz.underlying32 HI.out hz0 hz1 hz2 rfl (by decide) _ (L.length) _ rfl (hown3.alloc _) (some ⟨_, 0, none⟩) 1 1 (Ix.encP t) rfl rfl (fun h9 => by cases h9) (fun ad had => by cases had; exact Br.cells_new_at _ _ (by first | rfl | simp) #[.int .i64 t.1.fld, .string ⟨t.1.word.toArray⟩, .int .i64 t.1.id, .slice t.2.1 t.1.at_.length t.2.2] _) (Ix.p_one t) (by unfold maxLen; have := HK.out; omega) (by have := HK.out; omega) (by simp; omega) ?_); intro v7 w7 hown7 hg7 hnil7; have hb7 : Below W.heap.size W w7 := (hb3.alloc hb3s _).grown hg7 (by simp; omega) (fun j hj => (hown3.lt j hj).1); have hb7s := hb7.size; have p0 := cell_later hb7 f0; have p1 := cell_later hb7 f1; have p2 := cell_later hb7 f2; have p3 := cell_later hb7 f3)
            | (go_at_call 52; ((with_reducible refine (CB.out _).mono ?_); rintro e w3 ⟨rfl, hb3x⟩; have hb3y := Tx.step hbq hb3x; have hown3 := own_below hown hb3y; have hb3 := Tx.step hb hb3y; have hb3s := hb3.size; have g0 := cell_later hb3 f0; have g1 := cell_later hb3 f1; have g2 := cell_later hb3 f2; have g3 := cell_later hb3 f3; have k0 := cell_later hb3y c0; have k1 := cell_later hb3y c1; have k2 := cell_later hb3y c2; have k3 := cell_later hb3y c3)))
          go_roundw
          case rel => exact ⟨k + 1, (L ++ [t]) ++ [y], true, hlt, by go_num, rfl, HN, by simp; omega, Ix.own_snoc hown8, hb8⟩
          case measure => simp [intOf]; omega
        | false =>
          have HN : Hid ((L ++ [y]) ++ (if false = true then T.drop (k + 1) else Ix.insT (T.drop (k + 1)) t) = Ix.insT T t) := Lib.hid (by
            rw [← hE.out, if_neg (by decide), if_neg (by decide), hdr, Ix.insT, if_neg (by rw [hq]; decide), List.append_assoc]; rfl)
          have HQ := Lib.hid hq
          clear hdr hy hE hq
          have CB : Hid (∀ w', Calls Tryz.prog 52 #[.agg #[.int .i64 t.1.fld, .string ⟨t.1.word.toArray⟩, .int .i64 t.1.id, .slice t.2.1 t.1.at_.length t.2.2], .agg #[.int .i64 y.1.fld, .string ⟨y.1.word.toArray⟩, .int .i64 y.1.id, .slice y.2.1 y.1.at_.length y.2.2]] w' fun e w'' => e = .returned (.bool false) ∧ Below w'.heap.size w' w'') := Lib.hid (fun w' => by
            have h9 := r20_before_c t.1 y.1 t.2.1 y.2.1 t.2.2 y.2.2 w'
            rw [HQ.out] at h9
            exact h9)
          go_wp2
          go_still_tail 8, (by kernel_rfl)
          change wpList _ _ _ _ _ wr.drew
          have hbq := (Below.refl wr.heap.size wr).drew
          generalize wr.drew = w2 at hbq ⊢
          go_wp2_with (first
            | (at_builtin; refine wpList_append_sl rfl _ _ 32 rfl W.heap.size 52 i0 _ 4 56 Tryz.underlying32 HI.out hz0 hz1 hz2 rfl (by decide) _ (L.length) _ rfl (hown3.alloc _) (some ⟨_, 0, none⟩) 1 1 (Ix.encP y) rfl rfl (fun h9 => by cases h9) (fun ad had => by cases had; exact Br.cells_new_at _ _ (by first | rfl | simp) #[.int .i64 y.1.fld, .string ⟨y.1.word.toArray⟩, .int .i64 y.1.id, .slice y.2.1 y.1.at_.length y.2.2] _) (Ix.p_one y) (by unfold maxLen; have := HK.out; omega) (by have := HK.out; omega) (by simp; omega) ?_; intro v7 w7 hown7 hg7 hnil7)
            | (go_at_call 52; ((with_reducible refine (CB.out _).mono ?_); rintro e w3 ⟨rfl, hb3x⟩; have hb3y := Tx.step hbq hb3x; have hown3 := own_below hown hb3y; have hb3 := Tx.step hb hb3y; have hb3s := hb3.size; have g0 := cell_later hb3 f0; have g1 := cell_later hb3 f1; have g2 := cell_later hb3 f2; have g3 := cell_later hb3 f3; have k0 := cell_later hb3y c0; have k1 := cell_later hb3y c1; have k2 := cell_later hb3y c2; have k3 := cell_later hb3y c3)))
          go_roundw
          case rel => exact ⟨k + 1, L ++ [y], false, hlt, by go_num, rfl, HN, by rw [List.length_append]; simp; omega, Ix.own_snoc hown7, (hb3.alloc hb3s _).grown hg7 (by simp; omega) (fun j hj => (hown3.lt j hj).1)⟩
          case measure => simp [intOf]; omega
    · obtain rfl : k = T.length := by omega
      cases d with
      | true =>
        have HN := Lib.hid hE.out
        rw [if_pos rfl, List.drop_length, List.append_nil] at HN
        go_wp2
        go_ret
        exact ⟨_, rfl, by rw [← HN.out]; exact Ix.row_lower hown hbB, Tx.step hB hb⟩
      | false =>
        have HN := Lib.hid hE.out
        rw [if_neg (by decide), List.drop_length, Ix.insT] at HN
        go_wp2_with (at_builtin; go_must (refine wpList_append_sl rfl _ _ 32 rfl W.heap.size 52 i0 _ 4 56 Tryz.underlying32 HI.out hz0 hz1 hz2 rfl (by decide) _ (L.length) _ rfl (hown.alloc _) (some ⟨_, 0, none⟩) 1 1 (Ix.encP t) rfl rfl (fun h9 => by cases h9) (fun ad had => by cases had; exact Br.cells_new_at _ _ (by first | rfl | simp) #[.int .i64 t.1.fld, .string ⟨t.1.word.toArray⟩, .int .i64 t.1.id, .slice t.2.1 t.1.at_.length t.2.2] _) (Ix.p_one t) (by unfold maxLen; have := HK.out; omega) (by have := HK.out; omega) (by simp; omega) ?_); intro v7 w7 hown7 hg7 hnil7)
        go_ret
        exact ⟨_, rfl, by rw [← HN.out]; exact Ix.row_lower (Ix.own_snoc hown7) hbB, Tx.step hB ((hb.alloc hbs _).grown hg7 (by simp; omega) (fun j hj => (hown.lt j hj).1))⟩

end Go.Proofs.YtcjalpegffldaaaGreatDoor

/- The reference's known, met and Drop: what the calls return. -/
namespace Go.Proofs.YtcjalpegffldaaaGreatDoor
open Go.RowKit
set_option maxRecDepth 100000

namespace Br
variable {α : Type} {enc : α → List Value} {size : Nat}
theorem FA.agree {w w' : World} {a : Option Addr} {c : Nat} {xs : List α} (h : FA enc size w a c xs) (hs : w.heap.size ≤ w'.heap.size) (hg : xs ≠ [] → ∀ g, a = some g → w'.heap[g.block]? = w.heap[g.block]?) : FA enc size w' a c xs := by
  obtain ⟨b, o, h1, h2⟩ := h.at_
  refine ⟨h.cap, h.max, b, o, fun hn => ⟨(h1 hn).1, Nat.lt_of_lt_of_le (h1 hn).2 hs⟩, fun j i x u hx hu => ?_⟩
  have hne : xs ≠ [] := by intro e; subst e; simp at hx
  have hb := hg hne ⟨b, o, Option.none⟩ (h1 hne).1
  exact (World.cell?_of_block (a := ⟨b, o + j * size + i, Option.none⟩) hb).trans (h2 j i x u hx hu)
theorem FA.lt {w : World} {a : Option Addr} {c : Nat} {xs : List α} (h : FA enc size w a c xs) (hne : xs ≠ []) : ∀ g, a = some g → g.block < w.heap.size := by
  obtain ⟨b, o, h1, h2⟩ := h.at_
  intro g hg
  rw [(h1 hne).1] at hg
  injection hg with hg
  rw [← hg]
  exact (h1 hne).2
theorem size_set (w : World) (a : Addr) (v : Value) : (w.setCell a v).heap.size = w.heap.size := by simp [World.setCell]
/-- A store elsewhere. -/
theorem FA.set {w : World} {a : Option Addr} {c : Nat} {xs : List α} (h : FA enc size w a c xs) {X : Nat} (hX : xs ≠ [] → ∀ g, a = some g → g.block ≠ X) (i : Nat) (v : Value) : FA enc size (w.setCell ⟨X, i, Option.none⟩ v) a c xs :=
  h.agree (by rw [size_set]; exact Nat.le_refl _) (fun hn g hg => Below.heap_setCell w ⟨X, i, Option.none⟩ v g.block (hX hn g hg))
end Br

namespace Ix
open Rc
theorem known_map (T : List PT) (id : Int) : known (T.map (·.1)) id = T.any fun t => t.1.id == id := by
  unfold known
  rw [List.any_map]
  rfl
theorem RdA.ids {w : World} {a : Option Addr} {c : Nat} {rs : List Rd} (h : RdA w a c rs) (hne : rs ≠ []) : ∃ b o, a = some ⟨b, o, none⟩ ∧ b < w.heap.size ∧ ∀ (k : Nat) r, rs[k]? = some r → w.cell? ⟨b, o + k * 5, none⟩ = some (.int .i64 r.id) := by
  obtain ⟨b, o, h1, h2⟩ := h.at_
  exact ⟨b, o, (h1 hne).1, (h1 hne).2, fun k r hk => (h2 k r hk).1⟩
def dropT (T : List PT) (id : Int) : List PT := T.filter fun t => !(t.1.id == id)
theorem dropT_map (T : List PT) (id : Int) : (dropT T id).map (·.1) = drop (T.map (·.1)) id := by
  unfold dropT drop
  rw [List.filter_map]
  rfl
theorem dropT_take {T : List PT} {k : Nat} {t : PT} (id : Int) (h : T[k]? = some t) : dropT (T.take (k + 1)) id = dropT (T.take k) id ++ (if (t.1.id == id) = true then [] else [t]) := by
  unfold dropT
  rw [take_snoc h, List.filter_append]
  congr 1
  by_cases hp : (t.1.id == id) = true <;> simp [hp]
end Ix

set_option maxHeartbeats 1600000 in
theorem r20_known_c (T : List Ix.PT) (a : Option Addr) (c : Nat) (id : Int) (w : World) (h : Br.FA Ix.encP 4 w a c T) (hn : T.length ≤ 1000000000) :
    Calls Tryz.prog 63 #[.agg #[.slice a T.length c], .int .i64 id] w fun e w' => e = .returned (.bool (Ix.known (T.map (·.1)) id)) ∧ Below w.heap.size w w' := by
  have hcap := h.cap
  obtain ⟨W, hW⟩ : ∃ W, w.alloc (.cells #[.slice a T.length c] 34) = W := ⟨_, rfl⟩
  have hB : Below w.heap.size w W := by rw [← hW]; exact Tx.newb _ _
  have c0 : W.cell? ⟨w.heap.size, 0, none⟩ = some (.slice a T.length c) := by rw [← hW]; simp
  have HS := Lib.hid (h.below hB); clear h
  rw [Ix.known_map]
  go_enter Tryz.func63, Tryz.ntmps63
  go_wp2
  clear hW
  go_loop [5] (fun i => ∃ (k : Nat), k ≤ T.length ∧ i = .int .i64 k ∧ Hid ((T.drop k).any (fun t => t.1.id == id) = T.any (fun t => t.1.id == id))) (fun i => T.length - (intOf i).toNat)
  case atStart => exact ⟨0, Nat.zero_le _, rfl, Lib.hid rfl⟩
  case round =>
    obtain ⟨k, hk, rfl, hE⟩ := hrel
    by_cases hlt : k < T.length
    · obtain ⟨y, hy⟩ : ∃ y, T[k]? = some y := ⟨_, List.getElem?_eq_getElem hlt⟩
      have hdr := hE.out
      rw [Ix.drop_cons hy, List.any_cons] at hdr
      obtain ⟨b, o, rfl, hbl, hcs⟩ := HS.out.get hy
      have f0 := hcs 0 _ rfl
      have f1 := hcs 1 _ rfl
      have f2 := hcs 2 _ rfl
      have f3 := hcs 3 _ rfl
      rw [Nat.add_zero] at f0
      clear hcs
      cases hq : (y.1.id == id) with
      | true =>
        rw [hq, Bool.true_or] at hdr
        have HN := Lib.hid hdr; clear hdr hE hy
        go_wp2
        go_ret
        exact ⟨by rw [← HN.out]; rfl, hB⟩
      | false =>
        rw [hq, Bool.false_or] at hdr
        have HN := Lib.hid hdr; clear hdr hE hy
        go_wp2
        go_round
        case rel => exact ⟨k + 1, hlt, by go_num, HN⟩
        case measure => simp [intOf]; omega
    · obtain rfl : k = T.length := by omega
      have hN := hE.out
      rw [List.drop_length] at hN
      have HN := Lib.hid hN; clear hN hE
      go_wp2
      go_ret
      exact ⟨by rw [← HN.out]; rfl, hB⟩

set_option maxHeartbeats 1600000 in
theorem r20_met_c (rs : List Rc.Rd) (a : Option Addr) (c : Nat) (i : Nat) (r : Rc.Rd) (w : World) (h : Rc.RdA w a c rs) (hn : rs.length ≤ 1000000000) (hr : rs[i]? = some r) :
    Calls Tryz.prog 50 #[.slice a rs.length c, .int .i64 i] w fun e w' => e = .returned (.bool (Ix.met rs i r)) ∧ Below w.heap.size w w' := by
  have hcap := h.cap
  have hil := (List.getElem?_eq_some_iff.1 hr).1
  obtain ⟨b, o, rfl, hbl, hat⟩ := Ix.RdA.ids h (by intro e; rw [e] at hr; simp at hr)
  have HS := Lib.hid hat
  have f0 := hat i r hr
  clear h hat hr
  have hi2 : (i : Int) < (rs.length : Int) := by omega
  have hi0 : (0 : Int) ≤ (i : Int) := by omega
  go_enter Tryz.func50, Tryz.ntmps50
  go_wp2
  go_loopw [5] (fun v wr => ∃ (k : Nat), k ≤ i ∧ v = .int .i64 k ∧ Hid (((rs.take i).drop k).any (fun q => q.id == r.id) = Ix.met rs i r) ∧ Below w.heap.size w wr) (fun v _ => i - (intOf v).toNat)
  case atStart => exact ⟨0, Nat.zero_le _, rfl, Lib.hid rfl, Below.refl _ _⟩
  case round =>
    obtain ⟨k, hk, rfl, hE, hb⟩ := hrel
    replace f0 := cell_later hb f0
    by_cases hlt : k < i
    · obtain ⟨q, hq⟩ : ∃ q, rs[k]? = some q := ⟨_, List.getElem?_eq_getElem (by omega)⟩
      have hd := hE.out
      rw [Ix.drop_cons (x := q) (by rw [List.getElem?_take_of_lt hlt]; exact hq), List.any_cons] at hd
      have e0 := cell_later hb (HS.out k q hq)
      have hk2 : (k : Int) < (rs.length : Int) := by omega
      have hk0 : (0 : Int) ≤ (k : Int) := by omega
      cases hc : (q.id == r.id) with
      | true =>
        rw [hc, Bool.true_or] at hd
        have HN := Lib.hid hd; clear hd hE hq
        go_wp2
        go_quiet (fail)
        go_wp2
        go_ret
        exact ⟨by rw [← HN.out]; rfl, Tx.step hb (Tx.below_drewN (Below.refl wr.heap.size wr) nq)⟩
      | false =>
        rw [hc, Bool.false_or] at hd
        have HN := Lib.hid hd; clear hd hE hq
        go_wp2
        go_quiet (fail)
        go_wp2
        go_roundw
        case rel => exact ⟨k + 1, hlt, by go_num, HN, Tx.step hb (Tx.below_drewN (Below.refl wr.heap.size wr) nq)⟩
        case measure => simp [intOf]; omega
    · obtain rfl : k = i := by omega
      have hN := hE.out
      rw [List.drop_eq_nil_of_le (by rw [List.length_take]; omega)] at hN
      have HN := Lib.hid hN; clear hN hE
      go_wp2
      go_ret
      exact ⟨by rw [← HN.out]; rfl, hb⟩

set_option maxHeartbeats 1600000 in
theorem r20_Drop_c (T : List Ix.PT) (a : Option Addr) (c : Nat) (id : Int) (w : World) (h : Ix.PsA w a c T) (hn : T.length ≤ 1000000000) :
    Calls Tryz.prog 32 #[.agg #[.slice a T.length c], .int .i64 id] w fun e w' => ∃ a' c', e = .returned (.agg #[.slice a' (Ix.dropT T id).length c']) ∧ Ix.PsA w' a' c' (Ix.dropT T id) ∧ Below w.heap.size w w' := by
  obtain ⟨i0, hi0, hz0, hz1, hz2⟩ := info_parts info_post
  have HI := Lib.hid hi0; clear hi0
  have hcap := h.fa.cap
  obtain ⟨W, hW⟩ : ∃ W, (w.alloc (.cells #[.slice a T.length c] 34)).alloc (.cells #[.slice none 0 0] 34) = W := ⟨_, rfl⟩
  have hB : Below w.heap.size w W := by rw [← hW]; exact (Tx.newb _ _).alloc (by simp) _
  have c0 : W.cell? ⟨w.heap.size, 0, none⟩ = some (.slice a T.length c) := by rw [← hW]; simp
  have KR : Hid (W.heap[w.heap.size + 1]? = some (.cells #[.slice none 0 0] 34 (0, 0))) := Lib.hid (by rw [← hW]; simpa using heap_alloc_new (w.alloc (.cells #[.slice a T.length c] 34)) _)
  have HA := Lib.hid h.ats
  have HS := Lib.hid (h.fa.below hB); clear h
  have hbB := hB.size
  have hsW : W.heap.size = w.heap.size + 2 := by rw [← hW]; simp
  go_enter Tryz.func32, Tryz.ntmps32
  go_wp2
  clear hW
  go_loopw [5, 6] (fun v i wr => ∃ (k : Nat), k ≤ T.length ∧ i = .int .i64 k ∧ Ix.OwnP wr W.heap.size v (Ix.dropT (T.take k) id) ∧ Below W.heap.size W wr) (fun _ i _ => T.length - (intOf i).toNat)
  case atStart => exact ⟨0, Nat.zero_le _, rfl, World.ownsRow_nil _ _ _ _, Below.refl _ _⟩
  case round =>
    obtain ⟨k, hk, rfl, hown, hb⟩ := hrel
    have hbs := hb.size
    replace c0 := cell_later hb c0
    by_cases hlt : k < T.length
    · obtain ⟨y, hy⟩ : ∃ y, T[k]? = some y := ⟨_, List.getElem?_eq_getElem hlt⟩
      have hdt := Ix.dropT_take id hy
      have HK : Hid ((Ix.dropT (T.take k) id).length ≤ 1000000000) := Lib.hid (Nat.le_trans (List.length_filter_le _ _) (by rw [List.length_take]; omega))
      obtain ⟨b, o, rfl, hbl, hcs⟩ := HS.out.get hy
      have f0 := hcs 0 _ rfl
      have f1 := hcs 1 _ rfl
      have f2 := hcs 2 _ rfl
      have f3 := hcs 3 _ rfl
      rw [Nat.add_zero] at f0
      clear hcs
      have e0 := cell_later hb f0
      have e1 := cell_later hb f1
      have e2 := cell_later hb f2
      have e3 := cell_later hb f3
      cases hq : (y.1.id == id) with
      | true =>
        rw [if_pos hq, List.append_nil] at hdt
        have HD := Lib.hid hdt
        have hq2 : (y.1.id != id) = false := by simpa using hq
        clear hdt hy hq
        go_wp2
        go_roundw
        case rel => exact ⟨k + 1, hlt, by go_num, by rw [HD.out]; exact hown, hb⟩
        case measure => simp [intOf]; omega
      | false =>
        rw [if_neg (by rw [hq]; decide)] at hdt
        have HD := Lib.hid hdt
        have hq2 : (y.1.id != id) = true := by simpa using hq
        clear hdt hy hq
        obtain ⟨L, hL⟩ : ∃ L, Ix.dropT (T.take k) id = L := ⟨_, rfl⟩
        rw [hL] at hown HD HK
        clear hL
        go_wp2_with (at_builtin; go_must (refine wpList_append_sl rfl _ _ 32 rfl W.heap.size 52 i0 _ 4 56 Tryz.underlying32 HI.out hz0 hz1 hz2 rfl (by decide) _ (L.length) _ rfl (hown.alloc _) (some ⟨_, 0, none⟩) 1 1 (Ix.encP y) rfl rfl (fun h9 => by cases h9) (fun ad had => by cases had; exact Br.cells_new_at _ _ (by first | rfl | simp) #[.int .i64 y.1.fld, .string ⟨y.1.word.toArray⟩, .int .i64 y.1.id, .slice y.2.1 y.1.at_.length y.2.2] _) (Ix.p_one y) (by unfold maxLen; have := HK.out; omega) (by have := HK.out; omega) (by simp; omega) ?_); intro v7 w7 hown7 hg7 hnil7)
        go_roundw
        case rel => exact ⟨k + 1, hlt, by go_num, by rw [HD.out]; exact Ix.own_snoc hown7, (hb.alloc hbs _).grown hg7 (by simp; omega) (fun j hj => (hown.lt j hj).1)⟩
        case measure => simp [intOf]; omega
    · obtain rfl : k = T.length := by omega
      rw [List.take_length] at hown
      have HB2 := Lib.hid (Tx.step hB hb)
      have HA2 : Hid (Ix.Ats wr (Ix.dropT T id)) := Lib.hid (fun t ht => (HA.out t (List.mem_filter.1 ht).1).below HB2.out)
      obtain ⟨va, vc, rfl, hps, hvg⟩ := Ix.OwnP.ps hown HA2.out
      have HP := Lib.hid hps; clear hps hown
      obtain ⟨rc, rf, rl⟩ := Tx.blk (Tx.blk_later KR.out hb)
      go_wp2
      refine bodyPost_ret (v := .agg #[.slice va (Ix.dropT T id).length vc]) (by simp [results, Tryz.results32, go_sem, rc]) rfl ⟨va, vc, rfl, ?_, ?_⟩
      · exact ⟨HP.out.fa.set (fun _ g hg => by have := hvg g hg; omega) _ _, fun t ht => (HA.out t (List.mem_filter.1 ht).1).below (HB2.out.setCell (by simp) _)⟩
      · exact HB2.out.setCell (by simp) _

end Go.Proofs.YtcjalpegffldaaaGreatDoor

/- The reference's Add: what the call returns. -/
namespace Go.Proofs.YtcjalpegffldaaaGreatDoor
open Go.RowKit
set_option maxRecDepth 100000

theorem SLA.agree {w w' : World} {a : Option Addr} {c : Nat} {xs : List ByteArray} (h : SLA w a c xs) (hs : w.heap.size ≤ w'.heap.size) (hg : xs ≠ [] → ∀ g, a = some g → w'.heap[g.block]? = w.heap[g.block]?) : SLA w' a c xs := by
  obtain ⟨b, o, h1, h2⟩ := h.at_
  refine ⟨h.cap, h.max, b, o, fun hn => ⟨(h1 hn).1, Nat.lt_of_lt_of_le (h1 hn).2 hs⟩, fun j x hx => ?_⟩
  have hne : xs ≠ [] := by intro e; subst e; simp at hx
  have hb := hg hne ⟨b, o, Option.none⟩ (h1 hne).1
  exact (World.cell?_of_block (a := ⟨b, o + j, Option.none⟩) hb).trans (h2 j x hx)
theorem SLA.set {w : World} {a : Option Addr} {c : Nat} {xs : List ByteArray} (h : SLA w a c xs) {X : Nat} (hX : xs ≠ [] → ∀ g, a = some g → g.block ≠ X) (i : Nat) (v : Value) : SLA (w.setCell ⟨X, i, Option.none⟩ v) a c xs :=
  h.agree (by rw [Br.size_set]; exact Nat.le_refl _) (fun hn g hg => Below.heap_setCell w ⟨X, i, Option.none⟩ v g.block (hX hn g hg))
theorem SLA.row {w : World} {a : Option Addr} {c : Nat} {xs : List ByteArray} (h : SLA w a c xs) (hne : xs ≠ []) : ∃ b o, a = some ⟨b, o, Option.none⟩ ∧ b < w.heap.size ∧ ∀ (j : Nat) x, xs[j]? = some x → w.cell? ⟨b, o + j, Option.none⟩ = some (.string x) := by
  obtain ⟨b, o, h1, h2⟩ := h.at_
  exact ⟨b, o, (h1 hne).1, (h1 hne).2, h2⟩

theorem hp_alloc_lt {w : World} {k : Nat} (hk : k < w.heap.size) (o : Obj) : (w.alloc o).heap[k]? = w.heap[k]? := Below.heap_alloc w o k hk
namespace Ix
open Rc
def postsTo (r : Rd) : Nat → List Post
  | 0 => []
  | k + 1 => postsTo r k ++ fposts k r.id (terms r.fields k)
theorem posts_to (r : Rd) : postsTo r 5 = posts r := by
  unfold posts
  simp only [postsTo, List.nil_append, List.append_assoc]
  rfl
/-- No slice of the posts lies in this block. -/
def Far (T : List PT) (a : Option Addr) (Y : Nat) : Prop := (T ≠ [] → ∀ g, a = some g → g.block ≠ Y) ∧ ∀ t ∈ T, t.1.at_ ≠ [] → ∀ g, t.2.1 = some g → g.block ≠ Y
theorem PsA.set {w : World} {a : Option Addr} {c : Nat} {T : List PT} (h : PsA w a c T) {X : Nat} (hX : Far T a X) (i : Nat) (v : Value) : PsA (w.setCell ⟨X, i, none⟩ v) a c T :=
  ⟨h.fa.set hX.1 i v, fun t ht => (h.ats t ht).set (hX.2 t ht) i v⟩
theorem PsA.far {w : World} {a : Option Addr} {c : Nat} {T : List PT} (h : PsA w a c T) {Y : Nat} (hY : w.heap.size ≤ Y) : Far T a Y :=
  ⟨fun hn g hg => by have := h.fa.lt hn g hg; omega, fun t ht hn g hg => by have := (h.ats t ht).lt hn g hg; omega⟩
/-- Where Add stands: the index so far in its own variable. -/
structure AddS (w : World) (T : List PT) (a : Option Addr) (rec : Array Value) (wr : World) (T' : List PT) (a' : Option Addr) (c' : Nat) : Prop where
  hb : Below w.heap.size w wr
  kx : wr.heap[w.heap.size]? = some (.cells #[.slice a' T'.length c'] 34 (0, 0))
  kr : wr.heap[w.heap.size + 1]? = some (.cells rec 24 (0, 0))
  k4 : wr.heap[w.heap.size + 1 + 1]? = some (.cells #[.slice none 0 0] 34 (0, 0))
  ps : PsA wr a' c' T'
  far : ∀ Y, Y < w.heap.size + 3 → (Y < w.heap.size → Far T a Y) → Far T' a' Y
theorem AddS.below {w wr w' : World} {T T' : List PT} {a a' : Option Addr} {c' : Nat} {rec : Array Value} (h : AddS w T a rec wr T' a' c') (hb : Below wr.heap.size wr w') : AddS w T a rec w' T' a' c' :=
  ⟨Tx.step h.hb hb, Tx.blk_later h.kx hb, Tx.blk_later h.kr hb, Tx.blk_later h.k4 hb, h.ps.below hb, h.far⟩
theorem AddS.size {w wr : World} {T T' : List PT} {a a' : Option Addr} {c' : Nat} {rec : Array Value} (h : AddS w T a rec wr T' a' c') : w.heap.size + 2 < wr.heap.size := (Array.getElem?_eq_some_iff.1 h.k4).1
theorem AddS.put {w wr w' : World} {T T' : List PT} {a a' va : Option Addr} {c' vc B : Nat} {rec : Array Value} {t : PT} (h : AddS w T a rec wr T' a' c') (hb : Below wr.heap.size wr w')
    (hB : w.heap.size + 3 ≤ B) (hown : PsA w' va vc (insT T' t)) (hva : ∀ g, va = some g → B ≤ g.block) (ht : ∀ g, t.2.1 = some g → w.heap.size + 3 ≤ g.block) : AddS w T a rec (w'.setCell ⟨w.heap.size, 0, none⟩ (.slice va (insT T' t).length vc)) (insT T' t) va vc := by
  have h' := h.below hb
  have hfar : ∀ Y, Y < w.heap.size + 3 → (Y < w.heap.size → Far T a Y) → Far (insT T' t) va Y := fun Y hY hh => by
    refine ⟨fun _ g hg => by have := hva g hg; omega, fun x hx hn g hg => ?_⟩
    rcases insT_mem hx with e | hx
    · subst e; have := ht g hg; omega
    · exact (h.far Y hY hh).2 x hx hn g hg
  have hs : ∀ k, k ≠ w.heap.size → (w'.setCell ⟨w.heap.size, 0, none⟩ (.slice va (insT T' t).length vc)).heap[k]? = w'.heap[k]? := fun k hk => Below.heap_setCell w' ⟨w.heap.size, 0, none⟩ _ k hk
  refine ⟨h'.hb.setCell (by simp) _, ?_, (hs _ (by omega)).trans h'.kr, (hs _ (by omega)).trans h'.k4, ?_, hfar⟩
  · have := h'.kx
    simp [World.setCell, Array.getElem?_modify, this]
  · exact hown.set (hfar _ (by omega) (fun h9 => absurd h9 (Nat.lt_irrefl _))) 0 _
theorem Ats.ins {w : World} {T : List PT} {t : PT} (h : Ats w T) (ht : IA w t.2.1 t.2.2 t.1.at_) : Ats w (insT T t) := fun x hx => by
  rcases insT_mem hx with e | hx
  · rw [e]; exact ht
  · exact h x hx
theorem fold_snoc (x ps : List Post) (p : Post) : (ps ++ [p]).foldl ins x = ins (ps.foldl ins x) p := by
  rw [List.foldl_append]
  rfl
end Ix

set_option maxHeartbeats 6400000 in
theorem r20_Add_c (T : List Ix.PT) (a : Option Addr) (c : Nat) (r : Rc.Rd) (ra : Option Addr) (rc : Nat) (w : World) (h : Ix.PsA w a c T) (hn : T.length ≤ 100000000) (hr : Rc.FldA w ra rc r.fields) (hM : Ix.Mod r.fields) :
    Calls Tryz.prog 30 #[.agg #[.slice a T.length c], .agg #[.int .i64 r.id, .int .i64 r.ver, .int .i64 r.kind, .string r.lang, .slice ra r.fields.length rc]] w fun e w' => (∃ a' c' T', e = .returned (.agg #[.slice a' (List.length T') c']) ∧ Ix.PsA w' a' c' T' ∧ T'.map (·.1) = Ix.add (T.map (·.1)) r ∧ T'.length ≤ T.length + 1000000 ∧ (∀ Y, Y < w.heap.size → Ix.Far T a Y → Ix.Far T' a' Y) ∧ Below w.heap.size w w') := by
  obtain ⟨i0, hi0, hz0, hz1, hz2⟩ := info_parts info_int
  have HI := Lib.hid hi0; clear hi0
  obtain ⟨W, hW⟩ : ∃ W, ((w.alloc (.cells #[.slice a T.length c] 34)).alloc (.cells #[.int .i64 r.id, .int .i64 r.ver, .int .i64 r.kind, .string r.lang, .slice ra r.fields.length rc] 24)).alloc (.cells #[.slice none 0 0] 34) = W := ⟨_, rfl⟩
  have hB : Below w.heap.size w W := by rw [← hW]; exact ((Tx.newb _ _).alloc (by simp) _).alloc (by simp; omega) _
  have hsW : W.heap.size = w.heap.size + 3 := by rw [← hW]; simp
  have hS : Ix.AddS w T a #[.int .i64 r.id, .int .i64 r.ver, .int .i64 r.kind, .string r.lang, .slice ra r.fields.length rc] W T a c := by
    refine ⟨hB, ?_, ?_, ?_, h.below hB, fun Y hY hh => ?_⟩
    · rw [← hW]; exact (hp_alloc_lt (by simp; omega) _).trans ((hp_alloc_lt (by simp) _).trans (heap_alloc_new w _))
    · rw [← hW]; exact (hp_alloc_lt (by simp) _).trans (by simpa using heap_alloc_new (w.alloc (.cells #[.slice a T.length c] 34)) (.cells #[.int .i64 r.id, .int .i64 r.ver, .int .i64 r.kind, .string r.lang, .slice ra r.fields.length rc] 24))
    · rw [← hW]; simpa using heap_alloc_new ((w.alloc (.cells #[.slice a T.length c] 34)).alloc (.cells #[.int .i64 r.id, .int .i64 r.ver, .int .i64 r.kind, .string r.lang, .slice ra r.fields.length rc] 24)) (.cells #[.slice none 0 0] 34)
    · rcases Nat.lt_or_ge Y w.heap.size with h1 | h1
      · exact hh h1
      · exact h.far h1
  obtain ⟨x0, hx0⟩ : ∃ x0, T.map (·.1) = x0 := ⟨_, rfl⟩
  have HX := Lib.hid hx0
  rw [hx0]
  clear hx0
  have c0 : W.cell? ⟨w.heap.size, 0, none⟩ = some (.slice a T.length c) := (Tx.blk hS.kx).1 0
  have c4 : W.cell? ⟨w.heap.size + 1, 0, none⟩ = some (.int .i64 r.id) := (Tx.blk hS.kr).1 0
  obtain ⟨kc, kf, kl⟩ := Tx.blk hS.k4
  by_cases hid : r.id < 1
  · have HA : Hid (Ix.add x0 r = x0) := Lib.hid (by unfold Ix.add; rw [if_pos (.inl hid)])
    have hd : decide (r.id < 1) = true := by simpa using hid
    clear hid
    go_enter Tryz.func30, Tryz.ntmps30
    go_wp2
    refine bodyPost_ret (v := .agg #[.slice a T.length c]) (by simp [results, Tryz.results30, go_sem, kc]) rfl ⟨a, c, T, rfl, ?_, by rw [HA.out, HX.out], by omega, fun Y _ hf => hf, ?_⟩
    · exact hS.ps.set (h.far (by omega)) _ _
    · exact hB.setCell (by simp; omega) _
  cases hkn : Ix.known x0 r.id with
  | true =>
    have HA : Hid (Ix.add x0 r = x0) := Lib.hid (by unfold Ix.add; rw [if_pos (.inr hkn)])
    have HK := Lib.hid hkn; clear hkn
    have hd : decide (r.id < 1) = false := by simpa using hid
    have hid2 : 1 ≤ r.id := by omega
    clear hid
    have CK : Hid (∀ w', Below W.heap.size W w' → Calls Tryz.prog 63 #[.agg #[.slice a T.length c], .int .i64 r.id] w' fun e w'' => e = .returned (.bool true) ∧ Below w'.heap.size w' w'') := Lib.hid (fun w' hb => by
      have h9 := r20_known_c T a c r.id w' (hS.below hb).ps.fa (by omega)
      rw [HX.out, HK.out] at h9
      exact h9)
    go_enter Tryz.func30, Tryz.ntmps30
    go_wp2_with (go_at_call 63; ((with_reducible refine (CK.out _ (Below.refl _ _)).mono ?_); rintro e w1 ⟨rfl, hb1⟩; have hS1 := hS.below hb1; have d0 := cell_later hb1 c0; have d4 := cell_later hb1 c4; obtain ⟨kc, kf, kl⟩ := Tx.blk hS1.k4))
    refine bodyPost_ret (v := .agg #[.slice a T.length c]) (by simp [results, Tryz.results30, go_sem, kc]) rfl ⟨a, c, T, rfl, ?_, by rw [HA.out, HX.out], by omega, fun Y _ hf => hf, ?_⟩
    · exact hS1.ps.set (h.far (by omega)) _ _
    · exact hS1.hb.setCell (by simp; omega) _
  | false =>
    have HA : Hid (Ix.add x0 r = (Ix.postsTo r 5).foldl Ix.ins x0) := Lib.hid (by unfold Ix.add; rw [if_neg (by rintro (h | h); omega; rw [hkn] at h; cases h), Ix.posts_to])
    have HK := Lib.hid hkn; clear hkn
    have hd : decide (r.id < 1) = false := by simpa using hid
    have hid2 : 1 ≤ r.id := by omega
    clear hid
    have CK : Hid (∀ w', Below W.heap.size W w' → Calls Tryz.prog 63 #[.agg #[.slice a T.length c], .int .i64 r.id] w' fun e w'' => e = .returned (.bool false) ∧ Below w'.heap.size w' w'') := Lib.hid (fun w' hb => by
      have h9 := r20_known_c T a c r.id w' (hS.below hb).ps.fa (by omega)
      rw [HX.out, HK.out] at h9
      exact h9)
    go_enter Tryz.func30, Tryz.ntmps30
    go_wp2_with (go_at_call 63; ((with_reducible refine (CK.out _ (Below.refl _ _)).mono ?_); rintro e w1 ⟨rfl, hb1⟩; have hS1 := hS.below hb1; have d0 := cell_later hb1 c0; have d4 := cell_later hb1 c4; obtain ⟨kc, kf, kl⟩ := Tx.blk hS1.k4))
    clear hW
    go_loopw [5] (fun f wr => ∃ (k : Nat) (T' : List Ix.PT) (a' : Option Addr) (c' : Nat), k ≤ 5 ∧ f = .int .i64 k ∧ Ix.AddS w T a #[.int .i64 r.id, .int .i64 r.ver, .int .i64 r.kind, .string r.lang, .slice ra r.fields.length rc] wr T' a' c' ∧ Hid (T'.map (·.1) = (Ix.postsTo r k).foldl Ix.ins x0) ∧ T'.length ≤ T.length + k * 200000) (fun f _ => 5 - (intOf f).toNat)
    case atStart => exact ⟨0, T, a, c, by omega, by go_num, hS1, HX, by omega⟩
    case round =>
      obtain ⟨k, T', a', c', hk, rfl, hS', hE, hTl⟩ := hrel
      have hss := hS'.size
      have e0 : wr.cell? ⟨w.heap.size + 1, 0, none⟩ = some (.int .i64 r.id) := (Tx.blk hS'.kr).1 0
      have e1 : wr.cell? ⟨w.heap.size + 1, 1, none⟩ = some (.int .i64 r.ver) := (Tx.blk hS'.kr).1 1
      have e2 : wr.cell? ⟨w.heap.size + 1, 2, none⟩ = some (.int .i64 r.kind) := (Tx.blk hS'.kr).1 2
      have e3 : wr.cell? ⟨w.heap.size + 1, 3, none⟩ = some (.string r.lang) := (Tx.blk hS'.kr).1 3
      have e4 : wr.cell? ⟨w.heap.size + 1, 4, none⟩ = some (.slice ra r.fields.length rc) := (Tx.blk hS'.kr).1 4
      by_cases hlt : k < 5
      · obtain ⟨ts, hts⟩ : ∃ ts, Ix.terms r.fields (k : Int) = ts := ⟨_, rfl⟩
        have htl := Ix.terms_len hM (k : Int)
        rw [hts] at htl
        have hk4 : (k : Int) ≤ 4 := by omega
        have hpt : Ix.postsTo r (k + 1) = Ix.postsTo r k ++ (Ix.firsts ts).map (Ix.mkp k r.id ts) := by rw [Ix.postsTo, hts]; rfl
        have HPT := Lib.hid hpt; clear hpt
        have CT : Hid (Calls Tryz.prog 13 #[.agg #[.int .i64 r.id, .int .i64 r.ver, .int .i64 r.kind, .string r.lang, .slice ra r.fields.length rc], .int .i64 (k : Int)] wr fun e w' => ∃ v, e = .returned v ∧ Ix.OwnT w' wr.heap.size v ts ∧ Below wr.heap.size wr w') := Lib.hid (by
          have h9 := r20_Terms_c r.fields ra rc r.id r.ver r.kind r.lang (k : Int) wr (hr.below hS'.hb) hM
          rw [hts] at h9
          exact h9)
        have HTS := Lib.hid hts; clear hts
        go_wp2_with (go_at_call 13; ((with_reducible refine CT.out.mono ?_); rintro e w2 ⟨v2, rfl, hown2, hb2⟩; obtain ⟨ta, tc, rfl, hs2⟩ := Ix.own_sla hown2; have HS2 := Lib.hid hs2; have hta : ∀ g, ta = some g → w.heap.size + 3 ≤ g.block := (fun g hg => by subst hg; have := (hown2.lt _ rfl).1; omega); clear hs2 hown2))
        have htcap := HS2.out.cap
        rw [List.length_map] at htcap
        have hS2 := hS'.below hb2
        clear e0 e1 e2 e3 e4 CT
        go_loopw [7] (fun i wr => ∃ (j : Nat) (T2 : List Ix.PT) (a2 : Option Addr) (c2 : Nat), j ≤ ts.length ∧ i = .int .i64 j ∧ Ix.AddS w T a #[.int .i64 r.id, .int .i64 r.ver, .int .i64 r.kind, .string r.lang, .slice ra r.fields.length rc] wr T2 a2 c2 ∧ Hid (T2.map (·.1) = (Ix.postsTo r k ++ (Ix.firsts (ts.take j)).map (Ix.mkp k r.id ts)).foldl Ix.ins x0) ∧ T2.length ≤ T.length + k * 200000 + j ∧ Hid (SLA wr ta tc (ts.map fun x => (⟨x.toArray⟩ : ByteArray)))) (fun i _ => ts.length - (intOf i).toNat)
        case atStart => exact ⟨0, T', a', c', by omega, by go_num, hS2, Lib.hid (by rw [List.take_zero]; show _ = (Ix.postsTo r k ++ []).foldl Ix.ins x0; rw [List.append_nil]; exact hE.out), by omega, HS2⟩
        case round =>
          obtain ⟨j, T2, a2, c2, hj, rfl, hS3, hE3, hTl3, hSL⟩ := hrel
          obtain ⟨wm, hwm⟩ : ∃ wm, wm = wr := ⟨_, rfl⟩
          subst hwm
          have hms := hS3.size
          by_cases hlt2 : j < ts.length
          · obtain ⟨x, hx⟩ : ∃ x, ts[j]? = some x := ⟨_, List.getElem?_eq_getElem hlt2⟩
            obtain ⟨tb, to_, rfl, htb, hat⟩ := hSL.out.row (by intro e; rw [List.map_eq_nil_iff] at e; rw [e] at hlt2; simp at hlt2)
            have HAT := Lib.hid hat
            have fj : wm.cell? ⟨tb, to_ + j, none⟩ = some (.string ⟨x.toArray⟩) := hat j _ (by rw [List.getElem?_map, hx]; rfl)
            have hjn : (j : Int) < (ts.length : Int) := by omega
            have hj0 : (0 : Int) ≤ (j : Int) := by omega
            have hbm := Below.refl wm.heap.size wm
            clear hat
            have HXJ := Lib.hid hx; clear hx
            go_wp2
            go_loopw [8, 9] (fun v i wr => ∃ (m : Nat), m ≤ ts.length ∧ i = .int .i64 m ∧ wr.ownsRow wm.heap.size 3 1 v (Ix.places (ts.take m) x).length ((Ix.places (ts.take m) x).map (Value.int .i64)) ∧ Below wm.heap.size wm wr) (fun _ i _ => ts.length - (intOf i).toNat)
            case atStart => exact ⟨0, Nat.zero_le _, rfl, World.ownsRow_nil _ _ _ _, Below.refl _ _⟩
            case round =>
              obtain ⟨m, hm, rfl, hown, hb⟩ := hrel
              have hbs := hb.size
              replace fj := cell_later hb fj
              by_cases hlt3 : m < ts.length
              · obtain ⟨y, hy⟩ : ∃ y, ts[m]? = some y := ⟨_, List.getElem?_eq_getElem hlt3⟩
                have fm : wr.cell? ⟨tb, to_ + m, none⟩ = some (.string ⟨y.toArray⟩) := cell_later hb (HAT.out m _ (by rw [List.getElem?_map, hy]; rfl))
                have hmn : (m : Int) < (ts.length : Int) := by omega
                have hm0 : (0 : Int) ≤ (m : Int) := by omega
                have hpl := Ix.places_take x hy
                have hll := Ix.places_len (ts.take m) x
                rw [List.length_take] at hll
                obtain ⟨P, hP⟩ : ∃ P, Ix.places (ts.take m) x = P := ⟨_, rfl⟩
                rw [hP] at hown hpl hll
                have HK : Hid (P.length ≤ 200000) := Lib.hid (by omega)
                clear hP hll hy
                cases hq : (y == x) with
                | true =>
                  rw [if_pos (by simpa using hq)] at hpl
                  have HPL := Lib.hid hpl; clear hpl
                  go_wp2
                  go_quiet (fail)
                  have hbq := Tx.below_drewN (Below.refl wr.heap.size wr) nq
                  have hown3 := own_below hown hbq
                  have hb3 := Tx.step hb hbq
                  have hb3s := hb3.size
                  clear hbq
                  generalize wr.drewN nq = w3 at *
                  go_wp2_with (at_builtin; go_must (refine wpList_append_sl rfl _ _ 41 rfl wm.heap.size 3 i0 _ 1 8 Tryz.underlying41 HI.out hz0 hz1 hz2 rfl (by decide) _ (P.length) _ rfl (hown3.alloc _) (some ⟨_, 0, none⟩) 1 1 [.int .i64 (m : Int)] rfl rfl (fun h9 => by cases h9) (fun ad had => by cases had; exact Br.cells_new_at _ _ (by first | rfl | simp) _ _) (by simp [Value.oneCell']) (by unfold maxLen; have := HK.out; omega) (by have := HK.out; omega) (by simp; omega) ?_); intro v7 w7 hown7 hg7 hnil7)
                  go_roundw
                  case rel => exact ⟨m + 1, hlt3, by go_num, by rw [HPL.out, List.length_append, List.map_append]; exact hown7, (hb3.alloc hb3s _).grown hg7 (by simp; omega) (fun j hj => (hown3.lt j hj).1)⟩
                  case measure => simp [intOf]; omega
                | false =>
                  rw [if_neg (by simpa using hq), List.append_nil] at hpl
                  have HPL := Lib.hid hpl; clear hpl
                  go_wp2
                  go_quiet (fail)
                  have hbq := Tx.below_drewN (Below.refl wr.heap.size wr) nq
                  have hown3 := own_below hown hbq
                  have hb3 := Tx.step hb hbq
                  clear hbq
                  generalize wr.drewN nq = w3 at *
                  go_wp2
                  go_roundw
                  case rel => exact ⟨m + 1, hlt3, by go_num, by rw [HPL.out]; exact hown3, hb3⟩
                  case measure => simp [intOf]; omega
              · obtain rfl : m = ts.length := by omega
                rw [List.take_length] at hown
                obtain ⟨n0, r0, hph, hiff⟩ := Ix.places_head HXJ.out
                have hft := Ix.firsts_take HXJ.out
                obtain ⟨PL, hPL⟩ : ∃ P, Ix.places ts x = P := ⟨_, rfl⟩
                have hmk : Ix.mkp (k : Int) r.id ts x = ⟨(k : Int), x, r.id, PL⟩ := by unfold Ix.mkp; rw [hPL]
                rw [hPL] at hown hph
                have HMK := Lib.hid hmk
                clear hmk hPL
                obtain ⟨aa, ac, rfl, hIA, haa⟩ := Ix.IA.of_own hown rfl
                have hl0 : 0 < PL.length := by rw [hph]; simp
                obtain ⟨ab, ao, rfl, hab, g0⟩ := Ix.IA.cell hIA (k := 0) (x := n0) (by rw [hph]; rfl)
                rw [Nat.add_zero] at g0
                have hS4 := hS3.below hb
                have HIA := Lib.hid hIA
                have habs := haa _ rfl
                clear hIA hown hph
                by_cases hmem : x ∈ ts.take j
                · rw [if_pos hmem, List.append_nil] at hft
                  have hq0 : (n0 == (j : Int)) = false := by rw [beq_eq_false_iff_ne]; exact fun e => hiff.1 e hmem
                  have HFT := Lib.hid hft; clear hft hiff hmem haa
                  go_wp2
                  go_roundw
                  case rel => exact ⟨j + 1, T2, a2, c2, hlt2, by go_num, hS4, Lib.hid (by rw [HFT.out]; exact hE3.out), by omega, Lib.hid (hSL.out.below hb)⟩
                  case measure => simp [intOf]; omega
                · rw [if_neg hmem] at hft
                  have hq0 : (n0 == (j : Int)) = true := by rw [beq_iff_eq]; exact hiff.2 hmem
                  have HFT := Lib.hid hft; clear hft hiff hmem haa
                  have x0c := (Tx.blk hS4.kx).1 0
                  have r0c : wr.cell? ⟨w.heap.size + 1, 0, none⟩ = some (.int .i64 r.id) := (Tx.blk hS4.kr).1 0
                  have CP : Hid (∀ w', Below wr.heap.size wr w' → Calls Tryz.prog 64 #[.slice a2 T2.length c2, .agg #[.int .i64 (k : Int), .string ⟨x.toArray⟩, .int .i64 r.id, .slice (some ⟨ab, ao, none⟩) PL.length ac]] w' fun e w'' => ∃ v, e = .returned v ∧ Ix.OwnP w'' w'.heap.size v (Ix.insT T2 ((⟨(k : Int), x, r.id, PL⟩ : Ix.Post), some ⟨ab, ao, none⟩, ac)) ∧ Below w'.heap.size w' w'') := Lib.hid (fun w' hb' => r20_put_c T2 ((⟨(k : Int), x, r.id, PL⟩ : Ix.Post), some ⟨ab, ao, none⟩, ac) a2 c2 w' (hS4.below hb').ps.fa (by omega))
                  go_wp2
                  go_still_tail 11, (by kernel_rfl)
                  change wpList _ _ _ _ _ wr.drew
                  have hbq := (Below.refl wr.heap.size wr).drew
                  generalize wr.drew = wq at hbq ⊢
                  have xq := Tx.blk (hS4.below hbq).kx
                  go_wp2_with (go_at_call 64; ((with_reducible refine (CP.out _ hbq).mono ?_); rintro e w5 ⟨v5, rfl, hown5, hb5x⟩; have hb5 := Tx.step hbq hb5x; have hS5 := hS4.below hb5; have hAT : Ix.Ats w5 (Ix.insT T2 ((⟨(k : Int), x, r.id, PL⟩ : Ix.Post), some ⟨ab, ao, none⟩, ac)) := Ix.Ats.ins hS5.ps.ats (HIA.out.below hb5); obtain ⟨va, vc, rfl, hps5, hva5⟩ := Ix.OwnP.ps hown5 hAT; obtain ⟨xc, xf, xl⟩ := Tx.blk hS5.kx))
                  have hq9 := hbq.size
                  have HSL : Hid (SLA (w5.setCell ⟨w.heap.size, 0, none⟩ (.slice va (Ix.insT T2 ((⟨(k : Int), x, r.id, PL⟩ : Ix.Post), some ⟨ab, ao, none⟩, ac)).length vc)) (some ⟨tb, to_, none⟩) tc (ts.map fun x => (⟨x.toArray⟩ : ByteArray))) := Lib.hid (((hSL.out.below hb).below hb5).set (fun _ g hg => by have := hta g hg; omega) _ _)
                  have HE9 : Hid ((Ix.insT T2 ((⟨(k : Int), x, r.id, PL⟩ : Ix.Post), some ⟨ab, ao, none⟩, ac)).map (·.1) = (Ix.postsTo r k ++ (Ix.firsts (ts.take (j + 1))).map (Ix.mkp k r.id ts)).foldl Ix.ins x0) := Lib.hid (by
                    rw [Ix.insT_map, HFT.out, List.map_append, ← List.append_assoc]
                    show _ = (_ ++ [Ix.mkp k r.id ts x]).foldl Ix.ins x0
                    rw [Ix.fold_snoc, HMK.out, hE3.out])
                  have hl9 : (Ix.insT T2 ((⟨(k : Int), x, r.id, PL⟩ : Ix.Post), some ⟨ab, ao, none⟩, ac)).length ≤ T.length + k * 200000 + (j + 1) := by rw [Ix.insT_len]; omega
                  have hS9 := hS4.put (B := wq.heap.size) hb5 (by omega) hps5 hva5 (fun g hg => by injection hg with hg; subst hg; show w.heap.size + 3 ≤ ab; omega)
                  go_roundw
                  case rel => exact ⟨j + 1, _, va, vc, hlt2, by go_num, hS9, HE9, hl9, HSL⟩
                  case measure => simp [intOf]; omega
          · obtain rfl : j = ts.length := by omega
            have hN := hE3.out
            rw [List.take_length, ← HPT.out] at hN
            have HN := Lib.hid hN; clear hN hE3
            go_wp2
            go_roundw
            case rel => exact ⟨k + 1, T2, a2, c2, hlt, by go_num, hS3, HN, by omega⟩
            case measure => simp [intOf]; omega
      · obtain rfl : k = 5 := by omega
        have hN := hE.out
        rw [← HA.out] at hN
        have HN := Lib.hid hN; clear hN hE
        obtain ⟨xc, xf, xl⟩ := Tx.blk hS'.kx
        obtain ⟨kc, kf, kl⟩ := Tx.blk hS'.k4
        go_wp2
        refine bodyPost_ret (v := .agg #[.slice a' T'.length c']) (by simp [results, Tryz.results30, go_sem, kc]) rfl ⟨a', c', T', rfl, ?_, HN.out, by omega, fun Y hY hf => hS'.far Y (by omega) (fun _ => hf), ?_⟩
        · exact hS'.ps.set (hS'.far _ (by omega) (fun h9 => absurd h9 (by omega))) _ _
        · exact hS'.hb.setCell (by simp; omega) _

end Go.Proofs.YtcjalpegffldaaaGreatDoor
