/- Plain: an index made by adding records one after the other; what is found in an index that was built. -/
import Derived.Test.YtcjalpegffldaaaGreatDoorLawIxA
namespace Go.Proofs.YtcjalpegffldaaaGreatDoor
set_option maxRecDepth 100000
namespace Ix
open Rc
theorem placesF_asc (x : By) : ∀ (t : List By) (k : Nat) (m : Int), m < (k : Int) → ascF m (placesF k t x) = true
  | [], _, _, _ => rfl
  | y :: t, k, m, h => by
    unfold placesF
    split
    · rw [ascF, Bool.and_eq_true, decide_eq_true_eq]
      exact ⟨h, placesF_asc x t (k + 1) k (by omega)⟩
    · exact placesF_asc x t (k + 1) m (by omega)
theorem places_ne {t : List By} {x : By} (h : x ∈ t) : places t x ≠ [] := by
  obtain ⟨i, hi⟩ := List.getElem?_of_mem h
  obtain ⟨n, r, e, _⟩ := places_head hi
  rw [e]
  simp
theorem posts_ok {r : Rd} (h1 : 1 ≤ r.id) (hg : ∀ f ∈ r.fields, Gd f) : ∀ p ∈ posts r, okP p = true := fun p hp => by
  obtain ⟨q1, q2, q3, q4, q5⟩ := posts_mem.1 hp
  have h2 := (terms_ok hg _ _ q4).1
  have h3 := places_ne q4
  unfold okP
  rw [decide_eq_true q1, decide_eq_true q2, q3, decide_eq_true h1, q5]
  simp only [Bool.true_and, Bool.and_true, Bool.and_eq_true, Bool.not_eq_true', beq_eq_false_iff_ne]
  exact ⟨⟨h2, h3⟩, placesF_asc _ _ 0 (-1) (by decide)⟩
theorem add_perm {x : List Post} {r : Rd} (h1 : 1 ≤ r.id) (hk : known x r.id = false) : (add x r).Perm (x ++ posts r) := by
  unfold add
  rw [if_neg (by rintro (h | h); omega; rw [hk] at h; cases h)]
  exact fold_perm _ _
theorem add_same {x : List Post} {r : Rd} (h : ¬ (1 ≤ r.id ∧ known x r.id = false)) : add x r = x := by
  unfold add
  rw [if_pos]
  by_cases h1 : r.id < 1
  · exact .inl h1
  · exact .inr (by
      cases hk : known x r.id with
      | true => rfl
      | false => exact absurd ⟨by omega, hk⟩ h)
theorem add_asc {x : List Post} (hA : Asc x) (r : Rd) : Asc (add x r) := by
  by_cases h : 1 ≤ r.id ∧ known x r.id = false
  · unfold add
    rw [if_neg (by rintro (h9 | h9); omega; rw [h.2] at h9; cases h9)]
    refine fold_asc _ _ hA (ownk_app hA.own (posts_own r) fun p hp q hq e => ?_)
    have h2 := posts_id hq
    have : known x r.id = true := known_iff.2 ⟨p, hp, by rw [← h2]; exact e.2.2⟩
    rw [h.2] at this
    cases this
  · rw [add_same h]; exact hA
theorem add_mem {x : List Post} {r : Rd} {p : Post} : p ∈ add x r ↔ p ∈ x ∨ ((1 ≤ r.id ∧ known x r.id = false) ∧ p ∈ posts r) := by
  by_cases h : 1 ≤ r.id ∧ known x r.id = false
  · rw [(add_perm h.1 h.2).mem_iff, List.mem_append]
    simp [h]
  · rw [add_same h]
    simp only [h, false_and, or_false]
theorem drop_add {x : List Post} {r : Rd} (hA : Asc x) (h1 : 1 ≤ r.id) (hk : known x r.id = false) : drop (add x r) r.id = x := by
  have hA2 : Asc (drop (add x r) r.id) := (add_asc hA r).sublist List.filter_sublist
  refine asc_perm _ _ hA2 hA ?_
  unfold drop
  refine ((add_perm h1 hk).filter _).trans ?_
  rw [List.filter_append]
  have e1 : (x.filter fun p => !(p.id == r.id)) = x := by
    rw [List.filter_eq_self]
    intro p hp
    have : ¬ p.id = r.id := fun e => by
      have := known_iff.2 ⟨p, hp, e⟩
      rw [hk] at this
      cases this
    simp [this]
  have e2 : ((posts r).filter fun p => !(p.id == r.id)) = [] := by
    rw [List.filter_eq_nil_iff]
    intro p hp
    simp [posts_id hp]
  rw [e1, e2, List.append_nil]
/-! adding one after the other -/
def ys (rs : List Rd) (k : Nat) : List Post := (rs.take k).foldl add []
theorem ys_succ {rs : List Rd} {k : Nat} {r : Rd} (h : rs[k]? = some r) : ys rs (k + 1) = add (ys rs k) r := by
  unfold ys
  rw [take_snoc h, List.foldl_append]
  rfl
theorem ys_facts {rs : List Rd} (hg : ∀ r ∈ rs, ∀ f ∈ r.fields, Gd f) : ∀ k, k ≤ rs.length → Asc (ys rs k) ∧ (∀ p ∈ ys rs k, okP p = true ∧ ∃ r ∈ rs.take k, 1 ≤ r.id ∧ p.id = r.id)
  | 0, _ => ⟨List.Pairwise.nil, fun p hp => by cases hp⟩
  | k + 1, hk => by
    obtain ⟨h1, h2⟩ := ys_facts hg k (by omega)
    obtain ⟨r, hr⟩ : ∃ r, rs[k]? = some r := ⟨_, List.getElem?_eq_getElem hk⟩
    rw [ys_succ hr]
    refine ⟨add_asc h1 r, fun p hp => ?_⟩
    rw [take_snoc hr]
    rcases add_mem.1 hp with hp | ⟨⟨h3, _⟩, hp⟩
    · obtain ⟨h4, q, hq, h5⟩ := h2 p hp
      exact ⟨h4, q, List.mem_append_left _ hq, h5⟩
    · exact ⟨posts_ok h3 (hg r (List.mem_of_getElem? hr)) p hp, r, List.mem_append_right _ (by simp), h3, posts_id hp⟩
theorem ys_right {rs : List Rd} (hg : ∀ r ∈ rs, ∀ f ∈ r.fields, Gd f) {k : Nat} (hk : k ≤ rs.length) : right (ys rs k) = true :=
  right_of (ys_facts hg k hk).1 (fun p hp => ((ys_facts hg k hk).2 p hp).1)
theorem ys_unknown {rs : List Rd} (hg : ∀ r ∈ rs, ∀ f ∈ r.fields, Gd f) {k : Nat} {r : Rd} (hr : rs[k]? = some r) (hm : met rs k r = false) : known (ys rs k) r.id = false := by
  cases hk : known (ys rs k) r.id with
  | false => rfl
  | true =>
    obtain ⟨p, hp, e⟩ := known_iff.1 hk
    obtain ⟨_, q, hq, _, h2⟩ := (ys_facts hg k (Nat.le_of_lt (List.getElem?_eq_some_iff.1 hr).1)).2 p hp
    have : met rs k r = true := met_iff.2 ⟨q, hq, by rw [← h2, e]⟩
    rw [hm] at this
    cases this
theorem ys_drop {rs : List Rd} (hg : ∀ r ∈ rs, ∀ f ∈ r.fields, Gd f) {k : Nat} {r : Rd} (hr : rs[k]? = some r) (hm : met rs k r = false) (h1 : 1 ≤ r.id) : drop (ys rs (k + 1)) r.id = ys rs k := by
  rw [ys_succ hr]
  exact drop_add (ys_facts hg k (Nat.le_of_lt (List.getElem?_eq_some_iff.1 hr).1)).1 h1 (ys_unknown hg hr hm)
/-- Do the records' numbers differ? -/
def diffB (rs : List Rd) : Nat → Bool
  | 0 => true
  | k + 1 => diffB rs k && (match rs[k]? with | some r => !met rs k r | none => true)
theorem diffB_succ {rs : List Rd} {k : Nat} {r : Rd} (h : rs[k]? = some r) : diffB rs (k + 1) = (diffB rs k && !met rs k r) := by rw [diffB, h]
theorem bld_ys {rs : List Rd} : ∀ k, k ≤ rs.length → diffB rs k = true → bld rs k = ys rs k
  | 0, _, _ => rfl
  | k + 1, hk, h => by
    obtain ⟨r, hr⟩ : ∃ r, rs[k]? = some r := ⟨_, List.getElem?_eq_getElem hk⟩
    rw [diffB_succ hr, Bool.and_eq_true] at h
    have hm : met rs k r = false := by simpa using h.2
    rw [bld_succ hr, if_neg (by rw [hm]; decide), ys_succ hr, bld_ys k (by omega) h.1]
def Dist (rs : List Rd) : Prop := ∀ r ∈ rs, ∀ q ∈ rs, r.id = q.id → r = q
theorem diffB_at {rs : List Rd} : ∀ n, diffB rs n = true → ∀ k, k < n → ∀ r, rs[k]? = some r → met rs k r = false
  | 0, _, k, hk, _, _ => absurd hk (Nat.not_lt_zero _)
  | n + 1, h, k, hk, r, hr => by
    rw [diffB, Bool.and_eq_true] at h
    by_cases e : k = n
    · subst e
      rw [hr] at h
      simpa using h.2
    · exact diffB_at n h.1 k (by omega) r hr
theorem dist_of {rs : List Rd} (h : diffB rs rs.length = true) : Dist rs := by
  have key : ∀ (i j : Nat) (r q : Rd), i < j → rs[i]? = some r → rs[j]? = some q → r.id = q.id → False := fun i j r q hij hi hj e => by
    have hj2 := (List.getElem?_eq_some_iff.1 hj).1
    have h1 := diffB_at _ h j hj2 q hj
    have h2 : met rs j q = true := met_iff.2 ⟨r, by
      rw [List.mem_take_iff_getElem]
      obtain ⟨hi2, hi3⟩ := List.getElem?_eq_some_iff.1 hi
      exact ⟨i, by omega, hi3⟩, e⟩
    rw [h1] at h2
    cases h2
  intro r hr q hq e
  obtain ⟨i, hi⟩ := List.getElem?_of_mem hr
  obtain ⟨j, hj⟩ := List.getElem?_of_mem hq
  rcases Nat.lt_trichotomy i j with hij | hij | hij
  · exact (key i j r q hij hi hj e).elim
  · subst hij; rw [hi] at hj; injection hj
  · exact (key j i q r hij hj hi e.symm).elim
theorem chs_nodup (l : List Rd) : ∀ k, (chs l k).Nodup
  | 0 => List.nodup_nil
  | k + 1 => by
    cases hk : l[k]? with
    | none => rw [chs, hk]; exact chs_nodup l k
    | some r =>
      rw [chs_succ hk]
      split
      · exact chs_nodup l k
      · rename_i hn
        refine List.nodup_append.2 ⟨chs_nodup l k, by simp, fun a ha b hb e => ?_⟩
        rw [List.mem_singleton] at hb
        subst hb
        subst e
        exact hn (.inr (met_iff.2 ⟨a, (chs_mem ha).2, rfl⟩))
theorem chs_all {l : List Rd} (hd : Dist l) {r : Rd} : r ∈ chs l l.length ↔ r ∈ l ∧ 1 ≤ r.id := by
  constructor
  · intro h
    have := chs_mem h
    exact ⟨List.mem_of_mem_take this.2, this.1⟩
  · rintro ⟨h1, h2⟩
    have h3 := chs_ids (l := l) (k := l.length) (q := r) (by rw [List.take_length]; exact h1) h2
    obtain ⟨q, hq, e⟩ := List.mem_map.1 h3
    have hq2 := List.mem_of_mem_take (chs_mem hq).2
    rw [hd r h1 q hq2 e.symm]
    exact hq
theorem build_rev {rs : List Rd} (hd : Dist rs) : build rs.reverse = build rs := by
  have hd2 : Dist rs.reverse := fun r hr q hq e => hd r (List.mem_reverse.1 hr) q (List.mem_reverse.1 hq) e
  refine (build_sorted (l := rs.reverse) (s := build rs) ?_ ?_).symm
  · unfold build
    rw [bld_eq]
    refine (fold_perm _ _).trans ?_
    rw [List.nil_append]
    refine List.Perm.flatMap_right _ ?_
    refine (List.perm_ext_iff_of_nodup (chs_nodup _ _) (chs_nodup _ _)).2 fun r => ?_
    rw [chs_all hd, chs_all hd2, List.mem_reverse]
  · refine (bld_asc rs _).imp fun {x y} h => ?_
    cases hq : ltK y x with
    | false => rfl
    | true =>
      have := ltK_trans h hq
      rw [ltK_irrefl] at this
      cases this
/-! what is found -/
theorem build_mem2 {rs : List Rd} (hd : Dist rs) {p : Post} : p ∈ build rs ↔ ∃ r ∈ rs, 1 ≤ r.id ∧ p ∈ posts r := by
  constructor
  · exact build_mem
  · rintro ⟨r, hr, h1, hp⟩
    unfold build
    rw [bld_eq]
    refine (fold_perm _ _).mem_iff.2 ?_
    rw [List.nil_append]
    exact List.mem_flatMap.2 ⟨r, (chs_all hd).2 ⟨hr, h1⟩, hp⟩
theorem word_mem {x : List Post} {f n : Int} {s : By} : n ∈ word x f s ↔ ∃ p ∈ x, p.fld = f ∧ p.word = s ∧ p.id = n := by
  unfold word
  rw [Cp.puts_mem, List.mem_map]
  constructor
  · rintro ⟨p, hp, e⟩
    obtain ⟨h1, h2⟩ := List.mem_filter.1 hp
    simp only [Bool.and_eq_true, decide_eq_true_eq, beq_iff_eq] at h2
    exact ⟨p, h1, h2.1, h2.2, e⟩
  · rintro ⟨p, hp, h1, h2, h3⟩
    exact ⟨p, List.mem_filter.2 ⟨hp, by simp [h1, h2]⟩, h3⟩
theorem tells_has {rs : List Rd} (hd : Dist rs) {r : Rd} (hr : r ∈ rs) (h1 : 1 ≤ r.id) {f : Int} (hf : 0 ≤ f ∧ f ≤ 4) {s : By} : s ∈ terms r.fields f ↔ r.id ∈ word (build rs) f s := by
  rw [word_mem]
  constructor
  · intro h
    refine ⟨mkp f r.id (terms r.fields f) s, (build_mem2 hd).2 ⟨r, hr, h1, posts_mem.2 ⟨hf.1, hf.2, rfl, h, rfl⟩⟩, rfl, rfl, rfl⟩
  · rintro ⟨p, hp, e1, e2, e3⟩
    obtain ⟨q, hq, _, hp⟩ := (build_mem2 hd).1 hp
    obtain ⟨_, _, e4, h5, _⟩ := posts_mem.1 hp
    have := hd r hr q hq (by rw [← e3, e4])
    subst this
    rw [e1, e2] at h5
    exact h5
theorem phr_mem {x : List Post} {f n : Int} {s : By} {l : List By} : n ∈ phrase x f (s :: l) ↔ ∃ p ∈ x, p.fld = f ∧ p.word = s ∧ p.id = n ∧ ∃ m ∈ p.at_, folF x f p.id m 1 l = true := by
  unfold phrase phr
  rw [Cp.puts_mem]
  simp only [List.mem_flatMap, List.mem_map, List.mem_filter, Bool.and_eq_true, decide_eq_true_eq, beq_iff_eq]
  constructor
  · rintro ⟨p, ⟨hp, h1, h2⟩, m, ⟨hm, hf⟩, e⟩
    exact ⟨p, hp, h1, h2, e, m, hm, hf⟩
  · rintro ⟨p, hp, h1, h2, e, m, hm, hf⟩
    exact ⟨p, ⟨hp, h1, h2⟩, m, ⟨hm, hf⟩, e⟩
theorem phrase_one {x : List Post} (ha : ∀ p ∈ x, p.at_ ≠ []) (f : Int) (s : By) : phrase x f [s] = word x f s := by
  refine Cp.asc_unique Cp.ordI _ _ (Cp.puts_asc Cp.ordI _) (Cp.puts_asc Cp.ordI _) fun n => ?_
  rw [phr_mem, word_mem]
  constructor
  · rintro ⟨p, hp, h1, h2, e, _⟩
    exact ⟨p, hp, h1, h2, e⟩
  · rintro ⟨p, hp, h1, h2, e⟩
    obtain ⟨m, l, hm⟩ := List.exists_cons_of_ne_nil (ha p hp)
    exact ⟨p, hp, h1, h2, e, m, by rw [hm]; exact List.mem_cons_self .., rfl⟩
theorem phrase_two {x : List Post} {f n : Int} {s t : By} (h : n ∈ phrase x f [s, t]) : n ∈ word x f s ∧ n ∈ word x f t := by
  obtain ⟨p, hp, h1, h2, e, m, _, hf⟩ := phr_mem.1 h
  refine ⟨word_mem.2 ⟨p, hp, h1, h2, e⟩, ?_⟩
  rw [folF_cons, Bool.and_eq_true] at hf
  have h3 := hf.1
  unfold at_ at h3
  obtain ⟨q, hq, h4⟩ := List.any_eq_true.1 h3
  simp only [Bool.and_eq_true, decide_eq_true_eq, beq_iff_eq] at h4
  exact word_mem.2 ⟨q, hq, h4.1.1.1, h4.1.1.2, by rw [h4.1.2, e]⟩
theorem prefix_has {x : List Post} {f n : Int} {s : By} {k : Nat} (h : n ∈ word x f s) (h1 : 1 ≤ k) (h2 : k ≤ s.length) : n ∈ prefix_ x f (s.take k) := by
  obtain ⟨p, hp, e1, e2, e3⟩ := word_mem.1 h
  unfold prefix_
  rw [Cp.puts_mem, List.mem_map]
  refine ⟨p, List.mem_filter.2 ⟨hp, ?_⟩, e3⟩
  have hne : (s.take k == []) = false := by
    rw [beq_eq_false_iff_ne]
    intro h9
    have h8 : (s.take k).length = 0 := by rw [h9]; rfl
    rw [List.length_take, Nat.min_eq_left h2] at h8
    omega
  have hb : begP (s.take k) p.word = true := by
    unfold begP
    rw [e2, List.length_take, Nat.min_eq_left h2]
    simp
  rw [hne, hb, decide_eq_true e1]
  rfl
theorem build_ne {rs : List Rd} : ∀ p ∈ build rs, p.at_ ≠ [] := fun p hp => by
  obtain ⟨r, _, _, hp⟩ := build_mem hp
  obtain ⟨_, _, _, h4, h5⟩ := posts_mem.1 hp
  rw [h5]
  exact places_ne h4
end Ix
end Go.Proofs.YtcjalpegffldaaaGreatDoor
