/- Plain: ascending lists without repetition, and the lines of copies; no program stands in this file. -/
import Derived.Test.YtlinaeklhkfbcaaGreatDoorRcA
import Derived.Lib.SlicesCompact
namespace Go.Proofs.YtlinaeklhkfbcaaGreatDoor
namespace Cp
open Go.Lib Rc

/-! ### an order -/
structure Ord {α : Type} (lt : α → α → Bool) : Prop where
  irr : ∀ x, lt x x = false
  tr : ∀ {x y z}, lt x y = true → lt y z = true → lt x z = true
  tot : ∀ {x y}, lt x y = false → x ≠ y → lt y x = true
variable {α : Type} [DecidableEq α] {lt : α → α → Bool}
def Asc (lt : α → α → Bool) (l : List α) : Prop := l.Pairwise fun x y => lt x y = true
/-- A thing put into an ascending list, if it is not there yet. -/
def put (lt : α → α → Bool) : List α → α → List α
  | [], x => [x]
  | y :: r, x => if lt y x = true then y :: put lt r x else if y = x then y :: r else x :: y :: r
theorem put_mem (lt : α → α → Bool) : ∀ (l : List α) (x z : α), z ∈ put lt l x ↔ z = x ∨ z ∈ l
  | [], x, z => by simp [put]
  | y :: r, x, z => by
    unfold put
    split
    · rw [List.mem_cons, put_mem lt r x z, List.mem_cons]
      constructor
      · rintro (h | h | h)
        · exact .inr (.inl h)
        · exact .inl h
        · exact .inr (.inr h)
      · rintro (h | h | h)
        · exact .inr (.inl h)
        · exact .inl h
        · exact .inr (.inr h)
    · split
      · rename_i h
        subst h
        rw [List.mem_cons]
        constructor
        · exact fun h => .inr h
        · rintro (h | h)
          · exact .inl h
          · exact h
      · rw [List.mem_cons]
theorem put_asc (o : Ord lt) : ∀ (l : List α) (x : α), Asc lt l → Asc lt (put lt l x)
  | [], x, _ => by simp [put, Asc]
  | y :: r, x, h => by
    unfold Asc at h
    rw [List.pairwise_cons] at h
    unfold put Asc
    split
    · rename_i h1
      rw [List.pairwise_cons]
      refine ⟨fun z hz => ?_, put_asc o r x h.2⟩
      rcases (put_mem lt r x z).1 hz with h2 | h2
      · rw [h2]; exact h1
      · exact h.1 z h2
    · rename_i h1
      split
      · exact List.pairwise_cons.2 h
      · rename_i h2
        have h3 := o.tot (by simpa using h1) h2
        rw [List.pairwise_cons]
        refine ⟨fun z hz => ?_, List.pairwise_cons.2 h⟩
        rcases List.mem_cons.1 hz with h4 | h4
        · rw [h4]; exact h3
        · exact o.tr h3 (h.1 z h4)
theorem asc_unique (o : Ord lt) : ∀ (a b : List α), Asc lt a → Asc lt b → (∀ z, z ∈ a ↔ z ∈ b) → a = b
  | [], [], _, _, _ => rfl
  | [], y :: b, _, _, h => by have := (h y).2 (by simp); cases this
  | x :: a, [], _, _, h => by have := (h x).1 (by simp); cases this
  | x :: a, y :: b, ha, hb, h => by
    unfold Asc at ha hb
    rw [List.pairwise_cons] at ha hb
    have hxy : x = y := by
      by_cases e : x = y
      · exact e
      · have h1 : x ∈ b := by
          rcases List.mem_cons.1 ((h x).1 (by simp)) with h2 | h2
          · exact absurd h2 e
          · exact h2
        have h3 : y ∈ a := by
          rcases List.mem_cons.1 ((h y).2 (by simp)) with h2 | h2
          · exact absurd h2.symm e
          · exact h2
        have h4 := o.tr (ha.1 y h3) (hb.1 x h1)
        rw [o.irr] at h4
        cases h4
    subst hxy
    congr 1
    refine asc_unique o a b ha.2 hb.2 fun z => ?_
    constructor
    · intro hz
      rcases List.mem_cons.1 ((h z).1 (by simp [hz])) with h2 | h2
      · subst h2
        have := ha.1 z hz
        rw [o.irr] at this
        cases this
      · exact h2
    · intro hz
      rcases List.mem_cons.1 ((h z).2 (by simp [hz])) with h2 | h2
      · subst h2
        have := hb.1 z hz
        rw [o.irr] at this
        cases this
      · exact h2
/-- All of them put in, one after the other. -/
def puts (lt : α → α → Bool) (l : List α) : List α := l.foldl (put lt) []
theorem foldl_put_mem (lt : α → α → Bool) : ∀ (l acc : List α) (z : α), z ∈ l.foldl (put lt) acc ↔ z ∈ acc ∨ z ∈ l
  | [], acc, z => by simp
  | x :: l, acc, z => by
    rw [List.foldl_cons, foldl_put_mem lt l _ z, put_mem, List.mem_cons]
    constructor
    · rintro ((h | h) | h)
      · exact .inr (.inl h)
      · exact .inl h
      · exact .inr (.inr h)
    · rintro (h | h | h)
      · exact .inl (.inr h)
      · exact .inl (.inl h)
      · exact .inr h
theorem foldl_put_asc (o : Ord lt) : ∀ (l acc : List α), Asc lt acc → Asc lt (l.foldl (put lt) acc)
  | [], _, h => h
  | x :: l, acc, h => foldl_put_asc o l _ (put_asc o acc x h)
theorem puts_mem (lt : α → α → Bool) (l : List α) (z : α) : z ∈ puts lt l ↔ z ∈ l := by
  unfold puts
  rw [foldl_put_mem]
  simp
theorem puts_asc (o : Ord lt) (l : List α) : Asc lt (puts lt l) := foldl_put_asc o l [] List.Pairwise.nil
theorem puts_same (o : Ord lt) {a b : List α} (h : ∀ z, z ∈ a ↔ z ∈ b) : puts lt a = puts lt b :=
  asc_unique o _ _ (puts_asc o a) (puts_asc o b) fun z => by rw [puts_mem, puts_mem]; exact h z
/-- What is ascending and has the same members. -/
theorem puts_of (o : Ord lt) {a b : List α} (ha : Asc lt a) (h : ∀ z, z ∈ a ↔ z ∈ b) : a = puts lt b :=
  asc_unique o _ _ ha (puts_asc o b) fun z => by rw [puts_mem]; exact h z
omit [DecidableEq α] in
theorem at_get [Inhabited α] (zs : List α) (j : Nat) (h : j < zs.length) : (zs.toArray)[j]! = zs[j]'h := by
  rw [getElem!_pos zs.toArray j (by simpa using h)]
  simp
theorem compact_at [Inhabited α] (zs : List α) : ∀ j, j < zs.length → (zs.toArray)[j]! ∈ compact zs
  | 0, h => by
    unfold compact compactUpTo
    exact List.mem_map.2 ⟨0, List.mem_filter.2 ⟨List.mem_range.2 h, by simp [keeps]⟩, rfl⟩
  | j + 1, h => by
    by_cases e : (zs.toArray)[j + 1]! = (zs.toArray)[j]!
    · rw [e]; exact compact_at zs j (by omega)
    · unfold compact compactUpTo
      exact List.mem_map.2 ⟨j + 1, List.mem_filter.2 ⟨List.mem_range.2 h, by unfold keeps; simpa using e⟩, rfl⟩
theorem compact_mem [Inhabited α] (zs : List α) (z : α) : z ∈ compact zs ↔ z ∈ zs := by
  constructor
  · intro h
    unfold compact compactUpTo at h
    obtain ⟨j, hj, rfl⟩ := List.mem_map.1 h
    have := List.mem_range.1 (List.mem_filter.1 hj).1
    rw [at_get zs j this]
    exact List.getElem_mem _
  · intro h
    obtain ⟨j, hj, rfl⟩ := List.mem_iff_getElem.1 h
    rw [← at_get zs j hj]
    exact compact_at zs j hj
theorem compact_asc [Inhabited α] (o : Ord lt) (zs : List α) (h : zs.Pairwise fun x y => lt y x = false) : Asc lt (compact zs) := by
  unfold Asc compact compactUpTo
  rw [List.pairwise_map]
  have hp : (List.filter (keeps zs.toArray) (List.range zs.length)).Pairwise (· < ·) := List.Pairwise.filter _ List.pairwise_lt_range
  have hm : ∀ j ∈ List.filter (keeps zs.toArray) (List.range zs.length), j < zs.length ∧ keeps zs.toArray j = true := fun j hj => ⟨List.mem_range.1 (List.mem_filter.1 hj).1, (List.mem_filter.1 hj).2⟩
  rw [List.pairwise_iff_forall_sublist] at hp ⊢
  intro i j hs
  have hij : i < j := hp hs
  obtain ⟨hj, hk⟩ := hm j (hs.subset (by simp))
  rw [List.pairwise_iff_getElem] at h
  unfold keeps at hk
  rw [decide_eq_true_eq] at hk
  have hne := hk.resolve_left (by omega)
  rw [at_get zs j hj, at_get zs (j - 1) (by omega)] at hne
  rw [at_get zs i (by omega), at_get zs j hj]
  have h1 : lt (zs[j - 1]'(by omega)) (zs[j]'hj) = true := o.tot (h (j - 1) j (by omega) hj (by omega)) hne
  by_cases e : i = j - 1
  · subst e; exact h1
  · have h2 := h i (j - 1) (by omega) (by omega) (by omega)
    by_cases e2 : (zs[i]'(by omega)) = (zs[j - 1]'(by omega))
    · rw [e2]; exact h1
    · exact o.tr (o.tot h2 (fun e3 => e2 e3.symm)) h1
/-- A permutation that is in order, struck of repetitions. -/
theorem compact_puts [Inhabited α] (o : Ord lt) {zs ys : List α} (hp : zs.Perm ys) (h : zs.Pairwise fun x y => lt y x = false) : compact zs = puts lt ys :=
  puts_of o (compact_asc o zs h) fun z => by rw [compact_mem]; exact hp.mem_iff

/-! ### the two orders -/
def ltI (a b : Int) : Bool := decide (a < b)
theorem ordI : Ord ltI := ⟨fun x => by simp [ltI], fun {x y z} h1 h2 => by unfold ltI at *; simp at *; omega, fun {x y} h1 h2 => by unfold ltI at *; simp at *; omega⟩
def ltB (a b : By) : Bool := decide (a < b)
theorem ordB : Ord ltB := ⟨fun x => by unfold ltB; simp [List.lt_irrefl], fun {x y z} h1 h2 => by unfold ltB at *; simp at *; exact List.lt_trans h1 h2, fun {x y} h1 h2 => by
  unfold ltB at *
  simp at *
  rcases List.le_total x y with h | h
  · exact absurd (List.le_antisymm h h1) h2
  · rw [← List.not_le]
    intro h3
    exact h2 (List.le_antisymm h3 h)⟩

/-! ### copies -/
structure It where
  id : Int
  rec_ : Int
  branch : Int
  kind : Int
  price : Int
  call : ByteArray
  state : Int
  cb : Int
  who : Int
  to_ : Int
def live (id : Int) (l : List It) : List It := l.filter fun x => x.rec_ == id && x.state != 12
def ofB (b : Int) (l : List It) : List It := l.filter fun x => x.branch == b
def callsOf (l : List It) : List By := (l.filter fun x => x.call.data.toList != []).map (·.call.data.toList)
def shelf (l : List It) : Nat := (l.filter fun x => x.state == 3).length
def head (b : Int) (l : List It) : By := [98, 114, 97, 110, 99, 104, 32] ++ itoa b ++ [58, 32] ++ itoa (shelf l) ++ [32, 111, 102, 32] ++ itoa l.length ++ [32, 97, 118, 97, 105, 108, 97, 98, 108, 101]
def block (l : List It) (b : Int) : List By := head b (ofB b l) :: (puts ltB (callsOf (ofB b l))).map ([32, 32] ++ ·)
def copies (items : List It) (id : Int) : List By := (puts ltI ((live id items).map (·.branch))).flatMap (block (live id items))
end Cp
end Go.Proofs.YtlinaeklhkfbcaaGreatDoor
