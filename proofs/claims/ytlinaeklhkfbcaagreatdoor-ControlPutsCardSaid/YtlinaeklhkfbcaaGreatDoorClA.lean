/- slices.Clone at the types of the program: what the calls return. -/
import Derived.Test.YtlinaeklhkfbcaaGreatDoorFlA
import Derived.WalkLawsBesides
namespace Go.Proofs.YtlinaeklhkfbcaaGreatDoor
open Go.RowKit
set_option maxRecDepth 100000

theorem run_eql_nil {P : Program} (w : World) (t e : TypeId) (a : Option Addr) (l c : Nat) (h : P.underlying t = some (.slice e)) : (binOp .eql t (.slice a l c) (.slice none 0 0)).run P w = .ok (.bool a.isNone) w := by
  simp only [binOp]
  simp [run_equal_slice_nil w t e a l c h]
attribute [local go_sem] run_eql_nil

theorem info_tr : (Tryz.prog.info? 79).map (fun i => (i.zero, i.size, i.bytes)) = some (some (.agg #[.string ⟨#[]⟩, .bool false, .bool false, .string ⟨#[]⟩, .string ⟨#[]⟩, .string ⟨#[]⟩, .int .i64 0]), 7, 80) := by kernel_rfl

set_option maxHeartbeats 800000 in
theorem CloneFld_c {α : Type} {enc : α → List Value} (hs : ∀ x, (enc x).length = 4) (h1 : ∀ x, ∀ u ∈ enc x, u.oneCell' = true) (xs : List α) (a : Option Addr) (c : Nat) (w : World) (h : Br.FA enc 4 w a c xs) (hn : xs.length ≤ 1000000) :
    Calls Tryz.prog 39 #[.slice a xs.length c] w fun e w' => ∃ v, e = .returned v ∧ w'.ownsRow w.heap.size 24 4 v xs.length (xs.flatMap enc) ∧ Below w.heap.size w w' := by
  obtain ⟨i0, hi0, hz0, hz1, hz2⟩ := info_parts info_fld
  have hmx : maxLen = 9223372036854775807 := rfl
  cases a with
  | none =>
    have h0 := h.none rfl
    have h9 := List.eq_nil_of_length_eq_zero h0
    subst h9
    go_enter Tryz.func39, Tryz.ntmps39
    go_wp2
    go_ret
    exact ⟨_, rfl, ⟨rfl, .inl ⟨rfl, rfl⟩⟩, Below.refl _ _⟩
  | some ad =>
    go_enter Tryz.func39, Tryz.ntmps39
    go_wp2_with (at_builtin; go_must (refine wpList_append_sl rfl _ _ 36 rfl w.heap.size 24 i0 _ 4 64 Tryz.underlying36 hi0 hz0 hz1 hz2 rfl (by decide) _ 0 [] rfl (World.ownsRow_lit (base := w.heap.size) (e := 24) (size := 4) w #[] 0 (by simp) (by unfold maxLen; omega) rfl) (some ad) xs.length c (xs.flatMap enc) rfl (Br.flat_len enc 4 hs xs) (fun h => by cases h) ((h.below (Tx.newb w _)).cells hs (by omega)) (Br.flat_one h1 xs) (by omega) (by omega) (by simp) ?_); intro v1 w1 hown1 hg1 hnil1)
    go_ret
    rw [Nat.zero_add, List.nil_append] at hown1
    exact ⟨_, rfl, hown1, (Tx.newb w _).grown hg1 (by simp) (fun j hj => by cases hj; exact Nat.le_refl _)⟩
set_option maxHeartbeats 800000 in
theorem CloneRec_c {α : Type} {enc : α → List Value} (hs : ∀ x, (enc x).length = 5) (h1 : ∀ x, ∀ u ∈ enc x, u.oneCell' = true) (xs : List α) (a : Option Addr) (c : Nat) (w : World) (h : Br.FA enc 5 w a c xs) (hn : xs.length ≤ 1000000) :
    Calls Tryz.prog 38 #[.slice a xs.length c] w fun e w' => ∃ v, e = .returned v ∧ w'.ownsRow w.heap.size 38 5 v xs.length (xs.flatMap enc) ∧ Below w.heap.size w w' := by
  obtain ⟨i0, hi0, hz0, hz1, hz2⟩ := info_parts info_rec
  have hmx : maxLen = 9223372036854775807 := rfl
  cases a with
  | none =>
    have h0 := h.none rfl
    have h9 := List.eq_nil_of_length_eq_zero h0
    subst h9
    go_enter Tryz.func38, Tryz.ntmps38
    go_wp2
    go_ret
    exact ⟨_, rfl, ⟨rfl, .inl ⟨rfl, rfl⟩⟩, Below.refl _ _⟩
  | some ad =>
    go_enter Tryz.func38, Tryz.ntmps38
    go_wp2_with (at_builtin; go_must (refine wpList_append_sl rfl _ _ 31 rfl w.heap.size 38 i0 _ 5 64 Tryz.underlying31 hi0 hz0 hz1 hz2 rfl (by decide) _ 0 [] rfl (World.ownsRow_lit (base := w.heap.size) (e := 38) (size := 5) w #[] 0 (by simp) (by unfold maxLen; omega) rfl) (some ad) xs.length c (xs.flatMap enc) rfl (Br.flat_len enc 5 hs xs) (fun h => by cases h) ((h.below (Tx.newb w _)).cells hs (by omega)) (Br.flat_one h1 xs) (by omega) (by omega) (by simp) ?_); intro v1 w1 hown1 hg1 hnil1)
    go_ret
    rw [Nat.zero_add, List.nil_append] at hown1
    exact ⟨_, rfl, hown1, (Tx.newb w _).grown hg1 (by simp) (fun j hj => by cases hj; exact Nat.le_refl _)⟩
set_option maxHeartbeats 800000 in
theorem CloneTR_c {α : Type} {enc : α → List Value} (hs : ∀ x, (enc x).length = 7) (h1 : ∀ x, ∀ u ∈ enc x, u.oneCell' = true) (xs : List α) (a : Option Addr) (c : Nat) (w : World) (h : Br.FA enc 7 w a c xs) (hn : xs.length ≤ 1000000) :
    Calls Tryz.prog 77 #[.slice a xs.length c] w fun e w' => ∃ v, e = .returned v ∧ w'.ownsRow w.heap.size 79 7 v xs.length (xs.flatMap enc) ∧ Below w.heap.size w w' := by
  obtain ⟨i0, hi0, hz0, hz1, hz2⟩ := info_parts info_tr
  have hmx : maxLen = 9223372036854775807 := rfl
  cases a with
  | none =>
    have h0 := h.none rfl
    have h9 := List.eq_nil_of_length_eq_zero h0
    subst h9
    go_enter Tryz.func77, Tryz.ntmps77
    go_wp2
    go_ret
    exact ⟨_, rfl, ⟨rfl, .inl ⟨rfl, rfl⟩⟩, Below.refl _ _⟩
  | some ad =>
    go_enter Tryz.func77, Tryz.ntmps77
    go_wp2_with (at_builtin; go_must (refine wpList_append_sl rfl _ _ 82 rfl w.heap.size 79 i0 _ 7 80 Tryz.underlying82 hi0 hz0 hz1 hz2 rfl (by decide) _ 0 [] rfl (World.ownsRow_lit (base := w.heap.size) (e := 79) (size := 7) w #[] 0 (by simp) (by unfold maxLen; omega) rfl) (some ad) xs.length c (xs.flatMap enc) rfl (Br.flat_len enc 7 hs xs) (fun h => by cases h) ((h.below (Tx.newb w _)).cells hs (by omega)) (Br.flat_one h1 xs) (by omega) (by omega) (by simp) ?_); intro v1 w1 hown1 hg1 hnil1)
    go_ret
    rw [Nat.zero_add, List.nil_append] at hown1
    exact ⟨_, rfl, hown1, (Tx.newb w _).grown hg1 (by simp) (fun j hj => by cases hj; exact Nat.le_refl _)⟩
end Go.Proofs.YtlinaeklhkfbcaaGreatDoor
