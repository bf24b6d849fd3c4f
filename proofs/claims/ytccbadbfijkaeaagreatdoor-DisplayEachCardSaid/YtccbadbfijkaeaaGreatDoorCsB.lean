/- The reference's PutInt: what the call returns. -/
import Derived.Test.YtccbadbfijkaeaaGreatDoorCsA
import Derived.Laws.OwnMore
import Derived.Deep.AppendLies
namespace Go.Proofs.YtccbadbfijkaeaaGreatDoor
open Go.RowKit
set_option maxRecDepth 100000

namespace Cs
/-- A list in memory, at an address that is there. -/
structure LA {α : Type} (enc : α → Value) (w : World) (b o c : Nat) (xs : List α) : Prop where
  cap : xs.length ≤ c
  max : c ≤ maxLen
  lt : b < w.heap.size
  at_ : ∀ (j : Nat) x, xs[j]? = some x → w.cell? ⟨b, o + j, none⟩ = some (enc x)
theorem LA.below {α : Type} {enc : α → Value} {w w' : World} {b o c : Nat} {xs : List α} (h : LA enc w b o c xs) (hb : Below w.heap.size w w') : LA enc w' b o c xs :=
  ⟨h.cap, h.max, Nat.lt_of_lt_of_le h.lt hb.size, fun j x hx => cell_later hb (h.at_ j x hx)⟩
theorem LA.of_own {α : Type} {enc : α → Value} {w : World} {B e n g cap : Nat} {xs : List α} (h : w.ownsRow B e 1 (.slice (some ⟨g, 0, none⟩) n cap) n (xs.map enc)) (hm : n = xs.length) : LA enc w g 0 cap xs := by
  subst hm
  refine ⟨?_, ?_, (h.lt g rfl).2, fun j x hx => ?_⟩
  · rcases h.2 with ⟨h0, _⟩ | ⟨g', cap', cur, h', _, _, h1, _⟩
    · simp at h0
    · simp only [Value.slice.injEq] at h'
      omega
  · rcases h.2 with ⟨h0, _⟩ | ⟨g', cap', cur, h', _, _, _, h1, _⟩
    · simp at h0
    · simp only [Value.slice.injEq] at h'
      omega
  · have hj : j < xs.length := (List.getElem?_eq_some_iff.1 hx).1
    rw [Nat.zero_add, h.cellAt j (by omega), List.getElem?_map, hx]
    rfl
theorem add_at (b o j : Nat) : (⟨b, o, none⟩ : Addr).add j = ⟨b, o + j, none⟩ := by unfold Addr.add; split <;> simp_all
theorem LA.cellsT {α : Type} {enc : α → Value} {w w' : World} {b o c : Nat} {xs : List α} (h : LA enc w b o c xs) (hb : Below w.heap.size w w') (k : Nat) : ∀ j u, ((xs.take k).map enc)[j]? = some u → w'.cell? ((⟨b, o, none⟩ : Addr).add j) = some u := by
  intro j u hj
  rw [List.getElem?_map, List.getElem?_take] at hj
  split at hj
  · obtain ⟨x, hx, rfl⟩ := Option.map_eq_some_iff.1 hj
    rw [add_at]
    exact cell_later hb (h.at_ j x hx)
  · cases hj
theorem LA.cellsD {α : Type} {enc : α → Value} {w w' : World} {b o c : Nat} {xs : List α} (h : LA enc w b o c xs) (hb : Below w.heap.size w w') (k : Nat) : ∀ j u, ((xs.drop k).map enc)[j]? = some u → w'.cell? ((⟨b, o + k, none⟩ : Addr).add j) = some u := by
  intro j u hj
  rw [List.getElem?_map, List.getElem?_drop] at hj
  obtain ⟨x, hx, rfl⟩ := Option.map_eq_some_iff.1 hj
  rw [add_at, Nat.add_assoc]
  exact cell_later hb (h.at_ (k + j) x hx)
theorem LA.cells {α : Type} {enc : α → Value} {w : World} {b o c : Nat} {xs : List α} (h : LA enc w b o c xs) : ∀ j u, (xs.map enc)[j]? = some u → w.cell? ((⟨b, o, none⟩ : Addr).add j) = some u := by
  intro j u hj
  rw [List.getElem?_map] at hj
  obtain ⟨x, hx, rfl⟩ := Option.map_eq_some_iff.1 hj
  rw [add_at]
  exact h.at_ j x hx
theorem LA.grown {α : Type} {enc : α → Value} {w w' : World} {row : Option Nat} {b o c : Nat} {xs : List α} (h : LA enc w b o c xs) (hg : w.grownBy w' row) (hne : some b ≠ row) : LA enc w' b o c xs :=
  ⟨h.cap, h.max, Nat.lt_of_lt_of_le h.lt hg.size, fun j x hx => (hg.cell_far ⟨b, o + j, none⟩ h.lt hne).trans (h.at_ j x hx)⟩
theorem put_scan {α : Type} [DecidableEq α] (lt : α → α → Bool) (x : α) : ∀ (xs : List α) (k : Nat), k ≤ xs.length → (∀ j, j < k → ∀ y, xs[j]? = some y → lt y x = true) → (∀ y, xs[k]? = some y → lt y x = false) → Cp.put lt xs x = if xs[k]? = some x then xs else xs.take k ++ x :: xs.drop k
  | [], k, hk, _, _ => by simp [Cp.put]
  | y :: r, 0, _, _, h2 => by
    have h3 : lt y x = false := h2 y rfl
    unfold Cp.put
    rw [h3]
    by_cases hyx : y = x
    · simp [hyx]
    · simp [hyx]
  | y :: r, k + 1, hk, h1, h2 => by
    have h3 : lt y x = true := h1 0 (by omega) y rfl
    have ih := put_scan lt x r k (by simpa using hk) (fun j hj z hz => h1 (j + 1) (by omega) z (by simpa using hz)) (fun z hz => h2 z (by simpa using hz))
    unfold Cp.put
    rw [if_pos h3, ih]
    by_cases hx : r[k]? = some x
    · simp [hx]
    · simp [hx]
end Cs

theorem info_i64 : (Tryz.prog.info? 3).map (fun i => (i.zero, i.size, i.bytes)) = some (some (.int .i64 0), 1, 8) := by kernel_rfl

set_option maxHeartbeats 1600000 in
theorem PutInt_c (xs : List Int) (b o c : Nat) (n : Int) (w : World) (h : Cs.LA (Value.int .i64) w b o c xs) (hlen : xs.length ≤ 1000000) :
    Calls Tryz.prog 27 #[.slice (some ⟨b, o, none⟩) xs.length c, .int .i64 n] w fun e w' => ∃ b' o' c', e = .returned (.slice (some ⟨b', o', none⟩) (Cp.put Cp.ltI xs n).length c') ∧ Cs.LA (Value.int .i64) w' b' o' c' (Cp.put Cp.ltI xs n) ∧ (b' = b ∨ w.heap.size ≤ b') ∧ Below w.heap.size w w' := by
  obtain ⟨i0, hi0, hz0, hz1, hz2⟩ := info_parts info_i64
  have hc := h.cap
  have hm := h.max
  have hml : maxLen = 9223372036854775807 := rfl
  go_enter Tryz.func27, Tryz.ntmps27
  go_wp2
  go_loopw [5] (fun i wr => ∃ (k : Nat), k ≤ xs.length ∧ i = .int .i64 k ∧ Hid (∀ j, j < k → ∀ y, xs[j]? = some y → Cp.ltI y n = true) ∧ wr = w) (fun i _ => xs.length - (intOf i).toNat)
  case atStart => exact ⟨0, Nat.zero_le _, rfl, Lib.hid (fun j hj => absurd hj (by omega)), rfl⟩
  case round =>
    obtain ⟨k, hk, rfl, hE, rfl⟩ := hrel
    have hsc := fun h2 => Cs.put_scan Cp.ltI n xs k hk hE.out h2
    by_cases hlt : k < xs.length
    · obtain ⟨y, hy⟩ : ∃ y, xs[k]? = some y := ⟨_, List.getElem?_eq_getElem hlt⟩
      have cy := h.at_ k y hy
      by_cases hyn : y < n
      · have hE2 : Hid (∀ j, j < k + 1 → ∀ y, xs[j]? = some y → Cp.ltI y n = true) := Lib.hid (fun j hj z hz => by
          rcases Nat.lt_or_ge j k with h1 | h1
          · exact hE.out j h1 z hz
          · obtain rfl : j = k := by omega
            rw [hy] at hz; injection hz with hz; subst hz
            simpa [Cp.ltI] using hyn)
        clear hy hsc
        go_wp2
        go_roundw
        case rel => exact ⟨k + 1, by omega, by go_num, hE2, trivial⟩
        case measure => simp [intOf]; omega
      · have hp := hsc (fun z hz => by rw [hy] at hz; injection hz with hz; subst hz; simpa [Cp.ltI] using hyn)
        by_cases hye : y = n
        · rw [if_pos (by rw [hy, hye])] at hp
          have HP := Lib.hid hp; clear hp hsc hy
          go_wp2
          go_ret
          rw [HP.out]
          exact ⟨b, o, c, rfl, h, .inl rfl, Below.refl _ _⟩
        · rw [if_neg (by rw [hy]; intro h9; injection h9 with h9; exact hye h9)] at hp
          have HP := Lib.hid hp; clear hp hsc hy
          have hkc : (k : Int) ≤ (c : Int) := by omega
          have hkl : (k : Int) ≤ (xs.length : Int) := by omega
          have hlen1 : ((xs.take k).map (Value.int .i64)).length = k * 1 := by first | (simp; done) | (simp; omega)
          have hlen3 : ((xs.drop k).map (Value.int .i64)).length = (xs.length - k) * 1 := by simp
          have hone : ∀ l : List Int, ∀ u ∈ l.map (Value.int .i64), u.oneCell' = true := fun l u hu => by
            obtain ⟨x, _, rfl⟩ := List.mem_map.1 hu
            rfl
          have HL1 := Lib.hid hlen1; clear hlen1
          have HL3 := Lib.hid hlen3; clear hlen3
          have HONE := Lib.hid hone; clear hone
          go_wp2_with (first
            | (at_builtin; refine wpList_append_own _ rfl _ _ 47 rfl wr.heap.size 3 i0 (.int .i64 0) 1 8 Tryz.underlying47 hi0 hz0 hz1 hz2 rfl (by decide) _ 0 [] rfl (World.ownsRow_lit (base := wr.heap.size) (e := 3) (size := 1) wr #[] 0 (by simp) (by unfold maxLen; omega) rfl) ⟨b, o, none⟩ k _ ((xs.take k).map (Value.int .i64)) rfl HL1.out (h.cellsT (Tx.newb _ _) k) (HONE.out _) (by unfold maxLen; omega) (by omega) (by simp) ?_; intro v1 w1 hown1 hg1 hnil1; have hb1 : Below wr.heap.size wr w1 := (Tx.newb wr _).grown hg1 (by simp) (fun j hj => by cases hj; exact Nat.le_refl _))
            | (at_builtin; refine wpList_append_own _ rfl _ _ 47 rfl wr.heap.size 3 i0 (.int .i64 0) 1 8 Tryz.underlying47 hi0 hz0 hz1 hz2 rfl (by decide) _ (0 + k) _ rfl (hown1.alloc _) ⟨_, 0, none⟩ 1 1 [.int .i64 n] rfl rfl (Tx.cell_one_at _ _ (by first | rfl | simp) _ _) (by simp [Value.oneCell']) (by unfold maxLen; omega) (by omega) (by have := hb1.size; simp; omega) ?_; intro v2 w2 hown2 hg2 hnil2; have hb2 : Below wr.heap.size wr w2 := (hb1.alloc hb1.size _).grown hg2 (by have := hb1.size; simp; omega) (fun j hj => (hown1.lt j hj).1))
            | (at_builtin; refine wpList_append_own _ rfl _ _ 47 rfl wr.heap.size 3 i0 (.int .i64 0) 1 8 Tryz.underlying47 hi0 hz0 hz1 hz2 rfl (by decide) _ (0 + k + 1) _ rfl hown2 ⟨b, o + k, none⟩ (xs.length - k) _ ((xs.drop k).map (Value.int .i64)) rfl HL3.out (h.cellsD hb2 k) (HONE.out _) (by unfold maxLen; omega) (by omega) hb2.size ?_; intro v3 w3 hown3 hg3 hnil3; have hb3 : Below wr.heap.size wr w3 := hb2.grown hg3 hb2.size (fun j hj => (hown2.lt j hj).1)))
          rcases hown3.2 with ⟨h0, _⟩ | ⟨vb, vc, cur, rfl, _⟩
          · exact absurd (hnil3.1 h0).1 (fun e => by have := (hnil2.1 e).2; omega)
          · go_ret
            have hll : (Cp.put Cp.ltI xs n).length = 0 + k + 1 + (xs.length - k) := by rw [HP.out]; simp; omega
            have hvl : (Cp.put Cp.ltI xs n).map (Value.int .i64) = [] ++ (xs.take k).map (Value.int .i64) ++ [.int .i64 n] ++ (xs.drop k).map (Value.int .i64) := by rw [HP.out]; simp
            rw [← hvl] at hown3
            refine ⟨vb, 0, vc, congrArg (fun m => Ending.returned (.slice (some ⟨vb, 0, none⟩) m vc)) hll.symm, Cs.LA.of_own hown3 hll.symm, .inr (hown3.lt vb rfl).1, hb3⟩
    · obtain rfl : k = xs.length := by omega
      have hp := hsc (fun z hz => by rw [List.getElem?_eq_none (by omega)] at hz; cases hz)
      rw [if_neg (by rw [List.getElem?_eq_none (by omega)]; simp)] at hp
      have HP := Lib.hid hp; clear hp hsc
      by_cases hcc : c = xs.length
      · subst hcc
        have hkc : (xs.length : Int) ≤ (xs.length : Int) := by omega
        have hkl0 : (xs.length : Int) ≤ (xs.length : Int) := by omega
        have hlen1 : ((xs.take xs.length).map (Value.int .i64)).length = xs.length * 1 := by first | (simp; done) | (simp; omega)
        have hlen3 : ((xs.drop xs.length).map (Value.int .i64)).length = (xs.length - xs.length) * 1 := by simp
        have hone : ∀ l : List Int, ∀ u ∈ l.map (Value.int .i64), u.oneCell' = true := fun l u hu => by
          obtain ⟨x, _, rfl⟩ := List.mem_map.1 hu
          rfl
        have HL1 := Lib.hid hlen1; clear hlen1
        clear hlen3 hkl0
        have HONE := Lib.hid hone; clear hone
        go_wp2_with (first
          | (at_builtin; refine wpList_append_own _ rfl _ _ 47 rfl wr.heap.size 3 i0 (.int .i64 0) 1 8 Tryz.underlying47 hi0 hz0 hz1 hz2 rfl (by decide) _ 0 [] rfl (World.ownsRow_lit (base := wr.heap.size) (e := 3) (size := 1) wr #[] 0 (by simp) (by unfold maxLen; omega) rfl) ⟨b, o, none⟩ xs.length _ ((xs.take xs.length).map (Value.int .i64)) rfl HL1.out (h.cellsT (Tx.newb _ _) xs.length) (HONE.out _) (by unfold maxLen; omega) (by omega) (by simp) ?_; intro v1 w1 hown1 hg1 hnil1; have hb1 : Below wr.heap.size wr w1 := (Tx.newb wr _).grown hg1 (by simp) (fun j hj => by cases hj; exact Nat.le_refl _))
          | (at_builtin; refine wpList_append_own _ rfl _ _ 47 rfl wr.heap.size 3 i0 (.int .i64 0) 1 8 Tryz.underlying47 hi0 hz0 hz1 hz2 rfl (by decide) _ (0 + xs.length) _ rfl (hown1.alloc _) ⟨_, 0, none⟩ 1 1 [.int .i64 n] rfl rfl (Tx.cell_one_at _ _ (by first | rfl | simp) _ _) (by simp [Value.oneCell']) (by unfold maxLen; omega) (by omega) (by have := hb1.size; simp; omega) ?_; intro v2 w2 hown2 hg2 hnil2; have hb2 : Below wr.heap.size wr w2 := (hb1.alloc hb1.size _).grown hg2 (by have := hb1.size; simp; omega) (fun j hj => (hown1.lt j hj).1))
          | (at_builtin; refine wpList_append_own _ rfl _ _ 47 rfl wr.heap.size 3 i0 (.int .i64 0) 1 8 Tryz.underlying47 hi0 hz0 hz1 hz2 rfl (by decide) _ (0 + xs.length + 1) _ rfl hown2 ⟨b, o, none⟩ 0 _ [] rfl rfl (fun j u hj => by simp at hj) (fun u hu => by simp at hu) (by unfold maxLen; omega) (by omega) hb2.size ?_; intro v3 w3 hown3 hg3 hnil3; have hb3 : Below wr.heap.size wr w3 := hb2.grown hg3 hb2.size (fun j hj => (hown2.lt j hj).1)))
        rcases hown3.2 with ⟨h0, _⟩ | ⟨vb, vc, cur, rfl, _⟩
        · exact absurd (hnil3.1 h0).1 (fun e => by have := (hnil2.1 e).2; omega)
        · go_ret
          have hll : (Cp.put Cp.ltI xs n).length = 0 + xs.length + 1 + 0 := by rw [HP.out]; first | (simp; done) | (simp; omega)
          have hvl : (Cp.put Cp.ltI xs n).map (Value.int .i64) = [] ++ (xs.take xs.length).map (Value.int .i64) ++ [.int .i64 n] ++ [] := by rw [HP.out]; simp
          rw [← hvl] at hown3
          refine ⟨vb, 0, vc, congrArg (fun m => Ending.returned (.slice (some ⟨vb, 0, none⟩) m vc)) hll.symm, Cs.LA.of_own hown3 hll.symm, .inr (hown3.lt vb rfl).1, hb3⟩
      · have hcl : (xs.length : Int) < (c : Int) := by omega
        have hcl2 : xs.length < c := by omega
        clear hcc
        have hkc : (xs.length : Int) ≤ (c : Int) := by omega
        have hkl0 : (xs.length : Int) ≤ (xs.length : Int) := by omega
        have hlen1 : ((xs.take xs.length).map (Value.int .i64)).length = xs.length * 1 := by first | (simp; done) | (simp; omega)
        have hlen3 : ((xs.drop xs.length).map (Value.int .i64)).length = (xs.length - xs.length) * 1 := by simp
        have hone : ∀ l : List Int, ∀ u ∈ l.map (Value.int .i64), u.oneCell' = true := fun l u hu => by
          obtain ⟨x, _, rfl⟩ := List.mem_map.1 hu
          rfl
        have HL1 := Lib.hid hlen1; clear hlen1
        clear hlen3 hkl0
        have HONE := Lib.hid hone; clear hone
        go_wp2_with (first
          | (at_builtin; refine wpList_append_own _ rfl _ _ 47 rfl wr.heap.size 3 i0 (.int .i64 0) 1 8 Tryz.underlying47 hi0 hz0 hz1 hz2 rfl (by decide) _ 0 [] rfl (World.ownsRow_lit (base := wr.heap.size) (e := 3) (size := 1) wr #[] 0 (by simp) (by unfold maxLen; omega) rfl) ⟨b, o, none⟩ xs.length _ ((xs.take xs.length).map (Value.int .i64)) rfl HL1.out (h.cellsT (Tx.newb _ _) xs.length) (HONE.out _) (by unfold maxLen; omega) (by omega) (by simp) ?_; intro v1 w1 hown1 hg1 hnil1; have hb1 : Below wr.heap.size wr w1 := (Tx.newb wr _).grown hg1 (by simp) (fun j hj => by cases hj; exact Nat.le_refl _))
          | (at_builtin; refine wpList_append_own _ rfl _ _ 47 rfl wr.heap.size 3 i0 (.int .i64 0) 1 8 Tryz.underlying47 hi0 hz0 hz1 hz2 rfl (by decide) _ (0 + xs.length) _ rfl (hown1.alloc _) ⟨_, 0, none⟩ 1 1 [.int .i64 n] rfl rfl (Tx.cell_one_at _ _ (by first | rfl | simp) _ _) (by simp [Value.oneCell']) (by unfold maxLen; omega) (by omega) (by have := hb1.size; simp; omega) ?_; intro v2 w2 hown2 hg2 hnil2; have hb2 : Below wr.heap.size wr w2 := (hb1.alloc hb1.size _).grown hg2 (by have := hb1.size; simp; omega) (fun j hj => (hown1.lt j hj).1))
          | (at_builtin; refine wpList_append_own _ rfl _ _ 47 rfl wr.heap.size 3 i0 (.int .i64 0) 1 8 Tryz.underlying47 hi0 hz0 hz1 hz2 rfl (by decide) _ (0 + xs.length + 1) _ rfl hown2 ⟨b, o + xs.length, none⟩ 0 _ [] rfl rfl (fun j u hj => by simp at hj) (fun u hu => by simp at hu) (by unfold maxLen; omega) (by omega) hb2.size ?_; intro v3 w3 hown3 hg3 hnil3; have hb3 : Below wr.heap.size wr w3 := hb2.grown hg3 hb2.size (fun j hj => (hown2.lt j hj).1)))
        rcases hown3.2 with ⟨h0, _⟩ | ⟨vb, vc, cur, rfl, _⟩
        · exact absurd (hnil3.1 h0).1 (fun e => by have := (hnil2.1 e).2; omega)
        · go_ret
          have hll : (Cp.put Cp.ltI xs n).length = 0 + xs.length + 1 + 0 := by rw [HP.out]; first | (simp; done) | (simp; omega)
          have hvl : (Cp.put Cp.ltI xs n).map (Value.int .i64) = [] ++ (xs.take xs.length).map (Value.int .i64) ++ [.int .i64 n] ++ [] := by rw [HP.out]; simp
          rw [← hvl] at hown3
          refine ⟨vb, 0, vc, congrArg (fun m => Ending.returned (.slice (some ⟨vb, 0, none⟩) m vc)) hll.symm, Cs.LA.of_own hown3 hll.symm, .inr (hown3.lt vb rfl).1, hb3⟩
end Go.Proofs.YtccbadbfijkaeaaGreatDoor
