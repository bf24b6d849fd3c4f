/- The reference's Put: what the call returns. -/
import Derived.Test.YtccbadbfijkaeaaGreatDoorCsB
import Derived.Sort.Walk0
import Derived.Laws.OwnMore
import Derived.Deep.AppendLies
namespace Go.Proofs.YtccbadbfijkaeaaGreatDoor
open Go.RowKit
set_option maxRecDepth 100000

namespace Cs
abbrev encB (x : Rc.By) : Value := .string ⟨x.toArray⟩
end Cs

set_option maxHeartbeats 1600000 in
theorem Put_c (xs : List Rc.By) (b o c : Nat) (n : Rc.By) (w : World) (h : Cs.LA Cs.encB w b o c xs) (hlen : xs.length ≤ 1000000) :
    Calls Tryz.prog 51 #[.slice (some ⟨b, o, none⟩) xs.length c, .string ⟨n.toArray⟩] w fun e w' => ∃ b' o' c', e = .returned (.slice (some ⟨b', o', none⟩) (Cp.put Cp.ltB xs n).length c') ∧ Cs.LA Cs.encB w' b' o' c' (Cp.put Cp.ltB xs n) ∧ (b' = b ∨ w.heap.size ≤ b') ∧ Below w.heap.size w w' := by
  obtain ⟨i0, hi0, hz0, hz1, hz2⟩ := info_parts info_str
  have hc := h.cap
  have hm := h.max
  have hml : maxLen = 9223372036854775807 := rfl
  go_enter Tryz.func51, Tryz.ntmps51
  go_wp2
  go_loopw [5] (fun i wr => ∃ (k : Nat), k ≤ xs.length ∧ i = .int .i64 k ∧ Hid (∀ j, j < k → ∀ y, xs[j]? = some y → Cp.ltB y n = true) ∧ wr = w) (fun i _ => xs.length - (intOf i).toNat)
  case atStart => exact ⟨0, Nat.zero_le _, rfl, Lib.hid (fun j hj => absurd hj (by omega)), rfl⟩
  case round =>
    obtain ⟨k, hk, rfl, hE, rfl⟩ := hrel
    have hsc := fun h2 => Cs.put_scan Cp.ltB n xs k hk hE.out h2
    by_cases hlt : k < xs.length
    · obtain ⟨y, hy⟩ : ∃ y, xs[k]? = some y := ⟨_, List.getElem?_eq_getElem hlt⟩
      have cy := h.at_ k y hy
      have hbl : Op.bytesLess y n = decide (y < n) := Go.Proofs.bytesLess_eq y n
      by_cases hyn : y < n
      · have hE2 : Hid (∀ j, j < k + 1 → ∀ y, xs[j]? = some y → Cp.ltB y n = true) := Lib.hid (fun j hj z hz => by
          rcases Nat.lt_or_ge j k with h1 | h1
          · exact hE.out j h1 z hz
          · obtain rfl : j = k := by omega
            rw [hy] at hz; injection hz with hz; subst hz
            simpa [Cp.ltB] using hyn)
        rw [decide_eq_true hyn] at hbl
        clear hy hsc hyn
        go_wp2
        go_roundw
        case rel => exact ⟨k + 1, by omega, by go_num, hE2, trivial⟩
        case measure => simp [intOf]; omega
      · have hp := hsc (fun z hz => by rw [hy] at hz; injection hz with hz; subst hz; simpa [Cp.ltB] using hyn)
        rw [decide_eq_false hyn] at hbl
        have HYN := Lib.hid hyn; clear hyn
        by_cases hye : y = n
        · rw [if_pos (by rw [hy, hye])] at hp
          have HP := Lib.hid hp; clear hp hsc hy
          subst hye
          go_wp2
          go_ret
          rw [HP.out]
          exact ⟨b, o, c, rfl, h, .inl rfl, Below.refl _ _⟩
        · rw [if_neg (by rw [hy]; intro h9; injection h9 with h9; exact hye h9)] at hp
          have HP := Lib.hid hp; clear hp hsc hy
          have hye2 : (y == n) = false := by simpa using hye
          have hkc : (k : Int) ≤ (c : Int) := by omega
          have hkl : (k : Int) ≤ (xs.length : Int) := by omega
          have hlen1 : ((xs.take k).map Cs.encB).length = k * 1 := by first | (simp; done) | (simp; omega)
          have hlen3 : ((xs.drop k).map Cs.encB).length = (xs.length - k) * 1 := by simp
          have hone : ∀ l : List Rc.By, ∀ u ∈ l.map Cs.encB, u.oneCell' = true := fun l u hu => by
            obtain ⟨x, _, rfl⟩ := List.mem_map.1 hu
            rfl
          have HL1 := Lib.hid hlen1; clear hlen1
          have HL3 := Lib.hid hlen3; clear hlen3
          have HONE := Lib.hid hone; clear hone
          go_wp2_with (first
            | (at_builtin; refine wpList_append_own _ rfl _ _ 29 rfl wr.heap.size 9 i0 (.string ⟨#[]⟩) 1 16 Tryz.underlying29 hi0 hz0 hz1 hz2 rfl (by decide) _ 0 [] rfl (World.ownsRow_lit (base := wr.heap.size) (e := 9) (size := 1) wr #[] 0 (by simp) (by unfold maxLen; omega) rfl) ⟨b, o, none⟩ k _ ((xs.take k).map Cs.encB) rfl HL1.out (h.cellsT (Tx.newb _ _) k) (HONE.out _) (by unfold maxLen; omega) (by omega) (by simp) ?_; intro v1 w1 hown1 hg1 hnil1; have hb1 : Below wr.heap.size wr w1 := (Tx.newb wr _).grown hg1 (by simp) (fun j hj => by cases hj; exact Nat.le_refl _))
            | (at_builtin; refine wpList_append_own _ rfl _ _ 29 rfl wr.heap.size 9 i0 (.string ⟨#[]⟩) 1 16 Tryz.underlying29 hi0 hz0 hz1 hz2 rfl (by decide) _ (0 + k) _ rfl (hown1.alloc _) ⟨_, 0, none⟩ 1 1 [.string ⟨n.toArray⟩] rfl rfl (Tx.cell_one_at _ _ (by first | rfl | simp) _ _) (by simp [Value.oneCell']) (by unfold maxLen; omega) (by omega) (by have := hb1.size; simp; omega) ?_; intro v2 w2 hown2 hg2 hnil2; have hb2 : Below wr.heap.size wr w2 := (hb1.alloc hb1.size _).grown hg2 (by have := hb1.size; simp; omega) (fun j hj => (hown1.lt j hj).1))
            | (at_builtin; refine wpList_append_own _ rfl _ _ 29 rfl wr.heap.size 9 i0 (.string ⟨#[]⟩) 1 16 Tryz.underlying29 hi0 hz0 hz1 hz2 rfl (by decide) _ (0 + k + 1) _ rfl hown2 ⟨b, o + k, none⟩ (xs.length - k) _ ((xs.drop k).map Cs.encB) rfl HL3.out (h.cellsD hb2 k) (HONE.out _) (by unfold maxLen; omega) (by omega) hb2.size ?_; intro v3 w3 hown3 hg3 hnil3; have hb3 : Below wr.heap.size wr w3 := hb2.grown hg3 hb2.size (fun j hj => (hown2.lt j hj).1)))
          rcases hown3.2 with ⟨h0, _⟩ | ⟨vb, vc, cur, rfl, _⟩
          · exact absurd (hnil3.1 h0).1 (fun e => by have := (hnil2.1 e).2; omega)
          · go_ret
            have hll : (Cp.put Cp.ltB xs n).length = 0 + k + 1 + (xs.length - k) := by rw [HP.out]; simp; omega
            have hvl : (Cp.put Cp.ltB xs n).map Cs.encB = [] ++ (xs.take k).map Cs.encB ++ [.string ⟨n.toArray⟩] ++ (xs.drop k).map Cs.encB := by rw [HP.out]; simp
            rw [← hvl] at hown3
            refine ⟨vb, 0, vc, congrArg (fun m => Ending.returned (.slice (some ⟨vb, 0, none⟩) m vc)) hll.symm, Cs.LA.of_own hown3 hll.symm, .inr (hown3.lt vb rfl).1, hb3⟩
    · obtain rfl : k = xs.length := by omega
      have hp := hsc (fun z hz => by rw [List.getElem?_eq_none (by omega)] at hz; cases hz)
      rw [if_neg (by rw [List.getElem?_eq_none (by omega)]; simp)] at hp
      have HP := Lib.hid hp; clear hp hsc
      by_cases hcc : c = xs.length
      · subst hcc
        have hkc : (xs.length : Int) ≤ (xs.length : Int) := by omega
        have hkl0 : (xs.length : Int) ≤ (xs.length : Int) := by omega
        have hlen1 : ((xs.take xs.length).map Cs.encB).length = xs.length * 1 := by first | (simp; done) | (simp; omega)
        have hlen3 : ((xs.drop xs.length).map Cs.encB).length = (xs.length - xs.length) * 1 := by simp
        have hone : ∀ l : List Rc.By, ∀ u ∈ l.map Cs.encB, u.oneCell' = true := fun l u hu => by
          obtain ⟨x, _, rfl⟩ := List.mem_map.1 hu
          rfl
        have HL1 := Lib.hid hlen1; clear hlen1
        clear hlen3 hkl0
        have HONE := Lib.hid hone; clear hone
        go_wp2_with (first
          | (at_builtin; refine wpList_append_own _ rfl _ _ 29 rfl wr.heap.size 9 i0 (.string ⟨#[]⟩) 1 16 Tryz.underlying29 hi0 hz0 hz1 hz2 rfl (by decide) _ 0 [] rfl (World.ownsRow_lit (base := wr.heap.size) (e := 9) (size := 1) wr #[] 0 (by simp) (by unfold maxLen; omega) rfl) ⟨b, o, none⟩ xs.length _ ((xs.take xs.length).map Cs.encB) rfl HL1.out (h.cellsT (Tx.newb _ _) xs.length) (HONE.out _) (by unfold maxLen; omega) (by omega) (by simp) ?_; intro v1 w1 hown1 hg1 hnil1; have hb1 : Below wr.heap.size wr w1 := (Tx.newb wr _).grown hg1 (by simp) (fun j hj => by cases hj; exact Nat.le_refl _))
          | (at_builtin; refine wpList_append_own _ rfl _ _ 29 rfl wr.heap.size 9 i0 (.string ⟨#[]⟩) 1 16 Tryz.underlying29 hi0 hz0 hz1 hz2 rfl (by decide) _ (0 + xs.length) _ rfl (hown1.alloc _) ⟨_, 0, none⟩ 1 1 [.string ⟨n.toArray⟩] rfl rfl (Tx.cell_one_at _ _ (by first | rfl | simp) _ _) (by simp [Value.oneCell']) (by unfold maxLen; omega) (by omega) (by have := hb1.size; simp; omega) ?_; intro v2 w2 hown2 hg2 hnil2; have hb2 : Below wr.heap.size wr w2 := (hb1.alloc hb1.size _).grown hg2 (by have := hb1.size; simp; omega) (fun j hj => (hown1.lt j hj).1))
          | (at_builtin; refine wpList_append_own _ rfl _ _ 29 rfl wr.heap.size 9 i0 (.string ⟨#[]⟩) 1 16 Tryz.underlying29 hi0 hz0 hz1 hz2 rfl (by decide) _ (0 + xs.length + 1) _ rfl hown2 ⟨b, o, none⟩ 0 _ [] rfl rfl (fun j u hj => by simp at hj) (fun u hu => by simp at hu) (by unfold maxLen; omega) (by omega) hb2.size ?_; intro v3 w3 hown3 hg3 hnil3; have hb3 : Below wr.heap.size wr w3 := hb2.grown hg3 hb2.size (fun j hj => (hown2.lt j hj).1)))
        rcases hown3.2 with ⟨h0, _⟩ | ⟨vb, vc, cur, rfl, _⟩
        · exact absurd (hnil3.1 h0).1 (fun e => by have := (hnil2.1 e).2; omega)
        · go_ret
          have hll : (Cp.put Cp.ltB xs n).length = 0 + xs.length + 1 + 0 := by rw [HP.out]; first | (simp; done) | (simp; omega)
          have hvl : (Cp.put Cp.ltB xs n).map Cs.encB = [] ++ (xs.take xs.length).map Cs.encB ++ [.string ⟨n.toArray⟩] ++ [] := by rw [HP.out]; simp
          rw [← hvl] at hown3
          refine ⟨vb, 0, vc, congrArg (fun m => Ending.returned (.slice (some ⟨vb, 0, none⟩) m vc)) hll.symm, Cs.LA.of_own hown3 hll.symm, .inr (hown3.lt vb rfl).1, hb3⟩
      · have hcl : (xs.length : Int) < (c : Int) := by omega
        have hcl2 : xs.length < c := by omega
        clear hcc
        have hkc : (xs.length : Int) ≤ (c : Int) := by omega
        have hkl0 : (xs.length : Int) ≤ (xs.length : Int) := by omega
        have hlen1 : ((xs.take xs.length).map Cs.encB).length = xs.length * 1 := by first | (simp; done) | (simp; omega)
        have hlen3 : ((xs.drop xs.length).map Cs.encB).length = (xs.length - xs.length) * 1 := by simp
        have hone : ∀ l : List Rc.By, ∀ u ∈ l.map Cs.encB, u.oneCell' = true := fun l u hu => by
          obtain ⟨x, _, rfl⟩ := List.mem_map.1 hu
          rfl
        have HL1 := Lib.hid hlen1; clear hlen1
        clear hlen3 hkl0
        have HONE := Lib.hid hone; clear hone
        go_wp2_with (first
          | (at_builtin; refine wpList_append_own _ rfl _ _ 29 rfl wr.heap.size 9 i0 (.string ⟨#[]⟩) 1 16 Tryz.underlying29 hi0 hz0 hz1 hz2 rfl (by decide) _ 0 [] rfl (World.ownsRow_lit (base := wr.heap.size) (e := 9) (size := 1) wr #[] 0 (by simp) (by unfold maxLen; omega) rfl) ⟨b, o, none⟩ xs.length _ ((xs.take xs.length).map Cs.encB) rfl HL1.out (h.cellsT (Tx.newb _ _) xs.length) (HONE.out _) (by unfold maxLen; omega) (by omega) (by simp) ?_; intro v1 w1 hown1 hg1 hnil1; have hb1 : Below wr.heap.size wr w1 := (Tx.newb wr _).grown hg1 (by simp) (fun j hj => by cases hj; exact Nat.le_refl _))
          | (at_builtin; refine wpList_append_own _ rfl _ _ 29 rfl wr.heap.size 9 i0 (.string ⟨#[]⟩) 1 16 Tryz.underlying29 hi0 hz0 hz1 hz2 rfl (by decide) _ (0 + xs.length) _ rfl (hown1.alloc _) ⟨_, 0, none⟩ 1 1 [.string ⟨n.toArray⟩] rfl rfl (Tx.cell_one_at _ _ (by first | rfl | simp) _ _) (by simp [Value.oneCell']) (by unfold maxLen; omega) (by omega) (by have := hb1.size; simp; omega) ?_; intro v2 w2 hown2 hg2 hnil2; have hb2 : Below wr.heap.size wr w2 := (hb1.alloc hb1.size _).grown hg2 (by have := hb1.size; simp; omega) (fun j hj => (hown1.lt j hj).1))
          | (at_builtin; refine wpList_append_own _ rfl _ _ 29 rfl wr.heap.size 9 i0 (.string ⟨#[]⟩) 1 16 Tryz.underlying29 hi0 hz0 hz1 hz2 rfl (by decide) _ (0 + xs.length + 1) _ rfl hown2 ⟨b, o + xs.length, none⟩ 0 _ [] rfl rfl (fun j u hj => by simp at hj) (fun u hu => by simp at hu) (by unfold maxLen; omega) (by omega) hb2.size ?_; intro v3 w3 hown3 hg3 hnil3; have hb3 : Below wr.heap.size wr w3 := hb2.grown hg3 hb2.size (fun j hj => (hown2.lt j hj).1)))
        rcases hown3.2 with ⟨h0, _⟩ | ⟨vb, vc, cur, rfl, _⟩
        · exact absurd (hnil3.1 h0).1 (fun e => by have := (hnil2.1 e).2; omega)
        · go_ret
          have hll : (Cp.put Cp.ltB xs n).length = 0 + xs.length + 1 + 0 := by rw [HP.out]; first | (simp; done) | (simp; omega)
          have hvl : (Cp.put Cp.ltB xs n).map Cs.encB = [] ++ (xs.take xs.length).map Cs.encB ++ [.string ⟨n.toArray⟩] ++ [] := by rw [HP.out]; simp
          rw [← hvl] at hown3
          refine ⟨vb, 0, vc, congrArg (fun m => Ending.returned (.slice (some ⟨vb, 0, none⟩) m vc)) hll.symm, Cs.LA.of_own hown3 hll.symm, .inr (hown3.lt vb rfl).1, hb3⟩
end Go.Proofs.YtccbadbfijkaeaaGreatDoor
