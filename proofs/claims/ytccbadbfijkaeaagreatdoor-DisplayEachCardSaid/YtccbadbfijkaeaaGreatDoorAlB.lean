/- Layer 25: two lists of texts compared; a field made; the chapter's examples: what the calls return. -/
import Derived.Test.YtccbadbfijkaeaaGreatDoorAlA
import Derived.Test.YtccbadbfijkaeaaGreatDoorDsE
import Derived.Test.YtccbadbfijkaeaaGreatDoorWrF
import Derived.Test.YtccbadbfijkaeaaGreatDoorCpE
namespace Go.Proofs.YtccbadbfijkaeaaGreatDoor
open Go.RowKit
set_option maxRecDepth 100000

namespace Al
theorem eq_from {xs ys : List ByteArray} (hl : xs.length = ys.length) (h : ∀ j, j < xs.length → xs[j]? = ys[j]?) : xs = ys := by
  apply List.ext_getElem? 
  intro j
  rcases Nat.lt_or_ge j xs.length with h1 | h1
  · exact h j h1
  · rw [List.getElem?_eq_none h1, List.getElem?_eq_none (by omega)]
theorem ba_eq (x y : ByteArray) : (x.toList == y.toList) = decide (x = y) := by
  by_cases h : x = y
  · subst h; simp
  · have : x.toList ≠ y.toList := fun e => h (by rw [Lib.toList_data, Lib.toList_data] at e; exact ByteArray.ext (Array.toList_inj.1 e))
    simp [h, this]
end Al

set_option maxHeartbeats 1600000 in
theorem Texts_c (xs ys : List ByteArray) (a b : Option Addr) (c d : Nat) (w : World) (hx : SLA w a c xs) (hy : SLA w b d ys) :
    Calls Tryz.prog 16 #[.slice a xs.length c, .slice b ys.length d] w fun e w' => e = .returned (.bool (decide (xs = ys))) ∧ Below w.heap.size w w' := by
  have hcx := hx.cap
  have hmx := hx.max
  have hcy := hy.cap
  have hmy := hy.max
  have hml : maxLen = 9223372036854775807 := rfl
  by_cases hl : xs.length = ys.length
  · have HL := Lib.hid hl
    have hli : ((xs.length : Int) != (ys.length : Int)) = false := by simp [hl]
    clear hl
    go_enter Tryz.func16, Tryz.ntmps16
    go_wp2
    go_loopw [5] (fun i wr => ∃ (k : Nat), k ≤ xs.length ∧ i = .int .i64 k ∧ Hid (∀ j, j < k → xs[j]? = ys[j]?) ∧ Below w.heap.size w wr) (fun i _ => xs.length - (intOf i).toNat)
    case atStart => exact ⟨0, Nat.zero_le _, rfl, Lib.hid (fun j hj => absurd hj (by omega)), Below.refl _ _⟩
    case round =>
      obtain ⟨k, hk, rfl, hE, hb⟩ := hrel
      by_cases hlt : k < xs.length
      · obtain ⟨x, hxk⟩ : ∃ x, xs[k]? = some x := ⟨_, List.getElem?_eq_getElem hlt⟩
        have hlt2 : k < ys.length := by rw [← HL.out]; exact hlt
        obtain ⟨y, hyk⟩ : ∃ y, ys[k]? = some y := ⟨_, List.getElem?_eq_getElem hlt2⟩
        obtain ⟨bx, ox, rfl, hbx, cx⟩ := hx.get hxk
        obtain ⟨b1, o1, rfl, hb1, cy⟩ := hy.get hyk
        replace cx := cell_later hb cx
        replace cy := cell_later hb cy
        have hq := Al.ba_eq x y
        have g1 : (k : Int) < (xs.length : Int) := by omega
        have g2 : (k : Int) < (ys.length : Int) := by omega
        by_cases hxy : x = y
        · have hE2 : Hid (∀ j, j < k + 1 → xs[j]? = ys[j]?) := Lib.hid (fun j hj => by
            rcases Nat.lt_or_ge j k with h1 | h1
            · exact hE.out j h1
            · obtain rfl : j = k := by omega
              rw [hxk, hyk, hxy])
          rw [decide_eq_true hxy] at hq
          clear hxy hxk hyk
          go_wp2
          go_quiet (fail)
          go_wp2
          go_roundw
          case rel => exact ⟨k + 1, by omega, by go_num, hE2, Tx.below_drewN hb _⟩
          case measure => simp [intOf]; omega
        · have hne : Hid (xs ≠ ys) := Lib.hid (fun e => hxy (by rw [e, hyk] at hxk; injection hxk with h9; exact h9.symm))
          rw [decide_eq_false hxy] at hq
          clear hxy hxk hyk
          go_wp2
          go_quiet (fail)
          go_wp2
          go_ret
          exact ⟨Tx.retb (decide_eq_false hne.out).symm, Tx.below_drewN hb _⟩
      · obtain rfl : k = xs.length := by omega
        have he : Hid (xs = ys) := Lib.hid (Al.eq_from HL.out hE.out)
        go_wp2
        go_ret
        exact ⟨Tx.retb (decide_eq_true he.out).symm, hb⟩
  · have hne : Hid (xs ≠ ys) := Lib.hid (fun e => hl (by rw [e]))
    have hli : ((xs.length : Int) != (ys.length : Int)) = true := by simp; omega
    clear hl
    go_enter Tryz.func16, Tryz.ntmps16
    go_wp2
    go_ret
    exact ⟨Tx.retb (decide_eq_false hne.out).symm, Below.refl _ _⟩

set_option maxHeartbeats 800000 in
theorem mkfield_c (tag : ByteArray) (a : Option Addr) (n c : Nat) (w : World) :
    Calls Tryz.prog 28 #[.string tag, .slice a n c] w fun e w' => e = .returned (.agg #[.string tag, .string ⟨#[32, 32]⟩, .slice a n c, .int .i64 0]) ∧ Below w.heap.size w w' := by
  go_enter Tryz.func28, Tryz.ntmps28
  go_wp2
  refine bodyPost_ret (v := .agg #[.string tag, .string ⟨#[32, 32]⟩, .slice a n c, .int .i64 0]) (by simp [results, Tryz.results28, go_sem]) rfl ⟨rfl, ?_⟩
  exact Tx.newb _ _
end Go.Proofs.YtccbadbfijkaeaaGreatDoor
