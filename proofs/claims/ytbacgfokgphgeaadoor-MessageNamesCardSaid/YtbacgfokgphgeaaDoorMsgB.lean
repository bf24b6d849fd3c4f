/- Layer 41: the names of the kinds, and the line of a message: what the calls return. -/
import Derived.Test.YtbacgfokgphgeaaDoorMsgA
import Derived.Deep.RegionHeld3
namespace Go.Proofs.YtbacgfokgphgeaaDoor
open Go.RowKit
set_option maxRecDepth 100000

namespace Mg
def names : List (List UInt8) := [[97, 115, 107], [121, 101, 115], [110, 111], [115, 104, 105, 112], [103, 111, 116], [114, 101, 110, 101, 119], [117, 110, 116, 105, 108], [114, 101, 99, 97, 108, 108], [98, 97, 99, 107], [100, 111, 110, 101], [99, 97, 110, 99, 101, 108]]
/-- The name of a kind. -/
def nameOf (k : Int) : List UInt8 := if inB k 1 11 then names.getD (k - 1).toNat [] else []
theorem nameOf_len (k : Int) : (nameOf k).length ≤ 6 := by
  unfold nameOf
  split
  · have : ∀ j, (names.getD j []).length ≤ 6 := by
      intro j
      rcases Nat.lt_or_ge j 11 with h | h
      · have h2 : ∀ j, j < 11 → (names.getD j []).length ≤ 6 := by decide
        exact h2 j h
      · rw [List.getD_eq_getElem?_getD, List.getElem?_eq_none (by simpa [names] using h)]
        simp
    exact this _
  · simp
theorem cases11 {k : Int} (h : 1 ≤ k ∧ k ≤ 11) : k = 1 ∨ k = 2 ∨ k = 3 ∨ k = 4 ∨ k = 5 ∨ k = 6 ∨ k = 7 ∨ k = 8 ∨ k = 9 ∨ k = 10 ∨ k = 11 := by omega
end Mg

set_option maxHeartbeats 1600000 in
theorem name_i (k : Int) (w : World) :
    Calls Tryd.prog 16 #[.int .i64 k] w fun e w' => e = .returned (.string ⟨(Mg.nameOf k).toArray⟩) ∧ Below w.heap.size w w' := by
  cases hk : Mg.inB k 1 11 with
  | false =>
    have HK := Lib.hid hk; clear hk
    go_enter Tryd.func16, Tryd.ntmps16
    go_wp2_with (go_at_call 19; refine (within_i _ _ _ _).mono ?_; rintro e w1 ⟨rfl, rfl⟩; rw [HK.out])
    go_ret
    exact ⟨Tx.rets (by unfold Mg.nameOf; rw [HK.out]; rfl), Below.refl _ _⟩
  | true =>
    have h := Mg.inB_true.1 hk
    clear hk
    rcases Mg.cases11 h with rfl | rfl | rfl | rfl | rfl | rfl | rfl | rfl | rfl | rfl | rfl
    all_goals
      clear h
      go_enter Tryd.func16, Tryd.ntmps16
      go_wp2
      go_ret
      exact ⟨rfl, (Below.refl _ _).alloc (Nat.le_refl _) _⟩

set_option maxHeartbeats 1600000 in
theorem name_r (k : Int) (w : World) :
    Calls Tryd.prog 17 #[.int .i64 k] w fun e w' => e = .returned (.string ⟨(Mg.nameOf k).toArray⟩) ∧ Below w.heap.size w w' := by
  cases hk : Mg.inB k 1 11 with
  | false =>
    have h := Mg.inB_false.1 hk
    go_enter Tryd.func17, Tryd.ntmps17
    go_wp2
    all_goals
      go_ret
      exact ⟨Tx.rets (by unfold Mg.nameOf; rw [hk]; rfl), (Below.refl _ _).alloc (Nat.le_refl _) _⟩
  | true =>
    have h := Mg.inB_true.1 hk
    clear hk
    rcases Mg.cases11 h with rfl | rfl | rfl | rfl | rfl | rfl | rfl | rfl | rfl | rfl | rfl
    all_goals
      clear h
      go_enter Tryd.func17, Tryd.ntmps17
      go_wp2
      go_ret
      exact ⟨rfl, (Below.refl _ _).alloc (Nat.le_refl _) _⟩
end Go.Proofs.YtbacgfokgphgeaaDoor
