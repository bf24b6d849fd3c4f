/- Layer 41: Same, and the examples: what the calls return. -/
import Derived.Test.YtbacgfokgphgeaaDoorMsgH
namespace Go.Proofs.YtbacgfokgphgeaaDoor
open Go.RowKit
set_option maxRecDepth 100000

def Mg.sameB (f t r s k rc d f' t' r' s' k' rc' d' : Int) (n n' : ByteArray) : Bool :=
  decide (f = f' ∧ t = t' ∧ r = r' ∧ s = s' ∧ k = k' ∧ rc = rc' ∧ d = d' ∧ n.toList = n'.toList)

set_option maxHeartbeats 1000000 in
theorem same_i (f t r s k rc d f' t' r' s' k' rc' d' : Int) (n n' : ByteArray) (w : World) :
    Calls Tryd.prog 18 #[.agg #[.int .i64 f, .int .i64 t, .int .i64 r, .int .i64 s, .int .i64 k, .int .i64 rc, .int .i64 d, .string n], .agg #[.int .i64 f', .int .i64 t', .int .i64 r', .int .i64 s', .int .i64 k', .int .i64 rc', .int .i64 d', .string n']] w fun e w' => e = .returned (.bool (Mg.sameB f t r s k rc d f' t' r' s' k' rc' d' n n')) ∧ Below w.heap.size w w' := by
  go_enter Tryd.func18, Tryd.ntmps18
  go_wp2
  all_goals
    go_ret
    refine ⟨Tx.retb ?_, ((Below.refl _ _).alloc (Nat.le_refl _) _).alloc (by simp) _⟩
    unfold Mg.sameB
    first | (symm; rw [decide_eq_true_iff]; exact ⟨‹_›, ‹_›, ‹_›, ‹_›, ‹_›, ‹_›, ‹_›, ‹_›⟩) | (symm; rw [decide_eq_false_iff_not]; rintro ⟨h1, h2, h3, h4, h5, h6, h7, h8⟩; contradiction)

namespace Mg
/-- The example of the chapter, with a note and without. -/
theorem ex_right (n : List UInt8) (h : noteB n = true) (h2 : n.length ≤ 40) : right 1 2 7 1 1 33 46340 n = 0 := by
  unfold right
  rw [if_neg (by decide), if_neg (by decide), if_neg (by decide), if_neg (by decide), if_neg (by decide), if_neg (by rw [h]; simp), if_neg (by omega)]
end Mg

/-- What the examples come to. -/
theorem Mg.ex1 : Mg.right 1 2 7 1 1 33 46340 [] = 0 ∧ Mg.printS 1 2 7 1 1 33 46340 [] = [49, 32, 50, 32, 55, 32, 49, 32, 97, 115, 107, 32, 51, 51, 32, 52, 54, 51, 52, 48] := by
  have h : Mg.right 1 2 7 1 1 33 46340 [] = 0 := by decide
  refine ⟨h, ?_⟩
  unfold Mg.printS
  rw [if_pos h]
  decide +kernel
theorem Mg.ex2 : Mg.right 1 2 7 1 1 33 46340 [112, 108, 101, 97, 115, 101, 32, 104, 117, 114, 114, 121] = 0 ∧ Mg.printS 1 2 7 1 1 33 46340 [112, 108, 101, 97, 115, 101, 32, 104, 117, 114, 114, 121] = [49, 32, 50, 32, 55, 32, 49, 32, 97, 115, 107, 32, 51, 51, 32, 52, 54, 51, 52, 48, 32, 112, 108, 101, 97, 115, 101, 32, 104, 117, 114, 114, 121] := by
  have h : Mg.right 1 2 7 1 1 33 46340 [112, 108, 101, 97, 115, 101, 32, 104, 117, 114, 114, 121] = 0 := by decide +kernel
  refine ⟨h, ?_⟩
  unfold Mg.printS
  rw [if_pos h]
  decide +kernel
theorem Mg.ex3 : (Mg.parse [49, 32, 50, 32, 55, 32, 48, 49, 32, 97, 115, 107, 32, 51, 51, 32, 52, 54, 51, 52, 48]).1 = 3 := by decide +kernel
theorem Mg.ex4 : (Mg.parse [49, 32, 50, 32, 55, 32, 49, 32, 97, 115, 107, 32, 51, 51, 32, 52, 54, 51, 52, 48, 32]).1 = 3 := by decide +kernel
theorem Mg.ex5 : (Mg.parse [49, 32, 49, 32, 55, 32, 49, 32, 97, 115, 107, 32, 51, 51, 32, 52, 54, 51, 52, 48]).1 = 1 := by decide +kernel
theorem Mg.ex6 : (Mg.parse [49, 32, 57, 32, 55, 32, 49, 32, 121, 101, 115, 32, 48, 32, 48]).1 = 2 := by decide +kernel

theorem Mg.cells_err {l : List UInt8} (h : (Mg.parse l).1 ≠ 0) : Mg.cells (Mg.parse l).2 = #[.int .i64 0, .int .i64 0, .int .i64 0, .int .i64 0, .int .i64 0, .int .i64 0, .int .i64 0, .string ⟨#[]⟩] := by
  unfold Mg.parse at h ⊢
  split
  · rfl
  · rename_i h1
    rw [if_neg h1] at h
    split
    · rename_i h2
      rw [if_pos h2] at h
      exact absurd rfl h
    · rfl

set_option maxHeartbeats 2000000 in
theorem alive_c (w : World) (hG : G w) :
    Calls Tryd.prog 11 #[] w fun e w' => e = .returned (.bool true) ∧ Below w.heap.size w w' := by
  go_enter Tryd.func11, Tryd.ntmps11
  go_wp2_with fail
  have a0 := (Below.refl w.heap.size w).alloc (Nat.le_refl _) (.cells #[.int .i64 1, .int .i64 2, .int .i64 7, .int .i64 1, .int .i64 1, .int .i64 33, .int .i64 46340, .string ⟨#[]⟩] 23)
  have k0 := heap_alloc_new w (.cells #[.int .i64 1, .int .i64 2, .int .i64 7, .int .i64 1, .int .i64 1, .int .i64 33, .int .i64 46340, .string ⟨#[]⟩] 23)
  refine (print_i 1 2 7 1 1 33 46340 ⟨#[]⟩ _ (by decide) (hG.below a0)).mono ?_
  rintro e w1 ⟨rfl, hb1⟩
  rw [show Mg.right 1 2 7 1 1 33 46340 (⟨#[]⟩ : ByteArray).data.toList = 0 from Mg.ex1.1, show Mg.printS 1 2 7 1 1 33 46340 (⟨#[]⟩ : ByteArray).data.toList = [49, 32, 50, 32, 55, 32, 49, 32, 97, 115, 107, 32, 51, 51, 32, 52, 54, 51, 52, 48] from Mg.ex1.2]
  have k1 := Tx.blk_later k0 hb1
  have a1 := a0.trans (hb1.mono a0.size)
  obtain ⟨c1, f1, l1⟩ := Tx.blk k1
  have K1 := Lib.hid k1; clear k0 k1
  go_wp2_with fail
  have a2 := a1.alloc a1.size (.cells #[.int .i64 1, .int .i64 2, .int .i64 7, .int .i64 1, .int .i64 1, .int .i64 33, .int .i64 46340, .string ⟨#[112, 108, 101, 97, 115, 101, 32, 104, 117, 114, 114, 121]⟩] 23)
  have m0 := heap_alloc_new w1 (.cells #[.int .i64 1, .int .i64 2, .int .i64 7, .int .i64 1, .int .i64 1, .int .i64 33, .int .i64 46340, .string ⟨#[112, 108, 101, 97, 115, 101, 32, 104, 117, 114, 114, 121]⟩] 23)
  refine (print_i 1 2 7 1 1 33 46340 ⟨#[112, 108, 101, 97, 115, 101, 32, 104, 117, 114, 114, 121]⟩ _ (by decide) (hG.below a2)).mono ?_
  rintro e w2 ⟨rfl, hb2⟩
  rw [show Mg.right 1 2 7 1 1 33 46340 (⟨#[112, 108, 101, 97, 115, 101, 32, 104, 117, 114, 114, 121]⟩ : ByteArray).data.toList = 0 from Mg.ex2.1, show Mg.printS 1 2 7 1 1 33 46340 (⟨#[112, 108, 101, 97, 115, 101, 32, 104, 117, 114, 114, 121]⟩ : ByteArray).data.toList = [49, 32, 50, 32, 55, 32, 49, 32, 97, 115, 107, 32, 51, 51, 32, 52, 54, 51, 52, 48, 32, 112, 108, 101, 97, 115, 101, 32, 104, 117, 114, 114, 121] from Mg.ex2.2]
  have m2 := Tx.blk_later m0 hb2
  have k2 := Tx.blk_later K1.out ((Tx.newb w1 (.cells #[.int .i64 1, .int .i64 2, .int .i64 7, .int .i64 1, .int .i64 1, .int .i64 33, .int .i64 46340, .string ⟨#[112, 108, 101, 97, 115, 101, 32, 104, 117, 114, 114, 121]⟩] 23)).trans (hb2.mono (by simp)))
  have a3 := a2.trans (hb2.mono a2.size)
  have M2 := Lib.hid m2; have K2 := Lib.hid k2
  clear m0 m2 k2 c1 f1 l1
  go_wp2_with fail
  refine (parse_i ⟨#[49, 32, 50, 32, 55, 32, 48, 49, 32, 97, 115, 107, 32, 51, 51, 32, 52, 54, 51, 52, 48]⟩ _ (by decide) (hG.below a3)).mono ?_
  rintro e w3 ⟨rfl, hb3⟩
  rw [show Mg.cells (Mg.parse (⟨#[49, 32, 50, 32, 55, 32, 48, 49, 32, 97, 115, 107, 32, 51, 51, 32, 52, 54, 51, 52, 48]⟩ : ByteArray).data.toList).2 = #[.int .i64 0, .int .i64 0, .int .i64 0, .int .i64 0, .int .i64 0, .int .i64 0, .int .i64 0, .string ⟨#[]⟩] from Mg.cells_err (by rw [Mg.ex3]; decide), show (Mg.parse (⟨#[49, 32, 50, 32, 55, 32, 48, 49, 32, 97, 115, 107, 32, 51, 51, 32, 52, 54, 51, 52, 48]⟩ : ByteArray).data.toList).1 = 3 from Mg.ex3]
  have p3 := a3.trans (hb3.mono a3.size)
  have q3 := p3.alloc p3.size (.cells #[.int .i64 0, .int .i64 0, .int .i64 0, .int .i64 0, .int .i64 0, .int .i64 0, .int .i64 0, .string ⟨#[]⟩] 23)
  have r3 := Tx.newb w3 (.cells #[.int .i64 0, .int .i64 0, .int .i64 0, .int .i64 0, .int .i64 0, .int .i64 0, .int .i64 0, .string ⟨#[]⟩] 23)
  go_wp2_with fail
  refine (parse_i ⟨#[49, 32, 50, 32, 55, 32, 49, 32, 97, 115, 107, 32, 51, 51, 32, 52, 54, 51, 52, 48, 32]⟩ _ (by decide) (hG.below q3)).mono ?_
  rintro e w4 ⟨rfl, hb4⟩
  rw [show Mg.cells (Mg.parse (⟨#[49, 32, 50, 32, 55, 32, 49, 32, 97, 115, 107, 32, 51, 51, 32, 52, 54, 51, 52, 48, 32]⟩ : ByteArray).data.toList).2 = #[.int .i64 0, .int .i64 0, .int .i64 0, .int .i64 0, .int .i64 0, .int .i64 0, .int .i64 0, .string ⟨#[]⟩] from Mg.cells_err (by rw [Mg.ex4]; decide), show (Mg.parse (⟨#[49, 32, 50, 32, 55, 32, 49, 32, 97, 115, 107, 32, 51, 51, 32, 52, 54, 51, 52, 48, 32]⟩ : ByteArray).data.toList).1 = 3 from Mg.ex4]
  have p4 := q3.trans (hb4.mono q3.size)
  have q4 := p4.alloc p4.size (.cells #[.int .i64 0, .int .i64 0, .int .i64 0, .int .i64 0, .int .i64 0, .int .i64 0, .int .i64 0, .string ⟨#[]⟩] 23)
  have r4 := Tx.newb w4 (.cells #[.int .i64 0, .int .i64 0, .int .i64 0, .int .i64 0, .int .i64 0, .int .i64 0, .int .i64 0, .string ⟨#[]⟩] 23)
  go_wp2_with fail
  refine (parse_i ⟨#[49, 32, 49, 32, 55, 32, 49, 32, 97, 115, 107, 32, 51, 51, 32, 52, 54, 51, 52, 48]⟩ _ (by decide) (hG.below q4)).mono ?_
  rintro e w5 ⟨rfl, hb5⟩
  rw [show Mg.cells (Mg.parse (⟨#[49, 32, 49, 32, 55, 32, 49, 32, 97, 115, 107, 32, 51, 51, 32, 52, 54, 51, 52, 48]⟩ : ByteArray).data.toList).2 = #[.int .i64 0, .int .i64 0, .int .i64 0, .int .i64 0, .int .i64 0, .int .i64 0, .int .i64 0, .string ⟨#[]⟩] from Mg.cells_err (by rw [Mg.ex5]; decide), show (Mg.parse (⟨#[49, 32, 49, 32, 55, 32, 49, 32, 97, 115, 107, 32, 51, 51, 32, 52, 54, 51, 52, 48]⟩ : ByteArray).data.toList).1 = 1 from Mg.ex5]
  have p5 := q4.trans (hb5.mono q4.size)
  have q5 := p5.alloc p5.size (.cells #[.int .i64 0, .int .i64 0, .int .i64 0, .int .i64 0, .int .i64 0, .int .i64 0, .int .i64 0, .string ⟨#[]⟩] 23)
  have r5 := Tx.newb w5 (.cells #[.int .i64 0, .int .i64 0, .int .i64 0, .int .i64 0, .int .i64 0, .int .i64 0, .int .i64 0, .string ⟨#[]⟩] 23)
  go_wp2_with fail
  refine (parse_i ⟨#[49, 32, 57, 32, 55, 32, 49, 32, 121, 101, 115, 32, 48, 32, 48]⟩ _ (by decide) (hG.below q5)).mono ?_
  rintro e w6 ⟨rfl, hb6⟩
  rw [show Mg.cells (Mg.parse (⟨#[49, 32, 57, 32, 55, 32, 49, 32, 121, 101, 115, 32, 48, 32, 48]⟩ : ByteArray).data.toList).2 = #[.int .i64 0, .int .i64 0, .int .i64 0, .int .i64 0, .int .i64 0, .int .i64 0, .int .i64 0, .string ⟨#[]⟩] from Mg.cells_err (by rw [Mg.ex6]; decide), show (Mg.parse (⟨#[49, 32, 57, 32, 55, 32, 49, 32, 121, 101, 115, 32, 48, 32, 48]⟩ : ByteArray).data.toList).1 = 2 from Mg.ex6]
  have p6 := q5.trans (hb6.mono q5.size)
  have q6 := p6.alloc p6.size (.cells #[.int .i64 0, .int .i64 0, .int .i64 0, .int .i64 0, .int .i64 0, .int .i64 0, .int .i64 0, .string ⟨#[]⟩] 23)
  have r6 := Tx.newb w6 (.cells #[.int .i64 0, .int .i64 0, .int .i64 0, .int .i64 0, .int .i64 0, .int .i64 0, .int .i64 0, .string ⟨#[]⟩] 23)
  go_wp2_with fail
  have s2 : Below w2.heap.size w2 (w6.alloc (.cells #[.int .i64 0, .int .i64 0, .int .i64 0, .int .i64 0, .int .i64 0, .int .i64 0, .int .i64 0, .string ⟨#[]⟩] 23)) := Tx.step (Tx.step (Tx.step (Tx.step (Tx.step (Tx.step (Tx.step hb3 r3) hb4) r4) hb5) r5) hb6) r6
  have k6 := Tx.blk_later K2.out s2
  have m6 := Tx.blk_later M2.out s2
  refine (name_i 11 _).mono ?_
  rintro e w7 ⟨rfl, hb7⟩
  have k7 := Tx.blk_later k6 hb7
  have m7 := Tx.blk_later m6 hb7
  have q7 := q6.trans (hb7.mono q6.size)
  have K7 := Lib.hid k7; have M7 := Lib.hid m7; clear k6 m6 k7 m7
  rw [show Mg.nameOf 11 = [99, 97, 110, 99, 101, 108] from by decide]
  go_wp2_with fail
  refine (name_i 12 _).mono ?_
  rintro e w8 ⟨rfl, hb8⟩
  have k8 := Tx.blk_later K7.out hb8
  have m8 := Tx.blk_later M7.out hb8
  obtain ⟨c8, f8, l8⟩ := Tx.blk k8
  have q8 := q7.trans (hb8.mono q7.size)
  have K8 := Lib.hid k8; have M8 := Lib.hid m8; clear k8 m8
  rw [show Mg.nameOf 12 = [] from by decide]
  go_wp2_with fail
  refine (same_i 1 2 7 1 1 33 46340 1 2 7 1 1 33 46340 ⟨#[]⟩ ⟨#[]⟩ _).mono ?_
  rintro e w9 ⟨rfl, hb9⟩
  have k9 := Tx.blk_later K8.out hb9
  have m9 := Tx.blk_later M8.out hb9
  clear c8 f8 l8
  obtain ⟨c9, f9, l9⟩ := Tx.blk k9
  obtain ⟨d9, g9, n9⟩ := Tx.blk m9
  have q9 := q8.trans (hb9.mono q8.size)
  have K9 := Lib.hid k9; have M9 := Lib.hid m9; clear k9 m9
  rw [show Mg.sameB 1 2 7 1 1 33 46340 1 2 7 1 1 33 46340 ⟨#[]⟩ ⟨#[]⟩ = true from by simp [Mg.sameB]]
  go_wp2_with fail
  refine (same_i 1 2 7 1 1 33 46340 1 2 7 1 1 33 46340 ⟨#[]⟩ ⟨#[112, 108, 101, 97, 115, 101, 32, 104, 117, 114, 114, 121]⟩ _).mono ?_
  rintro e w10 ⟨rfl, hb10⟩
  have k10 := Tx.blk_later K9.out hb10
  clear c9 f9 l9 d9 g9 n9
  obtain ⟨c10, f10, l10⟩ := Tx.blk k10
  have q10 := q9.trans (hb10.mono q9.size)
  clear k10
  rw [show Mg.sameB 1 2 7 1 1 33 46340 1 2 7 1 1 33 46340 ⟨#[]⟩ ⟨#[112, 108, 101, 97, 115, 101, 32, 104, 117, 114, 114, 121]⟩ = false from by simp [Mg.sameB, Lib.toList_data]]
  go_wp2_with fail
  refine (right_i 1 2 7 1 1 33 46340 ⟨#[]⟩ _ (by decide) (hG.below q10)).mono ?_
  rintro e w11 ⟨rfl, hb11⟩
  rw [show Mg.right 1 2 7 1 1 33 46340 (⟨#[]⟩ : ByteArray).data.toList = 0 from Mg.ex1.1]
  clear c10 f10 l10
  go_wp2
  go_ret
  exact ⟨rfl, q10.trans (hb11.mono q10.size)⟩
end Go.Proofs.YtbacgfokgphgeaaDoor
