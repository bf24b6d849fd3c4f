/- Layer 41: within, clean, note, Right: what the calls return, of the program and of the reference. -/
import Derived.Test.YtbacgfokgphgeaaDoorNmB
namespace Go.Proofs.YtbacgfokgphgeaaDoor
open Go.RowKit
set_option maxRecDepth 100000

namespace Mg
/-- A number within limits. -/
def inB (n a b : Int) : Bool := decide (a ≤ n) && decide (n ≤ b)
theorem inB_true {n a b : Int} : inB n a b = true ↔ a ≤ n ∧ n ≤ b := by simp [inB]
theorem inB_false {n a b : Int} : inB n a b = false ↔ ¬ (a ≤ n ∧ n ≤ b) := by rw [← inB_true]; simp
/-- A clean text. -/
def noteB (l : List UInt8) : Bool := Tx.valid l && (Tx.clean l == l)
/-- What Right returns. -/
def right (f t r s k rc d : Int) (l : List UInt8) : Int :=
  if inB f 1 4 = false ∨ inB t 1 4 = false then 2
  else if f = t then 1
  else if inB r 1 9999 = false ∨ inB s 1 99 = false then 2
  else if inB k 1 11 = false then 1
  else if inB rc 0 9999 = false ∨ (k = 1 ∧ rc = 0) ∨ inB d 0 109572 = false then 2
  else if noteB l = false then 3
  else if 40 < l.length then 4
  else 0
end Mg

set_option maxHeartbeats 400000 in
theorem within_i (n a b : Int) (w : World) :
    Calls Tryd.prog 19 #[.int .i64 n, .int .i64 a, .int .i64 b] w fun e w' => e = .returned (.bool (Mg.inB n a b)) ∧ w = w' := by
  go_enter Tryd.func19, Tryd.ntmps19
  go_wp2
  all_goals go_ret
  · simp [Mg.inB, *]
  · have h : ¬ a ≤ n := by omega
    simp [Mg.inB, h]

set_option maxHeartbeats 400000 in
theorem within_r (n a b : Int) (w : World) :
    Calls Tryd.prog 21 #[.int .i64 n, .int .i64 a, .int .i64 b] w fun e w' => e = .returned (.bool (Mg.inB n a b)) ∧ w = w' := by
  go_enter Tryd.func21, Tryd.ntmps21
  go_wp2
  all_goals go_ret
  · simp [Mg.inB, *]
  · have h : ¬ a ≤ n := by omega
    simp [Mg.inB, h]

set_option maxHeartbeats 400000 in
theorem clean_i (s : ByteArray) (w : World) (hs : s.size ≤ 1000000000) (hG : G w) :
    Calls Tryd.prog 20 #[.string s] w fun e w' => e = .returned (.bool (Mg.noteB s.data.toList)) ∧ Below w.heap.size w w' := by
  cases hv : Tx.valid s.data.toList with
  | false =>
    have HV := Lib.hid hv; clear hv
    go_enter Tryd.func20, Tryd.ntmps20
    go_wp2_with (go_at_call 32; refine (text_Valid_c s _ (by omega) hG).mono ?_; rintro e w1 ⟨rfl, hb1⟩; rw [HV.out])
    go_ret
    exact ⟨Tx.retb (by unfold Mg.noteB; rw [HV.out]; rfl), hb1⟩
  | true =>
    have HV := Lib.hid hv; clear hv
    go_enter Tryd.func20, Tryd.ntmps20
    go_wp2_with (first
      | (go_at_call 32; refine (text_Valid_c s _ (by omega) hG).mono ?_; rintro e w1 ⟨rfl, hb1⟩; rw [HV.out])
      | (go_at_call 33; refine (text_Clean_c s _ (by omega) HV.out).mono ?_; rintro e w2 ⟨rfl, hb2⟩))
    go_ret
    exact ⟨Tx.retb (by unfold Mg.noteB; rw [HV.out, Lib.toList_data]; rfl), hb1.trans (hb2.mono hb1.size)⟩

set_option maxHeartbeats 400000 in
theorem note_r (s : ByteArray) (w : World) (hs : s.size ≤ 1000000000) :
    Calls Tryd.prog 22 #[.string s] w fun e w' => e = .returned (.bool (Mg.noteB s.data.toList)) ∧ Below w.heap.size w w' := by
  cases hv : Tx.valid s.data.toList with
  | false =>
    have HV := Lib.hid hv; clear hv
    go_enter Tryd.func22, Tryd.ntmps22
    go_wp2_with (go_at_call 34; refine (r01_Valid_c s _ (by omega)).mono ?_; rintro e w1 ⟨rfl, hb1⟩; rw [HV.out])
    go_ret
    exact ⟨Tx.retb (by unfold Mg.noteB; rw [HV.out]; rfl), hb1⟩
  | true =>
    have HV := Lib.hid hv; clear hv
    go_enter Tryd.func22, Tryd.ntmps22
    go_wp2_with (first
      | (go_at_call 34; refine (r01_Valid_c s _ (by omega)).mono ?_; rintro e w1 ⟨rfl, hb1⟩; rw [HV.out])
      | (go_at_call 35; refine (r01_Clean_c s _ (by omega)).mono ?_; rintro e w2 ⟨rfl, hb2⟩))
    go_ret
    exact ⟨Tx.retb (by unfold Mg.noteB; rw [HV.out, Lib.toList_data]; rfl), hb1.trans (hb2.mono hb1.size)⟩

theorem Tx.bcell {B : Nat} {W w1 : World} (hb : Below B W w1) : ∀ b o, b < B → w1.cell? ⟨b, o, none⟩ = W.cell? ⟨b, o, none⟩ := fun b o h => hb.cell (p := ⟨b, o, none⟩) h

theorem Mg.in1 (n b : Int) : inB n 1 b = (inB n 0 b && !(n == 0)) := by
  rw [Bool.eq_iff_iff]
  simp [inB]
  omega

set_option maxHeartbeats 1600000 in
theorem right_i (f t r s k rc d : Int) (n : ByteArray) (w : World) (hs : n.size ≤ 1000000000) (hG : G w) :
    Calls Tryd.prog 9 #[.agg #[.int .i64 f, .int .i64 t, .int .i64 r, .int .i64 s, .int .i64 k, .int .i64 rc, .int .i64 d, .string n]] w fun e w' => e = .returned (.int .i64 (Mg.right f t r s k rc d n.data.toList)) ∧ Below w.heap.size w w' := by
  have HL := Lib.hid (Lib.size_eq n)
  have h0 := (Below.refl w.heap.size w).alloc (Nat.le_refl _) (.cells #[.int .i64 f, .int .i64 t, .int .i64 r, .int .i64 s, .int .i64 k, .int .i64 rc, .int .i64 d, .string n] 23)
  have hG1 := hG.below h0
  rcases Bool.eq_false_or_eq_true (k == 1) with hk | hk
  all_goals
    go_enter Tryd.func9, Tryd.ntmps9
    go_wp2_with (first
      | (go_at_call 19; refine (within_i _ _ _ _).mono ?_; rintro e w1 ⟨rfl, rfl⟩)
      | (go_at_call 20; refine (clean_i n _ hs hG1).mono ?_; rintro e w1 ⟨rfl, hb1⟩; have hc := Tx.bcell hb1))
    all_goals
      go_ret
      refine ⟨Tx.ret1 ?_, by first | exact h0 | exact h0.trans (hb1.mono (by simp)) | exact (Below.refl _ _).alloc (Nat.le_refl _) _⟩
      simp only [Mg.right, ← HL.out]
      repeat' split
      all_goals first | rfl | (exfalso; omega) | (exfalso; simp_all; done) | (exfalso; have h9 := Mg.in1 rc 9999; simp_all; done)

set_option maxHeartbeats 1600000 in
theorem right_r (f t r s k rc d : Int) (n : ByteArray) (w : World) (hs : n.size ≤ 1000000000) :
    Calls Tryd.prog 10 #[.agg #[.int .i64 f, .int .i64 t, .int .i64 r, .int .i64 s, .int .i64 k, .int .i64 rc, .int .i64 d, .string n]] w fun e w' => e = .returned (.int .i64 (Mg.right f t r s k rc d n.data.toList)) ∧ Below w.heap.size w w' := by
  have HL := Lib.hid (Lib.size_eq n)
  have h0 := (Below.refl w.heap.size w).alloc (Nat.le_refl _) (.cells #[.int .i64 f, .int .i64 t, .int .i64 r, .int .i64 s, .int .i64 k, .int .i64 rc, .int .i64 d, .string n] 23)
  rcases Bool.eq_false_or_eq_true (k == 1) with hk | hk
  all_goals
    go_enter Tryd.func10, Tryd.ntmps10
    go_wp2_with (first
      | (go_at_call 21; refine (within_r _ _ _ _).mono ?_; rintro e w1 ⟨rfl, rfl⟩)
      | (go_at_call 22; refine (note_r n _ hs).mono ?_; rintro e w1 ⟨rfl, hb1⟩; have hc := Tx.bcell hb1))
    all_goals
      go_ret
      refine ⟨Tx.ret1 ?_, by first | exact h0 | exact h0.trans (hb1.mono (by simp)) | exact (Below.refl _ _).alloc (Nat.le_refl _) _⟩
      simp only [Mg.right, ← HL.out]
      repeat' split
      all_goals first | rfl | (exfalso; omega) | (exfalso; simp_all; done)
end Go.Proofs.YtbacgfokgphgeaaDoor
