/- Layer 14: the law ControlPuts: what its call returns. -/
import Derived.Test.YtlinaeklhkfbcaaGreatDoorLvM
import Derived.Test.YtlinaeklhkfbcaaGreatDoorPuC
import Derived.Test.YtlinaeklhkfbcaaGreatDoorSaM
import Derived.Deep.RegionHeld3
namespace Go.Proofs.YtlinaeklhkfbcaaGreatDoor
open Go.RowKit
set_option maxRecDepth 100000

def Ct.shortB (s : ByteArray) : Bool := decide (1 ≤ s.size ∧ s.size ≤ 300) && Tx.valid s.data.toList
set_option maxHeartbeats 1600000 in
theorem short_c (s : ByteArray) (w : World) :
    Calls Tryz.prog 8 #[.string s] w fun e w' => e = .returned (.bool (Ct.shortB s)) ∧ Below w.heap.size w w' := by
  by_cases h1 : 1 ≤ s.size
  · by_cases h2 : s.size ≤ 300
    · have HZ : Hid (Ct.shortB s = Tx.valid s.data.toList) := Lib.hid (by unfold Ct.shortB; simp [h1, h2])
      have d1 : decide ((1 : Int) ≤ (s.size : Int)) = true := by simp; omega
      have d2 : decide ((s.size : Int) ≤ 300) = true := by simp; omega
      go_enter Tryz.func8, Tryz.ntmps8
      go_wp2_with (go_at_call 24; refine (r01_Valid_c s _ (by omega)).mono ?_; rintro e w1 ⟨rfl, hb1⟩)
      go_ret
      exact ⟨Tx.retb HZ.out.symm, hb1⟩
    · have HZ : Hid (Ct.shortB s = false) := Lib.hid (by unfold Ct.shortB; simp [h2])
      have d1 : decide ((1 : Int) ≤ (s.size : Int)) = true := by simp; omega
      have d2 : decide ((s.size : Int) ≤ 300) = false := by simp; omega
      go_enter Tryz.func8, Tryz.ntmps8
      go_wp2
      go_ret
      exact ⟨Tx.retb HZ.out.symm, Below.refl _ _⟩
  · have HZ : Hid (Ct.shortB s = false) := Lib.hid (by unfold Ct.shortB; simp [h1])
    have d1 : decide ((1 : Int) ≤ (s.size : Int)) = false := by simp; omega
    go_enter Tryz.func8, Tryz.ntmps8
    go_wp2
    go_ret
    exact ⟨Tx.retb HZ.out.symm, Below.refl _ _⟩

set_option maxHeartbeats 6400000 in
theorem puts_law (f : Rc.Fl) (a : Option Addr) (c : Nat) (s : ByteArray) (w : World) (hG : G w) (hStd : Ct.StdW w) (h : Rc.SubA w a c f.subs) :
    Calls Tryz.prog 3 #[.agg #[.string f.tag, .string f.ind, .slice a f.subs.length c, .int .i64 f.auth], .string s] w fun e w' => e = .returned (.bool true) ∧ Below w.heap.size w w' := by
  obtain ⟨W, hW⟩ : ∃ W, w.alloc (.cells #[.string f.tag, .string f.ind, .slice a f.subs.length c, .int .i64 f.auth] 24) = W := ⟨_, rfl⟩
  have hbc : Below w.heap.size w W := by rw [← hW]; exact Tx.newb _ _
  have c0 : W.cell? ⟨w.heap.size, 0, none⟩ = some (.string f.tag) := by rw [← hW]; simp
  have c1 : W.cell? ⟨w.heap.size, 1, none⟩ = some (.string f.ind) := by rw [← hW]; simp
  have c2 : W.cell? ⟨w.heap.size, 2, none⟩ = some (.slice a f.subs.length c) := by rw [← hW]; simp
  have c3 : W.cell? ⟨w.heap.size, 3, none⟩ = some (.int .i64 f.auth) := by rw [← hW]; simp
  have hS := h.below hbc
  have hmx : maxLen = 9223372036854775807 := rfl
  replace hG := hG.below hbc
  have hStdW : Ct.StdW W := hStd.below hbc
  clear hStd h
  cases hv : Rc.smallF f with
  | false =>
    have HV := Lib.hid hv; clear hv
    go_enter Tryz.func3, Tryz.ntmps3
    go_wp2_with (first
      | (go_at_call 7; refine (SmallField_c f a c _ hS).mono ?_; rintro e wA ⟨rfl, hb1⟩; rw [HV.out]; clear hW)
      | (go_at_call 9; refine (alive_c _ (hG.below hb1) (hStdW.below hb1)).mono ?_; rintro e wB ⟨rfl, hb2⟩))
    go_ret
    exact ⟨rfl, Tx.step hbc (Tx.step hb1 hb2)⟩
  | true =>
    cases hs : Ct.shortB s with
    | false =>
      have HV := Lib.hid hv; clear hv
      have HS := Lib.hid hs; clear hs
      go_enter Tryz.func3, Tryz.ntmps3
      go_wp2_with (first
        | (go_at_call 7; refine (SmallField_c f a c _ hS).mono ?_; rintro e wA ⟨rfl, hb1⟩; rw [HV.out]; clear hW)
        | (go_at_call 8; refine (short_c s _).mono ?_; rintro e wB ⟨rfl, hb2⟩; rw [HS.out]; have hb12 := Tx.step hb1 hb2)
        | (go_at_call 9; refine (alive_c _ (hG.below hb12) (hStdW.below hb12)).mono ?_; rintro e wC ⟨rfl, hb3⟩))
      go_ret
      exact ⟨rfl, Tx.step hbc (Tx.step hb12 hb3)⟩
    | true =>
      have hsm : f.subs.length ≤ 1000 := by
        have := of_decide_eq_true (show decide (f.subs.length ≤ 20 ∧ ∀ x ∈ f.subs, x.2.size ≤ 300) = true from hv)
        omega
      have hsh := hs
      unfold Ct.shortB at hsh
      rw [Bool.and_eq_true, decide_eq_true_iff] at hsh
      have HL := Lib.hid hsm; clear hsm
      have HZ : Hid (s.size ≤ 1000) := Lib.hid (by omega)
      have HD := Lib.hid hsh.2; clear hsh
      have HV := Lib.hid hv; clear hv
      have HS := Lib.hid hs; clear hs
      obtain ⟨P, hP⟩ : ∃ P, Ct.putF f s.data.toList = P := ⟨_, rfl⟩
      have HP := Lib.hid hP; clear hP
      go_enter Tryz.func3, Tryz.ntmps3
      go_upto_region 3 with (first
        | (go_at_call 7; refine (SmallField_c f a c _ hS).mono ?_; rintro e wA ⟨rfl, hb1⟩; rw [HV.out]; clear hW; replace hG := hG.below hb1; replace hStdW := hStdW.below hb1; replace hbc := Tx.step hbc hb1; replace hS := hS.below hb1; replace c0 := cell_later hb1 c0; replace c1 := cell_later hb1 c1; replace c2 := cell_later hb1 c2; replace c3 := cell_later hb1 c3; clear hb1)
        | (go_at_call 8; refine (short_c s _).mono ?_; rintro e wB ⟨rfl, hb1⟩; rw [HS.out]; replace hG := hG.below hb1; replace hStdW := hStdW.below hb1; replace hbc := Tx.step hbc hb1; replace hS := hS.below hb1; replace c0 := cell_later hb1 c0; replace c1 := cell_later hb1 c1; replace c2 := cell_later hb1 c2; replace c3 := cell_later hb1 c3; clear hb1))
      go_wp2
      go_region_held3 (fun w' => Below wB.heap.size wB w' ∧ w'.cell? ⟨w.heap.size, 0, none⟩ = some (.string f.tag) ∧ w'.cell? ⟨w.heap.size, 1, none⟩ = some (.string f.ind) ∧ w'.cell? ⟨w.heap.size, 2, none⟩ = some (.slice a f.subs.length c) ∧ w'.cell? ⟨w.heap.size, 3, none⟩ = some (.int .i64 f.auth))
        (first | exact ⟨(Below.refl _ _).drew, c0, c1, c2, c3⟩ | (go_split_ands; exact ⟨Tx.step (by assumption) hbx, cell_later hbx (by assumption), cell_later hbx (by assumption), cell_later hbx (by assumption), cell_later hbx (by assumption)⟩))
        (first
          | (go_split_ands; go_at_call 11; refine (control_Put_c f a c s _ (hG.below (by assumption)) (hStdW.below (by assumption)) (hS.below (by assumption)) HL.out HZ.out HD.out).mono ?_; rintro e wx ⟨va, vc, rfl, hA1, hbx, _⟩; rw [HP.out] at hA1 ⊢; try (have hJ1 := hA2.below hbx))
          | (go_split_ands; go_at_call 12; refine (r14_Put_c f a c s _ (hS.below (by assumption)) HL.out HZ.out HD.out).mono ?_; rintro e wx ⟨vb, vd, rfl, hA2, hbx⟩; rw [HP.out] at hA2 ⊢; try (have hJ2 := hA1.below hbx))
          | (go_split_ands; go_at_call 10; refine (r07_Same_c ⟨f.tag, f.ind, P.subs, f.auth⟩ va vb vc vd _ (by assumption) (by assumption)).mono ?_; rintro e wx ⟨rfl, hbx⟩)
          | (go_split_ands; go_at_call 9; refine (alive_c _ (hG.below (by assumption)) (hStdW.below (by assumption))).mono ?_; rintro e wx ⟨rfl, hbx⟩))
      all_goals
        go_split_ands
        go_wp2
        go_ret
        exact ⟨Tx.retb (by simp), Tx.step hbc (by assumption)⟩
end Go.Proofs.YtlinaeklhkfbcaaGreatDoor
