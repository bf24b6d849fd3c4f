/- Layer 14: the law ControlLists: what its call returns. -/
import Derived.Test.YtlinaeklhkfbcaaGreatDoorLvM
import Derived.Test.YtlinaeklhkfbcaaGreatDoorLoM
import Derived.Test.YtlinaeklhkfbcaaGreatDoorSaM
import Derived.Deep.RegionHeld3
namespace Go.Proofs.YtlinaeklhkfbcaaGreatDoor
open Go.RowKit
set_option maxRecDepth 100000

theorem Loose_i (fs : List Rc.Fl) (a : Option Addr) (c : Nat) (id ver kind : Int) (lang : ByteArray) (w : World) (h : Rc.FldA w a c fs) (hS : Ct.StdW w) (hn : fs.length ≤ 1000000) (L : List Int) (hL : Ct.looseAt 0 fs = L) :
    Calls Tryz.prog 19 #[.agg #[.int .i64 id, .int .i64 ver, .int .i64 kind, .string lang, .slice a fs.length c]] w fun e w' => ∃ va vc, e = .returned (.slice va L.length vc) ∧ Ct.IA w' va vc L ∧ Below w.heap.size w w' := by
  subst hL
  refine (control_Loose_c fs a c id ver kind lang w h hS hn).mono ?_
  rintro e w' ⟨v, rfl, hown, hb⟩
  obtain ⟨va, vc, rfl, hI⟩ := Ct.IA.of_own hown rfl
  exact ⟨va, vc, rfl, hI, hb⟩
theorem Loose_j (fs : List Rc.Fl) (a : Option Addr) (c : Nat) (id ver kind : Int) (lang : ByteArray) (w : World) (h : Rc.FldA w a c fs) (hn : fs.length ≤ 1000000) (L : List Int) (hL : Ct.looseAt 0 fs = L) :
    Calls Tryz.prog 20 #[.agg #[.int .i64 id, .int .i64 ver, .int .i64 kind, .string lang, .slice a fs.length c]] w fun e w' => ∃ va vc, e = .returned (.slice va L.length vc) ∧ Ct.IA w' va vc L ∧ Below w.heap.size w w' := by
  subst hL
  refine (r14_Loose_c fs a c id ver kind lang w h hn).mono ?_
  rintro e w' ⟨v, rfl, hown, hb⟩
  obtain ⟨va, vc, rfl, hI⟩ := Ct.IA.of_own hown rfl
  exact ⟨va, vc, rfl, hI, hb⟩
theorem Uses_i (rs : List Rc.Rd) (a : Option Addr) (c : Nat) (id : Int) (w : World) (h : Rc.RdA w a c rs) (hn : rs.length ≤ 1000000) (L : List Int) (hL : Ct.uses rs id = L) :
    Calls Tryz.prog 21 #[.slice a rs.length c, .int .i64 id] w fun e w' => ∃ va vc, e = .returned (.slice va L.length vc) ∧ Ct.IA w' va vc L ∧ Below w.heap.size w w' := by
  subst hL
  refine (control_Uses_c rs a c id w h hn).mono ?_
  rintro e w' ⟨v, rfl, hown, hb⟩
  obtain ⟨va, vc, rfl, hI⟩ := Ct.IA.of_own hown rfl
  exact ⟨va, vc, rfl, hI, hb⟩
theorem Uses_j (rs : List Rc.Rd) (a : Option Addr) (c : Nat) (id : Int) (w : World) (h : Rc.RdA w a c rs) (hn : rs.length ≤ 1000000) (L : List Int) (hL : Ct.uses rs id = L) :
    Calls Tryz.prog 22 #[.slice a rs.length c, .int .i64 id] w fun e w' => ∃ va vc, e = .returned (.slice va L.length vc) ∧ Ct.IA w' va vc L ∧ Below w.heap.size w w' := by
  subst hL
  refine (r14_Uses_c rs a c id w h hn).mono ?_
  rintro e w' ⟨v, rfl, hown, hb⟩
  obtain ⟨va, vc, rfl, hI⟩ := Ct.IA.of_own hown rfl
  exact ⟨va, vc, rfl, hI, hb⟩
theorem same_i (xs : List Int) (a b : Option Addr) (c d : Nat) (w : World) (hx : Ct.IA w a c xs) (hy : Ct.IA w b d xs) :
    Calls Tryz.prog 18 #[.slice a xs.length c, .slice b xs.length d] w fun e w' => e = .returned (.bool true) ∧ Below w.heap.size w w' :=
  (same_c xs xs a b c d w hx hy).mono fun _ _ ⟨h1, h2⟩ => ⟨by rw [h1, decide_eq_true rfl], h2⟩
set_option maxHeartbeats 6400000 in
theorem lists_law (fs : List Rc.Fl) (a : Option Addr) (c : Nat) (id ver kind : Int) (lang : ByteArray) (rs : List Rc.Rd) (la : Option Addr) (lc : Nat) (n : Int) (w : World) (hG : G w) (hStd : Ct.StdW w) (h : Rc.FldA w a c fs) (hR : Rc.RdA w la lc rs) :
    Calls Tryz.prog 5 #[.agg #[.int .i64 id, .int .i64 ver, .int .i64 kind, .string lang, .slice a fs.length c], .slice la rs.length lc, .int .i64 n] w fun e w' => e = .returned (.bool true) ∧ Below w.heap.size w w' := by
  obtain ⟨W, hW⟩ : ∃ W, w.alloc (.cells #[.int .i64 id, .int .i64 ver, .int .i64 kind, .string lang, .slice a fs.length c] 38) = W := ⟨_, rfl⟩
  have hbc : Below w.heap.size w W := by rw [← hW]; exact Tx.newb _ _
  have c0 : W.cell? ⟨w.heap.size, 0, none⟩ = some (.int .i64 id) := by rw [← hW]; simp
  have c1 : W.cell? ⟨w.heap.size, 1, none⟩ = some (.int .i64 ver) := by rw [← hW]; simp
  have c2 : W.cell? ⟨w.heap.size, 2, none⟩ = some (.int .i64 kind) := by rw [← hW]; simp
  have c3 : W.cell? ⟨w.heap.size, 3, none⟩ = some (.string lang) := by rw [← hW]; simp
  have c4 : W.cell? ⟨w.heap.size, 4, none⟩ = some (.slice a fs.length c) := by rw [← hW]; simp
  have hS := h.below hbc
  have hmx : maxLen = 9223372036854775807 := rfl
  replace hG := hG.below hbc
  have hStdW : Ct.StdW W := hStd.below hbc
  replace hR := hR.below hbc
  clear hStd h
  cases hv : Rc.smallR fs with
  | false =>
    have HV := Lib.hid hv; clear hv
    go_enter Tryz.func5, Tryz.ntmps5
    go_wp2_with (first
      | (go_at_call 17; refine (Small_c fs a c id ver kind lang _ hS).mono ?_; rintro e wA ⟨rfl, hb1⟩; rw [HV.out]; clear hW)
      | (go_at_call 9; refine (alive_c _ (hG.below hb1) (hStdW.below hb1)).mono ?_; rintro e wB ⟨rfl, hb2⟩))
    go_ret
    exact ⟨rfl, Tx.step hbc (Tx.step hb1 hb2)⟩
  | true =>
    cases hs : Rc.smallRs rs 20 with
    | false =>
      have HV := Lib.hid hv; clear hv
      have HS := Lib.hid hs; clear hs
      go_enter Tryz.func5, Tryz.ntmps5
      go_wp2_with (first
        | (go_at_call 17; refine (Small_c fs a c id ver kind lang _ hS).mono ?_; rintro e wA ⟨rfl, hb1⟩; rw [HV.out]; clear hW)
        | (go_at_call 13; refine (SmallRecords_c rs la lc 20 _ (hR.below hb1)).mono ?_; rintro e wB ⟨rfl, hb2⟩; rw [HS.out]; have hb12 := Tx.step hb1 hb2)
        | (go_at_call 9; refine (alive_c _ (hG.below hb12) (hStdW.below hb12)).mono ?_; rintro e wC ⟨rfl, hb3⟩))
      go_ret
      exact ⟨rfl, Tx.step hbc (Tx.step hb12 hb3)⟩
    | true =>
      have hfl : fs.length ≤ 1000000 := Nat.le_trans (Rc.smallR_of hv).1 (by omega)
      have hrl : rs.length ≤ 1000000 := by have := (Rc.smallRs_of hs).1; omega
      have HFL := Lib.hid hfl
      have HRL := Lib.hid hrl
      have HV := Lib.hid hv; clear hv
      have HS := Lib.hid hs; clear hs
      obtain ⟨L1, hL1⟩ : ∃ L1, Ct.looseAt 0 fs = L1 := ⟨_, rfl⟩
      obtain ⟨L2, hL2⟩ : ∃ L2, Ct.uses rs n = L2 := ⟨_, rfl⟩
      have HL1 := Lib.hid hL1; clear hL1
      have HL2 := Lib.hid hL2; clear hL2
      go_enter Tryz.func5, Tryz.ntmps5
      go_upto_region 3 with (first
        | (go_at_call 17; refine (Small_c fs a c id ver kind lang _ hS).mono ?_; rintro e wA ⟨rfl, hb1⟩; rw [HV.out]; clear hW; replace hG := hG.below hb1; replace hStdW := hStdW.below hb1; replace hR := hR.below hb1; replace hbc := Tx.step hbc hb1; replace hS := hS.below hb1; replace c0 := cell_later hb1 c0; replace c1 := cell_later hb1 c1; replace c2 := cell_later hb1 c2; replace c3 := cell_later hb1 c3; replace c4 := cell_later hb1 c4; clear hb1)
        | (go_at_call 13; refine (SmallRecords_c rs la lc 20 _ hR).mono ?_; rintro e wB ⟨rfl, hb1⟩; rw [HS.out]; replace hG := hG.below hb1; replace hStdW := hStdW.below hb1; replace hR := hR.below hb1; replace hbc := Tx.step hbc hb1; replace hS := hS.below hb1; replace c0 := cell_later hb1 c0; replace c1 := cell_later hb1 c1; replace c2 := cell_later hb1 c2; replace c3 := cell_later hb1 c3; replace c4 := cell_later hb1 c4; clear hb1))
      go_wp2
      have v1 : True := trivial
      go_region_held3 (fun w' => Below wB.heap.size wB w' ∧ w'.cell? ⟨w.heap.size, 0, none⟩ = some (.int .i64 id) ∧ w'.cell? ⟨w.heap.size, 1, none⟩ = some (.int .i64 ver) ∧ w'.cell? ⟨w.heap.size, 2, none⟩ = some (.int .i64 kind) ∧ w'.cell? ⟨w.heap.size, 3, none⟩ = some (.string lang) ∧ w'.cell? ⟨w.heap.size, 4, none⟩ = some (.slice a fs.length c))
        (first | exact ⟨(Below.refl _ _).drew, c0, c1, c2, c3, c4⟩ | (go_split_ands; exact ⟨Tx.step (by assumption) hbx, cell_later hbx (by assumption), cell_later hbx (by assumption), cell_later hbx (by assumption), cell_later hbx (by assumption), cell_later hbx (by assumption)⟩))
        (first
          | (go_split_ands; go_at_call 19; refine (Loose_i fs a c id ver kind lang _ (hS.below (by assumption)) (hStdW.below (by assumption)) HFL.out L1 HL1.out).mono ?_; rintro e wx ⟨va, vc, rfl, hI1, hbx⟩; try (have hJ1 := hI2.below hbx))
          | (go_split_ands; go_at_call 20; refine (Loose_j fs a c id ver kind lang _ (hS.below (by assumption)) HFL.out L1 HL1.out).mono ?_; rintro e wx ⟨vb, vd, rfl, hI2, hbx⟩; try (have hJ2 := hI1.below hbx))
          | (go_split_ands; go_at_call 21; refine (Uses_i rs la lc n _ (hR.below (by assumption)) HRL.out L2 HL2.out).mono ?_; rintro e wx ⟨ua, uc, rfl, hI3, hbx⟩; try (have hJ3 := hI4.below hbx))
          | (go_split_ands; go_at_call 22; refine (Uses_j rs la lc n _ (hR.below (by assumption)) HRL.out L2 HL2.out).mono ?_; rintro e wx ⟨ub, ud, rfl, hI4, hbx⟩; try (have hJ4 := hI3.below hbx))
          | (go_split_ands; go_at_call 18; first
              | (refine (same_i L2 ua ub uc ud _ (by assumption) (by assumption)).mono ?_; rintro e wx ⟨rfl, hbx⟩)
              | (refine (same_i L1 va vb vc vd _ (by assumption) (by assumption)).mono ?_; rintro e wx ⟨rfl, hbx⟩))
          | (go_split_ands; go_at_call 9; refine (alive_c _ (hG.below (by assumption)) (hStdW.below (by assumption))).mono ?_; rintro e wx ⟨rfl, hbx⟩))
      all_goals
        go_split_ands
        go_wp2
        go_ret
        exact ⟨Tx.retb (by simp), Tx.step hbc (by assumption)⟩
end Go.Proofs.YtlinaeklhkfbcaaGreatDoor
