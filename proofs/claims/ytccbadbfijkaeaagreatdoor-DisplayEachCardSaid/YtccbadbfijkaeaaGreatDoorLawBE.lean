/- Layer 25: the laws DisplayBrief and DisplayFull: what their calls return. -/
import Derived.Test.YtccbadbfijkaeaaGreatDoorReM
import Derived.Test.YtccbadbfijkaeaaGreatDoorAlD
namespace Go.Proofs.YtccbadbfijkaeaaGreatDoor
open Go.RowKit
set_option maxRecDepth 100000

namespace Rc
theorem valid_of {fs : List Fl} {id ver kind : Int} {lang : ByteArray} (h : (smallR fs && decide (recE ⟨id, ver, kind, lang, fs⟩ = 0)) = true) : (∀ f ∈ fs, Okf f) ∧ fs.length ≤ 64 := by
  rw [Bool.and_eq_true, decide_eq_true_iff] at h
  have := recE_zero h.2
  exact ⟨this.2.2.2.2.2.2, this.2.2.2.2.2.1⟩
end Rc

set_option maxHeartbeats 3200000 in
theorem brief_law (fs : List Rc.Fl) (a : Option Addr) (c : Nat) (id ver kind : Int) (lang : ByteArray) (w : World) (hG : G w) (h : Rc.FldA w a c fs) :
    Calls Tryz.prog 3 #[.agg #[.int .i64 id, .int .i64 ver, .int .i64 kind, .string lang, .slice a fs.length c]] w fun e w' => e = .returned (.bool true) ∧ Below w.heap.size w w' := by
  obtain ⟨W, hW⟩ : ∃ W, w.alloc (.cells #[.int .i64 id, .int .i64 ver, .int .i64 kind, .string lang, .slice a fs.length c] 24) = W := ⟨_, rfl⟩
  have hbc : Below w.heap.size w W := by rw [← hW]; exact Tx.newb _ _
  have c0 : W.cell? ⟨w.heap.size, 0, none⟩ = some (.int .i64 id) := by rw [← hW]; simp
  have c1 : W.cell? ⟨w.heap.size, 1, none⟩ = some (.int .i64 ver) := by rw [← hW]; simp
  have c2 : W.cell? ⟨w.heap.size, 2, none⟩ = some (.int .i64 kind) := by rw [← hW]; simp
  have c3 : W.cell? ⟨w.heap.size, 3, none⟩ = some (.string lang) := by rw [← hW]; simp
  have c4 : W.cell? ⟨w.heap.size, 4, none⟩ = some (.slice a fs.length c) := by rw [← hW]; simp
  have hS := h.below hbc
  have hmx : maxLen = 9223372036854775807 := rfl
  replace hG := hG.below hbc
  cases hv : (Rc.smallR fs && decide (Rc.recE ⟨id, ver, kind, lang, fs⟩ = 0)) with
  | false =>
    have HV := Lib.hid hv; clear hv
    go_enter Tryz.func3, Tryz.ntmps3
    go_wp2_with (go_at_call 10; refine (alive_c _ hG).mono ?_; rintro e wA ⟨rfl, hb1⟩; clear hW; replace hbc := Tx.step hbc hb1; replace hS := hS.below hb1; replace c0 := cell_later hb1 c0; replace c1 := cell_later hb1 c1; replace c2 := cell_later hb1 c2; replace c3 := cell_later hb1 c3; replace c4 := cell_later hb1 c4; clear hb1)
    refine wp_region_held_drew (S := (fun w' => Below wA.heap.size wA w' ∧ w'.cell? ⟨w.heap.size, 0, none⟩ = some (.int .i64 id) ∧ w'.cell? ⟨w.heap.size, 1, none⟩ = some (.int .i64 ver) ∧ w'.cell? ⟨w.heap.size, 2, none⟩ = some (.int .i64 kind) ∧ w'.cell? ⟨w.heap.size, 3, none⟩ = some (.string lang) ∧ w'.cell? ⟨w.heap.size, 4, none⟩ = some (.slice a fs.length c))) (by kernel_rfl) ?_ (fun hHeld => ?_)
    · (first | exact ⟨(Below.refl _ _).drew, c0, c1, c2, c3, c4⟩ | (go_split_ands; exact ⟨Tx.step (by assumption) hbx, cell_later hbx (by assumption), cell_later hbx (by assumption), cell_later hbx (by assumption), cell_later hbx (by assumption), cell_later hbx (by assumption)⟩))
    refine wpAnyH_take (i := 0) (oi := ⟨some 5, _, _, _, _, _⟩) (v := .agg #[.int .i64 id, .int .i64 ver, .int .i64 kind, .string lang, .slice a fs.length c]) rfl (by kernel_rfl) (by kernel_rfl) (by kernel_rfl) (fun _ _ _ h => h) (Or.inl ⟨by rfl, ?_⟩) (by assumption) ?_
    · intro w hSw; (try dsimp only at hSw); go_simp
    simp only [Act.put, List.setIfInBounds_toArray, List.set_cons_zero, List.set_cons_succ]
    refine wpAnyH_ready (rs := [1]) (by kernel_rfl) (by simp) ?_
    refine AllReadyH.cons (o := ⟨some 6, _, _, _, _, _⟩) rfl (fun K hK => ?_) AllReadyH.nil
    go_simp
    go_split_ands
    go_at_call 11
    refine (valid_c fs a c id ver kind lang _ (hS.below (by assumption))).mono ?_
    rintro e wx ⟨rfl, hbx⟩
    rw [HV.out]
    go_wp2_with fail
    refine hK.out _ _ ?_ (fun hHeld => ?_)
    · (first | exact ⟨(Below.refl _ _).drew, c0, c1, c2, c3, c4⟩ | (go_split_ands; exact ⟨Tx.step (by assumption) hbx, cell_later hbx (by assumption), cell_later hbx (by assumption), cell_later hbx (by assumption), cell_later hbx (by assumption), cell_later hbx (by assumption)⟩))
    clear hK K
    try simp only [Act.put, List.setIfInBounds_toArray, List.set_cons_zero, List.set_cons_succ]
    refine wpAnyH_take (i := 2) (oi := ⟨some 7, _, _, _, _, _⟩) (v := .bool true) rfl (by kernel_rfl) (by kernel_rfl) (by kernel_rfl) (fun _ _ _ h => h) (Or.inl ⟨by rfl, ?_⟩) (by assumption) ?_
    · intro w hSw; (try dsimp only at hSw); go_simp
    simp only [Act.put, List.setIfInBounds_toArray, List.set_cons_zero, List.set_cons_succ]
    refine wpAnyH_take (i := 3) (oi := ⟨some 8, _, _, _, _, _⟩) (v := .bool true) rfl (by kernel_rfl) (by kernel_rfl) (by kernel_rfl) (fun _ _ _ h => h) (Or.inl ⟨by rfl, ?_⟩) (by assumption) ?_
    · intro w hSw; (try dsimp only at hSw); go_simp
    simp only [Act.put, List.setIfInBounds_toArray, List.set_cons_zero, List.set_cons_succ]
    refine wpAnyH_take (i := 4) (oi := ⟨some 9, _, _, _, _, _⟩) (v := undef) rfl (by kernel_rfl) (by kernel_rfl) (by kernel_rfl) (fun _ _ _ h => h) (Or.inr ⟨by rfl, rfl⟩) (by assumption) ?_
    simp only [Act.put, List.setIfInBounds_toArray, List.set_cons_zero, List.set_cons_succ]
    refine wpAnyH_take (i := 5) (oi := ⟨some 10, _, _, _, _, _⟩) (v := undef) rfl (by kernel_rfl) (by kernel_rfl) (by kernel_rfl) (fun _ _ _ h => h) (Or.inr ⟨by rfl, rfl⟩) (by assumption) ?_
    simp only [Act.put, List.setIfInBounds_toArray, List.set_cons_zero, List.set_cons_succ]
    refine wpAnyH_take (i := 6) (oi := ⟨some 11, _, _, _, _, _⟩) (v := undef) rfl (by kernel_rfl) (by kernel_rfl) (by kernel_rfl) (fun _ _ _ h => h) (Or.inr ⟨by rfl, rfl⟩) (by assumption) ?_
    simp only [Act.put, List.setIfInBounds_toArray, List.set_cons_zero, List.set_cons_succ]
    refine wpAnyH_take (i := 7) (oi := ⟨some 12, _, _, _, _, _⟩) (v := undef) rfl (by kernel_rfl) (by kernel_rfl) (by kernel_rfl) (fun _ _ _ h => h) (Or.inr ⟨by rfl, rfl⟩) (by assumption) ?_
    simp only [Act.put, List.setIfInBounds_toArray, List.set_cons_zero, List.set_cons_succ]
    refine wpAnyH_take (i := 8) (oi := ⟨some 13, _, _, _, _, _⟩) (v := undef) rfl (by kernel_rfl) (by kernel_rfl) (by kernel_rfl) (fun _ _ _ h => h) (Or.inr ⟨by rfl, rfl⟩) (by assumption) ?_
    simp only [Act.put, List.setIfInBounds_toArray, List.set_cons_zero, List.set_cons_succ]
    refine wpAnyH_take (i := 9) (oi := ⟨some 14, _, _, _, _, _⟩) (v := undef) rfl (by kernel_rfl) (by kernel_rfl) (by kernel_rfl) (fun _ _ _ h => h) (Or.inr ⟨by rfl, rfl⟩) (by assumption) ?_
    simp only [Act.put, List.setIfInBounds_toArray, List.set_cons_zero, List.set_cons_succ]
    refine wpAnyH_take (i := 10) (oi := ⟨some 15, _, _, _, _, _⟩) (v := undef) rfl (by kernel_rfl) (by kernel_rfl) (by kernel_rfl) (fun _ _ _ h => h) (Or.inr ⟨by rfl, rfl⟩) (by assumption) ?_
    simp only [Act.put, List.setIfInBounds_toArray, List.set_cons_zero, List.set_cons_succ]
    refine wpAnyH_take (i := 11) (oi := ⟨some 16, _, _, _, _, _⟩) (v := undef) rfl (by kernel_rfl) (by kernel_rfl) (by kernel_rfl) (fun _ _ _ h => h) (Or.inr ⟨by rfl, rfl⟩) (by assumption) ?_
    simp only [Act.put, List.setIfInBounds_toArray, List.set_cons_zero, List.set_cons_succ]
    refine wpAnyH_take (i := 12) (oi := ⟨some 17, _, _, _, _, _⟩) (v := undef) rfl (by kernel_rfl) (by kernel_rfl) (by kernel_rfl) (fun _ _ _ h => h) (Or.inr ⟨by rfl, rfl⟩) (by assumption) ?_
    simp only [Act.put, List.setIfInBounds_toArray, List.set_cons_zero, List.set_cons_succ]
    refine wpAnyH_take (i := 13) (oi := ⟨some 18, _, _, _, _, _⟩) (v := undef) rfl (by kernel_rfl) (by kernel_rfl) (by kernel_rfl) (fun _ _ _ h => h) (Or.inr ⟨by rfl, rfl⟩) (by assumption) ?_
    simp only [Act.put, List.setIfInBounds_toArray, List.set_cons_zero, List.set_cons_succ]
    refine wpAnyH_take (i := 14) (oi := ⟨some 19, _, _, _, _, _⟩) (v := undef) rfl (by kernel_rfl) (by kernel_rfl) (by kernel_rfl) (fun _ _ _ h => h) (Or.inr ⟨by rfl, rfl⟩) (by assumption) ?_
    simp only [Act.put, List.setIfInBounds_toArray, List.set_cons_zero, List.set_cons_succ]
    refine wpAnyH_take (i := 15) (oi := ⟨some 20, _, _, _, _, _⟩) (v := undef) rfl (by kernel_rfl) (by kernel_rfl) (by kernel_rfl) (fun _ _ _ h => h) (Or.inr ⟨by rfl, rfl⟩) (by assumption) ?_
    simp only [Act.put, List.setIfInBounds_toArray, List.set_cons_zero, List.set_cons_succ]
    refine wpAnyH_take (i := 16) (oi := ⟨some 21, _, _, _, _, _⟩) (v := .bool true) rfl (by kernel_rfl) (by kernel_rfl) (by kernel_rfl) (fun _ _ _ h => h) (Or.inl ⟨by rfl, ?_⟩) (by assumption) ?_
    · intro w hSw; (try dsimp only at hSw); go_simp
    simp only [Act.put, List.setIfInBounds_toArray, List.set_cons_zero, List.set_cons_succ]
    refine wpAnyH_take (i := 17) (oi := ⟨some 2, _, _, _, _, _⟩) (v := .bool true) rfl (by kernel_rfl) (by kernel_rfl) (by kernel_rfl) (fun _ _ _ h => h) (Or.inl ⟨by rfl, ?_⟩) (by assumption) ?_
    · intro w hSw; (try dsimp only at hSw); go_simp
    simp only [Act.put, List.setIfInBounds_toArray, List.set_cons_zero, List.set_cons_succ]
    refine wpAnyH_done (by kernel_rfl) ?_ _
    go_split_ands
    go_wp2
    go_ret
    exact ⟨Tx.retb (by simp), Tx.step hbc (by assumption)⟩
  | true =>
    obtain ⟨hk, hn⟩ := Rc.valid_of hv
    have HV := Lib.hid hv; clear hv
    have HK := Lib.hid hk
    have HG := Lib.hid (Rc.Okf.gds hk); clear hk
    obtain ⟨B, hB⟩ : ∃ B, Ds.brief fs = B := ⟨_, rfl⟩
    obtain ⟨C, hC⟩ : ∃ C, Ds.cite fs = C := ⟨_, rfl⟩
    have HB := Lib.hid hB; clear hB
    have HC := Lib.hid hC; clear hC
    go_enter Tryz.func3, Tryz.ntmps3
    go_wp2_with (go_at_call 10; refine (alive_c _ hG).mono ?_; rintro e wA ⟨rfl, hb1⟩; clear hW; replace hG := hG.below hb1; replace hbc := Tx.step hbc hb1; replace hS := hS.below hb1; replace c0 := cell_later hb1 c0; replace c1 := cell_later hb1 c1; replace c2 := cell_later hb1 c2; replace c3 := cell_later hb1 c3; replace c4 := cell_later hb1 c4; clear hb1)
    go_region_held3 (fun w' => Below wA.heap.size wA w' ∧ w'.cell? ⟨w.heap.size, 0, none⟩ = some (.int .i64 id) ∧ w'.cell? ⟨w.heap.size, 1, none⟩ = some (.int .i64 ver) ∧ w'.cell? ⟨w.heap.size, 2, none⟩ = some (.int .i64 kind) ∧ w'.cell? ⟨w.heap.size, 3, none⟩ = some (.string lang) ∧ w'.cell? ⟨w.heap.size, 4, none⟩ = some (.slice a fs.length c))
      (first | exact ⟨(Below.refl _ _).drew, c0, c1, c2, c3, c4⟩ | (go_split_ands; exact ⟨Tx.step (by assumption) hbx, cell_later hbx (by assumption), cell_later hbx (by assumption), cell_later hbx (by assumption), cell_later hbx (by assumption), cell_later hbx (by assumption)⟩))
      (first
        | (go_split_ands; go_at_call 11; refine (valid_c fs a c id ver kind lang _ (hS.below (by assumption))).mono ?_; rintro e wx ⟨rfl, hbx⟩; rw [HV.out])
        | (go_split_ands; go_at_call 12; refine (Brief_c fs a c id ver kind lang _ (hG.below (by assumption)) (hS.below (by assumption)) HG.out).mono ?_; rintro e wx ⟨rfl, hbx⟩; rw [HB.out])
        | (go_split_ands; go_at_call 13; refine (r25_Brief_c fs a c id ver kind lang _ (hS.below (by assumption)) HK.out hn).mono ?_; rintro e wx ⟨rfl, hbx⟩; rw [HB.out])
        | (go_split_ands; go_at_call 14; refine (Cite_c fs a c id ver kind lang _ (hG.below (by assumption)) (hS.below (by assumption)) HG.out).mono ?_; rintro e wx ⟨rfl, hbx⟩; rw [HC.out])
        | (go_split_ands; go_at_call 15; refine (r25_Cite_c fs a c id ver kind lang _ (hS.below (by assumption)) HK.out hn).mono ?_; rintro e wx ⟨rfl, hbx⟩; rw [HC.out]))
    all_goals
      go_split_ands
      go_wp2
      go_ret
      exact ⟨Tx.retb (by simp), Tx.step hbc (by assumption)⟩

set_option maxHeartbeats 3200000 in
theorem full_law (fs : List Rc.Fl) (a : Option Addr) (c : Nat) (id ver kind : Int) (lang : ByteArray) (w : World) (hG : G w) (h : Rc.FldA w a c fs) :
    Calls Tryz.prog 4 #[.agg #[.int .i64 id, .int .i64 ver, .int .i64 kind, .string lang, .slice a fs.length c]] w fun e w' => e = .returned (.bool true) ∧ Below w.heap.size w w' := by
  obtain ⟨W, hW⟩ : ∃ W, w.alloc (.cells #[.int .i64 id, .int .i64 ver, .int .i64 kind, .string lang, .slice a fs.length c] 24) = W := ⟨_, rfl⟩
  have hbc : Below w.heap.size w W := by rw [← hW]; exact Tx.newb _ _
  have c0 : W.cell? ⟨w.heap.size, 0, none⟩ = some (.int .i64 id) := by rw [← hW]; simp
  have c1 : W.cell? ⟨w.heap.size, 1, none⟩ = some (.int .i64 ver) := by rw [← hW]; simp
  have c2 : W.cell? ⟨w.heap.size, 2, none⟩ = some (.int .i64 kind) := by rw [← hW]; simp
  have c3 : W.cell? ⟨w.heap.size, 3, none⟩ = some (.string lang) := by rw [← hW]; simp
  have c4 : W.cell? ⟨w.heap.size, 4, none⟩ = some (.slice a fs.length c) := by rw [← hW]; simp
  have hS := h.below hbc
  have hmx : maxLen = 9223372036854775807 := rfl
  replace hG := hG.below hbc
  cases hv : (Rc.smallR fs && decide (Rc.recE ⟨id, ver, kind, lang, fs⟩ = 0)) with
  | false =>
    have HV := Lib.hid hv; clear hv
    go_enter Tryz.func4, Tryz.ntmps4
    go_wp2_with (go_at_call 10; refine (alive_c _ hG).mono ?_; rintro e wA ⟨rfl, hb1⟩; clear hW; replace hbc := Tx.step hbc hb1; replace hS := hS.below hb1; replace c0 := cell_later hb1 c0; replace c1 := cell_later hb1 c1; replace c2 := cell_later hb1 c2; replace c3 := cell_later hb1 c3; replace c4 := cell_later hb1 c4; clear hb1)
    refine wp_region_held_drew (S := (fun w' => Below wA.heap.size wA w' ∧ w'.cell? ⟨w.heap.size, 0, none⟩ = some (.int .i64 id) ∧ w'.cell? ⟨w.heap.size, 1, none⟩ = some (.int .i64 ver) ∧ w'.cell? ⟨w.heap.size, 2, none⟩ = some (.int .i64 kind) ∧ w'.cell? ⟨w.heap.size, 3, none⟩ = some (.string lang) ∧ w'.cell? ⟨w.heap.size, 4, none⟩ = some (.slice a fs.length c))) (by kernel_rfl) ?_ (fun hHeld => ?_)
    · (first | exact ⟨(Below.refl _ _).drew, c0, c1, c2, c3, c4⟩ | (go_split_ands; exact ⟨Tx.step (by assumption) hbx, cell_later hbx (by assumption), cell_later hbx (by assumption), cell_later hbx (by assumption), cell_later hbx (by assumption), cell_later hbx (by assumption)⟩))
    refine wpAnyH_take (i := 0) (oi := ⟨some 5, _, _, _, _, _⟩) (v := .agg #[.int .i64 id, .int .i64 ver, .int .i64 kind, .string lang, .slice a fs.length c]) rfl (by kernel_rfl) (by kernel_rfl) (by kernel_rfl) (fun _ _ _ h => h) (Or.inl ⟨by rfl, ?_⟩) (by assumption) ?_
    · intro w hSw; (try dsimp only at hSw); go_simp
    simp only [Act.put, List.setIfInBounds_toArray, List.set_cons_zero, List.set_cons_succ]
    refine wpAnyH_ready (rs := [1]) (by kernel_rfl) (by simp) ?_
    refine AllReadyH.cons (o := ⟨some 6, _, _, _, _, _⟩) rfl (fun K hK => ?_) AllReadyH.nil
    go_simp
    go_split_ands
    go_at_call 11
    refine (valid_c fs a c id ver kind lang _ (hS.below (by assumption))).mono ?_
    rintro e wx ⟨rfl, hbx⟩
    rw [HV.out]
    go_wp2_with fail
    refine hK.out _ _ ?_ (fun hHeld => ?_)
    · (first | exact ⟨(Below.refl _ _).drew, c0, c1, c2, c3, c4⟩ | (go_split_ands; exact ⟨Tx.step (by assumption) hbx, cell_later hbx (by assumption), cell_later hbx (by assumption), cell_later hbx (by assumption), cell_later hbx (by assumption), cell_later hbx (by assumption)⟩))
    clear hK K
    try simp only [Act.put, List.setIfInBounds_toArray, List.set_cons_zero, List.set_cons_succ]
    refine wpAnyH_take (i := 2) (oi := ⟨some 7, _, _, _, _, _⟩) (v := .bool true) rfl (by kernel_rfl) (by kernel_rfl) (by kernel_rfl) (fun _ _ _ h => h) (Or.inl ⟨by rfl, ?_⟩) (by assumption) ?_
    · intro w hSw; (try dsimp only at hSw); go_simp
    simp only [Act.put, List.setIfInBounds_toArray, List.set_cons_zero, List.set_cons_succ]
    refine wpAnyH_take (i := 3) (oi := ⟨some 8, _, _, _, _, _⟩) (v := .bool true) rfl (by kernel_rfl) (by kernel_rfl) (by kernel_rfl) (fun _ _ _ h => h) (Or.inl ⟨by rfl, ?_⟩) (by assumption) ?_
    · intro w hSw; (try dsimp only at hSw); go_simp
    simp only [Act.put, List.setIfInBounds_toArray, List.set_cons_zero, List.set_cons_succ]
    refine wpAnyH_take (i := 4) (oi := ⟨some 9, _, _, _, _, _⟩) (v := undef) rfl (by kernel_rfl) (by kernel_rfl) (by kernel_rfl) (fun _ _ _ h => h) (Or.inr ⟨by rfl, rfl⟩) (by assumption) ?_
    simp only [Act.put, List.setIfInBounds_toArray, List.set_cons_zero, List.set_cons_succ]
    refine wpAnyH_take (i := 5) (oi := ⟨some 10, _, _, _, _, _⟩) (v := undef) rfl (by kernel_rfl) (by kernel_rfl) (by kernel_rfl) (fun _ _ _ h => h) (Or.inr ⟨by rfl, rfl⟩) (by assumption) ?_
    simp only [Act.put, List.setIfInBounds_toArray, List.set_cons_zero, List.set_cons_succ]
    refine wpAnyH_take (i := 6) (oi := ⟨some 11, _, _, _, _, _⟩) (v := undef) rfl (by kernel_rfl) (by kernel_rfl) (by kernel_rfl) (fun _ _ _ h => h) (Or.inr ⟨by rfl, rfl⟩) (by assumption) ?_
    simp only [Act.put, List.setIfInBounds_toArray, List.set_cons_zero, List.set_cons_succ]
    refine wpAnyH_take (i := 7) (oi := ⟨some 12, _, _, _, _, _⟩) (v := undef) rfl (by kernel_rfl) (by kernel_rfl) (by kernel_rfl) (fun _ _ _ h => h) (Or.inr ⟨by rfl, rfl⟩) (by assumption) ?_
    simp only [Act.put, List.setIfInBounds_toArray, List.set_cons_zero, List.set_cons_succ]
    refine wpAnyH_take (i := 8) (oi := ⟨some 13, _, _, _, _, _⟩) (v := undef) rfl (by kernel_rfl) (by kernel_rfl) (by kernel_rfl) (fun _ _ _ h => h) (Or.inr ⟨by rfl, rfl⟩) (by assumption) ?_
    simp only [Act.put, List.setIfInBounds_toArray, List.set_cons_zero, List.set_cons_succ]
    refine wpAnyH_take (i := 9) (oi := ⟨some 14, _, _, _, _, _⟩) (v := .bool true) rfl (by kernel_rfl) (by kernel_rfl) (by kernel_rfl) (fun _ _ _ h => h) (Or.inl ⟨by rfl, ?_⟩) (by assumption) ?_
    · intro w hSw; (try dsimp only at hSw); go_simp
    simp only [Act.put, List.setIfInBounds_toArray, List.set_cons_zero, List.set_cons_succ]
    refine wpAnyH_take (i := 10) (oi := ⟨some 2, _, _, _, _, _⟩) (v := .bool true) rfl (by kernel_rfl) (by kernel_rfl) (by kernel_rfl) (fun _ _ _ h => h) (Or.inl ⟨by rfl, ?_⟩) (by assumption) ?_
    · intro w hSw; (try dsimp only at hSw); go_simp
    simp only [Act.put, List.setIfInBounds_toArray, List.set_cons_zero, List.set_cons_succ]
    refine wpAnyH_done (by kernel_rfl) ?_ _
    go_split_ands
    go_wp2
    go_ret
    exact ⟨Tx.retb (by simp), Tx.step hbc (by assumption)⟩
  | true =>
    obtain ⟨hk, hn⟩ := Rc.valid_of hv
    have HV := Lib.hid hv; clear hv
    have HG := Lib.hid (Rc.Okf.gds hk); clear hk
    obtain ⟨XS, hX⟩ : ∃ X, (Ds.full fs).map Ds.mk = X := ⟨_, rfl⟩
    have HX := Lib.hid hX; clear hX
    go_enter Tryz.func4, Tryz.ntmps4
    go_wp2_with (go_at_call 10; refine (alive_c _ hG).mono ?_; rintro e wA ⟨rfl, hb1⟩; clear hW; replace hG := hG.below hb1; replace hbc := Tx.step hbc hb1; replace hS := hS.below hb1; replace c0 := cell_later hb1 c0; replace c1 := cell_later hb1 c1; replace c2 := cell_later hb1 c2; replace c3 := cell_later hb1 c3; replace c4 := cell_later hb1 c4; clear hb1)
    go_region_held3 (fun w' => Below wA.heap.size wA w' ∧ w'.cell? ⟨w.heap.size, 0, none⟩ = some (.int .i64 id) ∧ w'.cell? ⟨w.heap.size, 1, none⟩ = some (.int .i64 ver) ∧ w'.cell? ⟨w.heap.size, 2, none⟩ = some (.int .i64 kind) ∧ w'.cell? ⟨w.heap.size, 3, none⟩ = some (.string lang) ∧ w'.cell? ⟨w.heap.size, 4, none⟩ = some (.slice a fs.length c))
      (first | exact ⟨(Below.refl _ _).drew, c0, c1, c2, c3, c4⟩ | (go_split_ands; exact ⟨Tx.step (by assumption) hbx, cell_later hbx (by assumption), cell_later hbx (by assumption), cell_later hbx (by assumption), cell_later hbx (by assumption), cell_later hbx (by assumption)⟩))
      (first
        | (go_split_ands; go_at_call 11; refine (valid_c fs a c id ver kind lang _ (hS.below (by assumption))).mono ?_; rintro e wx ⟨rfl, hbx⟩; rw [HV.out])
        | (go_split_ands; go_at_call 17; refine (Full_c fs a c id ver kind lang _ (hS.below (by assumption)) HG.out (by omega)).mono ?_; rintro e wx ⟨va, vc, rfl, hsl, hbx⟩; rw [HX.out] at hsl ⊢; try (have hsl2 := hsr.below hbx))
        | (go_split_ands; go_at_call 18; refine (r25_Full_c fs a c id ver kind lang _ (hS.below (by assumption)) HG.out (by omega)).mono ?_; rintro e wx ⟨ra, rc, rfl, hsr, hbx⟩; rw [HX.out] at hsr ⊢; try (have hsr2 := hsl.below hbx))
        | (go_split_ands; go_at_call 16; first
            | (refine (Texts_c XS XS va ra vc rc _ (by assumption) (by assumption)).mono ?_; rintro e wx ⟨rfl, hbx⟩)))
    all_goals
      go_split_ands
      go_wp2
      go_ret
      exact ⟨Tx.retb (by simp), Tx.step hbc (by assumption)⟩
end Go.Proofs.YtccbadbfijkaeaaGreatDoor

/- Layer 25: the law DisplayEach: what its call returns. -/
namespace Go.Proofs.YtccbadbfijkaeaaGreatDoor
open Go.RowKit
set_option maxRecDepth 100000

namespace Ea
open Rc
theorem fld1 {w : World} {b : Nat} {f : Fl} {sa : Option Addr} {sc : Nat} (hb : b < w.heap.size) (c0 : w.cell? ⟨b, 0, none⟩ = some (.string f.tag)) (c1 : w.cell? ⟨b, 1, none⟩ = some (.string f.ind)) (c2 : w.cell? ⟨b, 2, none⟩ = some (.slice sa f.subs.length sc)) (c3 : w.cell? ⟨b, 3, none⟩ = some (.int .i64 f.auth)) (hs : SubA w sa sc f.subs) : FldA w (some ⟨b, 0, none⟩) 1 [f] :=
  ⟨by simp, by unfold maxLen; omega, b, 0, fun _ => ⟨rfl, hb⟩, fun j x hj => by
    have h0 : j = 0 := by
      have := (List.getElem?_eq_some_iff.1 hj).1
      simp at this
      exact this
    subst h0
    simp at hj
    subst hj
    exact ⟨c0, c1, ⟨sa, sc, c2, hs⟩, c3⟩⟩
theorem _root_.Go.Proofs.YtccbadbfijkaeaaGreatDoor.Rc.cell_lt {w : World} {b o : Nat} {v : Value} (h : w.cell? ⟨b, o, none⟩ = some v) : b < w.heap.size := World.block_lt_of_cell? w ⟨b, o, none⟩ h
theorem full_each {fs : List Fl} {k : Nat} {f : Fl} (h : fs[k]? = some f) : Ds.full (fs.take (k + 1)) = Ds.full (fs.take k) ++ Ds.full [f] := by
  unfold Ds.full
  rw [List.take_add_one, h, List.map_append, List.filter_append]
  rfl
theorem full_one (f : Fl) : (Ds.full [f]).length ≤ 1 := by
  unfold Ds.full
  exact Nat.le_trans (List.length_filter_le _ _) (by simp)
end Ea

set_option maxHeartbeats 3200000 in
theorem each_law (fs : List Rc.Fl) (a : Option Addr) (c : Nat) (id ver kind : Int) (lang : ByteArray) (w : World) (hG : G w) (h : Rc.FldA w a c fs) :
    Calls Tryz.prog 8 #[.agg #[.int .i64 id, .int .i64 ver, .int .i64 kind, .string lang, .slice a fs.length c]] w fun e w' => e = .returned (.bool true) ∧ Below w.heap.size w w' := by
  obtain ⟨W, hW⟩ : ∃ W, w.alloc (.cells #[.int .i64 id, .int .i64 ver, .int .i64 kind, .string lang, .slice a fs.length c] 24) = W := ⟨_, rfl⟩
  have hbc : Below w.heap.size w W := by rw [← hW]; exact Tx.newb _ _
  have c0 : W.cell? ⟨w.heap.size, 0, none⟩ = some (.int .i64 id) := by rw [← hW]; simp
  have c1 : W.cell? ⟨w.heap.size, 1, none⟩ = some (.int .i64 ver) := by rw [← hW]; simp
  have c2 : W.cell? ⟨w.heap.size, 2, none⟩ = some (.int .i64 kind) := by rw [← hW]; simp
  have c3 : W.cell? ⟨w.heap.size, 3, none⟩ = some (.string lang) := by rw [← hW]; simp
  have c4 : W.cell? ⟨w.heap.size, 4, none⟩ = some (.slice a fs.length c) := by rw [← hW]; simp
  have hS := h.below hbc
  have hmx : maxLen = 9223372036854775807 := rfl
  replace hG := hG.below hbc
  cases hv : (Rc.smallR fs && decide (Rc.recE ⟨id, ver, kind, lang, fs⟩ = 0)) with
  | false =>
    have HV := Lib.hid hv; clear hv
    go_enter Tryz.func8, Tryz.ntmps8
    go_wp2_with (first
      | (go_at_call 10; refine (alive_c _ hG).mono ?_; rintro e wA ⟨rfl, hb1⟩; clear hW; replace hbc := Tx.step hbc hb1; replace hS := hS.below hb1; replace c0 := cell_later hb1 c0; replace c1 := cell_later hb1 c1; replace c2 := cell_later hb1 c2; replace c3 := cell_later hb1 c3; replace c4 := cell_later hb1 c4; clear hb1)
      | (go_at_call 11; refine (valid_c fs a c id ver kind lang _ hS).mono ?_; rintro e wx ⟨rfl, hb1⟩; rw [HV.out]; replace hbc := Tx.step hbc hb1; replace hS := hS.below hb1; replace c0 := cell_later hb1 c0; replace c1 := cell_later hb1 c1; replace c2 := cell_later hb1 c2; replace c3 := cell_later hb1 c3; replace c4 := cell_later hb1 c4; clear hb1))
    go_ret
    exact ⟨Tx.retb (by simp), hbc⟩
  | true =>
    obtain ⟨hk, hn⟩ := Rc.valid_of hv
    obtain ⟨i0, hi0, hz0, hz1, hz2⟩ := info_parts info_str
    have hcap := h.cap
    have hmax := h.max
    have HV := Lib.hid hv; clear hv
    have HG := Lib.hid (Rc.Okf.gds hk); clear hk
    obtain ⟨XS, hX⟩ : ∃ X, (Ds.full fs).map Ds.mk = X := ⟨_, rfl⟩
    have HX := Lib.hid hX; clear hX
    go_enter Tryz.func8, Tryz.ntmps8
    go_wp2_with (first
      | (go_at_call 10; refine (alive_c _ hG).mono ?_; rintro e wA ⟨rfl, hb1⟩; clear hW; replace hG := hG.below hb1; replace hbc := Tx.step hbc hb1; replace hS := hS.below hb1; replace c0 := cell_later hb1 c0; replace c1 := cell_later hb1 c1; replace c2 := cell_later hb1 c2; replace c3 := cell_later hb1 c3; replace c4 := cell_later hb1 c4; clear hb1)
      | (go_at_call 11; refine (valid_c fs a c id ver kind lang _ hS).mono ?_; rintro e wV ⟨rfl, hb1⟩; rw [HV.out]; replace hG := hG.below hb1; replace hbc := Tx.step hbc hb1; replace hS := hS.below hb1; replace c0 := cell_later hb1 c0; replace c1 := cell_later hb1 c1; replace c2 := cell_later hb1 c2; replace c3 := cell_later hb1 c3; replace c4 := cell_later hb1 c4; clear hb1))
    have hwV : w.heap.size < wV.heap.size := Rc.cell_lt c0
    go_loopw [3, 4, 5, 6] (fun v i _ _ wr => ∃ (k : Nat) (L : List ByteArray), k ≤ fs.length ∧ i = .int .i64 k ∧ Hid (L = (Ds.full (fs.take k)).map Ds.mk) ∧ L.length ≤ k ∧ wr.ownsRow wV.heap.size 9 1 v L.length (L.map Value.string) ∧ Below wV.heap.size wV wr) (fun _ i _ _ _ => fs.length - (intOf i).toNat)
    case atStart => exact ⟨0, [], Nat.zero_le _, rfl, Lib.hid rfl, Nat.le_refl _, World.ownsRow_lit (base := wV.heap.size) (e := 9) (size := 1) wV #[] 0 (by simp) (by unfold maxLen; omega) rfl, Tx.newb _ _⟩
    case round =>
      obtain ⟨k, L, hk, rfl, hL, hLk, hown, hb⟩ := hrel
      have hbs := hb.size
      replace c0 := cell_later hb c0
      replace c1 := cell_later hb c1
      replace c2 := cell_later hb c2
      replace c3 := cell_later hb c3
      replace c4 := cell_later hb c4
      by_cases hlt : k < fs.length
      · obtain ⟨f, hf⟩ : ∃ f, fs[k]? = some f := ⟨_, List.getElem?_eq_getElem hlt⟩
        have hgf := HG.out f (List.mem_of_getElem? hf)
        obtain ⟨b, o, sa, sc, rfl, hbl, d0, d1, d2, d3, hsub⟩ := hS.get hf
        replace d0 := cell_later hb d0
        replace d1 := cell_later hb d1
        replace d2 := cell_later hb d2
        replace d3 := cell_later hb d3
        have hsub1 := hsub.below hb
        have hne1 : wr.heap.size ≠ w.heap.size := by omega
        have hne2 : wr.heap.size ≠ b := by omega
        have hne3 : wr.heap.size + 1 ≠ w.heap.size := by omega
        have hne4 : wr.heap.size + 1 ≠ b := by omega
        have e4 := cell_later (Tx.newb wr (.cells #[.int .i64 id, .int .i64 ver, .int .i64 kind, .string lang, .slice (some ⟨b, o, none⟩) fs.length c] 24)) c4
        have e5 := cell_later (Tx.newb wr (.cells #[.int .i64 id, .int .i64 ver, .int .i64 kind, .string lang, .slice (some ⟨b, o, none⟩) fs.length c] 24)) d0
        have e6 := cell_later (Tx.newb wr (.cells #[.int .i64 id, .int .i64 ver, .int .i64 kind, .string lang, .slice (some ⟨b, o, none⟩) fs.length c] 24)) d1
        have e7 := cell_later (Tx.newb wr (.cells #[.int .i64 id, .int .i64 ver, .int .i64 kind, .string lang, .slice (some ⟨b, o, none⟩) fs.length c] 24)) d2
        have e8 := cell_later (Tx.newb wr (.cells #[.int .i64 id, .int .i64 ver, .int .i64 kind, .string lang, .slice (some ⟨b, o, none⟩) fs.length c] 24)) d3
        have hfe := congrArg (List.map Ds.mk) (Ea.full_each hf)
        rw [List.map_append, ← hL.out] at hfe
        have hf1 := Ea.full_one f
        obtain ⟨F1, hF1⟩ : ∃ F, (Ds.full [f]).map Ds.mk = F := ⟨_, rfl⟩
        have hF1l : F1.length ≤ 1 := by rw [← hF1, List.length_map]; exact hf1
        have q1 : decide ((1 : Int) < (F1.length : Int)) = false := decide_eq_false (by omega)
        rw [hF1] at hfe
        have HF1 := Lib.hid hF1; clear hF1 hf1 hf
        have HFE := Lib.hid hfe; clear hfe
        have HG1 := Lib.hid (show ∀ x ∈ [f], Rc.Gd x from fun x hx => by simp at hx; subst hx; exact hgf)
        clear hgf
        obtain ⟨W2, hW2⟩ : ∃ W2, (wr.alloc (.cells #[.int .i64 id, .int .i64 ver, .int .i64 kind, .string lang, .slice (some ⟨wr.heap.size + 1, 0, none⟩) 1 1] 24)).alloc (.cells #[.string f.tag, .string f.ind, .slice sa f.subs.length sc, .int .i64 f.auth] 42) = W2 := ⟨_, rfl⟩
        have hb2 : Below wr.heap.size wr W2 := by rw [← hW2]; exact (Tx.newb _ _).alloc (Tx.newb wr _).size _
        have hFl : Rc.FldA W2 (some ⟨wr.heap.size + 1, 0, none⟩) 1 [f] := Ea.fld1 (by rw [← hW2]; simp) (by rw [← hW2]; simp) (by rw [← hW2]; simp) (by rw [← hW2]; simp) (by rw [← hW2]; simp) (hsub1.below hb2)
        have HW2 := Lib.hid hW2; clear hW2
        go_wp2_with (first
          | (go_at_call 17; rw [HW2.out]; refine (Full_c [f] (some ⟨wr.heap.size + 1, 0, none⟩) 1 id ver kind lang _ hFl HG1.out (by simp)).mono ?_; rintro e w3 ⟨va, vc, rfl, hsl, hb3⟩; rw [HF1.out] at hsl ⊢; have hb23 := Tx.step hb2 hb3)
          | (at_builtin; go_must (refine wpList_append_sl rfl _ _ 29 rfl wV.heap.size 9 i0 (.string ⟨#[]⟩) 1 16 Tryz.underlying29 hi0 hz0 hz1 hz2 rfl (by decide) _ L.length _ rfl (own_below hown hb23) va F1.length vc (F1.map Value.string) rfl (by simp) hsl.none hsl.cells (SLA.ones F1) (by unfold maxLen; omega) (by omega) (by have := hb23.size; omega) ?_); intro v5 w5 hown5 hg5 hvb5))
        have hb33 : Below wV.heap.size wV w3 := hb.trans (hb23.mono hbs)
        have hb5 : Below wV.heap.size wV w5 := hb33.grown hg5 hb33.size (fun j hj => (hown.lt j hj).1)
        go_roundw
        case rel => exact ⟨k + 1, L ++ F1, by omega, by go_num, Lib.hid HFE.out.symm, by simp; omega, by simpa using hown5, hb5⟩
        case measure => simp [intOf]; omega
      · obtain rfl : k = fs.length := by omega
        have hL9 := hL.out
        rw [List.take_length, HX.out] at hL9
        subst hL9
        obtain ⟨la, lc, rfl, hsl9⟩ := SLA.of_own hown rfl
        have hS9 := hS.below hb
        clear hL
        go_wp2_with (first
          | (go_at_call 17; refine (Full_c fs a c id ver kind lang _ hS9 HG.out (by omega)).mono ?_; rintro e w3 ⟨va, vc, rfl, hsl, hb3⟩; rw [HX.out] at hsl ⊢; have hsl99 := hsl9.below hb3)
          | (go_at_call 16; refine (Texts_c _ _ va la vc lc _ hsl hsl99).mono ?_; rintro e w4 ⟨rfl, hb4⟩))
        go_ret
        exact ⟨Tx.retb (by simp), Tx.step (Tx.step (Tx.step hbc hb) hb3) hb4⟩
end Go.Proofs.YtccbadbfijkaeaaGreatDoor
