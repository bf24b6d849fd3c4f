/- Layer 20: the laws IndexTerms and IndexBuilds: what their calls return. -/
import Derived.Test.YtcjalpegffldaaaGreatDoorLyB
namespace Go.Proofs.YtcjalpegffldaaaGreatDoor
open Go.RowKit
set_option maxRecDepth 100000

set_option maxHeartbeats 3200000 in
theorem terms_law (fs : List Rc.Fl) (a : Option Addr) (c : Nat) (id ver kind : Int) (lang : ByteArray) (x : Int) (w : World) (hG : G w) (h : Rc.FldA w a c fs) (hz : ∀ f ∈ fs, ∀ s ∈ f.subs, s.2.size ≤ 140737488351232) :
    Calls Tryz.prog 3 #[.agg #[.int .i64 id, .int .i64 ver, .int .i64 kind, .string lang, .slice a fs.length c], .int .i64 x] w fun e w' => e = .returned (.bool true) ∧ Below w.heap.size w w' := by
  obtain ⟨W, hW⟩ : ∃ W, w.alloc (.cells #[.int .i64 id, .int .i64 ver, .int .i64 kind, .string lang, .slice a fs.length c] 24) = W := ⟨_, rfl⟩
  have hbc : Below w.heap.size w W := by rw [← hW]; exact Tx.newb _ _
  have c0 : W.cell? ⟨w.heap.size, 0, none⟩ = some (.int .i64 id) := by rw [← hW]; simp
  have c1 : W.cell? ⟨w.heap.size, 1, none⟩ = some (.int .i64 ver) := by rw [← hW]; simp
  have c2 : W.cell? ⟨w.heap.size, 2, none⟩ = some (.int .i64 kind) := by rw [← hW]; simp
  have c3 : W.cell? ⟨w.heap.size, 3, none⟩ = some (.string lang) := by rw [← hW]; simp
  have c4 : W.cell? ⟨w.heap.size, 4, none⟩ = some (.slice a fs.length c) := by rw [← hW]; simp
  have hS := h.below hbc
  have hmx : maxLen = 9223372036854775807 := rfl
  replace hG := hG.below hbc
  have HZ := Lib.hid hz
  clear hz
  cases hv : Ix.smallB ⟨id, ver, kind, lang, fs⟩ with
  | false =>
    have HV := Lib.hid hv; clear hv
    go_enter Tryz.func3, Tryz.ntmps3
    go_wp2_with (go_at_call 9; refine (lx_alive_c _ hG).mono ?_; rintro e wA ⟨rfl, hb1⟩; clear hW; replace hbc := Tx.step hbc hb1; replace hS := hS.below hb1; replace c0 := cell_later hb1 c0; replace c1 := cell_later hb1 c1; replace c2 := cell_later hb1 c2; replace c3 := cell_later hb1 c3; replace c4 := cell_later hb1 c4; clear hb1)
    refine wp_region_held_drew (S := (fun w' => Below wA.heap.size wA w' ∧ w'.cell? ⟨w.heap.size, 0, none⟩ = some (.int .i64 id) ∧ w'.cell? ⟨w.heap.size, 1, none⟩ = some (.int .i64 ver) ∧ w'.cell? ⟨w.heap.size, 2, none⟩ = some (.int .i64 kind) ∧ w'.cell? ⟨w.heap.size, 3, none⟩ = some (.string lang) ∧ w'.cell? ⟨w.heap.size, 4, none⟩ = some (.slice a fs.length c))) (by kernel_rfl) ?_ (fun hHeld => ?_)
    · (first | exact ⟨(Below.refl _ _).drew, c0, c1, c2, c3, c4⟩ | (go_split_ands; exact ⟨Tx.step (by assumption) hbx, cell_later hbx (by assumption), cell_later hbx (by assumption), cell_later hbx (by assumption), cell_later hbx (by assumption), cell_later hbx (by assumption)⟩))
    refine wpAnyH_take (i := 0) (oi := ⟨some 7, _, _, _, _, _⟩) (v := .agg #[.int .i64 id, .int .i64 ver, .int .i64 kind, .string lang, .slice a fs.length c]) rfl (by kernel_rfl) (by kernel_rfl) (by kernel_rfl) (fun _ _ _ h => h) (Or.inl ⟨by rfl, ?_⟩) (by assumption) ?_
    · intro w hSw; (try dsimp only at hSw); go_simp
    simp only [Act.put, List.setIfInBounds_toArray, List.set_cons_zero, List.set_cons_succ]
    refine wpAnyH_ready (rs := [1]) (by kernel_rfl) (by simp) ?_
    refine AllReadyH.cons (o := ⟨some 8, _, _, _, _, _⟩) rfl (fun K hK => ?_) AllReadyH.nil
    go_simp
    go_split_ands
    go_at_call 10
    refine (lx_small_c fs a c id ver kind lang _ (hS.below (by assumption)) HZ.out).mono ?_
    rintro e wx ⟨rfl, hbx⟩
    rw [HV.out]
    go_wp2_with fail
    refine hK.out _ _ ?_ (fun hHeld => ?_)
    · (first | exact ⟨(Below.refl _ _).drew, c0, c1, c2, c3, c4⟩ | (go_split_ands; exact ⟨Tx.step (by assumption) hbx, cell_later hbx (by assumption), cell_later hbx (by assumption), cell_later hbx (by assumption), cell_later hbx (by assumption), cell_later hbx (by assumption)⟩))
    clear hK K
    try simp only [Act.put, List.setIfInBounds_toArray, List.set_cons_zero, List.set_cons_succ]
    refine wpAnyH_take (i := 2) (oi := ⟨some 9, _, _, _, _, _⟩) (v := .bool true) rfl (by kernel_rfl) (by kernel_rfl) (by kernel_rfl) (fun _ _ _ h => h) (Or.inl ⟨by rfl, ?_⟩) (by assumption) ?_
    · intro w hSw; (try dsimp only at hSw); go_simp
    simp only [Act.put, List.setIfInBounds_toArray, List.set_cons_zero, List.set_cons_succ]
    refine wpAnyH_take (i := 3) (oi := ⟨some 10, _, _, _, _, _⟩) (v := .bool true) rfl (by kernel_rfl) (by kernel_rfl) (by kernel_rfl) (fun _ _ _ h => h) (Or.inl ⟨by rfl, ?_⟩) (by assumption) ?_
    · intro w hSw; (try dsimp only at hSw); go_simp
    simp only [Act.put, List.setIfInBounds_toArray, List.set_cons_zero, List.set_cons_succ]
    refine wpAnyH_take (i := 4) (oi := ⟨some 11, _, _, _, _, _⟩) (v := undef) rfl (by kernel_rfl) (by kernel_rfl) (by kernel_rfl) (fun _ _ _ h => h) (Or.inr ⟨by rfl, rfl⟩) (by assumption) ?_
    simp only [Act.put, List.setIfInBounds_toArray, List.set_cons_zero, List.set_cons_succ]
    refine wpAnyH_take (i := 5) (oi := ⟨some 12, _, _, _, _, _⟩) (v := undef) rfl (by kernel_rfl) (by kernel_rfl) (by kernel_rfl) (fun _ _ _ h => h) (Or.inr ⟨by rfl, rfl⟩) (by assumption) ?_
    simp only [Act.put, List.setIfInBounds_toArray, List.set_cons_zero, List.set_cons_succ]
    refine wpAnyH_take (i := 6) (oi := ⟨some 13, _, _, _, _, _⟩) (v := undef) rfl (by kernel_rfl) (by kernel_rfl) (by kernel_rfl) (fun _ _ _ h => h) (Or.inr ⟨by rfl, rfl⟩) (by assumption) ?_
    simp only [Act.put, List.setIfInBounds_toArray, List.set_cons_zero, List.set_cons_succ]
    refine wpAnyH_take (i := 7) (oi := ⟨some 14, _, _, _, _, _⟩) (v := undef) rfl (by kernel_rfl) (by kernel_rfl) (by kernel_rfl) (fun _ _ _ h => h) (Or.inr ⟨by rfl, rfl⟩) (by assumption) ?_
    simp only [Act.put, List.setIfInBounds_toArray, List.set_cons_zero, List.set_cons_succ]
    refine wpAnyH_take (i := 8) (oi := ⟨some 15, _, _, _, _, _⟩) (v := undef) rfl (by kernel_rfl) (by kernel_rfl) (by kernel_rfl) (fun _ _ _ h => h) (Or.inr ⟨by rfl, rfl⟩) (by assumption) ?_
    simp only [Act.put, List.setIfInBounds_toArray, List.set_cons_zero, List.set_cons_succ]
    refine wpAnyH_take (i := 9) (oi := ⟨some 16, _, _, _, _, _⟩) (v := undef) rfl (by kernel_rfl) (by kernel_rfl) (by kernel_rfl) (fun _ _ _ h => h) (Or.inr ⟨by rfl, rfl⟩) (by assumption) ?_
    simp only [Act.put, List.setIfInBounds_toArray, List.set_cons_zero, List.set_cons_succ]
    refine wpAnyH_take (i := 10) (oi := ⟨some 17, _, _, _, _, _⟩) (v := undef) rfl (by kernel_rfl) (by kernel_rfl) (by kernel_rfl) (fun _ _ _ h => h) (Or.inr ⟨by rfl, rfl⟩) (by assumption) ?_
    simp only [Act.put, List.setIfInBounds_toArray, List.set_cons_zero, List.set_cons_succ]
    refine wpAnyH_take (i := 11) (oi := ⟨some 18, _, _, _, _, _⟩) (v := .bool true) rfl (by kernel_rfl) (by kernel_rfl) (by kernel_rfl) (fun _ _ _ h => h) (Or.inl ⟨by rfl, ?_⟩) (by assumption) ?_
    · intro w hSw; (try dsimp only at hSw); go_simp
    simp only [Act.put, List.setIfInBounds_toArray, List.set_cons_zero, List.set_cons_succ]
    refine wpAnyH_take (i := 12) (oi := ⟨some 4, _, _, _, _, _⟩) (v := .bool true) rfl (by kernel_rfl) (by kernel_rfl) (by kernel_rfl) (fun _ _ _ h => h) (Or.inl ⟨by rfl, ?_⟩) (by assumption) ?_
    · intro w hSw; (try dsimp only at hSw); go_simp
    simp only [Act.put, List.setIfInBounds_toArray, List.set_cons_zero, List.set_cons_succ]
    refine wpAnyH_done (by kernel_rfl) ?_ _
    go_split_ands
    go_wp2
    go_ret
    exact ⟨Tx.retb (by simp), Tx.step hbc (by assumption)⟩
  | true =>
    have HM := Lib.hid (Ix.small_mod hv)
    have HGD := Lib.hid (Ix.small_gd hv)
    have HV := Lib.hid hv; clear hv
    obtain ⟨L, hL⟩ : ∃ L, Ix.terms fs x = L := ⟨_, rfl⟩
    have HL := Lib.hid hL; clear hL
    go_enter Tryz.func3, Tryz.ntmps3
    go_wp2_with (go_at_call 9; refine (lx_alive_c _ hG).mono ?_; rintro e wA ⟨rfl, hb1⟩; clear hW; replace hG := hG.below hb1; replace hbc := Tx.step hbc hb1; replace hS := hS.below hb1; replace c0 := cell_later hb1 c0; replace c1 := cell_later hb1 c1; replace c2 := cell_later hb1 c2; replace c3 := cell_later hb1 c3; replace c4 := cell_later hb1 c4; clear hb1)
    go_region_held3 (fun w' => Below wA.heap.size wA w' ∧ w'.cell? ⟨w.heap.size, 0, none⟩ = some (.int .i64 id) ∧ w'.cell? ⟨w.heap.size, 1, none⟩ = some (.int .i64 ver) ∧ w'.cell? ⟨w.heap.size, 2, none⟩ = some (.int .i64 kind) ∧ w'.cell? ⟨w.heap.size, 3, none⟩ = some (.string lang) ∧ w'.cell? ⟨w.heap.size, 4, none⟩ = some (.slice a fs.length c))
      (first | exact ⟨(Below.refl _ _).drew, c0, c1, c2, c3, c4⟩ | (go_split_ands; exact ⟨Tx.step (by assumption) hbx, cell_later hbx (by assumption), cell_later hbx (by assumption), cell_later hbx (by assumption), cell_later hbx (by assumption), cell_later hbx (by assumption)⟩))
      (first
        | (go_split_ands; go_at_call 10; refine (lx_small_c fs a c id ver kind lang _ (hS.below (by assumption)) HZ.out).mono ?_; rintro e wx ⟨rfl, hbx⟩; rw [HV.out])
        | (go_split_ands; go_at_call 11; have CT := Texts_c (L.map fun y => (⟨y.toArray⟩ : ByteArray)) (L.map fun y => (⟨y.toArray⟩ : ByteArray)) a1 a2 c1' c2' _ HS1.out HS2.out; rw [List.length_map, decide_eq_true rfl] at CT; refine CT.mono ?_; rintro e wx ⟨rfl, hbx⟩)
        | (go_split_ands; go_at_call 13; refine (r20_Terms_c fs a c id ver kind lang x _ (hS.below (by assumption)) HM.out).mono ?_; rintro e wx ⟨v2, rfl, hown2, hbx⟩; rw [HL.out] at hown2; obtain ⟨a2, c2', rfl, hs2⟩ := Ix.own_sla hown2; have HS1 := Lib.hid (HS0.out.below hbx); have HS2 := Lib.hid hs2; clear hs2 hown2)
        | (go_split_ands; go_at_call 12; refine (ix_Terms_c fs a c id ver kind lang x _ (hG.below (by assumption)) (hS.below (by assumption)) HM.out HGD.out).mono ?_; rintro e wx ⟨v1, rfl, hown1, hbx⟩; rw [HL.out] at hown1; obtain ⟨a1, c1', rfl, hs1⟩ := Ix.own_sla hown1; have HS0 := Lib.hid hs1; clear hs1 hown1))
    all_goals
      go_split_ands
      go_wp2
      go_ret
      exact ⟨Tx.retb (by simp), Tx.step hbc (by assumption)⟩

namespace Ix
/-- What is known of records that are few and small. -/
structure FewF (rs : List Rc.Rd) : Prop where
  len : rs.length ≤ 5
  sm : ∀ r ∈ rs, smallB r = true
  mod : ∀ r ∈ rs, Mod r.fields
  gd : ∀ r ∈ rs, ∀ f ∈ r.fields, Rc.Gd f
  id : ∀ r ∈ rs, 0 ≤ r.id ∧ r.id ≤ 9999
theorem few_f {rs : List Rc.Rd} (h : fewB rs = true) : FewF rs := by
  obtain ⟨h1, h2⟩ := few_of h
  exact ⟨h1, h2, fun r hr => small_mod (h2 r hr), fun r hr => small_gd (h2 r hr), fun r hr => small_id (h2 r hr)⟩
end Ix

set_option maxHeartbeats 3200000 in
theorem builds_law (rs : List Rc.Rd) (ra : Option Addr) (rc : Nat) (T : List Ix.PT) (a : Option Addr) (c : Nat) (w : World) (hG : G w) (hR : Rc.RdA w ra rc rs) (h : Ix.PsA w a c T) (hz : ∀ r ∈ rs, ∀ f ∈ r.fields, ∀ s ∈ f.subs, s.2.size ≤ 140737488351232) :
    Calls Tryz.prog 4 #[.slice ra rs.length rc, .agg #[.slice a T.length c]] w fun e w' => e = .returned (.bool true) ∧ Below w.heap.size w w' := by
  obtain ⟨W, hW⟩ : ∃ W, w.alloc (.cells #[.slice a T.length c] 34) = W := ⟨_, rfl⟩
  have hB : Below w.heap.size w W := by rw [← hW]; exact Tx.newb _ _
  have c0 : W.cell? ⟨w.heap.size, 0, none⟩ = some (.slice a T.length c) := by rw [← hW]; simp
  have HG := Lib.hid (hG.below hB)
  have HR := Lib.hid (hR.below hB)
  have HP := Lib.hid (h.below hB)
  have HZ := Lib.hid hz
  have HB := Lib.hid hB
  clear hG hR h hz
  cases hf : Ix.fewB rs with
  | false =>
    have HV := Lib.hid hf; clear hf
    go_enter Tryz.func4, Tryz.ntmps4
    go_wp2_with (first
      | (go_at_call 9; refine (lx_alive_c _ HG.out).mono ?_; rintro e w1 ⟨rfl, hb1⟩; clear hW)
      | (go_at_call 14; refine (lx_few_c rs ra rc _ (HR.out.below hb1) HZ.out).mono ?_; rintro e w2 ⟨rfl, hb2⟩; rw [HV.out]))
    go_ret
    exact ⟨rfl, Tx.step (Tx.step HB.out hb1) hb2⟩
  | true =>
    have HF := Lib.hid (Ix.few_f hf)
    have HV := Lib.hid hf; clear hf
    cases hr : Ix.rawB T with
    | false =>
      have HW := Lib.hid hr; clear hr
      go_enter Tryz.func4, Tryz.ntmps4
      go_wp2_with (first
        | (go_at_call 9; refine (lx_alive_c _ HG.out).mono ?_; rintro e w1 ⟨rfl, hb1⟩; clear hW)
        | (go_at_call 14; refine (lx_few_c rs ra rc _ (HR.out.below hb1) HZ.out).mono ?_; rintro e w2 ⟨rfl, hb2⟩; rw [HV.out]; have hb12 := Tx.step hb1 hb2; have x0 := cell_later hb12 c0)
        | (go_at_call 15; refine (lx_raw_c T a c _ (HP.out.below hb12)).mono ?_; rintro e w3 ⟨rfl, hb3⟩; rw [HW.out]))
      go_ret
      exact ⟨rfl, Tx.step (Tx.step HB.out hb12) hb3⟩
    | true =>
      have HN : Hid (T.length ≤ 40) := Lib.hid (Ix.raw_of hr).1
      have HW := Lib.hid hr; clear hr
      go_enter Tryz.func4, Tryz.ntmps4
      go_wp2_with (first
        | (go_at_call 9; refine (lx_alive_c _ HG.out).mono ?_; rintro e w1 ⟨rfl, hb1⟩; clear hW)
        | (go_at_call 14; refine (lx_few_c rs ra rc _ (HR.out.below hb1) HZ.out).mono ?_; rintro e w2 ⟨rfl, hb2⟩; rw [HV.out]; have hb12 := Tx.step hb1 hb2; have x0 := cell_later hb12 c0)
        | (go_at_call 15; refine (lx_raw_c T a c _ (HP.out.below hb12)).mono ?_; rintro e w3 ⟨rfl, hb3⟩; rw [HW.out]; have hb13 := Tx.step hb12 hb3; have HB13 := Lib.hid hb13; have y0 := cell_later hb13 c0))
      clear x0
      go_region_held3 (fun w' => Below w3.heap.size w3 w' ∧ w'.cell? ⟨w.heap.size, 0, none⟩ = some (.slice a T.length c))
        (first | exact ⟨(Below.refl _ _).drew, y0⟩ | (go_split_ands; exact ⟨Tx.step (by assumption) hbx, cell_later hbx (by assumption)⟩))
        (first
          | (go_split_ands; go_at_call 16; refine (r20_Same_c T1 T2 a1 a2 c1 c2 _ HP1.out HP2.out (HM1.out.trans HM2.out.symm)).mono ?_; rintro e wx ⟨rfl, hbx⟩)
          | (go_split_ands; go_at_call 18; refine (r20_Build_c rs ra rc _ (HR.out.below (Tx.step HB13.out (by assumption))) (Nat.le_trans HF.out.len (by decide)) HF.out.mod).mono ?_; rintro e wx ⟨a2, c2, T2, rfl, hp2, hm2, _, hbx⟩; have HP1 := Lib.hid (HP0.out.below hbx); have HP2 := Lib.hid hp2; have HM2 := Lib.hid hm2; clear hp2 hm2)
          | (go_split_ands; go_at_call 17; refine (ix_Build_c rs ra rc _ (HG.out.below (Tx.step HB13.out (by assumption))) (HR.out.below (Tx.step HB13.out (by assumption))) (Nat.le_trans HF.out.len (by decide)) HF.out.mod HF.out.gd (fun r hr => by have := HF.out.id r hr; omega)).mono ?_; rintro e wx ⟨a1, c1, T1, rfl, hp1, hm1, _, hbx⟩; have HP0 := Lib.hid hp1; have HM1 := Lib.hid hm1; clear hp1 hm1)
          | (go_split_ands; go_at_call 19; refine (ix_Right_c T a c _ (HP.out.below (Tx.step HB13.out (by assumption))) (by have := HN.out; omega)).mono ?_; rintro e wx ⟨rfl, hbx⟩)
          | (go_split_ands; go_at_call 20; refine (r20_Right_c T a c _ (HP.out.below (Tx.step HB13.out (by assumption))) (by have := HN.out; omega)).mono ?_; rintro e wx ⟨rfl, hbx⟩))
      all_goals
        go_split_ands
        go_wp2
        go_ret
        exact ⟨Tx.retb (by simp), Tx.step HB.out (Tx.step HB13.out (by assumption))⟩
end Go.Proofs.YtcjalpegffldaaaGreatDoor
