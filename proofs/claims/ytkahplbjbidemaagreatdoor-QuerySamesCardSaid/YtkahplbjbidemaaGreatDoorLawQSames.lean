/- Layer 21: the law QuerySames: what its call returns. -/
import Derived.Test.YtkahplbjbidemaaGreatDoorQvX
import Derived.Test.YtkahplbjbidemaaGreatDoorQeX
import Derived.Deep.RegionHeld3
namespace Go.Proofs.YtkahplbjbidemaaGreatDoor
open Go.RowKit
set_option maxRecDepth 100000

set_option maxHeartbeats 6400000 in
theorem sames_law (B : Nat) (q q2 : Qr.Qy) (cs ds : List Value) (w : World) (h : Qr.QC B w q cs) (h2 : Qr.QC B w q2 ds) (hG : G w) :
    Calls Tryz.prog 6 #[.agg cs.toArray, .agg ds.toArray] w fun e w' => e = .returned (.bool true) ∧ Below w.heap.size w w' := by
  obtain ⟨op, fl, ya, yb, ws, ks, sa, sc, ka, kc, hq, rfl⟩ := h.eta
  clear hq
  obtain ⟨op2, fl2, ya2, yb2, ws2, ks2, sa2, sc2, ka2, kc2, hq, rfl⟩ := h2.eta
  clear hq
  obtain ⟨W, hW⟩ : ∃ W, (w.alloc (.cells #[.int .i64 op, .int .i64 fl, .slice sa ws.length sc, .int .i64 ya, .int .i64 yb, .slice ka ks.length kc] 25)).alloc (.cells #[.int .i64 op2, .int .i64 fl2, .slice sa2 ws2.length sc2, .int .i64 ya2, .int .i64 yb2, .slice ka2 ks2.length kc2] 25) = W := ⟨_, rfl⟩
  have hB : Below w.heap.size w W := by rw [← hW]; exact (Tx.newb _ _).alloc (Tx.newb w _).size _
  have c0 : W.cell? ⟨w.heap.size, 0, none⟩ = some (.int .i64 op) := by rw [← hW]; simp
  have c1 : W.cell? ⟨w.heap.size, 1, none⟩ = some (.int .i64 fl) := by rw [← hW]; simp
  have c2 : W.cell? ⟨w.heap.size, 2, none⟩ = some (.slice sa ws.length sc) := by rw [← hW]; simp
  have c3 : W.cell? ⟨w.heap.size, 3, none⟩ = some (.int .i64 ya) := by rw [← hW]; simp
  have c4 : W.cell? ⟨w.heap.size, 4, none⟩ = some (.int .i64 yb) := by rw [← hW]; simp
  have c5 : W.cell? ⟨w.heap.size, 5, none⟩ = some (.slice ka ks.length kc) := by rw [← hW]; simp
  have d0 : W.cell? ⟨w.heap.size + 1, 0, none⟩ = some (.int .i64 op2) := by rw [← hW]; simp
  have d1 : W.cell? ⟨w.heap.size + 1, 1, none⟩ = some (.int .i64 fl2) := by rw [← hW]; simp
  have d2 : W.cell? ⟨w.heap.size + 1, 2, none⟩ = some (.slice sa2 ws2.length sc2) := by rw [← hW]; simp
  have d3 : W.cell? ⟨w.heap.size + 1, 3, none⟩ = some (.int .i64 ya2) := by rw [← hW]; simp
  have d4 : W.cell? ⟨w.heap.size + 1, 4, none⟩ = some (.int .i64 yb2) := by rw [← hW]; simp
  have d5 : W.cell? ⟨w.heap.size + 1, 5, none⟩ = some (.slice ka2 ks2.length kc2) := by rw [← hW]; simp
  have HQ := Lib.hid (h.later hB); clear h
  have HQ2 := Lib.hid (h2.later hB); clear h2
  have hGW := hG.below hB
  have HP := Lib.hid (fun h : Qr.smB q = true => Qr.smB_t.1 h)
  have HP2 := Lib.hid (fun h : Qr.smB q2 = true => Qr.smB_t.1 h)
  obtain ⟨t, ht⟩ : ∃ t, Qr.smB q = t := ⟨_, rfl⟩
  have HT := Lib.hid ht; clear ht
  obtain ⟨u, hu⟩ : ∃ u, Qr.smB q2 = u := ⟨_, rfl⟩
  have HU := Lib.hid hu; clear hu
  cases t with
  | false =>
    go_enter Tryz.func6, Tryz.ntmps6
    go_wp2_with (first
      | (go_at_call 9; refine (alive_c _ (hGW.below hb1)).mono ?_; rintro e w2 ⟨rfl, hb2⟩)
      | (go_at_call 8; refine (r21_Small_c B q _ W HQ.out).mono ?_; rintro e w1 ⟨rfl, hb1⟩; rw [HT.out]))
    go_ret
    exact ⟨rfl, hB.trans ((Tx.step hb1 hb2).mono hB.size)⟩
  | true =>
    cases u with
    | false =>
      go_enter Tryz.func6, Tryz.ntmps6
      go_wp2_with (first
        | (go_at_call 9; refine (alive_c _ ((hGW.below hb1).below hb2)).mono ?_; rintro e w3 ⟨rfl, hb3⟩)
        | (go_at_call 8; refine (r21_Small_c B q2 _ w1 (HQ2.out.later hb1)).mono ?_; rintro e w2 ⟨rfl, hb2⟩; rw [HU.out])
        | (go_at_call 8; refine (r21_Small_c B q _ W HQ.out).mono ?_; rintro e w1 ⟨rfl, hb1⟩; rw [HT.out]; have x0 := cell_later hb1 c0; have x1 := cell_later hb1 c1; have x2 := cell_later hb1 c2; have x3 := cell_later hb1 c3; have x4 := cell_later hb1 c4; have x5 := cell_later hb1 c5; have y0 := cell_later hb1 d0; have y1 := cell_later hb1 d1; have y2 := cell_later hb1 d2; have y3 := cell_later hb1 d3; have y4 := cell_later hb1 d4; have y5 := cell_later hb1 d5))
      go_ret
      exact ⟨rfl, hB.trans ((Tx.step (Tx.step hb1 hb2) hb3).mono hB.size)⟩
    | true =>
      have HS := Lib.hid (HP.out HT.out).2
      have HS2 := Lib.hid (HP2.out HU.out).2
      obtain ⟨v, hv⟩ : ∃ v, Qr.eqB q q2 = v := ⟨_, rfl⟩
      have HV := Lib.hid hv; clear hv
      have HW : Hid (Qr.eqB q q = true) := Lib.hid (Qr.eqB_t.2 rfl)
      go_enter Tryz.func6, Tryz.ntmps6
      go_wp2_with (first
        | (go_at_call 8; refine (r21_Small_c B q2 _ w1 (HQ2.out.later hb1)).mono ?_; rintro e w2 ⟨rfl, hb2⟩; rw [HU.out]; have p0 := cell_later hb2 x0; have p1 := cell_later hb2 x1; have p2 := cell_later hb2 x2; have p3 := cell_later hb2 x3; have p4 := cell_later hb2 x4; have p5 := cell_later hb2 x5; have r0 := cell_later hb2 y0; have r1 := cell_later hb2 y1; have r2 := cell_later hb2 y2; have r3 := cell_later hb2 y3; have r4 := cell_later hb2 y4; have r5 := cell_later hb2 y5)
        | (go_at_call 8; refine (r21_Small_c B q _ W HQ.out).mono ?_; rintro e w1 ⟨rfl, hb1⟩; rw [HT.out]; have x0 := cell_later hb1 c0; have x1 := cell_later hb1 c1; have x2 := cell_later hb1 c2; have x3 := cell_later hb1 c3; have x4 := cell_later hb1 c4; have x5 := cell_later hb1 c5; have y0 := cell_later hb1 d0; have y1 := cell_later hb1 d1; have y2 := cell_later hb1 d2; have y3 := cell_later hb1 d3; have y4 := cell_later hb1 d4; have y5 := cell_later hb1 d5))
      clear hW c0 c1 c2 c3 c4 c5 d0 d1 d2 d3 d4 d5 x0 x1 x2 x3 x4 x5 y0 y1 y2 y3 y4 y5
      have hb12 := Tx.step hb1 hb2
      have HQ1 := Lib.hid ((HQ.out.later hb1).later hb2)
      have HQ3 := Lib.hid ((HQ2.out.later hb1).later hb2)
      have hG1 := (hGW.below hb1).below hb2
      go_region_held3 (fun w' => Below w2.heap.size w2 w' ∧ w'.cell? ⟨w.heap.size, 0, none⟩ = some (.int .i64 op) ∧ w'.cell? ⟨w.heap.size, 1, none⟩ = some (.int .i64 fl) ∧ w'.cell? ⟨w.heap.size, 2, none⟩ = some (.slice sa ws.length sc) ∧ w'.cell? ⟨w.heap.size, 3, none⟩ = some (.int .i64 ya) ∧ w'.cell? ⟨w.heap.size, 4, none⟩ = some (.int .i64 yb) ∧ w'.cell? ⟨w.heap.size, 5, none⟩ = some (.slice ka ks.length kc) ∧ w'.cell? ⟨w.heap.size + 1, 0, none⟩ = some (.int .i64 op2) ∧ w'.cell? ⟨w.heap.size + 1, 1, none⟩ = some (.int .i64 fl2) ∧ w'.cell? ⟨w.heap.size + 1, 2, none⟩ = some (.slice sa2 ws2.length sc2) ∧ w'.cell? ⟨w.heap.size + 1, 3, none⟩ = some (.int .i64 ya2) ∧ w'.cell? ⟨w.heap.size + 1, 4, none⟩ = some (.int .i64 yb2) ∧ w'.cell? ⟨w.heap.size + 1, 5, none⟩ = some (.slice ka2 ks2.length kc2))
        (first
          | exact ⟨(Below.refl _ _).drew, p0, p1, p2, p3, p4, p5, r0, r1, r2, r3, r4, r5⟩
          | (go_split_ands; exact ⟨Tx.step (by assumption) hbx, cell_later hbx (by assumption), cell_later hbx (by assumption), cell_later hbx (by assumption), cell_later hbx (by assumption), cell_later hbx (by assumption), cell_later hbx (by assumption), cell_later hbx (by assumption), cell_later hbx (by assumption), cell_later hbx (by assumption), cell_later hbx (by assumption), cell_later hbx (by assumption), cell_later hbx (by assumption)⟩))
        (first
          | (go_split_ands; go_at_call 19; with_reducible refine (Same_c B q q2 _ _ _ (HQ1.out.later (by assumption)) (HQ3.out.later (by assumption)) HS.out HS2.out).mono ?_; rintro e wx ⟨rfl, hbx⟩; rw [HV.out])
          | (go_split_ands; go_at_call 19; with_reducible refine (Same_c B q q _ _ _ (HQ1.out.later (by assumption)) (HQ1.out.later (by assumption)) HS.out HS.out).mono ?_; rintro e wx ⟨rfl, hbx⟩; rw [HW.out])
          | (go_split_ands; go_at_call 16; refine (r21_Same_c B q q2 _ _ _ (HQ1.out.later (by assumption)) (HQ3.out.later (by assumption))).mono ?_; rintro e wx ⟨rfl, hbx⟩; rw [HV.out])
          | (go_split_ands; go_at_call 9; refine (alive_c _ (hG1.below (by assumption))).mono ?_; rintro e wx ⟨rfl, hbx⟩))
      go_split_ands
      go_wp2
      go_ret
      exact ⟨Tx.retb (by simp), hB.trans ((Tx.step hb12 (by assumption)).mono hB.size)⟩
end Go.Proofs.YtkahplbjbidemaaGreatDoor
