/- Layer 21: the law QueryRights: what its call returns. -/
import Derived.Test.YtkahplbjbidemaaGreatDoorQvX
import Derived.Test.YtkahplbjbidemaaGreatDoorQrX
import Derived.Deep.RegionHeld3
namespace Go.Proofs.YtkahplbjbidemaaGreatDoor
open Go.RowKit
set_option maxRecDepth 100000

set_option maxHeartbeats 3200000 in
theorem rights_law (B : Nat) (q : Qr.Qy) (cs : List Value) (w : World) (h : Qr.QC B w q cs) (hG : G w) :
    Calls Tryz.prog 3 #[.agg cs.toArray] w fun e w' => e = .returned (.bool true) ∧ Below w.heap.size w w' := by
  obtain ⟨op, fl, ya, yb, ws, ks, sa, sc, ka, kc, hq, rfl⟩ := h.eta
  clear hq
  obtain ⟨W, hW⟩ : ∃ W, w.alloc (.cells #[.int .i64 op, .int .i64 fl, .slice sa ws.length sc, .int .i64 ya, .int .i64 yb, .slice ka ks.length kc] 25) = W := ⟨_, rfl⟩
  have hB : Below w.heap.size w W := by rw [← hW]; exact Tx.newb _ _
  have c0 : W.cell? ⟨w.heap.size, 0, none⟩ = some (.int .i64 op) := by rw [← hW]; simp
  have c1 : W.cell? ⟨w.heap.size, 1, none⟩ = some (.int .i64 fl) := by rw [← hW]; simp
  have c2 : W.cell? ⟨w.heap.size, 2, none⟩ = some (.slice sa ws.length sc) := by rw [← hW]; simp
  have c3 : W.cell? ⟨w.heap.size, 3, none⟩ = some (.int .i64 ya) := by rw [← hW]; simp
  have c4 : W.cell? ⟨w.heap.size, 4, none⟩ = some (.int .i64 yb) := by rw [← hW]; simp
  have c5 : W.cell? ⟨w.heap.size, 5, none⟩ = some (.slice ka ks.length kc) := by rw [← hW]; simp
  have HQ := Lib.hid (h.later hB); clear h
  have hP : Qr.smB q = true → Qr.Sm q := Qr.smB_t.1
  have HP := Lib.hid hP; clear hP
  obtain ⟨t, ht⟩ : ∃ t, Qr.smB q = t := ⟨_, rfl⟩
  have HT := Lib.hid ht; clear ht
  have hGW := hG.below hB
  cases t with
  | false =>
    go_enter Tryz.func3, Tryz.ntmps3
    go_wp2_with (first
      | (go_at_call 9; refine (alive_c _ (hGW.below hb1)).mono ?_; rintro e w2 ⟨rfl, hb2⟩)
      | (go_at_call 8; refine (r21_Small_c B q _ W HQ.out).mono ?_; rintro e w1 ⟨rfl, hb1⟩; rw [HT.out]))
    go_ret
    exact ⟨rfl, hB.trans ((Tx.step hb1 hb2).mono hB.size)⟩
  | true =>
    have hsm := HP.out HT.out
    have hnd : Qr.nodes q ≤ 200 := hsm.1
    have HZ := Lib.hid hsm.2.wz
    clear hsm
    obtain ⟨r, hr⟩ : ∃ r, Qr.rightE q = r := ⟨_, rfl⟩
    obtain ⟨d, hd⟩ : ∃ d, Qr.depth q = d := ⟨_, rfl⟩
    have HR := Lib.hid hr; clear hr
    have HD := Lib.hid hd; clear hd
    go_enter Tryz.func3, Tryz.ntmps3
    go_wp2_with (go_at_call 8; refine (r21_Small_c B q _ W HQ.out).mono ?_; rintro e w1 ⟨rfl, hb1⟩; rw [HT.out]; have e0 := cell_later hb1 c0; have e1 := cell_later hb1 c1; have e2 := cell_later hb1 c2; have e3 := cell_later hb1 c3; have e4 := cell_later hb1 c4; have e5 := cell_later hb1 c5)
    clear hW c0 c1 c2 c3 c4 c5
    have HQ1 := Lib.hid (HQ.out.later hb1)
    have hG1 := hGW.below hb1
    go_region_held3 (fun w' => Below w1.heap.size w1 w' ∧ w'.cell? ⟨w.heap.size, 0, none⟩ = some (.int .i64 op) ∧ w'.cell? ⟨w.heap.size, 1, none⟩ = some (.int .i64 fl) ∧ w'.cell? ⟨w.heap.size, 2, none⟩ = some (.slice sa ws.length sc) ∧ w'.cell? ⟨w.heap.size, 3, none⟩ = some (.int .i64 ya) ∧ w'.cell? ⟨w.heap.size, 4, none⟩ = some (.int .i64 yb) ∧ w'.cell? ⟨w.heap.size, 5, none⟩ = some (.slice ka ks.length kc))
      (first
        | exact ⟨(Below.refl _ _).drew, e0, e1, e2, e3, e4, e5⟩
        | (go_split_ands; exact ⟨Tx.step (by assumption) hbx, cell_later hbx (by assumption), cell_later hbx (by assumption), cell_later hbx (by assumption), cell_later hbx (by assumption), cell_later hbx (by assumption), cell_later hbx (by assumption)⟩))
      (first
        | (go_split_ands; go_at_call 10; refine (Right_c B q _ _ (HQ1.out.later (by assumption)) HZ.out (by omega) (hG1.below (by assumption))).mono ?_; rintro e w2 ⟨rfl, hbx⟩; rw [HR.out])
        | (go_split_ands; go_at_call 11; refine (r21_Right_c B q _ _ (HQ1.out.later (by assumption)) HZ.out (by omega)).mono ?_; rintro e w2 ⟨rfl, hbx⟩; rw [HR.out])
        | (go_split_ands; go_at_call 12; refine (Depth_c B q _ _ (HQ1.out.later (by assumption)) (by omega)).mono ?_; rintro e w2 ⟨rfl, hbx⟩; rw [HD.out])
        | (go_split_ands; go_at_call 13; refine (r21_Depth_c B q _ _ (HQ1.out.later (by assumption)) (by omega)).mono ?_; rintro e w2 ⟨rfl, hbx⟩; rw [HD.out])
        | (go_split_ands; go_at_call 9; refine (alive_c _ (hG1.below (by assumption))).mono ?_; rintro e w2 ⟨rfl, hbx⟩))
    go_split_ands
    go_wp2
    go_ret
    exact ⟨Tx.retb (by simp), hB.trans ((Tx.step hb1 (by assumption)).mono hB.size)⟩
end Go.Proofs.YtkahplbjbidemaaGreatDoor
