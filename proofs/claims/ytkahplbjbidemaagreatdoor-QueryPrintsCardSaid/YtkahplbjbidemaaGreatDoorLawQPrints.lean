/- Layer 21: the law QueryPrints: what its call returns. -/
import Derived.Test.YtkahplbjbidemaaGreatDoorQvX
import Derived.Test.YtkahplbjbidemaaGreatDoorQrY
import Derived.Deep.RegionHeld3
namespace Go.Proofs.YtkahplbjbidemaaGreatDoor
open Go.RowKit
set_option maxRecDepth 100000

set_option maxHeartbeats 3200000 in
theorem prints_law (B : Nat) (q : Qr.Qy) (cs : List Value) (w : World) (h : Qr.QC B w q cs) (hG : G w) :
    Calls Tryz.prog 5 #[.agg cs.toArray] w fun e w' => e = .returned (.bool true) ∧ Below w.heap.size w w' := by
  obtain ⟨op, fl, ya, yb, ws, ks, sa, sc, ka, kc, hq, rfl⟩ := h.eta
  clear hq
  obtain ⟨W, hW⟩ : ∃ W, w.alloc (.cells #[.int .i64 op, .int .i64 fl, .slice sa ws.length sc, .int .i64 ya, .int .i64 yb, .slice ka ks.length kc] 25) = W := ⟨_, rfl⟩
  have hB : Below w.heap.size w W := by rw [← hW]; exact Tx.newb _ _
  have c0 : W.cell? ⟨w.heap.size, 0, none⟩ = some (.int .i64 op) := by rw [← hW]; simp
  have c1 : W.cell? ⟨w.heap.size, 1, none⟩ = some (.int .i64 fl) := by rw [← hW]; simp
  have c2 : W.cell? ⟨w.heap.size, 2, none⟩ = some (.slice sa ws.length sc) := by rw [← hW]; simp
  have c3 : W.cell? ⟨w.heap.size, 3, none⟩ = some (.int .i64 ya) := by rw [← hW]; simp
  have c4 : W.cell? ⟨w.heap.size, 4, none⟩ = some (.int .i64 yb) := by rw [← hW]; simp
  have c5 : W.cell? ⟨w.heap.size, 5, none⟩ = some (.slice ka ks.length kc) := by rw [← hW]; simp
  have HQ := Lib.hid (h.later hB); clear h
  have hP : Qr.smB q = true → Qr.Sm q := Qr.smB_t.1
  have HP := Lib.hid hP; clear hP
  obtain ⟨t, ht⟩ : ∃ t, Qr.smB q = t := ⟨_, rfl⟩
  have HT := Lib.hid ht; clear ht
  have hGW := hG.below hB
  cases t with
  | false =>
    go_enter Tryz.func5, Tryz.ntmps5
    go_wp2_with (first
      | (go_at_call 9; refine (alive_c _ (hGW.below hb1)).mono ?_; rintro e w2 ⟨rfl, hb2⟩)
      | (go_at_call 8; refine (r21_Small_c B q _ W HQ.out).mono ?_; rintro e w1 ⟨rfl, hb1⟩; rw [HT.out]))
    go_ret
    exact ⟨rfl, hB.trans ((Tx.step hb1 hb2).mono hB.size)⟩
  | true =>
    have hsm := HP.out HT.out
    have hnd : Qr.nodes q ≤ 200 := hsm.1
    have HZ := Lib.hid hsm.2.wz
    clear hsm
    obtain ⟨r, hr⟩ : ∃ r, Qr.rightE q = r := ⟨_, rfl⟩
    obtain ⟨P, hd⟩ : ∃ P, (⟨(Qr.printT q).toArray⟩ : ByteArray) = P := ⟨_, rfl⟩
    have HR := Lib.hid hr; clear hr
    have HD := Lib.hid hd; clear hd
    go_enter Tryz.func5, Tryz.ntmps5
    go_wp2_with (first
      | (go_at_call 9; refine (alive_c _ (((hGW.below hb1).below hb2).below hb3)).mono ?_; rintro e w4 ⟨rfl, hb4⟩)
      | (go_at_call 18; refine (r21_Print_c B q _ _ ((HQ.out.later hb1).later hb2) HZ.out (by omega)).mono ?_; rintro e w3 ⟨rfl, hb3⟩; rw [HR.out, HD.out])
      | (go_at_call 17; refine (Print_c B q _ _ (HQ.out.later hb1) HZ.out (by omega) (hGW.below hb1)).mono ?_; rintro e w2 ⟨rfl, hb2⟩; rw [HR.out, HD.out]; have f0 := cell_later hb2 e0; have f1 := cell_later hb2 e1; have f2 := cell_later hb2 e2; have f3 := cell_later hb2 e3; have f4 := cell_later hb2 e4; have f5 := cell_later hb2 e5)
      | (go_at_call 8; refine (r21_Small_c B q _ W HQ.out).mono ?_; rintro e w1 ⟨rfl, hb1⟩; rw [HT.out]; have e0 := cell_later hb1 c0; have e1 := cell_later hb1 c1; have e2 := cell_later hb1 c2; have e3 := cell_later hb1 c3; have e4 := cell_later hb1 c4; have e5 := cell_later hb1 c5))
    go_ret
    exact ⟨Tx.retb (by simp), hB.trans ((Tx.step (Tx.step (Tx.step hb1 hb2) hb3) hb4).mono hB.size)⟩
end Go.Proofs.YtkahplbjbidemaaGreatDoor
