/- Layer 21: the law QueryRestores: what its call returns. -/
import Derived.Test.YtkahplbjbidemaaDoorQvX
import Derived.Test.YtkahplbjbidemaaDoorQeX
import Derived.Test.YtkahplbjbidemaaDoorQnX
namespace Go.Proofs.YtkahplbjbidemaaDoor
open Go.RowKit
set_option maxRecDepth 100000

theorem Parse_s (s : ByteArray) (op fl a b : Int) (ws : List ByteArray) (ks : List Qr.Qy) (E : Int) (h : Qr.parse s.data.toList = (.mk op fl ws a b ks, E)) (w : World) (hG : G w) :
    Calls Tryd.prog 8 #[.string s] w fun e w' => ∃ sa sc ka kc, e = .returned (.tuple #[.agg #[.int .i64 op, .int .i64 fl, .slice sa ws.length sc, .int .i64 a, .int .i64 b, .slice ka ks.length kc], .int .i64 E]) ∧ Qr.QC 0 w' (.mk op fl ws a b ks) [.int .i64 op, .int .i64 fl, .slice sa ws.length sc, .int .i64 a, .int .i64 b, .slice ka ks.length kc] ∧ Below w.heap.size w w' := by
  refine (Parse_c s w hG).mono ?_
  rintro e w' ⟨t, rfl, hq, hb⟩
  rw [h] at hq ⊢
  obtain ⟨sa, sc, ka, kc, e1, _, _, _⟩ := hq.kids
  rw [e1] at hq ⊢
  exact ⟨sa, sc, ka, kc, rfl, hq.mono (Nat.zero_le _), hb⟩

set_option maxHeartbeats 6400000 in
theorem restores_law (B : Nat) (q : Qr.Qy) (cs : List Value) (w : World) (h : Qr.QC B w q cs) (hG : G w) :
    Calls Tryd.prog 3 #[.agg cs.toArray] w fun e w' => e = .returned (.bool true) ∧ Below w.heap.size w w' := by
  obtain ⟨op, fl, ya, yb, ws, ks, saQ, scQ, kaQ, kcQ, hq, rfl⟩ := h.eta
  obtain ⟨W, hW⟩ : ∃ W, w.alloc (.cells #[.int .i64 op, .int .i64 fl, .slice saQ ws.length scQ, .int .i64 ya, .int .i64 yb, .slice kaQ ks.length kcQ] 25) = W := ⟨_, rfl⟩
  have kW : Below w.heap.size w W := by rw [← hW]; exact Tx.newb _ _
  have KQ : Hid (W.heap[w.heap.size]? = some (.cells #[.int .i64 op, .int .i64 fl, .slice saQ ws.length scQ, .int .i64 ya, .int .i64 yb, .slice kaQ ks.length kcQ] 25 (0, 0))) := Lib.hid (by rw [← hW]; exact heap_alloc_new w _)
  have c0 : W.cell? ⟨w.heap.size, 0, none⟩ = some (.int .i64 op) := (Tx.blk KQ.out).1 0
  have c1 : W.cell? ⟨w.heap.size, 1, none⟩ = some (.int .i64 fl) := (Tx.blk KQ.out).1 1
  have c2 : W.cell? ⟨w.heap.size, 2, none⟩ = some (.slice saQ ws.length scQ) := (Tx.blk KQ.out).1 2
  have c3 : W.cell? ⟨w.heap.size, 3, none⟩ = some (.int .i64 ya) := (Tx.blk KQ.out).1 3
  have c4 : W.cell? ⟨w.heap.size, 4, none⟩ = some (.int .i64 yb) := (Tx.blk KQ.out).1 4
  have c5 : W.cell? ⟨w.heap.size, 5, none⟩ = some (.slice kaQ ks.length kcQ) := (Tx.blk KQ.out).1 5
  have HQ := Lib.hid (h.later kW); clear h
  have hP : Qr.smB q = true → Qr.Sm q := Qr.smB_t.1
  have HP := Lib.hid hP; clear hP
  obtain ⟨t, ht⟩ : ∃ t, Qr.smB q = t := ⟨_, rfl⟩
  have HT := Lib.hid ht; clear ht
  cases t with
  | false =>
    go_enter Tryd.func3, Tryd.ntmps3
    go_wp2_with (first
      | (go_at_call 6; refine (alive_c _ (hG.below k1)).mono ?_; rintro e v2 ⟨rfl, hb2⟩; have k2 := Tx.step k1 hb2; replace KQ := Lib.hid (Tx.blk_later KQ.out hb2); replace HQ := Lib.hid (HQ.out.later hb2))
      | (go_at_call 5; refine (r21_Small_c B q _ W HQ.out).mono ?_; rintro e v1 ⟨rfl, hb1⟩; rw [HT.out]; have k1 := Tx.step kW hb1; replace KQ := Lib.hid (Tx.blk_later KQ.out hb1); replace HQ := Lib.hid (HQ.out.later hb1); have cQ0_1 : v1.cell? ⟨w.heap.size, 0, none⟩ = some (.int .i64 op) := (Tx.blk KQ.out).1 0; have cQ1_1 : v1.cell? ⟨w.heap.size, 1, none⟩ = some (.int .i64 fl) := (Tx.blk KQ.out).1 1; have cQ2_1 : v1.cell? ⟨w.heap.size, 2, none⟩ = some (.slice saQ ws.length scQ) := (Tx.blk KQ.out).1 2; have cQ3_1 : v1.cell? ⟨w.heap.size, 3, none⟩ = some (.int .i64 ya) := (Tx.blk KQ.out).1 3; have cQ4_1 : v1.cell? ⟨w.heap.size, 4, none⟩ = some (.int .i64 yb) := (Tx.blk KQ.out).1 4; have cQ5_1 : v1.cell? ⟨w.heap.size, 5, none⟩ = some (.slice kaQ ks.length kcQ) := (Tx.blk KQ.out).1 5))
    go_ret
    exact ⟨rfl, k2⟩
  | true =>
    have hsm := HP.out HT.out
    have hnd : Qr.nodes q ≤ 200 := hsm.1
    have HZ := Lib.hid hsm.2.wz
    clear hsm HP
    obtain ⟨r, hr⟩ : ∃ r, Qr.rightE q = r := ⟨_, rfl⟩
    obtain ⟨P, hd⟩ : ∃ P, (⟨(Qr.printT q).toArray⟩ : ByteArray) = P := ⟨_, rfl⟩
    have HR := Lib.hid hr
    have HPT := Lib.hid hd
    by_cases hr0 : r = 0
    · have hpt : Qr.printT q = Qr.text q := by unfold Qr.printT; rw [hr, if_pos hr0]
      have hPl : P.size = (Qr.text q).length := by rw [← hd, hpt, Tx.size_mk]
      have hpl : P.data.toList = Qr.text q := by rw [← hd, hpt]
      have hres : (Qr.text q).length ≤ 1000 → Qr.parse P.data.toList = (.mk op fl ws ya yb ks, 0) := fun hl => by
        rw [hpl, ← hq]
        exact Qr.restores q (by rw [hr, hr0]) hl
      subst hr0
      by_cases hl : 1000 < P.size
      · clear hq hr hd hpt hPl hpl hres
        go_enter Tryd.func3, Tryd.ntmps3
        go_wp2_with (first
          | (go_at_call 6; refine (alive_c _ (hG.below k2)).mono ?_; rintro e v3 ⟨rfl, hb3⟩; have k3 := Tx.step k2 hb3; replace KQ := Lib.hid (Tx.blk_later KQ.out hb3); replace HQ := Lib.hid (HQ.out.later hb3))
          | (go_at_call 7; refine (Print_c B q _ _ HQ.out HZ.out (by omega) (hG.below k1)).mono ?_; rintro e v2 ⟨rfl, hb2⟩; rw [HR.out, HPT.out]; have k2 := Tx.step k1 hb2; replace KQ := Lib.hid (Tx.blk_later KQ.out hb2); replace HQ := Lib.hid (HQ.out.later hb2))
          | (go_at_call 5; refine (r21_Small_c B q _ W HQ.out).mono ?_; rintro e v1 ⟨rfl, hb1⟩; rw [HT.out]; have k1 := Tx.step kW hb1; replace KQ := Lib.hid (Tx.blk_later KQ.out hb1); replace HQ := Lib.hid (HQ.out.later hb1); have cQ0_1 : v1.cell? ⟨w.heap.size, 0, none⟩ = some (.int .i64 op) := (Tx.blk KQ.out).1 0; have cQ1_1 : v1.cell? ⟨w.heap.size, 1, none⟩ = some (.int .i64 fl) := (Tx.blk KQ.out).1 1; have cQ2_1 : v1.cell? ⟨w.heap.size, 2, none⟩ = some (.slice saQ ws.length scQ) := (Tx.blk KQ.out).1 2; have cQ3_1 : v1.cell? ⟨w.heap.size, 3, none⟩ = some (.int .i64 ya) := (Tx.blk KQ.out).1 3; have cQ4_1 : v1.cell? ⟨w.heap.size, 4, none⟩ = some (.int .i64 yb) := (Tx.blk KQ.out).1 4; have cQ5_1 : v1.cell? ⟨w.heap.size, 5, none⟩ = some (.slice kaQ ks.length kcQ) := (Tx.blk KQ.out).1 5))
        go_ret
        exact ⟨rfl, k3⟩
      · have P1 := Lib.hid (fun w hG => Parse_s P op fl ya yb ws ks 0 (hres (by omega)) w hG)
        have SM : Hid (Qr.eqB (.mk op fl ws ya yb ks) q = true) := Lib.hid (Qr.eqB_t.2 hq.symm)
        clear hq hr hd hpt hPl hpl hres
        go_enter Tryd.func3, Tryd.ntmps3
        go_wp2_with (first
          | (go_at_call 6; refine (alive_c _ (hG.below k4)).mono ?_; rintro e v5 ⟨rfl, hb5⟩; have k5 := Tx.step k4 hb5; replace KQ := Lib.hid (Tx.blk_later KQ.out hb5); replace HQ := Lib.hid (HQ.out.later hb5); replace KP := Lib.hid (Tx.blk_later KP.out hb5); replace HP := Lib.hid (HP.out.later hb5))
          | (go_at_call 9; refine ((show Below w.heap.size w _ from k3a) |> fun _ => r21_Same_c 0 _ _ _ _ _ HP.out (HQ.out.mono (Nat.zero_le _))).mono ?_; rintro e v4 ⟨rfl, hb4⟩; rw [SM.out]; have k4 := Tx.step k3a hb4; replace KQ := Lib.hid (Tx.blk_later KQ.out hb4); replace HQ := Lib.hid (HQ.out.later hb4); replace KP := Lib.hid (Tx.blk_later KP.out hb4); replace HP := Lib.hid (HP.out.later hb4))
          | (go_at_call 8; refine (P1.out _ (hG.below k2)).mono ?_; rintro e v3 ⟨saP, scP, kaP, kcP, rfl, hq3, hb3⟩; have k3 := Tx.step k2 hb3; replace KQ := Lib.hid (Tx.blk_later KQ.out hb3); replace HQ := Lib.hid (HQ.out.later hb3); have k3a : Below w.heap.size w (v3.alloc (.cells #[.int .i64 op, .int .i64 fl, .slice saP ws.length scP, .int .i64 ya, .int .i64 yb, .slice kaP ks.length kcP] 25)) := k3.alloc k3.size _; replace KQ := Lib.hid (Tx.blk_later KQ.out (Tx.newb v3 (.cells #[.int .i64 op, .int .i64 fl, .slice saP ws.length scP, .int .i64 ya, .int .i64 yb, .slice kaP ks.length kcP] 25))); replace HQ := Lib.hid (HQ.out.later (Tx.newb v3 (.cells #[.int .i64 op, .int .i64 fl, .slice saP ws.length scP, .int .i64 ya, .int .i64 yb, .slice kaP ks.length kcP] 25))); have KP : Hid ((v3.alloc (.cells #[.int .i64 op, .int .i64 fl, .slice saP ws.length scP, .int .i64 ya, .int .i64 yb, .slice kaP ks.length kcP] 25)).heap[v3.heap.size]? = some (.cells #[.int .i64 op, .int .i64 fl, .slice saP ws.length scP, .int .i64 ya, .int .i64 yb, .slice kaP ks.length kcP] 25 (0, 0))) := Lib.hid (heap_alloc_new v3 _); have HP := Lib.hid (hq3.later (Tx.newb v3 (.cells #[.int .i64 op, .int .i64 fl, .slice saP ws.length scP, .int .i64 ya, .int .i64 yb, .slice kaP ks.length kcP] 25))); have cQ0_3 : (v3.alloc (.cells #[.int .i64 op, .int .i64 fl, .slice saP ws.length scP, .int .i64 ya, .int .i64 yb, .slice kaP ks.length kcP] 25)).cell? ⟨w.heap.size, 0, none⟩ = some (.int .i64 op) := (Tx.blk KQ.out).1 0; have cQ1_3 : (v3.alloc (.cells #[.int .i64 op, .int .i64 fl, .slice saP ws.length scP, .int .i64 ya, .int .i64 yb, .slice kaP ks.length kcP] 25)).cell? ⟨w.heap.size, 1, none⟩ = some (.int .i64 fl) := (Tx.blk KQ.out).1 1; have cQ2_3 : (v3.alloc (.cells #[.int .i64 op, .int .i64 fl, .slice saP ws.length scP, .int .i64 ya, .int .i64 yb, .slice kaP ks.length kcP] 25)).cell? ⟨w.heap.size, 2, none⟩ = some (.slice saQ ws.length scQ) := (Tx.blk KQ.out).1 2; have cQ3_3 : (v3.alloc (.cells #[.int .i64 op, .int .i64 fl, .slice saP ws.length scP, .int .i64 ya, .int .i64 yb, .slice kaP ks.length kcP] 25)).cell? ⟨w.heap.size, 3, none⟩ = some (.int .i64 ya) := (Tx.blk KQ.out).1 3; have cQ4_3 : (v3.alloc (.cells #[.int .i64 op, .int .i64 fl, .slice saP ws.length scP, .int .i64 ya, .int .i64 yb, .slice kaP ks.length kcP] 25)).cell? ⟨w.heap.size, 4, none⟩ = some (.int .i64 yb) := (Tx.blk KQ.out).1 4; have cQ5_3 : (v3.alloc (.cells #[.int .i64 op, .int .i64 fl, .slice saP ws.length scP, .int .i64 ya, .int .i64 yb, .slice kaP ks.length kcP] 25)).cell? ⟨w.heap.size, 5, none⟩ = some (.slice kaQ ks.length kcQ) := (Tx.blk KQ.out).1 5; have cP0_3 : (v3.alloc (.cells #[.int .i64 op, .int .i64 fl, .slice saP ws.length scP, .int .i64 ya, .int .i64 yb, .slice kaP ks.length kcP] 25)).cell? ⟨v3.heap.size, 0, none⟩ = some (.int .i64 op) := (Tx.blk KP.out).1 0; have cP1_3 : (v3.alloc (.cells #[.int .i64 op, .int .i64 fl, .slice saP ws.length scP, .int .i64 ya, .int .i64 yb, .slice kaP ks.length kcP] 25)).cell? ⟨v3.heap.size, 1, none⟩ = some (.int .i64 fl) := (Tx.blk KP.out).1 1; have cP2_3 : (v3.alloc (.cells #[.int .i64 op, .int .i64 fl, .slice saP ws.length scP, .int .i64 ya, .int .i64 yb, .slice kaP ks.length kcP] 25)).cell? ⟨v3.heap.size, 2, none⟩ = some (.slice saP ws.length scP) := (Tx.blk KP.out).1 2; have cP3_3 : (v3.alloc (.cells #[.int .i64 op, .int .i64 fl, .slice saP ws.length scP, .int .i64 ya, .int .i64 yb, .slice kaP ks.length kcP] 25)).cell? ⟨v3.heap.size, 3, none⟩ = some (.int .i64 ya) := (Tx.blk KP.out).1 3; have cP4_3 : (v3.alloc (.cells #[.int .i64 op, .int .i64 fl, .slice saP ws.length scP, .int .i64 ya, .int .i64 yb, .slice kaP ks.length kcP] 25)).cell? ⟨v3.heap.size, 4, none⟩ = some (.int .i64 yb) := (Tx.blk KP.out).1 4; have cP5_3 : (v3.alloc (.cells #[.int .i64 op, .int .i64 fl, .slice saP ws.length scP, .int .i64 ya, .int .i64 yb, .slice kaP ks.length kcP] 25)).cell? ⟨v3.heap.size, 5, none⟩ = some (.slice kaP ks.length kcP) := (Tx.blk KP.out).1 5)
          | (go_at_call 7; refine (Print_c B q _ _ HQ.out HZ.out (by omega) (hG.below k1)).mono ?_; rintro e v2 ⟨rfl, hb2⟩; rw [HR.out, HPT.out]; have k2 := Tx.step k1 hb2; replace KQ := Lib.hid (Tx.blk_later KQ.out hb2); replace HQ := Lib.hid (HQ.out.later hb2))
          | (go_at_call 5; refine (r21_Small_c B q _ W HQ.out).mono ?_; rintro e v1 ⟨rfl, hb1⟩; rw [HT.out]; have k1 := Tx.step kW hb1; replace KQ := Lib.hid (Tx.blk_later KQ.out hb1); replace HQ := Lib.hid (HQ.out.later hb1); have cQ0_1 : v1.cell? ⟨w.heap.size, 0, none⟩ = some (.int .i64 op) := (Tx.blk KQ.out).1 0; have cQ1_1 : v1.cell? ⟨w.heap.size, 1, none⟩ = some (.int .i64 fl) := (Tx.blk KQ.out).1 1; have cQ2_1 : v1.cell? ⟨w.heap.size, 2, none⟩ = some (.slice saQ ws.length scQ) := (Tx.blk KQ.out).1 2; have cQ3_1 : v1.cell? ⟨w.heap.size, 3, none⟩ = some (.int .i64 ya) := (Tx.blk KQ.out).1 3; have cQ4_1 : v1.cell? ⟨w.heap.size, 4, none⟩ = some (.int .i64 yb) := (Tx.blk KQ.out).1 4; have cQ5_1 : v1.cell? ⟨w.heap.size, 5, none⟩ = some (.slice kaQ ks.length kcQ) := (Tx.blk KQ.out).1 5))
        go_ret
        exact ⟨rfl, k5⟩
    · have hpt : Qr.printT q = [] := by unfold Qr.printT; rw [hr, if_neg hr0]
      obtain rfl : P = ⟨#[]⟩ := by rw [← hd, hpt]
      have hne : (r != 0) = true := by simpa using hr0
      clear hq hr hd hpt hr0
      go_enter Tryd.func3, Tryd.ntmps3
      go_wp2_with (first
        | (go_at_call 6; refine (alive_c _ (hG.below k2)).mono ?_; rintro e v3 ⟨rfl, hb3⟩; have k3 := Tx.step k2 hb3; replace KQ := Lib.hid (Tx.blk_later KQ.out hb3); replace HQ := Lib.hid (HQ.out.later hb3))
        | (go_at_call 7; refine (Print_c B q _ _ HQ.out HZ.out (by omega) (hG.below k1)).mono ?_; rintro e v2 ⟨rfl, hb2⟩; rw [HR.out, HPT.out]; have k2 := Tx.step k1 hb2; replace KQ := Lib.hid (Tx.blk_later KQ.out hb2); replace HQ := Lib.hid (HQ.out.later hb2))
        | (go_at_call 5; refine (r21_Small_c B q _ W HQ.out).mono ?_; rintro e v1 ⟨rfl, hb1⟩; rw [HT.out]; have k1 := Tx.step kW hb1; replace KQ := Lib.hid (Tx.blk_later KQ.out hb1); replace HQ := Lib.hid (HQ.out.later hb1); have cQ0_1 : v1.cell? ⟨w.heap.size, 0, none⟩ = some (.int .i64 op) := (Tx.blk KQ.out).1 0; have cQ1_1 : v1.cell? ⟨w.heap.size, 1, none⟩ = some (.int .i64 fl) := (Tx.blk KQ.out).1 1; have cQ2_1 : v1.cell? ⟨w.heap.size, 2, none⟩ = some (.slice saQ ws.length scQ) := (Tx.blk KQ.out).1 2; have cQ3_1 : v1.cell? ⟨w.heap.size, 3, none⟩ = some (.int .i64 ya) := (Tx.blk KQ.out).1 3; have cQ4_1 : v1.cell? ⟨w.heap.size, 4, none⟩ = some (.int .i64 yb) := (Tx.blk KQ.out).1 4; have cQ5_1 : v1.cell? ⟨w.heap.size, 5, none⟩ = some (.slice kaQ ks.length kcQ) := (Tx.blk KQ.out).1 5))
      go_ret
      exact ⟨rfl, k3⟩
end Go.Proofs.YtkahplbjbidemaaDoor
