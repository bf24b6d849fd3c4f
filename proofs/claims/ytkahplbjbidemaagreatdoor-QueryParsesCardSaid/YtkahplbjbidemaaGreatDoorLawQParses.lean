/- Layer 21: the law QueryParses: what its call returns. -/
import Derived.Test.YtkahplbjbidemaaGreatDoorQvX
import Derived.Test.YtkahplbjbidemaaGreatDoorQeX
import Derived.Test.YtkahplbjbidemaaGreatDoorQnX
import Derived.Test.YtkahplbjbidemaaGreatDoorQmP
namespace Go.Proofs.YtkahplbjbidemaaGreatDoor
open Go.RowKit
set_option maxRecDepth 100000

theorem Parse_s (s : ByteArray) (op fl a b : Int) (ws : List ByteArray) (ks : List Qr.Qy) (E : Int) (h : Qr.parse s.data.toList = (.mk op fl ws a b ks, E)) (w : World) (hG : G w) :
    Calls Tryz.prog 14 #[.string s] w fun e w' => ∃ sa sc ka kc, e = .returned (.tuple #[.agg #[.int .i64 op, .int .i64 fl, .slice sa ws.length sc, .int .i64 a, .int .i64 b, .slice ka ks.length kc], .int .i64 E]) ∧ Qr.QC 0 w' (.mk op fl ws a b ks) [.int .i64 op, .int .i64 fl, .slice sa ws.length sc, .int .i64 a, .int .i64 b, .slice ka ks.length kc] ∧ Below w.heap.size w w' := by
  refine (Parse_c s w hG).mono ?_
  rintro e w' ⟨t, rfl, hq, hb⟩
  rw [h] at hq ⊢
  obtain ⟨sa, sc, ka, kc, e1, _, _, _⟩ := hq.kids
  rw [e1] at hq ⊢
  exact ⟨sa, sc, ka, kc, rfl, hq.mono (Nat.zero_le _), hb⟩
theorem r21_Parse_s (s : ByteArray) (op fl a b : Int) (ws : List ByteArray) (ks : List Qr.Qy) (E : Int) (h : Qr.parse s.data.toList = (.mk op fl ws a b ks, E)) (w : World) :
    Calls Tryz.prog 15 #[.string s] w fun e w' => ∃ sa sc ka kc, e = .returned (.tuple #[.agg #[.int .i64 op, .int .i64 fl, .slice sa ws.length sc, .int .i64 a, .int .i64 b, .slice ka ks.length kc], .int .i64 E]) ∧ Qr.QC 0 w' (.mk op fl ws a b ks) [.int .i64 op, .int .i64 fl, .slice sa ws.length sc, .int .i64 a, .int .i64 b, .slice ka ks.length kc] ∧ Below w.heap.size w w' := by
  refine (r21_Parse_c s w).mono ?_
  rintro e w' ⟨t, rfl, hq, hb⟩
  rw [h] at hq ⊢
  obtain ⟨sa, sc, ka, kc, e1, _, _, _⟩ := hq.kids
  rw [e1] at hq ⊢
  exact ⟨sa, sc, ka, kc, rfl, hq.mono (Nat.zero_le _), hb⟩

set_option maxHeartbeats 6400000 in
theorem parses_law (s : ByteArray) (w : World) (hG : G w) :
    Calls Tryz.prog 4 #[.string s] w fun e w' => e = .returned (.bool true) ∧ Below w.heap.size w w' := by
  have k0 : Below w.heap.size w w := Below.refl _ _
  by_cases hs : 2000 < s.size
  · go_enter Tryz.func4, Tryz.ntmps4
    go_wp2_with (go_at_call 9; refine (alive_c _ hG).mono ?_; rintro e v1 ⟨rfl, hb1⟩)
    go_ret
    exact ⟨rfl, hb1⟩
  obtain ⟨⟨op, fl, ws, ya, yb, ks⟩, E, hE⟩ : ∃ q E, Qr.parse s.data.toList = (q, E) := ⟨_, _, rfl⟩
  have P1 := Lib.hid (fun w hG => Parse_s s op fl ya yb ws ks E hE w hG)
  have P2 := Lib.hid (fun w => r21_Parse_s s op fl ya yb ws ks E hE w)
  have SM : Hid (Qr.eqB (.mk op fl ws ya yb ks) (.mk op fl ws ya yb ks) = true) := Lib.hid (Qr.eqB_t.2 rfl)
  clear hE
  go_enter Tryz.func4, Tryz.ntmps4
  go_wp2_with (first
    | (go_at_call 9; refine (alive_c _ (hG.below k3)).mono ?_; rintro e v4 ⟨rfl, hb4⟩; have k4 := Tx.step k3 hb4; replace KQ := Lib.hid (Tx.blk_later KQ.out hb4); replace HQ := Lib.hid (HQ.out.later hb4); replace KP := Lib.hid (Tx.blk_later KP.out hb4); replace HP := Lib.hid (HP.out.later hb4))
    | (go_at_call 16; refine ((show Below w.heap.size w _ from k2a) |> fun _ => r21_Same_c 0 _ _ _ _ _ HQ.out HP.out).mono ?_; rintro e v3 ⟨rfl, hb3⟩; rw [SM.out]; have k3 := Tx.step k2a hb3; replace KQ := Lib.hid (Tx.blk_later KQ.out hb3); replace HQ := Lib.hid (HQ.out.later hb3); replace KP := Lib.hid (Tx.blk_later KP.out hb3); replace HP := Lib.hid (HP.out.later hb3))
    | (go_at_call 15; refine ((show Below w.heap.size w _ from k1a) |> fun _ => P2.out _).mono ?_; rintro e v2 ⟨saP, scP, kaP, kcP, rfl, hq2, hb2⟩; have k2 := Tx.step k1a hb2; replace KQ := Lib.hid (Tx.blk_later KQ.out hb2); replace HQ := Lib.hid (HQ.out.later hb2); have k2a : Below w.heap.size w (v2.alloc (.cells #[.int .i64 op, .int .i64 fl, .slice saP ws.length scP, .int .i64 ya, .int .i64 yb, .slice kaP ks.length kcP] 25)) := k2.alloc k2.size _; replace KQ := Lib.hid (Tx.blk_later KQ.out (Tx.newb v2 (.cells #[.int .i64 op, .int .i64 fl, .slice saP ws.length scP, .int .i64 ya, .int .i64 yb, .slice kaP ks.length kcP] 25))); replace HQ := Lib.hid (HQ.out.later (Tx.newb v2 (.cells #[.int .i64 op, .int .i64 fl, .slice saP ws.length scP, .int .i64 ya, .int .i64 yb, .slice kaP ks.length kcP] 25))); have KP : Hid ((v2.alloc (.cells #[.int .i64 op, .int .i64 fl, .slice saP ws.length scP, .int .i64 ya, .int .i64 yb, .slice kaP ks.length kcP] 25)).heap[v2.heap.size]? = some (.cells #[.int .i64 op, .int .i64 fl, .slice saP ws.length scP, .int .i64 ya, .int .i64 yb, .slice kaP ks.length kcP] 25 (0, 0))) := Lib.hid (heap_alloc_new v2 _); have HP := Lib.hid (hq2.later (Tx.newb v2 (.cells #[.int .i64 op, .int .i64 fl, .slice saP ws.length scP, .int .i64 ya, .int .i64 yb, .slice kaP ks.length kcP] 25))); have cQ0_2 : (v2.alloc (.cells #[.int .i64 op, .int .i64 fl, .slice saP ws.length scP, .int .i64 ya, .int .i64 yb, .slice kaP ks.length kcP] 25)).cell? ⟨v1.heap.size, 0, none⟩ = some (.int .i64 op) := (Tx.blk KQ.out).1 0; have cQ1_2 : (v2.alloc (.cells #[.int .i64 op, .int .i64 fl, .slice saP ws.length scP, .int .i64 ya, .int .i64 yb, .slice kaP ks.length kcP] 25)).cell? ⟨v1.heap.size, 1, none⟩ = some (.int .i64 fl) := (Tx.blk KQ.out).1 1; have cQ2_2 : (v2.alloc (.cells #[.int .i64 op, .int .i64 fl, .slice saP ws.length scP, .int .i64 ya, .int .i64 yb, .slice kaP ks.length kcP] 25)).cell? ⟨v1.heap.size, 2, none⟩ = some (.slice saQ ws.length scQ) := (Tx.blk KQ.out).1 2; have cQ3_2 : (v2.alloc (.cells #[.int .i64 op, .int .i64 fl, .slice saP ws.length scP, .int .i64 ya, .int .i64 yb, .slice kaP ks.length kcP] 25)).cell? ⟨v1.heap.size, 3, none⟩ = some (.int .i64 ya) := (Tx.blk KQ.out).1 3; have cQ4_2 : (v2.alloc (.cells #[.int .i64 op, .int .i64 fl, .slice saP ws.length scP, .int .i64 ya, .int .i64 yb, .slice kaP ks.length kcP] 25)).cell? ⟨v1.heap.size, 4, none⟩ = some (.int .i64 yb) := (Tx.blk KQ.out).1 4; have cQ5_2 : (v2.alloc (.cells #[.int .i64 op, .int .i64 fl, .slice saP ws.length scP, .int .i64 ya, .int .i64 yb, .slice kaP ks.length kcP] 25)).cell? ⟨v1.heap.size, 5, none⟩ = some (.slice kaQ ks.length kcQ) := (Tx.blk KQ.out).1 5; have cP0_2 : (v2.alloc (.cells #[.int .i64 op, .int .i64 fl, .slice saP ws.length scP, .int .i64 ya, .int .i64 yb, .slice kaP ks.length kcP] 25)).cell? ⟨v2.heap.size, 0, none⟩ = some (.int .i64 op) := (Tx.blk KP.out).1 0; have cP1_2 : (v2.alloc (.cells #[.int .i64 op, .int .i64 fl, .slice saP ws.length scP, .int .i64 ya, .int .i64 yb, .slice kaP ks.length kcP] 25)).cell? ⟨v2.heap.size, 1, none⟩ = some (.int .i64 fl) := (Tx.blk KP.out).1 1; have cP2_2 : (v2.alloc (.cells #[.int .i64 op, .int .i64 fl, .slice saP ws.length scP, .int .i64 ya, .int .i64 yb, .slice kaP ks.length kcP] 25)).cell? ⟨v2.heap.size, 2, none⟩ = some (.slice saP ws.length scP) := (Tx.blk KP.out).1 2; have cP3_2 : (v2.alloc (.cells #[.int .i64 op, .int .i64 fl, .slice saP ws.length scP, .int .i64 ya, .int .i64 yb, .slice kaP ks.length kcP] 25)).cell? ⟨v2.heap.size, 3, none⟩ = some (.int .i64 ya) := (Tx.blk KP.out).1 3; have cP4_2 : (v2.alloc (.cells #[.int .i64 op, .int .i64 fl, .slice saP ws.length scP, .int .i64 ya, .int .i64 yb, .slice kaP ks.length kcP] 25)).cell? ⟨v2.heap.size, 4, none⟩ = some (.int .i64 yb) := (Tx.blk KP.out).1 4; have cP5_2 : (v2.alloc (.cells #[.int .i64 op, .int .i64 fl, .slice saP ws.length scP, .int .i64 ya, .int .i64 yb, .slice kaP ks.length kcP] 25)).cell? ⟨v2.heap.size, 5, none⟩ = some (.slice kaP ks.length kcP) := (Tx.blk KP.out).1 5)
    | (go_at_call 14; refine (P1.out _ (hG.below k0)).mono ?_; rintro e v1 ⟨saQ, scQ, kaQ, kcQ, rfl, hq1, hb1⟩; have k1 := Tx.step k0 hb1; have k1a : Below w.heap.size w (v1.alloc (.cells #[.int .i64 op, .int .i64 fl, .slice saQ ws.length scQ, .int .i64 ya, .int .i64 yb, .slice kaQ ks.length kcQ] 25)) := k1.alloc k1.size _; have KQ : Hid ((v1.alloc (.cells #[.int .i64 op, .int .i64 fl, .slice saQ ws.length scQ, .int .i64 ya, .int .i64 yb, .slice kaQ ks.length kcQ] 25)).heap[v1.heap.size]? = some (.cells #[.int .i64 op, .int .i64 fl, .slice saQ ws.length scQ, .int .i64 ya, .int .i64 yb, .slice kaQ ks.length kcQ] 25 (0, 0))) := Lib.hid (heap_alloc_new v1 _); have HQ := Lib.hid (hq1.later (Tx.newb v1 (.cells #[.int .i64 op, .int .i64 fl, .slice saQ ws.length scQ, .int .i64 ya, .int .i64 yb, .slice kaQ ks.length kcQ] 25)))))
  go_ret
  exact ⟨rfl, k4⟩
end Go.Proofs.YtkahplbjbidemaaGreatDoor
