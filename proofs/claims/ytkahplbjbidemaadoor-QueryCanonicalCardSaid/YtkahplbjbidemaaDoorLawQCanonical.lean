/- Layer 21: the law QueryCanonical: what its call returns. -/
import Derived.Test.YtkahplbjbidemaaDoorQvX
import Derived.Test.YtkahplbjbidemaaDoorQeX
import Derived.Test.YtkahplbjbidemaaDoorQnX
namespace Go.Proofs.YtkahplbjbidemaaDoor
open Go.RowKit
set_option maxRecDepth 100000

theorem Parse_s (s : ByteArray) (op fl a b : Int) (ws : List ByteArray) (ks : List Qr.Qy) (E : Int) (h : Qr.parse s.data.toList = (.mk op fl ws a b ks, E)) (w : World) (hG : G w) :
    Calls Tryd.prog 8 #[.string s] w fun e w' => ∃ sa sc ka kc, e = .returned (.tuple #[.agg #[.int .i64 op, .int .i64 fl, .slice sa ws.length sc, .int .i64 a, .int .i64 b, .slice ka ks.length kc], .int .i64 E]) ∧ Qr.QC 0 w' (.mk op fl ws a b ks) [.int .i64 op, .int .i64 fl, .slice sa ws.length sc, .int .i64 a, .int .i64 b, .slice ka ks.length kc] ∧ Below w.heap.size w w' := by
  refine (Parse_c s w hG).mono ?_
  rintro e w' ⟨t, rfl, hq, hb⟩
  rw [h] at hq ⊢
  obtain ⟨sa, sc, ka, kc, e1, _, _, _⟩ := hq.kids
  rw [e1] at hq ⊢
  exact ⟨sa, sc, ka, kc, rfl, hq.mono (Nat.zero_le _), hb⟩
/-- What was read has no long words and few nodes. -/
theorem Qr.parse_good {s : ByteArray} {q : Qr.Qy} (h : Qr.parse s.data.toList = (q, 0)) : Qr.rightE q = 0 ∧ Qr.Wz 1000000 q ∧ Qr.nodes q ≤ 64 := by
  have hl : ¬ 1000 < s.data.toList.length := fun h9 => by
    rw [Qr.parse_long h9] at h
    injection h with _ h
    exact absurd h (by decide)
  have hv : Tx.valid s.data.toList = true := by
    by_cases hv : Tx.valid s.data.toList = true
    · exact hv
    · rw [Qr.parse_bad hl (by simpa using hv)] at h
      injection h with _ h
      exact absurd h (by decide)
  have ht := Qr.tokF_ok (s := s) (by rw [Lib.size_eq]; exact hl) hv
  unfold Qr.parse at h
  rw [if_neg hl, if_neg (by rw [hv]; simp)] at h
  split at h
  · rename_i q1 he
    split at h
    · rename_i hr
      injection h with h _
      subst h
      refine ⟨hr, (Qr.wz_all true _).1 _ ht.1 _ _ he, ?_⟩
      unfold Qr.rightE at hr
      split at hr
      · exact absurd hr (by decide)
      · omega
    · rename_i hr
      injection h with _ h
      exact absurd h hr
  · injection h with _ h
    exact absurd h (by decide)

set_option maxHeartbeats 6400000 in
theorem canonical_law (s : ByteArray) (w : World) (hG : G w) :
    Calls Tryd.prog 4 #[.string s] w fun e w' => e = .returned (.bool true) ∧ Below w.heap.size w w' := by
  have k0 : Below w.heap.size w w := Below.refl _ _
  by_cases hs : 1000 < s.size
  · go_enter Tryd.func4, Tryd.ntmps4
    go_wp2_with (go_at_call 6; refine (alive_c _ hG).mono ?_; rintro e v1 ⟨rfl, hb1⟩)
    go_ret
    exact ⟨rfl, hb1⟩
  obtain ⟨⟨op, fl, ws, ya, yb, ks⟩, E, hE⟩ : ∃ q E, Qr.parse s.data.toList = (q, E) := ⟨_, _, rfl⟩
  have P1 := Lib.hid (fun w hG => Parse_s s op fl ya yb ws ks E hE w hG)
  by_cases hz : E = 0
  · subst hz
    obtain ⟨hr, hwz, hnd⟩ := Qr.parse_good hE
    obtain ⟨q, hq⟩ : ∃ q, Qr.Qy.mk op fl ws ya yb ks = q := ⟨_, rfl⟩
    have hpt : Qr.printT q = Qr.text q := by unfold Qr.printT; rw [← hq, hr, if_pos rfl]
    obtain ⟨P, hd⟩ : ∃ P, (⟨(Qr.printT q).toArray⟩ : ByteArray) = P := ⟨_, rfl⟩
    have hPl : P.size = (Qr.text q).length := by rw [← hd, hpt, Tx.size_mk]
    have hpl : P.data.toList = Qr.text q := by rw [← hd, hpt]
    have hres : (Qr.text q).length ≤ 1000 → Qr.parse P.data.toList = (.mk op fl ws ya yb ks, 0) := fun hl => by
      rw [hpl, hq]
      exact Qr.restores q (by rw [← hq]; exact hr) hl
    have HR := Lib.hid hr
    have HZ := Lib.hid hwz
    have HPT : Hid ((⟨(Qr.printT (.mk op fl ws ya yb ks)).toArray⟩ : ByteArray) = P) := Lib.hid (by rw [hq]; exact hd)
    by_cases hl : 1000 < P.size
    · clear hr hwz hq hpt hd hPl hpl hres hE
      go_enter Tryd.func4, Tryd.ntmps4
      go_wp2_with (first
        | (go_at_call 6; refine (alive_c _ (hG.below k3)).mono ?_; rintro e v4 ⟨rfl, hb4⟩; have k4 := Tx.step k3 hb4; replace KQ := Lib.hid (Tx.blk_later KQ.out hb4); replace HQ := Lib.hid (HQ.out.later hb4))
        | (go_at_call 10; refine (Right_c 0 _ _ _ HQ.out HZ.out (by omega) (hG.below k2)).mono ?_; rintro e v3 ⟨rfl, hb3⟩; rw [HR.out]; have k3 := Tx.step k2 hb3; replace KQ := Lib.hid (Tx.blk_later KQ.out hb3); replace HQ := Lib.hid (HQ.out.later hb3))
        | (go_at_call 7; refine (Print_c 0 _ _ _ HQ.out HZ.out (by omega) (hG.below k1a)).mono ?_; rintro e v2 ⟨rfl, hb2⟩; rw [HR.out, HPT.out]; have k2 := Tx.step k1a hb2; replace KQ := Lib.hid (Tx.blk_later KQ.out hb2); replace HQ := Lib.hid (HQ.out.later hb2); have cQ0_2 : v2.cell? ⟨v1.heap.size, 0, none⟩ = some (.int .i64 op) := (Tx.blk KQ.out).1 0; have cQ1_2 : v2.cell? ⟨v1.heap.size, 1, none⟩ = some (.int .i64 fl) := (Tx.blk KQ.out).1 1; have cQ2_2 : v2.cell? ⟨v1.heap.size, 2, none⟩ = some (.slice saQ ws.length scQ) := (Tx.blk KQ.out).1 2; have cQ3_2 : v2.cell? ⟨v1.heap.size, 3, none⟩ = some (.int .i64 ya) := (Tx.blk KQ.out).1 3; have cQ4_2 : v2.cell? ⟨v1.heap.size, 4, none⟩ = some (.int .i64 yb) := (Tx.blk KQ.out).1 4; have cQ5_2 : v2.cell? ⟨v1.heap.size, 5, none⟩ = some (.slice kaQ ks.length kcQ) := (Tx.blk KQ.out).1 5)
        | (go_at_call 8; refine (P1.out _ (hG.below k0)).mono ?_; rintro e v1 ⟨saQ, scQ, kaQ, kcQ, rfl, hq1, hb1⟩; have k1 := Tx.step k0 hb1; have k1a : Below w.heap.size w (v1.alloc (.cells #[.int .i64 op, .int .i64 fl, .slice saQ ws.length scQ, .int .i64 ya, .int .i64 yb, .slice kaQ ks.length kcQ] 25)) := k1.alloc k1.size _; have KQ : Hid ((v1.alloc (.cells #[.int .i64 op, .int .i64 fl, .slice saQ ws.length scQ, .int .i64 ya, .int .i64 yb, .slice kaQ ks.length kcQ] 25)).heap[v1.heap.size]? = some (.cells #[.int .i64 op, .int .i64 fl, .slice saQ ws.length scQ, .int .i64 ya, .int .i64 yb, .slice kaQ ks.length kcQ] 25 (0, 0))) := Lib.hid (heap_alloc_new v1 _); have HQ := Lib.hid (hq1.later (Tx.newb v1 (.cells #[.int .i64 op, .int .i64 fl, .slice saQ ws.length scQ, .int .i64 ya, .int .i64 yb, .slice kaQ ks.length kcQ] 25))); have cQ0_1 : (v1.alloc (.cells #[.int .i64 op, .int .i64 fl, .slice saQ ws.length scQ, .int .i64 ya, .int .i64 yb, .slice kaQ ks.length kcQ] 25)).cell? ⟨v1.heap.size, 0, none⟩ = some (.int .i64 op) := (Tx.blk KQ.out).1 0; have cQ1_1 : (v1.alloc (.cells #[.int .i64 op, .int .i64 fl, .slice saQ ws.length scQ, .int .i64 ya, .int .i64 yb, .slice kaQ ks.length kcQ] 25)).cell? ⟨v1.heap.size, 1, none⟩ = some (.int .i64 fl) := (Tx.blk KQ.out).1 1; have cQ2_1 : (v1.alloc (.cells #[.int .i64 op, .int .i64 fl, .slice saQ ws.length scQ, .int .i64 ya, .int .i64 yb, .slice kaQ ks.length kcQ] 25)).cell? ⟨v1.heap.size, 2, none⟩ = some (.slice saQ ws.length scQ) := (Tx.blk KQ.out).1 2; have cQ3_1 : (v1.alloc (.cells #[.int .i64 op, .int .i64 fl, .slice saQ ws.length scQ, .int .i64 ya, .int .i64 yb, .slice kaQ ks.length kcQ] 25)).cell? ⟨v1.heap.size, 3, none⟩ = some (.int .i64 ya) := (Tx.blk KQ.out).1 3; have cQ4_1 : (v1.alloc (.cells #[.int .i64 op, .int .i64 fl, .slice saQ ws.length scQ, .int .i64 ya, .int .i64 yb, .slice kaQ ks.length kcQ] 25)).cell? ⟨v1.heap.size, 4, none⟩ = some (.int .i64 yb) := (Tx.blk KQ.out).1 4; have cQ5_1 : (v1.alloc (.cells #[.int .i64 op, .int .i64 fl, .slice saQ ws.length scQ, .int .i64 ya, .int .i64 yb, .slice kaQ ks.length kcQ] 25)).cell? ⟨v1.heap.size, 5, none⟩ = some (.slice kaQ ks.length kcQ) := (Tx.blk KQ.out).1 5))
      go_ret
      exact ⟨rfl, k4⟩
    · have P2 := Lib.hid (fun w hG => Parse_s P op fl ya yb ws ks 0 (hres (by omega)) w hG)
      have SM : Hid (Qr.eqB (.mk op fl ws ya yb ks) (.mk op fl ws ya yb ks) = true) := Lib.hid (Qr.eqB_t.2 rfl)
      clear hr hwz hq hpt hd hPl hpl hres hE
      go_enter Tryd.func4, Tryd.ntmps4
      go_wp2_with (first
        | (go_at_call 6; refine (alive_c _ (hG.below k6)).mono ?_; rintro e v7 ⟨rfl, hb7⟩; have k7 := Tx.step k6 hb7; replace KQ := Lib.hid (Tx.blk_later KQ.out hb7); replace HQ := Lib.hid (HQ.out.later hb7); replace KP := Lib.hid (Tx.blk_later KP.out hb7); replace HP := Lib.hid (HP.out.later hb7))
        | (go_at_call 9; refine ((show Below w.heap.size w _ from k5) |> fun _ => r21_Same_c 0 _ _ _ _ _ HP.out HQ.out).mono ?_; rintro e v6 ⟨rfl, hb6⟩; rw [SM.out]; have k6 := Tx.step k5 hb6; replace KQ := Lib.hid (Tx.blk_later KQ.out hb6); replace HQ := Lib.hid (HQ.out.later hb6); replace KP := Lib.hid (Tx.blk_later KP.out hb6); replace HP := Lib.hid (HP.out.later hb6))
        | (go_at_call 7; refine (Print_c 0 _ _ _ HP.out HZ.out (by omega) (hG.below k4a)).mono ?_; rintro e v5 ⟨rfl, hb5⟩; rw [HR.out, HPT.out]; have k5 := Tx.step k4a hb5; replace KQ := Lib.hid (Tx.blk_later KQ.out hb5); replace HQ := Lib.hid (HQ.out.later hb5); replace KP := Lib.hid (Tx.blk_later KP.out hb5); replace HP := Lib.hid (HP.out.later hb5); have cQ0_5 : v5.cell? ⟨v1.heap.size, 0, none⟩ = some (.int .i64 op) := (Tx.blk KQ.out).1 0; have cQ1_5 : v5.cell? ⟨v1.heap.size, 1, none⟩ = some (.int .i64 fl) := (Tx.blk KQ.out).1 1; have cQ2_5 : v5.cell? ⟨v1.heap.size, 2, none⟩ = some (.slice saQ ws.length scQ) := (Tx.blk KQ.out).1 2; have cQ3_5 : v5.cell? ⟨v1.heap.size, 3, none⟩ = some (.int .i64 ya) := (Tx.blk KQ.out).1 3; have cQ4_5 : v5.cell? ⟨v1.heap.size, 4, none⟩ = some (.int .i64 yb) := (Tx.blk KQ.out).1 4; have cQ5_5 : v5.cell? ⟨v1.heap.size, 5, none⟩ = some (.slice kaQ ks.length kcQ) := (Tx.blk KQ.out).1 5; have cP0_5 : v5.cell? ⟨v4.heap.size, 0, none⟩ = some (.int .i64 op) := (Tx.blk KP.out).1 0; have cP1_5 : v5.cell? ⟨v4.heap.size, 1, none⟩ = some (.int .i64 fl) := (Tx.blk KP.out).1 1; have cP2_5 : v5.cell? ⟨v4.heap.size, 2, none⟩ = some (.slice saP ws.length scP) := (Tx.blk KP.out).1 2; have cP3_5 : v5.cell? ⟨v4.heap.size, 3, none⟩ = some (.int .i64 ya) := (Tx.blk KP.out).1 3; have cP4_5 : v5.cell? ⟨v4.heap.size, 4, none⟩ = some (.int .i64 yb) := (Tx.blk KP.out).1 4; have cP5_5 : v5.cell? ⟨v4.heap.size, 5, none⟩ = some (.slice kaP ks.length kcP) := (Tx.blk KP.out).1 5)
        | (go_at_call 8; refine (P2.out _ (hG.below k3)).mono ?_; rintro e v4 ⟨saP, scP, kaP, kcP, rfl, hq4, hb4⟩; have k4 := Tx.step k3 hb4; replace KQ := Lib.hid (Tx.blk_later KQ.out hb4); replace HQ := Lib.hid (HQ.out.later hb4); have k4a : Below w.heap.size w (v4.alloc (.cells #[.int .i64 op, .int .i64 fl, .slice saP ws.length scP, .int .i64 ya, .int .i64 yb, .slice kaP ks.length kcP] 25)) := k4.alloc k4.size _; replace KQ := Lib.hid (Tx.blk_later KQ.out (Tx.newb v4 (.cells #[.int .i64 op, .int .i64 fl, .slice saP ws.length scP, .int .i64 ya, .int .i64 yb, .slice kaP ks.length kcP] 25))); replace HQ := Lib.hid (HQ.out.later (Tx.newb v4 (.cells #[.int .i64 op, .int .i64 fl, .slice saP ws.length scP, .int .i64 ya, .int .i64 yb, .slice kaP ks.length kcP] 25))); have KP : Hid ((v4.alloc (.cells #[.int .i64 op, .int .i64 fl, .slice saP ws.length scP, .int .i64 ya, .int .i64 yb, .slice kaP ks.length kcP] 25)).heap[v4.heap.size]? = some (.cells #[.int .i64 op, .int .i64 fl, .slice saP ws.length scP, .int .i64 ya, .int .i64 yb, .slice kaP ks.length kcP] 25 (0, 0))) := Lib.hid (heap_alloc_new v4 _); have HP := Lib.hid (hq4.later (Tx.newb v4 (.cells #[.int .i64 op, .int .i64 fl, .slice saP ws.length scP, .int .i64 ya, .int .i64 yb, .slice kaP ks.length kcP] 25))); have cP0_4 : (v4.alloc (.cells #[.int .i64 op, .int .i64 fl, .slice saP ws.length scP, .int .i64 ya, .int .i64 yb, .slice kaP ks.length kcP] 25)).cell? ⟨v4.heap.size, 0, none⟩ = some (.int .i64 op) := (Tx.blk KP.out).1 0; have cP1_4 : (v4.alloc (.cells #[.int .i64 op, .int .i64 fl, .slice saP ws.length scP, .int .i64 ya, .int .i64 yb, .slice kaP ks.length kcP] 25)).cell? ⟨v4.heap.size, 1, none⟩ = some (.int .i64 fl) := (Tx.blk KP.out).1 1; have cP2_4 : (v4.alloc (.cells #[.int .i64 op, .int .i64 fl, .slice saP ws.length scP, .int .i64 ya, .int .i64 yb, .slice kaP ks.length kcP] 25)).cell? ⟨v4.heap.size, 2, none⟩ = some (.slice saP ws.length scP) := (Tx.blk KP.out).1 2; have cP3_4 : (v4.alloc (.cells #[.int .i64 op, .int .i64 fl, .slice saP ws.length scP, .int .i64 ya, .int .i64 yb, .slice kaP ks.length kcP] 25)).cell? ⟨v4.heap.size, 3, none⟩ = some (.int .i64 ya) := (Tx.blk KP.out).1 3; have cP4_4 : (v4.alloc (.cells #[.int .i64 op, .int .i64 fl, .slice saP ws.length scP, .int .i64 ya, .int .i64 yb, .slice kaP ks.length kcP] 25)).cell? ⟨v4.heap.size, 4, none⟩ = some (.int .i64 yb) := (Tx.blk KP.out).1 4; have cP5_4 : (v4.alloc (.cells #[.int .i64 op, .int .i64 fl, .slice saP ws.length scP, .int .i64 ya, .int .i64 yb, .slice kaP ks.length kcP] 25)).cell? ⟨v4.heap.size, 5, none⟩ = some (.slice kaP ks.length kcP) := (Tx.blk KP.out).1 5)
        | (go_at_call 10; refine (Right_c 0 _ _ _ HQ.out HZ.out (by omega) (hG.below k2)).mono ?_; rintro e v3 ⟨rfl, hb3⟩; rw [HR.out]; have k3 := Tx.step k2 hb3; replace KQ := Lib.hid (Tx.blk_later KQ.out hb3); replace HQ := Lib.hid (HQ.out.later hb3))
        | (go_at_call 7; refine (Print_c 0 _ _ _ HQ.out HZ.out (by omega) (hG.below k1a)).mono ?_; rintro e v2 ⟨rfl, hb2⟩; rw [HR.out, HPT.out]; have k2 := Tx.step k1a hb2; replace KQ := Lib.hid (Tx.blk_later KQ.out hb2); replace HQ := Lib.hid (HQ.out.later hb2); have cQ0_2 : v2.cell? ⟨v1.heap.size, 0, none⟩ = some (.int .i64 op) := (Tx.blk KQ.out).1 0; have cQ1_2 : v2.cell? ⟨v1.heap.size, 1, none⟩ = some (.int .i64 fl) := (Tx.blk KQ.out).1 1; have cQ2_2 : v2.cell? ⟨v1.heap.size, 2, none⟩ = some (.slice saQ ws.length scQ) := (Tx.blk KQ.out).1 2; have cQ3_2 : v2.cell? ⟨v1.heap.size, 3, none⟩ = some (.int .i64 ya) := (Tx.blk KQ.out).1 3; have cQ4_2 : v2.cell? ⟨v1.heap.size, 4, none⟩ = some (.int .i64 yb) := (Tx.blk KQ.out).1 4; have cQ5_2 : v2.cell? ⟨v1.heap.size, 5, none⟩ = some (.slice kaQ ks.length kcQ) := (Tx.blk KQ.out).1 5)
        | (go_at_call 8; refine (P1.out _ (hG.below k0)).mono ?_; rintro e v1 ⟨saQ, scQ, kaQ, kcQ, rfl, hq1, hb1⟩; have k1 := Tx.step k0 hb1; have k1a : Below w.heap.size w (v1.alloc (.cells #[.int .i64 op, .int .i64 fl, .slice saQ ws.length scQ, .int .i64 ya, .int .i64 yb, .slice kaQ ks.length kcQ] 25)) := k1.alloc k1.size _; have KQ : Hid ((v1.alloc (.cells #[.int .i64 op, .int .i64 fl, .slice saQ ws.length scQ, .int .i64 ya, .int .i64 yb, .slice kaQ ks.length kcQ] 25)).heap[v1.heap.size]? = some (.cells #[.int .i64 op, .int .i64 fl, .slice saQ ws.length scQ, .int .i64 ya, .int .i64 yb, .slice kaQ ks.length kcQ] 25 (0, 0))) := Lib.hid (heap_alloc_new v1 _); have HQ := Lib.hid (hq1.later (Tx.newb v1 (.cells #[.int .i64 op, .int .i64 fl, .slice saQ ws.length scQ, .int .i64 ya, .int .i64 yb, .slice kaQ ks.length kcQ] 25))); have cQ0_1 : (v1.alloc (.cells #[.int .i64 op, .int .i64 fl, .slice saQ ws.length scQ, .int .i64 ya, .int .i64 yb, .slice kaQ ks.length kcQ] 25)).cell? ⟨v1.heap.size, 0, none⟩ = some (.int .i64 op) := (Tx.blk KQ.out).1 0; have cQ1_1 : (v1.alloc (.cells #[.int .i64 op, .int .i64 fl, .slice saQ ws.length scQ, .int .i64 ya, .int .i64 yb, .slice kaQ ks.length kcQ] 25)).cell? ⟨v1.heap.size, 1, none⟩ = some (.int .i64 fl) := (Tx.blk KQ.out).1 1; have cQ2_1 : (v1.alloc (.cells #[.int .i64 op, .int .i64 fl, .slice saQ ws.length scQ, .int .i64 ya, .int .i64 yb, .slice kaQ ks.length kcQ] 25)).cell? ⟨v1.heap.size, 2, none⟩ = some (.slice saQ ws.length scQ) := (Tx.blk KQ.out).1 2; have cQ3_1 : (v1.alloc (.cells #[.int .i64 op, .int .i64 fl, .slice saQ ws.length scQ, .int .i64 ya, .int .i64 yb, .slice kaQ ks.length kcQ] 25)).cell? ⟨v1.heap.size, 3, none⟩ = some (.int .i64 ya) := (Tx.blk KQ.out).1 3; have cQ4_1 : (v1.alloc (.cells #[.int .i64 op, .int .i64 fl, .slice saQ ws.length scQ, .int .i64 ya, .int .i64 yb, .slice kaQ ks.length kcQ] 25)).cell? ⟨v1.heap.size, 4, none⟩ = some (.int .i64 yb) := (Tx.blk KQ.out).1 4; have cQ5_1 : (v1.alloc (.cells #[.int .i64 op, .int .i64 fl, .slice saQ ws.length scQ, .int .i64 ya, .int .i64 yb, .slice kaQ ks.length kcQ] 25)).cell? ⟨v1.heap.size, 5, none⟩ = some (.slice kaQ ks.length kcQ) := (Tx.blk KQ.out).1 5))
      go_ret
      exact ⟨rfl, k7⟩
  · have hne : (E != 0) = true := by simpa using hz
    clear hz hE
    go_enter Tryd.func4, Tryd.ntmps4
    go_wp2_with (first
      | (go_at_call 6; refine (alive_c _ (hG.below k1a)).mono ?_; rintro e v2 ⟨rfl, hb2⟩; have k2 := Tx.step k1a hb2; replace KQ := Lib.hid (Tx.blk_later KQ.out hb2); replace HQ := Lib.hid (HQ.out.later hb2))
      | (go_at_call 8; refine (P1.out _ (hG.below k0)).mono ?_; rintro e v1 ⟨saQ, scQ, kaQ, kcQ, rfl, hq1, hb1⟩; have k1 := Tx.step k0 hb1; have k1a : Below w.heap.size w (v1.alloc (.cells #[.int .i64 op, .int .i64 fl, .slice saQ ws.length scQ, .int .i64 ya, .int .i64 yb, .slice kaQ ks.length kcQ] 25)) := k1.alloc k1.size _; have KQ : Hid ((v1.alloc (.cells #[.int .i64 op, .int .i64 fl, .slice saQ ws.length scQ, .int .i64 ya, .int .i64 yb, .slice kaQ ks.length kcQ] 25)).heap[v1.heap.size]? = some (.cells #[.int .i64 op, .int .i64 fl, .slice saQ ws.length scQ, .int .i64 ya, .int .i64 yb, .slice kaQ ks.length kcQ] 25 (0, 0))) := Lib.hid (heap_alloc_new v1 _); have HQ := Lib.hid (hq1.later (Tx.newb v1 (.cells #[.int .i64 op, .int .i64 fl, .slice saQ ws.length scQ, .int .i64 ya, .int .i64 yb, .slice kaQ ks.length kcQ] 25))); have cQ0_1 : (v1.alloc (.cells #[.int .i64 op, .int .i64 fl, .slice saQ ws.length scQ, .int .i64 ya, .int .i64 yb, .slice kaQ ks.length kcQ] 25)).cell? ⟨v1.heap.size, 0, none⟩ = some (.int .i64 op) := (Tx.blk KQ.out).1 0; have cQ1_1 : (v1.alloc (.cells #[.int .i64 op, .int .i64 fl, .slice saQ ws.length scQ, .int .i64 ya, .int .i64 yb, .slice kaQ ks.length kcQ] 25)).cell? ⟨v1.heap.size, 1, none⟩ = some (.int .i64 fl) := (Tx.blk KQ.out).1 1; have cQ2_1 : (v1.alloc (.cells #[.int .i64 op, .int .i64 fl, .slice saQ ws.length scQ, .int .i64 ya, .int .i64 yb, .slice kaQ ks.length kcQ] 25)).cell? ⟨v1.heap.size, 2, none⟩ = some (.slice saQ ws.length scQ) := (Tx.blk KQ.out).1 2; have cQ3_1 : (v1.alloc (.cells #[.int .i64 op, .int .i64 fl, .slice saQ ws.length scQ, .int .i64 ya, .int .i64 yb, .slice kaQ ks.length kcQ] 25)).cell? ⟨v1.heap.size, 3, none⟩ = some (.int .i64 ya) := (Tx.blk KQ.out).1 3; have cQ4_1 : (v1.alloc (.cells #[.int .i64 op, .int .i64 fl, .slice saQ ws.length scQ, .int .i64 ya, .int .i64 yb, .slice kaQ ks.length kcQ] 25)).cell? ⟨v1.heap.size, 4, none⟩ = some (.int .i64 yb) := (Tx.blk KQ.out).1 4; have cQ5_1 : (v1.alloc (.cells #[.int .i64 op, .int .i64 fl, .slice saQ ws.length scQ, .int .i64 ya, .int .i64 yb, .slice kaQ ks.length kcQ] 25)).cell? ⟨v1.heap.size, 5, none⟩ = some (.slice kaQ ks.length kcQ) := (Tx.blk KQ.out).1 5))
    go_ret
    exact ⟨rfl, k2⟩
end Go.Proofs.YtkahplbjbidemaaDoor
