/- Layer 21: the law QueryNests: what its call returns. -/
import Derived.Test.YtkahplbjbidemaaGreatDoorQvX
import Derived.Test.YtkahplbjbidemaaGreatDoorQeX
import Derived.Test.YtkahplbjbidemaaGreatDoorQnX
namespace Go.Proofs.YtkahplbjbidemaaGreatDoor
open Go.RowKit
set_option maxRecDepth 100000

theorem Parse_s (s : ByteArray) (op fl a b : Int) (ws : List ByteArray) (ks : List Qr.Qy) (E : Int) (h : Qr.parse s.data.toList = (.mk op fl ws a b ks, E)) (w : World) (hG : G w) :
    Calls Tryz.prog 14 #[.string s] w fun e w' => ∃ sa sc ka kc, e = .returned (.tuple #[.agg #[.int .i64 op, .int .i64 fl, .slice sa ws.length sc, .int .i64 a, .int .i64 b, .slice ka ks.length kc], .int .i64 E]) ∧ Qr.QC 0 w' (.mk op fl ws a b ks) [.int .i64 op, .int .i64 fl, .slice sa ws.length sc, .int .i64 a, .int .i64 b, .slice ka ks.length kc] ∧ Below w.heap.size w w' := by
  refine (Parse_c s w hG).mono ?_
  rintro e w' ⟨t, rfl, hq, hb⟩
  rw [h] at hq ⊢
  obtain ⟨sa, sc, ka, kc, e1, _, _, _⟩ := hq.kids
  rw [e1] at hq ⊢
  exact ⟨sa, sc, ka, kc, rfl, hq.mono (Nat.zero_le _), hb⟩
theorem Qr.repeat_eq (l : List UInt8) : ∀ c, Lib.repeatL l c = (List.replicate c l).flatten
  | 0 => rfl
  | c + 1 => by rw [Lib.repeatL, Qr.repeat_eq l c, List.replicate_succ, List.flatten_cons]
theorem Repeat_c (s : ByteArray) (c : Nat) (w : World) (h0 : 0 < s.size) (hc : c ≤ 1000) (hs : s.size ≤ 1000) :
    Calls Tryz.prog 21 #[.string s, .int .i64 (c : Int)] w fun e w' => e = .returned (.string ⟨((List.replicate c s.data.toList).flatten).toArray⟩) ∧ Below w.heap.size w w' := by
  match c, hc with
  | 0, _ =>
    refine (Tryz.strings_Repeat_zero s w).mono ?_
    rintro e w' ⟨rfl, rfl⟩
    exact ⟨rfl, Below.refl _ _⟩
  | 1, _ =>
    refine (Tryz.strings_Repeat_one s w).mono ?_
    rintro e w' ⟨rfl, rfl⟩
    exact ⟨Tx.rets (by simp), Below.refl _ _⟩
  | c + 2, hc =>
    have hm : s.size * (c + 2) ≤ 1000 * 1000 := Nat.mul_le_mul hs hc
    refine (Tryz.strings_Repeat_main s (c + 2) w (by omega) (by omega) (by omega) h0).mono ?_
    rintro e w' ⟨rfl, hb⟩
    exact ⟨Tx.rets (by rw [Qr.repeat_eq]), hb⟩

set_option maxHeartbeats 6400000 in
theorem nests_law (s : ByteArray) (n : Int) (h0 : 0 ≤ n) (h1 : n ≤ 255) (w : World) (hG : G w) :
    Calls Tryz.prog 7 #[.string s, .int .u8 n] w fun e w' => e = .returned (.bool true) ∧ Below w.heap.size w w' := by
  have k0 : Below w.heap.size w w := Below.refl _ _
  by_cases hs : 500 < s.size
  · go_enter Tryz.func7, Tryz.ntmps7
    go_wp2_with (go_at_call 9; refine (alive_c _ hG).mono ?_; rintro e v1 ⟨rfl, hb1⟩)
    go_ret
    exact ⟨rfl, hb1⟩
  by_cases hn : 100 < n
  · go_enter Tryz.func7, Tryz.ntmps7
    go_wp2_with (go_at_call 9; refine (alive_c _ hG).mono ?_; rintro e v1 ⟨rfl, hb1⟩)
    go_ret
    exact ⟨rfl, hb1⟩
  have hv0 : Tx.valid s.data.toList = Tx.valid s.data.toList := rfl
  obtain ⟨vt, hvt⟩ : ∃ vt, Tx.valid s.data.toList = vt := ⟨_, rfl⟩
  clear hv0
  cases vt with
  | false =>
    have HV := Lib.hid hvt; clear hvt
    go_enter Tryz.func7, Tryz.ntmps7
    go_wp2_with (first
      | (go_at_call 9; refine (alive_c _ (hG.below hb1)).mono ?_; rintro e v2 ⟨rfl, hb2⟩)
      | (go_at_call 20; refine (r01_Valid_c s _ (by omega)).mono ?_; rintro e v1 ⟨rfl, hb1⟩; rw [HV.out]))
    go_ret
    exact ⟨rfl, Tx.step hb1 hb2⟩
  | true =>
    have HV := Lib.hid hvt
    obtain ⟨N, rfl⟩ : ∃ N : Nat, n = (N : Int) := ⟨n.toNat, by omega⟩
    have hsl : s.data.toList.length ≤ 500 := by rw [← Lib.size_eq]; omega
    obtain ⟨X, hX⟩ : ∃ X, (List.replicate N ([40, 32] : List UInt8)).flatten = X := ⟨_, rfl⟩
    obtain ⟨Y, hY⟩ : ∃ Y, (List.replicate N ([32, 41] : List UInt8)).flatten = Y := ⟨_, rfl⟩
    have hXl : X.length ≤ 200 := by rw [← hX]; simp; omega
    have hYl : Y.length ≤ 200 := by rw [← hY]; simp; omega
    have hnd : (⟨X.toArray⟩ ++ s ++ ⟨Y.toArray⟩ : ByteArray).data.toList = Qr.nest N s.data.toList := by
      unfold Qr.nest
      rw [hX, hY]
      simp
    have hbl : (⟨#[32]⟩ ++ s ++ ⟨#[32, 32]⟩ : ByteArray).data.toList = 32 :: s.data.toList ++ [32, 32] := by
      simp
    have hnest := fun q hq => Qr.nests s.data.toList N hsl (by omega) hvt q hq
    have hblk := Qr.blanks s.data.toList hsl hvt
    obtain ⟨⟨op, fl, ws, ya, yb, ks⟩, E, hE⟩ : ∃ q E, Qr.parse s.data.toList = (q, E) := ⟨_, _, rfl⟩
    obtain ⟨⟨op2, fl2, ws2, ya2, yb2, ks2⟩, E2, hE2⟩ : ∃ q E, Qr.parse (Qr.nest N s.data.toList) = (q, E) := ⟨_, _, rfl⟩
    have P1 := Lib.hid (fun w hG => Parse_s s op fl ya yb ws ks E hE w hG)
    have P2 := Lib.hid (fun w hG => Parse_s (⟨X.toArray⟩ ++ s ++ ⟨Y.toArray⟩) op2 fl2 ya2 yb2 ws2 ks2 E2 (by rw [hnd]; exact hE2) w hG)
    have P3 := Lib.hid (fun w hG => Parse_s (⟨#[32]⟩ ++ s ++ ⟨#[32, 32]⟩) op fl ya yb ws ks E (by rw [hbl, hblk]; exact hE) w hG)
    have R1 : Hid (∀ w, Calls Tryz.prog 21 #[.string ⟨#[40, 32]⟩, .int .i64 (N : Int)] w fun e w' => e = .returned (.string ⟨X.toArray⟩) ∧ Below w.heap.size w w') := Lib.hid fun w => by
      have := Repeat_c ⟨#[40, 32]⟩ N w (by decide) (by omega) (by decide)
      rw [show (List.replicate N (⟨#[40, 32]⟩ : ByteArray).data.toList).flatten = X from hX] at this
      exact this
    have R2 : Hid (∀ w, Calls Tryz.prog 21 #[.string ⟨#[32, 41]⟩, .int .i64 (N : Int)] w fun e w' => e = .returned (.string ⟨Y.toArray⟩) ∧ Below w.heap.size w w') := Lib.hid fun w => by
      have := Repeat_c ⟨#[32, 41]⟩ N w (by decide) (by omega) (by decide)
      rw [show (List.replicate N (⟨#[32, 41]⟩ : ByteArray).data.toList).flatten = Y from hY] at this
      exact this
    obtain ⟨a1, a2, -⟩ := Tx.adds_ok Tryz.prog [s, ⟨Y.toArray⟩] ⟨X.toArray⟩ (by simp only [List.map_cons, List.map_nil, List.sum_cons, List.sum_nil, Tx.size_mk]; omega)
    obtain ⟨b1, b2, -⟩ := Tx.adds_ok Tryz.prog [s, ⟨#[32, 32]⟩] ⟨#[32]⟩ (by simp only [List.map_cons, List.map_nil, List.sum_cons, List.sum_nil]; rw [show (⟨#[32]⟩ : ByteArray).size = 1 from rfl, show (⟨#[32, 32]⟩ : ByteArray).size = 2 from rfl]; omega)
    have SM : ∀ q, Hid (Qr.eqB q q = true) := fun q => Lib.hid (Qr.eqB_t.2 rfl)
    have HN := Lib.hid hnest
    have HE := Lib.hid hE; have HE2 := Lib.hid hE2
    clear hX hY hnd hbl hnest hblk hvt hE hE2
    by_cases hz : E = 0
    · subst hz
      have hq2 := (HN.out _ HE.out).symm
      rw [HE2.out] at hq2
      simp only [Prod.mk.injEq, Qr.Qy.mk.injEq] at hq2
      obtain ⟨⟨rfl, rfl, rfl, rfl, rfl, rfl⟩, rfl⟩ := hq2
      go_enter Tryz.func7, Tryz.ntmps7
      go_wp2_with (first
        | (go_at_call 9; refine (alive_c _ (hG.below k8)).mono ?_; rintro e v9 ⟨rfl, hb9⟩; have k9 := Tx.step k8 hb9; replace KQ := Lib.hid (Tx.blk_later KQ.out hb9); replace HQ := Lib.hid (HQ.out.later hb9); replace KP := Lib.hid (Tx.blk_later KP.out hb9); replace HP := Lib.hid (HP.out.later hb9); replace KR := Lib.hid (Tx.blk_later KR.out hb9); replace HR := Lib.hid (HR.out.later hb9))
        | (go_at_call 16; refine ((show Below w.heap.size w _ from k7) |> fun _ => r21_Same_c 0 _ _ _ _ _ HP.out HQ.out).mono ?_; rintro e v8 ⟨rfl, hb8⟩; rw [(SM _).out]; have k8 := Tx.step k7 hb8; replace KQ := Lib.hid (Tx.blk_later KQ.out hb8); replace HQ := Lib.hid (HQ.out.later hb8); replace KP := Lib.hid (Tx.blk_later KP.out hb8); replace HP := Lib.hid (HP.out.later hb8); replace KR := Lib.hid (Tx.blk_later KR.out hb8); replace HR := Lib.hid (HR.out.later hb8))
        | (go_at_call 16; refine ((show Below w.heap.size w _ from k6a) |> fun _ => r21_Same_c 0 _ _ _ _ _ HQ.out HR.out).mono ?_; rintro e v7 ⟨rfl, hb7⟩; rw [(SM _).out]; have k7 := Tx.step k6a hb7; replace KQ := Lib.hid (Tx.blk_later KQ.out hb7); replace HQ := Lib.hid (HQ.out.later hb7); replace KP := Lib.hid (Tx.blk_later KP.out hb7); replace HP := Lib.hid (HP.out.later hb7); replace KR := Lib.hid (Tx.blk_later KR.out hb7); replace HR := Lib.hid (HR.out.later hb7); have cQ0_7 : v7.cell? ⟨v2.heap.size, 0, none⟩ = some (.int .i64 op) := (Tx.blk KQ.out).1 0; have cQ1_7 : v7.cell? ⟨v2.heap.size, 1, none⟩ = some (.int .i64 fl) := (Tx.blk KQ.out).1 1; have cQ2_7 : v7.cell? ⟨v2.heap.size, 2, none⟩ = some (.slice saQ ws.length scQ) := (Tx.blk KQ.out).1 2; have cQ3_7 : v7.cell? ⟨v2.heap.size, 3, none⟩ = some (.int .i64 ya) := (Tx.blk KQ.out).1 3; have cQ4_7 : v7.cell? ⟨v2.heap.size, 4, none⟩ = some (.int .i64 yb) := (Tx.blk KQ.out).1 4; have cQ5_7 : v7.cell? ⟨v2.heap.size, 5, none⟩ = some (.slice kaQ ks.length kcQ) := (Tx.blk KQ.out).1 5; have cP0_7 : v7.cell? ⟨v5.heap.size, 0, none⟩ = some (.int .i64 op) := (Tx.blk KP.out).1 0; have cP1_7 : v7.cell? ⟨v5.heap.size, 1, none⟩ = some (.int .i64 fl) := (Tx.blk KP.out).1 1; have cP2_7 : v7.cell? ⟨v5.heap.size, 2, none⟩ = some (.slice saP ws.length scP) := (Tx.blk KP.out).1 2; have cP3_7 : v7.cell? ⟨v5.heap.size, 3, none⟩ = some (.int .i64 ya) := (Tx.blk KP.out).1 3; have cP4_7 : v7.cell? ⟨v5.heap.size, 4, none⟩ = some (.int .i64 yb) := (Tx.blk KP.out).1 4; have cP5_7 : v7.cell? ⟨v5.heap.size, 5, none⟩ = some (.slice kaP ks.length kcP) := (Tx.blk KP.out).1 5)
        | (go_at_call 14; refine (P3.out _ (hG.below k5a)).mono ?_; rintro e v6 ⟨saR, scR, kaR, kcR, rfl, hq6, hb6⟩; have k6 := Tx.step k5a hb6; replace KQ := Lib.hid (Tx.blk_later KQ.out hb6); replace HQ := Lib.hid (HQ.out.later hb6); replace KP := Lib.hid (Tx.blk_later KP.out hb6); replace HP := Lib.hid (HP.out.later hb6); have k6a : Below w.heap.size w (v6.alloc (.cells #[.int .i64 op, .int .i64 fl, .slice saR ws.length scR, .int .i64 ya, .int .i64 yb, .slice kaR ks.length kcR] 25)) := k6.alloc k6.size _; replace KQ := Lib.hid (Tx.blk_later KQ.out (Tx.newb v6 (.cells #[.int .i64 op, .int .i64 fl, .slice saR ws.length scR, .int .i64 ya, .int .i64 yb, .slice kaR ks.length kcR] 25))); replace HQ := Lib.hid (HQ.out.later (Tx.newb v6 (.cells #[.int .i64 op, .int .i64 fl, .slice saR ws.length scR, .int .i64 ya, .int .i64 yb, .slice kaR ks.length kcR] 25))); replace KP := Lib.hid (Tx.blk_later KP.out (Tx.newb v6 (.cells #[.int .i64 op, .int .i64 fl, .slice saR ws.length scR, .int .i64 ya, .int .i64 yb, .slice kaR ks.length kcR] 25))); replace HP := Lib.hid (HP.out.later (Tx.newb v6 (.cells #[.int .i64 op, .int .i64 fl, .slice saR ws.length scR, .int .i64 ya, .int .i64 yb, .slice kaR ks.length kcR] 25))); have KR : Hid ((v6.alloc (.cells #[.int .i64 op, .int .i64 fl, .slice saR ws.length scR, .int .i64 ya, .int .i64 yb, .slice kaR ks.length kcR] 25)).heap[v6.heap.size]? = some (.cells #[.int .i64 op, .int .i64 fl, .slice saR ws.length scR, .int .i64 ya, .int .i64 yb, .slice kaR ks.length kcR] 25 (0, 0))) := Lib.hid (heap_alloc_new v6 _); have HR := Lib.hid (hq6.later (Tx.newb v6 (.cells #[.int .i64 op, .int .i64 fl, .slice saR ws.length scR, .int .i64 ya, .int .i64 yb, .slice kaR ks.length kcR] 25))); have cQ0_6 : (v6.alloc (.cells #[.int .i64 op, .int .i64 fl, .slice saR ws.length scR, .int .i64 ya, .int .i64 yb, .slice kaR ks.length kcR] 25)).cell? ⟨v2.heap.size, 0, none⟩ = some (.int .i64 op) := (Tx.blk KQ.out).1 0; have cQ1_6 : (v6.alloc (.cells #[.int .i64 op, .int .i64 fl, .slice saR ws.length scR, .int .i64 ya, .int .i64 yb, .slice kaR ks.length kcR] 25)).cell? ⟨v2.heap.size, 1, none⟩ = some (.int .i64 fl) := (Tx.blk KQ.out).1 1; have cQ2_6 : (v6.alloc (.cells #[.int .i64 op, .int .i64 fl, .slice saR ws.length scR, .int .i64 ya, .int .i64 yb, .slice kaR ks.length kcR] 25)).cell? ⟨v2.heap.size, 2, none⟩ = some (.slice saQ ws.length scQ) := (Tx.blk KQ.out).1 2; have cQ3_6 : (v6.alloc (.cells #[.int .i64 op, .int .i64 fl, .slice saR ws.length scR, .int .i64 ya, .int .i64 yb, .slice kaR ks.length kcR] 25)).cell? ⟨v2.heap.size, 3, none⟩ = some (.int .i64 ya) := (Tx.blk KQ.out).1 3; have cQ4_6 : (v6.alloc (.cells #[.int .i64 op, .int .i64 fl, .slice saR ws.length scR, .int .i64 ya, .int .i64 yb, .slice kaR ks.length kcR] 25)).cell? ⟨v2.heap.size, 4, none⟩ = some (.int .i64 yb) := (Tx.blk KQ.out).1 4; have cQ5_6 : (v6.alloc (.cells #[.int .i64 op, .int .i64 fl, .slice saR ws.length scR, .int .i64 ya, .int .i64 yb, .slice kaR ks.length kcR] 25)).cell? ⟨v2.heap.size, 5, none⟩ = some (.slice kaQ ks.length kcQ) := (Tx.blk KQ.out).1 5; have cR0_6 : (v6.alloc (.cells #[.int .i64 op, .int .i64 fl, .slice saR ws.length scR, .int .i64 ya, .int .i64 yb, .slice kaR ks.length kcR] 25)).cell? ⟨v6.heap.size, 0, none⟩ = some (.int .i64 op) := (Tx.blk KR.out).1 0; have cR1_6 : (v6.alloc (.cells #[.int .i64 op, .int .i64 fl, .slice saR ws.length scR, .int .i64 ya, .int .i64 yb, .slice kaR ks.length kcR] 25)).cell? ⟨v6.heap.size, 1, none⟩ = some (.int .i64 fl) := (Tx.blk KR.out).1 1; have cR2_6 : (v6.alloc (.cells #[.int .i64 op, .int .i64 fl, .slice saR ws.length scR, .int .i64 ya, .int .i64 yb, .slice kaR ks.length kcR] 25)).cell? ⟨v6.heap.size, 2, none⟩ = some (.slice saR ws.length scR) := (Tx.blk KR.out).1 2; have cR3_6 : (v6.alloc (.cells #[.int .i64 op, .int .i64 fl, .slice saR ws.length scR, .int .i64 ya, .int .i64 yb, .slice kaR ks.length kcR] 25)).cell? ⟨v6.heap.size, 3, none⟩ = some (.int .i64 ya) := (Tx.blk KR.out).1 3; have cR4_6 : (v6.alloc (.cells #[.int .i64 op, .int .i64 fl, .slice saR ws.length scR, .int .i64 ya, .int .i64 yb, .slice kaR ks.length kcR] 25)).cell? ⟨v6.heap.size, 4, none⟩ = some (.int .i64 yb) := (Tx.blk KR.out).1 4; have cR5_6 : (v6.alloc (.cells #[.int .i64 op, .int .i64 fl, .slice saR ws.length scR, .int .i64 ya, .int .i64 yb, .slice kaR ks.length kcR] 25)).cell? ⟨v6.heap.size, 5, none⟩ = some (.slice kaR ks.length kcR) := (Tx.blk KR.out).1 5)
        | (go_at_call 14; refine (P2.out _ (hG.below k4)).mono ?_; rintro e v5 ⟨saP, scP, kaP, kcP, rfl, hq5, hb5⟩; have k5 := Tx.step k4 hb5; replace KQ := Lib.hid (Tx.blk_later KQ.out hb5); replace HQ := Lib.hid (HQ.out.later hb5); have k5a : Below w.heap.size w (v5.alloc (.cells #[.int .i64 op, .int .i64 fl, .slice saP ws.length scP, .int .i64 ya, .int .i64 yb, .slice kaP ks.length kcP] 25)) := k5.alloc k5.size _; replace KQ := Lib.hid (Tx.blk_later KQ.out (Tx.newb v5 (.cells #[.int .i64 op, .int .i64 fl, .slice saP ws.length scP, .int .i64 ya, .int .i64 yb, .slice kaP ks.length kcP] 25))); replace HQ := Lib.hid (HQ.out.later (Tx.newb v5 (.cells #[.int .i64 op, .int .i64 fl, .slice saP ws.length scP, .int .i64 ya, .int .i64 yb, .slice kaP ks.length kcP] 25))); have KP : Hid ((v5.alloc (.cells #[.int .i64 op, .int .i64 fl, .slice saP ws.length scP, .int .i64 ya, .int .i64 yb, .slice kaP ks.length kcP] 25)).heap[v5.heap.size]? = some (.cells #[.int .i64 op, .int .i64 fl, .slice saP ws.length scP, .int .i64 ya, .int .i64 yb, .slice kaP ks.length kcP] 25 (0, 0))) := Lib.hid (heap_alloc_new v5 _); have HP := Lib.hid (hq5.later (Tx.newb v5 (.cells #[.int .i64 op, .int .i64 fl, .slice saP ws.length scP, .int .i64 ya, .int .i64 yb, .slice kaP ks.length kcP] 25))))
        | (go_at_call 21; refine ((show Below w.heap.size w _ from k3) |> fun _ => R2.out _).mono ?_; rintro e v4 ⟨rfl, hb4⟩; have k4 := Tx.step k3 hb4; replace KQ := Lib.hid (Tx.blk_later KQ.out hb4); replace HQ := Lib.hid (HQ.out.later hb4))
        | (go_at_call 21; refine ((show Below w.heap.size w _ from k2a) |> fun _ => R1.out _).mono ?_; rintro e v3 ⟨rfl, hb3⟩; have k3 := Tx.step k2a hb3; replace KQ := Lib.hid (Tx.blk_later KQ.out hb3); replace HQ := Lib.hid (HQ.out.later hb3))
        | (go_at_call 14; refine (P1.out _ (hG.below k1)).mono ?_; rintro e v2 ⟨saQ, scQ, kaQ, kcQ, rfl, hq2, hb2⟩; have k2 := Tx.step k1 hb2; have k2a : Below w.heap.size w (v2.alloc (.cells #[.int .i64 op, .int .i64 fl, .slice saQ ws.length scQ, .int .i64 ya, .int .i64 yb, .slice kaQ ks.length kcQ] 25)) := k2.alloc k2.size _; have KQ : Hid ((v2.alloc (.cells #[.int .i64 op, .int .i64 fl, .slice saQ ws.length scQ, .int .i64 ya, .int .i64 yb, .slice kaQ ks.length kcQ] 25)).heap[v2.heap.size]? = some (.cells #[.int .i64 op, .int .i64 fl, .slice saQ ws.length scQ, .int .i64 ya, .int .i64 yb, .slice kaQ ks.length kcQ] 25 (0, 0))) := Lib.hid (heap_alloc_new v2 _); have HQ := Lib.hid (hq2.later (Tx.newb v2 (.cells #[.int .i64 op, .int .i64 fl, .slice saQ ws.length scQ, .int .i64 ya, .int .i64 yb, .slice kaQ ks.length kcQ] 25))))
        | (go_at_call 20; refine (r01_Valid_c s _ (by omega)).mono ?_; rintro e v1 ⟨rfl, hb1⟩; rw [HV.out]; have k1 := Tx.step k0 hb1))
      go_ret
      exact ⟨rfl, k9⟩
    · have hne : (E != 0) = true := by simpa using hz
      clear hz
      go_enter Tryz.func7, Tryz.ntmps7
      go_wp2_with (first
        | (go_at_call 9; refine (alive_c _ (hG.below k7)).mono ?_; rintro e v8 ⟨rfl, hb8⟩; have k8 := Tx.step k7 hb8; replace KQ := Lib.hid (Tx.blk_later KQ.out hb8); replace HQ := Lib.hid (HQ.out.later hb8); replace KP := Lib.hid (Tx.blk_later KP.out hb8); replace HP := Lib.hid (HP.out.later hb8); replace KR := Lib.hid (Tx.blk_later KR.out hb8); replace HR := Lib.hid (HR.out.later hb8))
        | (go_at_call 16; refine ((show Below w.heap.size w _ from k6a) |> fun _ => r21_Same_c 0 _ _ _ _ _ HQ.out HR.out).mono ?_; rintro e v7 ⟨rfl, hb7⟩; rw [(SM _).out]; have k7 := Tx.step k6a hb7; replace KQ := Lib.hid (Tx.blk_later KQ.out hb7); replace HQ := Lib.hid (HQ.out.later hb7); replace KP := Lib.hid (Tx.blk_later KP.out hb7); replace HP := Lib.hid (HP.out.later hb7); replace KR := Lib.hid (Tx.blk_later KR.out hb7); replace HR := Lib.hid (HR.out.later hb7))
        | (go_at_call 14; refine (P3.out _ (hG.below k5a)).mono ?_; rintro e v6 ⟨saR, scR, kaR, kcR, rfl, hq6, hb6⟩; have k6 := Tx.step k5a hb6; replace KQ := Lib.hid (Tx.blk_later KQ.out hb6); replace HQ := Lib.hid (HQ.out.later hb6); replace KP := Lib.hid (Tx.blk_later KP.out hb6); replace HP := Lib.hid (HP.out.later hb6); have k6a : Below w.heap.size w (v6.alloc (.cells #[.int .i64 op, .int .i64 fl, .slice saR ws.length scR, .int .i64 ya, .int .i64 yb, .slice kaR ks.length kcR] 25)) := k6.alloc k6.size _; replace KQ := Lib.hid (Tx.blk_later KQ.out (Tx.newb v6 (.cells #[.int .i64 op, .int .i64 fl, .slice saR ws.length scR, .int .i64 ya, .int .i64 yb, .slice kaR ks.length kcR] 25))); replace HQ := Lib.hid (HQ.out.later (Tx.newb v6 (.cells #[.int .i64 op, .int .i64 fl, .slice saR ws.length scR, .int .i64 ya, .int .i64 yb, .slice kaR ks.length kcR] 25))); replace KP := Lib.hid (Tx.blk_later KP.out (Tx.newb v6 (.cells #[.int .i64 op, .int .i64 fl, .slice saR ws.length scR, .int .i64 ya, .int .i64 yb, .slice kaR ks.length kcR] 25))); replace HP := Lib.hid (HP.out.later (Tx.newb v6 (.cells #[.int .i64 op, .int .i64 fl, .slice saR ws.length scR, .int .i64 ya, .int .i64 yb, .slice kaR ks.length kcR] 25))); have KR : Hid ((v6.alloc (.cells #[.int .i64 op, .int .i64 fl, .slice saR ws.length scR, .int .i64 ya, .int .i64 yb, .slice kaR ks.length kcR] 25)).heap[v6.heap.size]? = some (.cells #[.int .i64 op, .int .i64 fl, .slice saR ws.length scR, .int .i64 ya, .int .i64 yb, .slice kaR ks.length kcR] 25 (0, 0))) := Lib.hid (heap_alloc_new v6 _); have HR := Lib.hid (hq6.later (Tx.newb v6 (.cells #[.int .i64 op, .int .i64 fl, .slice saR ws.length scR, .int .i64 ya, .int .i64 yb, .slice kaR ks.length kcR] 25))); have cQ0_6 : (v6.alloc (.cells #[.int .i64 op, .int .i64 fl, .slice saR ws.length scR, .int .i64 ya, .int .i64 yb, .slice kaR ks.length kcR] 25)).cell? ⟨v2.heap.size, 0, none⟩ = some (.int .i64 op) := (Tx.blk KQ.out).1 0; have cQ1_6 : (v6.alloc (.cells #[.int .i64 op, .int .i64 fl, .slice saR ws.length scR, .int .i64 ya, .int .i64 yb, .slice kaR ks.length kcR] 25)).cell? ⟨v2.heap.size, 1, none⟩ = some (.int .i64 fl) := (Tx.blk KQ.out).1 1; have cQ2_6 : (v6.alloc (.cells #[.int .i64 op, .int .i64 fl, .slice saR ws.length scR, .int .i64 ya, .int .i64 yb, .slice kaR ks.length kcR] 25)).cell? ⟨v2.heap.size, 2, none⟩ = some (.slice saQ ws.length scQ) := (Tx.blk KQ.out).1 2; have cQ3_6 : (v6.alloc (.cells #[.int .i64 op, .int .i64 fl, .slice saR ws.length scR, .int .i64 ya, .int .i64 yb, .slice kaR ks.length kcR] 25)).cell? ⟨v2.heap.size, 3, none⟩ = some (.int .i64 ya) := (Tx.blk KQ.out).1 3; have cQ4_6 : (v6.alloc (.cells #[.int .i64 op, .int .i64 fl, .slice saR ws.length scR, .int .i64 ya, .int .i64 yb, .slice kaR ks.length kcR] 25)).cell? ⟨v2.heap.size, 4, none⟩ = some (.int .i64 yb) := (Tx.blk KQ.out).1 4; have cQ5_6 : (v6.alloc (.cells #[.int .i64 op, .int .i64 fl, .slice saR ws.length scR, .int .i64 ya, .int .i64 yb, .slice kaR ks.length kcR] 25)).cell? ⟨v2.heap.size, 5, none⟩ = some (.slice kaQ ks.length kcQ) := (Tx.blk KQ.out).1 5; have cR0_6 : (v6.alloc (.cells #[.int .i64 op, .int .i64 fl, .slice saR ws.length scR, .int .i64 ya, .int .i64 yb, .slice kaR ks.length kcR] 25)).cell? ⟨v6.heap.size, 0, none⟩ = some (.int .i64 op) := (Tx.blk KR.out).1 0; have cR1_6 : (v6.alloc (.cells #[.int .i64 op, .int .i64 fl, .slice saR ws.length scR, .int .i64 ya, .int .i64 yb, .slice kaR ks.length kcR] 25)).cell? ⟨v6.heap.size, 1, none⟩ = some (.int .i64 fl) := (Tx.blk KR.out).1 1; have cR2_6 : (v6.alloc (.cells #[.int .i64 op, .int .i64 fl, .slice saR ws.length scR, .int .i64 ya, .int .i64 yb, .slice kaR ks.length kcR] 25)).cell? ⟨v6.heap.size, 2, none⟩ = some (.slice saR ws.length scR) := (Tx.blk KR.out).1 2; have cR3_6 : (v6.alloc (.cells #[.int .i64 op, .int .i64 fl, .slice saR ws.length scR, .int .i64 ya, .int .i64 yb, .slice kaR ks.length kcR] 25)).cell? ⟨v6.heap.size, 3, none⟩ = some (.int .i64 ya) := (Tx.blk KR.out).1 3; have cR4_6 : (v6.alloc (.cells #[.int .i64 op, .int .i64 fl, .slice saR ws.length scR, .int .i64 ya, .int .i64 yb, .slice kaR ks.length kcR] 25)).cell? ⟨v6.heap.size, 4, none⟩ = some (.int .i64 yb) := (Tx.blk KR.out).1 4; have cR5_6 : (v6.alloc (.cells #[.int .i64 op, .int .i64 fl, .slice saR ws.length scR, .int .i64 ya, .int .i64 yb, .slice kaR ks.length kcR] 25)).cell? ⟨v6.heap.size, 5, none⟩ = some (.slice kaR ks.length kcR) := (Tx.blk KR.out).1 5)
        | (go_at_call 14; refine (P2.out _ (hG.below k4)).mono ?_; rintro e v5 ⟨saP, scP, kaP, kcP, rfl, hq5, hb5⟩; have k5 := Tx.step k4 hb5; replace KQ := Lib.hid (Tx.blk_later KQ.out hb5); replace HQ := Lib.hid (HQ.out.later hb5); have k5a : Below w.heap.size w (v5.alloc (.cells #[.int .i64 op2, .int .i64 fl2, .slice saP ws2.length scP, .int .i64 ya2, .int .i64 yb2, .slice kaP ks2.length kcP] 25)) := k5.alloc k5.size _; replace KQ := Lib.hid (Tx.blk_later KQ.out (Tx.newb v5 (.cells #[.int .i64 op2, .int .i64 fl2, .slice saP ws2.length scP, .int .i64 ya2, .int .i64 yb2, .slice kaP ks2.length kcP] 25))); replace HQ := Lib.hid (HQ.out.later (Tx.newb v5 (.cells #[.int .i64 op2, .int .i64 fl2, .slice saP ws2.length scP, .int .i64 ya2, .int .i64 yb2, .slice kaP ks2.length kcP] 25))); have KP : Hid ((v5.alloc (.cells #[.int .i64 op2, .int .i64 fl2, .slice saP ws2.length scP, .int .i64 ya2, .int .i64 yb2, .slice kaP ks2.length kcP] 25)).heap[v5.heap.size]? = some (.cells #[.int .i64 op2, .int .i64 fl2, .slice saP ws2.length scP, .int .i64 ya2, .int .i64 yb2, .slice kaP ks2.length kcP] 25 (0, 0))) := Lib.hid (heap_alloc_new v5 _); have HP := Lib.hid (hq5.later (Tx.newb v5 (.cells #[.int .i64 op2, .int .i64 fl2, .slice saP ws2.length scP, .int .i64 ya2, .int .i64 yb2, .slice kaP ks2.length kcP] 25))))
        | (go_at_call 21; refine ((show Below w.heap.size w _ from k3) |> fun _ => R2.out _).mono ?_; rintro e v4 ⟨rfl, hb4⟩; have k4 := Tx.step k3 hb4; replace KQ := Lib.hid (Tx.blk_later KQ.out hb4); replace HQ := Lib.hid (HQ.out.later hb4))
        | (go_at_call 21; refine ((show Below w.heap.size w _ from k2a) |> fun _ => R1.out _).mono ?_; rintro e v3 ⟨rfl, hb3⟩; have k3 := Tx.step k2a hb3; replace KQ := Lib.hid (Tx.blk_later KQ.out hb3); replace HQ := Lib.hid (HQ.out.later hb3))
        | (go_at_call 14; refine (P1.out _ (hG.below k1)).mono ?_; rintro e v2 ⟨saQ, scQ, kaQ, kcQ, rfl, hq2, hb2⟩; have k2 := Tx.step k1 hb2; have k2a : Below w.heap.size w (v2.alloc (.cells #[.int .i64 op, .int .i64 fl, .slice saQ ws.length scQ, .int .i64 ya, .int .i64 yb, .slice kaQ ks.length kcQ] 25)) := k2.alloc k2.size _; have KQ : Hid ((v2.alloc (.cells #[.int .i64 op, .int .i64 fl, .slice saQ ws.length scQ, .int .i64 ya, .int .i64 yb, .slice kaQ ks.length kcQ] 25)).heap[v2.heap.size]? = some (.cells #[.int .i64 op, .int .i64 fl, .slice saQ ws.length scQ, .int .i64 ya, .int .i64 yb, .slice kaQ ks.length kcQ] 25 (0, 0))) := Lib.hid (heap_alloc_new v2 _); have HQ := Lib.hid (hq2.later (Tx.newb v2 (.cells #[.int .i64 op, .int .i64 fl, .slice saQ ws.length scQ, .int .i64 ya, .int .i64 yb, .slice kaQ ks.length kcQ] 25))))
        | (go_at_call 20; refine (r01_Valid_c s _ (by omega)).mono ?_; rintro e v1 ⟨rfl, hb1⟩; rw [HV.out]; have k1 := Tx.step k0 hb1))
      go_ret
      exact ⟨rfl, k8⟩
end Go.Proofs.YtkahplbjbidemaaGreatDoor
