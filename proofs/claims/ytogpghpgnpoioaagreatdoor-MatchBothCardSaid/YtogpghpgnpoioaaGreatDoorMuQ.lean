/- Layer 15: the law MatchBoth: what its call returns. -/
import Derived.Test.YtogpghpgnpoioaaGreatDoorMuP
import Derived.Test.YtogpghpgnpoioaaGreatDoorMuR
import Derived.Deep.DeepCutAuto
namespace Go.Proofs.YtogpghpgnpoioaaGreatDoor
open Go.RowKit
set_option maxRecDepth 100000

/-- The two records of a round, each in a box of its own. -/
structure Mt.Two (w : World) (gx gy : Nat) (x : Rc.Rd) (xa : Option Addr) (xc : Nat) (y : Rc.Rd) (ya : Option Addr) (yc : Nat) (w' : World) : Prop where
  hb : Below w.heap.size w w'
  x0 : w'.cell? ⟨gx, 0, none⟩ = some (.int .i64 x.id)
  x1 : w'.cell? ⟨gx, 1, none⟩ = some (.int .i64 x.ver)
  x2 : w'.cell? ⟨gx, 2, none⟩ = some (.int .i64 x.kind)
  x3 : w'.cell? ⟨gx, 3, none⟩ = some (.string x.lang)
  x4 : w'.cell? ⟨gx, 4, none⟩ = some (.slice xa x.fields.length xc)
  y0 : w'.cell? ⟨gy, 0, none⟩ = some (.int .i64 y.id)
  y1 : w'.cell? ⟨gy, 1, none⟩ = some (.int .i64 y.ver)
  y2 : w'.cell? ⟨gy, 2, none⟩ = some (.int .i64 y.kind)
  y3 : w'.cell? ⟨gy, 3, none⟩ = some (.string y.lang)
  y4 : w'.cell? ⟨gy, 4, none⟩ = some (.slice ya y.fields.length yc)
theorem Mt.Two.a (w : World) (x : Rc.Rd) (xa : Option Addr) (xc : Nat) (y : Rc.Rd) (ya : Option Addr) (yc : Nat) (t : TypeId) : Mt.Two w (w.heap.size + 1) w.heap.size x xa xc y ya yc ((w.alloc (.cells #[.int .i64 y.id, .int .i64 y.ver, .int .i64 y.kind, .string y.lang, .slice ya y.fields.length yc] t)).alloc (.cells #[.int .i64 x.id, .int .i64 x.ver, .int .i64 x.kind, .string x.lang, .slice xa x.fields.length xc] t)).drew := by
  refine ⟨((Tx.newb _ _).alloc (Tx.newb w _).size _).trans (Below.refl _ _).drew, ?_, ?_, ?_, ?_, ?_, ?_, ?_, ?_, ?_, ?_⟩ <;> (show World.cell? (World.alloc _ _) _ = _; simp)
theorem Mt.Two.b (w : World) (x : Rc.Rd) (xa : Option Addr) (xc : Nat) (y : Rc.Rd) (ya : Option Addr) (yc : Nat) (t : TypeId) : Mt.Two w w.heap.size (w.heap.size + 1) x xa xc y ya yc ((w.alloc (.cells #[.int .i64 x.id, .int .i64 x.ver, .int .i64 x.kind, .string x.lang, .slice xa x.fields.length xc] t)).alloc (.cells #[.int .i64 y.id, .int .i64 y.ver, .int .i64 y.kind, .string y.lang, .slice ya y.fields.length yc] t)).drew := by
  refine ⟨((Tx.newb _ _).alloc (Tx.newb w _).size _).trans (Below.refl _ _).drew, ?_, ?_, ?_, ?_, ?_, ?_, ?_, ?_, ?_, ?_⟩ <;> (show World.cell? (World.alloc _ _) _ = _; simp)
theorem m_foundB_c (xs : List Int) (n : Int) (a : Option Addr) (c : Nat) (w : World) (h : Mt.IA w a c xs) (b : Bool) (hb : decide (n ∈ xs) = b) :
    Calls Tryz.prog 28 #[.slice a xs.length c, .int .i64 n] w fun e w' => e = .returned (.bool b) ∧ Below w.heap.size w w' := by
  refine (m_found_c xs n a c w h).mono ?_
  rintro e w' ⟨rfl, rfl⟩
  exact ⟨by rw [hb], Below.refl _ _⟩
set_option maxHeartbeats 6400000 in
theorem both_law (m : Mt.Rule) (ka : Option Addr) (kc : Nat) (l : List Rc.Rd) (la : Option Addr) (lc : Nat) (w : World) (hG : G w) (hK : Mt.KyA w ka kc m.keys) (hL : Rc.RdA w la lc l) :
    Calls Tryz.prog 8 #[.agg #[.slice ka m.keys.length kc, .int .i64 m.need], .slice la l.length lc] w fun e w' => e = .returned (.bool true) ∧ Below w.heap.size w w' := by
  have hml : maxLen = 9223372036854775807 := rfl
  obtain ⟨W, hW⟩ : ∃ W, w.alloc (.cells #[.slice ka m.keys.length kc, .int .i64 m.need] 24) = W := ⟨_, rfl⟩
  have hB : Below w.heap.size w W := by rw [← hW]; exact Tx.newb w _
  have m0 : W.cell? ⟨w.heap.size, 0, none⟩ = some (.slice ka m.keys.length kc) := by rw [← hW]; simp
  have m1 : W.cell? ⟨w.heap.size, 1, none⟩ = some (.int .i64 m.need) := by rw [← hW]; simp
  have HB := Lib.hid hB
  have HGW := Lib.hid (hG.below hB)
  have HKW := Lib.hid (hK.below hB)
  have HLW := Lib.hid (hL.below hB)
  have hcap := hL.cap
  have hmax := hL.max
  clear hG hK hB hL
  by_cases hz : Mt.ruleE m = 0
  · have HE := Lib.hid hz; clear hz
    cases hv : Mt.allB l with
    | false =>
      have HV := Lib.hid hv; clear hv
      go_enter Tryz.func8, Tryz.ntmps8
      go_wp2_with (first
        | (go_at_call 9; refine (m_alive_c _ HGW.out).mono ?_; rintro e w1 ⟨rfl, hb1⟩; clear hW; have HB1 := Lib.hid (Tx.step HB.out hb1); have HG1 := Lib.hid (HGW.out.below hb1); have HK1 := Lib.hid (HKW.out.below hb1); have HL1 := Lib.hid (HLW.out.below hb1); replace m0 := cell_later hb1 m0; replace m1 := cell_later hb1 m1; clear hb1)
        | (go_at_call 11; refine (r15_Right_c m ka kc _ HK1.out).mono ?_; rintro e w2 ⟨rfl, hb2⟩; rw [HE.out]; replace m0 := cell_later hb2 m0; replace m1 := cell_later hb2 m1)
        | (go_at_call 21; refine (m_all_c l la lc _ (HL1.out.below hb2)).mono ?_; rintro e w3 ⟨rfl, hb3⟩; rw [HV.out]; replace m0 := cell_later hb3 m0; replace m1 := cell_later hb3 m1; have hb13 := Tx.step hb2 hb3))
      go_ret
      exact ⟨rfl, Tx.step HB1.out hb13⟩
    | true =>
      have HV := Lib.hid hv; clear hv
      have HM := Lib.hid (Mt.ruleE_good (m := m) HE.out)
      have HA := Lib.hid (Mt.allB_of HV.out)
      have hl8 := HA.out.1
      go_enter Tryz.func8, Tryz.ntmps8
      go_wp2_with (first
        | (go_at_call 9; refine (m_alive_c _ HGW.out).mono ?_; rintro e w1 ⟨rfl, hb1⟩; clear hW; have HB1 := Lib.hid (Tx.step HB.out hb1); have HG1 := Lib.hid (HGW.out.below hb1); have HK1 := Lib.hid (HKW.out.below hb1); have HL1 := Lib.hid (HLW.out.below hb1); replace m0 := cell_later hb1 m0; replace m1 := cell_later hb1 m1; clear hb1)
        | (go_at_call 11; refine (r15_Right_c m ka kc _ HK1.out).mono ?_; rintro e w2 ⟨rfl, hb2⟩; rw [HE.out]; replace m0 := cell_later hb2 m0; replace m1 := cell_later hb2 m1)
        | (go_at_call 21; refine (m_all_c l la lc _ (HL1.out.below hb2)).mono ?_; rintro e w3 ⟨rfl, hb3⟩; rw [HV.out]; replace m0 := cell_later hb3 m0; replace m1 := cell_later hb3 m1; have hb13 := Tx.step hb2 hb3)
        | (go_at_call 26; refine (match_Pairs_c m ka kc l la lc _ (HG1.out.below hb13) (HK1.out.below hb13) HM.out (HL1.out.below hb13) HA.out.2.1 HA.out.2.2 (Nat.le_trans HA.out.1 (by decide))).mono ?_; rintro e w4 ⟨v4, rfl, ho4, hb4⟩; obtain ⟨p4, d4, rfl, _⟩ := Mt.own_qa ho4; rw [Mt.pairs_len m HA.out.2.2]; replace m0 := cell_later hb4 m0; replace m1 := cell_later hb4 m1; have hb14 := Tx.step hb13 hb4; have HB4 := Lib.hid (Tx.step HB1.out hb14); have HG := Lib.hid (HG1.out.below hb14); have HK := Lib.hid (HK1.out.below hb14); have HL := Lib.hid (HL1.out.below hb14); clear hb2 hb3 hb13 hb4 hb14 ho4))
      go_loopw [6, 7, 8, 9, 10, 11] (fun nv iv _ _ _ _ wr => ∃ i : Nat, i ≤ l.length ∧ iv = .int .i64 i ∧ nv = .int .i64 (Mt.cntO m l i) ∧ Below w4.heap.size w4 wr) (fun _ iv _ _ _ _ _ => l.length - (intOf iv).toNat)
      case atStart => exact ⟨0, Nat.zero_le _, rfl, rfl, Below.refl _ _⟩
      case round =>
        obtain ⟨i, hi, rfl, rfl, hb⟩ := hrel
        have HBo := Lib.hid hb
        clear hb
        by_cases hlt : i < l.length
        · obtain ⟨x, hx⟩ : ∃ x, l[i]? = some x := ⟨_, List.getElem?_eq_getElem hlt⟩
          have HX := Lib.hid hx
          have hco : Mt.cntO m l i ≤ 64 := Nat.le_trans (Mt.cntO_le m l i (by omega)) (Nat.mul_le_mul (show i ≤ 8 by omega) hl8)
          have HCO : Hid (Mt.cntO m l (i + 1) = Mt.cntO m l i + Mt.cntI m l x l.length) := Lib.hid (Mt.cntO_succ m hx)
          obtain ⟨co, hcoe⟩ : ∃ co, Mt.cntO m l i = co := ⟨_, rfl⟩
          rw [hcoe] at hco HCO ⊢
          clear hx hcoe
          go_wp2
          go_loopw [6, 8, 9, 10, 11] (fun nv kv _ _ _ wr => ∃ k : Nat, k ≤ l.length ∧ kv = .int .i64 k ∧ nv = .int .i64 ((co + Mt.cntI m l x k : Nat) : Int) ∧ Below w4.heap.size w4 wr) (fun _ kv _ _ _ _ => l.length - (intOf kv).toNat)
          case atStart => exact ⟨0, Nat.zero_le _, rfl, rfl, HBo.out⟩
          case round =>
            obtain ⟨k, hk, rfl, rfl, hb⟩ := hrel
            have hci := Mt.cntI_le m l x k
            replace m0 := cell_later hb m0; replace m1 := cell_later hb m1
            have HBi := Lib.hid hb
            by_cases hlk : k < l.length
            · obtain ⟨y, hy⟩ : ∃ y, l[k]? = some y := ⟨_, List.getElem?_eq_getElem hlk⟩
              have HY := Lib.hid hy
              have HCI : Hid (Mt.cntI m l x (k + 1) = Mt.cntI m l x k + (Mt.pairB m x y).toNat) := Lib.hid (Mt.cntI_succ m x hy)
              obtain ⟨ci, hcie⟩ : ∃ ci, Mt.cntI m l x k = ci := ⟨_, rfl⟩
              rw [hcie] at hci HCI ⊢
              clear hcie hb
              obtain ⟨lb, lo, xa, xc, rfl, hlbl, u0, u1, u2, u3, u4, hFX⟩ := (HL.out.below HBi.out).get HX.out
              obtain ⟨lb2, lo2, ya, yc, he2, _, v0, v1, v2, v3, v4, hFY⟩ := (HL.out.below HBi.out).get HY.out
              injection he2 with he2
              injection he2 with hlb hlo
              subst hlb hlo
              have HFX := Lib.hid hFX
              have HFY := Lib.hid hFY
              have HGX := Lib.hid (HA.out.2.1 x (List.mem_of_getElem? HX.out))
              have HGY := Lib.hid (HA.out.2.1 y (List.mem_of_getElem? HY.out))
              clear hFX hFY hy
              obtain ⟨s, hs⟩ : ∃ s, Mt.sumS m.keys x.fields y.fields = s := ⟨_, rfl⟩
              have hsc : Mt.score m x y = s := hs
              have hsd : Mt.score m y x = s := (Mt.score_comm m y x).trans hs
              have hs2 : Mt.sumS m.keys y.fields x.fields = s := hsd
              have HSC := Lib.hid hsc
              have HSD := Lib.hid hsd
              have HS1 := Lib.hid hs
              have HS2 := Lib.hid hs2
              clear hs hsc hsd hs2
              go_wp2
              go_cut [9, 10] (fun s9 s10 wx => ∃ gx gy : Nat, s9 = .pointer (some ⟨gx, 0, none⟩) ∧ s10 = .pointer (some ⟨gy, 0, none⟩) ∧ Mt.Two wr gx gy x xa xc y ya yc wx)
              case first =>
                go_region_law fail
                all_goals
                  go_wp2_with fail
                  go_meet
                all_goals first
                  | exact ⟨_, _, rfl, rfl, Mt.Two.a wr x xa xc y ya yc _⟩
                  | exact ⟨_, _, rfl, rfl, Mt.Two.b wr x xa xc y ya yc _⟩
              case rest =>
                obtain ⟨gx, gy, rfl, rfl, h2⟩ := hcut
                obtain ⟨V, hV⟩ : ∃ V, V = wc := ⟨_, rfl⟩
                subst hV
                have hbv := h2.hb
                have HBV := Lib.hid (Tx.step HBi.out hbv)
                have x0 := h2.x0; have x1 := h2.x1; have x2 := h2.x2; have x3 := h2.x3; have x4 := h2.x4; have y0 := h2.y0; have y1 := h2.y1; have y2 := h2.y2; have y3 := h2.y3; have y4 := h2.y4; replace m0 := cell_later hbv m0; replace m1 := cell_later hbv m1
                have HGV := Lib.hid (HG.out.below HBV.out)
                have HKV := Lib.hid (HK.out.below HBV.out)
                have HLV := Lib.hid (HL.out.below HBV.out)
                have HFXV := Lib.hid (HFX.out.below hbv)
                have HFYV := Lib.hid (HFY.out.below hbv)
                have HSxy : Hid (∀ w', Below V.heap.size V w' → Calls Tryz.prog 19 #[.agg #[.slice ka m.keys.length kc, .int .i64 m.need], .agg #[.int .i64 x.id, .int .i64 x.ver, .int .i64 x.kind, .string x.lang, .slice xa x.fields.length xc], .agg #[.int .i64 y.id, .int .i64 y.ver, .int .i64 y.kind, .string y.lang, .slice ya y.fields.length yc]] w' fun e w'' => e = .returned (.int .i64 s) ∧ Below w'.heap.size w' w'') := Lib.hid (fun w' h9 => by
                  have h := match_Score_c m ka kc x.fields xa xc x.id x.ver x.kind x.lang y.fields ya yc y.id y.ver y.kind y.lang w' (HGV.out.below h9) (HKV.out.below h9) HM.out (HFXV.out.below h9) HGX.out (HFYV.out.below h9) HGY.out
                  rw [HS1.out] at h
                  exact h)
                have HSyx : Hid (∀ w', Below V.heap.size V w' → Calls Tryz.prog 19 #[.agg #[.slice ka m.keys.length kc, .int .i64 m.need], .agg #[.int .i64 y.id, .int .i64 y.ver, .int .i64 y.kind, .string y.lang, .slice ya y.fields.length yc], .agg #[.int .i64 x.id, .int .i64 x.ver, .int .i64 x.kind, .string x.lang, .slice xa x.fields.length xc]] w' fun e w'' => e = .returned (.int .i64 s) ∧ Below w'.heap.size w' w'') := Lib.hid (fun w' h9 => by
                  have h := match_Score_c m ka kc y.fields ya yc y.id y.ver y.kind y.lang x.fields xa xc x.id x.ver x.kind x.lang w' (HGV.out.below h9) (HKV.out.below h9) HM.out (HFYV.out.below h9) HGY.out (HFXV.out.below h9) HGX.out
                  rw [HS2.out] at h
                  exact h)
                clear u0 u1 u2 u3 u4 v0 v1 v2 v3 v4 hbv h2
                have hbK := Below.refl V.heap.size V
                by_cases hxy : x.id < y.id
                · have HXY := Lib.hid hxy
                  have hge : ¬ (x.id ≥ y.id) := by omega
                  by_cases hB : m.need ≤ s
                  · have HPB : Hid (Mt.pairB m x y = true) := Lib.hid (by unfold Mt.pairB; rw [HSC.out, decide_eq_true hxy, decide_eq_true hB]; rfl)
                    have HF1 : Hid (decide (y.id ∈ Mt.find m l x) = true) := Lib.hid (by rw [Mt.find_mem m HA.out.2.2 (List.mem_of_getElem? HY.out) x (by have := HXY.out; omega), HSD.out, decide_eq_true hB])
                    have HF2 : Hid (decide (x.id ∈ Mt.find m l y) = true) := Lib.hid (by rw [Mt.find_mem m HA.out.2.2 (List.mem_of_getElem? HX.out) y (by have := HXY.out; omega), HSC.out, decide_eq_true hB])
                    have hBd : decide (s ≥ m.need) = true := decide_eq_true hB
                    have wn := IntWalk.i64_in (((co + ci : Nat) : Int) + 1) ⟨by omega, by omega⟩
                    clear hB hxy
                    go_wp2
                    go_region_held3 (fun w' => Below V.heap.size V w' ∧ w'.cell? ⟨w.heap.size, 0, none⟩ = some (.slice ka m.keys.length kc) ∧ w'.cell? ⟨w.heap.size, 1, none⟩ = some (.int .i64 m.need) ∧ w'.cell? ⟨gx, 0, none⟩ = some (.int .i64 x.id) ∧ w'.cell? ⟨gx, 1, none⟩ = some (.int .i64 x.ver) ∧ w'.cell? ⟨gx, 2, none⟩ = some (.int .i64 x.kind) ∧ w'.cell? ⟨gx, 3, none⟩ = some (.string x.lang) ∧ w'.cell? ⟨gx, 4, none⟩ = some (.slice xa x.fields.length xc) ∧ w'.cell? ⟨gy, 0, none⟩ = some (.int .i64 y.id) ∧ w'.cell? ⟨gy, 1, none⟩ = some (.int .i64 y.ver) ∧ w'.cell? ⟨gy, 2, none⟩ = some (.int .i64 y.kind) ∧ w'.cell? ⟨gy, 3, none⟩ = some (.string y.lang) ∧ w'.cell? ⟨gy, 4, none⟩ = some (.slice ya y.fields.length yc))
                      (first | exact ⟨hbK.drew, m0, m1, x0, x1, x2, x3, x4, y0, y1, y2, y3, y4⟩ | (go_split_ands; exact ⟨Tx.step (by assumption) hbx, cell_later hbx (by assumption), cell_later hbx (by assumption), cell_later hbx (by assumption), cell_later hbx (by assumption), cell_later hbx (by assumption), cell_later hbx (by assumption), cell_later hbx (by assumption), cell_later hbx (by assumption), cell_later hbx (by assumption), cell_later hbx (by assumption), cell_later hbx (by assumption), cell_later hbx (by assumption)⟩))
                      (first
                        | (go_split_ands; go_at_call 19; first | ((with_reducible refine (HSxy.out _ (by assumption)).mono ?_); rintro e wx ⟨rfl, hbx⟩) | ((with_reducible refine (HSyx.out _ (by assumption)).mono ?_); rintro e wx ⟨rfl, hbx⟩)))
                    all_goals (
                      go_split_ands
                      replace hbK : Below V.heap.size V wx := by assumption
                      replace m0 : wx.cell? ⟨w.heap.size, 0, none⟩ = some (.slice ka m.keys.length kc) := by assumption
                      replace m1 : wx.cell? ⟨w.heap.size, 1, none⟩ = some (.int .i64 m.need) := by assumption
                      replace x0 : wx.cell? ⟨gx, 0, none⟩ = some (.int .i64 x.id) := by assumption
                      replace x1 : wx.cell? ⟨gx, 1, none⟩ = some (.int .i64 x.ver) := by assumption
                      replace x2 : wx.cell? ⟨gx, 2, none⟩ = some (.int .i64 x.kind) := by assumption
                      replace x3 : wx.cell? ⟨gx, 3, none⟩ = some (.string x.lang) := by assumption
                      replace x4 : wx.cell? ⟨gx, 4, none⟩ = some (.slice xa x.fields.length xc) := by assumption
                      replace y0 : wx.cell? ⟨gy, 0, none⟩ = some (.int .i64 y.id) := by assumption
                      replace y1 : wx.cell? ⟨gy, 1, none⟩ = some (.int .i64 y.ver) := by assumption
                      replace y2 : wx.cell? ⟨gy, 2, none⟩ = some (.int .i64 y.kind) := by assumption
                      replace y3 : wx.cell? ⟨gy, 3, none⟩ = some (.string y.lang) := by assumption
                      replace y4 : wx.cell? ⟨gy, 4, none⟩ = some (.slice ya y.fields.length yc) := by assumption
                      go_wp2
                      go_region_held3 (fun w' => Below V.heap.size V w' ∧ w'.cell? ⟨w.heap.size, 0, none⟩ = some (.slice ka m.keys.length kc) ∧ w'.cell? ⟨w.heap.size, 1, none⟩ = some (.int .i64 m.need) ∧ w'.cell? ⟨gx, 0, none⟩ = some (.int .i64 x.id) ∧ w'.cell? ⟨gx, 1, none⟩ = some (.int .i64 x.ver) ∧ w'.cell? ⟨gx, 2, none⟩ = some (.int .i64 x.kind) ∧ w'.cell? ⟨gx, 3, none⟩ = some (.string x.lang) ∧ w'.cell? ⟨gx, 4, none⟩ = some (.slice xa x.fields.length xc) ∧ w'.cell? ⟨gy, 0, none⟩ = some (.int .i64 y.id) ∧ w'.cell? ⟨gy, 1, none⟩ = some (.int .i64 y.ver) ∧ w'.cell? ⟨gy, 2, none⟩ = some (.int .i64 y.kind) ∧ w'.cell? ⟨gy, 3, none⟩ = some (.string y.lang) ∧ w'.cell? ⟨gy, 4, none⟩ = some (.slice ya y.fields.length yc))
                        (first | exact ⟨hbK.drew, m0, m1, x0, x1, x2, x3, x4, y0, y1, y2, y3, y4⟩ | (go_split_ands; exact ⟨Tx.step (by assumption) hbx, cell_later hbx (by assumption), cell_later hbx (by assumption), cell_later hbx (by assumption), cell_later hbx (by assumption), cell_later hbx (by assumption), cell_later hbx (by assumption), cell_later hbx (by assumption), cell_later hbx (by assumption), cell_later hbx (by assumption), cell_later hbx (by assumption), cell_later hbx (by assumption), cell_later hbx (by assumption)⟩))
                        (first
                          | (go_split_ands; go_at_call 23; refine (match_Find_c m ka kc l (some ⟨lb, lo, none⟩) lc x xa xc _ (HGV.out.below (by assumption)) (HKV.out.below (by assumption)) HM.out (HLV.out.below (by assumption)) HA.out.2.1 (HFXV.out.below (by assumption)) HGX.out HA.out.2.2 (Nat.le_trans HA.out.1 (by decide))).mono ?_; rintro e wx ⟨v1, rfl, ho1, hbx⟩; obtain ⟨a1, c1, rfl, hi1⟩ := ho1.ia; have HI1 := Lib.hid hi1; clear ho1 hi1)
                          | (go_split_ands; go_at_call 28; refine (m_foundB_c (Mt.find m l x) y.id a1 c1 _ HI1.out _ HF1.out).mono ?_; rintro e wx ⟨rfl, hbx⟩))
                      all_goals (
                        go_split_ands
                        replace hbK : Below V.heap.size V wx := by assumption
                        replace m0 : wx.cell? ⟨w.heap.size, 0, none⟩ = some (.slice ka m.keys.length kc) := by assumption
                        replace m1 : wx.cell? ⟨w.heap.size, 1, none⟩ = some (.int .i64 m.need) := by assumption
                        replace x0 : wx.cell? ⟨gx, 0, none⟩ = some (.int .i64 x.id) := by assumption
                        replace x1 : wx.cell? ⟨gx, 1, none⟩ = some (.int .i64 x.ver) := by assumption
                        replace x2 : wx.cell? ⟨gx, 2, none⟩ = some (.int .i64 x.kind) := by assumption
                        replace x3 : wx.cell? ⟨gx, 3, none⟩ = some (.string x.lang) := by assumption
                        replace x4 : wx.cell? ⟨gx, 4, none⟩ = some (.slice xa x.fields.length xc) := by assumption
                        replace y0 : wx.cell? ⟨gy, 0, none⟩ = some (.int .i64 y.id) := by assumption
                        replace y1 : wx.cell? ⟨gy, 1, none⟩ = some (.int .i64 y.ver) := by assumption
                        replace y2 : wx.cell? ⟨gy, 2, none⟩ = some (.int .i64 y.kind) := by assumption
                        replace y3 : wx.cell? ⟨gy, 3, none⟩ = some (.string y.lang) := by assumption
                        replace y4 : wx.cell? ⟨gy, 4, none⟩ = some (.slice ya y.fields.length yc) := by assumption
                        go_wp2
                        go_region_held3 (fun w' => Below V.heap.size V w' ∧ w'.cell? ⟨w.heap.size, 0, none⟩ = some (.slice ka m.keys.length kc) ∧ w'.cell? ⟨w.heap.size, 1, none⟩ = some (.int .i64 m.need) ∧ w'.cell? ⟨gx, 0, none⟩ = some (.int .i64 x.id) ∧ w'.cell? ⟨gx, 1, none⟩ = some (.int .i64 x.ver) ∧ w'.cell? ⟨gx, 2, none⟩ = some (.int .i64 x.kind) ∧ w'.cell? ⟨gx, 3, none⟩ = some (.string x.lang) ∧ w'.cell? ⟨gx, 4, none⟩ = some (.slice xa x.fields.length xc) ∧ w'.cell? ⟨gy, 0, none⟩ = some (.int .i64 y.id) ∧ w'.cell? ⟨gy, 1, none⟩ = some (.int .i64 y.ver) ∧ w'.cell? ⟨gy, 2, none⟩ = some (.int .i64 y.kind) ∧ w'.cell? ⟨gy, 3, none⟩ = some (.string y.lang) ∧ w'.cell? ⟨gy, 4, none⟩ = some (.slice ya y.fields.length yc))
                          (first | exact ⟨hbK.drew, m0, m1, x0, x1, x2, x3, x4, y0, y1, y2, y3, y4⟩ | (go_split_ands; exact ⟨Tx.step (by assumption) hbx, cell_later hbx (by assumption), cell_later hbx (by assumption), cell_later hbx (by assumption), cell_later hbx (by assumption), cell_later hbx (by assumption), cell_later hbx (by assumption), cell_later hbx (by assumption), cell_later hbx (by assumption), cell_later hbx (by assumption), cell_later hbx (by assumption), cell_later hbx (by assumption), cell_later hbx (by assumption)⟩))
                          (first
                            | (go_split_ands; go_at_call 23; refine (match_Find_c m ka kc l (some ⟨lb, lo, none⟩) lc y ya yc _ (HGV.out.below (by assumption)) (HKV.out.below (by assumption)) HM.out (HLV.out.below (by assumption)) HA.out.2.1 (HFYV.out.below (by assumption)) HGY.out HA.out.2.2 (Nat.le_trans HA.out.1 (by decide))).mono ?_; rintro e wx ⟨v1, rfl, ho1, hbx⟩; obtain ⟨a1, c1, rfl, hi1⟩ := ho1.ia; have HI1 := Lib.hid hi1; clear ho1 hi1)
                            | (go_split_ands; go_at_call 28; refine (m_foundB_c (Mt.find m l y) x.id a1 c1 _ HI1.out _ HF2.out).mono ?_; rintro e wx ⟨rfl, hbx⟩)
                            | (go_split_ands; go_at_call 19; first | ((with_reducible refine (HSxy.out _ (by assumption)).mono ?_); rintro e wx ⟨rfl, hbx⟩) | ((with_reducible refine (HSyx.out _ (by assumption)).mono ?_); rintro e wx ⟨rfl, hbx⟩)))
                        all_goals (
                          go_split_ands
                          replace hbK : Below V.heap.size V wx := by assumption
                          replace m0 : wx.cell? ⟨w.heap.size, 0, none⟩ = some (.slice ka m.keys.length kc) := by assumption
                          replace m1 : wx.cell? ⟨w.heap.size, 1, none⟩ = some (.int .i64 m.need) := by assumption
                          replace x0 : wx.cell? ⟨gx, 0, none⟩ = some (.int .i64 x.id) := by assumption
                          replace x1 : wx.cell? ⟨gx, 1, none⟩ = some (.int .i64 x.ver) := by assumption
                          replace x2 : wx.cell? ⟨gx, 2, none⟩ = some (.int .i64 x.kind) := by assumption
                          replace x3 : wx.cell? ⟨gx, 3, none⟩ = some (.string x.lang) := by assumption
                          replace x4 : wx.cell? ⟨gx, 4, none⟩ = some (.slice xa x.fields.length xc) := by assumption
                          replace y0 : wx.cell? ⟨gy, 0, none⟩ = some (.int .i64 y.id) := by assumption
                          replace y1 : wx.cell? ⟨gy, 1, none⟩ = some (.int .i64 y.ver) := by assumption
                          replace y2 : wx.cell? ⟨gy, 2, none⟩ = some (.int .i64 y.kind) := by assumption
                          replace y3 : wx.cell? ⟨gy, 3, none⟩ = some (.string y.lang) := by assumption
                          replace y4 : wx.cell? ⟨gy, 4, none⟩ = some (.slice ya y.fields.length yc) := by assumption
                          go_wp2
                          go_roundw
                          case rel => exact ⟨k + 1, hlk, by go_num, by rw [HCI.out, HPB.out]; simp; omega, Tx.step HBV.out hbK⟩
                          case measure => simp [intOf]; omega)))
                  · have HPB : Hid (Mt.pairB m x y = false) := Lib.hid (by unfold Mt.pairB; rw [HSC.out, decide_eq_false hB, Bool.and_false])
                    have HF1 : Hid (decide (y.id ∈ Mt.find m l x) = false) := Lib.hid (by rw [Mt.find_mem m HA.out.2.2 (List.mem_of_getElem? HY.out) x (by have := HXY.out; omega), HSD.out, decide_eq_false hB])
                    have HF2 : Hid (decide (x.id ∈ Mt.find m l y) = false) := Lib.hid (by rw [Mt.find_mem m HA.out.2.2 (List.mem_of_getElem? HX.out) y (by have := HXY.out; omega), HSC.out, decide_eq_false hB])
                    have hBd : decide (s ≥ m.need) = false := decide_eq_false hB
                    clear hB hxy
                    go_wp2
                    go_region_held3 (fun w' => Below V.heap.size V w' ∧ w'.cell? ⟨w.heap.size, 0, none⟩ = some (.slice ka m.keys.length kc) ∧ w'.cell? ⟨w.heap.size, 1, none⟩ = some (.int .i64 m.need) ∧ w'.cell? ⟨gx, 0, none⟩ = some (.int .i64 x.id) ∧ w'.cell? ⟨gx, 1, none⟩ = some (.int .i64 x.ver) ∧ w'.cell? ⟨gx, 2, none⟩ = some (.int .i64 x.kind) ∧ w'.cell? ⟨gx, 3, none⟩ = some (.string x.lang) ∧ w'.cell? ⟨gx, 4, none⟩ = some (.slice xa x.fields.length xc) ∧ w'.cell? ⟨gy, 0, none⟩ = some (.int .i64 y.id) ∧ w'.cell? ⟨gy, 1, none⟩ = some (.int .i64 y.ver) ∧ w'.cell? ⟨gy, 2, none⟩ = some (.int .i64 y.kind) ∧ w'.cell? ⟨gy, 3, none⟩ = some (.string y.lang) ∧ w'.cell? ⟨gy, 4, none⟩ = some (.slice ya y.fields.length yc))
                      (first | exact ⟨hbK.drew, m0, m1, x0, x1, x2, x3, x4, y0, y1, y2, y3, y4⟩ | (go_split_ands; exact ⟨Tx.step (by assumption) hbx, cell_later hbx (by assumption), cell_later hbx (by assumption), cell_later hbx (by assumption), cell_later hbx (by assumption), cell_later hbx (by assumption), cell_later hbx (by assumption), cell_later hbx (by assumption), cell_later hbx (by assumption), cell_later hbx (by assumption), cell_later hbx (by assumption), cell_later hbx (by assumption), cell_later hbx (by assumption)⟩))
                      (first
                        | (go_split_ands; go_at_call 19; first | ((with_reducible refine (HSxy.out _ (by assumption)).mono ?_); rintro e wx ⟨rfl, hbx⟩) | ((with_reducible refine (HSyx.out _ (by assumption)).mono ?_); rintro e wx ⟨rfl, hbx⟩)))
                    all_goals (
                      go_split_ands
                      replace hbK : Below V.heap.size V wx := by assumption
                      replace m0 : wx.cell? ⟨w.heap.size, 0, none⟩ = some (.slice ka m.keys.length kc) := by assumption
                      replace m1 : wx.cell? ⟨w.heap.size, 1, none⟩ = some (.int .i64 m.need) := by assumption
                      replace x0 : wx.cell? ⟨gx, 0, none⟩ = some (.int .i64 x.id) := by assumption
                      replace x1 : wx.cell? ⟨gx, 1, none⟩ = some (.int .i64 x.ver) := by assumption
                      replace x2 : wx.cell? ⟨gx, 2, none⟩ = some (.int .i64 x.kind) := by assumption
                      replace x3 : wx.cell? ⟨gx, 3, none⟩ = some (.string x.lang) := by assumption
                      replace x4 : wx.cell? ⟨gx, 4, none⟩ = some (.slice xa x.fields.length xc) := by assumption
                      replace y0 : wx.cell? ⟨gy, 0, none⟩ = some (.int .i64 y.id) := by assumption
                      replace y1 : wx.cell? ⟨gy, 1, none⟩ = some (.int .i64 y.ver) := by assumption
                      replace y2 : wx.cell? ⟨gy, 2, none⟩ = some (.int .i64 y.kind) := by assumption
                      replace y3 : wx.cell? ⟨gy, 3, none⟩ = some (.string y.lang) := by assumption
                      replace y4 : wx.cell? ⟨gy, 4, none⟩ = some (.slice ya y.fields.length yc) := by assumption
                      go_wp2
                      go_region_held3 (fun w' => Below V.heap.size V w' ∧ w'.cell? ⟨w.heap.size, 0, none⟩ = some (.slice ka m.keys.length kc) ∧ w'.cell? ⟨w.heap.size, 1, none⟩ = some (.int .i64 m.need) ∧ w'.cell? ⟨gx, 0, none⟩ = some (.int .i64 x.id) ∧ w'.cell? ⟨gx, 1, none⟩ = some (.int .i64 x.ver) ∧ w'.cell? ⟨gx, 2, none⟩ = some (.int .i64 x.kind) ∧ w'.cell? ⟨gx, 3, none⟩ = some (.string x.lang) ∧ w'.cell? ⟨gx, 4, none⟩ = some (.slice xa x.fields.length xc) ∧ w'.cell? ⟨gy, 0, none⟩ = some (.int .i64 y.id) ∧ w'.cell? ⟨gy, 1, none⟩ = some (.int .i64 y.ver) ∧ w'.cell? ⟨gy, 2, none⟩ = some (.int .i64 y.kind) ∧ w'.cell? ⟨gy, 3, none⟩ = some (.string y.lang) ∧ w'.cell? ⟨gy, 4, none⟩ = some (.slice ya y.fields.length yc))
                        (first | exact ⟨hbK.drew, m0, m1, x0, x1, x2, x3, x4, y0, y1, y2, y3, y4⟩ | (go_split_ands; exact ⟨Tx.step (by assumption) hbx, cell_later hbx (by assumption), cell_later hbx (by assumption), cell_later hbx (by assumption), cell_later hbx (by assumption), cell_later hbx (by assumption), cell_later hbx (by assumption), cell_later hbx (by assumption), cell_later hbx (by assumption), cell_later hbx (by assumption), cell_later hbx (by assumption), cell_later hbx (by assumption), cell_later hbx (by assumption)⟩))
                        (first
                          | (go_split_ands; go_at_call 23; refine (match_Find_c m ka kc l (some ⟨lb, lo, none⟩) lc x xa xc _ (HGV.out.below (by assumption)) (HKV.out.below (by assumption)) HM.out (HLV.out.below (by assumption)) HA.out.2.1 (HFXV.out.below (by assumption)) HGX.out HA.out.2.2 (Nat.le_trans HA.out.1 (by decide))).mono ?_; rintro e wx ⟨v1, rfl, ho1, hbx⟩; obtain ⟨a1, c1, rfl, hi1⟩ := ho1.ia; have HI1 := Lib.hid hi1; clear ho1 hi1)
                          | (go_split_ands; go_at_call 28; refine (m_foundB_c (Mt.find m l x) y.id a1 c1 _ HI1.out _ HF1.out).mono ?_; rintro e wx ⟨rfl, hbx⟩))
                      all_goals (
                        go_split_ands
                        replace hbK : Below V.heap.size V wx := by assumption
                        replace m0 : wx.cell? ⟨w.heap.size, 0, none⟩ = some (.slice ka m.keys.length kc) := by assumption
                        replace m1 : wx.cell? ⟨w.heap.size, 1, none⟩ = some (.int .i64 m.need) := by assumption
                        replace x0 : wx.cell? ⟨gx, 0, none⟩ = some (.int .i64 x.id) := by assumption
                        replace x1 : wx.cell? ⟨gx, 1, none⟩ = some (.int .i64 x.ver) := by assumption
                        replace x2 : wx.cell? ⟨gx, 2, none⟩ = some (.int .i64 x.kind) := by assumption
                        replace x3 : wx.cell? ⟨gx, 3, none⟩ = some (.string x.lang) := by assumption
                        replace x4 : wx.cell? ⟨gx, 4, none⟩ = some (.slice xa x.fields.length xc) := by assumption
                        replace y0 : wx.cell? ⟨gy, 0, none⟩ = some (.int .i64 y.id) := by assumption
                        replace y1 : wx.cell? ⟨gy, 1, none⟩ = some (.int .i64 y.ver) := by assumption
                        replace y2 : wx.cell? ⟨gy, 2, none⟩ = some (.int .i64 y.kind) := by assumption
                        replace y3 : wx.cell? ⟨gy, 3, none⟩ = some (.string y.lang) := by assumption
                        replace y4 : wx.cell? ⟨gy, 4, none⟩ = some (.slice ya y.fields.length yc) := by assumption
                        go_wp2
                        go_region_held3 (fun w' => Below V.heap.size V w' ∧ w'.cell? ⟨w.heap.size, 0, none⟩ = some (.slice ka m.keys.length kc) ∧ w'.cell? ⟨w.heap.size, 1, none⟩ = some (.int .i64 m.need) ∧ w'.cell? ⟨gx, 0, none⟩ = some (.int .i64 x.id) ∧ w'.cell? ⟨gx, 1, none⟩ = some (.int .i64 x.ver) ∧ w'.cell? ⟨gx, 2, none⟩ = some (.int .i64 x.kind) ∧ w'.cell? ⟨gx, 3, none⟩ = some (.string x.lang) ∧ w'.cell? ⟨gx, 4, none⟩ = some (.slice xa x.fields.length xc) ∧ w'.cell? ⟨gy, 0, none⟩ = some (.int .i64 y.id) ∧ w'.cell? ⟨gy, 1, none⟩ = some (.int .i64 y.ver) ∧ w'.cell? ⟨gy, 2, none⟩ = some (.int .i64 y.kind) ∧ w'.cell? ⟨gy, 3, none⟩ = some (.string y.lang) ∧ w'.cell? ⟨gy, 4, none⟩ = some (.slice ya y.fields.length yc))
                          (first | exact ⟨hbK.drew, m0, m1, x0, x1, x2, x3, x4, y0, y1, y2, y3, y4⟩ | (go_split_ands; exact ⟨Tx.step (by assumption) hbx, cell_later hbx (by assumption), cell_later hbx (by assumption), cell_later hbx (by assumption), cell_later hbx (by assumption), cell_later hbx (by assumption), cell_later hbx (by assumption), cell_later hbx (by assumption), cell_later hbx (by assumption), cell_later hbx (by assumption), cell_later hbx (by assumption), cell_later hbx (by assumption), cell_later hbx (by assumption)⟩))
                          (first
                            | (go_split_ands; go_at_call 23; refine (match_Find_c m ka kc l (some ⟨lb, lo, none⟩) lc y ya yc _ (HGV.out.below (by assumption)) (HKV.out.below (by assumption)) HM.out (HLV.out.below (by assumption)) HA.out.2.1 (HFYV.out.below (by assumption)) HGY.out HA.out.2.2 (Nat.le_trans HA.out.1 (by decide))).mono ?_; rintro e wx ⟨v1, rfl, ho1, hbx⟩; obtain ⟨a1, c1, rfl, hi1⟩ := ho1.ia; have HI1 := Lib.hid hi1; clear ho1 hi1)
                            | (go_split_ands; go_at_call 28; refine (m_foundB_c (Mt.find m l y) x.id a1 c1 _ HI1.out _ HF2.out).mono ?_; rintro e wx ⟨rfl, hbx⟩)
                            | (go_split_ands; go_at_call 19; first | ((with_reducible refine (HSxy.out _ (by assumption)).mono ?_); rintro e wx ⟨rfl, hbx⟩) | ((with_reducible refine (HSyx.out _ (by assumption)).mono ?_); rintro e wx ⟨rfl, hbx⟩)))
                        all_goals (
                          go_split_ands
                          replace hbK : Below V.heap.size V wx := by assumption
                          replace m0 : wx.cell? ⟨w.heap.size, 0, none⟩ = some (.slice ka m.keys.length kc) := by assumption
                          replace m1 : wx.cell? ⟨w.heap.size, 1, none⟩ = some (.int .i64 m.need) := by assumption
                          replace x0 : wx.cell? ⟨gx, 0, none⟩ = some (.int .i64 x.id) := by assumption
                          replace x1 : wx.cell? ⟨gx, 1, none⟩ = some (.int .i64 x.ver) := by assumption
                          replace x2 : wx.cell? ⟨gx, 2, none⟩ = some (.int .i64 x.kind) := by assumption
                          replace x3 : wx.cell? ⟨gx, 3, none⟩ = some (.string x.lang) := by assumption
                          replace x4 : wx.cell? ⟨gx, 4, none⟩ = some (.slice xa x.fields.length xc) := by assumption
                          replace y0 : wx.cell? ⟨gy, 0, none⟩ = some (.int .i64 y.id) := by assumption
                          replace y1 : wx.cell? ⟨gy, 1, none⟩ = some (.int .i64 y.ver) := by assumption
                          replace y2 : wx.cell? ⟨gy, 2, none⟩ = some (.int .i64 y.kind) := by assumption
                          replace y3 : wx.cell? ⟨gy, 3, none⟩ = some (.string y.lang) := by assumption
                          replace y4 : wx.cell? ⟨gy, 4, none⟩ = some (.slice ya y.fields.length yc) := by assumption
                          go_wp2
                          go_roundw
                          case rel => exact ⟨k + 1, hlk, by go_num, by rw [HCI.out, HPB.out]; rfl, Tx.step HBV.out hbK⟩
                          case measure => simp [intOf]; omega)))
                · have HPB : Hid (Mt.pairB m x y = false) := Lib.hid (by unfold Mt.pairB; rw [decide_eq_false hxy, Bool.false_and])
                  have hge : x.id ≥ y.id := by omega
                  clear hxy
                  go_wp2
                  go_region_held3 (fun w' => Below V.heap.size V w' ∧ w'.cell? ⟨w.heap.size, 0, none⟩ = some (.slice ka m.keys.length kc) ∧ w'.cell? ⟨w.heap.size, 1, none⟩ = some (.int .i64 m.need) ∧ w'.cell? ⟨gx, 0, none⟩ = some (.int .i64 x.id) ∧ w'.cell? ⟨gx, 1, none⟩ = some (.int .i64 x.ver) ∧ w'.cell? ⟨gx, 2, none⟩ = some (.int .i64 x.kind) ∧ w'.cell? ⟨gx, 3, none⟩ = some (.string x.lang) ∧ w'.cell? ⟨gx, 4, none⟩ = some (.slice xa x.fields.length xc) ∧ w'.cell? ⟨gy, 0, none⟩ = some (.int .i64 y.id) ∧ w'.cell? ⟨gy, 1, none⟩ = some (.int .i64 y.ver) ∧ w'.cell? ⟨gy, 2, none⟩ = some (.int .i64 y.kind) ∧ w'.cell? ⟨gy, 3, none⟩ = some (.string y.lang) ∧ w'.cell? ⟨gy, 4, none⟩ = some (.slice ya y.fields.length yc))
                    (first | exact ⟨hbK.drew, m0, m1, x0, x1, x2, x3, x4, y0, y1, y2, y3, y4⟩ | (go_split_ands; exact ⟨Tx.step (by assumption) hbx, cell_later hbx (by assumption), cell_later hbx (by assumption), cell_later hbx (by assumption), cell_later hbx (by assumption), cell_later hbx (by assumption), cell_later hbx (by assumption), cell_later hbx (by assumption), cell_later hbx (by assumption), cell_later hbx (by assumption), cell_later hbx (by assumption), cell_later hbx (by assumption), cell_later hbx (by assumption)⟩))
                    (first
                      | (go_split_ands; go_at_call 19; first | ((with_reducible refine (HSxy.out _ (by assumption)).mono ?_); rintro e wx ⟨rfl, hbx⟩) | ((with_reducible refine (HSyx.out _ (by assumption)).mono ?_); rintro e wx ⟨rfl, hbx⟩)))
                  all_goals (
                    go_split_ands
                    replace hbK : Below V.heap.size V wx := by assumption
                    replace m0 : wx.cell? ⟨w.heap.size, 0, none⟩ = some (.slice ka m.keys.length kc) := by assumption
                    replace m1 : wx.cell? ⟨w.heap.size, 1, none⟩ = some (.int .i64 m.need) := by assumption
                    replace x0 : wx.cell? ⟨gx, 0, none⟩ = some (.int .i64 x.id) := by assumption
                    replace x1 : wx.cell? ⟨gx, 1, none⟩ = some (.int .i64 x.ver) := by assumption
                    replace x2 : wx.cell? ⟨gx, 2, none⟩ = some (.int .i64 x.kind) := by assumption
                    replace x3 : wx.cell? ⟨gx, 3, none⟩ = some (.string x.lang) := by assumption
                    replace x4 : wx.cell? ⟨gx, 4, none⟩ = some (.slice xa x.fields.length xc) := by assumption
                    replace y0 : wx.cell? ⟨gy, 0, none⟩ = some (.int .i64 y.id) := by assumption
                    replace y1 : wx.cell? ⟨gy, 1, none⟩ = some (.int .i64 y.ver) := by assumption
                    replace y2 : wx.cell? ⟨gy, 2, none⟩ = some (.int .i64 y.kind) := by assumption
                    replace y3 : wx.cell? ⟨gy, 3, none⟩ = some (.string y.lang) := by assumption
                    replace y4 : wx.cell? ⟨gy, 4, none⟩ = some (.slice ya y.fields.length yc) := by assumption
                    go_wp2
                    go_roundw
                    case rel => exact ⟨k + 1, hlk, by go_num, by rw [HCI.out, HPB.out]; rfl, Tx.step HBV.out hbK⟩
                    case measure => simp [intOf]; omega)
            · obtain rfl : k = l.length := by omega
              go_wp2
              go_roundw
              case rel => exact ⟨i + 1, hlt, by go_num, by rw [HCO.out], hb⟩
              case measure => simp [intOf]; omega
        · obtain rfl : i = l.length := by omega
          go_wp2
          go_ret
          exact ⟨by simp, Tx.step HB4.out HBo.out⟩
  · obtain ⟨n, hn⟩ : ∃ n, Mt.ruleE m = n := ⟨_, rfl⟩
    have hne : (n != 0) = true := by rw [← hn]; simpa using hz
    have HE := Lib.hid hn; clear hn hz
    go_enter Tryz.func8, Tryz.ntmps8
    go_wp2_with (first
      | (go_at_call 9; refine (m_alive_c _ HGW.out).mono ?_; rintro e w1 ⟨rfl, hb1⟩; clear hW; have HB1 := Lib.hid (Tx.step HB.out hb1); have HG1 := Lib.hid (HGW.out.below hb1); have HK1 := Lib.hid (HKW.out.below hb1); have HL1 := Lib.hid (HLW.out.below hb1); replace m0 := cell_later hb1 m0; replace m1 := cell_later hb1 m1; clear hb1)
      | (go_at_call 11; refine (r15_Right_c m ka kc _ HK1.out).mono ?_; rintro e w2 ⟨rfl, hb2⟩; rw [HE.out]; replace m0 := cell_later hb2 m0; replace m1 := cell_later hb2 m1))
    go_ret
    exact ⟨rfl, Tx.step HB1.out hb2⟩
end Go.Proofs.YtogpghpgnpoioaaGreatDoor
