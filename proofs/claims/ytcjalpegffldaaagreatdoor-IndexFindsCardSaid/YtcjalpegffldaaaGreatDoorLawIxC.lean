/- Layer 20: the law IndexFinds: what its call returns. -/
import Derived.Test.YtcjalpegffldaaaGreatDoorLawIxA
namespace Go.Proofs.YtcjalpegffldaaaGreatDoor
open Go.RowKit
set_option maxRecDepth 100000

set_option maxHeartbeats 6400000 in
theorem finds_law (T : List Ix.PT) (a : Option Addr) (c : Nat) (f : Int) (ws : List Ix.By) (wa : Option Addr) (wc : Nat) (w : World) (hG : G w) (h : Ix.PsA w a c T) (hS : SLA w wa wc (ws.map fun x => (⟨x.toArray⟩ : ByteArray))) (hT : ∀ t ∈ T, (∀ n ∈ t.1.at_, -9223372036854775808 ≤ n ∧ n ≤ 9223372036854775807) ∧ (-9223372036854775808 ≤ t.1.id ∧ t.1.id ≤ 9223372036854775807)) :
    Calls Tryz.prog 5 #[.agg #[.slice a T.length c], .int .i64 f, .slice wa ws.length wc] w fun e w' => e = .returned (.bool true) ∧ Below w.heap.size w w' := by
  obtain ⟨W, hW⟩ : ∃ W, w.alloc (.cells #[.slice a T.length c] 34) = W := ⟨_, rfl⟩
  have hB : Below w.heap.size w W := by rw [← hW]; exact Tx.newb _ _
  have c0 : W.cell? ⟨w.heap.size, 0, none⟩ = some (.slice a T.length c) := by rw [← hW]; simp
  have hcap := hS.cap
  rw [List.length_map] at hcap
  have HG := Lib.hid (hG.below hB)
  have HP := Lib.hid (h.below hB)
  have HS := Lib.hid (hS.below hB)
  have HT := Lib.hid hT
  have HB := Lib.hid hB
  clear hG h hS hT
  cases q1 : Ix.rawB T with
  | false =>
    have HV1 := Lib.hid q1; clear q1
    go_enter Tryz.func5, Tryz.ntmps5
    go_wp2_with (first
      | (go_at_call 9; refine (lx_alive_c _ HG.out).mono ?_; rintro e w1 ⟨rfl, hb1⟩; clear hW; have x0 := cell_later hb1 c0)
      | (go_at_call 15; refine (lx_raw_c T a c _ (HP.out.below hb1)).mono ?_; rintro e w2 ⟨rfl, hb2⟩; rw [HV1.out]; have hb12 := Tx.step hb1 hb2; have y0 := cell_later hb12 c0; clear x0))
    go_ret
    exact ⟨rfl, Tx.step HB.out (Tx.step hb1 hb2)⟩
  | true =>
    have HN : Hid (T.length ≤ 40) := Lib.hid (Ix.raw_of q1).1
    have HRW := Lib.hid (Ix.raw_of q1).2
    have HV1 := Lib.hid q1; clear q1
    cases q2 : Ix.right (T.map (·.1)) with
    | false =>
      have HV2 := Lib.hid q2; clear q2
      go_enter Tryz.func5, Tryz.ntmps5
      go_wp2_with (first
        | (go_at_call 9; refine (lx_alive_c _ HG.out).mono ?_; rintro e w1 ⟨rfl, hb1⟩; clear hW; have x0 := cell_later hb1 c0)
        | (go_at_call 15; refine (lx_raw_c T a c _ (HP.out.below hb1)).mono ?_; rintro e w2 ⟨rfl, hb2⟩; rw [HV1.out]; have hb12 := Tx.step hb1 hb2; have y0 := cell_later hb12 c0; clear x0)
        | (go_at_call 20; refine (r20_Right_c T a c _ (HP.out.below hb12) (by have := HN.out; omega)).mono ?_; rintro e w3 ⟨rfl, hb3⟩; rw [HV2.out]; have HB13 := Lib.hid (Tx.step hb12 hb3); clear y0))
      go_ret
      exact ⟨rfl, Tx.step HB.out (HB13.out)⟩
    | true =>
      have HAS := Lib.hid (Ix.right_asc q2)
      have HAT : Hid (∀ t ∈ T, ∀ n ∈ t.1.at_, 0 ≤ n ∧ n ≤ 9223372036854775807) := Lib.hid (fun t ht n hn => ⟨Ix.right_at q2 _ (List.mem_map_of_mem ht) n hn, ((HT.out t ht).1 n hn).2⟩)
      have HV2 := Lib.hid q2; clear q2
      by_cases hl : ws.length ≤ 10
      · have hl1 : ¬ (10 : Int) < (ws.length : Int) := by omega
        have hl2 : decide ((10 : Int) < (ws.length : Int)) = false := decide_eq_false hl1
        go_enter Tryz.func5, Tryz.ntmps5
        go_wp2_with (first
          | (go_at_call 9; refine (lx_alive_c _ HG.out).mono ?_; rintro e w1 ⟨rfl, hb1⟩; clear hW; have x0 := cell_later hb1 c0)
          | (go_at_call 15; refine (lx_raw_c T a c _ (HP.out.below hb1)).mono ?_; rintro e w2 ⟨rfl, hb2⟩; rw [HV1.out]; have hb12 := Tx.step hb1 hb2; have y0 := cell_later hb12 c0; clear x0)
          | (go_at_call 20; refine (r20_Right_c T a c _ (HP.out.below hb12) (by have := HN.out; omega)).mono ?_; rintro e w3 ⟨rfl, hb3⟩; rw [HV2.out]; have HB13 := Lib.hid (Tx.step hb12 hb3); clear y0))
        clear hl1 hl2
        go_loopw [7] (fun i wr => ∃ (k : Nat), k ≤ ws.length ∧ i = .int .i64 k ∧ Hid (∀ s ∈ ws.take k, s.length ≤ 100) ∧ Below w3.heap.size w3 wr) (fun i _ => ws.length - (intOf i).toNat)
        case atStart => exact ⟨0, Nat.zero_le _, by go_num, Lib.hid (fun r hr => by simp at hr), Below.refl _ _⟩
        case round =>
          obtain ⟨k, hk, rfl, HA, hb⟩ := hrel
          have HB9 := Lib.hid (Tx.step HB13.out hb)
          have x0 := cell_later HB9.out c0
          by_cases hlt : k < ws.length
          · obtain ⟨s, hs⟩ : ∃ s, ws[k]? = some s := ⟨_, List.getElem?_eq_getElem hlt⟩
            have HSR := Lib.hid (HS.out.below HB9.out)
            obtain ⟨b, o, rfl, hbl, g0⟩ := HSR.out.get (k := k) (x := ⟨s.toArray⟩) (by rw [List.getElem?_map, hs]; rfl)
            have HSK := Lib.hid hs
            clear hs c0
            by_cases hq : s.length ≤ 100
            · have hq1 : ¬ (100 : Int) < (s.length : Int) := by omega
              have hq2 : decide ((100 : Int) < (s.length : Int)) = false := decide_eq_false hq1
              have HQ := Lib.hid hq
              clear hq
              go_wp2
              go_region_held3 (fun w' => Below wr.heap.size wr w' ∧ w'.cell? ⟨w.heap.size, 0, none⟩ = some (.slice a T.length c) ∧ w'.cell? ⟨b, o + k, none⟩ = some (.string ⟨s.toArray⟩))
                (first | exact ⟨(Below.refl _ _).drew, x0, g0⟩ | (go_split_ands; exact ⟨Tx.step (by assumption) hbx, cell_later hbx (by assumption), cell_later hbx (by assumption)⟩))
                (first
                | (go_split_ands; go_at_call 21; have CT := Ints_c L L a1 a2 c1 c2 _ HI1.out HI2.out; rw [decide_eq_true rfl] at CT; refine CT.mono ?_; rintro e wx ⟨rfl, hbx⟩; clear HI1 HI2 CT)
                | (go_split_ands; go_at_call 25; have _q := HL0; refine (r20_Prefix_c T a c f s _ (HP.out.below (Tx.step HB9.out (by assumption))) (by have := HN.out; omega) (fun t ht => Nat.le_trans (HRW.out t ht).1 (by decide))).mono ?_; rintro e wx ⟨v2, rfl, hown2, hbx⟩; rw [HL0.out] at hown2; obtain ⟨a2, c2, rfl, hi2, _⟩ := Ix.IA.of_own hown2 rfl; have HI1 := Lib.hid (HI0.out.below hbx); have HI2 := Lib.hid hi2; clear hi2 hown2 HI0 HL0 _q)
                | (go_split_ands; go_at_call 24; refine (ix_Prefix_c T a c f s _ (HP.out.below (Tx.step HB9.out (by assumption))) (by have := HN.out; omega)).mono ?_; rintro e wx ⟨v1, rfl, hown1, hbx⟩; obtain ⟨L, hL⟩ : ∃ L, Cp.puts Cp.ltI (Ix.idsT (Ix.prefP f s) T) = L := ⟨_, rfl⟩; rw [hL] at hown1; obtain ⟨a1, c1, rfl, hi1, _⟩ := Ix.IA.of_own hown1 rfl; have HI0 := Lib.hid hi1; have HL0 := Lib.hid hL; clear hi1 hown1 hL)
                | (go_split_ands; go_at_call 23; have _q := HL0; refine (r20_Word_c T a c f s _ (HP.out.below (Tx.step HB9.out (by assumption))) (by have := HN.out; omega)).mono ?_; rintro e wx ⟨v2, rfl, hown2, hbx⟩; rw [HL0.out] at hown2; obtain ⟨a2, c2, rfl, hi2, _⟩ := Ix.IA.of_own hown2 rfl; have HI1 := Lib.hid (HI0.out.below hbx); have HI2 := Lib.hid hi2; clear hi2 hown2 HI0 HL0 _q)
                | (go_split_ands; go_at_call 22; refine (ix_Word_c T a c f s _ (HP.out.below (Tx.step HB9.out (by assumption))) (by have := HN.out; omega)).mono ?_; rintro e wx ⟨v1, rfl, hown1, hbx⟩; obtain ⟨L, hL⟩ : ∃ L, Cp.puts Cp.ltI (Ix.idsT (Ix.wordP f s) T) = L := ⟨_, rfl⟩; rw [hL] at hown1; obtain ⟨a1, c1, rfl, hi1, _⟩ := Ix.IA.of_own hown1 rfl; have HI0 := Lib.hid hi1; have HL0 := Lib.hid hL; clear hi1 hown1 hL))
              all_goals
                go_split_ands
                have hb9 : Below wr.heap.size wr wx := by assumption
                go_wp2
                go_roundw
                case rel => exact ⟨k + 1, hlt, by go_num, Lib.hid (fun q hq => by
                  rw [Ix.take_snoc HSK.out] at hq
                  rcases List.mem_append.1 hq with hq | hq
                  · exact HA.out q hq
                  · rw [List.mem_singleton] at hq; rw [hq]; exact HQ.out), Tx.step hb hb9⟩
                case measure => simp [intOf]; omega
            · have hq1 : (100 : Int) < (s.length : Int) := by omega
              have hq2 : decide ((100 : Int) < (s.length : Int)) = true := decide_eq_true hq1
              clear hq
              go_wp2
              go_quiet (fail)
              all_goals go_wp2
              all_goals go_ret
              all_goals exact ⟨rfl, Tx.step HB.out (Tx.below_drewN HB9.out _)⟩
          · obtain rfl : k = ws.length := by omega
            have h9 := HA.out
            rw [List.take_length] at h9
            have HZ := Lib.hid h9
            have HPH : Hid (Cp.puts Cp.ltI (Ix.phrQ T f ws) = Ix.phrase (T.map (·.1)) f ws) := Lib.hid (Ix.phr_same HAS.out HAT.out f ws (by omega))
            have HLW : Hid (ws.length ≤ 1000) := Lib.hid (by omega)
            clear h9 HA c0
            go_wp2
            go_region_held3 (fun w' => Below wr.heap.size wr w' ∧ w'.cell? ⟨w.heap.size, 0, none⟩ = some (.slice a T.length c))
              (first | exact ⟨(Below.refl _ _).drew, x0⟩ | (go_split_ands; exact ⟨Tx.step (by assumption) hbx, cell_later hbx (by assumption)⟩))
              (first
                | (go_split_ands; go_at_call 21; have CT := Ints_c L L a1 a2 c1 c2 _ HI1.out HI2.out; rw [decide_eq_true rfl] at CT; refine CT.mono ?_; rintro e wx ⟨rfl, hbx⟩; clear HI1 HI2 CT)
                | (go_split_ands; go_at_call 27; have _q := HL0; refine (r20_Phrase_c T a c f ws wa wc _ (HP.out.below (Tx.step HB9.out (by assumption))) (by have := HN.out; omega) (fun t ht => Nat.le_trans (HRW.out t ht).2 (by decide)) (HS.out.below (Tx.step HB9.out (by assumption)))).mono ?_; rintro e wx ⟨v2, rfl, hown2, hbx⟩; rw [← HPH.out, HL0.out] at hown2; obtain ⟨a2, c2, rfl, hi2, _⟩ := Ix.IA.of_own hown2 rfl; have HI1 := Lib.hid (HI0.out.below hbx); have HI2 := Lib.hid hi2; clear hi2 hown2 HI0 HL0 _q)
                | (go_split_ands; go_at_call 26; refine (ix_Phrase_c T a c f ws wa wc _ (HP.out.below (Tx.step HB9.out (by assumption))) (by have := HN.out; omega) (HS.out.below (Tx.step HB9.out (by assumption))) HLW.out (fun s hs => Nat.le_trans (HZ.out s hs) (by decide)) (fun t ht => Nat.le_trans (HRW.out t ht).1 (by decide)) (fun t ht => (HT.out t ht).2)).mono ?_; rintro e wx ⟨v1, rfl, hown1, hbx⟩; obtain ⟨L, hL⟩ : ∃ L, Cp.puts Cp.ltI (Ix.phrQ T f ws) = L := ⟨_, rfl⟩; rw [hL] at hown1; obtain ⟨a1, c1, rfl, hi1, _⟩ := Ix.IA.of_own hown1 rfl; have HI0 := Lib.hid hi1; have HL0 := Lib.hid hL; clear hi1 hown1 hL))
            all_goals
              go_split_ands
              have hb9 : Below wr.heap.size wr wx := by assumption
              go_wp2
              go_ret
              exact ⟨Tx.retb (by simp), Tx.step HB.out (Tx.step HB9.out hb9)⟩
      · have hl1 : (10 : Int) < (ws.length : Int) := by omega
        have hl2 : decide ((10 : Int) < (ws.length : Int)) = true := decide_eq_true hl1
        clear hl
        go_enter Tryz.func5, Tryz.ntmps5
        go_wp2_with (first
          | (go_at_call 9; refine (lx_alive_c _ HG.out).mono ?_; rintro e w1 ⟨rfl, hb1⟩; clear hW; have x0 := cell_later hb1 c0)
          | (go_at_call 15; refine (lx_raw_c T a c _ (HP.out.below hb1)).mono ?_; rintro e w2 ⟨rfl, hb2⟩; rw [HV1.out]; have hb12 := Tx.step hb1 hb2; have y0 := cell_later hb12 c0; clear x0)
          | (go_at_call 20; refine (r20_Right_c T a c _ (HP.out.below hb12) (by have := HN.out; omega)).mono ?_; rintro e w3 ⟨rfl, hb3⟩; rw [HV2.out]; have HB13 := Lib.hid (Tx.step hb12 hb3); clear y0))
        go_ret
        exact ⟨rfl, Tx.step HB.out (HB13.out)⟩

theorem sla_by {w : World} {a : Option Addr} {c : Nat} {xs : List ByteArray} (h : SLA w a c xs) : SLA w a c ((xs.map (·.data.toList)).map fun x => (⟨x.toArray⟩ : ByteArray)) := by
  have e : (xs.map (·.data.toList)).map (fun x => (⟨x.toArray⟩ : ByteArray)) = xs := by
    rw [List.map_map]
    conv => rhs; rw [← List.map_id xs]
    refine List.map_congr_left fun x _ => ?_
    simp
  rw [e]
  exact h
theorem finds_by (T : List Ix.PT) (a : Option Addr) (c : Nat) (f : Int) (xs : List ByteArray) (wa : Option Addr) (wc : Nat) (w : World) (hG : G w) (h : Ix.PsA w a c T) (hS : SLA w wa wc ((xs.map (·.data.toList)).map fun x => (⟨x.toArray⟩ : ByteArray))) (hT : ∀ t ∈ T, (∀ n ∈ t.1.at_, -9223372036854775808 ≤ n ∧ n ≤ 9223372036854775807) ∧ (-9223372036854775808 ≤ t.1.id ∧ t.1.id ≤ 9223372036854775807)) :
    Calls Tryz.prog 5 #[.agg #[.slice a T.length c], .int .i64 f, .slice wa xs.length wc] w fun e w' => e = .returned (.bool true) ∧ Below w.heap.size w w' := by
  have h9 := finds_law T a c f (xs.map (·.data.toList)) wa wc w hG h hS hT
  rw [List.length_map] at h9
  exact h9
end Go.Proofs.YtcjalpegffldaaaGreatDoor
