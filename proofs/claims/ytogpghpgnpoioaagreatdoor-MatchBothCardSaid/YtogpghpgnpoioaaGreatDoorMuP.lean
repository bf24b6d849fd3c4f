/- Layer 15: the law MatchKeys: what its call returns. -/
import Derived.Test.YtogpghpgnpoioaaGreatDoorMuO
namespace Go.Proofs.YtogpghpgnpoioaaGreatDoor
open Go.RowKit
set_option maxRecDepth 100000

theorem Mt.la_sla {w : World} {b o c : Nat} {L : List Mt.By} (h : Cs.LA Cs.encB w b o c L) : SLA w (some ⟨b, o, none⟩) c (Mt.mks L) := by
  refine ⟨by rw [List.length_map]; exact h.cap, h.max, b, o, fun _ => ⟨rfl, h.lt⟩, fun j x hx => ?_⟩
  rw [List.getElem?_map] at hx
  obtain ⟨y, hy, rfl⟩ := Option.map_eq_some_iff.1 hx
  exact h.at_ j y hy
theorem texts_same_c (L : List Mt.By) (a b : Option Addr) (c d : Nat) (w : World) (hx : SLA w a c (Mt.mks L)) (hy : SLA w b d (Mt.mks L)) :
    Calls Tryz.prog 16 #[.slice a L.length c, .slice b L.length d] w fun e w' => e = .returned (.bool true) ∧ Below w.heap.size w w' := by
  have h := Texts_c (Mt.mks L) (Mt.mks L) a b c d w hx hy
  rw [decide_eq_true rfl, List.length_map] at h
  exact h
set_option maxHeartbeats 3200000 in
theorem keys_law (m : Mt.Rule) (ka : Option Addr) (kc : Nat) (x : Rc.Rd) (xa : Option Addr) (xac : Nat) (w : World) (hG : G w) (hK : Mt.KyA w ka kc m.keys) (hX : Rc.FldA w xa xac x.fields) :
    Calls Tryz.prog 4 #[.agg #[.slice ka m.keys.length kc, .int .i64 m.need], .agg #[.int .i64 x.id, .int .i64 x.ver, .int .i64 x.kind, .string x.lang, .slice xa x.fields.length xac]] w fun e w' => e = .returned (.bool true) ∧ Below w.heap.size w w' := by
  have hml : maxLen = 9223372036854775807 := rfl
  obtain ⟨W, hW⟩ : ∃ W, (w.alloc (.cells #[.slice ka m.keys.length kc, .int .i64 m.need] 24)).alloc (.cells #[.int .i64 x.id, .int .i64 x.ver, .int .i64 x.kind, .string x.lang, .slice xa x.fields.length xac] 33) = W := ⟨_, rfl⟩
  have hB : Below w.heap.size w W := by rw [← hW]; exact (Tx.newb _ _).alloc (Tx.newb w _).size _
  have m0 : W.cell? ⟨w.heap.size, 0, none⟩ = some (.slice ka m.keys.length kc) := by rw [← hW]; simp
  have m1 : W.cell? ⟨w.heap.size, 1, none⟩ = some (.int .i64 m.need) := by rw [← hW]; simp
  have x0 : W.cell? ⟨w.heap.size + 1, 0, none⟩ = some (.int .i64 x.id) := by rw [← hW]; simp
  have x1 : W.cell? ⟨w.heap.size + 1, 1, none⟩ = some (.int .i64 x.ver) := by rw [← hW]; simp
  have x2 : W.cell? ⟨w.heap.size + 1, 2, none⟩ = some (.int .i64 x.kind) := by rw [← hW]; simp
  have x3 : W.cell? ⟨w.heap.size + 1, 3, none⟩ = some (.string x.lang) := by rw [← hW]; simp
  have x4 : W.cell? ⟨w.heap.size + 1, 4, none⟩ = some (.slice xa x.fields.length xac) := by rw [← hW]; simp
  have HB := Lib.hid hB
  have HGW := Lib.hid (hG.below hB)
  have HKW := Lib.hid (hK.below hB)
  have HXW := Lib.hid (hX.below hB)
  have hcap := hK.cap
  have hmax := hK.max
  clear hG hK hB hX
  by_cases hz : Mt.ruleE m = 0
  · have HE := Lib.hid hz; clear hz
    cases hv : Mt.validB x with
    | false =>
      have HV := Lib.hid hv; clear hv
      go_enter Tryz.func4, Tryz.ntmps4
      go_wp2_with (first
        | (go_at_call 9; refine (m_alive_c _ HGW.out).mono ?_; rintro e w1 ⟨rfl, hb1⟩; clear hW; have HB1 := Lib.hid (Tx.step HB.out hb1); have HG := Lib.hid (HGW.out.below hb1); have HK := Lib.hid (HKW.out.below hb1); have HX := Lib.hid (HXW.out.below hb1); replace m0 := cell_later hb1 m0; replace m1 := cell_later hb1 m1; replace x0 := cell_later hb1 x0; replace x1 := cell_later hb1 x1; replace x2 := cell_later hb1 x2; replace x3 := cell_later hb1 x3; replace x4 := cell_later hb1 x4; clear hb1)
        | (go_at_call 11; refine (r15_Right_c m ka kc _ HK.out).mono ?_; rintro e w2 ⟨rfl, hb2⟩; rw [HE.out]; replace m0 := cell_later hb2 m0; replace m1 := cell_later hb2 m1; replace x0 := cell_later hb2 x0; replace x1 := cell_later hb2 x1; replace x2 := cell_later hb2 x2; replace x3 := cell_later hb2 x3; replace x4 := cell_later hb2 x4)
        | (go_at_call 15; refine (m_valid_rd x xa xac _ (HX.out.below hb2)).mono ?_; rintro e w3 ⟨rfl, hb3⟩; rw [HV.out]; replace m0 := cell_later hb3 m0; replace m1 := cell_later hb3 m1; replace x0 := cell_later hb3 x0; replace x1 := cell_later hb3 x1; replace x2 := cell_later hb3 x2; replace x3 := cell_later hb3 x3; replace x4 := cell_later hb3 x4))
      go_ret
      exact ⟨rfl, Tx.step (Tx.step HB1.out hb2) hb3⟩
    | true =>
      have HV := Lib.hid hv; clear hv
      have HM := Lib.hid (Mt.ruleE_good (m := m) HE.out)
      have HGX := Lib.hid (Mt.validB_gf HV.out)
      have hm8 := HM.out.1
      go_enter Tryz.func4, Tryz.ntmps4
      go_wp2_with (first
        | (go_at_call 9; refine (m_alive_c _ HGW.out).mono ?_; rintro e w1 ⟨rfl, hb1⟩; clear hW; have HB1 := Lib.hid (Tx.step HB.out hb1); have HG := Lib.hid (HGW.out.below hb1); have HK := Lib.hid (HKW.out.below hb1); have HX := Lib.hid (HXW.out.below hb1); replace m0 := cell_later hb1 m0; replace m1 := cell_later hb1 m1; replace x0 := cell_later hb1 x0; replace x1 := cell_later hb1 x1; replace x2 := cell_later hb1 x2; replace x3 := cell_later hb1 x3; replace x4 := cell_later hb1 x4; clear hb1)
        | (go_at_call 11; refine (r15_Right_c m ka kc _ HK.out).mono ?_; rintro e w2 ⟨rfl, hb2⟩; rw [HE.out]; replace m0 := cell_later hb2 m0; replace m1 := cell_later hb2 m1; replace x0 := cell_later hb2 x0; replace x1 := cell_later hb2 x1; replace x2 := cell_later hb2 x2; replace x3 := cell_later hb2 x3; replace x4 := cell_later hb2 x4)
        | (go_at_call 15; refine (m_valid_rd x xa xac _ (HX.out.below hb2)).mono ?_; rintro e w3 ⟨rfl, hb3⟩; rw [HV.out]; replace m0 := cell_later hb3 m0; replace m1 := cell_later hb3 m1; replace x0 := cell_later hb3 x0; replace x1 := cell_later hb3 x1; replace x2 := cell_later hb3 x2; replace x3 := cell_later hb3 x3; replace x4 := cell_later hb3 x4; have HB3 := Lib.hid (Tx.step (Tx.step HB1.out hb2) hb3); have HG3 := Lib.hid ((HG.out.below hb2).below hb3); have HK3 := Lib.hid ((HK.out.below hb2).below hb3); have HX3 := Lib.hid ((HX.out.below hb2).below hb3); clear hb2 hb3))
      go_loopw [5] (fun i wr => ∃ k : Nat, k ≤ m.keys.length ∧ i = .int .i64 k ∧ Below w3.heap.size w3 wr) (fun i _ => m.keys.length - (intOf i).toNat)
      case atStart => exact ⟨0, Nat.zero_le _, rfl, Below.refl _ _⟩
      case round =>
        obtain ⟨k, hk, rfl, hb⟩ := hrel
        replace m0 := cell_later hb m0; replace m1 := cell_later hb m1; replace x0 := cell_later hb x0; replace x1 := cell_later hb x1; replace x2 := cell_later hb x2; replace x3 := cell_later hb x3; replace x4 := cell_later hb x4
        by_cases hlt : k < m.keys.length
        · obtain ⟨y, hy⟩ : ∃ y, m.keys[k]? = some y := ⟨_, List.getElem?_eq_getElem hlt⟩
          have hgk := HM.out.2.1 y (List.mem_of_getElem? hy)
          obtain ⟨kb, ko, rfl, hkl, k0, k1, k2, k3⟩ := Mt.key_at (HK3.out.below hb) hy
          obtain ⟨L, hL⟩ : ∃ L, Mt.keys y x.fields = L := ⟨_, rfl⟩
          have HL := Lib.hid hL
          have HNM := Lib.hid hgk.1
          have HBR := Lib.hid hb
          clear hL hgk hy hb
          go_wp2
          go_region_held3 (fun w' => Below wr.heap.size wr w' ∧ w'.cell? ⟨w.heap.size, 0, none⟩ = some (.slice (some ⟨kb, ko, none⟩) m.keys.length kc) ∧ w'.cell? ⟨w.heap.size + 1, 0, none⟩ = some (.int .i64 x.id) ∧ w'.cell? ⟨w.heap.size + 1, 1, none⟩ = some (.int .i64 x.ver) ∧ w'.cell? ⟨w.heap.size + 1, 2, none⟩ = some (.int .i64 x.kind) ∧ w'.cell? ⟨w.heap.size + 1, 3, none⟩ = some (.string x.lang) ∧ w'.cell? ⟨w.heap.size + 1, 4, none⟩ = some (.slice xa x.fields.length xac) ∧ w'.cell? ⟨kb, ko + k * 4, none⟩ = some (.string y.tag) ∧ w'.cell? ⟨kb, ko + k * 4 + 1, none⟩ = some (.int .u8 y.code.toNat) ∧ w'.cell? ⟨kb, ko + k * 4 + 2, none⟩ = some (.int .i64 y.norm) ∧ w'.cell? ⟨kb, ko + k * 4 + 3, none⟩ = some (.int .i64 y.weight))
            (first | exact ⟨(Below.refl _ _).drew, m0, x0, x1, x2, x3, x4, k0, k1, k2, k3⟩ | (go_split_ands; exact ⟨Tx.step (by assumption) hbx, cell_later hbx (by assumption), cell_later hbx (by assumption), cell_later hbx (by assumption), cell_later hbx (by assumption), cell_later hbx (by assumption), cell_later hbx (by assumption), cell_later hbx (by assumption), cell_later hbx (by assumption), cell_later hbx (by assumption), cell_later hbx (by assumption)⟩))
            (first
              | (go_split_ands; go_at_call 9; fail)
              | (go_split_ands; go_at_call 17; refine (match_Keys_c y x.fields xa xac x.id x.ver x.kind x.lang _ ((HG3.out.below HBR.out).below (by assumption)) ((HX3.out.below HBR.out).below (by assumption)) HGX.out HNM.out).mono ?_; rintro e wx ⟨v1, rfl, ho1, hbx⟩; rw [HL.out] at ho1; obtain ⟨a1, c1, rfl, hs1⟩ := ho1.sla; have HS0 := Lib.hid hs1; clear ho1 hs1)
              | (go_split_ands; go_at_call 18; refine (r15_Keys_c y x.fields xa xac x.id x.ver x.kind x.lang _ ((HX3.out.below HBR.out).below (by assumption)) HGX.out HNM.out).mono ?_; rintro e wx ⟨v2, rfl, ho2, hbx⟩; rw [HL.out] at ho2; obtain ⟨b2, o2, c2, rfl, hs2, _⟩ := ho2.h; have HS1 := Lib.hid (HS0.out.below hbx); have HS2 := Lib.hid (Mt.la_sla hs2); clear ho2 hs2)
              | (go_split_ands; go_at_call 16; refine (texts_same_c L a1 (some ⟨b2, o2, none⟩) c1 c2 _ HS1.out HS2.out).mono ?_; rintro e wx ⟨rfl, hbx⟩))
          all_goals (
            go_split_ands
            have hb9 : Below wr.heap.size wr wx := by assumption
            go_wp2
            go_roundw
            case rel => exact ⟨k + 1, hlt, by go_num, Tx.step HBR.out hb9⟩
            case measure => simp [intOf]; omega)
        · obtain rfl : k = m.keys.length := by omega
          go_wp2
          go_ret
          exact ⟨rfl, Tx.step HB3.out hb⟩
  · obtain ⟨n, hn⟩ : ∃ n, Mt.ruleE m = n := ⟨_, rfl⟩
    have hne : (n != 0) = true := by rw [← hn]; simpa using hz
    have HE := Lib.hid hn; clear hn hz
    go_enter Tryz.func4, Tryz.ntmps4
    go_wp2_with (first
      | (go_at_call 9; refine (m_alive_c _ HGW.out).mono ?_; rintro e w1 ⟨rfl, hb1⟩; clear hW; have HB1 := Lib.hid (Tx.step HB.out hb1); have HG := Lib.hid (HGW.out.below hb1); have HK := Lib.hid (HKW.out.below hb1); have HX := Lib.hid (HXW.out.below hb1); replace m0 := cell_later hb1 m0; replace m1 := cell_later hb1 m1; replace x0 := cell_later hb1 x0; replace x1 := cell_later hb1 x1; replace x2 := cell_later hb1 x2; replace x3 := cell_later hb1 x3; replace x4 := cell_later hb1 x4; clear hb1)
      | (go_at_call 11; refine (r15_Right_c m ka kc _ HK.out).mono ?_; rintro e w2 ⟨rfl, hb2⟩; rw [HE.out]; replace m0 := cell_later hb2 m0; replace m1 := cell_later hb2 m1; replace x0 := cell_later hb2 x0; replace x1 := cell_later hb2 x1; replace x2 := cell_later hb2 x2; replace x3 := cell_later hb2 x3; replace x4 := cell_later hb2 x4))
    go_ret
    exact ⟨rfl, Tx.step HB1.out hb2⟩
end Go.Proofs.YtogpghpgnpoioaaGreatDoor
