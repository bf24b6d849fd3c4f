/- Layer 20: the law IndexAdds: what its call returns. -/
import Derived.Test.YtcjalpegffldaaaGreatDoorLawIxA
namespace Go.Proofs.YtcjalpegffldaaaGreatDoor
open Go.RowKit
set_option maxRecDepth 100000

set_option maxHeartbeats 6400000 in
theorem adds_law (rs : List Rc.Rd) (ra : Option Addr) (rc : Nat) (T : List Ix.PT) (a : Option Addr) (c : Nat) (fs : List Rc.Fl) (fa : Option Addr) (fc : Nat) (id ver kind : Int) (lang : ByteArray) (n : Int) (w : World) (hG : G w) (hR : Rc.RdA w ra rc rs) (h : Ix.PsA w a c T) (hQ : Rc.FldA w fa fc fs) (hz : ∀ r ∈ rs, ∀ f ∈ r.fields, ∀ s ∈ f.subs, s.2.size ≤ 140737488351232) (hz2 : ∀ f ∈ fs, ∀ s ∈ f.subs, s.2.size ≤ 140737488351232) :
    Calls Tryz.prog 7 #[.slice ra rs.length rc, .agg #[.slice a T.length c], .agg #[.int .i64 id, .int .i64 ver, .int .i64 kind, .string lang, .slice fa fs.length fc], .int .i64 n] w fun e w' => e = .returned (.bool true) ∧ Below w.heap.size w w' := by
  obtain ⟨W, hW⟩ : ∃ W, (w.alloc (.cells #[.slice a T.length c] 34)).alloc (.cells #[.int .i64 id, .int .i64 ver, .int .i64 kind, .string lang, .slice fa fs.length fc] 24) = W := ⟨_, rfl⟩
  have hB : Below w.heap.size w W := by rw [← hW]; exact (Tx.newb _ _).alloc (by simp) _
  have K0 : W.heap[w.heap.size]? = some (.cells #[.slice a T.length c] 34 (0, 0)) := by rw [← hW]; exact (hp_alloc_lt (by simp) _).trans (heap_alloc_new w _)
  have K1 : W.heap[w.heap.size + 1]? = some (.cells #[.int .i64 id, .int .i64 ver, .int .i64 kind, .string lang, .slice fa fs.length fc] 24 (0, 0)) := by rw [← hW]; simpa using heap_alloc_new (w.alloc (.cells #[.slice a T.length c] 34)) (.cells #[.int .i64 id, .int .i64 ver, .int .i64 kind, .string lang, .slice fa fs.length fc] 24)
  have c0 : W.cell? ⟨w.heap.size, 0, none⟩ = some (.slice a T.length c) := (Tx.blk K0).1 0
  have r0 : W.cell? ⟨w.heap.size + 1, 0, none⟩ = some (.int .i64 id) := (Tx.blk K1).1 0
  have r1 : W.cell? ⟨w.heap.size + 1, 1, none⟩ = some (.int .i64 ver) := (Tx.blk K1).1 1
  have r2 : W.cell? ⟨w.heap.size + 1, 2, none⟩ = some (.int .i64 kind) := (Tx.blk K1).1 2
  have r3 : W.cell? ⟨w.heap.size + 1, 3, none⟩ = some (.string lang) := (Tx.blk K1).1 3
  have r4 : W.cell? ⟨w.heap.size + 1, 4, none⟩ = some (.slice fa fs.length fc) := (Tx.blk K1).1 4
  have HG := Lib.hid (hG.below hB)
  have HR := Lib.hid (hR.below hB)
  have HP := Lib.hid (h.below hB)
  have HQ := Lib.hid (hQ.below hB)
  have HZ := Lib.hid hz
  have HZ2 := Lib.hid hz2
  have HB := Lib.hid hB
  clear hG hR h hQ hz hz2 K0 K1
  cases q1 : Ix.fewB rs with
  | false =>
    have HV1 := Lib.hid q1; clear q1
    go_enter Tryz.func7, Tryz.ntmps7
    go_wp2_with (first
      | (go_at_call 9; refine (lx_alive_c _ HG.out).mono ?_; rintro e w1 ⟨rfl, hb1⟩; clear hW)
      | (go_at_call 14; refine (lx_few_c rs ra rc _ (HR.out.below hb1) HZ.out).mono ?_; rintro e w2 ⟨rfl, hb2⟩; rw [HV1.out]; have hb12 := Tx.step hb1 hb2; have x0 := cell_later hb12 c0))
    go_ret
    exact ⟨rfl, Tx.step HB.out (Tx.step hb1 hb2)⟩
  | true =>
    have HF := Lib.hid (Ix.few_f q1)
    have HV1 := Lib.hid q1; clear q1
    cases q2 : Ix.rawB T with
    | false =>
      have HV2 := Lib.hid q2; clear q2
      go_enter Tryz.func7, Tryz.ntmps7
      go_wp2_with (first
        | (go_at_call 9; refine (lx_alive_c _ HG.out).mono ?_; rintro e w1 ⟨rfl, hb1⟩; clear hW)
        | (go_at_call 14; refine (lx_few_c rs ra rc _ (HR.out.below hb1) HZ.out).mono ?_; rintro e w2 ⟨rfl, hb2⟩; rw [HV1.out]; have hb12 := Tx.step hb1 hb2; have x0 := cell_later hb12 c0)
        | (go_at_call 15; refine (lx_raw_c T a c _ (HP.out.below hb12)).mono ?_; rintro e w3 ⟨rfl, hb3⟩; rw [HV2.out]; have hb13 := Tx.step hb12 hb3; have y0 := cell_later hb13 r0; have y1 := cell_later hb13 r1; have y2 := cell_later hb13 r2; have y3 := cell_later hb13 r3; have y4 := cell_later hb13 r4; clear x0))
      go_ret
      exact ⟨rfl, Tx.step HB.out (Tx.step hb12 hb3)⟩
    | true =>
      have HN : Hid (T.length ≤ 40) := Lib.hid (Ix.raw_of q2).1
      have HV2 := Lib.hid q2; clear q2
      cases q3 : Ix.smallB ⟨id, ver, kind, lang, fs⟩ with
      | false =>
        have HV3 := Lib.hid q3; clear q3
        go_enter Tryz.func7, Tryz.ntmps7
        go_wp2_with (first
          | (go_at_call 9; refine (lx_alive_c _ HG.out).mono ?_; rintro e w1 ⟨rfl, hb1⟩; clear hW)
          | (go_at_call 14; refine (lx_few_c rs ra rc _ (HR.out.below hb1) HZ.out).mono ?_; rintro e w2 ⟨rfl, hb2⟩; rw [HV1.out]; have hb12 := Tx.step hb1 hb2; have x0 := cell_later hb12 c0)
          | (go_at_call 15; refine (lx_raw_c T a c _ (HP.out.below hb12)).mono ?_; rintro e w3 ⟨rfl, hb3⟩; rw [HV2.out]; have hb13 := Tx.step hb12 hb3; have y0 := cell_later hb13 r0; have y1 := cell_later hb13 r1; have y2 := cell_later hb13 r2; have y3 := cell_later hb13 r3; have y4 := cell_later hb13 r4; clear x0)
          | (go_at_call 10; refine (lx_small_c fs fa fc id ver kind lang _ (HQ.out.below hb13) HZ2.out).mono ?_; rintro e w4 ⟨rfl, hb4⟩; rw [HV3.out]; have hb14 := Tx.step hb13 hb4; have z0 := cell_later hb14 c0; clear y0 y1 y2 y3 y4))
        go_ret
        exact ⟨rfl, Tx.step HB.out (Tx.step hb13 hb4)⟩
      | true =>
        have HM := Lib.hid (Ix.small_mod q3)
        have HGD := Lib.hid (Ix.small_gd q3)
        have HV3 := Lib.hid q3; clear q3
        cases q4 : Ix.right (T.map (·.1)) with
        | false =>
          have HV4 := Lib.hid q4; clear q4
          go_enter Tryz.func7, Tryz.ntmps7
          go_wp2_with (first
            | (go_at_call 9; refine (lx_alive_c _ HG.out).mono ?_; rintro e w1 ⟨rfl, hb1⟩; clear hW)
            | (go_at_call 14; refine (lx_few_c rs ra rc _ (HR.out.below hb1) HZ.out).mono ?_; rintro e w2 ⟨rfl, hb2⟩; rw [HV1.out]; have hb12 := Tx.step hb1 hb2; have x0 := cell_later hb12 c0)
            | (go_at_call 15; refine (lx_raw_c T a c _ (HP.out.below hb12)).mono ?_; rintro e w3 ⟨rfl, hb3⟩; rw [HV2.out]; have hb13 := Tx.step hb12 hb3; have y0 := cell_later hb13 r0; have y1 := cell_later hb13 r1; have y2 := cell_later hb13 r2; have y3 := cell_later hb13 r3; have y4 := cell_later hb13 r4; clear x0)
            | (go_at_call 10; refine (lx_small_c fs fa fc id ver kind lang _ (HQ.out.below hb13) HZ2.out).mono ?_; rintro e w4 ⟨rfl, hb4⟩; rw [HV3.out]; have hb14 := Tx.step hb13 hb4; have z0 := cell_later hb14 c0; clear y0 y1 y2 y3 y4)
            | (go_at_call 20; refine (r20_Right_c T a c _ (HP.out.below hb14) (by have := HN.out; omega)).mono ?_; rintro e w5 ⟨rfl, hb5⟩; rw [HV4.out]; have HB15 := Lib.hid (Tx.step hb14 hb5); clear z0))
          go_ret
          exact ⟨rfl, Tx.step HB.out (HB15.out)⟩
        | true =>
          have HAS := Lib.hid (Ix.right_asc q4)
          have HV4 := Lib.hid q4; clear q4
          have t1 : True := trivial
          have t2 : True := trivial
          have t3 : True := trivial
          have t4 : True := trivial
          have t5 : True := trivial
          have t6 : True := trivial
          have t7 : True := trivial
          go_enter Tryz.func7, Tryz.ntmps7
          go_wp2_with (first
            | (go_at_call 9; refine (lx_alive_c _ HG.out).mono ?_; rintro e w1 ⟨rfl, hb1⟩; clear hW)
            | (go_at_call 14; refine (lx_few_c rs ra rc _ (HR.out.below hb1) HZ.out).mono ?_; rintro e w2 ⟨rfl, hb2⟩; rw [HV1.out]; have hb12 := Tx.step hb1 hb2; have x0 := cell_later hb12 c0)
            | (go_at_call 15; refine (lx_raw_c T a c _ (HP.out.below hb12)).mono ?_; rintro e w3 ⟨rfl, hb3⟩; rw [HV2.out]; have hb13 := Tx.step hb12 hb3; have y0 := cell_later hb13 r0; have y1 := cell_later hb13 r1; have y2 := cell_later hb13 r2; have y3 := cell_later hb13 r3; have y4 := cell_later hb13 r4; clear x0)
            | (go_at_call 10; refine (lx_small_c fs fa fc id ver kind lang _ (HQ.out.below hb13) HZ2.out).mono ?_; rintro e w4 ⟨rfl, hb4⟩; rw [HV3.out]; have hb14 := Tx.step hb13 hb4; have z0 := cell_later hb14 c0; clear y0 y1 y2 y3 y4)
            | (go_at_call 20; refine (r20_Right_c T a c _ (HP.out.below hb14) (by have := HN.out; omega)).mono ?_; rintro e w5 ⟨rfl, hb5⟩; rw [HV4.out]; have HB15 := Lib.hid (Tx.step hb14 hb5); clear z0)
            | (go_at_call 18; refine (r20_Build_c rs ra rc _ (HR.out.below HB15.out) (Nat.le_trans HF.out.len (by decide)) HF.out.mod).mono ?_; rintro e w6 ⟨a6, c6, T6, rfl, hp6, hm6, hl6, hb6⟩; have HM6 := Lib.hid hm6; have HA6 : Hid (Ix.Asc (T6.map (·.1))) := Lib.hid (by rw [hm6]; exact Ix.bld_asc _ _); have HL6 := Lib.hid hl6; clear hm6 hl6; obtain ⟨V, hV⟩ : ∃ V, w6.alloc (.cells #[.slice a6 T6.length c6] 34) = V := ⟨_, rfl⟩; have HNV : Hid (Below w6.heap.size w6 V) := Lib.hid (by rw [← hV]; exact Tx.newb _ _); have HBV := Lib.hid (Tx.step (Tx.step HB15.out hb6) HNV.out); have HP6 := Lib.hid (hp6.below HNV.out); have v9 : V.cell? ⟨w6.heap.size, 0, none⟩ = some (.slice a6 T6.length c6) := (by rw [← hV]; exact (Tx.blk (heap_alloc_new w6 _)).1 0); clear hb6 hp6))
          have v0 := cell_later HBV.out c0
          have s0 := cell_later HBV.out r0
          have s1 := cell_later HBV.out r1
          have s2 := cell_later HBV.out r2
          have s3 := cell_later HBV.out r3
          have s4 := cell_later HBV.out r4
          clear hV c0 r0 r1 r2 r3 r4
          go_region_held3 (fun w' => Below V.heap.size V w' ∧ w'.cell? ⟨w.heap.size, 0, none⟩ = some (.slice a T.length c) ∧ w'.cell? ⟨w6.heap.size, 0, none⟩ = some (.slice a6 T6.length c6) ∧ w'.cell? ⟨w.heap.size + 1, 0, none⟩ = some (.int .i64 id) ∧ w'.cell? ⟨w.heap.size + 1, 1, none⟩ = some (.int .i64 ver) ∧ w'.cell? ⟨w.heap.size + 1, 2, none⟩ = some (.int .i64 kind) ∧ w'.cell? ⟨w.heap.size + 1, 3, none⟩ = some (.string lang) ∧ w'.cell? ⟨w.heap.size + 1, 4, none⟩ = some (.slice fa fs.length fc))
            (first | exact ⟨(Below.refl _ _).drew, v0, v9, s0, s1, s2, s3, s4⟩ | (go_split_ands; exact ⟨Tx.step (by assumption) hbx, cell_later hbx (by assumption), cell_later hbx (by assumption), cell_later hbx (by assumption), cell_later hbx (by assumption), cell_later hbx (by assumption), cell_later hbx (by assumption), cell_later hbx (by assumption)⟩))
            (first
              | (go_split_ands; go_at_call 16; have _q := HMD; refine (r20_Same_c T1 T1 a1 a2 c1 c2 _ HP1.out HP2.out rfl).mono ?_; rintro e wx ⟨rfl, hbx⟩; clear HP1 HP2 HMD _q)
              | (go_split_ands; go_at_call 16; refine (r20_Same_c T1 T2 a1 a2 c1 c2 _ HP1.out HP2.out (HM1.out.trans HM2.out.symm)).mono ?_; rintro e wx ⟨rfl, hbx⟩; clear HP1 HP2 HM1 HM2)
              | (go_split_ands; go_at_call 29; have _q := t1; clear t1 _q; refine (ix_Add_c T6 a6 c6 ⟨id, ver, kind, lang, fs⟩ fa fc _ (HG.out.below (Tx.step HBV.out (by assumption))) (HP6.out.below (by assumption)) (Nat.le_trans HL6.out (by decide)) HA6.out (HQ.out.below (Tx.step HBV.out (by assumption))) HM.out HGD.out).mono ?_; rintro e wx ⟨a1, c1, T1, rfl, hp1, hm1, _, hbx⟩; have HP0 := Lib.hid hp1; have HM1 := Lib.hid hm1; clear hp1 hm1)
              | (go_split_ands; go_at_call 30; have _q := t2; clear t2 _q; refine (r20_Add_c T6 a6 c6 ⟨id, ver, kind, lang, fs⟩ fa fc _ (HP6.out.below (by assumption)) (Nat.le_trans HL6.out (by decide)) (HQ.out.below (Tx.step HBV.out (by assumption))) HM.out).mono ?_; rintro e wx ⟨a2, c2, T2, rfl, hp2, hm2, _, _, hbx⟩; have HP1 := Lib.hid (HP0.out.below hbx); have HP2 := Lib.hid hp2; have HM2 := Lib.hid hm2; clear hp2 hm2 HP0)
              | (go_split_ands; go_at_call 31; have _q := t3; clear t3 _q; refine (ix_Drop_c T6 a6 c6 n _ (HP6.out.below (by assumption)) (Nat.le_trans HL6.out (by decide))).mono ?_; rintro e wx ⟨a1, c1, rfl, hp1, hbx⟩; have HP0 := Lib.hid hp1; clear hp1; obtain ⟨T1, hT1⟩ : ∃ T1, Ix.dropT T6 n = T1 := ⟨_, rfl⟩; have HM0 := Lib.hid hT1; rw [hT1] at HP0 ⊢; clear hT1)
              | (go_split_ands; go_at_call 32; have _q := t4; clear t4 _q; refine (r20_Drop_c T6 a6 c6 n _ (HP6.out.below (by assumption)) (Nat.le_trans HL6.out (by decide))).mono ?_; rintro e wx ⟨a2, c2, rfl, hp2, hbx⟩; rw [HM0.out] at hp2 ⊢; have HP1 := Lib.hid (HP0.out.below hbx); have HP2 := Lib.hid hp2; have HMD : Hid True := Lib.hid trivial; clear hp2 HP0 HM0)
              | (go_split_ands; go_at_call 29; have _q := t5; clear t5 _q; refine (ix_Add_c T a c ⟨id, ver, kind, lang, fs⟩ fa fc _ (HG.out.below (Tx.step HBV.out (by assumption))) (HP.out.below (Tx.step HBV.out (by assumption))) (Nat.le_trans HN.out (by decide)) HAS.out (HQ.out.below (Tx.step HBV.out (by assumption))) HM.out HGD.out).mono ?_; rintro e wx ⟨a1, c1, T1, rfl, hp1, hm1, _, hbx⟩; have HP0 := Lib.hid hp1; have HM1 := Lib.hid hm1; clear hp1 hm1)
              | (go_split_ands; go_at_call 30; have _q := t6; clear t6 _q; refine (r20_Add_c T a c ⟨id, ver, kind, lang, fs⟩ fa fc _ (HP.out.below (Tx.step HBV.out (by assumption))) (Nat.le_trans HN.out (by decide)) (HQ.out.below (Tx.step HBV.out (by assumption))) HM.out).mono ?_; rintro e wx ⟨a2, c2, T2, rfl, hp2, hm2, _, _, hbx⟩; have HP1 := Lib.hid (HP0.out.below hbx); have HP2 := Lib.hid hp2; have HM2 := Lib.hid hm2; clear hp2 hm2 HP0)
              | (go_split_ands; go_at_call 31; refine (ix_Drop_c T a c n _ (HP.out.below (Tx.step HBV.out (by assumption))) (Nat.le_trans HN.out (by decide))).mono ?_; rintro e wx ⟨a1, c1, rfl, hp1, hbx⟩; have HP0 := Lib.hid hp1; clear hp1; obtain ⟨T1, hT1⟩ : ∃ T1, Ix.dropT T n = T1 := ⟨_, rfl⟩; have HM0 := Lib.hid hT1; rw [hT1] at HP0 ⊢; clear hT1)
              | (go_split_ands; go_at_call 32; refine (r20_Drop_c T a c n _ (HP.out.below (Tx.step HBV.out (by assumption))) (Nat.le_trans HN.out (by decide))).mono ?_; rintro e wx ⟨a2, c2, rfl, hp2, hbx⟩; rw [HM0.out] at hp2 ⊢; have HP1 := Lib.hid (HP0.out.below hbx); have HP2 := Lib.hid hp2; have HMD : Hid True := Lib.hid trivial; clear hp2 HP0 HM0))
          all_goals
            go_split_ands
            go_wp2
            go_ret
            exact ⟨Tx.retb (by simp), Tx.step HB.out (Tx.step HBV.out (by assumption))⟩
end Go.Proofs.YtcjalpegffldaaaGreatDoor
