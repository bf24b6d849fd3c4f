/- Layer 20: the law IndexSteps: what its call returns. -/
import Derived.Test.YtcjalpegffldaaaGreatDoorLzP
import Derived.Deep.DeepCutAuto
namespace Go.Proofs.YtcjalpegffldaaaGreatDoor
open Go.RowKit
set_option maxRecDepth 100000

namespace Ix
theorem far_of_box {w : World} {q : Nat} {v : Value} {t : TypeId} {a : Option Addr} {c : Nat} {T : List PT} (hq : w.heap[q]? = some (.cells #[v] t (0, 0))) (hv : ∀ n, v ≠ .int .i64 n) (h : PsA w a c T) : Far T a q := by
  refine ⟨fun hne g hg e => ?_, fun t ht hne g hg e => ?_⟩
  · obtain ⟨x, l, rfl⟩ := List.exists_cons_of_ne_nil hne
    obtain ⟨b, o, h1, _, h3⟩ := h.fa.get (k := 0) (x := x) rfl
    rw [hg] at h1
    injection h1 with h1
    subst h1
    have h4 := h3 1 _ rfl
    simp only at e
    subst e
    rw [(Tx.blk hq).1] at h4
    simp at h4
  · obtain ⟨x, l, hxl⟩ := List.exists_cons_of_ne_nil hne
    obtain ⟨b, o, h1, _, h3⟩ := (h.ats t ht).cell (k := 0) (x := x) (by rw [hxl]; rfl)
    rw [hg] at h1
    injection h1 with h1
    subst h1
    simp only at e
    subst e
    rw [(Tx.blk hq).1] at h3
    cases o with
    | zero => simp at h3; exact hv _ h3
    | succ o => simp at h3
/-- Where the first loop stands: the index made so far in its own box. -/
structure StS (V : World) (q : Nat) (rs : List Rc.Rd) (k : Nat) (w : World) (Y : List PT) (ya : Option Addr) (yc : Nat) : Prop where
  hb : Below q V w
  ky : w.heap[q]? = some (.cells #[.slice ya Y.length yc] 34 (0, 0))
  ps : PsA w ya yc Y
  map : Y.map (·.1) = ys rs k
  len : Y.length ≤ k * 1000000
theorem StS.next {V w w8 : World} {q k : Nat} {rs : List Rc.Rd} {Y Z : List PT} {ya za : Option Addr} {yc zc : Nat} (h : StS V q rs k w Y ya yc) (hq : q < w.heap.size) (hb : Below w.heap.size w w8) (hp : PsA w8 za zc Z) (hk : w8.heap[q]? = some (.cells #[.slice ya Y.length yc] 34 (0, 0))) (hm : Z.map (·.1) = ys rs (k + 1)) (hl : Z.length ≤ (k + 1) * 1000000) :
    StS V q rs (k + 1) (w8.setCell ⟨q, 0, none⟩ (.slice za Z.length zc)) Z za zc := by
  refine ⟨(h.hb.trans (hb.mono (Nat.le_of_lt hq))).setCell (Nat.le_refl _) _, ?_, hp.set (far_of_box hk (fun n h9 => by cases h9) hp) _ _, hm, hl⟩
  have h9 := heap_setCell_same w8 q 0 #[.slice ya Y.length yc] 34 (.slice za Z.length zc) hk
  simpa using h9
def StR (V : World) (q : Nat) (rs : List Rc.Rd) (k : Nat) (w : World) : Prop := ∃ Y ya yc, StS V q rs k w Y ya yc
/-- The index with one record more, in its own box. -/
def StZ (wo : World) (rs : List Rc.Rd) (k : Nat) (zb : Nat) (w : World) : Prop := ∃ (Z : List PT) (za : Option Addr) (zc : Nat), Below wo.heap.size wo w ∧ wo.heap.size ≤ zb ∧ w.heap[zb]? = some (.cells #[.slice za Z.length zc] 34 (0, 0)) ∧ PsA w za zc Z ∧ Z.map (·.1) = ys rs (k + 1) ∧ Z.length ≤ (k + 1) * 1000000
theorem StZ.set {wo w : World} {rs : List Rc.Rd} {k zb : Nat} {Z : List PT} {za : Option Addr} {zc : Nat} (hb : Below wo.heap.size wo w) (hz : wo.heap.size ≤ zb) (hk : w.heap[zb]? = some (.cells #[.slice none 0 0] 34 (0, 0))) (hp : PsA w za zc Z) (hm : Z.map (·.1) = ys rs (k + 1)) (hl : Z.length ≤ (k + 1) * 1000000) : StZ wo rs k zb (w.setCell ⟨zb, 0, none⟩ (.slice za Z.length zc)) := by
  have h9 := heap_setCell_same w zb 0 #[.slice none 0 0] 34 (.slice za Z.length zc) hk
  exact ⟨Z, za, zc, hb.setCell hz _, hz, by simpa using h9, hp.set (far_of_box hk (fun n h9 => by cases h9) hp) _ _, hm, hl⟩
theorem StZ.new {wo w : World} {rs : List Rc.Rd} {k zb : Nat} {Z : List PT} {za : Option Addr} {zc : Nat} (hb : Below wo.heap.size wo w) (hz : w.heap.size = zb) (hp : PsA w za zc Z) (hm : Z.map (·.1) = ys rs (k + 1)) (hl : Z.length ≤ (k + 1) * 1000000) : StZ wo rs k zb (w.alloc (.cells #[.slice za Z.length zc] 34)) := by
  subst hz
  exact ⟨Z, za, zc, hb.alloc hb.size _, hb.size, heap_alloc_new w _, hp.below (Tx.newb _ _), hm, hl⟩
def metB (rs : List Rc.Rd) (r : Rc.Rd) (m : Nat) : Bool := (rs.take m).any fun q => q.id == r.id
theorem metB_succ {rs : List Rc.Rd} {r x : Rc.Rd} {m : Nat} (h : rs[m]? = some x) : metB rs r (m + 1) = (metB rs r m || (x.id == r.id)) := by
  unfold metB
  rw [take_snoc h, List.any_append]
  simp
/-- The records turned round, j of them. -/
def BkR (B : Nat) (TR : List Rc.RT) (w : World) (v : Value) (j : Nat) : Prop := w.ownsRow B 24 5 v (TR.reverse.take j).length ((TR.reverse.take j).flatMap Rc.encR)
theorem bk_rd {B : Nat} {TR : List Rc.RT} {w : World} {v : Value} {rs : List Rc.Rd} (h : BkR B TR w v rs.length) (hm : TR.map (·.1) = rs) (hf : ∀ t ∈ TR, Rc.FldA w t.2.1 t.2.2 t.1.fields) : ∃ a c, v = .slice a rs.length c ∧ Rc.RdA w a c rs.reverse := by
  have hl : TR.length = rs.length := by rw [← hm, List.length_map]
  unfold BkR at h
  have e : TR.reverse.take rs.length = TR.reverse := by rw [← hl, ← List.length_reverse, List.take_length]
  rw [e] at h
  obtain ⟨a, c, e1, h1⟩ := Rc.RdA.of_own (T := TR.reverse) h rfl (fun t ht => hf t (List.mem_reverse.1 ht))
  rw [List.map_reverse, hm] at h1
  refine ⟨a, c, ?_, h1⟩
  rw [e1, List.length_map, List.length_reverse, hl]
end Ix

set_option maxHeartbeats 25600000 in
theorem steps_law (rs : List Rc.Rd) (ra : Option Addr) (rc : Nat) (w : World) (hG : G w) (hR : Rc.RdA w ra rc rs) (hz : ∀ r ∈ rs, ∀ f ∈ r.fields, ∀ s ∈ f.subs, s.2.size ≤ 140737488351232) :
    Calls Tryz.prog 8 #[.slice ra rs.length rc] w fun e w' => e = .returned (.bool true) ∧ Below w.heap.size w w' := by
  obtain ⟨i0, hi0, hz0, hz1, hz2⟩ := info_parts info_rec
  have HI := Lib.hid hi0; clear hi0
  have hcap := hR.cap
  have HG := Lib.hid hG
  have HR := Lib.hid hR
  have HZ := Lib.hid hz
  clear hG hR hz
  cases q1 : Ix.fewB rs with
  | false =>
    have HV1 := Lib.hid q1; clear q1
    go_enter Tryz.func8, Tryz.ntmps8
    go_wp2_with (first
      | (go_at_call 9; refine (lx_alive_c _ HG.out).mono ?_; rintro e w1 ⟨rfl, hb1⟩)
      | (go_at_call 14; refine (lx_few_c rs ra rc _ (HR.out.below hb1) HZ.out).mono ?_; rintro e w2 ⟨rfl, hb2⟩; rw [HV1.out]))
    go_ret
    exact ⟨rfl, Tx.step hb1 hb2⟩
  | true =>
    have HF := Lib.hid (Ix.few_f q1)
    have HV1 := Lib.hid q1; clear q1
    have hn5 := HF.out.len
    go_enter Tryz.func8, Tryz.ntmps8
    go_wp2_with (first
      | (go_at_call 9; refine (lx_alive_c _ HG.out).mono ?_; rintro e w1 ⟨rfl, hb1⟩)
      | (go_at_call 14; refine (lx_few_c rs ra rc _ (HR.out.below hb1) HZ.out).mono ?_; rintro e w2 ⟨rfl, hb2⟩; rw [HV1.out])
      | (go_at_call 17; refine (ix_Build_c rs ra rc _ (HG.out.below (Tx.step hb1 hb2)) (HR.out.below (Tx.step hb1 hb2)) (Nat.le_trans HF.out.len (by decide)) HF.out.mod HF.out.gd (fun r hr => by have := HF.out.id r hr; omega)).mono ?_; rintro e w3 ⟨a3, c3, T, rfl, hp3, hm3, hl3, hb3⟩; have HB3 := Lib.hid (Tx.step (Tx.step hb1 hb2) hb3); have HP3 := Lib.hid hp3; have HM3 := Lib.hid hm3; have HL3 := Lib.hid hl3; clear hp3 hm3 hl3; obtain ⟨p, hp⟩ : ∃ p, w3.heap.size = p := ⟨_, rfl⟩; obtain ⟨V1, hV1⟩ : ∃ V1, w3.alloc (.cells #[.slice a3 T.length c3] 34) = V1 := ⟨_, rfl⟩; obtain ⟨q, hq⟩ : ∃ q, V1.heap.size = q := ⟨_, rfl⟩; obtain ⟨V2, hV2⟩ : ∃ V2, V1.alloc (.cells #[.slice none 0 0] 34) = V2 := ⟨_, rfl⟩; have HPE := Lib.hid hp; have HPQ : Hid (p < q ∧ q < V2.heap.size) := Lib.hid (by rw [← hV2, ← hq, ← hV1, ← hp]; simp); have HBV : Hid (Below w3.heap.size w3 V2) := Lib.hid (by rw [← hV2, ← hV1]; exact (Tx.newb _ _).alloc (by simp) _); have KX : Hid (V2.heap[p]? = some (.cells #[.slice a3 T.length c3] 34 (0, 0))) := Lib.hid (by rw [← hV2, ← hV1, ← hp]; exact (hp_alloc_lt (by simp) _).trans (heap_alloc_new w3 _)); have KY : Hid (V2.heap[q]? = some (.cells #[.slice none 0 0] 34 (0, 0))) := Lib.hid (by rw [← hV2, ← hq]; exact heap_alloc_new V1 _); obtain ⟨kcY, kfY, klY⟩ := Tx.blk KY.out))
    clear hV1 hV2 hp hq kcY kfY klY
    have HPS0 : Hid (∀ V : World, Ix.PsA V none 0 []) := Lib.hid (fun V => by
      obtain ⟨a, c, e, h1, _⟩ := Br.FA.of_own (enc := Ix.encP) Ix.encP_len (World.ownsRow_nil V 0 52 4) (xs := []) rfl
      injection e with e1 _ e2
      subst e1 e2
      exact ⟨h1, fun t ht => by cases ht⟩)
    go_loopw [5, 6, 8, 9] (fun d i _ _ wr => ∃ (k : Nat), k ≤ rs.length ∧ i = .int .i64 k ∧ d = .bool (Ix.diffB rs k) ∧ Ix.StR V2 q rs k wr) (fun _ i _ _ _ => rs.length - (intOf i).toNat)
    case atStart => exact ⟨0, Nat.zero_le _, by go_num, rfl, [], none, 0, (Below.refl q V2).setCell (p := ⟨q, 0, none⟩) (Nat.le_refl q) _, by simpa using heap_setCell_same V2 q 0 #[.slice none 0 0] 34 (.slice none 0 0) KY.out, HPS0.out _, rfl, by simp⟩
    case round =>
      obtain ⟨k, hk, rfl, rfl, Y, ya, yc, hS⟩ := hrel
      obtain ⟨wo, hwo⟩ : ∃ wo, wo = wr := ⟨_, rfl⟩
      subst hwo
      have HS := Lib.hid hS
      have HBW : Hid (Below w3.heap.size w3 wo) := Lib.hid (HBV.out.trans (hS.hb.mono (by have := HPE.out; have := HPQ.out; omega)))
      have HQW : Hid (q < wo.heap.size) := Lib.hid (Nat.lt_of_lt_of_le HPQ.out.2 hS.hb.size)
      have HRW := Lib.hid ((HR.out.below HB3.out).below HBW.out)
      have y0 : wo.cell? ⟨q, 0, none⟩ = some (.slice ya Y.length yc) := (Tx.blk hS.ky).1 0
      have HGW := Lib.hid ((HG.out.below HB3.out).below HBW.out)
      clear hS
      by_cases hlt : k < rs.length
      · obtain ⟨r, hr⟩ : ∃ r, rs[k]? = some r := ⟨_, List.getElem?_eq_getElem hlt⟩
        have hrm := List.mem_of_getElem? hr
        obtain ⟨b, o, fa, fc, rfl, hbl, d0, d1, d2, d3, d4, hF⟩ := HRW.out.get hr
        have HFL := Lib.hid hF
        have HRK := Lib.hid hr
        have HYL : Hid (Y.length ≤ 5000000) := Lib.hid (by have := HS.out.len; have : k * 1000000 ≤ 4 * 1000000 := Nat.mul_le_mul_right _ (by omega); omega)
        have HMD := Lib.hid (HF.out.mod r hrm)
        have HGD := Lib.hid (HF.out.gd r hrm)
        have HYA : Hid (Ix.Asc (Y.map (·.1))) := Lib.hid (by rw [HS.out.map]; exact (Ix.ys_facts HF.out.gd k (by omega)).1)
        have hk2 : (k : Int) < (rs.length : Int) := by omega
        have hk0 : (0 : Int) ≤ (k : Int) := by omega
        clear hF hr hrm
        go_wp2
        go_cut [7] (fun s7 wx => ∃ zb, s7 = .pointer (some ⟨zb, 0, none⟩) ∧ Ix.StZ wo rs k zb wx)
        case first =>
          have hqs := HQW.out
          have hbls : b < wo.heap.size := Nat.lt_of_lt_of_le hbl (Nat.le_refl _)
          have hbq := (Below.refl wo.heap.size wo).drew
          have hba : Below wo.heap.size wo (wo.drew.alloc (.cells #[.slice none 0 0] 34)) := hbq.alloc (by simp) _
          have hkz : Hid ((wo.drew.alloc (.cells #[.slice none 0 0] 34)).heap[wo.heap.size]? = some (.cells #[.slice none 0 0] 34 (0, 0))) := Lib.hid (heap_alloc_new wo.drew _)
          have CA : Hid (∀ w', Below wo.heap.size wo w' → Calls Tryz.prog 29 #[.agg #[.slice ya Y.length yc], .agg #[.int .i64 r.id, .int .i64 r.ver, .int .i64 r.kind, .string r.lang, .slice fa r.fields.length fc]] w' fun e w'' => (∃ a' c' T', e = .returned (.agg #[.slice a' (List.length T') c']) ∧ Ix.PsA w'' a' c' T' ∧ T'.map (·.1) = Ix.add (Y.map (·.1)) r ∧ T'.length ≤ Y.length + 1000000 ∧ Below w'.heap.size w' w'')) := Lib.hid (fun w' h9 => ix_Add_c Y ya yc r fa fc w' (HGW.out.below h9) (HS.out.ps.below h9) (Nat.le_trans HYL.out (by decide)) HYA.out (HFL.out.below h9) HMD.out HGD.out)
          go_region_law (first
            | (go_simp; go_at_call 29; (with_reducible refine (CA.out _ hbq).mono ?_); rintro e wx ⟨za, zc, Z, rfl, hpz, hmz, hlz, hbx⟩; have hsx := hbx.size; have HBX := Lib.hid hbx; have HPZ0 := Lib.hid hpz; have HZM : Hid (Z.map (·.1) = Ix.ys rs (k + 1)) := Lib.hid (by rw [hmz, HS.out.map, Ix.ys_succ HRK.out]); have HLZ : Hid (Z.length ≤ (k + 1) * 1000000) := Lib.hid (by have := HS.out.len; omega); clear hpz hmz hlz)
            | (go_simp; go_at_call 29; refine (CA.out _ hba).mono ?_; rintro e wx ⟨za, zc, Z, rfl, hpz, hmz, hlz, hbx⟩; have hsx := hbx.size; have HBX := Lib.hid hbx; obtain ⟨kzc, kzf, kzl⟩ := Tx.blk (Tx.blk_later hkz.out hbx); have HPZ0 := Lib.hid hpz; have HZM : Hid (Z.map (·.1) = Ix.ys rs (k + 1)) := Lib.hid (by rw [hmz, HS.out.map, Ix.ys_succ HRK.out]); have HLZ : Hid (Z.length ≤ (k + 1) * 1000000) := Lib.hid (by have := HS.out.len; omega); clear hpz hmz hlz))
          all_goals
            go_wp2_with fail
            go_meet
            exact ⟨_, rfl, by first
              | exact Ix.StZ.set (Tx.step hba HBX.out) (Nat.le_refl _) (Tx.blk_later hkz.out HBX.out) HPZ0.out HZM.out HLZ.out
              | exact Ix.StZ.new (Tx.step hbq HBX.out) rfl HPZ0.out HZM.out HLZ.out
              | exact Ix.StZ.set ((Tx.step hbq HBX.out).alloc (Tx.step hbq HBX.out).size _) (Tx.step hbq HBX.out).size (heap_alloc_new _ _) (HPZ0.out.below (Tx.newb _ _)) HZM.out HLZ.out⟩
        case rest =>
          obtain ⟨zb, rfl, Z, za, zc, hbz, hzb, kz, hpz, hmz, hlz⟩ := hcut
          obtain ⟨V5, hV5⟩ : ∃ V5, V5 = wc := ⟨_, rfl⟩
          subst hV5
          have HB5V := Lib.hid hbz
          have KZ := Lib.hid kz
          have HPZ0 := Lib.hid hpz
          have HZM := Lib.hid hmz
          have HLZ : Hid (Z.length ≤ (k + 1) * 1000000 ∧ Z.length ≤ 6000000) := Lib.hid (by have := hlz; have : (k + 1) * 1000000 ≤ 6 * 1000000 := Nat.mul_le_mul_right _ (by omega); omega)
          clear hbz hzb kz hpz hmz hlz
          go_wp2
          have HPZ : Hid (∀ w', Below V5.heap.size V5 w' → Ix.PsA w' za zc Z) := Lib.hid (fun w' h9 => HPZ0.out.below h9)
          have HPY : Hid (∀ w', Below V5.heap.size V5 w' → Ix.PsA w' ya yc Y) := Lib.hid (fun w' h9 => (HS.out.ps.below HB5V.out).below h9)
          have HZC : Hid (∀ w', Below V5.heap.size V5 w' → w'.cell? ⟨zb, 0, none⟩ = some (.slice za Z.length zc)) := Lib.hid (fun w' h9 => (Tx.blk (Tx.blk_later KZ.out h9)).1 0)
          have HYC : Hid (∀ w', Below V5.heap.size V5 w' → w'.cell? ⟨q, 0, none⟩ = some (.slice ya Y.length yc)) := Lib.hid (fun w' h9 => cell_later (Tx.step HB5V.out h9) y0)
          have HZR : Hid (Ix.right (Z.map (·.1)) = true) := Lib.hid (by rw [HZM.out]; exact Ix.ys_right HF.out.gd (by omega))
          have HRV := Lib.hid (HRW.out.below HB5V.out)
          clear d1 d2 d3 d4 y0
          have HD0 := Lib.hid d0
          clear d0
          obtain ⟨dk, hdk⟩ : ∃ dk, Ix.diffB rs k = dk := ⟨_, rfl⟩
          rw [hdk]
          have HD := Lib.hid hdk
          clear hdk
          go_loopw [8, 9] (fun kn j w' => ∃ (m : Nat), m ≤ k ∧ j = .int .i64 m ∧ kn = .bool (Ix.metB rs r m) ∧ Below V5.heap.size V5 w') (fun _ j _ => k - (intOf j).toNat)
          case atStart => exact ⟨0, Nat.zero_le _, by go_num, rfl, Below.refl _ _⟩
          case round =>
            obtain ⟨m, hm, rfl, rfl, hbi⟩ := hrel
            obtain ⟨wi, hwi⟩ : ∃ wi, wi = wr := ⟨_, rfl⟩
            subst hwi
            have HBI := Lib.hid hbi
            have f0 : wi.cell? ⟨b, o + k * 5, none⟩ = some (.int .i64 r.id) := cell_later (Tx.step HB5V.out hbi) HD0.out
            by_cases hmk : m < k
            · obtain ⟨x, hx⟩ : ∃ x, rs[m]? = some x := ⟨_, List.getElem?_eq_getElem (by omega)⟩
              obtain ⟨b', o', fa', fc', e1, _, e0, _⟩ := HRW.out.get hx
              injection e1 with e1
              injection e1 with e1 e2
              subst e1 e2
              have g0 : wi.cell? ⟨b, o + m * 5, none⟩ = some (.int .i64 x.id) := cell_later (Tx.step HB5V.out hbi) e0
              have hm2 : (m : Int) < (rs.length : Int) := by omega
              have hm0 : (0 : Int) ≤ (m : Int) := by omega
              have HMS := Lib.hid (Ix.metB_succ (r := r) hx)
              obtain ⟨mb, hmb⟩ : ∃ mb, Ix.metB rs r m = mb := ⟨_, rfl⟩
              rw [hmb] at HMS ⊢
              clear hmb e0 hx hbi
              cases mb with
              | true =>
                go_wp2
                go_quiet (fail)
                all_goals go_wp2
                all_goals go_roundw
                case rel => exact ⟨m + 1, hmk, by go_num, by rw [HMS.out]; rfl, Tx.below_drewN HBI.out _⟩
                case measure => simp [intOf]; omega
              | false =>
                cases hxb : (x.id == r.id) with
                | true =>
                  rw [hxb] at HMS
                  go_wp2
                  go_quiet (fail)
                  all_goals go_wp2
                  all_goals go_roundw
                  case rel => exact ⟨m + 1, hmk, by go_num, by rw [HMS.out]; rfl, Tx.below_drewN HBI.out _⟩
                  case measure => simp [intOf]; omega
                | false =>
                  rw [hxb] at HMS
                  go_wp2
                  go_quiet (fail)
                  all_goals go_wp2
                  all_goals go_roundw
                  case rel => exact ⟨m + 1, hmk, by go_num, by rw [HMS.out]; rfl, Tx.below_drewN HBI.out _⟩
                  case measure => simp [intOf]; omega
            · obtain rfl : k = m := by omega
              have i0' := HZC.out _ HBI.out
              have i1' := HYC.out _ HBI.out
              have i2' := f0
              obtain ⟨mb, hmb⟩ : ∃ mb, Ix.metB rs r k = mb := ⟨_, rfl⟩
              rw [hmb]
              have HMB := Lib.hid hmb
              clear hmb hbi
              cases dk with
              | true =>
                cases mb with
                | true =>
                  have HDN : Hid (Ix.diffB rs (k + 1) = false) := Lib.hid (by rw [Ix.diffB_succ HRK.out, HD.out, show Ix.met rs k r = true from HMB.out]; rfl)
                  go_wp2
                  go_quiet (fail)
                  have hbT : Below V5.heap.size V5 (wi.drewN nq) := Tx.below_drewN HBI.out nq
                  generalize wi.drewN nq = wt at hbT ⊢
                  have HBT := Lib.hid (Tx.step HB5V.out hbT)
                  have u0 : wt.cell? ⟨zb, 0, none⟩ = some (.slice za Z.length zc) := HZC.out _ hbT
                  have HPZT := Lib.hid (HPZ.out _ hbT)
                  clear hbT
                  go_wp2_with (go_at_call 19; ((with_reducible refine (ix_Right_c Z za zc _ HPZT.out (by have := HLZ.out; omega)).mono ?_); rintro e w8 ⟨rfl, hb8⟩; rw [HZR.out]; have HB8 := Lib.hid hb8; have u8 := cell_later hb8 u0; have K8 := (hb8.block q (Nat.lt_of_lt_of_le HQW.out HBT.out.size)).trans ((HBT.out.block q HQW.out).trans HS.out.ky); have HK8 := Lib.hid K8; obtain ⟨kc8, kf8, kl8⟩ := Tx.blk K8; clear hb8 K8))
                  have hfin := HS.out.next HQW.out (Tx.step HBT.out HB8.out) (HPZT.out.below HB8.out) HK8.out HZM.out HLZ.out.1
                  go_roundw
                  case rel => exact ⟨k + 1, hlt, by go_num, by rw [HDN.out], Z, za, zc, hfin⟩
                  case measure => simp [intOf]; omega
                | false =>
                  have HDN : Hid (Ix.diffB rs (k + 1) = true) := Lib.hid (by rw [Ix.diffB_succ HRK.out, HD.out, show Ix.met rs k r = false from HMB.out]; rfl)
                  by_cases hid : 0 < r.id
                  · have hid2 : decide (0 < r.id) = true := decide_eq_true hid
                    have HID : Hid (1 ≤ r.id) := Lib.hid (by omega)
                    go_wp2
                    go_region_held3 (fun w' => Below wi.heap.size wi w' ∧ w'.cell? ⟨zb, 0, none⟩ = some (.slice za Z.length zc) ∧ w'.cell? ⟨q, 0, none⟩ = some (.slice ya Y.length yc) ∧ w'.cell? ⟨b, o + k * 5, none⟩ = some (.int .i64 r.id))
                      (first | exact ⟨(Below.refl _ _).drew, i0', i1', i2'⟩ | (go_split_ands; exact ⟨Tx.step (by assumption) hbx, cell_later hbx (by assumption), cell_later hbx (by assumption), cell_later hbx (by assumption)⟩))
                      (first
                        | (go_split_ands; go_at_call 16; refine (r20_Same_c (Ix.dropT Z r.id) Y a9 ya c9 yc _ HP9.out (HPY.out _ (Tx.step HBI.out (by assumption))) (by rw [Ix.dropT_map, HZM.out, Ix.ys_drop HF.out.gd HRK.out HMB.out HID.out, HS.out.map])).mono ?_; rintro e wx ⟨rfl, hbx⟩)
                        | (go_split_ands; go_at_call 31; refine (ix_Drop_c Z za zc r.id _ (HPZ.out _ (Tx.step HBI.out (by assumption))) (by have := HLZ.out; omega)).mono ?_; rintro e wx ⟨a9, c9, rfl, hp9, hbx⟩; have HP9 := Lib.hid hp9; clear hp9))
                    all_goals
                      go_split_ands
                      have hbT : Below V5.heap.size V5 wx := Tx.step HBI.out (by assumption)
                      obtain ⟨wt, hwt⟩ : ∃ wt, wt = wx := ⟨_, rfl⟩
                      subst hwt
                      have HBT := Lib.hid (Tx.step HB5V.out hbT)
                      have u0 : wt.cell? ⟨zb, 0, none⟩ = some (.slice za Z.length zc) := HZC.out _ hbT
                      have HPZT := Lib.hid (HPZ.out _ hbT)
                      clear hbT
                      go_wp2_with (go_at_call 19; ((with_reducible refine (ix_Right_c Z za zc _ HPZT.out (by have := HLZ.out; omega)).mono ?_); rintro e w8 ⟨rfl, hb8⟩; rw [HZR.out]; have HB8 := Lib.hid hb8; have u8 := cell_later hb8 u0; have K8 := (hb8.block q (Nat.lt_of_lt_of_le HQW.out HBT.out.size)).trans ((HBT.out.block q HQW.out).trans HS.out.ky); have HK8 := Lib.hid K8; obtain ⟨kc8, kf8, kl8⟩ := Tx.blk K8; clear hb8 K8))
                      have hfin := HS.out.next HQW.out (Tx.step HBT.out HB8.out) (HPZT.out.below HB8.out) HK8.out HZM.out HLZ.out.1
                      go_roundw
                      case rel => exact ⟨k + 1, hlt, by go_num, by rw [HDN.out], Z, za, zc, hfin⟩
                      case measure => simp [intOf]; omega
                  · have hid2 : decide (0 < r.id) = false := decide_eq_false hid
                    go_wp2
                    go_quiet (fail)
                    have hbT : Below V5.heap.size V5 (wi.drewN nq) := Tx.below_drewN HBI.out nq
                    generalize wi.drewN nq = wt at hbT ⊢
                    have HBT := Lib.hid (Tx.step HB5V.out hbT)
                    have u0 : wt.cell? ⟨zb, 0, none⟩ = some (.slice za Z.length zc) := HZC.out _ hbT
                    have HPZT := Lib.hid (HPZ.out _ hbT)
                    clear hbT
                    go_wp2_with (go_at_call 19; ((with_reducible refine (ix_Right_c Z za zc _ HPZT.out (by have := HLZ.out; omega)).mono ?_); rintro e w8 ⟨rfl, hb8⟩; rw [HZR.out]; have HB8 := Lib.hid hb8; have u8 := cell_later hb8 u0; have K8 := (hb8.block q (Nat.lt_of_lt_of_le HQW.out HBT.out.size)).trans ((HBT.out.block q HQW.out).trans HS.out.ky); have HK8 := Lib.hid K8; obtain ⟨kc8, kf8, kl8⟩ := Tx.blk K8; clear hb8 K8))
                    have hfin := HS.out.next HQW.out (Tx.step HBT.out HB8.out) (HPZT.out.below HB8.out) HK8.out HZM.out HLZ.out.1
                    go_roundw
                    case rel => exact ⟨k + 1, hlt, by go_num, by rw [HDN.out], Z, za, zc, hfin⟩
                    case measure => simp [intOf]; omega
              | false =>
                cases mb with
                | true =>
                  have HDN : Hid (Ix.diffB rs (k + 1) = false) := Lib.hid (by rw [Ix.diffB_succ HRK.out, HD.out, show Ix.met rs k r = true from HMB.out]; rfl)
                  go_wp2
                  go_quiet (fail)
                  have hbT : Below V5.heap.size V5 (wi.drewN nq) := Tx.below_drewN HBI.out nq
                  generalize wi.drewN nq = wt at hbT ⊢
                  have HBT := Lib.hid (Tx.step HB5V.out hbT)
                  have u0 : wt.cell? ⟨zb, 0, none⟩ = some (.slice za Z.length zc) := HZC.out _ hbT
                  have HPZT := Lib.hid (HPZ.out _ hbT)
                  clear hbT
                  go_wp2_with (go_at_call 19; ((with_reducible refine (ix_Right_c Z za zc _ HPZT.out (by have := HLZ.out; omega)).mono ?_); rintro e w8 ⟨rfl, hb8⟩; rw [HZR.out]; have HB8 := Lib.hid hb8; have u8 := cell_later hb8 u0; have K8 := (hb8.block q (Nat.lt_of_lt_of_le HQW.out HBT.out.size)).trans ((HBT.out.block q HQW.out).trans HS.out.ky); have HK8 := Lib.hid K8; obtain ⟨kc8, kf8, kl8⟩ := Tx.blk K8; clear hb8 K8))
                  have hfin := HS.out.next HQW.out (Tx.step HBT.out HB8.out) (HPZT.out.below HB8.out) HK8.out HZM.out HLZ.out.1
                  go_roundw
                  case rel => exact ⟨k + 1, hlt, by go_num, by rw [HDN.out], Z, za, zc, hfin⟩
                  case measure => simp [intOf]; omega
                | false =>
                  have HDN : Hid (Ix.diffB rs (k + 1) = false) := Lib.hid (by rw [Ix.diffB_succ HRK.out, HD.out, show Ix.met rs k r = false from HMB.out]; rfl)
                  by_cases hid : 0 < r.id
                  · have hid2 : decide (0 < r.id) = true := decide_eq_true hid
                    have HID : Hid (1 ≤ r.id) := Lib.hid (by omega)
                    go_wp2
                    go_region_held3 (fun w' => Below wi.heap.size wi w' ∧ w'.cell? ⟨zb, 0, none⟩ = some (.slice za Z.length zc) ∧ w'.cell? ⟨q, 0, none⟩ = some (.slice ya Y.length yc) ∧ w'.cell? ⟨b, o + k * 5, none⟩ = some (.int .i64 r.id))
                      (first | exact ⟨(Below.refl _ _).drew, i0', i1', i2'⟩ | (go_split_ands; exact ⟨Tx.step (by assumption) hbx, cell_later hbx (by assumption), cell_later hbx (by assumption), cell_later hbx (by assumption)⟩))
                      (first
                        | (go_split_ands; go_at_call 16; refine (r20_Same_c (Ix.dropT Z r.id) Y a9 ya c9 yc _ HP9.out (HPY.out _ (Tx.step HBI.out (by assumption))) (by rw [Ix.dropT_map, HZM.out, Ix.ys_drop HF.out.gd HRK.out HMB.out HID.out, HS.out.map])).mono ?_; rintro e wx ⟨rfl, hbx⟩)
                        | (go_split_ands; go_at_call 31; refine (ix_Drop_c Z za zc r.id _ (HPZ.out _ (Tx.step HBI.out (by assumption))) (by have := HLZ.out; omega)).mono ?_; rintro e wx ⟨a9, c9, rfl, hp9, hbx⟩; have HP9 := Lib.hid hp9; clear hp9))
                    all_goals
                      go_split_ands
                      have hbT : Below V5.heap.size V5 wx := Tx.step HBI.out (by assumption)
                      obtain ⟨wt, hwt⟩ : ∃ wt, wt = wx := ⟨_, rfl⟩
                      subst hwt
                      have HBT := Lib.hid (Tx.step HB5V.out hbT)
                      have u0 : wt.cell? ⟨zb, 0, none⟩ = some (.slice za Z.length zc) := HZC.out _ hbT
                      have HPZT := Lib.hid (HPZ.out _ hbT)
                      clear hbT
                      go_wp2_with (go_at_call 19; ((with_reducible refine (ix_Right_c Z za zc _ HPZT.out (by have := HLZ.out; omega)).mono ?_); rintro e w8 ⟨rfl, hb8⟩; rw [HZR.out]; have HB8 := Lib.hid hb8; have u8 := cell_later hb8 u0; have K8 := (hb8.block q (Nat.lt_of_lt_of_le HQW.out HBT.out.size)).trans ((HBT.out.block q HQW.out).trans HS.out.ky); have HK8 := Lib.hid K8; obtain ⟨kc8, kf8, kl8⟩ := Tx.blk K8; clear hb8 K8))
                      have hfin := HS.out.next HQW.out (Tx.step HBT.out HB8.out) (HPZT.out.below HB8.out) HK8.out HZM.out HLZ.out.1
                      go_roundw
                      case rel => exact ⟨k + 1, hlt, by go_num, by rw [HDN.out], Z, za, zc, hfin⟩
                      case measure => simp [intOf]; omega
                  · have hid2 : decide (0 < r.id) = false := decide_eq_false hid
                    go_wp2
                    go_quiet (fail)
                    have hbT : Below V5.heap.size V5 (wi.drewN nq) := Tx.below_drewN HBI.out nq
                    generalize wi.drewN nq = wt at hbT ⊢
                    have HBT := Lib.hid (Tx.step HB5V.out hbT)
                    have u0 : wt.cell? ⟨zb, 0, none⟩ = some (.slice za Z.length zc) := HZC.out _ hbT
                    have HPZT := Lib.hid (HPZ.out _ hbT)
                    clear hbT
                    go_wp2_with (go_at_call 19; ((with_reducible refine (ix_Right_c Z za zc _ HPZT.out (by have := HLZ.out; omega)).mono ?_); rintro e w8 ⟨rfl, hb8⟩; rw [HZR.out]; have HB8 := Lib.hid hb8; have u8 := cell_later hb8 u0; have K8 := (hb8.block q (Nat.lt_of_lt_of_le HQW.out HBT.out.size)).trans ((HBT.out.block q HQW.out).trans HS.out.ky); have HK8 := Lib.hid K8; obtain ⟨kc8, kf8, kl8⟩ := Tx.blk K8; clear hb8 K8))
                    have hfin := HS.out.next HQW.out (Tx.step HBT.out HB8.out) (HPZT.out.below HB8.out) HK8.out HZM.out HLZ.out.1
                    go_roundw
                    case rel => exact ⟨k + 1, hlt, by go_num, by rw [HDN.out], Z, za, zc, hfin⟩
                    case measure => simp [intOf]; omega
      · obtain rfl : k = rs.length := by omega
        obtain ⟨TR, hTR, hfa, hfl⟩ := HRW.out.fa
        have hTL : TR.length = rs.length := by rw [← hTR, List.length_map]
        have HTL := Lib.hid hTL
        have HTR := Lib.hid hTR
        have HFA := Lib.hid hfa
        have HFLD := Lib.hid hfl
        obtain ⟨dn, hdn⟩ : ∃ dn, Ix.diffB rs rs.length = dn := ⟨_, rfl⟩
        rw [hdn]
        have HDN := Lib.hid hdn
        clear hTR hfa hfl hTL hdn
        go_wp2
        go_loopw [10, 11] (fun v i w' => ∃ (j : Nat), j ≤ rs.length ∧ i = .int .i64 ((rs.length : Int) - 1 - (j : Int)) ∧ Ix.BkR wo.heap.size TR w' v j ∧ Below wo.heap.size wo w') (fun _ i _ => (intOf i + 1).toNat)
        case atStart => exact ⟨0, Nat.zero_le _, by simp, World.ownsRow_nil _ _ _ _, Below.refl _ _⟩
        case round =>
          obtain ⟨j, hj, rfl, hbk, hb3⟩ := hrel
          obtain ⟨wp, hwp⟩ : ∃ wp, wp = wr := ⟨_, rfl⟩
          subst hwp
          have HB3W := Lib.hid hb3
          by_cases hjl : j < rs.length
          · obtain ⟨m, hm⟩ : ∃ m : Nat, m + j + 1 = rs.length := ⟨rs.length - 1 - j, by omega⟩
            have hi : (rs.length : Int) - 1 - (j : Int) = (m : Int) := by omega
            rw [hi]
            have hi2 : Hid ((rs.length : Int) - 1 - ((j + 1 : Nat) : Int) = (m : Int) - 1) := Lib.hid (by omega)
            have hml : m < TR.length := by rw [HTL.out]; omega
            obtain ⟨⟨t, ta, tc⟩, ht⟩ : ∃ t, TR[m]? = some t := ⟨_, List.getElem?_eq_getElem hml⟩
            obtain ⟨b, o, rfl, hbl, hcs⟩ := HFA.out.get ht
            have e0 := cell_later hb3 (hcs 0 _ rfl)
            have e1 := cell_later hb3 (hcs 1 _ rfl)
            have e2 := cell_later hb3 (hcs 2 _ rfl)
            have e3 := cell_later hb3 (hcs 3 _ rfl)
            have e4 := cell_later hb3 (hcs 4 _ rfl)
            rw [Nat.add_zero] at e0
            have hrev : TR.reverse[j]? = some (t, ta, tc) := by rw [List.getElem?_reverse (by rw [HTL.out]; omega), HTL.out, show rs.length - 1 - j = m by omega]; exact ht
            have hts := Ix.take_snoc hrev
            obtain ⟨N, hN⟩ : ∃ N, (TR.reverse.take j).length = N := ⟨_, rfl⟩
            unfold Ix.BkR at hbk
            rw [hN] at hbk
            obtain ⟨va, vc, rfl, _⟩ := own_shape2 hbk
            have HBK := Lib.hid hbk
            have HNX : Hid (∀ v' w', w'.ownsRow wo.heap.size 24 5 v' (N + 1) ((TR.reverse.take j).flatMap Rc.encR ++ Rc.encR (t, ta, tc)) → Ix.BkR wo.heap.size TR w' v' (j + 1)) := Lib.hid (fun v' w' h9 => by
              unfold Ix.BkR
              rw [hts, List.length_append, hN, List.flatMap_append]
              simpa using h9)
            have hNl : N ≤ 5 := by rw [← hN, List.length_take]; omega
            have hm0 : (0 : Int) ≤ (m : Int) := by omega
            have hm2 : (m : Int) < (rs.length : Int) := by omega
            have hpz := hb3.size
            clear hi hm hml ht hcs hrev hts hN hbk hb3
            go_wp2_with (at_builtin; go_must (refine wpList_append_sl rfl _ _ 31 rfl wo.heap.size 24 i0 _ 5 64 Tryz.underlying31 HI.out hz0 hz1 hz2 rfl (by decide) _ N _ rfl (HBK.out.alloc _) (some ⟨_, 0, none⟩) 1 1 (Rc.encR (t, ta, tc)) rfl rfl (fun h9 => by cases h9) (fun ad had => by cases had; exact Br.cells_new_at _ _ (by first | rfl | simp) #[.int .i64 t.id, .int .i64 t.ver, .int .i64 t.kind, .string t.lang, .slice ta t.fields.length tc] _) (Rc.r_one _) (by unfold maxLen; omega) (by omega) (by simp; omega) ?_); intro v7 w7 hown7 hg7 hnil7)
            have hb7 : Below wo.heap.size wo w7 := (HB3W.out.alloc HB3W.out.size _).grown hg7 (by simp; omega) (fun j hj => (HBK.out.lt j hj).1)
            go_roundw
            case rel => exact ⟨j + 1, hjl, by rw [hi2.out], HNX.out _ _ hown7, hb7⟩
            case measure => simp [intOf] <;> omega
          · obtain rfl : j = rs.length := by omega
            have hi : (rs.length : Int) - 1 - (rs.length : Int) = -1 := by omega
            rw [hi]
            obtain ⟨a9, c9, rfl, hrd⟩ := Ix.bk_rd hbk HTR.out (fun t ht => (HFLD.out t ht).below hb3)
            have HBKR := Lib.hid hrd
            have hpq := HPQ.out.1
            have x9 : wp.cell? ⟨p, 0, none⟩ = some (.slice a3 T.length c3) := (Tx.blk ((hb3.block p (by have := HQW.out; omega)).trans ((HS.out.hb.block p hpq).trans KX.out))).1 0
            have y9 : wp.cell? ⟨q, 0, none⟩ = some (.slice ya Y.length yc) := cell_later hb3 y0
            have HBPW : Hid (Below w3.heap.size w3 wp) := Lib.hid (Tx.step HBW.out hb3)
            have HPP : Hid (Ix.PsA wp a3 c3 T) := Lib.hid (HP3.out.below HBPW.out)
            have HPYP : Hid (Ix.PsA wp ya yc Y) := Lib.hid (HS.out.ps.below hb3)
            have HBWP := Lib.hid (Tx.step HB3.out HBPW.out)
            have HGP := Lib.hid (HG.out.below HBWP.out)
            have HXR : Hid (Ix.right (T.map (·.1)) = true) := Lib.hid (by rw [HM3.out]; exact Ix.right_of (Ix.bld_asc _ _) (fun x hx => by obtain ⟨r, hr, h1, hx⟩ := Ix.build_mem hx; exact Ix.posts_ok h1 (HF.out.gd r hr) x hx))
            clear hi hbk hrd hb3 hpq y0
            cases dn with
            | false =>
              go_wp2
              refine wp_region_held_drew (S := (fun w' => Below wp.heap.size wp w' ∧ w'.cell? ⟨p, 0, none⟩ = some (.slice a3 T.length c3))) (by kernel_rfl) ?_ (fun hHeld => ?_)
              · (first | exact ⟨(Below.refl _ _).drew, x9⟩ | (go_split_ands; exact ⟨Tx.step (by assumption) hbx, cell_later hbx (by assumption)⟩))
              refine wpAnyH_take (i := 0) (oi := ⟨some 96, _, _, _, _, _⟩) (v := .agg #[.slice a3 T.length c3]) rfl (by kernel_rfl) (by kernel_rfl) (by kernel_rfl) (fun _ _ _ h => h) (Or.inl ⟨by rfl, ?_⟩) (by assumption) ?_
              · intro w hSw; (try dsimp only at hSw); go_simp
              simp only [Act.put, List.setIfInBounds_toArray, List.set_cons_zero, List.set_cons_succ]
              refine wpAnyH_ready (rs := [1]) (by kernel_rfl) (by simp) ?_
              refine AllReadyH.cons (o := ⟨some 97, _, _, _, _, _⟩) rfl (fun K hK => ?_) AllReadyH.nil
              go_simp
              go_split_ands
              go_at_call 19
              refine (ix_Right_c T a3 c3 _ (HPP.out.below (by assumption)) (by have := HL3.out; omega)).mono ?_
              rintro e wx ⟨rfl, hbx⟩
              rw [HXR.out]
              go_wp2_with fail
              refine hK.out _ _ ?_ (fun hHeld => ?_)
              · (first | exact ⟨(Below.refl _ _).drew, x9⟩ | (go_split_ands; exact ⟨Tx.step (by assumption) hbx, cell_later hbx (by assumption)⟩))
              clear hK K
              try simp only [Act.put, List.setIfInBounds_toArray, List.set_cons_zero, List.set_cons_succ]
              refine wpAnyH_take (i := 2) (oi := ⟨some 98, _, _, _, _, _⟩) (v := .bool true) rfl (by kernel_rfl) (by kernel_rfl) (by kernel_rfl) (fun _ _ _ h => h) (Or.inl ⟨by rfl, ?_⟩) (by assumption) ?_
              · intro w hSw; (try dsimp only at hSw); go_simp
              simp only [Act.put, List.setIfInBounds_toArray, List.set_cons_zero, List.set_cons_succ]
              refine wpAnyH_take (i := 3) (oi := ⟨some 99, _, _, _, _, _⟩) (v := .bool false) rfl (by kernel_rfl) (by kernel_rfl) (by kernel_rfl) (fun _ _ _ h => h) (Or.inl ⟨by rfl, ?_⟩) (by assumption) ?_
              · intro w hSw; (try dsimp only at hSw); go_simp
              simp only [Act.put, List.setIfInBounds_toArray, List.set_cons_zero, List.set_cons_succ]
              refine wpAnyH_take (i := 4) (oi := ⟨some 100, _, _, _, _, _⟩) (v := .bool true) rfl (by kernel_rfl) (by kernel_rfl) (by kernel_rfl) (fun _ _ _ h => h) (Or.inl ⟨by rfl, ?_⟩) (by assumption) ?_
              · intro w hSw; (try dsimp only at hSw); go_simp
              simp only [Act.put, List.setIfInBounds_toArray, List.set_cons_zero, List.set_cons_succ]
              refine wpAnyH_take (i := 5) (oi := ⟨some 101, _, _, _, _, _⟩) (v := .bool true) rfl (by kernel_rfl) (by kernel_rfl) (by kernel_rfl) (fun _ _ _ h => h) (Or.inl ⟨by rfl, ?_⟩) (by assumption) ?_
              · intro w hSw; (try dsimp only at hSw); go_simp
              simp only [Act.put, List.setIfInBounds_toArray, List.set_cons_zero, List.set_cons_succ]
              refine wpAnyH_take (i := 6) (oi := ⟨some 102, _, _, _, _, _⟩) (v := undef) rfl (by kernel_rfl) (by kernel_rfl) (by kernel_rfl) (fun _ _ _ h => h) (Or.inr ⟨by rfl, rfl⟩) (by assumption) ?_
              simp only [Act.put, List.setIfInBounds_toArray, List.set_cons_zero, List.set_cons_succ]
              refine wpAnyH_take (i := 7) (oi := ⟨some 103, _, _, _, _, _⟩) (v := undef) rfl (by kernel_rfl) (by kernel_rfl) (by kernel_rfl) (fun _ _ _ h => h) (Or.inr ⟨by rfl, rfl⟩) (by assumption) ?_
              simp only [Act.put, List.setIfInBounds_toArray, List.set_cons_zero, List.set_cons_succ]
              refine wpAnyH_take (i := 8) (oi := ⟨some 104, _, _, _, _, _⟩) (v := undef) rfl (by kernel_rfl) (by kernel_rfl) (by kernel_rfl) (fun _ _ _ h => h) (Or.inr ⟨by rfl, rfl⟩) (by assumption) ?_
              simp only [Act.put, List.setIfInBounds_toArray, List.set_cons_zero, List.set_cons_succ]
              refine wpAnyH_take (i := 9) (oi := ⟨some 105, _, _, _, _, _⟩) (v := undef) rfl (by kernel_rfl) (by kernel_rfl) (by kernel_rfl) (fun _ _ _ h => h) (Or.inr ⟨by rfl, rfl⟩) (by assumption) ?_
              simp only [Act.put, List.setIfInBounds_toArray, List.set_cons_zero, List.set_cons_succ]
              refine wpAnyH_take (i := 10) (oi := ⟨some 106, _, _, _, _, _⟩) (v := undef) rfl (by kernel_rfl) (by kernel_rfl) (by kernel_rfl) (fun _ _ _ h => h) (Or.inr ⟨by rfl, rfl⟩) (by assumption) ?_
              simp only [Act.put, List.setIfInBounds_toArray, List.set_cons_zero, List.set_cons_succ]
              refine wpAnyH_take (i := 11) (oi := ⟨some 107, _, _, _, _, _⟩) (v := undef) rfl (by kernel_rfl) (by kernel_rfl) (by kernel_rfl) (fun _ _ _ h => h) (Or.inr ⟨by rfl, rfl⟩) (by assumption) ?_
              simp only [Act.put, List.setIfInBounds_toArray, List.set_cons_zero, List.set_cons_succ]
              refine wpAnyH_take (i := 12) (oi := ⟨some 108, _, _, _, _, _⟩) (v := undef) rfl (by kernel_rfl) (by kernel_rfl) (by kernel_rfl) (fun _ _ _ h => h) (Or.inr ⟨by rfl, rfl⟩) (by assumption) ?_
              simp only [Act.put, List.setIfInBounds_toArray, List.set_cons_zero, List.set_cons_succ]
              refine wpAnyH_take (i := 13) (oi := ⟨some 109, _, _, _, _, _⟩) (v := undef) rfl (by kernel_rfl) (by kernel_rfl) (by kernel_rfl) (fun _ _ _ h => h) (Or.inr ⟨by rfl, rfl⟩) (by assumption) ?_
              simp only [Act.put, List.setIfInBounds_toArray, List.set_cons_zero, List.set_cons_succ]
              refine wpAnyH_take (i := 14) (oi := ⟨some 110, _, _, _, _, _⟩) (v := undef) rfl (by kernel_rfl) (by kernel_rfl) (by kernel_rfl) (fun _ _ _ h => h) (Or.inr ⟨by rfl, rfl⟩) (by assumption) ?_
              simp only [Act.put, List.setIfInBounds_toArray, List.set_cons_zero, List.set_cons_succ]
              refine wpAnyH_take (i := 15) (oi := ⟨some 111, _, _, _, _, _⟩) (v := .bool true) rfl (by kernel_rfl) (by kernel_rfl) (by kernel_rfl) (fun _ _ _ h => h) (Or.inl ⟨by rfl, ?_⟩) (by assumption) ?_
              · intro w hSw; (try dsimp only at hSw); go_simp
              simp only [Act.put, List.setIfInBounds_toArray, List.set_cons_zero, List.set_cons_succ]
              refine wpAnyH_take (i := 16) (oi := ⟨some 112, _, _, _, _, _⟩) (v := .bool true) rfl (by kernel_rfl) (by kernel_rfl) (by kernel_rfl) (fun _ _ _ h => h) (Or.inl ⟨by rfl, ?_⟩) (by assumption) ?_
              · intro w hSw; (try dsimp only at hSw); go_simp
              simp only [Act.put, List.setIfInBounds_toArray, List.set_cons_zero, List.set_cons_succ]
              refine wpAnyH_take (i := 17) (oi := ⟨some 2, _, _, _, _, _⟩) (v := .bool true) rfl (by kernel_rfl) (by kernel_rfl) (by kernel_rfl) (fun _ _ _ h => h) (Or.inl ⟨by rfl, ?_⟩) (by assumption) ?_
              · intro w hSw; (try dsimp only at hSw); go_simp
              simp only [Act.put, List.setIfInBounds_toArray, List.set_cons_zero, List.set_cons_succ]
              refine wpAnyH_done (by kernel_rfl) ?_ _
              go_split_ands
              go_wp2
              go_ret
              exact ⟨Tx.retb (by simp), Tx.step HBWP.out (by assumption)⟩
            | true =>
              have HXY : Hid (T.map (·.1) = Y.map (·.1)) := Lib.hid (by rw [HM3.out, HS.out.map]; exact Ix.bld_ys _ (Nat.le_refl _) HDN.out)
              have HRV : Hid (Ix.build rs.reverse = Ix.build rs) := Lib.hid (Ix.build_rev (Ix.dist_of HDN.out))
              have CB : Hid (∀ w', Below wp.heap.size wp w' → Calls Tryz.prog 17 #[.slice a9 rs.length c9] w' fun e w'' => (∃ a' c' T', e = .returned (.agg #[.slice a' (List.length T') c']) ∧ Ix.PsA w'' a' c' T' ∧ T'.map (·.1) = Ix.build rs.reverse ∧ T'.length ≤ 50000000 ∧ Below w'.heap.size w' w'')) := Lib.hid (fun w' h9 => by
                have h8 := ix_Build_c rs.reverse a9 c9 w' (HGP.out.below h9) (HBKR.out.below h9) (by rw [List.length_reverse]; exact Nat.le_trans HF.out.len (by decide)) (fun r hr => HF.out.mod r (List.mem_reverse.1 hr)) (fun r hr => HF.out.gd r (List.mem_reverse.1 hr)) (fun r hr => by have := HF.out.id r (List.mem_reverse.1 hr); omega)
                rw [List.length_reverse] at h8
                exact h8)
              have t1 : True := trivial
              go_wp2
              go_region_held3 (fun w' => Below wp.heap.size wp w' ∧ w'.cell? ⟨p, 0, none⟩ = some (.slice a3 T.length c3) ∧ w'.cell? ⟨q, 0, none⟩ = some (.slice ya Y.length yc))
                (first | exact ⟨(Below.refl _ _).drew, x9, y9⟩ | (go_split_ands; exact ⟨Tx.step (by assumption) hbx, cell_later hbx (by assumption), cell_later hbx (by assumption)⟩))
                (first
                  | (go_split_ands; go_at_call 16; refine (r20_Same_c T8 T a8 a3 c8 c3 _ HP8.out (HPP.out.below (by assumption)) (by rw [HM8.out, HRV.out, HM3.out])).mono ?_; rintro e wx ⟨rfl, hbx⟩)
                  | (go_split_ands; go_at_call 16; have _q := t1; clear t1 _q; refine (r20_Same_c T Y a3 ya c3 yc _ (HPP.out.below (by assumption)) (HPYP.out.below (by assumption)) HXY.out).mono ?_; rintro e wx ⟨rfl, hbx⟩)
                  | (go_split_ands; go_at_call 19; refine (ix_Right_c T a3 c3 _ (HPP.out.below (by assumption)) (by have := HL3.out; omega)).mono ?_; rintro e wx ⟨rfl, hbx⟩; rw [HXR.out])
                  | (go_split_ands; go_at_call 17; refine (CB.out _ (by assumption)).mono ?_; rintro e wx ⟨a8, c8, T8, rfl, hp8, hm8, _, hbx⟩; have HP8 := Lib.hid hp8; have HM8 := Lib.hid hm8; clear hp8 hm8))
              all_goals
                go_split_ands
                go_wp2
                go_ret
                exact ⟨Tx.retb (by simp), Tx.step HBWP.out (by assumption)⟩
end Go.Proofs.YtcjalpegffldaaaGreatDoor
