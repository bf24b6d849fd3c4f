/- The program's Drop: what it returns. -/
import Derived.Test.YtcjalpegffldaaaGreatDoorJq
import Derived.BigQuiet
import Derived.Test.YtcjalpegffldaaaGreatDoorJm
namespace Go.Proofs.YtcjalpegffldaaaGreatDoor
open Go.RowKit
set_option maxRecDepth 100000

theorem ix_del_any (T : List Ix.PT) (v : Value) (B bx : Nat) (id : Int) (w : World) (hown : Ix.OwnP w B v T) (hC : Ix.CapI w bx id) (hbx : v.ownBlock ≠ some bx) (hn : T.length ≤ 100000000) :
    Calls Tryz.prog 65 #[v, .func (.func 85) #[] #[.pointer (some ⟨bx, 0, none⟩)]] w fun e w' => ∃ a c, e = .returned (.slice a (Ix.dropT T id).length c) ∧ Br.FA Ix.encP 4 w' a c (Ix.dropT T id) ∧ w.grownBy w' v.ownBlock ∧ (∀ q, a = some q → B ≤ q.block) := by
  rcases hown.2 with ⟨rfl, h0⟩ | ⟨g, cap, cur, rfl, hgB, hg, hcap, hmax, _⟩
  · have h9 := List.eq_nil_of_length_eq_zero h0
    subst h9
    have hf : Br.FA Ix.encP 4 w none 0 ([] : List Ix.PT) := by
      obtain ⟨a, c, e, h1, _⟩ := Br.FA.of_own Ix.encP_len hown rfl
      injection e with e1 _ e2
      subst e1 e2
      exact h1
    have HX := ix_idx_c [] none 0 bx id w hf hC (by simp)
    rw [List.length_nil, show Lib.idxBy (fun (_ t : Ix.PT) => t.1.id == id) [] default = -1 from rfl] at HX
    have HF := Lib.hid hf
    clear hf
    go_enter Tryz.func65, Tryz.ntmps65
    go_wp2_with (go_at_call 84; ((with_reducible refine HX.mono ?_); rintro e w1 ⟨rfl, hb1⟩; have hsz1 := hb1.size))
    go_ret
    exact ⟨none, 0, rfl, HF.out.below hb1, ⟨hb1.os, hb1.tape, hb1.output, hb1.size, fun k hk _ => hb1.block k hk⟩, fun q hq => by cases hq⟩
  · have hb : bx ≠ g := fun e => hbx (by rw [e]; rfl)
    refine (ix_del_c T B g cap bx id w hown hC hb hn).mono ?_
    rintro e w' ⟨rfl, hD, hG⟩
    refine ⟨some ⟨g, 0, none⟩, cap, rfl, ⟨Nat.le_trans (List.length_filter_le _ _) hcap, hmax, g, 0, fun _ => ⟨rfl, ?_⟩, fun j i x u hx hu => ?_⟩, hG, fun q hq => by cases hq; exact hgB⟩
    · exact Nat.lt_of_lt_of_le (hown.lt g rfl).2 hG.size
    · rw [Nat.zero_add]; exact hD.cells j x hx i u hu

set_option maxHeartbeats 1600000 in
theorem ix_Drop_c (T : List Ix.PT) (a : Option Addr) (c : Nat) (id : Int) (w : World) (h : Ix.PsA w a c T) (hn : T.length ≤ 100000000) :
    Calls Tryz.prog 31 #[.agg #[.slice a T.length c], .int .i64 id] w fun e w' => ∃ a' c', e = .returned (.agg #[.slice a' (Ix.dropT T id).length c']) ∧ Ix.PsA w' a' c' (Ix.dropT T id) ∧ Below w.heap.size w w' := by
  obtain ⟨W, hW⟩ : ∃ W, (w.alloc (.cells #[.slice a T.length c] 34)).alloc (.cells #[.slice none 0 0] 34) = W := ⟨_, rfl⟩
  have hB : Below w.heap.size w W := by rw [← hW]; exact (Tx.newb _ _).alloc (by simp) _
  have c0 : W.cell? ⟨w.heap.size, 0, none⟩ = some (.slice a T.length c) := by rw [← hW]; simp
  have KR : Hid (W.heap[w.heap.size + 1]? = some (.cells #[.slice none 0 0] 34 (0, 0))) := Lib.hid (by rw [← hW]; simpa using heap_alloc_new (w.alloc (.cells #[.slice a T.length c] 34)) _)
  have HA := Lib.hid h.ats
  have HS := Lib.hid (h.fa.below hB); clear h
  have hbB := hB.size
  have hsW : W.heap.size = w.heap.size + 2 := by rw [← hW]; simp
  have hc1 := ClonePost_c T a c W HS.out hn
  go_enter Tryz.func31, Tryz.ntmps31
  go_wp2_with (first
    | (go_at_call 62; ((with_reducible refine hc1.mono ?_); rintro e w1 ⟨v1, rfl, hown1, hb1⟩; have HO1 := Lib.hid hown1; have hsz1 := hb1.size; clear hown1))
    | (go_at_call 61; ((with_reducible refine (ix_of_c id _).mono ?_); rintro e w2 ⟨bx, rfl, hC2, hfr, hb2⟩; have HC2 := Lib.hid hC2; have hsz2 := hb2.size; have HO2 := Lib.hid (own_below HO1.out hb2); have HN2 : Hid (v1.ownBlock ≠ some bx) := Lib.hid (fun e9 => by have := (HO1.out.lt _ e9).2; omega); have HB2 := Lib.hid (hb1.trans (hb2.mono hsz1)); clear hC2))
    | (go_at_call 65; ((with_reducible refine (ix_del_any T _ W.heap.size bx id _ HO2.out HC2.out HN2.out hn).mono ?_); rintro e w3 ⟨a3, c3, rfl, hf3, hg3, hq3⟩; have HF3 := Lib.hid hf3; have HB3 := Lib.hid (HB2.out.grown hg3 (by omega) (fun j hj => (HO1.out.lt j hj).1)); have hsz3 := HB3.out.size; obtain ⟨rc, rf, rl⟩ := Tx.blk (Tx.blk_later KR.out HB3.out); clear hf3 hg3)))
  have HW3 := Lib.hid (Tx.step hB HB3.out)
  refine bodyPost_ret (v := .agg #[.slice a3 (Ix.dropT T id).length c3]) (by simp [results, Tryz.results31, go_sem, rc]) rfl ⟨a3, c3, rfl, ?_, ?_⟩
  · exact ⟨HF3.out.set (fun _ g hg => by have := hq3 g hg; omega) _ _, fun t ht => (HA.out t (List.mem_filter.1 ht).1).below (HW3.out.setCell (by simp) _)⟩
  · exact HW3.out.setCell (by simp) _
end Go.Proofs.YtcjalpegffldaaaGreatDoor

/- The program's Add: what it returns. -/
namespace Go.Proofs.YtcjalpegffldaaaGreatDoor
open Go.RowKit
set_option maxRecDepth 100000

set_option maxHeartbeats 1600000 in
theorem ix_Add_none (T : List Ix.PT) (a : Option Addr) (c : Nat) (r : Rc.Rd) (ra : Option Addr) (rc : Nat) (w : World) (h : Ix.PsA w a c T) (hn : T.length ≤ 100000000) (hk : r.id < 1 ∨ Ix.known (T.map (·.1)) r.id = true) :
    Calls Tryz.prog 29 #[.agg #[.slice a T.length c], .agg #[.int .i64 r.id, .int .i64 r.ver, .int .i64 r.kind, .string r.lang, .slice ra r.fields.length rc]] w fun e w' => e = .returned (.agg #[.slice a T.length c]) ∧ Ix.PsA w' a c T ∧ Below w.heap.size w w' := by
  obtain ⟨W, hW⟩ : ∃ W, ((w.alloc (.cells #[.slice a T.length c] 34)).alloc (.cells #[.int .i64 r.id, .int .i64 r.ver, .int .i64 r.kind, .string r.lang, .slice ra r.fields.length rc] 24)).alloc (.cells #[.slice none 0 0] 34) = W := ⟨_, rfl⟩
  have hB : Below w.heap.size w W := by rw [← hW]; exact ((Tx.newb _ _).alloc (by simp) _).alloc (by simp; omega) _
  have hsW : W.heap.size = w.heap.size + 3 := by rw [← hW]; simp
  have K0 : W.heap[w.heap.size]? = some (.cells #[.slice a T.length c] 34 (0, 0)) := by rw [← hW]; exact (hp_alloc_lt (by simp; omega) _).trans ((hp_alloc_lt (by simp) _).trans (heap_alloc_new w _))
  have K1 : W.heap[w.heap.size + 1]? = some (.cells #[.int .i64 r.id, .int .i64 r.ver, .int .i64 r.kind, .string r.lang, .slice ra r.fields.length rc] 24 (0, 0)) := by rw [← hW]; exact (hp_alloc_lt (by simp) _).trans (by simpa using heap_alloc_new (w.alloc (.cells #[.slice a T.length c] 34)) (.cells #[.int .i64 r.id, .int .i64 r.ver, .int .i64 r.kind, .string r.lang, .slice ra r.fields.length rc] 24))
  have K2 : Hid (W.heap[w.heap.size + 2]? = some (.cells #[.slice none 0 0] 34 (0, 0))) := Lib.hid (by rw [← hW]; simpa using heap_alloc_new ((w.alloc (.cells #[.slice a T.length c] 34)).alloc (.cells #[.int .i64 r.id, .int .i64 r.ver, .int .i64 r.kind, .string r.lang, .slice ra r.fields.length rc] 24)) (.cells #[.slice none 0 0] 34))
  have c0 : W.cell? ⟨w.heap.size, 0, none⟩ = some (.slice a T.length c) := (Tx.blk K0).1 0
  have c4 : W.cell? ⟨w.heap.size + 1, 0, none⟩ = some (.int .i64 r.id) := (Tx.blk K1).1 0
  have HS := Lib.hid (h.below hB)
  have HF := Lib.hid h
  clear h K0 K1
  by_cases hid : r.id < 1
  · have hd : decide (r.id ≤ 0) = true := by simp; omega
    have hd2 : r.id ≤ 0 := by omega
    obtain ⟨kc, kf, kl⟩ := Tx.blk K2.out
    clear hid hk
    go_enter Tryz.func29, Tryz.ntmps29
    go_wp2
    go_quiet (fail)
    all_goals go_wp2
    all_goals
      refine bodyPost_ret (v := .agg #[.slice a T.length c]) (by simp [results, Tryz.results29, go_sem, kc]) rfl ⟨rfl, HF.out.below ?_, ?_⟩
      all_goals exact (Tx.below_drewN hB _).setCell (Nat.le_add_right _ 2) _
  · have hkn : (T.any fun t => t.1.id == r.id) = true := by rw [← Ix.known_map]; exact hk.resolve_left hid
    have HK := Lib.hid hkn
    have hd : decide (r.id ≤ 0) = false := by simp; omega
    have hd2 : ¬ r.id ≤ 0 := by omega
    clear hid hk hkn
    go_enter Tryz.func29, Tryz.ntmps29
    go_wp2
    clear hW
    go_region_held3 (fun w' => Below W.heap.size W w' ∧ w'.cell? ⟨w.heap.size, 0, none⟩ = some (.slice a T.length c) ∧ w'.cell? ⟨w.heap.size + 1, 0, none⟩ = some (.int .i64 r.id))
      (first | exact ⟨(Below.refl _ _).drew, c0, c4⟩ | (go_split_ands; exact ⟨Tx.step (by assumption) hbx, cell_later hbx (by assumption), cell_later hbx (by assumption)⟩))
      (first
        | (go_split_ands; go_at_call 60; refine (ix_has_c T a c bx r.id _ (HS.out.fa.below (by assumption)) HC2.out (by omega)).mono ?_; rintro e wx ⟨rfl, hbx⟩; rw [HK.out])
        | (go_at_call 61; refine (ix_of_c r.id _).mono ?_; rintro e wx ⟨bx, rfl, hC2, hfr, hbx⟩; have HC2 := Lib.hid hC2; clear hC2))
    go_split_ands
    have hbA : Below W.heap.size W wx := by assumption
    obtain ⟨kc, kf, kl⟩ := Tx.blk (Tx.blk_later K2.out hbA)
    have HBA := Lib.hid hbA
    go_wp2
    refine bodyPost_ret (v := .agg #[.slice a T.length c]) (by simp [results, Tryz.results29, go_sem, kc]) rfl ⟨rfl, HF.out.below ?_, ?_⟩
    all_goals exact (Tx.step hB HBA.out).setCell (Nat.le_add_right _ 2) _

set_option maxHeartbeats 6400000 in
theorem ix_Add_some (T : List Ix.PT) (a : Option Addr) (c : Nat) (r : Rc.Rd) (ra : Option Addr) (rc : Nat) (w : World) (hG : G w) (h : Ix.PsA w a c T) (hn : T.length ≤ 100000000) (hA : Ix.Asc (T.map (·.1))) (h1 : 1 ≤ r.id) (hk : Ix.known (T.map (·.1)) r.id = false) (hr : Rc.FldA w ra rc r.fields) (hM : Ix.Mod r.fields) (hV : ∀ f ∈ r.fields, Rc.Gd f) :
    Calls Tryz.prog 29 #[.agg #[.slice a T.length c], .agg #[.int .i64 r.id, .int .i64 r.ver, .int .i64 r.kind, .string r.lang, .slice ra r.fields.length rc]] w fun e w' => (∃ a' c' T', e = .returned (.agg #[.slice a' (List.length T') c']) ∧ Ix.PsA w' a' c' T' ∧ T'.map (·.1) = Ix.add (T.map (·.1)) r ∧ T'.length ≤ T.length + 1000000 ∧ Below w.heap.size w w') := by
  obtain ⟨i0, hi0, hz0, hz1, hz2⟩ := info_parts info_post
  have HI := Lib.hid hi0; clear hi0
  obtain ⟨W, hW⟩ : ∃ W, ((w.alloc (.cells #[.slice a T.length c] 34)).alloc (.cells #[.int .i64 r.id, .int .i64 r.ver, .int .i64 r.kind, .string r.lang, .slice ra r.fields.length rc] 24)).alloc (.cells #[.slice none 0 0] 34) = W := ⟨_, rfl⟩
  have hB : Below w.heap.size w W := by rw [← hW]; exact ((Tx.newb _ _).alloc (by simp) _).alloc (by simp; omega) _
  have hsW : w.heap.size + 2 < W.heap.size := by rw [← hW]; simp
  have K1 : W.heap[w.heap.size + 1]? = some (.cells #[.int .i64 r.id, .int .i64 r.ver, .int .i64 r.kind, .string r.lang, .slice ra r.fields.length rc] 24 (0, 0)) := by rw [← hW]; exact (hp_alloc_lt (by simp) _).trans (by simpa using heap_alloc_new (w.alloc (.cells #[.slice a T.length c] 34)) (.cells #[.int .i64 r.id, .int .i64 r.ver, .int .i64 r.kind, .string r.lang, .slice ra r.fields.length rc] 24))
  have K0 : W.heap[w.heap.size]? = some (.cells #[.slice a T.length c] 34 (0, 0)) := by rw [← hW]; exact (hp_alloc_lt (by simp; omega) _).trans ((hp_alloc_lt (by simp) _).trans (heap_alloc_new w _))
  have K2 : Hid (W.heap[w.heap.size + 2]? = some (.cells #[.slice none 0 0] 34 (0, 0))) := Lib.hid (by rw [← hW]; simpa using heap_alloc_new ((w.alloc (.cells #[.slice a T.length c] 34)).alloc (.cells #[.int .i64 r.id, .int .i64 r.ver, .int .i64 r.kind, .string r.lang, .slice ra r.fields.length rc] 24)) (.cells #[.slice none 0 0] 34))
  have c0 : W.cell? ⟨w.heap.size, 0, none⟩ = some (.slice a T.length c) := (Tx.blk K0).1 0
  have r0 : W.cell? ⟨w.heap.size + 1, 0, none⟩ = some (.int .i64 r.id) := (Tx.blk K1).1 0
  have r1 : W.cell? ⟨w.heap.size + 1, 1, none⟩ = some (.int .i64 r.ver) := (Tx.blk K1).1 1
  have r2 : W.cell? ⟨w.heap.size + 1, 2, none⟩ = some (.int .i64 r.kind) := (Tx.blk K1).1 2
  have r3 : W.cell? ⟨w.heap.size + 1, 3, none⟩ = some (.string r.lang) := (Tx.blk K1).1 3
  have r4 : W.cell? ⟨w.heap.size + 1, 4, none⟩ = some (.slice ra r.fields.length rc) := (Tx.blk K1).1 4
  have HS := Lib.hid (h.below hB)
  have HH := Lib.hid h
  have HF := Lib.hid (hr.below hB)
  have HGW := Lib.hid (hG.below hB)
  have HM := Lib.hid hM
  have HV := Lib.hid hV
  have HAS := Lib.hid hA
  have HKN := Lib.hid hk
  have HK : Hid ((T.any fun t => t.1.id == r.id) = false) := Lib.hid (by rw [← Ix.known_map]; exact hk)
  have hd : decide (r.id ≤ 0) = false := by simp; omega
  have hd2 : ¬ r.id ≤ 0 := by omega
  clear h hr hG hM hV hA hk K0 K1
  go_enter Tryz.func29, Tryz.ntmps29
  go_wp2
  clear hW
  go_region_held3 (fun w' => Below W.heap.size W w' ∧ w'.cell? ⟨w.heap.size, 0, none⟩ = some (.slice a T.length c) ∧ w'.cell? ⟨w.heap.size + 1, 0, none⟩ = some (.int .i64 r.id))
    (first | exact ⟨(Below.refl _ _).drew, c0, r0⟩ | (go_split_ands; exact ⟨Tx.step (by assumption) hbx, cell_later hbx (by assumption), cell_later hbx (by assumption)⟩))
    (first
      | (go_split_ands; go_at_call 60; refine (ix_has_c T a c bx r.id _ (HS.out.fa.below (by assumption)) HC2.out (by omega)).mono ?_; rintro e wx ⟨rfl, hbx⟩; rw [HK.out])
      | (go_at_call 61; refine (ix_of_c r.id _).mono ?_; rintro e wx ⟨bx, rfl, hC2, hfr, hbx⟩; have HC2 := Lib.hid hC2; clear hC2))
  go_split_ands
  have hbA : Below W.heap.size W wx := by assumption
  have HBA := Lib.hid hbA
  obtain ⟨V, hVe⟩ : ∃ V, V = wx := ⟨_, rfl⟩
  subst hVe
  have v0 := cell_later hbA c0
  have x0 := cell_later hbA r0
  have x1 := cell_later hbA r1
  have x2 := cell_later hbA r2
  have x3 := cell_later hbA r3
  have x4 := cell_later hbA r4
  have HK2 := Lib.hid (Tx.blk_later K2.out hbA)
  have hbv := hbA.size
  have CL : Hid (∀ w', Below V.heap.size V w' → Calls Tryz.prog 62 #[.slice a T.length c] w' fun e w'' => ∃ v, e = .returned v ∧ Ix.OwnP w'' w'.heap.size v T ∧ Below w'.heap.size w' w'') := Lib.hid (fun w' hb' => ClonePost_c T a c w' ((HS.out.fa.below HBA.out).below hb') hn)
  have CP : Hid (∀ w', Below V.heap.size V w' → Calls Tryz.prog 47 #[.agg #[.int .i64 r.id, .int .i64 r.ver, .int .i64 r.kind, .string r.lang, .slice ra r.fields.length rc]] w' fun e w'' => (∃ v T, e = .returned v ∧ Ix.OwnP w'' w'.heap.size v T ∧ Ix.Ats w'' T ∧ (∀ t ∈ T, ∀ g, t.2.1 = some g → w'.heap.size ≤ g.block) ∧ T.map (·.1) = Ix.posts r ∧ List.length T ≤ 1000000 ∧ Below w'.heap.size w' w'')) := Lib.hid (fun w' hb' => ix_posts_c r ra rc w' (HGW.out.below (Tx.step HBA.out hb')) ((HF.out.below HBA.out).below hb') HM.out HV.out)
  have hbq := (Below.refl V.heap.size V).drew
  have hq9 := hbq.size
  have HN1 : Hid (T.length + 1000000 ≤ maxLen) := Lib.hid (by unfold maxLen; omega)
  clear c0 r0 r1 r2 r3 r4 hbx hbA
  go_wp2
  go_region_law (first
    | (refine step_append_sl2 _ (by rfl) _ _ 32 (by rfl) V.heap.size 52 i0 _ 4 56 Tryz.underlying32 HI.out hz0 hz1 hz2 (by rfl) (by decide) _ T.length _ (by rfl) HOA5.out a5 T5.length c5 (T5.flatMap Ix.encP) (by rfl) (Br.flat_len Ix.encP 4 Ix.encP_len T5) HP5.out.fa.none (HP5.out.fa.cells Ix.encP_len (by decide)) (Br.flat_one Ix.p_one T5) (by have := HN1.out; omega) (by omega) (by omega) ?_; intro v7 w7 hown7 hg7 hv7; obtain ⟨a7, c7, rfl, _⟩ := own_shape2 hown7; have HV7 := Lib.hid hv7; have HO7 := Lib.hid hown7; have HG7 := Lib.hid hg7; clear hv7 hown7 hg7)
    | (go_simp; go_at_call 47; ((with_reducible refine (CP.out _ hb2).mono ?_); rintro e w5 ⟨v5, T5, rfl, hown5, hat5, hlo5, hmap5, hl5, hb5⟩; have HMP := Lib.hid hmap5; have HAT5 := Lib.hid hat5; have HLO5 := Lib.hid hlo5; obtain ⟨a5, c5, rfl, hps5, _⟩ := Ix.OwnP.ps hown5 hat5; have HP5 := Lib.hid hps5; have HOA5 := Lib.hid (own_below HO2.out hb5); have hs5 := hb5.size; have HB5 := Lib.hid hb5; clear hmap5 hat5 hlo5 hps5 hown5 hb5))
    | (go_simp; go_at_call 62; ((with_reducible refine (CL.out _ hbq).mono ?_); rintro e w2 ⟨v2, rfl, hown2, hb2x⟩; have hb2 := Tx.step hbq hb2x; have hs2 := hb2.size; obtain ⟨a2, c2, rfl, _⟩ := own_shape2 hown2; have HO2 := Lib.hid (Ix.row_lower hown2 hq9); have y0 := cell_later hb2 x0; have y1 := cell_later hb2 x1; have y2 := cell_later hb2 x2; have y3 := cell_later hb2 x3; have y4 := cell_later hb2 x4; clear hown2 hb2x)))
  all_goals
    have hsep : ∀ t ∈ T, t.1.at_ ≠ [] → ∀ g, t.2.1 = some g → g.block < w.heap.size := fun t ht hne g hg => (HH.out.ats t ht).lt hne g hg
    have hVB : Below w.heap.size w V := Tx.step hB HBA.out
    have hBS : Ix.BuS w2 V.heap.size (.slice a2 T.length c2) T := ⟨HO2.out, HS.out.ats.below (Tx.step HBA.out hb2), fun t ht hne g hg e9 => by
      have h7 := (HO2.out.lt _ e9).1
      have h8 := hsep t ht hne g hg
      have h9 := hVB.size
      omega⟩
    have hB7 := hBS.app HB5.out HAT5.out HLO5.out HG7.out HO7.out HV7.out
    have hl7 : (T ++ T5).length < 1000000000 := by rw [List.length_append]; omega
    have HB7 := Lib.hid hB7
    have HSEP := Lib.hid hsep
    have HVB := Lib.hid hVB
    have HL7 := Lib.hid hl7
    clear hBS hB7 hsep hVB hl7
    go_wp2_with (go_at_call 48; ((with_reducible refine (ix_sorted_c HB7.out.own HL7.out).mono ?_); rintro e w8 ⟨rfl, S, hperm, hpw, hownS, hg8⟩; have HG8 := Lib.hid hg8; have HOS := Lib.hid hownS; have HPW := Lib.hid hpw; have hblk := (hg8.block (w.heap.size + 2) (Nat.lt_of_lt_of_le (Nat.lt_of_lt_of_le hsW hbv) (Nat.le_trans hs2 (Nat.le_trans hs5 HG7.out.size))) (fun e9 => by have := (HB7.out.own.lt _ e9.symm).1; omega)).trans ((HG7.out.block (w.heap.size + 2) (by omega) (fun e9 => by have := (HO2.out.lt _ e9.symm).1; omega)).trans ((HB5.out.block _ (by omega)).trans ((hb2.block _ (by omega)).trans HK2.out))); obtain ⟨kc, kf, kl⟩ := Tx.blk hblk; clear hg8 hownS hpw))
    have hl9 : S.length = T.length + T5.length := by rw [hperm.length_eq, List.length_append]
    have hBS8 := HB7.out.sorted hperm HG8.out HOS.out
    obtain ⟨a9, c9, e9, hps9, hlo9⟩ := Ix.OwnP.ps HOS.out hBS8.ats
    injection e9 with e9a _ e9c
    subst e9a e9c
    have hb5 : Below V.heap.size V w5 := Tx.step hb2 HB5.out
    have hb7 : Below V.heap.size V w7 := hb5.grown HG7.out hb5.size (fun j hj => (HO2.out.lt j hj).1)
    have hb8 : Below V.heap.size V w8 := hb7.grown HG8.out hb7.size (fun j hj => (HB7.out.own.lt j hj).1)
    have hmap9 : S.map (·.1) = Ix.add (T.map (·.1)) r := Ix.add_sorted HAS.out HKN.out h1 (by rw [← HMP.out, ← List.map_append]; exact hperm.map _) (by rw [List.pairwise_map]; exact HPW.out)
    have hfar : Ix.Far S a7 (w.heap.size + 2) := ⟨fun _ g hg => by have := hlo9 g hg; omega, fun t ht hne g hg => by
      rcases List.mem_append.1 (hperm.mem_iff.1 ht) with h7 | h7
      · have := HSEP.out t h7 hne g hg; omega
      · have := HLO5.out t h7 g hg; omega⟩
    refine bodyPost_ret (v := .agg #[.slice a7 (T.length + T5.length) c7]) (by simp [results, Tryz.results29, go_sem, kc]) rfl ⟨a7, c7, S, by rw [hl9], hps9.set hfar _ _, hmap9, by omega, ?_⟩
    exact (Tx.step HVB.out hb8).setCell (Nat.le_add_right _ 2) _

theorem ix_Add_c (T : List Ix.PT) (a : Option Addr) (c : Nat) (r : Rc.Rd) (ra : Option Addr) (rc : Nat) (w : World) (hG : G w) (h : Ix.PsA w a c T) (hn : T.length ≤ 100000000) (hA : Ix.Asc (T.map (·.1))) (hr : Rc.FldA w ra rc r.fields) (hM : Ix.Mod r.fields) (hV : ∀ f ∈ r.fields, Rc.Gd f) :
    Calls Tryz.prog 29 #[.agg #[.slice a T.length c], .agg #[.int .i64 r.id, .int .i64 r.ver, .int .i64 r.kind, .string r.lang, .slice ra r.fields.length rc]] w fun e w' => (∃ a' c' T', e = .returned (.agg #[.slice a' (List.length T') c']) ∧ Ix.PsA w' a' c' T' ∧ T'.map (·.1) = Ix.add (T.map (·.1)) r ∧ T'.length ≤ T.length + 1000000 ∧ Below w.heap.size w w') := by
  by_cases hk : r.id < 1 ∨ Ix.known (T.map (·.1)) r.id = true
  · refine (ix_Add_none T a c r ra rc w h hn hk).mono ?_
    rintro e w' ⟨rfl, h1, h2⟩
    exact ⟨a, c, T, rfl, h1, by unfold Ix.add; rw [if_pos hk], by omega, h2⟩
  · have h1 : 1 ≤ r.id := by
      rcases Int.lt_or_le r.id 1 with h9 | h9
      · exact absurd (.inl h9) hk
      · exact h9
    exact ix_Add_some T a c r ra rc w hG h hn hA h1 (by rw [Bool.eq_false_iff]; exact fun h9 => hk (.inr h9)) hr hM hV
end Go.Proofs.YtcjalpegffldaaaGreatDoor

/- Layer 20's laws: the record of the examples: what the call returns. -/
namespace Go.Proofs.YtcjalpegffldaaaGreatDoor
open Go.RowKit
set_option maxRecDepth 100000

theorem Br.FA.lit {α : Type} {enc : α → List Value} {size : Nat} (hs : ∀ x, (enc x).length = size) {w : World} {b : Nat} {xs : List α} {t : TypeId} (h : w.heap[b]? = some (.cells (xs.flatMap enc).toArray t (0, 0))) (hl : xs.length ≤ 1000) : Br.FA enc size w (some ⟨b, 0, Option.none⟩) xs.length xs := by
  refine ⟨Nat.le_refl _, by unfold maxLen; omega, b, 0, fun _ => ⟨rfl, (Array.getElem?_eq_some_iff.1 h).1⟩, fun j i x u hx hu => ?_⟩
  rw [Nat.zero_add, (Tx.blk h).1, List.getElem?_toArray, Br.flat_at enc size hs xs j i x hx (by rw [← hs x]; exact (List.getElem?_eq_some_iff.1 hu).1), hu]
theorem Ix.sub_lit {w : World} {b : Nat} {xs : List (UInt8 × ByteArray)} {t : TypeId} (h : w.heap[b]? = some (.cells (xs.flatMap Rc.encS).toArray t (0, 0))) (hl : xs.length ≤ 1000) : Rc.SubA w (some ⟨b, 0, none⟩) xs.length xs := .of_fa (Br.FA.lit Rc.encS_len h hl)
theorem Ix.heap_at (w : World) (o : Obj) (k : Nat) (h : k < w.heap.size) : (w.alloc o).heap[k]? = w.heap[k]? := Below.heap_alloc w o k h
theorem Ix.heap_set5 (w : World) (g : Nat) (v0 v1 v2 v3 v4 : Value) (k : Nat) (h : k ≠ g) : (((((w.setCell ⟨g, 0, none⟩ v0).setCell ⟨g, 1, none⟩ v1).setCell ⟨g, 2, none⟩ v2).setCell ⟨g, 3, none⟩ v3).setCell ⟨g, 4, none⟩ v4).heap[k]? = w.heap[k]? := by
  rw [Below.heap_setCell _ _ _ _ h, Below.heap_setCell _ _ _ _ h, Below.heap_setCell _ _ _ _ h, Below.heap_setCell _ _ _ _ h, Below.heap_setCell _ _ _ _ h]

set_option maxHeartbeats 1600000 in
theorem lx_dogs_c (w : World) : Calls Tryz.prog 33 #[] w fun e w' => ∃ ra, e = .returned (.agg #[.int .i64 7, .int .i64 3, .int .i64 1, .string ⟨#[101, 110, 103]⟩, .slice ra 2 2]) ∧ Rc.FldA w' ra 2 Ix.dogsR.fields ∧ Below w.heap.size w w' := by
  obtain ⟨W0, hW0⟩ : ∃ W0, w.alloc (.cells #[.int .i64 0, .int .i64 0, .int .i64 0, .string ⟨#[]⟩, .slice none 0 0] 24) = W0 := ⟨_, rfl⟩
  obtain ⟨W1, hW1⟩ : ∃ W1, W0.alloc (.cells (Ix.dg1.subs.flatMap Rc.encS).toArray 57) = W1 := ⟨_, rfl⟩
  obtain ⟨W2, hW2⟩ : ∃ W2, W1.alloc (.cells (Ix.dg2.subs.flatMap Rc.encS).toArray 57) = W2 := ⟨_, rfl⟩
  obtain ⟨p1, hp1⟩ : ∃ p1, W0.heap.size = p1 := ⟨_, rfl⟩
  obtain ⟨p2, hp2⟩ : ∃ p2, W1.heap.size = p2 := ⟨_, rfl⟩
  obtain ⟨p3, hp3⟩ : ∃ p3, W2.heap.size = p3 := ⟨_, rfl⟩
  obtain ⟨W3, hW3⟩ : ∃ W3, W2.alloc (.cells (([(Ix.dg1, some ⟨p1, 0, none⟩, 1), (Ix.dg2, some ⟨p2, 0, none⟩, 2)] : List Rc.FT).flatMap Rc.encF).toArray 55) = W3 := ⟨_, rfl⟩
  have z0 : w.heap.size < W0.heap.size := by rw [← hW0]; simp
  have z1 : W0.heap.size < W1.heap.size := by rw [← hW1]; simp
  have z2 : W1.heap.size < W2.heap.size := by rw [← hW2]; simp
  have z3 : W2.heap.size < W3.heap.size := by rw [← hW3]; simp
  have k0 : W3.heap[w.heap.size]? = some (.cells #[.int .i64 0, .int .i64 0, .int .i64 0, .string ⟨#[]⟩, .slice none 0 0] 24 (0, 0)) := by
    rw [← hW3, Ix.heap_at _ _ _ (by omega), ← hW2, Ix.heap_at _ _ _ (by omega), ← hW1, Ix.heap_at _ _ _ (by omega), ← hW0]
    exact heap_alloc_new w _
  have K1 : Hid (W3.heap[p1]? = some (.cells (Ix.dg1.subs.flatMap Rc.encS).toArray 57 (0, 0))) := Lib.hid (by
    rw [← hW3, Ix.heap_at _ _ _ (by omega), ← hW2, Ix.heap_at _ _ _ (by omega), ← hW1, ← hp1]
    exact heap_alloc_new W0 _)
  have K2 : Hid (W3.heap[p2]? = some (.cells (Ix.dg2.subs.flatMap Rc.encS).toArray 57 (0, 0))) := Lib.hid (by
    rw [← hW3, Ix.heap_at _ _ _ (by omega), ← hW2, ← hp2]
    exact heap_alloc_new W1 _)
  have K3 : Hid (W3.heap[p3]? = some (.cells (([(Ix.dg1, some ⟨p1, 0, none⟩, 1), (Ix.dg2, some ⟨p2, 0, none⟩, 2)] : List Rc.FT).flatMap Rc.encF).toArray 55 (0, 0))) := Lib.hid (by
    rw [← hW3, ← hp3]
    exact heap_alloc_new W2 _)
  have HB : Hid (Below w.heap.size w W3) := Lib.hid (by
    rw [← hW3, ← hW2, ← hW1, ← hW0]
    exact (((Tx.newb _ _).alloc (by simp) _).alloc (by simp; omega) _).alloc (by simp; omega) _)
  have HP : Hid (p1 ≠ w.heap.size ∧ p2 ≠ w.heap.size ∧ p3 ≠ w.heap.size) := Lib.hid (by omega)
  obtain ⟨kc, kf, kl⟩ := Tx.blk k0
  change W0.alloc (.cells #[.int .u8 97, .string ⟨[68, 111, 103, 115, 32, 97, 110, 100, 32, 100, 111, 103, 115].toArray⟩] 57) = W1 at hW1
  change W1.alloc (.cells #[.int .u8 97, .string ⟨[68, 111, 103, 115].toArray⟩, .int .u8 120, .string ⟨[84, 114, 97, 105, 110, 105, 110, 103].toArray⟩] 57) = W2 at hW2
  change W2.alloc (.cells #[.string ⟨[50, 52, 53].toArray⟩, .string ⟨[49, 48].toArray⟩, .slice (some ⟨p1, 0, none⟩) 1 1, .int .i64 0, .string ⟨[54, 53, 48].toArray⟩, .string ⟨[32, 48].toArray⟩, .slice (some ⟨p2, 0, none⟩) 2 2, .int .i64 0] 55) = W3 at hW3
  clear z0 z1 z2 z3 k0
  go_enter Tryz.func33, Tryz.ntmps33
  go_wp2
  have hset := fun k (h : k ≠ w.heap.size) => Ix.heap_set5 W3 w.heap.size (.int .i64 7) (.int .i64 3) (.int .i64 1) (.string ⟨#[101, 110, 103]⟩) (.slice (some ⟨p3, 0, none⟩) 2 2) k h
  refine bodyPost_ret (v := .agg #[.int .i64 7, .int .i64 3, .int .i64 1, .string ⟨#[101, 110, 103]⟩, .slice (some ⟨p3, 0, none⟩) 2 2]) (by simp [results, Tryz.results33, go_sem, kc]) rfl ⟨_, rfl, ?_, ?_⟩
  · refine Rc.FldA.of_fa (T := [(Ix.dg1, some ⟨p1, 0, none⟩, 1), (Ix.dg2, some ⟨p2, 0, none⟩, 2)]) (Br.FA.lit Rc.encF_len ((hset _ HP.out.2.2).trans K3.out) (by simp)) (fun t ht => ?_)
    rcases List.mem_cons.1 ht with rfl | ht
    · exact Ix.sub_lit ((hset _ HP.out.1).trans K1.out) (by decide)
    · rcases List.mem_cons.1 ht with rfl | ht
      · exact Ix.sub_lit ((hset _ HP.out.2.1).trans K2.out) (by decide)
      · cases ht
  · exact ((((HB.out.setCell (Nat.le_refl _) _).setCell (Nat.le_refl _) _).setCell (Nat.le_refl _) _).setCell (Nat.le_refl _) _).setCell (Nat.le_refl _) _
end Go.Proofs.YtcjalpegffldaaaGreatDoor
