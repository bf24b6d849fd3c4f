/- The reference's Put of layer 14: what the call returns. -/
import Derived.Test.YtlinaeklhkfbcaaGreatDoorPuB
import Derived.Deep.RegionHeld3
namespace Go.Proofs.YtlinaeklhkfbcaaGreatDoor
open Go.RowKit
set_option maxRecDepth 100000

theorem r14_codes_b (k : Int) (w : World) : Calls Tryz.prog 36 #[.int .i64 k] w fun e w' => e = .returned (.string ⟨(Ct.headCodes k).toArray⟩) ∧ Below w.heap.size w w' :=
  (r14_codes_c k w).mono fun _ _ ⟨h1, h2⟩ => ⟨h1, h2 ▸ Below.refl _ _⟩
theorem r14_occurs_b (x : UInt8) (codes : ByteArray) (w : World) (hs : codes.size ≤ 9223372036854775000) : Calls Tryz.prog 35 #[.int .u8 x.toNat, .string codes] w fun e w' => e = .returned (.bool (codes.data.toList.contains x)) ∧ Below w.heap.size w w' :=
  (r14_occurs_c x codes w hs).mono fun _ _ ⟨h1, h2⟩ => ⟨h1, h2 ▸ Below.refl _ _⟩
theorem Ct.partSubs_len : ∀ (l : List Rc.By) (b : Bool), (Ct.partSubs b l).length = l.length
  | [], _ => rfl
  | x :: r, b => by unfold Ct.partSubs; rw [List.length_cons, List.length_cons, Ct.partSubs_len r false]
theorem Ct.heads_len (K : Int) (h : Rc.By) : (Ct.headSubs K h).length ≤ h.length + 2 := by
  unfold Ct.headSubs
  split
  · rw [Ct.partSubs_len]
    unfold Hd.parts
    have h1 := List.length_filter_le (fun p : Rc.By => p != []) ((Lib.split h [45, 45]).map Tx.clean)
    rw [List.length_map] at h1
    have h3 := Hd.split_count (sep := [45, 45]) (by simp) h.length h (Nat.le_refl _)
    omega
  · split
    · split
      · split <;> simp
      · simp
    · simp

set_option maxHeartbeats 3200000 in
theorem r14_Put_c (f : Rc.Fl) (a : Option Addr) (c : Nat) (h : ByteArray) (w : World) (hA : Rc.SubA w a c f.subs) (hl : f.subs.length ≤ 1000) (hs : h.size ≤ 1000) (hv : Tx.valid h.data.toList = true) :
    Calls Tryz.prog 12 #[.agg #[.string f.tag, .string f.ind, .slice a f.subs.length c, .int .i64 f.auth], .string h] w fun e w' => ∃ va vc, e = .returned (.agg #[.string f.tag, .string f.ind, .slice va (Ct.putF f h.data.toList).subs.length vc, .int .i64 f.auth]) ∧ Rc.SubA w' va vc (Ct.putF f h.data.toList).subs ∧ Below w.heap.size w w' := by
  obtain ⟨i0, hi0, hz0, hz1, hz2⟩ := info_parts info_sub
  obtain ⟨W, hW⟩ : ∃ W, (w.alloc (.cells #[.string f.tag, .string f.ind, .slice a f.subs.length c, .int .i64 f.auth] 24)).alloc (.cells #[.string ⟨#[]⟩, .string ⟨#[]⟩, .slice none 0 0, .int .i64 0] 24) = W := ⟨_, rfl⟩
  have hB : Below w.heap.size w W := by rw [← hW]; exact (Tx.newb _ _).alloc (Tx.newb w _).size _
  have hWs2 : w.heap.size + 2 ≤ W.heap.size := by rw [← hW]; simp
  have kr : W.heap[w.heap.size + 1]? = some (.cells #[.string ⟨#[]⟩, .string ⟨#[]⟩, .slice none 0 0, .int .i64 0] 24 (0, 0)) := by
    rw [← hW]
    have := heap_alloc_new (w.alloc (.cells #[.string f.tag, .string f.ind, .slice a f.subs.length c, .int .i64 f.auth] 24)) (.cells #[.string ⟨#[]⟩, .string ⟨#[]⟩, .slice none 0 0, .int .i64 0] 24)
    simpa using this
  have kb : W.heap[w.heap.size]? = some (.cells #[.string f.tag, .string f.ind, .slice a f.subs.length c, .int .i64 f.auth] 24 (0, 0)) := by
    rw [← hW, Below.heap_alloc _ _ _ (by simp)]
    exact heap_alloc_new w _
  have HW := Lib.hid hW; clear hW
  have hAW := hA.below hB
  have hcap := hA.cap
  have hmax := hA.max
  have hml : maxLen = 9223372036854775807 := rfl
  have HV := Lib.hid hv; clear hv
  obtain ⟨K, hK⟩ : ∃ K, Ct.kindOf f.tag.data.toList = K := ⟨_, rfl⟩
  have HK := Lib.hid hK; clear hK
  by_cases hk0 : K = 0
  · subst hk0
    have HP : Hid (Ct.putF f h.data.toList = f) := Lib.hid (Ct.putF_0 HK.out)
    go_enter Tryz.func12, Tryz.ntmps12
    go_wp2_with (go_at_call 33; rw [HW.out]; refine (r14_Kind_c f.tag W).mono ?_; rintro e w1 ⟨rfl, hb1⟩; rw [HK.out]; obtain ⟨bc1, bf1, bl1⟩ := Tx.blk (Tx.blk_later kb hb1); obtain ⟨rc1, rf1, rl1⟩ := Tx.blk (Tx.blk_later kr hb1))
    refine bodyPost_ret (v := .agg #[.string f.tag, .string f.ind, .slice a f.subs.length c, .int .i64 f.auth]) (by simp [results, Tryz.results12, go_sem, rc1]) rfl ⟨a, c, by rw [HP.out], ?_, ?_⟩
    · rw [HP.out]
      have h2 := hAW.below hb1
      by_cases h0 : f.subs = []
      · rw [h0]
        exact ⟨by simp, hmax, 0, 0, fun h9 => absurd rfl h9, fun j x hx => by simp at hx⟩
      · have h3 : ∀ g, a = some g → g.block ≠ w.heap.size + 1 := fun g hg => by
          obtain ⟨b', o, h1, _⟩ := hA.at_
          obtain ⟨ha, hb⟩ := h1 h0
          rw [hg] at ha
          injection ha with ha
          subst ha
          show b' ≠ _
          omega
        exact (((h2.set h3).set h3).set h3).set h3
    · exact Tx.set4 (Tx.step hB hb1) (Nat.le_succ _) _ _ _ _
  · have hK0 : (K == 0) = false := by simpa using hk0
    have HK0 := Lib.hid hk0; clear hk0
    obtain ⟨L0, hL0⟩ : ∃ L0, Ct.mkS (Ct.headSubs K h.data.toList) = L0 := ⟨_, rfl⟩
    have HL0 := Lib.hid hL0; clear hL0
    obtain ⟨cd, hcd⟩ : ∃ cd : ByteArray, (⟨(Ct.headCodes K).toArray⟩ : ByteArray) = cd := ⟨_, rfl⟩
    have HC : Hid (cd.data.toList = Ct.headCodes K) := Lib.hid (by rw [← hcd])
    have hcl : cd.size ≤ 4 := by
      rw [Lib.size_eq, HC.out]
      unfold Ct.headCodes
      split
      · simp
      · split <;> simp
    have HCD := Lib.hid hcd; clear hcd
    have hLl : L0.length ≤ 1002 := by
      rw [← HL0.out]
      unfold Ct.mkS
      rw [List.length_map]
      have h9 := Ct.heads_len K h.data.toList
      rw [← Lib.size_eq] at h9
      omega
    go_enter Tryz.func12, Tryz.ntmps12
    go_wp2_with (first
      | (go_at_call 33; rw [HW.out]; refine (r14_Kind_c f.tag W).mono ?_; rintro e w1 ⟨rfl, hb1⟩; rw [HK.out]; have kb1 := Tx.blk_later kb hb1; have kr1 := Tx.blk_later kr hb1)
      | (go_at_call 34; refine (r14_subs_c K h _ hs HV.out).mono ?_; rw [HL0.out]; rintro e w2 ⟨v, rfl, hown2, hb2⟩; obtain ⟨bc2, bf2, bl2⟩ := Tx.blk (Tx.blk_later kb1 hb2)))
    have hB1 := Tx.step hB hb1
    have hA1 := hAW.below hb1
    have hb1s := hb1.size
    go_loopw [6, 7] (fun v i wr => ∃ (k : Nat) (L : List (UInt8 × ByteArray)), k ≤ f.subs.length ∧ i = .int .i64 k ∧ Hid (L = L0 ++ (f.subs.take k).filter (Ct.keepC K)) ∧ L.length ≤ L0.length + k ∧ wr.ownsRow w1.heap.size 48 2 v L.length (L.flatMap Rc.encS) ∧ Below w1.heap.size w1 wr) (fun _ i _ => f.subs.length - (intOf i).toNat)
    case atStart => exact ⟨0, L0, Nat.zero_le _, rfl, Lib.hid (by simp), Nat.le_refl _, hown2, hb2⟩
    case round =>
      obtain ⟨k, L, hk, rfl, hL, hLk, hown, hb⟩ := hrel
      have hbs := hb.size
      obtain ⟨bc, bf, bl⟩ := Tx.blk (Tx.blk_later kb1 hb)
      obtain ⟨rc, rf, rl⟩ := Tx.blk (Tx.blk_later kr1 hb)
      by_cases hlt : k < f.subs.length
      · obtain ⟨x, hx⟩ : ∃ x, f.subs[k]? = some x := ⟨_, List.getElem?_eq_getElem hlt⟩
        obtain ⟨b, o, rfl, hbl, c0, c1⟩ := hA1.get hx
        replace c0 := cell_later hb c0
        replace c1 := cell_later hb c1
        have hft := Ct.filt_take (Ct.keepC K) hx
        have hkc : Ct.keepC K x = !(cd.data.toList.contains x.1) := by rw [HC.out]; rfl
        have e2 : wr.cell? ⟨w.heap.size, 2, none⟩ = some (.slice (some ⟨b, o, none⟩) f.subs.length c) := bc 2
        have hli : (k : Int) < (f.subs.length : Int) := by omega
        obtain ⟨bb, hbb⟩ : ∃ bb, cd.data.toList.contains x.1 = bb := ⟨_, rfl⟩
        rw [hbb] at hkc
        have HBB := Lib.hid hbb; clear hbb hx
        go_wp2
        go_region_held3 (fun w' => Below wr.heap.size wr w' ∧ w'.cell? ⟨w.heap.size, 2, none⟩ = some (.slice (some ⟨b, o, none⟩) f.subs.length c) ∧ w'.cell? ⟨b, o + k * 2, none⟩ = some (.int .u8 x.1.toNat))
          (first
            | exact ⟨(Below.refl _ _).drew, e2, c0⟩
            | (go_split_ands; exact ⟨Tx.step (by assumption) hbx, cell_later hbx (by assumption), cell_later hbx (by assumption)⟩))
          (first
            | (go_at_call 36; refine (r14_codes_b K _).mono ?_; rintro e wx ⟨rfl, hbx⟩; rw [HCD.out])
            | (go_at_call 35; refine (r14_occurs_b x.1 cd _ (by omega)).mono ?_; rintro e wx ⟨rfl, hbx⟩; rw [HBB.out]))
        go_split_ands
        have hb9 : Below wr.heap.size wr wx := by assumption
        have hb10 := Tx.step hb hb9
        have hb10s := hb10.size
        have hown9 := own_below hown hb9
        obtain ⟨bc9, bf9, bl9⟩ := Tx.blk (Tx.blk_later kb1 hb10)
        have d0 := cell_later hb9 c0
        have d1 := cell_later hb9 c1
        cases bb with
        | true =>
          rw [hkc, if_neg (by decide), List.append_nil] at hft
          have HF := Lib.hid hft
          clear hft hkc
          go_wp2
          go_roundw
          case rel => exact ⟨k + 1, L, by omega, by go_num, Lib.hid (by rw [HF.out]; exact hL.out), by omega, hown9, hb10⟩
          case measure => simp [intOf]; omega
        | false =>
          rw [hkc, if_pos (by rfl : (!false) = true)] at hft
          have HF := Lib.hid hft
          clear hft hkc
          go_wp2_with (at_builtin; go_must (refine wpList_append_own _ rfl _ _ 22 rfl w1.heap.size 48 i0 _ 2 24 Tryz.underlying22 hi0 hz0 hz1 hz2 rfl (by decide) _ L.length _ rfl (hown9.alloc _) ⟨_, 0, none⟩ 1 1 (Rc.encS x) rfl rfl (Br.cells_new_at _ _ (by first | rfl | simp) #[.int .u8 x.1.toNat, .string x.2] _) (Rc.encS_one x) (by unfold maxLen; omega) (by omega) (by simp; omega) ?_); intro v' w3 hown3 hg3 hnil3)
          have hb11 : Below w1.heap.size w1 w3 := (hb10.alloc hb10s _).grown hg3 (by simp; omega) (fun j hj => (hown9.lt j hj).1)
          go_roundw
          case rel => exact ⟨k + 1, L ++ [x], by omega, by go_num, Lib.hid (by rw [HF.out, ← List.append_assoc, ← hL.out]), by simp; omega, by simpa using hown3, hb11⟩
          case measure => simp [intOf]; omega
      · obtain rfl : k = f.subs.length := by omega
        have hL2 := hL.out
        rw [List.take_length] at hL2
        have HP : Hid ((Ct.putF f h.data.toList).subs = L) := Lib.hid (by rw [Ct.putF_subs HK.out HK0.out, hL2, ← HL0.out])
        clear hL hL2
        obtain ⟨va, vc, rfl, hF, hge⟩ := Br.FA.of_own Rc.encS_len hown rfl
        have hSub := Rc.SubA.of_fa hF
        have hne1 : ∀ g, va = some g → g.block ≠ w.heap.size + 1 := fun g hg h9 => by have := hge g hg; omega
        have HNE1 := Lib.hid hne1
        have hBw := Tx.step hB1 hb
        clear hne1 hge
        go_wp2
        refine bodyPost_ret (v := .agg #[.string f.tag, .string f.ind, .slice va L.length vc, .int .i64 f.auth]) (by simp [results, Tryz.results12, go_sem, rc]) rfl ⟨va, vc, by rw [HP.out], ?_, ?_⟩
        · rw [HP.out]
          exact (((hSub.set HNE1.out).set HNE1.out).set HNE1.out).set HNE1.out
        · exact Tx.set4 hBw (Nat.le_succ _) _ _ _ _
end Go.Proofs.YtlinaeklhkfbcaaGreatDoor
