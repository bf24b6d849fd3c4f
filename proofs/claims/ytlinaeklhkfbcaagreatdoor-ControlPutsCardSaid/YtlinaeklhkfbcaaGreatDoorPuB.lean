/- The reference's codes, occurs and subs of layer 14: what the calls return. -/
import Derived.Test.YtlinaeklhkfbcaaGreatDoorPuA
import Derived.Test.YtlinaeklhkfbcaaGreatDoorHnM
import Derived.Test.YtlinaeklhkfbcaaGreatDoorKnC
namespace Go.Proofs.YtlinaeklhkfbcaaGreatDoor
open Go.RowKit
set_option maxRecDepth 100000

set_option maxHeartbeats 400000 in
theorem r14_codes_c (k : Int) (w : World) :
    Calls Tryz.prog 36 #[.int .i64 k] w fun e w' => e = .returned (.string ⟨(Ct.headCodes k).toArray⟩) ∧ w = w' := by
  by_cases h1 : k = 1
  · subst h1
    go_enter Tryz.func36, Tryz.ntmps36
    go_wp2
    go_ret
    exact ⟨rfl, rfl⟩
  · by_cases h3 : k = 3
    · subst h3
      go_enter Tryz.func36, Tryz.ntmps36
      go_wp2
      go_ret
      exact ⟨rfl, rfl⟩
    · have e1 : (k == 1) = false := by simpa using h1
      have e3 : (k == 3) = false := by simpa using h3
      have H := Lib.hid (Ct.codes_o h1 h3)
      clear h1 h3
      go_enter Tryz.func36, Tryz.ntmps36
      go_wp2
      go_ret
      exact ⟨Tx.rets (by rw [H.out]), rfl⟩

theorem Ct.occ_some {s : ByteArray} {k : Nat} {x : UInt8} (h : k < s.size) (hx : s.data.toList.getD k 0 = x) : s.data.toList.contains x = true := by
  rw [List.contains_iff_mem]
  have hk : k < s.data.toList.length := by rw [← Lib.size_eq]; exact h
  rw [List.getD_eq_getElem?_getD, List.getElem?_eq_getElem hk] at hx
  exact List.mem_iff_getElem.2 ⟨k, hk, hx⟩
theorem Ct.occ_none {s : ByteArray} {x : UInt8} (h : ∀ j, j < s.size → s.data.toList.getD j 0 ≠ x) : s.data.toList.contains x = false := by
  rw [Bool.eq_false_iff]
  intro hc
  obtain ⟨j, hj, e⟩ := List.mem_iff_getElem.1 (List.contains_iff_mem.1 hc)
  refine h j (by rw [Lib.size_eq]; exact hj) ?_
  rw [List.getD_eq_getElem?_getD, List.getElem?_eq_getElem hj]
  exact e
set_option maxHeartbeats 800000 in
theorem r14_occurs_c (x : UInt8) (codes : ByteArray) (w : World) (hs : codes.size ≤ 9223372036854775000) :
    Calls Tryz.prog 35 #[.int .u8 x.toNat, .string codes] w fun e w' => e = .returned (.bool (codes.data.toList.contains x)) ∧ w = w' := by
  obtain ⟨bb, hbb⟩ : ∃ bb, codes.data.toList.contains x = bb := ⟨_, rfl⟩
  rw [hbb]
  have HB := Lib.hid hbb; clear hbb
  go_enter Tryz.func35, Tryz.ntmps35
  go_wp2
  go_loop [5] (fun i => ∃ (k : Nat), k ≤ codes.size ∧ i = .int .i64 k ∧ Hid (∀ j, j < k → codes.data.toList.getD j 0 ≠ x)) (fun i => codes.size - (intOf i).toNat)
  case atStart => exact ⟨0, Nat.zero_le _, rfl, Lib.hid (fun j hj => absurd hj (by omega))⟩
  case round =>
    obtain ⟨k, hk, rfl, hE⟩ := hrel
    by_cases hlt : k < codes.size
    · obtain ⟨y, hy⟩ : ∃ y, codes.data.toList.getD k 0 = y := ⟨_, rfl⟩
      have e0 : ∀ h, codes[k]'h = y := fun h => by rw [← hy, Tx.getD_at codes k h]
      have hq := Rc.u8_eq (a := y) (b := x)
      by_cases hyx : y = x
      · have HH := Lib.hid (Ct.occ_some hlt (hy.trans hyx))
        have hq2 : (y == x) = true := by simpa using hyx
        rw [hq2] at hq
        clear hy hyx hq2
        go_wp2
        go_ret
        exact ⟨Tx.retb (by rw [← HB.out, HH.out]), rfl⟩
      · have hE2 : Hid (∀ j, j < k + 1 → codes.data.toList.getD j 0 ≠ x) := Lib.hid (fun j hj => by
          rcases Nat.lt_or_ge j k with h1 | h1
          · exact hE.out j h1
          · obtain rfl : j = k := by omega
            rw [hy]; exact hyx)
        have hq2 : (y == x) = false := by simpa using hyx
        rw [hq2] at hq
        clear hy hyx hq2
        go_wp2
        go_round
        case rel => exact ⟨k + 1, by omega, by go_num, hE2⟩
        case measure => simp [intOf]; omega
    · obtain rfl : k = codes.size := by omega
      have HH := Lib.hid (Ct.occ_none hE.out)
      go_wp2
      go_ret
      exact ⟨Tx.retb (by rw [← HB.out, HH.out]), rfl⟩

theorem SLA.grown {w w' : World} {row : Option Nat} {a : Option Addr} {c : Nat} {xs : List ByteArray} (h : SLA w a c xs) (hg : w.grownBy w' row) (hne : ∀ g, a = some g → some g.block ≠ row) : SLA w' a c xs := by
  by_cases h0 : xs = []
  · subst h0
    exact ⟨h.cap, h.max, 0, 0, fun h9 => absurd rfl h9, fun j x hx => by simp at hx⟩
  · obtain ⟨b, o, h1, h2⟩ := h.at_
    obtain ⟨ha, hb⟩ := h1 h0
    exact ⟨h.cap, h.max, b, o, fun _ => ⟨ha, Nat.lt_of_lt_of_le hb hg.size⟩, fun j x hx => (hg.cell_far ⟨b, o + j, Option.none⟩ hb (show some b ≠ row from hne _ ha)).trans (h2 j x hx)⟩
theorem Ct.lit1 (w : World) (B : Nat) (hB : B ≤ w.heap.size) (x : UInt8 × ByteArray) (t : TypeId) : (w.alloc (.cells #[.int .u8 x.1.toNat, .string x.2] t)).ownsRow B t 2 (.slice (some ⟨w.heap.size, 0, none⟩) 1 1) [x].length ([x].flatMap Rc.encS) :=
  World.ownsRow_lit (base := B) (e := t) (size := 2) w #[.int .u8 x.1.toNat, .string x.2] 1 hB (by unfold maxLen; omega) rfl
theorem Ct.lit2 (w : World) (B : Nat) (hB : B ≤ w.heap.size) (x y : UInt8 × ByteArray) (t : TypeId) : (w.alloc (.cells #[.int .u8 x.1.toNat, .string x.2, .int .u8 y.1.toNat, .string y.2] t)).ownsRow B t 2 (.slice (some ⟨w.heap.size, 0, none⟩) 2 2) [x, y].length ([x, y].flatMap Rc.encS) :=
  World.ownsRow_lit (base := B) (e := t) (size := 2) w #[.int .u8 x.1.toNat, .string x.2, .int .u8 y.1.toNat, .string y.2] 2 hB (by unfold maxLen; omega) rfl
set_option maxHeartbeats 3200000 in
theorem r14_subs_c (K : Int) (h : ByteArray) (w : World) (hs : h.size ≤ 1000) (hv : Tx.valid h.data.toList = true) :
    Calls Tryz.prog 34 #[.int .i64 K, .string h] w fun e w' => ∃ v, e = .returned v ∧ w'.ownsRow w.heap.size 48 2 v (Ct.mkS (Ct.headSubs K h.data.toList)).length ((Ct.mkS (Ct.headSubs K h.data.toList)).flatMap Rc.encS) ∧ Below w.heap.size w w' := by
  obtain ⟨i0, hi0, hz0, hz1, hz2⟩ := info_parts info_sub
  have hml : maxLen = 9223372036854775807 := rfl
  have HV := Lib.hid hv; clear hv
  obtain ⟨L0, hL0⟩ : ∃ L0, Ct.mkS (Ct.headSubs K h.data.toList) = L0 := ⟨_, rfl⟩
  rw [hL0]
  have HH : (⟨h.data.toList.toArray⟩ : ByteArray) = h := rfl
  by_cases h1 : K = 1
  · subst h1
    cases hn : Ct.name h.data.toList with
    | none =>
      rw [Ct.heads_none hn] at hL0
      have HL : Hid ([(97, h)] = L0) := Lib.hid hL0
      have HN := Lib.hid hn; clear hn hL0 HH
      go_enter Tryz.func34, Tryz.ntmps34
      go_wp2_with (go_at_call 69; refine (r12_Name_c h _ (by omega) HV.out).mono ?_; rintro e w1 ⟨rfl, hb1⟩; rw [HN.out, show Ct.nmV none = .agg #[.string ⟨#[]⟩, .string ⟨#[]⟩, .string ⟨#[]⟩] from rfl, show Ct.nmE none = 3 from rfl])
      go_ret
      have hb2 : Below w.heap.size w (w1.alloc (.cells #[.string ⟨#[]⟩, .string ⟨#[]⟩, .string ⟨#[]⟩] 60)) := hb1.alloc hb1.size _
      have hown := Ct.lit1 _ w.heap.size hb2.size (97, h) 48
      rw [HL.out] at hown
      exact ⟨_, rfl, by simpa using hown, hb2.alloc hb2.size _⟩
    | some t =>
      obtain ⟨l, f1, d⟩ := t
      have hnl := Ct.name_len hn
      rw [← Lib.size_eq] at hnl
      obtain ⟨lb, rfl⟩ : ∃ lb : ByteArray, lb.data.toList = l := ⟨⟨l.toArray⟩, rfl⟩
      obtain ⟨fb, rfl⟩ : ∃ fb : ByteArray, fb.data.toList = f1 := ⟨⟨f1.toArray⟩, rfl⟩
      obtain ⟨db, rfl⟩ : ∃ db : ByteArray, db.data.toList = d := ⟨⟨d.toArray⟩, rfl⟩
      rw [← Lib.size_eq, ← Lib.size_eq, ← Lib.size_eq] at hnl
      obtain ⟨hn1, hn2, hn3⟩ := hnl
      by_cases hd : db.data.toList = []
      · rw [Ct.heads_nodate hn hd] at hL0
        have HL : Hid ([(97, h)] = L0) := Lib.hid hL0
        have hde : db.toList.isEmpty = true := by rw [Lib.toList_data, hd]; rfl
        have HN := Lib.hid hn; clear hn hL0 HH hd
        go_enter Tryz.func34, Tryz.ntmps34
        go_wp2_with (go_at_call 69; refine (r12_Name_c h _ (by omega) HV.out).mono ?_; rintro e w1 ⟨rfl, hb1⟩; rw [HN.out, Ct.nm_some, show Ct.nmE (some (lb.data.toList, fb.data.toList, db.data.toList)) = 0 from rfl])
        go_ret
        have hb2 : Below w.heap.size w (w1.alloc (.cells #[.string lb, .string fb, .string db] 60)) := hb1.alloc hb1.size _
        have hown := Ct.lit1 _ w.heap.size hb2.size (97, h) 48
        rw [HL.out] at hown
        exact ⟨_, rfl, by simpa using hown, hb2.alloc hb2.size _⟩
      · have hde : db.toList.isEmpty = false := by rw [Lib.toList_data]; simpa using hd
        by_cases hf1 : fb.data.toList = []
        · rw [Ct.heads_last hn hd hf1] at hL0
          have HL : Hid ([(97, lb), (100, db)] = L0) := Lib.hid hL0
          have hfe : fb.toList.isEmpty = true := by rw [Lib.toList_data, hf1]; rfl
          have HN := Lib.hid hn; clear hn hL0 HH hd hf1
          go_enter Tryz.func34, Tryz.ntmps34
          go_wp2_with (go_at_call 69; refine (r12_Name_c h _ (by omega) HV.out).mono ?_; rintro e w1 ⟨rfl, hb1⟩; rw [HN.out, Ct.nm_some, show Ct.nmE (some (lb.data.toList, fb.data.toList, db.data.toList)) = 0 from rfl])
          go_ret
          have hb2 : Below w.heap.size w (w1.alloc (.cells #[.string lb, .string fb, .string db] 60)) := hb1.alloc hb1.size _
          have hown := Ct.lit2 _ w.heap.size hb2.size (97, lb) (100, db) 48
          rw [HL.out] at hown
          exact ⟨_, rfl, by simpa using hown, hb2.alloc hb2.size _⟩
        · have hcc : (⟨(lb.data.toList ++ [44, 32] ++ fb.data.toList).toArray⟩ : ByteArray) = lb ++ ⟨#[44, 32]⟩ ++ fb := by
            apply ByteArray.ext
            simp
          rw [Ct.heads_first hn hd hf1] at hL0
          have HL : Hid ([(97, lb ++ ⟨#[44, 32]⟩ ++ fb), (100, db)] = L0) := Lib.hid (by rw [← hcc]; exact hL0)
          have hfe : fb.toList.isEmpty = false := by rw [Lib.toList_data]; simpa using hf1
          have HN := Lib.hid hn; clear hn hL0 HH hd hf1 hcc
          obtain ⟨a1, a2, -⟩ := Tx.adds_ok Tryz.prog [⟨#[44, 32]⟩, fb] lb (by have h2 : (⟨#[44, 32]⟩ : ByteArray).size = 2 := rfl; simp only [List.map_cons, List.map_nil, List.sum_cons, List.sum_nil]; omega)
          go_enter Tryz.func34, Tryz.ntmps34
          go_wp2_with (go_at_call 69; refine (r12_Name_c h _ (by omega) HV.out).mono ?_; rintro e w1 ⟨rfl, hb1⟩; rw [HN.out, Ct.nm_some, show Ct.nmE (some (lb.data.toList, fb.data.toList, db.data.toList)) = 0 from rfl])
          go_ret
          have hb2 : Below w.heap.size w (w1.alloc (.cells #[.string lb, .string fb, .string db] 60)) := hb1.alloc hb1.size _
          have hown := Ct.lit2 _ w.heap.size hb2.size (97, lb ++ ⟨#[44, 32]⟩ ++ fb) (100, db) 48
          rw [HL.out] at hown
          exact ⟨_, rfl, by simpa using hown, hb2.alloc hb2.size _⟩
  · by_cases h3 : K = 3
    · subst h3
      have HL0 := Lib.hid hL0; clear hL0 HH h1
      have HS0 := Lib.hid hs
      go_enter Tryz.func34, Tryz.ntmps34
      go_wp2_with (go_at_call 70; refine (r12_Parts_c h _ (by omega)).mono ?_; rintro e w2 ⟨pa, pc, ps, rfl, hps, hpA, hb2, hpq⟩; have hpcap := hpA.cap; have hpmax := hpA.max; have HPS := Lib.hid hps; clear hps)
      have hB2 : Below w.heap.size w w2 := Tx.step (Tx.newb _ _) hb2
      have hpl : ps.length ≤ 1001 := by
        have h1 := congrArg List.length HPS.out
        rw [List.length_map] at h1
        have h2 : (Hd.parts h.data.toList).length ≤ (Lib.split h.data.toList [45, 45]).length := by
          unfold Hd.parts
          exact Nat.le_trans (List.length_filter_le _ _) (by rw [List.length_map]; exact Nat.le_refl _)
        have h3 := Hd.split_count (sep := [45, 45]) (by simp) h.data.toList.length h.data.toList (Nat.le_refl _)
        rw [← Lib.size_eq] at h3
        omega
      have hP0 : Hid (Ct.pS true ps = L0) := Lib.hid (by rw [← HL0.out, Ct.heads_3, ← show ps.map (·.data.toList) = Hd.parts h.data.toList from HPS.out, Ct.pS_mk])
      have hown0 : w2.ownsRow w.heap.size 48 2 (.slice (some ⟨w.heap.size, 0, none⟩) 0 0) 0 [] := own_below (World.ownsRow_lit (base := w.heap.size) (e := 48) (size := 2) w #[] 0 (Nat.le_refl _) (by unfold maxLen; omega) rfl) hb2
      have hq0 : Hid (∀ q, pa = some q → some q.block ≠ (Value.slice (some ⟨w.heap.size, 0, none⟩) 0 0).ownBlock) := Lib.hid (fun q hq e => by
        have h7 := hpq q hq
        injection e with e
        have h8 : q.block = w.heap.size := e
        simp at h7
        omega)
      clear hpq
      go_loopw [8, 10] (fun v i wr => ∃ (k : Nat) (L : List (UInt8 × ByteArray)), k ≤ ps.length ∧ i = .int .i64 k ∧ Hid (L = (Ct.pS true ps).take k) ∧ L.length = k ∧ SLA wr pa pc ps ∧ wr.ownsRow w.heap.size 48 2 v L.length (L.flatMap Rc.encS) ∧ Below w.heap.size w wr ∧ Hid (∀ q, pa = some q → some q.block ≠ v.ownBlock)) (fun _ i _ => ps.length - (intOf i).toNat)
      case atStart => exact ⟨0, [], Nat.zero_le _, rfl, Lib.hid (by simp), rfl, hpA, hown0, hB2, hq0⟩
      case round =>
        obtain ⟨k, L, hk, rfl, hL, hLk, hpr, hown, hb, hq⟩ := hrel
        have hbs := hb.size
        by_cases hlt : k < ps.length
        · obtain ⟨x, hx⟩ : ∃ x, ps[k]? = some x := ⟨_, List.getElem?_eq_getElem hlt⟩
          obtain ⟨b, o, rfl, hbl, c0⟩ := hpr.get hx
          have hft := Ct.pS_take hx
          rw [← hL.out] at hft
          by_cases hk0 : k = 0
          · rw [if_pos hk0] at hft
            have e0 : ((k : Int) == 0) = true := by simp [hk0]
            have HF := Lib.hid hft
            clear hft hx hk0
            go_wp2_with (at_builtin; go_must (refine wpList_append_sl rfl _ _ 22 rfl w.heap.size 48 i0 _ 2 24 Tryz.underlying22 hi0 hz0 hz1 hz2 rfl (by decide) _ L.length _ rfl (hown.alloc _) (some ⟨_, 0, none⟩) 1 1 (Rc.encS (97, x)) rfl rfl (fun h9 => by cases h9) (fun ad had => by cases had; exact Br.cells_new_at _ _ (by first | rfl | simp) #[.int .u8 97, .string x] _) (Rc.encS_one (97, x)) (by unfold maxLen; omega) (by omega) (by simp; omega) ?_); intro v' w3 hown2 hg2 hvb)
            have hb2' : Below w.heap.size w w3 := (hb.alloc hbs _).grown hg2 (by simp; omega) (fun j hj => (hown.lt j hj).1)
            have hpr2 := (hpr.below (Tx.newb wr _)).grown hg2 hq.out
            have hq2 : Hid (∀ q, some (⟨b, o, none⟩ : Addr) = some q → some q.block ≠ v'.ownBlock) := Lib.hid (fun q h8 e => by
              rcases hvb with h7 | h7
              · exact hq.out q h8 (e.trans h7)
              · rw [h7] at e
                cases h8
                injection e with e
                have e8 : b = (wr.alloc _).heap.size := e
                simp at e8
                omega)
            go_roundw
            case rel => exact ⟨k + 1, L ++ [(97, x)], by omega, by go_num, Lib.hid (by rw [HF.out]), by simp; omega, hpr2, by simpa using hown2, hb2', hq2⟩
            case measure => simp [intOf]; omega
          · rw [if_neg hk0] at hft
            have e0 : ((k : Int) == 0) = false := by simp; omega
            have HF := Lib.hid hft
            clear hft hx hk0
            go_wp2_with (at_builtin; go_must (refine wpList_append_sl rfl _ _ 22 rfl w.heap.size 48 i0 _ 2 24 Tryz.underlying22 hi0 hz0 hz1 hz2 rfl (by decide) _ L.length _ rfl (hown.alloc _) (some ⟨_, 0, none⟩) 1 1 (Rc.encS (120, x)) rfl rfl (fun h9 => by cases h9) (fun ad had => by cases had; exact Br.cells_new_at _ _ (by first | rfl | simp) #[.int .u8 120, .string x] _) (Rc.encS_one (120, x)) (by unfold maxLen; omega) (by omega) (by simp; omega) ?_); intro v' w3 hown2 hg2 hvb)
            have hb2' : Below w.heap.size w w3 := (hb.alloc hbs _).grown hg2 (by simp; omega) (fun j hj => (hown.lt j hj).1)
            have hpr2 := (hpr.below (Tx.newb wr _)).grown hg2 hq.out
            have hq2 : Hid (∀ q, some (⟨b, o, none⟩ : Addr) = some q → some q.block ≠ v'.ownBlock) := Lib.hid (fun q h8 e => by
              rcases hvb with h7 | h7
              · exact hq.out q h8 (e.trans h7)
              · rw [h7] at e
                cases h8
                injection e with e
                have e8 : b = (wr.alloc _).heap.size := e
                simp at e8
                omega)
            go_roundw
            case rel => exact ⟨k + 1, L ++ [(120, x)], by omega, by go_num, Lib.hid (by rw [HF.out]), by simp; omega, hpr2, by simpa using hown2, hb2', hq2⟩
            case measure => simp [intOf]; omega
        · obtain rfl : k = ps.length := by omega
          have hL2 := hL.out
          rw [List.take_of_length_le (by rw [Ct.pS_len]; exact Nat.le_refl _), hP0.out] at hL2
          have h9 : L0 = L := hL2.symm
          subst h9
          clear hL hP0 hq
          go_wp2
          go_ret
          exact ⟨u8, rfl, by rw [← hLk]; exact hown, hb⟩
    · rw [Ct.heads_o h.data.toList h1 h3] at hL0
      have HL : Hid ([(97, h)] = L0) := Lib.hid hL0
      have e1 : (K == 1) = false := by simpa using h1
      have e3 : (K != 3) = true := by simpa using h3
      clear hL0 HH h1 h3
      go_enter Tryz.func34, Tryz.ntmps34
      go_wp2
      go_ret
      have hown := Ct.lit1 w w.heap.size (Nat.le_refl _) (97, h) 48
      rw [HL.out] at hown
      exact ⟨_, rfl, by simpa using hown, Tx.newb _ _⟩
end Go.Proofs.YtlinaeklhkfbcaaGreatDoor
