/- The reference's Split, Dates and Parts of layer 12: what the calls return. -/
import Derived.Test.YtlinaeklhkfbcaaGreatDoorHgM
import Derived.Test.YtlinaeklhkfbcaaGreatDoorMm
import Derived.Deep.RegionHeld3
namespace Go.Proofs.YtlinaeklhkfbcaaGreatDoor
open Go.RowKit
set_option maxRecDepth 100000

set_option maxHeartbeats 1600000 in
theorem r12_Split_c (s sep : ByteArray) (w : World) (hs : s.size ≤ 1000000) (h1 : 1 ≤ sep.size) (h2 : sep.size ≤ 100) :
    Calls Tryz.prog 98 #[.string s, .string sep] w fun e w' => ∃ a c xs, e = .returned (.slice a xs.length c) ∧ xs.map (·.data.toList) = Lib.split s.data.toList sep.data.toList ∧ SLA w' a c xs ∧ Below w.heap.size w w' := by
  obtain ⟨i0, hi0, hz0, hz1, hz2⟩ := info_parts info_str
  have HNE : Hid (sep.data.toList ≠ []) := Lib.hid (fun h9 => by rw [Lib.size_eq, h9] at h1; simp at h1)
  have HSZ := Lib.hid (Lib.size_eq s)
  have HSP := Lib.hid (Lib.size_eq sep)
  go_enter Tryz.func98, Tryz.ntmps98
  go_wp2
  go_loopw [5, 6, 7] (fun v f i wr => ∃ (fr k : Nat) (L : List ByteArray), fr ≤ k ∧ k ≤ s.size ∧ f = .int .i64 fr ∧ i = .int .i64 k ∧ Hid (Lib.split s.data.toList sep.data.toList = L.map (·.data.toList) ++ Lib.split (s.data.toList.drop fr) sep.data.toList) ∧ Hid (∀ j, fr ≤ j → j < k → Lib.occAt s.data.toList sep.data.toList j = false) ∧ L.length ≤ k ∧ wr.ownsRow w.heap.size 9 1 v L.length (L.map Value.string) ∧ Below w.heap.size w wr) (fun _ _ i _ => s.size - (intOf i).toNat)
  case atStart => exact ⟨0, 0, [], Nat.le_refl _, Nat.zero_le _, rfl, rfl, Lib.hid rfl, Lib.hid (fun j _ h9 => absurd h9 (by omega)), Nat.le_refl _, World.ownsRow_lit (base := w.heap.size) (e := 9) (size := 1) w #[] 0 (by simp) (by unfold maxLen; omega) rfl, Tx.newb _ _⟩
  case round =>
    obtain ⟨fr, k, L, hfk, hk, rfl, rfl, hSpl, hNo, hLk, hown, hb⟩ := hrel
    have hbs := hb.size
    by_cases hlt : k + sep.size ≤ s.size
    · have htest : ((s.extract k (k + sep.size)).toList == sep.toList) = Lib.occAt s.data.toList sep.data.toList k := by
        rw [Lib.extract_toList, Lib.toList_data, Hd.occ_test, Nat.add_sub_cancel_left, HSP.out]
      have g1 : (k : Int) + (sep.size : Int) ≤ (s.size : Int) := by omega
      cases ho : Lib.occAt s.data.toList sep.data.toList k with
      | true =>
        rw [ho] at htest
        have hsf := Hd.split_found HNE.out hfk (by rw [← HSZ.out]; omega) hNo.out ho
        have HE : Hid (Lib.split s.data.toList sep.data.toList = (L ++ [s.extract fr k]).map (·.data.toList) ++ Lib.split (s.data.toList.drop (k + sep.size)) sep.data.toList) := Lib.hid (by
          rw [hSpl.out, hsf, List.map_append, List.append_assoc, HSP.out]
          simp only [List.map_cons, List.map_nil, Lib.extract_data, List.cons_append, List.nil_append])
        clear ho hsf
        go_wp2_with (at_builtin; go_must (refine wpList_append_own _ rfl _ _ 54 rfl w.heap.size 9 i0 (.string ⟨#[]⟩) 1 16 Tryz.underlying54 hi0 hz0 hz1 hz2 rfl (by decide) _ L.length _ rfl (hown.alloc _) ⟨_, 0, none⟩ 1 1 [.string (s.extract fr k)] rfl rfl (Tx.cell_one_at _ _ (by first | rfl | simp) _ _) (by simp [Value.oneCell']) (by unfold maxLen; omega) (by omega) (by simp; omega) ?_); intro v' w3 hown3 hg3 hnil3)
        have hb4 : Below w.heap.size w w3 := (hb.alloc hb.size _).grown hg3 (by simp; omega) (fun j hj => (hown.lt j hj).1)
        go_roundw
        case rel => exact ⟨k + sep.size, k + sep.size, L ++ [s.extract fr k], Nat.le_refl _, hlt, by go_num, by go_num, HE, Lib.hid (fun j h8 h9 => absurd h9 (by omega)), by simp; omega, by simpa using hown3, hb4⟩
        case measure => simp [intOf]; omega
      | false =>
        rw [ho] at htest
        have HN : Hid (∀ j, fr ≤ j → j < k + 1 → Lib.occAt s.data.toList sep.data.toList j = false) := Lib.hid (fun j h8 h9 => by
          rcases Nat.lt_or_ge j k with h7 | h7
          · exact hNo.out j h8 h7
          · obtain rfl : j = k := by omega
            exact ho)
        clear ho
        go_wp2
        go_roundw
        case rel => exact ⟨fr, k + 1, L, by omega, by omega, rfl, by go_num, hSpl, HN, by omega, hown, hb⟩
        case measure => simp [intOf]; omega
    · have hend := Hd.split_last HNE.out hNo.out (by rw [← HSZ.out, ← HSP.out]; omega)
      have HE : Hid (Lib.split s.data.toList sep.data.toList = (L ++ [s.extract fr s.size]).map (·.data.toList)) := Lib.hid (by
        rw [hSpl.out, hend, List.map_append]
        simp only [List.map_cons, List.map_nil, Lib.extract_to_end])
      clear hend
      have g1 : (s.size : Int) < (k : Int) + (sep.size : Int) := by omega
      go_wp2_with (at_builtin; go_must (refine wpList_append_own _ rfl _ _ 54 rfl w.heap.size 9 i0 (.string ⟨#[]⟩) 1 16 Tryz.underlying54 hi0 hz0 hz1 hz2 rfl (by decide) _ L.length _ rfl (hown.alloc _) ⟨_, 0, none⟩ 1 1 [.string (s.extract fr s.size)] rfl rfl (Tx.cell_one_at _ _ (by first | rfl | simp) _ _) (by simp [Value.oneCell']) (by unfold maxLen; omega) (by omega) (by simp; omega) ?_); intro v' w3 hown3 hg3 hnil3)
      have hb4 : Below w.heap.size w w3 := (hb.alloc hb.size _).grown hg3 (by simp; omega) (fun j hj => (hown.lt j hj).1)
      obtain ⟨va, vc, rfl, hSA⟩ := SLA.of_own (xs := L ++ [s.extract fr s.size]) hown3 (by simp)
      go_ret
      exact ⟨va, vc, L ++ [s.extract fr s.size], rfl, HE.out.symm, hSA, hb4⟩

theorem Hd.okFrom_end (s : List UInt8) : Hd.okFrom s.length (s.drop s.length) = true := by rw [List.drop_length]; rfl
set_option maxHeartbeats 3200000 in
theorem r12_Dates_c (s : ByteArray) (w : World) (hs : s.size ≤ 1000000000) :
    Calls Tryz.prog 100 #[.string s] w fun e w' => e = .returned (.bool (Hd.dates s.data.toList)) ∧ Below w.heap.size w w' := by
  have hd := Hd.dates_ref s.data.toList
  have hsz := Lib.size_eq s
  rw [← hsz] at hd
  rcases (show ((((s.size : Int) != 5) = false) ∧ s.size ≤ 9 ∧ (s.size = 5 ∨ s.size = 9)) ∨ ((((s.size : Int) != 5) = true) ∧ (((s.size : Int) != 9) = false) ∧ s.size ≤ 9 ∧ (s.size = 5 ∨ s.size = 9)) ∨ ((((s.size : Int) != 5) = true) ∧ (((s.size : Int) != 9) = true) ∧ ¬ (s.size = 5 ∨ s.size = 9)) by
    by_cases h5 : s.size = 5
    · exact .inl ⟨by simp [h5], by omega, .inl h5⟩
    · by_cases h9 : s.size = 9
      · exact .inr (.inl ⟨by simp; omega, by simp [h9], by omega, .inr h9⟩)
      · exact .inr (.inr ⟨by simp; omega, by simp; omega, by omega⟩)) with ⟨e1, hl9, h0⟩ | ⟨e1, e2, hl9, h0⟩ | ⟨e1, e2, h0⟩
  case inr.inr =>
    rw [decide_eq_false h0, Bool.false_and] at hd
    have HD := Lib.hid hd; clear hd h0 hsz
    go_enter Tryz.func100, Tryz.ntmps100
    go_wp2
    go_ret
    exact ⟨Tx.retb HD.out.symm, Below.refl _ _⟩
  all_goals
    rw [decide_eq_true h0, Bool.true_and] at hd
    have HD := Lib.hid hd; clear hd h0
    have HSZ := Lib.hid hsz; clear hsz
    go_enter Tryz.func100, Tryz.ntmps100
    go_wp2
    go_loop [3] (fun i => ∃ k : Nat, k ≤ s.size ∧ i = .int .i64 k ∧ Hid (Hd.okFrom 0 s.data.toList = Hd.okFrom k (s.data.toList.drop k))) (fun i => s.size - (intOf i).toNat)
    case atStart => exact ⟨0, Nat.zero_le _, rfl, Lib.hid (by rw [List.drop_zero])⟩
    case round =>
      obtain ⟨k, hk, rfl, hI⟩ := hrel
      by_cases hlt : k < s.size
      · have hx : s.data.toList[k]? = some (s[k]'hlt) := by
          rw [List.getElem?_eq_getElem (by rw [← HSZ.out]; exact hlt)]
          rfl
        have hst := Hd.okFrom_drop hx
        rw [← hI.out] at hst
        unfold Hd.okAt Hd.digB at hst
        have hcn := (s[k]'hlt).toNat_lt
        have hc45 : (s[k]'hlt == 45) = decide ((s[k]'hlt).toNat = 45) := by
          rw [Bool.eq_iff_iff, beq_iff_eq, decide_eq_true_iff]
          exact ⟨fun h => by rw [h]; rfl, fun h => UInt8.toNat.inj h⟩
        rw [hc45] at hst
        clear hc45 hx
        by_cases hk4 : k = 4
        · rw [if_pos hk4] at hst
          have e4 : ((k : Int) == 4) = true := by simp [hk4]
          have e5 : ((k : Int) != 4) = false := by simp [hk4]
          by_cases hc4 : (s[k]'hlt).toNat = 45
          · rw [decide_eq_true hc4, Bool.true_and] at hst
            have e6 : (((s[k]'hlt).toNat : Int) != 45) = false := by simp [hc4]
            have HS := Lib.hid hst
            clear hst hc4 hk4
            go_wp2
            go_round
            case rel => exact ⟨k + 1, by omega, by go_num, HS⟩
            case measure => simp [intOf]; omega
          · rw [decide_eq_false hc4, Bool.false_and] at hst
            have e6 : (((s[k]'hlt).toNat : Int) != 45) = true := by simp; omega
            have HS := Lib.hid hst
            clear hst hc4 hk4
            go_wp2
            go_ret
            exact ⟨Tx.retb (by rw [HD.out, HS.out]), Below.refl _ _⟩
        · rw [if_neg hk4] at hst
          have e4 : ((k : Int) == 4) = false := by simp; omega
          have e5 : ((k : Int) != 4) = true := by simp; omega
          clear hk4
          by_cases hc0 : (s[k]'hlt).toNat < 48
          · rw [decide_eq_false (by omega), Bool.false_and] at hst
            have e6 : decide (((s[k]'hlt).toNat : Int) < 48) = true := by simp; omega
            have HS := Lib.hid hst
            clear hst
            go_wp2
            go_ret
            exact ⟨Tx.retb (by rw [HD.out, HS.out]), Below.refl _ _⟩
          · have e6 : decide (((s[k]'hlt).toNat : Int) < 48) = false := by simp; omega
            by_cases hc9 : 57 < (s[k]'hlt).toNat
            · rw [decide_eq_false (by omega), Bool.false_and] at hst
              have e7 : decide ((57 : Int) < ((s[k]'hlt).toNat : Int)) = true := by simp; omega
              have HS := Lib.hid hst
              clear hst
              go_wp2
              go_ret
              exact ⟨Tx.retb (by rw [HD.out, HS.out]), Below.refl _ _⟩
            · rw [decide_eq_true (by omega), Bool.true_and] at hst
              have e7 : decide ((57 : Int) < ((s[k]'hlt).toNat : Int)) = false := by simp; omega
              have HS := Lib.hid hst
              clear hst
              go_wp2
              go_round
              case rel => exact ⟨k + 1, by omega, by go_num, HS⟩
              case measure => simp [intOf]; omega
      · obtain rfl : k = s.size := by omega
        have hI2 := hI.out
        rw [HSZ.out, Hd.okFrom_end] at hI2
        have HI := Lib.hid hI2; clear hI2
        go_wp2
        go_ret
        exact ⟨Tx.retb (by rw [HD.out, HI.out]), Below.refl _ _⟩
end Go.Proofs.YtlinaeklhkfbcaaGreatDoor

/- The reference's Parts and Name of layer 12: what the calls return. -/
namespace Go.Proofs.YtlinaeklhkfbcaaGreatDoor
open Go.RowKit
set_option maxRecDepth 100000

set_option maxHeartbeats 1600000 in
theorem r12_Parts_c (s : ByteArray) (w : World) (hs : s.size ≤ 1000000) :
    Calls Tryz.prog 70 #[.string s] w fun e w' => ∃ a c xs, e = .returned (.slice a xs.length c) ∧ xs.map (·.data.toList) = Hd.parts s.data.toList ∧ SLA w' a c xs ∧ Below w.heap.size w w' ∧ ∀ q, a = some q → w.heap.size ≤ q.block := by
  obtain ⟨i0, hi0, hz0, hz1, hz2⟩ := info_parts info_str
  have HSV := Lib.hid (Hd.split_at (s := s.data.toList) (sep := [45, 45]) (by simp)).2
  have HCN := Lib.hid (Hd.split_count (sep := [45, 45]) (by simp) s.data.toList.length s.data.toList (Nat.le_refl _))
  go_enter Tryz.func70, Tryz.ntmps70
  go_wp2_with (go_at_call 98; refine (r12_Split_c s ⟨#[45, 45]⟩ _ (by omega) (by decide) (by decide)).mono ?_; rintro e w1 ⟨a, c, xs, rfl, hxs, hA, hb1⟩; have hcap := hA.cap; have hmx := hA.max; have HX := Lib.hid hxs; clear hxs)
  have hml : maxLen = 9223372036854775807 := rfl
  have hxl : xs.length ≤ s.size + 1 := by
    have h1 := HCN.out
    rw [← show xs.map (·.data.toList) = Lib.split s.data.toList [45, 45] from HX.out, List.length_map, ← Lib.size_eq] at h1
    exact h1
  have hb1s := hb1.size
  go_loopw [4, 5] (fun v i wr => ∃ (k : Nat) (L : List ByteArray), k ≤ xs.length ∧ i = .int .i64 k ∧ Hid (L.map (·.data.toList) = (((xs.take k).map (·.data.toList)).map Tx.clean).filter fun p => p != []) ∧ L.length ≤ k ∧ wr.ownsRow w1.heap.size 9 1 v L.length (L.map Value.string) ∧ Below w1.heap.size w1 wr) (fun _ i _ => xs.length - (intOf i).toNat)
  case atStart => exact ⟨0, [], Nat.zero_le _, rfl, Lib.hid rfl, Nat.le_refl _, World.ownsRow_lit (base := w1.heap.size) (e := 9) (size := 1) w1 #[] 0 (by simp) (by unfold maxLen; omega) rfl, Tx.newb _ _⟩
  case round =>
    obtain ⟨k, L, hk, rfl, hL, hLk, hown, hb⟩ := hrel
    have hbs := hb.size
    by_cases hlt : k < xs.length
    · obtain ⟨x, hx⟩ : ∃ x, xs[k]? = some x := ⟨_, List.getElem?_eq_getElem hlt⟩
      obtain ⟨b, o, rfl, hbl, c0⟩ := hA.get hx
      replace c0 := cell_later hb c0
      have hxs := HSV.out x.data.toList (by rw [← show xs.map (·.data.toList) = Lib.split s.data.toList [45, 45] from HX.out]; exact List.mem_map.2 ⟨x, List.mem_of_getElem? hx, rfl⟩)
      rw [← Lib.size_eq, ← Lib.size_eq] at hxs
      have hct := Hd.clean_take hx _ hL.out
      obtain ⟨y, hy⟩ : ∃ y, (⟨(Tx.clean x.data.toList).toArray⟩ : ByteArray) = y := ⟨_, rfl⟩
      have hyd : Tx.clean x.data.toList = y.data.toList := by rw [← hy]
      have hye := Hd.empty_eq (Tx.clean x.data.toList)
      rw [hy] at hye
      have HY := Lib.hid hy; clear hy hx
      by_cases hc : Tx.clean x.data.toList = []
      · rw [if_pos hc] at hct
        have HT := Lib.hid hct; clear hct
        rw [decide_eq_true hc] at hye
        clear hc hyd
        go_wp2_with (go_at_call 99; refine (r01_Clean_c x _ (by omega)).mono ?_; rintro e w2 ⟨rfl, hb2⟩; rw [HY.out])
        have hown2 := own_below hown hb2
        go_roundw
        case rel => exact ⟨k + 1, L, by omega, by go_num, Lib.hid (by rw [HT.out]), by omega, hown2, Tx.step hb hb2⟩
        case measure => simp [intOf]; omega
      · rw [if_neg hc, hyd] at hct
        have HT := Lib.hid hct; clear hct
        rw [decide_eq_false hc] at hye
        clear hc hyd
        go_wp2_with (first
          | (go_at_call 99; refine (r01_Clean_c x _ (by omega)).mono ?_; rintro e w2 ⟨rfl, hb2⟩; rw [HY.out]; have hown2 := own_below hown hb2; have hb3 := Tx.step hb hb2; have hb3s := hb3.size)
          | (at_builtin; go_must (refine wpList_append_own _ rfl _ _ 54 rfl w1.heap.size 9 i0 (.string ⟨#[]⟩) 1 16 Tryz.underlying54 hi0 hz0 hz1 hz2 rfl (by decide) _ L.length _ rfl (hown2.alloc _) ⟨_, 0, none⟩ 1 1 [.string y] rfl rfl (Tx.cell_one_at _ _ (by first | rfl | simp) _ _) (by simp [Value.oneCell']) (by unfold maxLen; omega) (by omega) (by simp; omega) ?_); intro v' w3 hown3 hg3 hnil3))
        have hb4 : Below w1.heap.size w1 w3 := (hb3.alloc hb3.size _).grown hg3 (by simp; omega) (fun j hj => (hown2.lt j hj).1)
        go_roundw
        case rel => exact ⟨k + 1, L ++ [y], by omega, by go_num, Lib.hid (by rw [HT.out, List.map_append]; rfl), by simp; omega, by simpa using hown3, hb4⟩
        case measure => simp [intOf]; omega
    · obtain rfl : k = xs.length := by omega
      have hL2 := hL.out
      rw [List.take_length] at hL2
      have hL3 : Hid (L.map (·.data.toList) = Hd.parts s.data.toList) := Lib.hid (by
        rw [hL2]
        unfold Hd.parts
        rw [← show xs.map (·.data.toList) = Lib.split s.data.toList [45, 45] from HX.out])
      clear hL2 hL
      obtain ⟨va, vc, rfl, hSA⟩ := SLA.of_own hown rfl
      go_wp2
      go_ret
      exact ⟨va, vc, L, rfl, hL3.out, hSA, Tx.step hb1 hb, fun q hq => Nat.le_trans hb1s (hown.lt q.block (by rw [hq]; rfl)).1⟩

theorem Hd.more_one {p : List UInt8} : (1 < (Lib.split p [44]).length) = (Lib.contains p [44] = true) := Hd.split_len (by simp)
set_option maxHeartbeats 6400000 in
theorem r12_Name_c (s : ByteArray) (w : World) (hs : s.size ≤ 1000000) (hv : Tx.valid s.data.toList = true) :
    Calls Tryz.prog 69 #[.string s] w fun e w' => e = .returned (.tuple #[Ct.nmV (Ct.name s.data.toList), .int .i64 (Ct.nmE (Ct.name s.data.toList))]) ∧ Below w.heap.size w w' := by
  have HSV := Lib.hid (Hd.split_at (s := s.data.toList) (sep := [44, 32]) (by simp)).2
  have HSN := Lib.hid (Hd.split_ne s.data.toList [44, 32])
  have HV := Lib.hid hv; clear hv
  obtain ⟨W, hW⟩ : ∃ W, w.alloc (.cells #[.string ⟨#[]⟩, .string ⟨#[]⟩, .string ⟨#[]⟩] 60) = W := ⟨_, rfl⟩
  have hB : Below w.heap.size w W := by rw [← hW]; exact Tx.newb _ _
  have hblk : W.heap[w.heap.size]? = some (.cells #[.string ⟨#[]⟩, .string ⟨#[]⟩, .string ⟨#[]⟩] 60 (0, 0)) := by rw [← hW]; exact heap_alloc_new _ _
  have HW := Lib.hid hW; clear hW
  have hml : maxLen = 9223372036854775807 := rfl
  go_enter Tryz.func69, Tryz.ntmps69
  go_upto_region 4 with (first
    | (go_at_call 24; rw [HW.out]; refine (r01_Valid_c s W (by omega)).mono ?_; rintro e w0 ⟨rfl, hb0⟩; rw [HV.out]; have hblk0 := Tx.blk_later hblk hb0; have hBb0 := Tx.step hB hb0)
    | (go_at_call 98; refine (r12_Split_c s ⟨#[44, 32]⟩ w0 (by omega) (by decide) (by decide)).mono ?_; rintro e w2 ⟨a, c, xs, rfl, hxs, hA2, hb1⟩; have hcap := hA2.cap; have hmx := hA2.max; have hblk2 := Tx.blk_later hblk0 hb1))
  have hB2 := Tx.step hBb0 hb1
  by_cases h3 : 3 < xs.length
  · have HN : Hid (Ct.name s.data.toList = none) := Lib.hid (Ct.name_long (by rw [← show xs.map (·.data.toList) = Lib.split s.data.toList [44, 32] from hxs, List.length_map]; exact h3))
    have g3 : (3 : Int) < (xs.length : Int) := by omega
    obtain ⟨hc, hf, hlt⟩ := Tx.blk hblk2
    clear hxs
    go_wp2
    refine bodyPost_ret (v := .tuple #[Ct.nmV none, .int .i64 3]) (by simp [results, Tryz.results69, go_sem, hc, Ct.nmV]) rfl ⟨by rw [HN.out]; rfl, Tx.set3 hB2 (Nat.le_refl _) _ _ _⟩
  · have g3 : (xs.length : Int) ≤ 3 := by omega
    have HX := Lib.hid hxs; clear hxs h3
    go_wp2
    clear hb1 hblk hblk0 hb0
    go_loopw [5] (fun i wr => ∃ k : Nat, k ≤ xs.length ∧ i = .int .i64 k ∧ Hid (∀ p ∈ xs.take k, Ct.wrongPart p.data.toList = false) ∧ Below w2.heap.size w2 wr) (fun i _ => xs.length - (intOf i).toNat)
    case atStart => exact ⟨0, Nat.zero_le _, rfl, Lib.hid (by simp), Below.refl _ _⟩
    case round =>
      obtain ⟨k, hk, rfl, hI, hb⟩ := hrel
      have hBr := Tx.step hB2 hb
      have hblkr := Tx.blk_later hblk2 hb
      have hAr := hA2.below hb
      by_cases hlt : k < xs.length
      · obtain ⟨x, hx⟩ : ∃ x, xs[k]? = some x := ⟨_, List.getElem?_eq_getElem hlt⟩
        obtain ⟨b, o, rfl, hbl, c0⟩ := hAr.get hx
        have hxm : x.data.toList ∈ Lib.split s.data.toList [44, 32] := by rw [← show xs.map (·.data.toList) = Lib.split s.data.toList [44, 32] from HX.out]; exact List.mem_map.2 ⟨x, List.mem_of_getElem? hx, rfl⟩
        have hxs := HSV.out x.data.toList hxm
        rw [← Lib.size_eq, ← Lib.size_eq] at hxs
        obtain ⟨y, hy⟩ : ∃ y, (⟨(Tx.clean x.data.toList).toArray⟩ : ByteArray) = y := ⟨_, rfl⟩
        have hyx : (y.toList == x.toList) = decide (Tx.clean x.data.toList = x.data.toList) := by
          rw [← hy, Lib.toList_data, Lib.toList_data, Bool.eq_iff_iff, beq_iff_eq, decide_eq_true_iff]
        have HY := Lib.hid hy; clear hy
        have hli : (k : Int) < (xs.length : Int) := by omega
        by_cases h1 : x.data.toList = []
        · have HN : Hid (Ct.name s.data.toList = none) := Lib.hid (Ct.name_wrong HV.out hxm (Ct.wrong_nil h1))
          have e1 : x.toList.isEmpty = true := by rw [Lib.toList_data, h1]; rfl
          clear h1 hxm hx hyx
          go_wp2
          refine wp_region_held_drew (S := (fun w' => Below wr.heap.size wr w' ∧ w'.cell? ⟨b, o + k, none⟩ = some (.string x))) (by kernel_rfl) ?_ (fun hHeld => ?_)
          · (first | exact ⟨(Below.refl _ _).drew, c0⟩ | (go_split_ands; exact ⟨Tx.step (by assumption) hbx, cell_later hbx (by assumption)⟩))
          refine wpAnyH_take (i := 0) (oi := ⟨some 23, _, _, _, _, _⟩) (v := .slice (some ⟨b, o, none⟩) xs.length c) rfl (by kernel_rfl) (by kernel_rfl) (by kernel_rfl) (fun _ _ _ h => h) (Or.inl ⟨by rfl, ?_⟩) (by assumption) ?_
          · intro w hSw; (try dsimp only at hSw); go_simp
          simp only [Act.put, List.setIfInBounds_toArray, List.set_cons_zero, List.set_cons_succ]
          refine wpAnyH_take (i := 1) (oi := ⟨some 24, _, _, _, _, _⟩) (v := .int .i64 k) rfl (by kernel_rfl) (by kernel_rfl) (by kernel_rfl) (fun _ _ _ h => h) (Or.inl ⟨by rfl, ?_⟩) (by assumption) ?_
          · intro w hSw; (try dsimp only at hSw); go_simp
          simp only [Act.put, List.setIfInBounds_toArray, List.set_cons_zero, List.set_cons_succ]
          refine wpAnyH_take (i := 2) (oi := ⟨some 25, _, _, _, _, _⟩) (v := .pointer (some ⟨b, o + k, none⟩)) rfl (by kernel_rfl) (by kernel_rfl) (by kernel_rfl) (fun _ _ _ h => h) (Or.inl ⟨by rfl, ?_⟩) (by assumption) ?_
          · intro w hSw; (try dsimp only at hSw); go_simp
          simp only [Act.put, List.setIfInBounds_toArray, List.set_cons_zero, List.set_cons_succ]
          refine wpAnyH_take (i := 3) (oi := ⟨some 26, _, _, _, _, _⟩) (v := .string x) rfl (by kernel_rfl) (by kernel_rfl) (by kernel_rfl) (fun _ _ _ h => h) (Or.inl ⟨by rfl, ?_⟩) (by assumption) ?_
          · intro w hSw; (try dsimp only at hSw); go_simp
          simp only [Act.put, List.setIfInBounds_toArray, List.set_cons_zero, List.set_cons_succ]
          refine wpAnyH_take (i := 4) (oi := ⟨some 27, _, _, _, _, _⟩) (v := .bool true) rfl (by kernel_rfl) (by kernel_rfl) (by kernel_rfl) (fun _ _ _ h => h) (Or.inl ⟨by rfl, ?_⟩) (by assumption) ?_
          · intro w hSw; (try dsimp only at hSw); go_simp
          simp only [Act.put, List.setIfInBounds_toArray, List.set_cons_zero, List.set_cons_succ]
          refine wpAnyH_take (i := 5) (oi := ⟨some 28, _, _, _, _, _⟩) (v := .bool true) rfl (by kernel_rfl) (by kernel_rfl) (by kernel_rfl) (fun _ _ _ h => h) (Or.inl ⟨by rfl, ?_⟩) (by assumption) ?_
          · intro w hSw; (try dsimp only at hSw); go_simp
          simp only [Act.put, List.setIfInBounds_toArray, List.set_cons_zero, List.set_cons_succ]
          refine wpAnyH_take (i := 6) (oi := ⟨some 29, _, _, _, _, _⟩) (v := undef) rfl (by kernel_rfl) (by kernel_rfl) (by kernel_rfl) (fun _ _ _ h => h) (Or.inr ⟨by rfl, rfl⟩) (by assumption) ?_
          simp only [Act.put, List.setIfInBounds_toArray, List.set_cons_zero, List.set_cons_succ]
          refine wpAnyH_take (i := 7) (oi := ⟨some 30, _, _, _, _, _⟩) (v := undef) rfl (by kernel_rfl) (by kernel_rfl) (by kernel_rfl) (fun _ _ _ h => h) (Or.inr ⟨by rfl, rfl⟩) (by assumption) ?_
          simp only [Act.put, List.setIfInBounds_toArray, List.set_cons_zero, List.set_cons_succ]
          refine wpAnyH_take (i := 8) (oi := ⟨some 31, _, _, _, _, _⟩) (v := undef) rfl (by kernel_rfl) (by kernel_rfl) (by kernel_rfl) (fun _ _ _ h => h) (Or.inr ⟨by rfl, rfl⟩) (by assumption) ?_
          simp only [Act.put, List.setIfInBounds_toArray, List.set_cons_zero, List.set_cons_succ]
          refine wpAnyH_take (i := 9) (oi := ⟨some 32, _, _, _, _, _⟩) (v := undef) rfl (by kernel_rfl) (by kernel_rfl) (by kernel_rfl) (fun _ _ _ h => h) (Or.inr ⟨by rfl, rfl⟩) (by assumption) ?_
          simp only [Act.put, List.setIfInBounds_toArray, List.set_cons_zero, List.set_cons_succ]
          refine wpAnyH_take (i := 10) (oi := ⟨some 33, _, _, _, _, _⟩) (v := undef) rfl (by kernel_rfl) (by kernel_rfl) (by kernel_rfl) (fun _ _ _ h => h) (Or.inr ⟨by rfl, rfl⟩) (by assumption) ?_
          simp only [Act.put, List.setIfInBounds_toArray, List.set_cons_zero, List.set_cons_succ]
          refine wpAnyH_take (i := 11) (oi := ⟨some 34, _, _, _, _, _⟩) (v := undef) rfl (by kernel_rfl) (by kernel_rfl) (by kernel_rfl) (fun _ _ _ h => h) (Or.inr ⟨by rfl, rfl⟩) (by assumption) ?_
          simp only [Act.put, List.setIfInBounds_toArray, List.set_cons_zero, List.set_cons_succ]
          refine wpAnyH_take (i := 12) (oi := ⟨some 35, _, _, _, _, _⟩) (v := undef) rfl (by kernel_rfl) (by kernel_rfl) (by kernel_rfl) (fun _ _ _ h => h) (Or.inr ⟨by rfl, rfl⟩) (by assumption) ?_
          simp only [Act.put, List.setIfInBounds_toArray, List.set_cons_zero, List.set_cons_succ]
          refine wpAnyH_take (i := 13) (oi := ⟨some 36, _, _, _, _, _⟩) (v := undef) rfl (by kernel_rfl) (by kernel_rfl) (by kernel_rfl) (fun _ _ _ h => h) (Or.inr ⟨by rfl, rfl⟩) (by assumption) ?_
          simp only [Act.put, List.setIfInBounds_toArray, List.set_cons_zero, List.set_cons_succ]
          refine wpAnyH_take (i := 14) (oi := ⟨some 37, _, _, _, _, _⟩) (v := undef) rfl (by kernel_rfl) (by kernel_rfl) (by kernel_rfl) (fun _ _ _ h => h) (Or.inr ⟨by rfl, rfl⟩) (by assumption) ?_
          simp only [Act.put, List.setIfInBounds_toArray, List.set_cons_zero, List.set_cons_succ]
          refine wpAnyH_take (i := 15) (oi := ⟨some 38, _, _, _, _, _⟩) (v := undef) rfl (by kernel_rfl) (by kernel_rfl) (by kernel_rfl) (fun _ _ _ h => h) (Or.inr ⟨by rfl, rfl⟩) (by assumption) ?_
          simp only [Act.put, List.setIfInBounds_toArray, List.set_cons_zero, List.set_cons_succ]
          refine wpAnyH_take (i := 16) (oi := ⟨some 39, _, _, _, _, _⟩) (v := .bool true) rfl (by kernel_rfl) (by kernel_rfl) (by kernel_rfl) (fun _ _ _ h => h) (Or.inl ⟨by rfl, ?_⟩) (by assumption) ?_
          · intro w hSw; (try dsimp only at hSw); go_simp
          simp only [Act.put, List.setIfInBounds_toArray, List.set_cons_zero, List.set_cons_succ]
          refine wpAnyH_take (i := 17) (oi := ⟨some 40, _, _, _, _, _⟩) (v := .bool true) rfl (by kernel_rfl) (by kernel_rfl) (by kernel_rfl) (fun _ _ _ h => h) (Or.inl ⟨by rfl, ?_⟩) (by assumption) ?_
          · intro w hSw; (try dsimp only at hSw); go_simp
          simp only [Act.put, List.setIfInBounds_toArray, List.set_cons_zero, List.set_cons_succ]
          refine wpAnyH_take (i := 18) (oi := ⟨some 41, _, _, _, _, _⟩) (v := undef) rfl (by kernel_rfl) (by kernel_rfl) (by kernel_rfl) (fun _ _ _ h => h) (Or.inr ⟨by rfl, rfl⟩) (by assumption) ?_
          simp only [Act.put, List.setIfInBounds_toArray, List.set_cons_zero, List.set_cons_succ]
          refine wpAnyH_take (i := 19) (oi := ⟨some 42, _, _, _, _, _⟩) (v := undef) rfl (by kernel_rfl) (by kernel_rfl) (by kernel_rfl) (fun _ _ _ h => h) (Or.inr ⟨by rfl, rfl⟩) (by assumption) ?_
          simp only [Act.put, List.setIfInBounds_toArray, List.set_cons_zero, List.set_cons_succ]
          refine wpAnyH_take (i := 20) (oi := ⟨some 43, _, _, _, _, _⟩) (v := undef) rfl (by kernel_rfl) (by kernel_rfl) (by kernel_rfl) (fun _ _ _ h => h) (Or.inr ⟨by rfl, rfl⟩) (by assumption) ?_
          simp only [Act.put, List.setIfInBounds_toArray, List.set_cons_zero, List.set_cons_succ]
          refine wpAnyH_take (i := 21) (oi := ⟨some 44, _, _, _, _, _⟩) (v := undef) rfl (by kernel_rfl) (by kernel_rfl) (by kernel_rfl) (fun _ _ _ h => h) (Or.inr ⟨by rfl, rfl⟩) (by assumption) ?_
          simp only [Act.put, List.setIfInBounds_toArray, List.set_cons_zero, List.set_cons_succ]
          refine wpAnyH_take (i := 22) (oi := ⟨some 45, _, _, _, _, _⟩) (v := undef) rfl (by kernel_rfl) (by kernel_rfl) (by kernel_rfl) (fun _ _ _ h => h) (Or.inr ⟨by rfl, rfl⟩) (by assumption) ?_
          simp only [Act.put, List.setIfInBounds_toArray, List.set_cons_zero, List.set_cons_succ]
          refine wpAnyH_take (i := 23) (oi := ⟨some 46, _, _, _, _, _⟩) (v := undef) rfl (by kernel_rfl) (by kernel_rfl) (by kernel_rfl) (fun _ _ _ h => h) (Or.inr ⟨by rfl, rfl⟩) (by assumption) ?_
          simp only [Act.put, List.setIfInBounds_toArray, List.set_cons_zero, List.set_cons_succ]
          refine wpAnyH_take (i := 24) (oi := ⟨some 47, _, _, _, _, _⟩) (v := undef) rfl (by kernel_rfl) (by kernel_rfl) (by kernel_rfl) (fun _ _ _ h => h) (Or.inr ⟨by rfl, rfl⟩) (by assumption) ?_
          simp only [Act.put, List.setIfInBounds_toArray, List.set_cons_zero, List.set_cons_succ]
          refine wpAnyH_take (i := 25) (oi := ⟨some 48, _, _, _, _, _⟩) (v := .bool true) rfl (by kernel_rfl) (by kernel_rfl) (by kernel_rfl) (fun _ _ _ h => h) (Or.inl ⟨by rfl, ?_⟩) (by assumption) ?_
          · intro w hSw; (try dsimp only at hSw); go_simp
          simp only [Act.put, List.setIfInBounds_toArray, List.set_cons_zero, List.set_cons_succ]
          refine wpAnyH_done (by kernel_rfl) ?_ _
          go_split_ands
          have hb9 : Below wr.heap.size wr wr.drew := (Below.refl _ _).drew
          obtain ⟨hc, hf, hlt2⟩ := Tx.blk hblkr
          go_wp2
          refine bodyPost_ret (v := .tuple #[Ct.nmV none, .int .i64 3]) (by simp [results, Tryz.results69, go_sem, hc, Ct.nmV]) rfl ⟨by rw [HN.out]; rfl, Tx.set3 (Tx.step hBr hb9) (Nat.le_refl _) _ _ _⟩
        · have e1 : x.toList.isEmpty = false := by rw [Lib.toList_data]; simpa using h1
          by_cases h2 : Tx.clean x.data.toList = x.data.toList
          · rw [decide_eq_true h2] at hyx
            by_cases h5 : 1 < (Lib.split x.data.toList [44]).length
            · have HN : Hid (Ct.name s.data.toList = none) := Lib.hid (Ct.name_wrong HV.out hxm (Ct.wrong_comma (Hd.more_one.mp h5)))
              clear h1 h2 hxm hx
              go_wp2
              go_region_held3 (fun w' => Below wr.heap.size wr w' ∧ w'.cell? ⟨b, o + k, none⟩ = some (.string x))
                (first | exact ⟨(Below.refl _ _).drew, c0⟩ | (go_split_ands; exact ⟨Tx.step (by assumption) hbx, cell_later hbx (by assumption)⟩))
                (first
                  | (go_at_call 99; refine (r01_Clean_c x _ (by omega)).mono ?_; rintro e wx ⟨rfl, hbx⟩; rw [HY.out])
                  | (go_at_call 98; refine (r12_Split_c x ⟨#[44]⟩ _ (by omega) (by decide) (by decide)).mono ?_; rintro e wx ⟨pa, pc, ps, rfl, hps, hpA, hbx⟩; have hpl : ps.length = (Lib.split x.data.toList [44]).length := (by rw [← show ps.map (·.data.toList) = Lib.split x.data.toList [44] from hps, List.length_map]); have hpg : (1 : Int) < (ps.length : Int) := (by omega); clear hps))
              go_split_ands
              have hb9 : Below wr.heap.size wr wx := by assumption
              obtain ⟨hc, hf, hlt2⟩ := Tx.blk (Tx.blk_later hblkr hb9)
              go_wp2
              refine bodyPost_ret (v := .tuple #[Ct.nmV none, .int .i64 3]) (by simp [results, Tryz.results69, go_sem, hc, Ct.nmV]) rfl ⟨by rw [HN.out]; rfl, Tx.set3 (Tx.step hBr hb9) (Nat.le_refl _) _ _ _⟩
            · have HI := Lib.hid (Ct.all_next (P := fun p => Ct.wrongPart p.data.toList = false) hx (Ct.wrong_not h1 h2 (by rw [Bool.eq_false_iff]; exact fun h9 => h5 (Hd.more_one.mpr h9))) hI.out)
              clear h1 h2 hxm hx
              go_wp2
              go_region_held3 (fun w' => Below wr.heap.size wr w' ∧ w'.cell? ⟨b, o + k, none⟩ = some (.string x))
                (first | exact ⟨(Below.refl _ _).drew, c0⟩ | (go_split_ands; exact ⟨Tx.step (by assumption) hbx, cell_later hbx (by assumption)⟩))
                (first
                  | (go_at_call 99; refine (r01_Clean_c x _ (by omega)).mono ?_; rintro e wx ⟨rfl, hbx⟩; rw [HY.out])
                  | (go_at_call 98; refine (r12_Split_c x ⟨#[44]⟩ _ (by omega) (by decide) (by decide)).mono ?_; rintro e wx ⟨pa, pc, ps, rfl, hps, hpA, hbx⟩; have hpl : ps.length = (Lib.split x.data.toList [44]).length := (by rw [← show ps.map (·.data.toList) = Lib.split x.data.toList [44] from hps, List.length_map]); have hpg : (ps.length : Int) ≤ 1 := (by omega); clear hps))
              go_split_ands
              have hb9 : Below wr.heap.size wr wx := by assumption
              go_wp2
              go_roundw
              case rel => exact ⟨k + 1, by omega, by go_num, HI, Tx.step hb hb9⟩
              case measure => simp [intOf]; omega
          · rw [decide_eq_false h2] at hyx
            have HN : Hid (Ct.name s.data.toList = none) := Lib.hid (Ct.name_wrong HV.out hxm (Ct.wrong_clean h2))
            clear h1 h2 hxm hx
            go_wp2
            refine wp_region_held_drew (S := (fun w' => Below wr.heap.size wr w' ∧ w'.cell? ⟨b, o + k, none⟩ = some (.string x))) (by kernel_rfl) ?_ (fun hHeld => ?_)
            · (first | exact ⟨(Below.refl _ _).drew, c0⟩ | (go_split_ands; exact ⟨Tx.step (by assumption) hbx, cell_later hbx (by assumption)⟩))
            refine wpAnyH_take (i := 0) (oi := ⟨some 23, _, _, _, _, _⟩) (v := .slice (some ⟨b, o, none⟩) xs.length c) rfl (by kernel_rfl) (by kernel_rfl) (by kernel_rfl) (fun _ _ _ h => h) (Or.inl ⟨by rfl, ?_⟩) (by assumption) ?_
            · intro w hSw; (try dsimp only at hSw); go_simp
            simp only [Act.put, List.setIfInBounds_toArray, List.set_cons_zero, List.set_cons_succ]
            refine wpAnyH_take (i := 1) (oi := ⟨some 24, _, _, _, _, _⟩) (v := .int .i64 k) rfl (by kernel_rfl) (by kernel_rfl) (by kernel_rfl) (fun _ _ _ h => h) (Or.inl ⟨by rfl, ?_⟩) (by assumption) ?_
            · intro w hSw; (try dsimp only at hSw); go_simp
            simp only [Act.put, List.setIfInBounds_toArray, List.set_cons_zero, List.set_cons_succ]
            refine wpAnyH_take (i := 2) (oi := ⟨some 25, _, _, _, _, _⟩) (v := .pointer (some ⟨b, o + k, none⟩)) rfl (by kernel_rfl) (by kernel_rfl) (by kernel_rfl) (fun _ _ _ h => h) (Or.inl ⟨by rfl, ?_⟩) (by assumption) ?_
            · intro w hSw; (try dsimp only at hSw); go_simp
            simp only [Act.put, List.setIfInBounds_toArray, List.set_cons_zero, List.set_cons_succ]
            refine wpAnyH_take (i := 3) (oi := ⟨some 26, _, _, _, _, _⟩) (v := .string x) rfl (by kernel_rfl) (by kernel_rfl) (by kernel_rfl) (fun _ _ _ h => h) (Or.inl ⟨by rfl, ?_⟩) (by assumption) ?_
            · intro w hSw; (try dsimp only at hSw); go_simp
            simp only [Act.put, List.setIfInBounds_toArray, List.set_cons_zero, List.set_cons_succ]
            refine wpAnyH_take (i := 4) (oi := ⟨some 27, _, _, _, _, _⟩) (v := .bool false) rfl (by kernel_rfl) (by kernel_rfl) (by kernel_rfl) (fun _ _ _ h => h) (Or.inl ⟨by rfl, ?_⟩) (by assumption) ?_
            · intro w hSw; (try dsimp only at hSw); go_simp
            simp only [Act.put, List.setIfInBounds_toArray, List.set_cons_zero, List.set_cons_succ]
            refine wpAnyH_take (i := 5) (oi := ⟨some 28, _, _, _, _, _⟩) (v := .bool false) rfl (by kernel_rfl) (by kernel_rfl) (by kernel_rfl) (fun _ _ _ h => h) (Or.inl ⟨by rfl, ?_⟩) (by assumption) ?_
            · intro w hSw; (try dsimp only at hSw); go_simp
            simp only [Act.put, List.setIfInBounds_toArray, List.set_cons_zero, List.set_cons_succ]
            refine wpAnyH_take (i := 6) (oi := ⟨some 29, _, _, _, _, _⟩) (v := .slice (some ⟨b, o, none⟩) xs.length c) rfl (by kernel_rfl) (by kernel_rfl) (by kernel_rfl) (fun _ _ _ h => h) (Or.inl ⟨by rfl, ?_⟩) (by assumption) ?_
            · intro w hSw; (try dsimp only at hSw); go_simp
            simp only [Act.put, List.setIfInBounds_toArray, List.set_cons_zero, List.set_cons_succ]
            refine wpAnyH_take (i := 7) (oi := ⟨some 30, _, _, _, _, _⟩) (v := .int .i64 k) rfl (by kernel_rfl) (by kernel_rfl) (by kernel_rfl) (fun _ _ _ h => h) (Or.inl ⟨by rfl, ?_⟩) (by assumption) ?_
            · intro w hSw; (try dsimp only at hSw); go_simp
            simp only [Act.put, List.setIfInBounds_toArray, List.set_cons_zero, List.set_cons_succ]
            refine wpAnyH_take (i := 8) (oi := ⟨some 31, _, _, _, _, _⟩) (v := .pointer (some ⟨b, o + k, none⟩)) rfl (by kernel_rfl) (by kernel_rfl) (by kernel_rfl) (fun _ _ _ h => h) (Or.inl ⟨by rfl, ?_⟩) (by assumption) ?_
            · intro w hSw; (try dsimp only at hSw); go_simp
            simp only [Act.put, List.setIfInBounds_toArray, List.set_cons_zero, List.set_cons_succ]
            refine wpAnyH_take (i := 9) (oi := ⟨some 32, _, _, _, _, _⟩) (v := .string x) rfl (by kernel_rfl) (by kernel_rfl) (by kernel_rfl) (fun _ _ _ h => h) (Or.inl ⟨by rfl, ?_⟩) (by assumption) ?_
            · intro w hSw; (try dsimp only at hSw); go_simp
            simp only [Act.put, List.setIfInBounds_toArray, List.set_cons_zero, List.set_cons_succ]
            refine wpAnyH_take (i := 11) (oi := ⟨some 34, _, _, _, _, _⟩) (v := .slice (some ⟨b, o, none⟩) xs.length c) rfl (by kernel_rfl) (by kernel_rfl) (by kernel_rfl) (fun _ _ _ h => h) (Or.inl ⟨by rfl, ?_⟩) (by assumption) ?_
            · intro w hSw; (try dsimp only at hSw); go_simp
            simp only [Act.put, List.setIfInBounds_toArray, List.set_cons_zero, List.set_cons_succ]
            refine wpAnyH_take (i := 12) (oi := ⟨some 35, _, _, _, _, _⟩) (v := .int .i64 k) rfl (by kernel_rfl) (by kernel_rfl) (by kernel_rfl) (fun _ _ _ h => h) (Or.inl ⟨by rfl, ?_⟩) (by assumption) ?_
            · intro w hSw; (try dsimp only at hSw); go_simp
            simp only [Act.put, List.setIfInBounds_toArray, List.set_cons_zero, List.set_cons_succ]
            refine wpAnyH_take (i := 13) (oi := ⟨some 36, _, _, _, _, _⟩) (v := .pointer (some ⟨b, o + k, none⟩)) rfl (by kernel_rfl) (by kernel_rfl) (by kernel_rfl) (fun _ _ _ h => h) (Or.inl ⟨by rfl, ?_⟩) (by assumption) ?_
            · intro w hSw; (try dsimp only at hSw); go_simp
            simp only [Act.put, List.setIfInBounds_toArray, List.set_cons_zero, List.set_cons_succ]
            refine wpAnyH_take (i := 14) (oi := ⟨some 37, _, _, _, _, _⟩) (v := .string x) rfl (by kernel_rfl) (by kernel_rfl) (by kernel_rfl) (fun _ _ _ h => h) (Or.inl ⟨by rfl, ?_⟩) (by assumption) ?_
            · intro w hSw; (try dsimp only at hSw); go_simp
            simp only [Act.put, List.setIfInBounds_toArray, List.set_cons_zero, List.set_cons_succ]
            refine wpAnyH_ready (rs := [10]) (by kernel_rfl) (by simp) ?_
            refine AllReadyH.cons (o := ⟨some 33, _, _, _, _, _⟩) rfl (fun K hK => ?_) AllReadyH.nil
            go_simp
            go_split_ands
            go_at_call 99
            refine (r01_Clean_c x _ (by omega)).mono ?_
            rintro e wx ⟨rfl, hbx⟩
            rw [HY.out]
            go_wp2_with fail
            refine hK.out _ _ ?_ (fun hHeld => ?_)
            · (first | exact ⟨(Below.refl _ _).drew, c0⟩ | (go_split_ands; exact ⟨Tx.step (by assumption) hbx, cell_later hbx (by assumption)⟩))
            clear hK K
            try simp only [Act.put, List.setIfInBounds_toArray, List.set_cons_zero, List.set_cons_succ]
            refine wpAnyH_take (i := 15) (oi := ⟨some 38, _, _, _, _, _⟩) (v := .bool true) rfl (by kernel_rfl) (by kernel_rfl) (by kernel_rfl) (fun _ _ _ h => h) (Or.inl ⟨by rfl, ?_⟩) (by assumption) ?_
            · intro w hSw; (try dsimp only at hSw); go_simp
            simp only [Act.put, List.setIfInBounds_toArray, List.set_cons_zero, List.set_cons_succ]
            refine wpAnyH_take (i := 16) (oi := ⟨some 39, _, _, _, _, _⟩) (v := .bool true) rfl (by kernel_rfl) (by kernel_rfl) (by kernel_rfl) (fun _ _ _ h => h) (Or.inl ⟨by rfl, ?_⟩) (by assumption) ?_
            · intro w hSw; (try dsimp only at hSw); go_simp
            simp only [Act.put, List.setIfInBounds_toArray, List.set_cons_zero, List.set_cons_succ]
            refine wpAnyH_take (i := 17) (oi := ⟨some 40, _, _, _, _, _⟩) (v := .bool true) rfl (by kernel_rfl) (by kernel_rfl) (by kernel_rfl) (fun _ _ _ h => h) (Or.inl ⟨by rfl, ?_⟩) (by assumption) ?_
            · intro w hSw; (try dsimp only at hSw); go_simp
            simp only [Act.put, List.setIfInBounds_toArray, List.set_cons_zero, List.set_cons_succ]
            refine wpAnyH_take (i := 18) (oi := ⟨some 41, _, _, _, _, _⟩) (v := undef) rfl (by kernel_rfl) (by kernel_rfl) (by kernel_rfl) (fun _ _ _ h => h) (Or.inr ⟨by rfl, rfl⟩) (by assumption) ?_
            simp only [Act.put, List.setIfInBounds_toArray, List.set_cons_zero, List.set_cons_succ]
            refine wpAnyH_take (i := 19) (oi := ⟨some 42, _, _, _, _, _⟩) (v := undef) rfl (by kernel_rfl) (by kernel_rfl) (by kernel_rfl) (fun _ _ _ h => h) (Or.inr ⟨by rfl, rfl⟩) (by assumption) ?_
            simp only [Act.put, List.setIfInBounds_toArray, List.set_cons_zero, List.set_cons_succ]
            refine wpAnyH_take (i := 20) (oi := ⟨some 43, _, _, _, _, _⟩) (v := undef) rfl (by kernel_rfl) (by kernel_rfl) (by kernel_rfl) (fun _ _ _ h => h) (Or.inr ⟨by rfl, rfl⟩) (by assumption) ?_
            simp only [Act.put, List.setIfInBounds_toArray, List.set_cons_zero, List.set_cons_succ]
            refine wpAnyH_take (i := 21) (oi := ⟨some 44, _, _, _, _, _⟩) (v := undef) rfl (by kernel_rfl) (by kernel_rfl) (by kernel_rfl) (fun _ _ _ h => h) (Or.inr ⟨by rfl, rfl⟩) (by assumption) ?_
            simp only [Act.put, List.setIfInBounds_toArray, List.set_cons_zero, List.set_cons_succ]
            refine wpAnyH_take (i := 22) (oi := ⟨some 45, _, _, _, _, _⟩) (v := undef) rfl (by kernel_rfl) (by kernel_rfl) (by kernel_rfl) (fun _ _ _ h => h) (Or.inr ⟨by rfl, rfl⟩) (by assumption) ?_
            simp only [Act.put, List.setIfInBounds_toArray, List.set_cons_zero, List.set_cons_succ]
            refine wpAnyH_take (i := 23) (oi := ⟨some 46, _, _, _, _, _⟩) (v := undef) rfl (by kernel_rfl) (by kernel_rfl) (by kernel_rfl) (fun _ _ _ h => h) (Or.inr ⟨by rfl, rfl⟩) (by assumption) ?_
            simp only [Act.put, List.setIfInBounds_toArray, List.set_cons_zero, List.set_cons_succ]
            refine wpAnyH_take (i := 24) (oi := ⟨some 47, _, _, _, _, _⟩) (v := undef) rfl (by kernel_rfl) (by kernel_rfl) (by kernel_rfl) (fun _ _ _ h => h) (Or.inr ⟨by rfl, rfl⟩) (by assumption) ?_
            simp only [Act.put, List.setIfInBounds_toArray, List.set_cons_zero, List.set_cons_succ]
            refine wpAnyH_take (i := 25) (oi := ⟨some 48, _, _, _, _, _⟩) (v := .bool true) rfl (by kernel_rfl) (by kernel_rfl) (by kernel_rfl) (fun _ _ _ h => h) (Or.inl ⟨by rfl, ?_⟩) (by assumption) ?_
            · intro w hSw; (try dsimp only at hSw); go_simp
            simp only [Act.put, List.setIfInBounds_toArray, List.set_cons_zero, List.set_cons_succ]
            refine wpAnyH_done (by kernel_rfl) ?_ _
            go_split_ands
            have hb9 : Below wr.heap.size wr wx := by assumption
            obtain ⟨hc, hf, hlt2⟩ := Tx.blk (Tx.blk_later hblkr hb9)
            go_wp2
            refine bodyPost_ret (v := .tuple #[Ct.nmV none, .int .i64 3]) (by simp [results, Tryz.results69, go_sem, hc, Ct.nmV]) rfl ⟨by rw [HN.out]; rfl, Tx.set3 (Tx.step hBr hb9) (Nat.le_refl _) _ _ _⟩
      · obtain rfl : k = xs.length := by omega
        have hI2 := hI.out
        rw [List.take_length] at hI2
        have HW0 : Hid ((Lib.split s.data.toList [44, 32]).any Ct.wrongPart = false) := Lib.hid (by rw [← show xs.map (·.data.toList) = Lib.split s.data.toList [44, 32] from HX.out]; exact Ct.all_fine hI2)
        have HXL : Hid (∀ x ∈ xs, x.size ≤ 1000000) := Lib.hid (fun x hx => by
          have := HSV.out x.data.toList (by rw [← show xs.map (·.data.toList) = Lib.split s.data.toList [44, 32] from HX.out]; exact List.mem_map.2 ⟨x, hx, rfl⟩)
          rw [← Lib.size_eq, ← Lib.size_eq] at this
          omega)
        have hxne : xs ≠ [] := fun h9 => HSN.out (by rw [← show xs.map (·.data.toList) = Lib.split s.data.toList [44, 32] from HX.out, h9]; rfl)
        clear hI hI2 hA2 hb hblk2 hB2 hlt
        rcases Ct.short3 hxne (by omega) with ⟨x1, rfl⟩ | ⟨x1, x2, rfl⟩ | ⟨x1, x2, x3, rfl⟩
        · obtain ⟨b, o, rfl, hbl, c0⟩ := hAr.get (k := 0) (x := x1) rfl
          rw [Nat.add_zero] at c0
          have HN : Hid (Ct.name s.data.toList = some (x1.data.toList, [], [])) := Lib.hid (Ct.name_1 HV.out HW0.out HX.out.symm)
          obtain ⟨hc, hf, hlt2⟩ := Tx.blk hblkr
          clear hxne
          go_wp2
          refine bodyPost_ret (v := .tuple #[.agg #[.string x1, .string ⟨#[]⟩, .string ⟨#[]⟩], .int .i64 0]) (by simp [results, Tryz.results69, go_sem, hc, hlt2]) rfl ⟨by rw [HN.out]; rfl, (Tx.set3 hBr (Nat.le_refl _) _ _ _).alloc (by have := hBr.size; simp; omega) _⟩
        · obtain ⟨b, o, rfl, hbl, c0⟩ := hAr.get (k := 0) (x := x1) rfl
          obtain ⟨b', o', e9, _, c1⟩ := hAr.get (k := 1) (x := x2) rfl
          cases e9
          rw [Nat.add_zero] at c0
          have hx2 := HXL.out x2 (by simp)
          obtain ⟨hc, hf, hlt2⟩ := Tx.blk hblkr
          obtain ⟨d, hd⟩ : ∃ d, Hd.dates x2.data.toList = d := ⟨_, rfl⟩
          have hnm := Ct.name_2 HV.out HW0.out HX.out.symm
          rw [hd] at hnm
          have HD := Lib.hid hd; clear hd
          have hBa := hBr.alloc hBr.size (.cells #[.string x1, .string ⟨#[]⟩, .string ⟨#[]⟩] 60)
          clear hxne
          cases d with
          | true =>
            rw [if_pos rfl] at hnm
            have HN := Lib.hid hnm; clear hnm
            go_wp2_with (go_at_call 100; refine (r12_Dates_c x2 _ (by omega)).mono ?_; rintro e w5 ⟨rfl, hb5⟩; rw [HD.out]; obtain ⟨nc, nf, nl⟩ := Tx.blk (Tx.fresh hb5); obtain ⟨rc, rf, rl⟩ := Tx.blk (Tx.keep hblkr hb5); have d1 := cell_later ((Tx.newb wr _).trans (hb5.mono (Tx.newb wr _).size)) c1)
            refine bodyPost_ret (v := .tuple #[.agg #[.string x1, .string ⟨#[]⟩, .string x2], .int .i64 0]) (by simp [results, Tryz.results69, go_sem, rc]) rfl ⟨by rw [HN.out]; rfl, Tx.set3 ((Tx.step hBa hb5).setCell hBr.size _) (Nat.le_refl _) _ _ _⟩
          | false =>
            rw [if_neg (by decide)] at hnm
            have HN := Lib.hid hnm; clear hnm
            go_wp2_with (go_at_call 100; refine (r12_Dates_c x2 _ (by omega)).mono ?_; rintro e w5 ⟨rfl, hb5⟩; rw [HD.out]; obtain ⟨nc, nf, nl⟩ := Tx.blk (Tx.fresh hb5); obtain ⟨rc, rf, rl⟩ := Tx.blk (Tx.keep hblkr hb5); have d1 := cell_later ((Tx.newb wr _).trans (hb5.mono (Tx.newb wr _).size)) c1)
            refine bodyPost_ret (v := .tuple #[.agg #[.string x1, .string x2, .string ⟨#[]⟩], .int .i64 0]) (by simp [results, Tryz.results69, go_sem, rc]) rfl ⟨by rw [HN.out]; rfl, Tx.set3 ((Tx.step hBa hb5).setCell hBr.size _) (Nat.le_refl _) _ _ _⟩
        · obtain ⟨b, o, rfl, hbl, c0⟩ := hAr.get (k := 0) (x := x1) rfl
          obtain ⟨b', o', e9, _, c1⟩ := hAr.get (k := 1) (x := x2) rfl
          cases e9
          obtain ⟨b', o', e9, _, c2⟩ := hAr.get (k := 2) (x := x3) rfl
          cases e9
          rw [Nat.add_zero] at c0
          have hx3 := HXL.out x3 (by simp)
          obtain ⟨hc, hf, hlt2⟩ := Tx.blk hblkr
          obtain ⟨d, hd⟩ : ∃ d, Hd.dates x3.data.toList = d := ⟨_, rfl⟩
          have hnm := Ct.name_3 HV.out HW0.out HX.out.symm
          rw [hd] at hnm
          have HD := Lib.hid hd; clear hd
          have hBa := hBr.alloc hBr.size (.cells #[.string x1, .string ⟨#[]⟩, .string ⟨#[]⟩] 60)
          clear hxne
          cases d with
          | true =>
            rw [if_pos rfl] at hnm
            have HN := Lib.hid hnm; clear hnm
            go_wp2_with (go_at_call 100; refine (r12_Dates_c x3 _ (by omega)).mono ?_; rintro e w5 ⟨rfl, hb5⟩; rw [HD.out]; obtain ⟨nc, nf, nl⟩ := Tx.blk (Tx.fresh hb5); obtain ⟨rc, rf, rl⟩ := Tx.blk (Tx.keep hblkr hb5); have d1 := cell_later ((Tx.newb wr _).trans (hb5.mono (Tx.newb wr _).size)) c1; have d2 := cell_later ((Tx.newb wr _).trans (hb5.mono (Tx.newb wr _).size)) c2)
            refine bodyPost_ret (v := .tuple #[.agg #[.string x1, .string x2, .string x3], .int .i64 0]) (by simp [results, Tryz.results69, go_sem, rc]) rfl ⟨by rw [HN.out]; rfl, Tx.set3 (((Tx.step hBa hb5).setCell hBr.size _).setCell hBr.size _) (Nat.le_refl _) _ _ _⟩
          | false =>
            rw [if_neg (by decide)] at hnm
            have HN := Lib.hid hnm; clear hnm
            go_wp2_with (go_at_call 100; refine (r12_Dates_c x3 _ (by omega)).mono ?_; rintro e w5 ⟨rfl, hb5⟩; rw [HD.out]; obtain ⟨nc, nf, nl⟩ := Tx.blk (Tx.fresh hb5); obtain ⟨rc, rf, rl⟩ := Tx.blk (Tx.keep hblkr hb5))
            refine bodyPost_ret (v := .tuple #[Ct.nmV none, .int .i64 3]) (by simp [results, Tryz.results69, go_sem, rc, Ct.nmV]) rfl ⟨by rw [HN.out]; rfl, Tx.set3 (Tx.step hBa hb5) (Nat.le_refl _) _ _ _⟩
end Go.Proofs.YtlinaeklhkfbcaaGreatDoor
