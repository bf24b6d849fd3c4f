/- The reference's Clip and Words: what the calls return. -/
import Derived.Test.YtccbadbfijkaeaaGreatDoorRfA
import Derived.Test.YtccbadbfijkaeaaGreatDoorWrE
namespace Go.Proofs.YtccbadbfijkaeaaGreatDoor
open Go.RowKit
set_option maxRecDepth 100000

set_option maxHeartbeats 800000 in
theorem r01_Clip_c (s : ByteArray) (n : Int) (w : World) (hs : s.size ≤ 1000000000) (hn : 0 ≤ n) (hn2 : n ≤ 9223372036854775807) :
    Calls Tryz.prog 88 #[.string s, .int .i64 n] w fun e w' => e = .returned (.string ⟨(Wr.clip n.toNat s.data.toList).toArray⟩) ∧ Below w.heap.size w w' := by
  go_enter Tryz.func88, Tryz.ntmps88
  go_wp2
  go_loopw [1, 5] (fun nv i wr => ∃ (k : Nat) (m : Int), k ≤ s.size ∧ i = .int .i64 k ∧ nv = .int .i64 m ∧ 0 ≤ m ∧ m ≤ 9223372036854775807 ∧ Hid (Wr.clip n.toNat s.data.toList = s.data.toList.take k ++ Wr.clip m.toNat (s.data.toList.drop k)) ∧ Below w.heap.size w wr) (fun _ i _ => s.size - (intOf i).toNat)
  case atStart => exact ⟨0, n, Nat.zero_le _, rfl, rfl, hn, hn2, Lib.hid (by simp), Below.refl _ _⟩
  case round =>
    obtain ⟨k, m, hk, rfl, rfl, hm0, hm9, hR, hb⟩ := hrel
    by_cases hlt : k < s.size
    · by_cases hmz : 0 < m
      · obtain ⟨_, _, h4, h5, _⟩ := Tx.rdec_fits hlt
        have hne : s.data.toList.drop k ≠ [] := Tx.drop_ne (by rw [← Lib.size_eq]; exact hlt)
        have hst := hR.out
        rw [show m.toNat = (m - 1).toNat + 1 by omega, Wr.clip_round hne] at hst
        obtain ⟨K, hK⟩ : ∃ K, Tx.wid (s.data.toList.drop k) = K := ⟨_, rfl⟩
        rw [hK] at hst h4 h5
        rw [List.drop_drop, ← List.append_assoc, ← List.take_add] at hst
        have HK := Lib.hid hK; clear hK
        have HS := Lib.hid hst; clear hst hne
        go_wp2_with (go_at_call 57; refine (r01_size_c s k _ hlt (by omega)).mono ?_; rintro e w1 ⟨rfl, hb1⟩; rw [HK.out])
        go_roundw
        case rel => exact ⟨k + K, m - 1, by omega, by go_num, by go_num, by omega, by omega, HS, hb.trans (hb1.mono hb.size)⟩
        case measure => simp [intOf]; omega
      · obtain rfl : m = 0 := by omega
        have hfin : Wr.clip n.toNat s.data.toList = s.data.toList.take k := by rw [hR.out]; simp [Wr.clip]
        have HF := Lib.hid hfin; clear hfin hR
        go_wp2
        go_ret
        exact ⟨Tx.rets (by rw [HF.out, Tx.ext_list]; simp), hb⟩
    · obtain rfl : k = s.size := by omega
      have hfin : Wr.clip n.toNat s.data.toList = s.data.toList := by
        rw [hR.out, List.drop_eq_nil_of_le (by rw [← Lib.size_eq]; omega), Wr.clip_nil, List.append_nil, List.take_of_length_le (by rw [← Lib.size_eq]; omega)]
      have HF := Lib.hid hfin; clear hfin hR
      go_wp2
      go_ret
      exact ⟨Tx.rets (by rw [HF.out]), hb⟩

namespace Wr
open Rc
/-- A text's length. -/
def strLen : Value → Nat | .string s => s.size | _ => 0
/-- What is to come: from byte k on, the word W being read. -/
def restR (n : Nat) (s : By) (k : Nat) (W : By) : List By := if k ≤ s.length then wordsR n W (s.drop k) else []
theorem restR_char {n : Nat} {s : By} {k : Nat} {c : UInt8} (W : By) (h : s[k]? = some c) (hc : c ≠ 32) : restR n s k W = restR n s (k + 1) (W ++ [c]) := by
  have hk : k < s.length := (List.getElem?_eq_some_iff.1 h).1
  unfold restR
  rw [if_pos (by omega), if_pos (by omega), drop_at h, wordsR, if_neg hc]
theorem restR_blank {n : Nat} {s : By} {k : Nat} (W : By) (h : s[k]? = some 32) : restR n s k W = pieces n W ++ restR n s (k + 1) [] := by
  have hk : k < s.length := (List.getElem?_eq_some_iff.1 h).1
  unfold restR
  rw [if_pos (by omega), if_pos (by omega), drop_at h, wordsR, if_pos rfl]
theorem restR_end {n : Nat} {s : By} (W : By) : restR n s s.length W = pieces n W ++ restR n s (s.length + 1) [] := by
  unfold restR
  rw [if_pos (by omega), if_neg (by omega), List.drop_length, wordsR, List.append_nil]
end Wr

set_option maxHeartbeats 3200000 in
theorem r25_Words_c (s : ByteArray) (n : Int) (w : World) (hs : s.size ≤ 1000000) (hn : 1 ≤ n) (hn2 : n ≤ 9223372036854775807) :
    Calls Tryz.prog 56 #[.string s, .int .i64 n] w fun e w' => ∃ wb vc, e = .returned (.slice (some ⟨wb, 0, none⟩) (Wr.wordsR n.toNat [] s.data.toList).length vc) ∧ w'.ownsRow w.heap.size 9 1 (.slice (some ⟨wb, 0, none⟩) (Wr.wordsR n.toNat [] s.data.toList).length vc) (Wr.wordsR n.toNat [] s.data.toList).length ((Wr.wordsR n.toNat [] s.data.toList).map fun x => Value.string (Wr.mk x)) ∧ (Wr.wordsR n.toNat [] s.data.toList).length ≤ 1000001 ∧ Below w.heap.size w w' := by
  obtain ⟨i0, hi0, hz0, hz1, hz2⟩ := info_parts info_str
  have hn1 : 1 ≤ n.toNat := by omega
  have HSZ := Lib.hid (Lib.size_eq s)
  go_enter Tryz.func56, Tryz.ntmps56
  go_wp2
  go_loopw [5, 6, 7, 8] (fun v wv i _ wr => ∃ (k : Nat) (W : List UInt8) (L : List Rc.By), k ≤ s.size + 1 ∧ i = .int .i64 k ∧ wv = .string ⟨W.toArray⟩ ∧ Hid (Wr.wordsR n.toNat [] s.data.toList = L ++ Wr.restR n.toNat s.data.toList k W) ∧ L.length + W.length ≤ k ∧ wr.ownsRow w.heap.size 9 1 v L.length (L.map fun x => Value.string (Wr.mk x)) ∧ Hid (v ≠ .slice none 0 0) ∧ Below w.heap.size w wr) (fun _ _ i _ _ => s.size + 1 - (intOf i).toNat)
  case atStart => exact ⟨0, [], [], Nat.zero_le _, rfl, rfl, Lib.hid (by simp [Wr.restR]), by simp, World.ownsRow_lit (base := w.heap.size) (e := 9) (size := 1) w #[] 0 (by simp) (by unfold maxLen; omega) rfl, Lib.hid (by simp), Tx.newb _ _⟩
  case round =>
    obtain ⟨k, W, L, hk, rfl, rfl, hR, hLW, hown, hnn, hb⟩ := hrel
    have hbs := hb.size
    by_cases hend : k = s.size + 1
    · subst hend
      have hfin : Wr.wordsR n.toNat [] s.data.toList = L := by
        rw [hR.out]
        unfold Wr.restR
        rw [if_neg (by rw [← HSZ.out]; omega), List.append_nil]
      have HF := Lib.hid hfin; clear hfin hR
      rcases hown.2 with ⟨h0, _⟩ | ⟨g, cap, cur, rfl, _⟩
      · exact absurd h0 hnn.out
      · go_wp2
        go_ret
        rw [HF.out]
        exact ⟨g, cap, rfl, hown, by omega, hb⟩
    · by_cases hch : ∃ hlt : k < s.size, (s[k]'hlt).toNat ≠ 32
      · obtain ⟨hlt, hc⟩ := hch
        have hget : s.data.toList[k]? = some (s[k]'hlt) := List.getElem?_eq_getElem (by rw [← HSZ.out]; omega)
        have hst := hR.out
        rw [Wr.restR_char W hget (fun e => hc (by rw [e]; rfl))] at hst
        have hci : ¬ ((s[k]'hlt).toNat : Int) = 32 := by omega
        have hex : s.extract k (k + 1) = ⟨[s[k]'hlt].toArray⟩ := by
          rw [Tx.ext_list, Wr.drop_at hget]
          simp
        have HS := Lib.hid hst; clear hst hR hget
        have HEX := Lib.hid hex; clear hex
        obtain ⟨a1, -⟩ := Tx.adds_ok Tryz.prog [s.extract k (k + 1)] ⟨W.toArray⟩ (by rw [HEX.out]; simp only [List.map_cons, List.map_nil, List.sum_cons, List.sum_nil, Tx.size_mk]; simp; omega)
        go_wp2
        go_roundw
        case rel => exact ⟨k + 1, W ++ [s[k]'hlt], L, by omega, by go_num, by rw [HEX.out, Tx.bcat], HS, by simp; omega, hown, hnn, hb⟩
        case measure => simp [intOf]; omega
      · have hst : Wr.wordsR n.toNat [] s.data.toList = L ++ Wr.pieces n.toNat W ++ Wr.restR n.toNat s.data.toList (k + 1) [] := by
          rw [hR.out, List.append_assoc]
          congr 1
          by_cases hlt : k < s.size
          · have hget : s.data.toList[k]? = some (s[k]'hlt) := List.getElem?_eq_getElem (by rw [← HSZ.out]; omega)
            have hc : s[k]'hlt = 32 := UInt8.toNat.inj (Classical.byContradiction fun h => hch ⟨hlt, h⟩)
            exact Wr.restR_blank W (by rw [hget, hc])
          · obtain rfl : k = s.data.toList.length := by rw [← HSZ.out]; omega
            exact Wr.restR_end W
        have HS := Lib.hid hst; clear hst hR
        by_cases hlt : k < s.size
        · have hci : ((s[k]'hlt).toNat : Int) = 32 := by
            have : (s[k]'hlt).toNat = 32 := Classical.byContradiction fun h => hch ⟨hlt, h⟩
            omega
          clear hch
          go_wp2
          have hkd : decide (k ≤ s.size) = true := decide_eq_true (by omega)
          try rw [hkd]
          clear hkd
          go_loopw [5, 6, 8] (fun v wv _ wr2 => ∃ (U : List UInt8) (M : List Rc.By), wv = .string ⟨U.toArray⟩ ∧ Hid (L ++ Wr.pieces n.toNat W = M ++ Wr.pieces n.toNat U) ∧ M.length + U.length ≤ k ∧ wr2.ownsRow w.heap.size 9 1 v M.length (M.map fun x => Value.string (Wr.mk x)) ∧ Hid (v ≠ .slice none 0 0) ∧ Below w.heap.size w wr2) (fun _ wv _ _ => Wr.strLen wv)
          case atStart => exact ⟨W, L, rfl, Lib.hid rfl, hLW, hown, hnn, hb⟩
          case round =>
            clear hown hLW hnn hb hbs
            obtain ⟨U, M, rfl, hP, hMU, hown, hnn, hb⟩ := hrel
            have hbs := hb.size
            by_cases hu : U = []
            · subst hu
              have HS2 : Hid (Wr.wordsR n.toNat [] s.data.toList = M ++ Wr.restR n.toNat s.data.toList (k + 1) []) := Lib.hid (by
                rw [HS.out, hP.out, Wr.pieces_nil, List.append_nil])
              go_wp2
              go_roundw
              case rel => exact ⟨k + 1, [], M, by omega, by go_num, rfl, HS2, by simp at hMU; simp; omega, hown, hnn, hb⟩
              case measure => first | (simp [intOf]; done) | (simp [intOf]; omega)
            · have hpp := hP.out
              rw [Wr.pieces_step hn1 hu] at hpp
              have hcl := Wr.clip_len n.toNat U
              have hcp := List.length_pos_iff.2 (Wr.clip_ne hn1 hu)
              obtain ⟨p, hp⟩ : ∃ p, Wr.clip n.toNat U = p := ⟨_, rfl⟩
              rw [hp] at hpp hcl hcp
              have hue : U.isEmpty = false := by simpa using hu
              have HPP := Lib.hid hpp; clear hpp hP hu
              have HPC := Lib.hid hp; clear hp
              go_wp2_with (first
                | (go_at_call 88; refine (r01_Clip_c ⟨U.toArray⟩ n _ (by rw [Tx.size_mk]; omega) (by omega) hn2).mono ?_; rintro e w2 ⟨rfl, hb2⟩; rw [show Wr.clip n.toNat (⟨U.toArray⟩ : ByteArray).data.toList = p from HPC.out])
                | (at_builtin; refine wpList_append_own _ rfl _ _ 29 rfl w.heap.size 9 i0 (.string ⟨#[]⟩) 1 16 Tryz.underlying29 hi0 hz0 hz1 hz2 rfl (by decide) _ M.length _ rfl ((own_below hown hb2).alloc _) ⟨_, 0, none⟩ 1 1 [.string ⟨p.toArray⟩] rfl rfl (Tx.cell_one_at _ _ (by first | rfl | simp) _ _) (by simp [Value.oneCell']) (by unfold maxLen; omega) (by omega) (by have := hb2.size; simp; omega) ?_; intro v' w5 hown5 hg5 hnil5))
              have hb3 := hb.trans (hb2.mono hbs)
              have hb5 : Below w.heap.size w w5 := (hb3.alloc hb3.size _).grown hg5 (by have := hb3.size; simp; omega) (fun j hj => (hown.lt j hj).1)
              go_roundw
              case rel => exact ⟨U.drop p.length, M ++ [p], by rw [Tx.ext_list]; simp; exact List.take_of_length_le (by simp), Lib.hid (by rw [HPP.out]; simp), by simp; omega, by simpa [Wr.mk] using hown5, Lib.hid (fun e => by have := (hnil5.1 e).2; omega), hb5⟩
              case measure => simp [Wr.strLen, Tx.ext_list, Tx.size_mk]; omega
        · obtain rfl : k = s.size := by omega
          clear hch
          go_wp2
          have hkd : decide (s.size ≤ s.size) = true := decide_eq_true (by omega)
          try rw [hkd]
          clear hkd
          go_loopw [5, 6, 8] (fun v wv _ wr2 => ∃ (U : List UInt8) (M : List Rc.By), wv = .string ⟨U.toArray⟩ ∧ Hid (L ++ Wr.pieces n.toNat W = M ++ Wr.pieces n.toNat U) ∧ M.length + U.length ≤ s.size ∧ wr2.ownsRow w.heap.size 9 1 v M.length (M.map fun x => Value.string (Wr.mk x)) ∧ Hid (v ≠ .slice none 0 0) ∧ Below w.heap.size w wr2) (fun _ wv _ _ => Wr.strLen wv)
          case atStart => exact ⟨W, L, rfl, Lib.hid rfl, hLW, hown, hnn, hb⟩
          case round =>
            clear hown hLW hnn hb hbs
            obtain ⟨U, M, rfl, hP, hMU, hown, hnn, hb⟩ := hrel
            have hbs := hb.size
            by_cases hu : U = []
            · subst hu
              have HS2 : Hid (Wr.wordsR n.toNat [] s.data.toList = M ++ Wr.restR n.toNat s.data.toList (s.size + 1) []) := Lib.hid (by
                rw [HS.out, hP.out, Wr.pieces_nil, List.append_nil])
              go_wp2
              go_roundw
              case rel => exact ⟨s.size + 1, [], M, by omega, by go_num, rfl, HS2, by simp at hMU; simp; omega, hown, hnn, hb⟩
              case measure => first | (simp [intOf]; done) | (simp [intOf]; omega)
            · have hpp := hP.out
              rw [Wr.pieces_step hn1 hu] at hpp
              have hcl := Wr.clip_len n.toNat U
              have hcp := List.length_pos_iff.2 (Wr.clip_ne hn1 hu)
              obtain ⟨p, hp⟩ : ∃ p, Wr.clip n.toNat U = p := ⟨_, rfl⟩
              rw [hp] at hpp hcl hcp
              have hue : U.isEmpty = false := by simpa using hu
              have HPP := Lib.hid hpp; clear hpp hP hu
              have HPC := Lib.hid hp; clear hp
              go_wp2_with (first
                | (go_at_call 88; refine (r01_Clip_c ⟨U.toArray⟩ n _ (by rw [Tx.size_mk]; omega) (by omega) hn2).mono ?_; rintro e w2 ⟨rfl, hb2⟩; rw [show Wr.clip n.toNat (⟨U.toArray⟩ : ByteArray).data.toList = p from HPC.out])
                | (at_builtin; refine wpList_append_own _ rfl _ _ 29 rfl w.heap.size 9 i0 (.string ⟨#[]⟩) 1 16 Tryz.underlying29 hi0 hz0 hz1 hz2 rfl (by decide) _ M.length _ rfl ((own_below hown hb2).alloc _) ⟨_, 0, none⟩ 1 1 [.string ⟨p.toArray⟩] rfl rfl (Tx.cell_one_at _ _ (by first | rfl | simp) _ _) (by simp [Value.oneCell']) (by unfold maxLen; omega) (by omega) (by have := hb2.size; simp; omega) ?_; intro v' w5 hown5 hg5 hnil5))
              have hb3 := hb.trans (hb2.mono hbs)
              have hb5 : Below w.heap.size w w5 := (hb3.alloc hb3.size _).grown hg5 (by have := hb3.size; simp; omega) (fun j hj => (hown.lt j hj).1)
              go_roundw
              case rel => exact ⟨U.drop p.length, M ++ [p], by rw [Tx.ext_list]; simp; exact List.take_of_length_le (by simp), Lib.hid (by rw [HPP.out]; simp), by simp; omega, by simpa [Wr.mk] using hown5, Lib.hid (fun e => by have := (hnil5.1 e).2; omega), hb5⟩
              case measure => simp [Wr.strLen, Tx.ext_list, Tx.size_mk]; omega
end Go.Proofs.YtccbadbfijkaeaaGreatDoor
