/- The program's Runes, Clip and pieces: what the calls return. -/
import Derived.Test.YtccbadbfijkaeaaGreatDoorWrC
import Derived.Test.YtccbadbfijkaeaaGreatDoorRcE
namespace Go.Proofs.YtccbadbfijkaeaaGreatDoor
open Go.RowKit
set_option maxRecDepth 100000

theorem Tx.ext_list (s : ByteArray) (a b : Nat) : s.extract a b = ⟨((s.data.toList.drop a).take (b - a)).toArray⟩ := by
  apply ByteArray.ext
  apply Array.toList_inj.1
  simp
theorem Tx.iterb (w : World) (s : ByteArray) (pos : Nat) : Below w.heap.size w (w.iter s pos) := (Below.refl _ _).alloc (Nat.le_refl _) _

set_option maxHeartbeats 400000 in
theorem text_Runes_c (s : ByteArray) (w : World) (hs : s.size ≤ 1000000000) (hv : Tx.valid s.data.toList = true) :
    Calls Tryz.prog 55 #[.string s] w fun e w' => e = .returned (.int .i64 (Wr.runes s.data.toList)) ∧ Below w.heap.size w w' := by
  have hr := Wr.runeCount_eq s hv
  have HR := Lib.hid hr; clear hr hv
  go_enter Tryz.func55, Tryz.ntmps55
  go_wp2_with (go_at_call 87; refine (Tryz.utf8_RuneCountInString s _ (by omega)).mono ?_; rintro e w1 ⟨rfl, pos, rfl⟩; rw [HR.out])
  go_ret
  exact ⟨rfl, Tx.iterb _ _ _⟩

namespace Wr
theorem clip_round {l : List UInt8} {m : Nat} (hne : l ≠ []) : clip (m + 1) l = l.take (Tx.wid l) ++ clip m (l.drop (Tx.wid l)) := by
  conv => lhs; unfold clip
  rw [if_neg hne]
end Wr

set_option maxHeartbeats 800000 in
theorem text_Clip_c (s : ByteArray) (n : Int) (w : World) (hv : Tx.valid s.data.toList = true) (hn : 0 ≤ n) (hn2 : n ≤ 9223372036854775807) :
    Calls Tryz.prog 86 #[.string s, .int .i64 n] w fun e w' => e = .returned (.string ⟨(Wr.clip n.toNat s.data.toList).toArray⟩) ∧ Below w.heap.size w w' := by
  have HV := Lib.hid hv; clear hv
  go_enter Tryz.func86, Tryz.ntmps86
  go_wp2
  go_loopg [1, 5] s.size (fun gf nv _ wx => ∃ (pos : Nat) (m : Int), pos ≤ s.size ∧ s.size ≤ pos + gf ∧ nv = .int .i64 m ∧ 0 ≤ m ∧ m ≤ 9223372036854775807 ∧ wx.heap[w.heap.size]? = some (.stringIter s pos) ∧ Below w.heap.size w wx ∧ Hid (Wr.clip n.toNat s.data.toList = s.data.toList.take pos ++ Wr.clip m.toNat (s.data.toList.drop pos)) ∧ Hid (Tx.valid (s.data.toList.drop pos) = true))
  case atStart => exact ⟨0, n, Nat.zero_le _, by omega, rfl, hn, hn2, World.iter_heap w s 0, Tx.iterb _ _ _, Lib.hid (by simp), Lib.hid (by simpa using HV.out)⟩
  case round =>
    obtain ⟨pos, m, hps, hfu, rfl, hm0, hm9, hit, hbw, hR, hVp⟩ := hrel
    by_cases hlt : pos < s.size
    · obtain ⟨g', rfl⟩ : ∃ g', gk = g' + 1 := ⟨gk - 1, by omega⟩
      have hnx : ∀ ty, (Instr.next (.pointer (some ⟨w.heap.size, 0, none⟩)) true ty).run Tryz.prog wr = _ := fun ty => Lib.run_next_any_at wr w.heap.size s pos ty hit hlt
      have hne : s.data.toList.drop pos ≠ [] := Tx.drop_ne (by rw [← Lib.size_eq]; exact hlt)
      obtain ⟨hz, hd, hw, hv2, _⟩ := Tx.valid_head hne hVp.out
      have hdec : Utf8.decode s pos = Tx.rdec (s.data.toList.drop pos) := by rw [← Lib.decodeL_drop, hd]
      have hwl := Tx.wid_le hne
      rw [List.length_drop, ← Lib.size_eq] at hwl
      have hwp := Tx.wid_pos (s.data.toList.drop pos)
      rw [hdec, ← hw] at hnx
      rw [List.drop_drop] at hv2
      have hit2 := fun K => Lib.iterAt_heap wr w.heap.size s pos (pos + K) hit
      have hbw2 := fun K => Lib.below_iterAt hbw (k := w.heap.size) (Nat.le_refl _) s (pos + K)
      by_cases hmz : m = 0
      · subst hmz
        have hfin : Wr.clip n.toNat s.data.toList = s.data.toList.take pos := by rw [hR.out]; simp [Wr.clip]
        have HF := Lib.hid hfin; clear hfin hR
        obtain ⟨R, hR1⟩ : ∃ R, (Tx.rdec (s.data.toList.drop pos)).1 = R := ⟨_, rfl⟩
        obtain ⟨K, hK⟩ : ∃ K, Tx.wid (s.data.toList.drop pos) = K := ⟨_, rfl⟩
        rw [hR1, hK] at hnx
        have hb3 := hbw2 K
        obtain ⟨W, hWd⟩ : ∃ W, wr.iterAt w.heap.size s (pos + K) = W := ⟨_, rfl⟩
        rw [hWd] at hnx hb3
        clear hit2 hbw2 hWd hR1 hK hdec hd hw hz hv2 hwl hwp hne hit
        go_wp2
        go_ret
        exact ⟨Tx.rets (by rw [HF.out, Tx.ext_list]; simp), hb3⟩
      · have hm1 : 1 ≤ m := by omega
        have hst := hR.out
        rw [show m.toNat = (m - 1).toNat + 1 by omega] at hst
        rw [Wr.clip_round hne] at hst
        obtain ⟨R, hR1⟩ : ∃ R, (Tx.rdec (s.data.toList.drop pos)).1 = R := ⟨_, rfl⟩
        obtain ⟨K, hK⟩ : ∃ K, Tx.wid (s.data.toList.drop pos) = K := ⟨_, rfl⟩
        rw [hR1, hK] at hnx
        rw [hK] at hst hwl hwp hv2
        rw [List.drop_drop, ← List.append_assoc, ← List.take_add] at hst
        have hb3 := hbw2 K
        have hi3 := hit2 K
        obtain ⟨W, hWd⟩ : ∃ W, wr.iterAt w.heap.size s (pos + K) = W := ⟨_, rfl⟩
        rw [hWd] at hnx hb3 hi3
        have HS := Lib.hid hst
        have HV2 := Lib.hid hv2
        have HI := Lib.hid hi3
        clear hst hv2 hi3 hit2 hbw2 hWd hR1 hK hdec hd hw hz hne hit hR
        go_wp2
        go_roundg g'
        case measure => omega
        case rel => exact ⟨pos + K, m - 1, by omega, by omega, by go_num, by omega, by omega, HI.out, hb3, HS, HV2⟩
    · obtain rfl : pos = s.size := by omega
      have hnx : ∀ ty, (Instr.next (.pointer (some ⟨w.heap.size, 0, none⟩)) true ty).run Tryz.prog wr = _ := fun ty => Lib.run_next_end_at wr w.heap.size s s.size ty hit hlt
      have hfin : Wr.clip n.toNat s.data.toList = s.data.toList := by
        rw [hR.out, List.drop_eq_nil_of_le (by rw [← Lib.size_eq]; omega), Wr.clip_nil, List.append_nil, List.take_of_length_le (by rw [← Lib.size_eq]; omega)]
      have HF := Lib.hid hfin; clear hfin hR hit
      go_wp2
      go_ret
      exact ⟨Tx.rets (by rw [HF.out]), hbw⟩

set_option maxHeartbeats 1600000 in
theorem pieces_c (u : List UInt8) (n : Int) (w : World) (hs : u.length ≤ 1000000) (hv : Tx.valid u = true) (hu : u ≠ []) (hn : 1 ≤ n) (hn2 : n ≤ 9223372036854775807) :
    Calls Tryz.prog 54 #[.string ⟨u.toArray⟩, .int .i64 n] w fun e w' => ∃ pb vc, e = .returned (.slice (some ⟨pb, 0, none⟩) (Wr.pieces n.toNat u).length vc) ∧ w'.ownsRow w.heap.size 9 1 (.slice (some ⟨pb, 0, none⟩) (Wr.pieces n.toNat u).length vc) (Wr.pieces n.toNat u).length ((Wr.pieces n.toNat u).map fun x => Value.string ⟨x.toArray⟩) ∧ Below w.heap.size w w' := by
  obtain ⟨i0, hi0, hz0, hz1, hz2⟩ := info_parts info_str
  have HV := Lib.hid hv; clear hv
  have HU := Lib.hid hu; clear hu
  go_enter Tryz.func54, Tryz.ntmps54
  go_wp2
  go_loopg [0, 5, 6] u.length (fun gf uv v _ wx => ∃ (U : List UInt8) (L : List ByteArray), U.length ≤ gf ∧ U.length ≤ 1000000 ∧ uv = .string ⟨U.toArray⟩ ∧ Hid (U ≠ [] ∧ Tx.valid U = true) ∧ Hid ((Wr.pieces n.toNat u).map (fun x => (⟨x.toArray⟩ : ByteArray)) = L ++ (Wr.pieces n.toNat U).map fun x => (⟨x.toArray⟩ : ByteArray)) ∧ L.length + U.length ≤ 1000000 ∧ wx.ownsRow w.heap.size 9 1 v L.length (L.map Value.string) ∧ Below w.heap.size w wx)
  case atStart => exact ⟨u, [], Nat.le_refl _, hs, rfl, Lib.hid ⟨HU.out, HV.out⟩, Lib.hid rfl, by simpa using hs, World.ownsRow_nil _ _ _ _, Below.refl _ _⟩
  case round =>
    obtain ⟨U, L, hg, hU9, rfl, hUv, hP, hLl, hown, hb⟩ := hrel
    have hbs := hb.size
    by_cases hR : n.toNat < Wr.runes U
    · obtain ⟨hm1, hm2, hm3, hm4⟩ := Wr.pieces_more (by omega) hR
      have hpp := hP.out
      rw [hm1, List.map_cons] at hpp
      have hcv := (Wr.clip_valid n.toNat U hUv.out.2).2.1
      obtain ⟨p, hp⟩ : ∃ p, Wr.clip n.toNat U = p := ⟨_, rfl⟩
      rw [hp] at hpp hm2 hm3 hm4 hcv
      have hrn : n < (Wr.runes U : Int) := by omega
      have HPP := Lib.hid hpp; clear hpp hm1
      have HN2 : Hid (U.drop p.length ≠ [] ∧ Tx.valid (U.drop p.length) = true) := Lib.hid ⟨hm2, hcv⟩
      clear hm2 hcv hR
      have HPC := Lib.hid hp; clear hp
      obtain ⟨g', rfl⟩ : ∃ g', gk = g' + 1 := ⟨gk - 1, by omega⟩
      go_wp2_with (first
        | (go_at_call 55; refine (text_Runes_c ⟨U.toArray⟩ _ (by rw [Tx.size_mk]; omega) hUv.out.2).mono ?_; rintro e w1 ⟨rfl, hb1⟩)
        | (go_at_call 86; refine (text_Clip_c ⟨U.toArray⟩ n _ hUv.out.2 (by omega) hn2).mono ?_; rintro e w2 ⟨rfl, hb2⟩; rw [show Wr.clip n.toNat (⟨U.toArray⟩ : ByteArray).data.toList = p from HPC.out]; have hb12 := Tx.step hb1 hb2)
        | (at_builtin; refine wpList_append_own _ rfl _ _ 29 rfl w.heap.size 9 i0 (.string ⟨#[]⟩) 1 16 Tryz.underlying29 hi0 hz0 hz1 hz2 rfl (by decide) _ L.length _ rfl ((own_below hown hb12).alloc _) ⟨_, 0, none⟩ 1 1 [.string ⟨p.toArray⟩] rfl rfl (Tx.cell_one_at _ _ (by first | rfl | simp) _ _) (by simp [Value.oneCell']) (by unfold maxLen; omega) (by omega) (by have := hb12.size; simp; omega) ?_; intro v' w5 hown5 hg5 hnil5))
      have hb3 := hb.trans (hb12.mono hbs)
      have hb5 : Below w.heap.size w w5 := (hb3.alloc hb3.size _).grown hg5 (by have := hb3.size; simp; omega) (fun j hj => (hown.lt j hj).1)
      go_roundg g'
      case measure => omega
      case rel => exact ⟨U.drop p.length, L ++ [⟨p.toArray⟩], by rw [List.length_drop]; omega, by rw [List.length_drop]; omega, by rw [Tx.ext_list]; simp; exact List.take_of_length_le (by simp), HN2, Lib.hid (by rw [HPP.out]; simp), by simp; omega, by simpa using hown5, hb5⟩
    · have hrn : ¬ n < (Wr.runes U : Int) := by omega
      have hpp := hP.out
      rw [Wr.pieces_one (by omega) hUv.out.1 (by omega)] at hpp
      have HPP := Lib.hid hpp; clear hpp hR
      go_wp2_with (first
        | (go_at_call 55; refine (text_Runes_c ⟨U.toArray⟩ _ (by rw [Tx.size_mk]; omega) hUv.out.2).mono ?_; rintro e w1 ⟨rfl, hb1⟩)
        | (at_builtin; refine wpList_append_own _ rfl _ _ 29 rfl w.heap.size 9 i0 (.string ⟨#[]⟩) 1 16 Tryz.underlying29 hi0 hz0 hz1 hz2 rfl (by decide) _ L.length _ rfl ((own_below hown hb1).alloc _) ⟨_, 0, none⟩ 1 1 [.string ⟨U.toArray⟩] rfl rfl (Tx.cell_one_at _ _ (by first | rfl | simp) _ _) (by simp [Value.oneCell']) (by unfold maxLen; omega) (by omega) (by have := hb1.size; simp; omega) ?_; intro v' w5 hown5 hg5 hnil5))
      have hb3 := hb.trans (hb1.mono hbs)
      have hb5 : Below w.heap.size w w5 := (hb3.alloc hb3.size _).grown hg5 (by have := hb3.size; simp; omega) (fun j hj => (hown.lt j hj).1)
      have hlist : (Wr.pieces n.toNat u).map (fun x => (⟨x.toArray⟩ : ByteArray)) = L ++ [⟨U.toArray⟩] := HPP.out
      have hll : (Wr.pieces n.toNat u).length = L.length + 1 := by
        have := congrArg List.length hlist
        simpa using this
      have hvl : (Wr.pieces n.toNat u).map (fun x => Value.string ⟨x.toArray⟩) = L.map Value.string ++ [.string ⟨U.toArray⟩] := by
        have := congrArg (List.map Value.string) hlist
        rw [List.map_map, List.map_append] at this
        exact this
      obtain ⟨pb, vc, hv5⟩ : ∃ pb vc, v' = .slice (some ⟨pb, 0, none⟩) (L.length + 1) vc := by
        rcases hown5.2 with ⟨-, h0⟩ | ⟨pb, vc, cur, hv5, -⟩
        · exact absurd h0 (by omega)
        · exact ⟨pb, vc, hv5⟩
      subst hv5
      go_ret
      rw [hll, hvl]
      exact ⟨pb, vc, rfl, hown5, hb5⟩
end Go.Proofs.YtccbadbfijkaeaaGreatDoor
