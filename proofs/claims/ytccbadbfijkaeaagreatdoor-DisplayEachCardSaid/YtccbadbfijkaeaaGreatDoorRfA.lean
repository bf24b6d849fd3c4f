/- The reference's Runes; the law's solid: what the calls return. -/
import Derived.Test.YtccbadbfijkaeaaGreatDoorWrD
namespace Go.Proofs.YtccbadbfijkaeaaGreatDoor
open Go.RowKit
set_option maxRecDepth 100000

set_option maxHeartbeats 800000 in
theorem r01_Runes_c (s : ByteArray) (w : World) (hs : s.size ≤ 1000000000) :
    Calls Tryz.prog 25 #[.string s] w fun e w' => e = .returned (.int .i64 (Wr.runes s.data.toList)) ∧ Below w.heap.size w w' := by
  go_enter Tryz.func25, Tryz.ntmps25
  go_wp2
  go_loopw [3, 4] (fun nv i wr => ∃ (k m : Nat), k ≤ s.size ∧ i = .int .i64 k ∧ nv = .int .i64 m ∧ m ≤ k ∧ Hid (m + Wr.runes (s.data.toList.drop k) = Wr.runes s.data.toList) ∧ Below w.heap.size w wr) (fun _ i _ => s.size - (intOf i).toNat)
  case atStart => exact ⟨0, 0, Nat.zero_le _, rfl, rfl, Nat.le_refl _, Lib.hid (by simp), Below.refl _ _⟩
  case round =>
    obtain ⟨k, m, hk, rfl, rfl, hmk, hR, hb⟩ := hrel
    by_cases hlt : k < s.size
    · obtain ⟨_, _, h4, h5, _⟩ := Tx.rdec_fits hlt
      have hne : s.data.toList.drop k ≠ [] := Tx.drop_ne (by rw [← Lib.size_eq]; exact hlt)
      have hst := hR.out
      rw [Wr.runes_step hne, List.drop_drop] at hst
      obtain ⟨K, hK⟩ : ∃ K, Tx.wid (s.data.toList.drop k) = K := ⟨_, rfl⟩
      rw [hK] at hst h4 h5
      have HK := Lib.hid hK; clear hK
      have HS : Hid (m + 1 + Wr.runes (s.data.toList.drop (k + K)) = Wr.runes s.data.toList) := Lib.hid (by omega)
      clear hst hne
      go_wp2_with (go_at_call 57; refine (r01_size_c s k _ hlt (by omega)).mono ?_; rintro e w1 ⟨rfl, hb1⟩; rw [HK.out])
      go_roundw
      case rel => exact ⟨k + K, m + 1, by omega, by go_num, by go_num, by omega, HS, hb.trans (hb1.mono hb.size)⟩
      case measure => simp [intOf]; omega
    · obtain rfl : k = s.size := by omega
      have hv := hR.out
      rw [List.drop_eq_nil_of_le (by rw [← Lib.size_eq]; omega), Wr.runes_nil] at hv
      have HV := Lib.hid hv; clear hv
      go_wp2
      go_ret
      exact ⟨Tx.ret1 (by rw [← HV.out]; simp), hb⟩

theorem info_u8 : (Tryz.prog.info? 5).map (fun i => (i.zero, i.size, i.bytes)) = some (some (.int .u8 0), 1, 1) := by kernel_rfl
namespace Wr
theorem solid_take {s : ByteArray} {k : Nat} (h : k < s.size) : solid (s.data.toList.take (k + 1)) = solid (s.data.toList.take k) ++ (if (s[k]'h).toNat = 32 then [] else [s[k]'h]) := by
  have h' : k < s.data.toList.length := by rw [← Lib.size_eq]; exact h
  have e : s.data.toList[k]? = some (s[k]'h) := List.getElem?_eq_getElem h'
  rw [List.take_add_one, e, solid_app]
  congr 1
  unfold solid
  simp only [Option.toList, List.filter_cons, List.filter_nil]
  by_cases hc : (s[k]'h).toNat = 32
  · have : s[k]'h = 32 := UInt8.toNat.inj (by rw [hc]; rfl)
    rw [if_pos hc, this]
    rfl
  · have : s[k]'h ≠ 32 := fun e => hc (by rw [e]; rfl)
    rw [if_neg hc]
    have hn : nb (s[k]'h) = true := by unfold nb; simpa using this
    rw [hn]
    rfl
abbrev u8s (l : List UInt8) : List Value := l.map fun x => Value.int .u8 x.toNat
end Wr

set_option maxHeartbeats 1600000 in
theorem solid_c (s : ByteArray) (w : World) (hs : s.size ≤ 1000000000) :
    Calls Tryz.prog 26 #[.string s] w fun e w' => e = .returned (.string ⟨(Wr.solid s.data.toList).toArray⟩) ∧ Below w.heap.size w w' := by
  obtain ⟨i0, hi0, hz0, hz1, hz2⟩ := info_parts info_u8
  have hlen : ∀ k, (Wr.solid (s.data.toList.take k)).length ≤ k := fun k => Nat.le_trans (List.length_filter_le _ _) (List.length_take_le _ _)
  have HLN := Lib.hid hlen; clear hlen
  go_enter Tryz.func26, Tryz.ntmps26
  go_wp2
  go_loopw [3, 4] (fun v i wr => ∃ (k : Nat) (L : List UInt8), k ≤ s.size ∧ i = .int .i64 k ∧ Hid (L = Wr.solid (s.data.toList.take k)) ∧ L.length ≤ k ∧ wr.ownsRow w.heap.size 5 1 v L.length (Wr.u8s L) ∧ Hid (v ≠ .slice none 0 0) ∧ Below w.heap.size w wr) (fun _ i _ => s.size - (intOf i).toNat)
  case atStart =>
    refine ⟨0, [], Nat.zero_le _, rfl, Lib.hid rfl, Nat.le_refl _, ?_, Lib.hid (by simp), Tx.newb _ _⟩
    exact World.ownsRow_lit (base := w.heap.size) (e := 5) (size := 1) w #[] 0 (by simp) (by unfold maxLen; omega) rfl
  case round =>
    obtain ⟨k, L, hk, rfl, hL, hLk, hown, hnn, hb⟩ := hrel
    have hbs := hb.size
    by_cases hlt : k < s.size
    · have hst := Wr.solid_take hlt
      rw [← hL.out] at hst
      by_cases hc : (s[k]'hlt).toNat = 32
      · rw [if_pos hc, List.append_nil] at hst
        have HS := Lib.hid hst; clear hst
        have hci : ((s[k]'hlt).toNat : Int) = 32 := by omega
        go_wp2
        go_roundw
        case rel => exact ⟨k + 1, L, by omega, by go_num, Lib.hid HS.out.symm, by omega, hown, hnn, hb⟩
        case measure => simp [intOf]; omega
      · rw [if_neg hc] at hst
        have HS := Lib.hid hst; clear hst
        have hci : ¬ ((s[k]'hlt).toNat : Int) = 32 := by omega
        go_wp2_with (at_builtin; refine wpList_append_own _ rfl _ _ 76 rfl w.heap.size 5 i0 (.int .u8 0) 1 1 Tryz.underlying76 hi0 hz0 hz1 hz2 rfl (by decide) _ L.length _ rfl (hown.alloc _) ⟨_, 0, none⟩ 1 1 [.int .u8 (s[k]'hlt).toNat] rfl rfl (Tx.cell_one_at _ _ (by first | rfl | simp) _ _) (by simp [Value.oneCell']) (by unfold maxLen; omega) (by omega) (by simp; omega) ?_; intro v' w5 hown5 hg5 hnil5)
        have hb5 : Below w.heap.size w w5 := (hb.alloc hbs _).grown hg5 (by simp; omega) (fun j hj => (hown.lt j hj).1)
        go_roundw
        case rel => exact ⟨k + 1, L ++ [s[k]'hlt], by omega, by go_num, Lib.hid HS.out.symm, by simp; omega, by simpa [Wr.u8s] using hown5, Lib.hid (fun e => by have := (hnil5.1 e).2; omega), hb5⟩
        case measure => simp [intOf]; omega
    · obtain rfl : k = s.size := by omega
      have hLs : L = Wr.solid s.data.toList := by rw [hL.out, List.take_of_length_le (by rw [← Lib.size_eq]; omega)]
      have HLS := Lib.hid hLs; clear hLs hL
      rcases hown.2 with ⟨h0, _⟩ | ⟨g, cap, cur, rfl, _⟩
      · exact absurd h0 hnn.out
      · have hcv := run_convert_bytes_back (P := Tryz.prog) wr 76 9 5 ⟨g, 0, none⟩ cap L Tryz.underlying76 Tryz.underlying5 Tryz.underlying9 (fun j hj => (by
          have := hown.cellAt j (by omega)
          have e : (⟨g, 0, none⟩ : Addr).add j = ⟨g, j, none⟩ := by unfold Addr.add; split <;> simp_all
          rw [e, this, List.getElem?_map, List.getElem?_eq_getElem hj]
          rfl))
        go_wp2
        go_ret
        exact ⟨Tx.rets (by rw [HLS.out]), hb⟩
end Go.Proofs.YtccbadbfijkaeaaGreatDoor
