/- The program's Valid: what the call returns. -/
import Derived.Test.YtkahplbjbidemaaGreatDoorTxD
namespace Go.Proofs.YtkahplbjbidemaaGreatDoor
open Go.RowKit

set_option maxHeartbeats 800000 in
theorem text_Valid_c (s : ByteArray) (w : World) (hs : s.size ≤ 9223372036854775000) (hG : G w) :
    Calls Tryz.prog 27 #[.string s] w fun e w' => e = .returned (.bool (Tx.valid s.data.toList)) ∧ Below w.heap.size w w' := by
  have hT := hG.u
  have hve := Tx.valid_two s.data.toList.length s.data.toList (Nat.le_refl _)
  cases hvd : Lib.validD s.data.toList with
  | false =>
    rw [hvd] at hve
    have HE : Hid (Tx.valid s.data.toList = false) := Lib.hid (by rw [← hve]; rfl)
    clear hve
    have HD := Lib.hid hvd; clear hvd
    go_enter Tryz.func27, Tryz.ntmps27
    go_wp2_with (go_at_call 48; refine (Any.utf8_ValidString Tryz.lays196 s _ (by omega) hT).mono ?_; rintro e w1 ⟨rfl, hb1⟩; rw [HD.out])
    go_ret
    exact ⟨Tx.retb (by rw [HE.out]), hb1⟩
  | true =>
    rw [hvd, Bool.true_and] at hve
    have HE := Lib.hid hve; clear hve
    have HD := Lib.hid hvd; clear hvd
    go_enter Tryz.func27, Tryz.ntmps27
    go_wp2_with (go_at_call 48; refine (Any.utf8_ValidString Tryz.lays196 s _ (by omega) hT).mono ?_; rintro e w1 ⟨rfl, hb1⟩; rw [HD.out])
    go_loopg [4] s.size (fun gf _ wx => ∃ (pos : Nat), pos ≤ s.size ∧ s.size ≤ pos + gf ∧ wx.heap[w1.heap.size]? = some (.stringIter s pos) ∧ Below w.heap.size w wx ∧ Hid (Tx.rangeOk (s.data.toList.drop pos).length (s.data.toList.drop pos) = Tx.valid s.data.toList))
    case atStart => exact ⟨0, Nat.zero_le _, by omega, World.iter_heap w1 s 0, hb1.alloc hb1.size _, Lib.hid (by rw [List.drop_zero]; exact HE.out)⟩
    case round =>
      obtain ⟨pos, hps, hfu, hit, hbw, hR⟩ := hrel
      by_cases hlt : pos < s.size
      · obtain ⟨g', rfl⟩ : ∃ g', gk = g' + 1 := ⟨gk - 1, by omega⟩
        have hnx : ∀ ty, (Instr.next (.pointer (some ⟨w1.heap.size, 0, none⟩)) true ty).run Tryz.prog wr = _ := fun ty => Lib.run_next_any_at wr w1.heap.size s pos ty hit hlt
        have hne : s.data.toList.drop pos ≠ [] := Tx.drop_ne (by rw [← Lib.size_eq]; exact hlt)
        have hwl : (Lib.decodeL (s.data.toList.drop pos)).2 ≤ s.size - pos := by
          rw [Lib.decodeL_N]
          have := Lib.decodeN_le_n' (s.data.toList.drop pos).length ((s.data.toList.drop pos).getD 0 0).toNat ((s.data.toList.drop pos).getD 1 0).toNat ((s.data.toList.drop pos).getD 2 0).toNat ((s.data.toList.drop pos).getD 3 0).toNat (by rw [List.length_drop, ← Lib.size_eq]; omega)
          rw [List.length_drop, ← Lib.size_eq] at this
          rw [List.length_drop, ← Lib.size_eq]
          exact this
        have hwd := Lib.decodeL_width (s.data.toList.drop pos)
        have hru := Lib.decodeL_rune (s.data.toList.drop pos)
        have hst := Tx.rangeOk_step hne
        rw [List.drop_drop, hR.out] at hst
        rw [Lib.decodeL_drop] at hwl hwd hru hst
        obtain ⟨R, hR1⟩ : ∃ R, (Utf8.decode s pos).1 = R := ⟨_, rfl⟩
        obtain ⟨K, hK1⟩ : ∃ K, (Utf8.decode s pos).2 = K := ⟨_, rfl⟩
        rw [hR1, hK1] at hnx
        rw [hR1, hK1] at hst
        rw [hK1] at hwl hwd
        rw [hR1] at hru
        have hit2 := Lib.iterAt_heap wr w1.heap.size s pos (pos + K) hit
        have hbw2 := Lib.below_iterAt hbw (k := w1.heap.size) hb1.size s (pos + K)
        obtain ⟨W, hWd⟩ : ∃ W, wr.iterAt w1.heap.size s (pos + K) = W := ⟨_, rfl⟩
        rw [hWd] at hnx hit2 hbw2
        have HS := Lib.hid hst; clear hst hne hit hbw hR hWd hR1 hK1
        have HI := Lib.hid hit2; clear hit2
        by_cases c1 : R < 32
        · go_wp2
          go_ret
          exact ⟨Tx.retb (by rw [HS.out, if_pos (by omega)]), hbw2⟩
        · by_cases c2 : 127 ≤ R ∧ R ≤ 159
          · obtain ⟨c2, c3⟩ := c2
            go_wp2
            go_ret
            exact ⟨Tx.retb (by rw [HS.out, if_pos (by omega)]), hbw2⟩
          · by_cases c4 : 65535 < R
            · by_cases c5 : 127 ≤ R
              · have c6 : 159 < R := by omega
                go_wp2
                go_ret
                exact ⟨Tx.retb (by rw [HS.out, if_pos (by omega)]), hbw2⟩
              · omega
            · by_cases c5 : 127 ≤ R
              · have c6 : 159 < R := by omega
                go_wp2
                go_roundg g'
                case measure => omega
                case rel => exact ⟨pos + K, by omega, by omega, HI.out, hbw2, Lib.hid (by rw [HS.out, if_neg (by omega)])⟩
              · have c6 : R < 127 := by omega
                go_wp2
                go_roundg g'
                case measure => omega
                case rel => exact ⟨pos + K, by omega, by omega, HI.out, hbw2, Lib.hid (by rw [HS.out, if_neg (by omega)])⟩
      · obtain rfl : pos = s.size := by omega
        have hnx : ∀ ty, (Instr.next (.pointer (some ⟨w1.heap.size, 0, none⟩)) true ty).run Tryz.prog wr = _ := fun ty => Lib.run_next_end_at wr w1.heap.size s s.size ty hit hlt
        have hnil : s.data.toList.drop s.size = [] := List.drop_eq_nil_of_le (by rw [← Lib.size_eq]; omega)
        have HF : Hid (Tx.valid s.data.toList = true) := Lib.hid (by rw [← hR.out, hnil]; rfl)
        clear hR hnil hit
        go_wp2
        go_ret
        exact ⟨Tx.retb (by rw [HF.out]), hbw⟩

end Go.Proofs.YtkahplbjbidemaaGreatDoor
