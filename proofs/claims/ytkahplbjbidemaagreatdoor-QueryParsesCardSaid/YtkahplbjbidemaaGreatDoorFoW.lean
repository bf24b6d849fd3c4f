/- The program's Fold and Words of a text: what the calls return. -/
import Derived.Test.YtkahplbjbidemaaGreatDoorWdB
import Derived.Test.YtkahplbjbidemaaGreatDoorBl
import Derived.Test.YtkahplbjbidemaaGreatDoorMm
import Derived.Lib.OthersKept
namespace Go.Proofs.YtkahplbjbidemaaGreatDoor
open Go.RowKit
set_option maxRecDepth 100000

theorem WriteRuneI_c (B b : Nat) (l : List UInt8) (r : Int) (h0 : 0 ≤ r) (hr : r ≤ 65535) (w : World) (h : BIs B b l w) (hlen : l.length + 4 ≤ 140737488355328) (hBw : B ≤ w.heap.size) :
    Calls Tryz.prog 93 #[.pointer (some ⟨b, 0, none⟩), .int .i32 r] w fun e w' => (∃ n, e = .returned (.tuple #[.int .i64 n, .nilIface])) ∧ BIs B b (l ++ Lib.encodeRune r) w' ∧ Below B w w' ∧ Lib.OthersKept 5 (some b) w w' := by
  obtain ⟨n, rfl⟩ := Int.eq_ofNat_of_zero_le h0
  exact WriteRune_c B b l n (by omega) w h hlen hBw

theorem Split_acc_c (s : ByteArray) (w : World) (hs : s.data.toList = Tx.accL) (hG : G w) :
    Calls Tryz.prog 92 #[.string s, .string ⟨#[44]⟩] w fun e w' => e = .returned (.slice (some ⟨w.heap.size, 0, none⟩) 64 64) ∧ (∀ k, k < 64 → w'.cell? ⟨w.heap.size, k, none⟩ = some (.string ⟨(Tx.foldC (192 + k)).toArray⟩)) ∧ Below w.heap.size w w' ∧ w.heap.size < w'.heap.size := by
  obtain ⟨m, hm⟩ := hG.m
  have hc : Lib.countB s ⟨#[44]⟩ = 63 := by
    unfold Lib.countB
    rw [hs]
    exact Tx.acc_count
  have hsz : s.size = 189 + 0 ∨ s.size < 4294967281 := by
    rw [Lib.size_eq, hs]
    exact .inr (by decide +kernel)
  refine (Tryz.strings_Split s ⟨#[44]⟩ m w (by omega) hm (by decide)).mono fun e w' ⟨he, hw⟩ => ?_
  rw [hc] at he hw
  have hd := Lib.splitB_data (⟨#[44]⟩ : ByteArray) 0 63 s
  have h63 : Lib.splitK [44] 0 63 Tx.accL = (List.range 64).map fun k => Tx.foldC (192 + k) := by
    have := Tx.acc_split
    unfold Lib.split at this
    rw [Tx.acc_count] at this
    exact this
  rw [hs] at hd
  have hd2 := hd.trans h63
  subst hw
  refine ⟨he, fun k hk => ?_, Tx.newb _ _, by simp⟩
  have h1 := cell_of_row (w.alloc (.cells ((Lib.splitB (⟨#[44]⟩ : ByteArray) 0 63 s).map Value.string).toArray 9)) w.heap.size k _ _ (0, 0) (heap_alloc_new w _)
  rw [h1, List.getElem?_toArray, List.getElem?_map]
  have h2 := congrArg (·[k]?) hd2
  simp only [List.getElem?_map] at h2
  rw [List.getElem?_range hk, Option.map_some, Option.map_eq_some_iff] at h2
  obtain ⟨x, hx, e2⟩ := h2
  rw [hx, ← e2]
  rfl

set_option maxHeartbeats 3200000 in
theorem text_Fold_c (s : ByteArray) (w : World) (hG : G w) (hs : s.size ≤ 1000000000) (hv : Tx.valid s.data.toList = true) :
    Calls Tryz.prog 83 #[.string s] w fun e w' => e = .returned (.string ⟨(Tx.foldS s.data.toList).toArray⟩) ∧ Below w.heap.size w w' := by
  obtain ⟨F, hF⟩ : ∃ F, Tx.foldS s.data.toList = F := ⟨_, rfl⟩
  have HF := Lib.hid hF; clear hF
  have HV := Lib.hid hv; clear hv
  go_enter Tryz.func83, Tryz.ntmps83
  go_wp2_with (go_at_call 92; refine (Split_acc_c _ _ (by decide +kernel) hG).mono ?_; rintro e w1 ⟨rfl, hpl, hb1, hlt1⟩)
  have HPL := Lib.hid hpl; clear hpl
  go_loopw [6] (fun _ wr => ∃ (pos : Nat) (out : List UInt8), pos ≤ s.size ∧ BIs w1.heap.size w1.heap.size out wr ∧ wr.heap[w1.heap.size + 1]? = some (.stringIter s pos) ∧ Below w1.heap.size w1 wr ∧ Hid (Tx.foldT Tx.foldStep out (s.data.toList.drop pos) = F) ∧ Hid (Tx.valid (s.data.toList.drop pos) = true) ∧ out.length ≤ 2 * pos) (fun _ wr => s.size - wr.iterPos (w1.heap.size + 1))
  case atStart =>
    refine ⟨0, [], Nat.zero_le _, (Lib.IsBuilderF.of (Lib.fresh_isBuilder 68 5 w1)).alloc _, ?_, (Tx.newb _ _).alloc (by simp) _, Lib.hid (by rw [List.drop_zero]; exact HF.out), Lib.hid (by rw [List.drop_zero]; exact HV.out), by simp⟩
    have := World.iter_heap (w1.alloc (.cells #[.pointer none, .slice none 0 0] 68)) s 0
    simpa using this
  case round =>
    obtain ⟨pos, out, hps, hI, hit, hbw, hFo, hVp, hol⟩ := hrel
    have hsz : w1.heap.size + 1 < wr.heap.size := (Array.getElem?_eq_some_iff.1 hit).1
    by_cases hp : pos < s.size
    · have hnx : ∀ ty, (Instr.next (.pointer (some ⟨w1.heap.size + 1, 0, none⟩)) true ty).run Tryz.prog wr = _ := fun ty => Lib.run_next_any_at wr (w1.heap.size + 1) s pos ty hit hp
      have hne : s.data.toList.drop pos ≠ [] := Tx.drop_ne (by rw [← Lib.size_eq]; exact hp)
      obtain ⟨hz, hd, hw, hv2, _⟩ := Tx.valid_head hne hVp.out
      have hdec : Utf8.decode s pos = Tx.rdec (s.data.toList.drop pos) := by rw [← Lib.decodeL_drop, hd]
      have hle := Tx.wid_le hne
      have hwp := Tx.wid_pos (s.data.toList.drop pos)
      rw [List.length_drop, ← Lib.size_eq] at hle
      have hen := Tx.enc_head hne hz
      have hru := Tx.rdec_rune (s.data.toList.drop pos)
      have hst := Tx.foldT_step Tx.foldStep out hne
      rw [hFo.out, List.drop_drop] at hst
      rw [List.drop_drop] at hv2
      rw [← hw] at hen
      rw [hdec, ← hw] at hnx
      generalize hK : Tx.wid (s.data.toList.drop pos) = K at hle hwp hst hv2 hen hnx
      generalize hR : (Tx.rdec (s.data.toList.drop pos)).1 = R at hru hst hen hnx
      obtain ⟨q, hq⟩ : ∃ q, (s.data.toList.drop pos).take K = q := ⟨_, rfl⟩
      have hql : q.length ≤ K := by rw [← hq]; exact List.length_take_le _ _
      rw [hq] at hst hen
      unfold Tx.foldStep at hst
      have hI2 := hI.iterAt hit (pos + K)
      have hit2 := Lib.iterAt_heap wr (w1.heap.size + 1) s pos (pos + K) hit
      have hbw2 := Lib.below_iterAt hbw (k := w1.heap.size + 1) (by omega) s (pos + K)
      have hsz2 : w1.heap.size ≤ (wr.iterAt (w1.heap.size + 1) s (pos + K)).heap.size := by rw [Lib.iterAt_size]; omega
      obtain ⟨W, hWd⟩ : ∃ W, wr.iterAt (w1.heap.size + 1) s (pos + K) = W := ⟨_, rfl⟩
      rw [hWd] at hnx hit2 hbw2 hI2 hsz2
      have HIT := Lib.hid hit
      have HI := Lib.hid hit2
      have HEN := Lib.hid hen
      have HV2 : Hid (Tx.valid (s.data.toList.drop (pos + K)) = true) := Lib.hid hv2
      clear hne hz hd hw hv2 hdec hit hI hbw hFo hVp hWd hit2 hq hen hK hR
      by_cases hup : 65 ≤ R ∧ R ≤ 90
      · rw [Tx.foldP_up hup] at hst
        have heu := Tx.enc_up hup
        have HS : Hid (Tx.foldT Tx.foldStep (out ++ [UInt8.ofNat (R + 32)]) (s.data.toList.drop (pos + K)) = F) := Lib.hid hst.symm
        have HEU := Lib.hid heu
        clear hst heu
        obtain ⟨g1, g2⟩ := hup
        go_wp2_with (go_at_call 93; refine (WriteRuneI_c w1.heap.size w1.heap.size out _ (by omega) (by omega) _ hI2 (by omega) hsz2).mono ?_; rintro e w3 ⟨⟨n, rfl⟩, hI3, hb3, k3⟩)
        have hI4 : BIs w1.heap.size w1.heap.size (out ++ [UInt8.ofNat (R + 32)]) w3 := by
          rw [← HEU.out]
          have e1 : ((R + 32 : Nat) : Int) = (R : Int) + 97 - 65 := by omega
          rw [e1]
          exact hI3
        go_roundw
        case rel => exact ⟨pos + K, out ++ [UInt8.ofNat (R + 32)], by omega, hI4, k3.iter HI.out (by omega), hbw2.trans hb3, HS, HV2, by simp; omega⟩
        case measure => simp only [World.iterPos, k3.iter HI.out (by omega), HIT.out]; omega
      · by_cases htab : Tx.foldC R = []
        · rw [Tx.foldP_same htab] at hst
          have HS : Hid (Tx.foldT Tx.foldStep (out ++ q) (s.data.toList.drop (pos + K)) = F) := Lib.hid hst.symm
          clear hst
          rcases (show R < 65 ∨ (65 ≤ R ∧ 90 < R ∧ R < 192) ∨ (192 ≤ R ∧ 256 ≤ R) ∨ (192 ≤ R ∧ R < 256) by omega) with g | ⟨g1, g2, g3⟩ | ⟨g1, g2⟩ | ⟨g1, g2⟩
          · clear htab hup
            go_wp2_with (go_at_call 93; refine (WriteRuneI_c w1.heap.size w1.heap.size out _ (by omega) (by omega) _ hI2 (by omega) hsz2).mono ?_; rintro e w3 ⟨⟨n, rfl⟩, hI3, hb3, k3⟩)
            rw [HEN.out] at hI3
            go_roundw
            case rel => exact ⟨pos + K, out ++ q, by omega, hI3, k3.iter HI.out (by omega), hbw2.trans hb3, HS, HV2, by simp; omega⟩
            case measure => simp only [World.iterPos, k3.iter HI.out (by omega), HIT.out]; omega
          · clear htab hup
            go_wp2_with (go_at_call 93; refine (WriteRuneI_c w1.heap.size w1.heap.size out _ (by omega) (by omega) _ hI2 (by omega) hsz2).mono ?_; rintro e w3 ⟨⟨n, rfl⟩, hI3, hb3, k3⟩)
            rw [HEN.out] at hI3
            go_roundw
            case rel => exact ⟨pos + K, out ++ q, by omega, hI3, k3.iter HI.out (by omega), hbw2.trans hb3, HS, HV2, by simp; omega⟩
            case measure => simp only [World.iterPos, k3.iter HI.out (by omega), HIT.out]; omega
          · clear htab hup
            have g65 : 65 ≤ R := by omega
            have g90 : 90 < R := by omega
            go_wp2_with (go_at_call 93; refine (WriteRuneI_c w1.heap.size w1.heap.size out _ (by omega) (by omega) _ hI2 (by omega) hsz2).mono ?_; rintro e w3 ⟨⟨n, rfl⟩, hI3, hb3, k3⟩)
            rw [HEN.out] at hI3
            go_roundw
            case rel => exact ⟨pos + K, out ++ q, by omega, hI3, k3.iter HI.out (by omega), hbw2.trans hb3, HS, HV2, by simp; omega⟩
            case measure => simp only [World.iterPos, k3.iter HI.out (by omega), HIT.out]; omega
          · obtain ⟨k, hkR⟩ : ∃ k, 192 + k = R := ⟨R - 192, by omega⟩
            have hk : k < 64 := by omega
            have hpc := cell_later hbw2 (HPL.out k hk)
            rw [hkR, htab] at hpc
            have g65 : 65 ≤ R := by omega
            have g90 : 90 < R := by omega
            have he : (R : Int) - 192 = (k : Int) := by omega
            clear htab hup hkR
            go_wp2_with (go_at_call 93; refine (WriteRuneI_c w1.heap.size w1.heap.size out _ (by omega) (by omega) _ hI2 (by omega) hsz2).mono ?_; rintro e w3 ⟨⟨n, rfl⟩, hI3, hb3, k3⟩)
            rw [HEN.out] at hI3
            go_roundw
            case rel => exact ⟨pos + K, out ++ q, by omega, hI3, k3.iter HI.out (by omega), hbw2.trans hb3, HS, HV2, by simp; omega⟩
            case measure => simp only [World.iterPos, k3.iter HI.out (by omega), HIT.out]; omega
        · rw [Tx.foldP_tab htab] at hst
          have hr : 192 ≤ R ∧ R < 256 := by
            rcases Nat.lt_or_ge R 192 with h9 | h9
            · exact absurd (Tx.foldC_out hup (.inl h9)) htab
            · rcases Nat.lt_or_ge 255 R with h8 | h8
              · exact absurd (Tx.foldC_out hup (.inr h8)) htab
              · omega
          obtain ⟨k, hkR⟩ : ∃ k, 192 + k = R := ⟨R - 192, by omega⟩
          have hk : k < 64 := by omega
          have hpc := cell_later hbw2 (HPL.out k hk)
          rw [hkR] at hpc
          have hfl := Tx.foldC_len R
          obtain ⟨fc, hfc⟩ : ∃ fc, Tx.foldC R = fc := ⟨_, rfl⟩
          rw [hfc] at hpc hst htab hfl
          have hfe : fc.isEmpty = false := by simpa using htab
          have HS : Hid (Tx.foldT Tx.foldStep (out ++ fc) (s.data.toList.drop (pos + K)) = F) := Lib.hid hst.symm
          have g65 : 65 ≤ R := by omega
          have g90 : 90 < R := by omega
          have he : (R : Int) - 192 = (k : Int) := by omega
          obtain ⟨g1, g2⟩ := hr
          clear hst htab hup hfc hkR
          go_wp2_with (go_at_call 41; refine (WriteString_c w1.heap.size w1.heap.size out _ _ hI2 (by rw [Tx.size_mk]; omega) hsz2).mono ?_; rintro e w3 ⟨rfl, hI3, hb3, k3⟩)
          go_roundw
          case rel => exact ⟨pos + K, out ++ fc, by omega, hI3, k3.iter HI.out (by omega), hbw2.trans hb3, HS, HV2, by simp; omega⟩
          case measure => simp only [World.iterPos, k3.iter HI.out (by omega), HIT.out]; omega
    · have hnx : ∀ ty, (Instr.next (.pointer (some ⟨w1.heap.size + 1, 0, none⟩)) true ty).run Tryz.prog wr = _ := fun ty => Lib.run_next_end_at wr (w1.heap.size + 1) s pos ty hit hp
      have hfin : out = F := by
        rw [← hFo.out, List.drop_eq_nil_of_le (by rw [← Lib.size_eq]; omega), Tx.foldT_nil]
      have HFIN := Lib.hid hfin; clear hfin
      have hwsz : w1.heap.size ≤ wr.heap.size := hbw.size
      go_wp2_with (go_at_call 43; refine (Tryz.Builder_String_any_f w1.heap.size w1.heap.size out _ hI hwsz).mono ?_; rintro e w3 ⟨rfl, hI3, hb3⟩)
      go_ret
      exact ⟨Tx.rets (by rw [HFIN.out, HF.out]), (hb1.trans ((hbw.trans hb3).mono hb1.size))⟩
end Go.Proofs.YtkahplbjbidemaaGreatDoor
