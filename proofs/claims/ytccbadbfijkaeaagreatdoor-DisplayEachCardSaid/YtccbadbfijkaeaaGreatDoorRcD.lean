/- What the program's first and yearIn return. -/
import Derived.Test.YtccbadbfijkaeaaGreatDoorRcC
import Derived.Deep.RegionHeld3
namespace Go.Proofs.YtccbadbfijkaeaaGreatDoor
open Go.RowKit
set_option maxRecDepth 100000

namespace Rc
theorem first_step (t : By) {fs : List Fl} {k : Nat} {f : Fl} (h : fs[k]? = some f) : first (fs.drop k) t = if tagIs t f = true then some f else first (fs.drop (k + 1)) t := by
  have hk : k < fs.length := (List.getElem?_eq_some_iff.1 h).1
  rw [List.drop_eq_getElem_cons hk]
  have : fs[k]'hk = f := (List.getElem?_eq_some_iff.1 h).2
  rw [this]
  unfold first
  rw [List.find?_cons]
  cases tagIs t f <;> rfl
/-- What first hands back. -/
def FirstR (w : World) (e : Ending) : Option Fl → Prop
  | none => e = .returned (.tuple #[.agg #[.string ⟨#[]⟩, .string ⟨#[]⟩, .slice none 0 0, .int .i64 0], .bool false])
  | some f => ∃ sa sc, e = .returned (.tuple #[.agg #[.string f.tag, .string f.ind, .slice sa f.subs.length sc, .int .i64 f.auth], .bool true]) ∧ SubA w sa sc f.subs
theorem tag_eq (f : Fl) (t : ByteArray) {b : Bool} (h : tagIs t.data.toList f = b) : (f.tag.toList == t.toList) = b := by
  rw [Lib.toList_data, Lib.toList_data]; exact h
end Rc

set_option maxHeartbeats 1600000 in
theorem record_first_c (fs : List Rc.Fl) (a : Option Addr) (c : Nat) (id ver kind : Int) (lang t : ByteArray) (w : World) (h : Rc.FldA w a c fs) :
    Calls Tryz.prog 61 #[.agg #[.int .i64 id, .int .i64 ver, .int .i64 kind, .string lang, .slice a fs.length c], .string t] w fun e w' => Rc.FirstR w' e (Rc.first fs t.data.toList) ∧ Below w.heap.size w w' := by
  have hcap := h.cap
  have hmx : maxLen = 9223372036854775807 := rfl
  have hmax := h.max
  obtain ⟨W, hW⟩ : ∃ W, (w.alloc (.cells #[.int .i64 id, .int .i64 ver, .int .i64 kind, .string lang, .slice a fs.length c] 24)).alloc (.cells #[.string ⟨#[]⟩, .string ⟨#[]⟩, .slice none 0 0, .int .i64 0] 42) = W := ⟨_, rfl⟩
  have hB : Below w.heap.size w W := by rw [← hW]; exact (Tx.newb _ _).alloc (Tx.newb w _).size _
  have hs4 : W.cell? ⟨w.heap.size, 4, none⟩ = some (.slice a fs.length c) := by rw [← hW]; simp
  have hblk : W.heap[w.heap.size + 1]? = some (.cells #[.string ⟨#[]⟩, .string ⟨#[]⟩, .slice none 0 0, .int .i64 0] 42 (0, 0)) := by
    rw [← hW]
    have := heap_alloc_new (w.alloc (.cells #[.int .i64 id, .int .i64 ver, .int .i64 kind, .string lang, .slice a fs.length c] 24)) (.cells #[.string ⟨#[]⟩, .string ⟨#[]⟩, .slice none 0 0, .int .i64 0] 42)
    simpa using this
  go_enter Tryz.func61, Tryz.ntmps61
  go_wp2
  clear hW
  go_loopw [11] (fun i wr => ∃ (k : Nat), k ≤ fs.length ∧ i = .int .i64 k ∧ Hid (Rc.first (fs.drop k) t.data.toList = Rc.first fs t.data.toList) ∧ wr.heap[w.heap.size + 1]? = some (.cells #[.string ⟨#[]⟩, .string ⟨#[]⟩, .slice none 0 0, .int .i64 0] 42 (0, 0)) ∧ Below w.heap.size w wr) (fun i _ => fs.length - (intOf i).toNat)
  case atStart => exact ⟨0, Nat.zero_le _, rfl, Lib.hid (by rw [List.drop_zero]), hblk, hB⟩
  case round =>
    obtain ⟨k, hk, rfl, hI, hblk1, hb⟩ := hrel
    by_cases hlt : k < fs.length
    · obtain ⟨f, hf⟩ : ∃ f, fs[k]? = some f := ⟨_, List.getElem?_eq_getElem hlt⟩
      obtain ⟨b, o, sa, sc, rfl, hbl, c0, c1, c2, c3, hsub⟩ := h.get hf
      replace c0 := cell_later hb c0
      replace c1 := cell_later hb c1
      replace c2 := cell_later hb c2
      replace c3 := cell_later hb c3
      have hst := Rc.first_step t.data.toList hf
      rw [hI.out] at hst
      have hbw := hb.alloc hb.size (.cells #[.string f.tag, .string f.ind, .slice sa f.subs.length sc, .int .i64 f.auth] 42)
      have hbk := Tx.blk_later hblk1 (Tx.newb wr (.cells #[.string f.tag, .string f.ind, .slice sa f.subs.length sc, .int .i64 f.auth] 42))
      obtain ⟨hc, hfr, hlt9⟩ := Tx.blk hbk
      have HBK := Lib.hid hbk; clear hbk hblk hblk1 hs4
      cases hq : Rc.tagIs t.data.toList f with
      | true =>
        have hq2 := Rc.tag_eq f t hq
        rw [hq, if_pos rfl] at hst
        have HS := Lib.hid hst; clear hst hq
        go_wp2
        refine bodyPost_ret (v := .tuple #[.agg #[.string f.tag, .string f.ind, .slice sa f.subs.length sc, .int .i64 f.auth], .bool true]) (by simp [results, Tryz.results61, go_sem, hc]) rfl ⟨?_, Tx.set4 hbw (by omega) _ _ _ _⟩
        rw [HS.out]
        exact ⟨sa, sc, rfl, hsub.below (Tx.set4 hbw (by omega) _ _ _ _)⟩
      | false =>
        have hq2 := Rc.tag_eq f t hq
        rw [hq, if_neg (by simp)] at hst
        have HS := Lib.hid hst; clear hst hq
        go_wp2
        go_roundw
        case rel => exact ⟨k + 1, by omega, by go_num, Lib.hid HS.out.symm, HBK.out, hbw⟩
        case measure => simp [intOf]; omega
    · obtain rfl : k = fs.length := by omega
      have hI2 := hI.out
      rw [List.drop_length] at hI2
      have HI := Lib.hid hI2; clear hI2 hI
      obtain ⟨hc, hfr, hlt9⟩ := Tx.blk hblk1
      go_wp2
      refine bodyPost_ret (v := .tuple #[.agg #[.string ⟨#[]⟩, .string ⟨#[]⟩, .slice none 0 0, .int .i64 0], .bool false]) (by simp [results, Tryz.results61, go_sem, hc]) rfl ⟨?_, Tx.set4 hb (by omega) _ _ _ _⟩
      rw [← HI.out]
      rfl

set_option maxHeartbeats 1600000 in
theorem yearIn_c (s : ByteArray) (w : World) (hs : s.size ≤ 1000000000) :
    Calls Tryz.prog 63 #[.string s] w fun e w' => e = .returned (.int .i64 (Rc.yearIn s.data.toList)) ∧ Below w.heap.size w w' := by
  have HL := Lib.hid (Lib.size_eq s)
  go_enter Tryz.func63, Tryz.ntmps63
  go_wp2
  go_loopw [3, 4, 5] (fun i _ _ wr => ∃ (I : Nat), I ≤ s.size + 1 ∧ i = .int .i64 I ∧ Hid (Rc.yr 0 0 (s.data.toList.drop I) = Rc.yearIn s.data.toList) ∧ Below w.heap.size w wr) (fun i _ _ _ => s.size + 1 - (intOf i).toNat)
  case atStart => exact ⟨0, Nat.zero_le _, rfl, Lib.hid (by rw [List.drop_zero]; rfl), Below.refl _ _⟩
  case round =>
    obtain ⟨I, hI, rfl, hY, hb⟩ := hrel
    by_cases hlt : I < s.size
    · go_wp2
      go_loopw [4] (fun kk wr2 => ∃ (K : Nat), I ≤ K ∧ K ≤ s.size ∧ kk = .int .i64 K ∧ Hid (∀ j, I ≤ j → j < K → Rc.isD (s.data.toList.getD j 0)) ∧ Below w.heap.size w wr2) (fun kk _ => s.size - (intOf kk).toNat)
      case atStart => exact ⟨I, Nat.le_refl _, by omega, rfl, Lib.hid (fun j h1 h2 => absurd h2 (by omega)), hb⟩
      case round =>
        obtain ⟨K, hIK, hKs, rfl, hD, hb2⟩ := hrel
        by_cases hd : K < s.size ∧ Rc.isD (s.data.toList.getD K 0)
        · obtain ⟨hlt2, hdg⟩ := hd
          have HD2 : Hid (∀ j, I ≤ j → j < K + 1 → Rc.isD (s.data.toList.getD j 0)) := Lib.hid (fun j h1 h2 => by
            rcases Nat.lt_or_ge j K with h3 | h3
            · exact hD.out j h1 h3
            · obtain rfl : j = K := by omega
              exact hdg)
          rw [Tx.getD_at s K hlt2] at hdg
          obtain ⟨d1, d2⟩ := hdg
          go_wp2
          go_roundw
          case rel => exact ⟨K + 1, by omega, by omega, by go_num, HD2, hb2⟩
          case measure => simp [intOf]; omega
        · have hend : K < s.data.toList.length → ¬ Rc.isD (s.data.toList.getD K 0) := fun h9 h8 => hd ⟨by rw [HL.out]; exact h9, h8⟩
          have hyr := fun v hv => Rc.year_round s.data.toList I K hIK (by rw [← HL.out]; exact hKs) hD.out hend v hv
          rw [hY.out] at hyr
          have HY := Lib.hid hyr; clear hyr hend
          have hways : (s.size ≤ K) ∨ (∃ h : K < s.size, (s[K]'h).toNat < 48) ∨ (∃ h : K < s.size, 48 ≤ (s[K]'h).toNat ∧ 57 < (s[K]'h).toNat) := by
            rcases Nat.lt_or_ge K s.size with h1 | h1
            · have h2 : ¬ Rc.isD (s[K]'h1) := by rw [← Tx.getD_at s K h1]; exact fun h9 => hd ⟨h1, h9⟩
              unfold Rc.isD at h2
              rcases Nat.lt_or_ge (s[K]'h1).toNat 48 with h3 | h3
              · exact .inr (.inl ⟨h1, h3⟩)
              · exact .inr (.inr ⟨h1, h3, by omega⟩)
            · exact .inl h1
          clear hd
          by_cases h4 : K = I + 4
          · subst h4
            have k0 := hD.out I (by omega) (by omega)
            have k1 := hD.out (I + 1) (by omega) (by omega)
            have k2 := hD.out (I + 2) (by omega) (by omega)
            have k3 := hD.out (I + 3) (by omega) (by omega)
            have l0 : I < s.size := by omega
            have l1 : I + 1 < s.size := by omega
            have l2 : I + 2 < s.size := by omega
            have l3 : I + 3 < s.size := by omega
            rw [Tx.getD_at s _ l0] at k0
            rw [Tx.getD_at s _ l1] at k1
            rw [Tx.getD_at s _ l2] at k2
            rw [Tx.getD_at s _ l3] at k3
            have hv := HY.out (((s[I]'l0).toNat - 48) * 1000 + ((s[I + 1]'l1).toNat - 48) * 100 + ((s[I + 2]'l2).toNat - 48) * 10 + ((s[I + 3]'l3).toNat - 48)) (fun _ => by rw [Tx.getD_at s _ l0, Tx.getD_at s _ l1, Tx.getD_at s _ l2, Tx.getD_at s _ l3])
            rw [show I + 4 - I = 4 by omega] at hv
            simp only [true_and] at hv
            obtain ⟨k0, k0'⟩ := k0
            obtain ⟨k1, k1'⟩ := k1
            obtain ⟨k2, k2'⟩ := k2
            obtain ⟨k3, k3'⟩ := k3
            have HV := Lib.hid hv; clear hv
            have f0 : (I : Int) < (s.size : Int) := by omega
            have f1 : (I : Int) + 1 < (s.size : Int) := by omega
            have f2 : (I : Int) + 2 < (s.size : Int) := by omega
            have f3 : (I : Int) + 3 < (s.size : Int) := by omega
            have g1 : 0 ≤ (I : Int) + 1 := by omega
            have q1 : IntKind.i64.wrap ((I : Int) + 1) = (I : Int) + 1 := IntWalk.i64_in _ (by omega)
            have q2 : IntKind.i64.wrap ((I : Int) + 2) = (I : Int) + 2 := IntWalk.i64_in _ (by omega)
            have q3 : IntKind.i64.wrap ((I : Int) + 3) = (I : Int) + 3 := IntWalk.i64_in _ (by omega)
            have g2 : 0 ≤ (I : Int) + 2 := by omega
            have g3 : 0 ≤ (I : Int) + 3 := by omega
            rcases hways with hw | ⟨hw, hw1⟩ | ⟨hw, hw1, hw2⟩
            all_goals
              go_wp2
              go_quiet (fail)
              go_wp2
            all_goals first
              | (go_ret
                 have hv := HV.out
                 rw [if_pos (by omega)] at hv
                 exact ⟨Tx.ret1 (by rw [hv]; omega), Tx.below_drewN hb2 _⟩)
              | (go_roundw
                 case rel =>
                   have hv := HV.out
                   rw [if_neg (by omega)] at hv
                   exact ⟨I + 4 + 1, by omega, by go_num, Lib.hid hv.symm, Tx.below_drewN hb2 _⟩
                 case measure => simp [intOf]; omega)
          · have hv := HY.out 0 (fun h => absurd h (by omega))
            rw [if_neg (by omega)] at hv
            have HV := Lib.hid hv; clear hv
            rcases hways with hw | ⟨hw, hw1⟩ | ⟨hw, hw1, hw2⟩
            all_goals
              go_wp2
              go_roundw
              case rel => exact ⟨K + 1, by omega, by go_num, Lib.hid HV.out.symm, hb2⟩
              case measure => simp [intOf]; omega
    · have hv := hY.out
      rw [List.drop_eq_nil_of_le (by rw [← HL.out]; omega)] at hv
      have HV := Lib.hid hv; clear hv
      go_wp2
      go_ret
      exact ⟨Tx.ret1 (by rw [← HV.out]; rfl), hb⟩
end Go.Proofs.YtccbadbfijkaeaaGreatDoor
