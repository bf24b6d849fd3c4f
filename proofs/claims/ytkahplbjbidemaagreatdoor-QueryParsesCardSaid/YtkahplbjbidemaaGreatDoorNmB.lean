/- Numbers written and read: what the calls return. -/
import Derived.Test.YtkahplbjbidemaaGreatDoorTxD
import Derived.Test.YtkahplbjbidemaaGreatDoorNmA
namespace Go.Proofs.YtkahplbjbidemaaGreatDoor
open Go.RowKit
set_option maxRecDepth 100000

theorem Tx.vint {k : IntKind} {a b : Int} (h : a = b) : Value.int k a = Value.int k b := by rw [h]

theorem conv_digit (d : Int) (n : Nat) (hd : d = (n : Int)) (hn : n < 10) (W : World) :
    (convert 66 9 (.slice (some ⟨W.heap.size, 0, none⟩) 1 1)).run Tryz.prog (W.alloc (.cells #[.int .u8 (48 + d)] 5)) = .ok (.string ⟨[Nm.dig n].toArray⟩) (W.alloc (.cells #[.int .u8 (48 + d)] 5)) := by
  have e := Nm.dig_toNat hn
  have h := run_convert_bytes_back (P := Tryz.prog) (W.alloc (.cells #[.int .u8 (48 + d)] 5)) 66 9 5 ⟨W.heap.size, 0, none⟩ 1 [Nm.dig n] Tryz.underlying66 Tryz.underlying5 Tryz.underlying9 (fun j hj => by
    have hj0 : j = 0 := by simp at hj; omega
    subst hj0
    simp only [List.getElem_cons_zero, e]
    subst hd
    exact Go.cell_one_new _ _ _ 0 _ rfl)
  exact h

set_option maxHeartbeats 800000 in
theorem r11_Decimal_c (n : Nat) (w : World) (hn : n ≤ 1000000000000) :
    Calls Tryz.prog 62 #[.int .i64 n] w fun e w' => e = .returned (.string ⟨(Lib.decDigits n).toArray⟩) ∧ Below w.heap.size w w' := by
  go_enter Tryz.func62, Tryz.ntmps62
  go_wp2
  go_loopw [0, 3] (fun m s wr => ∃ (k : Nat) (l : List UInt8), m = .int .i64 k ∧ s = .string ⟨l.toArray⟩ ∧ k ≤ n ∧ k + l.length ≤ n + 1 ∧ Hid (Lib.decDigits k ++ l = Lib.decDigits n) ∧ Below w.heap.size w wr) (fun m _ _ => (intOf m).toNat)
  case atStart => exact ⟨n, [], rfl, rfl, Nat.le_refl _, by simp, Lib.hid (by simp), Below.refl _ _⟩
  case round =>
    obtain ⟨k, l, rfl, rfl, hk, hl, hD, hb⟩ := hrel
    by_cases hlt : 10 ≤ k
    · have hcv := fun W => conv_digit ((k : Int) % 10) (k % 10) (by omega) (by omega) W
      go_wp2
      go_roundw
      case rel =>
        refine ⟨k / 10, Nm.dig (k % 10) :: l, by go_num, by rw [Tx.bcat]; rfl, by omega, by simp; omega, Lib.hid ?_, hb.alloc hb.size _⟩
        rw [← hD.out, Nm.digits_big (show ¬ k < 10 by omega)]
        simp
      case measure => simp [intOf]; omega
    · have hcv := fun W => conv_digit (k : Int) k rfl (by omega) W
      go_wp2
      go_ret
      refine ⟨Tx.rets ?_, hb.alloc hb.size _⟩
      rw [Tx.bcat, ← hD.out, Nm.digits_small (show k < 10 by omega)]

set_option maxHeartbeats 1600000 in
theorem r11_Number_c (s : ByteArray) (w : World) :
    Calls Tryz.prog 109 #[.string s] w fun e w' => e = .returned (.tuple #[.int .i64 (((Nm.num s.data.toList).getD 0 : Nat) : Int), .bool (Nm.num s.data.toList).isSome]) ∧ Below w.heap.size w w' := by
  have HL := Lib.hid (Lib.size_eq s)
  go_enter Tryz.func109, Tryz.ntmps109
  go_wp2
  all_goals try
    go_ret2
    have hn : Nm.num s.data.toList = none := by
      unfold Nm.num
      rw [if_pos]
      rw [← HL.out]
      first
        | omega
        | (refine .inr (.inr ⟨?_, by omega⟩)
           have h0 : 0 < s.size := by omega
           have h48 : ((s[0]'h0).toNat : Int) = 48 := by assumption
           rw [List.head?_eq_getElem?, List.getElem?_eq_getElem (by rw [← HL.out]; omega)]
           congr 1
           apply UInt8.toNat.inj
           have e : (48 : UInt8).toNat = 48 := rfl
           rw [e]
           have : (s[0]'h0).toNat = 48 := by omega
           exact this)
    rw [hn]
    exact ⟨rfl, Below.refl _ _⟩
  all_goals
    have hnum : Nm.num s.data.toList = Lib.decFrom 0 s.data.toList := by
      unfold Nm.num
      rw [if_neg]
      rw [← HL.out]
      rintro (h | h | h)
      · omega
      · omega
      · have h0 : 0 < s.size := by omega
        have h1 := h.1
        rw [List.head?_eq_getElem?, List.getElem?_eq_getElem (by rw [← HL.out]; omega)] at h1
        injection h1 with h1
        have h2 : (s[0]'h0).toNat = 48 := by
          have := congrArg UInt8.toNat h1
          exact this
        first
          | omega
          | exact absurd (show ((s[0]'h0).toNat : Int) = 48 by omega) (by assumption)
    have HN := Lib.hid hnum; clear hnum
    go_loopw [4, 5] (fun a i wr => ∃ (k v : Nat), k ≤ s.size ∧ i = .int .i64 k ∧ a = .int .i64 v ∧ v < 10 ^ k ∧ Hid (Lib.decFrom v (s.data.toList.drop k) = Lib.decFrom 0 s.data.toList) ∧ Below w.heap.size w wr) (fun _ i _ => s.size - (intOf i).toNat)
    case atStart => exact ⟨0, 0, Nat.zero_le _, rfl, rfl, by decide, Lib.hid (by rw [List.drop_zero]), Below.refl _ _⟩
    case round =>
      obtain ⟨k, v, hk, rfl, rfl, hv, hD, hb⟩ := hrel
      by_cases hlt : k < s.size
      · have hv9 : v < 1000000000 := by
          have : 10 ^ k ≤ 10 ^ 9 := Nat.pow_le_pow_right (by omega) (by omega)
          omega
        have hb0 : ((s[k]'hlt).toNat : Int) < 256 := by have := (s[k]'hlt).toNat_lt; omega
        have hst : s.data.toList.drop k = s[k]'hlt :: s.data.toList.drop (k + 1) := by
          rw [List.drop_eq_getElem_cons (by rw [← Lib.size_eq]; exact hlt)]
          rfl
        have hsr : Lib.decFrom v (s.data.toList.drop k) = if 48 ≤ (s[k]'hlt).toNat ∧ (s[k]'hlt).toNat ≤ 57 then Lib.decFrom (v * 10 + ((s[k]'hlt).toNat - 48)) (s.data.toList.drop (k + 1)) else none := by
          rw [hst]
          simp only [Lib.decFrom, Lib.digitVal]
          by_cases hc : 48 ≤ (s[k]'hlt).toNat ∧ (s[k]'hlt).toNat ≤ 57
          · rw [if_pos hc, if_pos hc]
          · rw [if_neg hc, if_neg hc]
        rw [hD.out] at hsr
        have HS := Lib.hid hsr; clear hsr hst hD
        have HV := Lib.hid hv; clear hv
        go_wp2
        all_goals first
          | (go_ret2
             rw [HN.out, HS.out, if_neg (by omega)]
             exact ⟨rfl, hb⟩)
          | (go_roundw
             case rel =>
               refine ⟨k + 1, v * 10 + ((s[k]'hlt).toNat - 48), by omega, by go_num, Tx.vint ?_, ?_, Lib.hid ?_, hb⟩
               · omega
               · have h1 := HV.out
                 rw [Nat.pow_succ]
                 omega
               · rw [HS.out, if_pos (by omega)]
             case measure => simp [intOf]; omega)
      · go_wp2
        go_ret2
        have hd : s.data.toList.drop k = [] := List.drop_eq_nil_of_le (by rw [← Lib.size_eq]; omega)
        rw [hd] at hD
        rw [HN.out, ← hD.out]
        exact ⟨rfl, hb⟩

/-- strconv.Atoi at every string: the number and no error, or some error. -/
theorem Atoi_c (s : ByteArray) (w : World) (hs : s.size ≤ 281474976710656) (hG : G w) :
    Calls Tryz.prog 123 #[.string s] w fun e w' => ∃ (v : Int) (err : Value), e = .returned (.tuple #[.int .i64 v, err]) ∧ Below w.heap.size w w' ∧
      ((err = .nilIface ∧ Lib.atoiAll s.data.toList = .ok v) ∨ (∃ t p, err = .iface t p ∧ ∀ x, Lib.atoiAll s.data.toList = .ok x → False)) := by
  obtain ⟨te, pe, he⟩ := hG.es
  obtain ⟨tr, pr, hr⟩ := hG.er
  rcases h : Lib.atoiAll s.data.toList with v | _ | _
  · refine (Tryz.strconv_Atoi_ok s (by omega) v h w).mono fun e w' ⟨h1, h2⟩ => ⟨v, .nilIface, h1, ?_, .inl ⟨rfl, rfl⟩⟩
    rcases h2 with rfl | ⟨t, rfl⟩
    · exact Below.refl _ _
    · exact Lib.bytesWorld_below _ _ _
  · refine (Any.strconv_Atoi_syntax Tryz.laysC172 s hs h _ w he (.inr ⟨te, pe, rfl⟩)).mono fun e w' ⟨N, h1, _, _, hb⟩ => ⟨0, _, h1, hb, .inr ⟨_, _, rfl, fun x hx => by cases hx⟩⟩
  · refine (Any.strconv_Atoi_range Tryz.laysC172 s hs h _ w hr (.inr ⟨tr, pr, rfl⟩)).mono fun e w' ⟨N, h1, _, _, hb⟩ => ⟨_, _, h1, hb, .inr ⟨_, _, rfl, fun x hx => by cases hx⟩⟩

theorem Itoa_c (n : Int) (w : World) (h0 : -9223372036854775808 ≤ n) (h1 : n ≤ 9223372036854775807) (hG : G w) :
    Calls Tryz.prog 59 #[.int .i64 n] w fun e w' => e = .returned (.string ⟨(Lib.itoa n).toArray⟩) ∧ Below w.heap.size w w' :=
  (Tryz.strconv_Itoa n h0 h1 w hG.p).mono fun _ _ ⟨he, k, os, hw⟩ => ⟨he, hw ▸ below_grown w k os⟩

theorem Tx.atoi_bound {l : List UInt8} {v : Int} (h : Lib.atoiAll l = .ok v) : -9223372036854775808 ≤ v ∧ v ≤ 9223372036854775807 := by
  unfold Lib.atoiAll at h
  split at h
  · cases h
  · simp only at h
    repeat' split at h
    all_goals first | (cases h; done) | (injection h with h; subst h; constructor <;> omega)

end Go.Proofs.YtkahplbjbidemaaGreatDoor
