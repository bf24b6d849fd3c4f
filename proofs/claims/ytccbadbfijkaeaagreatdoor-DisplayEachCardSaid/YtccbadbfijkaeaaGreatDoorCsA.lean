/- The law's small; the reference's Number: what the calls return. -/
import Derived.Test.YtccbadbfijkaeaaGreatDoorReA
import Derived.Test.YtccbadbfijkaeaaGreatDoorCpB
import Derived.Test.YtccbadbfijkaeaaGreatDoorNmA
import Derived.Deep.RegionHeld3
namespace Go.Proofs.YtccbadbfijkaeaaGreatDoor
open Go.RowKit
set_option maxRecDepth 100000

namespace Cs
def small (items : List Cp.It) : Bool := decide (items.length ≤ 60 ∧ ∀ x ∈ items, x.call.size ≤ 1000)
end Cs

set_option maxHeartbeats 800000 in
theorem small_c (items : List Cp.It) (a : Option Addr) (c : Nat) (w : World) (h : Cp.ItA w a c items) :
    Calls Tryz.prog 19 #[.slice a items.length c] w fun e w' => e = .returned (.bool (Cs.small items)) ∧ Below w.heap.size w w' := by
  have hc := h.cap
  have hm := h.max
  have hml : maxLen = 9223372036854775807 := rfl
  by_cases hl : items.length ≤ 60
  · go_enter Tryz.func19, Tryz.ntmps19
    go_wp2
    go_loopw [3] (fun i wr => ∃ (k : Nat), k ≤ items.length ∧ i = .int .i64 k ∧ Hid (∀ x ∈ items.take k, x.call.size ≤ 1000) ∧ Below w.heap.size w wr) (fun i _ => items.length - (intOf i).toNat)
    case atStart => exact ⟨0, Nat.zero_le _, rfl, Lib.hid (by simp), Below.refl _ _⟩
    case round =>
      obtain ⟨k, hk, rfl, hE, hb⟩ := hrel
      by_cases hlt : k < items.length
      · obtain ⟨x, hx⟩ : ∃ x, items[k]? = some x := ⟨_, List.getElem?_eq_getElem hlt⟩
        obtain ⟨b, o, rfl, hbl, c0, c1, c2, c3, c4, c5, c6, c7, c8, c9⟩ := h.get hx
        clear c0 c1 c2 c3 c4 c6 c7 c8 c9
        replace c5 := cell_later hb c5
        by_cases hs : x.call.size ≤ 1000
        · have hE2 : Hid (∀ y ∈ items.take (k + 1), y.call.size ≤ 1000) := Lib.hid (fun y hy => by
            rw [Wr.take_at hx] at hy
            rcases List.mem_append.1 hy with h1 | h1
            · exact hE.out y h1
            · simp at h1; subst h1; exact hs)
          clear hx
          go_wp2
          go_roundw
          case rel => exact ⟨k + 1, by omega, by go_num, hE2, hb⟩
          case measure => simp [intOf]; omega
        · have hno : Hid (Cs.small items = false) := Lib.hid (decide_eq_false fun h => hs (h.2 x (List.mem_of_getElem? hx)))
          clear hx
          go_wp2
          go_ret
          exact ⟨Tx.retb hno.out.symm, hb⟩
      · obtain rfl : k = items.length := by omega
        have hyes : Hid (Cs.small items = true) := Lib.hid (decide_eq_true ⟨hl, by have := hE.out; rw [List.take_length] at this; exact this⟩)
        go_wp2
        go_ret
        exact ⟨Tx.retb hyes.out.symm, hb⟩
  · have hno : Hid (Cs.small items = false) := Lib.hid (decide_eq_false fun h => hl h.1)
    go_enter Tryz.func19, Tryz.ntmps19
    go_wp2
    go_ret
    exact ⟨Tx.retb hno.out.symm, Below.refl _ _⟩

namespace Cs
open Lib
/-- The digits of what is left of a number, none for zero. -/
def digs (m : Int) : List UInt8 := if m = 0 then [] else decDigits m.natAbs
theorem digs_step {m : Int} (h : m ≠ 0) : digs m = digs (m.tdiv 10) ++ [Nm.dig (m.natAbs % 10)] := by
  unfold digs
  rw [if_neg h]
  have hq : (m.tdiv 10).natAbs = m.natAbs / 10 := by rw [Int.natAbs_tdiv]; rfl
  by_cases hs : m.natAbs < 10
  · have h0 : m.tdiv 10 = 0 := by omega
    rw [if_pos h0, Nm.digits_small hs, Nat.mod_eq_of_lt hs, List.nil_append]
  · have h0 : m.tdiv 10 ≠ 0 := by omega
    rw [if_neg h0, hq, Nm.digits_big hs]
theorem itoa_digs {n : Int} (h : n ≠ 0) : itoa n = (if n < 0 then [45] else []) ++ digs n := by
  unfold digs
  rw [if_neg h]
  unfold itoa
  by_cases h0 : n < 0
  · rw [if_pos h0, if_pos h0]; rfl
  · rw [if_neg h0, if_neg h0, List.nil_append, show n.toNat = n.natAbs by omega]
theorem digs_len : ∀ (f : Nat) (m : Int), m.natAbs < 10 ^ f → (digs m).length ≤ f
  | 0, m, h => by
    have : m = 0 := by simp at h; omega
    subst this
    simp [digs]
  | f + 1, m, h => by
    by_cases h0 : m = 0
    · subst h0; simp [digs]
    · have hq : (m.tdiv 10).natAbs = m.natAbs / 10 := by rw [Int.natAbs_tdiv]; rfl
      have := digs_len f (m.tdiv 10) (by rw [hq]; rw [Nat.pow_succ] at h; omega)
      rw [digs_step h0, List.length_append, List.length_cons, List.length_nil]
      omega
end Cs

set_option maxHeartbeats 1600000 in
theorem r25_Number_c (n : Int) (w : World) (h1 : -9223372036854775808 ≤ n) (h2 : n ≤ 9223372036854775807) :
    Calls Tryz.prog 38 #[.int .i64 n] w fun e w' => e = .returned (.string ⟨(Lib.itoa n).toArray⟩) ∧ Below w.heap.size w w' := by
  by_cases hn : n = 0
  · subst hn
    have hz : Lib.itoa 0 = [48] := by unfold Lib.itoa; rw [if_neg (by omega), show (0 : Int).toNat = 0 from rfl, Nm.digits_small (by omega)]; rfl
    have HZ := Lib.hid hz; clear hz
    go_enter Tryz.func38, Tryz.ntmps38
    go_wp2
    go_ret
    exact ⟨Tx.rets (by rw [HZ.out]), Below.refl _ _⟩
  · have hit := Cs.itoa_digs hn
    have hdl := Cs.digs_len 19 n (by omega)
    have HI := Lib.hid hit; clear hit
    have HDL := Lib.hid hdl; clear hdl
    obtain ⟨i0, hi0, hz0, hz1, hz2⟩ := info_parts info_u8
    obtain ⟨S, hS⟩ : ∃ S : List UInt8, (if n < 0 then [45] else []) = S := ⟨_, rfl⟩
    rw [hS] at HI
    have hSl : S.length ≤ 1 := by rw [← hS]; split <;> simp
    by_cases hneg : n < 0
    · rw [if_pos hneg] at hS
      subst hS
      go_enter Tryz.func38, Tryz.ntmps38
      go_wp2
      go_loopw [0, 3, 5] (fun mv sv _ wr => ∃ (m : Int) (L : List UInt8), mv = .int .i64 m ∧ sv = .string ⟨L.toArray⟩ ∧ -9223372036854775808 ≤ m ∧ m ≤ 9223372036854775807 ∧ Hid (Cs.digs n = Cs.digs m ++ L) ∧ Below w.heap.size w wr) (fun mv _ _ _ => (intOf mv).natAbs)
      case atStart => exact ⟨n, [], rfl, rfl, h1, h2, Lib.hid (by simp), Below.refl _ _⟩
      case round =>
        obtain ⟨m, L, rfl, rfl, hm1, hm2, hD, hb⟩ := hrel
        have hbs := hb.size
        by_cases hm0 : m = 0
        · subst hm0
          have hL : Cs.digs n = L := by rw [hD.out]; simp [Cs.digs]
          have HL := Lib.hid hL; clear hL hD
          have hll : L.length ≤ 19 := by rw [← HL.out]; exact HDL.out
          go_wp2
          go_ret
          exact ⟨Tx.rets (by rw [HI.out, HL.out]; first | rfl | simp [Tx.bcat]), hb⟩
        · have hst := Cs.digs_step hm0
          have hdd := hD.out
          rw [hst, List.append_assoc] at hdd
          have hll : L.length ≤ 18 := by
            have := congrArg List.length hdd
            have h9 := HDL.out
            simp only [List.length_append, List.length_cons, List.length_nil] at this
            omega
          obtain ⟨r, hr⟩ : ∃ r, m.natAbs % 10 = r := ⟨_, rfl⟩
          have hr9 : r < 10 := by omega
          rw [hr] at hdd
          have hdt := Nm.dig_toNat hr9
          obtain ⟨q, hq⟩ : ∃ q, m.tdiv 10 = q := ⟨_, rfl⟩
          have hqa : q.natAbs = m.natAbs / 10 := by rw [← hq, Int.natAbs_tdiv]; rfl
          have hq1 : -9223372036854775808 ≤ q ∧ q ≤ 9223372036854775807 := by omega
          rw [hq] at hdd
          have hmt : m.tmod 10 = if m < 0 then -(r : Int) else r := by
            rw [tmod_eq_if]
            split <;> split <;> omega
          have HDD := Lib.hid hdd; clear hdd hst hD
          have HR := Lib.hid hr; clear hr
          obtain ⟨a1, -⟩ := Tx.adds_ok Tryz.prog [⟨L.toArray⟩] ⟨[Nm.dig r].toArray⟩ (by simp only [List.map_cons, List.map_nil, List.sum_cons, List.sum_nil, Tx.size_mk]; simp; omega)
          have hcv : ∀ v : Int, v = ((Nm.dig r).toNat : Int) → _ := fun v hv => run_convert_bytes_back (P := Tryz.prog) (wr.alloc (.cells #[.int .u8 v] 5)) 76 9 5 ⟨wr.heap.size, 0, none⟩ 1 [Nm.dig r] Tryz.underlying76 Tryz.underlying5 Tryz.underlying9 (fun j hj => by
            simp at hj
            subst hj
            exact Tx.cell_one_at _ _ rfl _ _ 0 _ (by rw [hv]; rfl))
          by_cases hms : m < 0
          · rw [if_pos hms] at hmt
            by_cases hr0 : r = 0
            · subst hr0
              have hcv1 : (convert 76 9 (.slice (some ⟨wr.heap.size, 0, none⟩) 1 1)).run Tryz.prog (wr.alloc (.cells #[.int .u8 48] 5)) = .ok (.string ⟨[Nm.dig 0].toArray⟩) (wr.alloc (.cells #[.int .u8 48] 5)) := hcv 48 (by rw [hdt]; rfl)
              clear hcv
              go_wp2
              go_roundw
              case rel => exact ⟨q, [Nm.dig 0] ++ L, by first | rfl | go_num, by rw [Tx.bcat], hq1.1, hq1.2, HDD, (hb.alloc hbs _)⟩
              case measure => simp [intOf]; omega
            · have hcv1 : (convert 76 9 (.slice (some ⟨wr.heap.size, 0, none⟩) 1 1)).run Tryz.prog (wr.alloc (.cells #[.int .u8 (48 + (r : Int))] 5)) = .ok (.string ⟨[Nm.dig r].toArray⟩) (wr.alloc (.cells #[.int .u8 (48 + (r : Int))] 5)) := hcv (48 + (r : Int)) (by rw [hdt]; omega)
              clear hcv
              have hd0 : -(r : Int) < 0 := by omega
              go_wp2
              go_roundw
              case rel => exact ⟨q, [Nm.dig r] ++ L, by first | rfl | go_num, by rw [Tx.bcat], hq1.1, hq1.2, HDD, (hb.alloc hbs _)⟩
              case measure => simp [intOf]; omega
          · rw [if_neg hms] at hmt
            have hcv1 : (convert 76 9 (.slice (some ⟨wr.heap.size, 0, none⟩) 1 1)).run Tryz.prog (wr.alloc (.cells #[.int .u8 (48 + (r : Int))] 5)) = .ok (.string ⟨[Nm.dig r].toArray⟩) (wr.alloc (.cells #[.int .u8 (48 + (r : Int))] 5)) := hcv (48 + (r : Int)) (by rw [hdt]; omega)
            clear hcv
            have hd0 : ¬ (r : Int) < 0 := by omega
            go_wp2
            go_roundw
            case rel => exact ⟨q, [Nm.dig r] ++ L, by first | rfl | go_num, by rw [Tx.bcat], hq1.1, hq1.2, HDD, (hb.alloc hbs _)⟩
            case measure => simp [intOf]; omega
    · rw [if_neg hneg] at hS
      subst hS
      go_enter Tryz.func38, Tryz.ntmps38
      go_wp2
      go_loopw [0, 3, 5] (fun mv sv _ wr => ∃ (m : Int) (L : List UInt8), mv = .int .i64 m ∧ sv = .string ⟨L.toArray⟩ ∧ -9223372036854775808 ≤ m ∧ m ≤ 9223372036854775807 ∧ Hid (Cs.digs n = Cs.digs m ++ L) ∧ Below w.heap.size w wr) (fun mv _ _ _ => (intOf mv).natAbs)
      case atStart => exact ⟨n, [], rfl, rfl, h1, h2, Lib.hid (by simp), Below.refl _ _⟩
      case round =>
        obtain ⟨m, L, rfl, rfl, hm1, hm2, hD, hb⟩ := hrel
        have hbs := hb.size
        by_cases hm0 : m = 0
        · subst hm0
          have hL : Cs.digs n = L := by rw [hD.out]; simp [Cs.digs]
          have HL := Lib.hid hL; clear hL hD
          have hll : L.length ≤ 19 := by rw [← HL.out]; exact HDL.out
          go_wp2
          go_ret
          exact ⟨Tx.rets (by rw [HI.out, HL.out]; first | rfl | simp [Tx.bcat]), hb⟩
        · have hst := Cs.digs_step hm0
          have hdd := hD.out
          rw [hst, List.append_assoc] at hdd
          have hll : L.length ≤ 18 := by
            have := congrArg List.length hdd
            have h9 := HDL.out
            simp only [List.length_append, List.length_cons, List.length_nil] at this
            omega
          obtain ⟨r, hr⟩ : ∃ r, m.natAbs % 10 = r := ⟨_, rfl⟩
          have hr9 : r < 10 := by omega
          rw [hr] at hdd
          have hdt := Nm.dig_toNat hr9
          obtain ⟨q, hq⟩ : ∃ q, m.tdiv 10 = q := ⟨_, rfl⟩
          have hqa : q.natAbs = m.natAbs / 10 := by rw [← hq, Int.natAbs_tdiv]; rfl
          have hq1 : -9223372036854775808 ≤ q ∧ q ≤ 9223372036854775807 := by omega
          rw [hq] at hdd
          have hmt : m.tmod 10 = if m < 0 then -(r : Int) else r := by
            rw [tmod_eq_if]
            split <;> split <;> omega
          have HDD := Lib.hid hdd; clear hdd hst hD
          have HR := Lib.hid hr; clear hr
          obtain ⟨a1, -⟩ := Tx.adds_ok Tryz.prog [⟨L.toArray⟩] ⟨[Nm.dig r].toArray⟩ (by simp only [List.map_cons, List.map_nil, List.sum_cons, List.sum_nil, Tx.size_mk]; simp; omega)
          have hcv : ∀ v : Int, v = ((Nm.dig r).toNat : Int) → _ := fun v hv => run_convert_bytes_back (P := Tryz.prog) (wr.alloc (.cells #[.int .u8 v] 5)) 76 9 5 ⟨wr.heap.size, 0, none⟩ 1 [Nm.dig r] Tryz.underlying76 Tryz.underlying5 Tryz.underlying9 (fun j hj => by
            simp at hj
            subst hj
            exact Tx.cell_one_at _ _ rfl _ _ 0 _ (by rw [hv]; rfl))
          by_cases hms : m < 0
          · rw [if_pos hms] at hmt
            by_cases hr0 : r = 0
            · subst hr0
              have hcv1 : (convert 76 9 (.slice (some ⟨wr.heap.size, 0, none⟩) 1 1)).run Tryz.prog (wr.alloc (.cells #[.int .u8 48] 5)) = .ok (.string ⟨[Nm.dig 0].toArray⟩) (wr.alloc (.cells #[.int .u8 48] 5)) := hcv 48 (by rw [hdt]; rfl)
              clear hcv
              go_wp2
              go_roundw
              case rel => exact ⟨q, [Nm.dig 0] ++ L, by first | rfl | go_num, by rw [Tx.bcat], hq1.1, hq1.2, HDD, (hb.alloc hbs _)⟩
              case measure => simp [intOf]; omega
            · have hcv1 : (convert 76 9 (.slice (some ⟨wr.heap.size, 0, none⟩) 1 1)).run Tryz.prog (wr.alloc (.cells #[.int .u8 (48 + (r : Int))] 5)) = .ok (.string ⟨[Nm.dig r].toArray⟩) (wr.alloc (.cells #[.int .u8 (48 + (r : Int))] 5)) := hcv (48 + (r : Int)) (by rw [hdt]; omega)
              clear hcv
              have hd0 : -(r : Int) < 0 := by omega
              go_wp2
              go_roundw
              case rel => exact ⟨q, [Nm.dig r] ++ L, by first | rfl | go_num, by rw [Tx.bcat], hq1.1, hq1.2, HDD, (hb.alloc hbs _)⟩
              case measure => simp [intOf]; omega
          · rw [if_neg hms] at hmt
            have hcv1 : (convert 76 9 (.slice (some ⟨wr.heap.size, 0, none⟩) 1 1)).run Tryz.prog (wr.alloc (.cells #[.int .u8 (48 + (r : Int))] 5)) = .ok (.string ⟨[Nm.dig r].toArray⟩) (wr.alloc (.cells #[.int .u8 (48 + (r : Int))] 5)) := hcv (48 + (r : Int)) (by rw [hdt]; omega)
            clear hcv
            have hd0 : ¬ (r : Int) < 0 := by omega
            go_wp2
            go_roundw
            case rel => exact ⟨q, [Nm.dig r] ++ L, by first | rfl | go_num, by rw [Tx.bcat], hq1.1, hq1.2, HDD, (hb.alloc hbs _)⟩
            case measure => simp [intOf]; omega
end Go.Proofs.YtccbadbfijkaeaaGreatDoor
