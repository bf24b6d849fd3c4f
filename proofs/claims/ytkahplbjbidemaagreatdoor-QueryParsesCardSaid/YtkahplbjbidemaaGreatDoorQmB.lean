/- The reference's starts and fieldOf: what the calls return; its tokens as a list in memory. -/
import Derived.Test.YtkahplbjbidemaaGreatDoorQmA
namespace Go.Proofs.YtkahplbjbidemaaGreatDoor
open Go.RowKit
set_option maxRecDepth 100000

set_option maxHeartbeats 1600000 in
theorem r21_starts_c (t : Qr.Tok) (h : Qr.Lg t) (w : World) :
    Calls Tryz.prog 78 #[.agg #[.int .i64 (Qr.kR t.k), .string ⟨(Qr.tx t).toArray⟩, .bool t.g]] w fun e w' => e = .returned (.bool (Qr.beg t)) ∧ Below w.heap.size w w' := by
  have o1 : Hid (∀ w, Calls Tryz.prog 89 #[.agg #[.int .i64 (Qr.kR t.k), .string ⟨(Qr.tx t).toArray⟩, .bool t.g], .string ⟨#[40]⟩] w fun e w' => e = .returned (.bool (t.k == 40)) ∧ Below w.heap.size w w') := Lib.hid (fun w => r21_is_c t h 40 (by simp) w)
  have o2 := Lib.hid (fun w => r21_anyOp_c t h w)
  have h2 : (Qr.kR t.k == 2) = (t.k == 113) := by rw [Bool.eq_iff_iff, beq_iff_eq, beq_iff_eq]; exact (Qr.kR_eq h).1
  have h1 : (Qr.kR t.k == 1) = (t.k == 114) := by rw [Bool.eq_iff_iff, beq_iff_eq, beq_iff_eq]; exact (Qr.kR_eq h).2.1
  obtain ⟨b1, e1⟩ : ∃ b, (t.k == 113) = b := ⟨_, rfl⟩
  obtain ⟨b2, e2⟩ : ∃ b, (t.k == 40) = b := ⟨_, rfl⟩
  obtain ⟨b3, e3⟩ : ∃ b, (t.k == 114) = b := ⟨_, rfl⟩
  obtain ⟨b4, e4⟩ : ∃ b, Qr.anyOp t = b := ⟨_, rfl⟩
  have HA : Hid (Qr.beg t = (b1 || b2 || (b3 && !b4))) := Lib.hid (by unfold Qr.beg; rw [e1, e2, e3, e4])
  rw [e2] at o1
  rw [e4] at o2
  rw [e1] at h2
  rw [e3] at h1
  obtain ⟨K, hK⟩ : ∃ K, Qr.kR t.k = K := ⟨_, rfl⟩
  obtain ⟨x, hx⟩ : ∃ x, (⟨(Qr.tx t).toArray⟩ : ByteArray) = x := ⟨_, rfl⟩
  obtain ⟨tg, hg⟩ : ∃ g, t.g = g := ⟨_, rfl⟩
  rw [hK, hx, hg] at o1 o2 ⊢
  rw [hK] at h1 h2
  clear hK hx hg e1 e2 e3 e4
  obtain ⟨W, hW⟩ : ∃ W, w.alloc (.cells #[.int .i64 K, .string x, .bool tg] 55) = W := ⟨_, rfl⟩
  have hB : Below w.heap.size w W := by rw [← hW]; exact Tx.newb _ _
  have c0 : W.cell? ⟨w.heap.size, 0, none⟩ = some (.int .i64 K) := by rw [← hW]; simp
  have c1 : W.cell? ⟨w.heap.size, 1, none⟩ = some (.string x) := by rw [← hW]; simp
  have c2 : W.cell? ⟨w.heap.size, 2, none⟩ = some (.bool tg) := by rw [← hW]; simp
  cases b1 with
  | true =>
    obtain rfl : K = 2 := by simpa using h2
    clear h1 h2
    go_enter Tryz.func78, Tryz.ntmps78
    go_wp2
    go_ret
    exact ⟨Tx.retb (by rw [HA.out]; rfl), hB⟩
  | false =>
    cases b2 with
    | true =>
      go_enter Tryz.func78, Tryz.ntmps78
      go_wp2_with (go_at_call 89; refine (o1.out _).mono ?_; rintro e w1 ⟨rfl, hb1⟩)
      go_ret
      exact ⟨Tx.retb (by rw [HA.out]; rfl), hB.trans (hb1.mono hB.size)⟩
    | false =>
      cases b3 with
      | true =>
        obtain rfl : K = 1 := by simpa using h1
        clear h1 h2
        cases b4 with
        | true =>
          go_enter Tryz.func78, Tryz.ntmps78
          go_wp2_with (first
            | (go_at_call 90; refine (o2.out _).mono ?_; rintro e w2 ⟨rfl, hb2⟩)
            | (go_at_call 89; refine (o1.out _).mono ?_; rintro e w1 ⟨rfl, hb1⟩; have d0 := cell_later hb1 c0; have d1 := cell_later hb1 c1; have d2 := cell_later hb1 c2))
          go_ret
          exact ⟨Tx.retb (by rw [HA.out]; rfl), hB.trans ((Tx.step hb1 hb2).mono hB.size)⟩
        | false =>
          go_enter Tryz.func78, Tryz.ntmps78
          go_wp2_with (first
            | (go_at_call 90; refine (o2.out _).mono ?_; rintro e w2 ⟨rfl, hb2⟩)
            | (go_at_call 89; refine (o1.out _).mono ?_; rintro e w1 ⟨rfl, hb1⟩; have d0 := cell_later hb1 c0; have d1 := cell_later hb1 c1; have d2 := cell_later hb1 c2))
          go_ret
          exact ⟨Tx.retb (by rw [HA.out]; rfl), hB.trans ((Tx.step hb1 hb2).mono hB.size)⟩
      | false =>
        go_enter Tryz.func78, Tryz.ntmps78
        go_wp2_with (first
          | (go_at_call 90; refine (o2.out _).mono ?_; rintro e w2 ⟨rfl, hb2⟩)
          | (go_at_call 89; refine (o1.out _).mono ?_; rintro e w1 ⟨rfl, hb1⟩; have d0 := cell_later hb1 c0; have d1 := cell_later hb1 c1; have d2 := cell_later hb1 c2))
        go_ret
        exact ⟨Tx.retb (by rw [HA.out]; cases b4 <;> rfl), hB.trans (hb1.mono hB.size)⟩

namespace Qr
/-- The number of a field, or -1. -/
def fldN (t : By) : Int := match fieldOf t with
  | some f => f
  | none => -1
end Qr
set_option maxHeartbeats 1600000 in
theorem r21_fieldOf_c (s : ByteArray) (w : World) :
    Calls Tryz.prog 99 #[.string s] w fun e w' => e = .returned (.int .i64 (Qr.fldN s.data.toList)) ∧ Below w.heap.size w w' := by
  have hb := Tx.newb w (.cells #[.string ⟨#[97, 110, 121]⟩, .string ⟨#[116, 105]⟩, .string ⟨#[97, 117]⟩, .string ⟨#[115, 117]⟩, .string ⟨#[110, 117]⟩] 9)
  obtain ⟨t0, h0⟩ : ∃ t, (([97, 110, 121] : List UInt8) == s.toList) = t := ⟨_, rfl⟩
  obtain ⟨t1, h1⟩ : ∃ t, (([116, 105] : List UInt8) == s.toList) = t := ⟨_, rfl⟩
  obtain ⟨t2, h2⟩ : ∃ t, (([97, 117] : List UInt8) == s.toList) = t := ⟨_, rfl⟩
  obtain ⟨t3, h3⟩ : ∃ t, (([115, 117] : List UInt8) == s.toList) = t := ⟨_, rfl⟩
  obtain ⟨t4, h4⟩ : ∃ t, (([110, 117] : List UInt8) == s.toList) = t := ⟨_, rfl⟩
  have e : ∀ (L : List UInt8) (t : Bool), (L == s.toList) = t → (s.data.toList = L ↔ t = true) := fun L t h => by
    rw [← h, beq_iff_eq, Lib.toList_data]
    exact eq_comm
  have HF : Hid (Qr.fldN s.data.toList = if t0 = true then 0 else if t1 = true then 1 else if t2 = true then 2 else if t3 = true then 3 else if t4 = true then 4 else -1) := Lib.hid (by
    have e0 := e _ _ h0
    have e1 := e _ _ h1
    have e2 := e _ _ h2
    have e3 := e _ _ h3
    have e4 := e _ _ h4
    unfold Qr.fldN Qr.fieldOf
    simp only [e0, e1, e2, e3, e4]
    clear h0 h1 h2 h3 h4 e0 e1 e2 e3 e4 e hb
    cases t0 <;> cases t1 <;> cases t2 <;> cases t3 <;> cases t4 <;> rfl)
  clear e
  obtain ⟨W, hW⟩ : ∃ W, w.alloc (.cells #[.string ⟨#[97, 110, 121]⟩, .string ⟨#[116, 105]⟩, .string ⟨#[97, 117]⟩, .string ⟨#[115, 117]⟩, .string ⟨#[110, 117]⟩] 9) = W := ⟨_, rfl⟩
  have hB : Below w.heap.size w W := by rw [← hW]; exact Tx.newb _ _
  have c0 : W.cell? ⟨w.heap.size, 0, none⟩ = some (.string ⟨#[97, 110, 121]⟩) := by rw [← hW]; simp
  have c1 : W.cell? ⟨w.heap.size, 1, none⟩ = some (.string ⟨#[116, 105]⟩) := by rw [← hW]; simp
  have c2 : W.cell? ⟨w.heap.size, 2, none⟩ = some (.string ⟨#[97, 117]⟩) := by rw [← hW]; simp
  have c3 : W.cell? ⟨w.heap.size, 3, none⟩ = some (.string ⟨#[115, 117]⟩) := by rw [← hW]; simp
  have c4 : W.cell? ⟨w.heap.size, 4, none⟩ = some (.string ⟨#[110, 117]⟩) := by rw [← hW]; simp
  clear hb
  go_enter Tryz.func99, Tryz.ntmps99
  go_wp2
  clear hW
  go_loop [4] (fun i => ∃ k : Nat, k ≤ 5 ∧ i = .int .i64 k ∧ Hid ((0 < k → t0 = false) ∧ (1 < k → t1 = false) ∧ (2 < k → t2 = false) ∧ (3 < k → t3 = false) ∧ (4 < k → t4 = false))) (fun i => 5 - (intOf i).toNat)
  case atStart => exact ⟨0, by omega, rfl, Lib.hid ⟨fun h => by omega, fun h => by omega, fun h => by omega, fun h => by omega, fun h => by omega⟩⟩
  case round =>
    obtain ⟨k, hk, rfl, hall⟩ := hrel
    rcases (show k = 0 ∨ k = 1 ∨ k = 2 ∨ k = 3 ∨ k = 4 ∨ k = 5 by omega) with rfl | rfl | rfl | rfl | rfl | rfl
    · cases t0 with
      | true =>
        go_wp2
        go_ret
        exact ⟨Tx.ret1 (by rw [HF.out]; rfl), hB⟩
      | false =>
        go_wp2
        go_round
        case rel => exact ⟨1, by omega, by first | rfl | go_num, Lib.hid ⟨fun _ => (by first | trivial | rfl), fun h => by omega, fun h => by omega, fun h => by omega, fun h => by omega⟩⟩
        case measure => simp [intOf]
    · obtain rfl : t0 = false := hall.out.1 (by omega)
      cases t1 with
      | true =>
        go_wp2
        go_ret
        exact ⟨Tx.ret1 (by rw [HF.out]; rfl), hB⟩
      | false =>
        go_wp2
        go_round
        case rel => exact ⟨2, by omega, by first | rfl | go_num, Lib.hid ⟨fun _ => (by first | trivial | rfl), fun _ => (by first | trivial | rfl), fun h => by omega, fun h => by omega, fun h => by omega⟩⟩
        case measure => simp [intOf]
    · obtain rfl : t0 = false := hall.out.1 (by omega)
      obtain rfl : t1 = false := hall.out.2.1 (by omega)
      cases t2 with
      | true =>
        go_wp2
        go_ret
        exact ⟨Tx.ret1 (by rw [HF.out]; rfl), hB⟩
      | false =>
        go_wp2
        go_round
        case rel => exact ⟨3, by omega, by first | rfl | go_num, Lib.hid ⟨fun _ => (by first | trivial | rfl), fun _ => (by first | trivial | rfl), fun _ => (by first | trivial | rfl), fun h => by omega, fun h => by omega⟩⟩
        case measure => simp [intOf]
    · obtain rfl : t0 = false := hall.out.1 (by omega)
      obtain rfl : t1 = false := hall.out.2.1 (by omega)
      obtain rfl : t2 = false := hall.out.2.2.1 (by omega)
      cases t3 with
      | true =>
        go_wp2
        go_ret
        exact ⟨Tx.ret1 (by rw [HF.out]; rfl), hB⟩
      | false =>
        go_wp2
        go_round
        case rel => exact ⟨4, by omega, by first | rfl | go_num, Lib.hid ⟨fun _ => (by first | trivial | rfl), fun _ => (by first | trivial | rfl), fun _ => (by first | trivial | rfl), fun _ => (by first | trivial | rfl), fun h => by omega⟩⟩
        case measure => simp [intOf]
    · obtain rfl : t0 = false := hall.out.1 (by omega)
      obtain rfl : t1 = false := hall.out.2.1 (by omega)
      obtain rfl : t2 = false := hall.out.2.2.1 (by omega)
      obtain rfl : t3 = false := hall.out.2.2.2.1 (by omega)
      cases t4 with
      | true =>
        go_wp2
        go_ret
        exact ⟨Tx.ret1 (by rw [HF.out]; rfl), hB⟩
      | false =>
        go_wp2
        go_round
        case rel => exact ⟨5, by omega, by first | rfl | go_num, Lib.hid ⟨fun _ => (by first | trivial | rfl), fun _ => (by first | trivial | rfl), fun _ => (by first | trivial | rfl), fun _ => (by first | trivial | rfl), fun _ => (by first | trivial | rfl)⟩⟩
        case measure => simp [intOf]
    · obtain rfl : t0 = false := hall.out.1 (by omega)
      obtain rfl : t1 = false := hall.out.2.1 (by omega)
      obtain rfl : t2 = false := hall.out.2.2.1 (by omega)
      obtain rfl : t3 = false := hall.out.2.2.2.1 (by omega)
      obtain rfl : t4 = false := hall.out.2.2.2.2 (by omega)
      go_wp2
      go_ret
      exact ⟨Tx.ret1 (by rw [HF.out]; rfl), hB⟩
end Go.Proofs.YtkahplbjbidemaaGreatDoor
