/- The reference's tokens in memory; its looks at a token: what the calls return. -/
import Derived.Test.YtkahplbjbidemaaGreatDoorQrX
import Derived.Test.YtkahplbjbidemaaGreatDoorQeX
import Derived.Test.YtkahplbjbidemaaGreatDoorQuX
import Derived.Test.YtkahplbjbidemaaGreatDoorQnX
namespace Go.Proofs.YtkahplbjbidemaaGreatDoor
open Go.RowKit
set_option maxRecDepth 100000

namespace Qr
/-- The reference's number of a kind, and its text. -/
def kR (k : UInt8) : Int := if k = 113 then 2 else if k = 114 then 1 else if k = 0 then 0 else 3
def tx (t : Tok) : By := if t.k = 113 ∨ t.k = 114 then t.t else if t.k = 0 then [] else [t.k]
/-- A token of the reference's. -/
def Lg (t : Tok) : Prop := t.k = 113 ∨ t.k = 114 ∨ t.k = 40 ∨ t.k = 41 ∨ t.k = 58 ∨ t.k = 42 ∨ (t.k = 0 ∧ t.t = [] ∧ t.g = false)
def zeroT : Tok := ⟨0, [], false⟩
theorem lg_lk {r : List Tok} (h : ∀ t ∈ r, Lg t) : Lg (lk r) := by
  cases r with
  | nil => exact .inr (.inr (.inr (.inr (.inr (.inr ⟨rfl, rfl, rfl⟩)))))
  | cons t l => exact h t (by simp)
theorem kR_eq {t : Tok} (h : Lg t) : (kR t.k = 2 ↔ t.k = 113) ∧ (kR t.k = 1 ↔ t.k = 114) ∧ (kR t.k = 0 ↔ t.k = 0) ∧ (kR t.k = 3 ↔ (t.k = 40 ∨ t.k = 41 ∨ t.k = 58 ∨ t.k = 42)) := by
  rcases h with h | h | h | h | h | h | ⟨h, _⟩ <;> rw [h] <;> decide
theorem is_eq {t : Tok} (h : Lg t) {c : UInt8} (hc : c = 40 ∨ c = 41 ∨ c = 58 ∨ c = 42) : (decide (kR t.k = 3) && decide ((⟨(tx t).toArray⟩ : ByteArray) = ⟨#[c]⟩)) = (t.k == c) := by
  have e : ∀ d : UInt8, ((⟨[d].toArray⟩ : ByteArray) = ⟨#[c]⟩) ↔ d = c := fun d => by simp
  rw [Bool.eq_iff_iff, Bool.and_eq_true, decide_eq_true_iff, decide_eq_true_iff, beq_iff_eq, (kR_eq h).2.2.2]
  constructor
  · rintro ⟨h1, h2⟩
    unfold tx at h2
    rw [if_neg (by rcases h1 with h1 | h1 | h1 | h1 <;> rw [h1] <;> decide), if_neg (by rcases h1 with h1 | h1 | h1 | h1 <;> rw [h1] <;> decide), e] at h2
    exact h2
  · rintro rfl
    refine ⟨hc, ?_⟩
    unfold tx
    rw [if_neg (by rcases hc with h1 | h1 | h1 | h1 <;> rw [h1] <;> decide), if_neg (by rcases hc with h1 | h1 | h1 | h1 <;> rw [h1] <;> decide), e]
theorem op_eq {t : Tok} (h : Lg t) (s : By) : (decide (kR t.k = 1) && decide ((⟨(tx t).toArray⟩ : ByteArray) = ⟨s.toArray⟩)) = (t.k == 114 && t.t == s) := by
  rw [Bool.eq_iff_iff, Bool.and_eq_true, Bool.and_eq_true, decide_eq_true_iff, decide_eq_true_iff, beq_iff_eq, beq_iff_eq, (kR_eq h).2.1]
  constructor
  · rintro ⟨h1, h2⟩
    unfold tx at h2
    rw [if_pos (.inr h1)] at h2
    exact ⟨h1, by simpa using h2⟩
  · rintro ⟨h1, h2⟩
    unfold tx
    rw [if_pos (.inr h1), h2]
    exact ⟨h1, rfl⟩
/-- The reference's starts. -/
def beg (t : Tok) : Bool := t.k == 113 || t.k == 40 || (t.k == 114 && !anyOp t)
theorem beg_lk (r : List Tok) : beg (lk r) = begins r := by
  unfold beg begins word0
  cases (lk r).k == 113 <;> cases (lk r).k == 40 <;> rfl
end Qr

set_option maxHeartbeats 800000 in
theorem r21_is_g (K : Int) (x s : ByteArray) (g : Bool) (w : World) :
    Calls Tryz.prog 89 #[.agg #[.int .i64 K, .string x, .bool g], .string s] w fun e w' => e = .returned (.bool (decide (K = 3) && decide (x = s))) ∧ Below w.heap.size w w' := by
  have hb := Tx.newb w (.cells #[.int .i64 K, .string x, .bool g] 55)
  by_cases h : K = 3
  · subst h
    obtain ⟨t, ht⟩ : ∃ t, (x.toList == s.toList) = t := ⟨_, rfl⟩
    have HT : Hid (decide (x = s) = t) := Lib.hid (by rw [← Qr.bne_ba]; exact ht)
    go_enter Tryz.func89, Tryz.ntmps89
    go_wp2
    go_ret
    exact ⟨Tx.retb (by rw [HT.out]; simp), hb⟩
  · have hd : (K == 3) = false := beq_eq_false_iff_ne.2 h
    have HD := Lib.hid h; clear h
    go_enter Tryz.func89, Tryz.ntmps89
    go_wp2
    go_ret
    exact ⟨Tx.retb (by rw [decide_eq_false HD.out]; rfl), hb⟩
set_option maxHeartbeats 800000 in
theorem r21_op_g (K : Int) (x s : ByteArray) (g : Bool) (w : World) :
    Calls Tryz.prog 55 #[.agg #[.int .i64 K, .string x, .bool g], .string s] w fun e w' => e = .returned (.bool (decide (K = 1) && decide (x = s))) ∧ Below w.heap.size w w' := by
  have hb := Tx.newb w (.cells #[.int .i64 K, .string x, .bool g] 55)
  by_cases h : K = 1
  · subst h
    obtain ⟨t, ht⟩ : ∃ t, (x.toList == s.toList) = t := ⟨_, rfl⟩
    have HT : Hid (decide (x = s) = t) := Lib.hid (by rw [← Qr.bne_ba]; exact ht)
    go_enter Tryz.func55, Tryz.ntmps55
    go_wp2
    go_ret
    exact ⟨Tx.retb (by rw [HT.out]; simp), hb⟩
  · have hd : (K == 1) = false := beq_eq_false_iff_ne.2 h
    have HD := Lib.hid h; clear h
    go_enter Tryz.func55, Tryz.ntmps55
    go_wp2
    go_ret
    exact ⟨Tx.retb (by rw [decide_eq_false HD.out]; rfl), hb⟩
/-- A token by value. -/
abbrev Qr.aggT (t : Qr.Tok) : Value := .agg #[.int .i64 (Qr.kR t.k), .string ⟨(Qr.tx t).toArray⟩, .bool t.g]
theorem r21_is_c (t : Qr.Tok) (h : Qr.Lg t) (c : UInt8) (hc : c = 40 ∨ c = 41 ∨ c = 58 ∨ c = 42) (w : World) :
    Calls Tryz.prog 89 #[.agg #[.int .i64 (Qr.kR t.k), .string ⟨(Qr.tx t).toArray⟩, .bool t.g], .string ⟨#[c]⟩] w fun e w' => e = .returned (.bool (t.k == c)) ∧ Below w.heap.size w w' := by
  have := r21_is_g (Qr.kR t.k) ⟨(Qr.tx t).toArray⟩ ⟨#[c]⟩ t.g w
  rw [Qr.is_eq h hc] at this
  exact this
theorem r21_op_c (t : Qr.Tok) (h : Qr.Lg t) (s : List UInt8) (w : World) :
    Calls Tryz.prog 55 #[.agg #[.int .i64 (Qr.kR t.k), .string ⟨(Qr.tx t).toArray⟩, .bool t.g], .string ⟨s.toArray⟩] w fun e w' => e = .returned (.bool (t.k == 114 && t.t == s)) ∧ Below w.heap.size w w' := by
  have := r21_op_g (Qr.kR t.k) ⟨(Qr.tx t).toArray⟩ ⟨s.toArray⟩ t.g w
  rw [Qr.op_eq h s] at this
  exact this

set_option maxHeartbeats 1600000 in
theorem r21_anyOp_c (t : Qr.Tok) (h : Qr.Lg t) (w : World) :
    Calls Tryz.prog 90 #[.agg #[.int .i64 (Qr.kR t.k), .string ⟨(Qr.tx t).toArray⟩, .bool t.g]] w fun e w' => e = .returned (.bool (Qr.anyOp t)) ∧ Below w.heap.size w w' := by
  have o1 : Hid (∀ w, Calls Tryz.prog 55 #[.agg #[.int .i64 (Qr.kR t.k), .string ⟨(Qr.tx t).toArray⟩, .bool t.g], .string ⟨#[79, 82]⟩] w fun e w' => e = .returned (.bool (t.k == 114 && t.t == Qr.orB)) ∧ Below w.heap.size w w') := Lib.hid (fun w => r21_op_c t h Qr.orB w)
  have o2 : Hid (∀ w, Calls Tryz.prog 55 #[.agg #[.int .i64 (Qr.kR t.k), .string ⟨(Qr.tx t).toArray⟩, .bool t.g], .string ⟨#[65, 78, 68]⟩] w fun e w' => e = .returned (.bool (t.k == 114 && t.t == Qr.andB)) ∧ Below w.heap.size w w') := Lib.hid (fun w => r21_op_c t h Qr.andB w)
  have o3 : Hid (∀ w, Calls Tryz.prog 55 #[.agg #[.int .i64 (Qr.kR t.k), .string ⟨(Qr.tx t).toArray⟩, .bool t.g], .string ⟨#[78, 79, 84]⟩] w fun e w' => e = .returned (.bool (t.k == 114 && t.t == Qr.notB)) ∧ Below w.heap.size w w') := Lib.hid (fun w => r21_op_c t h Qr.notB w)
  obtain ⟨b1, h1⟩ : ∃ b, (t.k == 114 && t.t == Qr.orB) = b := ⟨_, rfl⟩
  obtain ⟨b2, h2⟩ : ∃ b, (t.k == 114 && t.t == Qr.andB) = b := ⟨_, rfl⟩
  obtain ⟨b3, h3⟩ : ∃ b, (t.k == 114 && t.t == Qr.notB) = b := ⟨_, rfl⟩
  have HA : Hid (Qr.anyOp t = (b1 || b2 || b3)) := Lib.hid (by
    rw [← h1, ← h2, ← h3]
    unfold Qr.anyOp
    cases t.k == 114 <;> simp)
  rw [h1] at o1
  rw [h2] at o2
  rw [h3] at o3
  obtain ⟨K, hK⟩ : ∃ K, Qr.kR t.k = K := ⟨_, rfl⟩
  obtain ⟨x, hx⟩ : ∃ x, (⟨(Qr.tx t).toArray⟩ : ByteArray) = x := ⟨_, rfl⟩
  obtain ⟨tg, hg⟩ : ∃ g, t.g = g := ⟨_, rfl⟩
  rw [hK, hx, hg] at o1 o2 o3 ⊢
  clear hK hx hg h1 h2 h3
  obtain ⟨W, hW⟩ : ∃ W, w.alloc (.cells #[.int .i64 K, .string x, .bool tg] 55) = W := ⟨_, rfl⟩
  have hB : Below w.heap.size w W := by rw [← hW]; exact Tx.newb _ _
  have c0 : W.cell? ⟨w.heap.size, 0, none⟩ = some (.int .i64 K) := by rw [← hW]; simp
  have c1 : W.cell? ⟨w.heap.size, 1, none⟩ = some (.string x) := by rw [← hW]; simp
  have c2 : W.cell? ⟨w.heap.size, 2, none⟩ = some (.bool tg) := by rw [← hW]; simp
  cases b1 with
  | true =>
    go_enter Tryz.func90, Tryz.ntmps90
    go_wp2_with (go_at_call 55; refine (o1.out _).mono ?_; rintro e w1 ⟨rfl, hb1⟩)
    go_ret
    exact ⟨Tx.retb (by rw [HA.out]; rfl), hB.trans (hb1.mono hB.size)⟩
  | false =>
    cases b2 with
    | true =>
      go_enter Tryz.func90, Tryz.ntmps90
      go_wp2_with (first
        | (go_at_call 55; with_reducible refine (o1.out _).mono ?_; rintro e w1 ⟨rfl, hb1⟩; have d0 := cell_later hb1 c0; have d1 := cell_later hb1 c1; have d2 := cell_later hb1 c2)
        | (go_at_call 55; with_reducible refine (o2.out _).mono ?_; rintro e w2 ⟨rfl, hb2⟩))
      go_ret
      exact ⟨Tx.retb (by rw [HA.out]; rfl), hB.trans ((Tx.step hb1 hb2).mono hB.size)⟩
    | false =>
      go_enter Tryz.func90, Tryz.ntmps90
      go_wp2_with (first
        | (go_at_call 55; with_reducible refine (o1.out _).mono ?_; rintro e w1 ⟨rfl, hb1⟩; have d0 := cell_later hb1 c0; have d1 := cell_later hb1 c1; have d2 := cell_later hb1 c2)
        | (go_at_call 55; with_reducible refine (o2.out _).mono ?_; rintro e w2 ⟨rfl, hb2⟩; have f0 := cell_later hb2 d0; have f1 := cell_later hb2 d1; have f2 := cell_later hb2 d2)
        | (go_at_call 55; with_reducible refine (o3.out _).mono ?_; rintro e w3 ⟨rfl, hb3⟩))
      go_ret
      exact ⟨Tx.retb (by rw [HA.out]; simp), hB.trans ((Tx.step (Tx.step hb1 hb2) hb3).mono hB.size)⟩
end Go.Proofs.YtkahplbjbidemaaGreatDoor
