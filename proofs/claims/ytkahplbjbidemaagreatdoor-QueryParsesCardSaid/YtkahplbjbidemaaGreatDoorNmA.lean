/- Plain facts about decimal numerals of at most nine digits; no program stands in this file. -/
import Derived.Lib.Atoi
import Derived.Lib.AtoiAll
import Derived.Lib.ItoaNum
namespace Go.Proofs.YtkahplbjbidemaaGreatDoor
namespace Nm
open Go.Lib

/-- The number that a string is in decimal, without leading zeros and with at most nine digits. -/
def num (l : List UInt8) : Option Nat :=
  if l.length < 1 ∨ 9 < l.length ∨ (l.head? = some 48 ∧ 1 < l.length) then none else decFrom 0 l

theorem decFrom_append : ∀ (a b : List UInt8) (acc : Nat), decFrom acc (a ++ b) = (decFrom acc a).bind fun x => decFrom x b
  | [], b, acc => rfl
  | c :: a, b, acc => by
    simp only [List.cons_append, decFrom]
    cases digitVal c with
    | none => rfl
    | some d => exact decFrom_append a b _
theorem digitVal_some {c : UInt8} {d : Nat} (h : digitVal c = some d) : d < 10 ∧ c.toNat = 48 + d := by
  unfold digitVal at h
  split at h
  · injection h with h
    omega
  · cases h
theorem digitVal_of {d : Nat} (h : d < 10) : digitVal (UInt8.ofNat (48 + d)) = some d := by
  have e : (UInt8.ofNat (48 + d)).toNat = 48 + d := by rw [UInt8.toNat_ofNat']; omega
  unfold digitVal
  rw [e, if_pos (by omega)]
  congr 1
  omega
theorem digit_eq {c : UInt8} {d : Nat} (h : digitVal c = some d) : c = UInt8.ofNat (48 + d) := by
  obtain ⟨h1, h2⟩ := digitVal_some h
  apply UInt8.toNat.inj
  rw [h2, UInt8.toNat_ofNat']
  omega
theorem decFrom_lt : ∀ (l : List UInt8) (acc n : Nat), decFrom acc l = some n → n < (acc + 1) * 10 ^ l.length
  | [], acc, n, h => by
    simp only [decFrom, Option.some.injEq] at h
    simp
    omega
  | c :: r, acc, n, h => by
    simp only [decFrom] at h
    cases hd : digitVal c with
    | none => simp [hd] at h
    | some d =>
      rw [hd] at h
      have h1 := decFrom_lt r _ n h
      have h2 := (digitVal_some hd).1
      have h3 : (acc * 10 + d + 1) * 10 ^ r.length ≤ (acc + 1) * 10 * 10 ^ r.length := Nat.mul_le_mul_right _ (by omega)
      rw [List.length_cons, Nat.pow_succ, Nat.mul_comm (10 ^ r.length) 10, ← Nat.mul_assoc]
      omega
theorem decFrom_ge : ∀ (l : List UInt8) (acc n : Nat), decFrom acc l = some n → acc ≤ n
  | [], acc, n, h => by
    simp only [decFrom, Option.some.injEq] at h
    omega
  | c :: r, acc, n, h => by
    simp only [decFrom] at h
    cases hd : digitVal c with
    | none => simp [hd] at h
    | some d =>
      rw [hd] at h
      have h1 := decFrom_ge r _ n h
      omega
theorem num_lt {l : List UInt8} {n : Nat} (h : num l = some n) : n < 1000000000 ∧ l.length ≤ 9 := by
  unfold num at h
  split at h
  · cases h
  · rename_i hc
    have h1 := decFrom_lt l 0 n h
    have h2 : 10 ^ l.length ≤ 10 ^ 9 := Nat.pow_le_pow_right (by omega) (by omega)
    exact ⟨by omega, by omega⟩
theorem decFrom_digits : ∀ (n : Nat), decFrom 0 (decDigits n) = some n := by
  intro n
  induction n using Nat.strongRecOn with
  | _ n ih =>
    rw [decDigits]
    split
    · rename_i h
      simp only [decFrom, digitVal_of h]
      rw [Nat.zero_mul, Nat.zero_add]
    · rename_i h
      rw [decFrom_append, ih (n / 10) (by omega)]
      simp only [Option.bind_some, decFrom, digitVal_of (show n % 10 < 10 by omega)]
      congr 1
      omega
theorem digits_ne (n : Nat) : decDigits n ≠ [] := by
  rw [decDigits]
  split <;> simp
theorem digits_head : ∀ (n : Nat), 1 ≤ n → (decDigits n).head? ≠ some 48 := by
  intro n
  induction n using Nat.strongRecOn with
  | _ n ih =>
    intro h1
    rw [decDigits]
    split
    · rename_i h
      simp only [List.head?_cons]
      intro h0
      injection h0 with h0
      have := congrArg UInt8.toNat h0
      rw [UInt8.toNat_ofNat'] at this
      have e : (48 : UInt8).toNat = 48 := rfl
      omega
    · rename_i h
      have hi := ih (n / 10) (by omega) (by omega)
      have hn := digits_ne (n / 10)
      cases hd : decDigits (n / 10) with
      | nil => exact absurd hd hn
      | cons a t =>
        rw [hd] at hi
        simpa using hi
/-- (1) A printed number is read. -/
theorem num_digits (n : Nat) (h : (decDigits n).length ≤ 9) : num (decDigits n) = some n := by
  unfold num
  have h0 := List.length_pos_iff.2 (digits_ne n)
  rw [if_neg, decFrom_digits]
  rintro (h1 | h1 | h1)
  · omega
  · omega
  · by_cases hn : 1 ≤ n
    · exact digits_head n hn h1.1
    · have : n = 0 := by omega
      subst this
      have h2 := h1.2
      rw [decDigits, dif_pos (by omega)] at h2
      simp at h2
theorem digits_of : ∀ (k : Nat) (l : List UInt8) (n : Nat), l.length = k → l ≠ [] → (l.head? = some 48 → l.length ≤ 1) → decFrom 0 l = some n → decDigits n = l
  | 0, l, n, hk, hne, _, _ => absurd (List.eq_nil_of_length_eq_zero hk) hne
  | k + 1, l, n, hk, hne, hz, h => by
    obtain ⟨r, b, rfl⟩ : ∃ r b, l = r ++ [b] := ⟨l.dropLast, l.getLast hne, (List.dropLast_concat_getLast hne).symm⟩
    rw [decFrom_append] at h
    cases hr : decFrom 0 r with
    | none => rw [hr] at h; cases h
    | some m =>
      rw [hr] at h
      simp only [Option.bind_some, decFrom] at h
      cases hd : digitVal b with
      | none => rw [hd] at h; cases h
      | some d =>
        rw [hd] at h
        injection h with h
        have hb := digitVal_some hd
        by_cases hrn : r = []
        · subst hrn
          simp only [decFrom, Option.some.injEq] at hr
          have hn : n = d := by omega
          rw [decDigits, dif_pos (by omega), hn, digit_eq hd]
          rfl
        · have hr48 : r.head? = some 48 → False := by
            intro h48
            have hh : (r ++ [b]).head? = some 48 := by
              cases r with
              | nil => exact absurd rfl hrn
              | cons a t => simpa using h48
            have h5 := hz hh
            rw [List.length_append] at h5
            have h6 : 0 < r.length := List.length_pos_iff.2 hrn
            simp only [List.length_cons, List.length_nil] at h5
            omega
          have hi := digits_of k r m (by rw [List.length_append] at hk; simp at hk; omega) hrn (fun h48 => (hr48 h48).elim) hr
          have hm : 1 ≤ m := by
            rcases Nat.lt_or_ge m 1 with h0 | h0
            · have hm0 : m = 0 := by omega
              subst hm0
              exfalso
              apply hr48
              rw [← hi, decDigits, dif_pos (by omega)]
              rfl
            · exact h0
          rw [decDigits, dif_neg (by omega), show n / 10 = m by omega, show n % 10 = d by omega, hi, digit_eq hd]
/-- (2) What is read is a printed number. -/
theorem digits_num {l : List UInt8} {n : Nat} (h : num l = some n) : decDigits n = l := by
  unfold num at h
  split at h
  · cases h
  · rename_i hc
    refine digits_of l.length l n rfl (fun h0 => ?_) (fun h0 => ?_) h
    · subst h0
      simp at hc
    · rcases Nat.lt_or_ge 1 l.length with h1 | h1
      · exact absurd (.inr (.inr ⟨h0, h1⟩)) hc
      · exact h1
theorem parse_of : ∀ (l : List UInt8) (acc n : Nat), decFrom acc l = some n → n < 1000000000 → parseUint10 acc l = .ok n
  | [], acc, n, h, _ => by
    simp only [decFrom, Option.some.injEq] at h
    rw [h]; rfl
  | c :: r, acc, n, h, hn => by
    simp only [decFrom] at h
    cases hd : digitVal c with
    | none => simp [hd] at h
    | some d =>
      rw [hd] at h
      have h1 := decFrom_ge r _ n h
      have h2 := digitVal_some hd
      simp only [parseUint10]
      rw [if_pos (by omega), if_neg (by omega), show c.toNat - 48 = d by omega, if_neg (by omega)]
      exact parse_of r _ n h hn
theorem atoi_num {l : List UInt8} {n : Nat} (h : num l = some n) : atoiAll l = .ok (n : Int) := by
  have hb := num_lt h
  unfold num at h
  split at h
  · cases h
  · rename_i hc
    cases l with
    | nil => simp at hc
    | cons c r =>
      have hp := parse_of (c :: r) 0 n h hb.1
      have hcd : ∃ d, digitVal c = some d := by
        simp only [decFrom] at h
        cases hd : digitVal c with
        | none => simp [hd] at h
        | some d => exact ⟨d, rfl⟩
      obtain ⟨d, hd⟩ := hcd
      have hd2 := digitVal_some hd
      unfold atoiAll
      simp only
      rw [if_neg (by omega)]
      unfold parseMag
      rw [if_neg (by simp), hp]
      simp only
      rw [if_neg (by omega), if_neg (by omega), if_neg (by omega)]
/-- What illmsg.number tests, of what strconv.Atoi hands back. -/
theorem num_of_atoi {l : List UInt8} {v : Int} (hv : 0 ≤ v) (hl : l.length ≤ 9) (h : itoa v = l) : num l = some v.toNat := by
  unfold itoa at h
  rw [if_neg (by omega)] at h
  rw [← h]
  exact num_digits _ (by rw [h]; exact hl)
theorem itoa_num {l : List UInt8} {n : Nat} (h : num l = some n) : itoa (n : Int) = l := by
  unfold itoa
  rw [if_neg (by omega), Int.toNat_natCast]
  exact digits_num h
theorem itoa_nat (n : Nat) : itoa (n : Int) = decDigits n := by
  unfold itoa
  rw [if_neg (by omega), Int.toNat_natCast]
theorem digits_len : ∀ (k n : Nat), n < 10 ^ (k + 1) → (decDigits n).length ≤ k + 1
  | 0, n, h => by
    rw [decDigits, dif_pos (by omega)]
    simp
  | k + 1, n, h => by
    by_cases hs : n < 10
    · rw [decDigits, dif_pos hs]
      simp
    · rw [decDigits, dif_neg hs, List.length_append]
      rw [Nat.pow_succ] at h
      have := digits_len k (n / 10) (by omega)
      simp
      omega
theorem digits_len9 {n : Nat} (h : n < 1000000000) : (decDigits n).length ≤ 9 := digits_len 8 n h
theorem itoa_len {n : Int} (h0 : 0 ≤ n) (h1 : n < 10000000000000) : (itoa n).length ≤ 13 := by
  unfold itoa
  rw [if_neg (by omega)]
  exact digits_len 12 _ (by omega)
/-- The digit of a number below ten. -/
def dig (n : Nat) : UInt8 := UInt8.ofNat (48 + n)
theorem dig_toNat {n : Nat} (h : n < 10) : (dig n).toNat = 48 + n := by unfold dig; rw [UInt8.toNat_ofNat']; omega
theorem digits_small {n : Nat} (h : n < 10) : decDigits n = [dig n] := by rw [decDigits, dif_pos h]; rfl
theorem digits_big {n : Nat} (h : ¬ n < 10) : decDigits n = decDigits (n / 10) ++ [dig (n % 10)] := by rw [decDigits, dif_neg h]; rfl
end Nm
end Go.Proofs.YtkahplbjbidemaaGreatDoor
