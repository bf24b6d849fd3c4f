/- Plain facts about decimal numerals of at most nine digits; no program stands in this file. -/
import Derived.Lib.Atoi
import Derived.Lib.AtoiAll
import Derived.Lib.ItoaNum
import Derived.Test.YtogpghpgnpoioaaGreatDoorKa
import Derived.Lib.RuneCount
import Derived.Lib.SlicesCompact
namespace Go.Proofs.YtogpghpgnpoioaaGreatDoor
namespace Nm
open Go.Lib

/-- The number that a string is in decimal, without leading zeros and with at most nine digits. -/
def num (l : List UInt8) : Option Nat :=
  if l.length < 1 ∨ 9 < l.length ∨ (l.head? = some 48 ∧ 1 < l.length) then none else decFrom 0 l

theorem decFrom_append : ∀ (a b : List UInt8) (acc : Nat), decFrom acc (a ++ b) = (decFrom acc a).bind fun x => decFrom x b
  | [], b, acc => rfl
  | c :: a, b, acc => by
    simp only [List.cons_append, decFrom]
    cases digitVal c with
    | none => rfl
    | some d => exact decFrom_append a b _
theorem digitVal_some {c : UInt8} {d : Nat} (h : digitVal c = some d) : d < 10 ∧ c.toNat = 48 + d := by
  unfold digitVal at h
  split at h
  · injection h with h
    omega
  · cases h
theorem digitVal_of {d : Nat} (h : d < 10) : digitVal (UInt8.ofNat (48 + d)) = some d := by
  have e : (UInt8.ofNat (48 + d)).toNat = 48 + d := by rw [UInt8.toNat_ofNat']; omega
  unfold digitVal
  rw [e, if_pos (by omega)]
  congr 1
  omega
theorem digit_eq {c : UInt8} {d : Nat} (h : digitVal c = some d) : c = UInt8.ofNat (48 + d) := by
  obtain ⟨h1, h2⟩ := digitVal_some h
  apply UInt8.toNat.inj
  rw [h2, UInt8.toNat_ofNat']
  omega
theorem decFrom_lt : ∀ (l : List UInt8) (acc n : Nat), decFrom acc l = some n → n < (acc + 1) * 10 ^ l.length
  | [], acc, n, h => by
    simp only [decFrom, Option.some.injEq] at h
    simp
    omega
  | c :: r, acc, n, h => by
    simp only [decFrom] at h
    cases hd : digitVal c with
    | none => simp [hd] at h
    | some d =>
      rw [hd] at h
      have h1 := decFrom_lt r _ n h
      have h2 := (digitVal_some hd).1
      have h3 : (acc * 10 + d + 1) * 10 ^ r.length ≤ (acc + 1) * 10 * 10 ^ r.length := Nat.mul_le_mul_right _ (by omega)
      rw [List.length_cons, Nat.pow_succ, Nat.mul_comm (10 ^ r.length) 10, ← Nat.mul_assoc]
      omega
theorem decFrom_ge : ∀ (l : List UInt8) (acc n : Nat), decFrom acc l = some n → acc ≤ n
  | [], acc, n, h => by
    simp only [decFrom, Option.some.injEq] at h
    omega
  | c :: r, acc, n, h => by
    simp only [decFrom] at h
    cases hd : digitVal c with
    | none => simp [hd] at h
    | some d =>
      rw [hd] at h
      have h1 := decFrom_ge r _ n h
      omega
theorem num_lt {l : List UInt8} {n : Nat} (h : num l = some n) : n < 1000000000 ∧ l.length ≤ 9 := by
  unfold num at h
  split at h
  · cases h
  · rename_i hc
    have h1 := decFrom_lt l 0 n h
    have h2 : 10 ^ l.length ≤ 10 ^ 9 := Nat.pow_le_pow_right (by omega) (by omega)
    exact ⟨by omega, by omega⟩
theorem decFrom_digits : ∀ (n : Nat), decFrom 0 (decDigits n) = some n := by
  intro n
  induction n using Nat.strongRecOn with
  | _ n ih =>
    rw [decDigits]
    split
    · rename_i h
      simp only [decFrom, digitVal_of h]
      rw [Nat.zero_mul, Nat.zero_add]
    · rename_i h
      rw [decFrom_append, ih (n / 10) (by omega)]
      simp only [Option.bind_some, decFrom, digitVal_of (show n % 10 < 10 by omega)]
      congr 1
      omega
theorem digits_ne (n : Nat) : decDigits n ≠ [] := by
  rw [decDigits]
  split <;> simp
theorem digits_head : ∀ (n : Nat), 1 ≤ n → (decDigits n).head? ≠ some 48 := by
  intro n
  induction n using Nat.strongRecOn with
  | _ n ih =>
    intro h1
    rw [decDigits]
    split
    · rename_i h
      simp only [List.head?_cons]
      intro h0
      injection h0 with h0
      have := congrArg UInt8.toNat h0
      rw [UInt8.toNat_ofNat'] at this
      have e : (48 : UInt8).toNat = 48 := rfl
      omega
    · rename_i h
      have hi := ih (n / 10) (by omega) (by omega)
      have hn := digits_ne (n / 10)
      cases hd : decDigits (n / 10) with
      | nil => exact absurd hd hn
      | cons a t =>
        rw [hd] at hi
        simpa using hi
/-- (1) A printed number is read. -/
theorem num_digits (n : Nat) (h : (decDigits n).length ≤ 9) : num (decDigits n) = some n := by
  unfold num
  have h0 := List.length_pos_iff.2 (digits_ne n)
  rw [if_neg, decFrom_digits]
  rintro (h1 | h1 | h1)
  · omega
  · omega
  · by_cases hn : 1 ≤ n
    · exact digits_head n hn h1.1
    · have : n = 0 := by omega
      subst this
      have h2 := h1.2
      rw [decDigits, dif_pos (by omega)] at h2
      simp at h2
theorem digits_of : ∀ (k : Nat) (l : List UInt8) (n : Nat), l.length = k → l ≠ [] → (l.head? = some 48 → l.length ≤ 1) → decFrom 0 l = some n → decDigits n = l
  | 0, l, n, hk, hne, _, _ => absurd (List.eq_nil_of_length_eq_zero hk) hne
  | k + 1, l, n, hk, hne, hz, h => by
    obtain ⟨r, b, rfl⟩ : ∃ r b, l = r ++ [b] := ⟨l.dropLast, l.getLast hne, (List.dropLast_concat_getLast hne).symm⟩
    rw [decFrom_append] at h
    cases hr : decFrom 0 r with
    | none => rw [hr] at h; cases h
    | some m =>
      rw [hr] at h
      simp only [Option.bind_some, decFrom] at h
      cases hd : digitVal b with
      | none => rw [hd] at h; cases h
      | some d =>
        rw [hd] at h
        injection h with h
        have hb := digitVal_some hd
        by_cases hrn : r = []
        · subst hrn
          simp only [decFrom, Option.some.injEq] at hr
          have hn : n = d := by omega
          rw [decDigits, dif_pos (by omega), hn, digit_eq hd]
          rfl
        · have hr48 : r.head? = some 48 → False := by
            intro h48
            have hh : (r ++ [b]).head? = some 48 := by
              cases r with
              | nil => exact absurd rfl hrn
              | cons a t => simpa using h48
            have h5 := hz hh
            rw [List.length_append] at h5
            have h6 : 0 < r.length := List.length_pos_iff.2 hrn
            simp only [List.length_cons, List.length_nil] at h5
            omega
          have hi := digits_of k r m (by rw [List.length_append] at hk; simp at hk; omega) hrn (fun h48 => (hr48 h48).elim) hr
          have hm : 1 ≤ m := by
            rcases Nat.lt_or_ge m 1 with h0 | h0
            · have hm0 : m = 0 := by omega
              subst hm0
              exfalso
              apply hr48
              rw [← hi, decDigits, dif_pos (by omega)]
              rfl
            · exact h0
          rw [decDigits, dif_neg (by omega), show n / 10 = m by omega, show n % 10 = d by omega, hi, digit_eq hd]
/-- (2) What is read is a printed number. -/
theorem digits_num {l : List UInt8} {n : Nat} (h : num l = some n) : decDigits n = l := by
  unfold num at h
  split at h
  · cases h
  · rename_i hc
    refine digits_of l.length l n rfl (fun h0 => ?_) (fun h0 => ?_) h
    · subst h0
      simp at hc
    · rcases Nat.lt_or_ge 1 l.length with h1 | h1
      · exact absurd (.inr (.inr ⟨h0, h1⟩)) hc
      · exact h1
theorem parse_of : ∀ (l : List UInt8) (acc n : Nat), decFrom acc l = some n → n < 1000000000 → parseUint10 acc l = .ok n
  | [], acc, n, h, _ => by
    simp only [decFrom, Option.some.injEq] at h
    rw [h]; rfl
  | c :: r, acc, n, h, hn => by
    simp only [decFrom] at h
    cases hd : digitVal c with
    | none => simp [hd] at h
    | some d =>
      rw [hd] at h
      have h1 := decFrom_ge r _ n h
      have h2 := digitVal_some hd
      simp only [parseUint10]
      rw [if_pos (by omega), if_neg (by omega), show c.toNat - 48 = d by omega, if_neg (by omega)]
      exact parse_of r _ n h hn
theorem atoi_num {l : List UInt8} {n : Nat} (h : num l = some n) : atoiAll l = .ok (n : Int) := by
  have hb := num_lt h
  unfold num at h
  split at h
  · cases h
  · rename_i hc
    cases l with
    | nil => simp at hc
    | cons c r =>
      have hp := parse_of (c :: r) 0 n h hb.1
      have hcd : ∃ d, digitVal c = some d := by
        simp only [decFrom] at h
        cases hd : digitVal c with
        | none => simp [hd] at h
        | some d => exact ⟨d, rfl⟩
      obtain ⟨d, hd⟩ := hcd
      have hd2 := digitVal_some hd
      unfold atoiAll
      simp only
      rw [if_neg (by omega)]
      unfold parseMag
      rw [if_neg (by simp), hp]
      simp only
      rw [if_neg (by omega), if_neg (by omega), if_neg (by omega)]
/-- What illmsg.number tests, of what strconv.Atoi hands back. -/
theorem num_of_atoi {l : List UInt8} {v : Int} (hv : 0 ≤ v) (hl : l.length ≤ 9) (h : itoa v = l) : num l = some v.toNat := by
  unfold itoa at h
  rw [if_neg (by omega)] at h
  rw [← h]
  exact num_digits _ (by rw [h]; exact hl)
theorem itoa_num {l : List UInt8} {n : Nat} (h : num l = some n) : itoa (n : Int) = l := by
  unfold itoa
  rw [if_neg (by omega), Int.toNat_natCast]
  exact digits_num h
theorem itoa_nat (n : Nat) : itoa (n : Int) = decDigits n := by
  unfold itoa
  rw [if_neg (by omega), Int.toNat_natCast]
theorem digits_len : ∀ (k n : Nat), n < 10 ^ (k + 1) → (decDigits n).length ≤ k + 1
  | 0, n, h => by
    rw [decDigits, dif_pos (by omega)]
    simp
  | k + 1, n, h => by
    by_cases hs : n < 10
    · rw [decDigits, dif_pos hs]
      simp
    · rw [decDigits, dif_neg hs, List.length_append]
      rw [Nat.pow_succ] at h
      have := digits_len k (n / 10) (by omega)
      simp
      omega
theorem digits_len9 {n : Nat} (h : n < 1000000000) : (decDigits n).length ≤ 9 := digits_len 8 n h
theorem itoa_len {n : Int} (h0 : 0 ≤ n) (h1 : n < 10000000000000) : (itoa n).length ≤ 13 := by
  unfold itoa
  rw [if_neg (by omega)]
  exact digits_len 12 _ (by omega)
/-- The digit of a number below ten. -/
def dig (n : Nat) : UInt8 := UInt8.ofNat (48 + n)
theorem dig_toNat {n : Nat} (h : n < 10) : (dig n).toNat = 48 + n := by unfold dig; rw [UInt8.toNat_ofNat']; omega
theorem digits_small {n : Nat} (h : n < 10) : decDigits n = [dig n] := by rw [decDigits, dif_pos h]; rfl
theorem digits_big {n : Nat} (h : ¬ n < 10) : decDigits n = decDigits (n / 10) ++ [dig (n % 10)] := by rw [decDigits, dif_neg h]; rfl
end Nm
end Go.Proofs.YtogpghpgnpoioaaGreatDoor

/- Plain: fields and records as lists, and what the functions of the layers 7 and 8 compute of them; no program stands in this file. -/
namespace Go.Proofs.YtogpghpgnpoioaaGreatDoor
namespace Tx
theorem cleanFold_len' : ∀ (n : Nat) (l : List UInt8) (out : List UInt8) (gap : Bool), l.length ≤ n → (foldT cleanStep (out, gap) l).1.length ≤ out.length + 2 * l.length
  | 0, l, out, gap, h => by
    have : l = [] := List.eq_nil_of_length_eq_zero (by omega)
    subst this
    rw [foldT_nil]
    simp
  | n + 1, l, out, gap, h => by
    by_cases hne : l = []
    · subst hne
      rw [foldT_nil]
      simp
    · have hw := wid_pos l
      have hl := wid_le hne
      rw [foldT_step cleanStep _ hne]
      have ih := fun o g => cleanFold_len' n (l.drop (wid l)) o g (by rw [List.length_drop]; omega)
      have e : (cleanStep (out, gap) (l.take (wid l)) (rdec l).1).1.length ≤ out.length + 1 + wid l := by
        unfold cleanStep
        repeat' split
        all_goals simp only [List.length_append, List.length_take, List.length_cons, List.length_nil]
        all_goals omega
      have h2 := ih (cleanStep (out, gap) (l.take (wid l)) (rdec l).1).1 (cleanStep (out, gap) (l.take (wid l)) (rdec l).1).2
      rw [List.length_drop] at h2
      refine Nat.le_trans h2 ?_
      omega
theorem clean_len' (l : List UInt8) : (clean l).length ≤ 2 * l.length := by
  have := cleanFold_len' l.length l [] false (Nat.le_refl _)
  simpa [clean] using this
end Tx
namespace Rc
open Go.Lib
abbrev By := List UInt8

/-- A field. -/
structure Fl where
  tag : ByteArray
  ind : ByteArray
  subs : List (UInt8 × ByteArray)
  auth : Int
def hasCode (codes : By) (c : UInt8) : Bool := codes.isEmpty || codes.contains c
def allV (l : List (UInt8 × ByteArray)) (codes : By) : List ByteArray := (l.filter fun x => hasCode codes x.1).map (·.2)
def bys (l : List ByteArray) : List By := l.map (·.data.toList)
def plain (l : List (UInt8 × ByteArray)) (codes : By) : By := join (bys (allV l codes)) [32]
def get (l : List (UInt8 × ByteArray)) (c : UInt8) : Option ByteArray := (l.find? fun x => x.1 == c).map (·.2)
def tagIs (t : By) (f : Fl) : Bool := f.tag.data.toList == t
def first (fs : List Fl) (t : By) : Option Fl := fs.find? (tagIs t)
def title (fs : List Fl) : By := match first fs [50, 52, 53] with
  | none => []
  | some f => Tx.clean (plain f.subs [97, 98])
def authorT (fs : List Fl) (t : By) : Option ByteArray := (first fs t).bind fun f => get f.subs 97
def author (fs : List Fl) : By :=
  match authorT fs [49, 48, 48] with
  | some v => v.data.toList
  | none => match authorT fs [49, 49, 48] with
    | some v => v.data.toList
    | none => match authorT fs [55, 48, 48] with
      | some v => v.data.toList
      | none => []

/-- The first year in a text, as the reference looks for it: the number so far, and the number of digits. -/
def yr : Nat → Nat → By → Nat
  | n, d, [] => if d = 4 ∧ 1000 ≤ n ∧ n ≤ 2199 then n else 0
  | n, d, c :: r => if 48 ≤ c.toNat ∧ c.toNat ≤ 57 then yr (if d + 1 ≤ 4 then n * 10 + (c.toNat - 48) else n) (d + 1) r
    else if d = 4 ∧ 1000 ≤ n ∧ n ≤ 2199 then n else yr 0 0 r
def yearIn (s : By) : Nat := yr 0 0 s
def firstNZ : List Nat → Nat
  | [] => 0
  | n :: r => if n = 0 then firstNZ r else n
def pubTag (f : Fl) : Bool := tagIs [50, 54, 48] f || tagIs [50, 54, 52] f
def yearF (l : List ByteArray) : Nat := firstNZ (l.map fun x => yearIn x.data.toList)
def year (fs : List Fl) : Nat := firstNZ (fs.map fun f => if pubTag f then yearF (allV f.subs [99]) else 0)

/-- Of moderate size, and texts. -/
def Gd (f : Fl) : Prop := f.subs.length ≤ 1000 ∧ ∀ x ∈ f.subs, x.2.size ≤ 100000 ∧ Tx.valid x.2.data.toList = true

theorem lens_le : ∀ (l : List By) (M : Nat), (∀ x ∈ l, x.length ≤ M) → lens l ≤ l.length * M
  | [], M, _ => by simp [lens]
  | x :: r, M, h => by
    have h1 := h x (by simp)
    have h2 := lens_le r M (fun y hy => h y (by simp [hy]))
    have e : lens (x :: r) = x.length + lens r := by simp [lens]
    rw [e, List.length_cons, Nat.succ_mul]
    omega
theorem join_le (l : List By) (sep : By) (M : Nat) (h : ∀ x ∈ l, x.length ≤ M) : (join l sep).length ≤ l.length * (M + sep.length) := by
  cases l with
  | nil => simp [join_nil]
  | cons x r =>
    have h1 := h x (by simp)
    have h2 := lens_le r M (fun y hy => h y (by simp [hy]))
    rw [join_cons, List.length_append, joinTail_length, List.length_cons, Nat.succ_mul, Nat.mul_add, Nat.mul_comm sep.length]
    omega
theorem allV_mem {l : List (UInt8 × ByteArray)} {c : By} {x : ByteArray} (h : x ∈ allV l c) : ∃ y ∈ l, y.2 = x := by
  unfold allV at h
  rw [List.mem_map] at h
  obtain ⟨y, hy, rfl⟩ := h
  exact ⟨y, (List.mem_filter.1 hy).1, rfl⟩
theorem allV_len (l : List (UInt8 × ByteArray)) (c : By) : (allV l c).length ≤ l.length := by
  unfold allV
  rw [List.length_map]
  exact List.length_filter_le _ _
theorem Gd.all {f : Fl} (h : Gd f) (c : By) : (allV f.subs c).length ≤ 1000 ∧ ∀ x ∈ bys (allV f.subs c), x.length ≤ 100000 ∧ Tx.valid x = true := by
  refine ⟨Nat.le_trans (allV_len _ _) h.1, fun x hx => ?_⟩
  unfold bys at hx
  rw [List.mem_map] at hx
  obtain ⟨y, hy, rfl⟩ := hx
  obtain ⟨z, hz, rfl⟩ := allV_mem hy
  have := h.2 z hz
  rw [← size_eq]
  exact this
theorem Gd.join_le {f : Fl} (h : Gd f) (c sep : By) (hs : sep.length ≤ 10) : (join (bys (allV f.subs c)) sep).length ≤ 200000000 := by
  have h1 := h.all c
  have h2 := Rc.join_le (bys (allV f.subs c)) sep 100000 (fun x hx => (h1.2 x hx).1)
  have h3 : (bys (allV f.subs c)).length ≤ 1000 := by unfold bys; rw [List.length_map]; exact h1.1
  have h4 : (bys (allV f.subs c)).length * (100000 + sep.length) ≤ 1000 * (100000 + 10) := Nat.mul_le_mul h3 (by omega)
  omega
theorem Gd.plain_le {f : Fl} (h : Gd f) (c : By) : (plain f.subs c).length ≤ 200000000 := h.join_le c [32] (by simp)

/-! ### texts put together -/
theorem getD_app {a : By} (b : By) {j : Nat} (h : j < a.length) : (a ++ b).getD j 0 = a.getD j 0 := by
  rw [List.getD_eq_getElem?_getD, List.getD_eq_getElem?_getD, List.getElem?_append_left h]
theorem decodeN_more (n m b0 b1 b2 : Nat) (c1 c2 : Nat) (hn : n ≤ m) (h1 : 1 < n → c1 = b1) (h2 : 2 < n → c2 = b2) (hk : (Tx.rdecN n b0 b1 b2).2 ≠ 0) : Tx.rdecN m b0 c1 c2 = Tx.rdecN n b0 b1 b2 := by
  unfold Tx.rdecN at hk ⊢
  by_cases ha : 32 ≤ b0 ∧ b0 < 127
  · simp only [if_pos ha]
  · simp only [if_neg ha] at hk ⊢
    by_cases hb : 194 ≤ b0 ∧ b0 < 224 ∧ 1 < n ∧ 128 ≤ b1 ∧ b1 < 192
    · have e := h1 hb.2.2.1
      subst e
      rw [if_pos hb, if_pos ⟨hb.1, hb.2.1, by omega, hb.2.2.2.1, hb.2.2.2.2⟩]
    · rw [if_neg hb] at hk ⊢
      by_cases hc : 224 ≤ b0 ∧ b0 < 240 ∧ 2 < n ∧ 128 ≤ b1 ∧ b1 < 192 ∧ 128 ≤ b2 ∧ b2 < 192
      · have e := h1 (by omega)
        subst e
        have e2 := h2 hc.2.2.1
        subst e2
        rw [if_pos hc, if_neg (by omega), if_pos ⟨hc.1, hc.2.1, by omega, hc.2.2.2⟩]
      · rw [if_neg hc] at hk
        exact absurd rfl hk
theorem rdec_append {a : By} (b : By) (hne : a ≠ []) (h : (Tx.rdec a).2 ≠ 0) : Tx.rdec (a ++ b) = Tx.rdec a := by
  have hl : 0 < a.length := List.length_pos_iff.2 hne
  unfold Tx.rdec at h ⊢
  have e0 : (a ++ b).getD 0 0 = a.getD 0 0 := by rw [getD_app b hl]
  rw [e0]
  exact decodeN_more _ _ _ _ _ _ _ (by rw [List.length_append]; omega) (fun h1 => by rw [getD_app b h1]) (fun h1 => by rw [getD_app b h1]) h
theorem valid_append : ∀ (n : Nat) (a b : By), a.length ≤ n → Tx.valid a = true → Tx.valid (a ++ b) = Tx.valid b
  | 0, a, b, hn, _ => by
    have : a = [] := List.eq_nil_of_length_eq_zero (by omega)
    subst this
    rfl
  | n + 1, a, b, hn, hv => by
    by_cases hne : a = []
    · subst hne; rfl
    · obtain ⟨hz, _, hw, hv2, _⟩ := Tx.valid_head hne hv
      have hle := Tx.rdec_le hne
      rw [Tx.valid_step (by simp [hne]), rdec_append b hne hz, if_neg hz, List.drop_append_of_le_length hle]
      rw [hw] at hv2
      exact valid_append n _ b (by rw [List.length_drop]; omega) hv2
theorem valid_app {a b : By} (ha : Tx.valid a = true) (hb : Tx.valid b = true) : Tx.valid (a ++ b) = true := by rw [valid_append a.length a b (Nat.le_refl _) ha, hb]
theorem valid_joinTail : ∀ (l : List By) (sep : By), (∀ x ∈ l, Tx.valid x = true) → Tx.valid sep = true → Tx.valid (joinTail sep l) = true
  | [], sep, _, _ => rfl
  | x :: r, sep, h, hs => by
    have e : joinTail sep (x :: r) = (sep ++ x) ++ joinTail sep r := by simp [joinTail]
    rw [e]
    exact valid_app (valid_app hs (h x (by simp))) (valid_joinTail r sep (fun y hy => h y (by simp [hy])) hs)
theorem valid_join (l : List By) (sep : By) (h : ∀ x ∈ l, Tx.valid x = true) (hs : Tx.valid sep = true) : Tx.valid (join l sep) = true := by
  cases l with
  | nil => rfl
  | cons x r => rw [join_cons]; exact valid_app (h x (by simp)) (valid_joinTail r sep (fun y hy => h y (by simp [hy])) hs)
theorem Gd.plain_valid {f : Fl} (h : Gd f) (c : By) : Tx.valid (plain f.subs c) = true := valid_join _ _ (fun x hx => ((h.all c).2 x hx).2) (by decide)
theorem first_mem {fs : List Fl} {t : By} {f : Fl} (h : first fs t = some f) : f ∈ fs := List.mem_of_find?_eq_some h
theorem get_mem {l : List (UInt8 × ByteArray)} {c : UInt8} {v : ByteArray} (h : get l c = some v) : ∃ x ∈ l, x.2 = v := by
  unfold get at h
  rw [Option.map_eq_some_iff] at h
  obtain ⟨x, hx, rfl⟩ := h
  exact ⟨x, List.mem_of_find?_eq_some hx, rfl⟩

/-! ### the year: the program's way -/
theorem yr_le : ∀ (l : By) (n d : Nat), yr n d l ≤ 2199
  | [], n, d => by unfold yr; split <;> omega
  | c :: r, n, d => by
    unfold yr
    repeat' split
    all_goals first | exact yr_le r _ _ | omega
abbrev isD (c : UInt8) : Prop := 48 ≤ c.toNat ∧ c.toNat ≤ 57
theorem yr_digit (n d : Nat) (c : UInt8) (r : By) (h : isD c) : yr n d (c :: r) = yr (if d + 1 ≤ 4 then n * 10 + (c.toNat - 48) else n) (d + 1) r := by
  conv => lhs; unfold yr
  rw [if_pos h]
theorem yr_other (n d : Nat) (c : UInt8) (r : By) (h : ¬ isD c) : yr n d (c :: r) = if d = 4 ∧ 1000 ≤ n ∧ n ≤ 2199 then n else yr 0 0 r := by
  conv => lhs; unfold yr
  rw [if_neg h]
theorem yr_nil (n d : Nat) : yr n d [] = if d = 4 ∧ 1000 ≤ n ∧ n ≤ 2199 then n else 0 := by unfold yr; rfl
theorem yr_run : ∀ (p r : By) (n d : Nat), (∀ c ∈ p, isD c) → ∃ m, yr n d (p ++ r) = yr m (d + p.length) r
  | [], r, n, d, _ => ⟨n, rfl⟩
  | c :: p, r, n, d, h => by
    obtain ⟨m, hm⟩ := yr_run p r (if d + 1 ≤ 4 then n * 10 + (c.toNat - 48) else n) (d + 1) (fun x hx => h x (by simp [hx]))
    refine ⟨m, ?_⟩
    rw [List.cons_append, yr_digit _ _ _ _ (h c (by simp)), hm, List.length_cons, show d + 1 + p.length = d + (p.length + 1) by omega]
theorem yr_end (r : By) (n d : Nat) (h : ∀ c t, r = c :: t → ¬ isD c) : yr n d r = if d = 4 ∧ 1000 ≤ n ∧ n ≤ 2199 then n else yr 0 0 (r.drop 1) := by
  cases r with
  | nil => rw [yr_nil]; split <;> first | rfl | (rw [List.drop_nil, yr_nil, if_neg (by omega)])
  | cons c t => rw [yr_other _ _ _ _ (h c t rfl)]; rfl
theorem drop_cons (L : By) (i : Nat) (h : i < L.length) : L.drop i = L.getD i 0 :: L.drop (i + 1) := by
  rw [List.drop_eq_getElem_cons h, List.getD_eq_getElem?_getD, List.getElem?_eq_getElem h]
  rfl
theorem year_round (L : By) (i k : Nat) (hik : i ≤ k) (hk : k ≤ L.length) (hd : ∀ j, i ≤ j → j < k → isD (L.getD j 0)) (he : k < L.length → ¬ isD (L.getD k 0)) (v : Nat)
    (hv : k - i = 4 → v = ((L.getD i 0).toNat - 48) * 1000 + ((L.getD (i + 1) 0).toNat - 48) * 100 + ((L.getD (i + 2) 0).toNat - 48) * 10 + ((L.getD (i + 3) 0).toNat - 48)) :
    yr 0 0 (L.drop i) = if k - i = 4 ∧ 1000 ≤ v ∧ v ≤ 2199 then v else yr 0 0 (L.drop (k + 1)) := by
  have hend : ∀ c t, L.drop k = c :: t → ¬ isD c := by
    intro c t h
    have hlt : k < L.length := by
      rcases Nat.lt_or_ge k L.length with h1 | h1
      · exact h1
      · rw [List.drop_eq_nil_of_le h1] at h; cases h
    rw [drop_cons L k hlt] at h
    injection h with h1 _
    rw [← h1]
    exact he hlt
  by_cases h4 : k - i = 4
  · have e : L.drop i = L.getD i 0 :: L.getD (i + 1) 0 :: L.getD (i + 2) 0 :: L.getD (i + 3) 0 :: L.drop k := by
      rw [drop_cons L i (by omega), drop_cons L (i + 1) (by omega), drop_cons L (i + 2) (by omega), drop_cons L (i + 3) (by omega), show i + 3 + 1 = k by omega]
    have hv' := hv h4
    rw [e, yr_digit _ _ _ _ (hd i (by omega) (by omega)), yr_digit _ _ _ _ (hd (i + 1) (by omega) (by omega)), yr_digit _ _ _ _ (hd (i + 2) (by omega) (by omega)), yr_digit _ _ _ _ (hd (i + 3) (by omega) (by omega)), yr_end _ _ _ hend, List.drop_drop]
    simp only [Nat.reduceAdd, Nat.reduceLeDiff, if_true]
    have e2 : (((0 * 10 + ((L.getD i 0).toNat - 48)) * 10 + ((L.getD (i + 1) 0).toNat - 48)) * 10 + ((L.getD (i + 2) 0).toNat - 48)) * 10 + ((L.getD (i + 3) 0).toNat - 48) = v := by rw [hv']; omega
    rw [e2]
    simp [h4]
  · have e : L.drop i = (L.drop i).take (k - i) ++ L.drop k := by
      have := (List.take_append_drop (k - i) (L.drop i)).symm
      rw [List.drop_drop, show i + (k - i) = k by omega] at this
      exact this
    obtain ⟨m, hm⟩ := yr_run ((L.drop i).take (k - i)) (L.drop k) 0 0 (by
      intro c hc
      obtain ⟨j, hj, rfl⟩ := List.mem_iff_getElem.1 hc
      rw [List.length_take, List.length_drop] at hj
      have h1 := hd (i + j) (by omega) (by omega)
      rw [List.getElem_take, List.getElem_drop]
      rw [List.getD_eq_getElem?_getD, List.getElem?_eq_getElem (by omega)] at h1
      exact h1)
    rw [e, hm, List.length_take, List.length_drop, yr_end _ _ _ hend, List.drop_drop, if_neg (by omega), if_neg (by omega)]
end Rc
end Go.Proofs.YtogpghpgnpoioaaGreatDoor

/- Plain: characters counted, texts cut and wrapped; no program stands in this file. -/
namespace Go.Proofs.YtogpghpgnpoioaaGreatDoor
namespace Wr
open Go.Lib Rc

def runesF : Nat → By → Nat
  | 0, _ => 0
  | f + 1, l => if l = [] then 0 else 1 + runesF f (l.drop (Tx.wid l))
theorem runesF_nil (n : Nat) : runesF n [] = 0 := by cases n <;> simp [runesF]
theorem runesF_fuel : ∀ (n m : Nat) (l : By), l.length ≤ n → l.length ≤ m → runesF n l = runesF m l
  | 0, m, l, hn, _ => by
    have : l = [] := List.eq_nil_of_length_eq_zero (by omega)
    subst this
    rw [runesF_nil, runesF_nil]
  | n + 1, 0, l, _, hm => by
    have : l = [] := List.eq_nil_of_length_eq_zero (by omega)
    subst this
    rw [runesF_nil, runesF_nil]
  | n + 1, m + 1, l, hn, hm => by
    unfold runesF
    by_cases hne : l = []
    · simp [hne]
    · have hw := Tx.wid_pos l
      rw [if_neg hne, if_neg hne, runesF_fuel n m _ (by rw [List.length_drop]; omega) (by rw [List.length_drop]; omega)]
/-- The number of characters. -/
def runes (l : By) : Nat := runesF l.length l
theorem runes_nil : runes [] = 0 := rfl
theorem runes_step {l : By} (hne : l ≠ []) : runes l = 1 + runes (l.drop (Tx.wid l)) := by
  have hl : 0 < l.length := List.length_pos_iff.2 hne
  have hw := Tx.wid_pos l
  unfold runes
  obtain ⟨n, hn⟩ : ∃ n, l.length = n + 1 := ⟨l.length - 1, by omega⟩
  rw [hn]
  show (if l = [] then 0 else _) = _
  rw [if_neg hne, runesF_fuel n _ _ (by rw [List.length_drop]; omega) (Nat.le_refl _)]
theorem runes_le : ∀ (n : Nat) (l : By), l.length ≤ n → runes l ≤ l.length
  | 0, l, h => by
    have : l = [] := List.eq_nil_of_length_eq_zero (by omega)
    subst this
    simp [runes_nil]
  | n + 1, l, h => by
    by_cases hne : l = []
    · subst hne; simp [runes_nil]
    · have hw := Tx.wid_pos l
      have hl := Tx.wid_le hne
      rw [runes_step hne]
      have := runes_le n (l.drop (Tx.wid l)) (by rw [List.length_drop]; omega)
      rw [List.length_drop] at this
      omega
theorem runes_pos {l : By} (h : l ≠ []) : 1 ≤ runes l := by rw [runes_step h]; omega

theorem wid_of {a b : By} (h : Tx.rdec a = Tx.rdec b) : Tx.wid a = Tx.wid b := by unfold Tx.wid; rw [h]
/-- The first characters. -/
def clip : Nat → By → By
  | 0, _ => []
  | n + 1, l => if l = [] then [] else l.take (Tx.wid l) ++ clip n (l.drop (Tx.wid l))
theorem clip_nil (n : Nat) : clip n [] = [] := by cases n <;> simp [clip]
theorem clip_cat : ∀ (n : Nat) (l : By), clip n l ++ l.drop (clip n l).length = l
  | 0, l => by simp [clip]
  | n + 1, l => by
    unfold clip
    by_cases hne : l = []
    · simp [hne]
    · rw [if_neg hne]
      have hl := Tx.wid_le hne
      rw [List.length_append, List.length_take, Nat.min_eq_left hl, ← List.drop_drop, List.append_assoc, clip_cat n, List.take_append_drop]
theorem clip_len (n : Nat) (l : By) : (clip n l).length ≤ l.length := by
  have h := congrArg List.length (clip_cat n l)
  rw [List.length_append] at h
  omega
theorem take_pre {a b l : By} (h : a ++ b = l) : a = l.take a.length := by subst h; simp
theorem clip_take (n : Nat) (l : By) : clip n l = l.take (clip n l).length := take_pre (clip_cat n l)
theorem clip_whole : ∀ (n : Nat) (l : By), runes l ≤ n → clip n l = l
  | 0, l, h => by
    by_cases hne : l = []
    · subst hne; rfl
    · have := runes_pos hne; omega
  | n + 1, l, h => by
    unfold clip
    by_cases hne : l = []
    · simp [hne]
    · rw [runes_step hne] at h
      rw [if_neg hne, clip_whole n _ (by omega), List.take_append_drop]
theorem clip_part : ∀ (n : Nat) (l : By), n < runes l → (clip n l).length < l.length
  | 0, l, h => by
    by_cases hne : l = []
    · subst hne; simp [runes_nil] at h
    · simp only [clip, List.length_nil]; exact List.length_pos_iff.2 hne
  | n + 1, l, h => by
    by_cases hne : l = []
    · subst hne; simp [runes_nil] at h
    · have hl := Tx.wid_le hne
      rw [runes_step hne] at h
      have := clip_part n (l.drop (Tx.wid l)) (by omega)
      unfold clip
      rw [List.length_drop] at this
      rw [if_neg hne, List.length_append, List.length_take, Nat.min_eq_left hl]
      omega
theorem clip_ne {n : Nat} {l : By} (hn : 1 ≤ n) (hne : l ≠ []) : clip n l ≠ [] := by
  obtain ⟨m, rfl⟩ : ∃ m, n = m + 1 := ⟨n - 1, by omega⟩
  unfold clip
  rw [if_neg hne]
  have hw := Tx.wid_pos l
  intro h
  have h1 := congrArg List.length h
  have hl : 0 < l.length := List.length_pos_iff.2 hne
  rw [List.length_append, List.length_take, List.length_nil] at h1
  omega
/-- The cut is between characters. -/
theorem clip_valid : ∀ (n : Nat) (l : By), Tx.valid l = true → Tx.valid (clip n l) = true ∧ Tx.valid (l.drop (clip n l).length) = true ∧ runes (clip n l) ≤ n
  | 0, l, h => ⟨rfl, by simpa [clip] using h, Nat.le_refl _⟩
  | n + 1, l, h => by
    unfold clip
    by_cases hne : l = []
    · subst hne; simp [Tx.valid_nil, runes_nil]
    · obtain ⟨hz, _, hw, hv2, _⟩ := Tx.valid_head hne h
      have hl := Tx.wid_le hne
      have hp := Tx.wid_pos l
      have hll : 0 < l.length := List.length_pos_iff.2 hne
      have ih := clip_valid n _ hv2
      rw [if_neg hne]
      have htne : l.take (Tx.wid l) ≠ [] := by
        intro h0
        have := congrArg List.length h0
        rw [List.length_take, List.length_nil] at this
        omega
      have hrd : Tx.rdec (l.take (Tx.wid l)) = Tx.rdec l := by
        have hk : (Tx.rdec l).2 ≠ 0 := hz
        rw [hw]
        have hd := Tx.rdec_width3 l
        unfold Tx.rdec at hk hd ⊢
        have g0 : ∀ j, j < (Tx.rdecN l.length (l.getD 0 0).toNat (l.getD 1 0).toNat (l.getD 2 0).toNat).2 → (l.take (Tx.rdecN l.length (l.getD 0 0).toNat (l.getD 1 0).toNat (l.getD 2 0).toNat).2).getD j 0 = l.getD j 0 := by
          intro j hj
          generalize (Tx.rdecN l.length (l.getD 0 0).toNat (l.getD 1 0).toNat (l.getD 2 0).toNat).2 = K at hj ⊢
          rw [List.getD_eq_getElem?_getD, List.getD_eq_getElem?_getD, List.getElem?_take, if_pos hj]
        rw [List.length_take, g0 0 (by omega)]
        have hle := Tx.rdec_le hne
        unfold Tx.rdec at hle
        rw [Nat.min_eq_left hle]
        generalize hB1 : (l.take (Tx.rdecN l.length (l.getD 0 0).toNat (l.getD 1 0).toNat (l.getD 2 0).toNat).2).getD 1 0 = B1
        generalize hB2 : (l.take (Tx.rdecN l.length (l.getD 0 0).toNat (l.getD 1 0).toNat (l.getD 2 0).toNat).2).getD 2 0 = B2
        have h1 : 1 < (Tx.rdecN l.length (l.getD 0 0).toNat (l.getD 1 0).toNat (l.getD 2 0).toNat).2 → B1 = l.getD 1 0 := fun h => by rw [← hB1]; exact g0 1 h
        have h2 : 2 < (Tx.rdecN l.length (l.getD 0 0).toNat (l.getD 1 0).toNat (l.getD 2 0).toNat).2 → B2 = l.getD 2 0 := fun h => by rw [← hB2]; exact g0 2 h
        clear hB1 hB2 g0
        generalize (l.getD 0 0).toNat = b0 at *
        by_cases ha : 32 ≤ b0 ∧ b0 < 127
        · unfold Tx.rdecN; simp only [if_pos ha]
        · by_cases hb : 194 ≤ b0 ∧ b0 < 224 ∧ 1 < l.length ∧ 128 ≤ (l.getD 1 0).toNat ∧ (l.getD 1 0).toNat < 192
          · have e : (Tx.rdecN l.length b0 (l.getD 1 0).toNat (l.getD 2 0).toNat).2 = 2 := by
              unfold Tx.rdecN at hk ⊢
              rw [if_neg ha, if_pos hb] at hk ⊢
              split at hk
              · rename_i h9; rw [if_pos h9]
              · exact absurd rfl hk
            rw [e] at h1 ⊢
            rw [h1 (by omega)]
            unfold Tx.rdecN
            rw [if_neg ha, if_neg ha, if_pos ⟨hb.1, hb.2.1, by omega, hb.2.2.2⟩, if_pos hb]
          · by_cases hc : 224 ≤ b0 ∧ b0 < 240 ∧ 2 < l.length ∧ 128 ≤ (l.getD 1 0).toNat ∧ (l.getD 1 0).toNat < 192 ∧ 128 ≤ (l.getD 2 0).toNat ∧ (l.getD 2 0).toNat < 192
            · have e : (Tx.rdecN l.length b0 (l.getD 1 0).toNat (l.getD 2 0).toNat).2 = 3 := by
                unfold Tx.rdecN at hk ⊢
                rw [if_neg ha, if_neg hb, if_pos hc] at hk ⊢
                split at hk
                · rename_i h9; rw [if_pos h9]
                · exact absurd rfl hk
              rw [e] at h1 h2 ⊢
              rw [h1 (by omega), h2 (by omega)]
              unfold Tx.rdecN
              rw [if_neg ha, if_neg ha, if_neg (by omega), if_pos ⟨hc.1, hc.2.1, by omega, hc.2.2.2⟩, if_neg hb, if_pos hc]
            · exfalso
              apply hk
              unfold Tx.rdecN
              rw [if_neg ha, if_neg hb, if_neg hc]
      have hvt : Tx.valid (l.take (Tx.wid l)) = true := by
        rw [Tx.valid_step htne, hrd, if_neg hz, List.drop_eq_nil_of_le (by rw [List.length_take]; omega)]
        exact Tx.valid_nil
      refine ⟨valid_app hvt ih.1, ?_, ?_⟩
      · rw [List.length_append, List.length_take, Nat.min_eq_left hl, ← List.drop_drop]
        exact ih.2.1
      · have hne2 : l.take (Tx.wid l) ++ clip n (l.drop (Tx.wid l)) ≠ [] := by simp [htne]
        rw [runes_step hne2]
        have hw2 : Tx.wid (l.take (Tx.wid l) ++ clip n (l.drop (Tx.wid l))) = Tx.wid l := wid_of (by rw [rdec_append _ htne (by rw [hrd]; exact hz), hrd])
        rw [hw2, List.drop_append_of_le_length (by rw [List.length_take]; omega), List.drop_eq_nil_of_le (by rw [List.length_take]; omega), List.nil_append]
        omega
theorem runes_append : ∀ (n : Nat) (a b : By), a.length ≤ n → Tx.valid a = true → runes (a ++ b) = runes a + runes b
  | 0, a, b, hn, _ => by
    have : a = [] := List.eq_nil_of_length_eq_zero (by omega)
    subst this
    simp [runes_nil]
  | n + 1, a, b, hn, hv => by
    by_cases hne : a = []
    · subst hne; simp [runes_nil]
    · obtain ⟨hz, _, hw, hv2, _⟩ := Tx.valid_head hne hv
      have hle := Tx.wid_le hne
      have hp := Tx.wid_pos a
      have hw2 : Tx.wid (a ++ b) = Tx.wid a := wid_of (rdec_append b hne hz)
      rw [runes_step (show a ++ b ≠ [] by simp [hne]), hw2, List.drop_append_of_le_length hle, runes_append n _ b (by rw [List.length_drop]; omega) hv2, runes_step hne]
      omega
theorem runes_app {a : By} (b : By) (hv : Tx.valid a = true) : runes (a ++ b) = runes a + runes b := runes_append a.length a b (Nat.le_refl _) hv

/-! ### words, divided -/
def piecesF (n : Nat) : Nat → By → List By
  | 0, _ => []
  | f + 1, w => if w = [] then [] else clip n w :: piecesF n f (w.drop (clip n w).length)
def pieces (n : Nat) (w : By) : List By := piecesF n w.length w
theorem piecesF_nil (n f : Nat) : piecesF n f [] = [] := by cases f <;> simp [piecesF]
theorem piecesF_fuel (n : Nat) (hn : 1 ≤ n) : ∀ (f g : Nat) (l : By), l.length ≤ f → l.length ≤ g → piecesF n f l = piecesF n g l
  | 0, g, l, hf, _ => by
    have : l = [] := List.eq_nil_of_length_eq_zero (by omega)
    subst this
    rw [piecesF_nil, piecesF_nil]
  | f + 1, 0, l, _, hg => by
    have : l = [] := List.eq_nil_of_length_eq_zero (by omega)
    subst this
    rw [piecesF_nil, piecesF_nil]
  | f + 1, g + 1, l, hf, hg => by
    unfold piecesF
    by_cases hne : l = []
    · simp [hne]
    · have hw := List.length_pos_iff.2 (clip_ne hn hne)
      rw [if_neg hne, if_neg hne, piecesF_fuel n hn f g _ (by rw [List.length_drop]; omega) (by rw [List.length_drop]; omega)]
theorem pieces_nil (n : Nat) : pieces n [] = [] := rfl
theorem pieces_step {n : Nat} (hn : 1 ≤ n) {w : By} (hne : w ≠ []) : pieces n w = clip n w :: pieces n (w.drop (clip n w).length) := by
  have hl : 0 < w.length := List.length_pos_iff.2 hne
  have hw := List.length_pos_iff.2 (clip_ne hn hne)
  unfold pieces
  obtain ⟨f, hf⟩ : ∃ f, w.length = f + 1 := ⟨w.length - 1, by omega⟩
  rw [hf]
  show (if w = [] then [] else _) = _
  rw [if_neg hne, piecesF_fuel n hn f _ _ (by rw [List.length_drop]; omega) (Nat.le_refl _)]
theorem pieces_one {n : Nat} (hn : 1 ≤ n) {w : By} (hne : w ≠ []) (h : runes w ≤ n) : pieces n w = [w] := by
  rw [pieces_step hn hne, clip_whole n w h, List.drop_length, pieces_nil]
theorem pieces_good {n : Nat} (hn : 1 ≤ n) : ∀ (f : Nat) (w : By), w.length ≤ f → Tx.valid w = true → ∀ p ∈ pieces n w, p ≠ [] ∧ Tx.valid p = true ∧ runes p ≤ n ∧ p.length ≤ w.length
  | 0, w, hf, _ => by
    have : w = [] := List.eq_nil_of_length_eq_zero (by omega)
    subst this
    intro p hp
    cases hp
  | f + 1, w, hf, hv => by
    intro p hp
    by_cases hne : w = []
    · subst hne; cases hp
    · rw [pieces_step hn hne] at hp
      have hc := clip_valid n w hv
      have hcn := clip_ne hn hne
      have hl := List.length_pos_iff.2 hcn
      rcases List.mem_cons.1 hp with h | h
      · subst h
        exact ⟨hcn, hc.1, hc.2.2, clip_len n w⟩
      · have := pieces_good hn f _ (by rw [List.length_drop]; omega) hc.2.1 p h
        rw [List.length_drop] at this
        exact ⟨this.1, this.2.1, this.2.2.1, by omega⟩
theorem pieces_flat {n : Nat} (hn : 1 ≤ n) : ∀ (f : Nat) (w : By), w.length ≤ f → (pieces n w).flatten = w
  | 0, w, hf => by
    have : w = [] := List.eq_nil_of_length_eq_zero (by omega)
    subst this
    rfl
  | f + 1, w, hf => by
    by_cases hne : w = []
    · subst hne; rfl
    · have hl := List.length_pos_iff.2 (clip_ne hn hne)
      rw [pieces_step hn hne, List.flatten_cons, pieces_flat hn f _ (by rw [List.length_drop]; omega), clip_cat]
/-- The words of a text, divided, as the reference goes: the word so far. -/
def wordsR (n : Nat) : By → By → List By
  | w, [] => pieces n w
  | w, c :: r => if c = 32 then pieces n w ++ wordsR n [] r else wordsR n (w ++ [c]) r

/-- One piece more: the lines so far and the last line. -/
def wstep (n : Nat) (st : List By × By) (p : By) : List By × By :=
  if st.2 = [] then (st.1, p) else if runes st.2 + 1 + runes p ≤ n then (st.1, st.2 ++ [32] ++ p) else (st.1 ++ [st.2], p)
def wfin (st : List By × By) : List By := st.1 ++ (if st.2 = [] then [] else [st.2])
def wrap (n : Int) (s : By) : List By := if n < 1 then [] else wfin ((wordsR n.toNat [] s).foldl (wstep n.toNat) ([], []))
end Wr
end Go.Proofs.YtogpghpgnpoioaaGreatDoor

/- Plain: what the lines of a wrapped text are; the reference's way to wrap comes to the same; no program stands in this file. -/
namespace Go.Proofs.YtogpghpgnpoioaaGreatDoor
namespace Wr
open Go.Lib Rc

def nb (c : UInt8) : Bool := c != 32
def solid (l : By) : By := l.filter nb
theorem solid_app (a b : By) : solid (a ++ b) = solid a ++ solid b := List.filter_append ..
/-- A piece. -/
structure Pc (n : Nat) (p : By) : Prop where
  ne : p ≠ []
  v : Tx.valid p = true
  r : runes p ≤ n
  s : solid p = p
/-- A line. -/
structure Ln (n : Nat) (p : By) : Prop where
  ne : p ≠ []
  v : Tx.valid p = true
  r : runes p ≤ n
  h : p.head? ≠ some 32
  l : p.getLast? ≠ some 32
theorem solid_mem {p : By} (h : solid p = p) : ∀ c ∈ p, c ≠ 32 := by
  intro c hc
  rw [← h] at hc
  have := (List.mem_filter.1 hc).2
  unfold nb at this
  simpa using this
theorem Pc.line {n : Nat} {p : By} (h : Pc n p) : Ln n p := by
  refine ⟨h.ne, h.v, h.r, ?_, ?_⟩
  · intro h0
    exact solid_mem h.s 32 (List.mem_of_head? h0) rfl
  · intro h0
    exact solid_mem h.s 32 (List.mem_of_getLast? h0) rfl
theorem runes_join {a b : By} (ha : Tx.valid a = true) : runes (a ++ [32] ++ b) = runes a + 1 + runes b := by
  have h32 : Tx.valid [32] = true := by decide
  rw [runes_app b (valid_app ha h32), runes_app [32] ha]
  rfl
theorem Ln.join {n : Nat} {a b : By} (ha : Ln n a) (hb : Pc n b) (h : runes a + 1 + runes b ≤ n) : Ln n (a ++ [32] ++ b) := by
  have h32 : Tx.valid [32] = true := by decide
  refine ⟨by simp, valid_app (valid_app ha.v h32) hb.v, by rw [runes_join ha.v]; exact h, ?_, ?_⟩
  · have hne := ha.ne
    cases a with
    | nil => exact absurd rfl hne
    | cons x r => exact ha.h
  · rw [List.getLast?_append]
    have hne := hb.ne
    cases hl : b.getLast? with
    | none => exact absurd (List.getLast?_eq_none_iff.1 hl) hne
    | some x =>
      have h2 := hb.line.l
      rw [hl] at h2
      simpa using h2
theorem rd2 {n b0 b1 : Nat} (b2 : Nat) (ha : ¬ (32 ≤ b0 ∧ b0 < 127)) (h : 194 ≤ b0 ∧ b0 < 224 ∧ 1 < n ∧ 128 ≤ b1 ∧ b1 < 192) :
    Tx.rdecN n b0 b1 b2 = if 160 ≤ (b0 - 192) * 64 + b1 - 128 then ((b0 - 192) * 64 + b1 - 128, 2) else (0, 0) := by
  unfold Tx.rdecN
  rw [if_neg ha, if_pos h]
theorem rd3 {n b0 b1 b2 : Nat} (ha : ¬ (32 ≤ b0 ∧ b0 < 127)) (h : 224 ≤ b0 ∧ b0 < 240 ∧ 2 < n ∧ 128 ≤ b1 ∧ b1 < 192 ∧ 128 ≤ b2 ∧ b2 < 192) :
    Tx.rdecN n b0 b1 b2 = if 2048 ≤ (b0 - 224) * 4096 + (b1 - 128) * 64 + b2 - 128 ∧ ((b0 - 224) * 4096 + (b1 - 128) * 64 + b2 - 128 < 55296 ∨ 57343 < (b0 - 224) * 4096 + (b1 - 128) * 64 + b2 - 128)
     then ((b0 - 224) * 4096 + (b1 - 128) * 64 + b2 - 128, 3) else (0, 0) := by
  unfold Tx.rdecN
  rw [if_neg ha, if_neg (by omega), if_pos h]
theorem rdecN_cut (n m b0 b1 b2 c1 c2 : Nat) (hn : 1 ≤ n) (h1 : 1 < n → c1 = b1) (h2 : 2 < n → c2 = b2) (e1 : n = 1 → b1 = 32) (e2 : n = 2 → b2 = 32)
    (hk : (Tx.rdecN m b0 b1 b2).2 ≠ 0) : (Tx.rdecN m b0 b1 b2).2 ≤ n ∧ Tx.rdecN n b0 c1 c2 = Tx.rdecN m b0 b1 b2 := by
  by_cases ha : 32 ≤ b0 ∧ b0 < 127
  · unfold Tx.rdecN
    rw [if_pos ha, if_pos ha]
    exact ⟨hn, rfl⟩
  · by_cases hb : 194 ≤ b0 ∧ b0 < 224 ∧ 1 < m ∧ 128 ≤ b1 ∧ b1 < 192
    · have hn1 : 1 < n := by omega
      have e := h1 hn1
      subst e
      rw [rd2 b2 ha hb, rd2 c2 ha ⟨hb.1, hb.2.1, hn1, hb.2.2.2⟩]
      refine ⟨?_, rfl⟩
      split <;> (simp only; omega)
    · by_cases hc : 224 ≤ b0 ∧ b0 < 240 ∧ 2 < m ∧ 128 ≤ b1 ∧ b1 < 192 ∧ 128 ≤ b2 ∧ b2 < 192
      · have hn2 : 2 < n := by omega
        have e := h1 (by omega)
        subst e
        have e2 := h2 hn2
        subst e2
        rw [rd3 ha hc, rd3 ha ⟨hc.1, hc.2.1, hn2, hc.2.2.2⟩]
        refine ⟨?_, rfl⟩
        split <;> (simp only; omega)
      · exfalso
        apply hk
        unfold Tx.rdecN
        rw [if_neg ha, if_neg hb, if_neg hc]
theorem rdec_cut {w : By} (r : By) (hne : w ≠ []) (hk : (Tx.rdec (w ++ 32 :: r)).2 ≠ 0) : (Tx.rdec (w ++ 32 :: r)).2 ≤ w.length ∧ Tx.rdec w = Tx.rdec (w ++ 32 :: r) := by
  have hl : 0 < w.length := List.length_pos_iff.2 hne
  unfold Tx.rdec at hk ⊢
  have e0 : (w ++ 32 :: r).getD 0 0 = w.getD 0 0 := by rw [getD_app _ hl]
  have at32 : ∀ j, w.length = j → (w ++ 32 :: r).getD j 0 = 32 := by
    intro j hj
    rw [List.getD_eq_getElem?_getD, List.getElem?_append_right (by omega), ← hj]
    simp
  rw [e0] at hk ⊢
  exact rdecN_cut _ _ _ _ _ _ _ (by omega) (fun h => by rw [getD_app _ h]) (fun h => by rw [getD_app _ h]) (fun h => by rw [at32 1 h]; rfl) (fun h => by rw [at32 2 h]; rfl) hk
theorem valid_cut : ∀ (n : Nat) (w r : By), w.length ≤ n → Tx.valid (w ++ 32 :: r) = true → Tx.valid w = true ∧ Tx.valid r = true
  | 0, w, r, hn, hv => by
    have : w = [] := List.eq_nil_of_length_eq_zero (by omega)
    subst this
    refine ⟨rfl, ?_⟩
    rw [List.nil_append, Tx.valid_step (by simp)] at hv
    have e : Tx.rdec (32 :: r) = (32, 1) := by
      unfold Tx.rdec Tx.rdecN
      have : ((32 :: r).getD 0 0).toNat = 32 := rfl
      rw [this, if_pos (by omega)]
    rw [e, if_neg (by simp)] at hv
    exact hv
  | n + 1, w, r, hn, hv => by
    by_cases hne : w = []
    · subst hne
      exact valid_cut n [] r (by simp) hv
    · obtain ⟨hz, _, hw, hv2, _⟩ := Tx.valid_head (show w ++ 32 :: r ≠ [] by simp) hv
      obtain ⟨h1, h2⟩ := rdec_cut r hne hz
      rw [hw, List.drop_append_of_le_length h1] at hv2
      have ih := valid_cut n _ r (by rw [List.length_drop]; omega) hv2
      refine ⟨?_, ih.2⟩
      rw [Tx.valid_step hne, h2, if_neg hz]
      exact ih.1
theorem wordsR_good {n : Nat} (hn : 1 ≤ n) : ∀ (r w : By), Tx.valid (w ++ r) = true → solid w = w → (∀ p ∈ wordsR n w r, Pc n p) ∧ solid (wordsR n w r).flatten = solid (w ++ r)
  | [], w, hv, hs => by
    rw [List.append_nil] at hv ⊢
    have hg := pieces_good hn w.length w (Nat.le_refl _) hv
    have hf := pieces_flat hn w.length w (Nat.le_refl _)
    refine ⟨fun p hp => ?_, by rw [wordsR, hf]⟩
    rw [wordsR] at hp
    have h := hg p hp
    refine ⟨h.1, h.2.1, h.2.2.1, ?_⟩
    have hm := solid_mem hs
    unfold solid
    rw [List.filter_eq_self]
    intro c hc
    have : c ∈ w := by rw [← hf]; exact List.mem_flatten.2 ⟨p, hp, hc⟩
    have := hm c this
    unfold nb
    simpa using this
  | c :: r, w, hv, hs => by
    by_cases hc : c = 32
    · subst hc
      have hvw := valid_cut w.length w r (Nat.le_refl _) hv
      have ih := wordsR_good hn r [] (by simpa using hvw.2) rfl
      have h0 := wordsR_good hn [] w (by rw [List.append_nil]; exact hvw.1) hs
      rw [wordsR] at h0
      rw [wordsR, if_pos rfl]
      refine ⟨fun p hp => ?_, ?_⟩
      · rcases List.mem_append.1 hp with h | h
        · exact h0.1 p h
        · exact ih.1 p h
      · rw [List.flatten_append, solid_app, h0.2, ih.2, List.append_nil, List.nil_append, solid_app]
        congr 1
    · rw [wordsR, if_neg hc]
      have h1 := wordsR_good hn r (w ++ [c]) (by simpa using hv) (by rw [solid_app, hs]; congr 1; unfold solid nb; simp [hc])
      exact ⟨h1.1, by rw [h1.2]; simp⟩

/-- What has been laid so far. -/
structure St (n : Nat) (st : List By × By) : Prop where
  o : ∀ l ∈ st.1, Ln n l
  c : st.2 = [] ∨ Ln n st.2
theorem wstep_good {n : Nat} {st : List By × By} {p : By} (h : St n st) (hp : Pc n p) : St n (wstep n st p) ∧ solid ((wstep n st p).1.flatten ++ (wstep n st p).2) = solid (st.1.flatten ++ st.2) ++ p := by
  unfold wstep
  by_cases h0 : st.2 = []
  · rw [if_pos h0]
    refine ⟨⟨h.o, .inr hp.line⟩, ?_⟩
    simp only [h0, List.append_nil, solid_app, hp.s]
  · have hl : Ln n st.2 := h.c.resolve_left h0
    rw [if_neg h0]
    by_cases h1 : runes st.2 + 1 + runes p ≤ n
    · rw [if_pos h1]
      refine ⟨⟨h.o, .inr (hl.join hp h1)⟩, ?_⟩
      simp only [solid_app, hp.s, List.append_assoc]
      rfl
    · rw [if_neg h1]
      refine ⟨⟨fun l hl2 => ?_, .inr hp.line⟩, ?_⟩
      · rcases List.mem_append.1 hl2 with h2 | h2
        · exact h.o l h2
        · simp at h2; subst h2; exact hl
      · simp only [List.flatten_append, solid_app, hp.s]
        simp
theorem fold_good {n : Nat} : ∀ (ps : List By) (st : List By × By), St n st → (∀ p ∈ ps, Pc n p) → St n (ps.foldl (wstep n) st) ∧ solid ((ps.foldl (wstep n) st).1.flatten ++ (ps.foldl (wstep n) st).2) = solid (st.1.flatten ++ st.2) ++ solid ps.flatten
  | [], st, h, _ => ⟨h, by simp [solid]⟩
  | p :: ps, st, h, hp => by
    have h1 := wstep_good h (hp p (by simp))
    have h2 := fold_good ps (wstep n st p) h1.1 (fun q hq => hp q (by simp [hq]))
    rw [List.foldl_cons]
    refine ⟨h2.1, ?_⟩
    rw [h2.2, h1.2, List.flatten_cons, solid_app p, (hp p (by simp)).s, List.append_assoc]
/-- What the lines are. -/
theorem wrap_good {n : Int} (hn : ¬ n < 1) {s : By} (hv : Tx.valid s = true) : (∀ l ∈ wrap n s, Ln n.toNat l) ∧ solid (wrap n s).flatten = solid s := by
  have h1 := wordsR_good (show 1 ≤ n.toNat by omega) s [] (by simpa using hv) rfl
  have h2 := fold_good (wordsR n.toNat [] s) ([], []) ⟨fun l hl => (by cases hl), .inl rfl⟩ h1.1
  unfold wrap wfin
  rw [if_neg hn]
  constructor
  · intro l hl
    rcases List.mem_append.1 hl with h | h
    · exact h2.1.o l h
    · split at h
      · cases h
      · rename_i hc
        simp at h
        subst h
        exact h2.1.c.resolve_left hc
  · rw [List.flatten_append]
    have e : (if (List.foldl (wstep n.toNat) ([], []) (wordsR n.toNat [] s)).2 = [] then [] else [(List.foldl (wstep n.toNat) ([], []) (wordsR n.toNat [] s)).2]).flatten = (List.foldl (wstep n.toNat) ([], []) (wordsR n.toNat [] s)).2 := by
      split
      · rename_i h; rw [h]; rfl
      · simp
    rw [e, h2.2, h1.2]
    simp [solid]

/-! ### the reference's way -/
/-- One piece more, onto the list. -/
def rstep (n : Nat) (out : List By) (p : By) : List By := match out.getLast? with
  | none => [p]
  | some l => if runes (l ++ [32] ++ p) ≤ n then out.dropLast ++ [l ++ [32] ++ p] else out ++ [p]
theorem rstep_eq {n : Nat} {st : List By × By} {p : By} (h : St n st) (hp : Pc n p) (hs : st.2 = [] → st.1 = []) : rstep n (wfin st) p = wfin (wstep n st p) ∧ ((wstep n st p).2 = [] → (wstep n st p).1 = []) := by
  unfold wstep
  by_cases h0 : st.2 = []
  · rw [if_pos h0]
    have h1 := hs h0
    refine ⟨?_, fun h9 => absurd h9 hp.ne⟩
    unfold wfin
    simp [h0, h1, hp.ne, rstep]
  · have hl : Ln n st.2 := h.c.resolve_left h0
    rw [if_neg h0]
    have e : wfin st = st.1 ++ [st.2] := by unfold wfin; rw [if_neg h0]
    by_cases h1 : runes st.2 + 1 + runes p ≤ n
    · rw [if_pos h1]
      refine ⟨?_, fun h9 => by simp at h9⟩
      rw [e]
      unfold rstep wfin
      rw [List.getLast?_concat]
      simp only
      rw [if_pos (by rw [runes_join hl.v]; exact h1), List.dropLast_concat, if_neg (by simp)]
    · rw [if_neg h1]
      refine ⟨?_, fun h9 => absurd h9 hp.ne⟩
      rw [e]
      unfold rstep wfin
      rw [List.getLast?_concat]
      simp only
      rw [if_neg (by rw [runes_join hl.v]; exact h1), if_neg hp.ne]
theorem rfold_eq {n : Nat} : ∀ (ps : List By) (st : List By × By), St n st → (∀ p ∈ ps, Pc n p) → (st.2 = [] → st.1 = []) → ps.foldl (rstep n) (wfin st) = wfin (ps.foldl (wstep n) st)
  | [], st, _, _, _ => rfl
  | p :: ps, st, h, hp, hs => by
    have h1 := rstep_eq h (hp p (by simp)) hs
    have h2 := wstep_good h (hp p (by simp))
    rw [List.foldl_cons, List.foldl_cons, h1.1]
    exact rfold_eq ps _ h2.1 (fun q hq => hp q (by simp [hq])) h1.2
theorem wrap_ref {n : Int} (hn : ¬ n < 1) {s : By} (hv : Tx.valid s = true) : (wordsR n.toNat [] s).foldl (rstep n.toNat) [] = wrap n s := by
  have h1 := wordsR_good (show 1 ≤ n.toNat by omega) s [] (by simpa using hv) rfl
  unfold wrap
  rw [if_neg hn]
  exact rfold_eq (wordsR n.toNat [] s) ([], []) ⟨fun l hl => (by cases hl), .inl rfl⟩ h1.1 (fun _ => rfl)
end Wr
end Go.Proofs.YtogpghpgnpoioaaGreatDoor

/- Plain: ascending lists without repetition, and the lines of copies; no program stands in this file. -/
namespace Go.Proofs.YtogpghpgnpoioaaGreatDoor
namespace Cp
open Go.Lib Rc

/-! ### an order -/
structure Ord {α : Type} (lt : α → α → Bool) : Prop where
  irr : ∀ x, lt x x = false
  tr : ∀ {x y z}, lt x y = true → lt y z = true → lt x z = true
  tot : ∀ {x y}, lt x y = false → x ≠ y → lt y x = true
variable {α : Type} [DecidableEq α] {lt : α → α → Bool}
def Asc (lt : α → α → Bool) (l : List α) : Prop := l.Pairwise fun x y => lt x y = true
/-- A thing put into an ascending list, if it is not there yet. -/
def put (lt : α → α → Bool) : List α → α → List α
  | [], x => [x]
  | y :: r, x => if lt y x = true then y :: put lt r x else if y = x then y :: r else x :: y :: r
theorem put_mem (lt : α → α → Bool) : ∀ (l : List α) (x z : α), z ∈ put lt l x ↔ z = x ∨ z ∈ l
  | [], x, z => by simp [put]
  | y :: r, x, z => by
    unfold put
    split
    · rw [List.mem_cons, put_mem lt r x z, List.mem_cons]
      constructor
      · rintro (h | h | h)
        · exact .inr (.inl h)
        · exact .inl h
        · exact .inr (.inr h)
      · rintro (h | h | h)
        · exact .inr (.inl h)
        · exact .inl h
        · exact .inr (.inr h)
    · split
      · rename_i h
        subst h
        rw [List.mem_cons]
        constructor
        · exact fun h => .inr h
        · rintro (h | h)
          · exact .inl h
          · exact h
      · rw [List.mem_cons]
theorem put_asc (o : Ord lt) : ∀ (l : List α) (x : α), Asc lt l → Asc lt (put lt l x)
  | [], x, _ => by simp [put, Asc]
  | y :: r, x, h => by
    unfold Asc at h
    rw [List.pairwise_cons] at h
    unfold put Asc
    split
    · rename_i h1
      rw [List.pairwise_cons]
      refine ⟨fun z hz => ?_, put_asc o r x h.2⟩
      rcases (put_mem lt r x z).1 hz with h2 | h2
      · rw [h2]; exact h1
      · exact h.1 z h2
    · rename_i h1
      split
      · exact List.pairwise_cons.2 h
      · rename_i h2
        have h3 := o.tot (by simpa using h1) h2
        rw [List.pairwise_cons]
        refine ⟨fun z hz => ?_, List.pairwise_cons.2 h⟩
        rcases List.mem_cons.1 hz with h4 | h4
        · rw [h4]; exact h3
        · exact o.tr h3 (h.1 z h4)
theorem asc_unique (o : Ord lt) : ∀ (a b : List α), Asc lt a → Asc lt b → (∀ z, z ∈ a ↔ z ∈ b) → a = b
  | [], [], _, _, _ => rfl
  | [], y :: b, _, _, h => by have := (h y).2 (by simp); cases this
  | x :: a, [], _, _, h => by have := (h x).1 (by simp); cases this
  | x :: a, y :: b, ha, hb, h => by
    unfold Asc at ha hb
    rw [List.pairwise_cons] at ha hb
    have hxy : x = y := by
      by_cases e : x = y
      · exact e
      · have h1 : x ∈ b := by
          rcases List.mem_cons.1 ((h x).1 (by simp)) with h2 | h2
          · exact absurd h2 e
          · exact h2
        have h3 : y ∈ a := by
          rcases List.mem_cons.1 ((h y).2 (by simp)) with h2 | h2
          · exact absurd h2.symm e
          · exact h2
        have h4 := o.tr (ha.1 y h3) (hb.1 x h1)
        rw [o.irr] at h4
        cases h4
    subst hxy
    congr 1
    refine asc_unique o a b ha.2 hb.2 fun z => ?_
    constructor
    · intro hz
      rcases List.mem_cons.1 ((h z).1 (by simp [hz])) with h2 | h2
      · subst h2
        have := ha.1 z hz
        rw [o.irr] at this
        cases this
      · exact h2
    · intro hz
      rcases List.mem_cons.1 ((h z).2 (by simp [hz])) with h2 | h2
      · subst h2
        have := hb.1 z hz
        rw [o.irr] at this
        cases this
      · exact h2
/-- All of them put in, one after the other. -/
def puts (lt : α → α → Bool) (l : List α) : List α := l.foldl (put lt) []
theorem foldl_put_mem (lt : α → α → Bool) : ∀ (l acc : List α) (z : α), z ∈ l.foldl (put lt) acc ↔ z ∈ acc ∨ z ∈ l
  | [], acc, z => by simp
  | x :: l, acc, z => by
    rw [List.foldl_cons, foldl_put_mem lt l _ z, put_mem, List.mem_cons]
    constructor
    · rintro ((h | h) | h)
      · exact .inr (.inl h)
      · exact .inl h
      · exact .inr (.inr h)
    · rintro (h | h | h)
      · exact .inl (.inr h)
      · exact .inl (.inl h)
      · exact .inr h
theorem foldl_put_asc (o : Ord lt) : ∀ (l acc : List α), Asc lt acc → Asc lt (l.foldl (put lt) acc)
  | [], _, h => h
  | x :: l, acc, h => foldl_put_asc o l _ (put_asc o acc x h)
theorem puts_mem (lt : α → α → Bool) (l : List α) (z : α) : z ∈ puts lt l ↔ z ∈ l := by
  unfold puts
  rw [foldl_put_mem]
  simp
theorem puts_asc (o : Ord lt) (l : List α) : Asc lt (puts lt l) := foldl_put_asc o l [] List.Pairwise.nil
theorem puts_same (o : Ord lt) {a b : List α} (h : ∀ z, z ∈ a ↔ z ∈ b) : puts lt a = puts lt b :=
  asc_unique o _ _ (puts_asc o a) (puts_asc o b) fun z => by rw [puts_mem, puts_mem]; exact h z
/-- What is ascending and has the same members. -/
theorem puts_of (o : Ord lt) {a b : List α} (ha : Asc lt a) (h : ∀ z, z ∈ a ↔ z ∈ b) : a = puts lt b :=
  asc_unique o _ _ ha (puts_asc o b) fun z => by rw [puts_mem]; exact h z
omit [DecidableEq α] in
theorem at_get [Inhabited α] (zs : List α) (j : Nat) (h : j < zs.length) : (zs.toArray)[j]! = zs[j]'h := by
  rw [getElem!_pos zs.toArray j (by simpa using h)]
  simp
theorem compact_at [Inhabited α] (zs : List α) : ∀ j, j < zs.length → (zs.toArray)[j]! ∈ compact zs
  | 0, h => by
    unfold compact compactUpTo
    exact List.mem_map.2 ⟨0, List.mem_filter.2 ⟨List.mem_range.2 h, by simp [keeps]⟩, rfl⟩
  | j + 1, h => by
    by_cases e : (zs.toArray)[j + 1]! = (zs.toArray)[j]!
    · rw [e]; exact compact_at zs j (by omega)
    · unfold compact compactUpTo
      exact List.mem_map.2 ⟨j + 1, List.mem_filter.2 ⟨List.mem_range.2 h, by unfold keeps; simpa using e⟩, rfl⟩
theorem compact_mem [Inhabited α] (zs : List α) (z : α) : z ∈ compact zs ↔ z ∈ zs := by
  constructor
  · intro h
    unfold compact compactUpTo at h
    obtain ⟨j, hj, rfl⟩ := List.mem_map.1 h
    have := List.mem_range.1 (List.mem_filter.1 hj).1
    rw [at_get zs j this]
    exact List.getElem_mem _
  · intro h
    obtain ⟨j, hj, rfl⟩ := List.mem_iff_getElem.1 h
    rw [← at_get zs j hj]
    exact compact_at zs j hj
theorem compact_asc [Inhabited α] (o : Ord lt) (zs : List α) (h : zs.Pairwise fun x y => lt y x = false) : Asc lt (compact zs) := by
  unfold Asc compact compactUpTo
  rw [List.pairwise_map]
  have hp : (List.filter (keeps zs.toArray) (List.range zs.length)).Pairwise (· < ·) := List.Pairwise.filter _ List.pairwise_lt_range
  have hm : ∀ j ∈ List.filter (keeps zs.toArray) (List.range zs.length), j < zs.length ∧ keeps zs.toArray j = true := fun j hj => ⟨List.mem_range.1 (List.mem_filter.1 hj).1, (List.mem_filter.1 hj).2⟩
  rw [List.pairwise_iff_forall_sublist] at hp ⊢
  intro i j hs
  have hij : i < j := hp hs
  obtain ⟨hj, hk⟩ := hm j (hs.subset (by simp))
  rw [List.pairwise_iff_getElem] at h
  unfold keeps at hk
  rw [decide_eq_true_eq] at hk
  have hne := hk.resolve_left (by omega)
  rw [at_get zs j hj, at_get zs (j - 1) (by omega)] at hne
  rw [at_get zs i (by omega), at_get zs j hj]
  have h1 : lt (zs[j - 1]'(by omega)) (zs[j]'hj) = true := o.tot (h (j - 1) j (by omega) hj (by omega)) hne
  by_cases e : i = j - 1
  · subst e; exact h1
  · have h2 := h i (j - 1) (by omega) (by omega) (by omega)
    by_cases e2 : (zs[i]'(by omega)) = (zs[j - 1]'(by omega))
    · rw [e2]; exact h1
    · exact o.tr (o.tot h2 (fun e3 => e2 e3.symm)) h1
/-- A permutation that is in order, struck of repetitions. -/
theorem compact_puts [Inhabited α] (o : Ord lt) {zs ys : List α} (hp : zs.Perm ys) (h : zs.Pairwise fun x y => lt y x = false) : compact zs = puts lt ys :=
  puts_of o (compact_asc o zs h) fun z => by rw [compact_mem]; exact hp.mem_iff

/-! ### the two orders -/
def ltI (a b : Int) : Bool := decide (a < b)
theorem ordI : Ord ltI := ⟨fun x => by simp [ltI], fun {x y z} h1 h2 => by unfold ltI at *; simp at *; omega, fun {x y} h1 h2 => by unfold ltI at *; simp at *; omega⟩
def ltB (a b : By) : Bool := decide (a < b)
theorem ordB : Ord ltB := ⟨fun x => by unfold ltB; simp [List.lt_irrefl], fun {x y z} h1 h2 => by unfold ltB at *; simp at *; exact List.lt_trans h1 h2, fun {x y} h1 h2 => by
  unfold ltB at *
  simp at *
  rcases List.le_total x y with h | h
  · exact absurd (List.le_antisymm h h1) h2
  · rw [← List.not_le]
    intro h3
    exact h2 (List.le_antisymm h3 h)⟩

/-! ### copies -/
structure It where
  id : Int
  rec_ : Int
  branch : Int
  kind : Int
  price : Int
  call : ByteArray
  state : Int
  cb : Int
  who : Int
  to_ : Int
def live (id : Int) (l : List It) : List It := l.filter fun x => x.rec_ == id && x.state != 12
def ofB (b : Int) (l : List It) : List It := l.filter fun x => x.branch == b
def callsOf (l : List It) : List By := (l.filter fun x => x.call.data.toList != []).map (·.call.data.toList)
def shelf (l : List It) : Nat := (l.filter fun x => x.state == 3).length
def head (b : Int) (l : List It) : By := [98, 114, 97, 110, 99, 104, 32] ++ itoa b ++ [58, 32] ++ itoa (shelf l) ++ [32, 111, 102, 32] ++ itoa l.length ++ [32, 97, 118, 97, 105, 108, 97, 98, 108, 101]
def block (l : List It) (b : Int) : List By := head b (ofB b l) :: (puts ltB (callsOf (ofB b l))).map ([32, 32] ++ ·)
def copies (items : List It) (id : Int) : List By := (puts ltI ((live id items).map (·.branch))).flatMap (block (live id items))
end Cp
end Go.Proofs.YtogpghpgnpoioaaGreatDoor

/- Plain: a record as one line, as lines, as a citation; no program stands in this file. -/
namespace Go.Proofs.YtogpghpgnpoioaaGreatDoor
namespace Ds
open Go.Lib Rc

/-- The table of labels. -/
def rows : List (By × By × By) := [([48, 50, 48], [73, 83, 66, 78], [97]), ([48, 50, 50], [73, 83, 83, 78], [97]), ([49, 48, 48], [65, 117, 116, 104, 111, 114], [97, 100]), ([49, 49, 48], [65, 117, 116, 104, 111, 114], [97, 98]), ([50, 52, 53], [84, 105, 116, 108, 101], [97, 98, 99, 110, 112]), ([50, 53, 48], [69, 100, 105, 116, 105, 111, 110], [97, 98]), ([50, 54, 48], [80, 117, 98, 108, 105, 115, 104, 101, 100], [97, 98, 99]), ([50, 54, 52], [80, 117, 98, 108, 105, 115, 104, 101, 100], [97, 98, 99]), ([51, 48, 48], [69, 120, 116, 101, 110, 116], [97, 98, 99]), ([52, 52, 48], [83, 101, 114, 105, 101, 115], [97, 118]), ([52, 57, 48], [83, 101, 114, 105, 101, 115], [97, 118]), ([53, 48, 48], [78, 111, 116, 101], [97]), ([53, 50, 48], [83, 117, 109, 109, 97, 114, 121], [97]), ([55, 48, 48], [87, 105, 116, 104], [97, 100]), ([55, 49, 48], [87, 105, 116, 104], [97, 98]), ([56, 53, 54], [76, 105, 110, 107], [117])]
def labelOf (t : By) : By × By := match rows.find? (fun r => t == r.1) with
  | some r => r.2
  | none => if t.take 1 = [54] then ([83, 117, 98, 106, 101, 99, 116], [97, 120, 121, 122]) else ([], [])
def heading (fs : List Fl) : By := if title fs = [] then [117, 110, 116, 105, 116, 108, 101, 100] else title fs
def brief (fs : List Fl) : By := (if author fs = [] then [] else author fs ++ [58, 32]) ++ heading fs ++ (if year fs = 0 then [] else [32, 40] ++ itoa (year fs) ++ [41])
/-- The text of a field, with its label's name and codes. -/
def textOf (f : Fl) (nc : By × By) : By := if nc.1 = [83, 117, 98, 106, 101, 99, 116] then join (bys (allV f.subs nc.2)) [45, 45] else plain f.subs nc.2
def lineOf (f : Fl) : By := if (labelOf f.tag.data.toList).1 = [] then [] else if textOf f (labelOf f.tag.data.toList) = [] then [] else (labelOf f.tag.data.toList).1 ++ [58, 32] ++ textOf f (labelOf f.tag.data.toList)
def full (fs : List Fl) : List By := (fs.map lineOf).filter fun l => l != []
def publisher (fs : List Fl) : By := match fs.find? pubTag with
  | none => []
  | some f => plain f.subs [98]
def publParts (fs : List Fl) : List By := (if publisher fs = [] then [] else [publisher fs]) ++ (if year fs = 0 then [] else [itoa (year fs)])
def publ (fs : List Fl) : By := join (publParts fs) [44, 32]
def ended (s : By) : By := if s.getLast? = some 46 then s else s ++ [46]
def citeParts (fs : List Fl) : List By := (([author fs, heading fs, publ fs]).filter fun l => l != []).map ended
def cite (fs : List Fl) : By := join (citeParts fs) [32]
theorem rows_len : ∀ r ∈ rows, r.2.1.length ≤ 10 ∧ r.2.2.length ≤ 10 ∧ r.2.1 ≠ [] := by decide
theorem labelOf_len (t : By) : (labelOf t).1.length ≤ 10 ∧ (labelOf t).2.length ≤ 10 := by
  unfold labelOf
  split
  · rename_i r h
    have := rows_len r (List.mem_of_find?_eq_some h)
    exact ⟨this.1, this.2.1⟩
  · split
    · simp
    · simp

/-! ### bounds -/
theorem author_le {fs : List Fl} (h : ∀ f ∈ fs, Gd f) : (author fs).length ≤ 100000 := by
  have ht : ∀ t v, authorT fs t = some v → v.data.toList.length ≤ 100000 := by
    intro t v hv
    unfold authorT at hv
    rw [Option.bind_eq_some_iff] at hv
    obtain ⟨f, hf, hg⟩ := hv
    obtain ⟨x, hx, rfl⟩ := get_mem hg
    rw [← size_eq]
    exact ((h f (first_mem hf)).2 x hx).1
  unfold author
  repeat' split
  all_goals first | exact ht _ _ (by assumption) | simp
theorem title_le {fs : List Fl} (h : ∀ f ∈ fs, Gd f) : (title fs).length ≤ 400000000 := by
  unfold title
  split
  · simp
  · rename_i f hf
    have h1 := Tx.clean_len' (plain f.subs [97, 98])
    have h2 := (h f (first_mem hf)).plain_le [97, 98]
    omega
theorem heading_le {fs : List Fl} (h : ∀ f ∈ fs, Gd f) : (heading fs).length ≤ 400000000 := by
  have := title_le h
  unfold heading
  split
  · simp
  · exact this
theorem heading_ne (fs : List Fl) : heading fs ≠ [] := by
  unfold heading
  split
  · simp
  · assumption
theorem firstNZ_le (M : Nat) : ∀ (l : List Nat), (∀ x ∈ l, x ≤ M) → firstNZ l ≤ M
  | [], _ => by simp [firstNZ]
  | x :: r, h => by
    unfold firstNZ
    split
    · exact firstNZ_le M r (fun y hy => h y (by simp [hy]))
    · exact h x (by simp)
theorem yearF_le (l : List ByteArray) : yearF l ≤ 2199 := firstNZ_le _ _ fun x hx => by
  obtain ⟨y, _, rfl⟩ := List.mem_map.1 hx
  exact yr_le _ _ _
theorem year_le (fs : List Fl) : year fs ≤ 2199 := firstNZ_le _ _ fun x hx => by
  obtain ⟨f, _, rfl⟩ := List.mem_map.1 hx
  split
  · exact yearF_le _
  · omega
theorem itoa_year_le (n : Nat) (h : n ≤ 2199) : (itoa (n : Int)).length ≤ 4 := by rw [Nm.itoa_nat]; exact Nm.digits_len 3 n (by omega)
theorem publisher_le {fs : List Fl} (h : ∀ f ∈ fs, Gd f) : (publisher fs).length ≤ 200000000 := by
  unfold publisher
  split
  · simp
  · rename_i f hf
    exact (h f (List.mem_of_find?_eq_some hf)).plain_le _
theorem textOf_le {f : Fl} (h : Gd f) (nc : By × By) : (textOf f nc).length ≤ 200000000 := by
  unfold textOf
  split
  · exact h.join_le _ _ (by simp)
  · exact h.plain_le _
end Ds
end Go.Proofs.YtogpghpgnpoioaaGreatDoor
