/- Plain facts about texts: the reference's way of reading characters, and the program's, come to the same on every string; no program stands in this file. -/
import Derived.Lib.ValidLaws
import Derived.Lib.FieldsP
import Derived.Lib.Join
import Derived.Test.YtogpghpgnpoioaaGreatDoorProg
import Derived.WalkKit
import Derived.WalkSpells
import Derived.WalkLawsBesides
import Derived.Deep.QuietTactic
import Derived.BigQuiet
import Derived.Lib.Hide
namespace Go.Proofs.YtogpghpgnpoioaaGreatDoor
namespace Tx
open Go.Lib

/-- The reference's decode, by the numbers of the bytes at a place. -/
def rdecN (n b0 b1 b2 : Nat) : Nat × Nat :=
  if 32 ≤ b0 ∧ b0 < 127 then (b0, 1)
  else if 194 ≤ b0 ∧ b0 < 224 ∧ 1 < n ∧ 128 ≤ b1 ∧ b1 < 192 then
    (if 160 ≤ (b0 - 192) * 64 + b1 - 128 then ((b0 - 192) * 64 + b1 - 128, 2) else (0, 0))
  else if 224 ≤ b0 ∧ b0 < 240 ∧ 2 < n ∧ 128 ≤ b1 ∧ b1 < 192 ∧ 128 ≤ b2 ∧ b2 < 192 then
    (if 2048 ≤ (b0 - 224) * 4096 + (b1 - 128) * 64 + b2 - 128 ∧ ((b0 - 224) * 4096 + (b1 - 128) * 64 + b2 - 128 < 55296 ∨ 57343 < (b0 - 224) * 4096 + (b1 - 128) * 64 + b2 - 128)
     then ((b0 - 224) * 4096 + (b1 - 128) * 64 + b2 - 128, 3) else (0, 0))
  else (0, 0)

/-- Is what Go's decoder hands back a character of texts? -/
def okN (c k : Nat) : Bool := decide (¬ (c = 65533 ∧ k = 1) ∧ 32 ≤ c ∧ ¬ (127 ≤ c ∧ c ≤ 159) ∧ c ≤ 65535)

theorem okN_true {c k : Nat} : okN c k = true ↔ (¬ (c = 65533 ∧ k = 1) ∧ 32 ≤ c ∧ ¬ (127 ≤ c ∧ c ≤ 159) ∧ c ≤ 65535) := by unfold okN; exact decide_eq_true_iff
theorem okN_false {c k : Nat} : okN c k = false ↔ ¬ (¬ (c = 65533 ∧ k = 1) ∧ 32 ≤ c ∧ ¬ (127 ≤ c ∧ c ≤ 159) ∧ c ≤ 65535) := by rw [← okN_true]; simp

set_option maxHeartbeats 4000000 in
set_option maxRecDepth 100000 in
theorem rdecN_eq (n b0 b1 b2 b3 : Nat) (h0 : b0 < 256) (h1 : b1 < 256) (h2 : b2 < 256) (_h3 : b3 < 256) :
    rdecN n b0 b1 b2 = if okN (decodeN n b0 b1 b2 b3).1 (decodeN n b0 b1 b2 b3).2 = true then decodeN n b0 b1 b2 b3 else (0, 0) := by
  by_cases ha : b0 < 128
  · have e : decodeN n b0 b1 b2 b3 = (b0, 1) := by simp [decodeN, ha]
    rw [e]
    simp only [okN_true]
    unfold rdecN
    repeat' split
    all_goals first | rfl | (exfalso; omega)
  · by_cases hb : b0 / 32 = 6
    · have e : decodeN n b0 b1 b2 b3 = if 1 < n ∧ b1 / 64 = 2 then (if b0 % 32 * 64 + b1 % 64 ≥ 128 then (b0 % 32 * 64 + b1 % 64, 2) else (65533, 1)) else (65533, 1) := by
        unfold decodeN
        rw [if_neg ha]
        by_cases hc : 1 < n ∧ b1 / 64 = 2
        · rw [if_pos ⟨hb, hc⟩, if_pos hc]
        · rw [if_neg (by omega), if_neg (by omega), if_neg (by omega), if_neg hc]
      rw [e]
      simp only [okN_true]
      unfold rdecN
      repeat' split
      all_goals first | rfl | (exfalso; omega) | (simp only [Prod.mk.injEq, and_true]; omega) | (simp at *; omega)
    · by_cases hd : b0 / 16 = 14
      · have e : decodeN n b0 b1 b2 b3 = if (1 < n ∧ b1 / 64 = 2) ∧ (2 < n ∧ b2 / 64 = 2) then (if b0 % 16 * 4096 + b1 % 64 * 64 + b2 % 64 ≥ 2048 ∧ (b0 % 16 * 4096 + b1 % 64 * 64 + b2 % 64 < 55296 ∨ 57344 ≤ b0 % 16 * 4096 + b1 % 64 * 64 + b2 % 64) then (b0 % 16 * 4096 + b1 % 64 * 64 + b2 % 64, 3) else (65533, 1)) else (65533, 1) := by
          unfold decodeN
          rw [if_neg ha, if_neg (by omega)]
          by_cases hc : (1 < n ∧ b1 / 64 = 2) ∧ (2 < n ∧ b2 / 64 = 2)
          · rw [if_pos ⟨hd, hc⟩, if_pos hc]
            by_cases hx : b0 % 16 * 4096 + b1 % 64 * 64 + b2 % 64 ≥ 2048 ∧ (b0 % 16 * 4096 + b1 % 64 * 64 + b2 % 64 < 55296 ∨ 57344 ≤ b0 % 16 * 4096 + b1 % 64 * 64 + b2 % 64)
            · rw [if_pos (by omega), if_pos hx]
            · rw [if_neg (by omega), if_neg hx]
          · rw [if_neg (by omega), if_neg (by omega), if_neg hc]
        rw [e]
        simp only [okN_true]
        unfold rdecN
        repeat' split
        all_goals first | rfl | (exfalso; omega) | (simp only [Prod.mk.injEq, and_true]; omega) | (simp at *; omega)
      · have e : rdecN n b0 b1 b2 = (0, 0) := by
          unfold rdecN
          rw [if_neg (by omega), if_neg (by omega), if_neg (by omega)]
        have e2 : okN (decodeN n b0 b1 b2 b3).1 (decodeN n b0 b1 b2 b3).2 = false := by
          unfold decodeN
          rw [if_neg ha, if_neg (by omega), if_neg (by omega)]
          rw [okN_false]
          repeat' split
          all_goals first | omega | simp
        rw [e, e2]
        simp

/-- The reference's decode at the head of a list of bytes. -/
def rdec (l : List UInt8) : Nat × Nat := rdecN l.length (l.getD 0 0).toNat (l.getD 1 0).toNat (l.getD 2 0).toNat
theorem rdec_eq (l : List UInt8) : rdec l = if okN (decodeL l).1 (decodeL l).2 = true then decodeL l else (0, 0) := by
  unfold rdec
  rw [decodeL_N]
  exact rdecN_eq _ _ _ _ _ (UInt8.toNat_lt _) (UInt8.toNat_lt _) (UInt8.toNat_lt _) (UInt8.toNat_lt _)
theorem rdec_good {l : List UInt8} (h : (rdec l).2 ≠ 0) : decodeL l = rdec l ∧ okN (decodeL l).1 (decodeL l).2 = true := by
  rw [rdec_eq] at h ⊢
  split
  · rename_i hk
    exact ⟨rfl, hk⟩
  · rename_i hk
    rw [if_neg hk] at h
    exact absurd rfl h
theorem rdec_bad {l : List UInt8} (h : (rdec l).2 = 0) : rdec l = (0, 0) ∧ okN (decodeL l).1 (decodeL l).2 = false := by
  have hw := decodeL_width l
  rw [rdec_eq] at h ⊢
  split
  · rename_i hk
    rw [if_pos hk] at h
    omega
  · rename_i hk
    exact ⟨rfl, by simpa using hk⟩
theorem rdecN_le (n b0 b1 b2 : Nat) (hn : 1 ≤ n) : (rdecN n b0 b1 b2).2 ≤ n ∧ (rdecN n b0 b1 b2).2 ≤ 3 ∧ (rdecN n b0 b1 b2).1 ≤ 65535 := by
  unfold rdecN
  repeat' split
  all_goals (simp only; omega)
theorem rdec_le {l : List UInt8} (h : l ≠ []) : (rdec l).2 ≤ l.length := by
  have : 0 < l.length := List.length_pos_iff.2 h
  exact (rdecN_le _ _ _ _ (by omega)).1
theorem rdec_rune (l : List UInt8) : (rdec l).1 ≤ 65535 := by
  unfold rdec rdecN
  repeat' split
  all_goals (simp only; omega)
theorem rdec_width3 (l : List UInt8) : (rdec l).2 ≤ 3 := by
  unfold rdec rdecN
  repeat' split
  all_goals (simp only; omega)

/-! ### a fold over the characters, as the reference goes -/
/-- The width by which the reference goes on. -/
def wid (l : List UInt8) : Nat := max (rdec l).2 1
theorem wid_pos (l : List UInt8) : 1 ≤ wid l := by unfold wid; omega
theorem wid_le {l : List UInt8} (h : l ≠ []) : wid l ≤ l.length := by
  have := rdec_le h
  have : 0 < l.length := List.length_pos_iff.2 h
  unfold wid; omega
variable {σ : Type}
def foldR (f : σ → List UInt8 → Nat → σ) : Nat → σ → List UInt8 → σ
  | 0, st, _ => st
  | n + 1, st, l => if l = [] then st else foldR f n (f st (l.take (wid l)) (rdec l).1) (l.drop (wid l))
def foldT (f : σ → List UInt8 → Nat → σ) (st : σ) (l : List UInt8) : σ := foldR f l.length st l
theorem foldR_nil (f : σ → List UInt8 → Nat → σ) (n : Nat) (st : σ) : foldR f n st [] = st := by cases n <;> simp [foldR]
theorem foldR_fuel (f : σ → List UInt8 → Nat → σ) : ∀ (n m : Nat) (st : σ) (l : List UInt8), l.length ≤ n → l.length ≤ m → foldR f n st l = foldR f m st l
  | 0, m, st, l, hn, _ => by
    have : l = [] := List.eq_nil_of_length_eq_zero (by omega)
    subst this
    rw [foldR_nil, foldR_nil]
  | n + 1, 0, st, l, _, hm => by
    have : l = [] := List.eq_nil_of_length_eq_zero (by omega)
    subst this
    rw [foldR_nil, foldR_nil]
  | n + 1, m + 1, st, l, hn, hm => by
    unfold foldR
    by_cases hne : l = []
    · simp [hne]
    · have hw := wid_pos l
      rw [if_neg hne, if_neg hne, foldR_fuel f n m _ _ (by rw [List.length_drop]; omega) (by rw [List.length_drop]; omega)]
theorem foldT_nil (f : σ → List UInt8 → Nat → σ) (st : σ) : foldT f st [] = st := foldR_nil f _ st
theorem foldT_step (f : σ → List UInt8 → Nat → σ) (st : σ) {l : List UInt8} (hne : l ≠ []) : foldT f st l = foldT f (f st (l.take (wid l)) (rdec l).1) (l.drop (wid l)) := by
  have hl : 0 < l.length := List.length_pos_iff.2 hne
  have hw := wid_pos l
  unfold foldT
  obtain ⟨n, hn⟩ : ∃ n, l.length = n + 1 := ⟨l.length - 1, by omega⟩
  rw [hn]
  show (if l = [] then st else _) = _
  rw [if_neg hne, foldR_fuel f n _ _ _ (by rw [List.length_drop]; omega) (Nat.le_refl _)]

/-! ### texts -/
def validR (l : List UInt8) : Bool := foldT (fun ok l' _ => ok && (rdec l').2 != 0) true l
/-- The reference's Valid. -/
def vR : Nat → List UInt8 → Bool
  | 0, _ => true
  | n + 1, l => if l = [] then true else if (rdec l).2 = 0 then false else vR n (l.drop (rdec l).2)
def valid (l : List UInt8) : Bool := vR l.length l
theorem vR_nil (n : Nat) : vR n [] = true := by cases n <;> simp [vR]
theorem vR_fuel : ∀ (n m : Nat) (l : List UInt8), l.length ≤ n → l.length ≤ m → vR n l = vR m l
  | 0, m, l, hn, _ => by
    have : l = [] := List.eq_nil_of_length_eq_zero (by omega)
    subst this
    rw [vR_nil, vR_nil]
  | n + 1, 0, l, _, hm => by
    have : l = [] := List.eq_nil_of_length_eq_zero (by omega)
    subst this
    rw [vR_nil, vR_nil]
  | n + 1, m + 1, l, hn, hm => by
    unfold vR
    by_cases hne : l = []
    · simp [hne]
    · by_cases hz : (rdec l).2 = 0
      · simp [hz]
      · rw [if_neg hne, if_neg hne, if_neg hz, if_neg hz, vR_fuel n m _ (by rw [List.length_drop]; omega) (by rw [List.length_drop]; omega)]
theorem valid_nil : valid [] = true := rfl
theorem valid_step {l : List UInt8} (hne : l ≠ []) : valid l = if (rdec l).2 = 0 then false else valid (l.drop (rdec l).2) := by
  have hl : 0 < l.length := List.length_pos_iff.2 hne
  unfold valid
  obtain ⟨n, hn⟩ : ∃ n, l.length = n + 1 := ⟨l.length - 1, by omega⟩
  rw [hn]
  show (if l = [] then true else _) = _
  rw [if_neg hne]
  by_cases hz : (rdec l).2 = 0
  · rw [if_pos hz, if_pos hz]
  · rw [if_neg hz, if_neg hz, vR_fuel n _ _ (by rw [List.length_drop]; omega) (Nat.le_refl _)]
/-- What a text that is not empty gives. -/
theorem valid_head {l : List UInt8} (hne : l ≠ []) (hv : valid l = true) : (rdec l).2 ≠ 0 ∧ decodeL l = rdec l ∧ wid l = (rdec l).2 ∧ valid (l.drop (wid l)) = true ∧ okN (rdec l).1 (rdec l).2 = true := by
  rw [valid_step hne] at hv
  by_cases hz : (rdec l).2 = 0
  · rw [if_pos hz] at hv
    cases hv
  · rw [if_neg hz] at hv
    have hw : wid l = (rdec l).2 := by unfold wid; omega
    have hg := rdec_good hz
    exact ⟨hz, hg.1, hw, by rw [hw]; exact hv, by rw [← hg.1]; exact hg.2⟩

/-- The program's Valid: valid UTF-8, and each character within bounds. -/
def rangeOk : Nat → List UInt8 → Bool
  | 0, _ => true
  | n + 1, l => if l = [] then true else if (decodeL l).1 < 32 ∨ (127 ≤ (decodeL l).1 ∧ (decodeL l).1 ≤ 159) ∨ 65535 < (decodeL l).1 then false else rangeOk n (l.drop (decodeL l).2)
theorem rangeOk_nil (n : Nat) : rangeOk n [] = true := by cases n <;> simp [rangeOk]
theorem rangeOk_fuel : ∀ (n m : Nat) (l : List UInt8), l.length ≤ n → l.length ≤ m → rangeOk n l = rangeOk m l
  | 0, m, l, hn, _ => by
    have : l = [] := List.eq_nil_of_length_eq_zero (by omega)
    subst this
    rw [rangeOk_nil, rangeOk_nil]
  | n + 1, 0, l, _, hm => by
    have : l = [] := List.eq_nil_of_length_eq_zero (by omega)
    subst this
    rw [rangeOk_nil, rangeOk_nil]
  | n + 1, m + 1, l, hn, hm => by
    unfold rangeOk
    by_cases hne : l = []
    · simp [hne]
    · have hw := decodeL_width l
      rw [if_neg hne, if_neg hne, rangeOk_fuel n m _ (by rw [List.length_drop]; omega) (by rw [List.length_drop]; omega)]
theorem rangeOk_step {l : List UInt8} (hne : l ≠ []) : rangeOk l.length l = if (decodeL l).1 < 32 ∨ (127 ≤ (decodeL l).1 ∧ (decodeL l).1 ≤ 159) ∨ 65535 < (decodeL l).1 then false else rangeOk (l.drop (decodeL l).2).length (l.drop (decodeL l).2) := by
  have hl : 0 < l.length := List.length_pos_iff.2 hne
  have hw := decodeL_width l
  obtain ⟨n, hn⟩ : ∃ n, l.length = n + 1 := ⟨l.length - 1, by omega⟩
  conv => lhs; rw [hn]
  show (if l = [] then true else _) = _
  rw [if_neg hne, rangeOk_fuel n _ _ (by rw [List.length_drop]; omega) (Nat.le_refl _)]
/-- The two ways to say what a text is come to the same. -/
theorem valid_two : ∀ (n : Nat) (l : List UInt8), l.length ≤ n → (validD l && rangeOk l.length l) = valid l
  | 0, l, h => by
    have : l = [] := List.eq_nil_of_length_eq_zero (by omega)
    subst this
    rfl
  | n + 1, l, h => by
    by_cases hne : l = []
    · subst hne; rfl
    · have hw := decodeL_width l
      have hl : 0 < l.length := List.length_pos_iff.2 hne
      rw [validD_step l hne, rangeOk_step hne, valid_step hne]
      by_cases hz : (rdec l).2 = 0
      · have hb := okN_false.1 (rdec_bad hz).2
        rw [if_pos hz]
        by_cases hi : (decodeL l).1 = 65533 ∧ (decodeL l).2 = 1
        · rw [if_pos hi]; rfl
        · rw [if_neg hi, if_pos (by omega)]; simp
      · have hg := rdec_good hz
        have hk := okN_true.1 hg.2
        rw [if_neg hz, if_neg hk.1, if_neg (by omega), ← hg.1]
        exact valid_two n _ (by rw [List.length_drop]; omega)

/-! ### Clean -/
def blank (c : Nat) : Bool := c == 32 || c == 160
def cleanStep (st : List UInt8 × Bool) (p : List UInt8) (c : Nat) : List UInt8 × Bool :=
  if blank c = true then (st.1, true) else ((if st.2 = true ∧ st.1 ≠ [] then st.1 ++ [32] else st.1) ++ p, false)
/-- The reference's Clean. -/
def clean (l : List UInt8) : List UInt8 := (foldT cleanStep ([], false) l).1

/-- What the reference has written when the program has found these spans. -/
def sofar (s : ByteArray) (acc : List (Nat × Nat)) (st : Option Nat) (pos : Nat) : List UInt8 :=
  join ((match st with | some a => acc ++ [(a, pos)] | none => acc).map fun x : Nat × Nat => (s.extract x.1 x.2).data.toList) [32]
theorem join_snoc (xs : List (List UInt8)) (y sep : List UInt8) (h : xs ≠ []) : join (xs ++ [y]) sep = join xs sep ++ sep ++ y := by
  cases xs with
  | nil => exact absurd rfl h
  | cons x r =>
    rw [List.cons_append, join_cons, join_cons]
    simp [joinTail]
theorem join_more (xs : List (List UInt8)) (y p sep : List UInt8) : join (xs ++ [y ++ p]) sep = join (xs ++ [y]) sep ++ p := by
  cases xs with
  | nil => simp [join_one]
  | cons x r => rw [join_snoc _ _ _ (by simp), join_snoc _ _ _ (by simp)]; simp [List.append_assoc]
theorem extract_more (s : ByteArray) (a pos k : Nat) (h : a ≤ pos) : (s.extract a (pos + k)).data.toList = (s.extract a pos).data.toList ++ (s.data.toList.drop pos).take k := by
  rw [extract_data, extract_data]
  have e : (s.data.toList.drop a).take (pos + k - a) = (s.data.toList.drop a).take ((pos - a) + k) := by congr 1; omega
  rw [e, List.take_add, List.drop_drop, show a + (pos - a) = pos by omega]
theorem extract_none (s : ByteArray) (a : Nat) : (s.extract a a).data.toList = [] := by rw [extract_data]; simp
theorem extract_ne (s : ByteArray) (a b : Nat) (h : a < b) (h2 : b ≤ s.size) : (s.extract a b).data.toList ≠ [] := by
  rw [extract_data]
  intro h0
  have := congrArg List.length h0
  rw [List.length_take, List.length_drop, ← size_eq] at this
  simp at this
  omega
theorem join_ne (x : List UInt8) (r : List (List UInt8)) (sep : List UInt8) (h : x ≠ []) : join (x :: r) sep ≠ [] := by
  rw [join_cons]
  simp [h]

theorem clean_go (s : ByteArray) : ∀ (f pos : Nat) (st : Option Nat) (acc : List (Nat × Nat)) (out : List UInt8) (gap : Bool),
    pos ≤ s.size → s.size ≤ pos + f → valid (s.data.toList.drop pos) = true → out = sofar s acc st pos →
    (st = none → gap = true ∨ out = []) → (∀ a, st = some a → gap = false ∧ a < pos) → (∀ x ∈ acc, x.1 < x.2 ∧ x.2 ≤ s.size) →
    sofar s (closeSpans s (spansFromP blank s f pos st acc)) none s.size = (foldT cleanStep (out, gap) (s.data.toList.drop pos)).1
  | f, pos, st, acc, out, gap, hp, hf, hv, ho, hn, hs, ha => by
    by_cases hlt : pos < s.size
    · obtain ⟨g, rfl⟩ : ∃ g, f = g + 1 := ⟨f - 1, by omega⟩
      have hne : s.data.toList.drop pos ≠ [] := by
        intro h0
        have := congrArg List.length h0
        rw [List.length_drop, ← size_eq] at this
        simp at this
        omega
      obtain ⟨hz, hd, hw, hv2, _⟩ := valid_head hne hv
      have hdec : Utf8.decode s pos = rdec (s.data.toList.drop pos) := by rw [← decodeL_drop, hd]
      have hle : wid (s.data.toList.drop pos) ≤ s.size - pos := by
        have := wid_le hne
        rw [List.length_drop, ← size_eq] at this
        omega
      have hwp := wid_pos (s.data.toList.drop pos)
      rw [foldT_step cleanStep _ hne]
      simp only [spansFromP, if_pos hlt, hdec]
      rw [← hw]
      rw [List.drop_drop] at hv2 ⊢
      generalize hk : wid (s.data.toList.drop pos) = k at *
      generalize hc : (rdec (s.data.toList.drop pos)).1 = c at *
      cases hb : blank c with
      | true =>
        simp only [if_true]
        have e : cleanStep (out, gap) ((s.data.toList.drop pos).take k) c = (out, true) := by simp [cleanStep, hb]
        rw [e]
        cases st with
        | none => exact clean_go s g (pos + k) none acc out true (by omega) (by omega) hv2 ho (fun _ => .inl rfl) (fun a h => by cases h) ha
        | some a =>
          have := hs a rfl
          exact clean_go s g (pos + k) none (acc ++ [(a, pos)]) out true (by omega) (by omega) hv2 ho (fun _ => .inl rfl) (fun a h => by cases h)
            (fun x hx => by
              rcases List.mem_append.1 hx with h | h
              · exact ha x h
              · simp at h; subst h; exact ⟨by simp; omega, by simp; omega⟩)
      | false =>
        simp only [Bool.false_eq_true, if_false]
        cases st with
        | some a =>
          have h1 := hs a rfl
          have e : cleanStep (out, gap) ((s.data.toList.drop pos).take k) c = (out ++ (s.data.toList.drop pos).take k, false) := by simp [cleanStep, hb, h1.1]
          rw [e]
          refine clean_go s g (pos + k) (some a) acc _ false (by omega) (by omega) hv2 ?_ (fun h => by cases h) (fun b h => by cases h; exact ⟨rfl, by omega⟩) ha
          rw [ho]
          unfold sofar
          simp only [List.map_append, List.map_cons, List.map_nil]
          rw [extract_more s a pos k (by omega), join_more]
        | none =>
          have e : cleanStep (out, gap) ((s.data.toList.drop pos).take k) c = ((if gap = true ∧ out ≠ [] then out ++ [32] else out) ++ (s.data.toList.drop pos).take k, false) := by simp [cleanStep, hb]
          rw [e]
          refine clean_go s g (pos + k) (some pos) acc _ false (by omega) (by omega) hv2 ?_ (fun h => by cases h) (fun b h => by cases h; exact ⟨rfl, by omega⟩) ha
          unfold sofar
          simp only [List.map_append, List.map_cons, List.map_nil]
          have ep : (s.extract pos (pos + k)).data.toList = (s.data.toList.drop pos).take k := by
            rw [extract_more s pos pos k (Nat.le_refl _), extract_none]; rfl
          rw [ep]
          cases hacc : acc with
          | nil =>
            have : out = [] := by rw [ho, hacc]; rfl
            rw [this]
            simp [join_one]
          | cons x r =>
            have hx := ha x (by rw [hacc]; simp)
            have hon : out ≠ [] := by
              rw [ho, hacc]
              exact join_ne _ _ _ (extract_ne s _ _ hx.1 hx.2)
            have hg : gap = true := by
              rcases hn rfl with h | h
              · exact h
              · exact absurd h hon
            rw [if_pos ⟨hg, hon⟩, join_snoc _ _ _ (by simp), ho, hacc]
            rfl
    · have hps : pos = s.size := by omega
      rw [spansFromP_end blank s f _ _ _ hlt]
      have hnil : s.data.toList.drop pos = [] := List.drop_eq_nil_of_le (by rw [← size_eq]; omega)
      rw [hnil, foldT_nil, ho]
      cases st with
      | none => simp [closeSpans, sofar]
      | some a => simp [closeSpans, sofar, hps]
  termination_by f => f

/-- The program's Clean of a text is the reference's. -/
theorem clean_eq (s : ByteArray) (hv : valid s.data.toList = true) : join ((goFieldsP blank s).map (·.data.toList)) [32] = clean s.data.toList := by
  have h := clean_go s s.size 0 none [] [] false (Nat.zero_le _) (by omega) (by simpa using hv) rfl (fun _ => .inr rfl) (fun a h => by cases h) (fun x hx => by cases hx)
  rw [List.drop_zero] at h
  unfold clean
  rw [← h]
  unfold sofar goFieldsP spansOfP
  rw [List.map_map]
  rfl
end Tx
end Go.Proofs.YtogpghpgnpoioaaGreatDoor

/- The reference's decode: what the call returns. -/
namespace Go.Proofs.YtogpghpgnpoioaaGreatDoor
open Go.RowKit

namespace Tx
theorem getD_at (s : ByteArray) (j : Nat) (h : j < s.size) : s.data.toList.getD j 0 = s[j]'h := by
  have h' : j < s.data.toList.length := by rw [← Go.Lib.size_eq]; exact h
  rw [List.getD_eq_getElem?_getD, List.getElem?_eq_getElem h']
  rfl
theorem rdec_at (s : ByteArray) (i : Nat) : rdec (s.data.toList.drop i) = rdecN (s.size - i) (s.data.toList.getD i 0).toNat (s.data.toList.getD (i + 1) 0).toNat (s.data.toList.getD (i + 2) 0).toNat := by
  unfold rdec
  rw [List.length_drop, Go.Lib.getD_dropU, Go.Lib.getD_dropU, Go.Lib.getD_dropU, Nat.add_zero, Go.Lib.size_eq]
theorem rdec_parts (s : ByteArray) (i : Nat) (hi : i < s.size) : ∃ a b c : Nat, rdec (s.data.toList.drop i) = rdecN (s.size - i) a b c ∧ a = (s[i]'hi).toNat ∧ (∀ h : i + 1 < s.size, b = (s[i + 1]'h).toNat) ∧ (∀ h : i + 2 < s.size, c = (s[i + 2]'h).toNat) ∧ a < 256 ∧ b < 256 ∧ c < 256 :=
  ⟨_, _, _, rdec_at s i, by rw [getD_at s i hi], fun h => by rw [getD_at s (i + 1) h], fun h => by rw [getD_at s (i + 2) h], UInt8.toNat_lt _, UInt8.toNat_lt _, UInt8.toNat_lt _⟩
theorem ret2 {a b : Int} {r : Nat × Nat} {c d : Nat} (hr : r = (c, d)) (h1 : a = (c : Int)) (h2 : b = (d : Int)) : Ending.returned (.tuple #[.int .i64 a, .int .i64 b]) = Ending.returned (.tuple #[.int .i64 r.1, .int .i64 r.2]) := by rw [hr, h1, h2]
theorem below_drewN {B : Nat} {a w : World} (h : Below B a w) (q : Nat) : Below B a (w.drewN q) := ⟨h.os, h.tape, h.output, h.size, h.block⟩
theorem rdecN_1 {n a b c : Nat} (h : 32 ≤ a ∧ a < 127) : rdecN n a b c = (a, 1) := by unfold rdecN; rw [if_pos h]
theorem rdecN_2 {n a b c : Nat} (h : 194 ≤ a ∧ a < 224 ∧ 1 < n ∧ 128 ≤ b ∧ b < 192) (h2 : 160 ≤ (a - 192) * 64 + b - 128) : rdecN n a b c = ((a - 192) * 64 + b - 128, 2) := by unfold rdecN; rw [if_neg (by omega), if_pos h, if_pos h2]
theorem rdecN_3 {n a b c : Nat} (h : 194 ≤ a ∧ a < 224 ∧ 1 < n ∧ 128 ≤ b ∧ b < 192) (h2 : ¬ 160 ≤ (a - 192) * 64 + b - 128) : rdecN n a b c = (0, 0) := by unfold rdecN; rw [if_neg (by omega), if_pos h, if_neg h2]
theorem rdecN_4 {n a b c : Nat} (h : 224 ≤ a ∧ a < 240 ∧ 2 < n ∧ 128 ≤ b ∧ b < 192 ∧ 128 ≤ c ∧ c < 192) (h2 : 2048 ≤ (a - 224) * 4096 + (b - 128) * 64 + c - 128 ∧ ((a - 224) * 4096 + (b - 128) * 64 + c - 128 < 55296 ∨ 57343 < (a - 224) * 4096 + (b - 128) * 64 + c - 128)) : rdecN n a b c = ((a - 224) * 4096 + (b - 128) * 64 + c - 128, 3) := by unfold rdecN; rw [if_neg (by omega), if_neg (by omega), if_pos h, if_pos h2]
theorem rdecN_5 {n a b c : Nat} (h : 224 ≤ a ∧ a < 240 ∧ 2 < n ∧ 128 ≤ b ∧ b < 192 ∧ 128 ≤ c ∧ c < 192) (h2 : ¬ (2048 ≤ (a - 224) * 4096 + (b - 128) * 64 + c - 128 ∧ ((a - 224) * 4096 + (b - 128) * 64 + c - 128 < 55296 ∨ 57343 < (a - 224) * 4096 + (b - 128) * 64 + c - 128))) : rdecN n a b c = (0, 0) := by unfold rdecN; rw [if_neg (by omega), if_neg (by omega), if_pos h, if_neg h2]
theorem rdecN_6 {n a b c : Nat} (h1 : ¬ (32 ≤ a ∧ a < 127)) (h2 : ¬ (194 ≤ a ∧ a < 224 ∧ 1 < n ∧ 128 ≤ b ∧ b < 192)) (h3 : ¬ (224 ≤ a ∧ a < 240 ∧ 2 < n ∧ 128 ≤ b ∧ b < 192 ∧ 128 ≤ c ∧ c < 192)) : rdecN n a b c = (0, 0) := by unfold rdecN; rw [if_neg h1, if_neg h2, if_neg h3]
end Tx

set_option maxHeartbeats 2000000 in
set_option maxRecDepth 100000 in
theorem r01_decode_c (s : ByteArray) (i : Nat) (w : World) (hi : i < s.size) (hs : s.size ≤ 9223372036854775000) :
    Calls Tryz.prog 94 #[.string s, .int .i64 i] w fun e w' => e = .returned (.tuple #[.int .i64 (Tx.rdec (s.data.toList.drop i)).1, .int .i64 (Tx.rdec (s.data.toList.drop i)).2]) ∧ Below w.heap.size w w' := by
  have hb0 : ((s[i]'hi).toNat : Int) < 256 := by have := (s[i]'hi).toNat_lt; omega
  obtain ⟨a, b, c, hr, h0, h1, h2, ha, hb, hc⟩ := Tx.rdec_parts s i hi
  have HR := Lib.hid hr; clear hr
  have H0 := Lib.hid h0; clear h0
  have H1 := Lib.hid h1; clear h1
  have H2 := Lib.hid h2; clear h2
  go_enter Tryz.func94, Tryz.ntmps94
  go_wp2
  all_goals try
    go_quiet (fail)
    go_wp2
  all_goals
    go_ret2
    refine ⟨?_, by first | exact Below.refl _ _ | exact Tx.below_drewN (Below.refl _ _) _⟩
    have h0 := H0.out
    have h1 := H1.out
    have h2 := H2.out
    try have g1 := h1 (by omega)
    try have g2 := h2 (by omega)
    clear h1 h2
    rw [HR.out]
  all_goals first
    | exact Tx.ret2 (Tx.rdecN_1 (by omega)) (by omega) (by omega)
    | exact Tx.ret2 (Tx.rdecN_6 (by omega) (by omega) (by omega)) (by omega) (by omega)
    | exact Tx.ret2 (Tx.rdecN_2 (by omega) (by omega)) (by omega) (by omega)
    | exact Tx.ret2 (Tx.rdecN_3 (by omega) (by omega)) (by omega) (by omega)
    | exact Tx.ret2 (Tx.rdecN_4 (by omega) (by omega)) (by omega) (by omega)
    | exact Tx.ret2 (Tx.rdecN_5 (by omega) (by omega)) (by omega) (by omega)
end Go.Proofs.YtogpghpgnpoioaaGreatDoor

/- The reference's small functions on texts: what the calls return. -/
namespace Go.Proofs.YtogpghpgnpoioaaGreatDoor
open Go.RowKit

namespace Tx
theorem ret1 {k : IntKind} {a b : Int} (h : a = b) : Ending.returned (.int k a) = .returned (.int k b) := by rw [h]
theorem retb {a b : Bool} (h : a = b) : Ending.returned (.bool a) = .returned (.bool b) := by rw [h]
theorem rets {a b : ByteArray} (h : a = b) : Ending.returned (.string a) = .returned (.string b) := by rw [h]
theorem drop_ne {l : List UInt8} {k : Nat} (h : k < l.length) : l.drop k ≠ [] := by
  intro h0
  have := congrArg List.length h0
  rw [List.length_drop] at this
  simp at this
  omega
theorem bcat (l : List UInt8) (y : ByteArray) : (⟨l.toArray⟩ : ByteArray) ++ y = ⟨(l ++ y.data.toList).toArray⟩ := by
  apply ByteArray.ext
  simp
theorem extract_wid (s : ByteArray) (k n : Nat) : (s.extract k (k + n)).data.toList = (s.data.toList.drop k).take n := by
  rw [Lib.extract_data, Nat.add_sub_cancel_left]
theorem clean_round {s : ByteArray} {k : Nat} {out out' : List UInt8} {gap gap' : Bool} (hlt : k < s.size) (hol : out.length ≤ 2 * k)
    (hv : (foldT cleanStep (out, gap) (s.data.toList.drop k)).1 = clean s.data.toList)
    (h : cleanStep (out, gap) ((s.data.toList.drop k).take (wid (s.data.toList.drop k))) (rdec (s.data.toList.drop k)).1 = (out', gap')) :
    out'.length ≤ 2 * (k + wid (s.data.toList.drop k)) ∧ (foldT cleanStep (out', gap') (s.data.toList.drop (k + wid (s.data.toList.drop k)))).1 = clean s.data.toList := by
  have hw := wid_pos (s.data.toList.drop k)
  constructor
  · have e : out' = (cleanStep (out, gap) ((s.data.toList.drop k).take (wid (s.data.toList.drop k))) (rdec (s.data.toList.drop k)).1).1 := by rw [h]
    rw [e]
    unfold cleanStep
    repeat' split
    all_goals simp only [List.length_append, List.length_take, List.length_cons, List.length_nil]
    all_goals omega
  · rw [← hv, foldT_step cleanStep (out, gap) (drop_ne (by rw [← Lib.size_eq]; exact hlt)), h, List.drop_drop]
theorem rdec_fits {s : ByteArray} {k : Nat} (h : k < s.size) : k + (rdec (s.data.toList.drop k)).2 ≤ s.size ∧ (rdec (s.data.toList.drop k)).2 ≤ 3 ∧ 1 ≤ wid (s.data.toList.drop k) ∧ k + wid (s.data.toList.drop k) ≤ s.size ∧ wid (s.data.toList.drop k) ≤ 3 := by
  have h1 := rdec_le (drop_ne (by rw [← Lib.size_eq]; exact h) : s.data.toList.drop k ≠ [])
  have h2 := wid_le (drop_ne (by rw [← Lib.size_eq]; exact h) : s.data.toList.drop k ≠ [])
  have h3 := rdec_width3 (s.data.toList.drop k)
  rw [List.length_drop, ← Lib.size_eq] at h1 h2
  refine ⟨by omega, h3, wid_pos _, by omega, ?_⟩
  unfold wid
  omega
end Tx

set_option maxHeartbeats 400000 in
theorem r01_size_c (s : ByteArray) (i : Nat) (w : World) (hi : i < s.size) (hs : s.size ≤ 9223372036854775000) :
    Calls Tryz.prog 95 #[.string s, .int .i64 i] w fun e w' => e = .returned (.int .i64 (Tx.wid (s.data.toList.drop i))) ∧ Below w.heap.size w w' := by
  go_enter Tryz.func95, Tryz.ntmps95
  go_wp2_with (go_at_call 94; refine (r01_decode_c s i _ hi hs).mono ?_; rintro e w1 ⟨rfl, hb⟩)
  all_goals
    go_ret
    exact ⟨Tx.ret1 (by unfold Tx.wid; omega), hb⟩


set_option maxHeartbeats 400000 in
theorem r01_Valid_c (s : ByteArray) (w : World) (hs : s.size ≤ 9223372036854775000) :
    Calls Tryz.prog 76 #[.string s] w fun e w' => e = .returned (.bool (Tx.valid s.data.toList)) ∧ Below w.heap.size w w' := by
  go_enter Tryz.func76, Tryz.ntmps76
  go_wp2
  go_loopw [3] (fun i wr => ∃ k : Nat, k ≤ s.size ∧ i = .int .i64 k ∧ Hid (Tx.valid (s.data.toList.drop k) = Tx.valid s.data.toList) ∧ Below w.heap.size w wr) (fun i _ => s.size - (intOf i).toNat)
  case atStart => exact ⟨0, Nat.zero_le _, rfl, Lib.hid (by rw [List.drop_zero]), Below.refl _ _⟩
  case round =>
    obtain ⟨k, hk, rfl, hv, hb⟩ := hrel
    by_cases hlt : k < s.size
    · obtain ⟨hle, _, _, _, _⟩ := Tx.rdec_fits hlt
      have hne : s.data.toList.drop k ≠ [] := Tx.drop_ne (by rw [← Lib.size_eq]; exact hlt)
      have HN := Lib.hid hne; clear hne
      go_wp2_with (go_at_call 94; refine (r01_decode_c s k _ hlt hs).mono ?_; rintro e w1 ⟨rfl, hb1⟩)
      · go_ret
        have hz : (Tx.rdec (s.data.toList.drop k)).2 = 0 := by
          have h := ‹((Tx.rdec (s.data.toList.drop k)).2 : Int) == 0› 
          simpa using h
        exact ⟨Tx.retb (by rw [← hv.out, Tx.valid_step HN.out, if_pos hz]), hb.trans (hb1.mono hb.size)⟩
      · have hz : (Tx.rdec (s.data.toList.drop k)).2 ≠ 0 := by
          have h : (((Tx.rdec (s.data.toList.drop k)).2 : Int) == 0) = false := by assumption
          simpa using h
        go_roundw
        case rel => exact ⟨k + (Tx.rdec (s.data.toList.drop k)).2, by omega, by go_num, Lib.hid (by rw [← hv.out, Tx.valid_step HN.out, if_neg hz, List.drop_drop]), hb.trans (hb1.mono hb.size)⟩
        case measure => simp [intOf]; omega
    · go_wp2
      go_ret
      have : s.data.toList.drop k = [] := List.drop_eq_nil_of_le (by rw [← Lib.size_eq]; omega)
      exact ⟨Tx.retb (by rw [← hv.out, this]; rfl), hb⟩

end Go.Proofs.YtogpghpgnpoioaaGreatDoor
