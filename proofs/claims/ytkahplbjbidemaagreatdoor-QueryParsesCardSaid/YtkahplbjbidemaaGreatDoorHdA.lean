/- Plain: texts divided, headings, names; no program stands in this file. -/
import Derived.Test.YtkahplbjbidemaaGreatDoorWdA
import Derived.Lib.Split
import Derived.Lib.IndexMore
namespace Go.Proofs.YtkahplbjbidemaaGreatDoor
namespace Hd
open Go.Lib Rc

theorem split_miss {s sep : By} (h : index s sep = -1) : split s sep = [s] := by
  unfold split
  rw [count_miss h]
  rfl
theorem split_hit {s sep : By} {i : Nat} (hs : sep ≠ []) (h : index s sep = i) : split s sep = s.take i :: split (s.drop (i + sep.length)) sep := by
  unfold split
  rw [count_hit hs h, Nat.add_comm]
  have hm : ¬ (index s sep == -1) = true := fun e => by have := beq_iff_eq.1 e; omega
  rw [splitK, if_neg hm]
  have e : (index s sep).toNat = i := by omega
  rw [e, Nat.add_zero]
theorem split_ne (s sep : By) : split s sep ≠ [] := by
  unfold split
  cases count s sep with
  | zero => simp [splitK]
  | succ n => unfold splitK; split <;> simp
/-- Does a text contain another one? -/
theorem split_len {s sep : By} (hs : sep ≠ []) : (1 < (split s sep).length) = (contains s sep = true) := by
  rcases (show index s sep = -1 ∨ 0 ≤ index s sep by have := index_ge s sep; omega) with h | h
  · rw [split_miss h]
    simp [contains, h]
  · obtain ⟨i, hi⟩ : ∃ i : Nat, index s sep = i := ⟨(index s sep).toNat, by omega⟩
    rw [split_hit hs hi]
    have := List.length_pos_iff.2 (split_ne (s.drop (i + sep.length)) sep)
    simp [contains, h, this]
/-- A text cut at a sign is two texts. -/
theorem valid_cut {c : UInt8} (hc : 32 ≤ c.toNat ∧ c.toNat < 127) : ∀ (n : Nat) (w r : By), w.length ≤ n → Tx.valid (w ++ c :: r) = true → Tx.valid w = true ∧ Tx.valid (c :: r) = true
  | 0, w, r, hn, hv => by
    have : w = [] := List.eq_nil_of_length_eq_zero (by omega)
    subst this
    exact ⟨rfl, hv⟩
  | n + 1, w, r, hn, hv => by
    by_cases hw : w = []
    · subst hw; exact ⟨rfl, hv⟩
    · have hne : w ++ c :: r ≠ [] := by simp
      obtain ⟨hz, _, hwd, hv2, _⟩ := Tx.valid_head hne hv
      have hle := Tx.rdec_le hne
      have hwl : 0 < w.length := List.length_pos_iff.2 hw
      have hk : (Tx.rdec (w ++ c :: r)).2 ≤ w.length := by
        rcases Nat.lt_or_ge w.length (Tx.rdec (w ++ c :: r)).2 with h9 | h9
        · exfalso
          have hcc : (w ++ c :: r).getD w.length 0 = c := by simp [List.getD_eq_getElem?_getD]
          unfold Tx.rdec Tx.rdecN at h9
          split at h9
          · have h8 : w.length < 1 := h9
            omega
          · split at h9
            · rename_i hq
              split at h9
              · have h7 : w.length < 2 := h9
                have : w.length = 1 := by omega
                rw [this] at hcc
                rw [hcc] at hq
                omega
              · exact absurd h9 (Nat.not_lt_zero _)
            · split at h9
              · rename_i hq
                split at h9
                · have h7 : w.length < 3 := h9
                  have : w.length = 1 ∨ w.length = 2 := by omega
                  rcases this with h8 | h8
                  · rw [h8] at hcc; rw [hcc] at hq; omega
                  · rw [h8] at hcc; rw [hcc] at hq; omega
                · exact absurd h9 (Nat.not_lt_zero _)
              · exact absurd h9 (Nat.not_lt_zero _)
        · exact h9
      have hrd : Tx.rdec w = Tx.rdec (w ++ c :: r) := by
        have h1 := Tx.rdec_head hne hz
        rw [List.take_append_of_le_length hk] at h1
        have hpn : w.take (Tx.rdec (w ++ c :: r)).2 ≠ [] := by
          intro h0
          have := congrArg List.length h0
          rw [List.length_take, List.length_nil] at this
          omega
        have h2 := rdec_append (a := w.take (Tx.rdec (w ++ c :: r)).2) (w.drop (Tx.rdec (w ++ c :: r)).2) hpn (by rw [h1]; exact hz)
        rw [List.take_append_drop] at h2
        rw [h2, h1]
      rw [hwd] at hv2
      rw [List.drop_append_of_le_length hk] at hv2
      obtain ⟨h3, h4⟩ := valid_cut hc n (w.drop (Tx.rdec (w ++ c :: r)).2) r (by rw [List.length_drop]; omega) hv2
      refine ⟨?_, h4⟩
      rw [Tx.valid_step hw, hrd, if_neg hz]
      exact h3
/-- The same where a text begins with signs. -/
theorem valid_tail : ∀ (p r : By), (∀ c ∈ p, 32 ≤ c.toNat ∧ c.toNat < 127) → Tx.valid (p ++ r) = true → Tx.valid r = true
  | [], r, _, h => h
  | c :: p, r, hp, h => by
    have hc := hp c (by simp)
    rw [List.cons_append, Tx.valid_step (by simp), Tx.rdec_asc _ hc, if_neg (show ¬ (c.toNat, 1).2 = 0 by simp)] at h
    exact valid_tail p r (fun x hx => hp x (by simp [hx])) h
theorem valid_parts {a sep b : By} (hs : sep ≠ []) (hc : ∀ c ∈ sep, 32 ≤ c.toNat ∧ c.toNat < 127) (hv : Tx.valid (a ++ sep ++ b) = true) : Tx.valid a = true ∧ Tx.valid b = true := by
  cases sep with
  | nil => exact absurd rfl hs
  | cons c t =>
    rw [List.append_assoc, List.cons_append] at hv
    obtain ⟨h1, h2⟩ := valid_cut (hc c (by simp)) a.length a (t ++ b) (Nat.le_refl _) hv
    refine ⟨h1, valid_tail (c :: t) b hc ?_⟩
    simpa using h2
theorem index_at {s sep : By} {i : Nat} (h : index s sep = i) : s = s.take i ++ sep ++ s.drop (i + sep.length) := by
  have ho : occAt s sep i = true := by
    rcases index_spec s sep with ⟨h1, _⟩ | ⟨k, h1, _, h3, _⟩
    · omega
    · obtain rfl : k = i := by omega
      exact h3
  unfold occAt at ho
  rw [List.isPrefixOf_iff_prefix] at ho
  obtain ⟨t, ht⟩ := ho
  have h1 : s = s.take i ++ s.drop i := (List.take_append_drop i s).symm
  rw [← ht] at h1
  have h2 : s.drop (i + sep.length) = t := by rw [← List.drop_drop, ← ht]; simp
  rw [h2, List.append_assoc]
  exact h1
theorem split_valid {sep : By} (hs : sep ≠ []) (hc : ∀ c ∈ sep, 32 ≤ c.toNat ∧ c.toNat < 127) : ∀ (n : Nat) (s : By), s.length ≤ n → Tx.valid s = true → ∀ p ∈ split s sep, Tx.valid p = true ∧ p.length ≤ s.length
  | n, s, hn, hv, p, hp => by
    rcases (show index s sep = -1 ∨ 0 ≤ index s sep by have := index_ge s sep; omega) with h | h
    · rw [split_miss h, List.mem_singleton] at hp
      rw [hp]
      exact ⟨hv, Nat.le_refl _⟩
    · obtain ⟨i, hi⟩ : ∃ i : Nat, index s sep = i := ⟨(index s sep).toNat, by omega⟩
      have hat := index_at hi
      have hl := congrArg List.length hat
      simp only [List.length_append] at hl
      have hsl : 0 < sep.length := List.length_pos_iff.2 hs
      rw [hat] at hv
      obtain ⟨h1, h2⟩ := valid_parts hs hc hv
      rw [split_hit hs hi, List.mem_cons] at hp
      rcases hp with hp | hp
      · rw [hp]; exact ⟨h1, by rw [List.length_take]; omega⟩
      · cases n with
        | zero => omega
        | succ n =>
          have := split_valid hs hc n (s.drop (i + sep.length)) (by omega) h2 p hp
          exact ⟨this.1, by omega⟩
theorem split_count {sep : By} (hs : sep ≠ []) : ∀ (n : Nat) (s : By), s.length ≤ n → (split s sep).length ≤ s.length + 1
  | n, s, hn => by
    rcases (show index s sep = -1 ∨ 0 ≤ index s sep by have := index_ge s sep; omega) with h | h
    · rw [split_miss h]; simp
    · obtain ⟨i, hi⟩ : ∃ i : Nat, index s sep = i := ⟨(index s sep).toNat, by omega⟩
      have hat := index_at hi
      have hl := congrArg List.length hat
      simp only [List.length_append] at hl
      have hsl : 0 < sep.length := List.length_pos_iff.2 hs
      rw [split_hit hs hi, List.length_cons]
      cases n with
      | zero => omega
      | succ n =>
        have := split_count hs n (s.drop (i + sep.length)) (by omega)
        omega

/-! ### headings -/
def parts (s : By) : List By := ((split s [45, 45]).map Tx.clean).filter fun p => p != []
def norm (s : By) : By := join (((parts s).map fun p => join (Tx.words p) [32]).filter fun p => p != []) [45, 45]
def digB (c : UInt8) : Bool := decide (48 ≤ c.toNat ∧ c.toNat ≤ 57)
/-- Dates: four digits and a hyphen, and four digits more if there are any. -/
def dates : By → Bool
  | [a, b, c, d, e] => digB a && digB b && digB c && digB d && e == 45
  | [a, b, c, d, e, f, g, h, i] => digB a && digB b && digB c && digB d && e == 45 && digB f && digB g && digB h && digB i
  | _ => false
end Hd
end Go.Proofs.YtkahplbjbidemaaGreatDoor
