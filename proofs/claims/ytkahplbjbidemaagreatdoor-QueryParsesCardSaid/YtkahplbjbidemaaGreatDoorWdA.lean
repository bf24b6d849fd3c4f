/- Plain: the fields of a text, a text folded, and its words; no program stands in this file. -/
import Derived.Test.YtkahplbjbidemaaGreatDoorRcA
namespace Go.Proofs.YtkahplbjbidemaaGreatDoor
namespace Tx
open Go.Lib Rc

/-! ### what strings.FieldsFunc makes of a text -/
def wStep (p : Nat → Bool) (st : List By × By) (q : By) (c : Nat) : List By × By :=
  if p c = true then (if st.2 = [] then st else (st.1 ++ [st.2], [])) else (st.1, st.2 ++ q)
def wEnd (st : List By × By) : List By := if st.2 = [] then st.1 else st.1 ++ [st.2]
def fieldsT (p : Nat → Bool) (l : By) : List By := wEnd (foldT (wStep p) ([], []) l)
def spans (s : ByteArray) (acc : List (Nat × Nat)) : List By := acc.map fun x => (s.extract x.1 x.2).data.toList
def openW (s : ByteArray) (st : Option Nat) (pos : Nat) : By := match st with
  | some a => (s.extract a pos).data.toList
  | none => []
theorem words_go (p : Nat → Bool) (s : ByteArray) : ∀ (f pos : Nat) (st : Option Nat) (acc : List (Nat × Nat)),
    pos ≤ s.size → s.size ≤ pos + f → valid (s.data.toList.drop pos) = true → (∀ a, st = some a → a < pos) →
    spans s (closeSpans s (spansFromP p s f pos st acc)) = wEnd (foldT (wStep p) (spans s acc, openW s st pos) (s.data.toList.drop pos))
  | f, pos, st, acc, hp, hf, hv, hs => by
    by_cases hlt : pos < s.size
    · obtain ⟨g, rfl⟩ : ∃ g, f = g + 1 := ⟨f - 1, by omega⟩
      have hne : s.data.toList.drop pos ≠ [] := by
        intro h0
        have := congrArg List.length h0
        rw [List.length_drop, ← size_eq] at this
        simp at this
        omega
      obtain ⟨hz, hd, hw, hv2, _⟩ := valid_head hne hv
      have hdec : Utf8.decode s pos = rdec (s.data.toList.drop pos) := by rw [← decodeL_drop, hd]
      have hle : wid (s.data.toList.drop pos) ≤ s.size - pos := by
        have := wid_le hne
        rw [List.length_drop, ← size_eq] at this
        omega
      have hwp := wid_pos (s.data.toList.drop pos)
      rw [foldT_step (wStep p) _ hne]
      simp only [spansFromP, if_pos hlt, hdec]
      rw [← hw]
      rw [List.drop_drop] at hv2 ⊢
      generalize hk : wid (s.data.toList.drop pos) = k at *
      generalize hc : (rdec (s.data.toList.drop pos)).1 = c at *
      cases hb : p c with
      | true =>
        simp only [if_true]
        cases st with
        | none =>
          have e : wStep p (spans s acc, openW s none pos) ((s.data.toList.drop pos).take k) c = (spans s acc, openW s none (pos + k)) := by simp [wStep, hb, openW]
          rw [e]
          exact words_go p s g (pos + k) none acc (by omega) (by omega) hv2 (fun a h => by cases h)
        | some a =>
          have h1 := hs a rfl
          have e : wStep p (spans s acc, openW s (some a) pos) ((s.data.toList.drop pos).take k) c = (spans s (acc ++ [(a, pos)]), openW s none (pos + k)) := by
            simp [wStep, hb, openW, spans]
            omega
          rw [e]
          exact words_go p s g (pos + k) none (acc ++ [(a, pos)]) (by omega) (by omega) hv2 (fun a h => by cases h)
      | false =>
        simp only [Bool.false_eq_true, if_false]
        cases st with
        | some a =>
          have h1 := hs a rfl
          have e : wStep p (spans s acc, openW s (some a) pos) ((s.data.toList.drop pos).take k) c = (spans s acc, openW s (some a) (pos + k)) := by
            simp only [wStep, hb, openW, Bool.false_eq_true, if_false]
            rw [extract_more s a pos k (by omega)]
          rw [e]
          exact words_go p s g (pos + k) (some a) acc (by omega) (by omega) hv2 (fun b h => by cases h; omega)
        | none =>
          have e : wStep p (spans s acc, openW s none pos) ((s.data.toList.drop pos).take k) c = (spans s acc, openW s (some pos) (pos + k)) := by
            simp only [wStep, hb, openW, Bool.false_eq_true, if_false, List.nil_append]
            rw [extract_more s pos pos k (Nat.le_refl _), extract_none]
            rfl
          rw [e]
          exact words_go p s g (pos + k) (some pos) acc (by omega) (by omega) hv2 (fun b h => by cases h; omega)
    · have hps : pos = s.size := by omega
      rw [spansFromP_end p s f _ _ _ hlt]
      have hnil : s.data.toList.drop pos = [] := List.drop_eq_nil_of_le (by rw [← size_eq]; omega)
      rw [hnil, foldT_nil]
      cases st with
      | none => simp [closeSpans, openW, wEnd]
      | some a =>
        have h1 := hs a rfl
        simp [closeSpans, openW, wEnd, spans, hps]
        omega
  termination_by f => f
theorem fieldsT_eq (p : Nat → Bool) (s : ByteArray) (hv : valid s.data.toList = true) : (goFieldsP p s).map (·.data.toList) = fieldsT p s.data.toList := by
  have h := words_go p s s.size 0 none [] (Nat.zero_le _) (by omega) (by simpa using hv) (fun a h => by cases h)
  rw [List.drop_zero] at h
  unfold fieldsT
  rw [show (([], []) : List By × By) = (spans s [], openW s none 0) from rfl, ← h]
  unfold spans goFieldsP spansOfP
  rw [List.map_map]
  rfl

/-! ### folding -/
/-- What replaces a character; [] if it stays. -/
def foldC (c : Nat) : By :=
  if 65 ≤ c ∧ c ≤ 90 then [UInt8.ofNat (c + 32)]
  else if c < 192 ∨ 255 < c ∨ c = 215 ∨ c = 247 then []
  else if c = 223 then [115, 115]
  else if c = 255 then [121]
  else if (if 224 ≤ c then c - 32 else c) ≤ 197 then [97]
  else if (if 224 ≤ c then c - 32 else c) = 198 then [97, 101]
  else if (if 224 ≤ c then c - 32 else c) = 199 then [99]
  else if (if 224 ≤ c then c - 32 else c) ≤ 203 then [101]
  else if (if 224 ≤ c then c - 32 else c) ≤ 207 then [105]
  else if (if 224 ≤ c then c - 32 else c) = 208 then [100]
  else if (if 224 ≤ c then c - 32 else c) = 209 then [110]
  else if (if 224 ≤ c then c - 32 else c) ≤ 216 then [111]
  else if (if 224 ≤ c then c - 32 else c) ≤ 220 then [117]
  else if (if 224 ≤ c then c - 32 else c) = 221 then [121]
  else [116, 104]
def foldP (q : By) (c : Nat) : By := if foldC c = [] then q else foldC c
def foldStep (out : By) (q : By) (c : Nat) : By := out ++ foldP q c
/-- The reference's Fold. -/
def foldS (l : By) : By := foldT foldStep [] l
def letter (c : Nat) : Bool := decide (97 ≤ c ∧ c ≤ 122) || decide (48 ≤ c ∧ c ≤ 57) || decide (256 ≤ c)
def sepW (c : Nat) : Bool := !letter c
/-- The reference's Words. -/
def words (l : By) : List By := fieldsT sepW (foldS l)
theorem foldC_len0 : ∀ c, c < 256 → (foldC c).length ≤ 2 := by decide +kernel
theorem foldC_low : ∀ c, c < 256 → ∀ b ∈ foldC c, 97 ≤ b.toNat ∧ b.toNat ≤ 122 := by decide +kernel
theorem foldC_high {c : Nat} (h : 256 ≤ c) : foldC c = [] := by
  unfold foldC
  rw [if_neg (by omega), if_pos (by omega)]
theorem foldC_len (c : Nat) : (foldC c).length ≤ 2 := by
  rcases Nat.lt_or_ge c 256 with h | h
  · exact foldC_len0 c h
  · rw [foldC_high h]; simp
theorem foldC_asc (c : Nat) : ∀ b ∈ foldC c, 97 ≤ b.toNat ∧ b.toNat ≤ 122 := by
  rcases Nat.lt_or_ge c 256 with h | h
  · exact foldC_low c h
  · rw [foldC_high h]; simp
theorem rdec_asc {b : UInt8} (r : By) (h : 32 ≤ b.toNat ∧ b.toNat < 127) : rdec (b :: r) = (b.toNat, 1) := by
  unfold rdec
  exact by unfold rdecN; rw [List.getD_cons_zero, if_pos h]
theorem valid_asc : ∀ (l : By), (∀ b ∈ l, 32 ≤ b.toNat ∧ b.toNat < 127) → valid l = true
  | [], _ => rfl
  | b :: r, h => by
    have hb := h b (by simp)
    rw [valid_step (by simp), rdec_asc r hb, if_neg (show ¬ (b.toNat, 1).2 = 0 by simp)]
    exact valid_asc r (fun x hx => h x (by simp [hx]))
theorem valid_foldC (c : Nat) : valid (foldC c) = true := valid_asc _ fun b hb => by have := foldC_asc c b hb; omega
theorem getD_take {l : By} {k j : Nat} (h : j < k) : (l.take k).getD j 0 = l.getD j 0 := by
  rw [List.getD_eq_getElem?_getD, List.getD_eq_getElem?_getD, List.getElem?_take, if_pos h]
/-- A character by itself is read as in its text. -/
theorem rdec_head {l : By} (hne : l ≠ []) (h : (rdec l).2 ≠ 0) : rdec (l.take (rdec l).2) = rdec l := by
  have hl := rdec_le hne
  have h0 : 0 < l.length := List.length_pos_iff.2 hne
  generalize hk : (rdec l).2 = k at *
  have e0 : (l.take k).getD 0 0 = l.getD 0 0 := getD_take (by omega)
  have el : (l.take k).length = k := by rw [List.length_take]; omega
  unfold rdec at hk ⊢
  rw [e0, el]
  unfold rdecN at hk ⊢
  by_cases ha : 32 ≤ (l.getD 0 0).toNat ∧ (l.getD 0 0).toNat < 127
  · simp only [if_pos ha]
  · simp only [if_neg ha] at hk ⊢
    by_cases hb : 194 ≤ (l.getD 0 0).toNat ∧ (l.getD 0 0).toNat < 224 ∧ 1 < l.length ∧ 128 ≤ (l.getD 1 0).toNat ∧ (l.getD 1 0).toNat < 192
    · simp only [if_pos hb] at hk ⊢
      by_cases hc : 160 ≤ ((l.getD 0 0).toNat - 192) * 64 + (l.getD 1 0).toNat - 128
      · rw [if_pos hc] at hk ⊢
        have hk2 : k = 2 := hk.symm
        have e1 : (l.take k).getD 1 0 = l.getD 1 0 := getD_take (by omega)
        rw [e1, if_pos ⟨hb.1, hb.2.1, by omega, hb.2.2.2⟩, if_pos hc]
      · rw [if_neg hc] at hk
        exact absurd hk.symm h
    · rw [if_neg hb] at hk
      rw [if_neg hb]
      by_cases hd : 224 ≤ (l.getD 0 0).toNat ∧ (l.getD 0 0).toNat < 240 ∧ 2 < l.length ∧ 128 ≤ (l.getD 1 0).toNat ∧ (l.getD 1 0).toNat < 192 ∧ 128 ≤ (l.getD 2 0).toNat ∧ (l.getD 2 0).toNat < 192
      · rw [if_pos hd] at hk
        rw [if_pos hd]
        split at hk
        · rename_i hq
          have hk3 : k = 3 := hk.symm
          have e1 : (l.take k).getD 1 0 = l.getD 1 0 := getD_take (by omega)
          have e2 : (l.take k).getD 2 0 = l.getD 2 0 := getD_take (by omega)
          rw [e1, e2, if_neg (by omega), if_pos ⟨hd.1, hd.2.1, by omega, hd.2.2.2⟩]
        · exact absurd hk.symm h
      · rw [if_neg hd] at hk
        exact absurd hk.symm h
theorem valid_piece {l : By} (hne : l ≠ []) (hv : valid l = true) : valid (l.take (wid l)) = true ∧ l.take (wid l) ≠ [] := by
  obtain ⟨hz, _, hw, _, _⟩ := valid_head hne hv
  have hl := rdec_le hne
  have hlp : 0 < l.length := List.length_pos_iff.2 hne
  have hn : l.take (wid l) ≠ [] := by
    intro h0
    have := congrArg List.length h0
    rw [List.length_take, hw, List.length_nil] at this
    omega
  refine ⟨?_, hn⟩
  rw [hw] at hn ⊢
  have hr := rdec_head hne hz
  rw [valid_step hn, hr, if_neg hz, List.drop_eq_nil_of_le (by rw [List.length_take]; omega)]
  rfl
/-- What holds of every step of a fold over a text's characters. -/
theorem foldT_ind {σ : Type} (f : σ → By → Nat → σ) (I : σ → By → Prop) (hstep : ∀ st l, l ≠ [] → valid l = true → I st l → I (f st (l.take (wid l)) (rdec l).1) (l.drop (wid l))) : ∀ (n : Nat) (st : σ) (l : By), l.length ≤ n → valid l = true → I st l → I (foldT f st l) []
  | 0, st, l, hn, hv, h => by
    have : l = [] := List.eq_nil_of_length_eq_zero (by omega)
    subst this
    rw [foldT_nil]
    exact h
  | n + 1, st, l, hn, hv, h => by
    by_cases hne : l = []
    · subst hne; rw [foldT_nil]; exact h
    · obtain ⟨_, _, hw, hv2, _⟩ := valid_head hne hv
      have hwp := wid_pos l
      rw [foldT_step f _ hne]
      exact foldT_ind f I hstep n _ _ (by rw [List.length_drop]; omega) (by rw [hw] at hv2 ⊢; exact hv2) (hstep st l hne hv h)
theorem foldS_valid {l : By} (hv : valid l = true) : valid (foldS l) = true := by
  refine foldT_ind foldStep (fun out _ => valid out = true) (fun out m hne hm ho => ?_) l.length [] l (Nat.le_refl _) hv rfl
  unfold foldStep foldP
  refine valid_app ho ?_
  split
  · exact (valid_piece hne hm).1
  · exact valid_foldC _
theorem foldS_len {l : By} (hv : valid l = true) : (foldS l).length ≤ 2 * l.length := by
  have := foldT_ind foldStep (fun out m => out.length + 2 * m.length ≤ 2 * l.length) (fun out m hne hm ho => by
    have hwl := wid_le hne
    have hwp := wid_pos m
    have hc := foldC_len (rdec m).1
    unfold foldStep foldP
    rw [List.length_append, List.length_drop]
    split
    · rw [List.length_take]; omega
    · omega) l.length [] l (Nat.le_refl _) hv (by simp)
  simpa [foldS] using this
/-- The words of a text are texts, none is empty, and all together are no longer. -/
theorem fieldsT_good (p : Nat → Bool) {l : By} (hv : valid l = true) : (∀ w ∈ fieldsT p l, valid w = true ∧ w ≠ []) ∧ lens (fieldsT p l) ≤ l.length ∧ (fieldsT p l).length ≤ l.length := by
  have hlen : ∀ (a : List By) (b : By), lens (a ++ [b]) = lens a + b.length := fun a b => by simp [lens]
  have h := foldT_ind (wStep p) (fun st m => (∀ w ∈ st.1, valid w = true ∧ w ≠ []) ∧ valid st.2 = true ∧ lens st.1 + st.2.length + m.length ≤ l.length ∧ st.1.length + st.2.length + m.length ≤ l.length + (if st.2 = [] then 0 else 0)) (fun st m hne hm ⟨h1, h2, h3, h4⟩ => by
    have hwl := wid_le hne
    have hwp := wid_pos m
    have hpc := valid_piece hne hm
    unfold wStep
    rw [List.length_drop]
    split
    · split
      · exact ⟨h1, h2, by omega, by simp at h4 ⊢; omega⟩
      · rename_i h9
        have h8 : 0 < st.2.length := List.length_pos_iff.2 h9
        refine ⟨fun w hw => ?_, rfl, by rw [hlen]; simp; omega, by simp at h4 ⊢; omega⟩
        rcases List.mem_append.1 hw with hw | hw
        · exact h1 w hw
        · simp at hw; rw [hw]; exact ⟨h2, h9⟩
    · refine ⟨h1, valid_app h2 hpc.1, ?_, ?_⟩
      · simp only [List.length_append, List.length_take]; omega
      · simp at h4 ⊢; omega) l.length ([], []) l (Nat.le_refl _) hv ⟨by simp, rfl, by simp [lens], by simp⟩
  obtain ⟨h1, h2, h3, h4⟩ := h
  unfold fieldsT wEnd
  simp only [List.length_nil, Nat.add_zero] at h3
  simp at h4
  split
  · exact ⟨h1, by omega, by omega⟩
  · rename_i h9
    have h8 : 0 < (foldT (wStep p) ([], []) l).2.length := List.length_pos_iff.2 h9
    refine ⟨fun w hw => ?_, by rw [hlen]; exact h3, by rw [List.length_append]; simp; omega⟩
    rcases List.mem_append.1 hw with hw | hw
    · exact h1 w hw
    · simp at hw; rw [hw]; exact ⟨h2, h9⟩
end Tx
end Go.Proofs.YtkahplbjbidemaaGreatDoor
