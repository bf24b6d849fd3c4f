/- Plain: the fields of a text, a text folded, and its words; no program stands in this file. -/
import Derived.Test.YtcjalpegffldaaaGreatDoorJb
import Derived.Test.YtcjalpegffldaaaGreatDoorJa
import Derived.Test.YtcjalpegffldaaaGreatDoorJc
import Derived.Laws.OwnMore
namespace Go.Proofs.YtcjalpegffldaaaGreatDoor
namespace Tx
open Go.Lib Rc

/-! ### what strings.FieldsFunc makes of a text -/
def wStep (p : Nat → Bool) (st : List By × By) (q : By) (c : Nat) : List By × By :=
  if p c = true then (if st.2 = [] then st else (st.1 ++ [st.2], [])) else (st.1, st.2 ++ q)
def wEnd (st : List By × By) : List By := if st.2 = [] then st.1 else st.1 ++ [st.2]
def fieldsT (p : Nat → Bool) (l : By) : List By := wEnd (foldT (wStep p) ([], []) l)
def spans (s : ByteArray) (acc : List (Nat × Nat)) : List By := acc.map fun x => (s.extract x.1 x.2).data.toList
def openW (s : ByteArray) (st : Option Nat) (pos : Nat) : By := match st with
  | some a => (s.extract a pos).data.toList
  | none => []
theorem words_go (p : Nat → Bool) (s : ByteArray) : ∀ (f pos : Nat) (st : Option Nat) (acc : List (Nat × Nat)),
    pos ≤ s.size → s.size ≤ pos + f → valid (s.data.toList.drop pos) = true → (∀ a, st = some a → a < pos) →
    spans s (closeSpans s (spansFromP p s f pos st acc)) = wEnd (foldT (wStep p) (spans s acc, openW s st pos) (s.data.toList.drop pos))
  | f, pos, st, acc, hp, hf, hv, hs => by
    by_cases hlt : pos < s.size
    · obtain ⟨g, rfl⟩ : ∃ g, f = g + 1 := ⟨f - 1, by omega⟩
      have hne : s.data.toList.drop pos ≠ [] := by
        intro h0
        have := congrArg List.length h0
        rw [List.length_drop, ← size_eq] at this
        simp at this
        omega
      obtain ⟨hz, hd, hw, hv2, _⟩ := valid_head hne hv
      have hdec : Utf8.decode s pos = rdec (s.data.toList.drop pos) := by rw [← decodeL_drop, hd]
      have hle : wid (s.data.toList.drop pos) ≤ s.size - pos := by
        have := wid_le hne
        rw [List.length_drop, ← size_eq] at this
        omega
      have hwp := wid_pos (s.data.toList.drop pos)
      rw [foldT_step (wStep p) _ hne]
      simp only [spansFromP, if_pos hlt, hdec]
      rw [← hw]
      rw [List.drop_drop] at hv2 ⊢
      generalize hk : wid (s.data.toList.drop pos) = k at *
      generalize hc : (rdec (s.data.toList.drop pos)).1 = c at *
      cases hb : p c with
      | true =>
        simp only [if_true]
        cases st with
        | none =>
          have e : wStep p (spans s acc, openW s none pos) ((s.data.toList.drop pos).take k) c = (spans s acc, openW s none (pos + k)) := by simp [wStep, hb, openW]
          rw [e]
          exact words_go p s g (pos + k) none acc (by omega) (by omega) hv2 (fun a h => by cases h)
        | some a =>
          have h1 := hs a rfl
          have e : wStep p (spans s acc, openW s (some a) pos) ((s.data.toList.drop pos).take k) c = (spans s (acc ++ [(a, pos)]), openW s none (pos + k)) := by
            simp [wStep, hb, openW, spans]
            omega
          rw [e]
          exact words_go p s g (pos + k) none (acc ++ [(a, pos)]) (by omega) (by omega) hv2 (fun a h => by cases h)
      | false =>
        simp only [Bool.false_eq_true, if_false]
        cases st with
        | some a =>
          have h1 := hs a rfl
          have e : wStep p (spans s acc, openW s (some a) pos) ((s.data.toList.drop pos).take k) c = (spans s acc, openW s (some a) (pos + k)) := by
            simp only [wStep, hb, openW, Bool.false_eq_true, if_false]
            rw [extract_more s a pos k (by omega)]
          rw [e]
          exact words_go p s g (pos + k) (some a) acc (by omega) (by omega) hv2 (fun b h => by cases h; omega)
        | none =>
          have e : wStep p (spans s acc, openW s none pos) ((s.data.toList.drop pos).take k) c = (spans s acc, openW s (some pos) (pos + k)) := by
            simp only [wStep, hb, openW, Bool.false_eq_true, if_false, List.nil_append]
            rw [extract_more s pos pos k (Nat.le_refl _), extract_none]
            rfl
          rw [e]
          exact words_go p s g (pos + k) (some pos) acc (by omega) (by omega) hv2 (fun b h => by cases h; omega)
    · have hps : pos = s.size := by omega
      rw [spansFromP_end p s f _ _ _ hlt]
      have hnil : s.data.toList.drop pos = [] := List.drop_eq_nil_of_le (by rw [← size_eq]; omega)
      rw [hnil, foldT_nil]
      cases st with
      | none => simp [closeSpans, openW, wEnd]
      | some a =>
        have h1 := hs a rfl
        simp [closeSpans, openW, wEnd, spans, hps]
        omega
  termination_by f => f
theorem fieldsT_eq (p : Nat → Bool) (s : ByteArray) (hv : valid s.data.toList = true) : (goFieldsP p s).map (·.data.toList) = fieldsT p s.data.toList := by
  have h := words_go p s s.size 0 none [] (Nat.zero_le _) (by omega) (by simpa using hv) (fun a h => by cases h)
  rw [List.drop_zero] at h
  unfold fieldsT
  rw [show (([], []) : List By × By) = (spans s [], openW s none 0) from rfl, ← h]
  unfold spans goFieldsP spansOfP
  rw [List.map_map]
  rfl

/-! ### folding -/
/-- What replaces a character; [] if it stays. -/
def foldC (c : Nat) : By :=
  if 65 ≤ c ∧ c ≤ 90 then [UInt8.ofNat (c + 32)]
  else if c < 192 ∨ 255 < c ∨ c = 215 ∨ c = 247 then []
  else if c = 223 then [115, 115]
  else if c = 255 then [121]
  else if (if 224 ≤ c then c - 32 else c) ≤ 197 then [97]
  else if (if 224 ≤ c then c - 32 else c) = 198 then [97, 101]
  else if (if 224 ≤ c then c - 32 else c) = 199 then [99]
  else if (if 224 ≤ c then c - 32 else c) ≤ 203 then [101]
  else if (if 224 ≤ c then c - 32 else c) ≤ 207 then [105]
  else if (if 224 ≤ c then c - 32 else c) = 208 then [100]
  else if (if 224 ≤ c then c - 32 else c) = 209 then [110]
  else if (if 224 ≤ c then c - 32 else c) ≤ 216 then [111]
  else if (if 224 ≤ c then c - 32 else c) ≤ 220 then [117]
  else if (if 224 ≤ c then c - 32 else c) = 221 then [121]
  else [116, 104]
def foldP (q : By) (c : Nat) : By := if foldC c = [] then q else foldC c
def foldStep (out : By) (q : By) (c : Nat) : By := out ++ foldP q c
/-- The reference's Fold. -/
def foldS (l : By) : By := foldT foldStep [] l
def letter (c : Nat) : Bool := decide (97 ≤ c ∧ c ≤ 122) || decide (48 ≤ c ∧ c ≤ 57) || decide (256 ≤ c)
def sepW (c : Nat) : Bool := !letter c
/-- The reference's Words. -/
def words (l : By) : List By := fieldsT sepW (foldS l)
theorem foldC_len0 : ∀ c, c < 256 → (foldC c).length ≤ 2 := by decide +kernel
theorem foldC_low : ∀ c, c < 256 → ∀ b ∈ foldC c, 97 ≤ b.toNat ∧ b.toNat ≤ 122 := by decide +kernel
theorem foldC_high {c : Nat} (h : 256 ≤ c) : foldC c = [] := by
  unfold foldC
  rw [if_neg (by omega), if_pos (by omega)]
theorem foldC_len (c : Nat) : (foldC c).length ≤ 2 := by
  rcases Nat.lt_or_ge c 256 with h | h
  · exact foldC_len0 c h
  · rw [foldC_high h]; simp
theorem foldC_asc (c : Nat) : ∀ b ∈ foldC c, 97 ≤ b.toNat ∧ b.toNat ≤ 122 := by
  rcases Nat.lt_or_ge c 256 with h | h
  · exact foldC_low c h
  · rw [foldC_high h]; simp
theorem rdec_asc {b : UInt8} (r : By) (h : 32 ≤ b.toNat ∧ b.toNat < 127) : rdec (b :: r) = (b.toNat, 1) := by
  unfold rdec
  exact by unfold rdecN; rw [List.getD_cons_zero, if_pos h]
theorem valid_asc : ∀ (l : By), (∀ b ∈ l, 32 ≤ b.toNat ∧ b.toNat < 127) → valid l = true
  | [], _ => rfl
  | b :: r, h => by
    have hb := h b (by simp)
    rw [valid_step (by simp), rdec_asc r hb, if_neg (show ¬ (b.toNat, 1).2 = 0 by simp)]
    exact valid_asc r (fun x hx => h x (by simp [hx]))
theorem valid_foldC (c : Nat) : valid (foldC c) = true := valid_asc _ fun b hb => by have := foldC_asc c b hb; omega
theorem getD_take {l : By} {k j : Nat} (h : j < k) : (l.take k).getD j 0 = l.getD j 0 := by
  rw [List.getD_eq_getElem?_getD, List.getD_eq_getElem?_getD, List.getElem?_take, if_pos h]
/-- A character by itself is read as in its text. -/
theorem rdec_head {l : By} (hne : l ≠ []) (h : (rdec l).2 ≠ 0) : rdec (l.take (rdec l).2) = rdec l := by
  have hl := rdec_le hne
  have h0 : 0 < l.length := List.length_pos_iff.2 hne
  generalize hk : (rdec l).2 = k at *
  have e0 : (l.take k).getD 0 0 = l.getD 0 0 := getD_take (by omega)
  have el : (l.take k).length = k := by rw [List.length_take]; omega
  unfold rdec at hk ⊢
  rw [e0, el]
  unfold rdecN at hk ⊢
  by_cases ha : 32 ≤ (l.getD 0 0).toNat ∧ (l.getD 0 0).toNat < 127
  · simp only [if_pos ha]
  · simp only [if_neg ha] at hk ⊢
    by_cases hb : 194 ≤ (l.getD 0 0).toNat ∧ (l.getD 0 0).toNat < 224 ∧ 1 < l.length ∧ 128 ≤ (l.getD 1 0).toNat ∧ (l.getD 1 0).toNat < 192
    · simp only [if_pos hb] at hk ⊢
      by_cases hc : 160 ≤ ((l.getD 0 0).toNat - 192) * 64 + (l.getD 1 0).toNat - 128
      · rw [if_pos hc] at hk ⊢
        have hk2 : k = 2 := hk.symm
        have e1 : (l.take k).getD 1 0 = l.getD 1 0 := getD_take (by omega)
        rw [e1, if_pos ⟨hb.1, hb.2.1, by omega, hb.2.2.2⟩, if_pos hc]
      · rw [if_neg hc] at hk
        exact absurd hk.symm h
    · rw [if_neg hb] at hk
      rw [if_neg hb]
      by_cases hd : 224 ≤ (l.getD 0 0).toNat ∧ (l.getD 0 0).toNat < 240 ∧ 2 < l.length ∧ 128 ≤ (l.getD 1 0).toNat ∧ (l.getD 1 0).toNat < 192 ∧ 128 ≤ (l.getD 2 0).toNat ∧ (l.getD 2 0).toNat < 192
      · rw [if_pos hd] at hk
        rw [if_pos hd]
        split at hk
        · rename_i hq
          have hk3 : k = 3 := hk.symm
          have e1 : (l.take k).getD 1 0 = l.getD 1 0 := getD_take (by omega)
          have e2 : (l.take k).getD 2 0 = l.getD 2 0 := getD_take (by omega)
          rw [e1, e2, if_neg (by omega), if_pos ⟨hd.1, hd.2.1, by omega, hd.2.2.2⟩]
        · exact absurd hk.symm h
      · rw [if_neg hd] at hk
        exact absurd hk.symm h
theorem valid_piece {l : By} (hne : l ≠ []) (hv : valid l = true) : valid (l.take (wid l)) = true ∧ l.take (wid l) ≠ [] := by
  obtain ⟨hz, _, hw, _, _⟩ := valid_head hne hv
  have hl := rdec_le hne
  have hlp : 0 < l.length := List.length_pos_iff.2 hne
  have hn : l.take (wid l) ≠ [] := by
    intro h0
    have := congrArg List.length h0
    rw [List.length_take, hw, List.length_nil] at this
    omega
  refine ⟨?_, hn⟩
  rw [hw] at hn ⊢
  have hr := rdec_head hne hz
  rw [valid_step hn, hr, if_neg hz, List.drop_eq_nil_of_le (by rw [List.length_take]; omega)]
  rfl
/-- What holds of every step of a fold over a text's characters. -/
theorem foldT_ind {σ : Type} (f : σ → By → Nat → σ) (I : σ → By → Prop) (hstep : ∀ st l, l ≠ [] → valid l = true → I st l → I (f st (l.take (wid l)) (rdec l).1) (l.drop (wid l))) : ∀ (n : Nat) (st : σ) (l : By), l.length ≤ n → valid l = true → I st l → I (foldT f st l) []
  | 0, st, l, hn, hv, h => by
    have : l = [] := List.eq_nil_of_length_eq_zero (by omega)
    subst this
    rw [foldT_nil]
    exact h
  | n + 1, st, l, hn, hv, h => by
    by_cases hne : l = []
    · subst hne; rw [foldT_nil]; exact h
    · obtain ⟨_, _, hw, hv2, _⟩ := valid_head hne hv
      have hwp := wid_pos l
      rw [foldT_step f _ hne]
      exact foldT_ind f I hstep n _ _ (by rw [List.length_drop]; omega) (by rw [hw] at hv2 ⊢; exact hv2) (hstep st l hne hv h)
theorem foldS_valid {l : By} (hv : valid l = true) : valid (foldS l) = true := by
  refine foldT_ind foldStep (fun out _ => valid out = true) (fun out m hne hm ho => ?_) l.length [] l (Nat.le_refl _) hv rfl
  unfold foldStep foldP
  refine valid_app ho ?_
  split
  · exact (valid_piece hne hm).1
  · exact valid_foldC _
theorem foldS_len {l : By} (hv : valid l = true) : (foldS l).length ≤ 2 * l.length := by
  have := foldT_ind foldStep (fun out m => out.length + 2 * m.length ≤ 2 * l.length) (fun out m hne hm ho => by
    have hwl := wid_le hne
    have hwp := wid_pos m
    have hc := foldC_len (rdec m).1
    unfold foldStep foldP
    rw [List.length_append, List.length_drop]
    split
    · rw [List.length_take]; omega
    · omega) l.length [] l (Nat.le_refl _) hv (by simp)
  simpa [foldS] using this
/-- The words of a text are texts, none is empty, and all together are no longer. -/
theorem fieldsT_good (p : Nat → Bool) {l : By} (hv : valid l = true) : (∀ w ∈ fieldsT p l, valid w = true ∧ w ≠ []) ∧ lens (fieldsT p l) ≤ l.length ∧ (fieldsT p l).length ≤ l.length := by
  have hlen : ∀ (a : List By) (b : By), lens (a ++ [b]) = lens a + b.length := fun a b => by simp [lens]
  have h := foldT_ind (wStep p) (fun st m => (∀ w ∈ st.1, valid w = true ∧ w ≠ []) ∧ valid st.2 = true ∧ lens st.1 + st.2.length + m.length ≤ l.length ∧ st.1.length + st.2.length + m.length ≤ l.length + (if st.2 = [] then 0 else 0)) (fun st m hne hm ⟨h1, h2, h3, h4⟩ => by
    have hwl := wid_le hne
    have hwp := wid_pos m
    have hpc := valid_piece hne hm
    unfold wStep
    rw [List.length_drop]
    split
    · split
      · exact ⟨h1, h2, by omega, by simp at h4 ⊢; omega⟩
      · rename_i h9
        have h8 : 0 < st.2.length := List.length_pos_iff.2 h9
        refine ⟨fun w hw => ?_, rfl, by rw [hlen]; simp; omega, by simp at h4 ⊢; omega⟩
        rcases List.mem_append.1 hw with hw | hw
        · exact h1 w hw
        · simp at hw; rw [hw]; exact ⟨h2, h9⟩
    · refine ⟨h1, valid_app h2 hpc.1, ?_, ?_⟩
      · simp only [List.length_append, List.length_take]; omega
      · simp at h4 ⊢; omega) l.length ([], []) l (Nat.le_refl _) hv ⟨by simp, rfl, by simp [lens], by simp⟩
  obtain ⟨h1, h2, h3, h4⟩ := h
  unfold fieldsT wEnd
  simp only [List.length_nil, Nat.add_zero] at h3
  simp at h4
  split
  · exact ⟨h1, by omega, by omega⟩
  · rename_i h9
    have h8 : 0 < (foldT (wStep p) ([], []) l).2.length := List.length_pos_iff.2 h9
    refine ⟨fun w hw => ?_, by rw [hlen]; exact h3, by rw [List.length_append]; simp; omega⟩
    rcases List.mem_append.1 hw with hw | hw
    · exact h1 w hw
    · simp at hw; rw [hw]; exact ⟨h2, h9⟩
end Tx
end Go.Proofs.YtcjalpegffldaaaGreatDoor

/- The reference's folding and words: what the calls return. -/
namespace Go.Proofs.YtcjalpegffldaaaGreatDoor
open Go.RowKit
set_option maxRecDepth 100000

set_option maxHeartbeats 800000 in
theorem fold_0_c (n : Int) (w : World) (h : 0 ≤ n ∧ n ≤ 64) :
    Calls Tryz.prog 135 #[.int .i64 n] w fun e w' => e = .returned (.string ⟨#[]⟩) ∧ w = w' := by
  have t0 : n < 65 := by omega
  have t1 : n < 192 := by omega
  clear h
  go_enter Tryz.func135, Tryz.ntmps135
  go_wp2
  go_ret
  exact ⟨rfl, rfl⟩
set_option maxHeartbeats 800000 in
theorem fold_91_c (n : Int) (w : World) (h : 91 ≤ n ∧ n ≤ 191) :
    Calls Tryz.prog 135 #[.int .i64 n] w fun e w' => e = .returned (.string ⟨#[]⟩) ∧ w = w' := by
  have t0 : (65 : Int) ≤ n := by omega
  have t1 : (90 : Int) < n := by omega
  have t2 : n < 192 := by omega
  clear h
  go_enter Tryz.func135, Tryz.ntmps135
  go_wp2
  go_ret
  exact ⟨rfl, rfl⟩
set_option maxHeartbeats 800000 in
theorem fold_256_c (n : Int) (w : World) (h : 256 ≤ n ∧ n ≤ 1000000000) :
    Calls Tryz.prog 135 #[.int .i64 n] w fun e w' => e = .returned (.string ⟨#[]⟩) ∧ w = w' := by
  have t0 : (65 : Int) ≤ n := by omega
  have t1 : (90 : Int) < n := by omega
  have t2 : (192 : Int) ≤ n := by omega
  have t3 : (255 : Int) < n := by omega
  clear h
  go_enter Tryz.func135, Tryz.ntmps135
  go_wp2
  go_ret
  exact ⟨rfl, rfl⟩
set_option maxHeartbeats 800000 in
theorem fold_215_c (n : Int) (w : World) (h : 215 ≤ n ∧ n ≤ 215) :
    Calls Tryz.prog 135 #[.int .i64 n] w fun e w' => e = .returned (.string ⟨#[]⟩) ∧ w = w' := by
  have t0 : (65 : Int) ≤ n := by omega
  have t1 : (90 : Int) < n := by omega
  have t2 : (192 : Int) ≤ n := by omega
  have t3 : n ≤ 255 := by omega
  have t4 : (n == (215 : Int)) = true := by simp; omega
  clear h
  go_enter Tryz.func135, Tryz.ntmps135
  go_wp2
  go_ret
  exact ⟨rfl, rfl⟩
set_option maxHeartbeats 800000 in
theorem fold_247_c (n : Int) (w : World) (h : 247 ≤ n ∧ n ≤ 247) :
    Calls Tryz.prog 135 #[.int .i64 n] w fun e w' => e = .returned (.string ⟨#[]⟩) ∧ w = w' := by
  have t0 : (65 : Int) ≤ n := by omega
  have t1 : (90 : Int) < n := by omega
  have t2 : (192 : Int) ≤ n := by omega
  have t3 : n ≤ 255 := by omega
  have t4 : (n == (215 : Int)) = false := by simp; omega
  have t5 : (n == (247 : Int)) = true := by simp; omega
  clear h
  go_enter Tryz.func135, Tryz.ntmps135
  go_wp2
  go_ret
  exact ⟨rfl, rfl⟩
set_option maxHeartbeats 800000 in
theorem fold_223_c (n : Int) (w : World) (h : 223 ≤ n ∧ n ≤ 223) :
    Calls Tryz.prog 135 #[.int .i64 n] w fun e w' => e = .returned (.string ⟨#[115, 115]⟩) ∧ w = w' := by
  have t0 : (65 : Int) ≤ n := by omega
  have t1 : (90 : Int) < n := by omega
  have t2 : (192 : Int) ≤ n := by omega
  have t3 : n ≤ 255 := by omega
  have t4 : (n == (215 : Int)) = false := by simp; omega
  have t5 : (n == (247 : Int)) = false := by simp; omega
  have t6 : (n == (223 : Int)) = true := by simp; omega
  clear h
  go_enter Tryz.func135, Tryz.ntmps135
  go_wp2
  go_ret
  exact ⟨rfl, rfl⟩
set_option maxHeartbeats 800000 in
theorem fold_255_c (n : Int) (w : World) (h : 255 ≤ n ∧ n ≤ 255) :
    Calls Tryz.prog 135 #[.int .i64 n] w fun e w' => e = .returned (.string ⟨#[121]⟩) ∧ w = w' := by
  have t0 : (65 : Int) ≤ n := by omega
  have t1 : (90 : Int) < n := by omega
  have t2 : (192 : Int) ≤ n := by omega
  have t3 : n ≤ 255 := by omega
  have t4 : (n == (215 : Int)) = false := by simp; omega
  have t5 : (n == (247 : Int)) = false := by simp; omega
  have t6 : (n == (223 : Int)) = false := by simp; omega
  have t7 : (n == (255 : Int)) = true := by simp; omega
  clear h
  go_enter Tryz.func135, Tryz.ntmps135
  go_wp2
  go_ret
  exact ⟨rfl, rfl⟩
set_option maxHeartbeats 800000 in
theorem fold_192_c (n : Int) (w : World) (h : 192 ≤ n ∧ n ≤ 197) :
    Calls Tryz.prog 135 #[.int .i64 n] w fun e w' => e = .returned (.string ⟨#[97]⟩) ∧ w = w' := by
  have t0 : (65 : Int) ≤ n := by omega
  have t1 : (90 : Int) < n := by omega
  have t2 : (192 : Int) ≤ n := by omega
  have t3 : n ≤ 255 := by omega
  have t4 : (n == (215 : Int)) = false := by simp; omega
  have t5 : (n == (247 : Int)) = false := by simp; omega
  have t6 : (n == (223 : Int)) = false := by simp; omega
  have t7 : (n == (255 : Int)) = false := by simp; omega
  have t8 : n < 224 := by omega
  have t9 : n ≤ 197 := by omega
  clear h
  go_enter Tryz.func135, Tryz.ntmps135
  go_wp2
  go_ret
  exact ⟨rfl, rfl⟩
set_option maxHeartbeats 800000 in
theorem fold_198_c (n : Int) (w : World) (h : 198 ≤ n ∧ n ≤ 198) :
    Calls Tryz.prog 135 #[.int .i64 n] w fun e w' => e = .returned (.string ⟨#[97, 101]⟩) ∧ w = w' := by
  have t0 : (65 : Int) ≤ n := by omega
  have t1 : (90 : Int) < n := by omega
  have t2 : (192 : Int) ≤ n := by omega
  have t3 : n ≤ 255 := by omega
  have t4 : (n == (215 : Int)) = false := by simp; omega
  have t5 : (n == (247 : Int)) = false := by simp; omega
  have t6 : (n == (223 : Int)) = false := by simp; omega
  have t7 : (n == (255 : Int)) = false := by simp; omega
  have t8 : n < 224 := by omega
  have t9 : (197 : Int) < n := by omega
  have t10 : (n == (198 : Int)) = true := by simp; omega
  clear h
  go_enter Tryz.func135, Tryz.ntmps135
  go_wp2
  go_ret
  exact ⟨rfl, rfl⟩
set_option maxHeartbeats 800000 in
theorem fold_199_c (n : Int) (w : World) (h : 199 ≤ n ∧ n ≤ 199) :
    Calls Tryz.prog 135 #[.int .i64 n] w fun e w' => e = .returned (.string ⟨#[99]⟩) ∧ w = w' := by
  have t0 : (65 : Int) ≤ n := by omega
  have t1 : (90 : Int) < n := by omega
  have t2 : (192 : Int) ≤ n := by omega
  have t3 : n ≤ 255 := by omega
  have t4 : (n == (215 : Int)) = false := by simp; omega
  have t5 : (n == (247 : Int)) = false := by simp; omega
  have t6 : (n == (223 : Int)) = false := by simp; omega
  have t7 : (n == (255 : Int)) = false := by simp; omega
  have t8 : n < 224 := by omega
  have t9 : (197 : Int) < n := by omega
  have t10 : (n == (198 : Int)) = false := by simp; omega
  have t11 : (n == (199 : Int)) = true := by simp; omega
  clear h
  go_enter Tryz.func135, Tryz.ntmps135
  go_wp2
  go_ret
  exact ⟨rfl, rfl⟩
set_option maxHeartbeats 800000 in
theorem fold_200_c (n : Int) (w : World) (h : 200 ≤ n ∧ n ≤ 203) :
    Calls Tryz.prog 135 #[.int .i64 n] w fun e w' => e = .returned (.string ⟨#[101]⟩) ∧ w = w' := by
  have t0 : (65 : Int) ≤ n := by omega
  have t1 : (90 : Int) < n := by omega
  have t2 : (192 : Int) ≤ n := by omega
  have t3 : n ≤ 255 := by omega
  have t4 : (n == (215 : Int)) = false := by simp; omega
  have t5 : (n == (247 : Int)) = false := by simp; omega
  have t6 : (n == (223 : Int)) = false := by simp; omega
  have t7 : (n == (255 : Int)) = false := by simp; omega
  have t8 : n < 224 := by omega
  have t9 : (197 : Int) < n := by omega
  have t10 : (n == (198 : Int)) = false := by simp; omega
  have t11 : (n == (199 : Int)) = false := by simp; omega
  have t12 : n ≤ 203 := by omega
  clear h
  go_enter Tryz.func135, Tryz.ntmps135
  go_wp2
  go_ret
  exact ⟨rfl, rfl⟩
set_option maxHeartbeats 800000 in
theorem fold_204_c (n : Int) (w : World) (h : 204 ≤ n ∧ n ≤ 207) :
    Calls Tryz.prog 135 #[.int .i64 n] w fun e w' => e = .returned (.string ⟨#[105]⟩) ∧ w = w' := by
  have t0 : (65 : Int) ≤ n := by omega
  have t1 : (90 : Int) < n := by omega
  have t2 : (192 : Int) ≤ n := by omega
  have t3 : n ≤ 255 := by omega
  have t4 : (n == (215 : Int)) = false := by simp; omega
  have t5 : (n == (247 : Int)) = false := by simp; omega
  have t6 : (n == (223 : Int)) = false := by simp; omega
  have t7 : (n == (255 : Int)) = false := by simp; omega
  have t8 : n < 224 := by omega
  have t9 : (197 : Int) < n := by omega
  have t10 : (n == (198 : Int)) = false := by simp; omega
  have t11 : (n == (199 : Int)) = false := by simp; omega
  have t12 : (203 : Int) < n := by omega
  have t13 : n ≤ 207 := by omega
  clear h
  go_enter Tryz.func135, Tryz.ntmps135
  go_wp2
  go_ret
  exact ⟨rfl, rfl⟩
set_option maxHeartbeats 800000 in
theorem fold_208_c (n : Int) (w : World) (h : 208 ≤ n ∧ n ≤ 208) :
    Calls Tryz.prog 135 #[.int .i64 n] w fun e w' => e = .returned (.string ⟨#[100]⟩) ∧ w = w' := by
  have t0 : (65 : Int) ≤ n := by omega
  have t1 : (90 : Int) < n := by omega
  have t2 : (192 : Int) ≤ n := by omega
  have t3 : n ≤ 255 := by omega
  have t4 : (n == (215 : Int)) = false := by simp; omega
  have t5 : (n == (247 : Int)) = false := by simp; omega
  have t6 : (n == (223 : Int)) = false := by simp; omega
  have t7 : (n == (255 : Int)) = false := by simp; omega
  have t8 : n < 224 := by omega
  have t9 : (197 : Int) < n := by omega
  have t10 : (n == (198 : Int)) = false := by simp; omega
  have t11 : (n == (199 : Int)) = false := by simp; omega
  have t12 : (203 : Int) < n := by omega
  have t13 : (207 : Int) < n := by omega
  have t14 : (n == (208 : Int)) = true := by simp; omega
  clear h
  go_enter Tryz.func135, Tryz.ntmps135
  go_wp2
  go_ret
  exact ⟨rfl, rfl⟩
set_option maxHeartbeats 800000 in
theorem fold_209_c (n : Int) (w : World) (h : 209 ≤ n ∧ n ≤ 209) :
    Calls Tryz.prog 135 #[.int .i64 n] w fun e w' => e = .returned (.string ⟨#[110]⟩) ∧ w = w' := by
  have t0 : (65 : Int) ≤ n := by omega
  have t1 : (90 : Int) < n := by omega
  have t2 : (192 : Int) ≤ n := by omega
  have t3 : n ≤ 255 := by omega
  have t4 : (n == (215 : Int)) = false := by simp; omega
  have t5 : (n == (247 : Int)) = false := by simp; omega
  have t6 : (n == (223 : Int)) = false := by simp; omega
  have t7 : (n == (255 : Int)) = false := by simp; omega
  have t8 : n < 224 := by omega
  have t9 : (197 : Int) < n := by omega
  have t10 : (n == (198 : Int)) = false := by simp; omega
  have t11 : (n == (199 : Int)) = false := by simp; omega
  have t12 : (203 : Int) < n := by omega
  have t13 : (207 : Int) < n := by omega
  have t14 : (n == (208 : Int)) = false := by simp; omega
  have t15 : (n == (209 : Int)) = true := by simp; omega
  clear h
  go_enter Tryz.func135, Tryz.ntmps135
  go_wp2
  go_ret
  exact ⟨rfl, rfl⟩
set_option maxHeartbeats 800000 in
theorem fold_210_c (n : Int) (w : World) (h : 210 ≤ n ∧ n ≤ 214) :
    Calls Tryz.prog 135 #[.int .i64 n] w fun e w' => e = .returned (.string ⟨#[111]⟩) ∧ w = w' := by
  have t0 : (65 : Int) ≤ n := by omega
  have t1 : (90 : Int) < n := by omega
  have t2 : (192 : Int) ≤ n := by omega
  have t3 : n ≤ 255 := by omega
  have t4 : (n == (215 : Int)) = false := by simp; omega
  have t5 : (n == (247 : Int)) = false := by simp; omega
  have t6 : (n == (223 : Int)) = false := by simp; omega
  have t7 : (n == (255 : Int)) = false := by simp; omega
  have t8 : n < 224 := by omega
  have t9 : (197 : Int) < n := by omega
  have t10 : (n == (198 : Int)) = false := by simp; omega
  have t11 : (n == (199 : Int)) = false := by simp; omega
  have t12 : (203 : Int) < n := by omega
  have t13 : (207 : Int) < n := by omega
  have t14 : (n == (208 : Int)) = false := by simp; omega
  have t15 : (n == (209 : Int)) = false := by simp; omega
  have t16 : n ≤ 216 := by omega
  clear h
  go_enter Tryz.func135, Tryz.ntmps135
  go_wp2
  go_ret
  exact ⟨rfl, rfl⟩
set_option maxHeartbeats 800000 in
theorem fold_216_c (n : Int) (w : World) (h : 216 ≤ n ∧ n ≤ 216) :
    Calls Tryz.prog 135 #[.int .i64 n] w fun e w' => e = .returned (.string ⟨#[111]⟩) ∧ w = w' := by
  have t0 : (65 : Int) ≤ n := by omega
  have t1 : (90 : Int) < n := by omega
  have t2 : (192 : Int) ≤ n := by omega
  have t3 : n ≤ 255 := by omega
  have t4 : (n == (215 : Int)) = false := by simp; omega
  have t5 : (n == (247 : Int)) = false := by simp; omega
  have t6 : (n == (223 : Int)) = false := by simp; omega
  have t7 : (n == (255 : Int)) = false := by simp; omega
  have t8 : n < 224 := by omega
  have t9 : (197 : Int) < n := by omega
  have t10 : (n == (198 : Int)) = false := by simp; omega
  have t11 : (n == (199 : Int)) = false := by simp; omega
  have t12 : (203 : Int) < n := by omega
  have t13 : (207 : Int) < n := by omega
  have t14 : (n == (208 : Int)) = false := by simp; omega
  have t15 : (n == (209 : Int)) = false := by simp; omega
  have t16 : n ≤ 216 := by omega
  clear h
  go_enter Tryz.func135, Tryz.ntmps135
  go_wp2
  go_ret
  exact ⟨rfl, rfl⟩
set_option maxHeartbeats 800000 in
theorem fold_217_c (n : Int) (w : World) (h : 217 ≤ n ∧ n ≤ 220) :
    Calls Tryz.prog 135 #[.int .i64 n] w fun e w' => e = .returned (.string ⟨#[117]⟩) ∧ w = w' := by
  have t0 : (65 : Int) ≤ n := by omega
  have t1 : (90 : Int) < n := by omega
  have t2 : (192 : Int) ≤ n := by omega
  have t3 : n ≤ 255 := by omega
  have t4 : (n == (215 : Int)) = false := by simp; omega
  have t5 : (n == (247 : Int)) = false := by simp; omega
  have t6 : (n == (223 : Int)) = false := by simp; omega
  have t7 : (n == (255 : Int)) = false := by simp; omega
  have t8 : n < 224 := by omega
  have t9 : (197 : Int) < n := by omega
  have t10 : (n == (198 : Int)) = false := by simp; omega
  have t11 : (n == (199 : Int)) = false := by simp; omega
  have t12 : (203 : Int) < n := by omega
  have t13 : (207 : Int) < n := by omega
  have t14 : (n == (208 : Int)) = false := by simp; omega
  have t15 : (n == (209 : Int)) = false := by simp; omega
  have t16 : (216 : Int) < n := by omega
  have t17 : n ≤ 220 := by omega
  clear h
  go_enter Tryz.func135, Tryz.ntmps135
  go_wp2
  go_ret
  exact ⟨rfl, rfl⟩
set_option maxHeartbeats 800000 in
theorem fold_221_c (n : Int) (w : World) (h : 221 ≤ n ∧ n ≤ 221) :
    Calls Tryz.prog 135 #[.int .i64 n] w fun e w' => e = .returned (.string ⟨#[121]⟩) ∧ w = w' := by
  have t0 : (65 : Int) ≤ n := by omega
  have t1 : (90 : Int) < n := by omega
  have t2 : (192 : Int) ≤ n := by omega
  have t3 : n ≤ 255 := by omega
  have t4 : (n == (215 : Int)) = false := by simp; omega
  have t5 : (n == (247 : Int)) = false := by simp; omega
  have t6 : (n == (223 : Int)) = false := by simp; omega
  have t7 : (n == (255 : Int)) = false := by simp; omega
  have t8 : n < 224 := by omega
  have t9 : (197 : Int) < n := by omega
  have t10 : (n == (198 : Int)) = false := by simp; omega
  have t11 : (n == (199 : Int)) = false := by simp; omega
  have t12 : (203 : Int) < n := by omega
  have t13 : (207 : Int) < n := by omega
  have t14 : (n == (208 : Int)) = false := by simp; omega
  have t15 : (n == (209 : Int)) = false := by simp; omega
  have t16 : (216 : Int) < n := by omega
  have t17 : (220 : Int) < n := by omega
  have t18 : (n == (221 : Int)) = true := by simp; omega
  clear h
  go_enter Tryz.func135, Tryz.ntmps135
  go_wp2
  go_ret
  exact ⟨rfl, rfl⟩
set_option maxHeartbeats 800000 in
theorem fold_222_c (n : Int) (w : World) (h : 222 ≤ n ∧ n ≤ 222) :
    Calls Tryz.prog 135 #[.int .i64 n] w fun e w' => e = .returned (.string ⟨#[116, 104]⟩) ∧ w = w' := by
  have t0 : (65 : Int) ≤ n := by omega
  have t1 : (90 : Int) < n := by omega
  have t2 : (192 : Int) ≤ n := by omega
  have t3 : n ≤ 255 := by omega
  have t4 : (n == (215 : Int)) = false := by simp; omega
  have t5 : (n == (247 : Int)) = false := by simp; omega
  have t6 : (n == (223 : Int)) = false := by simp; omega
  have t7 : (n == (255 : Int)) = false := by simp; omega
  have t8 : n < 224 := by omega
  have t9 : (197 : Int) < n := by omega
  have t10 : (n == (198 : Int)) = false := by simp; omega
  have t11 : (n == (199 : Int)) = false := by simp; omega
  have t12 : (203 : Int) < n := by omega
  have t13 : (207 : Int) < n := by omega
  have t14 : (n == (208 : Int)) = false := by simp; omega
  have t15 : (n == (209 : Int)) = false := by simp; omega
  have t16 : (216 : Int) < n := by omega
  have t17 : (220 : Int) < n := by omega
  have t18 : (n == (221 : Int)) = false := by simp; omega
  clear h
  go_enter Tryz.func135, Tryz.ntmps135
  go_wp2
  go_ret
  exact ⟨rfl, rfl⟩
set_option maxHeartbeats 800000 in
theorem fold_224_c (n : Int) (w : World) (h : 224 ≤ n ∧ n ≤ 229) :
    Calls Tryz.prog 135 #[.int .i64 n] w fun e w' => e = .returned (.string ⟨#[97]⟩) ∧ w = w' := by
  obtain ⟨m, hm⟩ : ∃ m, n - 32 = m := ⟨_, rfl⟩
  have hw : IntKind.i64.wrap (n - 32) = m := by rw [IntKind.wrap_i64]; omega
  have t0 : (65 : Int) ≤ n := by omega
  have t1 : (90 : Int) < n := by omega
  have t2 : (192 : Int) ≤ n := by omega
  have t3 : n ≤ 255 := by omega
  have t4 : (n == (215 : Int)) = false := by simp; omega
  have t5 : (n == (247 : Int)) = false := by simp; omega
  have t6 : (n == (223 : Int)) = false := by simp; omega
  have t7 : (n == (255 : Int)) = false := by simp; omega
  have t8 : (224 : Int) ≤ n := by omega
  have t9 : m ≤ 197 := by omega
  clear h hm
  go_enter Tryz.func135, Tryz.ntmps135
  go_wp2
  go_ret
  exact ⟨rfl, rfl⟩
set_option maxHeartbeats 800000 in
theorem fold_230_c (n : Int) (w : World) (h : 230 ≤ n ∧ n ≤ 230) :
    Calls Tryz.prog 135 #[.int .i64 n] w fun e w' => e = .returned (.string ⟨#[97, 101]⟩) ∧ w = w' := by
  obtain ⟨m, hm⟩ : ∃ m, n - 32 = m := ⟨_, rfl⟩
  have hw : IntKind.i64.wrap (n - 32) = m := by rw [IntKind.wrap_i64]; omega
  have t0 : (65 : Int) ≤ n := by omega
  have t1 : (90 : Int) < n := by omega
  have t2 : (192 : Int) ≤ n := by omega
  have t3 : n ≤ 255 := by omega
  have t4 : (n == (215 : Int)) = false := by simp; omega
  have t5 : (n == (247 : Int)) = false := by simp; omega
  have t6 : (n == (223 : Int)) = false := by simp; omega
  have t7 : (n == (255 : Int)) = false := by simp; omega
  have t8 : (224 : Int) ≤ n := by omega
  have t9 : (197 : Int) < m := by omega
  have t10 : (m == (198 : Int)) = true := by simp; omega
  clear h hm
  go_enter Tryz.func135, Tryz.ntmps135
  go_wp2
  go_ret
  exact ⟨rfl, rfl⟩
set_option maxHeartbeats 800000 in
theorem fold_231_c (n : Int) (w : World) (h : 231 ≤ n ∧ n ≤ 231) :
    Calls Tryz.prog 135 #[.int .i64 n] w fun e w' => e = .returned (.string ⟨#[99]⟩) ∧ w = w' := by
  obtain ⟨m, hm⟩ : ∃ m, n - 32 = m := ⟨_, rfl⟩
  have hw : IntKind.i64.wrap (n - 32) = m := by rw [IntKind.wrap_i64]; omega
  have t0 : (65 : Int) ≤ n := by omega
  have t1 : (90 : Int) < n := by omega
  have t2 : (192 : Int) ≤ n := by omega
  have t3 : n ≤ 255 := by omega
  have t4 : (n == (215 : Int)) = false := by simp; omega
  have t5 : (n == (247 : Int)) = false := by simp; omega
  have t6 : (n == (223 : Int)) = false := by simp; omega
  have t7 : (n == (255 : Int)) = false := by simp; omega
  have t8 : (224 : Int) ≤ n := by omega
  have t9 : (197 : Int) < m := by omega
  have t10 : (m == (198 : Int)) = false := by simp; omega
  have t11 : (m == (199 : Int)) = true := by simp; omega
  clear h hm
  go_enter Tryz.func135, Tryz.ntmps135
  go_wp2
  go_ret
  exact ⟨rfl, rfl⟩
set_option maxHeartbeats 800000 in
theorem fold_232_c (n : Int) (w : World) (h : 232 ≤ n ∧ n ≤ 235) :
    Calls Tryz.prog 135 #[.int .i64 n] w fun e w' => e = .returned (.string ⟨#[101]⟩) ∧ w = w' := by
  obtain ⟨m, hm⟩ : ∃ m, n - 32 = m := ⟨_, rfl⟩
  have hw : IntKind.i64.wrap (n - 32) = m := by rw [IntKind.wrap_i64]; omega
  have t0 : (65 : Int) ≤ n := by omega
  have t1 : (90 : Int) < n := by omega
  have t2 : (192 : Int) ≤ n := by omega
  have t3 : n ≤ 255 := by omega
  have t4 : (n == (215 : Int)) = false := by simp; omega
  have t5 : (n == (247 : Int)) = false := by simp; omega
  have t6 : (n == (223 : Int)) = false := by simp; omega
  have t7 : (n == (255 : Int)) = false := by simp; omega
  have t8 : (224 : Int) ≤ n := by omega
  have t9 : (197 : Int) < m := by omega
  have t10 : (m == (198 : Int)) = false := by simp; omega
  have t11 : (m == (199 : Int)) = false := by simp; omega
  have t12 : m ≤ 203 := by omega
  clear h hm
  go_enter Tryz.func135, Tryz.ntmps135
  go_wp2
  go_ret
  exact ⟨rfl, rfl⟩
set_option maxHeartbeats 800000 in
theorem fold_236_c (n : Int) (w : World) (h : 236 ≤ n ∧ n ≤ 239) :
    Calls Tryz.prog 135 #[.int .i64 n] w fun e w' => e = .returned (.string ⟨#[105]⟩) ∧ w = w' := by
  obtain ⟨m, hm⟩ : ∃ m, n - 32 = m := ⟨_, rfl⟩
  have hw : IntKind.i64.wrap (n - 32) = m := by rw [IntKind.wrap_i64]; omega
  have t0 : (65 : Int) ≤ n := by omega
  have t1 : (90 : Int) < n := by omega
  have t2 : (192 : Int) ≤ n := by omega
  have t3 : n ≤ 255 := by omega
  have t4 : (n == (215 : Int)) = false := by simp; omega
  have t5 : (n == (247 : Int)) = false := by simp; omega
  have t6 : (n == (223 : Int)) = false := by simp; omega
  have t7 : (n == (255 : Int)) = false := by simp; omega
  have t8 : (224 : Int) ≤ n := by omega
  have t9 : (197 : Int) < m := by omega
  have t10 : (m == (198 : Int)) = false := by simp; omega
  have t11 : (m == (199 : Int)) = false := by simp; omega
  have t12 : (203 : Int) < m := by omega
  have t13 : m ≤ 207 := by omega
  clear h hm
  go_enter Tryz.func135, Tryz.ntmps135
  go_wp2
  go_ret
  exact ⟨rfl, rfl⟩
set_option maxHeartbeats 800000 in
theorem fold_240_c (n : Int) (w : World) (h : 240 ≤ n ∧ n ≤ 240) :
    Calls Tryz.prog 135 #[.int .i64 n] w fun e w' => e = .returned (.string ⟨#[100]⟩) ∧ w = w' := by
  obtain ⟨m, hm⟩ : ∃ m, n - 32 = m := ⟨_, rfl⟩
  have hw : IntKind.i64.wrap (n - 32) = m := by rw [IntKind.wrap_i64]; omega
  have t0 : (65 : Int) ≤ n := by omega
  have t1 : (90 : Int) < n := by omega
  have t2 : (192 : Int) ≤ n := by omega
  have t3 : n ≤ 255 := by omega
  have t4 : (n == (215 : Int)) = false := by simp; omega
  have t5 : (n == (247 : Int)) = false := by simp; omega
  have t6 : (n == (223 : Int)) = false := by simp; omega
  have t7 : (n == (255 : Int)) = false := by simp; omega
  have t8 : (224 : Int) ≤ n := by omega
  have t9 : (197 : Int) < m := by omega
  have t10 : (m == (198 : Int)) = false := by simp; omega
  have t11 : (m == (199 : Int)) = false := by simp; omega
  have t12 : (203 : Int) < m := by omega
  have t13 : (207 : Int) < m := by omega
  have t14 : (m == (208 : Int)) = true := by simp; omega
  clear h hm
  go_enter Tryz.func135, Tryz.ntmps135
  go_wp2
  go_ret
  exact ⟨rfl, rfl⟩
set_option maxHeartbeats 800000 in
theorem fold_241_c (n : Int) (w : World) (h : 241 ≤ n ∧ n ≤ 241) :
    Calls Tryz.prog 135 #[.int .i64 n] w fun e w' => e = .returned (.string ⟨#[110]⟩) ∧ w = w' := by
  obtain ⟨m, hm⟩ : ∃ m, n - 32 = m := ⟨_, rfl⟩
  have hw : IntKind.i64.wrap (n - 32) = m := by rw [IntKind.wrap_i64]; omega
  have t0 : (65 : Int) ≤ n := by omega
  have t1 : (90 : Int) < n := by omega
  have t2 : (192 : Int) ≤ n := by omega
  have t3 : n ≤ 255 := by omega
  have t4 : (n == (215 : Int)) = false := by simp; omega
  have t5 : (n == (247 : Int)) = false := by simp; omega
  have t6 : (n == (223 : Int)) = false := by simp; omega
  have t7 : (n == (255 : Int)) = false := by simp; omega
  have t8 : (224 : Int) ≤ n := by omega
  have t9 : (197 : Int) < m := by omega
  have t10 : (m == (198 : Int)) = false := by simp; omega
  have t11 : (m == (199 : Int)) = false := by simp; omega
  have t12 : (203 : Int) < m := by omega
  have t13 : (207 : Int) < m := by omega
  have t14 : (m == (208 : Int)) = false := by simp; omega
  have t15 : (m == (209 : Int)) = true := by simp; omega
  clear h hm
  go_enter Tryz.func135, Tryz.ntmps135
  go_wp2
  go_ret
  exact ⟨rfl, rfl⟩
set_option maxHeartbeats 800000 in
theorem fold_242_c (n : Int) (w : World) (h : 242 ≤ n ∧ n ≤ 246) :
    Calls Tryz.prog 135 #[.int .i64 n] w fun e w' => e = .returned (.string ⟨#[111]⟩) ∧ w = w' := by
  obtain ⟨m, hm⟩ : ∃ m, n - 32 = m := ⟨_, rfl⟩
  have hw : IntKind.i64.wrap (n - 32) = m := by rw [IntKind.wrap_i64]; omega
  have t0 : (65 : Int) ≤ n := by omega
  have t1 : (90 : Int) < n := by omega
  have t2 : (192 : Int) ≤ n := by omega
  have t3 : n ≤ 255 := by omega
  have t4 : (n == (215 : Int)) = false := by simp; omega
  have t5 : (n == (247 : Int)) = false := by simp; omega
  have t6 : (n == (223 : Int)) = false := by simp; omega
  have t7 : (n == (255 : Int)) = false := by simp; omega
  have t8 : (224 : Int) ≤ n := by omega
  have t9 : (197 : Int) < m := by omega
  have t10 : (m == (198 : Int)) = false := by simp; omega
  have t11 : (m == (199 : Int)) = false := by simp; omega
  have t12 : (203 : Int) < m := by omega
  have t13 : (207 : Int) < m := by omega
  have t14 : (m == (208 : Int)) = false := by simp; omega
  have t15 : (m == (209 : Int)) = false := by simp; omega
  have t16 : m ≤ 216 := by omega
  clear h hm
  go_enter Tryz.func135, Tryz.ntmps135
  go_wp2
  go_ret
  exact ⟨rfl, rfl⟩
set_option maxHeartbeats 800000 in
theorem fold_248_c (n : Int) (w : World) (h : 248 ≤ n ∧ n ≤ 248) :
    Calls Tryz.prog 135 #[.int .i64 n] w fun e w' => e = .returned (.string ⟨#[111]⟩) ∧ w = w' := by
  obtain ⟨m, hm⟩ : ∃ m, n - 32 = m := ⟨_, rfl⟩
  have hw : IntKind.i64.wrap (n - 32) = m := by rw [IntKind.wrap_i64]; omega
  have t0 : (65 : Int) ≤ n := by omega
  have t1 : (90 : Int) < n := by omega
  have t2 : (192 : Int) ≤ n := by omega
  have t3 : n ≤ 255 := by omega
  have t4 : (n == (215 : Int)) = false := by simp; omega
  have t5 : (n == (247 : Int)) = false := by simp; omega
  have t6 : (n == (223 : Int)) = false := by simp; omega
  have t7 : (n == (255 : Int)) = false := by simp; omega
  have t8 : (224 : Int) ≤ n := by omega
  have t9 : (197 : Int) < m := by omega
  have t10 : (m == (198 : Int)) = false := by simp; omega
  have t11 : (m == (199 : Int)) = false := by simp; omega
  have t12 : (203 : Int) < m := by omega
  have t13 : (207 : Int) < m := by omega
  have t14 : (m == (208 : Int)) = false := by simp; omega
  have t15 : (m == (209 : Int)) = false := by simp; omega
  have t16 : m ≤ 216 := by omega
  clear h hm
  go_enter Tryz.func135, Tryz.ntmps135
  go_wp2
  go_ret
  exact ⟨rfl, rfl⟩
set_option maxHeartbeats 800000 in
theorem fold_249_c (n : Int) (w : World) (h : 249 ≤ n ∧ n ≤ 252) :
    Calls Tryz.prog 135 #[.int .i64 n] w fun e w' => e = .returned (.string ⟨#[117]⟩) ∧ w = w' := by
  obtain ⟨m, hm⟩ : ∃ m, n - 32 = m := ⟨_, rfl⟩
  have hw : IntKind.i64.wrap (n - 32) = m := by rw [IntKind.wrap_i64]; omega
  have t0 : (65 : Int) ≤ n := by omega
  have t1 : (90 : Int) < n := by omega
  have t2 : (192 : Int) ≤ n := by omega
  have t3 : n ≤ 255 := by omega
  have t4 : (n == (215 : Int)) = false := by simp; omega
  have t5 : (n == (247 : Int)) = false := by simp; omega
  have t6 : (n == (223 : Int)) = false := by simp; omega
  have t7 : (n == (255 : Int)) = false := by simp; omega
  have t8 : (224 : Int) ≤ n := by omega
  have t9 : (197 : Int) < m := by omega
  have t10 : (m == (198 : Int)) = false := by simp; omega
  have t11 : (m == (199 : Int)) = false := by simp; omega
  have t12 : (203 : Int) < m := by omega
  have t13 : (207 : Int) < m := by omega
  have t14 : (m == (208 : Int)) = false := by simp; omega
  have t15 : (m == (209 : Int)) = false := by simp; omega
  have t16 : (216 : Int) < m := by omega
  have t17 : m ≤ 220 := by omega
  clear h hm
  go_enter Tryz.func135, Tryz.ntmps135
  go_wp2
  go_ret
  exact ⟨rfl, rfl⟩
set_option maxHeartbeats 800000 in
theorem fold_253_c (n : Int) (w : World) (h : 253 ≤ n ∧ n ≤ 253) :
    Calls Tryz.prog 135 #[.int .i64 n] w fun e w' => e = .returned (.string ⟨#[121]⟩) ∧ w = w' := by
  obtain ⟨m, hm⟩ : ∃ m, n - 32 = m := ⟨_, rfl⟩
  have hw : IntKind.i64.wrap (n - 32) = m := by rw [IntKind.wrap_i64]; omega
  have t0 : (65 : Int) ≤ n := by omega
  have t1 : (90 : Int) < n := by omega
  have t2 : (192 : Int) ≤ n := by omega
  have t3 : n ≤ 255 := by omega
  have t4 : (n == (215 : Int)) = false := by simp; omega
  have t5 : (n == (247 : Int)) = false := by simp; omega
  have t6 : (n == (223 : Int)) = false := by simp; omega
  have t7 : (n == (255 : Int)) = false := by simp; omega
  have t8 : (224 : Int) ≤ n := by omega
  have t9 : (197 : Int) < m := by omega
  have t10 : (m == (198 : Int)) = false := by simp; omega
  have t11 : (m == (199 : Int)) = false := by simp; omega
  have t12 : (203 : Int) < m := by omega
  have t13 : (207 : Int) < m := by omega
  have t14 : (m == (208 : Int)) = false := by simp; omega
  have t15 : (m == (209 : Int)) = false := by simp; omega
  have t16 : (216 : Int) < m := by omega
  have t17 : (220 : Int) < m := by omega
  have t18 : (m == (221 : Int)) = true := by simp; omega
  clear h hm
  go_enter Tryz.func135, Tryz.ntmps135
  go_wp2
  go_ret
  exact ⟨rfl, rfl⟩
set_option maxHeartbeats 800000 in
theorem fold_254_c (n : Int) (w : World) (h : 254 ≤ n ∧ n ≤ 254) :
    Calls Tryz.prog 135 #[.int .i64 n] w fun e w' => e = .returned (.string ⟨#[116, 104]⟩) ∧ w = w' := by
  obtain ⟨m, hm⟩ : ∃ m, n - 32 = m := ⟨_, rfl⟩
  have hw : IntKind.i64.wrap (n - 32) = m := by rw [IntKind.wrap_i64]; omega
  have t0 : (65 : Int) ≤ n := by omega
  have t1 : (90 : Int) < n := by omega
  have t2 : (192 : Int) ≤ n := by omega
  have t3 : n ≤ 255 := by omega
  have t4 : (n == (215 : Int)) = false := by simp; omega
  have t5 : (n == (247 : Int)) = false := by simp; omega
  have t6 : (n == (223 : Int)) = false := by simp; omega
  have t7 : (n == (255 : Int)) = false := by simp; omega
  have t8 : (224 : Int) ≤ n := by omega
  have t9 : (197 : Int) < m := by omega
  have t10 : (m == (198 : Int)) = false := by simp; omega
  have t11 : (m == (199 : Int)) = false := by simp; omega
  have t12 : (203 : Int) < m := by omega
  have t13 : (207 : Int) < m := by omega
  have t14 : (m == (208 : Int)) = false := by simp; omega
  have t15 : (m == (209 : Int)) = false := by simp; omega
  have t16 : (216 : Int) < m := by omega
  have t17 : (220 : Int) < m := by omega
  have t18 : (m == (221 : Int)) = false := by simp; omega
  clear h hm
  go_enter Tryz.func135, Tryz.ntmps135
  go_wp2
  go_ret
  exact ⟨rfl, rfl⟩
theorem Tx.foldC_up : ∀ c, c < 26 → ((⟨#[97, 98, 99, 100, 101, 102, 103, 104, 105, 106, 107, 108, 109, 110, 111, 112, 113, 114, 115, 116, 117, 118, 119, 120, 121, 122]⟩ : ByteArray).extract c (c + 1)) = ⟨(Tx.foldC (c + 65)).toArray⟩ := by decide +kernel
set_option maxHeartbeats 800000 in
theorem fold_up_c (k : Nat) (n : Int) (w : World) (hk : k < 26) (hn : n = ((k + 65 : Nat) : Int)) :
    Calls Tryz.prog 135 #[.int .i64 n] w fun e w' => e = .returned (.string ⟨(Tx.foldC (k + 65)).toArray⟩) ∧ w = w' := by
  have HQ := Lib.hid (Tx.foldC_up k hk)
  have g1 : (65 : Int) ≤ n := by omega
  have g2 : n ≤ 90 := by omega
  have g3 : IntKind.i64.wrap (n - 65) = (k : Int) := by rw [IntKind.wrap_i64]; omega
  have g4 : IntKind.i64.wrap (n - 64) = ((k + 1 : Nat) : Int) := by rw [IntKind.wrap_i64]; omega
  have g5 : (k : Int) ≤ ((k + 1 : Nat) : Int) := by omega
  have g6 : ((k + 1 : Nat) : Int) ≤ 26 := by omega
  clear hn
  go_enter Tryz.func135, Tryz.ntmps135
  go_wp2
  go_ret
  exact ⟨Tx.rets HQ.out, rfl⟩
theorem r01_fold_c (c : Nat) (w : World) (hc : c ≤ 1000000000) :
    Calls Tryz.prog 135 #[.int .i64 c] w fun e w' => e = .returned (.string ⟨(Tx.foldC c).toArray⟩) ∧ w = w' := by
  by_cases h : c ≤ 64
  · rw [show Tx.foldC c = [] from (show ∀ x, x < 256 → x ≤ 64 → Tx.foldC x = [] by decide +kernel) c (by omega) (by omega)]
    exact fold_0_c c w (by omega)
  by_cases h : 91 ≤ c ∧ c ≤ 191
  · rw [show Tx.foldC c = [] from (show ∀ x, x < 256 → 91 ≤ x → x ≤ 191 → Tx.foldC x = [] by decide +kernel) c (by omega) (by omega) (by omega)]
    exact fold_91_c c w (by omega)
  by_cases h : 256 ≤ c
  · rw [show Tx.foldC c = [] from Tx.foldC_high (by omega)]
    exact fold_256_c c w (by omega)
  by_cases h : 215 ≤ c ∧ c ≤ 215
  · rw [show Tx.foldC c = [] from (show ∀ x, x < 256 → 215 ≤ x → x ≤ 215 → Tx.foldC x = [] by decide +kernel) c (by omega) (by omega) (by omega)]
    exact fold_215_c c w (by omega)
  by_cases h : 247 ≤ c ∧ c ≤ 247
  · rw [show Tx.foldC c = [] from (show ∀ x, x < 256 → 247 ≤ x → x ≤ 247 → Tx.foldC x = [] by decide +kernel) c (by omega) (by omega) (by omega)]
    exact fold_247_c c w (by omega)
  by_cases h : 223 ≤ c ∧ c ≤ 223
  · rw [show Tx.foldC c = [115, 115] from (show ∀ x, x < 256 → 223 ≤ x → x ≤ 223 → Tx.foldC x = [115, 115] by decide +kernel) c (by omega) (by omega) (by omega)]
    exact fold_223_c c w (by omega)
  by_cases h : 255 ≤ c ∧ c ≤ 255
  · rw [show Tx.foldC c = [121] from (show ∀ x, x < 256 → 255 ≤ x → x ≤ 255 → Tx.foldC x = [121] by decide +kernel) c (by omega) (by omega) (by omega)]
    exact fold_255_c c w (by omega)
  by_cases h : 192 ≤ c ∧ c ≤ 197
  · rw [show Tx.foldC c = [97] from (show ∀ x, x < 256 → 192 ≤ x → x ≤ 197 → Tx.foldC x = [97] by decide +kernel) c (by omega) (by omega) (by omega)]
    exact fold_192_c c w (by omega)
  by_cases h : 198 ≤ c ∧ c ≤ 198
  · rw [show Tx.foldC c = [97, 101] from (show ∀ x, x < 256 → 198 ≤ x → x ≤ 198 → Tx.foldC x = [97, 101] by decide +kernel) c (by omega) (by omega) (by omega)]
    exact fold_198_c c w (by omega)
  by_cases h : 199 ≤ c ∧ c ≤ 199
  · rw [show Tx.foldC c = [99] from (show ∀ x, x < 256 → 199 ≤ x → x ≤ 199 → Tx.foldC x = [99] by decide +kernel) c (by omega) (by omega) (by omega)]
    exact fold_199_c c w (by omega)
  by_cases h : 200 ≤ c ∧ c ≤ 203
  · rw [show Tx.foldC c = [101] from (show ∀ x, x < 256 → 200 ≤ x → x ≤ 203 → Tx.foldC x = [101] by decide +kernel) c (by omega) (by omega) (by omega)]
    exact fold_200_c c w (by omega)
  by_cases h : 204 ≤ c ∧ c ≤ 207
  · rw [show Tx.foldC c = [105] from (show ∀ x, x < 256 → 204 ≤ x → x ≤ 207 → Tx.foldC x = [105] by decide +kernel) c (by omega) (by omega) (by omega)]
    exact fold_204_c c w (by omega)
  by_cases h : 208 ≤ c ∧ c ≤ 208
  · rw [show Tx.foldC c = [100] from (show ∀ x, x < 256 → 208 ≤ x → x ≤ 208 → Tx.foldC x = [100] by decide +kernel) c (by omega) (by omega) (by omega)]
    exact fold_208_c c w (by omega)
  by_cases h : 209 ≤ c ∧ c ≤ 209
  · rw [show Tx.foldC c = [110] from (show ∀ x, x < 256 → 209 ≤ x → x ≤ 209 → Tx.foldC x = [110] by decide +kernel) c (by omega) (by omega) (by omega)]
    exact fold_209_c c w (by omega)
  by_cases h : 210 ≤ c ∧ c ≤ 214
  · rw [show Tx.foldC c = [111] from (show ∀ x, x < 256 → 210 ≤ x → x ≤ 214 → Tx.foldC x = [111] by decide +kernel) c (by omega) (by omega) (by omega)]
    exact fold_210_c c w (by omega)
  by_cases h : 216 ≤ c ∧ c ≤ 216
  · rw [show Tx.foldC c = [111] from (show ∀ x, x < 256 → 216 ≤ x → x ≤ 216 → Tx.foldC x = [111] by decide +kernel) c (by omega) (by omega) (by omega)]
    exact fold_216_c c w (by omega)
  by_cases h : 217 ≤ c ∧ c ≤ 220
  · rw [show Tx.foldC c = [117] from (show ∀ x, x < 256 → 217 ≤ x → x ≤ 220 → Tx.foldC x = [117] by decide +kernel) c (by omega) (by omega) (by omega)]
    exact fold_217_c c w (by omega)
  by_cases h : 221 ≤ c ∧ c ≤ 221
  · rw [show Tx.foldC c = [121] from (show ∀ x, x < 256 → 221 ≤ x → x ≤ 221 → Tx.foldC x = [121] by decide +kernel) c (by omega) (by omega) (by omega)]
    exact fold_221_c c w (by omega)
  by_cases h : 222 ≤ c ∧ c ≤ 222
  · rw [show Tx.foldC c = [116, 104] from (show ∀ x, x < 256 → 222 ≤ x → x ≤ 222 → Tx.foldC x = [116, 104] by decide +kernel) c (by omega) (by omega) (by omega)]
    exact fold_222_c c w (by omega)
  by_cases h : 224 ≤ c ∧ c ≤ 229
  · rw [show Tx.foldC c = [97] from (show ∀ x, x < 256 → 224 ≤ x → x ≤ 229 → Tx.foldC x = [97] by decide +kernel) c (by omega) (by omega) (by omega)]
    exact fold_224_c c w (by omega)
  by_cases h : 230 ≤ c ∧ c ≤ 230
  · rw [show Tx.foldC c = [97, 101] from (show ∀ x, x < 256 → 230 ≤ x → x ≤ 230 → Tx.foldC x = [97, 101] by decide +kernel) c (by omega) (by omega) (by omega)]
    exact fold_230_c c w (by omega)
  by_cases h : 231 ≤ c ∧ c ≤ 231
  · rw [show Tx.foldC c = [99] from (show ∀ x, x < 256 → 231 ≤ x → x ≤ 231 → Tx.foldC x = [99] by decide +kernel) c (by omega) (by omega) (by omega)]
    exact fold_231_c c w (by omega)
  by_cases h : 232 ≤ c ∧ c ≤ 235
  · rw [show Tx.foldC c = [101] from (show ∀ x, x < 256 → 232 ≤ x → x ≤ 235 → Tx.foldC x = [101] by decide +kernel) c (by omega) (by omega) (by omega)]
    exact fold_232_c c w (by omega)
  by_cases h : 236 ≤ c ∧ c ≤ 239
  · rw [show Tx.foldC c = [105] from (show ∀ x, x < 256 → 236 ≤ x → x ≤ 239 → Tx.foldC x = [105] by decide +kernel) c (by omega) (by omega) (by omega)]
    exact fold_236_c c w (by omega)
  by_cases h : 240 ≤ c ∧ c ≤ 240
  · rw [show Tx.foldC c = [100] from (show ∀ x, x < 256 → 240 ≤ x → x ≤ 240 → Tx.foldC x = [100] by decide +kernel) c (by omega) (by omega) (by omega)]
    exact fold_240_c c w (by omega)
  by_cases h : 241 ≤ c ∧ c ≤ 241
  · rw [show Tx.foldC c = [110] from (show ∀ x, x < 256 → 241 ≤ x → x ≤ 241 → Tx.foldC x = [110] by decide +kernel) c (by omega) (by omega) (by omega)]
    exact fold_241_c c w (by omega)
  by_cases h : 242 ≤ c ∧ c ≤ 246
  · rw [show Tx.foldC c = [111] from (show ∀ x, x < 256 → 242 ≤ x → x ≤ 246 → Tx.foldC x = [111] by decide +kernel) c (by omega) (by omega) (by omega)]
    exact fold_242_c c w (by omega)
  by_cases h : 248 ≤ c ∧ c ≤ 248
  · rw [show Tx.foldC c = [111] from (show ∀ x, x < 256 → 248 ≤ x → x ≤ 248 → Tx.foldC x = [111] by decide +kernel) c (by omega) (by omega) (by omega)]
    exact fold_248_c c w (by omega)
  by_cases h : 249 ≤ c ∧ c ≤ 252
  · rw [show Tx.foldC c = [117] from (show ∀ x, x < 256 → 249 ≤ x → x ≤ 252 → Tx.foldC x = [117] by decide +kernel) c (by omega) (by omega) (by omega)]
    exact fold_249_c c w (by omega)
  by_cases h : 253 ≤ c ∧ c ≤ 253
  · rw [show Tx.foldC c = [121] from (show ∀ x, x < 256 → 253 ≤ x → x ≤ 253 → Tx.foldC x = [121] by decide +kernel) c (by omega) (by omega) (by omega)]
    exact fold_253_c c w (by omega)
  by_cases h : 254 ≤ c ∧ c ≤ 254
  · rw [show Tx.foldC c = [116, 104] from (show ∀ x, x < 256 → 254 ≤ x → x ≤ 254 → Tx.foldC x = [116, 104] by decide +kernel) c (by omega) (by omega) (by omega)]
    exact fold_254_c c w (by omega)
  obtain ⟨k, rfl⟩ : ∃ k, c = k + 65 := ⟨c - 65, by omega⟩
  exact fold_up_c k _ w (by omega) rfl
end Go.Proofs.YtcjalpegffldaaaGreatDoor

/- The reference's letters and folded texts: what the calls return. -/
namespace Go.Proofs.YtcjalpegffldaaaGreatDoor
open Go.RowKit
set_option maxRecDepth 100000

set_option maxHeartbeats 800000 in
theorem r01_letter_c (c : Nat) (w : World) :
    Calls Tryz.prog 106 #[.int .i64 c] w fun e w' => e = .returned (.bool (Tx.letter c)) ∧ w = w' := by
  obtain ⟨b, hb⟩ : ∃ b, Tx.letter c = b := ⟨_, rfl⟩
  rw [hb]
  unfold Tx.letter at hb
  go_enter Tryz.func106, Tryz.ntmps106
  rcases (show c < 48 ∨ (48 ≤ c ∧ c ≤ 57) ∨ (57 < c ∧ c < 97) ∨ (97 ≤ c ∧ c ≤ 122) ∨ (122 < c ∧ c < 256) ∨ 256 ≤ c by omega) with g | ⟨g1, g2⟩ | ⟨g1, g2⟩ | ⟨g1, g2⟩ | ⟨g1, g2⟩ | g
  · have : b = false := by rw [← hb]; simp; omega
    subst this; clear hb
    go_wp2
    go_ret
    exact ⟨Tx.retb (by first | rfl | (simp; done) | (simp; omega)), rfl⟩
  · have : b = true := by rw [← hb]; simp; omega
    have g3 : c < 97 := by omega
    subst this; clear hb
    go_wp2
    go_ret
    exact ⟨Tx.retb (by first | rfl | (simp; done) | (simp; omega)), rfl⟩
  · have : b = false := by rw [← hb]; simp; omega
    have g3 : 48 ≤ c := by omega
    have g4 : c < 256 := by omega
    subst this; clear hb
    go_wp2
    go_ret
    exact ⟨Tx.retb (by first | rfl | (simp; done) | (simp; omega)), rfl⟩
  · have : b = true := by rw [← hb]; simp; omega
    subst this; clear hb
    go_wp2
    go_ret
    exact ⟨Tx.retb (by first | rfl | (simp; done) | (simp; omega)), rfl⟩
  · have : b = false := by rw [← hb]; simp; omega
    have g3 : 97 ≤ c := by omega
    have g4 : 48 ≤ c := by omega
    have g5 : 57 < c := by omega
    subst this; clear hb
    go_wp2
    go_ret
    exact ⟨Tx.retb (by first | rfl | (simp; done) | (simp; omega)), rfl⟩
  · have : b = true := by rw [← hb]; simp; omega
    have g3 : 97 ≤ c := by omega
    have g4 : 48 ≤ c := by omega
    have g5 : 57 < c := by omega
    have g6 : 122 < c := by omega
    subst this; clear hb
    go_wp2
    go_ret
    exact ⟨Tx.retb (by first | rfl | (simp; done) | (simp; omega)), rfl⟩

theorem Tx.fold_round {s : ByteArray} {k : Nat} {out out' : List UInt8} (hlt : k < s.size) (hol : out.length ≤ 2 * k)
    (hv : Tx.foldT Tx.foldStep out (s.data.toList.drop k) = Tx.foldS s.data.toList)
    (h : out ++ Tx.foldP ((s.data.toList.drop k).take (Tx.wid (s.data.toList.drop k))) (Tx.rdec (s.data.toList.drop k)).1 = out') :
    out'.length ≤ 2 * (k + Tx.wid (s.data.toList.drop k)) ∧ Tx.foldT Tx.foldStep out' (s.data.toList.drop (k + Tx.wid (s.data.toList.drop k))) = Tx.foldS s.data.toList := by
  have hw := Tx.wid_pos (s.data.toList.drop k)
  constructor
  · rw [← h, List.length_append]
    have : (Tx.foldP ((s.data.toList.drop k).take (Tx.wid (s.data.toList.drop k))) (Tx.rdec (s.data.toList.drop k)).1).length ≤ 2 * Tx.wid (s.data.toList.drop k) := by
      unfold Tx.foldP
      split
      · rw [List.length_take]; omega
      · have := Tx.foldC_len (Tx.rdec (s.data.toList.drop k)).1; omega
    omega
  · rw [← hv, Tx.foldT_step Tx.foldStep out (Tx.drop_ne (by rw [← Lib.size_eq]; exact hlt)), show Tx.foldStep out ((s.data.toList.drop k).take (Tx.wid (s.data.toList.drop k))) (Tx.rdec (s.data.toList.drop k)).1 = out' from h, List.drop_drop]

set_option maxHeartbeats 800000 in
theorem r01_Fold_c (s : ByteArray) (w : World) (hs : s.size ≤ 1000000000) :
    Calls Tryz.prog 103 #[.string s] w fun e w' => e = .returned (.string ⟨(Tx.foldS s.data.toList).toArray⟩) ∧ Below w.heap.size w w' := by
  go_enter Tryz.func103, Tryz.ntmps103
  go_wp2
  go_loopw [3, 4] (fun o i wr => ∃ (k : Nat) (out : List UInt8), k ≤ s.size ∧ i = .int .i64 k ∧ o = .string ⟨out.toArray⟩ ∧ out.length ≤ 2 * k ∧ Hid (Tx.foldT Tx.foldStep out (s.data.toList.drop k) = Tx.foldS s.data.toList) ∧ Below w.heap.size w wr) (fun _ i _ => s.size - (intOf i).toNat)
  case atStart => exact ⟨0, [], Nat.zero_le _, rfl, rfl, Nat.zero_le _, Lib.hid (by rw [List.drop_zero]; rfl), Below.refl _ _⟩
  case round =>
    obtain ⟨k, out, hk, rfl, rfl, hol, hv, hb⟩ := hrel
    by_cases hlt : k < s.size
    · obtain ⟨hle, h3, h4, h5, h6⟩ := Tx.rdec_fits hlt
      have hr := Tx.rdec_rune (s.data.toList.drop k)
      have hF : ∃ f, Tx.foldC (Tx.rdec (s.data.toList.drop k)).1 = f := ⟨_, rfl⟩
      obtain ⟨f, hf⟩ := hF
      have HF := Lib.hid hf; clear hf
      by_cases hfe : f = []
      · subst hfe
        have hs1 := Tx.fold_round (out' := out ++ (s.data.toList.drop k).take (Tx.wid (s.data.toList.drop k))) hlt hol hv.out (by unfold Tx.foldP; rw [HF.out, if_pos rfl])
        have H1 := Lib.hid hs1; clear hs1
        go_wp2_with (first
          | (go_at_call 104; refine (r01_decode_c s k _ hlt (by omega)).mono ?_; rintro e w1 ⟨rfl, hb1⟩)
          | (go_at_call 105; refine (r01_size_c s k _ hlt (by omega)).mono ?_; rintro e w2 ⟨rfl, hb2⟩)
          | (go_at_call 135; refine (r01_fold_c _ _ (by omega)).mono ?_; rintro e w3 ⟨rfl, rfl⟩; rw [HF.out]))
        go_roundw
        case rel => exact ⟨k + Tx.wid (s.data.toList.drop k), _, h5, by go_num, by rw [Tx.bcat, Tx.extract_wid], H1.out.1, Lib.hid H1.out.2, (hb.trans (hb1.mono hb.size)).trans (hb2.mono (by have := hb.size; have := hb1.size; omega))⟩
        case measure => simp [intOf]; omega
      · have hs1 := Tx.fold_round (out' := out ++ f) hlt hol hv.out (by unfold Tx.foldP; rw [HF.out, if_neg hfe])
        have H1 := Lib.hid hs1; clear hs1
        have hfl : f.length ≤ 2 := by rw [← HF.out]; exact Tx.foldC_len _
        have hfi : f.isEmpty = false := by cases f <;> simp_all
        go_wp2_with (first
          | (go_at_call 104; refine (r01_decode_c s k _ hlt (by omega)).mono ?_; rintro e w1 ⟨rfl, hb1⟩)
          | (go_at_call 105; refine (r01_size_c s k _ hlt (by omega)).mono ?_; rintro e w2 ⟨rfl, hb2⟩)
          | (go_at_call 135; refine (r01_fold_c _ _ (by omega)).mono ?_; rintro e w3 ⟨rfl, rfl⟩; rw [HF.out]))
        go_roundw
        case rel => exact ⟨k + Tx.wid (s.data.toList.drop k), _, h5, by go_num, by rw [Tx.bcat], H1.out.1, Lib.hid H1.out.2, (hb.trans (hb1.mono hb.size)).trans (hb2.mono (by have := hb.size; have := hb1.size; omega))⟩
        case measure => simp [intOf]; omega
    · go_wp2
      go_ret
      have : s.data.toList.drop k = [] := List.drop_eq_nil_of_le (by rw [← Lib.size_eq]; omega)
      exact ⟨Tx.rets (by rw [← hv.out, this, Tx.foldT_nil]), hb⟩
end Go.Proofs.YtcjalpegffldaaaGreatDoor

/- The reference's words of a text: what the call returns. -/
namespace Go.Proofs.YtcjalpegffldaaaGreatDoor
open Go.RowKit
set_option maxRecDepth 100000

namespace Tx
theorem words_round {l : List UInt8} {k : Nat} {st st' : List (List UInt8) × List UInt8} (hlt : k < l.length) (hn : st.2.length ≤ k) (hc : st.1.length ≤ k)
    (hv : wEnd (foldT (wStep sepW) st (l.drop k)) = fieldsT sepW l)
    (h : wStep sepW st ((l.drop k).take (wid (l.drop k))) (rdec (l.drop k)).1 = st') :
    st'.2.length ≤ k + wid (l.drop k) ∧ st'.1.length ≤ k + wid (l.drop k) ∧ wEnd (foldT (wStep sepW) st' (l.drop (k + wid (l.drop k)))) = fieldsT sepW l := by
  have hw := wid_pos (l.drop k)
  have htl : ((l.drop k).take (wid (l.drop k))).length ≤ wid (l.drop k) := by rw [List.length_take]; omega
  refine ⟨?_, ?_, ?_⟩
  · rw [← h]
    unfold wStep
    repeat' split
    all_goals first | omega | (simp only [List.length_append, List.length_nil]; omega)
  · rw [← h]
    unfold wStep
    repeat' split
    all_goals first | omega | (simp only [List.length_append, List.length_cons, List.length_nil]; omega)
  · rw [← hv, foldT_step (wStep sepW) st (drop_ne hlt), h, List.drop_drop]
theorem own_later {B : Nat} {w w' : World} {e size n : Nat} {v : Value} {xs : List Value} (h : Below w.heap.size w w') (ho : w.ownsRow B e size v n xs) : w'.ownsRow B e size v n xs := by
  refine ⟨ho.1, ?_⟩
  rcases ho.2 with h1 | ⟨k, cap, cur, h1, h2, h3, h4⟩
  · exact .inl h1
  · exact .inr ⟨k, cap, cur, h1, h2, (h.block k (Array.getElem?_eq_some_iff.1 h3).1).trans h3, h4⟩
theorem foldS_len2 (l : List UInt8) : (foldS l).length ≤ 2 * l.length := by
  have : ∀ (n : Nat) (l out : List UInt8), l.length ≤ n → (foldT foldStep out l).length ≤ out.length + 2 * l.length := by
    intro n
    induction n with
    | zero =>
      intro l out h
      have := List.eq_nil_of_length_eq_zero (Nat.le_zero.1 h)
      subst this
      rw [foldT_nil]; omega
    | succ n ih =>
      intro l out h
      by_cases hne : l = []
      · subst hne; rw [foldT_nil]; omega
      · rw [foldT_step foldStep out hne]
        have hw := wid_pos l
        have hwl := wid_le hne
        have h1 := ih (l.drop (wid l)) (foldStep out (l.take (wid l)) (rdec l).1) (by rw [List.length_drop]; omega)
        have h2 : (foldStep out (l.take (wid l)) (rdec l).1).length ≤ out.length + 2 * wid l := by
          unfold foldStep foldP
          rw [List.length_append]
          split
          · rw [List.length_take]; omega
          · have := foldC_len (rdec l).1; omega
        rw [List.length_drop] at h1
        omega
  have := this l.length l [] (Nat.le_refl _)
  simpa [foldS] using this
abbrev sv (x : List UInt8) : Value := .string ⟨x.toArray⟩
end Tx

set_option maxHeartbeats 1600000 in
theorem r01_Words_c (s : ByteArray) (w : World) (hs : s.size ≤ 400000000) :
    Calls Tryz.prog 74 #[.string s] w fun e w' => ∃ v, e = .returned v ∧ w'.ownsRow w.heap.size 9 1 v (Tx.words s.data.toList).length ((Tx.words s.data.toList).map Tx.sv) ∧ Below w.heap.size w w' := by
  obtain ⟨i0, hi0, hz0, hz1, hz2⟩ := info_parts info_str
  obtain ⟨f, hf⟩ : ∃ f : ByteArray, (⟨(Tx.foldS s.data.toList).toArray⟩ : ByteArray) = f := ⟨_, rfl⟩
  have hfw : Tx.words s.data.toList = Tx.fieldsT Tx.sepW f.data.toList := by rw [← hf]; rfl
  have hfl : f.size ≤ 2 * s.size + 2 := by
    rw [← hf, Tx.size_mk]
    have := Tx.foldS_len2 s.data.toList
    rw [← Lib.size_eq] at this
    omega
  have HF := Lib.hid hf; clear hf
  have HW := Lib.hid hfw; clear hfw
  have HI := Lib.hid hi0; clear hi0
  go_enter Tryz.func74, Tryz.ntmps74
  go_wp2_with (go_at_call 103; refine (r01_Fold_c s _ (by omega)).mono ?_; rintro e w0 ⟨rfl, hb0⟩; rw [HF.out])
  go_loopw [3, 4, 5] (fun o d i wr => ∃ (k : Nat) (out : List (List UInt8)) (wd : List UInt8), k ≤ f.size ∧ i = .int .i64 k ∧ d = .string ⟨wd.toArray⟩ ∧ wd.length ≤ k ∧ out.length ≤ k ∧ wr.ownsRow w.heap.size 9 1 o out.length (out.map Tx.sv) ∧ Hid (Tx.wEnd (Tx.foldT (Tx.wStep Tx.sepW) (out, wd) (f.data.toList.drop k)) = Tx.fieldsT Tx.sepW f.data.toList) ∧ Below w.heap.size w wr) (fun _ _ i _ => f.size - (intOf i).toNat)
  case atStart => exact ⟨0, [], [], Nat.zero_le _, rfl, rfl, Nat.zero_le _, Nat.zero_le _, World.ownsRow_nil _ _ _ _, Lib.hid (by rw [List.drop_zero]; rfl), hb0⟩
  case round =>
    obtain ⟨k, out, wd, hk, rfl, rfl, hwl, hol, hown, hv, hb⟩ := hrel
    by_cases hlt : k < f.size
    · obtain ⟨hle, h3, h4, h5, h6⟩ := Tx.rdec_fits hlt
      have hlt2 : k < f.data.toList.length := by rw [← Lib.size_eq]; exact hlt
      obtain ⟨b, hbl⟩ : ∃ b, Tx.letter (Tx.rdec (f.data.toList.drop k)).1 = b := ⟨_, rfl⟩
      have HB := Lib.hid hbl; clear hbl
      cases b with
      | true =>
        have hs1 := Tx.words_round (st' := (out, wd ++ (f.data.toList.drop k).take (Tx.wid (f.data.toList.drop k)))) hlt2 hwl hol hv.out (by unfold Tx.wStep Tx.sepW; rw [HB.out]; rfl)
        have H1 := Lib.hid hs1; clear hs1 hlt2
        go_wp2_with (first
          | (go_at_call 104; refine (r01_decode_c f k _ hlt (by omega)).mono ?_; rintro e w1 ⟨rfl, hb1⟩)
          | (go_at_call 105; refine (r01_size_c f k _ hlt (by omega)).mono ?_; rintro e w2 ⟨rfl, hb2⟩)
          | (go_at_call 106; refine (r01_letter_c _ _).mono ?_; rintro e w3 ⟨rfl, rfl⟩; rw [HB.out]))
        go_roundw
        case rel => exact ⟨k + Tx.wid (f.data.toList.drop k), out, _, h5, by go_num, by rw [Tx.bcat, Tx.extract_wid], H1.out.1, H1.out.2.1, Tx.own_later hb2 (Tx.own_later hb1 hown), Lib.hid H1.out.2.2, (hb.trans (hb1.mono hb.size)).trans (hb2.mono (by have := hb.size; have := hb1.size; omega))⟩
        case measure => simp [intOf]; omega
      | false =>
        by_cases hwd : wd = []
        · subst hwd
          have hs1 := Tx.words_round (st' := (out, [])) hlt2 hwl hol hv.out (by unfold Tx.wStep Tx.sepW; rw [HB.out]; rfl)
          have H1 := Lib.hid hs1; clear hs1 hlt2
          go_wp2_with (first
            | (go_at_call 104; refine (r01_decode_c f k _ hlt (by omega)).mono ?_; rintro e w1 ⟨rfl, hb1⟩)
            | (go_at_call 105; refine (r01_size_c f k _ hlt (by omega)).mono ?_; rintro e w2 ⟨rfl, hb2⟩)
            | (go_at_call 106; refine (r01_letter_c _ _).mono ?_; rintro e w3 ⟨rfl, rfl⟩; rw [HB.out]))
          go_roundw
          case rel => exact ⟨k + Tx.wid (f.data.toList.drop k), out, [], h5, by go_num, rfl, Nat.zero_le _, H1.out.2.1, Tx.own_later hb2 (Tx.own_later hb1 hown), Lib.hid H1.out.2.2, (hb.trans (hb1.mono hb.size)).trans (hb2.mono (by have := hb.size; have := hb1.size; omega))⟩
          case measure => simp [intOf]; omega
        · have hs1 := Tx.words_round (st' := (out ++ [wd], [])) hlt2 hwl hol hv.out (by unfold Tx.wStep Tx.sepW; rw [HB.out]; simp [hwd])
          have H1 := Lib.hid hs1; clear hs1 hlt2
          have hwi : wd.isEmpty = false := by cases wd <;> simp_all
          clear hwd
          go_wp2_with (first
            | (go_at_call 104; refine (r01_decode_c f k _ hlt (by omega)).mono ?_; rintro e w1 ⟨rfl, hb1⟩)
            | (go_at_call 105; refine (r01_size_c f k _ hlt (by omega)).mono ?_; rintro e w2 ⟨rfl, hb2⟩)
            | (go_at_call 106; refine (r01_letter_c _ _).mono ?_; rintro e w3 ⟨rfl, rfl⟩; rw [HB.out]; have hown2 := Tx.own_later hb2 (Tx.own_later hb1 hown); have hs2 := hb1.size; have hs3 := hb2.size)
            | (at_builtin; go_must (refine wpList_append_own _ rfl _ _ 28 rfl w.heap.size 9 i0 (.string ⟨#[]⟩) 1 16 Tryz.underlying28 HI.out hz0 hz1 hz2 rfl (by decide) _ out.length _ rfl (hown2.alloc _) ⟨_, 0, none⟩ 1 1 [Tx.sv wd] rfl rfl (Tx.cell_one_at _ _ (by first | rfl | simp) _ _) (by simp [Value.oneCell']) (by unfold maxLen; omega) (by omega) (by have := hb.size; simp; omega) ?_); intro v' w4 hown4 hg4 hnil4))
          go_roundw
          case rel => exact ⟨k + Tx.wid (f.data.toList.drop k), out ++ [wd], [], h5, by go_num, rfl, Nat.zero_le _, H1.out.2.1, by rw [List.length_append, List.map_append]; exact hown4, Lib.hid H1.out.2.2, ((hb.trans (hb1.mono hb.size)).trans (hb2.mono (by have := hb.size; omega))).trans (((Tx.newb _ _).mono (by have := hb.size; omega)).grown hg4 (by have := hb.size; simp; omega) (fun j hj => (hown2.lt j hj).1))⟩
          case measure => simp [intOf]; omega
    · have hd : f.data.toList.drop k = [] := List.drop_eq_nil_of_le (by rw [← Lib.size_eq]; omega)
      rw [hd, Tx.foldT_nil] at hv
      by_cases hwd : wd = []
      · subst hwd
        have hE : out = Tx.words s.data.toList := by rw [HW.out, ← hv.out]; rfl
        go_wp2
        go_ret
        rw [← hE]
        exact ⟨_, rfl, hown, hb⟩
      · have hE : out ++ [wd] = Tx.words s.data.toList := by rw [HW.out, ← hv.out]; unfold Tx.wEnd; rw [if_neg hwd]
        have HE := Lib.hid hE
        have hwi : wd.isEmpty = false := by cases wd <;> simp_all
        clear hwd hE hd
        go_wp2_with (at_builtin; go_must (refine wpList_append_own _ rfl _ _ 28 rfl w.heap.size 9 i0 (.string ⟨#[]⟩) 1 16 Tryz.underlying28 HI.out hz0 hz1 hz2 rfl (by decide) _ out.length _ rfl (hown.alloc _) ⟨_, 0, none⟩ 1 1 [Tx.sv wd] rfl rfl (Tx.cell_one_at _ _ (by first | rfl | simp) _ _) (by simp [Value.oneCell']) (by unfold maxLen; omega) (by omega) (by have := hb.size; simp; omega) ?_); intro v' w4 hown4 hg4 hnil4)
        go_ret
        rw [← HE.out, List.length_append, List.map_append]
        exact ⟨_, rfl, hown4, hb.trans (((Tx.newb _ _).mono hb.size).grown hg4 (by have := hb.size; simp; omega) (fun j hj => (hown.lt j hj).1))⟩
end Go.Proofs.YtcjalpegffldaaaGreatDoor

/- What the program's Get, first, Title, Author and Year return. -/
namespace Go.Proofs.YtcjalpegffldaaaGreatDoor
open Go.RowKit
set_option maxRecDepth 100000

namespace Rc
/-- The first place at which something holds, from a place on; -1 if there is none. -/
def idxF {α : Type} (p : α → Bool) : Nat → List α → Int
  | _, [] => -1
  | k, x :: r => if p x = true then (k : Int) else idxF p (k + 1) r
theorem idxF_none {α : Type} {p : α → Bool} : ∀ (l : List α) (k : Nat), l.find? p = none → idxF p k l = -1
  | [], _, _ => rfl
  | x :: r, k, h => by
    unfold idxF
    rw [List.find?_cons] at h
    cases hp : p x with
    | true => rw [hp] at h; cases h
    | false => rw [hp] at h; simpa using idxF_none r (k + 1) h
theorem idxF_some {α : Type} {p : α → Bool} {y : α} : ∀ (l : List α) (k : Nat), l.find? p = some y → ∃ j, idxF p k l = ((k + j : Nat) : Int) ∧ l[j]? = some y
  | [], _, h => by simp at h
  | x :: r, k, h => by
    unfold idxF
    rw [List.find?_cons] at h
    cases hp : p x with
    | true => rw [hp] at h; injection h with h; subst h; exact ⟨0, by simp, rfl⟩
    | false =>
      rw [hp] at h
      obtain ⟨j, h1, h2⟩ := idxF_some r (k + 1) h
      exact ⟨j + 1, by simp only [Bool.false_eq_true, if_false]; rw [h1]; congr 1; omega, by simpa using h2⟩
theorem idxF_step {α : Type} (p : α → Bool) {l : List α} {k : Nat} {x : α} (h : l[k]? = some x) : idxF p k (l.drop k) = if p x = true then (k : Int) else idxF p (k + 1) (l.drop (k + 1)) := by
  have hk : k < l.length := (List.getElem?_eq_some_iff.1 h).1
  rw [List.drop_eq_getElem_cons hk]
  have : l[k]'hk = x := (List.getElem?_eq_some_iff.1 h).2
  rw [this]
  rfl
theorem u8_eq {a b : UInt8} : ((a.toNat : Int) == (b.toNat : Int)) = (a == b) := by
  rw [Bool.eq_iff_iff]
  simp only [beq_iff_eq]
  constructor
  · intro h; exact UInt8.toNat.inj (by omega)
  · intro h; rw [h]
end Rc

end Go.Proofs.YtcjalpegffldaaaGreatDoor

/- The reference's functions of fields: what the calls return. -/

namespace Go.Proofs.YtcjalpegffldaaaGreatDoor
open Go.RowKit
set_option maxRecDepth 100000

namespace Rc
open Go.Lib
theorem joinTail_app (sep : By) (a b : List By) : joinTail sep (a ++ b) = joinTail sep a ++ joinTail sep b := by simp [joinTail]
theorem join_snoc (l : List By) (x sep : By) : join (l ++ [x]) sep = if l = [] then x else join l sep ++ sep ++ x := by
  cases l with
  | nil => simp [join_cons, joinTail]
  | cons y r =>
    rw [List.cons_append, join_cons, join_cons, joinTail_app, if_neg (by simp)]
    simp [joinTail]
theorem join_app_le (a b : List By) (sep : By) : (join a sep).length ≤ (join (a ++ b) sep).length := by
  cases a with
  | nil => simp [join_nil]
  | cons y r =>
    rw [List.cons_append, join_cons, join_cons, joinTail_app]
    simp only [List.length_append]
    omega
theorem join_take_le (l : List By) (sep : By) (k : Nat) : (join (l.take k) sep).length ≤ (join l sep).length := by
  have := join_app_le (l.take k) (l.drop k) sep
  rw [List.take_append_drop] at this
  exact this
theorem bys_take {xs : List ByteArray} {k : Nat} {x : ByteArray} (h : xs[k]? = some x) : bys (xs.take (k + 1)) = bys (xs.take k) ++ [x.data.toList] := by
  unfold bys
  rw [List.take_add_one, h]
  simp
theorem take_map {xs : List ByteArray} {k : Nat} : bys (xs.take k) = (bys xs).take k := by unfold bys; rw [List.map_take]
theorem take_nil_iff {α : Type} {xs : List α} {k : Nat} (h : k < xs.length) : xs.take k = [] ↔ k = 0 := by
  cases xs with
  | nil => simp at h
  | cons x r => cases k <;> simp
theorem has_none {codes : ByteArray} {x : UInt8} (h : ∀ j, j < codes.size → codes.data.toList.getD j 0 ≠ x) : codes.data.toList.contains x = false := by
  rw [Bool.eq_false_iff]
  intro h1
  rw [List.contains_iff_mem] at h1
  obtain ⟨j, hj, e⟩ := List.mem_iff_getElem.1 h1
  refine h j (by rw [Lib.size_eq]; exact hj) ?_
  rw [List.getD_eq_getElem?_getD, List.getElem?_eq_getElem hj]
  exact e
theorem has_some {codes : ByteArray} {x : UInt8} {j : Nat} (hj : j < codes.size) (h : codes.data.toList.getD j 0 = x) : hasCode codes.data.toList x = true := by
  unfold hasCode
  rw [Bool.or_eq_true, List.contains_iff_mem]
  refine .inr ?_
  have hj2 : j < codes.data.toList.length := by rw [← Lib.size_eq]; exact hj
  rw [← h, List.getD_eq_getElem?_getD, List.getElem?_eq_getElem hj2]
  exact List.getElem_mem _
theorem has_empty {codes : ByteArray} {x : UInt8} (h : codes.data.toList.contains x = false) : hasCode codes.data.toList x = codes.toList.isEmpty := by
  unfold hasCode
  rw [h, Bool.or_false, Lib.toList_data]
end Rc

set_option maxHeartbeats 800000 in
theorem r07_in_c (x : UInt8) (codes : ByteArray) (w : World) (hs : codes.size ≤ 9223372036854775000) :
    Calls Tryz.prog 75 #[.int .u8 x.toNat, .string codes] w fun e w' => e = .returned (.bool (Rc.hasCode codes.data.toList x)) ∧ w = w' := by
  go_enter Tryz.func75, Tryz.ntmps75
  go_wp2
  go_loop [5] (fun i => ∃ (k : Nat), k ≤ codes.size ∧ i = .int .i64 k ∧ Hid (∀ j, j < k → codes.data.toList.getD j 0 ≠ x)) (fun i => codes.size - (intOf i).toNat)
  case atStart => exact ⟨0, Nat.zero_le _, rfl, Lib.hid (fun j hj => absurd hj (by omega))⟩
  case round =>
    obtain ⟨k, hk, rfl, hE⟩ := hrel
    by_cases hlt : k < codes.size
    · obtain ⟨y, hy⟩ : ∃ y, codes.data.toList.getD k 0 = y := ⟨_, rfl⟩
      have e0 : ∀ h, codes[k]'h = y := fun h => by rw [← hy, Tx.getD_at codes k h]
      have hq := Rc.u8_eq (a := y) (b := x)
      by_cases hyx : y = x
      · have HH := Lib.hid (Rc.has_some hlt (hy.trans hyx))
        have hq2 : (y == x) = true := by simpa using hyx
        rw [hq2] at hq
        clear hy hyx hq2
        go_wp2
        go_ret
        exact ⟨Tx.retb HH.out.symm, rfl⟩
      · have hE2 : Hid (∀ j, j < k + 1 → codes.data.toList.getD j 0 ≠ x) := Lib.hid (fun j hj => by
          rcases Nat.lt_or_ge j k with h1 | h1
          · exact hE.out j h1
          · obtain rfl : j = k := by omega
            rw [hy]; exact hyx)
        have hq2 : (y == x) = false := by simpa using hyx
        rw [hq2] at hq
        clear hy hyx hq2
        go_wp2
        go_round
        case rel => exact ⟨k + 1, by omega, by go_num, hE2⟩
        case measure => simp [intOf]; omega
    · obtain rfl : k = codes.size := by omega
      have HH := Lib.hid (Rc.has_empty (Rc.has_none hE.out))
      go_wp2
      go_ret
      exact ⟨Tx.retb HH.out.symm, rfl⟩

set_option maxHeartbeats 1600000 in
theorem r07_All_c (f : Rc.Fl) (a : Option Addr) (c : Nat) (codes : ByteArray) (w : World) (h : Rc.SubA w a c f.subs) (hl : f.subs.length ≤ 1000) (hs : codes.size ≤ 1000) :
    Calls Tryz.prog 45 #[.agg #[.string f.tag, .string f.ind, .slice a f.subs.length c, .int .i64 f.auth], .string codes] w fun e w' => ∃ va vc, e = .returned (.slice va (Rc.allV f.subs codes.data.toList).length vc) ∧ SLA w' va vc (Rc.allV f.subs codes.data.toList) ∧ Below w.heap.size w w' := by
  obtain ⟨i0, hi0, hz0, hz1, hz2⟩ := info_parts info_str
  obtain ⟨W, hW⟩ : ∃ W, w.alloc (.cells #[.string f.tag, .string f.ind, .slice a f.subs.length c, .int .i64 f.auth] 55) = W := ⟨_, rfl⟩
  have hB : Below w.heap.size w W := by rw [← hW]; exact Tx.newb _ _
  have c2 : W.cell? ⟨w.heap.size, 2, none⟩ = some (.slice a f.subs.length c) := by rw [← hW]; simp
  have hS := h.below hB
  have hcap := h.cap
  go_enter Tryz.func45, Tryz.ntmps45
  go_wp2
  clear hW
  go_loopw [5, 6] (fun v i wr => ∃ (k : Nat) (L : List ByteArray), k ≤ f.subs.length ∧ i = .int .i64 k ∧ Hid (L = Rc.allV (f.subs.take k) codes.data.toList) ∧ L.length ≤ k ∧ wr.ownsRow W.heap.size 9 1 v L.length (L.map Value.string) ∧ Below W.heap.size W wr) (fun _ i _ => f.subs.length - (intOf i).toNat)
  case atStart => exact ⟨0, [], Nat.zero_le _, rfl, Lib.hid rfl, Nat.le_refl _, World.ownsRow_nil _ _ _ _, Below.refl _ _⟩
  case round =>
    obtain ⟨k, L, hk, rfl, hL, hLk, hown, hb⟩ := hrel
    have hbs := hb.size
    have hbw := Tx.step hB hb
    replace c2 := cell_later hb c2
    by_cases hlt : k < f.subs.length
    · obtain ⟨x, hx⟩ : ∃ x, f.subs[k]? = some x := ⟨_, List.getElem?_eq_getElem hlt⟩
      obtain ⟨b, o, rfl, hbl, c0, c1⟩ := hS.get hx
      replace c0 := cell_later hb c0
      replace c1 := cell_later hb c1
      have hT := Rc.allV_take codes.data.toList hx
      cases hH : Rc.hasCode codes.data.toList x.1 with
      | true =>
        rw [if_pos hH, ← hL.out] at hT
        have HT := Lib.hid hT; clear hT
        have HH := Lib.hid hH; clear hH hx
        go_wp2_with (first
          | (go_at_call 75; refine (r07_in_c x.1 codes _ (by omega)).mono ?_; rintro e w1 ⟨rfl, rfl⟩; rw [HH.out])
          | (at_builtin; go_must (refine wpList_append_own _ rfl _ _ 28 rfl W.heap.size 9 i0 (.string ⟨#[]⟩) 1 16 Tryz.underlying28 hi0 hz0 hz1 hz2 rfl (by decide) _ L.length _ rfl (hown.alloc _) ⟨_, 0, none⟩ 1 1 [.string x.2] rfl rfl (Tx.cell_one_at _ _ (by first | rfl | simp) _ _) (by simp [Value.oneCell']) (by unfold maxLen; omega) (by omega) (by simp; omega) ?_); intro v' w2 hown2 hg2 hnil2))
        have hb2 : Below W.heap.size W w2 := (hb.alloc hbs _).grown hg2 (by simp; omega) (fun j hj => (hown.lt j hj).1)
        go_roundw
        case rel => exact ⟨k + 1, L ++ [x.2], by omega, by go_num, Lib.hid HT.out.symm, by simp; omega, by simpa using hown2, hb2⟩
        case measure => simp [intOf]; omega
      | false =>
        rw [if_neg (by simp [hH]), List.append_nil, ← hL.out] at hT
        have HT := Lib.hid hT; clear hT
        have HH := Lib.hid hH; clear hH hx
        go_wp2_with (go_at_call 75; refine (r07_in_c x.1 codes _ (by omega)).mono ?_; rintro e w1 ⟨rfl, rfl⟩; rw [HH.out])
        go_roundw
        case rel => exact ⟨k + 1, L, by omega, by go_num, Lib.hid HT.out.symm, by omega, hown, hb⟩
        case measure => simp [intOf]; omega
    · obtain rfl : k = f.subs.length := by omega
      have hL2 := hL.out
      rw [Rc.take_all] at hL2
      subst hL2
      obtain ⟨va, vc, rfl, hsl⟩ := SLA.of_own hown rfl
      go_wp2
      go_ret
      exact ⟨va, vc, rfl, hsl, hbw⟩

end Go.Proofs.YtcjalpegffldaaaGreatDoor
