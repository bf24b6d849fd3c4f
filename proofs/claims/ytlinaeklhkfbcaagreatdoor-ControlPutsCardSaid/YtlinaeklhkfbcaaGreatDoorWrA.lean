/- Plain: characters counted, texts cut and wrapped; no program stands in this file. -/
import Derived.Test.YtlinaeklhkfbcaaGreatDoorRcA
import Derived.Lib.RuneCount
namespace Go.Proofs.YtlinaeklhkfbcaaGreatDoor
namespace Wr
open Go.Lib Rc

def runesF : Nat → By → Nat
  | 0, _ => 0
  | f + 1, l => if l = [] then 0 else 1 + runesF f (l.drop (Tx.wid l))
theorem runesF_nil (n : Nat) : runesF n [] = 0 := by cases n <;> simp [runesF]
theorem runesF_fuel : ∀ (n m : Nat) (l : By), l.length ≤ n → l.length ≤ m → runesF n l = runesF m l
  | 0, m, l, hn, _ => by
    have : l = [] := List.eq_nil_of_length_eq_zero (by omega)
    subst this
    rw [runesF_nil, runesF_nil]
  | n + 1, 0, l, _, hm => by
    have : l = [] := List.eq_nil_of_length_eq_zero (by omega)
    subst this
    rw [runesF_nil, runesF_nil]
  | n + 1, m + 1, l, hn, hm => by
    unfold runesF
    by_cases hne : l = []
    · simp [hne]
    · have hw := Tx.wid_pos l
      rw [if_neg hne, if_neg hne, runesF_fuel n m _ (by rw [List.length_drop]; omega) (by rw [List.length_drop]; omega)]
/-- The number of characters. -/
def runes (l : By) : Nat := runesF l.length l
theorem runes_nil : runes [] = 0 := rfl
theorem runes_step {l : By} (hne : l ≠ []) : runes l = 1 + runes (l.drop (Tx.wid l)) := by
  have hl : 0 < l.length := List.length_pos_iff.2 hne
  have hw := Tx.wid_pos l
  unfold runes
  obtain ⟨n, hn⟩ : ∃ n, l.length = n + 1 := ⟨l.length - 1, by omega⟩
  rw [hn]
  show (if l = [] then 0 else _) = _
  rw [if_neg hne, runesF_fuel n _ _ (by rw [List.length_drop]; omega) (Nat.le_refl _)]
theorem runes_le : ∀ (n : Nat) (l : By), l.length ≤ n → runes l ≤ l.length
  | 0, l, h => by
    have : l = [] := List.eq_nil_of_length_eq_zero (by omega)
    subst this
    simp [runes_nil]
  | n + 1, l, h => by
    by_cases hne : l = []
    · subst hne; simp [runes_nil]
    · have hw := Tx.wid_pos l
      have hl := Tx.wid_le hne
      rw [runes_step hne]
      have := runes_le n (l.drop (Tx.wid l)) (by rw [List.length_drop]; omega)
      rw [List.length_drop] at this
      omega
theorem runes_pos {l : By} (h : l ≠ []) : 1 ≤ runes l := by rw [runes_step h]; omega

theorem wid_of {a b : By} (h : Tx.rdec a = Tx.rdec b) : Tx.wid a = Tx.wid b := by unfold Tx.wid; rw [h]
/-- The first characters. -/
def clip : Nat → By → By
  | 0, _ => []
  | n + 1, l => if l = [] then [] else l.take (Tx.wid l) ++ clip n (l.drop (Tx.wid l))
theorem clip_nil (n : Nat) : clip n [] = [] := by cases n <;> simp [clip]
theorem clip_cat : ∀ (n : Nat) (l : By), clip n l ++ l.drop (clip n l).length = l
  | 0, l => by simp [clip]
  | n + 1, l => by
    unfold clip
    by_cases hne : l = []
    · simp [hne]
    · rw [if_neg hne]
      have hl := Tx.wid_le hne
      rw [List.length_append, List.length_take, Nat.min_eq_left hl, ← List.drop_drop, List.append_assoc, clip_cat n, List.take_append_drop]
theorem clip_len (n : Nat) (l : By) : (clip n l).length ≤ l.length := by
  have h := congrArg List.length (clip_cat n l)
  rw [List.length_append] at h
  omega
theorem take_pre {a b l : By} (h : a ++ b = l) : a = l.take a.length := by subst h; simp
theorem clip_take (n : Nat) (l : By) : clip n l = l.take (clip n l).length := take_pre (clip_cat n l)
theorem clip_whole : ∀ (n : Nat) (l : By), runes l ≤ n → clip n l = l
  | 0, l, h => by
    by_cases hne : l = []
    · subst hne; rfl
    · have := runes_pos hne; omega
  | n + 1, l, h => by
    unfold clip
    by_cases hne : l = []
    · simp [hne]
    · rw [runes_step hne] at h
      rw [if_neg hne, clip_whole n _ (by omega), List.take_append_drop]
theorem clip_part : ∀ (n : Nat) (l : By), n < runes l → (clip n l).length < l.length
  | 0, l, h => by
    by_cases hne : l = []
    · subst hne; simp [runes_nil] at h
    · simp only [clip, List.length_nil]; exact List.length_pos_iff.2 hne
  | n + 1, l, h => by
    by_cases hne : l = []
    · subst hne; simp [runes_nil] at h
    · have hl := Tx.wid_le hne
      rw [runes_step hne] at h
      have := clip_part n (l.drop (Tx.wid l)) (by omega)
      unfold clip
      rw [List.length_drop] at this
      rw [if_neg hne, List.length_append, List.length_take, Nat.min_eq_left hl]
      omega
theorem clip_ne {n : Nat} {l : By} (hn : 1 ≤ n) (hne : l ≠ []) : clip n l ≠ [] := by
  obtain ⟨m, rfl⟩ : ∃ m, n = m + 1 := ⟨n - 1, by omega⟩
  unfold clip
  rw [if_neg hne]
  have hw := Tx.wid_pos l
  intro h
  have h1 := congrArg List.length h
  have hl : 0 < l.length := List.length_pos_iff.2 hne
  rw [List.length_append, List.length_take, List.length_nil] at h1
  omega
/-- The cut is between characters. -/
theorem clip_valid : ∀ (n : Nat) (l : By), Tx.valid l = true → Tx.valid (clip n l) = true ∧ Tx.valid (l.drop (clip n l).length) = true ∧ runes (clip n l) ≤ n
  | 0, l, h => ⟨rfl, by simpa [clip] using h, Nat.le_refl _⟩
  | n + 1, l, h => by
    unfold clip
    by_cases hne : l = []
    · subst hne; simp [Tx.valid_nil, runes_nil]
    · obtain ⟨hz, _, hw, hv2, _⟩ := Tx.valid_head hne h
      have hl := Tx.wid_le hne
      have hp := Tx.wid_pos l
      have hll : 0 < l.length := List.length_pos_iff.2 hne
      have ih := clip_valid n _ hv2
      rw [if_neg hne]
      have htne : l.take (Tx.wid l) ≠ [] := by
        intro h0
        have := congrArg List.length h0
        rw [List.length_take, List.length_nil] at this
        omega
      have hrd : Tx.rdec (l.take (Tx.wid l)) = Tx.rdec l := by
        have hk : (Tx.rdec l).2 ≠ 0 := hz
        rw [hw]
        have hd := Tx.rdec_width3 l
        unfold Tx.rdec at hk hd ⊢
        have g0 : ∀ j, j < (Tx.rdecN l.length (l.getD 0 0).toNat (l.getD 1 0).toNat (l.getD 2 0).toNat).2 → (l.take (Tx.rdecN l.length (l.getD 0 0).toNat (l.getD 1 0).toNat (l.getD 2 0).toNat).2).getD j 0 = l.getD j 0 := by
          intro j hj
          generalize (Tx.rdecN l.length (l.getD 0 0).toNat (l.getD 1 0).toNat (l.getD 2 0).toNat).2 = K at hj ⊢
          rw [List.getD_eq_getElem?_getD, List.getD_eq_getElem?_getD, List.getElem?_take, if_pos hj]
        rw [List.length_take, g0 0 (by omega)]
        have hle := Tx.rdec_le hne
        unfold Tx.rdec at hle
        rw [Nat.min_eq_left hle]
        generalize hB1 : (l.take (Tx.rdecN l.length (l.getD 0 0).toNat (l.getD 1 0).toNat (l.getD 2 0).toNat).2).getD 1 0 = B1
        generalize hB2 : (l.take (Tx.rdecN l.length (l.getD 0 0).toNat (l.getD 1 0).toNat (l.getD 2 0).toNat).2).getD 2 0 = B2
        have h1 : 1 < (Tx.rdecN l.length (l.getD 0 0).toNat (l.getD 1 0).toNat (l.getD 2 0).toNat).2 → B1 = l.getD 1 0 := fun h => by rw [← hB1]; exact g0 1 h
        have h2 : 2 < (Tx.rdecN l.length (l.getD 0 0).toNat (l.getD 1 0).toNat (l.getD 2 0).toNat).2 → B2 = l.getD 2 0 := fun h => by rw [← hB2]; exact g0 2 h
        clear hB1 hB2 g0
        generalize (l.getD 0 0).toNat = b0 at *
        by_cases ha : 32 ≤ b0 ∧ b0 < 127
        · unfold Tx.rdecN; simp only [if_pos ha]
        · by_cases hb : 194 ≤ b0 ∧ b0 < 224 ∧ 1 < l.length ∧ 128 ≤ (l.getD 1 0).toNat ∧ (l.getD 1 0).toNat < 192
          · have e : (Tx.rdecN l.length b0 (l.getD 1 0).toNat (l.getD 2 0).toNat).2 = 2 := by
              unfold Tx.rdecN at hk ⊢
              rw [if_neg ha, if_pos hb] at hk ⊢
              split at hk
              · rename_i h9; rw [if_pos h9]
              · exact absurd rfl hk
            rw [e] at h1 ⊢
            rw [h1 (by omega)]
            unfold Tx.rdecN
            rw [if_neg ha, if_neg ha, if_pos ⟨hb.1, hb.2.1, by omega, hb.2.2.2⟩, if_pos hb]
          · by_cases hc : 224 ≤ b0 ∧ b0 < 240 ∧ 2 < l.length ∧ 128 ≤ (l.getD 1 0).toNat ∧ (l.getD 1 0).toNat < 192 ∧ 128 ≤ (l.getD 2 0).toNat ∧ (l.getD 2 0).toNat < 192
            · have e : (Tx.rdecN l.length b0 (l.getD 1 0).toNat (l.getD 2 0).toNat).2 = 3 := by
                unfold Tx.rdecN at hk ⊢
                rw [if_neg ha, if_neg hb, if_pos hc] at hk ⊢
                split at hk
                · rename_i h9; rw [if_pos h9]
                · exact absurd rfl hk
              rw [e] at h1 h2 ⊢
              rw [h1 (by omega), h2 (by omega)]
              unfold Tx.rdecN
              rw [if_neg ha, if_neg ha, if_neg (by omega), if_pos ⟨hc.1, hc.2.1, by omega, hc.2.2.2⟩, if_neg hb, if_pos hc]
            · exfalso
              apply hk
              unfold Tx.rdecN
              rw [if_neg ha, if_neg hb, if_neg hc]
      have hvt : Tx.valid (l.take (Tx.wid l)) = true := by
        rw [Tx.valid_step htne, hrd, if_neg hz, List.drop_eq_nil_of_le (by rw [List.length_take]; omega)]
        exact Tx.valid_nil
      refine ⟨valid_app hvt ih.1, ?_, ?_⟩
      · rw [List.length_append, List.length_take, Nat.min_eq_left hl, ← List.drop_drop]
        exact ih.2.1
      · have hne2 : l.take (Tx.wid l) ++ clip n (l.drop (Tx.wid l)) ≠ [] := by simp [htne]
        rw [runes_step hne2]
        have hw2 : Tx.wid (l.take (Tx.wid l) ++ clip n (l.drop (Tx.wid l))) = Tx.wid l := wid_of (by rw [rdec_append _ htne (by rw [hrd]; exact hz), hrd])
        rw [hw2, List.drop_append_of_le_length (by rw [List.length_take]; omega), List.drop_eq_nil_of_le (by rw [List.length_take]; omega), List.nil_append]
        omega
theorem runes_append : ∀ (n : Nat) (a b : By), a.length ≤ n → Tx.valid a = true → runes (a ++ b) = runes a + runes b
  | 0, a, b, hn, _ => by
    have : a = [] := List.eq_nil_of_length_eq_zero (by omega)
    subst this
    simp [runes_nil]
  | n + 1, a, b, hn, hv => by
    by_cases hne : a = []
    · subst hne; simp [runes_nil]
    · obtain ⟨hz, _, hw, hv2, _⟩ := Tx.valid_head hne hv
      have hle := Tx.wid_le hne
      have hp := Tx.wid_pos a
      have hw2 : Tx.wid (a ++ b) = Tx.wid a := wid_of (rdec_append b hne hz)
      rw [runes_step (show a ++ b ≠ [] by simp [hne]), hw2, List.drop_append_of_le_length hle, runes_append n _ b (by rw [List.length_drop]; omega) hv2, runes_step hne]
      omega
theorem runes_app {a : By} (b : By) (hv : Tx.valid a = true) : runes (a ++ b) = runes a + runes b := runes_append a.length a b (Nat.le_refl _) hv

/-! ### words, divided -/
def piecesF (n : Nat) : Nat → By → List By
  | 0, _ => []
  | f + 1, w => if w = [] then [] else clip n w :: piecesF n f (w.drop (clip n w).length)
def pieces (n : Nat) (w : By) : List By := piecesF n w.length w
theorem piecesF_nil (n f : Nat) : piecesF n f [] = [] := by cases f <;> simp [piecesF]
theorem piecesF_fuel (n : Nat) (hn : 1 ≤ n) : ∀ (f g : Nat) (l : By), l.length ≤ f → l.length ≤ g → piecesF n f l = piecesF n g l
  | 0, g, l, hf, _ => by
    have : l = [] := List.eq_nil_of_length_eq_zero (by omega)
    subst this
    rw [piecesF_nil, piecesF_nil]
  | f + 1, 0, l, _, hg => by
    have : l = [] := List.eq_nil_of_length_eq_zero (by omega)
    subst this
    rw [piecesF_nil, piecesF_nil]
  | f + 1, g + 1, l, hf, hg => by
    unfold piecesF
    by_cases hne : l = []
    · simp [hne]
    · have hw := List.length_pos_iff.2 (clip_ne hn hne)
      rw [if_neg hne, if_neg hne, piecesF_fuel n hn f g _ (by rw [List.length_drop]; omega) (by rw [List.length_drop]; omega)]
theorem pieces_nil (n : Nat) : pieces n [] = [] := rfl
theorem pieces_step {n : Nat} (hn : 1 ≤ n) {w : By} (hne : w ≠ []) : pieces n w = clip n w :: pieces n (w.drop (clip n w).length) := by
  have hl : 0 < w.length := List.length_pos_iff.2 hne
  have hw := List.length_pos_iff.2 (clip_ne hn hne)
  unfold pieces
  obtain ⟨f, hf⟩ : ∃ f, w.length = f + 1 := ⟨w.length - 1, by omega⟩
  rw [hf]
  show (if w = [] then [] else _) = _
  rw [if_neg hne, piecesF_fuel n hn f _ _ (by rw [List.length_drop]; omega) (Nat.le_refl _)]
theorem pieces_one {n : Nat} (hn : 1 ≤ n) {w : By} (hne : w ≠ []) (h : runes w ≤ n) : pieces n w = [w] := by
  rw [pieces_step hn hne, clip_whole n w h, List.drop_length, pieces_nil]
theorem pieces_good {n : Nat} (hn : 1 ≤ n) : ∀ (f : Nat) (w : By), w.length ≤ f → Tx.valid w = true → ∀ p ∈ pieces n w, p ≠ [] ∧ Tx.valid p = true ∧ runes p ≤ n ∧ p.length ≤ w.length
  | 0, w, hf, _ => by
    have : w = [] := List.eq_nil_of_length_eq_zero (by omega)
    subst this
    intro p hp
    cases hp
  | f + 1, w, hf, hv => by
    intro p hp
    by_cases hne : w = []
    · subst hne; cases hp
    · rw [pieces_step hn hne] at hp
      have hc := clip_valid n w hv
      have hcn := clip_ne hn hne
      have hl := List.length_pos_iff.2 hcn
      rcases List.mem_cons.1 hp with h | h
      · subst h
        exact ⟨hcn, hc.1, hc.2.2, clip_len n w⟩
      · have := pieces_good hn f _ (by rw [List.length_drop]; omega) hc.2.1 p h
        rw [List.length_drop] at this
        exact ⟨this.1, this.2.1, this.2.2.1, by omega⟩
theorem pieces_flat {n : Nat} (hn : 1 ≤ n) : ∀ (f : Nat) (w : By), w.length ≤ f → (pieces n w).flatten = w
  | 0, w, hf => by
    have : w = [] := List.eq_nil_of_length_eq_zero (by omega)
    subst this
    rfl
  | f + 1, w, hf => by
    by_cases hne : w = []
    · subst hne; rfl
    · have hl := List.length_pos_iff.2 (clip_ne hn hne)
      rw [pieces_step hn hne, List.flatten_cons, pieces_flat hn f _ (by rw [List.length_drop]; omega), clip_cat]
/-- The words of a text, divided, as the reference goes: the word so far. -/
def wordsR (n : Nat) : By → By → List By
  | w, [] => pieces n w
  | w, c :: r => if c = 32 then pieces n w ++ wordsR n [] r else wordsR n (w ++ [c]) r

/-- One piece more: the lines so far and the last line. -/
def wstep (n : Nat) (st : List By × By) (p : By) : List By × By :=
  if st.2 = [] then (st.1, p) else if runes st.2 + 1 + runes p ≤ n then (st.1, st.2 ++ [32] ++ p) else (st.1 ++ [st.2], p)
def wfin (st : List By × By) : List By := st.1 ++ (if st.2 = [] then [] else [st.2])
def wrap (n : Int) (s : By) : List By := if n < 1 then [] else wfin ((wordsR n.toNat [] s).foldl (wstep n.toNat) ([], []))
end Wr
end Go.Proofs.YtlinaeklhkfbcaaGreatDoor
