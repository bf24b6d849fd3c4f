/- Plain: the words of a text as strings.Split gives them; Go's count of characters of a text; no program stands in this file. -/
import Derived.Test.YtccbadbfijkaeaaGreatDoorWrB
import Derived.Test.YtccbadbfijkaeaaGreatDoorSpA
namespace Go.Proofs.YtccbadbfijkaeaaGreatDoor
namespace Wr
open Go.Lib Rc

theorem wordsR_end (n : Nat) : ∀ (a w : By), (32 : UInt8) ∉ a → wordsR n w a = pieces n (w ++ a)
  | [], w, _ => by rw [wordsR, List.append_nil]
  | c :: a, w, h => by
    simp only [List.mem_cons, not_or] at h
    rw [wordsR, if_neg (fun e => h.1 e.symm), wordsR_end n a _ h.2]
    simp
theorem wordsR_cut (n : Nat) : ∀ (a b w : By), (32 : UInt8) ∉ a → wordsR n w (a ++ 32 :: b) = pieces n (w ++ a) ++ wordsR n [] b
  | [], b, w, _ => by rw [List.nil_append, wordsR, if_pos rfl, List.append_nil]
  | c :: a, b, w, h => by
    simp only [List.mem_cons, not_or] at h
    rw [List.cons_append, wordsR, if_neg (fun e => h.1 e.symm), wordsR_cut n a b _ h.2]
    simp
theorem words_split (n : Nat) : ∀ (m : Nat) (l : By), l.length ≤ m → (Sp.splitW 32 (count l [32]) l).flatMap (pieces n) = wordsR n [] l
  | m, l, hm => by
    rcases Sp.indexByte_cut 32 l with ⟨h1, h2⟩ | ⟨i, h1, h2⟩
    · have hc : count l [32] = 0 := count_miss (by rw [index_one]; exact h1)
      rw [hc, wordsR_end n l [] (Sp.cut_none.1 h2)]
      simp [Sp.splitW]
    · have hc : count l [32] = 1 + count (l.drop (i + 1)) [32] := count_hit (by simp) (by rw [index_one]; exact h1)
      obtain ⟨h3, h4⟩ := Sp.cut_eq h2
      have hlen := Sp.cut_len h2
      rw [hc, Nat.add_comm, Sp.splitW, h2]
      simp only
      rw [List.flatMap_cons]
      match m, hm with
      | 0, hm => omega
      | m + 1, hm =>
        rw [words_split n m (l.drop (i + 1)) (by omega)]
        conv => rhs; rw [h3]
        rw [wordsR_cut n _ _ _ h4, List.nil_append]
/-- The words as they come out of strings.Split. -/
theorem words_of (n : Nat) (s : ByteArray) : ((splitB ⟨#[32]⟩ 0 (countB s ⟨#[32]⟩) s).map (·.data.toList)).flatMap (pieces n) = wordsR n [] s.data.toList := by
  rw [splitB_data]
  show (splitK [32] 0 (count s.data.toList [32]) _).flatMap _ = _
  rw [Sp.splitK_eq]
  exact words_split n _ _ (Nat.le_refl _)
/-- Each of them is a text if the whole is. -/
theorem splitW_valid : ∀ (k : Nat) (l : By), Tx.valid l = true → ∀ x ∈ Sp.splitW 32 k l, Tx.valid x = true ∧ x.length ≤ l.length
  | 0, l, h => by intro x hx; simp [Sp.splitW] at hx; subst hx; exact ⟨h, Nat.le_refl _⟩
  | k + 1, l, h => by
    intro x hx
    simp only [Sp.splitW] at hx
    cases hc : Sp.cut 32 l with
    | none => rw [hc] at hx; simp at hx; subst hx; exact ⟨h, Nat.le_refl _⟩
    | some p =>
      obtain ⟨a, b⟩ := p
      rw [hc] at hx
      obtain ⟨h3, _⟩ := Sp.cut_eq hc
      have hlen := Sp.cut_len hc
      rw [h3] at h
      have hv := valid_cut a.length a b (Nat.le_refl _) h
      rcases List.mem_cons.1 hx with h5 | h5
      · subst h5; exact ⟨hv.1, by omega⟩
      · have := splitW_valid k b hv.2 x h5
        exact ⟨this.1, by omega⟩
theorem split_valid (s : ByteArray) (h : Tx.valid s.data.toList = true) : ∀ x ∈ splitB ⟨#[32]⟩ 0 (countB s ⟨#[32]⟩) s, Tx.valid x.data.toList = true ∧ x.data.toList.length ≤ s.data.toList.length := by
  intro x hx
  have hm : x.data.toList ∈ (splitB ⟨#[32]⟩ 0 (countB s ⟨#[32]⟩) s).map (·.data.toList) := List.mem_map.2 ⟨x, hx, rfl⟩
  rw [splitB_data] at hm
  have e : splitK (⟨#[32]⟩ : ByteArray).data.toList 0 (countB s ⟨#[32]⟩) s.data.toList = Sp.splitW 32 (countB s ⟨#[32]⟩) s.data.toList := Sp.splitK_eq 32 _ _
  rw [e] at hm
  exact splitW_valid _ _ h _ hm

theorem runeCountFrom_eq (s : ByteArray) : ∀ (f pos : Nat), pos ≤ s.size → s.size ≤ pos + f → Tx.valid (s.data.toList.drop pos) = true → runeCountFrom s f pos = runes (s.data.toList.drop pos)
  | f, pos, hp, hf, hv => by
    by_cases hlt : pos < s.size
    · match f, hf with
      | 0, hf => omega
      | f + 1, hf =>
        have hne : s.data.toList.drop pos ≠ [] := by
          intro h0
          have := congrArg List.length h0
          rw [List.length_drop, ← size_eq] at this
          simp at this
          omega
        obtain ⟨hz, hd, hw, hv2, _⟩ := Tx.valid_head hne hv
        have hdec : Utf8.decode s pos = Tx.rdec (s.data.toList.drop pos) := by rw [← decodeL_drop, hd]
        have hle := Tx.wid_le hne
        rw [List.length_drop, ← size_eq] at hle
        have hwp := Tx.wid_pos (s.data.toList.drop pos)
        unfold runeCountFrom
        rw [if_pos hlt, hdec, ← hw, runes_step hne, List.drop_drop]
        rw [List.drop_drop] at hv2
        rw [runeCountFrom_eq s f _ (by omega) (by omega) hv2]
    · rw [runeCountFrom_end s f pos hlt, List.drop_eq_nil_of_le (by rw [← size_eq]; omega)]
      rfl
theorem runeCount_eq (s : ByteArray) (hv : Tx.valid s.data.toList = true) : runeCount s = runes s.data.toList := by
  have := runeCountFrom_eq s s.size 0 (Nat.zero_le _) (by omega) (by simpa using hv)
  rw [List.drop_zero] at this
  exact this
theorem pieces_more {n : Nat} (hn : 1 ≤ n) {w : By} (h : n < runes w) : pieces n w = clip n w :: pieces n (w.drop (clip n w).length) ∧ w.drop (clip n w).length ≠ [] ∧ (clip n w).length ≤ w.length ∧ 1 ≤ (clip n w).length := by
  have hne : w ≠ [] := by intro h0; subst h0; simp [runes_nil] at h
  have hp := clip_part n w h
  refine ⟨pieces_step hn hne, ?_, by omega, List.length_pos_iff.2 (clip_ne hn hne)⟩
  intro h0
  have := congrArg List.length h0
  rw [List.length_drop] at this
  simp at this
  omega
end Wr
end Go.Proofs.YtccbadbfijkaeaaGreatDoor
