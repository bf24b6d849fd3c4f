/- Plain facts about cutting a string at blanks (or another byte); no program stands in this file. -/
import Derived.Lib.Split
import Derived.Lib.IndexBytes
import Derived.Lib.IndexLaws
import Derived.Test.YtogpghpgnpoioaaGreatDoorKc
import Derived.Test.YtogpghpgnpoioaaGreatDoorKb
import Derived.Test.YtogpghpgnpoioaaGreatDoorKe
import Derived.Test.YtogpghpgnpoioaaGreatDoorKj
import Derived.Test.YtogpghpgnpoioaaGreatDoorKi
namespace Go.Proofs.YtogpghpgnpoioaaGreatDoor
namespace Sp
open Go.Lib

/-- A string up to its first byte c, and what stands behind it. -/
def cut (c : UInt8) : List UInt8 → Option (List UInt8 × List UInt8)
  | [] => none
  | b :: t => if b = c then some ([], t) else match cut c t with
    | some (x, y) => some (b :: x, y)
    | none => none
theorem cut_len {c : UInt8} : ∀ {l a b : List UInt8}, cut c l = some (a, b) → l.length = a.length + 1 + b.length
  | [], a, b, h => by simp [cut] at h
  | x :: t, a, b, h => by
    simp only [cut] at h
    split at h
    · simp at h
      obtain ⟨rfl, rfl⟩ := h
      simp
      omega
    · cases ht : cut c t with
      | none => rw [ht] at h; simp at h
      | some p =>
        obtain ⟨x', y'⟩ := p
        rw [ht] at h
        simp at h
        obtain ⟨rfl, rfl⟩ := h
        have := cut_len ht
        simp
        omega
theorem cut_eq {c : UInt8} : ∀ {l a b : List UInt8}, cut c l = some (a, b) → l = a ++ c :: b ∧ c ∉ a
  | [], a, b, h => by simp [cut] at h
  | x :: t, a, b, h => by
    simp only [cut] at h
    split at h
    · rename_i hx
      simp at h
      obtain ⟨rfl, rfl⟩ := h
      simp [hx]
    · rename_i hx
      cases ht : cut c t with
      | none => rw [ht] at h; simp at h
      | some p =>
        obtain ⟨x', y'⟩ := p
        rw [ht] at h
        simp at h
        obtain ⟨rfl, rfl⟩ := h
        obtain ⟨h1, h2⟩ := cut_eq ht
        refine ⟨by rw [h1]; rfl, ?_⟩
        simp only [List.mem_cons, not_or]
        exact ⟨fun e => hx e.symm, h2⟩
theorem cut_none {c : UInt8} : ∀ {l : List UInt8}, cut c l = none ↔ c ∉ l
  | [] => by simp [cut]
  | x :: t => by
    simp only [cut]
    split
    · rename_i hx
      simp [hx]
    · rename_i hx
      cases ht : cut c t with
      | none =>
        have := (cut_none (l := t)).1 ht
        simp only [List.mem_cons, not_or, true_iff]
        exact ⟨fun e => hx e.symm, this⟩
      | some p =>
        have : ¬ c ∉ t := fun hn => by rw [(cut_none (l := t)).2 hn] at ht; cases ht
        simp only [List.mem_cons, not_or]
        constructor
        · intro h; cases h
        · intro h; exact absurd h.2 this
/-- To cut what was put together. -/
theorem cut_append {c : UInt8} {a b : List UInt8} (h : c ∉ a) : cut c (a ++ c :: b) = some (a, b) := by
  induction a with
  | nil => simp [cut]
  | cons x t ih =>
    simp only [List.mem_cons, not_or] at h
    simp only [List.cons_append, cut]
    rw [if_neg (fun e => h.1 e.symm), ih h.2]

/-- The pieces of a string, at most n cuts. -/
def splitW (c : UInt8) : Nat → List UInt8 → List (List UInt8)
  | 0, l => [l]
  | n + 1, l => match cut c l with
    | some (a, b) => a :: splitW c n b
    | none => [l]

theorem indexByte_cut (c : UInt8) : ∀ (l : List UInt8), (indexByte l c = -1 ∧ cut c l = none) ∨ ∃ i : Nat, indexByte l c = i ∧ cut c l = some (l.take i, l.drop (i + 1))
  | [] => .inl ⟨rfl, rfl⟩
  | b :: t => by
    simp only [indexByte, cut]
    by_cases hb : b = c
    · subst hb
      right
      exact ⟨0, by simp, by simp⟩
    · have hb' : (b == c) = false := by simpa using hb
      rw [hb', if_neg hb]
      simp only [Bool.false_eq_true, if_false]
      rcases indexByte_cut c t with ⟨h1, h2⟩ | ⟨i, h1, h2⟩
      · left
        rw [h1, h2]
        simp
      · right
        refine ⟨i + 1, ?_, ?_⟩
        · rw [h1]
          have : ¬ ((i : Int) == -1) = true := by simp
          rw [if_neg this]
          rfl
        · rw [h2]
          simp
theorem splitK_eq (c : UInt8) : ∀ (k : Nat) (l : List UInt8), splitK [c] 0 k l = splitW c k l
  | 0, l => rfl
  | k + 1, l => by
    simp only [splitK, splitW, index_one]
    rcases indexByte_cut c l with ⟨h1, h2⟩ | ⟨i, h1, h2⟩
    · rw [h1, h2]
      simp
    · rw [h1, h2]
      have : ¬ ((i : Int) == -1) = true := by simp
      rw [if_neg this]
      simp only [Int.toNat_natCast, Nat.add_zero, List.length_cons, List.length_nil]
      rw [splitK_eq c k]
theorem splitW_enough (c : UInt8) : ∀ (k m : Nat) (l : List UInt8), l.length ≤ k → k ≤ m → splitW c m l = splitW c k l
  | k, 0, l, h, hm => by
    have : k = 0 := by omega
    subst this
    rfl
  | 0, m + 1, l, h, _ => by
    have : l = [] := List.eq_nil_of_length_eq_zero (by omega)
    subst this
    rfl
  | k + 1, m + 1, l, h, hm => by
    simp only [splitW]
    cases hc : cut c l with
    | none => rfl
    | some p =>
      obtain ⟨a, b⟩ := p
      have := cut_len hc
      simp only
      rw [splitW_enough c k m b (by omega) (by omega)]
/-- strings.SplitN at one byte. -/
theorem splitN_eq (c : UInt8) (n : Nat) (s : ByteArray) (hn : 1 ≤ n) : (splitB ⟨#[c]⟩ 0 (min n (s.size + 1) - 1) s).map (·.data.toList) = splitW c (n - 1) s.data.toList := by
  rw [splitB_data]
  show splitK [c] 0 _ _ = _
  rw [splitK_eq]
  rcases Nat.lt_or_ge s.size (n - 1) with h | h
  · rw [show min n (s.size + 1) - 1 = s.size by omega]
    exact (splitW_enough c s.size (n - 1) _ (by rw [← size_eq]; exact Nat.le_refl _) (by omega)).symm
  · rw [show min n (s.size + 1) - 1 = n - 1 by omega]
end Sp
end Go.Proofs.YtogpghpgnpoioaaGreatDoor

/- Plain: the words of a text as strings.Split gives them; Go's count of characters of a text; no program stands in this file. -/
namespace Go.Proofs.YtogpghpgnpoioaaGreatDoor
namespace Wr
open Go.Lib Rc

theorem wordsR_end (n : Nat) : ∀ (a w : By), (32 : UInt8) ∉ a → wordsR n w a = pieces n (w ++ a)
  | [], w, _ => by rw [wordsR, List.append_nil]
  | c :: a, w, h => by
    simp only [List.mem_cons, not_or] at h
    rw [wordsR, if_neg (fun e => h.1 e.symm), wordsR_end n a _ h.2]
    simp
theorem wordsR_cut (n : Nat) : ∀ (a b w : By), (32 : UInt8) ∉ a → wordsR n w (a ++ 32 :: b) = pieces n (w ++ a) ++ wordsR n [] b
  | [], b, w, _ => by rw [List.nil_append, wordsR, if_pos rfl, List.append_nil]
  | c :: a, b, w, h => by
    simp only [List.mem_cons, not_or] at h
    rw [List.cons_append, wordsR, if_neg (fun e => h.1 e.symm), wordsR_cut n a b _ h.2]
    simp
theorem words_split (n : Nat) : ∀ (m : Nat) (l : By), l.length ≤ m → (Sp.splitW 32 (count l [32]) l).flatMap (pieces n) = wordsR n [] l
  | m, l, hm => by
    rcases Sp.indexByte_cut 32 l with ⟨h1, h2⟩ | ⟨i, h1, h2⟩
    · have hc : count l [32] = 0 := count_miss (by rw [index_one]; exact h1)
      rw [hc, wordsR_end n l [] (Sp.cut_none.1 h2)]
      simp [Sp.splitW]
    · have hc : count l [32] = 1 + count (l.drop (i + 1)) [32] := count_hit (by simp) (by rw [index_one]; exact h1)
      obtain ⟨h3, h4⟩ := Sp.cut_eq h2
      have hlen := Sp.cut_len h2
      rw [hc, Nat.add_comm, Sp.splitW, h2]
      simp only
      rw [List.flatMap_cons]
      match m, hm with
      | 0, hm => omega
      | m + 1, hm =>
        rw [words_split n m (l.drop (i + 1)) (by omega)]
        conv => rhs; rw [h3]
        rw [wordsR_cut n _ _ _ h4, List.nil_append]
/-- The words as they come out of strings.Split. -/
theorem words_of (n : Nat) (s : ByteArray) : ((splitB ⟨#[32]⟩ 0 (countB s ⟨#[32]⟩) s).map (·.data.toList)).flatMap (pieces n) = wordsR n [] s.data.toList := by
  rw [splitB_data]
  show (splitK [32] 0 (count s.data.toList [32]) _).flatMap _ = _
  rw [Sp.splitK_eq]
  exact words_split n _ _ (Nat.le_refl _)
/-- Each of them is a text if the whole is. -/
theorem splitW_valid : ∀ (k : Nat) (l : By), Tx.valid l = true → ∀ x ∈ Sp.splitW 32 k l, Tx.valid x = true ∧ x.length ≤ l.length
  | 0, l, h => by intro x hx; simp [Sp.splitW] at hx; subst hx; exact ⟨h, Nat.le_refl _⟩
  | k + 1, l, h => by
    intro x hx
    simp only [Sp.splitW] at hx
    cases hc : Sp.cut 32 l with
    | none => rw [hc] at hx; simp at hx; subst hx; exact ⟨h, Nat.le_refl _⟩
    | some p =>
      obtain ⟨a, b⟩ := p
      rw [hc] at hx
      obtain ⟨h3, _⟩ := Sp.cut_eq hc
      have hlen := Sp.cut_len hc
      rw [h3] at h
      have hv := valid_cut a.length a b (Nat.le_refl _) h
      rcases List.mem_cons.1 hx with h5 | h5
      · subst h5; exact ⟨hv.1, by omega⟩
      · have := splitW_valid k b hv.2 x h5
        exact ⟨this.1, by omega⟩
theorem split_valid (s : ByteArray) (h : Tx.valid s.data.toList = true) : ∀ x ∈ splitB ⟨#[32]⟩ 0 (countB s ⟨#[32]⟩) s, Tx.valid x.data.toList = true ∧ x.data.toList.length ≤ s.data.toList.length := by
  intro x hx
  have hm : x.data.toList ∈ (splitB ⟨#[32]⟩ 0 (countB s ⟨#[32]⟩) s).map (·.data.toList) := List.mem_map.2 ⟨x, hx, rfl⟩
  rw [splitB_data] at hm
  have e : splitK (⟨#[32]⟩ : ByteArray).data.toList 0 (countB s ⟨#[32]⟩) s.data.toList = Sp.splitW 32 (countB s ⟨#[32]⟩) s.data.toList := Sp.splitK_eq 32 _ _
  rw [e] at hm
  exact splitW_valid _ _ h _ hm

theorem runeCountFrom_eq (s : ByteArray) : ∀ (f pos : Nat), pos ≤ s.size → s.size ≤ pos + f → Tx.valid (s.data.toList.drop pos) = true → runeCountFrom s f pos = runes (s.data.toList.drop pos)
  | f, pos, hp, hf, hv => by
    by_cases hlt : pos < s.size
    · match f, hf with
      | 0, hf => omega
      | f + 1, hf =>
        have hne : s.data.toList.drop pos ≠ [] := by
          intro h0
          have := congrArg List.length h0
          rw [List.length_drop, ← size_eq] at this
          simp at this
          omega
        obtain ⟨hz, hd, hw, hv2, _⟩ := Tx.valid_head hne hv
        have hdec : Utf8.decode s pos = Tx.rdec (s.data.toList.drop pos) := by rw [← decodeL_drop, hd]
        have hle := Tx.wid_le hne
        rw [List.length_drop, ← size_eq] at hle
        have hwp := Tx.wid_pos (s.data.toList.drop pos)
        unfold runeCountFrom
        rw [if_pos hlt, hdec, ← hw, runes_step hne, List.drop_drop]
        rw [List.drop_drop] at hv2
        rw [runeCountFrom_eq s f _ (by omega) (by omega) hv2]
    · rw [runeCountFrom_end s f pos hlt, List.drop_eq_nil_of_le (by rw [← size_eq]; omega)]
      rfl
theorem runeCount_eq (s : ByteArray) (hv : Tx.valid s.data.toList = true) : runeCount s = runes s.data.toList := by
  have := runeCountFrom_eq s s.size 0 (Nat.zero_le _) (by omega) (by simpa using hv)
  rw [List.drop_zero] at this
  exact this
theorem pieces_more {n : Nat} (hn : 1 ≤ n) {w : By} (h : n < runes w) : pieces n w = clip n w :: pieces n (w.drop (clip n w).length) ∧ w.drop (clip n w).length ≠ [] ∧ (clip n w).length ≤ w.length ∧ 1 ≤ (clip n w).length := by
  have hne : w ≠ [] := by intro h0; subst h0; simp [runes_nil] at h
  have hp := clip_part n w h
  refine ⟨pieces_step hn hne, ?_, by omega, List.length_pos_iff.2 (clip_ne hn hne)⟩
  intro h0
  have := congrArg List.length h0
  rw [List.length_drop] at this
  simp at this
  omega
end Wr
end Go.Proofs.YtogpghpgnpoioaaGreatDoor

/- The program's Runes, Clip and pieces: what the calls return. -/
namespace Go.Proofs.YtogpghpgnpoioaaGreatDoor
open Go.RowKit
set_option maxRecDepth 100000

theorem Tx.ext_list (s : ByteArray) (a b : Nat) : s.extract a b = ⟨((s.data.toList.drop a).take (b - a)).toArray⟩ := by
  apply ByteArray.ext
  apply Array.toList_inj.1
  simp
theorem Tx.iterb (w : World) (s : ByteArray) (pos : Nat) : Below w.heap.size w (w.iter s pos) := (Below.refl _ _).alloc (Nat.le_refl _) _

namespace Wr
theorem clip_round {l : List UInt8} {m : Nat} (hne : l ≠ []) : clip (m + 1) l = l.take (Tx.wid l) ++ clip m (l.drop (Tx.wid l)) := by
  conv => lhs; unfold clip
  rw [if_neg hne]
end Wr

set_option maxHeartbeats 800000 in
theorem text_Clip_c (s : ByteArray) (n : Int) (w : World) (hv : Tx.valid s.data.toList = true) (hn : 0 ≤ n) (hn2 : n ≤ 9223372036854775807) :
    Calls Tryz.prog 58 #[.string s, .int .i64 n] w fun e w' => e = .returned (.string ⟨(Wr.clip n.toNat s.data.toList).toArray⟩) ∧ Below w.heap.size w w' := by
  have HV := Lib.hid hv; clear hv
  go_enter Tryz.func58, Tryz.ntmps58
  go_wp2
  go_loopg [1, 5] s.size (fun gf nv _ wx => ∃ (pos : Nat) (m : Int), pos ≤ s.size ∧ s.size ≤ pos + gf ∧ nv = .int .i64 m ∧ 0 ≤ m ∧ m ≤ 9223372036854775807 ∧ wx.heap[w.heap.size]? = some (.stringIter s pos) ∧ Below w.heap.size w wx ∧ Hid (Wr.clip n.toNat s.data.toList = s.data.toList.take pos ++ Wr.clip m.toNat (s.data.toList.drop pos)) ∧ Hid (Tx.valid (s.data.toList.drop pos) = true))
  case atStart => exact ⟨0, n, Nat.zero_le _, by omega, rfl, hn, hn2, World.iter_heap w s 0, Tx.iterb _ _ _, Lib.hid (by simp), Lib.hid (by simpa using HV.out)⟩
  case round =>
    obtain ⟨pos, m, hps, hfu, rfl, hm0, hm9, hit, hbw, hR, hVp⟩ := hrel
    by_cases hlt : pos < s.size
    · obtain ⟨g', rfl⟩ : ∃ g', gk = g' + 1 := ⟨gk - 1, by omega⟩
      have hnx : ∀ ty, (Instr.next (.pointer (some ⟨w.heap.size, 0, none⟩)) true ty).run Tryz.prog wr = _ := fun ty => Lib.run_next_any_at wr w.heap.size s pos ty hit hlt
      have hne : s.data.toList.drop pos ≠ [] := Tx.drop_ne (by rw [← Lib.size_eq]; exact hlt)
      obtain ⟨hz, hd, hw, hv2, _⟩ := Tx.valid_head hne hVp.out
      have hdec : Utf8.decode s pos = Tx.rdec (s.data.toList.drop pos) := by rw [← Lib.decodeL_drop, hd]
      have hwl := Tx.wid_le hne
      rw [List.length_drop, ← Lib.size_eq] at hwl
      have hwp := Tx.wid_pos (s.data.toList.drop pos)
      rw [hdec, ← hw] at hnx
      rw [List.drop_drop] at hv2
      have hit2 := fun K => Lib.iterAt_heap wr w.heap.size s pos (pos + K) hit
      have hbw2 := fun K => Lib.below_iterAt hbw (k := w.heap.size) (Nat.le_refl _) s (pos + K)
      by_cases hmz : m = 0
      · subst hmz
        have hfin : Wr.clip n.toNat s.data.toList = s.data.toList.take pos := by rw [hR.out]; simp [Wr.clip]
        have HF := Lib.hid hfin; clear hfin hR
        obtain ⟨R, hR1⟩ : ∃ R, (Tx.rdec (s.data.toList.drop pos)).1 = R := ⟨_, rfl⟩
        obtain ⟨K, hK⟩ : ∃ K, Tx.wid (s.data.toList.drop pos) = K := ⟨_, rfl⟩
        rw [hR1, hK] at hnx
        have hb3 := hbw2 K
        obtain ⟨W, hWd⟩ : ∃ W, wr.iterAt w.heap.size s (pos + K) = W := ⟨_, rfl⟩
        rw [hWd] at hnx hb3
        clear hit2 hbw2 hWd hR1 hK hdec hd hw hz hv2 hwl hwp hne hit
        go_wp2
        go_ret
        exact ⟨Tx.rets (by rw [HF.out, Tx.ext_list]; simp), hb3⟩
      · have hm1 : 1 ≤ m := by omega
        have hst := hR.out
        rw [show m.toNat = (m - 1).toNat + 1 by omega] at hst
        rw [Wr.clip_round hne] at hst
        obtain ⟨R, hR1⟩ : ∃ R, (Tx.rdec (s.data.toList.drop pos)).1 = R := ⟨_, rfl⟩
        obtain ⟨K, hK⟩ : ∃ K, Tx.wid (s.data.toList.drop pos) = K := ⟨_, rfl⟩
        rw [hR1, hK] at hnx
        rw [hK] at hst hwl hwp hv2
        rw [List.drop_drop, ← List.append_assoc, ← List.take_add] at hst
        have hb3 := hbw2 K
        have hi3 := hit2 K
        obtain ⟨W, hWd⟩ : ∃ W, wr.iterAt w.heap.size s (pos + K) = W := ⟨_, rfl⟩
        rw [hWd] at hnx hb3 hi3
        have HS := Lib.hid hst
        have HV2 := Lib.hid hv2
        have HI := Lib.hid hi3
        clear hst hv2 hi3 hit2 hbw2 hWd hR1 hK hdec hd hw hz hne hit hR
        go_wp2
        go_roundg g'
        case measure => omega
        case rel => exact ⟨pos + K, m - 1, by omega, by omega, by go_num, by omega, by omega, HI.out, hb3, HS, HV2⟩
    · obtain rfl : pos = s.size := by omega
      have hnx : ∀ ty, (Instr.next (.pointer (some ⟨w.heap.size, 0, none⟩)) true ty).run Tryz.prog wr = _ := fun ty => Lib.run_next_end_at wr w.heap.size s s.size ty hit hlt
      have hfin : Wr.clip n.toNat s.data.toList = s.data.toList := by
        rw [hR.out, List.drop_eq_nil_of_le (by rw [← Lib.size_eq]; omega), Wr.clip_nil, List.append_nil, List.take_of_length_le (by rw [← Lib.size_eq]; omega)]
      have HF := Lib.hid hfin; clear hfin hR hit
      go_wp2
      go_ret
      exact ⟨Tx.rets (by rw [HF.out]), hbw⟩

end Go.Proofs.YtogpghpgnpoioaaGreatDoor

/- The reference's Clip and Words: what the calls return. -/

namespace Go.Proofs.YtogpghpgnpoioaaGreatDoor
open Go.RowKit
set_option maxRecDepth 100000

set_option maxHeartbeats 800000 in
theorem r01_Clip_c (s : ByteArray) (n : Int) (w : World) (hs : s.size ≤ 1000000000) (hn : 0 ≤ n) (hn2 : n ≤ 9223372036854775807) :
    Calls Tryz.prog 66 #[.string s, .int .i64 n] w fun e w' => e = .returned (.string ⟨(Wr.clip n.toNat s.data.toList).toArray⟩) ∧ Below w.heap.size w w' := by
  go_enter Tryz.func66, Tryz.ntmps66
  go_wp2
  go_loopw [1, 5] (fun nv i wr => ∃ (k : Nat) (m : Int), k ≤ s.size ∧ i = .int .i64 k ∧ nv = .int .i64 m ∧ 0 ≤ m ∧ m ≤ 9223372036854775807 ∧ Hid (Wr.clip n.toNat s.data.toList = s.data.toList.take k ++ Wr.clip m.toNat (s.data.toList.drop k)) ∧ Below w.heap.size w wr) (fun _ i _ => s.size - (intOf i).toNat)
  case atStart => exact ⟨0, n, Nat.zero_le _, rfl, rfl, hn, hn2, Lib.hid (by simp), Below.refl _ _⟩
  case round =>
    obtain ⟨k, m, hk, rfl, rfl, hm0, hm9, hR, hb⟩ := hrel
    by_cases hlt : k < s.size
    · by_cases hmz : 0 < m
      · obtain ⟨_, _, h4, h5, _⟩ := Tx.rdec_fits hlt
        have hne : s.data.toList.drop k ≠ [] := Tx.drop_ne (by rw [← Lib.size_eq]; exact hlt)
        have hst := hR.out
        rw [show m.toNat = (m - 1).toNat + 1 by omega, Wr.clip_round hne] at hst
        obtain ⟨K, hK⟩ : ∃ K, Tx.wid (s.data.toList.drop k) = K := ⟨_, rfl⟩
        rw [hK] at hst h4 h5
        rw [List.drop_drop, ← List.append_assoc, ← List.take_add] at hst
        have HK := Lib.hid hK; clear hK
        have HS := Lib.hid hst; clear hst hne
        go_wp2_with (go_at_call 95; refine (r01_size_c s k _ hlt (by omega)).mono ?_; rintro e w1 ⟨rfl, hb1⟩; rw [HK.out])
        go_roundw
        case rel => exact ⟨k + K, m - 1, by omega, by go_num, by go_num, by omega, by omega, HS, hb.trans (hb1.mono hb.size)⟩
        case measure => simp [intOf]; omega
      · obtain rfl : m = 0 := by omega
        have hfin : Wr.clip n.toNat s.data.toList = s.data.toList.take k := by rw [hR.out]; simp [Wr.clip]
        have HF := Lib.hid hfin; clear hfin hR
        go_wp2
        go_ret
        exact ⟨Tx.rets (by rw [HF.out, Tx.ext_list]; simp), hb⟩
    · obtain rfl : k = s.size := by omega
      have hfin : Wr.clip n.toNat s.data.toList = s.data.toList := by
        rw [hR.out, List.drop_eq_nil_of_le (by rw [← Lib.size_eq]; omega), Wr.clip_nil, List.append_nil, List.take_of_length_le (by rw [← Lib.size_eq]; omega)]
      have HF := Lib.hid hfin; clear hfin hR
      go_wp2
      go_ret
      exact ⟨Tx.rets (by rw [HF.out]), hb⟩

end Go.Proofs.YtogpghpgnpoioaaGreatDoor

/- The reference's Norm: what the call returns. -/
namespace Go.Proofs.YtogpghpgnpoioaaGreatDoor
open Go.RowKit
set_option maxRecDepth 100000

namespace Mt
open Go.Lib
theorem tail_len : ∀ r : List By, (joinTail [32] r).length = lens r + r.length
  | [] => rfl
  | x :: r => by
    have h := tail_len r
    simp [joinTail, lens] at h ⊢
    omega
theorem join_len (r : List By) : (join r [32]).length ≤ lens r + r.length := by
  cases r with
  | nil => simp [join_nil]
  | cons x r =>
    rw [join_cons, List.length_append, tail_len]
    simp [lens]
    omega
theorem words_good {l : By} (hv : Tx.valid l = true) : (join (Tx.words l) [32]).length ≤ 4 * l.length ∧ Tx.valid (join (Tx.words l) [32]) = true ∧ (Tx.words l).length ≤ 2 * l.length := by
  have h1 := Tx.fieldsT_good Tx.sepW (Tx.foldS_valid hv)
  have h2 := Tx.foldS_len hv
  have h3 := join_len (Tx.words l)
  unfold Tx.words at h3 ⊢
  exact ⟨by omega, Rc.valid_join _ _ (fun x hx => (h1.1 x hx).1) (by decide), by omega⟩
theorem isbn_err (t : By) : (isbnT t).2 = 0 ∨ (isbnT t).1 = [] ∧ (isbnT t).2 ≠ 0 := by
  unfold isbnT
  split
  · split
    · exact .inl rfl
    · exact .inr ⟨rfl, by decide⟩
  · split
    · split
      · exact .inl rfl
      · exact .inr ⟨rfl, by decide⟩
    · exact .inr ⟨rfl, by decide⟩
/-- A list of texts as bytes, in memory of the call's own. -/
abbrev OwnT (w' : World) (B : Nat) (v : Value) (l : List By) : Prop := w'.ownsRow B 9 1 v l.length (l.map Tx.sv)
abbrev mks (l : List By) : List ByteArray := l.map fun x => (⟨x.toArray⟩ : ByteArray)
theorem own_sla {w : World} {B : Nat} {v : Value} {l : List By} (h : OwnT w B v l) : ∃ a c, v = .slice a l.length c ∧ SLA w a c (mks l) := by
  obtain ⟨a, c, e, hs⟩ := SLA.of_own (xs := mks l) h (by rw [List.map_map]; rfl)
  rw [List.length_map] at e
  exact ⟨a, c, e, hs⟩
theorem bys_mks (l : List By) : Rc.bys (mks l) = l := by unfold Rc.bys mks; rw [List.map_map]; exact List.map_id _
end Mt

set_option maxHeartbeats 800000 in
theorem r15_Norm_c (n : Int) (s : ByteArray) (w : World) (hs : s.size ≤ 100000) (hv : Tx.valid s.data.toList = true) (hn : 0 ≤ n ∧ n ≤ 4) :
    Calls Tryz.prog 39 #[.int .i64 n, .string s] w fun e w' => e = .returned (.string ⟨(Mt.norm n s.data.toList).toArray⟩) ∧ Below w.heap.size w w' := by
  obtain ⟨g1, g2, g3⟩ := Mt.words_good hv
  rw [← Lib.size_eq] at g1 g3
  obtain ⟨W, hW⟩ : ∃ W, Tx.words s.data.toList = W := ⟨_, rfl⟩
  have HWS := Lib.hid hW
  obtain ⟨J, hJ⟩ : ∃ J : ByteArray, (⟨(Lib.join W [32]).toArray⟩ : ByteArray) = J := ⟨_, rfl⟩
  rw [hW] at g1 g2 g3
  have jc : ∀ (a : Option Addr) (c : Nat) (w1 : World), SLA w1 a c (Mt.mks W) → Calls Tryz.prog 63 #[.slice a W.length c, .string ⟨#[32]⟩] w1 fun e w' => e = .returned (.string J) ∧ w1 = w' := fun a c w1 h => by
    have h9 := r01_Join_c (Mt.mks W) a c ⟨#[32]⟩ w1 h (by rw [Mt.bys_mks]; show (Lib.join W [32]).length ≤ _; omega)
    rw [Mt.bys_mks, List.length_map] at h9
    rw [← hJ]
    exact h9
  have HJC := Lib.hid jc; clear jc
  have hJs : J.size ≤ 1000000000 := by rw [← hJ, Tx.size_mk]; omega
  have hJl : J.data.toList = Lib.join W [32] := by rw [← hJ]
  rcases (by omega : n = 0 ∨ n = 1 ∨ n = 2 ∨ n = 3 ∨ n = 4) with rfl | rfl | rfl | rfl | rfl
  · have HN : Hid ((⟨(Mt.norm 0 s.data.toList).toArray⟩ : ByteArray) = s) := Lib.hid (Mt.mk_list s).symm
    clear hW hJ hJl g1 g2 g3 hv
    go_enter Tryz.func39, Tryz.ntmps39
    go_wp2
    go_ret
    exact ⟨Tx.rets HN.out.symm, Below.refl _ _⟩
  · have HN : Hid ((⟨(Mt.norm 1 s.data.toList).toArray⟩ : ByteArray) = J) := Lib.hid (by rw [← hJ, ← hW]; rfl)
    clear hW hJ hJl g1 g2 g3 hv
    go_enter Tryz.func39, Tryz.ntmps39
    go_wp2_with (first
      | (go_at_call 64; ((with_reducible refine (r01_Words_c s _ (by omega)).mono ?_); rintro e w2 ⟨v2, rfl, hown2, hb2⟩; rw [HWS.out] at hown2; obtain ⟨a2, c2, rfl, hs2⟩ := Mt.own_sla hown2; have HS2 := Lib.hid hs2; clear hs2 hown2))
      | (go_at_call 63; ((with_reducible refine (HJC.out _ _ _ HS2.out).mono ?_); rintro e w3 ⟨rfl, rfl⟩)))
    go_ret
    exact ⟨Tx.rets HN.out.symm, hb2⟩
  · have HE := Mt.isbn_err (Mt.rem s.data.toList)
    obtain ⟨r, hr⟩ : ∃ r, Mt.isbnT (Mt.rem s.data.toList) = r := ⟨_, rfl⟩
    have IC := fun w => r05_Isbn_c s w (by omega)
    have HN : Hid (Mt.norm 2 s.data.toList = r.1) := Lib.hid (by rw [← hr]; rfl)
    rw [hr] at HE IC
    obtain ⟨R, hR⟩ : ∃ R : ByteArray, (⟨r.1.toArray⟩ : ByteArray) = R := ⟨_, rfl⟩
    rw [hR] at IC
    rcases HE with h0 | ⟨h0, h1⟩
    · rw [h0] at IC
      rw [HN.out, hR]
      clear hW hJ hJl g1 g2 g3 hv hr HN
      go_enter Tryz.func39, Tryz.ntmps39
      go_wp2_with (go_at_call 65; ((with_reducible refine (IC _).mono ?_); rintro e w2 ⟨rfl, hb2⟩))
      go_ret
      exact ⟨rfl, hb2⟩
    · rw [HN.out, h0]
      have h2 : (r.2 != 0) = true := bne_iff_ne.2 h1
      clear hW hJ hJl g1 g2 g3 hv hr HN
      go_enter Tryz.func39, Tryz.ntmps39
      go_wp2_with (go_at_call 65; ((with_reducible refine (IC _).mono ?_); rintro e w2 ⟨rfl, hb2⟩))
      go_ret
      exact ⟨rfl, hb2⟩
  · have HN : Hid (Mt.norm 3 s.data.toList = Wr.clip 4 (Lib.join W [32])) := Lib.hid (by rw [← hW]; rfl)
    have cl := fun w => r01_Clip_c J 4 w hJs (by decide) (by decide)
    rw [hJl] at cl
    rw [HN.out]
    clear hW hJ hJl g1 g2 g3 hv HN
    go_enter Tryz.func39, Tryz.ntmps39
    go_wp2_with (first
      | (go_at_call 64; ((with_reducible refine (r01_Words_c s _ (by omega)).mono ?_); rintro e w2 ⟨v2, rfl, hown2, hb2⟩; rw [HWS.out] at hown2; obtain ⟨a2, c2, rfl, hs2⟩ := Mt.own_sla hown2; have HS2 := Lib.hid hs2; clear hs2 hown2))
      | (go_at_call 63; ((with_reducible refine (HJC.out _ _ _ HS2.out).mono ?_); rintro e w3 ⟨rfl, rfl⟩))
      | (go_at_call 66; ((with_reducible refine (cl _).mono ?_); rintro e w4 ⟨rfl, hb4⟩)))
    go_ret
    exact ⟨rfl, Tx.step hb2 hb4⟩
  · have dc := fun w => r15_Digits_c s w (by omega)
    have HN : Hid (Mt.norm 4 s.data.toList = Mt.year s.data.toList) := Lib.hid rfl
    rw [HN.out]
    clear hW hJ hJl g1 g2 g3 hv HN
    go_enter Tryz.func39, Tryz.ntmps39
    go_wp2_with (go_at_call 67; ((with_reducible refine (dc _).mono ?_); rintro e w2 ⟨rfl, rfl⟩))
    go_ret
    exact ⟨rfl, Below.refl _ _⟩
end Go.Proofs.YtogpghpgnpoioaaGreatDoor

/- The reference's Keys: what the call returns. -/
namespace Go.Proofs.YtogpghpgnpoioaaGreatDoor
open Go.RowKit
set_option maxRecDepth 100000

namespace Mt
open Rc
/-- What one subfield gives. -/
def valS (k : Key) (x : UInt8 × ByteArray) : List By := if x.1 = k.code then (if norm k.norm x.2.data.toList = [] then [] else [norm k.norm x.2.data.toList]) else []
theorem valsF_eq (k : Key) (f : Fl) : valsF k f = if f.tag.data.toList = k.tag.data.toList then f.subs.flatMap (valS k) else [] := by
  unfold valsF
  congr 1
  generalize f.subs = l
  induction l with
  | nil => rfl
  | cons x r ih =>
    rw [List.flatMap_cons, ← ih, List.filter_cons]
    unfold valS
    by_cases h1 : x.1 = k.code
    · rw [if_pos (by simpa using h1), if_pos h1, List.map_cons, List.filter_cons]
      by_cases h2 : norm k.norm x.2.data.toList = []
      · rw [h2]; rfl
      · rw [if_pos (by simpa using h2), if_neg h2]; rfl
    · rw [if_neg (by simpa using h1), if_neg h1]; rfl
/-- What a field's first subfields give. -/
def valsN (k : Key) (f : Fl) (j : Nat) : List By := if f.tag.data.toList = k.tag.data.toList then (f.subs.take j).flatMap (valS k) else []
theorem valsN_zero (k : Key) (f : Fl) : valsN k f 0 = [] := by unfold valsN; split <;> rfl
theorem valsN_all (k : Key) (f : Fl) : valsN k f f.subs.length = valsF k f := by unfold valsN; rw [valsF_eq, List.take_length]
theorem valsN_succ (k : Key) {f : Fl} {j : Nat} {x : UInt8 × ByteArray} (h : f.subs[j]? = some x) : valsN k f (j + 1) = valsN k f j ++ (if f.tag.data.toList = k.tag.data.toList then valS k x else []) := by
  unfold valsN
  split
  · rw [List.take_add_one, h, List.flatMap_append]
    simp
  · rfl
theorem vals_succ (k : Key) {fs : List Fl} {i : Nat} {f : Fl} (h : fs[i]? = some f) : vals k (fs.take (i + 1)) = vals k (fs.take i) ++ valsF k f := by
  unfold vals
  rw [List.take_add_one, h, List.flatMap_append]
  simp
theorem puts_snoc {α : Type} [DecidableEq α] (lt : α → α → Bool) (l : List α) (x : α) : Cp.puts lt (l ++ [x]) = Cp.put lt (Cp.puts lt l) x := by
  unfold Cp.puts
  rw [List.foldl_append]
  rfl
theorem put_len {α : Type} [DecidableEq α] (lt : α → α → Bool) (n : α) : ∀ xs : List α, (Cp.put lt xs n).length ≤ xs.length + 1
  | [] => by simp [Cp.put]
  | y :: r => by
    have := put_len lt n r
    unfold Cp.put
    split
    · simp; omega
    · split <;> simp
/-- The bounds of a record's fields. -/
def Gf (fs : List Fl) : Prop := fs.length ≤ 64 ∧ ∀ f ∈ fs, Gd f
/-- The keys collected so far, in memory that the call owns. -/
structure Got (B : Nat) (w : World) (v : Value) (L : List By) : Prop where
  h : ∃ b o c, v = .slice (some ⟨b, o, none⟩) L.length c ∧ Cs.LA Cs.encB w b o c L ∧ B ≤ b
theorem Got.below {B : Nat} {w w' : World} {v : Value} {L : List By} (h : Got B w v L) (hb : Below w.heap.size w w') : Got B w' v L := by
  obtain ⟨b, o, c, h1, h2, h3⟩ := h.h
  exact ⟨b, o, c, h1, h2.below hb, h3⟩
end Mt

set_option maxHeartbeats 1600000 in
theorem r15_PutG_c {B : Nat} {v : Value} {L : List Mt.By} (n : Mt.By) (w : World) (h : Mt.Got B w v L) (hB : B ≤ w.heap.size) (hlen : L.length ≤ 1000000) :
    Calls Tryz.prog 40 #[v, .string ⟨n.toArray⟩] w fun e w' => ∃ v', e = .returned v' ∧ Mt.Got B w' v' (Cp.put Cp.ltB L n) ∧ Below w.heap.size w w' := by
  obtain ⟨b, o, c, rfl, h2, h3⟩ := h.h
  refine (r15_Put_c L b o c n w h2 hlen).mono ?_
  rintro e w' ⟨b', o', c', rfl, h5, h6, h7⟩
  exact ⟨_, rfl, ⟨b', o', c', rfl, h5, by rcases h6 with h6 | h6 <;> omega⟩, h7⟩
end Go.Proofs.YtogpghpgnpoioaaGreatDoor
