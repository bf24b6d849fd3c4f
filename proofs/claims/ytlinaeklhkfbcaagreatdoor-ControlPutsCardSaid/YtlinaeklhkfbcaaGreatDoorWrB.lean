/- Plain: what the lines of a wrapped text are; the reference's way to wrap comes to the same; no program stands in this file. -/
import Derived.Test.YtlinaeklhkfbcaaGreatDoorWrA
namespace Go.Proofs.YtlinaeklhkfbcaaGreatDoor
namespace Wr
open Go.Lib Rc

def nb (c : UInt8) : Bool := c != 32
def solid (l : By) : By := l.filter nb
theorem solid_app (a b : By) : solid (a ++ b) = solid a ++ solid b := List.filter_append ..
/-- A piece. -/
structure Pc (n : Nat) (p : By) : Prop where
  ne : p ≠ []
  v : Tx.valid p = true
  r : runes p ≤ n
  s : solid p = p
/-- A line. -/
structure Ln (n : Nat) (p : By) : Prop where
  ne : p ≠ []
  v : Tx.valid p = true
  r : runes p ≤ n
  h : p.head? ≠ some 32
  l : p.getLast? ≠ some 32
theorem solid_mem {p : By} (h : solid p = p) : ∀ c ∈ p, c ≠ 32 := by
  intro c hc
  rw [← h] at hc
  have := (List.mem_filter.1 hc).2
  unfold nb at this
  simpa using this
theorem Pc.line {n : Nat} {p : By} (h : Pc n p) : Ln n p := by
  refine ⟨h.ne, h.v, h.r, ?_, ?_⟩
  · intro h0
    exact solid_mem h.s 32 (List.mem_of_head? h0) rfl
  · intro h0
    exact solid_mem h.s 32 (List.mem_of_getLast? h0) rfl
theorem runes_join {a b : By} (ha : Tx.valid a = true) : runes (a ++ [32] ++ b) = runes a + 1 + runes b := by
  have h32 : Tx.valid [32] = true := by decide
  rw [runes_app b (valid_app ha h32), runes_app [32] ha]
  rfl
theorem Ln.join {n : Nat} {a b : By} (ha : Ln n a) (hb : Pc n b) (h : runes a + 1 + runes b ≤ n) : Ln n (a ++ [32] ++ b) := by
  have h32 : Tx.valid [32] = true := by decide
  refine ⟨by simp, valid_app (valid_app ha.v h32) hb.v, by rw [runes_join ha.v]; exact h, ?_, ?_⟩
  · have hne := ha.ne
    cases a with
    | nil => exact absurd rfl hne
    | cons x r => exact ha.h
  · rw [List.getLast?_append]
    have hne := hb.ne
    cases hl : b.getLast? with
    | none => exact absurd (List.getLast?_eq_none_iff.1 hl) hne
    | some x =>
      have h2 := hb.line.l
      rw [hl] at h2
      simpa using h2
theorem rd2 {n b0 b1 : Nat} (b2 : Nat) (ha : ¬ (32 ≤ b0 ∧ b0 < 127)) (h : 194 ≤ b0 ∧ b0 < 224 ∧ 1 < n ∧ 128 ≤ b1 ∧ b1 < 192) :
    Tx.rdecN n b0 b1 b2 = if 160 ≤ (b0 - 192) * 64 + b1 - 128 then ((b0 - 192) * 64 + b1 - 128, 2) else (0, 0) := by
  unfold Tx.rdecN
  rw [if_neg ha, if_pos h]
theorem rd3 {n b0 b1 b2 : Nat} (ha : ¬ (32 ≤ b0 ∧ b0 < 127)) (h : 224 ≤ b0 ∧ b0 < 240 ∧ 2 < n ∧ 128 ≤ b1 ∧ b1 < 192 ∧ 128 ≤ b2 ∧ b2 < 192) :
    Tx.rdecN n b0 b1 b2 = if 2048 ≤ (b0 - 224) * 4096 + (b1 - 128) * 64 + b2 - 128 ∧ ((b0 - 224) * 4096 + (b1 - 128) * 64 + b2 - 128 < 55296 ∨ 57343 < (b0 - 224) * 4096 + (b1 - 128) * 64 + b2 - 128)
     then ((b0 - 224) * 4096 + (b1 - 128) * 64 + b2 - 128, 3) else (0, 0) := by
  unfold Tx.rdecN
  rw [if_neg ha, if_neg (by omega), if_pos h]
theorem rdecN_cut (n m b0 b1 b2 c1 c2 : Nat) (hn : 1 ≤ n) (h1 : 1 < n → c1 = b1) (h2 : 2 < n → c2 = b2) (e1 : n = 1 → b1 = 32) (e2 : n = 2 → b2 = 32)
    (hk : (Tx.rdecN m b0 b1 b2).2 ≠ 0) : (Tx.rdecN m b0 b1 b2).2 ≤ n ∧ Tx.rdecN n b0 c1 c2 = Tx.rdecN m b0 b1 b2 := by
  by_cases ha : 32 ≤ b0 ∧ b0 < 127
  · unfold Tx.rdecN
    rw [if_pos ha, if_pos ha]
    exact ⟨hn, rfl⟩
  · by_cases hb : 194 ≤ b0 ∧ b0 < 224 ∧ 1 < m ∧ 128 ≤ b1 ∧ b1 < 192
    · have hn1 : 1 < n := by omega
      have e := h1 hn1
      subst e
      rw [rd2 b2 ha hb, rd2 c2 ha ⟨hb.1, hb.2.1, hn1, hb.2.2.2⟩]
      refine ⟨?_, rfl⟩
      split <;> (simp only; omega)
    · by_cases hc : 224 ≤ b0 ∧ b0 < 240 ∧ 2 < m ∧ 128 ≤ b1 ∧ b1 < 192 ∧ 128 ≤ b2 ∧ b2 < 192
      · have hn2 : 2 < n := by omega
        have e := h1 (by omega)
        subst e
        have e2 := h2 hn2
        subst e2
        rw [rd3 ha hc, rd3 ha ⟨hc.1, hc.2.1, hn2, hc.2.2.2⟩]
        refine ⟨?_, rfl⟩
        split <;> (simp only; omega)
      · exfalso
        apply hk
        unfold Tx.rdecN
        rw [if_neg ha, if_neg hb, if_neg hc]
theorem rdec_cut {w : By} (r : By) (hne : w ≠ []) (hk : (Tx.rdec (w ++ 32 :: r)).2 ≠ 0) : (Tx.rdec (w ++ 32 :: r)).2 ≤ w.length ∧ Tx.rdec w = Tx.rdec (w ++ 32 :: r) := by
  have hl : 0 < w.length := List.length_pos_iff.2 hne
  unfold Tx.rdec at hk ⊢
  have e0 : (w ++ 32 :: r).getD 0 0 = w.getD 0 0 := by rw [getD_app _ hl]
  have at32 : ∀ j, w.length = j → (w ++ 32 :: r).getD j 0 = 32 := by
    intro j hj
    rw [List.getD_eq_getElem?_getD, List.getElem?_append_right (by omega), ← hj]
    simp
  rw [e0] at hk ⊢
  exact rdecN_cut _ _ _ _ _ _ _ (by omega) (fun h => by rw [getD_app _ h]) (fun h => by rw [getD_app _ h]) (fun h => by rw [at32 1 h]; rfl) (fun h => by rw [at32 2 h]; rfl) hk
theorem valid_cut : ∀ (n : Nat) (w r : By), w.length ≤ n → Tx.valid (w ++ 32 :: r) = true → Tx.valid w = true ∧ Tx.valid r = true
  | 0, w, r, hn, hv => by
    have : w = [] := List.eq_nil_of_length_eq_zero (by omega)
    subst this
    refine ⟨rfl, ?_⟩
    rw [List.nil_append, Tx.valid_step (by simp)] at hv
    have e : Tx.rdec (32 :: r) = (32, 1) := by
      unfold Tx.rdec Tx.rdecN
      have : ((32 :: r).getD 0 0).toNat = 32 := rfl
      rw [this, if_pos (by omega)]
    rw [e, if_neg (by simp)] at hv
    exact hv
  | n + 1, w, r, hn, hv => by
    by_cases hne : w = []
    · subst hne
      exact valid_cut n [] r (by simp) hv
    · obtain ⟨hz, _, hw, hv2, _⟩ := Tx.valid_head (show w ++ 32 :: r ≠ [] by simp) hv
      obtain ⟨h1, h2⟩ := rdec_cut r hne hz
      rw [hw, List.drop_append_of_le_length h1] at hv2
      have ih := valid_cut n _ r (by rw [List.length_drop]; omega) hv2
      refine ⟨?_, ih.2⟩
      rw [Tx.valid_step hne, h2, if_neg hz]
      exact ih.1
theorem wordsR_good {n : Nat} (hn : 1 ≤ n) : ∀ (r w : By), Tx.valid (w ++ r) = true → solid w = w → (∀ p ∈ wordsR n w r, Pc n p) ∧ solid (wordsR n w r).flatten = solid (w ++ r)
  | [], w, hv, hs => by
    rw [List.append_nil] at hv ⊢
    have hg := pieces_good hn w.length w (Nat.le_refl _) hv
    have hf := pieces_flat hn w.length w (Nat.le_refl _)
    refine ⟨fun p hp => ?_, by rw [wordsR, hf]⟩
    rw [wordsR] at hp
    have h := hg p hp
    refine ⟨h.1, h.2.1, h.2.2.1, ?_⟩
    have hm := solid_mem hs
    unfold solid
    rw [List.filter_eq_self]
    intro c hc
    have : c ∈ w := by rw [← hf]; exact List.mem_flatten.2 ⟨p, hp, hc⟩
    have := hm c this
    unfold nb
    simpa using this
  | c :: r, w, hv, hs => by
    by_cases hc : c = 32
    · subst hc
      have hvw := valid_cut w.length w r (Nat.le_refl _) hv
      have ih := wordsR_good hn r [] (by simpa using hvw.2) rfl
      have h0 := wordsR_good hn [] w (by rw [List.append_nil]; exact hvw.1) hs
      rw [wordsR] at h0
      rw [wordsR, if_pos rfl]
      refine ⟨fun p hp => ?_, ?_⟩
      · rcases List.mem_append.1 hp with h | h
        · exact h0.1 p h
        · exact ih.1 p h
      · rw [List.flatten_append, solid_app, h0.2, ih.2, List.append_nil, List.nil_append, solid_app]
        congr 1
    · rw [wordsR, if_neg hc]
      have h1 := wordsR_good hn r (w ++ [c]) (by simpa using hv) (by rw [solid_app, hs]; congr 1; unfold solid nb; simp [hc])
      exact ⟨h1.1, by rw [h1.2]; simp⟩

/-- What has been laid so far. -/
structure St (n : Nat) (st : List By × By) : Prop where
  o : ∀ l ∈ st.1, Ln n l
  c : st.2 = [] ∨ Ln n st.2
theorem wstep_good {n : Nat} {st : List By × By} {p : By} (h : St n st) (hp : Pc n p) : St n (wstep n st p) ∧ solid ((wstep n st p).1.flatten ++ (wstep n st p).2) = solid (st.1.flatten ++ st.2) ++ p := by
  unfold wstep
  by_cases h0 : st.2 = []
  · rw [if_pos h0]
    refine ⟨⟨h.o, .inr hp.line⟩, ?_⟩
    simp only [h0, List.append_nil, solid_app, hp.s]
  · have hl : Ln n st.2 := h.c.resolve_left h0
    rw [if_neg h0]
    by_cases h1 : runes st.2 + 1 + runes p ≤ n
    · rw [if_pos h1]
      refine ⟨⟨h.o, .inr (hl.join hp h1)⟩, ?_⟩
      simp only [solid_app, hp.s, List.append_assoc]
      rfl
    · rw [if_neg h1]
      refine ⟨⟨fun l hl2 => ?_, .inr hp.line⟩, ?_⟩
      · rcases List.mem_append.1 hl2 with h2 | h2
        · exact h.o l h2
        · simp at h2; subst h2; exact hl
      · simp only [List.flatten_append, solid_app, hp.s]
        simp
theorem fold_good {n : Nat} : ∀ (ps : List By) (st : List By × By), St n st → (∀ p ∈ ps, Pc n p) → St n (ps.foldl (wstep n) st) ∧ solid ((ps.foldl (wstep n) st).1.flatten ++ (ps.foldl (wstep n) st).2) = solid (st.1.flatten ++ st.2) ++ solid ps.flatten
  | [], st, h, _ => ⟨h, by simp [solid]⟩
  | p :: ps, st, h, hp => by
    have h1 := wstep_good h (hp p (by simp))
    have h2 := fold_good ps (wstep n st p) h1.1 (fun q hq => hp q (by simp [hq]))
    rw [List.foldl_cons]
    refine ⟨h2.1, ?_⟩
    rw [h2.2, h1.2, List.flatten_cons, solid_app p, (hp p (by simp)).s, List.append_assoc]
/-- What the lines are. -/
theorem wrap_good {n : Int} (hn : ¬ n < 1) {s : By} (hv : Tx.valid s = true) : (∀ l ∈ wrap n s, Ln n.toNat l) ∧ solid (wrap n s).flatten = solid s := by
  have h1 := wordsR_good (show 1 ≤ n.toNat by omega) s [] (by simpa using hv) rfl
  have h2 := fold_good (wordsR n.toNat [] s) ([], []) ⟨fun l hl => (by cases hl), .inl rfl⟩ h1.1
  unfold wrap wfin
  rw [if_neg hn]
  constructor
  · intro l hl
    rcases List.mem_append.1 hl with h | h
    · exact h2.1.o l h
    · split at h
      · cases h
      · rename_i hc
        simp at h
        subst h
        exact h2.1.c.resolve_left hc
  · rw [List.flatten_append]
    have e : (if (List.foldl (wstep n.toNat) ([], []) (wordsR n.toNat [] s)).2 = [] then [] else [(List.foldl (wstep n.toNat) ([], []) (wordsR n.toNat [] s)).2]).flatten = (List.foldl (wstep n.toNat) ([], []) (wordsR n.toNat [] s)).2 := by
      split
      · rename_i h; rw [h]; rfl
      · simp
    rw [e, h2.2, h1.2]
    simp [solid]

/-! ### the reference's way -/
/-- One piece more, onto the list. -/
def rstep (n : Nat) (out : List By) (p : By) : List By := match out.getLast? with
  | none => [p]
  | some l => if runes (l ++ [32] ++ p) ≤ n then out.dropLast ++ [l ++ [32] ++ p] else out ++ [p]
theorem rstep_eq {n : Nat} {st : List By × By} {p : By} (h : St n st) (hp : Pc n p) (hs : st.2 = [] → st.1 = []) : rstep n (wfin st) p = wfin (wstep n st p) ∧ ((wstep n st p).2 = [] → (wstep n st p).1 = []) := by
  unfold wstep
  by_cases h0 : st.2 = []
  · rw [if_pos h0]
    have h1 := hs h0
    refine ⟨?_, fun h9 => absurd h9 hp.ne⟩
    unfold wfin
    simp [h0, h1, hp.ne, rstep]
  · have hl : Ln n st.2 := h.c.resolve_left h0
    rw [if_neg h0]
    have e : wfin st = st.1 ++ [st.2] := by unfold wfin; rw [if_neg h0]
    by_cases h1 : runes st.2 + 1 + runes p ≤ n
    · rw [if_pos h1]
      refine ⟨?_, fun h9 => by simp at h9⟩
      rw [e]
      unfold rstep wfin
      rw [List.getLast?_concat]
      simp only
      rw [if_pos (by rw [runes_join hl.v]; exact h1), List.dropLast_concat, if_neg (by simp)]
    · rw [if_neg h1]
      refine ⟨?_, fun h9 => absurd h9 hp.ne⟩
      rw [e]
      unfold rstep wfin
      rw [List.getLast?_concat]
      simp only
      rw [if_neg (by rw [runes_join hl.v]; exact h1), if_neg hp.ne]
theorem rfold_eq {n : Nat} : ∀ (ps : List By) (st : List By × By), St n st → (∀ p ∈ ps, Pc n p) → (st.2 = [] → st.1 = []) → ps.foldl (rstep n) (wfin st) = wfin (ps.foldl (wstep n) st)
  | [], st, _, _, _ => rfl
  | p :: ps, st, h, hp, hs => by
    have h1 := rstep_eq h (hp p (by simp)) hs
    have h2 := wstep_good h (hp p (by simp))
    rw [List.foldl_cons, List.foldl_cons, h1.1]
    exact rfold_eq ps _ h2.1 (fun q hq => hp q (by simp [hq])) h1.2
theorem wrap_ref {n : Int} (hn : ¬ n < 1) {s : By} (hv : Tx.valid s = true) : (wordsR n.toNat [] s).foldl (rstep n.toNat) [] = wrap n s := by
  have h1 := wordsR_good (show 1 ≤ n.toNat by omega) s [] (by simpa using hv) rfl
  unfold wrap
  rw [if_neg hn]
  exact rfold_eq (wordsR n.toNat [] s) ([], []) ⟨fun l hl => (by cases hl), .inl rfl⟩ h1.1 (fun _ => rfl)
end Wr
end Go.Proofs.YtlinaeklhkfbcaaGreatDoor
