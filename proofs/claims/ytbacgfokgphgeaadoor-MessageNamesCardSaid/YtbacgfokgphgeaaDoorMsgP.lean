/- Layer 41: plain facts: what Print writes, Parse restores; what Parse accepts, Print writes. No program stands in this file. -/
import Derived.Test.YtbacgfokgphgeaaDoorMsgI
namespace Go.Proofs.YtbacgfokgphgeaaDoor
open Go.RowKit

theorem Sp.join_two (x y : List UInt8) (r : List (List UInt8)) (c : UInt8) : Lib.join (x :: y :: r) [c] = x ++ c :: Lib.join (y :: r) [c] := by
  rw [Lib.join_cons, Lib.join_cons]
  simp [Lib.joinTail]
/-- Pieces put together are cut again. -/
theorem Sp.split_join (c : UInt8) : ∀ (k : Nat) (ws : List (List UInt8)), ws ≠ [] → ws.length ≤ k + 1 → (∀ x ∈ ws.take k, c ∉ x) → Sp.splitW c k (Lib.join ws [c]) = ws
  | 0, ws, hne, hl, _ => by
    cases ws with
    | nil => exact absurd rfl hne
    | cons x r =>
      have : r = [] := List.eq_nil_of_length_eq_zero (by rw [List.length_cons] at hl; omega)
      subst this
      rw [Lib.join_one]
      rfl
  | k + 1, ws, hne, hl, hx => by
    cases ws with
    | nil => exact absurd rfl hne
    | cons x r =>
      have hx0 : c ∉ x := hx x (by simp)
      cases r with
      | nil =>
        rw [Lib.join_one]
        simp only [Sp.splitW, Sp.cut_none.2 hx0]
      | cons y r =>
        rw [Sp.join_two]
        simp only [Sp.splitW, Sp.cut_append hx0]
        rw [Sp.split_join c k (y :: r) (by simp) (by simp at hl ⊢; omega) (fun z hz => hx z (by
          rw [List.take_succ_cons]
          exact List.mem_cons_of_mem _ hz))]
/-- What was cut is put together again. -/
theorem Sp.join_split (c : UInt8) : ∀ (k : Nat) (l : List UInt8), Lib.join (Sp.splitW c k l) [c] = l ∧ (Sp.splitW c k l).length ≤ k + 1
  | 0, l => by
    simp only [Sp.splitW]
    exact ⟨Lib.join_one _ _, by simp⟩
  | k + 1, l => by
    simp only [Sp.splitW]
    cases hc : Sp.cut c l with
    | none => exact ⟨Lib.join_one _ _, by simp⟩
    | some p =>
      obtain ⟨a, b⟩ := p
      obtain ⟨h1, h2⟩ := Sp.join_split c k b
      have h3 := (Sp.cut_eq hc).1
      simp only
      cases hs : Sp.splitW c k b with
      | nil =>
        exfalso
        exact Mg.splitW_ne c k b hs
      | cons y r =>
        rw [hs] at h1 h2
        refine ⟨?_, by simp at h2 ⊢; omega⟩
        rw [Sp.join_two, h1, h3]

namespace Nm
theorem digits_no (n : Nat) : ∀ x ∈ Lib.decDigits n, 48 ≤ x.toNat ∧ x.toNat < 58 := by
  induction n using Nat.strongRecOn with
  | _ n ih =>
    intro x hx
    by_cases h : n < 10
    · rw [digits_small h] at hx
      simp at hx
      subst hx
      rw [dig_toNat h]
      omega
    · rw [digits_big h] at hx
      rcases List.mem_append.1 hx with h1 | h1
      · exact ih (n / 10) (by omega) x h1
      · simp at h1
        subst h1
        rw [dig_toNat (by omega)]
        omega
theorem itoa_no {n : Int} (h : 0 ≤ n) : ∀ x ∈ Lib.itoa n, 48 ≤ x.toNat ∧ x.toNat < 58 := by
  obtain ⟨m, rfl⟩ := Int.eq_ofNat_of_zero_le h
  rw [itoa_nat]
  exact digits_no m
theorem itoa_no32 {n : Int} (h : 0 ≤ n) : (32 : UInt8) ∉ Lib.itoa n := fun hx => by
  have := itoa_no h 32 hx
  have e : (32 : UInt8).toNat = 32 := rfl
  omega
theorem itoa_lenk (k : Nat) {n : Int} (h0 : 0 ≤ n) (h : n < 10 ^ (k + 1)) : (Lib.itoa n).length ≤ k + 1 := by
  obtain ⟨m, rfl⟩ := Int.eq_ofNat_of_zero_le h0
  rw [itoa_nat]
  exact digits_len k m (by exact_mod_cast h)
theorem itoa_ne {n : Int} (h : 0 ≤ n) : Lib.itoa n ≠ [] := by
  obtain ⟨m, rfl⟩ := Int.eq_ofNat_of_zero_le h
  rw [itoa_nat]
  exact digits_ne m
theorem num_itoa {n : Int} (h0 : 0 ≤ n) (h : n < 1000000000) : num (Lib.itoa n) = some n.toNat := by
  obtain ⟨m, rfl⟩ := Int.eq_ofNat_of_zero_le h0
  rw [itoa_nat, num_digits m (digits_len9 (by omega))]
  rfl
end Nm

namespace Tx
theorem last_wid {l : List UInt8} (hne : l ≠ []) (hb : blank (rdec l).1 = false) : (l.take (wid l)).getLast? ≠ some 32 ∧ l.take (wid l) ≠ [] := by
  refine ⟨?_, fun h => by
    have := congrArg List.length h
    have h2 := wid_pos l
    have h3 : 0 < l.length := List.length_pos_iff.2 hne
    rw [List.length_take, List.length_nil] at this
    omega⟩
  obtain ⟨b0, t, rfl⟩ : ∃ b t, l = b :: t := by
    cases l with
    | nil => exact absurd rfl hne
    | cons b t => exact ⟨b, t, rfl⟩
  have e32 : (32 : UInt8).toNat = 32 := rfl
  have hd : rdec (b0 :: t) = rdecN (t.length + 1) b0.toNat ((b0 :: t).getD 1 0).toNat ((b0 :: t).getD 2 0).toNat := rfl
  have hone : wid (b0 :: t) = 1 → b0 ≠ 32 → ((b0 :: t).take (wid (b0 :: t))).getLast? ≠ some 32 := by
    intro h1 h2
    rw [h1]
    simpa using h2
  by_cases h32 : b0 = 32
  · subst h32
    exfalso
    have : rdec (32 :: t) = (32, 1) := by
      rw [hd]
      unfold rdecN
      rw [e32, if_pos (by omega)]
    rw [this] at hb
    simp [blank] at hb
  · unfold wid at hone ⊢
    rw [hd] at hone ⊢
    unfold rdecN at hone ⊢
    split
    · rename_i h1
      rw [if_pos h1] at hone
      exact hone rfl h32
    · rename_i h1
      rw [if_neg h1] at hone
      split
      · rename_i h2
        rw [if_pos h2] at hone
        split
        · cases t with
          | nil => simp at h2
          | cons b1 t =>
            simp only [List.getD_cons_succ, List.getD_cons_zero] at h2
            show ((b0 :: b1 :: t).take 2).getLast? ≠ some 32
            simp only [List.take_succ_cons, List.take_zero]
            intro h
            simp at h
            subst h
            omega
        · rename_i h3
          rw [if_neg h3] at hone
          exact hone rfl h32
      · rename_i h2
        rw [if_neg h2] at hone
        split
        · rename_i h3
          rw [if_pos h3] at hone
          split
          · clear hone hb hd hne
            rcases t with _ | ⟨b1, _ | ⟨b2, t⟩⟩
            · simp at h3
            · simp at h3
            · simp only [List.getD_cons_succ, List.getD_cons_zero] at h3
              show ((b0 :: b1 :: b2 :: t).take 3).getLast? ≠ some 32
              simp only [List.take_succ_cons, List.take_zero]
              intro h
              simp at h
              subst h
              omega
          · rename_i h4
            rw [if_neg h4] at hone
            exact hone rfl h32
        · rename_i h3
          rw [if_neg h3] at hone
          exact hone rfl h32
theorem last_fold : ∀ (n : Nat) (l : List UInt8) (st : List UInt8 × Bool), l.length ≤ n → st.1.getLast? ≠ some 32 → (foldT cleanStep st l).1.getLast? ≠ some 32
  | 0, l, st, hl, h => by
    have : l = [] := List.eq_nil_of_length_eq_zero (by omega)
    subst this
    rw [foldT_nil]
    exact h
  | n + 1, l, st, hl, h => by
    by_cases hne : l = []
    · subst hne
      rw [foldT_nil]
      exact h
    · have hw := wid_pos l
      have hlp : 0 < l.length := List.length_pos_iff.2 hne
      rw [foldT_step _ _ hne]
      refine last_fold n _ _ (by rw [List.length_drop]; omega) ?_
      unfold cleanStep
      split
      · exact h
      · rename_i hb
        obtain ⟨h1, h2⟩ := last_wid hne (by simpa using hb)
        simp only
        rw [List.getLast?_append]
        cases hg : (l.take (wid l)).getLast? with
        | none => exact absurd (List.getLast?_eq_none_iff.1 hg) h2
        | some b =>
          rw [hg] at h1
          simpa using h1
theorem clean_last (l : List UInt8) : (clean l).getLast? ≠ some 32 := last_fold l.length l _ (Nat.le_refl _) (by simp)
end Tx

namespace Mg
theorem noteB_last {l : List UInt8} (h : noteB l = true) : l.getLast? ≠ some 32 := by
  unfold noteB at h
  simp only [Bool.and_eq_true, beq_iff_eq] at h
  have := Tx.clean_last l
  rw [h.2] at this
  exact this
theorem noteB_nil : noteB [] = true := by decide
/-- The words of a line. -/
def wsOf (f t r s k rc d : Int) (n : List UInt8) : List (List UInt8) := parts f t r s k rc d ++ if n = [] then [] else [n]
theorem wsOf_get (f t r s k rc d : Int) (n : List UInt8) : (wsOf f t r s k rc d n).getD 0 [] = Lib.itoa f ∧ (wsOf f t r s k rc d n).getD 1 [] = Lib.itoa t ∧ (wsOf f t r s k rc d n).getD 2 [] = Lib.itoa r ∧ (wsOf f t r s k rc d n).getD 3 [] = Lib.itoa s ∧ (wsOf f t r s k rc d n).getD 4 [] = nameOf k ∧ (wsOf f t r s k rc d n).getD 5 [] = Lib.itoa rc ∧ (wsOf f t r s k rc d n).getD 6 [] = Lib.itoa d ∧ (wsOf f t r s k rc d n).getD 7 [] = n := by
  refine ⟨rfl, rfl, rfl, rfl, rfl, rfl, rfl, ?_⟩
  unfold wsOf
  split
  · rename_i h
    rw [h]
    rfl
  · rfl
theorem nameOf_no {k : Int} (h : 1 ≤ k ∧ k ≤ 11) : (32 : UInt8) ∉ nameOf k ∧ 2 ≤ (nameOf k).length ∧ (nameOf k).length ≤ 6 := by
  rcases cases11 h with rfl | rfl | rfl | rfl | rfl | rfl | rfl | rfl | rfl | rfl | rfl <;> decide
theorem right_note {f t r s k rc d : Int} {n : List UInt8} (h : right f t r s k rc d n = 0) : noteB n = true ∧ n.length ≤ 40 := by
  unfold right at h
  simp only [inB_false] at h
  repeat' split at h
  all_goals first | (exfalso; omega) | skip
  rename_i h6 h7
  exact ⟨by simpa using h6, by omega⟩
/-- What Print writes, Parse restores. -/
theorem parse_line {f t r s k rc d : Int} {n : List UInt8} (h : right f t r s k rc d n = 0) : parse (line f t r s k rc d n) = (0, ⟨f, t, r, s, k, rc, d, n⟩) := by
  obtain ⟨h1, h2, _, h3, h4, h5, h6, _, h7, _, _⟩ := right_zero h
  obtain ⟨hn, hnl⟩ := right_note h
  obtain ⟨n32, _, _⟩ := nameOf_no h5
  have hs : Sp.splitW 32 7 (line f t r s k rc d n) = wsOf f t r s k rc d n := by
    refine Sp.split_join 32 7 _ (by simp [parts]) ?_ ?_
    · rw [List.length_append]
      split <;> simp [parts]
    · intro x hx
      rw [List.take_append_of_le_length (by simp [parts])] at hx
      have hx := List.mem_of_mem_take hx
      simp only [parts, List.mem_cons, List.not_mem_nil, or_false] at hx
      rcases hx with rfl | rfl | rfl | rfl | rfl | rfl | rfl
      · exact Nm.itoa_no32 (by omega)
      · exact Nm.itoa_no32 (by omega)
      · exact Nm.itoa_no32 (by omega)
      · exact Nm.itoa_no32 (by omega)
      · exact n32
      · exact Nm.itoa_no32 (by omega)
      · exact Nm.itoa_no32 (by omega)
  obtain ⟨g0, g1, g2, g3, g4, g5, g6, g7⟩ := wsOf_get f t r s k rc d n
  have hk : kindOf (nameOf k) = k := (kindOf_iff h5).1 rfl
  have hm : mOf (wsOf f t r s k rc d n) = ⟨f, t, r, s, k, rc, d, n⟩ := by
    unfold mOf N
    rw [g0, g1, g2, g3, g4, g5, g6, g7, hk, Nm.num_itoa (by omega) (by omega), Nm.num_itoa (by omega) (by omega), Nm.num_itoa (by omega) (by omega), Nm.num_itoa (by omega) (by omega), Nm.num_itoa (by omega) (by omega), Nm.num_itoa (by omega) (by omega)]
    simp only [Option.getD_some]
    rw [Int.toNat_of_nonneg (by omega), Int.toNat_of_nonneg (by omega), Int.toNat_of_nonneg (by omega), Int.toNat_of_nonneg (by omega), Int.toNat_of_nonneg (by omega), Int.toNat_of_nonneg (by omega)]
  have hb : ¬ bad (wsOf f t r s k rc d n) := by
    unfold bad ok
    rw [g0, g1, g2, g3, g4, g5, g6, g7, hk, Nm.num_itoa (by omega) (by omega), Nm.num_itoa (by omega) (by omega), Nm.num_itoa (by omega) (by omega), Nm.num_itoa (by omega) (by omega), Nm.num_itoa (by omega) (by omega), Nm.num_itoa (by omega) (by omega), hn]
    have hlen : (wsOf f t r s k rc d n).length = if n = [] then 7 else 8 := by
      unfold wsOf
      rw [List.length_append]
      split <;> simp [parts]
    simp only [Option.isSome_some, Bool.true_eq_false, false_or, or_false]
    rw [hlen]
    rintro (h | h | ⟨h, h'⟩)
    · split at h <;> omega
    · omega
    · rw [if_pos h'] at h
      omega
  unfold parse
  rw [hs, if_neg hb, hm, if_pos (show rightM ⟨f, t, r, s, k, rc, d, n⟩ = 0 from h)]
/-- How long a line is, and how it begins and ends. -/
theorem line_ends {f t r s k rc d : Int} {n : List UInt8} (h : right f t r s k rc d n = 0) :
    13 ≤ (line f t r s k rc d n).length ∧ (line f t r s k rc d n).length ≤ 100 ∧ (∃ b, (line f t r s k rc d n).head? = some b ∧ b ≠ 32) ∧ (∃ b, (line f t r s k rc d n).getLast? = some b ∧ b ≠ 32) := by
  obtain ⟨h1, h2, _, h3, h4, h5, h6, _, h7, _, _⟩ := right_zero h
  obtain ⟨hn, hnl⟩ := right_note h
  obtain ⟨_, k1, k2⟩ := nameOf_no h5
  have f1 := List.length_pos_iff.2 (Nm.itoa_ne (n := f) (by omega))
  have t1 := List.length_pos_iff.2 (Nm.itoa_ne (n := t) (by omega))
  have r1 := List.length_pos_iff.2 (Nm.itoa_ne (n := r) (by omega))
  have s1 := List.length_pos_iff.2 (Nm.itoa_ne (n := s) (by omega))
  have c1 := List.length_pos_iff.2 (Nm.itoa_ne (n := rc) (by omega))
  have d1 := List.length_pos_iff.2 (Nm.itoa_ne (n := d) (by omega))
  have f2 := Nm.itoa_lenk 0 (n := f) (by omega) (by omega)
  have t2 := Nm.itoa_lenk 0 (n := t) (by omega) (by omega)
  have r2 := Nm.itoa_lenk 3 (n := r) (by omega) (by omega)
  have s2 := Nm.itoa_lenk 1 (n := s) (by omega) (by omega)
  have c2 := Nm.itoa_lenk 3 (n := rc) (by omega) (by omega)
  have d2 := Nm.itoa_lenk 5 (n := d) (by omega) (by omega)
  have l0 : 13 ≤ (line f t r s k rc d []).length ∧ (line f t r s k rc d []).length ≤ 30 := by
    rw [line_none]
    simp only [List.length_append, List.length_cons, List.length_nil]
    omega
  have hh : ∃ b, (line f t r s k rc d []).head? = some b ∧ b ≠ 32 := by
    rw [line_none]
    cases hi : Lib.itoa f with
    | nil => exact absurd hi (Nm.itoa_ne (by omega))
    | cons b u =>
      refine ⟨b, by simp, ?_⟩
      rintro rfl
      exact Nm.itoa_no32 (n := f) (by omega) (by rw [hi]; simp)
  by_cases hnn : n = []
  · subst hnn
    refine ⟨l0.1, by omega, hh, ?_⟩
    rw [line_none, List.getLast?_append]
    cases hg : (Lib.itoa d).getLast? with
    | none => exact absurd (List.getLast?_eq_none_iff.1 hg) (Nm.itoa_ne (by omega))
    | some b =>
      refine ⟨b, by simp, ?_⟩
      rintro rfl
      exact Nm.itoa_no32 (n := d) (by omega) (List.mem_of_getLast? hg)
  · rw [line_some _ _ _ _ _ _ _ _ hnn]
    obtain ⟨b, hb1, hb2⟩ := hh
    refine ⟨by simp only [List.length_append, List.length_cons, List.length_nil]; omega, by simp only [List.length_append, List.length_cons, List.length_nil]; omega, ⟨b, ?_, hb2⟩, ?_⟩
    · cases hi : line f t r s k rc d [] with
      | nil => rw [hi] at hb1; cases hb1
      | cons x u =>
        rw [hi] at hb1
        simpa using hb1
    · rw [List.getLast?_append]
      cases hg : n.getLast? with
      | none => exact absurd (List.getLast?_eq_none_iff.1 hg) hnn
      | some b =>
        refine ⟨b, by simp, ?_⟩
        rintro rfl
        exact noteB_last hn hg
theorem ok_itoa {ws : List (List UInt8)} {j : Nat} (h : ok ws j = true) : Lib.itoa (N ws j) = ws.getD j [] := by
  unfold ok at h
  unfold N
  cases hn : Nm.num (ws.getD j []) with
  | none => rw [hn] at h; cases h
  | some m => exact Nm.itoa_num hn
/-- What Parse accepts is what Print writes. -/
theorem line_parse {l : List UInt8} (h : (parse l).1 = 0) : rightM (parse l).2 = 0 ∧ line (parse l).2.f (parse l).2.t (parse l).2.r (parse l).2.s (parse l).2.k (parse l).2.rc (parse l).2.d (parse l).2.n = l := by
  obtain ⟨hj, hlen⟩ := Sp.join_split 32 7 l
  unfold parse at h ⊢
  split
  · rename_i h1
    rw [if_pos h1] at h
    cases h
  · rename_i h1
    rw [if_neg h1] at h
    split
    · rename_i h2
      refine ⟨h2, ?_⟩
      generalize hws : Sp.splitW 32 7 l = ws at *
      unfold bad at h1
      simp only [not_or, Bool.not_eq_false] at h1
      obtain ⟨q0, q1, q2, q3, q4, q5, q6, q7, q8, q9⟩ := h1
      have hk := kindOf_range (ws.getD 4 [])
      have hname : nameOf (kindOf (ws.getD 4 [])) = ws.getD 4 [] := (kindOf_iff (by omega)).2 rfl
      rw [← hj]
      unfold line
      congr 1
      unfold parts mOf
      simp only
      rw [ok_itoa q1, ok_itoa q2, ok_itoa q3, ok_itoa q4, ok_itoa q5, ok_itoa q6, hname]
      match ws, q0, hlen, q8 with
      | [a0, a1, a2, a3, a4, a5, a6], _, _, _ => rfl
      | [a0, a1, a2, a3, a4, a5, a6, a7], _, _, q8 =>
        have : a7 ≠ [] := fun e => q8 ⟨by simp, e⟩
        show _ ++ (if a7 = [] then [] else [a7]) = _
        rw [if_neg this]
        rfl
      | [], q0, _, _ => simp at q0
      | [_], q0, _, _ => simp at q0
      | [_, _], q0, _, _ => simp at q0
      | [_, _, _], q0, _, _ => simp at q0
      | [_, _, _, _], q0, _, _ => simp at q0
      | [_, _, _, _, _], q0, _, _ => simp at q0
      | [_, _, _, _, _, _], q0, _, _ => simp at q0
      | _ :: _ :: _ :: _ :: _ :: _ :: _ :: _ :: _ :: _, _, hl, _ => simp at hl
    · rename_i h2
      rw [if_neg h2] at h
      exact absurd h h2
end Mg
end Go.Proofs.YtbacgfokgphgeaaDoor
