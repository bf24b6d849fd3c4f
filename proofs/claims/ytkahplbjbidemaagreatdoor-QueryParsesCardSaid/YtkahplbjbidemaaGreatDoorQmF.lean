/- The reference reads a term, as a whole; a range of years: what the calls return. -/
import Derived.Test.YtkahplbjbidemaaGreatDoorQmE
namespace Go.Proofs.YtkahplbjbidemaaGreatDoor
open Go.RowKit
set_option maxRecDepth 100000

theorem r21_parseTerm_c (toks r : List Qr.Tok) (b o c : Nat) (f : Int) (w : World) (h : Qr.RT w toks b o c) (hr : r <:+ toks) :
    Calls Tryz.prog 97 #[.slice (some ⟨b, o, none⟩) (toks.length + 1) c, .int .i64 ((toks.length - r.length : Nat) : Int), .int .i64 f] w (Qr.RRes toks (Qr.pTerm false f r) w) := by
  obtain ⟨⟨tk, tt, tg⟩, ht⟩ : ∃ t, Qr.lk r = t := ⟨_, rfl⟩
  obtain ⟨⟨nk, nt, ng⟩, hn⟩ : ∃ t, Qr.lk r.tail = t := ⟨_, rfl⟩
  have hw0 : Qr.word0 r = (tk == 113 || (tk == 114 && !Qr.anyOp ⟨tk, tt, tg⟩)) := by unfold Qr.word0; rw [ht]
  have hgl : Qr.glue 42 r = (tk == 114 && nk == 42 && ng) := by unfold Qr.glue Qr.lk1; rw [ht, hn]
  have hP : Qr.pTerm false f r = if Qr.word0 r = false then none else if Tx.words tt = [] then none
      else if Qr.glue 42 r = true then (if 1 < (Tx.words tt).length then none else some (.mk 2 f (Qr.wordsB tt) 0 0 [], r.tail.tail))
      else if tk = 114 ∧ (Tx.words tt).length = 1 then some (.mk 1 f (Qr.wordsB tt) 0 0 [], r.tail)
      else some (.mk 3 f (Qr.wordsB tt) 0 0 [], r.tail) := by
    unfold Qr.pTerm
    rw [ht]
    simp only [Bool.false_and]
    rfl
  rw [hP, hw0, hgl]
  have hwl := Qr.wordsB_len tt
  have hwe : Qr.wordsB tt = [] ↔ Tx.words tt = [] := Qr.words_nil
  by_cases h3 : tk = 113
  · rw [if_neg (by rw [h3]; simp)]
    by_cases hx : Tx.words tt = []
    · rw [if_pos hx]
      exact pt_nil_q toks r b o c f w h hr tk tt tg ht h3 (hwe.2 hx)
    · rw [if_neg hx, if_neg (by rw [h3]; simp), if_neg (by rw [h3]; simp)]
      exact pt_phrase_q toks r b o c f w h hr tk tt tg ht h3 (fun e => hx (hwe.1 e))
  · by_cases h4 : tk = 114
    · by_cases ha : Qr.anyOp ⟨tk, tt, tg⟩ = true
      · rw [if_pos (by rw [ha, h4]; simp)]
        exact pt_op toks r b o c f w h hr tk tt tg ht h4 ha
      · have ha' : Qr.anyOp ⟨tk, tt, tg⟩ = false := by simpa using ha
        rw [if_neg (by rw [ha', h4]; simp)]
        by_cases hx : Tx.words tt = []
        · rw [if_pos hx]
          exact pt_nil_r toks r b o c f w h hr tk tt tg ht h4 ha' (hwe.2 hx)
        · have hx' : Qr.wordsB tt ≠ [] := fun e => hx (hwe.1 e)
          have hpos : 1 ≤ (Tx.words tt).length := by
            cases hq : Tx.words tt with
            | nil => exact absurd hq hx
            | cons a b => simp
          rw [if_neg hx]
          by_cases hk : nk = 42
          · by_cases hg : ng = true
            · rw [if_pos (by rw [h4, hk, hg]; decide)]
              by_cases hl : 1 < (Tx.words tt).length
              · rw [if_pos hl]
                exact pt_s0 toks r b o c f w h hr tk tt tg ht h4 ha' nk nt ng hn hk hg (by omega) hx'
              · rw [if_neg hl]
                exact pt_s1 toks r b o c f w h hr tk tt tg ht h4 ha' nk nt ng hn hk hg (by omega)
            · have hg' : ng = false := by simpa using hg
              rw [if_neg (by rw [hg']; simp)]
              by_cases hl : (Tx.words tt).length = 1
              · rw [if_pos ⟨h4, hl⟩]
                exact pt_g1 toks r b o c f w h hr tk tt tg ht h4 ha' nk nt ng hn hk hg' (by omega)
              · rw [if_neg (fun e => hl e.2)]
                exact pt_g0 toks r b o c f w h hr tk tt tg ht h4 ha' nk nt ng hn hk hg' (by omega) hx'
          · have hk' : (nk == 42) = false := beq_eq_false_iff_ne.2 hk
            rw [if_neg (by rw [hk']; simp)]
            by_cases hl : (Tx.words tt).length = 1
            · rw [if_pos ⟨h4, hl⟩]
              exact pt_n1 toks r b o c f w h hr tk tt tg ht h4 ha' nk nt ng hn hk' (by omega)
            · rw [if_neg (fun e => hl e.2)]
              exact pt_n0 toks r b o c f w h hr tk tt tg ht h4 ha' nk nt ng hn hk' (by omega) hx'
    · rw [if_pos (by rw [Bool.or_eq_false_iff, Bool.and_eq_false_iff]; exact ⟨beq_eq_false_iff_ne.2 h3, .inl (beq_eq_false_iff_ne.2 h4)⟩)]
      exact pt_kind toks r b o c f w h hr tk tt tg ht h3 h4

namespace Qr
theorem cut_at {c : UInt8} {l : By} {k : Nat} (hk : k ≤ l.length) (hno : c ∉ l.take k) (he : k < l.length → l.getD k 0 = c) : Sp.cut c l = if k = l.length then none else some (l.take k, l.drop (k + 1)) := by
  by_cases h : k = l.length
  · rw [if_pos h]
    rw [h, List.take_length] at hno
    exact Sp.cut_none.2 hno
  · rw [if_neg h]
    have hlt : k < l.length := by omega
    have e : l = l.take k ++ c :: l.drop (k + 1) := by
      conv => lhs; rw [← List.take_append_drop k l, List.drop_eq_getElem_cons hlt]
      have := he hlt
      rw [List.getD_eq_getElem?_getD, List.getElem?_eq_getElem hlt] at this
      rw [show l[k] = c from this]
    conv => lhs; rw [e]
    exact Sp.cut_append hno
theorem pYears_eq (r : List Tok) : pYears false r = if (lk r).k ≠ 114 then none else match Sp.cut 45 (lk r).t with
    | none => none
    | some (x, y) => match yearN x, yearN y with
      | some m, some n => some (.mk 4 0 [] m n [], r.tail)
      | _, _ => none := by
  unfold pYears
  simp only [Bool.false_and]
  rfl
def yrs (x y : Option Nat) (r : List Tok) : PR := match x with
  | none => none
  | some m => match y with
    | none => none
    | some n => some (.mk 4 0 [] m n [], r)
theorem pYears_cut {r : List Tok} {x y : By} (hk : (lk r).k = 114) (hc : Sp.cut 45 (lk r).t = some (x, y)) : pYears false r = yrs (yearN x) (yearN y) r.tail := by
  rw [pYears_eq, if_neg (by simp [hk]), hc]
  simp only
  unfold yrs
  cases yearN x with
  | none => rfl
  | some m => cases yearN y <;> rfl
end Qr

set_option maxHeartbeats 6400000 in
theorem r21_parseYears_c (toks r : List Qr.Tok) (b o c : Nat) (w : World) (h : Qr.RT w toks b o c) (hr : r <:+ toks) (hk0 : (Qr.lk r).k ≠ 0) :
    Calls Tryz.prog 98 #[.slice (some ⟨b, o, none⟩) (toks.length + 1) c, .int .i64 ((toks.length - r.length : Nat) : Int)] w (Qr.RRes toks (Qr.pYears false r) w) := by
  have hta := Qr.tail_at hr hk0
  have hleg := h.leg hr
  obtain ⟨t0, t1, t2⟩ := h.at_ r hr
  obtain ⟨⟨tk, tt, tg⟩, ht⟩ : ∃ t, Qr.lk r = t := ⟨_, rfl⟩
  have hY := Qr.pYears_eq r
  have hYc := fun x y => Qr.pYears_cut (r := r) (x := x) (y := y)
  have hK : Qr.kR tk = 1 ↔ tk = 114 := by rw [ht] at hleg; exact (Qr.kR_eq hleg).2.1
  have htl : (Qr.tx ⟨tk, tt, tg⟩).length ≤ 1000 := by
    have hm := h.ok (Qr.lk r) (hr.subset (Qr.lk_mem hk0))
    rw [ht] at hm
    unfold Qr.tx
    split
    · exact hm.2
    · split <;> simp
  rw [ht] at t0 t1 t2 hY hk0 hYc
  simp only at t0 t1 t2 hY hk0 hYc
  have HYC := Lib.hid hYc; clear hYc
  have hte := (Qr.tail_eats (r := r) (by rw [ht]; exact hk0)).2
  have hrl := hr.length_le
  have hlen := h.len
  have hbl := h.lt
  have hcap := h.cap
  have hmax := h.max
  have hmx : maxLen = 9223372036854775807 := rfl
  obtain ⟨A, hA⟩ : ∃ A, toks.length - r.length = A := ⟨_, rfl⟩
  rw [hA] at t0 t1 t2 ⊢
  have hA1 : A ≤ toks.length := by omega
  have HTA := Lib.hid hta; have HA := Lib.hid hA
  obtain ⟨s, hs⟩ : ∃ s : ByteArray, (⟨(Qr.tx ⟨tk, tt, tg⟩).toArray⟩ : ByteArray) = s := ⟨_, rfl⟩
  have hsz : s.size ≤ 1000 := by rw [← hs, Tx.size_mk]; exact htl
  have hst : tk = 114 → s.data.toList = tt := fun e => by
    rw [← hs]
    unfold Qr.tx
    rw [if_pos (.inr e)]
  obtain ⟨K, hKK⟩ : ∃ K, Qr.kR tk = K := ⟨_, rfl⟩
  rw [hs] at t1
  rw [hKK] at t0 hK
  have HY := Lib.hid hY; have HK := Lib.hid hK; have HST := Lib.hid hst
  have HH := Lib.hid h
  clear hta hleg ht hY hK htl hs hst hKK hk0 h
  have hLs := Lib.size_eq s
  have HLS := Lib.hid hLs; clear hLs
  obtain ⟨W, hW⟩ : ∃ W, w.alloc (.cells Qr.zeroP 52) = W := ⟨_, rfl⟩
  have hB : Below w.heap.size w W := by rw [← hW]; exact Tx.newb _ _
  have KR : Hid (W.heap[w.heap.size]? = some (.cells Qr.zeroP 52 (0, 0))) := Lib.hid (by rw [← hW]; exact heap_alloc_new w _)
  have e0 := cell_later hB t0
  have e1 := cell_later hB t1
  have z0 : W.cell? ⟨w.heap.size, 0, none⟩ = some (.int .i64 0) := (Tx.blk KR.out).1 0
  have z1 : W.cell? ⟨w.heap.size, 1, none⟩ = some (.int .i64 0) := (Tx.blk KR.out).1 1
  have z2 : W.cell? ⟨w.heap.size, 2, none⟩ = some (.slice none 0 0) := (Tx.blk KR.out).1 2
  have z3 : W.cell? ⟨w.heap.size, 3, none⟩ = some (.int .i64 0) := (Tx.blk KR.out).1 3
  have z4 : W.cell? ⟨w.heap.size, 4, none⟩ = some (.int .i64 0) := (Tx.blk KR.out).1 4
  have z5 : W.cell? ⟨w.heap.size, 5, none⟩ = some (.slice none 0 0) := (Tx.blk KR.out).1 5
  have z6 : W.cell? ⟨w.heap.size, 6, none⟩ = some (.int .i64 0) := (Tx.blk KR.out).1 6
  have z7 : W.cell? ⟨w.heap.size, 7, none⟩ = some (.bool false) := (Tx.blk KR.out).1 7
  have zf : ∀ i, W.frozen? ⟨w.heap.size, i, none⟩ = false := (Tx.blk KR.out).2.1
  have hB0 : Below w.heap.size w (W.setCell ⟨w.heap.size, 0, none⟩ (.int .i64 0)) := hB.setCell (Nat.le_refl _) _
  clear hB0
  have HP := Lib.hid (Qr.put8 hB (Nat.le_refl _) (.int .i64 0) (.int .i64 0) (.slice none 0 0) (.int .i64 0) (.int .i64 0) (.slice none 0 0) (.int .i64 0) (.bool false))
  go_enter Tryz.func98, Tryz.ntmps98
  go_wp2
  clear hW
  go_loop [6] (fun i => ∃ k : Nat, k ≤ s.size ∧ i = .int .i64 k ∧ Hid ((45 : UInt8) ∉ s.data.toList.take k)) (fun i => s.size - (intOf i).toNat)
  case atStart => exact ⟨0, Nat.zero_le _, rfl, Lib.hid (by simp)⟩
  case round =>
    obtain ⟨k, hk, rfl, hno⟩ := hrel
    have hround : ∀ (hlt : k < s.size), s[k]'hlt ≠ 45 → (45 : UInt8) ∉ s.data.toList.take (k + 1) := fun hlt hne hm => by
      have hlt' : k < s.data.toList.length := by rw [← HLS.out]; exact hlt
      rw [List.take_succ_eq_append_getElem hlt'] at hm
      rcases List.mem_append.1 hm with hm | hm
      · exact hno.out hm
      · rw [List.mem_singleton] at hm
        exact hne hm.symm
    have hend : (k < s.size → s.data.toList.getD k 0 = 45) → Sp.cut 45 s.data.toList = if k = s.size then none else some (s.data.toList.take k, s.data.toList.drop (k + 1)) := fun he => by
      rw [HLS.out]
      exact Qr.cut_at (by rw [← HLS.out]; exact hk) hno.out (fun hlt => he (by rw [HLS.out]; exact hlt))
    have HR := Lib.hid hround; have HE := Lib.hid hend
    clear hround hend
    by_cases hlt : k < s.size
    · by_cases h45 : s[k]'hlt = 45
      · have hc := HE.out (fun _ => by
          rw [List.getD_eq_getElem?_getD, List.getElem?_eq_getElem (by rw [← HLS.out]; exact hlt)]
          exact h45)
        rw [if_neg (by omega)] at hc
        have hb45 : ((s[k]'hlt).toNat : Int) = 45 := by rw [h45]; rfl
        have HC := Lib.hid hc; clear hc h45
        by_cases hK1 : K = 1
        · have h114 := HK.out.1 hK1
          subst hK1
          have HS := HST.out h114
          by_cases hk4 : 4 < k
          · have HN : Hid (Qr.pYears false r = none) := Lib.hid (by
              rw [HY.out, if_neg (by simp [h114]), ← HS, HC.out]
              simp only
              rw [show Qr.yearN (s.data.toList.take k) = none by unfold Qr.yearN; rw [if_pos (by rw [List.length_take, ← HLS.out]; omega)]])
            clear HS
            go_wp2
            exact bodyPost_ret (v := .agg #[.int .i64 0, .int .i64 0, .slice none 0 0, .int .i64 0, .int .i64 0, .slice none 0 0, .int .i64 0, .bool false]) (by simp [results, Tryz.results98, go_sem, z0, z1, z2, z3, z4, z5, z6, z7]) rfl (by rw [HN.out]; exact Qr.RRes.mk_none HP.out)
          · by_cases hl4 : 4 < s.size - k - 1
            · have HN : Hid (Qr.pYears false r = none) := Lib.hid (by
                rw [HY.out, if_neg (by simp [h114]), ← HS, HC.out]
                simp only
                rw [show Qr.yearN (s.data.toList.drop (k + 1)) = none by unfold Qr.yearN; rw [if_pos (by rw [List.length_drop, ← HLS.out]; omega)]]
                split <;> first | rfl | (rename_i h9; cases h9))
              clear HS
              have hw1 : ((s.size : Int) - k) - 1 > 4 := by omega
              go_wp2
              exact bodyPost_ret (v := .agg #[.int .i64 0, .int .i64 0, .slice none 0 0, .int .i64 0, .int .i64 0, .slice none 0 0, .int .i64 0, .bool false]) (by simp [results, Tryz.results98, go_sem, z0, z1, z2, z3, z4, z5, z6, z7]) rfl (by rw [HN.out]; exact Qr.RRes.mk_none HP.out)
            · have hw1 : ((s.size : Int) - k) - 1 ≤ 4 := by omega
              have hw2 : (k : Int) ≤ 4 := by omega
              have hw3 : ((k : Int) == (s.size : Int)) = false := beq_eq_false_iff_ne.2 (by omega)
              obtain ⟨x, hx⟩ : ∃ x, Nm.num (s.data.toList.take k) = x := ⟨_, rfl⟩
              obtain ⟨y, hy⟩ : ∃ y, Nm.num (s.data.toList.drop (k + 1)) = y := ⟨_, rfl⟩
              have hX : Qr.yearN (s.data.toList.take k) = x := by unfold Qr.yearN; rw [if_neg (by rw [List.length_take, ← HLS.out]; omega)]; exact hx
              have hYY : Qr.yearN (s.data.toList.drop (k + 1)) = y := by unfold Qr.yearN; rw [if_neg (by rw [List.length_drop, ← HLS.out]; omega)]; exact hy
              have HN : Hid (Qr.pYears false r = Qr.yrs x y r.tail) := Lib.hid (by
                rw [HYC.out _ _ h114 (by rw [← HS]; exact HC.out), hX, hYY])
              have n1 : Hid (∀ w, Calls Tryz.prog 109 #[.string (s.extract 0 k)] w fun e w' => e = .returned (.tuple #[.int .i64 ((x.getD 0 : Nat) : Int), .bool x.isSome]) ∧ Below w.heap.size w w') := Lib.hid (fun w => by
                have := r11_Number_c (s.extract 0 k) w
                rw [Lib.extract_data, show (s.data.toList.drop 0).take (k - 0) = s.data.toList.take k by simp, hx] at this
                exact this)
              have n2 : Hid (∀ w, Calls Tryz.prog 109 #[.string (s.extract (k + 1) s.size)] w fun e w' => e = .returned (.tuple #[.int .i64 ((y.getD 0 : Nat) : Int), .bool y.isSome]) ∧ Below w.heap.size w w') := Lib.hid (fun w => by
                have := r11_Number_c (s.extract (k + 1) s.size) w
                rw [Lib.extract_data, show (s.data.toList.drop (k + 1)).take (s.size - (k + 1)) = s.data.toList.drop (k + 1) by rw [List.take_of_length_le (by rw [List.length_drop, ← HLS.out]; omega)], hy] at this
                exact this)
              clear HS hx hy hX hYY
              have HN2 := HN; clear HN
              cases x with
              | none =>
                have HN : Hid (Qr.pYears false r = none) := Lib.hid (by rw [HN2.out]; rfl)
                go_wp2_with (first
                  | (go_at_call 109; (with_reducible refine (n2.out w2).mono ?_); rintro e w3 ⟨rfl, hb3⟩; replace KR := Lib.hid (Tx.blk_later KR.out hb3); have z0 : w3.cell? ⟨w.heap.size, 0, none⟩ = some (.int .i64 0) := (Tx.blk KR.out).1 0; have z1 : w3.cell? ⟨w.heap.size, 1, none⟩ = some (.int .i64 0) := (Tx.blk KR.out).1 1; have z2 : w3.cell? ⟨w.heap.size, 2, none⟩ = some (.slice none 0 0) := (Tx.blk KR.out).1 2; have z3 : w3.cell? ⟨w.heap.size, 3, none⟩ = some (.int .i64 0) := (Tx.blk KR.out).1 3; have z4 : w3.cell? ⟨w.heap.size, 4, none⟩ = some (.int .i64 0) := (Tx.blk KR.out).1 4; have z5 : w3.cell? ⟨w.heap.size, 5, none⟩ = some (.slice none 0 0) := (Tx.blk KR.out).1 5; have z6 : w3.cell? ⟨w.heap.size, 6, none⟩ = some (.int .i64 0) := (Tx.blk KR.out).1 6; have z7 : w3.cell? ⟨w.heap.size, 7, none⟩ = some (.bool false) := (Tx.blk KR.out).1 7; have zf : ∀ i, w3.frozen? ⟨w.heap.size, i, none⟩ = false := (Tx.blk KR.out).2.1)
                  | (go_at_call 109; (with_reducible refine (n1.out _).mono ?_); rintro e w2 ⟨rfl, hb2⟩; replace KR := Lib.hid (Tx.blk_later KR.out hb2)))
                exact bodyPost_ret (v := .agg #[.int .i64 4, .int .i64 0, .slice none 0 0, .int .i64 0, .int .i64 ((y.getD 0 : Nat) : Int), .slice none 0 0, .int .i64 ((A : Int) + 1), .bool false]) (by simp [results, Tryz.results98, go_sem, z0, z1, z2, z3, z4, z5, z6, z7]) rfl (by rw [HN.out]; exact Qr.RRes.mk_none (Qr.put8 (hB.trans ((Tx.step hb2 hb3).mono hB.size)) (Nat.le_refl _) _ _ _ _ _ _ _ _))
              | some m =>
                cases y with
                | none =>
                  have HN : Hid (Qr.pYears false r = none) := Lib.hid (by rw [HN2.out]; rfl)
                  go_wp2_with (first
                    | (go_at_call 109; (with_reducible refine (n2.out w2).mono ?_); rintro e w3 ⟨rfl, hb3⟩; replace KR := Lib.hid (Tx.blk_later KR.out hb3); have z0 : w3.cell? ⟨w.heap.size, 0, none⟩ = some (.int .i64 0) := (Tx.blk KR.out).1 0; have z1 : w3.cell? ⟨w.heap.size, 1, none⟩ = some (.int .i64 0) := (Tx.blk KR.out).1 1; have z2 : w3.cell? ⟨w.heap.size, 2, none⟩ = some (.slice none 0 0) := (Tx.blk KR.out).1 2; have z3 : w3.cell? ⟨w.heap.size, 3, none⟩ = some (.int .i64 0) := (Tx.blk KR.out).1 3; have z4 : w3.cell? ⟨w.heap.size, 4, none⟩ = some (.int .i64 0) := (Tx.blk KR.out).1 4; have z5 : w3.cell? ⟨w.heap.size, 5, none⟩ = some (.slice none 0 0) := (Tx.blk KR.out).1 5; have z6 : w3.cell? ⟨w.heap.size, 6, none⟩ = some (.int .i64 0) := (Tx.blk KR.out).1 6; have z7 : w3.cell? ⟨w.heap.size, 7, none⟩ = some (.bool false) := (Tx.blk KR.out).1 7; have zf : ∀ i, w3.frozen? ⟨w.heap.size, i, none⟩ = false := (Tx.blk KR.out).2.1)
                    | (go_at_call 109; (with_reducible refine (n1.out _).mono ?_); rintro e w2 ⟨rfl, hb2⟩; replace KR := Lib.hid (Tx.blk_later KR.out hb2)))
                  exact bodyPost_ret (v := .agg #[.int .i64 4, .int .i64 0, .slice none 0 0, .int .i64 (m : Int), .int .i64 0, .slice none 0 0, .int .i64 ((A : Int) + 1), .bool false]) (by simp [results, Tryz.results98, go_sem, z0, z1, z2, z3, z4, z5, z6, z7]) rfl (by rw [HN.out]; exact Qr.RRes.mk_none (Qr.put8 (hB.trans ((Tx.step hb2 hb3).mono hB.size)) (Nat.le_refl _) _ _ _ _ _ _ _ _))
                | some n =>
                  have HN : Hid (Qr.pYears false r = some (.mk 4 0 [] m n [], r.tail)) := Lib.hid (by rw [HN2.out]; rfl)
                  go_wp2_with (first
                    | (go_at_call 109; (with_reducible refine (n2.out w2).mono ?_); rintro e w3 ⟨rfl, hb3⟩; replace KR := Lib.hid (Tx.blk_later KR.out hb3); have z0 : w3.cell? ⟨w.heap.size, 0, none⟩ = some (.int .i64 0) := (Tx.blk KR.out).1 0; have z1 : w3.cell? ⟨w.heap.size, 1, none⟩ = some (.int .i64 0) := (Tx.blk KR.out).1 1; have z2 : w3.cell? ⟨w.heap.size, 2, none⟩ = some (.slice none 0 0) := (Tx.blk KR.out).1 2; have z3 : w3.cell? ⟨w.heap.size, 3, none⟩ = some (.int .i64 0) := (Tx.blk KR.out).1 3; have z4 : w3.cell? ⟨w.heap.size, 4, none⟩ = some (.int .i64 0) := (Tx.blk KR.out).1 4; have z5 : w3.cell? ⟨w.heap.size, 5, none⟩ = some (.slice none 0 0) := (Tx.blk KR.out).1 5; have z6 : w3.cell? ⟨w.heap.size, 6, none⟩ = some (.int .i64 0) := (Tx.blk KR.out).1 6; have z7 : w3.cell? ⟨w.heap.size, 7, none⟩ = some (.bool false) := (Tx.blk KR.out).1 7; have zf : ∀ i, w3.frozen? ⟨w.heap.size, i, none⟩ = false := (Tx.blk KR.out).2.1)
                    | (go_at_call 109; (with_reducible refine (n1.out _).mono ?_); rintro e w2 ⟨rfl, hb2⟩; replace KR := Lib.hid (Tx.blk_later KR.out hb2)))
                  exact bodyPost_ret (v := .agg #[.int .i64 4, .int .i64 0, .slice none 0 0, .int .i64 (m : Int), .int .i64 (n : Int), .slice none 0 0, .int .i64 ((A : Int) + 1), .bool true]) (by simp [results, Tryz.results98, go_sem, z0, z1, z2, z3, z4, z5, z6, z7]) rfl (by rw [HN.out]; exact Qr.RRes.mk_some (by rw [HTA.out, HA.out]; omega) (Qr.QC.of_kids (ws := []) (ks := []) (.inl ⟨rfl, _, _, rfl⟩) (fun h => absurd rfl h) (Qr.KA.nil _ _)) (Qr.put8 (hB.trans ((Tx.step hb2 hb3).mono hB.size)) (Nat.le_refl _) _ _ _ _ _ _ _ _))
        · have HN : Hid (Qr.pYears false r = none) := Lib.hid (by rw [HY.out, if_pos (fun e => hK1 (HK.out.2 e))])
          have hKb : (K != 1) = true := by rw [bne_iff_ne]; exact hK1
          clear hK1
          go_wp2
          exact bodyPost_ret (v := .agg #[.int .i64 0, .int .i64 0, .slice none 0 0, .int .i64 0, .int .i64 0, .slice none 0 0, .int .i64 0, .bool false]) (by simp [results, Tryz.results98, go_sem, z0, z1, z2, z3, z4, z5, z6, z7]) rfl (by rw [HN.out]; exact Qr.RRes.mk_none HP.out)
      · have hb45 : ((s[k]'hlt).toNat : Int) ≠ 45 := fun e => h45 (by
          have e2 : (s[k]'hlt).toNat = 45 := by omega
          exact UInt8.toNat_inj.1 e2)
        have hbb : (((s[k]'hlt).toNat : Int) != 45) = true := by rw [bne_iff_ne]; exact hb45
        have H45 := Lib.hid h45; clear h45 hb45
        go_wp2
        go_round
        case rel => exact ⟨k + 1, hlt, by go_num, Lib.hid (HR.out hlt H45.out)⟩
        case measure => simp [intOf]; omega
    · obtain rfl : k = s.size := by omega
      have hc := HE.out (fun h9 => by omega)
      rw [if_pos rfl] at hc
      have HC := Lib.hid hc; clear hc
      have HN : Hid (Qr.pYears false r = none) := Lib.hid (by
        rw [HY.out]
        by_cases h114 : tk = 114
        · rw [if_neg (by simp [h114]), ← HST.out h114, HC.out]
        · rw [if_pos h114])
      by_cases hK1 : K = 1
      · subst hK1
        go_wp2
        exact bodyPost_ret (v := .agg #[.int .i64 0, .int .i64 0, .slice none 0 0, .int .i64 0, .int .i64 0, .slice none 0 0, .int .i64 0, .bool false]) (by simp [results, Tryz.results98, go_sem, z0, z1, z2, z3, z4, z5, z6, z7]) rfl (by rw [HN.out]; exact Qr.RRes.mk_none HP.out)
      · have hKb : (K != 1) = true := by rw [bne_iff_ne]; exact hK1
        clear hK1
        go_wp2
        exact bodyPost_ret (v := .agg #[.int .i64 0, .int .i64 0, .slice none 0 0, .int .i64 0, .int .i64 0, .slice none 0 0, .int .i64 0, .bool false]) (by simp [results, Tryz.results98, go_sem, z0, z1, z2, z3, z4, z5, z6, z7]) rfl (by rw [HN.out]; exact Qr.RRes.mk_none HP.out)
end Go.Proofs.YtkahplbjbidemaaGreatDoor
