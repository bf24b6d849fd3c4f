/- The reference's book numbers: what the calls return. -/
import Derived.Test.YtogpghpgnpoioaaGreatDoorKh
import Derived.Test.YtogpghpgnpoioaaGreatDoorKi
import Derived.Test.YtogpghpgnpoioaaGreatDoorKc
import Derived.Sort.Walk0
import Derived.Laws.OwnMore
import Derived.Deep.AppendLies
namespace Go.Proofs.YtogpghpgnpoioaaGreatDoor
open Go.RowKit
set_option maxRecDepth 100000

namespace Mt
theorem ended_snoc (a : By) (c : UInt8) : ended (a ++ [c]) = (a.all dig && (dig c || c == 88)) := by
  unfold ended
  rw [List.dropLast_concat, List.getLastD_concat]
  have : (a ++ [c] == []) = false := by rw [beq_eq_false_iff_ne]; simp
  rw [this]; rfl
theorem digits_one (c : UInt8) : digits [c] = dig c := by unfold digits; simp
theorem snoc_of {l : By} (h : l ≠ []) : ∃ a c, l = a ++ [c] := ⟨l.dropLast, l.getLast h, (List.dropLast_concat_getLast h).symm⟩
theorem mk_list (s : ByteArray) : s = ⟨s.data.toList.toArray⟩ := by
  apply ByteArray.ext
  simp
end Mt

set_option maxHeartbeats 800000 in
theorem r05_ended_snoc (a : Mt.By) (c : UInt8) (S : ByteArray) (w : World) (hS : S.data.toList = a ++ [c]) (ha : a.length ≤ 100000000) :
    Calls Tryz.prog 100 #[.string S] w fun e w' => e = .returned (.bool (Mt.ended (a ++ [c]))) ∧ w = w' := by
  have hsz : S.size = a.length + 1 := by rw [Lib.size_eq, hS]; simp
  have e1 : S.extract 0 a.length = ⟨a.toArray⟩ := by
    apply ByteArray.ext; apply Array.toList_inj.1; rw [Lib.extract_data, hS]; simp
  have e2 : S.extract a.length S.size = ⟨[c].toArray⟩ := by
    apply ByteArray.ext; apply Array.toList_inj.1; rw [Lib.extract_data, hS, hsz]; simp
  have e3 : ∀ h, S[a.length]'h = c := fun h => by
    have := Mt.at_get h
    rw [hS] at this
    simp at this
    exact this.symm
  have hn : (S.size : Int) - 1 = (a.length : Int) := by omega
  have D1 := r05_Digits_c ⟨a.toArray⟩ w (by rw [Tx.size_mk]; omega)
  have D2 := r05_Digits_c ⟨[c].toArray⟩ w (by rw [Tx.size_mk]; simp)
  rw [Mt.ended_snoc]
  obtain ⟨A, hA⟩ : ∃ A, (⟨a.toArray⟩ : ByteArray) = A := ⟨_, rfl⟩
  obtain ⟨B, hB⟩ : ∃ B, (⟨[c].toArray⟩ : ByteArray) = B := ⟨_, rfl⟩
  rw [show (⟨a.toArray⟩ : ByteArray).data.toList = a from rfl] at D1
  rw [show (⟨[c].toArray⟩ : ByteArray).data.toList = [c] from rfl] at D2
  rw [Mt.digits_one] at D2
  rw [hA] at e1 D1
  rw [hB] at e2 D2
  have e4 := e2
  rw [hsz] at e4
  clear hA hB hS
  cases h1 : a.all Mt.dig with
  | false =>
    rw [show Mt.digits a = false from h1] at D1
    go_enter Tryz.func100, Tryz.ntmps100
    go_wp2_with (go_at_call 98; refine (D1).mono ?_; rintro e w1 ⟨rfl, rfl⟩)
    go_ret
    exact ⟨rfl, rfl⟩
  | true =>
    rw [show Mt.digits a = true from h1] at D1
    cases h2 : Mt.dig c with
    | true =>
      rw [h2] at D2
      go_enter Tryz.func100, Tryz.ntmps100
      go_wp2_with (go_at_call 98; first | ((with_reducible refine (D1).mono ?_); rintro e w1 ⟨rfl, rfl⟩) | ((with_reducible refine (D2).mono ?_); rintro e w1 ⟨rfl, rfl⟩))
      go_ret
      exact ⟨rfl, rfl⟩
    | false =>
      rw [h2] at D2
      by_cases c88 : c = 88
      · subst c88
        go_enter Tryz.func100, Tryz.ntmps100
        go_wp2_with (go_at_call 98; first | ((with_reducible refine (D1).mono ?_); rintro e w1 ⟨rfl, rfl⟩) | ((with_reducible refine (D2).mono ?_); rintro e w1 ⟨rfl, rfl⟩))
        go_ret
        exact ⟨rfl, rfl⟩
      · have HB : Hid ((c == 88) = false) := Lib.hid (beq_eq_false_iff_ne.2 c88)
        have n88 : ((c.toNat : Int) == 88) = false := beq_eq_false_iff_ne.2 (Mt.kn (n := 88) (by decide) c88)
        go_enter Tryz.func100, Tryz.ntmps100
        go_wp2_with (go_at_call 98; first | ((with_reducible refine (D1).mono ?_); rintro e w1 ⟨rfl, rfl⟩) | ((with_reducible refine (D2).mono ?_); rintro e w1 ⟨rfl, rfl⟩))
        go_ret
        exact ⟨by rw [HB.out]; rfl, rfl⟩
set_option maxHeartbeats 400000 in
theorem r05_ended_c (S : ByteArray) (w : World) (hs : S.size ≤ 100000000) :
    Calls Tryz.prog 100 #[.string S] w fun e w' => e = .returned (.bool (Mt.ended S.data.toList)) ∧ w = w' := by
  by_cases h : S.data.toList = []
  · rw [h]
    have hsz : S.size = 0 := by rw [Lib.size_eq, h]; rfl
    clear h
    go_enter Tryz.func100, Tryz.ntmps100
    go_wp2
    go_ret
    exact ⟨rfl, rfl⟩
  · obtain ⟨a, c, e⟩ := Mt.snoc_of h
    rw [e]
    exact r05_ended_snoc a c S w e (by rw [Lib.size_eq, e] at hs; simp at hs; omega)

theorem byte_string5 (w : World) (c : UInt8) (v : Int) (hv : v = (c.toNat : Int)) : (convert 99 9 (.slice (some ⟨w.heap.size, 0, none⟩) 1 1)).run Tryz.prog (w.alloc (.cells #[.int .u8 v] 5)) = .ok (.string ⟨[c].toArray⟩) (w.alloc (.cells #[.int .u8 v] 5)) :=
  run_convert_bytes_back (P := Tryz.prog) (w.alloc (.cells #[.int .u8 v] 5)) 99 9 5 ⟨w.heap.size, 0, none⟩ 1 [c] Tryz.underlying99 Tryz.underlying5 Tryz.underlying9 (fun j hj => by
    have : j = 0 := by simp at hj; omega
    subst this
    exact Tx.cell_one_at _ _ rfl _ _ 0 _ (by rw [hv]; rfl))

set_option maxHeartbeats 400000 in
theorem r05_digit_c (n : Nat) (hn : n < 10) (w : World) :
    Calls Tryz.prog 102 #[.int .i64 n] w fun e w' => e = .returned (.string ⟨[UInt8.ofNat (48 + n)].toArray⟩) ∧ Below w.heap.size w w' := by
  obtain ⟨c, hc⟩ : ∃ c, UInt8.ofNat (48 + n) = c := ⟨_, rfl⟩
  have hv : ((48 + n : Nat) : Int) = ((UInt8.ofNat (48 + n)).toNat : Int) := by
    rw [UInt8.toNat_ofNat', Nat.mod_eq_of_lt (by omega)]
  rw [hc] at hv
  have hcv := byte_string5 w c (48 + (n : Int)) (by rw [← hv]; omega)
  rw [hc]
  clear hv hc
  go_enter Tryz.func102, Tryz.ntmps102
  go_wp2
  go_ret
  exact ⟨Tx.rets rfl, Tx.newb _ _⟩
end Go.Proofs.YtogpghpgnpoioaaGreatDoor

/- The reference's Isbn: what the call returns. -/
namespace Go.Proofs.YtogpghpgnpoioaaGreatDoor
open Go.RowKit
set_option maxRecDepth 100000

namespace Mt
/-- Ten characters, of which the last one can be X. -/
theorem ended_ok {l : By} (h : ended l = true) : ∀ (k : Nat) (c : UInt8), l[k]? = some c → okc c := by
  by_cases hl : l = []
  · subst hl; intro k c hc; cases hc
  · obtain ⟨a, x, rfl⟩ := snoc_of hl
    rw [ended_snoc, Bool.and_eq_true, Bool.or_eq_true] at h
    intro k c hc
    rcases List.mem_append.1 (List.mem_of_getElem? hc) with h1 | h1
    · exact .inl (dig_iff.1 (List.all_eq_true.1 h.1 c h1))
    · rw [List.mem_singleton] at h1
      subst h1
      rcases h.2 with h2 | h2
      · exact .inl (dig_iff.1 h2)
      · exact .inr (by simpa using h2)
theorem ended_nine {l : By} (h : ended l = true) (h10 : l.length = 10) : (l.take 9).all dig = true := by
  obtain ⟨a, x, rfl⟩ := snoc_of (l := l) (by intro e; rw [e] at h10; simp at h10)
  rw [ended_snoc, Bool.and_eq_true] at h
  have : a.length = 9 := by simpa using h10
  rw [List.take_left' this]
  exact h.1
def pfx : By := [57, 55, 56]
theorem digits_pfx {l : By} (h : ended l = true) (h10 : l.length = 10) : digits (pfx ++ l.take 9) = true := by
  unfold digits
  rw [List.all_append, ended_nine h h10]
  rfl
/-- The check digit. -/
def chk (n : Int) : Nat := ((10 - n % 10) % 10).toNat
theorem isbnT_13 {t : By} (h : t.length = 13) (hd : digits t = true) (hp : pre13 t = true) : isbnT t = if aS t 13 % 10 = 0 then (t, 0) else ([], 5) := by
  unfold isbnT; rw [if_pos ⟨h, hd, hp⟩, h]
theorem isbnT_13n {t : By} (h : t.length = 13) (hd : ¬ (digits t = true ∧ pre13 t = true)) : isbnT t = ([], 3) := by
  unfold isbnT; rw [if_neg (fun h9 => hd h9.2), if_neg (by rw [h]; omega)]
theorem isbnT_10 {t : By} (h : t.length = 10) (hd : ended t = true) : isbnT t = if wS t 10 % 11 = 0 then ((pfx ++ t.take 9) ++ [UInt8.ofNat (48 + chk (aS (pfx ++ t.take 9) 12))], 0) else ([], 5) := by
  have hl : (pfx ++ t.take 9).length = 12 := by rw [List.length_append, List.length_take, h]; rfl
  unfold isbnT; rw [if_neg (by rw [h]; omega), if_pos ⟨h, hd⟩, h]
  show (if _ then ((pfx ++ t.take 9) ++ [UInt8.ofNat (48 + ((10 - aS (pfx ++ t.take 9) (pfx ++ t.take 9).length % 10) % 10).toNat)], (0 : Int)) else _) = _
  rw [hl]; rfl
theorem isbnT_10n {t : By} (h : t.length = 10) (hd : ended t = false) : isbnT t = ([], 3) := by
  unfold isbnT; rw [if_neg (by rw [h]; omega), if_neg (by rw [hd]; simp)]
theorem isbnT_else {t : By} (h1 : t.length ≠ 13) (h2 : t.length ≠ 10) : isbnT t = ([], 3) := by
  unfold isbnT; rw [if_neg (fun h => h1 h.1), if_neg (fun h => h2 h.1)]
end Mt

set_option maxHeartbeats 1600000 in
theorem r05_Isbn_c (s : ByteArray) (w : World) (hs : s.size ≤ 100000000) :
    Calls Tryz.prog 65 #[.string s] w fun e w' => e = .returned (.tuple #[.string ⟨(Mt.isbnT (Mt.rem s.data.toList)).1.toArray⟩, .int .i64 (Mt.isbnT (Mt.rem s.data.toList)).2]) ∧ Below w.heap.size w w' := by
  have R := r05_Removed_c s w (by omega)
  obtain ⟨T, hT⟩ : ∃ T, (⟨(Mt.rem s.data.toList).toArray⟩ : ByteArray) = T := ⟨_, rfl⟩
  have hL : Mt.rem s.data.toList = T.data.toList := by rw [← hT]
  have hle : T.size ≤ 100000000 := by
    rw [Lib.size_eq, ← hL]
    refine Nat.le_trans (Mt.rem_le _) ?_
    rw [← Lib.size_eq]; exact hs
  rw [hT] at R
  rw [hL]
  clear hT hL hs
  have hTL := Lib.size_eq T
  obtain ⟨L, hL⟩ : ∃ L, T.data.toList = L := ⟨_, rfl⟩
  have hmk : T = ⟨L.toArray⟩ := by rw [← hL]
  have dg := fun w => r05_Digits_c T w (by omega)
  have en := fun w => r05_ended_c T w (by omega)
  have al := fun h1 h2 w => r05_alternating_c T w h1 h2
  have we := fun h1 h2 w => r05_weighted_c T w h1 h2
  rw [hL] at hTL dg en al we ⊢
  by_cases h13 : L.length = 13
  · rw [h13] at hTL
    cases hd : Mt.digits L with
    | false =>
      rw [Mt.isbnT_13n h13 (by rw [hd]; simp)]
      rw [hd] at dg
      clear al we en hL h13 hmk
      go_enter Tryz.func65, Tryz.ntmps65
      go_wp2_with (first
        | (go_at_call 97; (with_reducible refine R.mono ?_); rintro e w1 ⟨rfl, hb1⟩)
        | (go_at_call 98; (with_reducible refine (dg _).mono ?_); rintro e w2 ⟨rfl, rfl⟩))
      go_ret2
      exact ⟨rfl, hb1⟩
    | true =>
      have al2 := al (by omega) hd
      rw [hTL] at al2
      have hb := Mt.aS_in hd 13 (by omega)
      obtain ⟨n, hn⟩ : ∃ n, Mt.aS L 13 = n := ⟨_, rfl⟩
      rw [hn] at al2 hb
      rw [hd] at dg
      obtain ⟨P, hP⟩ : ∃ P, T.extract 0 3 = P := ⟨_, rfl⟩
      have hPL : P.data.toList = L.take 3 := by rw [← hP, Lib.extract_data, hL]; first | done | rfl
      by_cases p8 : L.take 3 = [57, 55, 56]
      · have hP8 : P = ⟨#[57, 55, 56]⟩ := by rw [Mt.mk_list P, hPL, p8]
        have hI := Mt.isbnT_13 h13 hd (by unfold Mt.pre13; rw [p8]; rfl)
        rw [hn] at hI
        subst hP8
        by_cases hz : n % 10 = 0
        · rw [if_pos hz] at hI
          have hz2 : n.tmod 10 = 0 := by rw [Int.tmod_eq_emod_of_nonneg hb.1]; exact hz
          rw [hI, ← hmk]
          clear al we en hL h13 hmk hI hPL hn hd p8
          go_enter Tryz.func65, Tryz.ntmps65
          go_wp2_with (first
            | (go_at_call 97; (with_reducible refine R.mono ?_); rintro e w1 ⟨rfl, hb1⟩)
            | (go_at_call 98; (with_reducible refine (dg _).mono ?_); rintro e w2 ⟨rfl, rfl⟩)
            | (go_at_call 99; (with_reducible refine (al2 _).mono ?_); rintro e w2 ⟨rfl, rfl⟩))
          go_ret2
          exact ⟨rfl, hb1⟩
        · rw [if_neg hz] at hI
          have hz2 : ¬ n.tmod 10 = 0 := by rw [Int.tmod_eq_emod_of_nonneg hb.1]; exact hz
          rw [hI]
          clear al we en hL h13 hmk hI hPL hn hd p8
          go_enter Tryz.func65, Tryz.ntmps65
          go_wp2_with (first
            | (go_at_call 97; (with_reducible refine R.mono ?_); rintro e w1 ⟨rfl, hb1⟩)
            | (go_at_call 98; (with_reducible refine (dg _).mono ?_); rintro e w2 ⟨rfl, rfl⟩)
            | (go_at_call 99; (with_reducible refine (al2 _).mono ?_); rintro e w2 ⟨rfl, rfl⟩))
          go_ret2
          exact ⟨rfl, hb1⟩
      · have n8' : (P.toList == [57, 55, 56]) = false := by rw [Lib.toList_data, hPL]; exact beq_eq_false_iff_ne.2 p8
        by_cases p9 : L.take 3 = [57, 55, 57]
        · have hP9 : P = ⟨#[57, 55, 57]⟩ := by rw [Mt.mk_list P, hPL, p9]
          have hI := Mt.isbnT_13 h13 hd (by unfold Mt.pre13; rw [p9]; rfl)
          rw [hn] at hI
          subst hP9
          clear n8'
          by_cases hz : n % 10 = 0
          · rw [if_pos hz] at hI
            have hz2 : n.tmod 10 = 0 := by rw [Int.tmod_eq_emod_of_nonneg hb.1]; exact hz
            rw [hI, ← hmk]
            clear al we en hL h13 hmk hI hPL hn hd p9
            go_enter Tryz.func65, Tryz.ntmps65
            go_wp2_with (first
              | (go_at_call 97; (with_reducible refine R.mono ?_); rintro e w1 ⟨rfl, hb1⟩)
              | (go_at_call 98; (with_reducible refine (dg _).mono ?_); rintro e w2 ⟨rfl, rfl⟩)
              | (go_at_call 99; (with_reducible refine (al2 _).mono ?_); rintro e w2 ⟨rfl, rfl⟩))
            go_ret2
            exact ⟨rfl, hb1⟩
          · rw [if_neg hz] at hI
            have hz2 : ¬ n.tmod 10 = 0 := by rw [Int.tmod_eq_emod_of_nonneg hb.1]; exact hz
            rw [hI]
            clear al we en hL h13 hmk hI hPL hn hd p9
            go_enter Tryz.func65, Tryz.ntmps65
            go_wp2_with (first
              | (go_at_call 97; (with_reducible refine R.mono ?_); rintro e w1 ⟨rfl, hb1⟩)
              | (go_at_call 98; (with_reducible refine (dg _).mono ?_); rintro e w2 ⟨rfl, rfl⟩)
              | (go_at_call 99; (with_reducible refine (al2 _).mono ?_); rintro e w2 ⟨rfl, rfl⟩))
            go_ret2
            exact ⟨rfl, hb1⟩
        · have n9' : (P.toList == [57, 55, 57]) = false := by rw [Lib.toList_data, hPL]; exact beq_eq_false_iff_ne.2 p9
          rw [Mt.isbnT_13n h13 (by
            unfold Mt.pre13
            rw [beq_eq_false_iff_ne.2 p8, beq_eq_false_iff_ne.2 p9]; simp)]
          clear al al2 we en hL h13 hmk hPL hn hd p8 p9
          go_enter Tryz.func65, Tryz.ntmps65
          go_wp2_with (first
            | (go_at_call 97; (with_reducible refine R.mono ?_); rintro e w1 ⟨rfl, hb1⟩)
            | (go_at_call 98; (with_reducible refine (dg _).mono ?_); rintro e w2 ⟨rfl, rfl⟩))
          go_ret2
          exact ⟨rfl, hb1⟩
  · by_cases h10 : L.length = 10
    · rw [h10] at hTL
      cases hd : Mt.ended L with
      | false =>
        rw [Mt.isbnT_10n h10 hd]
        rw [hd] at en
        clear al we dg hL h10 h13 hd hmk
        go_enter Tryz.func65, Tryz.ntmps65
        go_wp2_with (first
          | (go_at_call 97; (with_reducible refine R.mono ?_); rintro e w1 ⟨rfl, hb1⟩)
          | (go_at_call 100; (with_reducible refine (en _).mono ?_); rintro e w2 ⟨rfl, rfl⟩))
        go_ret2
        exact ⟨rfl, hb1⟩
      | true =>
        rw [hd] at en
        have we2 := we (by omega) (Mt.ended_ok hd)
        rw [hTL] at we2
        have hwb := Mt.wS_in (by omega) (Mt.ended_ok hd) 10 (by omega)
        have hI := Mt.isbnT_10 h10 hd
        obtain ⟨m, hm⟩ : ∃ m, Mt.wS L 10 = m := ⟨_, rfl⟩
        rw [hm] at we2 hwb hI
        have hdp := Mt.digits_pfx hd h10
        have hlp : (Mt.pfx ++ L.take 9).length = 12 := by rw [List.length_append, List.length_take, h10]; rfl
        obtain ⟨N, hN⟩ : ∃ N, T.extract 0 9 = N := ⟨_, rfl⟩
        obtain ⟨U, hU⟩ : ∃ U, (⟨#[57, 55, 56]⟩ : ByteArray) ++ N = U := ⟨_, rfl⟩
        have hUL : U.data.toList = Mt.pfx ++ L.take 9 := by
          rw [← hU, ← hN, ← hL]
          have e9 : (T.extract 0 9) = ⟨(T.data.toList.take 9).toArray⟩ := by rw [Mt.mk_list (T.extract 0 9), Lib.extract_data]; rfl
          rw [e9]
          rfl
        have hUmk := Mt.mk_list U
        rw [hUL] at hUmk
        have al2 := fun w => r05_alternating_c U w (by rw [Lib.size_eq, hUL, hlp]; omega) (by rw [hUL]; exact hdp)
        have hab := Mt.aS_in hdp 12 (by omega)
        rw [hUL, show U.size = 12 by rw [Lib.size_eq, hUL, hlp]] at al2
        obtain ⟨n, hn⟩ : ∃ n, Mt.aS (Mt.pfx ++ L.take 9) 12 = n := ⟨_, rfl⟩
        rw [hn] at al2 hab hI
        obtain ⟨q, hq⟩ : ∃ q, Mt.chk n = q := ⟨_, rfl⟩
        have hq9 : q < 10 := by rw [← hq]; unfold Mt.chk; omega
        have hqe : (10 - n % 10) % 10 = (q : Int) := by rw [← hq]; unfold Mt.chk; omega
        rw [hq] at hI
        have hqt : (10 - n.tmod 10).tmod 10 = (q : Int) := by
          rw [Int.tmod_eq_emod_of_nonneg hab.1, Int.tmod_eq_emod_of_nonneg (by omega)]; exact hqe
        obtain ⟨c, hc⟩ : ∃ c, UInt8.ofNat (48 + q) = c := ⟨_, rfl⟩
        have dq := fun w => r05_digit_c q hq9 w
        rw [hc] at dq hI
        have hUc : U ++ ⟨[c].toArray⟩ = ⟨(Mt.pfx ++ L.take 9 ++ [c]).toArray⟩ := by rw [hUmk]; rfl
        by_cases hz : m % 11 = 0
        · rw [if_pos hz] at hI
          have hz2 : m.tmod 11 = 0 := by rw [Int.tmod_eq_emod_of_nonneg hwb.1]; exact hz
          rw [hI]
          have hU12 : U.size = 12 := by rw [Lib.size_eq, hUL, hlp]
          have hN9 : N.size = 9 := by rw [← hN, Lib.size_eq, Lib.extract_data, hL]; simp [h10]
          obtain ⟨C, hC⟩ : ∃ C, (⟨[c].toArray⟩ : ByteArray) = C := ⟨_, rfl⟩
          have hC1 : C.size = 1 := by rw [← hC]; rfl
          rw [hC] at dq hUc
          obtain ⟨Z, hZ⟩ : ∃ Z, (⟨(Mt.pfx ++ L.take 9 ++ [c]).toArray⟩ : ByteArray) = Z := ⟨_, rfl⟩
          rw [hZ] at hUc
          dsimp only
          rw [hZ]
          clear al we dg hL h10 h13 hd hmk hI hUL hUmk hdp hlp hm hn hq hc hC hZ hwb
          go_enter Tryz.func65, Tryz.ntmps65
          go_wp2_with (first
            | (go_at_call 97; (with_reducible refine R.mono ?_); rintro e w1 ⟨rfl, hb1⟩)
            | (go_at_call 100; (with_reducible refine (en _).mono ?_); rintro e w2 ⟨rfl, rfl⟩)
            | (go_at_call 101; (with_reducible refine (we2 _).mono ?_); rintro e w2 ⟨rfl, rfl⟩)
            | (go_at_call 99; (with_reducible refine (al2 _).mono ?_); rintro e w2 ⟨rfl, rfl⟩)
            | (go_at_call 102; (with_reducible refine (dq _).mono ?_); rintro e w3 ⟨rfl, hb3⟩))
          go_ret2
          exact ⟨rfl, Tx.step hb1 hb3⟩
        · rw [if_neg hz] at hI
          have hz2 : ¬ m.tmod 11 = 0 := by rw [Int.tmod_eq_emod_of_nonneg hwb.1]; exact hz
          rw [hI]
          clear al al2 we dg hL h10 h13 hd hmk hI hUL hUmk hdp hlp hm hn hq hc hwb dq hUc hqe hqt hab hU hN
          go_enter Tryz.func65, Tryz.ntmps65
          go_wp2_with (first
            | (go_at_call 97; (with_reducible refine R.mono ?_); rintro e w1 ⟨rfl, hb1⟩)
            | (go_at_call 100; (with_reducible refine (en _).mono ?_); rintro e w2 ⟨rfl, rfl⟩)
            | (go_at_call 101; (with_reducible refine (we2 _).mono ?_); rintro e w2 ⟨rfl, rfl⟩))
          go_ret2
          exact ⟨rfl, hb1⟩
    · rw [Mt.isbnT_else h13 h10]
      have g1 : ¬ (T.size : Int) = 13 := by omega
      have g2 : ¬ (T.size : Int) = 10 := by omega
      have g1' : ((T.size : Int) == 13) = false := beq_eq_false_iff_ne.2 g1
      have g2' : ((T.size : Int) != 10) = true := bne_iff_ne.2 g2
      clear al we dg en hL h10 h13 hmk
      go_enter Tryz.func65, Tryz.ntmps65
      go_wp2_with (go_at_call 97; (with_reducible refine R.mono ?_); rintro e w1 ⟨rfl, hb1⟩)
      go_ret2
      exact ⟨rfl, hb1⟩
end Go.Proofs.YtogpghpgnpoioaaGreatDoor

/- The reference's year of a text: what the call returns. -/
namespace Go.Proofs.YtogpghpgnpoioaaGreatDoor
open Go.RowKit
set_option maxRecDepth 100000

namespace Mt
/-- Where the scan stands: k bytes read, behind the last of them the digits cur. -/
def YR (l : By) (k : Nat) (cur : By) : Prop := (k ≤ l.length → cur.length ≤ k ∧ cur = (l.take k).drop (k - cur.length) ∧ yScan (l.drop k) cur = year l) ∧ (k = l.length + 1 → year l = [])
theorem YR.start (l : By) : YR l 0 [] := ⟨fun _ => ⟨Nat.le_refl _, rfl, rfl⟩, fun h => by simp at h⟩
theorem YR.digit {l : By} {k : Nat} {cur : By} {c : UInt8} (h : YR l k cur) (hk : l[k]? = some c) (hc : dig c = true) : YR l (k + 1) (cur ++ [c]) := by
  have hlt : k < l.length := (List.getElem?_eq_some_iff.1 hk).1
  obtain ⟨h1, h2, h3⟩ := h.1 (by omega)
  have hd : l.drop k = c :: l.drop (k + 1) := by
    rw [List.drop_eq_getElem_cons hlt, (List.getElem?_eq_some_iff.1 hk).2]
  refine ⟨fun _ => ⟨by simp; omega, ?_, ?_⟩, fun h9 => by omega⟩
  · rw [List.length_append, List.length_singleton, List.take_add_one, hk]
    show cur ++ [c] = ((l.take k) ++ [c]).drop (k + 1 - (cur.length + 1))
    rw [List.drop_append_of_le_length (by rw [List.length_take]; omega), show k + 1 - (cur.length + 1) = k - cur.length by omega, ← h2]
  · rw [← h3, hd, yScan, if_pos hc]
theorem YR.miss {l : By} {k : Nat} {cur : By} {c : UInt8} (h : YR l k cur) (hk : l[k]? = some c) (hc : dig c = false) (h4 : cur.length ≠ 4) : YR l (k + 1) [] := by
  have hlt : k < l.length := (List.getElem?_eq_some_iff.1 hk).1
  obtain ⟨h1, h2, h3⟩ := h.1 (by omega)
  have hd : l.drop k = c :: l.drop (k + 1) := by
    rw [List.drop_eq_getElem_cons hlt, (List.getElem?_eq_some_iff.1 hk).2]
  refine ⟨fun _ => ⟨Nat.zero_le _, ?_, ?_⟩, fun h9 => by omega⟩
  · rw [List.length_nil, Nat.sub_zero, List.drop_eq_nil_of_le (by rw [List.length_take]; omega)]
  · rw [← h3, hd, yScan, if_neg (by rw [hc]; decide), if_neg h4]
theorem YR.hit {l : By} {k : Nat} {cur : By} {c : UInt8} (h : YR l k cur) (hk : l[k]? = some c) (hc : dig c = false) (h4 : cur.length = 4) : ∃ j, k = j + 4 ∧ (l.drop j).take 4 = year l := by
  have hlt : k < l.length := (List.getElem?_eq_some_iff.1 hk).1
  obtain ⟨h1, h2, h3⟩ := h.1 (by omega)
  have hd : l.drop k = c :: l.drop (k + 1) := by
    rw [List.drop_eq_getElem_cons hlt, (List.getElem?_eq_some_iff.1 hk).2]
  rw [hd, yScan, if_neg (by rw [hc]; decide), if_pos h4] at h3
  refine ⟨k - 4, by omega, ?_⟩
  rw [← h3]
  conv => rhs; rw [h2]
  rw [h4, List.drop_take, show k - (k - 4) = 4 by omega]
theorem YR.end_hit {l : By} {cur : By} (h : YR l l.length cur) (h4 : cur.length = 4) : ∃ j, l.length = j + 4 ∧ (l.drop j).take 4 = year l := by
  obtain ⟨h1, h2, h3⟩ := h.1 (Nat.le_refl _)
  rw [List.drop_length, yScan, if_pos h4] at h3
  refine ⟨l.length - 4, by omega, ?_⟩
  rw [← h3]
  conv => rhs; rw [h2]
  rw [h4, List.drop_take, show l.length - (l.length - 4) = 4 by omega]
theorem YR.end_miss {l : By} {cur : By} (h : YR l l.length cur) (h4 : cur.length ≠ 4) : YR l (l.length + 1) [] := by
  obtain ⟨h1, h2, h3⟩ := h.1 (Nat.le_refl _)
  rw [List.drop_length, yScan, if_neg h4] at h3
  exact ⟨fun h9 => by omega, fun _ => h3.symm⟩
end Mt

set_option maxHeartbeats 1600000 in
theorem r15_Digits_c (s : ByteArray) (w : World) (hs : s.size ≤ 1000000000) :
    Calls Tryz.prog 67 #[.string s] w fun e w' => e = .returned (.string ⟨(Mt.year s.data.toList).toArray⟩) ∧ w = w' := by
  have HE := Lib.hid (Lib.size_eq s)
  have hx : ∀ j, (s.data.toList.drop j).take 4 = Mt.year s.data.toList → s.extract j (j + 4) = ⟨(Mt.year s.data.toList).toArray⟩ := fun j h => by
    apply ByteArray.ext; apply Array.toList_inj.1; rw [Lib.extract_data, Nat.add_sub_cancel_left, h]
  have HX := Lib.hid hx; clear hx
  obtain ⟨Y, hY⟩ : ∃ Y, (⟨(Mt.year s.data.toList).toArray⟩ : ByteArray) = Y := ⟨_, rfl⟩
  have HY := Lib.hid hY
  rw [hY]
  clear hY
  go_enter Tryz.func67, Tryz.ntmps67
  go_wp2
  go_loop [3, 4] (fun n i => ∃ (k : Nat) (cur : List UInt8), k ≤ s.size + 1 ∧ i = .int .i64 k ∧ n = .int .i64 cur.length ∧ cur.length ≤ k ∧ Hid (Mt.YR s.data.toList k cur)) (fun _ i => s.size + 1 - (intOf i).toNat)
  case atStart => exact ⟨0, [], Nat.zero_le _, rfl, rfl, Nat.le_refl _, Lib.hid (Mt.YR.start _)⟩
  case round =>
    obtain ⟨k, cur, hk, rfl, rfl, hck, hR⟩ := hrel
    by_cases hlt : k < s.size
    · have hle : (k : Int) ≤ (s.size : Int) := by omega
      obtain ⟨c, hc⟩ : ∃ c, s[k]'hlt = c := ⟨_, rfl⟩
      have hat := Mt.at_get hlt
      rw [hc] at hat
      have hcc : ∀ h, s[k]'h = c := fun _ => hc
      clear hc
      cases hd : Mt.dig c with
      | true =>
        obtain ⟨d1, d2⟩ := Mt.dig_iff.1 hd
        have HN := Lib.hid (hR.out.digit hat hd)
        have g1 : (48 : Int) ≤ (c.toNat : Int) := by omega
        have g2 : (c.toNat : Int) ≤ 57 := by omega
        clear hR hat hd
        go_wp2
        go_round
        case rel => exact ⟨k + 1, cur ++ [c], by omega, by go_num, by simp, by rw [List.length_append]; simp; try omega, HN⟩
        case measure => simp [intOf]; omega
      | false =>
        have hn := Mt.dig_not.1 hd
        by_cases h4 : cur.length = 4
        · obtain ⟨j, rfl, hj⟩ := hR.out.hit hat hd h4
          have hE : s.extract j (j + 4) = Y := by rw [HX.out j hj, HY.out]
          have e4 : ((cur.length : Int) == 4) = true := by rw [h4]; rfl
          clear hR hat hd hj hck
          by_cases d1 : 48 ≤ c.toNat
          · have g1 : (48 : Int) ≤ (c.toNat : Int) := by omega
            have g2 : ¬ (c.toNat : Int) ≤ 57 := by omega
            go_wp2
            go_ret
            exact ⟨by first | rfl | exact Tx.rets hE, rfl⟩
          · have g1 : ¬ (48 : Int) ≤ (c.toNat : Int) := by omega
            go_wp2
            go_ret
            exact ⟨by first | rfl | exact Tx.rets hE, rfl⟩
        · have HN := Lib.hid (hR.out.miss hat hd h4)
          have e4 : ((cur.length : Int) == 4) = false := beq_eq_false_iff_ne.2 (by omega)
          clear hR hat hd
          by_cases d1 : 48 ≤ c.toNat
          · have g1 : (48 : Int) ≤ (c.toNat : Int) := by omega
            have g2 : ¬ (c.toNat : Int) ≤ 57 := by omega
            go_wp2
            go_round
            case rel => exact ⟨k + 1, [], by omega, by go_num, rfl, Nat.zero_le _, HN⟩
            case measure => simp [intOf]; omega
          · have g1 : ¬ (48 : Int) ≤ (c.toNat : Int) := by omega
            go_wp2
            go_round
            case rel => exact ⟨k + 1, [], by omega, by go_num, rfl, Nat.zero_le _, HN⟩
            case measure => simp [intOf]; omega
    · by_cases hks : k = s.size
      · subst hks
        have hR2 := hR.out
        rw [HE.out] at hR2
        by_cases h4 : cur.length = 4
        · obtain ⟨j, hj1, hj⟩ := hR2.end_hit h4
          rw [← HE.out] at hj1
          have hE : s.extract j (j + 4) = Y := by rw [HX.out j hj, HY.out]
          have e4 : ((cur.length : Int) == 4) = true := by rw [h4]; rfl
          clear hR hR2 hj hck
          go_wp2
          go_ret
          exact ⟨by first | rfl | exact Tx.rets hE, rfl⟩
        · have hN := hR2.end_miss h4
          rw [← HE.out] at hN
          have HN := Lib.hid hN; clear hN
          have e4 : ((cur.length : Int) == 4) = false := beq_eq_false_iff_ne.2 (by omega)
          clear hR hR2
          go_wp2
          go_round
          case rel => exact ⟨s.size + 1, [], by omega, by go_num, rfl, Nat.zero_le _, HN⟩
          case measure => simp [intOf]
      · obtain rfl : k = s.size + 1 := by omega
        have hle : ¬ ((s.size : Int) + 1 ≤ (s.size : Int)) := by omega
        have hY0 := hR.out.2 (by rw [← HE.out])
        have hYe : Y = ⟨#[]⟩ := by rw [← HY.out, hY0]
        clear hR hck
        go_wp2
        go_ret
        exact ⟨by first | rfl | (rw [hYe]; rfl), rfl⟩
end Go.Proofs.YtogpghpgnpoioaaGreatDoor

/- The reference's Put at layer 15: what the call returns. -/
namespace Go.Proofs.YtogpghpgnpoioaaGreatDoor
open Go.RowKit
set_option maxRecDepth 100000

namespace Cs
theorem put_scan {α : Type} [DecidableEq α] (lt : α → α → Bool) (x : α) : ∀ (xs : List α) (k : Nat), k ≤ xs.length → (∀ j, j < k → ∀ y, xs[j]? = some y → lt y x = true) → (∀ y, xs[k]? = some y → lt y x = false) → Cp.put lt xs x = if xs[k]? = some x then xs else xs.take k ++ x :: xs.drop k
  | [], k, hk, _, _ => by simp [Cp.put]
  | y :: r, 0, _, _, h2 => by
    have h3 : lt y x = false := h2 y rfl
    unfold Cp.put
    rw [h3]
    by_cases hyx : y = x
    · simp [hyx]
    · simp [hyx]
  | y :: r, k + 1, hk, h1, h2 => by
    have h3 : lt y x = true := h1 0 (by omega) y rfl
    have ih := put_scan lt x r k (by simpa using hk) (fun j hj z hz => h1 (j + 1) (by omega) z (by simpa using hz)) (fun z hz => h2 z (by simpa using hz))
    unfold Cp.put
    rw [if_pos h3, ih]
    by_cases hx : r[k]? = some x
    · simp [hx]
    · simp [hx]
end Cs

namespace Cs
abbrev encB (x : Rc.By) : Value := .string ⟨x.toArray⟩
end Cs

set_option maxHeartbeats 1600000 in
theorem r15_Put_c (xs : List Rc.By) (b o c : Nat) (n : Rc.By) (w : World) (h : Cs.LA Cs.encB w b o c xs) (hlen : xs.length ≤ 1000000) :
    Calls Tryz.prog 40 #[.slice (some ⟨b, o, none⟩) xs.length c, .string ⟨n.toArray⟩] w fun e w' => ∃ b' o' c', e = .returned (.slice (some ⟨b', o', none⟩) (Cp.put Cp.ltB xs n).length c') ∧ Cs.LA Cs.encB w' b' o' c' (Cp.put Cp.ltB xs n) ∧ (b' = b ∨ w.heap.size ≤ b') ∧ Below w.heap.size w w' := by
  obtain ⟨i0, hi0, hz0, hz1, hz2⟩ := info_parts info_str
  have hc := h.cap
  have hm := h.max
  have hml : maxLen = 9223372036854775807 := rfl
  go_enter Tryz.func40, Tryz.ntmps40
  go_wp2
  go_loopw [5] (fun i wr => ∃ (k : Nat), k ≤ xs.length ∧ i = .int .i64 k ∧ Hid (∀ j, j < k → ∀ y, xs[j]? = some y → Cp.ltB y n = true) ∧ wr = w) (fun i _ => xs.length - (intOf i).toNat)
  case atStart => exact ⟨0, Nat.zero_le _, rfl, Lib.hid (fun j hj => absurd hj (by omega)), rfl⟩
  case round =>
    obtain ⟨k, hk, rfl, hE, rfl⟩ := hrel
    have hsc := fun h2 => Cs.put_scan Cp.ltB n xs k hk hE.out h2
    by_cases hlt : k < xs.length
    · obtain ⟨y, hy⟩ : ∃ y, xs[k]? = some y := ⟨_, List.getElem?_eq_getElem hlt⟩
      have cy := h.at_ k y hy
      have hbl : Op.bytesLess y n = decide (y < n) := Go.Proofs.bytesLess_eq y n
      by_cases hyn : y < n
      · have hE2 : Hid (∀ j, j < k + 1 → ∀ y, xs[j]? = some y → Cp.ltB y n = true) := Lib.hid (fun j hj z hz => by
          rcases Nat.lt_or_ge j k with h1 | h1
          · exact hE.out j h1 z hz
          · obtain rfl : j = k := by omega
            rw [hy] at hz; injection hz with hz; subst hz
            simpa [Cp.ltB] using hyn)
        rw [decide_eq_true hyn] at hbl
        clear hy hsc hyn
        go_wp2
        go_roundw
        case rel => exact ⟨k + 1, by omega, by go_num, hE2, trivial⟩
        case measure => simp [intOf]; omega
      · have hp := hsc (fun z hz => by rw [hy] at hz; injection hz with hz; subst hz; simpa [Cp.ltB] using hyn)
        rw [decide_eq_false hyn] at hbl
        have HYN := Lib.hid hyn; clear hyn
        by_cases hye : y = n
        · rw [if_pos (by rw [hy, hye])] at hp
          have HP := Lib.hid hp; clear hp hsc hy
          subst hye
          go_wp2
          go_ret
          rw [HP.out]
          exact ⟨b, o, c, rfl, h, .inl rfl, Below.refl _ _⟩
        · rw [if_neg (by rw [hy]; intro h9; injection h9 with h9; exact hye h9)] at hp
          have HP := Lib.hid hp; clear hp hsc hy
          have hye2 : (y == n) = false := by simpa using hye
          have hkc : (k : Int) ≤ (c : Int) := by omega
          have hkl : (k : Int) ≤ (xs.length : Int) := by omega
          have hlen1 : ((xs.take k).map Cs.encB).length = k * 1 := by first | (simp; done) | (simp; omega)
          have hlen3 : ((xs.drop k).map Cs.encB).length = (xs.length - k) * 1 := by simp
          have hone : ∀ l : List Rc.By, ∀ u ∈ l.map Cs.encB, u.oneCell' = true := fun l u hu => by
            obtain ⟨x, _, rfl⟩ := List.mem_map.1 hu
            rfl
          have HL1 := Lib.hid hlen1; clear hlen1
          have HL3 := Lib.hid hlen3; clear hlen3
          have HONE := Lib.hid hone; clear hone
          go_wp2_with (first
            | (at_builtin; refine wpList_append_own _ rfl _ _ 36 rfl wr.heap.size 9 i0 (.string ⟨#[]⟩) 1 16 Tryz.underlying36 hi0 hz0 hz1 hz2 rfl (by decide) _ 0 [] rfl (World.ownsRow_lit (base := wr.heap.size) (e := 9) (size := 1) wr #[] 0 (by simp) (by unfold maxLen; omega) rfl) ⟨b, o, none⟩ k _ ((xs.take k).map Cs.encB) rfl HL1.out (h.cellsT (Tx.newb _ _) k) (HONE.out _) (by unfold maxLen; omega) (by omega) (by simp) ?_; intro v1 w1 hown1 hg1 hnil1; have hb1 : Below wr.heap.size wr w1 := (Tx.newb wr _).grown hg1 (by simp) (fun j hj => by cases hj; exact Nat.le_refl _))
            | (at_builtin; refine wpList_append_own _ rfl _ _ 36 rfl wr.heap.size 9 i0 (.string ⟨#[]⟩) 1 16 Tryz.underlying36 hi0 hz0 hz1 hz2 rfl (by decide) _ (0 + k) _ rfl (hown1.alloc _) ⟨_, 0, none⟩ 1 1 [.string ⟨n.toArray⟩] rfl rfl (Tx.cell_one_at _ _ (by first | rfl | simp) _ _) (by simp [Value.oneCell']) (by unfold maxLen; omega) (by omega) (by have := hb1.size; simp; omega) ?_; intro v2 w2 hown2 hg2 hnil2; have hb2 : Below wr.heap.size wr w2 := (hb1.alloc hb1.size _).grown hg2 (by have := hb1.size; simp; omega) (fun j hj => (hown1.lt j hj).1))
            | (at_builtin; refine wpList_append_own _ rfl _ _ 36 rfl wr.heap.size 9 i0 (.string ⟨#[]⟩) 1 16 Tryz.underlying36 hi0 hz0 hz1 hz2 rfl (by decide) _ (0 + k + 1) _ rfl hown2 ⟨b, o + k, none⟩ (xs.length - k) _ ((xs.drop k).map Cs.encB) rfl HL3.out (h.cellsD hb2 k) (HONE.out _) (by unfold maxLen; omega) (by omega) hb2.size ?_; intro v3 w3 hown3 hg3 hnil3; have hb3 : Below wr.heap.size wr w3 := hb2.grown hg3 hb2.size (fun j hj => (hown2.lt j hj).1)))
          rcases hown3.2 with ⟨h0, _⟩ | ⟨vb, vc, cur, rfl, _⟩
          · exact absurd (hnil3.1 h0).1 (fun e => by have := (hnil2.1 e).2; omega)
          · go_ret
            have hll : (Cp.put Cp.ltB xs n).length = 0 + k + 1 + (xs.length - k) := by rw [HP.out]; simp; omega
            have hvl : (Cp.put Cp.ltB xs n).map Cs.encB = [] ++ (xs.take k).map Cs.encB ++ [.string ⟨n.toArray⟩] ++ (xs.drop k).map Cs.encB := by rw [HP.out]; simp
            rw [← hvl] at hown3
            refine ⟨vb, 0, vc, congrArg (fun m => Ending.returned (.slice (some ⟨vb, 0, none⟩) m vc)) hll.symm, Cs.LA.of_own hown3 hll.symm, .inr (hown3.lt vb rfl).1, hb3⟩
    · obtain rfl : k = xs.length := by omega
      have hp := hsc (fun z hz => by rw [List.getElem?_eq_none (by omega)] at hz; cases hz)
      rw [if_neg (by rw [List.getElem?_eq_none (by omega)]; simp)] at hp
      have HP := Lib.hid hp; clear hp hsc
      by_cases hcc : c = xs.length
      · subst hcc
        have hkc : (xs.length : Int) ≤ (xs.length : Int) := by omega
        have hkl0 : (xs.length : Int) ≤ (xs.length : Int) := by omega
        have hlen1 : ((xs.take xs.length).map Cs.encB).length = xs.length * 1 := by first | (simp; done) | (simp; omega)
        have hlen3 : ((xs.drop xs.length).map Cs.encB).length = (xs.length - xs.length) * 1 := by simp
        have hone : ∀ l : List Rc.By, ∀ u ∈ l.map Cs.encB, u.oneCell' = true := fun l u hu => by
          obtain ⟨x, _, rfl⟩ := List.mem_map.1 hu
          rfl
        have HL1 := Lib.hid hlen1; clear hlen1
        clear hlen3 hkl0
        have HONE := Lib.hid hone; clear hone
        go_wp2_with (first
          | (at_builtin; refine wpList_append_own _ rfl _ _ 36 rfl wr.heap.size 9 i0 (.string ⟨#[]⟩) 1 16 Tryz.underlying36 hi0 hz0 hz1 hz2 rfl (by decide) _ 0 [] rfl (World.ownsRow_lit (base := wr.heap.size) (e := 9) (size := 1) wr #[] 0 (by simp) (by unfold maxLen; omega) rfl) ⟨b, o, none⟩ xs.length _ ((xs.take xs.length).map Cs.encB) rfl HL1.out (h.cellsT (Tx.newb _ _) xs.length) (HONE.out _) (by unfold maxLen; omega) (by omega) (by simp) ?_; intro v1 w1 hown1 hg1 hnil1; have hb1 : Below wr.heap.size wr w1 := (Tx.newb wr _).grown hg1 (by simp) (fun j hj => by cases hj; exact Nat.le_refl _))
          | (at_builtin; refine wpList_append_own _ rfl _ _ 36 rfl wr.heap.size 9 i0 (.string ⟨#[]⟩) 1 16 Tryz.underlying36 hi0 hz0 hz1 hz2 rfl (by decide) _ (0 + xs.length) _ rfl (hown1.alloc _) ⟨_, 0, none⟩ 1 1 [.string ⟨n.toArray⟩] rfl rfl (Tx.cell_one_at _ _ (by first | rfl | simp) _ _) (by simp [Value.oneCell']) (by unfold maxLen; omega) (by omega) (by have := hb1.size; simp; omega) ?_; intro v2 w2 hown2 hg2 hnil2; have hb2 : Below wr.heap.size wr w2 := (hb1.alloc hb1.size _).grown hg2 (by have := hb1.size; simp; omega) (fun j hj => (hown1.lt j hj).1))
          | (at_builtin; refine wpList_append_own _ rfl _ _ 36 rfl wr.heap.size 9 i0 (.string ⟨#[]⟩) 1 16 Tryz.underlying36 hi0 hz0 hz1 hz2 rfl (by decide) _ (0 + xs.length + 1) _ rfl hown2 ⟨b, o, none⟩ 0 _ [] rfl rfl (fun j u hj => by simp at hj) (fun u hu => by simp at hu) (by unfold maxLen; omega) (by omega) hb2.size ?_; intro v3 w3 hown3 hg3 hnil3; have hb3 : Below wr.heap.size wr w3 := hb2.grown hg3 hb2.size (fun j hj => (hown2.lt j hj).1)))
        rcases hown3.2 with ⟨h0, _⟩ | ⟨vb, vc, cur, rfl, _⟩
        · exact absurd (hnil3.1 h0).1 (fun e => by have := (hnil2.1 e).2; omega)
        · go_ret
          have hll : (Cp.put Cp.ltB xs n).length = 0 + xs.length + 1 + 0 := by rw [HP.out]; first | (simp; done) | (simp; omega)
          have hvl : (Cp.put Cp.ltB xs n).map Cs.encB = [] ++ (xs.take xs.length).map Cs.encB ++ [.string ⟨n.toArray⟩] ++ [] := by rw [HP.out]; simp
          rw [← hvl] at hown3
          refine ⟨vb, 0, vc, congrArg (fun m => Ending.returned (.slice (some ⟨vb, 0, none⟩) m vc)) hll.symm, Cs.LA.of_own hown3 hll.symm, .inr (hown3.lt vb rfl).1, hb3⟩
      · have hcl : (xs.length : Int) < (c : Int) := by omega
        have hcl2 : xs.length < c := by omega
        clear hcc
        have hkc : (xs.length : Int) ≤ (c : Int) := by omega
        have hkl0 : (xs.length : Int) ≤ (xs.length : Int) := by omega
        have hlen1 : ((xs.take xs.length).map Cs.encB).length = xs.length * 1 := by first | (simp; done) | (simp; omega)
        have hlen3 : ((xs.drop xs.length).map Cs.encB).length = (xs.length - xs.length) * 1 := by simp
        have hone : ∀ l : List Rc.By, ∀ u ∈ l.map Cs.encB, u.oneCell' = true := fun l u hu => by
          obtain ⟨x, _, rfl⟩ := List.mem_map.1 hu
          rfl
        have HL1 := Lib.hid hlen1; clear hlen1
        clear hlen3 hkl0
        have HONE := Lib.hid hone; clear hone
        go_wp2_with (first
          | (at_builtin; refine wpList_append_own _ rfl _ _ 36 rfl wr.heap.size 9 i0 (.string ⟨#[]⟩) 1 16 Tryz.underlying36 hi0 hz0 hz1 hz2 rfl (by decide) _ 0 [] rfl (World.ownsRow_lit (base := wr.heap.size) (e := 9) (size := 1) wr #[] 0 (by simp) (by unfold maxLen; omega) rfl) ⟨b, o, none⟩ xs.length _ ((xs.take xs.length).map Cs.encB) rfl HL1.out (h.cellsT (Tx.newb _ _) xs.length) (HONE.out _) (by unfold maxLen; omega) (by omega) (by simp) ?_; intro v1 w1 hown1 hg1 hnil1; have hb1 : Below wr.heap.size wr w1 := (Tx.newb wr _).grown hg1 (by simp) (fun j hj => by cases hj; exact Nat.le_refl _))
          | (at_builtin; refine wpList_append_own _ rfl _ _ 36 rfl wr.heap.size 9 i0 (.string ⟨#[]⟩) 1 16 Tryz.underlying36 hi0 hz0 hz1 hz2 rfl (by decide) _ (0 + xs.length) _ rfl (hown1.alloc _) ⟨_, 0, none⟩ 1 1 [.string ⟨n.toArray⟩] rfl rfl (Tx.cell_one_at _ _ (by first | rfl | simp) _ _) (by simp [Value.oneCell']) (by unfold maxLen; omega) (by omega) (by have := hb1.size; simp; omega) ?_; intro v2 w2 hown2 hg2 hnil2; have hb2 : Below wr.heap.size wr w2 := (hb1.alloc hb1.size _).grown hg2 (by have := hb1.size; simp; omega) (fun j hj => (hown1.lt j hj).1))
          | (at_builtin; refine wpList_append_own _ rfl _ _ 36 rfl wr.heap.size 9 i0 (.string ⟨#[]⟩) 1 16 Tryz.underlying36 hi0 hz0 hz1 hz2 rfl (by decide) _ (0 + xs.length + 1) _ rfl hown2 ⟨b, o + xs.length, none⟩ 0 _ [] rfl rfl (fun j u hj => by simp at hj) (fun u hu => by simp at hu) (by unfold maxLen; omega) (by omega) hb2.size ?_; intro v3 w3 hown3 hg3 hnil3; have hb3 : Below wr.heap.size wr w3 := hb2.grown hg3 hb2.size (fun j hj => (hown2.lt j hj).1)))
        rcases hown3.2 with ⟨h0, _⟩ | ⟨vb, vc, cur, rfl, _⟩
        · exact absurd (hnil3.1 h0).1 (fun e => by have := (hnil2.1 e).2; omega)
        · go_ret
          have hll : (Cp.put Cp.ltB xs n).length = 0 + xs.length + 1 + 0 := by rw [HP.out]; first | (simp; done) | (simp; omega)
          have hvl : (Cp.put Cp.ltB xs n).map Cs.encB = [] ++ (xs.take xs.length).map Cs.encB ++ [.string ⟨n.toArray⟩] ++ [] := by rw [HP.out]; simp
          rw [← hvl] at hown3
          refine ⟨vb, 0, vc, congrArg (fun m => Ending.returned (.slice (some ⟨vb, 0, none⟩) m vc)) hll.symm, Cs.LA.of_own hown3 hll.symm, .inr (hown3.lt vb rfl).1, hb3⟩
end Go.Proofs.YtogpghpgnpoioaaGreatDoor
