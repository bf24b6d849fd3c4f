/- The program's weighted sum of ten characters: what the call returns. -/
import Derived.Test.YtogpghpgnpoioaaGreatDoorKj
import Derived.Test.YtogpghpgnpoioaaGreatDoorKm
import Derived.Test.YtogpghpgnpoioaaGreatDoorKo
import Derived.Test.YtogpghpgnpoioaaGreatDoorKb
import Derived.Test.YtogpghpgnpoioaaGreatDoorKe
import Derived.Test.YtogpghpgnpoioaaGreatDoorKk
namespace Go.Proofs.YtogpghpgnpoioaaGreatDoor
open Go.RowKit
set_option maxRecDepth 100000

namespace Mt
/-- What weighted returns. -/
def wRes (l : By) : Value := .tuple #[.int .i64 (if ended l = true then wS l 10 else 0), .bool (ended l)]
theorem ended_bad {l : By} {k : Nat} {c : UInt8} (h : l[k]? = some c) (hd : dig c = false) (hx : ¬ (c = 88 ∧ k + 1 = l.length)) : ended l = false := by
  obtain ⟨a, x, rfl⟩ := snoc_of (l := l) (by intro e; rw [e] at h; cases h)
  rw [ended_snoc]
  by_cases hk : k < a.length
  · rw [List.getElem?_append_left hk] at h
    have : a.all dig = false := all_bad h hd
    rw [this]; rfl
  · have hk2 := (List.getElem?_eq_some_iff.1 h).1
    have : k = a.length := by simp at hk2; omega
    subst this
    simp at h
    subst h
    have h88 : x ≠ 88 := fun e => hx ⟨e, by simp⟩
    rw [hd, beq_eq_false_iff_ne.2 h88]
    simp
theorem ended_all {l : By} (hl : l ≠ []) (h : ∀ (k : Nat) (c : UInt8), l[k]? = some c → dig c = true ∨ (c = 88 ∧ k + 1 = l.length)) : ended l = true := by
  obtain ⟨a, x, rfl⟩ := snoc_of hl
  rw [ended_snoc, Bool.and_eq_true, Bool.or_eq_true]
  constructor
  · rw [List.all_eq_true]
    intro c hc
    obtain ⟨k, hk, e⟩ := List.getElem_of_mem hc
    rcases h k c (by rw [List.getElem?_append_left hk, ← e]; exact List.getElem?_eq_getElem hk) with h1 | ⟨_, h2⟩
    · exact h1
    · simp at h2; omega
  · rcases h a.length x (by simp) with h1 | ⟨h1, _⟩
    · exact .inl h1
    · exact .inr (by rw [h1]; rfl)
end Mt

set_option maxHeartbeats 1600000 in
theorem bc_weighted_c (s : ByteArray) (w : World) (hs : s.size = 10) :
    Calls Tryz.prog 85 #[.string s] w fun e w' => e = .returned (Mt.wRes s.data.toList) ∧ w = w' := by
  have HE := Lib.hid (Lib.size_eq s)
  go_enter Tryz.func85, Tryz.ntmps85
  go_wp2
  go_loop [4, 5] (fun v i => ∃ (k : Nat) (n : Int), k ≤ 10 ∧ i = .int .i64 k ∧ v = .int .i64 n ∧ Hid (n = Mt.wS s.data.toList k) ∧ (0 ≤ n ∧ n ≤ 200 * k) ∧ Hid (∀ (j : Nat) (c : UInt8), j < k → s.data.toList[j]? = some c → Mt.dig c = true ∨ (c = 88 ∧ j + 1 = s.data.toList.length))) (fun _ i => 10 - (intOf i).toNat)
  case atStart => exact ⟨0, 0, by decide, rfl, rfl, Lib.hid rfl, by decide, Lib.hid (fun j c h => by omega)⟩
  case round =>
    obtain ⟨k, n, hk, rfl, rfl, hn, hnb, hA⟩ := hrel
    by_cases hlt : k < 10
    · have hls : k < s.size := by omega
      obtain ⟨c, hc⟩ : ∃ c, s[k]'hls = c := ⟨_, rfl⟩
      have hat := Mt.at_get hls
      rw [hc] at hat
      obtain ⟨m, hm⟩ : ∃ m : Int, (10 : Int) - k = m := ⟨_, rfl⟩
      have hst : Mt.wS s.data.toList (k + 1) = n + Mt.val c * m := by rw [Mt.wS, ← hn.out, Mt.getD_at hls, hc, ← HE.out, hs, ← hm]; rfl
      have hcc : ∀ h, s[k]'h = c := fun _ => hc
      have hm1 : 0 ≤ m := by omega
      have hm2 : m ≤ 10 := by omega
      have hstep : Hid (Mt.dig c = true ∨ (c = 88 ∧ k + 1 = s.data.toList.length) → ∀ (j : Nat) (c : UInt8), j < k + 1 → s.data.toList[j]? = some c → Mt.dig c = true ∨ (c = 88 ∧ j + 1 = s.data.toList.length)) := Lib.hid (fun h9 j d hj hd => by
        rcases (by omega : j < k ∨ j = k) with h1 | h1
        · exact hA.out j d h1 hd
        · subst h1
          rw [hat] at hd
          injection hd with hd
          rw [← hd]; exact h9)
      clear hc
      have HS := Lib.hid hst; clear hst
      by_cases hx : c = 88 ∧ k + 1 = 10
      · obtain ⟨rfl, hk9⟩ := hx
        obtain rfl : k = 9 := by omega
        obtain rfl : m = 1 := by omega
        have e : Mt.val 88 = 10 := rfl
        have hq := hstep.out (.inr ⟨rfl, by rw [← HE.out, hs]⟩)
        have HQ := Lib.hid hq
        have wa := IntWalk.i64_in (n + 10) ⟨by omega, by omega⟩
        clear hq hat hm
        go_wp2
        go_round
        case rel => exact ⟨10, _, by decide, by go_num, rfl, Lib.hid (by rw [HS.out]; rfl), by omega, HQ⟩
        case measure => simp [intOf]
      · by_cases hd : Mt.dig c = true
        · obtain ⟨d1, d2⟩ := Mt.dig_iff.1 hd
          have n88 : c ≠ 88 := fun e => by rw [e] at d2; simp at d2
          have e : Mt.val c = (c.toNat : Int) - 48 := by unfold Mt.val; rw [if_neg n88]
          have n88i : ((c.toNat : Int) == 88) = false := beq_eq_false_iff_ne.2 (Mt.kn (n := 88) (by decide) n88)
          rw [e] at HS
          have HQ := Lib.hid (hstep.out (.inl hd))
          obtain ⟨q, hq⟩ : ∃ q : Int, (c.toNat : Int) - 48 = q := ⟨_, rfl⟩
          rw [hq] at HS
          have p1 : 0 ≤ q * m := Int.mul_nonneg (by omega) hm1
          have p2 : q * m ≤ 9 * 10 := Int.mul_le_mul (by omega) hm2 hm1 (by decide)
          have wm := IntWalk.i64_in (q * m) ⟨by omega, by omega⟩
          have wa := IntWalk.i64_in (n + q * m) ⟨by omega, by omega⟩
          have q0 : ¬ q < 0 := by omega
          have q9 : ¬ 9 < q := by omega
          clear hd e n88 hat hx
          by_cases hk9 : k = 9
          · subst hk9
            have hM1 : Hid (m = 1) := Lib.hid (by omega)
            go_wp2
            go_round
            case rel => exact ⟨10, _, by decide, by go_num, rfl, Lib.hid (by rw [HS.out, hM1.out, Int.mul_one]), by omega, HQ⟩
            case measure => simp [intOf]
          · have hk9i : ((k : Int) == 9) = false := beq_eq_false_iff_ne.2 (by omega)
            go_wp2
            go_round
            case rel => exact ⟨k + 1, _, hlt, by go_num, rfl, Lib.hid (by rw [HS.out]), by omega, HQ⟩
            case measure => simp [intOf]; omega
        · have hd2 : Mt.dig c = false := by simpa using hd
          have HB := Lib.hid (Mt.ended_bad hat hd2 (fun h9 => hx ⟨h9.1, by rw [h9.2, ← HE.out, hs]⟩))
          have hn9 := Mt.dig_not.1 hd2
          have n88 : k = 9 → ((c.toNat : Int) == 88) = false := fun hk9 => beq_eq_false_iff_ne.2 (Mt.kn (n := 88) (by decide) (fun e => hx ⟨e, by omega⟩))
          obtain ⟨q, hq⟩ : ∃ q : Int, (c.toNat : Int) - 48 = q := ⟨_, rfl⟩
          have hqq : q < 0 ∨ 9 < q := by omega
          clear hd hd2 hat hx HS
          have hpo : Mt.wRes s.data.toList = .tuple #[.int .i64 0, .bool false] := by unfold Mt.wRes; rw [HB.out]; rfl
          have HPO := Lib.hid hpo
          clear hpo
          have hc8 : (c.toNat : Int) < 256 := by have := c.toNat_lt; omega
          by_cases hk9 : k = 9
          · have n8 := n88 hk9
            subst hk9
            clear n88
            rcases hqq with q0 | q9
            · go_wp2
              go_ret2
              exact ⟨by rw [HPO.out] <;> rfl, rfl⟩
            · have q0 : ¬ q < 0 := by omega
              go_wp2
              go_ret2
              exact ⟨by rw [HPO.out] <;> rfl, rfl⟩
          · have hk9i : ((k : Int) == 9) = false := beq_eq_false_iff_ne.2 (by omega)
            clear n88
            rcases hqq with q0 | q9
            · go_wp2
              go_ret2
              exact ⟨by rw [HPO.out] <;> rfl, rfl⟩
            · have q0 : ¬ q < 0 := by omega
              go_wp2
              go_ret2
              exact ⟨by rw [HPO.out] <;> rfl, rfl⟩
    · obtain rfl : k = 10 := by omega
      have hen : Mt.ended s.data.toList = true := Mt.ended_all (fun e => by rw [e] at HE; have := HE.out; rw [hs] at this; simp at this) (fun j c hj => hA.out j c (by have := (List.getElem?_eq_some_iff.1 hj).1; have := HE.out; omega) hj)
      have hpo : Mt.wRes s.data.toList = .tuple #[.int .i64 n, .bool true] := by unfold Mt.wRes; rw [hen, if_pos rfl, ← hn.out]
      have HPO := Lib.hid hpo
      clear hpo hen hA hn
      go_wp2
      go_ret2
      exact ⟨by rw [HPO.out] <;> rfl, rfl⟩
end Go.Proofs.YtogpghpgnpoioaaGreatDoor

/- The program's Isbn: what the call returns. -/
namespace Go.Proofs.YtogpghpgnpoioaaGreatDoor
open Go.RowKit
set_option maxRecDepth 100000

namespace Mt
theorem four_new (w : World) : Rp.Four (w.alloc (.cells #[.string ⟨#[45]⟩, .string ⟨#[]⟩, .string ⟨#[32]⟩, .string ⟨#[]⟩] 9)) w.heap.size := ⟨by simp, by simp, by simp, by simp⟩
theorem below_grow (w : World) (n : Nat) (os : Array Obj) : Below w.heap.size w (Go.Sort.grow (w.drewN n) os) :=
  (Below.refl w.heap.size w).grown (row := none) ⟨rfl, rfl, rfl, by simp [Go.Sort.grow, World.drewN], fun k hk _ => by rw [Go.Sort.heap_grow_old _ _ (by simpa using hk)]; rfl⟩ (Nat.le_refl _) (fun j h => by cases h)
theorem itoa_digit (n : Nat) (hn : n < 10) (w : World) (hG : G w) :
    Calls Tryz.prog 86 #[.int .i64 n] w fun e w' => e = .returned (.string ⟨[UInt8.ofNat (48 + n)].toArray⟩) ∧ Below w.heap.size w w' := by
  refine (Tryz.strconv_Itoa n (by omega) (by omega) w hG.p).mono ?_
  rintro e w' ⟨rfl, k, os, rfl⟩
  refine ⟨?_, ?_⟩
  · have h : Lib.itoa (n : Int) = [UInt8.ofNat (48 + n)] := by
      rcases (by omega : n = 0 ∨ n = 1 ∨ n = 2 ∨ n = 3 ∨ n = 4 ∨ n = 5 ∨ n = 6 ∨ n = 7 ∨ n = 8 ∨ n = 9) with rfl | rfl | rfl | rfl | rfl | rfl | rfl | rfl | rfl | rfl <;> decide +kernel
    rw [h]
  · exact below_grow w k os
end Mt

set_option maxHeartbeats 1600000 in
theorem bc_Isbn_c (s : ByteArray) (w : World) (hG : G w) (hs : s.size ≤ 100000000) :
    Calls Tryz.prog 57 #[.string s] w fun e w' => e = .returned (.tuple #[.string ⟨(Mt.isbnT (Mt.rem s.data.toList)).1.toArray⟩, .int .i64 (Mt.isbnT (Mt.rem s.data.toList)).2]) ∧ Below w.heap.size w w' := by
  have HF := Lib.hid (Mt.four_new w)
  have RC : ∀ g w1, w.heap.size ≤ g → Rp.New w1 g → Calls Tryz.prog 84 #[.pointer (some ⟨g, 0, none⟩), .string s] w1 fun e w' => e = .returned (.string ⟨(Mt.rem s.data.toList).toArray⟩) ∧ Below w.heap.size w1 w' := fun g w1 h1 h2 => Rp.replace_c w.heap.size g s w1 h1 h2 (by omega)
  obtain ⟨T, hT⟩ : ∃ T, (⟨(Mt.rem s.data.toList).toArray⟩ : ByteArray) = T := ⟨_, rfl⟩
  have hL : Mt.rem s.data.toList = T.data.toList := by rw [← hT]
  have hle : T.size ≤ 100000000 := by
    rw [Lib.size_eq, ← hL]
    refine Nat.le_trans (Mt.rem_le _) ?_
    rw [← Lib.size_eq]; exact hs
  rw [hT] at RC
  have HRC := Lib.hid RC
  clear RC
  rw [hL]
  clear hT hL hs
  have hTL := Lib.size_eq T
  obtain ⟨L, hL⟩ : ∃ L, T.data.toList = L := ⟨_, rfl⟩
  have hmk : T = ⟨L.toArray⟩ := by rw [← hL]
  have dg := fun w => bc_digits_c T w (by omega)
  have al := fun h1 h2 w => bc_alternating_c T w h1 h2
  have we := fun h1 w => bc_weighted_c T w h1
  rw [hL] at hTL dg al we ⊢
  by_cases h13 : L.length = 13
  · rw [h13] at hTL
    cases hd : Mt.digits L with
    | false =>
      rw [Mt.isbnT_13n h13 (by rw [hd]; simp)]
      rw [hd] at dg
      clear al we hL h13 hmk
      go_enter Tryz.func57, Tryz.ntmps57
      go_wp2_with (first
        | (go_at_call 83; ((with_reducible refine (Rp.new_c _ _ HF.out).mono ?_); rintro e w0 ⟨g, rfl, hg0, hN0, hb0⟩; have HN0 := Lib.hid hN0; have hg1 : w.heap.size ≤ g := by simp at hg0; omega))
        | (go_at_call 84; ((with_reducible refine (HRC.out g _ hg1 HN0.out).mono ?_); rintro e w1 ⟨rfl, hb1⟩; have hbT := ((Tx.newb w _).trans (hb0.mono (by simp))).trans hb1))
        | (go_at_call 88; (with_reducible refine (dg _).mono ?_); rintro e w2 ⟨rfl, rfl⟩))
      go_ret2
      exact ⟨rfl, hbT⟩
    | true =>
      have al2 := al (by omega) hd
      rw [hTL] at al2
      have hb := Mt.aS_in hd 13 (by omega)
      obtain ⟨n, hn⟩ : ∃ n, Mt.aS L 13 = n := ⟨_, rfl⟩
      rw [hn] at al2 hb
      rw [hd] at dg
      obtain ⟨P, hP⟩ : ∃ P, T.extract 0 3 = P := ⟨_, rfl⟩
      have hPL : P.data.toList = L.take 3 := by rw [← hP, Lib.extract_data, hL]; first | done | rfl
      by_cases p8 : L.take 3 = [57, 55, 56]
      · have hP8 : P = ⟨#[57, 55, 56]⟩ := by rw [Mt.mk_list P, hPL, p8]
        have hI := Mt.isbnT_13 h13 hd (by unfold Mt.pre13; rw [p8]; rfl)
        rw [hn] at hI
        subst hP8
        by_cases hz : n % 10 = 0
        · rw [if_pos hz] at hI
          have hz2 : n.tmod 10 = 0 := by rw [Int.tmod_eq_emod_of_nonneg hb.1]; exact hz
          rw [hI, ← hmk]
          clear al we hL h13 hmk hI hPL hn hd p8
          go_enter Tryz.func57, Tryz.ntmps57
          go_wp2_with (first
            | (go_at_call 83; ((with_reducible refine (Rp.new_c _ _ HF.out).mono ?_); rintro e w0 ⟨g, rfl, hg0, hN0, hb0⟩; have HN0 := Lib.hid hN0; have hg1 : w.heap.size ≤ g := by simp at hg0; omega))
            | (go_at_call 84; ((with_reducible refine (HRC.out g _ hg1 HN0.out).mono ?_); rintro e w1 ⟨rfl, hb1⟩; have hbT := ((Tx.newb w _).trans (hb0.mono (by simp))).trans hb1))
            | (go_at_call 88; (with_reducible refine (dg _).mono ?_); rintro e w2 ⟨rfl, rfl⟩)
            | (go_at_call 87; (with_reducible refine (al2 _).mono ?_); rintro e w2 ⟨rfl, rfl⟩))
          go_ret2
          exact ⟨rfl, hbT⟩
        · rw [if_neg hz] at hI
          have hz2 : ¬ n.tmod 10 = 0 := by rw [Int.tmod_eq_emod_of_nonneg hb.1]; exact hz
          rw [hI]
          clear al we hL h13 hmk hI hPL hn hd p8
          go_enter Tryz.func57, Tryz.ntmps57
          go_wp2_with (first
            | (go_at_call 83; ((with_reducible refine (Rp.new_c _ _ HF.out).mono ?_); rintro e w0 ⟨g, rfl, hg0, hN0, hb0⟩; have HN0 := Lib.hid hN0; have hg1 : w.heap.size ≤ g := by simp at hg0; omega))
            | (go_at_call 84; ((with_reducible refine (HRC.out g _ hg1 HN0.out).mono ?_); rintro e w1 ⟨rfl, hb1⟩; have hbT := ((Tx.newb w _).trans (hb0.mono (by simp))).trans hb1))
            | (go_at_call 88; (with_reducible refine (dg _).mono ?_); rintro e w2 ⟨rfl, rfl⟩)
            | (go_at_call 87; (with_reducible refine (al2 _).mono ?_); rintro e w2 ⟨rfl, rfl⟩))
          go_ret2
          exact ⟨rfl, hbT⟩
      · have n8' : (P.toList == [57, 55, 56]) = false := by rw [Lib.toList_data, hPL]; exact beq_eq_false_iff_ne.2 p8
        by_cases p9 : L.take 3 = [57, 55, 57]
        · have hP9 : P = ⟨#[57, 55, 57]⟩ := by rw [Mt.mk_list P, hPL, p9]
          have hI := Mt.isbnT_13 h13 hd (by unfold Mt.pre13; rw [p9]; rfl)
          rw [hn] at hI
          subst hP9
          clear n8'
          by_cases hz : n % 10 = 0
          · rw [if_pos hz] at hI
            have hz2 : n.tmod 10 = 0 := by rw [Int.tmod_eq_emod_of_nonneg hb.1]; exact hz
            rw [hI, ← hmk]
            clear al we hL h13 hmk hI hPL hn hd p9
            go_enter Tryz.func57, Tryz.ntmps57
            go_wp2_with (first
              | (go_at_call 83; ((with_reducible refine (Rp.new_c _ _ HF.out).mono ?_); rintro e w0 ⟨g, rfl, hg0, hN0, hb0⟩; have HN0 := Lib.hid hN0; have hg1 : w.heap.size ≤ g := by simp at hg0; omega))
              | (go_at_call 84; ((with_reducible refine (HRC.out g _ hg1 HN0.out).mono ?_); rintro e w1 ⟨rfl, hb1⟩; have hbT := ((Tx.newb w _).trans (hb0.mono (by simp))).trans hb1))
              | (go_at_call 88; (with_reducible refine (dg _).mono ?_); rintro e w2 ⟨rfl, rfl⟩)
              | (go_at_call 87; (with_reducible refine (al2 _).mono ?_); rintro e w2 ⟨rfl, rfl⟩))
            go_ret2
            exact ⟨rfl, hbT⟩
          · rw [if_neg hz] at hI
            have hz2 : ¬ n.tmod 10 = 0 := by rw [Int.tmod_eq_emod_of_nonneg hb.1]; exact hz
            rw [hI]
            clear al we hL h13 hmk hI hPL hn hd p9
            go_enter Tryz.func57, Tryz.ntmps57
            go_wp2_with (first
              | (go_at_call 83; ((with_reducible refine (Rp.new_c _ _ HF.out).mono ?_); rintro e w0 ⟨g, rfl, hg0, hN0, hb0⟩; have HN0 := Lib.hid hN0; have hg1 : w.heap.size ≤ g := by simp at hg0; omega))
              | (go_at_call 84; ((with_reducible refine (HRC.out g _ hg1 HN0.out).mono ?_); rintro e w1 ⟨rfl, hb1⟩; have hbT := ((Tx.newb w _).trans (hb0.mono (by simp))).trans hb1))
              | (go_at_call 88; (with_reducible refine (dg _).mono ?_); rintro e w2 ⟨rfl, rfl⟩)
              | (go_at_call 87; (with_reducible refine (al2 _).mono ?_); rintro e w2 ⟨rfl, rfl⟩))
            go_ret2
            exact ⟨rfl, hbT⟩
        · have n9' : (P.toList == [57, 55, 57]) = false := by rw [Lib.toList_data, hPL]; exact beq_eq_false_iff_ne.2 p9
          rw [Mt.isbnT_13n h13 (by
            unfold Mt.pre13
            rw [beq_eq_false_iff_ne.2 p8, beq_eq_false_iff_ne.2 p9]; simp)]
          clear al al2 we hL h13 hmk hPL hn hd p8 p9
          go_enter Tryz.func57, Tryz.ntmps57
          go_wp2_with (first
            | (go_at_call 83; ((with_reducible refine (Rp.new_c _ _ HF.out).mono ?_); rintro e w0 ⟨g, rfl, hg0, hN0, hb0⟩; have HN0 := Lib.hid hN0; have hg1 : w.heap.size ≤ g := by simp at hg0; omega))
            | (go_at_call 84; ((with_reducible refine (HRC.out g _ hg1 HN0.out).mono ?_); rintro e w1 ⟨rfl, hb1⟩; have hbT := ((Tx.newb w _).trans (hb0.mono (by simp))).trans hb1))
            | (go_at_call 88; (with_reducible refine (dg _).mono ?_); rintro e w2 ⟨rfl, rfl⟩))
          go_ret2
          exact ⟨rfl, hbT⟩
  · by_cases h10 : L.length = 10
    · rw [h10] at hTL
      cases hd : Mt.ended L with
      | false =>
        rw [Mt.isbnT_10n h10 hd]
        have we2 := we hTL
        unfold Mt.wRes at we2
        rw [hd, if_neg (by decide)] at we2
        clear al we dg hL h10 h13 hd hmk
        go_enter Tryz.func57, Tryz.ntmps57
        go_wp2_with (first
          | (go_at_call 83; ((with_reducible refine (Rp.new_c _ _ HF.out).mono ?_); rintro e w0 ⟨g, rfl, hg0, hN0, hb0⟩; have HN0 := Lib.hid hN0; have hg1 : w.heap.size ≤ g := by simp at hg0; omega))
          | (go_at_call 84; ((with_reducible refine (HRC.out g _ hg1 HN0.out).mono ?_); rintro e w1 ⟨rfl, hb1⟩; have hbT := ((Tx.newb w _).trans (hb0.mono (by simp))).trans hb1))
          | (go_at_call 85; (with_reducible refine (we2 _).mono ?_); rintro e w2 ⟨rfl, rfl⟩))
        go_ret2
        exact ⟨rfl, hbT⟩
      | true =>
        have we2 := we hTL
        unfold Mt.wRes at we2
        rw [hd, if_pos rfl] at we2
        have hwb := Mt.wS_in (by omega) (Mt.ended_ok hd) 10 (by omega)
        have hI := Mt.isbnT_10 h10 hd
        obtain ⟨m, hm⟩ : ∃ m, Mt.wS L 10 = m := ⟨_, rfl⟩
        rw [hm] at we2 hwb hI
        have hdp := Mt.digits_pfx hd h10
        have hlp : (Mt.pfx ++ L.take 9).length = 12 := by rw [List.length_append, List.length_take, h10]; rfl
        obtain ⟨N, hN⟩ : ∃ N, T.extract 0 9 = N := ⟨_, rfl⟩
        obtain ⟨U, hU⟩ : ∃ U, (⟨#[57, 55, 56]⟩ : ByteArray) ++ N = U := ⟨_, rfl⟩
        have hUL : U.data.toList = Mt.pfx ++ L.take 9 := by
          rw [← hU, ← hN, ← hL]
          have e9 : (T.extract 0 9) = ⟨(T.data.toList.take 9).toArray⟩ := by rw [Mt.mk_list (T.extract 0 9), Lib.extract_data]; rfl
          rw [e9]
          rfl
        have hUmk := Mt.mk_list U
        rw [hUL] at hUmk
        have al2 := fun w => bc_alternating_c U w (by rw [Lib.size_eq, hUL, hlp]; omega) (by rw [hUL]; exact hdp)
        have hab := Mt.aS_in hdp 12 (by omega)
        rw [hUL, show U.size = 12 by rw [Lib.size_eq, hUL, hlp]] at al2
        obtain ⟨n, hn⟩ : ∃ n, Mt.aS (Mt.pfx ++ L.take 9) 12 = n := ⟨_, rfl⟩
        rw [hn] at al2 hab hI
        obtain ⟨q, hq⟩ : ∃ q, Mt.chk n = q := ⟨_, rfl⟩
        have hq9 : q < 10 := by rw [← hq]; unfold Mt.chk; omega
        have hqe : (10 - n % 10) % 10 = (q : Int) := by rw [← hq]; unfold Mt.chk; omega
        rw [hq] at hI
        have hqt : (10 - n.tmod 10).tmod 10 = (q : Int) := by
          rw [Int.tmod_eq_emod_of_nonneg hab.1, Int.tmod_eq_emod_of_nonneg (by omega)]; exact hqe
        obtain ⟨c, hc⟩ : ∃ c, UInt8.ofNat (48 + q) = c := ⟨_, rfl⟩
        have dq := fun w h => Mt.itoa_digit q hq9 w h
        rw [hc] at dq hI
        have hUc : U ++ ⟨[c].toArray⟩ = ⟨(Mt.pfx ++ L.take 9 ++ [c]).toArray⟩ := by rw [hUmk]; rfl
        by_cases hz : m % 11 = 0
        · rw [if_pos hz] at hI
          have hz2 : m.tmod 11 = 0 := by rw [Int.tmod_eq_emod_of_nonneg hwb.1]; exact hz
          rw [hI]
          have hU12 : U.size = 12 := by rw [Lib.size_eq, hUL, hlp]
          have hN9 : N.size = 9 := by rw [← hN, Lib.size_eq, Lib.extract_data, hL]; simp [h10]
          obtain ⟨C, hC⟩ : ∃ C, (⟨[c].toArray⟩ : ByteArray) = C := ⟨_, rfl⟩
          have hC1 : C.size = 1 := by rw [← hC]; rfl
          rw [hC] at dq hUc
          obtain ⟨Z, hZ⟩ : ∃ Z, (⟨(Mt.pfx ++ L.take 9 ++ [c]).toArray⟩ : ByteArray) = Z := ⟨_, rfl⟩
          rw [hZ] at hUc
          dsimp only
          rw [hZ]
          clear al we dg hL h10 h13 hd hmk hI hUL hUmk hdp hlp hm hn hq hc hC hZ hwb
          go_enter Tryz.func57, Tryz.ntmps57
          go_wp2_with (first
            | (go_at_call 83; ((with_reducible refine (Rp.new_c _ _ HF.out).mono ?_); rintro e w0 ⟨g, rfl, hg0, hN0, hb0⟩; have HN0 := Lib.hid hN0; have hg1 : w.heap.size ≤ g := by simp at hg0; omega))
            | (go_at_call 84; ((with_reducible refine (HRC.out g _ hg1 HN0.out).mono ?_); rintro e w1 ⟨rfl, hb1⟩; have hbT := ((Tx.newb w _).trans (hb0.mono (by simp))).trans hb1))
            | (go_at_call 85; (with_reducible refine (we2 _).mono ?_); rintro e w2 ⟨rfl, rfl⟩)
            | (go_at_call 87; (with_reducible refine (al2 _).mono ?_); rintro e w2 ⟨rfl, rfl⟩)
            | (go_at_call 86; ((with_reducible refine (dq _ (hG.below hbT)).mono ?_); rintro e w3 ⟨rfl, hb3⟩)))
          go_ret2
          exact ⟨rfl, Tx.step hbT hb3⟩
        · rw [if_neg hz] at hI
          have hz2 : ¬ m.tmod 11 = 0 := by rw [Int.tmod_eq_emod_of_nonneg hwb.1]; exact hz
          rw [hI]
          clear al al2 we dg hL h10 h13 hd hmk hI hUL hUmk hdp hlp hm hn hq hc hwb dq hUc hqe hqt hab hU hN
          go_enter Tryz.func57, Tryz.ntmps57
          go_wp2_with (first
            | (go_at_call 83; ((with_reducible refine (Rp.new_c _ _ HF.out).mono ?_); rintro e w0 ⟨g, rfl, hg0, hN0, hb0⟩; have HN0 := Lib.hid hN0; have hg1 : w.heap.size ≤ g := by simp at hg0; omega))
            | (go_at_call 84; ((with_reducible refine (HRC.out g _ hg1 HN0.out).mono ?_); rintro e w1 ⟨rfl, hb1⟩; have hbT := ((Tx.newb w _).trans (hb0.mono (by simp))).trans hb1))
            | (go_at_call 85; (with_reducible refine (we2 _).mono ?_); rintro e w2 ⟨rfl, rfl⟩))
          go_ret2
          exact ⟨rfl, hbT⟩
    · rw [Mt.isbnT_else h13 h10]
      have g1 : ¬ (T.size : Int) = 13 := by omega
      have g2 : ¬ (T.size : Int) = 10 := by omega
      have g1' : ((T.size : Int) == 13) = false := beq_eq_false_iff_ne.2 g1
      have g2' : ((T.size : Int) != 10) = true := bne_iff_ne.2 g2
      clear al we dg hL h10 h13 hmk
      go_enter Tryz.func57, Tryz.ntmps57
      go_wp2_with (first
        | (go_at_call 83; ((with_reducible refine (Rp.new_c _ _ HF.out).mono ?_); rintro e w0 ⟨g, rfl, hg0, hN0, hb0⟩; have HN0 := Lib.hid hN0; have hg1 : w.heap.size ≤ g := by simp at hg0; omega))
        | (go_at_call 84; ((with_reducible refine (HRC.out g _ hg1 HN0.out).mono ?_); rintro e w1 ⟨rfl, hb1⟩; have hbT := ((Tx.newb w _).trans (hb0.mono (by simp))).trans hb1)))
      go_ret2
      exact ⟨rfl, hbT⟩
end Go.Proofs.YtogpghpgnpoioaaGreatDoor

/- The program's values that are compared: what the calls return. -/
namespace Go.Proofs.YtogpghpgnpoioaaGreatDoor
open Go.RowKit
set_option maxRecDepth 100000

namespace Mt
theorem bys_of {xs : List ByteArray} {l : List By} (h : xs.map (·.data.toList) = l) : (Lib.join (xs.map (·.data.toList)) [32]) = Lib.join l [32] := by rw [h]
end Mt
theorem Join_sp (xs : List ByteArray) (L : List Mt.By) (A : Nat) (w : World) (h : SLA w (some ⟨A, 0, none⟩) xs.length xs) (hx : xs.map (·.data.toList) = L) (hb : (Lib.join L [32]).length ≤ 1000000) (hL : L.length ≤ 1000000) :
    Calls Tryz.prog 55 #[.slice (some ⟨A, 0, none⟩) xs.length xs.length, .string ⟨#[32]⟩] w fun e w' => e = .returned (.string ⟨(Lib.join L [32]).toArray⟩) ∧ Below w.heap.size w w' := by
  by_cases hne : xs = []
  · subst hne
    rw [← hx]
    exact (Tryz.strings_Join_none _ _ _ w).mono fun e w' ⟨he, hw⟩ => ⟨he, hw ▸ Below.refl _ _⟩
  · obtain ⟨b, o, h1, h2⟩ := h.at_
    obtain ⟨e1, e2⟩ := h1 hne
    cases e1
    have hxl : xs.length = L.length := by rw [← hx, List.length_map]
    have hj := Tryz.strings_Join A 0 xs.length xs ⟨#[32]⟩ w (fun j x hj => by simpa using h2 j x hj) e2 (by omega) (Nat.le_refl _) (by rw [hx]; show (Lib.join L [32]).length ≤ _; omega)
    rw [hx] at hj
    exact hj
set_option maxHeartbeats 1600000 in
theorem normal1_c (s : ByteArray) (w : World) (hG : G w) (hs : s.size ≤ 100000) (hv : Tx.valid s.data.toList = true) :
    Calls Tryz.prog 37 #[.int .i64 1, .string s] w fun e w' => e = .returned (.string ⟨(Mt.norm 1 s.data.toList).toArray⟩) ∧ Below w.heap.size w w' := by
  obtain ⟨g1, g2, g3⟩ := Mt.words_good hv
  rw [← Lib.size_eq] at g1 g3
  have HN : Hid (Mt.norm 1 s.data.toList = Lib.join (Tx.words s.data.toList) [32]) := Lib.hid rfl
  have HW := Lib.hid (text_Words_c s w hG (by omega) hv)
  have HJ := Lib.hid (fun (xs : List ByteArray) A (w1 : World) h1 h2 => Join_sp xs (Tx.words s.data.toList) A w1 h1 h2 (by omega) (by omega))
  clear g1 g2 g3 hv
  go_enter Tryz.func37, Tryz.ntmps37
  go_wp2_with (first
    | (go_at_call 56; ((with_reducible refine HW.out.mono ?_); rintro e w2 ⟨A, xs, rfl, hx, hS, hA, hb2⟩; have HS := Lib.hid hS; have HX := Lib.hid hx; clear hS hx))
    | (go_at_call 55; ((with_reducible refine (HJ.out _ _ _ HS.out HX.out).mono ?_); rintro e w3 ⟨rfl, hb3⟩)))
  go_ret
  exact ⟨Tx.rets (by rw [HN.out]), Tx.step hb2 hb3⟩
set_option maxHeartbeats 1600000 in
theorem normal_c (n : Int) (s : ByteArray) (w : World) (hG : G w) (hs : s.size ≤ 100000) (hv : Tx.valid s.data.toList = true) (hn : 0 ≤ n ∧ n ≤ 4) :
    Calls Tryz.prog 37 #[.int .i64 n, .string s] w fun e w' => e = .returned (.string ⟨(Mt.norm n s.data.toList).toArray⟩) ∧ Below w.heap.size w w' := by
  rcases (by omega : n = 0 ∨ n = 1 ∨ n = 2 ∨ n = 3 ∨ n = 4) with rfl | rfl | rfl | rfl | rfl
  · have HN : Hid ((⟨(Mt.norm 0 s.data.toList).toArray⟩ : ByteArray) = s) := Lib.hid (Mt.mk_list s).symm
    go_enter Tryz.func37, Tryz.ntmps37
    go_wp2
    go_ret
    exact ⟨Tx.rets HN.out.symm, Below.refl _ _⟩
  · exact normal1_c s w hG hs hv
  · have HE := Mt.isbn_err (Mt.rem s.data.toList)
    obtain ⟨r, hr⟩ : ∃ r, Mt.isbnT (Mt.rem s.data.toList) = r := ⟨_, rfl⟩
    have IC := bc_Isbn_c s w hG (by omega)
    have HN : Hid (Mt.norm 2 s.data.toList = r.1) := Lib.hid (by rw [← hr]; rfl)
    rw [hr] at HE IC
    obtain ⟨R, hR⟩ : ∃ R : ByteArray, (⟨r.1.toArray⟩ : ByteArray) = R := ⟨_, rfl⟩
    rw [hR] at IC
    rcases HE with h0 | ⟨h0, h1⟩
    · rw [h0] at IC
      rw [HN.out, hR]
      clear hv hr HN
      go_enter Tryz.func37, Tryz.ntmps37
      go_wp2_with (go_at_call 57; ((with_reducible refine IC.mono ?_); rintro e w2 ⟨rfl, hb2⟩))
      go_ret
      exact ⟨rfl, hb2⟩
    · rw [HN.out, h0]
      have h2 : (r.2 != 0) = true := bne_iff_ne.2 h1
      clear hv hr HN
      go_enter Tryz.func37, Tryz.ntmps37
      go_wp2_with (go_at_call 57; ((with_reducible refine IC.mono ?_); rintro e w2 ⟨rfl, hb2⟩))
      go_ret
      exact ⟨rfl, hb2⟩
  · have hN1 := normal1_c s w hG hs hv
    obtain ⟨g1, g2, _⟩ := Mt.words_good hv
    rw [← Lib.size_eq] at g1
    obtain ⟨J, hJ⟩ : ∃ J : ByteArray, (⟨(Lib.join (Tx.words s.data.toList) [32]).toArray⟩ : ByteArray) = J := ⟨_, rfl⟩
    have hJl : J.data.toList = Lib.join (Tx.words s.data.toList) [32] := by rw [← hJ]
    have HN : Hid (Mt.norm 3 s.data.toList = Wr.clip 4 (Lib.join (Tx.words s.data.toList) [32])) := Lib.hid rfl
    have cl := fun w => text_Clip_c J 4 w (by rw [hJl]; exact g2) (by decide) (by decide)
    rw [show Mt.norm 1 s.data.toList = Lib.join (Tx.words s.data.toList) [32] from rfl, hJ] at hN1
    rw [HN.out, ← hJl]
    have HC := Lib.hid cl
    have HN1 := Lib.hid hN1
    clear hv hJ hJl HN g1 g2 cl hN1
    go_enter Tryz.func37, Tryz.ntmps37
    go_wp2_with (first
      | (go_at_call 37; ((with_reducible refine HN1.out.mono ?_); rintro e w2 ⟨rfl, hb2⟩))
      | (go_at_call 58; ((with_reducible refine (HC.out _).mono ?_); rintro e w3 ⟨rfl, hb3⟩)))
    go_ret
    exact ⟨rfl, Tx.step hb2 hb3⟩
  · have hy := match_year_c s w (by omega) hv
    have HN : Hid (Mt.norm 4 s.data.toList = Mt.year s.data.toList) := Lib.hid rfl
    rw [HN.out]
    clear hv HN
    go_enter Tryz.func37, Tryz.ntmps37
    go_wp2_with (go_at_call 59; ((with_reducible refine hy.mono ?_); rintro e w2 ⟨rfl, hb2⟩))
    go_ret
    exact ⟨rfl, hb2⟩
end Go.Proofs.YtogpghpgnpoioaaGreatDoor
