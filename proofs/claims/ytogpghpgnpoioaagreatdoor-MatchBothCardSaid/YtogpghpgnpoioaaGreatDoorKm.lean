/- The program's year of a text: what the call returns. -/
import Derived.Test.YtogpghpgnpoioaaGreatDoorKf
import Derived.Test.YtogpghpgnpoioaaGreatDoorKg
import Derived.Test.YtogpghpgnpoioaaGreatDoorKl
import Derived.Shelf.SlicesQ.IndexFunc
import Derived.Test.YtogpghpgnpoioaaGreatDoorKh
namespace Go.Proofs.YtogpghpgnpoioaaGreatDoor
open Go.RowKit
set_option maxRecDepth 100000

namespace Mt
/-- The place of the first element that fits, or -1. -/
def IdxRes (p : By → Bool) (xs : List ByteArray) (r : Int) : Prop :=
  (r = -1 ∧ ∀ x ∈ xs, p x.data.toList = false) ∨ ∃ (k : Nat) (x : ByteArray), r = k ∧ xs[k]? = some x ∧ p x.data.toList = true ∧ ∀ (j : Nat) (y : ByteArray), j < k → xs[j]? = some y → p y.data.toList = false
end Mt

set_option maxHeartbeats 800000 in
theorem idx_str (g : Nat) (lb : Array Value) (eg : ∀ args w, (callFunc g args).run Tryz.prog w = .ok (.enter g args) w) (p : Mt.By → Bool) (xs : List ByteArray) (a : Option Addr) (c : Nat) (w : World) (h : SLA w a c xs)
    (hp : ∀ x ∈ xs, ∀ w', Below w.heap.size w w' → Calls Tryz.prog g (#[.string x] ++ lb) w' fun e w'' => e = .returned (.bool (p x.data.toList)) ∧ Below w.heap.size w w'') :
    Calls Tryz.prog 90 #[.slice a xs.length c, .func (.func g) #[] lb] w fun e w' => ∃ r, e = .returned (.int .i64 r) ∧ Mt.IdxRes p xs r ∧ Below w.heap.size w w' := by
  have hml : maxLen = 9223372036854775807 := rfl
  have hcap := h.cap
  have hmax := h.max
  have HS := Lib.hid h
  clear h
  go_enter Tryz.func90, Tryz.ntmps90
  go_wp2
  go_loopg [5, 8] xs.length (fun gg _ s8 wr => ∃ k : Nat, k ≤ xs.length ∧ xs.length - k ≤ gg ∧ s8 = .int .i64 k ∧ Hid (Below w.heap.size w wr) ∧ Hid (∀ (j : Nat) (y : ByteArray), j < k → xs[j]? = some y → p y.data.toList = false))
  case atStart => exact ⟨0, Nat.zero_le _, by omega, rfl, Lib.hid (Below.refl _ _), Lib.hid (fun j y h => absurd h (Nat.not_lt_zero _))⟩
  case round =>
    obtain ⟨k, hk, hg, rfl, hb, hA⟩ := hrel
    by_cases hlt : k < xs.length
    · obtain ⟨x, hx⟩ : ∃ x, xs[k]? = some x := ⟨_, List.getElem?_eq_getElem hlt⟩
      obtain ⟨b, o, rfl, hbl, hc⟩ := (HS.out.below hb.out).get hx
      have hcall := Lib.hid (hp x (List.mem_of_getElem? hx) wr hb.out)
      have HX := Lib.hid hx
      clear hp hx
      cases hq : p x.data.toList with
      | true =>
        have HC := hcall.out
        rw [hq] at HC
        have HQ := Lib.hid hq
        clear hcall hq
        go_wp2_with (go_at_fn g; refine HC.mono ?_; rintro e w2 ⟨rfl, hb2⟩)
        go_ret
        exact ⟨_, rfl, .inr ⟨k, x, rfl, HX.out, HQ.out, hA.out⟩, hb2⟩
      | false =>
        have HC := hcall.out
        rw [hq] at HC
        have HQ := Lib.hid hq
        clear hcall hq
        go_wp2_with (go_at_fn g; refine HC.mono ?_; rintro e w2 ⟨rfl, hb2⟩)
        go_roundg (xs.length - (k + 1))
        case measure => omega
        case rel =>
          refine ⟨k + 1, by omega, by omega, by go_num, Lib.hid hb2, Lib.hid (fun j y hj hy => ?_)⟩
          rcases (by omega : j < k ∨ j = k) with h1 | h1
          · exact hA.out j y h1 hy
          · subst h1
            rw [HX.out] at hy
            injection hy with hy
            rw [← hy]; exact HQ.out
    · obtain rfl : k = xs.length := by omega
      clear hp
      go_wp2
      go_ret
      exact ⟨_, rfl, .inl ⟨rfl, fun x hx => by
        obtain ⟨j, hj, e⟩ := List.getElem_of_mem hx
        exact hA.out j x hj (by rw [← e]; exact List.getElem?_eq_getElem hj)⟩, hb.out⟩

set_option maxHeartbeats 800000 in
theorem match_sep_c (c : Nat) (w : World) :
    Calls Tryz.prog 89 #[.int .i32 c] w fun e w' => e = .returned (.bool (Mt.sepD c)) ∧ Below w.heap.size w w' := by
  obtain ⟨b, hb⟩ : ∃ b, Mt.sepD c = b := ⟨_, rfl⟩
  rw [hb]
  unfold Mt.sepD at hb
  rcases (show c < 48 ∨ (48 ≤ c ∧ c ≤ 57) ∨ (57 < c ∧ ¬ c < 48) by omega) with g | ⟨g1, g2⟩ | ⟨g1, g2⟩
  · have : b = true := by rw [← hb]; simp; omega
    subst this; clear hb
    go_enter Tryz.func89, Tryz.ntmps89
    go_wp2
    go_ret
    exact ⟨Tx.retb (by first | rfl | (simp; done) | (simp; omega)), Below.refl _ _⟩
  · have : b = false := by rw [← hb]; simp; omega
    subst this; clear hb
    go_enter Tryz.func89, Tryz.ntmps89
    go_wp2
    go_ret
    exact ⟨Tx.retb (by first | rfl | (simp; done) | (simp; omega)), Below.refl _ _⟩
  · have : b = true := by rw [← hb]; simp; omega
    subst this; clear hb
    go_enter Tryz.func89, Tryz.ntmps89
    go_wp2
    go_ret
    exact ⟨Tx.retb (by first | rfl | (simp; done) | (simp; omega)), Below.refl _ _⟩
theorem match_sep_enters : ∀ args w, (callFunc 89 args).run Tryz.prog w = .ok (.enter 89 args) w := enters_of Tryz.func89 (by kernel_rfl) rfl
theorem match_four_c (s : ByteArray) (w : World) :
    Calls Tryz.prog 91 #[.string s] w fun e w' => e = .returned (.bool (s.data.toList.length == 4)) ∧ Below w.heap.size w w' := by
  go_enter Tryz.func91, Tryz.ntmps91
  go_wp2
  go_ret
  exact ⟨Tx.retb (by rw [← Lib.size_eq, Bool.eq_iff_iff]; simp; try omega), Below.refl _ _⟩
theorem match_four_enters : ∀ args w, (callFunc 91 args).run Tryz.prog w = .ok (.enter 91 args) w := enters_of Tryz.func91 (by kernel_rfl) rfl
namespace Mt
theorem idx_find {p : By → Bool} : ∀ {xs : List ByteArray} {k : Nat} {x : ByteArray}, xs[k]? = some x → p x.data.toList = true → (∀ (j : Nat) (y : ByteArray), j < k → xs[j]? = some y → p y.data.toList = false) → (xs.map (·.data.toList)).find? p = some x.data.toList
  | [], k, x, h, _, _ => by cases h
  | y :: r, 0, x, h, hp, _ => by
    simp at h; subst h
    rw [List.map_cons, List.find?_cons_of_pos (h := hp)]
  | y :: r, k + 1, x, h, hp, hn => by
    have h0 := hn 0 y (by omega) rfl
    rw [List.map_cons, List.find?_cons_of_neg (h := by simp [h0])]
    exact idx_find (k := k) (by simpa using h) hp (fun j z hj hz => hn (j + 1) z (by omega) (by simpa using hz))
theorem idx_none {p : By → Bool} {xs : List ByteArray} (h : ∀ x ∈ xs, p x.data.toList = false) : (xs.map (·.data.toList)).find? p = none := by
  rw [List.find?_eq_none]
  intro y hy
  obtain ⟨x, hx, rfl⟩ := List.mem_map.1 hy
  rw [h x hx]; simp
theorem idx_ex (p : By → Bool) : ∀ xs : List ByteArray, ∃ r, IdxRes p xs r
  | [] => ⟨-1, .inl ⟨rfl, fun x h => by cases h⟩⟩
  | x :: r => by
    cases hx : p x.data.toList with
    | true => exact ⟨0, .inr ⟨0, x, rfl, rfl, hx, fun j y h => absurd h (Nat.not_lt_zero _)⟩⟩
    | false =>
      obtain ⟨q, h⟩ := idx_ex p r
      rcases h with ⟨rfl, h⟩ | ⟨k, z, rfl, h1, h2, h3⟩
      · refine ⟨-1, .inl ⟨rfl, fun y hy => ?_⟩⟩
        rcases List.mem_cons.1 hy with rfl | hy
        · exact hx
        · exact h y hy
      · refine ⟨(k : Int) + 1, .inr ⟨k + 1, z, by omega, by simpa using h1, h2, fun j y hj hy => ?_⟩⟩
        cases j with
        | zero => simp at hy; rw [← hy]; exact hx
        | succ j => exact h3 j y (by omega) (by simpa using hy)
theorem idx_uniq {p : By → Bool} {xs : List ByteArray} {r q : Int} (h1 : IdxRes p xs r) (h2 : IdxRes p xs q) : r = q := by
  rcases h1 with ⟨rfl, a1⟩ | ⟨k, x, rfl, b1, b2, b3⟩
  · rcases h2 with ⟨rfl, _⟩ | ⟨k, x, rfl, b1, b2, _⟩
    · rfl
    · rw [a1 x (List.mem_of_getElem? b1)] at b2; cases b2
  · rcases h2 with ⟨rfl, a1⟩ | ⟨m, y, rfl, c1, c2, c3⟩
    · rw [a1 x (List.mem_of_getElem? b1)] at b2; cases b2
    · rcases (by omega : k < m ∨ k = m ∨ m < k) with h | h | h
      · rw [c3 k x h b1] at b2; cases b2
      · rw [h]
      · rw [b3 m y h c1] at c2; cases c2
end Mt

set_option maxHeartbeats 1600000 in
theorem match_year_c (s : ByteArray) (w : World) (hs : s.size ≤ 1000000000) (hv : Tx.valid s.data.toList = true) :
    Calls Tryz.prog 59 #[.string s] w fun e w' => e = .returned (.string ⟨(Mt.year s.data.toList).toArray⟩) ∧ Below w.heap.size w w' := by
  have hY := Mt.year_fields hv
  have hE := Tx.fieldsT_eq Mt.sepD s hv
  have hn := Tx.fields_len Mt.sepD s
  have hp : ∀ w, PredGrows Tryz.prog 89 #[] Mt.sepD w := fun w W x _ _ => match_sep_c x W
  have HF := Lib.hid (Tryz.strings_FieldsFunc_grows 89 #[] match_sep_enters Mt.sepD s w (by omega) (hp w))
  rw [← hE] at hY
  clear hp hE hv
  generalize Lib.goFieldsP Mt.sepD s = xs at *
  obtain ⟨r, hr⟩ := Mt.idx_ex (fun x => x.length == 4) xs
  have IC : Hid (∀ (a : Option Addr) (c : Nat) (w1 : World), SLA w1 a c xs → Calls Tryz.prog 90 #[.slice a xs.length c, .func (.func 91) #[] #[]] w1 fun e w' => e = .returned (.int .i64 r) ∧ Below w1.heap.size w1 w') := Lib.hid fun a c w1 h => by
    refine (idx_str 91 #[] match_four_enters (fun x => x.length == 4) xs a c w1 h (fun x _ w' hb' => ?_)).mono ?_
    · exact (match_four_c x w').mono fun e w2 ⟨he, hb2⟩ => ⟨he, Tx.step hb' hb2⟩
    · rintro e w' ⟨q, rfl, hq, hb⟩
      exact ⟨by rw [Mt.idx_uniq hq hr], hb⟩
  rcases hr with ⟨rfl, hr⟩ | ⟨k, x, rfl, hx, hx4, hxn⟩
  · have HY : Hid (Mt.year s.data.toList = []) := Lib.hid (by rw [← hY, Mt.idx_none hr]; rfl)
    clear hY hr
    go_enter Tryz.func59, Tryz.ntmps59
    go_wp2_with (first
      | (go_at_call 80; ((refine HF.out.mono ?_); rintro e w2 ⟨A, rfl, hA, hown, hb2⟩; obtain ⟨a, c, h1, hS⟩ := SLA.of_own hown rfl; cases h1; have HS := Lib.hid hS; clear hS hown))
      | (go_at_call 90; ((refine (IC.out _ _ _ HS.out).mono ?_); rintro e w3 ⟨rfl, hb3⟩; have HS3 := Lib.hid (HS.out.below hb3))))
    go_ret
    exact ⟨by rw [HY.out]; rfl, Tx.step hb2 hb3⟩
  · have HY : Hid (Mt.year s.data.toList = x.data.toList) := Lib.hid (by rw [← hY, Mt.idx_find hx hx4 hxn]; rfl)
    have hkl := (List.getElem?_eq_some_iff.1 hx).1
    have HX := Lib.hid hx
    clear hY hx hx4 hxn
    go_enter Tryz.func59, Tryz.ntmps59
    go_wp2_with (first
      | (go_at_call 80; ((refine HF.out.mono ?_); rintro e w2 ⟨A, rfl, hA, hown, hb2⟩; obtain ⟨a, c, h1, hS⟩ := SLA.of_own hown rfl; cases h1; have HS := Lib.hid hS; clear hS hown))
      | (go_at_call 90; ((refine (IC.out _ _ _ HS.out).mono ?_); rintro e w3 ⟨rfl, hb3⟩; obtain ⟨b9, o9, h9, hl9, c9⟩ := (HS.out.below hb3).get HX.out; cases h9; rw [Nat.zero_add] at c9)))
    go_ret
    exact ⟨Tx.rets (by rw [HY.out]), Tx.step hb2 hb3⟩
end Go.Proofs.YtogpghpgnpoioaaGreatDoor

/- The program's tests and sums of book numbers: what the calls return. -/
namespace Go.Proofs.YtogpghpgnpoioaaGreatDoor
open Go.RowKit
set_option maxRecDepth 100000

set_option maxHeartbeats 800000 in
theorem bc_digits_c (s : ByteArray) (w : World) (hs : s.size ≤ 1000000000) :
    Calls Tryz.prog 88 #[.string s] w fun e w' => e = .returned (.bool (Mt.digits s.data.toList)) ∧ w = w' := by
  go_enter Tryz.func88, Tryz.ntmps88
  go_wp2
  go_loop [3] (fun i => ∃ k : Nat, k ≤ s.size ∧ i = .int .i64 k ∧ Hid ((s.data.toList.take k).all Mt.dig = true)) (fun i => s.size - (intOf i).toNat)
  case atStart => exact ⟨0, Nat.zero_le _, rfl, Lib.hid rfl⟩
  case round =>
    obtain ⟨k, hk, rfl, hA⟩ := hrel
    by_cases hlt : k < s.size
    · obtain ⟨c, hc⟩ : ∃ c, s[k]'hlt = c := ⟨_, rfl⟩
      have hat := Mt.at_get hlt
      rw [hc] at hat
      have hst : (s.data.toList.take (k + 1)).all Mt.dig = Mt.dig c := by rw [Mt.take_at hlt, Mt.all_app, hA.out, hc, Bool.true_and]
      have hcc : ∀ h, s[k]'h = c := fun _ => hc
      clear hc
      cases hd : Mt.dig c with
      | true =>
        obtain ⟨d1, d2⟩ := Mt.dig_iff.1 hd
        rw [hd] at hst
        have HS := Lib.hid hst
        have g1 : ¬ (c.toNat : Int) < 48 := by omega
        have g2 : ¬ (c.toNat : Int) > 57 := by omega
        clear hst hd hat hA
        go_wp2
        go_round
        case rel => exact ⟨k + 1, hlt, by go_num, HS⟩
        case measure => simp [intOf]; omega
      | false =>
        have HQ := Lib.hid (Mt.all_bad hat hd)
        have hn := Mt.dig_not.1 hd
        clear hst hd hat hA
        by_cases d1 : c.toNat < 48
        · have g1 : (c.toNat : Int) < 48 := by omega
          go_wp2
          go_ret
          exact ⟨Tx.retb (by rw [HQ.out]), rfl⟩
        · have g1 : ¬ (c.toNat : Int) < 48 := by omega
          have g2 : (c.toNat : Int) > 57 := by omega
          go_wp2
          go_ret
          exact ⟨Tx.retb (by rw [HQ.out]), rfl⟩
    · obtain rfl : k = s.size := by omega
      have HQ : Hid (Mt.digits s.data.toList = true) := Lib.hid (by have := hA.out; rw [Mt.take_end] at this; exact this)
      go_wp2
      go_ret
      exact ⟨Tx.retb (by rw [HQ.out]), rfl⟩

set_option maxHeartbeats 800000 in
theorem bc_alternating_c (s : ByteArray) (w : World) (hs : s.size ≤ 20) (hd : Mt.digits s.data.toList = true) :
    Calls Tryz.prog 87 #[.string s] w fun e w' => e = .returned (.int .i64 (Mt.aS s.data.toList s.size)) ∧ w = w' := by
  have HD := Lib.hid hd; clear hd
  have HE := Lib.hid (Lib.size_eq s)
  go_enter Tryz.func87, Tryz.ntmps87
  go_wp2
  go_loop [3, 4] (fun v i => ∃ (k : Nat) (n : Int), k ≤ s.size ∧ i = .int .i64 k ∧ v = .int .i64 n ∧ Hid (n = Mt.aS s.data.toList k)) (fun _ i => s.size - (intOf i).toNat)
  case atStart => exact ⟨0, 0, Nat.zero_le _, rfl, rfl, Lib.hid rfl⟩
  case round =>
    obtain ⟨k, n, hk, rfl, rfl, hn⟩ := hrel
    obtain ⟨b1, b2⟩ := Mt.aS_in HD.out k (by have := HE.out; omega)
    rw [← hn.out] at b1 b2
    by_cases hlt : k < s.size
    · obtain ⟨c, hc⟩ : ∃ c, s[k]'hlt = c := ⟨_, rfl⟩
      have hat := Mt.at_get hlt
      obtain ⟨d1, d2⟩ := Mt.dig_iff.1 (Mt.all_at HD.out hat)
      rw [hc] at d1 d2
      have hst : Mt.aS s.data.toList (k + 1) = n + (if k % 2 = 1 then 3 * ((c.toNat : Int) - 48) else (c.toNat : Int) - 48) := by rw [Mt.aS, ← hn.out, Mt.getD_at hlt, hc]
      have hcc : ∀ h, s[k]'h = c := fun _ => hc
      clear hc hat
      by_cases hp : k % 2 = 1
      · rw [if_pos hp] at hst
        have HS := Lib.hid hst
        have hp2 : (k : Int) % 2 = 1 := by omega
        have hp3 : (k : Int).tmod 2 = 1 := by rw [Int.tmod_eq_emod_of_nonneg (by omega)]; omega
        clear hst
        go_wp2
        go_round
        case rel => exact ⟨k + 1, _, hlt, by go_num, rfl, Lib.hid (by rw [HS.out]; try omega)⟩
        case measure => simp [intOf]; omega
      · rw [if_neg hp] at hst
        have HS := Lib.hid hst
        have hp2 : (k : Int) % 2 = 0 := by omega
        have hp3 : (k : Int).tmod 2 = 0 := by rw [Int.tmod_eq_emod_of_nonneg (by omega)]; omega
        clear hst
        go_wp2
        go_round
        case rel => exact ⟨k + 1, _, hlt, by go_num, rfl, Lib.hid (by rw [HS.out]; try omega)⟩
        case measure => simp [intOf]; omega
    · obtain rfl : k = s.size := by omega
      have e9 := hn.out
      subst e9
      go_wp2
      go_ret
      exact ⟨rfl, rfl⟩

end Go.Proofs.YtogpghpgnpoioaaGreatDoor
