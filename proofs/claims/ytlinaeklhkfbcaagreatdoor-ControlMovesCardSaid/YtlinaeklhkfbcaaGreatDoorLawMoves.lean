/- Layer 14: the law ControlMoves: what its call returns. -/
import Derived.Test.YtlinaeklhkfbcaaGreatDoorLvM
import Derived.Test.YtlinaeklhkfbcaaGreatDoorLoM
import Derived.Test.YtlinaeklhkfbcaaGreatDoorSaM
namespace Go.Proofs.YtlinaeklhkfbcaaGreatDoor
open Go.RowKit
set_option maxRecDepth 100000

namespace Ct
theorem put_len1 : ∀ (l : List Int) (n : Int), (Cp.put Cp.ltI l n).length ≤ l.length + 1
  | [], n => by simp [Cp.put]
  | x :: r, n => by
    have ih := put_len1 r n
    unfold Cp.put
    repeat' split
    all_goals simp
    all_goals omega
theorem uses_len (l : List Rc.Rd) (id : Int) : (uses l id).length ≤ l.length := by
  unfold uses
  split
  · simp
  · refine Nat.le_trans (Ct.puts_len _) ?_
    rw [List.length_map]
    exact List.length_filter_le _ _
theorem foldl_take {α β : Type} (g : β → α → β) (b : β) {l : List α} {k : Nat} {x : α} (h : l[k]? = some x) : (l.take (k + 1)).foldl g b = g ((l.take k).foldl g b) x := by
  rw [List.take_add_one, h, List.foldl_append]
  rfl
end Ct
set_option maxHeartbeats 3200000 in
theorem moves_law (rs : List Rc.Rd) (a : Option Addr) (c : Nat) (x y : Int) (w : World) (hG : G w) (hS : Ct.StdW w) (h : Rc.RdA w a c rs) (hx0 : 0 ≤ x) (hx1 : x ≤ 255) (hy0 : 0 ≤ y) (hy1 : y ≤ 255) :
    Calls Tryz.prog 6 #[.slice a rs.length c, .int .u8 x, .int .u8 y] w fun e w' => e = .returned (.bool true) ∧ Below w.heap.size w w' := by
  cases hs : Rc.smallRs rs 20 with
  | false =>
    have HS := Lib.hid hs; clear hs
    go_enter Tryz.func6, Tryz.ntmps6
    go_wp2_with (first
      | (go_at_call 13; refine (SmallRecords_c rs a c 20 _ h).mono ?_; rintro e w1 ⟨rfl, hb1⟩; rw [HS.out])
      | (go_at_call 9; refine (alive_c _ (hG.below hb1) (hS.below hb1)).mono ?_; rintro e w2 ⟨rfl, hb2⟩))
    go_ret
    exact ⟨rfl, Tx.step hb1 hb2⟩
  | true =>
    by_cases hd : x = 0 ∨ y = 0 ∨ x = y
    · have HS := Lib.hid hs; clear hs
      rcases (show ((x == 0) = true) ∨ ((x == 0) = false ∧ (y == 0) = true) ∨ ((x == 0) = false ∧ (y == 0) = false ∧ (x == y) = true) by
        by_cases h1 : x = 0
        · exact .inl (by simp [h1])
        · by_cases h2 : y = 0
          · exact .inr (.inl ⟨by simp [h1], by simp [h2]⟩)
          · have h3 : x = y := by omega
            exact .inr (.inr ⟨by simp [h1], by simp [h2], by simp [h3]⟩)) with e1 | ⟨e1, e2⟩ | ⟨e1, e2, e3⟩
      all_goals
        clear hd
        go_enter Tryz.func6, Tryz.ntmps6
        go_wp2_with (first
          | (go_at_call 13; refine (SmallRecords_c rs a c 20 _ h).mono ?_; rintro e w1 ⟨rfl, hb1⟩; rw [HS.out])
          | (go_at_call 9; refine (alive_c _ (hG.below hb1) (hS.below hb1)).mono ?_; rintro e w2 ⟨rfl, hb2⟩))
        go_ret
        exact ⟨rfl, Tx.step hb1 hb2⟩
    · have hx2 : x ≠ 0 := fun h9 => hd (.inl h9)
      have hy2 : y ≠ 0 := fun h9 => hd (.inr (.inl h9))
      have hxy : x ≠ y := fun h9 => hd (.inr (.inr h9))
      have e1 : (x == 0) = false := by simpa using hx2
      have e2 : (y == 0) = false := by simpa using hy2
      have e3 : (x == y) = false := by simpa using hxy
      obtain ⟨h1, h2⟩ := Rc.smallRs_of hs
      have hrl : rs.length ≤ 20 := by omega
      have HN : Hid (rs.length ≤ 1000) := Lib.hid (by omega)
      have HF : Hid (∀ r ∈ rs, r.fields.length ≤ 1000) := Lib.hid (fun r hr => Nat.le_trans (Rc.smallR_of (h2 r hr)).1 (by omega))
      have HS := Lib.hid hs; clear hs h1 h2
      have ht1 := Ct.turn_from (show ¬ x < 1 by omega) hxy rs
      have ht2 := Ct.turn_to (show ¬ x < 1 by omega) (show ¬ y < 1 by omega) rs
      have ht3 := Ct.turn_len x y rs
      have hul := Ct.uses_len rs y
      have hvl := Ct.uses_len rs x
      obtain ⟨TR, hTR⟩ : ∃ TR, Ct.turn x y rs = TR := ⟨_, rfl⟩
      obtain ⟨UX, hUX⟩ : ∃ UX, Ct.uses rs x = UX := ⟨_, rfl⟩
      obtain ⟨UY, hUY⟩ : ∃ UY, Ct.uses rs y = UY := ⟨_, rfl⟩
      obtain ⟨UT, hUT⟩ : ∃ UT, Ct.uses TR y = UT := ⟨_, rfl⟩
      rw [hTR] at ht1 ht2 ht3
      rw [hUX, hUY, hUT] at ht2
      rw [hUY] at hul
      rw [hUX] at hvl
      have hvl20 : UX.length ≤ 20 := by omega
      have hul20 : UY.length ≤ 20 := by omega
      have htr20 : TR.length ≤ 1000000 := by omega
      have htl : ((TR.length : Int) == (rs.length : Int)) = true := by simp [ht3]
      have HT := Lib.hid hTR; have HX := Lib.hid hUX; have HY := Lib.hid hUY; have HU := Lib.hid hUT; have H1 := Lib.hid ht1; have H2 := Lib.hid ht2
      clear hTR hUX hUY hUT ht1 ht2 ht3 hul hvl hd hx2 hy2 hxy
      have hrl2 : rs.length ≤ 1000000 := by omega
      have t1 : True := trivial
      have t2 : True := trivial
      have t3 : True := trivial
      go_enter Tryz.func6, Tryz.ntmps6
      go_wp2_with (first
        | (go_at_call 13; refine (SmallRecords_c rs a c 20 _ h).mono ?_; rintro e w1 ⟨rfl, hb1⟩; rw [HS.out])
        | (go_at_call 15; refine (control_Turn_c rs a c x y _ (h.below hb1) HN.out HF.out).mono ?_; rintro e w2 ⟨va, vc, rfl, hA2, hb2⟩; rw [HT.out] at hA2 ⊢; have hb12 := Tx.step hb1 hb2)
        | (go_at_call 21; have _t := t1; clear t1 _t; refine (control_Uses_c rs a c y _ (h.below hb12) hrl2).mono ?_; rw [HY.out]; rintro e w3 ⟨v3, rfl, hown3, hb3⟩; obtain ⟨ua, uc, rfl, hI3⟩ := Ct.IA.of_own hown3 rfl; clear hown3; have hb13 := Tx.step hb12 hb3)
        | (go_at_call 21; have _t := t2; clear t2 _t; refine (control_Uses_c rs a c x _ (h.below hb13) hrl2).mono ?_; rw [HX.out]; rintro e w4 ⟨v4, rfl, hown4, hb4⟩; obtain ⟨ub, ud, rfl, hI4⟩ := Ct.IA.of_own hown4 rfl; clear hown4; have hb14 := Tx.step hb13 hb4))
      have hI34 := hI3.below hb4
      have hA4 := (hA2.below hb3).below hb4
      have hcap4 := hI4.cap
      have hmax4 := hI4.max
      have hml : maxLen = 9223372036854775807 := rfl
      go_loopw [10, 45] (fun v i wr => ∃ (k : Nat) (XS : List Int) (xa : Option Addr) (xc : Nat), k ≤ UX.length ∧ i = .int .i64 k ∧ v = .slice xa XS.length xc ∧ Ct.IA wr xa xc XS ∧ Hid (XS = (UX.take k).foldl (Cp.put Cp.ltI) UY) ∧ XS.length ≤ 20 + k ∧ Below w4.heap.size w4 wr) (fun _ i _ => UX.length - (intOf i).toNat)
      case atStart => exact ⟨0, UY, ua, uc, Nat.zero_le _, rfl, rfl, hI34, Lib.hid rfl, by omega, Below.refl _ _⟩
      case round =>
        obtain ⟨k, XS, xa, xc, hk, rfl, rfl, hIX, hXS, hXl, hb⟩ := hrel
        by_cases hlt : k < UX.length
        · obtain ⟨z, hz⟩ : ∃ z, UX[k]? = some z := ⟨_, List.getElem?_eq_getElem hlt⟩
          obtain ⟨b, o, rfl, hbl, d0⟩ := hI4.cell hz
          replace d0 := cell_later hb d0
          have hft := Ct.foldl_take (Cp.put Cp.ltI) UY hz
          rw [← hXS.out] at hft
          have hpl := Ct.put_len1 XS z
          obtain ⟨ZS, hZS⟩ : ∃ ZS, Cp.put Cp.ltI XS z = ZS := ⟨_, rfl⟩
          rw [hZS] at hft hpl
          have HZ := Lib.hid hZS; have HF2 := Lib.hid hft
          clear hZS hft hz
          go_wp2_with (go_at_call 23; refine (r14_Inserted_c XS xa xc z _ hIX (by omega)).mono ?_; rw [HZ.out]; rintro e w5 ⟨v5, rfl, hown5, hb5⟩; obtain ⟨ya, yc, rfl, hI5⟩ := Ct.IA.of_own hown5 rfl; clear hown5)
          go_roundw
          case rel => exact ⟨k + 1, ZS, ya, yc, by omega, by go_num, rfl, hI5, Lib.hid HF2.out.symm, by omega, Tx.step hb hb5⟩
          case measure => simp [intOf]; omega
        · obtain rfl : k = UX.length := by omega
          have hXS2 := hXS.out
          rw [List.take_length, H2.out] at hXS2
          have h9 : UT = XS := hXS2.symm
          subst h9
          have hAr := hA4.below hb
          have hbr := Tx.step hb14 hb
          clear hXS hXS2
          go_wp2_with (first
            | (go_at_call 21; have _t := t3; clear t3 _t; refine (control_Uses_c TR va vc x _ hAr htr20).mono ?_; rw [H1.out]; rintro e w6 ⟨v6, rfl, hown6, hb6⟩; obtain ⟨pa, pc, rfl, hI6⟩ := Ct.IA.of_own hown6 rfl; clear hown6 hI6; have hbr6 := Tx.step hbr hb6)
            | (go_at_call 21; refine (control_Uses_c TR va vc y _ (hAr.below hb6) htr20).mono ?_; rw [HU.out]; rintro e w7 ⟨v7, rfl, hown7, hb7⟩; obtain ⟨qa, qc, rfl, hI7⟩ := Ct.IA.of_own hown7 rfl; clear hown7; have hbr7 := Tx.step hbr6 hb7)
            | (go_at_call 18; refine (same_c UT UT qa xa qc xc _ hI7 ((hIX.below hb6).below hb7)).mono ?_; rintro e w8 ⟨rfl, hb8⟩; rw [decide_eq_true (rfl : UT = UT)]; have hbr8 := Tx.step hbr7 hb8)
            | (go_at_call 9; refine (alive_c _ (hG.below hbr8) (hS.below hbr8)).mono ?_; rintro e w9 ⟨rfl, hb9⟩))
          go_ret
          exact ⟨Tx.retb (by simp), Tx.step hbr8 hb9⟩
end Go.Proofs.YtlinaeklhkfbcaaGreatDoor
