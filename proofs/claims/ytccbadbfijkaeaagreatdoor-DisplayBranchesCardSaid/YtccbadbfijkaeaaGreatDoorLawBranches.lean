/- Layer 25: the law DisplayBranches: what its call returns. -/
import Derived.Test.YtccbadbfijkaeaaGreatDoorBrC
import Derived.Test.YtccbadbfijkaeaaGreatDoorAlD
namespace Go.Proofs.YtccbadbfijkaeaaGreatDoor
open Go.RowKit
set_option maxRecDepth 100000

theorem info_item : (Tryz.prog.info? 46).map (fun i => (i.zero, i.size, i.bytes)) = some (some (.agg #[.int .i64 0, .int .i64 0, .int .i64 0, .int .i64 0, .int .i64 0, .string ⟨#[]⟩, .int .i64 0, .int .i64 0, .int .i64 0, .int .i64 0]), 10, 88) := by kernel_rfl
namespace Br
open Cp
theorem it_new (w : World) (g : Nat) (hg : g = w.heap.size) (x : It) (t : TypeId) : ∀ j u, (encIt x)[j]? = some u → (w.alloc (.cells #[.int .i64 x.id, .int .i64 x.rec_, .int .i64 x.branch, .int .i64 x.kind, .int .i64 x.price, .string x.call, .int .i64 x.state, .int .i64 x.cb, .int .i64 x.who, .int .i64 x.to_] t)).cell? ((⟨g, 0, none⟩ : Addr).add j) = some u :=
  cells_new_at w g hg _ t
theorem it_one (x : It) : ∀ u ∈ encIt x, u.oneCell' = true := by simp [encIt, Value.oneCell']
theorem flat_blocks (l : List It) : ∀ bs : List Int, (bs.flatMap (block l)).length ≤ bs.length * (l.length + 1)
  | [] => by simp
  | b :: r => by
    have h1 := block_le l b
    have h3 := flat_blocks l r
    rw [List.flatMap_cons, List.length_append, List.length_cons, Nat.succ_mul]
    omega
theorem copies_len (items : List It) (id : Int) : (copies items id).length ≤ items.length * (items.length + 1) := by
  unfold copies
  have h2 : (live id items).length ≤ items.length := List.length_filter_le _ _
  refine Nat.le_trans (flat_blocks _ _) (Nat.mul_le_mul ?_ (by omega))
  refine Nat.le_trans (Cs.puts_len _ _) ?_
  rw [List.length_map]
  exact h2
theorem copies_60 {items : List It} (id : Int) (h : items.length ≤ 60) : (copies items id).length ≤ 3660 := by
  have := copies_len items id
  have h2 : items.length * (items.length + 1) ≤ 60 * 61 := Nat.mul_le_mul h (by omega)
  omega
theorem drop_rev {items : List It} {m : Nat} {x : It} (h : items[m]? = some x) : (items.drop m).reverse = (items.drop (m + 1)).reverse ++ [x] := by
  obtain ⟨hm, rfl⟩ := List.getElem?_eq_some_iff.1 h
  rw [List.drop_eq_getElem_cons hm, List.reverse_cons]
theorem ofB_take {items : List It} {p : Nat} {x : It} (y : Int) (h : items[p]? = some x) : ofB y (items.take (p + 1)) = ofB y (items.take p) ++ (if x.branch = y then [x] else []) := by
  unfold ofB
  rw [List.take_add_one, h, List.filter_append]
  congr 1
  by_cases h1 : x.branch = y <;> simp [h1]
theorem ofB_len (y : Int) (l : List It) : (ofB y l).length ≤ l.length := List.length_filter_le _ _
/-- The lines of a branch's own items. -/
abbrev part (items : List It) (id b : Int) : List ByteArray := (copies (ofB b items) id).map Ds.mk
theorem parts_all (items : List It) (id : Int) : ((puts ltI (items.map (·.branch))).flatMap (part items id)) = (copies items id).map Ds.mk := by
  rw [← copies_each items id, List.map_flatMap]
end Br

set_option maxHeartbeats 8000000 in
theorem branches_law (items : List Cp.It) (a : Option Addr) (c : Nat) (id : Int) (w : World) (hG : G w) (h : Cp.ItA w a c items) (hwf : ∀ x ∈ items, -9223372036854775808 ≤ x.branch ∧ x.branch ≤ 9223372036854775807) :
    Calls Tryz.prog 9 #[.slice a items.length c, .int .i64 id] w fun e w' => e = .returned (.bool true) ∧ Below w.heap.size w w' := by
  cases hs : Cs.small items with
  | false =>
    have HS := Lib.hid hs; clear hs
    go_enter Tryz.func9, Tryz.ntmps9
    go_wp2_with (first
      | (go_at_call 10; refine (alive_c _ hG).mono ?_; rintro e w1 ⟨rfl, hb1⟩)
      | (go_at_call 19; refine (small_c items a c _ (h.below hb1)).mono ?_; rintro e w2 ⟨rfl, hb2⟩; rw [HS.out]))
    go_ret
    exact ⟨Tx.retb (by simp), Tx.step hb1 hb2⟩
  | true =>
    obtain ⟨iI, hiI, hzI0, hzI1, hzI2⟩ := info_parts info_item
    obtain ⟨i0, hi0, hz0, hz1, hz2⟩ := info_parts info_str
    have hs2 : items.length ≤ 60 ∧ ∀ x ∈ items, x.call.size ≤ 1000 := of_decide_eq_true hs
    have hl := hs2.1
    have hcap := h.cap
    have hmx : maxLen = 9223372036854775807 := rfl
    have hmax := h.max
    have HCT : Hid (∀ x ∈ items, x.call.size ≤ 100000) := Lib.hid fun x hx => Nat.le_trans (hs2.2 x hx) (by omega)
    have HWF := Lib.hid hwf; clear hwf hs2
    have HS := Lib.hid hs; clear hs
    obtain ⟨XS, hXS⟩ : ∃ XS, (Cp.copies items id).map Ds.mk = XS := ⟨_, rfl⟩
    have HX := Lib.hid hXS; clear hXS
    go_enter Tryz.func9, Tryz.ntmps9
    go_wp2_with (first
      | (go_at_call 10; refine (alive_c _ hG).mono ?_; rintro e w1 ⟨rfl, hb1⟩)
      | (go_at_call 19; refine (small_c items a c _ (h.below hb1)).mono ?_; rintro e w2 ⟨rfl, hb2⟩; rw [HS.out]; have hb12 := Tx.step hb1 hb2)
      | (go_at_call 20; refine (Copies_c items a c id _ (hG.below hb12) (h.below hb12) (by omega) HWF.out HCT.out).mono ?_; rintro e w3 ⟨va, vc, rfl, hsl, hb3⟩; rw [HX.out] at hsl ⊢; have hb13 := Tx.step hb12 hb3))
    have h3 := h.below hb13
    have HSL := Lib.hid hsl; clear hsl
    have hG3 := hG.below hb13
    clear hb12 hb1 hb2 hb3
    go_loopw [6, 7] (fun v i wr => ∃ (k : Nat) (j : Int) (T : List Cp.It), j + 1 ≤ (k : Int) ∧ (k : Int) ≤ j + 1 ∧ k ≤ items.length ∧ i = .int .i64 j ∧ Hid (T = (items.drop k).reverse) ∧ T.length + k ≤ items.length ∧ wr.ownsRow w3.heap.size 46 10 v T.length (T.flatMap Br.encIt) ∧ Below w3.heap.size w3 wr) (fun _ i _ => (intOf i + 1).toNat)
    case atStart => exact ⟨items.length, (items.length : Int) - 1, [], by omega, by omega, Nat.le_refl _, rfl, Lib.hid (by simp), by simp, World.ownsRow_lit (base := w3.heap.size) (e := 46) (size := 10) w3 #[] 0 (by simp) (by unfold maxLen; omega) rfl, Tx.newb _ _⟩
    case round =>
      obtain ⟨k, j, T, hj1, hj2, hk, rfl, hT, hTk, hown, hb⟩ := hrel
      have hbs := hb.size
      cases k with
      | succ m =>
        obtain rfl : j = (m : Int) := by omega
        clear hj1 hj2
        obtain ⟨x, hx⟩ : ∃ x, items[m]? = some x := ⟨_, List.getElem?_eq_getElem (by omega)⟩
        have hT2 : T ++ [x] = (items.drop m).reverse := by rw [Br.drop_rev hx, hT.out]
        obtain ⟨b, o, rfl, hbl, c0, c1, c2, c3, c4, c5, c6, c7, c8, c9⟩ := h3.get hx
        replace c0 := cell_later hb c0
        replace c1 := cell_later hb c1
        replace c2 := cell_later hb c2
        replace c3 := cell_later hb c3
        replace c4 := cell_later hb c4
        replace c5 := cell_later hb c5
        replace c6 := cell_later hb c6
        replace c7 := cell_later hb c7
        replace c8 := cell_later hb c8
        replace c9 := cell_later hb c9
        have HT2 := Lib.hid hT2; clear hT2 hx hT
        have hmi : (m : Int) < (items.length : Int) := by omega
        go_wp2_with (at_builtin; go_must (refine wpList_append_own _ rfl _ _ 31 rfl w3.heap.size 46 iI _ 10 88 Tryz.underlying31 hiI hzI0 hzI1 hzI2 rfl (by decide) _ T.length _ rfl (hown.alloc _) ⟨_, 0, none⟩ 1 1 (Br.encIt x) rfl rfl (Br.it_new _ _ (by first | rfl | simp) x _) (Br.it_one x) (by unfold maxLen; omega) (by omega) (by simp; omega) ?_); intro v' w5 hown5 hg5 hnil5)
        have hb5 : Below w3.heap.size w3 w5 := (hb.alloc hbs _).grown hg5 (by simp; omega) (fun j hj => (hown.lt j hj).1)
        go_roundw
        case rel => exact ⟨m, (m : Int) - 1, T ++ [x], by omega, by omega, by omega, by go_num, HT2, by simp; omega, by simpa using hown5, hb5⟩
        case measure => simp [intOf]
      | zero =>
        obtain rfl : j = -1 := by omega
        clear hj1 hj2 hk
        obtain ⟨ta, tc, rfl, hIT⟩ := Br.ItA.of_own hown rfl
        have hTi : T = items.reverse := by rw [hT.out, List.drop_zero]
        have hTl : T.length ≤ 60 := by rw [hTi, List.length_reverse]; exact hl
        have HWFT : Hid (∀ x ∈ T, -9223372036854775808 ≤ x.branch ∧ x.branch ≤ 9223372036854775807) := Lib.hid fun x hx => HWF.out x (by rw [hTi] at hx; exact List.mem_reverse.1 hx)
        have HCTT : Hid (∀ x ∈ T, x.call.size ≤ 100000) := Lib.hid fun x hx => HCT.out x (by rw [hTi] at hx; exact List.mem_reverse.1 hx)
        have hXT : (Cp.copies T id).map Ds.mk = XS := by rw [hTi, Br.copies_rev, HX.out]
        have HXT := Lib.hid hXT; clear hXT hTi hT hown
        have hsl1 := HSL.out.below hb
        have h4 := h3.below hb
        have hG4 := hG3.below hb
        go_wp2_with (first
          | (go_at_call 20; refine (Copies_c T ta tc id _ hG4 hIT (by omega) HWFT.out HCTT.out).mono ?_; rintro e w5 ⟨va5, vc5, rfl, hsl5, hb5⟩; rw [HXT.out] at hsl5 ⊢)
          | (go_at_call 16; refine (Texts_c XS XS va5 va vc5 vc _ hsl5 (hsl1.below hb5)).mono ?_; rintro e w6 ⟨rfl, hb6⟩))
        have hb46 := Tx.step hb5 hb6
        have hb36 : Below w3.heap.size w3 w6 := hb.trans (hb46.mono hbs)
        have h6 := h3.below hb36
        have HSL6 := Lib.hid (HSL.out.below hb36)
        have hG6 := hG3.below hb36
        have hbw6 := Tx.step hb13 hb36
        clear hsl1 hsl5 h4 hG4 hb5 hb6 hb46 hIT
        go_loopw [9, 10] (fun v i wr => ∃ (k b o d : Nat) (B : List Int), k ≤ items.length ∧ i = .int .i64 k ∧ v = .slice (some ⟨b, o, none⟩) B.length d ∧ Hid (Cp.puts Cp.ltI ((items.take k).map (·.branch)) = B) ∧ B.length ≤ k ∧ w6.heap.size < b ∧ Hid (Cs.LA (Value.int .i64) wr b o d B) ∧ Hid (wr.ownsRow w6.heap.size 9 1 (.slice (some ⟨w6.heap.size, 0, none⟩) 0 0) 0 []) ∧ Below w6.heap.size w6 wr ∧ w6.heap.size < wr.heap.size) (fun _ i _ => items.length - (intOf i).toNat)
        case atStart => exact ⟨0, w6.heap.size + 1, 0, 0, [], Nat.zero_le _, rfl, rfl, Lib.hid rfl, Nat.le_refl _, by omega, Lib.hid ⟨Nat.le_refl _, by omega, by simp, fun j x hx => by simp at hx⟩, Lib.hid ((World.ownsRow_lit (base := w6.heap.size) (e := 9) (size := 1) w6 #[] 0 (by simp) (by unfold maxLen; omega) rfl).alloc _), (Tx.newb _ _).alloc (by simp) _, by simp; omega⟩
        case round =>
          obtain ⟨k, bb, bo, bd, B, hk, rfl, rfl, hB, hBk, hbb, hLA, hALL, hb, hws⟩ := hrel
          have hbs := hb.size
          by_cases hlt : k < items.length
          · obtain ⟨x, hx⟩ : ∃ x, items[k]? = some x := ⟨_, List.getElem?_eq_getElem hlt⟩
            obtain ⟨b, o, rfl, hbl, c0, c1, c2, c3, c4, c5, c6, c7, c8, c9⟩ := h6.get hx
            clear c0 c1 c3 c4 c5 c6 c7 c8 c9
            replace c2 := cell_later hb c2
            have hB2 : Cp.puts Cp.ltI ((items.take (k + 1)).map (·.branch)) = Cp.put Cp.ltI B x.branch := by
              rw [Wr.take_at hx, List.map_append, List.map_cons, List.map_nil, Cs.puts_snoc, hB.out]
            have hpl := Cs.put_len Cp.ltI B x.branch
            have HB2 := Lib.hid hB2; clear hB2 hx hB
            go_wp2_with (go_at_call 27; refine (PutInt_c B bb bo bd x.branch _ hLA.out (by omega)).mono ?_; rintro e w7 ⟨b', o', d', rfl, hLA7, hbn, hb7⟩)
            go_roundw
            case rel => exact ⟨k + 1, b', o', d', Cp.put Cp.ltI B x.branch, by omega, by go_num, rfl, HB2, by omega, by omega, Lib.hid hLA7, Lib.hid (own_below hALL.out hb7), hb.trans (hb7.mono hbs), by have := hb7.size; omega⟩
            case measure => simp [intOf]; omega
          · obtain rfl : k = items.length := by omega
            obtain ⟨w7, hw7⟩ : ∃ w7, w7 = wr := ⟨_, rfl⟩
            subst hw7
            have hB9 := hB.out
            rw [List.take_length] at hB9
            have HB9 := Lib.hid hB9; clear hB9 hB
            have hBl : B.length ≤ 60 := by omega
            have hbb7 : bb < w7.heap.size := hLA.out.lt
            go_wp2
            go_loopw [8, 11] (fun v i wr => ∃ (q : Nat) (L : List ByteArray), q ≤ B.length ∧ i = .int .i64 q ∧ Hid (L = (B.take q).flatMap (Br.part items id)) ∧ L.length ≤ q * 3660 ∧ wr.ownsRow w6.heap.size 9 1 v L.length (L.map Value.string) ∧ Hid (some bb ≠ v.ownBlock) ∧ Hid (Cs.LA (Value.int .i64) wr bb bo bd B) ∧ Below w6.heap.size w6 wr ∧ bb < wr.heap.size) (fun _ i _ => B.length - (intOf i).toNat)
            case atStart => exact ⟨0, [], Nat.zero_le _, rfl, Lib.hid rfl, by simp, hALL.out, Lib.hid (by simp [Value.ownBlock]; omega), hLA, hb, hbb7⟩
            case round =>
              obtain ⟨q, L, hq, rfl, hL, hLl, hown, hne, hLA8, hb8, hbb8⟩ := hrel
              obtain ⟨w8, hw8⟩ : ∃ w8, w8 = wr := ⟨_, rfl⟩
              subst hw8
              by_cases hql : q < B.length
              · obtain ⟨y, hy⟩ : ∃ y, B[q]? = some y := ⟨_, List.getElem?_eq_getElem hql⟩
                have HOWN := Lib.hid hown; clear hown
                have hbs8 := hb8.size
                go_wp2
                go_loopw [12, 13] (fun v i wr => ∃ (p : Nat) (O : List Cp.It), p ≤ items.length ∧ i = .int .i64 p ∧ Hid (O = Cp.ofB y (items.take p)) ∧ O.length ≤ p ∧ wr.ownsRow w8.heap.size 46 10 v O.length (O.flatMap Br.encIt) ∧ Below w8.heap.size w8 wr) (fun _ i _ => items.length - (intOf i).toNat)
                case atStart => exact ⟨0, [], Nat.zero_le _, rfl, Lib.hid rfl, Nat.le_refl _, World.ownsRow_lit (base := w8.heap.size) (e := 46) (size := 10) w8 #[] 0 (by simp) (by unfold maxLen; omega) rfl, Tx.newb _ _⟩
                case round =>
                  obtain ⟨p, O, hp, rfl, hO, hOp, hown, hb9⟩ := hrel
                  have hbs9 := hb9.size
                  have hb69 : Below w6.heap.size w6 wr := hb8.trans (hb9.mono hbs8)
                  by_cases hpl : p < items.length
                  · obtain ⟨x, hx⟩ : ∃ x, items[p]? = some x := ⟨_, List.getElem?_eq_getElem hpl⟩
                    have hot := Br.ofB_take y hx
                    rw [← hO.out] at hot
                    obtain ⟨b, o, rfl, hbl, c0, c1, c2, c3, c4, c5, c6, c7, c8, c9⟩ := h6.get hx
                    replace c2 := cell_later hb69 c2
                    have rb : wr.cell? ⟨bb, bo + q, none⟩ = some (.int .i64 y) := cell_later hb9 (hLA8.out.at_ q y hy)
                    have HY := Lib.hid hy; clear hy hx
                    have g1 : (p : Int) < (items.length : Int) := by omega
                    have g2 : (q : Int) < (B.length : Int) := by omega
                    by_cases hxy : x.branch = y
                    · rw [if_pos hxy] at hot
                      have HOT := Lib.hid hot; clear hot
                      have hxq : (x.branch == y) = true := by simpa using hxy
                      clear hxy
                      go_wp2
                      go_quiet (fail)
                      have hbq : Below wr.heap.size wr (wr.drewN nq) := Tx.below_drewN (Below.refl _ _) nq
                      generalize wr.drewN nq = w10 at hbq ⊢
                      have hb610 : Below w6.heap.size w6 w10 := hb69.trans (hbq.mono hb69.size)
                      have hb810 : Below w8.heap.size w8 w10 := hb9.trans (hbq.mono hbs9)
                      have hown10 := own_below hown hbq
                      have hs10 := hb810.size
                      replace c0 := cell_later hb610 c0
                      replace c1 := cell_later hb610 c1
                      replace c2 := cell_later hbq c2
                      replace c3 := cell_later hb610 c3
                      replace c4 := cell_later hb610 c4
                      replace c5 := cell_later hb610 c5
                      replace c6 := cell_later hb610 c6
                      replace c7 := cell_later hb610 c7
                      replace c8 := cell_later hb610 c8
                      replace c9 := cell_later hb610 c9
                      clear rb hbq hown
                      go_wp2_with (at_builtin; go_must (refine wpList_append_own _ rfl _ _ 31 rfl w8.heap.size 46 iI _ 10 88 Tryz.underlying31 hiI hzI0 hzI1 hzI2 rfl (by decide) _ O.length _ rfl (hown10.alloc _) ⟨_, 0, none⟩ 1 1 (Br.encIt x) rfl rfl (Br.it_new _ _ (by first | rfl | simp) x _) (Br.it_one x) (by unfold maxLen; omega) (by omega) (by simp; omega) ?_); intro v' w5 hown5 hg5 hnil5)
                      have hb5 : Below w8.heap.size w8 w5 := (hb810.alloc hs10 _).grown hg5 (by simp; omega) (fun j hj => (hown10.lt j hj).1)
                      go_roundw
                      case rel => exact ⟨p + 1, O ++ [x], by omega, by go_num, Lib.hid HOT.out.symm, by simp; omega, by simpa using hown5, hb5⟩
                      case measure => simp [intOf]; omega
                    · rw [if_neg hxy, List.append_nil] at hot
                      have HOT := Lib.hid hot; clear hot
                      have hxq : (x.branch == y) = false := by simpa using hxy
                      clear hxy
                      go_wp2
                      go_quiet (fail)
                      have hbq : Below wr.heap.size wr (wr.drewN nq) := Tx.below_drewN (Below.refl _ _) nq
                      generalize wr.drewN nq = w10 at hbq ⊢
                      go_wp2
                      go_roundw
                      case rel => exact ⟨p + 1, O, by omega, by go_num, Lib.hid HOT.out.symm, by omega, own_below hown hbq, hb9.trans (hbq.mono hbs9)⟩
                      case measure => simp [intOf]; omega
                  · obtain rfl : p = items.length := by omega
                    have hO9 := hO.out
                    rw [List.take_length] at hO9
                    obtain ⟨oa, oc, rfl, hIO⟩ := Br.ItA.of_own hown rfl
                    have HWFO : Hid (∀ x ∈ O, -9223372036854775808 ≤ x.branch ∧ x.branch ≤ 9223372036854775807) := Lib.hid fun x hx => HWF.out x (by rw [hO9] at hx; exact (List.mem_filter.1 hx).1)
                    have HCTO : Hid (∀ x ∈ O, x.call.size ≤ 100000) := Lib.hid fun x hx => HCT.out x (by rw [hO9] at hx; exact (List.mem_filter.1 hx).1)
                    have hOl : (Cp.copies O id).length ≤ 3660 := Br.copies_60 id (by omega)
                    have hPT : (Cp.copies O id).map Ds.mk = Br.part items id y := by rw [hO9]
                    have hPl : (Br.part items id y).length ≤ 3660 := by rw [← hPT, List.length_map]; exact hOl
                    have hL2 : L ++ Br.part items id y = (B.take (q + 1)).flatMap (Br.part items id) := by rw [Wr.take_at hy, List.flatMap_append, ← hL.out]; simp
                    obtain ⟨PT, hPE⟩ : ∃ PT, Br.part items id y = PT := ⟨_, rfl⟩
                    rw [hPE] at hL2 hPT hPl
                    have HL2 := Lib.hid hL2; clear hL2 hPE
                    have HPT := Lib.hid hPT; clear hPT hO9 hO hy hown hOl
                    have hGr := hG6.below hb69
                    have hown3 := own_below HOWN.out hb9
                    have hLAr := hLA8.out.below hb9
                    go_wp2_with (first
                      | (go_at_call 20; refine (Copies_c O oa oc id _ hGr hIO (by omega) HWFO.out HCTO.out).mono ?_; rintro e w10 ⟨va9, vc9, rfl, hsl9, hb10⟩; rw [HPT.out] at hsl9 ⊢)
                      | (at_builtin; go_must (refine wpList_append_sl rfl _ _ 29 rfl w6.heap.size 9 i0 (.string ⟨#[]⟩) 1 16 Tryz.underlying29 hi0 hz0 hz1 hz2 rfl (by decide) _ L.length _ rfl (own_below hown3 hb10) va9 PT.length vc9 (PT.map Value.string) rfl (by simp) hsl9.none hsl9.cells (SLA.ones PT) (by unfold maxLen; omega) (by omega) (by have := hb69.size; have := hb10.size; omega) ?_); intro v11 w11 hown11 hg11 hvb11))
                    have hb610 : Below w6.heap.size w6 w10 := hb69.trans (hb10.mono hb69.size)
                    have hb611 : Below w6.heap.size w6 w11 := hb610.grown hg11 hb610.size (fun j hj => (hown3.lt j hj).1)
                    have hLA11 : Hid (Cs.LA (Value.int .i64) w11 bb bo bd B) := Lib.hid ((hLAr.below hb10).grown hg11 hne.out)
                    have hbb11 : bb < w10.heap.size := (hLAr.below hb10).lt
                    go_roundw
                    case rel => exact ⟨q + 1, L ++ PT, by omega, by go_num, HL2, by simp; omega, by simpa using hown11, Lib.hid (by rcases hvb11 with h9 | h9 <;> rw [h9]; exact hne.out; simp; omega), hLA11, hb611, by have := hg11.size; omega⟩
                    case measure => simp [intOf]; omega
              · obtain rfl : q = B.length := by omega
                have hfin : L = XS := by
                  rw [hL.out, Rc.take_all, ← HX.out, ← HB9.out]
                  exact Br.parts_all items id
                have HF := Lib.hid hfin; clear hfin hL
                obtain ⟨la, lc, rfl, hsl12⟩ := SLA.of_own (xs := L) hown rfl
                have hslv := HSL6.out.below hb8
                rw [HF.out] at hsl12 ⊢
                go_wp2_with (go_at_call 16; refine (Texts_c XS XS la va lc vc _ hsl12 hslv).mono ?_; rintro e w13 ⟨rfl, hb13⟩)
                go_ret
                exact ⟨Tx.retb (by simp), Tx.step (Tx.step hbw6 hb8) hb13⟩
end Go.Proofs.YtccbadbfijkaeaaGreatDoor
