/- The reference's Copies: what the call returns. -/
import Derived.Test.YtccbadbfijkaeaaGreatDoorCsC
import Derived.Test.YtccbadbfijkaeaaGreatDoorCpC
namespace Go.Proofs.YtccbadbfijkaeaaGreatDoor
open Go.RowKit
set_option maxRecDepth 100000

namespace Cs
open Cp
theorem put_len {α : Type} [DecidableEq α] (lt : α → α → Bool) : ∀ (l : List α) (x : α), (put lt l x).length ≤ l.length + 1
  | [], x => by simp [put]
  | y :: r, x => by
    have ih := put_len lt r x
    unfold put
    repeat' split
    all_goals simp only [List.length_cons]
    all_goals omega
theorem foldput_len {α : Type} [DecidableEq α] (lt : α → α → Bool) : ∀ (l acc : List α), (l.foldl (put lt) acc).length ≤ acc.length + l.length
  | [], acc => by simp
  | x :: l, acc => by
    have h1 := put_len lt acc x
    have h2 := foldput_len lt l (put lt acc x)
    rw [List.foldl_cons, List.length_cons]
    omega
theorem puts_len {α : Type} [DecidableEq α] (lt : α → α → Bool) (l : List α) : (puts lt l).length ≤ l.length := by
  have := foldput_len lt l []
  simpa [puts] using this
theorem puts_snoc {α : Type} [DecidableEq α] (lt : α → α → Bool) (l : List α) (x : α) : puts lt (l ++ [x]) = put lt (puts lt l) x := by
  unfold puts
  rw [List.foldl_append]
  rfl
abbrev pre (x : Rc.By) : Rc.By := [32, 32] ++ x
theorem put_pre : ∀ (l : List Rc.By) (x : Rc.By), put ltB (l.map pre) (pre x) = (put ltB l x).map pre
  | [], x => rfl
  | y :: r, x => by
    have h1 : ltB (pre y) (pre x) = ltB y x := by
      unfold ltB pre
      rw [Bool.eq_iff_iff, decide_eq_true_iff, decide_eq_true_iff]
      simp
    have h2 : (pre y = pre x) = (y = x) := by simp [pre]
    rw [List.map_cons]
    unfold put
    rw [h1, put_pre r x]
    by_cases h3 : ltB y x = true
    · rw [if_pos h3, if_pos h3]; rfl
    · rw [if_neg h3, if_neg h3]
      by_cases h4 : y = x
      · rw [if_pos (by rw [h4]), if_pos h4]; rfl
      · rw [if_neg (by simpa [pre] using h4), if_neg h4]; rfl
theorem grp_take {items : List It} {k : Nat} {x : It} (id b : Int) (h : items[k]? = some x) : ofB b (live id (items.take (k + 1))) = ofB b (live id (items.take k)) ++ (if x.rec_ = id ∧ x.state ≠ 12 ∧ x.branch = b then [x] else []) := by
  rw [live_take id h]
  unfold ofB
  rw [List.filter_append]
  congr 1
  by_cases h1 : x.rec_ = id <;> by_cases h2 : x.state = 12 <;> by_cases h3 : x.branch = b <;> simp [h1, h2, h3]
theorem shelf_snoc (l : List It) (x : It) : shelf (l ++ [x]) = shelf l + (if x.state = 3 then 1 else 0) := by
  unfold shelf
  rw [List.filter_append, List.length_append]
  by_cases h : x.state = 3 <;> simp [h]
theorem calls_snoc (l : List It) (x : It) : callsOf (l ++ [x]) = callsOf l ++ (if x.call.data.toList = [] then [] else [x.call.data.toList]) := by
  unfold callsOf
  rw [List.filter_append, List.map_append]
  by_cases h : x.call.data.toList = [] <;> simp [h]
end Cs

theorem Cs.two_size (x : ByteArray) (h : x.size ≤ 1000) : (⟨#[32, 32]⟩ : ByteArray).size + ([x].map (·.size)).sum ≤ 9223372036854775807 := by
  have e2 : (⟨#[32, 32]⟩ : ByteArray).size = 2 := rfl
  simp only [List.map_cons, List.map_nil, List.sum_cons, List.sum_nil]
  omega
theorem Put2_c (xs : List Rc.By) (b o c : Nat) (x : ByteArray) (w : World) (h : Cs.LA Cs.encB w b o c xs) (hlen : xs.length ≤ 1000000) :
    Calls Tryz.prog 51 #[.slice (some ⟨b, o, none⟩) xs.length c, .string ((⟨#[32, 32]⟩ : ByteArray) ++ x)] w fun e w' => ∃ b' o' c', e = .returned (.slice (some ⟨b', o', none⟩) (Cp.put Cp.ltB xs (Cs.pre x.data.toList)).length c') ∧ Cs.LA Cs.encB w' b' o' c' (Cp.put Cp.ltB xs (Cs.pre x.data.toList)) ∧ (b' = b ∨ w.heap.size ≤ b') ∧ Below w.heap.size w w' := by
  have e : (⟨#[32, 32]⟩ : ByteArray) ++ x = ⟨(Cs.pre x.data.toList).toArray⟩ := by
    apply ByteArray.ext
    apply Array.toList_inj.1
    simp [Cs.pre]
  rw [e]
  exact Put_c xs b o c (Cs.pre x.data.toList) w h hlen

set_option maxHeartbeats 8000000 in
theorem r25_Copies_c (items : List Cp.It) (a : Option Addr) (c : Nat) (id : Int) (w : World) (h : Cp.ItA w a c items) (hn : items.length ≤ 60) (hwf : ∀ x ∈ items, -9223372036854775808 ≤ x.branch ∧ x.branch ≤ 9223372036854775807) (hcs : ∀ x ∈ items, x.call.size ≤ 1000) :
    Calls Tryz.prog 21 #[.slice a items.length c, .int .i64 id] w fun e w' => ∃ va vc, e = .returned (.slice va ((Cp.copies items id).map Ds.mk).length vc) ∧ SLA w' va vc ((Cp.copies items id).map Ds.mk) ∧ Below w.heap.size w w' := by
  obtain ⟨i0, hi0, hz0, hz1, hz2⟩ := info_parts info_str
  have hcap := h.cap
  have hmx : maxLen = 9223372036854775807 := rfl
  have hmax := h.max
  go_enter Tryz.func21, Tryz.ntmps21
  go_wp2
  go_loopw [5, 6] (fun v i wr => ∃ (k b o d : Nat) (B : List Int), k ≤ items.length ∧ i = .int .i64 k ∧ v = .slice (some ⟨b, o, none⟩) B.length d ∧ Hid (Cp.puts Cp.ltI ((Cp.live id (items.take k)).map (·.branch)) = B) ∧ B.length ≤ k ∧ Hid (Cs.LA (Value.int .i64) wr b o d B) ∧ Below w.heap.size w wr) (fun _ i _ => items.length - (intOf i).toNat)
  case atStart => exact ⟨0, w.heap.size, 0, 0, [], Nat.zero_le _, rfl, rfl, Lib.hid rfl, Nat.le_refl _, Lib.hid ⟨Nat.le_refl _, by omega, by simp, fun j x hx => by simp at hx⟩, Tx.newb _ _⟩
  case round =>
    obtain ⟨k, bb, bo, bd, B, hk, rfl, rfl, hB, hBk, hLA, hb⟩ := hrel
    have hbs := hb.size
    by_cases hlt : k < items.length
    · obtain ⟨x, hx⟩ : ∃ x, items[k]? = some x := ⟨_, List.getElem?_eq_getElem hlt⟩
      have hlv := Cp.live_take id hx
      obtain ⟨b, o, rfl, hbl, c0, c1, c2, c3, c4, c5, c6, c7, c8, c9⟩ := h.get hx
      clear c0 c3 c4 c5 c7 c8 c9
      replace c1 := cell_later hb c1
      replace c2 := cell_later hb c2
      replace c6 := cell_later hb c6
      by_cases hm : x.rec_ = id ∧ x.state ≠ 12
      · have hB2 : Cp.puts Cp.ltI ((Cp.live id (items.take (k + 1))).map (·.branch)) = Cp.put Cp.ltI B x.branch := by
          rw [hlv, if_pos (by simp [hm.1, hm.2]), List.map_append, List.map_cons, List.map_nil, Cs.puts_snoc, hB.out]
        have hrq : (x.rec_ == id) = true := by simpa using hm.1
        have hsq : (x.state != 12) = true := by simpa using hm.2
        have hpl := Cs.put_len Cp.ltI B x.branch
        have HB2 := Lib.hid hB2; clear hB2 hlv hm hx hB
        go_wp2_with (go_at_call 27; refine (PutInt_c B bb bo bd x.branch _ hLA.out (by omega)).mono ?_; rintro e w1 ⟨b', o', d', rfl, hLA1, -, hb1⟩)
        go_roundw
        case rel => exact ⟨k + 1, b', o', d', Cp.put Cp.ltI B x.branch, by omega, by go_num, rfl, HB2, by omega, Lib.hid hLA1, hb.trans (hb1.mono hbs)⟩
        case measure => simp [intOf]; omega
      · have hB2 : Cp.puts Cp.ltI ((Cp.live id (items.take (k + 1))).map (·.branch)) = B := by
          rw [hlv]
          have : (x.rec_ == id && x.state != 12) = false := by
            rw [Bool.eq_false_iff]
            intro h9
            simp at h9
            exact hm h9
          simp only [this, Bool.false_eq_true, if_false, List.append_nil]
          exact hB.out
        have HB2 := Lib.hid hB2; clear hB2 hlv hx hB
        by_cases hr : x.rec_ = id
        · have hrq : (x.rec_ == id) = true := by simpa using hr
          have hsq : (x.state != 12) = false := by simpa using fun h9 => hm ⟨hr, h9⟩
          clear hm hr
          go_wp2
          go_roundw
          case rel => exact ⟨k + 1, bb, bo, bd, B, by omega, by go_num, rfl, HB2, by omega, hLA, hb⟩
          case measure => simp [intOf]; omega
        · have hrq : (x.rec_ == id) = false := by simpa using hr
          clear hm hr
          go_wp2
          go_roundw
          case rel => exact ⟨k + 1, bb, bo, bd, B, by omega, by go_num, rfl, HB2, by omega, hLA, hb⟩
          case measure => simp [intOf]; omega
    · obtain rfl : k = items.length := by omega
      obtain ⟨w1, hw1⟩ : ∃ w1, w1 = wr := ⟨_, rfl⟩
      subst hw1
      have hB9 : Cp.puts Cp.ltI ((Cp.live id items).map (·.branch)) = B := by
        have := hB.out
        rw [List.take_length] at this
        exact this
      have HB9 := Lib.hid hB9; clear hB9 hB
      have hbr : ∀ y ∈ B, -9223372036854775808 ≤ y ∧ y ≤ 9223372036854775807 := by
        rw [← HB9.out]
        intro y hy
        obtain ⟨x, hx, rfl⟩ := List.mem_map.1 ((Cp.puts_mem Cp.ltI _ y).1 hy)
        exact hwf x (List.mem_filter.1 hx).1
      have HBR := Lib.hid hbr; clear hbr hwf
      go_wp2
      go_loopw [7, 8, 9, 10, 11, 12, 13] (fun v j _ _ _ _ _ wr2 => ∃ (q : Nat) (out : List Rc.By), q ≤ B.length ∧ j = .int .i64 q ∧ Hid (out = (B.take q).flatMap (Cp.block (Cp.live id items))) ∧ out.length ≤ q * 61 ∧ wr2.ownsRow w1.heap.size 9 1 v out.length (out.map Cs.encB) ∧ Hid (v ≠ .slice none 0 0) ∧ Below w1.heap.size w1 wr2) (fun _ j _ _ _ _ _ _ => B.length - (intOf j).toNat)
      case atStart => exact ⟨0, [], Nat.zero_le _, rfl, Lib.hid rfl, Nat.le_refl _, World.ownsRow_lit (base := w1.heap.size) (e := 9) (size := 1) w1 #[] 0 (by simp) (by omega) rfl, Lib.hid (by simp), Tx.newb _ _⟩
      case round =>
        obtain ⟨wr2, hw2⟩ : ∃ wr2, wr2 = wr := ⟨_, rfl⟩
        subst hw2
        obtain ⟨q, out, hq, rfl, hO, hOl, hown, hnn, hb2⟩ := hrel
        have hb2s := hb2.size
        by_cases hql : q < B.length
        · obtain ⟨y, hy⟩ : ∃ y, B[q]? = some y := ⟨_, List.getElem?_eq_getElem hql⟩
          have hyr := HBR.out y (List.mem_of_getElem? hy)
          have hqi : (q : Int) < (B.length : Int) := by omega
          go_wp2
          have HOWN := Lib.hid hown; clear hown
          go_loopw [9, 10, 11, 12, 13] (fun nv mv cv iv _ wr3 => ∃ (p M N cb co cd : Nat) (C : List Rc.By), p ≤ items.length ∧ iv = .int .i64 p ∧ nv = .int .i64 N ∧ mv = .int .i64 M ∧ cv = .slice (some ⟨cb, co, none⟩) C.length cd ∧ Hid (N = Cp.shelf (Cp.ofB y (Cp.live id (items.take p)))) ∧ Hid (M = (Cp.ofB y (Cp.live id (items.take p))).length) ∧ Hid (C = (Cp.puts Cp.ltB (Cp.callsOf (Cp.ofB y (Cp.live id (items.take p))))).map Cs.pre) ∧ N ≤ p ∧ M ≤ p ∧ C.length ≤ p ∧ wr2.heap.size ≤ cb ∧ Hid (Cs.LA Cs.encB wr3 cb co cd C) ∧ Below wr2.heap.size wr2 wr3) (fun _ _ _ iv _ _ => items.length - (intOf iv).toNat)
          case atStart => exact ⟨0, 0, 0, wr2.heap.size, 0, 0, [], Nat.zero_le _, rfl, rfl, rfl, rfl, Lib.hid rfl, Lib.hid rfl, Lib.hid rfl, Nat.le_refl _, Nat.le_refl _, Nat.le_refl _, Nat.le_refl _, Lib.hid ⟨Nat.le_refl _, by omega, by simp, fun j x hx => by simp at hx⟩, Tx.newb _ _⟩
          case round =>
            obtain ⟨wr3, hw3⟩ : ∃ wr3, wr3 = wr := ⟨_, rfl⟩
            subst hw3
            obtain ⟨p, M, N, cb, co, cd, C, hp, rfl, rfl, rfl, rfl, hN, hM, hC, hNp, hMp, hCp, hcb, hCL, hb3⟩ := hrel
            have hb3s := hb3.size
            by_cases hpl : p < items.length
            · obtain ⟨x, hx⟩ : ∃ x, items[p]? = some x := ⟨_, List.getElem?_eq_getElem hpl⟩
              have hxc := hcs x (List.mem_of_getElem? hx)
              have hgt := Cs.grp_take id y hx
              have hbw3 : Below w.heap.size w wr3 := (hb.trans (hb2.mono hb.size)).trans (hb3.mono (Nat.le_trans hb.size hb2.size))
              have hbr3 : Below w1.heap.size w1 wr3 := hb2.trans (hb3.mono hb2.size)
              obtain ⟨b, o, rfl, hbl, c0, c1, c2, c3, c4, c5, c6, c7, c8, c9⟩ := h.get hx
              replace c0 := cell_later hbw3 c0
              replace c1 := cell_later hbw3 c1
              replace c2 := cell_later hbw3 c2
              replace c3 := cell_later hbw3 c3
              replace c4 := cell_later hbw3 c4
              replace c5 := cell_later hbw3 c5
              replace c6 := cell_later hbw3 c6
              replace c7 := cell_later hbw3 c7
              replace c8 := cell_later hbw3 c8
              replace c9 := cell_later hbw3 c9
              obtain ⟨W1, hW1⟩ : ∃ W1, wr3.alloc (.cells #[.int .i64 x.id, .int .i64 x.rec_, .int .i64 x.branch, .int .i64 x.kind, .int .i64 x.price, .string x.call, .int .i64 x.state, .int .i64 x.cb, .int .i64 x.who, .int .i64 x.to_] 46) = W1 := ⟨_, rfl⟩
              have hbW : Below wr3.heap.size wr3 W1 := by rw [← hW1]; exact Tx.newb _ _
              have r1 : W1.cell? ⟨wr3.heap.size, 1, none⟩ = some (.int .i64 x.rec_) := by rw [← hW1]; simp
              have r2 : W1.cell? ⟨wr3.heap.size, 2, none⟩ = some (.int .i64 x.branch) := by rw [← hW1]; simp
              have r5 : W1.cell? ⟨wr3.heap.size, 5, none⟩ = some (.string x.call) := by rw [← hW1]; simp
              have r6 : W1.cell? ⟨wr3.heap.size, 6, none⟩ = some (.int .i64 x.state) := by rw [← hW1]; simp
              have rb : W1.cell? ⟨bb, bo + q, none⟩ = some (.int .i64 y) := cell_later hbW (cell_later hbr3 (hLA.out.at_ q y hy))
              have hbW3 := hb3.trans (hbW.mono hb3.size)
              have hCL1 : Hid (Cs.LA Cs.encB W1 cb co cd C) := Lib.hid (hCL.out.below hbW)
              by_cases hm : x.rec_ = id ∧ x.state ≠ 12 ∧ x.branch = y
              · have hrq : (x.rec_ != id) = false := by simpa using hm.1
                have hsq : (x.state == 12) = false := by simpa using hm.2.1
                have hyq : (x.branch != y) = false := by simpa using hm.2.2
                rw [if_pos hm] at hgt
                obtain ⟨g, hg⟩ : ∃ g, Cp.ofB y (Cp.live id (items.take p)) = g := ⟨_, rfl⟩
                rw [hg] at hgt hN hM hC
                have hsn := Cs.shelf_snoc g x
                have hcn := Cs.calls_snoc g x
                have HM2 : Hid (M + 1 = (Cp.ofB y (Cp.live id (items.take (p + 1)))).length) := Lib.hid (by rw [hgt, List.length_append, ← hM.out]; rfl)
                rw [← hgt] at hsn hcn
                have HSN := Lib.hid hsn; clear hsn
                have HCN := Lib.hid hcn; clear hcn
                have hpl9 := Cs.put_len Cp.ltB C (Cs.pre x.call.data.toList)
                obtain ⟨a1, -⟩ := Tx.adds_ok Tryz.prog [x.call] (⟨#[32, 32]⟩ : ByteArray) (Cs.two_size x.call hxc)
                clear hgt hg hx hy hm
                by_cases h3 : x.state = 3
                · have HN2 : Hid (N + 1 = Cp.shelf (Cp.ofB y (Cp.live id (items.take (p + 1))))) := Lib.hid (by rw [HSN.out, if_pos h3, ← hN.out])
                  have h3q : (x.state == 3) = true := by simpa using h3
                  clear h3
                  by_cases hce : x.call.data.toList = []
                  · have HC2 : Hid (C = (Cp.puts Cp.ltB (Cp.callsOf (Cp.ofB y (Cp.live id (items.take (p + 1)))))).map Cs.pre) := Lib.hid (by rw [HCN.out, if_pos hce, List.append_nil]; exact hC.out)
                    have hcq : x.call.toList.isEmpty = true := by rw [Lib.toList_data, hce]; rfl
                    clear hce
                    go_wp2
                    go_quiet (fail)
                    have hbq : Below W1.heap.size W1 (W1.drewN nq) := Tx.below_drewN (Below.refl _ _) nq
                    generalize W1.drewN nq = W2 at hbq ⊢
                    replace r5 := cell_later hbq r5
                    replace r6 := cell_later hbq r6
                    have hCL2 : Hid (Cs.LA Cs.encB W2 cb co cd C) := Lib.hid (hCL1.out.below hbq)
                    have hbW4 := hbW3.trans (hbq.mono hbW3.size)
                    clear r1 r2 rb hbq
                    go_wp2
                    go_roundw
                    case rel => exact ⟨p + 1, M + 1, N + 1, cb, co, cd, C, by omega, by go_num, by first | rfl | go_num, by go_num, rfl, HN2, HM2, HC2, by omega, by omega, by omega, hcb, hCL2, hbW4⟩
                    case measure => simp [intOf]; omega
                  · have HC2 : Hid (Cp.put Cp.ltB C (Cs.pre x.call.data.toList) = (Cp.puts Cp.ltB (Cp.callsOf (Cp.ofB y (Cp.live id (items.take (p + 1)))))).map Cs.pre) := Lib.hid (by rw [HCN.out, if_neg hce, Cs.puts_snoc, ← Cs.put_pre, ← hC.out])
                    have hcq : x.call.toList.isEmpty = false := by rw [Lib.toList_data]; simpa using hce
                    clear hce
                    go_wp2
                    go_quiet (fail)
                    have hbq : Below W1.heap.size W1 (W1.drewN nq) := Tx.below_drewN (Below.refl _ _) nq
                    generalize W1.drewN nq = W2 at hbq ⊢
                    replace r5 := cell_later hbq r5
                    replace r6 := cell_later hbq r6
                    have hCL2 : Hid (Cs.LA Cs.encB W2 cb co cd C) := Lib.hid (hCL1.out.below hbq)
                    have hbW4 := hbW3.trans (hbq.mono hbW3.size)
                    clear r1 r2 rb hbq
                    go_wp2_with (go_at_call 51; refine (Put2_c C cb co cd x.call _ hCL2.out (by omega)).mono ?_; rintro e w5 ⟨b5, o5, d5, rfl, hLA5, hbl5, hb5⟩)
                    go_roundw
                    case rel => exact ⟨p + 1, M + 1, N + 1, b5, o5, d5, Cp.put Cp.ltB C (Cs.pre x.call.data.toList), by omega, by go_num, by first | rfl | go_num, by go_num, rfl, HN2, HM2, HC2, by omega, by omega, by omega, by have := hbW4.size; omega, Lib.hid hLA5, hbW4.trans (hb5.mono hbW4.size)⟩
                    case measure => simp [intOf]; omega
                · have HN2 : Hid (N = Cp.shelf (Cp.ofB y (Cp.live id (items.take (p + 1))))) := Lib.hid (by rw [HSN.out, if_neg h3, ← hN.out]; rfl)
                  have h3q : (x.state == 3) = false := by simpa using h3
                  clear h3
                  by_cases hce : x.call.data.toList = []
                  · have HC2 : Hid (C = (Cp.puts Cp.ltB (Cp.callsOf (Cp.ofB y (Cp.live id (items.take (p + 1)))))).map Cs.pre) := Lib.hid (by rw [HCN.out, if_pos hce, List.append_nil]; exact hC.out)
                    have hcq : x.call.toList.isEmpty = true := by rw [Lib.toList_data, hce]; rfl
                    clear hce
                    go_wp2
                    go_quiet (fail)
                    have hbq : Below W1.heap.size W1 (W1.drewN nq) := Tx.below_drewN (Below.refl _ _) nq
                    generalize W1.drewN nq = W2 at hbq ⊢
                    replace r5 := cell_later hbq r5
                    replace r6 := cell_later hbq r6
                    have hCL2 : Hid (Cs.LA Cs.encB W2 cb co cd C) := Lib.hid (hCL1.out.below hbq)
                    have hbW4 := hbW3.trans (hbq.mono hbW3.size)
                    clear r1 r2 rb hbq
                    go_wp2
                    go_roundw
                    case rel => exact ⟨p + 1, M + 1, N, cb, co, cd, C, by omega, by go_num, by first | rfl | go_num, by go_num, rfl, HN2, HM2, HC2, by omega, by omega, by omega, hcb, hCL2, hbW4⟩
                    case measure => simp [intOf]; omega
                  · have HC2 : Hid (Cp.put Cp.ltB C (Cs.pre x.call.data.toList) = (Cp.puts Cp.ltB (Cp.callsOf (Cp.ofB y (Cp.live id (items.take (p + 1)))))).map Cs.pre) := Lib.hid (by rw [HCN.out, if_neg hce, Cs.puts_snoc, ← Cs.put_pre, ← hC.out])
                    have hcq : x.call.toList.isEmpty = false := by rw [Lib.toList_data]; simpa using hce
                    clear hce
                    go_wp2
                    go_quiet (fail)
                    have hbq : Below W1.heap.size W1 (W1.drewN nq) := Tx.below_drewN (Below.refl _ _) nq
                    generalize W1.drewN nq = W2 at hbq ⊢
                    replace r5 := cell_later hbq r5
                    replace r6 := cell_later hbq r6
                    have hCL2 : Hid (Cs.LA Cs.encB W2 cb co cd C) := Lib.hid (hCL1.out.below hbq)
                    have hbW4 := hbW3.trans (hbq.mono hbW3.size)
                    clear r1 r2 rb hbq
                    go_wp2_with (go_at_call 51; refine (Put2_c C cb co cd x.call _ hCL2.out (by omega)).mono ?_; rintro e w5 ⟨b5, o5, d5, rfl, hLA5, hbl5, hb5⟩)
                    go_roundw
                    case rel => exact ⟨p + 1, M + 1, N, b5, o5, d5, Cp.put Cp.ltB C (Cs.pre x.call.data.toList), by omega, by go_num, by first | rfl | go_num, by go_num, rfl, HN2, HM2, HC2, by omega, by omega, by omega, by have := hbW4.size; omega, Lib.hid hLA5, hbW4.trans (hb5.mono hbW4.size)⟩
                    case measure => simp [intOf]; omega
              · rw [if_neg hm, List.append_nil] at hgt
                have HG := Lib.hid hgt; clear hgt hx hy
                have HN2 : Hid (N = Cp.shelf (Cp.ofB y (Cp.live id (items.take (p + 1))))) := Lib.hid (by rw [HG.out]; exact hN.out)
                have HM2 : Hid (M = (Cp.ofB y (Cp.live id (items.take (p + 1)))).length) := Lib.hid (by rw [HG.out]; exact hM.out)
                have HC2 : Hid (C = (Cp.puts Cp.ltB (Cp.callsOf (Cp.ofB y (Cp.live id (items.take (p + 1)))))).map Cs.pre) := Lib.hid (by rw [HG.out]; exact hC.out)
                by_cases hr : x.rec_ = id
                · have hrq : (x.rec_ != id) = false := by simpa using hr
                  by_cases hs : x.state = 12
                  · have hsq : (x.state == 12) = true := by simpa using hs
                    clear hm hr hs
                    go_wp2
                    go_quiet (fail)
                    go_wp2
                    go_roundw
                    case rel => exact ⟨p + 1, M, N, cb, co, cd, C, by omega, by go_num, rfl, rfl, rfl, HN2, HM2, HC2, by omega, by omega, by omega, hcb, Lib.hid (hCL1.out.below (Tx.below_drewN (Below.refl _ _) _)), Tx.below_drewN hbW3 _⟩
                    case measure => simp [intOf]; omega
                  · have hsq : (x.state == 12) = false := by simpa using hs
                    have hyq : (x.branch != y) = true := by simpa using fun h9 => hm ⟨hr, hs, h9⟩
                    clear hm hr hs
                    go_wp2
                    go_quiet (fail)
                    go_wp2
                    go_roundw
                    case rel => exact ⟨p + 1, M, N, cb, co, cd, C, by omega, by go_num, rfl, rfl, rfl, HN2, HM2, HC2, by omega, by omega, by omega, hcb, Lib.hid (hCL1.out.below (Tx.below_drewN (Below.refl _ _) _)), Tx.below_drewN hbW3 _⟩
                    case measure => simp [intOf]; omega
                · have hrq : (x.rec_ != id) = true := by simpa using hr
                  clear hm hr
                  go_wp2
                  go_quiet (fail)
                  go_wp2
                  go_roundw
                  case rel => exact ⟨p + 1, M, N, cb, co, cd, C, by omega, by go_num, rfl, rfl, rfl, HN2, HM2, HC2, by omega, by omega, by omega, hcb, Lib.hid (hCL1.out.below (Tx.below_drewN (Below.refl _ _) _)), Tx.below_drewN hbW3 _⟩
                  case measure => simp [intOf]; omega
            · obtain rfl : p = items.length := by omega
              have hN9 := hN.out
              have hM9 := hM.out
              have hC9 := hC.out
              rw [List.take_length] at hN9 hM9 hC9
              obtain ⟨hd, hhd⟩ : ∃ hd, [98, 114, 97, 110, 99, 104, 32] ++ Lib.itoa y ++ [58, 32] ++ Lib.itoa (N : Int) ++ [32, 111, 102, 32] ++ Lib.itoa (M : Int) ++ [32, 97, 118, 97, 105, 108, 97, 98, 108, 101] = hd := ⟨_, rfl⟩
              have hblb : Cp.block (Cp.live id items) y = hd :: C := by
                rw [← hhd]
                unfold Cp.block Cp.head
                rw [← hN9, ← hM9, hC9]
              have hO2 : out ++ [hd] ++ C = (B.take (q + 1)).flatMap (Cp.block (Cp.live id items)) := by
                rw [Wr.take_at hy, List.flatMap_append, ← hO.out]
                simp [hblb]
              have HO2 := Lib.hid hO2; clear hO2 hblb hN9 hM9 hC9 hN hM hC
              have HHD := Lib.hid hhd; clear hhd
              have lb := Lib.itoa_length_le y hyr.1 hyr.2
              have lA := Lib.itoa_length_le (M : Int) (by omega) (by omega)
              have lS := Lib.itoa_length_le (N : Int) (by omega) (by omega)
              obtain ⟨a1, a2, a3, a4, a5, a6, -⟩ := Tx.adds_ok Tryz.prog [⟨(Lib.itoa y).toArray⟩, ⟨#[58, 32]⟩, ⟨(Lib.itoa (N : Int)).toArray⟩, ⟨#[32, 111, 102, 32]⟩, ⟨(Lib.itoa (M : Int)).toArray⟩, ⟨#[32, 97, 118, 97, 105, 108, 97, 98, 108, 101]⟩] ⟨#[98, 114, 97, 110, 99, 104, 32]⟩ (by simp only [List.map_cons, List.map_nil, List.sum_cons, List.sum_nil, Tx.size_mk]; simp; omega)
              have hown3 := own_below HOWN.out hb3
              have hbr3 : Below w1.heap.size w1 wr3 := hb2.trans (hb3.mono hb2.size)
              have rb : wr3.cell? ⟨bb, bo + q, none⟩ = some (.int .i64 y) := cell_later hbr3 (hLA.out.at_ q y hy)
              have hne7 : some cb ≠ u7.ownBlock := fun e => by have := (HOWN.out.lt cb e.symm).2; omega
              have HY := Lib.hid hy; clear hy
              have t1 : True := trivial
              have t2 : True := trivial
              have t3 : True := trivial
              go_wp2_with (first
                | (have _t := t1; clear t1 _t; go_at_call 38; refine (r25_Number_c _ _ (by omega) (by omega)).mono ?_; rintro e w5 ⟨rfl, hb5⟩)
                | (have _t := t2; clear t2 _t; go_at_call 38; refine (r25_Number_c _ _ (by omega) (by omega)).mono ?_; rintro e w6 ⟨rfl, hb6⟩)
                | (have _t := t3; clear t3 _t; go_at_call 38; refine (r25_Number_c _ _ (by omega) (by omega)).mono ?_; rintro e w7 ⟨rfl, hb7⟩; have hb57 := Tx.step (Tx.step hb5 hb6) hb7)
                | (at_builtin; refine wpList_append_own _ rfl _ _ 29 rfl w1.heap.size 9 i0 (.string ⟨#[]⟩) 1 16 Tryz.underlying29 hi0 hz0 hz1 hz2 rfl (by decide) _ out.length _ rfl ((own_below hown3 hb57).alloc _) ⟨_, 0, none⟩ 1 1 [_] rfl rfl (Tx.cell_one_at _ _ (by first | rfl | simp) _ _) (by simp [Value.oneCell']) (by unfold maxLen; omega) (by omega) (by have := hbr3.size; have := hb57.size; simp; omega) ?_; intro v8 w8 hown8 hg8 hnil8; have hLA8 := ((hCL.out.below hb57).below (Tx.newb _ _)).grown hg8 hne7)
                | (at_builtin; refine wpList_append_own _ rfl _ _ 29 rfl w1.heap.size 9 i0 (.string ⟨#[]⟩) 1 16 Tryz.underlying29 hi0 hz0 hz1 hz2 rfl (by decide) _ (out.length + 1) _ rfl hown8 ⟨cb, co, none⟩ C.length _ (C.map Cs.encB) rfl (by simp) hLA8.cells (fun u hu => by obtain ⟨z, _, rfl⟩ := List.mem_map.1 hu; rfl) (by unfold maxLen; omega) (by omega) (by have := hbr3.size; have := hb57.size; have := hg8.size; simp at this; omega) ?_; intro v9 w9 hown9 hg9 hnil9))
              have hB7 : Below w1.heap.size w1 w7 := hbr3.trans (hb57.mono hbr3.size)
              have hB8 : Below w1.heap.size w1 w8 := (hB7.alloc hB7.size _).grown hg8 (by have := hB7.size; simp; omega) (fun j hj => (hown3.lt j hj).1)
              have hB9 : Below w1.heap.size w1 w9 := hB8.grown hg9 hB8.size (fun j hj => (hown8.lt j hj).1)
              go_roundw
              case rel => exact ⟨q + 1, out ++ [hd] ++ C, by omega, by go_num, HO2, by simp; omega, by rw [show (out ++ [hd] ++ C).length = out.length + 1 + C.length by simp only [List.length_append, List.length_cons, List.length_nil], ← HHD.out]; simpa [Tx.bcat, Cs.encB] using hown9, Lib.hid (fun e => by have := (hnil8.1 (hnil9.1 e).1).2; omega), hB9⟩
              case measure => simp [intOf]; omega
        · obtain rfl : q = B.length := by omega
          have hfin : out = Cp.copies items id := by
            rw [hO.out, Rc.take_all]
            unfold Cp.copies
            rw [HB9.out]
          have HF := Lib.hid hfin; clear hfin hO
          obtain ⟨va, vc, rfl, hsl2⟩ := SLA.of_own (xs := out.map Ds.mk) hown (by simp [Cs.encB, Ds.mk])
          go_wp2
          go_ret
          rw [← HF.out]
          exact ⟨va, vc, rfl, hsl2, hb.trans (hb2.mono hb.size)⟩
end Go.Proofs.YtccbadbfijkaeaaGreatDoor
