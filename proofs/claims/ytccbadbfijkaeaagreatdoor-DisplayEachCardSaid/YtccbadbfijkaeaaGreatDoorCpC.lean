/- Layer 25: Copies: what the program's call returns. -/
import Derived.Test.YtccbadbfijkaeaaGreatDoorCpE
import Derived.Test.YtccbadbfijkaeaaGreatDoorDsC
import Derived.Test.YtccbadbfijkaeaaGreatDoorWrE
import Derived.Deep.RegionLaw
import Derived.Deep.AppendLies
namespace Go.Proofs.YtccbadbfijkaeaaGreatDoor
open Go.RowKit
set_option maxRecDepth 100000

theorem info_int : (Tryz.prog.info? 3).map (fun i => (i.zero, i.size, i.bytes)) = some (some (.int .i64 0), 1, 8) := by kernel_rfl
namespace Cp
theorem live_take {items : List It} {k : Nat} {x : It} (id : Int) (h : items[k]? = some x) : live id (items.take (k + 1)) = live id (items.take k) ++ (if (x.rec_ == id && x.state != 12) = true then [x] else []) := by
  unfold live
  rw [List.take_add_one, h]
  simp only [Option.toList, List.filter_append]
  congr 1
  by_cases hc : (x.rec_ == id && x.state != 12) = true
  · simp [hc]
  · simp [hc]
theorem ofB_le (b : Int) (id : Int) (l : List It) : (ofB b (live id l)).length ≤ l.length := by
  unfold ofB live
  exact Nat.le_trans (List.length_filter_le _ _) (List.length_filter_le _ _)
theorem shelf_le (l : List It) : shelf l ≤ l.length := List.length_filter_le _ _
theorem calls_le (l : List It) : (callsOf l).length ≤ l.length := by
  unfold callsOf
  rw [List.length_map]
  exact List.length_filter_le _ _
theorem shelf_snoc (l : List It) (x : It) : shelf (l ++ [x]) = shelf l + (if x.state == 3 then 1 else 0) := by
  unfold shelf
  rw [List.filter_append, List.length_append]
  congr 1
  by_cases h : x.state = 3 <;> simp [h]
theorem calls_snoc (l : List It) (x : It) : callsOf (l ++ [x]) = callsOf l ++ (if x.call.data.toList = [] then [] else [x.call.data.toList]) := by
  unfold callsOf
  rw [List.filter_append, List.map_append]
  congr 1
  by_cases h : x.call.data.toList = [] <;> simp [h]
end Cp

set_option maxHeartbeats 4000000 in
theorem Copies_c (items : List Cp.It) (a : Option Addr) (c : Nat) (id : Int) (w : World) (hG : G w) (h : Cp.ItA w a c items) (hn : items.length ≤ 1000000) (hwf : ∀ x ∈ items, -9223372036854775808 ≤ x.branch ∧ x.branch ≤ 9223372036854775807) (hcs : ∀ x ∈ items, x.call.size ≤ 100000) :
    Calls Tryz.prog 20 #[.slice a items.length c, .int .i64 id] w fun e w' => ∃ va vc, e = .returned (.slice va ((Cp.copies items id).map Ds.mk).length vc) ∧ SLA w' va vc ((Cp.copies items id).map Ds.mk) ∧ Below w.heap.size w w' := by
  obtain ⟨i0, hi0, hz0, hz1, hz2⟩ := info_parts info_str
  obtain ⟨i1, hi1, hy0, hy1, hy2⟩ := info_parts info_int
  have hcap := h.cap
  have hmx : maxLen = 9223372036854775807 := rfl
  have hmax := h.max
  have hmm := @run_makeMap Tryz.prog
  go_enter Tryz.func20, Tryz.ntmps20
  go_wp2
  clear hmm
  go_loopw [6, 8, 9, 10, 20] (fun v _ _ _ i wr => ∃ (k n : Nat) (bs : List Int) (p : Int → Nat) (cc : Int → Value), k ≤ items.length ∧ i = .int .i64 k ∧ Hid (Cp.Inv wr w.heap.size w.heap.size n (Cp.live id (items.take k)) bs p cc) ∧ n ≤ k ∧ bs.length ≤ k ∧ Hid (bs.Nodup ∧ ∀ b ∈ bs, -9223372036854775808 ≤ b ∧ b ≤ 9223372036854775807) ∧ Hid (∀ b ∈ bs, b ∈ (Cp.live id (items.take k)).map (·.branch)) ∧ wr.ownsRow w.heap.size 3 1 v bs.length (bs.map (Value.int .i64)) ∧ Below w.heap.size w wr) (fun _ _ _ _ i _ => items.length - (intOf i).toNat)
  case atStart =>
    refine ⟨0, 0, [], fun _ => 0, fun _ => .slice none 0 0, Nat.zero_le _, rfl, Lib.hid ⟨?_, ?_, ?_, ?_, ?_⟩, Nat.le_refl _, Nat.le_refl _, Lib.hid ⟨List.nodup_nil, fun b hb => by simp at hb⟩, Lib.hid (fun b hb => by simp at hb), World.ownsRow_nil _ _ _ _, Tx.newb _ _⟩
    · simpa using PMap.made w
    · intro b hb; simp at hb
    · intro b hb; simp at hb
    · intro b hb; simp at hb
    · intro x hx; simp [Cp.live] at hx
  case round =>
    obtain ⟨k, n, bs, p, cc, hk, rfl, hI, hnk, hbk, hnd, hbx, hbr, hb⟩ := hrel
    have hbs := hb.size
    by_cases hlt : k < items.length
    · obtain ⟨x, hx⟩ : ∃ x, items[k]? = some x := ⟨_, List.getElem?_eq_getElem hlt⟩
      have hxm := List.mem_of_getElem? hx
      have hxw := hwf x hxm
      have hxc := hcs x hxm
      have hlv := Cp.live_take id hx
      obtain ⟨b, o, rfl, hbl, c0, c1, c2, c3, c4, c5, c6, c7, c8, c9⟩ := h.get hx
      replace c0 := cell_later hb c0
      replace c1 := cell_later hb c1
      replace c2 := cell_later hb c2
      replace c3 := cell_later hb c3
      replace c4 := cell_later hb c4
      replace c5 := cell_later hb c5
      replace c6 := cell_later hb c6
      replace c7 := cell_later hb c7
      replace c8 := cell_later hb c8
      replace c9 := cell_later hb c9
      obtain ⟨W1, hW1⟩ : ∃ W1, wr.alloc (.cells #[.int .i64 x.id, .int .i64 x.rec_, .int .i64 x.branch, .int .i64 x.kind, .int .i64 x.price, .string x.call, .int .i64 x.state, .int .i64 x.cb, .int .i64 x.who, .int .i64 x.to_] 46) = W1 := ⟨_, rfl⟩
      have hbW : Below wr.heap.size wr W1 := by rw [← hW1]; exact Tx.newb _ _
      have HQ : Hid (W1.heap[wr.heap.size]? = some (.cells #[.int .i64 x.id, .int .i64 x.rec_, .int .i64 x.branch, .int .i64 x.kind, .int .i64 x.price, .string x.call, .int .i64 x.state, .int .i64 x.cb, .int .i64 x.who, .int .i64 x.to_] 46 (0, 0))) := Lib.hid (by rw [← hW1]; exact heap_alloc_new _ _)
      have hsW : W1.heap.size = wr.heap.size + 1 := by rw [← hW1]; simp
      have r1 : W1.cell? ⟨wr.heap.size, 1, none⟩ = some (.int .i64 x.rec_) := by rw [← hW1]; simp
      have r2 : W1.cell? ⟨wr.heap.size, 2, none⟩ = some (.int .i64 x.branch) := by rw [← hW1]; simp
      have r5 : W1.cell? ⟨wr.heap.size, 5, none⟩ = some (.string x.call) := by rw [← hW1]; simp
      have r6 : W1.cell? ⟨wr.heap.size, 6, none⟩ = some (.int .i64 x.state) := by rw [← hW1]; simp
      have hb1 := hb.trans (hbW.mono hbs)
      have hbr1 := own_below hbr hbW
      by_cases hr : x.rec_ = id
      · by_cases hs : x.state = 12
        · have hlv2 : Cp.live id (items.take (k + 1)) = Cp.live id (items.take k) := by rw [hlv]; simp [hs]
          have hrq : (x.rec_ != id) = false := by simpa using hr
          have hsq : (x.state == 12) = true := by simpa using hs
          clear hr hs
          have hbx2 : Hid (∀ b ∈ bs, b ∈ (Cp.live id (items.take (k + 1))).map (·.branch)) := Lib.hid (by rw [hlv2]; exact hbx.out)
          have hI2 : Hid (Cp.Inv W1 w.heap.size w.heap.size n (Cp.live id (items.take (k + 1))) bs p cc) := Lib.hid (by rw [hlv2]; exact hI.out.below hbW)
          clear hlv hlv2 hI
          go_wp2
          go_roundw
          case rel => exact ⟨k + 1, n, bs, p, cc, by omega, by go_num, hI2, by omega, by omega, hnd, hbx2, hbr1, hb1⟩
          case measure => simp [intOf]; omega
        · have hlv2 : Cp.live id (items.take (k + 1)) = Cp.live id (items.take k) ++ [x] := by rw [hlv]; simp [hr, hs]
          have hrq : (x.rec_ != id) = false := by simpa using hr
          have hsq : (x.state == 12) = false := by simpa using hs
          have hI1 := hI.out.below hbW
          obtain ⟨l, hl⟩ : ∃ l, Cp.live id (items.take k) = l := ⟨_, rfl⟩
          have hlen : l.length ≤ k := by rw [← hl]; unfold Cp.live; exact Nat.le_trans (List.length_filter_le _ _) (List.length_take_le _ _)
          have hbx1 : ∀ b ∈ bs, b ∈ l.map (·.branch) := by rw [← hl]; exact hbx.out
          rw [hl] at hI1 hlv2
          have hfl : (Cp.ofB x.branch l).length ≤ k := Nat.le_trans (List.length_filter_le _ _) hlen
          have hsl := Cp.shelf_le (Cp.ofB x.branch l)
          have hcl := Cp.calls_le (Cp.ofB x.branch l)
          have hwx : (Lit.int .i64 x.branch).wf = true := WalkArith.wf_i64 (by omega)
          have hMl := hI.out.map.lt
          have hplt : ∀ y ∈ bs, p y < wr.heap.size := fun y hy => (Array.getElem?_eq_some_iff.1 (hI.out.blk y hy).2).1
          have HL2 := Lib.hid hlv2; clear hlv hlv2 hl hr hs hI hbx
          have hbx2 : Hid (∀ b ∈ bs, b ∈ (Cp.live id (items.take (k + 1))).map (·.branch)) := Lib.hid (by rw [HL2.out]; intro b hb; rw [List.map_append]; exact List.mem_append_left _ (hbx1 b hb))
          have hbx3 : Hid (∀ b ∈ bs ++ [x.branch], b ∈ (Cp.live id (items.take (k + 1))).map (·.branch)) := Lib.hid (by
            rw [HL2.out, List.map_append]
            intro b hb
            rcases List.mem_append.1 hb with h1 | h1
            · exact List.mem_append_left _ (hbx1 b h1)
            · exact List.mem_append_right _ (by simpa using h1))
          clear hbx1
          by_cases hbin : x.branch ∈ bs
          · have hfp : (fun y => if y ∈ bs then some (p y) else none) x.branch = some (p x.branch) := if_pos hbin
            obtain ⟨hpB, hpblk⟩ := hI1.blk _ hbin
            have hrow := hI1.row _ hbin
            obtain ⟨hpc, hpf, hpl⟩ := Tx.blk hpblk
            obtain ⟨P, hP⟩ : ∃ P, p x.branch = P := ⟨_, rfl⟩
            replace hfp : (fun y => if y ∈ bs then some (p y) else none) x.branch = some P := hfp.trans (congrArg some hP)
            rw [hP] at hpB hpblk hpc hpf hpl
            have hPl := hplt _ hbin
            rw [hP] at hPl
            have hpq : P ≠ wr.heap.size := by omega
            have hqp : wr.heap.size ≠ P := by omega
            obtain ⟨cv, hcv⟩ : ∃ cv, cc x.branch = cv := ⟨_, rfl⟩
            rw [hcv] at hpc hpblk hrow
            have hm1 := hI1.map
            have HI1 := Lib.hid hI1; clear hI1
            have HP := Lib.hid hP; clear hP
            have HCV := Lib.hid hcv; clear hcv
            have HB := Lib.hid hpblk; clear hpblk
            have hTS : 3 ≠ 67 := by decide
            have hbne := Cp.own_ne_blk hbr1 HB.out hTS
            have hSn := Cp.shelf_snoc (Cp.ofB x.branch l) x
            have hCn := Cp.calls_snoc (Cp.ofB x.branch l) x
            rw [← Cp.ofB_snoc_same rfl] at hSn hCn
            have HCN := Lib.hid hCn; clear hCn
            cases hs3 : (x.state == 3)
            all_goals
              have HS : Hid _ := Lib.hid (congrArg (fun n : Nat => (n : Int)) hSn)
              rw [hs3] at HS
              clear hSn
              by_cases hx0 : x.call.data.toList = []
            · have hxe : (!x.call.toList.isEmpty) = false := by rw [Lib.toList_data, hx0]; rfl
              have HX0 := Lib.hid hx0; clear hx0
              go_wp2_with (at_lookup; go_must (refine pmap_look_some hm1 hfp hwx rfl _ _ rfl rfl rfl ?_))
              go_roundw
              case rel =>
                refine ⟨k + 1, n, bs, p, Cp.cset cc x.branch cv, by omega, by go_num, Lib.hid ?_, by omega, by omega, hnd, hbx2, own_of_block hbr1 fun g hg => hp_set_ne (hbne g hg) _ _, hb1.setCell (by omega) _⟩
                rw [HL2.out]
                exact HI1.out.step0 hbin HP.out HCV.out (by rw [HS.out]) (by rw [HCN.out, if_pos HX0.out, List.append_nil]) (fun k hk => hp_set_ne hk _ _) (by simpa using hp_set_same HB.out 0 _)
              case measure => simp [intOf]; omega
            · have hxe : (!x.call.toList.isEmpty) = true := by rw [Lib.toList_data]; simpa using hx0
              have HX0 := Lib.hid hx0; clear hx0
              obtain ⟨W2, hW2⟩ : ∃ W2, W1.setCell ⟨P, 0, none⟩ (.int .i64 ((Cp.ofB x.branch l).length + 1)) = W2 := ⟨_, rfl⟩
              have hsW2 : W2.heap.size = W1.heap.size := by rw [← hW2]; simp [World.setCell]
              have hag2 : ∀ k, k ≠ P → W2.heap[k]? = W1.heap[k]? := fun k hk => by rw [← hW2]; exact hp_set_ne hk _ _
              have hB2 := hp_set_same HB.out 0 (.int .i64 ((Cp.ofB x.branch l).length + 1))
              rw [hW2] at hB2
              have e2 : W2.cell? ⟨P, 2, none⟩ = some cv := ((Tx.blk hB2).1 2).trans (by simp)
              have e5 : W2.cell? ⟨wr.heap.size, 5, none⟩ = some (.string x.call) := (World.cell?_of_block (a := ⟨wr.heap.size, 5, none⟩) (hag2 _ hqp)).trans r5
              have e6 : W2.cell? ⟨wr.heap.size, 6, none⟩ = some (.int .i64 x.state) := (World.cell?_of_block (a := ⟨wr.heap.size, 6, none⟩) (hag2 _ hqp)).trans r6
              have f2 : W2.frozen? ⟨P, 2, none⟩ = false := (Tx.blk hB2).2.1 2
              have HB2 := Lib.hid (show W2.heap[P]? = some (.cells #[.int .i64 ((Cp.ofB x.branch l).length + 1), .int .i64 _, cv] 67 (0, 0)) from by simpa using hB2)
              have hbW2 : Below w.heap.size w W2 := by rw [← hW2]; exact hb1.setCell (by omega) _
              have hrow2 : W2.ownsRow w.heap.size 9 1 cv (Cp.callsOf (Cp.ofB x.branch l)).length (Cp.strs (Cp.callsOf (Cp.ofB x.branch l))) := own_of_block hrow fun g hg => hag2 g (Cp.own_ne_blk hrow HB.out (by decide) g hg)
              go_wp2_with (at_lookup; go_must (refine pmap_look_some hm1 hfp hwx rfl _ _ rfl rfl rfl ?_))
              have hPlt2 : P < W2.heap.size := by omega
              have hWle : w.heap.size ≤ W2.heap.size := by omega
              have hPn : some P ≠ cv.ownBlock := fun e => Cp.own_ne_blk hrow HB.out (by decide) P e.symm rfl
              have hqn : some wr.heap.size ≠ cv.ownBlock := fun e => Cp.own_ne_blk hrow HQ.out (by decide) _ e.symm rfl
              go_region_law ((refine step_append_lies _ (by rfl) _ _ 29 (by rfl) w.heap.size 9 i0 (.string ⟨#[]⟩) 1 16 Tryz.underlying29 hi0 hz0 hz1 hz2 (by rfl) (by decide) cv (Cp.callsOf (Cp.ofB x.branch l)).length (Cp.strs (Cp.callsOf (Cp.ofB x.branch l))) (by rfl) (hrow2.drew.alloc _) ⟨wr.heap.size + 1, 0, none⟩ 1 1 [.string x.call] (by rfl) (by rfl) (Tx.cell_one_at W2.drew (wr.heap.size + 1) (hsW.symm.trans hsW2.symm) _ _) (by simp [Value.oneCell']) (by omega) (by unfold maxLen; omega) (by omega) (Nat.le_trans hWle (Tx.newb _ _).size) (W2.heap.size + 1) (by simp) ?_; intro g cap w5 hown5 hg5 hat5 hlt5; have e9 := (hg5.cell_far ⟨P, 2, none⟩ (Nat.lt_of_lt_of_le hPlt2 (Tx.newb W2.drew _).size) hPn).trans ((Tx.newb W2.drew _).cell (p := ⟨P, 2, none⟩) hPlt2 |>.trans e2); have f9 := (hg5.frozen_far ⟨P, 2, none⟩ (Nat.lt_of_lt_of_le hPlt2 (Tx.newb W2.drew _).size) hPn).trans ((Tx.newb W2.drew _).frozen (p := ⟨P, 2, none⟩) hPlt2 |>.trans f2)))
              all_goals
                go_wp2
                have hbd : Below w.heap.size w (W2.drew.alloc (.cells #[.string x.call] 9)) := (hbW2.drew).alloc (by exact hWle) _
                obtain ⟨hI9, hbr9, hb9⟩ := HI1.out.grow (w5 := w5) (cap := cap) (Wd := W2.drew.alloc (.cells #[.string x.call] 9)) hbin HP.out HCV.out (by rw [HS.out]; simp) (by rw [HCN.out, if_neg HX0.out]) hag2 hsW2 HB2.out (fun k hk => hp_alloc (w := W2.drew) hk _) (show W2.drew.heap.size < (W2.drew.alloc (.cells #[.string x.call] 9)).heap.size from by simp) hbd hg5 hown5 (hat5.imp (fun e => e) (fun e => by omega)) hbr1 hbd.size
                rw [← HL2.out] at hI9
                have HI9 := Lib.hid hI9; clear hI9
                go_roundw
                case rel => exact ⟨k + 1, n, bs, p, _, by omega, by go_num, HI9, by omega, by omega, hnd, hbx2, hbr9, hb9⟩
                case measure => simp [intOf]; omega
            · have hxe : (!x.call.toList.isEmpty) = false := by rw [Lib.toList_data, hx0]; rfl
              have HX0 := Lib.hid hx0; clear hx0
              go_wp2_with (at_lookup; go_must (refine pmap_look_some hm1 hfp hwx rfl _ _ rfl rfl rfl ?_))
              go_roundw
              case rel =>
                refine ⟨k + 1, n, bs, p, Cp.cset cc x.branch cv, by omega, by go_num, Lib.hid ?_, by omega, by omega, hnd, hbx2, own_of_block hbr1 fun g hg => (hp_set_ne (hbne g hg) _ _).trans (hp_set_ne (hbne g hg) _ _), (hb1.setCell (by omega) _).setCell (by omega) _⟩
                rw [HL2.out]
                exact HI1.out.step0 hbin HP.out HCV.out (by rw [HS.out]) (by rw [HCN.out, if_pos HX0.out, List.append_nil]) (fun k hk => (hp_set_ne hk _ _).trans (hp_set_ne hk _ _)) (by simpa using hp_set_same (hp_set_same HB.out 0 _) 1 _)
              case measure => simp [intOf]; omega
            · have hxe : (!x.call.toList.isEmpty) = true := by rw [Lib.toList_data]; simpa using hx0
              have HX0 := Lib.hid hx0; clear hx0
              obtain ⟨W2, hW2⟩ : ∃ W2, (W1.setCell ⟨P, 0, none⟩ (.int .i64 ((Cp.ofB x.branch l).length + 1))).setCell ⟨P, 1, none⟩ (.int .i64 ((Cp.shelf (Cp.ofB x.branch l) : Int) + 1)) = W2 := ⟨_, rfl⟩
              have hsW2 : W2.heap.size = W1.heap.size := by rw [← hW2]; simp [World.setCell]
              have hag2 : ∀ k, k ≠ P → W2.heap[k]? = W1.heap[k]? := fun k hk => by rw [← hW2]; exact (hp_set_ne hk _ _).trans (hp_set_ne hk _ _)
              have hB2 := hp_set_same (hp_set_same HB.out 0 (.int .i64 ((Cp.ofB x.branch l).length + 1))) 1 (.int .i64 ((Cp.shelf (Cp.ofB x.branch l) : Int) + 1))
              rw [hW2] at hB2
              have e2 : W2.cell? ⟨P, 2, none⟩ = some cv := ((Tx.blk hB2).1 2).trans (by simp)
              have e5 : W2.cell? ⟨wr.heap.size, 5, none⟩ = some (.string x.call) := (World.cell?_of_block (a := ⟨wr.heap.size, 5, none⟩) (hag2 _ hqp)).trans r5
              have e6 : W2.cell? ⟨wr.heap.size, 6, none⟩ = some (.int .i64 x.state) := (World.cell?_of_block (a := ⟨wr.heap.size, 6, none⟩) (hag2 _ hqp)).trans r6
              have f2 : W2.frozen? ⟨P, 2, none⟩ = false := (Tx.blk hB2).2.1 2
              have HB2 := Lib.hid (show W2.heap[P]? = some (.cells #[.int .i64 ((Cp.ofB x.branch l).length + 1), .int .i64 _, cv] 67 (0, 0)) from by simpa using hB2)
              have hbW2 : Below w.heap.size w W2 := by rw [← hW2]; exact (hb1.setCell (by omega) _).setCell (by omega) _
              have hrow2 : W2.ownsRow w.heap.size 9 1 cv (Cp.callsOf (Cp.ofB x.branch l)).length (Cp.strs (Cp.callsOf (Cp.ofB x.branch l))) := own_of_block hrow fun g hg => hag2 g (Cp.own_ne_blk hrow HB.out (by decide) g hg)
              go_wp2_with (at_lookup; go_must (refine pmap_look_some hm1 hfp hwx rfl _ _ rfl rfl rfl ?_))
              have hPlt2 : P < W2.heap.size := by omega
              have hWle : w.heap.size ≤ W2.heap.size := by omega
              have hPn : some P ≠ cv.ownBlock := fun e => Cp.own_ne_blk hrow HB.out (by decide) P e.symm rfl
              have hqn : some wr.heap.size ≠ cv.ownBlock := fun e => Cp.own_ne_blk hrow HQ.out (by decide) _ e.symm rfl
              go_region_law ((refine step_append_lies _ (by rfl) _ _ 29 (by rfl) w.heap.size 9 i0 (.string ⟨#[]⟩) 1 16 Tryz.underlying29 hi0 hz0 hz1 hz2 (by rfl) (by decide) cv (Cp.callsOf (Cp.ofB x.branch l)).length (Cp.strs (Cp.callsOf (Cp.ofB x.branch l))) (by rfl) (hrow2.drew.alloc _) ⟨wr.heap.size + 1, 0, none⟩ 1 1 [.string x.call] (by rfl) (by rfl) (Tx.cell_one_at W2.drew (wr.heap.size + 1) (hsW.symm.trans hsW2.symm) _ _) (by simp [Value.oneCell']) (by omega) (by unfold maxLen; omega) (by omega) (Nat.le_trans hWle (Tx.newb _ _).size) (W2.heap.size + 1) (by simp) ?_; intro g cap w5 hown5 hg5 hat5 hlt5; have e9 := (hg5.cell_far ⟨P, 2, none⟩ (Nat.lt_of_lt_of_le hPlt2 (Tx.newb W2.drew _).size) hPn).trans ((Tx.newb W2.drew _).cell (p := ⟨P, 2, none⟩) hPlt2 |>.trans e2); have f9 := (hg5.frozen_far ⟨P, 2, none⟩ (Nat.lt_of_lt_of_le hPlt2 (Tx.newb W2.drew _).size) hPn).trans ((Tx.newb W2.drew _).frozen (p := ⟨P, 2, none⟩) hPlt2 |>.trans f2)))
              all_goals
                go_wp2
                have hbd : Below w.heap.size w (W2.drew.alloc (.cells #[.string x.call] 9)) := (hbW2.drew).alloc (by exact hWle) _
                obtain ⟨hI9, hbr9, hb9⟩ := HI1.out.grow (w5 := w5) (cap := cap) (Wd := W2.drew.alloc (.cells #[.string x.call] 9)) hbin HP.out HCV.out (by rw [HS.out]; simp) (by rw [HCN.out, if_neg HX0.out]) hag2 hsW2 HB2.out (fun k hk => hp_alloc (w := W2.drew) hk _) (show W2.drew.heap.size < (W2.drew.alloc (.cells #[.string x.call] 9)).heap.size from by simp) hbd hg5 hown5 (hat5.imp (fun e => e) (fun e => by omega)) hbr1 hbd.size
                rw [← HL2.out] at hI9
                have HI9 := Lib.hid hI9; clear hI9
                go_roundw
                case rel => exact ⟨k + 1, n, bs, p, _, by omega, by go_num, HI9, by omega, by omega, hnd, hbx2, hbr9, hb9⟩
                case measure => simp [intOf]; omega
          · have hfn : (fun y => if y ∈ bs then some (p y) else none) x.branch = none := if_neg hbin
            have hm1 := hI1.map
            have hMq : some wr.heap.size ≠ some w.heap.size := fun e => by injection e with e; have := hMl; omega
            have hbM := Cp.own_ne_map hbr1 hm1
            have hbin2 : x.branch ∈ bs ++ [x.branch] := by simp
            have hnd2 := Lib.hid (Cp.nodup_snoc hnd.out hbin hxw)
            have H0 : Hid (Cp.callsOf (Cp.ofB x.branch l) = []) := Lib.hid (by rw [Cp.ofB_none fun z hz e => hbin (by rw [← e]; exact hI1.mem z hz)]; rfl)
            have HI1 := Lib.hid hI1; clear hI1
            have hSn := Cp.shelf_snoc (Cp.ofB x.branch l) x
            have hCn := Cp.calls_snoc (Cp.ofB x.branch l) x
            rw [← Cp.ofB_snoc_same rfl] at hSn hCn
            have HCN := Lib.hid hCn; clear hCn
            cases hs3 : (x.state == 3)
            all_goals
              have HS : Hid _ := Lib.hid (congrArg (fun n : Nat => (n : Int)) hSn)
              rw [hs3] at HS
              clear hSn
              by_cases hx0 : x.call.data.toList = []
            · have hxe : (!x.call.toList.isEmpty) = false := by rw [Lib.toList_data]; rw [hx0]; rfl
              have HX0 := Lib.hid hx0; clear hx0
              go_wp2_with (first
               | (at_lookup; go_must (refine pmap_look_none hm1 hfn hwx rfl _ _ rfl rfl rfl ?_))
               | (at_mapUpdate; go_must (refine pmap_put (p := wr.heap.size + 1) (hm1.of_block (hp_alloc hm1.lt _)) (by omega) hwx rfl _ _ _ rfl rfl rfl rfl ?_); intro w2 hm2 hg2; have r2b := hg2.cell (cell_later (Tx.newb _ _) r2) hMq; have hu2 := (hbr1.alloc _).kept hg2 (.inr hbM); have hs2 := hg2.size; simp at hs2)
               | (at_builtin
                  refine wpList_append_own _ rfl _ _ 47 rfl w.heap.size 3 i1 (.int .i64 0) 1 8 Tryz.underlying47 hi1 hy0 hy1 hy2 rfl (by decide) _ bs.length _ rfl (hu2.alloc _) ⟨_, 0, none⟩ 1 1 [.int .i64 x.branch] rfl rfl (Tx.cell_one_at _ _ (by first | rfl | simp) _ _) (by simp [Value.oneCell']) (by unfold maxLen; omega) (by omega) (by simp; omega) ?_
                  intro v' w3 hown3 hg3 hnil3
                  obtain ⟨hI3, hP3, hQ3, hb3, hlt3, hBP3⟩ := HI1.out.newgrow hbin hsW hm2 hg2 hbr1 hg3 (Nat.le_refl _) hb1 (by omega) HQ.out (by decide)
                  obtain ⟨hq1, hq2, hq3⟩ := Tx.blk hQ3
                  obtain ⟨hpc, hpf, hpl⟩ := Tx.blk hP3
                  have HI3 := Lib.hid hI3
                  have HB3 := Lib.hid hP3
                  have HQ3 := Lib.hid hQ3
                  have H3 := Lib.hid hown3
                  clear hI3 hP3 hQ3 hown3 hg3 hg2 hm2 hu2 hnil3 r2b))
              have hbne3 := Cp.own_ne_blk H3.out HB3.out (by decide)
              go_roundw
              case rel =>
                refine ⟨k + 1, n + 1, bs ++ [x.branch], Cp.pset p x.branch (wr.heap.size + 1), Cp.cset (Cp.cset cc x.branch (.slice none 0 0)) x.branch (.slice none 0 0), by omega, by go_num, Lib.hid ?_, by omega, by simp; omega, hnd2, hbx3, by simpa using own_of_block H3.out fun g hg => hp_set_ne (hbne3 g hg) _ _, hb3.setCell hBP3 _⟩
                rw [HL2.out]
                exact HI3.out.step0 hbin2 (Cp.pset_same _ _ _) (Cp.cset_same _ _ _) (by rw [HS.out]) (by rw [HCN.out, if_pos HX0.out, List.append_nil]) (fun k hk => hp_set_ne hk _ _) (by simpa using hp_set_same HB3.out 0 _)
              case measure => simp [intOf]; omega
            · have hxe : (!x.call.toList.isEmpty) = true := by rw [Lib.toList_data]; simpa using hx0
              have HX0 := Lib.hid hx0; clear hx0
              go_wp2_with (first
               | (at_lookup; go_must (refine pmap_look_none hm1 hfn hwx rfl _ _ rfl rfl rfl ?_))
               | (at_mapUpdate; go_must (refine pmap_put (p := wr.heap.size + 1) (hm1.of_block (hp_alloc hm1.lt _)) (by omega) hwx rfl _ _ _ rfl rfl rfl rfl ?_); intro w2 hm2 hg2; have r2b := hg2.cell (cell_later (Tx.newb _ _) r2) hMq; have hu2 := (hbr1.alloc _).kept hg2 (.inr hbM); have hs2 := hg2.size; simp at hs2)
               | (at_builtin
                  refine wpList_append_own _ rfl _ _ 47 rfl w.heap.size 3 i1 (.int .i64 0) 1 8 Tryz.underlying47 hi1 hy0 hy1 hy2 rfl (by decide) _ bs.length _ rfl (hu2.alloc _) ⟨_, 0, none⟩ 1 1 [.int .i64 x.branch] rfl rfl (Tx.cell_one_at _ _ (by first | rfl | simp) _ _) (by simp [Value.oneCell']) (by unfold maxLen; omega) (by omega) (by simp; omega) ?_
                  intro v' w3 hown3 hg3 hnil3
                  obtain ⟨hI3, hP3, hQ3, hb3, hlt3, hBP3⟩ := HI1.out.newgrow hbin hsW hm2 hg2 hbr1 hg3 (Nat.le_refl _) hb1 (by omega) HQ.out (by decide)
                  obtain ⟨hq1, hq2, hq3⟩ := Tx.blk hQ3
                  obtain ⟨hpc, hpf, hpl⟩ := Tx.blk hP3
                  have HI3 := Lib.hid hI3
                  have HB3 := Lib.hid hP3
                  have HQ3 := Lib.hid hQ3
                  have H3 := Lib.hid hown3
                  clear hI3 hP3 hQ3 hown3 hg3 hg2 hm2 hu2 hnil3 r2b
                  obtain ⟨W2, hW2⟩ : ∃ W2, w3.setCell ⟨wr.heap.size + 1, 0, none⟩ (.int .i64 ((Cp.ofB x.branch l).length + 1)) = W2 := ⟨_, rfl⟩
                  have hsW2 : W2.heap.size = w3.heap.size := by rw [← hW2]; simp [World.setCell]
                  have hag2 : ∀ k, k ≠ wr.heap.size + 1 → W2.heap[k]? = w3.heap[k]? := fun k hk => by rw [← hW2]; exact hp_set_ne hk _ _
                  have hB2 := hp_set_same HB3.out 0 (.int .i64 ((Cp.ofB x.branch l).length + 1))
                  rw [hW2] at hB2
                  have e2 : W2.cell? ⟨wr.heap.size + 1, 2, none⟩ = some (Value.slice none 0 0) := ((Tx.blk hB2).1 2).trans (by simp)
                  have e5 : W2.cell? ⟨wr.heap.size, 5, none⟩ = some (.string x.call) := (World.cell?_of_block (a := ⟨wr.heap.size, 5, none⟩) (hag2 wr.heap.size (by omega))).trans ((hq1 5).trans rfl)
                  have e6 : W2.cell? ⟨wr.heap.size, 6, none⟩ = some (.int .i64 x.state) := (World.cell?_of_block (a := ⟨wr.heap.size, 6, none⟩) (hag2 wr.heap.size (by omega))).trans ((hq1 6).trans rfl)
                  have f2 : W2.frozen? ⟨wr.heap.size + 1, 2, none⟩ = false := (Tx.blk hB2).2.1 2
                  have HB2 := Lib.hid (show W2.heap[wr.heap.size + 1]? = some (.cells #[.int .i64 ((Cp.ofB x.branch l).length + 1), .int .i64 _, (Value.slice none 0 0)] 67 (0, 0)) from by simpa using hB2)
                  have hbW2 : Below w.heap.size w W2 := by rw [← hW2]; exact hb3.setCell hBP3 _
                  have hPlt2 : wr.heap.size + 1 < W2.heap.size := by omega
                  have hWle : w.heap.size ≤ W2.heap.size := by omega
                  clear hB2))
              go_region_law ((refine step_append_lies _ (by rfl) _ _ 29 (by rfl) w.heap.size 9 i0 (.string ⟨#[]⟩) 1 16 Tryz.underlying29 hi0 hz0 hz1 hz2 (by rfl) (by decide) (Value.slice none 0 0) 0 [] (by rfl) (World.ownsRow_nil _ w.heap.size 9 1) ⟨w3.heap.size, 0, none⟩ 1 1 [.string x.call] (by rfl) (by rfl) (Tx.cell_one_at W2.drew w3.heap.size hsW2.symm _ _) (by simp [Value.oneCell']) (by omega) (by unfold maxLen; omega) (by omega) (Nat.le_trans hWle (Tx.newb _ _).size) (W2.heap.size + 1) (by simp) ?_; intro g cap w5 hown5 hg5 hat5 hlt5; have e9 := (hg5.cell_far ⟨wr.heap.size + 1, 2, none⟩ (Nat.lt_of_lt_of_le hPlt2 (Tx.newb W2.drew _).size) (by simp [Value.ownBlock])).trans ((Tx.newb W2.drew _).cell (p := ⟨wr.heap.size + 1, 2, none⟩) hPlt2 |>.trans e2); have f9 := (hg5.frozen_far ⟨wr.heap.size + 1, 2, none⟩ (Nat.lt_of_lt_of_le hPlt2 (Tx.newb W2.drew _).size) (by simp [Value.ownBlock])).trans ((Tx.newb W2.drew _).frozen (p := ⟨wr.heap.size + 1, 2, none⟩) hPlt2 |>.trans f2)))
              all_goals
                go_wp2
                have hbd : Below w.heap.size w (W2.drew.alloc (.cells #[.string x.call] 9)) := (hbW2.drew).alloc (by exact hWle) _
                have hown6 : w5.ownsRow w.heap.size 9 1 (.slice (some ⟨g, 0, none⟩) ((Cp.callsOf (Cp.ofB x.branch l)).length + 1) cap) ((Cp.callsOf (Cp.ofB x.branch l)).length + 1) (Cp.strs (Cp.callsOf (Cp.ofB x.branch l)) ++ [.string x.call]) := by rw [H0.out]; exact hown5
                obtain ⟨hI9, hbr9, hb9⟩ := HI3.out.grow (w5 := w5) (cap := cap) (Wd := W2.drew.alloc (.cells #[.string x.call] 9)) hbin2 (Cp.pset_same _ _ _) (Cp.cset_same _ _ _) (by rw [HS.out]; simp) (by rw [HCN.out, if_neg HX0.out]) hag2 hsW2 HB2.out (fun k hk => hp_alloc (w := W2.drew) hk _) (show W2.drew.heap.size < (W2.drew.alloc (.cells #[.string x.call] 9)).heap.size from by simp) hbd hg5 hown6 (hat5.imp (fun e => e) (fun e => by omega)) H3.out hbd.size
                rw [← HL2.out] at hI9
                rw [H0.out] at hI9 hbr9 hb9
                have HI9 := Lib.hid hI9; clear hI9
                go_roundw
                case rel => exact ⟨k + 1, n + 1, bs ++ [x.branch], _, _, by omega, by go_num, HI9, by omega, by simp; omega, hnd2, hbx3, by simpa using hbr9, hb9⟩
                case measure => simp [intOf]; omega
            · have hxe : (!x.call.toList.isEmpty) = false := by rw [Lib.toList_data]; rw [hx0]; rfl
              have HX0 := Lib.hid hx0; clear hx0
              go_wp2_with (first
               | (at_lookup; go_must (refine pmap_look_none hm1 hfn hwx rfl _ _ rfl rfl rfl ?_))
               | (at_mapUpdate; go_must (refine pmap_put (p := wr.heap.size + 1) (hm1.of_block (hp_alloc hm1.lt _)) (by omega) hwx rfl _ _ _ rfl rfl rfl rfl ?_); intro w2 hm2 hg2; have r2b := hg2.cell (cell_later (Tx.newb _ _) r2) hMq; have hu2 := (hbr1.alloc _).kept hg2 (.inr hbM); have hs2 := hg2.size; simp at hs2)
               | (at_builtin
                  refine wpList_append_own _ rfl _ _ 47 rfl w.heap.size 3 i1 (.int .i64 0) 1 8 Tryz.underlying47 hi1 hy0 hy1 hy2 rfl (by decide) _ bs.length _ rfl (hu2.alloc _) ⟨_, 0, none⟩ 1 1 [.int .i64 x.branch] rfl rfl (Tx.cell_one_at _ _ (by first | rfl | simp) _ _) (by simp [Value.oneCell']) (by unfold maxLen; omega) (by omega) (by simp; omega) ?_
                  intro v' w3 hown3 hg3 hnil3
                  obtain ⟨hI3, hP3, hQ3, hb3, hlt3, hBP3⟩ := HI1.out.newgrow hbin hsW hm2 hg2 hbr1 hg3 (Nat.le_refl _) hb1 (by omega) HQ.out (by decide)
                  obtain ⟨hq1, hq2, hq3⟩ := Tx.blk hQ3
                  obtain ⟨hpc, hpf, hpl⟩ := Tx.blk hP3
                  have HI3 := Lib.hid hI3
                  have HB3 := Lib.hid hP3
                  have HQ3 := Lib.hid hQ3
                  have H3 := Lib.hid hown3
                  clear hI3 hP3 hQ3 hown3 hg3 hg2 hm2 hu2 hnil3 r2b))
              have hbne3 := Cp.own_ne_blk H3.out HB3.out (by decide)
              go_roundw
              case rel =>
                refine ⟨k + 1, n + 1, bs ++ [x.branch], Cp.pset p x.branch (wr.heap.size + 1), Cp.cset (Cp.cset cc x.branch (.slice none 0 0)) x.branch (.slice none 0 0), by omega, by go_num, Lib.hid ?_, by omega, by simp; omega, hnd2, hbx3, by simpa using own_of_block H3.out fun g hg => (hp_set_ne (hbne3 g hg) _ _).trans (hp_set_ne (hbne3 g hg) _ _), (hb3.setCell hBP3 _).setCell hBP3 _⟩
                rw [HL2.out]
                exact HI3.out.step0 hbin2 (Cp.pset_same _ _ _) (Cp.cset_same _ _ _) (by rw [HS.out]) (by rw [HCN.out, if_pos HX0.out, List.append_nil]) (fun k hk => (hp_set_ne hk _ _).trans (hp_set_ne hk _ _)) (by simpa using hp_set_same (hp_set_same HB3.out 0 _) 1 _)
              case measure => simp [intOf]; omega
            · have hxe : (!x.call.toList.isEmpty) = true := by rw [Lib.toList_data]; simpa using hx0
              have HX0 := Lib.hid hx0; clear hx0
              go_wp2_with (first
               | (at_lookup; go_must (refine pmap_look_none hm1 hfn hwx rfl _ _ rfl rfl rfl ?_))
               | (at_mapUpdate; go_must (refine pmap_put (p := wr.heap.size + 1) (hm1.of_block (hp_alloc hm1.lt _)) (by omega) hwx rfl _ _ _ rfl rfl rfl rfl ?_); intro w2 hm2 hg2; have r2b := hg2.cell (cell_later (Tx.newb _ _) r2) hMq; have hu2 := (hbr1.alloc _).kept hg2 (.inr hbM); have hs2 := hg2.size; simp at hs2)
               | (at_builtin
                  refine wpList_append_own _ rfl _ _ 47 rfl w.heap.size 3 i1 (.int .i64 0) 1 8 Tryz.underlying47 hi1 hy0 hy1 hy2 rfl (by decide) _ bs.length _ rfl (hu2.alloc _) ⟨_, 0, none⟩ 1 1 [.int .i64 x.branch] rfl rfl (Tx.cell_one_at _ _ (by first | rfl | simp) _ _) (by simp [Value.oneCell']) (by unfold maxLen; omega) (by omega) (by simp; omega) ?_
                  intro v' w3 hown3 hg3 hnil3
                  obtain ⟨hI3, hP3, hQ3, hb3, hlt3, hBP3⟩ := HI1.out.newgrow hbin hsW hm2 hg2 hbr1 hg3 (Nat.le_refl _) hb1 (by omega) HQ.out (by decide)
                  obtain ⟨hq1, hq2, hq3⟩ := Tx.blk hQ3
                  obtain ⟨hpc, hpf, hpl⟩ := Tx.blk hP3
                  have HI3 := Lib.hid hI3
                  have HB3 := Lib.hid hP3
                  have HQ3 := Lib.hid hQ3
                  have H3 := Lib.hid hown3
                  clear hI3 hP3 hQ3 hown3 hg3 hg2 hm2 hu2 hnil3 r2b
                  obtain ⟨W2, hW2⟩ : ∃ W2, (w3.setCell ⟨wr.heap.size + 1, 0, none⟩ (.int .i64 ((Cp.ofB x.branch l).length + 1))).setCell ⟨wr.heap.size + 1, 1, none⟩ (.int .i64 ((Cp.shelf (Cp.ofB x.branch l) : Int) + 1)) = W2 := ⟨_, rfl⟩
                  have hsW2 : W2.heap.size = w3.heap.size := by rw [← hW2]; simp [World.setCell]
                  have hag2 : ∀ k, k ≠ wr.heap.size + 1 → W2.heap[k]? = w3.heap[k]? := fun k hk => by rw [← hW2]; exact (hp_set_ne hk _ _).trans (hp_set_ne hk _ _)
                  have hB2 := hp_set_same (hp_set_same HB3.out 0 (.int .i64 ((Cp.ofB x.branch l).length + 1))) 1 (.int .i64 ((Cp.shelf (Cp.ofB x.branch l) : Int) + 1))
                  rw [hW2] at hB2
                  have e2 : W2.cell? ⟨wr.heap.size + 1, 2, none⟩ = some (Value.slice none 0 0) := ((Tx.blk hB2).1 2).trans (by simp)
                  have e5 : W2.cell? ⟨wr.heap.size, 5, none⟩ = some (.string x.call) := (World.cell?_of_block (a := ⟨wr.heap.size, 5, none⟩) (hag2 wr.heap.size (by omega))).trans ((hq1 5).trans rfl)
                  have e6 : W2.cell? ⟨wr.heap.size, 6, none⟩ = some (.int .i64 x.state) := (World.cell?_of_block (a := ⟨wr.heap.size, 6, none⟩) (hag2 wr.heap.size (by omega))).trans ((hq1 6).trans rfl)
                  have f2 : W2.frozen? ⟨wr.heap.size + 1, 2, none⟩ = false := (Tx.blk hB2).2.1 2
                  have HB2 := Lib.hid (show W2.heap[wr.heap.size + 1]? = some (.cells #[.int .i64 ((Cp.ofB x.branch l).length + 1), .int .i64 _, (Value.slice none 0 0)] 67 (0, 0)) from by simpa using hB2)
                  have hbW2 : Below w.heap.size w W2 := by rw [← hW2]; exact (hb3.setCell hBP3 _).setCell hBP3 _
                  have hPlt2 : wr.heap.size + 1 < W2.heap.size := by omega
                  have hWle : w.heap.size ≤ W2.heap.size := by omega
                  clear hB2))
              go_region_law ((refine step_append_lies _ (by rfl) _ _ 29 (by rfl) w.heap.size 9 i0 (.string ⟨#[]⟩) 1 16 Tryz.underlying29 hi0 hz0 hz1 hz2 (by rfl) (by decide) (Value.slice none 0 0) 0 [] (by rfl) (World.ownsRow_nil _ w.heap.size 9 1) ⟨w3.heap.size, 0, none⟩ 1 1 [.string x.call] (by rfl) (by rfl) (Tx.cell_one_at W2.drew w3.heap.size hsW2.symm _ _) (by simp [Value.oneCell']) (by omega) (by unfold maxLen; omega) (by omega) (Nat.le_trans hWle (Tx.newb _ _).size) (W2.heap.size + 1) (by simp) ?_; intro g cap w5 hown5 hg5 hat5 hlt5; have e9 := (hg5.cell_far ⟨wr.heap.size + 1, 2, none⟩ (Nat.lt_of_lt_of_le hPlt2 (Tx.newb W2.drew _).size) (by simp [Value.ownBlock])).trans ((Tx.newb W2.drew _).cell (p := ⟨wr.heap.size + 1, 2, none⟩) hPlt2 |>.trans e2); have f9 := (hg5.frozen_far ⟨wr.heap.size + 1, 2, none⟩ (Nat.lt_of_lt_of_le hPlt2 (Tx.newb W2.drew _).size) (by simp [Value.ownBlock])).trans ((Tx.newb W2.drew _).frozen (p := ⟨wr.heap.size + 1, 2, none⟩) hPlt2 |>.trans f2)))
              all_goals
                go_wp2
                have hbd : Below w.heap.size w (W2.drew.alloc (.cells #[.string x.call] 9)) := (hbW2.drew).alloc (by exact hWle) _
                have hown6 : w5.ownsRow w.heap.size 9 1 (.slice (some ⟨g, 0, none⟩) ((Cp.callsOf (Cp.ofB x.branch l)).length + 1) cap) ((Cp.callsOf (Cp.ofB x.branch l)).length + 1) (Cp.strs (Cp.callsOf (Cp.ofB x.branch l)) ++ [.string x.call]) := by rw [H0.out]; exact hown5
                obtain ⟨hI9, hbr9, hb9⟩ := HI3.out.grow (w5 := w5) (cap := cap) (Wd := W2.drew.alloc (.cells #[.string x.call] 9)) hbin2 (Cp.pset_same _ _ _) (Cp.cset_same _ _ _) (by rw [HS.out]; simp) (by rw [HCN.out, if_neg HX0.out]) hag2 hsW2 HB2.out (fun k hk => hp_alloc (w := W2.drew) hk _) (show W2.drew.heap.size < (W2.drew.alloc (.cells #[.string x.call] 9)).heap.size from by simp) hbd hg5 hown6 (hat5.imp (fun e => e) (fun e => by omega)) H3.out hbd.size
                rw [← HL2.out] at hI9
                rw [H0.out] at hI9 hbr9 hb9
                have HI9 := Lib.hid hI9; clear hI9
                go_roundw
                case rel => exact ⟨k + 1, n + 1, bs ++ [x.branch], _, _, by omega, by go_num, HI9, by omega, by simp; omega, hnd2, hbx3, by simpa using hbr9, hb9⟩
                case measure => simp [intOf]; omega
      · have hlv2 : Cp.live id (items.take (k + 1)) = Cp.live id (items.take k) := by rw [hlv]; simp [hr]
        have hrq : (x.rec_ != id) = true := by simpa using hr
        clear hr
        have hbx2 : Hid (∀ b ∈ bs, b ∈ (Cp.live id (items.take (k + 1))).map (·.branch)) := Lib.hid (by rw [hlv2]; exact hbx.out)
        have hI2 : Hid (Cp.Inv W1 w.heap.size w.heap.size n (Cp.live id (items.take (k + 1))) bs p cc) := Lib.hid (by rw [hlv2]; exact hI.out.below hbW)
        clear hlv hlv2 hI
        go_wp2
        go_roundw
        case rel => exact ⟨k + 1, n, bs, p, cc, by omega, by go_num, hI2, by omega, by omega, hnd, hbx2, hbr1, hb1⟩
        case measure => simp [intOf]; omega
    · obtain rfl : k = items.length := by omega
      have hI2 := hI.out
      have hx2 := hbx.out
      rw [Rc.take_all] at hI2 hx2
      obtain ⟨l, hl⟩ : ∃ l, Cp.live id items = l := ⟨_, rfl⟩
      have hlen : l.length ≤ 1000000 := by rw [← hl]; unfold Cp.live; exact Nat.le_trans (List.length_filter_le _ _) hn
      rw [hl] at hI2 hx2
      have hsp := Cp.sorted_puts (ys := l.map (·.branch)) hnd.out.1 (fun z => ⟨hx2 z, fun hz => by obtain ⟨x, hx, rfl⟩ := List.mem_map.1 hz; exact hI2.mem x hx⟩)
      have hcp : Cp.copies items id = (Cp.puts Cp.ltI (l.map (·.branch))).flatMap (Cp.block l) := by unfold Cp.copies; rw [hl]
      rw [← hsp] at hcp
      have hsm : ∀ b ∈ bs.mergeSort (fun x y => decide (x ≤ y)), b ∈ bs := fun b hb => (List.mergeSort_perm _ _).mem_iff.1 hb
      have hsn : (bs.mergeSort fun x y => decide (x ≤ y)).Nodup := (List.mergeSort_perm _ _).nodup_iff.2 hnd.out.1
      have hsl : (bs.mergeSort fun x y => decide (x ≤ y)).length = bs.length := List.length_mergeSort bs
      obtain ⟨sb, hsb⟩ : ∃ sb, (bs.mergeSort fun x y => decide (x ≤ y)) = sb := ⟨_, rfl⟩
      rw [hsb] at hcp hsm hsn hsl
      have HSB := Lib.hid hsb; clear hsb hsp hx2 hbx hI
      have hli : ∀ x ∈ l, x ∈ items := fun x hx => by rw [← hl] at hx; exact (List.mem_filter.1 hx).1
      have HCP := Lib.hid hcp; clear hcp hl
      have HSM := Lib.hid hsm; clear hsm
      have HSN := Lib.hid hsn; clear hsn
      obtain ⟨va, vc, rfl, hva⟩ := own_shape hbr
      go_wp2_with (go_at_call 48; go_must (refine (SortI_c hbr (by omega)).mono ?_; rintro e w1 ⟨rfl, hbr1, hg1⟩))
      have hI3 := hI2.off hbr fun k hk hku => hg1.block k hk fun e => hku e.symm
      have hbw1 := hb.grown hg1 hbs fun j hj => (hbr.lt j hj).1
      have hws1 := hbw1.size
      rw [HSB.out] at hbr1
      have hm1 := hI3.map
      have HI3 := Lib.hid hI3; clear hI3 hI2 hbr hg1 hb hbs
      go_loopw [11, 13, 14, 16, 91, 130] (fun v _ _ _ i _ wr2 => ∃ (k : Nat) (L : List Rc.By), k ≤ sb.length ∧ i = .int .i64 k ∧ Hid (L = (sb.take k).flatMap (Cp.block l)) ∧ L.length ≤ k * 1000001 ∧ wr2.ownsRow w1.heap.size 9 1 v L.length (Cp.strs L) ∧ Hid (∀ j, j < w1.heap.size → (∀ b ∈ sb.take k, (cc b).ownBlock ≠ some j) → wr2.heap[j]? = w1.heap[j]?) ∧ Below w.heap.size w wr2 ∧ w1.heap.size ≤ wr2.heap.size) (fun _ _ _ _ i _ _ => sb.length - (intOf i).toNat)
      case atStart => exact ⟨0, [], Nat.zero_le _, by simp, Lib.hid rfl, by simp, World.ownsRow_nil _ _ _ _, Lib.hid (fun _ _ _ => rfl), hbw1, Nat.le_refl _⟩
      case round =>
        obtain ⟨k, L, hk, rfl, hL, hLl, hown, hag, hbw2, hws2⟩ := hrel
        by_cases hlt : k < sb.length
        · obtain ⟨b, hbk⟩ : ∃ b, sb[k]? = some b := ⟨_, List.getElem?_eq_getElem hlt⟩
          have hbm := HSM.out b (List.mem_of_getElem? hbk)
          have hbb := hnd.out.2 b hbm
          obtain ⟨g0, rfl⟩ := hva (by omega)
          have hbr2 : wr.ownsRow w.heap.size 3 1 (.slice (some ⟨g0, 0, none⟩) bs.length vc) bs.length (sb.map (Value.int .i64)) := own_of_block hbr1 fun g hg => by
            obtain ⟨_, cur, hc⟩ := own_obj hbr1 hg
            exact hag.out g (Array.getElem?_eq_some_iff.1 hc).1 fun b' hb' e => Cp.own_ne_blk (HI3.out.row b' (HSM.out b' (List.mem_of_mem_take hb'))) hc (by decide) g e rfl
          have d0 : wr.cell? ⟨g0, k, none⟩ = some (.int .i64 b) := (hbr2.cellAt k (by omega)).trans (by rw [List.getElem?_map, hbk]; rfl)
          have hwb : (Lit.int .i64 b).wf = true := WalkArith.wf_i64 (by omega)
          obtain ⟨P, hP⟩ : ∃ P, p b = P := ⟨_, rfl⟩
          obtain ⟨cv, hcv⟩ : ∃ cv, cc b = cv := ⟨_, rfl⟩
          have hfp : (fun y => if y ∈ bs then some (p y) else none) b = some P := (if_pos hbm).trans (congrArg some hP)
          have hblk1 := (HI3.out.blk b hbm).2
          have hrow1 := HI3.out.row b hbm
          rw [hP, hcv] at hblk1
          rw [hcv] at hrow1
          have hPw1 : P < w1.heap.size := (Array.getElem?_eq_some_iff.1 hblk1).1
          have hcvl : ∀ g, cv.ownBlock = some g → g < w1.heap.size := fun g hg => (hrow1.lt g hg).2
          have hPn : some P ≠ cv.ownBlock := fun e => Cp.own_ne_blk hrow1 hblk1 (by decide) P e.symm rfl
          have hbn : b ∉ sb.take k := fun h9 => by
            have h8 := HSN.out
            rw [← List.take_append_drop k sb, List.nodup_append] at h8
            exact h8.2.2 b h9 b (by rw [Wr.drop_at hbk]; simp) rfl
          have hblk2 : wr.heap[P]? = _ := (hag.out P hPw1 fun b' hb' e => Cp.own_ne_blk (HI3.out.row b' (HSM.out b' (List.mem_of_mem_take hb'))) hblk1 (by decide) P e rfl).trans hblk1
          have hrow2 := own_of_block hrow1 (w' := wr) fun g hg => by
            obtain ⟨_, cur, hc⟩ := own_obj hrow1 hg
            refine hag.out g (Array.getElem?_eq_some_iff.1 hc).1 fun b' hb' e => ?_
            have hne : b' ≠ b := fun e2 => hbn (e2 ▸ hb')
            exact (HI3.out.sep b' (HSM.out b' (List.mem_of_mem_take hb')) b hbm hne).2 g e (by rw [hcv]; exact hg)
          have hm2 : PMap wr w.heap.size n (fun y => if y ∈ bs then some (p y) else none) := hm1.of_block (hag.out _ hm1.lt fun b' hb' e => Cp.own_ne_map (HI3.out.row b' (HSM.out b' (List.mem_of_mem_take hb'))) hm1 e)
          obtain ⟨hpc, hpf, hpl⟩ := Tx.blk hblk2
          have e0 : wr.cell? ⟨P, 0, none⟩ = some (.int .i64 ((Cp.ofB b l).length : Nat)) := (hpc 0).trans rfl
          have e1 : wr.cell? ⟨P, 1, none⟩ = some (.int .i64 (Cp.shelf (Cp.ofB b l) : Nat)) := (hpc 1).trans rfl
          have e2 : wr.cell? ⟨P, 2, none⟩ = some cv := (hpc 2).trans rfl
          have hal : (Cp.ofB b l).length ≤ 1000000 := Nat.le_trans (List.length_filter_le _ _) hlen
          have hsl2 := Cp.shelf_le (Cp.ofB b l)
          have hcl2 := Cp.calls_le (Cp.ofB b l)
          obtain ⟨A, hA⟩ : ∃ A, (Cp.ofB b l).length = A := ⟨_, rfl⟩
          obtain ⟨S, hS⟩ : ∃ S, Cp.shelf (Cp.ofB b l) = S := ⟨_, rfl⟩
          obtain ⟨C, hC⟩ : ∃ C, Cp.callsOf (Cp.ofB b l) = C := ⟨_, rfl⟩
          obtain ⟨Z, hZ⟩ : ∃ Z, Lib.compact (C.mergeSort fun x y => decide (x ≤ y)) = Z := ⟨_, rfl⟩
          have hblb : Cp.block l b = ([98, 114, 97, 110, 99, 104, 32] ++ Lib.itoa b ++ [58, 32] ++ Lib.itoa (S : Int) ++ [32, 111, 102, 32] ++ Lib.itoa (A : Int) ++ [32, 97, 118, 97, 105, 108, 97, 98, 108, 101]) :: Z.map ([32, 32] ++ ·) := by
            unfold Cp.block Cp.head
            rw [hA, hS, hC, ← Cp.compact_sorted, hZ]
          have hZl : Z.length ≤ C.length := by rw [← hZ]; exact Nat.le_trans (Lib.compact_length_le _) (by simp)
          have hZs : ∀ z ∈ Z, z.length ≤ 100000 := fun z hz => by
            rw [← hZ, Cp.compact_sorted, Cp.puts_mem, ← hC] at hz
            obtain ⟨x, hx, rfl⟩ := List.mem_map.1 hz
            have h1 := hcs x (hli x (List.mem_filter.1 (List.mem_filter.1 hx).1).1)
            rw [← Lib.size_eq]
            exact h1
          rw [hA] at e0 hal hsl2 hcl2
          rw [hS] at e1 hsl2
          rw [hC] at hcl2 hrow2
          have lb := Lib.itoa_length_le b hbb.1 hbb.2
          have lA := Lib.itoa_length_le (A : Int) (by omega) (by omega)
          have lS := Lib.itoa_length_le (S : Int) (by omega) (by omega)
          obtain ⟨a1, a2, a3, a4, a5, a6, -⟩ := Tx.adds_ok Tryz.prog [⟨(Lib.itoa b).toArray⟩, ⟨#[58, 32]⟩, ⟨(Lib.itoa (S : Int)).toArray⟩, ⟨#[32, 111, 102, 32]⟩, ⟨(Lib.itoa (A : Int)).toArray⟩, ⟨#[32, 97, 118, 97, 105, 108, 97, 98, 108, 101]⟩] ⟨#[98, 114, 97, 110, 99, 104, 32]⟩ (by simp only [List.map_cons, List.map_nil, List.sum_cons, List.sum_nil, Tx.size_mk]; simp; omega)
          have HBL := Lib.hid hblb; clear hblb
          have HZS := Lib.hid hZs; clear hZs
          have HZ := Lib.hid hZ; clear hZ
          have HP := Lib.hid hP; clear hP
          have HCV := Lib.hid hcv; clear hcv
          have HR2 := Lib.hid hrow2; clear hrow2
          have HB2 := Lib.hid hblk2; clear hblk2 hblk1 hrow1 hbr2 hA hS hC hpc hpf
          have hPu : some P ≠ u11.ownBlock := fun e => by have := (hown.lt P e.symm).1; omega
          go_wp2_with (at_lookup; go_must (refine pmap_look hm2 hfp hwb rfl _ _ rfl rfl rfl ?_))
          go_region_held_law (fun w' => Below w1.heap.size wr w' ∧ w'.cell? ⟨P, 0, none⟩ = some (.int .i64 (A : Int)) ∧ w'.cell? ⟨P, 1, none⟩ = some (.int .i64 (S : Int)) ∧ w'.ownsRow w1.heap.size 9 1 u11 L.length (Cp.strs L))
            (first
              | exact ⟨(Below.refl _ _).drew, e0, e1, hown.drew⟩
              | (go_split_ands; exact ⟨stepB (by assumption) hws2 hbc, cell_later hbc (by assumption), cell_later hbc (by assumption), own_below (by assumption) hbc⟩)
              | (go_split_ands; exact ⟨stepB (by assumption) hws2 (Tx.newb _ _), cell_later (Tx.newb _ _) (by assumption), cell_later (Tx.newb _ _) (by assumption), own_below (by assumption) (Tx.newb _ _)⟩)
              | (go_split_ands; exact ⟨Below.grown (by assumption) hg9 (Nat.le_trans hws2 (Below.size (by assumption))) (fun j hj => (hown.lt j hj).1), (hg9.cell_far ⟨P, 0, none⟩ (Nat.lt_of_lt_of_le hpl (Below.size (by assumption))) hPu).trans (by assumption), (hg9.cell_far ⟨P, 1, none⟩ (Nat.lt_of_lt_of_le hpl (Below.size (by assumption))) hPu).trans (by assumption), hk9⟩))
            (first
              | (go_split_ands; go_at_call 34; refine (Itoa_c _ _ (by omega) (by omega) (hG.below (hbw2.trans ((by assumption : Below w1.heap.size wr _).mono hws1)))).mono ?_; rintro e w8 ⟨rfl, hbc⟩)
              | (go_split_ands; refine step_append_keep _ (by rfl) _ _ 29 (by rfl) w1.heap.size 9 i0 (.string ⟨#[]⟩) 16 Tryz.underlying29 hi0 hz0 hz1 hz2 (by decide) _ L.length (Cp.strs L) (by rfl) (by assumption) ⟨_, 0, none⟩ 1 _ (by rfl) (Tx.cell_one_at _ _ (by first | rfl | simp) _ _) (by simp [Value.oneCell']) (by unfold maxLen; omega) (by omega) (Nat.le_trans hws2 (Below.size (by assumption))) ?_; intro v9 w9 hown9 hg9 hk9))
          go_split_ands
          have hB9 : Below w1.heap.size wr w9 := by assumption
          have e3 : w9.cell? ⟨P, 2, none⟩ = some cv := (hB9.cell (p := ⟨P, 2, none⟩) hPw1).trans e2
          have hPw9 : P < w9.heap.size := Nat.lt_of_lt_of_le hpl hB9.size
          have hrow9 : w9.ownsRow w.heap.size 9 1 cv C.length (Cp.strs C) := own_of_block HR2.out fun g hg => hB9.block g (hcvl g hg)
          have hown10 : w9.ownsRow w1.heap.size 9 1 v9 (L ++ [[98, 114, 97, 110, 99, 104, 32] ++ Lib.itoa b ++ [58, 32] ++ Lib.itoa (S : Int) ++ [32, 111, 102, 32] ++ Lib.itoa (A : Int) ++ [32, 97, 118, 97, 105, 108, 97, 98, 108, 101]]).length (Cp.strs (L ++ [[98, 114, 97, 110, 99, 104, 32] ++ Lib.itoa b ++ [58, 32] ++ Lib.itoa (S : Int) ++ [32, 111, 102, 32] ++ Lib.itoa (A : Int) ++ [32, 97, 118, 97, 105, 108, 97, 98, 108, 101]])) := by simpa [Tx.bcat, Cp.strs] using hown9
          obtain ⟨hd, hhd⟩ : ∃ hd, [98, 114, 97, 110, 99, 104, 32] ++ Lib.itoa b ++ [58, 32] ++ Lib.itoa (S : Int) ++ [32, 111, 102, 32] ++ Lib.itoa (A : Int) ++ [32, 97, 118, 97, 105, 108, 97, 98, 108, 101] = hd := ⟨_, rfl⟩
          rw [hhd] at hown10
          have hblb := HBL.out
          rw [hhd] at hblb
          have HBL2 := Lib.hid hblb; clear hblb hhd hown9 a1 a2 a3 a4 a5 a6 d0 e0 e1 HBL
          have HO := Lib.hid hown10; clear hown10
          go_wp2_with (first
            | (go_at_call 49; go_must (refine (SortS_c hrow9 (by omega)).mono ?_; rintro e w10 ⟨rfl, hrow10, hg10⟩; have e4 := (hg10.cell_far ⟨P, 2, none⟩ hPw9 hPn).trans e3; have hrow10b : w10.ownsRow w.heap.size 9 1 cv (C.mergeSort fun x y => decide (x ≤ y)).length (Cp.strs (C.mergeSort fun x y => decide (x ≤ y))) := by rw [List.length_mergeSort]; exact hrow10))
            | (go_at_call 50; go_must (refine (CompactS_c hrow10b (by rw [List.length_mergeSort]; omega)).mono ?_; rintro e w11 ⟨za, zc, rfl, hrow11, hzo, hg11⟩; rw [HZ.out] at hrow11 hzo ⊢)))
          have hown11 := own_far (own_far HO.out hcvl hg10) hcvl hg11
          have hb9 : Below w.heap.size w w9 := hbw2.trans (hB9.mono hws1)
          have hb11 : Below w.heap.size w w11 := (hb9.grown hg10 hb9.size (fun j hj => (hrow9.lt j hj).1)).grown hg11 (Nat.le_trans hb9.size hg10.size) (fun j hj => (hrow9.lt j hj).1)
          have hs11 : w1.heap.size ≤ w11.heap.size := Nat.le_trans hws2 (Nat.le_trans hB9.size (Nat.le_trans hg10.size hg11.size))
          have hag11 : ∀ j, j < w1.heap.size → (∀ b' ∈ sb.take (k + 1), (cc b').ownBlock ≠ some j) → w11.heap[j]? = w1.heap[j]? := fun j hj hall => by
            have hjc : some j ≠ cv.ownBlock := fun e => hall b (by rw [Wr.take_at hbk]; simp) (by rw [HCV.out]; exact e.symm)
            have h9 : j < w9.heap.size := Nat.lt_of_lt_of_le hj (Nat.le_trans hws2 hB9.size)
            exact (hg11.block j (Nat.lt_of_lt_of_le h9 hg10.size) hjc).trans ((hg10.block j h9 hjc).trans ((hB9.block j hj).trans (hag.out j hj fun b' hb' => hall b' (by rw [Wr.take_at hbk]; exact List.mem_append_left _ hb'))))
          have hzg : ∀ g, za = some ⟨g, 0, none⟩ → g < w1.heap.size := fun g hg => hcvl g (by rw [← hzo, hg]; rfl)
          have HAG := Lib.hid hag11
          have HR11 := Lib.hid hrow11
          have H11 := Lib.hid hown11
          clear hag11 hrow11 hown11 hg10 hg11 hrow10b hrow10 hrow9 e3 e4 e2 hzo hown hag HO
          go_loopw [11, 16, 130] (fun v _ j wr3 => ∃ (m : Nat) (L3 : List Rc.By), m ≤ Z.length ∧ j = .int .i64 m ∧ Hid (L3 = L ++ [hd] ++ (Z.take m).map ([32, 32] ++ ·)) ∧ L3.length = L.length + 1 + m ∧ wr3.ownsRow w1.heap.size 9 1 v L3.length (Cp.strs L3) ∧ Below w1.heap.size w11 wr3) (fun _ _ j _ => Z.length - (intOf j).toNat)
          case atStart => exact ⟨0, L ++ [hd], Nat.zero_le _, by simp, Lib.hid (by simp), by simp, H11.out, Below.refl _ _⟩
          case round =>
            obtain ⟨m, L3, hm, rfl, hL3, hL3l, hown3, hb3⟩ := hrel
            have hb3s := hb3.size
            by_cases hml : m < Z.length
            · obtain ⟨z, hz⟩ : ∃ z, Z[m]? = some z := ⟨_, List.getElem?_eq_getElem hml⟩
              have hzl := HZS.out z (List.mem_of_getElem? hz)
              obtain ⟨gz, rfl⟩ := own_addr HR11.out (by omega)
              have hgz := hzg gz rfl
              have d1 : wr.cell? ⟨gz, m, none⟩ = some (.string ⟨z.toArray⟩) := (hb3.cell (p := ⟨gz, m, none⟩) hgz).trans ((HR11.out.cellAt m (by omega)).trans (by unfold Cp.strs; rw [List.getElem?_map, hz]; rfl))
              have hL4 : L3 ++ [[32, 32] ++ z] = L ++ [hd] ++ (Z.take (m + 1)).map ([32, 32] ++ ·) := by rw [hL3.out, Wr.take_at hz]; simp
              have HL4 := Lib.hid hL4; clear hL4 hz hL3
              obtain ⟨a1, -⟩ := Tx.adds_ok Tryz.prog [⟨z.toArray⟩] ⟨#[32, 32]⟩ (by simp only [List.map_cons, List.map_nil, List.sum_cons, List.sum_nil, Tx.size_mk]; simp; omega)
              go_wp2_with (at_builtin; refine wpList_append_own _ rfl _ _ 29 rfl w1.heap.size 9 i0 (.string ⟨#[]⟩) 1 16 Tryz.underlying29 hi0 hz0 hz1 hz2 rfl (by decide) _ L3.length _ rfl (hown3.alloc _) ⟨_, 0, none⟩ 1 1 [.string (⟨#[32, 32]⟩ ++ ⟨z.toArray⟩)] rfl rfl (Tx.cell_one_at _ _ (by first | rfl | simp) _ _) (by simp [Value.oneCell']) (by unfold maxLen; omega) (by omega) (by simp; omega) ?_; intro v' w5 hown5 hg5 hnil5)
              have hb5 : Below w1.heap.size w11 w5 := (hb3.alloc (by omega) _).grown hg5 (by simp; omega) (fun j hj => (hown3.lt j hj).1)
              go_roundw
              case rel => exact ⟨m + 1, L3 ++ [[32, 32] ++ z], by omega, by go_num, HL4, by simp; omega, by simpa [Tx.bcat, Cp.strs] using hown5, hb5⟩
              case measure => simp [intOf]; omega
            · obtain rfl : m = Z.length := by omega
              have hLn : L3 = (sb.take (k + 1)).flatMap (Cp.block l) := by
                rw [hL3.out, Rc.take_all, Wr.take_at hbk, List.flatMap_append, ← hL.out]
                simp [HBL2.out]
              have HLN := Lib.hid hLn; clear hLn
              go_wp2
              go_roundw
              case rel => exact ⟨k + 1, L3, by omega, by go_num, HLN, by omega, hown3, Lib.hid (fun j hj hall => (hb3.block j hj).trans (HAG.out j hj hall)), hb11.trans (hb3.mono hws1), by omega⟩
              case measure => simp [intOf]; omega
        · obtain rfl : k = sb.length := by omega
          have hLf : L = Cp.copies items id := by rw [hL.out, Rc.take_all, HCP.out]
          have HLF := Lib.hid hLf; clear hLf
          obtain ⟨ra, rc, rfl, hsl9⟩ := SLA.of_own (xs := L.map Ds.mk) hown (by simp [Cp.strs, Ds.mk])
          go_wp2
          go_ret
          rw [← HLF.out]
          exact ⟨ra, rc, by simp, hsl9, hbw2⟩
end Go.Proofs.YtccbadbfijkaeaaGreatDoor
