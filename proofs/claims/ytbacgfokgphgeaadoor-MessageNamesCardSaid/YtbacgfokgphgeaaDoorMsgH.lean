/- Layer 41: the program's Parse: what the call returns. -/
import Derived.Test.YtbacgfokgphgeaaDoorMsgG
namespace Go.Proofs.YtbacgfokgphgeaaDoor
open Go.RowKit
set_option maxRecDepth 100000

/-- Only block M may have changed, and what is new. -/
structure Keep (M : Nat) (a w : World) : Prop where
  os : w.os = a.os
  tape : w.tape = a.tape
  output : w.output = a.output
  size : a.heap.size ≤ w.heap.size
  block : ∀ k, k < a.heap.size → k ≠ M → w.heap[k]? = a.heap[k]?
theorem Keep.refl (M : Nat) (a : World) : Keep M a a := ⟨rfl, rfl, rfl, Nat.le_refl _, fun _ _ _ => rfl⟩
theorem Keep.below {M : Nat} {a w w' : World} (h : Keep M a w) (hb : Below w.heap.size w w') : Keep M a w' :=
  ⟨hb.os.trans h.os, hb.tape.trans h.tape, hb.output.trans h.output, Nat.le_trans h.size hb.size, fun k hk hn => (hb.block k (Nat.lt_of_lt_of_le hk h.size)).trans (h.block k hk hn)⟩
theorem Keep.set {M : Nat} {a w : World} (h : Keep M a w) (i : Nat) (u : Value) : Keep M a (w.setCell ⟨M, i, none⟩ u) :=
  ⟨h.os, h.tape, h.output, by simpa [World.setCell] using h.size, fun k hk hn => (Below.heap_setCell w ⟨M, i, none⟩ u k hn).trans (h.block k hk hn)⟩
theorem Keep.cell {M g : Nat} {a w : World} (h : Keep M a w) (hg : g < a.heap.size) (hn : g ≠ M) : (∀ i, w.cell? ⟨g, i, none⟩ = a.cell? ⟨g, i, none⟩) ∧ (∀ i, w.frozen? ⟨g, i, none⟩ = a.frozen? ⟨g, i, none⟩) :=
  ⟨fun i => World.cell?_of_block (w := a) (a := ⟨g, i, none⟩) (h.block g hg hn), fun i => World.frozen?_of_block (w := a) (a := ⟨g, i, none⟩) (h.block g hg hn)⟩
theorem Keep.toBelow {M B : Nat} {a w : World} (h : Keep M a w) (h1 : B ≤ M) (h2 : B ≤ a.heap.size) : Below B a w :=
  ⟨h.os, h.tape, h.output, h.size, fun k hk => h.block k (by omega) (by omega)⟩
theorem Tx.blk_set {w : World} {g : Nat} {cs : Array Value} {t : TypeId} (h : w.heap[g]? = some (.cells cs t (0, 0))) (i : Nat) (u : Value) : (w.setCell ⟨g, i, none⟩ u).heap[g]? = some (.cells (cs.setIfInBounds i u) t (0, 0)) := by
  simp [World.setCell, Array.getElem?_modify, h]

theorem Tx.set8a {g : Nat} {w wr : World} (h : Below w.heap.size w wr) (hg : w.heap.size ≤ g) (v0 v1 v2 v3 v4 v5 v6 v7 : Value) (o : Obj) :
    Below w.heap.size w (((((((((wr.setCell ⟨g, 0, none⟩ v0).setCell ⟨g, 1, none⟩ v1).setCell ⟨g, 2, none⟩ v2).setCell ⟨g, 3, none⟩ v3).setCell ⟨g, 4, none⟩ v4).setCell ⟨g, 5, none⟩ v5).setCell ⟨g, 6, none⟩ v6).setCell ⟨g, 7, none⟩ v7).alloc o) :=
  (Tx.set8 h hg _ _ _ _ _ _ _ _).alloc (Tx.set8 h hg _ _ _ _ _ _ _ _).size _

theorem Tx.set8_blk {wr : World} {g : Nat} {t : TypeId} {u0 u1 u2 u3 u4 u5 u6 u7 : Value} (h : wr.heap[g]? = some (.cells #[u0, u1, u2, u3, u4, u5, u6, u7] t (0, 0))) (v0 v1 v2 v3 v4 v5 v6 v7 : Value) :
    ((((((((wr.setCell ⟨g, 0, none⟩ v0).setCell ⟨g, 1, none⟩ v1).setCell ⟨g, 2, none⟩ v2).setCell ⟨g, 3, none⟩ v3).setCell ⟨g, 4, none⟩ v4).setCell ⟨g, 5, none⟩ v5).setCell ⟨g, 6, none⟩ v6).setCell ⟨g, 7, none⟩ v7).heap[g]? = some (.cells #[v0, v1, v2, v3, v4, v5, v6, v7] t (0, 0)) := by
  have h1 := Tx.blk_set h 0 v0
  have h2 := Tx.blk_set h1 1 v1
  have h3 := Tx.blk_set h2 2 v2
  have h4 := Tx.blk_set h3 3 v3
  have h5 := Tx.blk_set h4 4 v4
  have h6 := Tx.blk_set h5 5 v5
  have h7 := Tx.blk_set h6 6 v6
  have h8 := Tx.blk_set h7 7 v7
  simp only [List.setIfInBounds_toArray, List.set_cons_zero, List.set_cons_succ] at h8
  exact h8
theorem Tx.set8a_cell {wr : World} {g : Nat} {t : TypeId} {u0 u1 u2 u3 u4 u5 u6 u7 : Value} (h : wr.heap[g]? = some (.cells #[u0, u1, u2, u3, u4, u5, u6, u7] t (0, 0))) (v0 v1 v2 v3 v4 v5 v6 v7 : Value) (o : Obj) (i : Nat) :
    (((((((((wr.setCell ⟨g, 0, none⟩ v0).setCell ⟨g, 1, none⟩ v1).setCell ⟨g, 2, none⟩ v2).setCell ⟨g, 3, none⟩ v3).setCell ⟨g, 4, none⟩ v4).setCell ⟨g, 5, none⟩ v5).setCell ⟨g, 6, none⟩ v6).setCell ⟨g, 7, none⟩ v7).alloc o).cell? ⟨g, i, none⟩ = #[v0, v1, v2, v3, v4, v5, v6, v7][i]? := by
  have h8 := Tx.set8_blk h v0 v1 v2 v3 v4 v5 v6 v7
  exact cell_of_row _ g i _ t (0, 0) ((Below.heap_alloc _ o g (Array.getElem?_eq_some_iff.1 h8).1).trans h8)

theorem names_c (w : World) : Calls Tryd.prog 27 #[] w fun e w' => ∃ g, e = .returned (.slice (some ⟨g, 0, none⟩) 12 12) ∧ w.heap.size ≤ g ∧ g < w'.heap.size ∧ (∀ k : Nat, k < 12 → w'.cell? ⟨g, k, none⟩ = some (.string ⟨(Mg.nameOf k).toArray⟩)) ∧ Below w.heap.size w w' := by
  go_enter Tryd.func27, Tryd.ntmps27
  go_wp2
  go_ret
  refine ⟨w.heap.size, rfl, Nat.le_refl _, by simp, fun k hk => ?_, Tx.newb _ _⟩
  rw [cell_of_row _ w.heap.size k _ _ (0, 0) (heap_alloc_new w _)]
  rcases (show k = 0 ∨ k = 1 ∨ k = 2 ∨ k = 3 ∨ k = 4 ∨ k = 5 ∨ k = 6 ∨ k = 7 ∨ k = 8 ∨ k = 9 ∨ k = 10 ∨ k = 11 by omega) with rfl | rfl | rfl | rfl | rfl | rfl | rfl | rfl | rfl | rfl | rfl | rfl <;> rfl

theorem Mg.splitW_len (c : UInt8) : ∀ (k : Nat) (l : List UInt8), (Sp.splitW c k l).length ≤ k + 1 ∧ ∀ p ∈ Sp.splitW c k l, p.length ≤ l.length
  | 0, l => by simp [Sp.splitW]
  | k + 1, l => by
    simp only [Sp.splitW]
    cases hc : Sp.cut c l with
    | none => simp
    | some p =>
      obtain ⟨a, b⟩ := p
      have h1 := Sp.cut_len hc
      have h2 := Mg.splitW_len c k b
      simp only
      refine ⟨by simp; omega, fun q hq => ?_⟩
      rcases List.mem_cons.1 hq with rfl | hq
      · omega
      · have := h2.2 q hq
        omega
theorem Mg.getD_len (c : UInt8) (k : Nat) (l : List UInt8) (j : Nat) : ((Sp.splitW c k l).getD j []).length ≤ l.length := by
  rw [List.getD_eq_getElem?_getD]
  cases h : (Sp.splitW c k l)[j]? with
  | none => simp
  | some q => exact (Mg.splitW_len c k l).2 q (List.mem_of_getElem? h)

theorem SL.some_ {w : World} {v : Value} {xs : List ByteArray} (h : SL w v xs) (hx : xs ≠ []) : ∃ b o c, v = .slice (some ⟨b, o, none⟩) xs.length c ∧ xs.length ≤ c ∧ c ≤ maxLen ∧ b < w.heap.size ∧ ∀ (j : Nat) x, xs[j]? = some x → w.cell? ⟨b, o + j, none⟩ = some (.string x) := by
  rcases h with ⟨h, _⟩ | h
  · exact absurd h hx
  · exact h


namespace Mg
/-- The message's block ahead of word i of the second loop. -/
def mc (ws : List (List UInt8)) (kv : Int) (nt : ByteArray) : Nat → Array Value
  | 0 => #[.int .i64 0, .int .i64 0, .int .i64 0, .int .i64 0, .int .i64 kv, .int .i64 0, .int .i64 0, .string nt]
  | 1 => #[.int .i64 (Mg.N ws 0), .int .i64 0, .int .i64 0, .int .i64 0, .int .i64 kv, .int .i64 0, .int .i64 0, .string nt]
  | 2 => #[.int .i64 (Mg.N ws 0), .int .i64 (Mg.N ws 1), .int .i64 0, .int .i64 0, .int .i64 kv, .int .i64 0, .int .i64 0, .string nt]
  | 3 => #[.int .i64 (Mg.N ws 0), .int .i64 (Mg.N ws 1), .int .i64 (Mg.N ws 2), .int .i64 0, .int .i64 kv, .int .i64 0, .int .i64 0, .string nt]
  | 4 => #[.int .i64 (Mg.N ws 0), .int .i64 (Mg.N ws 1), .int .i64 (Mg.N ws 2), .int .i64 (Mg.N ws 3), .int .i64 kv, .int .i64 0, .int .i64 0, .string nt]
  | 5 => #[.int .i64 (Mg.N ws 0), .int .i64 (Mg.N ws 1), .int .i64 (Mg.N ws 2), .int .i64 (Mg.N ws 3), .int .i64 kv, .int .i64 0, .int .i64 0, .string nt]
  | 6 => #[.int .i64 (Mg.N ws 0), .int .i64 (Mg.N ws 1), .int .i64 (Mg.N ws 2), .int .i64 (Mg.N ws 3), .int .i64 kv, .int .i64 (Mg.N ws 5), .int .i64 0, .string nt]
  | _ => #[.int .i64 (Mg.N ws 0), .int .i64 (Mg.N ws 1), .int .i64 (Mg.N ws 2), .int .i64 (Mg.N ws 3), .int .i64 kv, .int .i64 (Mg.N ws 5), .int .i64 (Mg.N ws 6), .string nt]
/-- What the second loop has found ahead of word i. -/
def okF (ws : List (List UInt8)) (kv : Int) : Nat → Bool
  | 0 => decide (0 < kv)
  | i + 1 => if i = 4 then okF ws kv i else okF ws kv i && ok ws i
theorem okF_7 (ws : List (List UInt8)) (kv : Int) : okF ws kv 7 = (decide (0 < kv) && ok ws 0 && ok ws 1 && ok ws 2 && ok ws 3 && ok ws 5 && ok ws 6) := rfl
theorem bad_okF {ws : List (List UInt8)} {nt : ByteArray} (h7 : ¬ ws.length < 7) (hn : nt.data.toList = ws.getD 7 []) (h8 : ¬ (7 < ws.length ∧ nt.data.toList = [])) (hnb : noteB nt.data.toList = true) :
    bad ws ↔ okF ws (kindOf (ws.getD 4 [])) 7 = false := by
  have hr := kindOf_range (ws.getD 4 [])
  unfold bad
  generalize kindOf (ws.getD 4 []) = K at *
  have hz : K = 0 ↔ decide (0 < K) = false := by
    rw [decide_eq_false_iff_not]
    omega
  rw [okF_7, ← hn, hnb, hz]
  generalize decide (0 < K) = z at *
  simp only [h7, h8, false_or, Bool.and_eq_false_iff, Bool.true_eq_false, or_false]
  constructor
  · rintro (h | h | h | h | h | h | h) <;> simp only [h, true_or, or_true]
  · rintro ((((((h | h) | h) | h) | h) | h) | h) <;> simp only [h, true_or, or_true]
end Mg

set_option maxHeartbeats 4000000 in
theorem parse_i (s : ByteArray) (w : World) (hs : s.size ≤ 1000000000) (hG : G w) :
    Calls Tryd.prog 14 #[.string s] w fun e w' => e = .returned (.tuple #[.agg (Mg.cells (Mg.parse s.data.toList).2), .int .i64 (Mg.parse s.data.toList).1]) ∧ Below w.heap.size w w' := by
  obtain ⟨ws, hws⟩ : ∃ ws, Sp.splitW 32 7 s.data.toList = ws := ⟨_, rfl⟩
  obtain ⟨W0, hW0⟩ : ∃ W0, w.alloc (.cells #[.int .i64 0, .int .i64 0, .int .i64 0, .int .i64 0, .int .i64 0, .int .i64 0, .int .i64 0, .string ⟨#[]⟩] 23) = W0 := ⟨_, rfl⟩
  have hb0 : Below w.heap.size w W0 := by rw [← hW0]; exact Tx.newb _ _
  have hr0 : W0.heap[w.heap.size]? = some (.cells #[.int .i64 0, .int .i64 0, .int .i64 0, .int .i64 0, .int .i64 0, .int .i64 0, .int .i64 0, .string ⟨#[]⟩] 23 (0, 0)) := by rw [← hW0]; exact heap_alloc_new _ _
  have HW := Lib.hid hws; clear hws
  have H0 := Lib.hid hW0; clear hW0
  have HR0 := Lib.hid hr0; clear hr0
  have hG0 := hG.below hb0
  go_enter Tryd.func14, Tryd.ntmps14
  go_wp2_with fail
  rw [H0.out]
  refine (SplitN_c s 32 8 _ (by omega) (by omega) (by omega) hG0).mono ?_
  rintro e w1 ⟨v, xs, rfl, hsl, hxs, hb1⟩
  rw [show (8 : Nat) - 1 = 7 from rfl, HW.out] at hxs
  have hlen : xs.length = ws.length := by rw [← hxs, List.length_map]
  have hne : xs ≠ [] := by
    intro h0
    rw [h0] at hxs
    exact Mg.splitW_ne 32 7 s.data.toList (by rw [HW.out, ← hxs]; rfl)
  obtain ⟨b, o, c, rfl, hc1, hc2, hbl, hcell⟩ := hsl.some_ hne
  have hr1 := Tx.blk_later HR0.out hb1
  obtain ⟨hrc, hrf, hrl⟩ := Tx.blk hr1
  have hne1 : w.heap.size ≠ w1.heap.size := Nat.ne_of_lt hrl
  have hne2 : w1.heap.size ≠ w.heap.size := Nat.ne_of_gt hrl
  have HR1 := Lib.hid hr1; clear hr1
  have HX := Lib.hid hxs; clear hxs
  have HC := Lib.hid hcell; clear hcell hsl hne
  have hbw1 : Below w.heap.size w w1 := hb0.trans (hb1.mono hb0.size)
  by_cases h7 : xs.length < 7
  · have hp := Mg.parse_bad (l := s.data.toList) (by rw [HW.out]; exact .inl (by omega))
    have HP := Lib.hid hp; clear hp
    have HLn := Lib.hid hlen; clear hlen
    go_wp2
    refine bodyPost_ret (v := .tuple #[.agg #[.int .i64 0, .int .i64 0, .int .i64 0, .int .i64 0, .int .i64 0, .int .i64 0, .int .i64 0, .string ⟨#[]⟩], .int .i64 3]) (by simp [results, Tryd.results14, go_sem, hrc]) rfl ⟨by rw [HP.out]; rfl, Tx.set8 hbw1 (Nat.le_refl _) _ _ _ _ _ _ _ _⟩
  · obtain ⟨X, hX⟩ : ∃ X : Nat → ByteArray, ∀ j, X j = xs.getD j ByteArray.empty := ⟨_, fun _ => rfl⟩
    have cx : ∀ j : Nat, j < xs.length → w1.cell? ⟨b, o + j, none⟩ = some (.string (X j)) := fun j hj => by
      refine HC.out j (X j) ?_
      rw [hX, List.getD_eq_getElem?_getD, List.getElem?_eq_getElem hj]
      rfl
    have dx : ∀ j : Nat, (X j).data.toList = ws.getD j [] := fun j => by
      rw [hX, ← HX.out, List.getD_eq_getElem?_getD, List.getD_eq_getElem?_getD, List.getElem?_map]
      cases xs[j]? <;> rfl
    have hle : xs.length ≤ 8 := by rw [hlen, ← HW.out]; exact (Mg.splitW_len 32 7 _).1
    have sx : ∀ j : Nat, (X j).size ≤ 1000000000 := fun j => by
      rw [Lib.size_eq, dx, ← HW.out]
      have := Mg.getD_len 32 7 s.data.toList j
      rw [← Lib.size_eq] at this
      omega
    have x0 := cx 0 (by omega)
    have x1 := cx 1 (by omega)
    have x2 := cx 2 (by omega)
    have x3 := cx 3 (by omega)
    have x4 := cx 4 (by omega)
    have x5 := cx 5 (by omega)
    have x6 := cx 6 (by omega)
    have s7 := sx 7
    have DX := Lib.hid dx
    have SX := Lib.hid sx
    have CX := Lib.hid cx
    have HLn := Lib.hid hlen
    clear hX sx dx cx hlen
    obtain ⟨nt, hnt⟩ : ∃ nt : ByteArray, nt = if 7 < xs.length then X 7 else ⟨#[]⟩ := ⟨_, rfl⟩
    have hn7 : nt.data.toList = ws.getD 7 [] := by
      rw [hnt]
      split
      · exact DX.out 7
      · rw [List.getD_eq_getElem?_getD, List.getElem?_eq_none (by rw [← HLn.out]; omega)]
        rfl
    have HN7 := Lib.hid hn7; clear hn7
    by_cases h8 : xs.length = 8
    · rw [if_pos (by omega)] at hnt
      subst hnt
      have h8z : ((xs.length : Int) == 8) = true := by rw [h8]; rfl
      have x7 := CX.out 7 (by omega)
      have b7 : (7 : Int) < (xs.length : Int) := by omega
      by_cases hemp : (X 7).data.toList = []
      · have hp := Mg.parse_bad (l := s.data.toList) (by rw [HW.out]; unfold Mg.bad; rw [← DX.out 7, ← HLn.out]; exact .inr (.inr (.inr (.inr (.inr (.inr (.inr (.inr (.inl ⟨by omega, hemp⟩)))))))))
        have HP := Lib.hid hp; clear hp
        have hez : (X 7).toList.isEmpty = true := by rw [Lib.toList_data, hemp]; rfl
        have H8 := Lib.hid h8; clear h8 hemp
        go_wp2
        refine bodyPost_ret (v := .tuple #[.agg #[.int .i64 0, .int .i64 0, .int .i64 0, .int .i64 0, .int .i64 0, .int .i64 0, .int .i64 0, .string ⟨#[]⟩], .int .i64 3]) (by simp [results, Tryd.results14, go_sem, Tx.set8a_cell HR1.out]) rfl ⟨by rw [HP.out]; rfl, Tx.set8a hbw1 (Nat.le_refl _) _ _ _ _ _ _ _ _ _⟩
      · have hez : (X 7).toList.isEmpty = false := by rw [Lib.toList_data]; simpa using hemp
        have H8 := Lib.hid h8; clear h8 hemp
        cases hnb : Mg.noteB (X 7).data.toList with
        | false =>
          have hp := Mg.parse_bad (l := s.data.toList) (by rw [HW.out]; unfold Mg.bad; rw [← DX.out 7]; exact .inr (.inr (.inr (.inr (.inr (.inr (.inr (.inr (.inr hnb)))))))))
          have HP := Lib.hid hp; clear hp
          have HNB := Lib.hid hnb; clear hnb
          have hG1 := (hG0.below hb1).below (Tx.newb w1 (.cells #[.int .i64 0, .int .i64 0, .int .i64 0, .int .i64 0, .int .i64 0, .int .i64 0, .int .i64 0, .string (X 7)] 23))
          go_wp2_with (go_at_call 20; go_must (refine (clean_i _ _ s7 hG1).mono ?_; rintro e w2 ⟨rfl, hb2⟩; rw [HNB.out]; have hb3 := Tx.step (Tx.newb w1 _) hb2; obtain ⟨hc3, hf3⟩ := Tx.later hb3 hrl))
          refine bodyPost_ret (v := .tuple #[.agg #[.int .i64 0, .int .i64 0, .int .i64 0, .int .i64 0, .int .i64 0, .int .i64 0, .int .i64 0, .string ⟨#[]⟩], .int .i64 3]) (by simp [results, Tryd.results14, go_sem, hrc, hc3]) rfl ⟨by rw [HP.out]; rfl, Tx.set8 (hbw1.trans (hb3.mono hbw1.size)) (Nat.le_refl _) _ _ _ _ _ _ _ _⟩
        | true =>
          have HNB := Lib.hid hnb; clear hnb
          have hG1 := (hG0.below hb1).below (Tx.newb w1 (.cells #[.int .i64 0, .int .i64 0, .int .i64 0, .int .i64 0, .int .i64 0, .int .i64 0, .int .i64 0, .string (X 7)] 23))
          go_wp2_with (go_at_call 20; go_must (refine (clean_i _ _ s7 hG1).mono ?_; rintro e w2 ⟨rfl, hb2⟩; rw [HNB.out]))
          obtain ⟨nt, hnt⟩ : ∃ nt : ByteArray, X 7 = nt := ⟨_, rfl⟩
          rw [hnt] at hb2 HN7 HNB hG1 s7
          have hbn : Below w1.heap.size w1 w2 := Tx.step (Tx.newb w1 _) hb2
          have HM : Hid (w2.heap[w1.heap.size]? = some (.cells #[.int .i64 0, .int .i64 0, .int .i64 0, .int .i64 0, .int .i64 0, .int .i64 0, .int .i64 0, .string nt] 23 (0, 0))) := Lib.hid (Tx.blk_later (heap_alloc_new w1 _) hb2)
          have HMl : Hid (w1.heap.size < w2.heap.size) := Lib.hid (by have := hb2.size; simp at this; omega)
          have hnb2 : ¬ (7 < ws.length ∧ nt.data.toList = []) := fun h => by rw [Lib.toList_data, hnt, h.2] at hez; simp at hez
          have HB2 := Lib.hid hnb2; clear hnb2 hez x7 b7
          refine (names_c _).mono ?_
          rintro e w3 ⟨g, rfl, hg1, hg2, hnm, hb3⟩
          have hM3 := Tx.blk_later HM.out hb3
          have hb13 : Below w1.heap.size w1 w3 := Tx.step hbn hb3
          have hg3 : g ≠ w1.heap.size := by have := HMl.out; omega
          have hl3 : w1.heap.size < w3.heap.size := by have := HMl.out; have := hb3.size; omega
          have HM3 := Lib.hid hM3; clear hM3
          have HNM := Lib.hid hnm; clear hnm
          clear x0 x1 x2 x3 x4 x5 x6 hrc hrf
          go_wp2_with fail
          go_loopw [40] (fun iv wr => ∃ (k : Nat) (kv : Int), k ≤ 12 ∧ iv = .int .i64 k ∧ Hid (kv = if 0 < Mg.kindOf (ws.getD 4 []) ∧ Mg.kindOf (ws.getD 4 []) < k then Mg.kindOf (ws.getD 4 []) else 0) ∧ Keep w1.heap.size w3 wr ∧ wr.heap[w1.heap.size]? = some (.cells #[.int .i64 0, .int .i64 0, .int .i64 0, .int .i64 0, .int .i64 kv, .int .i64 0, .int .i64 0, .string nt] 23 (0, 0))) (fun iv _ => 12 - (intOf iv).toNat)
          case atStart => exact ⟨0, 0, by omega, rfl, Lib.hid (by rw [if_neg (by omega)]), Keep.refl _ _, HM3.out⟩
          case round =>
            obtain ⟨k, kv, hk, rfl, hkv, hkeep, hM⟩ := hrel
            obtain ⟨hMc, hMf, hMl⟩ := Tx.blk hM
            have hM' := Lib.hid hM; clear hM
            have hr := Mg.kindOf_range (ws.getD 4 [])
            obtain ⟨hbc, hbf⟩ := hkeep.cell (g := b) (by omega) (by omega)
            obtain ⟨hbc', hbf'⟩ := Tx.later hb13 hbl
            have y4 : wr.cell? ⟨b, o + 4, none⟩ = some (.string (X 4)) := by rw [hbc, hbc']; exact CX.out 4 (by omega)
            by_cases hlt : k < 12
            · have hnk : wr.cell? ⟨g, k, none⟩ = some (.string ⟨(Mg.nameOf k).toArray⟩) := by rw [(hkeep.cell (g := g) hg2 hg3).1]; exact HNM.out k hlt
              clear hbc hbf hbc' hbf'
              by_cases hk0 : k = 0
              · subst hk0
                go_wp2
                go_roundw
                case rel => exact ⟨1, kv, by omega, rfl, Lib.hid (by rw [hkv.out, if_neg (by omega), if_neg (by omega)]), hkeep, hM'.out⟩
                case measure => simp [intOf]
              · have hk1 : (0 : Int) < (k : Int) := by omega
                have hif := Mg.kindOf_iff (k := (k : Int)) (l := ws.getD 4 []) ⟨by omega, by omega⟩
                have HI := Lib.hid hif; clear hif
                have h4i : (4 : Int) < (xs.length : Int) := by omega
                cases heq : (Mg.nameOf (k : Int) == (X 4).toList) with
                | true =>
                  have hkk : Mg.kindOf (ws.getD 4 []) = k := HI.out.1 (by rw [← DX.out 4, ← Lib.toList_data]; simpa using heq)
                  have HKK := Lib.hid hkk; clear hkk
                  go_wp2
                  go_roundw
                  case rel => exact ⟨k + 1, k, by omega, by go_num, Lib.hid (by rw [HKK.out, if_pos (by omega)]), hkeep.set 4 _, Tx.blk_set hM'.out 4 _⟩
                  case measure => simp [intOf]; omega
                | false =>
                  have hkk : ¬ Mg.kindOf (ws.getD 4 []) = k := fun e => by
                    have h9 := HI.out.2 e
                    rw [Lib.toList_data, DX.out 4, h9] at heq
                    simp at heq
                  have HKK := Lib.hid hkk; clear hkk
                  go_wp2
                  go_roundw
                  case rel =>
                    refine ⟨k + 1, kv, by omega, by go_num, Lib.hid ?_, hkeep, hM'.out⟩
                    rw [hkv.out]
                    have := HKK.out
                    by_cases h9 : 0 < Mg.kindOf (ws.getD 4 []) ∧ Mg.kindOf (ws.getD 4 []) < (k : Int)
                    · rw [if_pos h9, if_pos (by omega)]
                    · rw [if_neg h9, if_neg (by omega)]
                  case measure => simp [intOf]; omega
            · have hkv2 : kv = Mg.kindOf (ws.getD 4 []) := by
                rw [hkv.out]
                split <;> omega
              have HKV := Lib.hid hkv2; clear hkv2 hbc hbf hbc' hbf' y4 hkv
              obtain ⟨wo, rfl⟩ : ∃ wo : World, wo = wr := ⟨_, rfl⟩
              have hb1r : Below w1.heap.size w1 wo := hb13.trans (hkeep.toBelow (Nat.le_refl _) (by omega))
              have hwrl := hkeep.size
              go_wp2_with fail
              obtain ⟨w4, hw4⟩ : ∃ w4, wo.alloc (.cells #[.pointer (some ⟨w1.heap.size, 0, none⟩), .pointer (some ⟨w1.heap.size, 1, none⟩), .pointer (some ⟨w1.heap.size, 2, none⟩), .pointer (some ⟨w1.heap.size, 3, none⟩), .pointer none, .pointer (some ⟨w1.heap.size, 5, none⟩), .pointer (some ⟨w1.heap.size, 6, none⟩)] 42) = w4 := ⟨_, rfl⟩
              rw [hw4]
              have hb4 : Below wo.heap.size wo w4 := by rw [← hw4]; exact Tx.newb _ _
              have hpt : ∀ i, w4.cell? ⟨wo.heap.size, i, none⟩ = (#[.pointer (some ⟨w1.heap.size, 0, none⟩), .pointer (some ⟨w1.heap.size, 1, none⟩), .pointer (some ⟨w1.heap.size, 2, none⟩), .pointer (some ⟨w1.heap.size, 3, none⟩), .pointer none, .pointer (some ⟨w1.heap.size, 5, none⟩), .pointer (some ⟨w1.heap.size, 6, none⟩)] : Array Value)[i]? := by rw [← hw4]; exact fun i => cell_of_row _ _ i _ _ (0, 0) (heap_alloc_new _ _)
              have hl4 : wo.heap.size < w4.heap.size := by rw [← hw4]; simp
              have HP4 := Lib.hid hpt; clear hpt hw4 hMc hMf
              have hM4 := Lib.hid (Tx.blk_later hM'.out hb4)
              have hb14 : Below w1.heap.size w1 w4 := Tx.step hb1r hb4
              have hM4l : w1.heap.size < w4.heap.size := by omega
              have HK4 := Lib.hid hkeep; clear hkeep
              go_loopw [8, 68] (fun ov iv wx => ∃ i : Nat, i ≤ 7 ∧ iv = .int .i64 i ∧ ov = .bool (Mg.okF ws kv i) ∧ Keep w1.heap.size w4 wx ∧ wx.heap[w1.heap.size]? = some (.cells (Mg.mc ws kv nt i) 23 (0, 0))) (fun _ iv _ => 7 - (intOf iv).toNat)
              case atStart => exact ⟨0, by omega, rfl, rfl, Keep.refl _ _, hM4.out⟩
              case round =>
                obtain ⟨i, hi, rfl, rfl, hkeep2, hMx⟩ := hrel
                have hb1x : Below w1.heap.size w1 wr := hb14.trans (hkeep2.toBelow (Nat.le_refl _) (by omega))
                have hGx := (hG0.below hb1).below hb1x
                obtain ⟨hbc, _⟩ := Tx.later hb1x hbl
                have hpc := (hkeep2.cell (g := wo.heap.size) hl4 (by omega)).1
                by_cases h7i : i < 7
                · have yi : wr.cell? ⟨b, o + i, none⟩ = some (.string (X i)) := by rw [hbc]; exact CX.out i (by omega)
                  have hpi := hpc i
                  rw [HP4.out i] at hpi
                  have hib : (i : Int) < (xs.length : Int) := by omega
                  have hni : (.tuple #[.int .i64 (((Nm.num (X i).data.toList).getD 0 : Nat) : Int), .bool (Nm.num (X i).data.toList).isSome] : Value) = .tuple #[.int .i64 (Mg.N ws i), .bool (Mg.ok ws i)] := by rw [DX.out i]; rfl
                  have HNI := Lib.hid hni; clear hni hbc hpc
                  cases hof : Mg.okF ws kv i with
                  | true =>
                    have HOF := Lib.hid hof; clear hof
                    rcases (show i = 0 ∨ i = 1 ∨ i = 2 ∨ i = 3 ∨ i = 4 ∨ i = 5 ∨ i = 6 by omega) with rfl | rfl | rfl | rfl | rfl | rfl | rfl
                    · have hMe : wr.heap[w1.heap.size]? = some (.cells #[.int .i64 0, .int .i64 0, .int .i64 0, .int .i64 0, .int .i64 kv, .int .i64 0, .int .i64 0, .string nt] 23 (0, 0)) := hMx
                      have HMe := Lib.hid hMe; clear hMe hMx
                      have hpe : wr.cell? ⟨wo.heap.size, 0, none⟩ = some (.pointer (some ⟨w1.heap.size, 0, none⟩)) := hpi
                      clear hpi
                      replace yi : wr.cell? ⟨b, o, none⟩ = some (.string (X 0)) := yi
                      go_wp2_with (go_at_call 28; go_must (refine (number_c (X 0) _ (by have := SX.out 0; omega) hGx).mono ?_; rintro e w5 ⟨rfl, hb5⟩; rw [HNI.out]; have hM5 := Tx.blk_later HMe.out hb5; obtain ⟨hc5, hf5, hl5⟩ := Tx.blk hM5; have HM5 := Lib.hid hM5; clear hM5))
                      go_roundw
                      case rel => exact ⟨1, by omega, rfl, by rw [Mg.okF, HOF.out]; first | rfl | simp, (hkeep2.below hb5).set 0 _, Tx.blk_set HM5.out 0 _⟩
                      case measure => simp [intOf]
                    · have hMe : wr.heap[w1.heap.size]? = some (.cells #[.int .i64 (Mg.N ws 0), .int .i64 0, .int .i64 0, .int .i64 0, .int .i64 kv, .int .i64 0, .int .i64 0, .string nt] 23 (0, 0)) := hMx
                      have HMe := Lib.hid hMe; clear hMe hMx
                      have hpe : wr.cell? ⟨wo.heap.size, 1, none⟩ = some (.pointer (some ⟨w1.heap.size, 1, none⟩)) := hpi
                      clear hpi
                      go_wp2_with (go_at_call 28; go_must (refine (number_c (X 1) _ (by have := SX.out 1; omega) hGx).mono ?_; rintro e w5 ⟨rfl, hb5⟩; rw [HNI.out]; have hM5 := Tx.blk_later HMe.out hb5; obtain ⟨hc5, hf5, hl5⟩ := Tx.blk hM5; have HM5 := Lib.hid hM5; clear hM5))
                      go_roundw
                      case rel => exact ⟨2, by omega, rfl, by rw [Mg.okF, HOF.out]; first | rfl | simp, (hkeep2.below hb5).set 1 _, Tx.blk_set HM5.out 1 _⟩
                      case measure => simp [intOf]
                    · have hMe : wr.heap[w1.heap.size]? = some (.cells #[.int .i64 (Mg.N ws 0), .int .i64 (Mg.N ws 1), .int .i64 0, .int .i64 0, .int .i64 kv, .int .i64 0, .int .i64 0, .string nt] 23 (0, 0)) := hMx
                      have HMe := Lib.hid hMe; clear hMe hMx
                      have hpe : wr.cell? ⟨wo.heap.size, 2, none⟩ = some (.pointer (some ⟨w1.heap.size, 2, none⟩)) := hpi
                      clear hpi
                      go_wp2_with (go_at_call 28; go_must (refine (number_c (X 2) _ (by have := SX.out 2; omega) hGx).mono ?_; rintro e w5 ⟨rfl, hb5⟩; rw [HNI.out]; have hM5 := Tx.blk_later HMe.out hb5; obtain ⟨hc5, hf5, hl5⟩ := Tx.blk hM5; have HM5 := Lib.hid hM5; clear hM5))
                      go_roundw
                      case rel => exact ⟨3, by omega, rfl, by rw [Mg.okF, HOF.out]; first | rfl | simp, (hkeep2.below hb5).set 2 _, Tx.blk_set HM5.out 2 _⟩
                      case measure => simp [intOf]
                    · have hMe : wr.heap[w1.heap.size]? = some (.cells #[.int .i64 (Mg.N ws 0), .int .i64 (Mg.N ws 1), .int .i64 (Mg.N ws 2), .int .i64 0, .int .i64 kv, .int .i64 0, .int .i64 0, .string nt] 23 (0, 0)) := hMx
                      have HMe := Lib.hid hMe; clear hMe hMx
                      have hpe : wr.cell? ⟨wo.heap.size, 3, none⟩ = some (.pointer (some ⟨w1.heap.size, 3, none⟩)) := hpi
                      clear hpi
                      go_wp2_with (go_at_call 28; go_must (refine (number_c (X 3) _ (by have := SX.out 3; omega) hGx).mono ?_; rintro e w5 ⟨rfl, hb5⟩; rw [HNI.out]; have hM5 := Tx.blk_later HMe.out hb5; obtain ⟨hc5, hf5, hl5⟩ := Tx.blk hM5; have HM5 := Lib.hid hM5; clear hM5))
                      go_roundw
                      case rel => exact ⟨4, by omega, rfl, by rw [Mg.okF, HOF.out]; first | rfl | simp, (hkeep2.below hb5).set 3 _, Tx.blk_set HM5.out 3 _⟩
                      case measure => simp [intOf]
                    · have hMe : wr.heap[w1.heap.size]? = some (.cells #[.int .i64 (Mg.N ws 0), .int .i64 (Mg.N ws 1), .int .i64 (Mg.N ws 2), .int .i64 (Mg.N ws 3), .int .i64 kv, .int .i64 0, .int .i64 0, .string nt] 23 (0, 0)) := hMx
                      have HMe := Lib.hid hMe; clear hMe hMx
                      have hpe : wr.cell? ⟨wo.heap.size, 4, none⟩ = some (.pointer none) := hpi
                      clear hpi
                      go_wp2
                      go_roundw
                      case rel => exact ⟨5, by omega, rfl, by rw [Mg.okF, HOF.out]; rfl, hkeep2, HMe.out⟩
                      case measure => simp [intOf]
                    · have hMe : wr.heap[w1.heap.size]? = some (.cells #[.int .i64 (Mg.N ws 0), .int .i64 (Mg.N ws 1), .int .i64 (Mg.N ws 2), .int .i64 (Mg.N ws 3), .int .i64 kv, .int .i64 0, .int .i64 0, .string nt] 23 (0, 0)) := hMx
                      have HMe := Lib.hid hMe; clear hMe hMx
                      have hpe : wr.cell? ⟨wo.heap.size, 5, none⟩ = some (.pointer (some ⟨w1.heap.size, 5, none⟩)) := hpi
                      clear hpi
                      go_wp2_with (go_at_call 28; go_must (refine (number_c (X 5) _ (by have := SX.out 5; omega) hGx).mono ?_; rintro e w5 ⟨rfl, hb5⟩; rw [HNI.out]; have hM5 := Tx.blk_later HMe.out hb5; obtain ⟨hc5, hf5, hl5⟩ := Tx.blk hM5; have HM5 := Lib.hid hM5; clear hM5))
                      go_roundw
                      case rel => exact ⟨6, by omega, rfl, by rw [Mg.okF, HOF.out]; first | rfl | simp, (hkeep2.below hb5).set 5 _, Tx.blk_set HM5.out 5 _⟩
                      case measure => simp [intOf]
                    · have hMe : wr.heap[w1.heap.size]? = some (.cells #[.int .i64 (Mg.N ws 0), .int .i64 (Mg.N ws 1), .int .i64 (Mg.N ws 2), .int .i64 (Mg.N ws 3), .int .i64 kv, .int .i64 (Mg.N ws 5), .int .i64 0, .string nt] 23 (0, 0)) := hMx
                      have HMe := Lib.hid hMe; clear hMe hMx
                      have hpe : wr.cell? ⟨wo.heap.size, 6, none⟩ = some (.pointer (some ⟨w1.heap.size, 6, none⟩)) := hpi
                      clear hpi
                      go_wp2_with (go_at_call 28; go_must (refine (number_c (X 6) _ (by have := SX.out 6; omega) hGx).mono ?_; rintro e w5 ⟨rfl, hb5⟩; rw [HNI.out]; have hM5 := Tx.blk_later HMe.out hb5; obtain ⟨hc5, hf5, hl5⟩ := Tx.blk hM5; have HM5 := Lib.hid hM5; clear hM5))
                      go_roundw
                      case rel => exact ⟨7, by omega, rfl, by rw [Mg.okF, HOF.out]; first | rfl | simp, (hkeep2.below hb5).set 6 _, Tx.blk_set HM5.out 6 _⟩
                      case measure => simp [intOf]
                  | false =>
                    have HOF := Lib.hid hof; clear hof
                    rcases (show i = 0 ∨ i = 1 ∨ i = 2 ∨ i = 3 ∨ i = 4 ∨ i = 5 ∨ i = 6 by omega) with rfl | rfl | rfl | rfl | rfl | rfl | rfl
                    · have hMe : wr.heap[w1.heap.size]? = some (.cells #[.int .i64 0, .int .i64 0, .int .i64 0, .int .i64 0, .int .i64 kv, .int .i64 0, .int .i64 0, .string nt] 23 (0, 0)) := hMx
                      have HMe := Lib.hid hMe; clear hMe hMx
                      have hpe : wr.cell? ⟨wo.heap.size, 0, none⟩ = some (.pointer (some ⟨w1.heap.size, 0, none⟩)) := hpi
                      clear hpi
                      replace yi : wr.cell? ⟨b, o, none⟩ = some (.string (X 0)) := yi
                      go_wp2_with (go_at_call 28; go_must (refine (number_c (X 0) _ (by have := SX.out 0; omega) hGx).mono ?_; rintro e w5 ⟨rfl, hb5⟩; rw [HNI.out]; have hM5 := Tx.blk_later HMe.out hb5; obtain ⟨hc5, hf5, hl5⟩ := Tx.blk hM5; have HM5 := Lib.hid hM5; clear hM5))
                      go_roundw
                      case rel => exact ⟨1, by omega, rfl, by rw [Mg.okF, HOF.out]; first | rfl | simp, (hkeep2.below hb5).set 0 _, Tx.blk_set HM5.out 0 _⟩
                      case measure => simp [intOf]
                    · have hMe : wr.heap[w1.heap.size]? = some (.cells #[.int .i64 (Mg.N ws 0), .int .i64 0, .int .i64 0, .int .i64 0, .int .i64 kv, .int .i64 0, .int .i64 0, .string nt] 23 (0, 0)) := hMx
                      have HMe := Lib.hid hMe; clear hMe hMx
                      have hpe : wr.cell? ⟨wo.heap.size, 1, none⟩ = some (.pointer (some ⟨w1.heap.size, 1, none⟩)) := hpi
                      clear hpi
                      go_wp2_with (go_at_call 28; go_must (refine (number_c (X 1) _ (by have := SX.out 1; omega) hGx).mono ?_; rintro e w5 ⟨rfl, hb5⟩; rw [HNI.out]; have hM5 := Tx.blk_later HMe.out hb5; obtain ⟨hc5, hf5, hl5⟩ := Tx.blk hM5; have HM5 := Lib.hid hM5; clear hM5))
                      go_roundw
                      case rel => exact ⟨2, by omega, rfl, by rw [Mg.okF, HOF.out]; first | rfl | simp, (hkeep2.below hb5).set 1 _, Tx.blk_set HM5.out 1 _⟩
                      case measure => simp [intOf]
                    · have hMe : wr.heap[w1.heap.size]? = some (.cells #[.int .i64 (Mg.N ws 0), .int .i64 (Mg.N ws 1), .int .i64 0, .int .i64 0, .int .i64 kv, .int .i64 0, .int .i64 0, .string nt] 23 (0, 0)) := hMx
                      have HMe := Lib.hid hMe; clear hMe hMx
                      have hpe : wr.cell? ⟨wo.heap.size, 2, none⟩ = some (.pointer (some ⟨w1.heap.size, 2, none⟩)) := hpi
                      clear hpi
                      go_wp2_with (go_at_call 28; go_must (refine (number_c (X 2) _ (by have := SX.out 2; omega) hGx).mono ?_; rintro e w5 ⟨rfl, hb5⟩; rw [HNI.out]; have hM5 := Tx.blk_later HMe.out hb5; obtain ⟨hc5, hf5, hl5⟩ := Tx.blk hM5; have HM5 := Lib.hid hM5; clear hM5))
                      go_roundw
                      case rel => exact ⟨3, by omega, rfl, by rw [Mg.okF, HOF.out]; first | rfl | simp, (hkeep2.below hb5).set 2 _, Tx.blk_set HM5.out 2 _⟩
                      case measure => simp [intOf]
                    · have hMe : wr.heap[w1.heap.size]? = some (.cells #[.int .i64 (Mg.N ws 0), .int .i64 (Mg.N ws 1), .int .i64 (Mg.N ws 2), .int .i64 0, .int .i64 kv, .int .i64 0, .int .i64 0, .string nt] 23 (0, 0)) := hMx
                      have HMe := Lib.hid hMe; clear hMe hMx
                      have hpe : wr.cell? ⟨wo.heap.size, 3, none⟩ = some (.pointer (some ⟨w1.heap.size, 3, none⟩)) := hpi
                      clear hpi
                      go_wp2_with (go_at_call 28; go_must (refine (number_c (X 3) _ (by have := SX.out 3; omega) hGx).mono ?_; rintro e w5 ⟨rfl, hb5⟩; rw [HNI.out]; have hM5 := Tx.blk_later HMe.out hb5; obtain ⟨hc5, hf5, hl5⟩ := Tx.blk hM5; have HM5 := Lib.hid hM5; clear hM5))
                      go_roundw
                      case rel => exact ⟨4, by omega, rfl, by rw [Mg.okF, HOF.out]; first | rfl | simp, (hkeep2.below hb5).set 3 _, Tx.blk_set HM5.out 3 _⟩
                      case measure => simp [intOf]
                    · have hMe : wr.heap[w1.heap.size]? = some (.cells #[.int .i64 (Mg.N ws 0), .int .i64 (Mg.N ws 1), .int .i64 (Mg.N ws 2), .int .i64 (Mg.N ws 3), .int .i64 kv, .int .i64 0, .int .i64 0, .string nt] 23 (0, 0)) := hMx
                      have HMe := Lib.hid hMe; clear hMe hMx
                      have hpe : wr.cell? ⟨wo.heap.size, 4, none⟩ = some (.pointer none) := hpi
                      clear hpi
                      go_wp2
                      go_roundw
                      case rel => exact ⟨5, by omega, rfl, by rw [Mg.okF, HOF.out]; rfl, hkeep2, HMe.out⟩
                      case measure => simp [intOf]
                    · have hMe : wr.heap[w1.heap.size]? = some (.cells #[.int .i64 (Mg.N ws 0), .int .i64 (Mg.N ws 1), .int .i64 (Mg.N ws 2), .int .i64 (Mg.N ws 3), .int .i64 kv, .int .i64 0, .int .i64 0, .string nt] 23 (0, 0)) := hMx
                      have HMe := Lib.hid hMe; clear hMe hMx
                      have hpe : wr.cell? ⟨wo.heap.size, 5, none⟩ = some (.pointer (some ⟨w1.heap.size, 5, none⟩)) := hpi
                      clear hpi
                      go_wp2_with (go_at_call 28; go_must (refine (number_c (X 5) _ (by have := SX.out 5; omega) hGx).mono ?_; rintro e w5 ⟨rfl, hb5⟩; rw [HNI.out]; have hM5 := Tx.blk_later HMe.out hb5; obtain ⟨hc5, hf5, hl5⟩ := Tx.blk hM5; have HM5 := Lib.hid hM5; clear hM5))
                      go_roundw
                      case rel => exact ⟨6, by omega, rfl, by rw [Mg.okF, HOF.out]; first | rfl | simp, (hkeep2.below hb5).set 5 _, Tx.blk_set HM5.out 5 _⟩
                      case measure => simp [intOf]
                    · have hMe : wr.heap[w1.heap.size]? = some (.cells #[.int .i64 (Mg.N ws 0), .int .i64 (Mg.N ws 1), .int .i64 (Mg.N ws 2), .int .i64 (Mg.N ws 3), .int .i64 kv, .int .i64 (Mg.N ws 5), .int .i64 0, .string nt] 23 (0, 0)) := hMx
                      have HMe := Lib.hid hMe; clear hMe hMx
                      have hpe : wr.cell? ⟨wo.heap.size, 6, none⟩ = some (.pointer (some ⟨w1.heap.size, 6, none⟩)) := hpi
                      clear hpi
                      go_wp2_with (go_at_call 28; go_must (refine (number_c (X 6) _ (by have := SX.out 6; omega) hGx).mono ?_; rintro e w5 ⟨rfl, hb5⟩; rw [HNI.out]; have hM5 := Tx.blk_later HMe.out hb5; obtain ⟨hc5, hf5, hl5⟩ := Tx.blk hM5; have HM5 := Lib.hid hM5; clear hM5))
                      go_roundw
                      case rel => exact ⟨7, by omega, rfl, by rw [Mg.okF, HOF.out]; first | rfl | simp, (hkeep2.below hb5).set 6 _, Tx.blk_set HM5.out 6 _⟩
                      case measure => simp [intOf]
                · obtain rfl : i = 7 := by omega
                  clear hpc hbc
                  have hMe : wr.heap[w1.heap.size]? = some (.cells #[.int .i64 (Mg.N ws 0), .int .i64 (Mg.N ws 1), .int .i64 (Mg.N ws 2), .int .i64 (Mg.N ws 3), .int .i64 kv, .int .i64 (Mg.N ws 5), .int .i64 (Mg.N ws 6), .string nt] 23 (0, 0)) := hMx
                  obtain ⟨hMc, hMf, hMl2⟩ := Tx.blk hMe
                  have HMe := Lib.hid hMe; clear hMe hMx
                  have hRx := Tx.blk_later HR1.out (hb1x.mono (Nat.le_refl _))
                  obtain ⟨hRc, hRf, hRl⟩ := Tx.blk hRx
                  have HRx := Lib.hid hRx; clear hRx
                  have hbx : Below w.heap.size w wr := hbw1.trans (hb1x.mono hbw1.size)
                  have hbad := Mg.bad_okF (ws := ws) (nt := nt) (by rw [← HLn.out]; omega) HN7.out HB2.out HNB.out
                  rw [← HKV.out] at hbad
                  cases hof : Mg.okF ws kv 7 with
                  | false =>
                    have hp := Mg.parse_bad (l := s.data.toList) (by rw [HW.out]; exact hbad.2 hof)
                    have HP := Lib.hid hp; clear hp hbad
                    have HOF := Lib.hid hof; clear hof
                    go_wp2
                    refine bodyPost_ret (v := .tuple #[.agg #[.int .i64 0, .int .i64 0, .int .i64 0, .int .i64 0, .int .i64 0, .int .i64 0, .int .i64 0, .string ⟨#[]⟩], .int .i64 3]) (by simp [results, Tryd.results14, go_sem, hRc]) rfl ⟨by rw [HP.out]; rfl, Tx.set8 hbx (Nat.le_refl _) _ _ _ _ _ _ _ _⟩
                  | true =>
                    have hnbad : ¬ Mg.bad ws := fun h => by rw [hbad.1 h] at hof; cases hof
                    have HBD := Lib.hid hnbad; clear hnbad hbad
                    have HOF := Lib.hid hof; clear hof
                    obtain ⟨R, hR⟩ : ∃ R, Mg.right (Mg.N ws 0) (Mg.N ws 1) (Mg.N ws 2) (Mg.N ws 3) kv (Mg.N ws 5) (Mg.N ws 6) nt.data.toList = R := ⟨_, rfl⟩
                    have hRM : Mg.rightM (Mg.mOf ws) = R := by rw [← hR, HKV.out, HN7.out]; rfl
                    have HR := Lib.hid hR; clear hR
                    by_cases hR0 : R = 0
                    · have hp : Mg.parse s.data.toList = (0, Mg.mOf ws) := by
                        unfold Mg.parse
                        rw [HW.out, if_neg HBD.out, hRM, if_pos hR0]
                      have HMM : Hid (Mg.cells (Mg.mOf ws) = #[.int .i64 (Mg.N ws 0), .int .i64 (Mg.N ws 1), .int .i64 (Mg.N ws 2), .int .i64 (Mg.N ws 3), .int .i64 kv, .int .i64 (Mg.N ws 5), .int .i64 (Mg.N ws 6), .string nt]) := Lib.hid (by rw [HKV.out, Tx.mk_list nt, HN7.out]; rfl)
                      have HP := Lib.hid hp; clear hp hRM
                      subst hR0
                      go_wp2_with (go_at_call 9; go_must (refine (right_i _ _ _ _ _ _ _ _ _ s7 hGx).mono ?_; rintro e w6 ⟨rfl, hbr⟩; rw [HR.out]; obtain ⟨hMc6, hMf6, hMl6⟩ := Tx.blk (Tx.blk_later HMe.out hbr); obtain ⟨hRc6, hRf6, hRl6⟩ := Tx.blk (Tx.blk_later HRx.out hbr); have hb6 := hbx.trans (hbr.mono hbx.size)))
                      refine bodyPost_ret (v := .tuple #[.agg #[.int .i64 (Mg.N ws 0), .int .i64 (Mg.N ws 1), .int .i64 (Mg.N ws 2), .int .i64 (Mg.N ws 3), .int .i64 kv, .int .i64 (Mg.N ws 5), .int .i64 (Mg.N ws 6), .string nt], .int .i64 0]) (by simp [results, Tryd.results14, go_sem, hRc6]) rfl ⟨by rw [HP.out, HMM.out], Tx.set8 hb6 (Nat.le_refl _) _ _ _ _ _ _ _ _⟩
                    · have hp : Mg.parse s.data.toList = (R, Mg.zero) := by
                        unfold Mg.parse
                        rw [HW.out, if_neg HBD.out, hRM, if_neg hR0]
                      have HP := Lib.hid hp; clear hp hRM
                      have hRz : (R != 0) = true := by simpa using hR0
                      clear hR0
                      go_wp2_with (go_at_call 9; go_must (refine (right_i _ _ _ _ _ _ _ _ _ s7 hGx).mono ?_; rintro e w6 ⟨rfl, hbr⟩; rw [HR.out]; obtain ⟨hMc6, hMf6, hMl6⟩ := Tx.blk (Tx.blk_later HMe.out hbr); obtain ⟨hRc6, hRf6, hRl6⟩ := Tx.blk (Tx.blk_later HRx.out hbr); have hb6 := hbx.trans (hbr.mono hbx.size)))
                      refine bodyPost_ret (v := .tuple #[.agg #[.int .i64 0, .int .i64 0, .int .i64 0, .int .i64 0, .int .i64 0, .int .i64 0, .int .i64 0, .string ⟨#[]⟩], .int .i64 R]) (by simp [results, Tryd.results14, go_sem, hRc6]) rfl ⟨by rw [HP.out]; rfl, Tx.set8 hb6 (Nat.le_refl _) _ _ _ _ _ _ _ _⟩
    · have hx7 : xs.length = 7 := by omega
      have h8z : ((xs.length : Int) == 8) = false := by
        rw [beq_eq_false_iff_ne]
        omega
      rw [if_neg (by omega)] at hnt
      have hl7 : ws.length = 7 := by rw [← HLn.out]; omega
      have HB2 : Hid (¬ (7 < ws.length ∧ nt.data.toList = [])) := Lib.hid (by rw [hl7]; omega)
      have HNB : Hid (Mg.noteB nt.data.toList = true) := Lib.hid (by rw [hnt]; decide)
      clear s7
      have s7 : nt.size ≤ 1000000000 := by rw [hnt]; decide
      have HNT := Lib.hid hnt
      clear hnt h8 hl7
      go_wp2_with fail
      obtain ⟨w2, hw2⟩ : ∃ w2, w1.alloc (.cells #[.int .i64 0, .int .i64 0, .int .i64 0, .int .i64 0, .int .i64 0, .int .i64 0, .int .i64 0, .string ⟨#[]⟩] 23) = w2 := ⟨_, rfl⟩
      rw [hw2]
      have hbn : Below w1.heap.size w1 w2 := by rw [← hw2]; exact Tx.newb _ _
      have HM : Hid (w2.heap[w1.heap.size]? = some (.cells #[.int .i64 0, .int .i64 0, .int .i64 0, .int .i64 0, .int .i64 0, .int .i64 0, .int .i64 0, .string nt] 23 (0, 0))) := Lib.hid (by rw [← hw2, HNT.out]; exact heap_alloc_new _ _)
      have HMl : Hid (w1.heap.size < w2.heap.size) := Lib.hid (by rw [← hw2]; simp)
      clear hw2
      refine (names_c _).mono ?_
      rintro e w3 ⟨g, rfl, hg1, hg2, hnm, hb3⟩
      have hM3 := Tx.blk_later HM.out hb3
      have hb13 : Below w1.heap.size w1 w3 := Tx.step hbn hb3
      have hg3 : g ≠ w1.heap.size := by have := HMl.out; omega
      have hl3 : w1.heap.size < w3.heap.size := by have := HMl.out; have := hb3.size; omega
      have HM3 := Lib.hid hM3; clear hM3
      have HNM := Lib.hid hnm; clear hnm
      clear x0 x1 x2 x3 x4 x5 x6 hrc hrf
      go_wp2_with fail
      go_loopw [40] (fun iv wr => ∃ (k : Nat) (kv : Int), k ≤ 12 ∧ iv = .int .i64 k ∧ Hid (kv = if 0 < Mg.kindOf (ws.getD 4 []) ∧ Mg.kindOf (ws.getD 4 []) < k then Mg.kindOf (ws.getD 4 []) else 0) ∧ Keep w1.heap.size w3 wr ∧ wr.heap[w1.heap.size]? = some (.cells #[.int .i64 0, .int .i64 0, .int .i64 0, .int .i64 0, .int .i64 kv, .int .i64 0, .int .i64 0, .string nt] 23 (0, 0))) (fun iv _ => 12 - (intOf iv).toNat)
      case atStart => exact ⟨0, 0, by omega, rfl, Lib.hid (by rw [if_neg (by omega)]), Keep.refl _ _, HM3.out⟩
      case round =>
        obtain ⟨k, kv, hk, rfl, hkv, hkeep, hM⟩ := hrel
        obtain ⟨hMc, hMf, hMl⟩ := Tx.blk hM
        have hM' := Lib.hid hM; clear hM
        have hr := Mg.kindOf_range (ws.getD 4 [])
        obtain ⟨hbc, hbf⟩ := hkeep.cell (g := b) (by omega) (by omega)
        obtain ⟨hbc', hbf'⟩ := Tx.later hb13 hbl
        have y4 : wr.cell? ⟨b, o + 4, none⟩ = some (.string (X 4)) := by rw [hbc, hbc']; exact CX.out 4 (by omega)
        by_cases hlt : k < 12
        · have hnk : wr.cell? ⟨g, k, none⟩ = some (.string ⟨(Mg.nameOf k).toArray⟩) := by rw [(hkeep.cell (g := g) hg2 hg3).1]; exact HNM.out k hlt
          clear hbc hbf hbc' hbf'
          by_cases hk0 : k = 0
          · subst hk0
            go_wp2
            go_roundw
            case rel => exact ⟨1, kv, by omega, rfl, Lib.hid (by rw [hkv.out, if_neg (by omega), if_neg (by omega)]), hkeep, hM'.out⟩
            case measure => simp [intOf]
          · have hk1 : (0 : Int) < (k : Int) := by omega
            have hif := Mg.kindOf_iff (k := (k : Int)) (l := ws.getD 4 []) ⟨by omega, by omega⟩
            have HI := Lib.hid hif; clear hif
            have h4i : (4 : Int) < (xs.length : Int) := by omega
            cases heq : (Mg.nameOf (k : Int) == (X 4).toList) with
            | true =>
              have hkk : Mg.kindOf (ws.getD 4 []) = k := HI.out.1 (by rw [← DX.out 4, ← Lib.toList_data]; simpa using heq)
              have HKK := Lib.hid hkk; clear hkk
              go_wp2
              go_roundw
              case rel => exact ⟨k + 1, k, by omega, by go_num, Lib.hid (by rw [HKK.out, if_pos (by omega)]), hkeep.set 4 _, Tx.blk_set hM'.out 4 _⟩
              case measure => simp [intOf]; omega
            | false =>
              have hkk : ¬ Mg.kindOf (ws.getD 4 []) = k := fun e => by
                have h9 := HI.out.2 e
                rw [Lib.toList_data, DX.out 4, h9] at heq
                simp at heq
              have HKK := Lib.hid hkk; clear hkk
              go_wp2
              go_roundw
              case rel =>
                refine ⟨k + 1, kv, by omega, by go_num, Lib.hid ?_, hkeep, hM'.out⟩
                rw [hkv.out]
                have := HKK.out
                by_cases h9 : 0 < Mg.kindOf (ws.getD 4 []) ∧ Mg.kindOf (ws.getD 4 []) < (k : Int)
                · rw [if_pos h9, if_pos (by omega)]
                · rw [if_neg h9, if_neg (by omega)]
              case measure => simp [intOf]; omega
        · have hkv2 : kv = Mg.kindOf (ws.getD 4 []) := by
            rw [hkv.out]
            split <;> omega
          have HKV := Lib.hid hkv2; clear hkv2 hbc hbf hbc' hbf' y4 hkv
          obtain ⟨wo, rfl⟩ : ∃ wo : World, wo = wr := ⟨_, rfl⟩
          have hb1r : Below w1.heap.size w1 wo := hb13.trans (hkeep.toBelow (Nat.le_refl _) (by omega))
          have hwrl := hkeep.size
          go_wp2_with fail
          obtain ⟨w4, hw4⟩ : ∃ w4, wo.alloc (.cells #[.pointer (some ⟨w1.heap.size, 0, none⟩), .pointer (some ⟨w1.heap.size, 1, none⟩), .pointer (some ⟨w1.heap.size, 2, none⟩), .pointer (some ⟨w1.heap.size, 3, none⟩), .pointer none, .pointer (some ⟨w1.heap.size, 5, none⟩), .pointer (some ⟨w1.heap.size, 6, none⟩)] 42) = w4 := ⟨_, rfl⟩
          rw [hw4]
          have hb4 : Below wo.heap.size wo w4 := by rw [← hw4]; exact Tx.newb _ _
          have hpt : ∀ i, w4.cell? ⟨wo.heap.size, i, none⟩ = (#[.pointer (some ⟨w1.heap.size, 0, none⟩), .pointer (some ⟨w1.heap.size, 1, none⟩), .pointer (some ⟨w1.heap.size, 2, none⟩), .pointer (some ⟨w1.heap.size, 3, none⟩), .pointer none, .pointer (some ⟨w1.heap.size, 5, none⟩), .pointer (some ⟨w1.heap.size, 6, none⟩)] : Array Value)[i]? := by rw [← hw4]; exact fun i => cell_of_row _ _ i _ _ (0, 0) (heap_alloc_new _ _)
          have hl4 : wo.heap.size < w4.heap.size := by rw [← hw4]; simp
          have HP4 := Lib.hid hpt; clear hpt hw4 hMc hMf
          have hM4 := Lib.hid (Tx.blk_later hM'.out hb4)
          have hb14 : Below w1.heap.size w1 w4 := Tx.step hb1r hb4
          have hM4l : w1.heap.size < w4.heap.size := by omega
          have HK4 := Lib.hid hkeep; clear hkeep
          go_loopw [8, 68] (fun ov iv wx => ∃ i : Nat, i ≤ 7 ∧ iv = .int .i64 i ∧ ov = .bool (Mg.okF ws kv i) ∧ Keep w1.heap.size w4 wx ∧ wx.heap[w1.heap.size]? = some (.cells (Mg.mc ws kv nt i) 23 (0, 0))) (fun _ iv _ => 7 - (intOf iv).toNat)
          case atStart => exact ⟨0, by omega, rfl, rfl, Keep.refl _ _, hM4.out⟩
          case round =>
            obtain ⟨i, hi, rfl, rfl, hkeep2, hMx⟩ := hrel
            have hb1x : Below w1.heap.size w1 wr := hb14.trans (hkeep2.toBelow (Nat.le_refl _) (by omega))
            have hGx := (hG0.below hb1).below hb1x
            obtain ⟨hbc, _⟩ := Tx.later hb1x hbl
            have hpc := (hkeep2.cell (g := wo.heap.size) hl4 (by omega)).1
            by_cases h7i : i < 7
            · have yi : wr.cell? ⟨b, o + i, none⟩ = some (.string (X i)) := by rw [hbc]; exact CX.out i (by omega)
              have hpi := hpc i
              rw [HP4.out i] at hpi
              have hib : (i : Int) < (xs.length : Int) := by omega
              have hni : (.tuple #[.int .i64 (((Nm.num (X i).data.toList).getD 0 : Nat) : Int), .bool (Nm.num (X i).data.toList).isSome] : Value) = .tuple #[.int .i64 (Mg.N ws i), .bool (Mg.ok ws i)] := by rw [DX.out i]; rfl
              have HNI := Lib.hid hni; clear hni hbc hpc
              cases hof : Mg.okF ws kv i with
              | true =>
                have HOF := Lib.hid hof; clear hof
                rcases (show i = 0 ∨ i = 1 ∨ i = 2 ∨ i = 3 ∨ i = 4 ∨ i = 5 ∨ i = 6 by omega) with rfl | rfl | rfl | rfl | rfl | rfl | rfl
                · have hMe : wr.heap[w1.heap.size]? = some (.cells #[.int .i64 0, .int .i64 0, .int .i64 0, .int .i64 0, .int .i64 kv, .int .i64 0, .int .i64 0, .string nt] 23 (0, 0)) := hMx
                  have HMe := Lib.hid hMe; clear hMe hMx
                  have hpe : wr.cell? ⟨wo.heap.size, 0, none⟩ = some (.pointer (some ⟨w1.heap.size, 0, none⟩)) := hpi
                  clear hpi
                  replace yi : wr.cell? ⟨b, o, none⟩ = some (.string (X 0)) := yi
                  go_wp2_with (go_at_call 28; go_must (refine (number_c (X 0) _ (by have := SX.out 0; omega) hGx).mono ?_; rintro e w5 ⟨rfl, hb5⟩; rw [HNI.out]; have hM5 := Tx.blk_later HMe.out hb5; obtain ⟨hc5, hf5, hl5⟩ := Tx.blk hM5; have HM5 := Lib.hid hM5; clear hM5))
                  go_roundw
                  case rel => exact ⟨1, by omega, rfl, by rw [Mg.okF, HOF.out]; first | rfl | simp, (hkeep2.below hb5).set 0 _, Tx.blk_set HM5.out 0 _⟩
                  case measure => simp [intOf]
                · have hMe : wr.heap[w1.heap.size]? = some (.cells #[.int .i64 (Mg.N ws 0), .int .i64 0, .int .i64 0, .int .i64 0, .int .i64 kv, .int .i64 0, .int .i64 0, .string nt] 23 (0, 0)) := hMx
                  have HMe := Lib.hid hMe; clear hMe hMx
                  have hpe : wr.cell? ⟨wo.heap.size, 1, none⟩ = some (.pointer (some ⟨w1.heap.size, 1, none⟩)) := hpi
                  clear hpi
                  go_wp2_with (go_at_call 28; go_must (refine (number_c (X 1) _ (by have := SX.out 1; omega) hGx).mono ?_; rintro e w5 ⟨rfl, hb5⟩; rw [HNI.out]; have hM5 := Tx.blk_later HMe.out hb5; obtain ⟨hc5, hf5, hl5⟩ := Tx.blk hM5; have HM5 := Lib.hid hM5; clear hM5))
                  go_roundw
                  case rel => exact ⟨2, by omega, rfl, by rw [Mg.okF, HOF.out]; first | rfl | simp, (hkeep2.below hb5).set 1 _, Tx.blk_set HM5.out 1 _⟩
                  case measure => simp [intOf]
                · have hMe : wr.heap[w1.heap.size]? = some (.cells #[.int .i64 (Mg.N ws 0), .int .i64 (Mg.N ws 1), .int .i64 0, .int .i64 0, .int .i64 kv, .int .i64 0, .int .i64 0, .string nt] 23 (0, 0)) := hMx
                  have HMe := Lib.hid hMe; clear hMe hMx
                  have hpe : wr.cell? ⟨wo.heap.size, 2, none⟩ = some (.pointer (some ⟨w1.heap.size, 2, none⟩)) := hpi
                  clear hpi
                  go_wp2_with (go_at_call 28; go_must (refine (number_c (X 2) _ (by have := SX.out 2; omega) hGx).mono ?_; rintro e w5 ⟨rfl, hb5⟩; rw [HNI.out]; have hM5 := Tx.blk_later HMe.out hb5; obtain ⟨hc5, hf5, hl5⟩ := Tx.blk hM5; have HM5 := Lib.hid hM5; clear hM5))
                  go_roundw
                  case rel => exact ⟨3, by omega, rfl, by rw [Mg.okF, HOF.out]; first | rfl | simp, (hkeep2.below hb5).set 2 _, Tx.blk_set HM5.out 2 _⟩
                  case measure => simp [intOf]
                · have hMe : wr.heap[w1.heap.size]? = some (.cells #[.int .i64 (Mg.N ws 0), .int .i64 (Mg.N ws 1), .int .i64 (Mg.N ws 2), .int .i64 0, .int .i64 kv, .int .i64 0, .int .i64 0, .string nt] 23 (0, 0)) := hMx
                  have HMe := Lib.hid hMe; clear hMe hMx
                  have hpe : wr.cell? ⟨wo.heap.size, 3, none⟩ = some (.pointer (some ⟨w1.heap.size, 3, none⟩)) := hpi
                  clear hpi
                  go_wp2_with (go_at_call 28; go_must (refine (number_c (X 3) _ (by have := SX.out 3; omega) hGx).mono ?_; rintro e w5 ⟨rfl, hb5⟩; rw [HNI.out]; have hM5 := Tx.blk_later HMe.out hb5; obtain ⟨hc5, hf5, hl5⟩ := Tx.blk hM5; have HM5 := Lib.hid hM5; clear hM5))
                  go_roundw
                  case rel => exact ⟨4, by omega, rfl, by rw [Mg.okF, HOF.out]; first | rfl | simp, (hkeep2.below hb5).set 3 _, Tx.blk_set HM5.out 3 _⟩
                  case measure => simp [intOf]
                · have hMe : wr.heap[w1.heap.size]? = some (.cells #[.int .i64 (Mg.N ws 0), .int .i64 (Mg.N ws 1), .int .i64 (Mg.N ws 2), .int .i64 (Mg.N ws 3), .int .i64 kv, .int .i64 0, .int .i64 0, .string nt] 23 (0, 0)) := hMx
                  have HMe := Lib.hid hMe; clear hMe hMx
                  have hpe : wr.cell? ⟨wo.heap.size, 4, none⟩ = some (.pointer none) := hpi
                  clear hpi
                  go_wp2
                  go_roundw
                  case rel => exact ⟨5, by omega, rfl, by rw [Mg.okF, HOF.out]; rfl, hkeep2, HMe.out⟩
                  case measure => simp [intOf]
                · have hMe : wr.heap[w1.heap.size]? = some (.cells #[.int .i64 (Mg.N ws 0), .int .i64 (Mg.N ws 1), .int .i64 (Mg.N ws 2), .int .i64 (Mg.N ws 3), .int .i64 kv, .int .i64 0, .int .i64 0, .string nt] 23 (0, 0)) := hMx
                  have HMe := Lib.hid hMe; clear hMe hMx
                  have hpe : wr.cell? ⟨wo.heap.size, 5, none⟩ = some (.pointer (some ⟨w1.heap.size, 5, none⟩)) := hpi
                  clear hpi
                  go_wp2_with (go_at_call 28; go_must (refine (number_c (X 5) _ (by have := SX.out 5; omega) hGx).mono ?_; rintro e w5 ⟨rfl, hb5⟩; rw [HNI.out]; have hM5 := Tx.blk_later HMe.out hb5; obtain ⟨hc5, hf5, hl5⟩ := Tx.blk hM5; have HM5 := Lib.hid hM5; clear hM5))
                  go_roundw
                  case rel => exact ⟨6, by omega, rfl, by rw [Mg.okF, HOF.out]; first | rfl | simp, (hkeep2.below hb5).set 5 _, Tx.blk_set HM5.out 5 _⟩
                  case measure => simp [intOf]
                · have hMe : wr.heap[w1.heap.size]? = some (.cells #[.int .i64 (Mg.N ws 0), .int .i64 (Mg.N ws 1), .int .i64 (Mg.N ws 2), .int .i64 (Mg.N ws 3), .int .i64 kv, .int .i64 (Mg.N ws 5), .int .i64 0, .string nt] 23 (0, 0)) := hMx
                  have HMe := Lib.hid hMe; clear hMe hMx
                  have hpe : wr.cell? ⟨wo.heap.size, 6, none⟩ = some (.pointer (some ⟨w1.heap.size, 6, none⟩)) := hpi
                  clear hpi
                  go_wp2_with (go_at_call 28; go_must (refine (number_c (X 6) _ (by have := SX.out 6; omega) hGx).mono ?_; rintro e w5 ⟨rfl, hb5⟩; rw [HNI.out]; have hM5 := Tx.blk_later HMe.out hb5; obtain ⟨hc5, hf5, hl5⟩ := Tx.blk hM5; have HM5 := Lib.hid hM5; clear hM5))
                  go_roundw
                  case rel => exact ⟨7, by omega, rfl, by rw [Mg.okF, HOF.out]; first | rfl | simp, (hkeep2.below hb5).set 6 _, Tx.blk_set HM5.out 6 _⟩
                  case measure => simp [intOf]
              | false =>
                have HOF := Lib.hid hof; clear hof
                rcases (show i = 0 ∨ i = 1 ∨ i = 2 ∨ i = 3 ∨ i = 4 ∨ i = 5 ∨ i = 6 by omega) with rfl | rfl | rfl | rfl | rfl | rfl | rfl
                · have hMe : wr.heap[w1.heap.size]? = some (.cells #[.int .i64 0, .int .i64 0, .int .i64 0, .int .i64 0, .int .i64 kv, .int .i64 0, .int .i64 0, .string nt] 23 (0, 0)) := hMx
                  have HMe := Lib.hid hMe; clear hMe hMx
                  have hpe : wr.cell? ⟨wo.heap.size, 0, none⟩ = some (.pointer (some ⟨w1.heap.size, 0, none⟩)) := hpi
                  clear hpi
                  replace yi : wr.cell? ⟨b, o, none⟩ = some (.string (X 0)) := yi
                  go_wp2_with (go_at_call 28; go_must (refine (number_c (X 0) _ (by have := SX.out 0; omega) hGx).mono ?_; rintro e w5 ⟨rfl, hb5⟩; rw [HNI.out]; have hM5 := Tx.blk_later HMe.out hb5; obtain ⟨hc5, hf5, hl5⟩ := Tx.blk hM5; have HM5 := Lib.hid hM5; clear hM5))
                  go_roundw
                  case rel => exact ⟨1, by omega, rfl, by rw [Mg.okF, HOF.out]; first | rfl | simp, (hkeep2.below hb5).set 0 _, Tx.blk_set HM5.out 0 _⟩
                  case measure => simp [intOf]
                · have hMe : wr.heap[w1.heap.size]? = some (.cells #[.int .i64 (Mg.N ws 0), .int .i64 0, .int .i64 0, .int .i64 0, .int .i64 kv, .int .i64 0, .int .i64 0, .string nt] 23 (0, 0)) := hMx
                  have HMe := Lib.hid hMe; clear hMe hMx
                  have hpe : wr.cell? ⟨wo.heap.size, 1, none⟩ = some (.pointer (some ⟨w1.heap.size, 1, none⟩)) := hpi
                  clear hpi
                  go_wp2_with (go_at_call 28; go_must (refine (number_c (X 1) _ (by have := SX.out 1; omega) hGx).mono ?_; rintro e w5 ⟨rfl, hb5⟩; rw [HNI.out]; have hM5 := Tx.blk_later HMe.out hb5; obtain ⟨hc5, hf5, hl5⟩ := Tx.blk hM5; have HM5 := Lib.hid hM5; clear hM5))
                  go_roundw
                  case rel => exact ⟨2, by omega, rfl, by rw [Mg.okF, HOF.out]; first | rfl | simp, (hkeep2.below hb5).set 1 _, Tx.blk_set HM5.out 1 _⟩
                  case measure => simp [intOf]
                · have hMe : wr.heap[w1.heap.size]? = some (.cells #[.int .i64 (Mg.N ws 0), .int .i64 (Mg.N ws 1), .int .i64 0, .int .i64 0, .int .i64 kv, .int .i64 0, .int .i64 0, .string nt] 23 (0, 0)) := hMx
                  have HMe := Lib.hid hMe; clear hMe hMx
                  have hpe : wr.cell? ⟨wo.heap.size, 2, none⟩ = some (.pointer (some ⟨w1.heap.size, 2, none⟩)) := hpi
                  clear hpi
                  go_wp2_with (go_at_call 28; go_must (refine (number_c (X 2) _ (by have := SX.out 2; omega) hGx).mono ?_; rintro e w5 ⟨rfl, hb5⟩; rw [HNI.out]; have hM5 := Tx.blk_later HMe.out hb5; obtain ⟨hc5, hf5, hl5⟩ := Tx.blk hM5; have HM5 := Lib.hid hM5; clear hM5))
                  go_roundw
                  case rel => exact ⟨3, by omega, rfl, by rw [Mg.okF, HOF.out]; first | rfl | simp, (hkeep2.below hb5).set 2 _, Tx.blk_set HM5.out 2 _⟩
                  case measure => simp [intOf]
                · have hMe : wr.heap[w1.heap.size]? = some (.cells #[.int .i64 (Mg.N ws 0), .int .i64 (Mg.N ws 1), .int .i64 (Mg.N ws 2), .int .i64 0, .int .i64 kv, .int .i64 0, .int .i64 0, .string nt] 23 (0, 0)) := hMx
                  have HMe := Lib.hid hMe; clear hMe hMx
                  have hpe : wr.cell? ⟨wo.heap.size, 3, none⟩ = some (.pointer (some ⟨w1.heap.size, 3, none⟩)) := hpi
                  clear hpi
                  go_wp2_with (go_at_call 28; go_must (refine (number_c (X 3) _ (by have := SX.out 3; omega) hGx).mono ?_; rintro e w5 ⟨rfl, hb5⟩; rw [HNI.out]; have hM5 := Tx.blk_later HMe.out hb5; obtain ⟨hc5, hf5, hl5⟩ := Tx.blk hM5; have HM5 := Lib.hid hM5; clear hM5))
                  go_roundw
                  case rel => exact ⟨4, by omega, rfl, by rw [Mg.okF, HOF.out]; first | rfl | simp, (hkeep2.below hb5).set 3 _, Tx.blk_set HM5.out 3 _⟩
                  case measure => simp [intOf]
                · have hMe : wr.heap[w1.heap.size]? = some (.cells #[.int .i64 (Mg.N ws 0), .int .i64 (Mg.N ws 1), .int .i64 (Mg.N ws 2), .int .i64 (Mg.N ws 3), .int .i64 kv, .int .i64 0, .int .i64 0, .string nt] 23 (0, 0)) := hMx
                  have HMe := Lib.hid hMe; clear hMe hMx
                  have hpe : wr.cell? ⟨wo.heap.size, 4, none⟩ = some (.pointer none) := hpi
                  clear hpi
                  go_wp2
                  go_roundw
                  case rel => exact ⟨5, by omega, rfl, by rw [Mg.okF, HOF.out]; rfl, hkeep2, HMe.out⟩
                  case measure => simp [intOf]
                · have hMe : wr.heap[w1.heap.size]? = some (.cells #[.int .i64 (Mg.N ws 0), .int .i64 (Mg.N ws 1), .int .i64 (Mg.N ws 2), .int .i64 (Mg.N ws 3), .int .i64 kv, .int .i64 0, .int .i64 0, .string nt] 23 (0, 0)) := hMx
                  have HMe := Lib.hid hMe; clear hMe hMx
                  have hpe : wr.cell? ⟨wo.heap.size, 5, none⟩ = some (.pointer (some ⟨w1.heap.size, 5, none⟩)) := hpi
                  clear hpi
                  go_wp2_with (go_at_call 28; go_must (refine (number_c (X 5) _ (by have := SX.out 5; omega) hGx).mono ?_; rintro e w5 ⟨rfl, hb5⟩; rw [HNI.out]; have hM5 := Tx.blk_later HMe.out hb5; obtain ⟨hc5, hf5, hl5⟩ := Tx.blk hM5; have HM5 := Lib.hid hM5; clear hM5))
                  go_roundw
                  case rel => exact ⟨6, by omega, rfl, by rw [Mg.okF, HOF.out]; first | rfl | simp, (hkeep2.below hb5).set 5 _, Tx.blk_set HM5.out 5 _⟩
                  case measure => simp [intOf]
                · have hMe : wr.heap[w1.heap.size]? = some (.cells #[.int .i64 (Mg.N ws 0), .int .i64 (Mg.N ws 1), .int .i64 (Mg.N ws 2), .int .i64 (Mg.N ws 3), .int .i64 kv, .int .i64 (Mg.N ws 5), .int .i64 0, .string nt] 23 (0, 0)) := hMx
                  have HMe := Lib.hid hMe; clear hMe hMx
                  have hpe : wr.cell? ⟨wo.heap.size, 6, none⟩ = some (.pointer (some ⟨w1.heap.size, 6, none⟩)) := hpi
                  clear hpi
                  go_wp2_with (go_at_call 28; go_must (refine (number_c (X 6) _ (by have := SX.out 6; omega) hGx).mono ?_; rintro e w5 ⟨rfl, hb5⟩; rw [HNI.out]; have hM5 := Tx.blk_later HMe.out hb5; obtain ⟨hc5, hf5, hl5⟩ := Tx.blk hM5; have HM5 := Lib.hid hM5; clear hM5))
                  go_roundw
                  case rel => exact ⟨7, by omega, rfl, by rw [Mg.okF, HOF.out]; first | rfl | simp, (hkeep2.below hb5).set 6 _, Tx.blk_set HM5.out 6 _⟩
                  case measure => simp [intOf]
            · obtain rfl : i = 7 := by omega
              clear hpc hbc
              have hMe : wr.heap[w1.heap.size]? = some (.cells #[.int .i64 (Mg.N ws 0), .int .i64 (Mg.N ws 1), .int .i64 (Mg.N ws 2), .int .i64 (Mg.N ws 3), .int .i64 kv, .int .i64 (Mg.N ws 5), .int .i64 (Mg.N ws 6), .string nt] 23 (0, 0)) := hMx
              obtain ⟨hMc, hMf, hMl2⟩ := Tx.blk hMe
              have HMe := Lib.hid hMe; clear hMe hMx
              have hRx := Tx.blk_later HR1.out (hb1x.mono (Nat.le_refl _))
              obtain ⟨hRc, hRf, hRl⟩ := Tx.blk hRx
              have HRx := Lib.hid hRx; clear hRx
              have hbx : Below w.heap.size w wr := hbw1.trans (hb1x.mono hbw1.size)
              have hbad := Mg.bad_okF (ws := ws) (nt := nt) (by rw [← HLn.out]; omega) HN7.out HB2.out HNB.out
              rw [← HKV.out] at hbad
              cases hof : Mg.okF ws kv 7 with
              | false =>
                have hp := Mg.parse_bad (l := s.data.toList) (by rw [HW.out]; exact hbad.2 hof)
                have HP := Lib.hid hp; clear hp hbad
                have HOF := Lib.hid hof; clear hof
                go_wp2
                refine bodyPost_ret (v := .tuple #[.agg #[.int .i64 0, .int .i64 0, .int .i64 0, .int .i64 0, .int .i64 0, .int .i64 0, .int .i64 0, .string ⟨#[]⟩], .int .i64 3]) (by simp [results, Tryd.results14, go_sem, hRc]) rfl ⟨by rw [HP.out]; rfl, Tx.set8 hbx (Nat.le_refl _) _ _ _ _ _ _ _ _⟩
              | true =>
                have hnbad : ¬ Mg.bad ws := fun h => by rw [hbad.1 h] at hof; cases hof
                have HBD := Lib.hid hnbad; clear hnbad hbad
                have HOF := Lib.hid hof; clear hof
                obtain ⟨R, hR⟩ : ∃ R, Mg.right (Mg.N ws 0) (Mg.N ws 1) (Mg.N ws 2) (Mg.N ws 3) kv (Mg.N ws 5) (Mg.N ws 6) nt.data.toList = R := ⟨_, rfl⟩
                have hRM : Mg.rightM (Mg.mOf ws) = R := by rw [← hR, HKV.out, HN7.out]; rfl
                have HR := Lib.hid hR; clear hR
                by_cases hR0 : R = 0
                · have hp : Mg.parse s.data.toList = (0, Mg.mOf ws) := by
                    unfold Mg.parse
                    rw [HW.out, if_neg HBD.out, hRM, if_pos hR0]
                  have HMM : Hid (Mg.cells (Mg.mOf ws) = #[.int .i64 (Mg.N ws 0), .int .i64 (Mg.N ws 1), .int .i64 (Mg.N ws 2), .int .i64 (Mg.N ws 3), .int .i64 kv, .int .i64 (Mg.N ws 5), .int .i64 (Mg.N ws 6), .string nt]) := Lib.hid (by rw [HKV.out, Tx.mk_list nt, HN7.out]; rfl)
                  have HP := Lib.hid hp; clear hp hRM
                  subst hR0
                  go_wp2_with (go_at_call 9; go_must (refine (right_i _ _ _ _ _ _ _ _ _ s7 hGx).mono ?_; rintro e w6 ⟨rfl, hbr⟩; rw [HR.out]; obtain ⟨hMc6, hMf6, hMl6⟩ := Tx.blk (Tx.blk_later HMe.out hbr); obtain ⟨hRc6, hRf6, hRl6⟩ := Tx.blk (Tx.blk_later HRx.out hbr); have hb6 := hbx.trans (hbr.mono hbx.size)))
                  refine bodyPost_ret (v := .tuple #[.agg #[.int .i64 (Mg.N ws 0), .int .i64 (Mg.N ws 1), .int .i64 (Mg.N ws 2), .int .i64 (Mg.N ws 3), .int .i64 kv, .int .i64 (Mg.N ws 5), .int .i64 (Mg.N ws 6), .string nt], .int .i64 0]) (by simp [results, Tryd.results14, go_sem, hRc6]) rfl ⟨by rw [HP.out, HMM.out], Tx.set8 hb6 (Nat.le_refl _) _ _ _ _ _ _ _ _⟩
                · have hp : Mg.parse s.data.toList = (R, Mg.zero) := by
                    unfold Mg.parse
                    rw [HW.out, if_neg HBD.out, hRM, if_neg hR0]
                  have HP := Lib.hid hp; clear hp hRM
                  have hRz : (R != 0) = true := by simpa using hR0
                  clear hR0
                  go_wp2_with (go_at_call 9; go_must (refine (right_i _ _ _ _ _ _ _ _ _ s7 hGx).mono ?_; rintro e w6 ⟨rfl, hbr⟩; rw [HR.out]; obtain ⟨hMc6, hMf6, hMl6⟩ := Tx.blk (Tx.blk_later HMe.out hbr); obtain ⟨hRc6, hRf6, hRl6⟩ := Tx.blk (Tx.blk_later HRx.out hbr); have hb6 := hbx.trans (hbr.mono hbx.size)))
                  refine bodyPost_ret (v := .tuple #[.agg #[.int .i64 0, .int .i64 0, .int .i64 0, .int .i64 0, .int .i64 0, .int .i64 0, .int .i64 0, .string ⟨#[]⟩], .int .i64 R]) (by simp [results, Tryd.results14, go_sem, hRc6]) rfl ⟨by rw [HP.out]; rfl, Tx.set8 hb6 (Nat.le_refl _) _ _ _ _ _ _ _ _⟩
end Go.Proofs.YtbacgfokgphgeaaDoor
