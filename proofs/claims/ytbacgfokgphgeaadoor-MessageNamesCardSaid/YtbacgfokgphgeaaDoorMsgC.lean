/- Layer 41: the line of a message: what Print returns, of the program and of the reference. -/
import Derived.Test.YtbacgfokgphgeaaDoorMsgB
namespace Go.Proofs.YtbacgfokgphgeaaDoor
open Go.RowKit
set_option maxRecDepth 100000

namespace Mg
def parts (f t r s k rc d : Int) : List (List UInt8) := [Lib.itoa f, Lib.itoa t, Lib.itoa r, Lib.itoa s, nameOf k, Lib.itoa rc, Lib.itoa d]
/-- The line of a message. -/
def line (f t r s k rc d : Int) (n : List UInt8) : List UInt8 := Lib.join (parts f t r s k rc d ++ if n = [] then [] else [n]) [32]
theorem line_none (f t r s k rc d : Int) : line f t r s k rc d [] = Lib.itoa f ++ [32] ++ Lib.itoa t ++ [32] ++ Lib.itoa r ++ [32] ++ Lib.itoa s ++ [32] ++ nameOf k ++ [32] ++ Lib.itoa rc ++ [32] ++ Lib.itoa d := by
  unfold line parts
  rw [if_pos rfl, List.append_nil, Lib.join_cons]
  simp [Lib.joinTail]
theorem line_some (f t r s k rc d : Int) (n : List UInt8) (h : n ≠ []) : line f t r s k rc d n = line f t r s k rc d [] ++ [32] ++ n := by
  rw [line_none]
  unfold line parts
  rw [if_neg h, List.cons_append, Lib.join_cons]
  simp [Lib.joinTail]
end Mg

theorem r11_Decimal_int (n : Int) (w : World) (h0 : 0 ≤ n) (h1 : n ≤ 1000000000000) :
    Calls Tryd.prog 40 #[.int .i64 n] w fun e w' => e = .returned (.string ⟨(Lib.itoa n).toArray⟩) ∧ Below w.heap.size w w' := by
  obtain ⟨m, rfl⟩ := Int.eq_ofNat_of_zero_le h0
  rw [Nm.itoa_nat]
  exact r11_Decimal_c m w (by omega)

/-- What a chain of concatenations gives, one fact a '+'. -/
def Tx.Adds (P : Program) : ByteArray → List ByteArray → Prop
  | _, [] => True
  | a, b :: l => (∀ W, (Op.stringOp .add a b).run P W = .ok (.string (a ++ b)) W) ∧ Tx.Adds P (a ++ b) l
theorem Tx.adds_ok (P : Program) : ∀ (l : List ByteArray) (a : ByteArray), a.size + (l.map (·.size)).sum ≤ 9223372036854775807 → Tx.Adds P a l
  | [], _, _ => trivial
  | b :: l, a, h => by
    rw [List.map_cons, List.sum_cons] at h
    exact ⟨fun W => run_string_add_sum W a b (by omega), Tx.adds_ok P l (a ++ b) (by rw [ByteArray.size_append]; omega)⟩
theorem Tx.size_mk (l : List UInt8) : (⟨l.toArray⟩ : ByteArray).size = l.length := by simp [ByteArray.size]

theorem Tx.step {W wi w1 : World} (h : Below W.heap.size W wi) (hb : Below wi.heap.size wi w1) : Below W.heap.size W w1 := h.trans (hb.mono h.size)

set_option maxHeartbeats 1000000 in
theorem line_r (f t r s k rc d : Int) (n : ByteArray) (w : World) (hs : n.size ≤ 1000000000) (h1 : 0 ≤ f ∧ f ≤ 1000000000000) (h2 : 0 ≤ t ∧ t ≤ 1000000000000) (h3 : 0 ≤ r ∧ r ≤ 1000000000000) (h4 : 0 ≤ s ∧ s ≤ 1000000000000) (h5 : 0 ≤ rc ∧ rc ≤ 1000000000000) (h6 : 0 ≤ d ∧ d ≤ 1000000000000) :
    Calls Tryd.prog 25 #[.agg #[.int .i64 f, .int .i64 t, .int .i64 r, .int .i64 s, .int .i64 k, .int .i64 rc, .int .i64 d, .string n]] w fun e w' => e = .returned (.string ⟨(Mg.line f t r s k rc d n.data.toList).toArray⟩) ∧ Below w.heap.size w w' := by
  obtain ⟨W, hW⟩ : ∃ W, w.alloc (.cells #[.int .i64 f, .int .i64 t, .int .i64 r, .int .i64 s, .int .i64 k, .int .i64 rc, .int .i64 d, .string n] 23) = W := ⟨_, rfl⟩
  have h0 : Below w.heap.size w W := by rw [← hW]; exact (Below.refl w.heap.size w).alloc (Nat.le_refl _) _
  have c0 : W.cell? ⟨w.heap.size, 0, none⟩ = some (.int .i64 f) := by rw [← hW]; simp
  have c1 : W.cell? ⟨w.heap.size, 1, none⟩ = some (.int .i64 t) := by rw [← hW]; simp
  have c2 : W.cell? ⟨w.heap.size, 2, none⟩ = some (.int .i64 r) := by rw [← hW]; simp
  have c3 : W.cell? ⟨w.heap.size, 3, none⟩ = some (.int .i64 s) := by rw [← hW]; simp
  have c4 : W.cell? ⟨w.heap.size, 4, none⟩ = some (.int .i64 k) := by rw [← hW]; simp
  have c5 : W.cell? ⟨w.heap.size, 5, none⟩ = some (.int .i64 rc) := by rw [← hW]; simp
  have c6 : W.cell? ⟨w.heap.size, 6, none⟩ = some (.int .i64 d) := by rw [← hW]; simp
  have c7 : W.cell? ⟨w.heap.size, 7, none⟩ = some (.string n) := by rw [← hW]; simp
  have HW := Lib.hid hW; clear hW
  have l1 := Nm.itoa_len h1.1 (by omega)
  have l2 := Nm.itoa_len h2.1 (by omega)
  have l3 := Nm.itoa_len h3.1 (by omega)
  have l4 := Nm.itoa_len h4.1 (by omega)
  have l5 := Nm.itoa_len h5.1 (by omega)
  have l6 := Nm.itoa_len h6.1 (by omega)
  have l7 := Mg.nameOf_len k
  obtain ⟨a1, a2, a3, a4, a5, a6, a7, a8, a9, a10, a11, a12, hx⟩ := Tx.adds_ok Tryd.prog [⟨#[32]⟩, ⟨(Lib.itoa t).toArray⟩, ⟨#[32]⟩, ⟨(Lib.itoa r).toArray⟩, ⟨#[32]⟩, ⟨(Lib.itoa s).toArray⟩, ⟨#[32]⟩, ⟨(Mg.nameOf k).toArray⟩, ⟨#[32]⟩, ⟨(Lib.itoa rc).toArray⟩, ⟨#[32]⟩, ⟨(Lib.itoa d).toArray⟩] ⟨(Lib.itoa f).toArray⟩ (by simp only [List.map_cons, List.map_nil, List.sum_cons, List.sum_nil, Tx.size_mk]; simp; omega)
  go_enter Tryd.func25, Tryd.ntmps25
  go_wp2
  rw [HW.out]
  go_region_held3 (fun w' => Below W.heap.size W w' ∧ w'.cell? ⟨w.heap.size, 0, none⟩ = some (.int .i64 f) ∧ w'.cell? ⟨w.heap.size, 1, none⟩ = some (.int .i64 t) ∧ w'.cell? ⟨w.heap.size, 2, none⟩ = some (.int .i64 r) ∧ w'.cell? ⟨w.heap.size, 3, none⟩ = some (.int .i64 s) ∧ w'.cell? ⟨w.heap.size, 4, none⟩ = some (.int .i64 k) ∧ w'.cell? ⟨w.heap.size, 5, none⟩ = some (.int .i64 rc) ∧ w'.cell? ⟨w.heap.size, 6, none⟩ = some (.int .i64 d) ∧ w'.cell? ⟨w.heap.size, 7, none⟩ = some (.string n))
    (first
      | exact ⟨(Below.refl _ _).drew, c0, c1, c2, c3, c4, c5, c6, c7⟩
      | (go_split_ands; exact ⟨Tx.step (by assumption) hbc, cell_later hbc (by assumption), cell_later hbc (by assumption), cell_later hbc (by assumption), cell_later hbc (by assumption), cell_later hbc (by assumption), cell_later hbc (by assumption), cell_later hbc (by assumption), cell_later hbc (by assumption)⟩))
    (first
      | (go_at_call 40; refine (r11_Decimal_int _ _ (by omega) (by omega)).mono ?_; rintro e w1 ⟨rfl, hbc⟩)
      | (go_at_call 17; refine (name_r _ _).mono ?_; rintro e w1 ⟨rfl, hbc⟩))
  clear a1 a2 a3 a4 a5 a6 a7 a8 a9 a10 a11 a12 hx
  go_split_ands
  have hbw : Below W.heap.size W w1 := by assumption
  go_wp2
  · have hn : n.data.toList ≠ [] := by
      have h : (!n.toList.isEmpty) = true := by assumption
      rw [Lib.toList_data] at h
      simpa using h
    go_ret
    exact ⟨Tx.rets (by simp only [Tx.bcat]; rw [Mg.line_some _ _ _ _ _ _ _ _ hn, Mg.line_none]), h0.trans (hbw.mono h0.size)⟩
  · have hn : n.data.toList = [] := by
      have h : (!n.toList.isEmpty) = false := by assumption
      rw [Lib.toList_data] at h
      simpa using h
    go_ret
    exact ⟨Tx.rets (by simp only [Tx.bcat]; rw [hn, Mg.line_none]), h0.trans (hbw.mono h0.size)⟩

/-- What Right says of the numbers of a message. -/
theorem Mg.right_zero {f t r s k rc d : Int} {n : List UInt8} (h : Mg.right f t r s k rc d n = 0) : (1 ≤ f ∧ f ≤ 4) ∧ (1 ≤ t ∧ t ≤ 4) ∧ f ≠ t ∧ (1 ≤ r ∧ r ≤ 9999) ∧ (1 ≤ s ∧ s ≤ 99) ∧ (1 ≤ k ∧ k ≤ 11) ∧ (0 ≤ rc ∧ rc ≤ 9999) ∧ ¬ (k = 1 ∧ rc = 0) ∧ (0 ≤ d ∧ d ≤ 109572) ∧ Mg.noteB n = true ∧ n.length ≤ 40 := by
  unfold right at h
  simp only [inB_false] at h
  repeat' split at h
  all_goals first | (exfalso; omega) | skip
  rename_i h6 h7
  exact ⟨by omega, by omega, by omega, by omega, by omega, by omega, by omega, by omega, by omega, by simpa using h6, by omega⟩

/-- What Print returns. -/
def Mg.printS (f t r s k rc d : Int) (n : List UInt8) : List UInt8 := if Mg.right f t r s k rc d n = 0 then Mg.line f t r s k rc d n else []

set_option maxHeartbeats 1000000 in
theorem print_r (f t r s k rc d : Int) (n : ByteArray) (w : World) (hs : n.size ≤ 1000000000) :
    Calls Tryd.prog 13 #[.agg #[.int .i64 f, .int .i64 t, .int .i64 r, .int .i64 s, .int .i64 k, .int .i64 rc, .int .i64 d, .string n]] w fun e w' => e = .returned (.tuple #[.string ⟨(Mg.printS f t r s k rc d n.data.toList).toArray⟩, .int .i64 (Mg.right f t r s k rc d n.data.toList)]) ∧ Below w.heap.size w w' := by
  by_cases h : Mg.right f t r s k rc d n.data.toList = 0
  · obtain ⟨h1, h2, _, h3, h4, _, h5, _, h6, _, _⟩ := Mg.right_zero h
    have HR := Lib.hid h; clear h
    have HP : Hid (Mg.printS f t r s k rc d n.data.toList = Mg.line f t r s k rc d n.data.toList) := Lib.hid (by unfold Mg.printS; rw [if_pos HR.out])
    go_enter Tryd.func13, Tryd.ntmps13
    go_wp2_with (first
      | (go_at_call 10; refine (right_r f t r s k rc d n _ hs).mono ?_; rintro e w1 ⟨rfl, hb1⟩; rw [HR.out]; have hc := Tx.bcell hb1)
      | (go_at_call 25; refine (line_r f t r s k rc d n _ hs (by omega) (by omega) (by omega) (by omega) (by omega) (by omega)).mono ?_; rintro e w2 ⟨rfl, hb2⟩))
    go_ret2
    rw [HP.out, HR.out]
    exact ⟨rfl, (((Below.refl _ _).alloc (Nat.le_refl _) _).trans (hb1.mono (by simp))).trans (hb2.mono (by have := hb1.size; simp at this; omega))⟩
  · have HP : Hid (Mg.printS f t r s k rc d n.data.toList = []) := Lib.hid (by unfold Mg.printS; rw [if_neg h])
    have hne : (Mg.right f t r s k rc d n.data.toList != 0) = true := by simpa using h
    clear h
    obtain ⟨R, hR⟩ : ∃ R, Mg.right f t r s k rc d n.data.toList = R := ⟨_, rfl⟩
    rw [hR] at hne
    have HR := Lib.hid hR; clear hR
    go_enter Tryd.func13, Tryd.ntmps13
    go_wp2_with (go_at_call 10; refine (right_r f t r s k rc d n _ hs).mono ?_; rintro e w1 ⟨rfl, hb1⟩; rw [HR.out]; have hc := Tx.bcell hb1)
    go_ret2
    rw [HP.out, HR.out]
    exact ⟨rfl, ((Below.refl _ _).alloc (Nat.le_refl _) _).trans (hb1.mono (by simp))⟩
end Go.Proofs.YtbacgfokgphgeaaDoor
