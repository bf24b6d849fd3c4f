/- Layer 41: what the program's Print returns. -/
import Derived.Test.YtbacgfokgphgeaaDoorMsgC
import Derived.Test.YtbacgfokgphgeaaDoorSl
namespace Go.Proofs.YtbacgfokgphgeaaDoor
open Go.RowKit
set_option maxRecDepth 100000

namespace Mg
def bparts (f t r s k rc d : Int) : List ByteArray := [⟨(Lib.itoa f).toArray⟩, ⟨(Lib.itoa t).toArray⟩, ⟨(Lib.itoa r).toArray⟩, ⟨(Lib.itoa s).toArray⟩, ⟨(nameOf k).toArray⟩, ⟨(Lib.itoa rc).toArray⟩, ⟨(Lib.itoa d).toArray⟩]
theorem line_join0 (f t r s k rc d : Int) : Lib.join ((bparts f t r s k rc d).map (·.data.toList)) (⟨#[32]⟩ : ByteArray).data.toList = line f t r s k rc d [] := by
  simp [line, parts, bparts]
theorem line_join1 (f t r s k rc d : Int) (n : ByteArray) (h : n.data.toList ≠ []) : Lib.join ((bparts f t r s k rc d ++ [n]).map (·.data.toList)) (⟨#[32]⟩ : ByteArray).data.toList = line f t r s k rc d n.data.toList := by
  simp [line, parts, bparts, h]
theorem line_len {f t r s k rc d : Int} {n : List UInt8} (h : right f t r s k rc d n = 0) : (line f t r s k rc d n).length ≤ 200 := by
  obtain ⟨h1, h2, _, h3, h4, _, h5, _, h6, _, h7⟩ := right_zero h
  have l1 := Nm.itoa_len (n := f) (by omega) (by omega)
  have l2 := Nm.itoa_len (n := t) (by omega) (by omega)
  have l3 := Nm.itoa_len (n := r) (by omega) (by omega)
  have l4 := Nm.itoa_len (n := s) (by omega) (by omega)
  have l5 := Nm.itoa_len (n := rc) (by omega) (by omega)
  have l6 := Nm.itoa_len (n := d) (by omega) (by omega)
  have l7 := nameOf_len k
  by_cases hn : n = []
  · subst hn
    rw [line_none]
    simp only [List.length_append, List.length_cons, List.length_nil]
    omega
  · rw [line_some _ _ _ _ _ _ _ _ hn, line_none]
    simp only [List.length_append, List.length_cons, List.length_nil]
    omega
end Mg

set_option maxHeartbeats 2000000 in
theorem print_i (f t r s k rc d : Int) (n : ByteArray) (w : World) (hs : n.size ≤ 1000000000) (hG : G w) :
    Calls Tryd.prog 12 #[.agg #[.int .i64 f, .int .i64 t, .int .i64 r, .int .i64 s, .int .i64 k, .int .i64 rc, .int .i64 d, .string n]] w fun e w' => e = .returned (.tuple #[.string ⟨(Mg.printS f t r s k rc d n.data.toList).toArray⟩, .int .i64 (Mg.right f t r s k rc d n.data.toList)]) ∧ Below w.heap.size w w' := by
  have h00 := (Below.refl w.heap.size w).alloc (Nat.le_refl _) (.cells #[.int .i64 f, .int .i64 t, .int .i64 r, .int .i64 s, .int .i64 k, .int .i64 rc, .int .i64 d, .string n] 23)
  have hG1 := hG.below h00
  by_cases h : Mg.right f t r s k rc d n.data.toList = 0
  · obtain ⟨h1, h2, _, h3, h4, _, h5, _, h6, _, _⟩ := Mg.right_zero h
    have hll := Mg.line_len h
    have HR := Lib.hid h; clear h
    have HP : Hid (Mg.printS f t r s k rc d n.data.toList = Mg.line f t r s k rc d n.data.toList) := Lib.hid (by unfold Mg.printS; rw [if_pos HR.out])
    obtain ⟨W, hW⟩ : ∃ W, w.alloc (.cells #[.int .i64 f, .int .i64 t, .int .i64 r, .int .i64 s, .int .i64 k, .int .i64 rc, .int .i64 d, .string n] 23) = W := ⟨_, rfl⟩
    rw [hW] at h00 hG1
    have hlt : w.heap.size < W.heap.size := by rw [← hW]; simp
    have c0 : W.cell? ⟨w.heap.size, 0, none⟩ = some (.int .i64 f) := by rw [← hW]; simp
    have c1 : W.cell? ⟨w.heap.size, 1, none⟩ = some (.int .i64 t) := by rw [← hW]; simp
    have c2 : W.cell? ⟨w.heap.size, 2, none⟩ = some (.int .i64 r) := by rw [← hW]; simp
    have c3 : W.cell? ⟨w.heap.size, 3, none⟩ = some (.int .i64 s) := by rw [← hW]; simp
    have c4 : W.cell? ⟨w.heap.size, 4, none⟩ = some (.int .i64 k) := by rw [← hW]; simp
    have c5 : W.cell? ⟨w.heap.size, 5, none⟩ = some (.int .i64 rc) := by rw [← hW]; simp
    have c6 : W.cell? ⟨w.heap.size, 6, none⟩ = some (.int .i64 d) := by rw [← hW]; simp
    have c7 : W.cell? ⟨w.heap.size, 7, none⟩ = some (.string n) := by rw [← hW]; simp
    have HW := Lib.hid hW; clear hW
    go_enter Tryd.func12, Tryd.ntmps12
    go_wp2_with fail
    rw [HW.out]
    refine (right_i f t r s k rc d n _ hs hG1).mono ?_
    rintro e w0 ⟨rfl, hb1⟩
    rw [HR.out]
    have d0 := cell_later hb1 c0
    have d1 := cell_later hb1 c1
    have d2 := cell_later hb1 c2
    have d3 := cell_later hb1 c3
    have d4 := cell_later hb1 c4
    have d5 := cell_later hb1 c5
    have d6 := cell_later hb1 c6
    have d7 := cell_later hb1 c7
    have hG2 := hG1.below hb1
    clear c0 c1 c2 c3 c4 c5 c6 c7 hG1 hG
    go_wp2_with fail
    go_region_held3 (fun w' => Below w0.heap.size w0 w' ∧ G w' ∧ w'.cell? ⟨w.heap.size, 0, none⟩ = some (.int .i64 f) ∧ w'.cell? ⟨w.heap.size, 1, none⟩ = some (.int .i64 t) ∧ w'.cell? ⟨w.heap.size, 2, none⟩ = some (.int .i64 r) ∧ w'.cell? ⟨w.heap.size, 3, none⟩ = some (.int .i64 s) ∧ w'.cell? ⟨w.heap.size, 4, none⟩ = some (.int .i64 k) ∧ w'.cell? ⟨w.heap.size, 5, none⟩ = some (.int .i64 rc) ∧ w'.cell? ⟨w.heap.size, 6, none⟩ = some (.int .i64 d) ∧ w'.cell? ⟨w.heap.size, 7, none⟩ = some (.string n))
      (first
        | exact ⟨(Below.refl _ _).drew, hG2.below (Below.refl _ _).drew, d0, d1, d2, d3, d4, d5, d6, d7⟩
        | (go_split_ands; exact ⟨Tx.step (by assumption) hbc, G.below (by assumption) hbc, cell_later hbc (by assumption), cell_later hbc (by assumption), cell_later hbc (by assumption), cell_later hbc (by assumption), cell_later hbc (by assumption), cell_later hbc (by assumption), cell_later hbc (by assumption), cell_later hbc (by assumption)⟩)
        | (go_split_ands; exact ⟨Tx.step (by assumption) (Tx.newb _ _), G.below (by assumption) (Tx.newb _ _), cell_later (Tx.newb _ _) (by assumption), cell_later (Tx.newb _ _) (by assumption), cell_later (Tx.newb _ _) (by assumption), cell_later (Tx.newb _ _) (by assumption), cell_later (Tx.newb _ _) (by assumption), cell_later (Tx.newb _ _) (by assumption), cell_later (Tx.newb _ _) (by assumption), cell_later (Tx.newb _ _) (by assumption)⟩))
      (first
        | (go_split_ands; go_at_call 23; refine (Itoa_c _ _ (by omega) (by omega) (by assumption)).mono ?_; rintro e w1 ⟨rfl, hbc⟩)
        | (go_at_call 16; refine (name_i _ _).mono ?_; rintro e w1 ⟨rfl, hbc⟩))
    clear d0 d1 d2 d3 d4 d5 d6 d7 hG2
    have hbw : Below w0.heap.size w0 w1 := Tx.step (by assumption) hbc
    have hn7 : w1.cell? ⟨w.heap.size, 7, none⟩ = some (.string n) := cell_later hbc (by assumption)
    have hnl := World.block_lt_of_cell? _ _ hn7
    have hlast : Below w.heap.size w w1 := (h00.trans (hb1.mono h00.size)).trans (hbw.mono (by have := h00.size; have := hb1.size; omega))
    have hown : (w1.alloc (.cells #[.string ⟨(Lib.itoa f).toArray⟩, .string ⟨(Lib.itoa t).toArray⟩, .string ⟨(Lib.itoa r).toArray⟩, .string ⟨(Lib.itoa s).toArray⟩, .string ⟨(Mg.nameOf k).toArray⟩, .string ⟨(Lib.itoa rc).toArray⟩, .string ⟨(Lib.itoa d).toArray⟩] 9)).ownsRow w.heap.size 9 1 (.slice (some ⟨w1.heap.size, 0, none⟩) 7 7) 7 ((Mg.bparts f t r s k rc d).map Value.string) := World.ownsRow_lit w1 _ 7 hlast.size (by unfold maxLen; omega) rfl
    by_cases hn : n.data.toList = []
    · have hne : (!n.toList.isEmpty) = false := by rw [Lib.toList_data, hn]; rfl
      have hj := Mg.line_join0 f t r s k rc d
      rw [hn] at hll
      have HN := Lib.hid hn; clear hn
      have HJ := Lib.hid hj; clear hj
      go_wp2_with (go_at_call 24; go_must (refine (Join_c _ (Mg.bparts f t r s k rc d) ⟨#[32]⟩ _ (SL.of_own hown rfl) (by rw [HJ.out]; omega) (by simp [Mg.bparts])).mono ?_; rintro e w2 ⟨rfl, hb2⟩))
      go_ret2
      rw [HP.out, HR.out, HN.out, HJ.out]
      exact ⟨rfl, (hlast.alloc hlast.size _).trans (hb2.mono (by have := hlast.size; simp; omega))⟩
    · have hne : (!n.toList.isEmpty) = true := by rw [Lib.toList_data]; simpa using hn
      have hj := Mg.line_join1 f t r s k rc d n hn
      have HN := Lib.hid hn; clear hn
      have HJ := Lib.hid hj; clear hj
      obtain ⟨i0, hi0, hz0, hz1, hz2⟩ := info_parts info_str
      go_wp2_with (first
        | (at_builtin; go_must (refine wpList_append_own _ rfl (.tmp 36) (.tmp 39) 37 rfl w.heap.size 9 i0 (.string ⟨#[]⟩) 1 16 Tryd.underlying37 hi0 hz0 hz1 hz2 rfl (by decide) _ 7 _ rfl (hown.alloc _) ⟨_, 0, none⟩ 1 1 [.string n] rfl rfl (Tx.cell_one_at _ _ (by simp) _ _) (by simp [Value.oneCell']) (by unfold maxLen; omega) (by omega) (by have := hlast.size; simp; omega) ?_); intro v' w2 hown2 hg2 hnil2)
        | (go_at_call 24; go_must (refine (Join_c _ (Mg.bparts f t r s k rc d ++ [n]) ⟨#[32]⟩ _ (SL.of_own hown2 (by simp)) (by rw [HJ.out]; omega) (by simp [Mg.bparts])).mono ?_; rintro e w3 ⟨rfl, hb3⟩; rw [HJ.out])))
      have hb2 : Below w.heap.size w w2 := ((hlast.alloc hlast.size _).alloc (by have := hlast.size; simp; omega) _).grown hg2 (by have := hlast.size; simp; omega) (fun j hj => by injection hj with hj; rw [← hj]; exact hlast.size)
      go_ret2
      rw [HP.out, HR.out]
      exact ⟨rfl, hb2.trans (hb3.mono hb2.size)⟩
  · have HP : Hid (Mg.printS f t r s k rc d n.data.toList = []) := Lib.hid (by unfold Mg.printS; rw [if_neg h])
    have hne : (Mg.right f t r s k rc d n.data.toList != 0) = true := by simpa using h
    clear h
    obtain ⟨R, hR⟩ : ∃ R, Mg.right f t r s k rc d n.data.toList = R := ⟨_, rfl⟩
    rw [hR] at hne
    have HR := Lib.hid hR; clear hR
    go_enter Tryd.func12, Tryd.ntmps12
    go_wp2_with (go_at_call 9; refine (right_i f t r s k rc d n _ hs hG1).mono ?_; rintro e w1 ⟨rfl, hb1⟩; rw [HR.out]; have hc := Tx.bcell hb1)
    go_ret2
    rw [HP.out, HR.out]
    exact ⟨rfl, h00.trans (hb1.mono (by simp))⟩
end Go.Proofs.YtbacgfokgphgeaaDoor
