/- Layer 41: the law MessageUnique: the call returns true. -/
import Derived.Test.YtbacgfokgphgeaaDoorMsgP
namespace Go.Proofs.YtbacgfokgphgeaaDoor
open Go.RowKit
set_option maxRecDepth 100000

set_option maxHeartbeats 2000000 in
theorem unique_c (s : ByteArray) (w : World) (hn : s.size ≤ 9223372036854775807) (hG : G w) :
    Calls Tryd.prog 8 #[.string s] w fun e w' => e = .returned (.bool true) ∧ Below w.heap.size w w' := by
  by_cases hbig : 1000 < s.size
  · have hbz : (1000 : Int) < (s.size : Int) := by omega
    go_enter Tryd.func8, Tryd.ntmps8
    go_wp2_with fail
    refine (alive_c _ hG).mono ?_
    rintro e w1 ⟨rfl, hb1⟩
    go_wp2
    go_ret
    exact ⟨rfl, hb1⟩
  · have hbz : ¬ (1000 : Int) < (s.size : Int) := by omega
    have hs : s.size ≤ 1000000000 := by omega
    by_cases hr : (Mg.parse s.data.toList).1 = 0
    · obtain ⟨u1, u2⟩ := Mg.line_parse hr
      obtain ⟨p, hp⟩ : ∃ p, Mg.parse s.data.toList = p := ⟨_, rfl⟩
      rw [hp] at hr u1 u2
      obtain ⟨pe, m⟩ := p
      dsimp only at hr u1 u2
      subst hr
      obtain ⟨f, t, r, sq, k, rc, d, n⟩ := m
      have hnn := (Mg.right_note (show Mg.right f t r sq k rc d n = 0 from u1)).2
      have hps : Mg.printS f t r sq k rc d n = s.data.toList := by unfold Mg.printS; rw [if_pos (show Mg.right f t r sq k rc d n = 0 from u1)]; exact u2
      have hns : (⟨n.toArray⟩ : ByteArray).size ≤ 1000000000 := by rw [Tx.size_mk]; omega
      have HP := Lib.hid hp; have HR := Lib.hid u1; have HS := Lib.hid hps
      clear hp u1 hps u2
      go_enter Tryd.func8, Tryd.ntmps8
      go_wp2_with fail
      refine (parse_i s _ hs hG).mono ?_
      rintro e w1 ⟨rfl, hb1⟩
      rw [HP.out]
      unfold Mg.cells
      dsimp only
      have a1 := hb1.alloc hb1.size (.cells #[.int .i64 f, .int .i64 t, .int .i64 r, .int .i64 sq, .int .i64 k, .int .i64 rc, .int .i64 d, .string ⟨n.toArray⟩] 23)
      have k1 := heap_alloc_new w1 (.cells #[.int .i64 f, .int .i64 t, .int .i64 r, .int .i64 sq, .int .i64 k, .int .i64 rc, .int .i64 d, .string ⟨n.toArray⟩] 23)
      go_wp2_with fail
      refine (print_i f t r sq k rc d ⟨n.toArray⟩ _ hns (hG.below a1)).mono ?_
      rintro e w2 ⟨rfl, hb2⟩
      rw [show (⟨n.toArray⟩ : ByteArray).data.toList = n from rfl, show Mg.right f t r sq k rc d n = 0 from HR.out, HS.out, ← Tx.mk_list s]
      have a2 := a1.trans (hb2.mono a1.size)
      have k2 := Tx.blk_later k1 hb2
      obtain ⟨c2, f2, l2⟩ := Tx.blk k2
      have K2 := Lib.hid k2; clear k1 k2
      go_wp2_with fail
      refine (right_i f t r sq k rc d ⟨n.toArray⟩ _ hns (hG.below a2)).mono ?_
      rintro e w3 ⟨rfl, hb3⟩
      rw [show (⟨n.toArray⟩ : ByteArray).data.toList = n from rfl, show Mg.right f t r sq k rc d n = 0 from HR.out]
      have a3 := a2.trans (hb3.mono a2.size)
      clear c2 f2 l2
      go_wp2_with fail
      refine (alive_c _ (hG.below a3)).mono ?_
      rintro e w4 ⟨rfl, hb4⟩
      go_wp2
      go_ret
      exact ⟨rfl, a3.trans (hb4.mono a3.size)⟩
    · have hz := Mg.cells_err hr
      obtain ⟨pe, he⟩ : ∃ pe, (Mg.parse s.data.toList).1 = pe := ⟨_, rfl⟩
      rw [he] at hr
      have HE := Lib.hid he; have HZ := Lib.hid hz
      clear he hz
      go_enter Tryd.func8, Tryd.ntmps8
      go_wp2_with fail
      refine (parse_i s _ hs hG).mono ?_
      rintro e w1 ⟨rfl, hb1⟩
      rw [HE.out, HZ.out]
      have a1 := hb1.alloc hb1.size (.cells #[.int .i64 0, .int .i64 0, .int .i64 0, .int .i64 0, .int .i64 0, .int .i64 0, .int .i64 0, .string ⟨#[]⟩] 23)
      have k1 := heap_alloc_new w1 (.cells #[.int .i64 0, .int .i64 0, .int .i64 0, .int .i64 0, .int .i64 0, .int .i64 0, .int .i64 0, .string ⟨#[]⟩] 23)
      go_wp2_with fail
      refine (alive_c _ (hG.below a1)).mono ?_
      rintro e w2 ⟨rfl, hb2⟩
      go_wp2
      go_ret
      exact ⟨rfl, a1.trans (hb2.mono a1.size)⟩
end Go.Proofs.YtbacgfokgphgeaaDoor
