/- Layer 41: the law MessageParses: the call returns true. -/
import Derived.Test.YtbacgfokgphgeaaDoorMsgP
namespace Go.Proofs.YtbacgfokgphgeaaDoor
open Go.RowKit
set_option maxRecDepth 100000

set_option maxHeartbeats 2000000 in
theorem parses_c (s : ByteArray) (w : World) (hn : s.size ≤ 9223372036854775807) (hG : G w) :
    Calls Tryd.prog 5 #[.string s] w fun e w' => e = .returned (.bool true) ∧ Below w.heap.size w w' := by
  by_cases hbig : 1000 < s.size
  · have hbz : (1000 : Int) < (s.size : Int) := by omega
    go_enter Tryd.func5, Tryd.ntmps5
    go_wp2_with fail
    refine (alive_c _ hG).mono ?_
    rintro e w1 ⟨rfl, hb1⟩
    go_wp2
    go_ret
    exact ⟨rfl, hb1⟩
  · have hbz : ¬ (1000 : Int) < (s.size : Int) := by omega
    have hs : s.size ≤ 1000000000 := by omega
    obtain ⟨p, hp⟩ : ∃ p, Mg.parse s.data.toList = p := ⟨_, rfl⟩
    obtain ⟨pe, m⟩ := p
    have HP := Lib.hid hp; clear hp
    go_enter Tryd.func5, Tryd.ntmps5
    go_wp2_with fail
    refine (parse_i s _ hs hG).mono ?_
    rintro e w1 ⟨rfl, hb1⟩
    rw [HP.out]
    unfold Mg.cells
    dsimp only
    go_wp2_with fail
    have a1 := hb1.alloc hb1.size (.cells #[.int .i64 m.f, .int .i64 m.t, .int .i64 m.r, .int .i64 m.s, .int .i64 m.k, .int .i64 m.rc, .int .i64 m.d, .string ⟨m.n.toArray⟩] 23)
    have k1 := heap_alloc_new w1 (.cells #[.int .i64 m.f, .int .i64 m.t, .int .i64 m.r, .int .i64 m.s, .int .i64 m.k, .int .i64 m.rc, .int .i64 m.d, .string ⟨m.n.toArray⟩] 23)
    refine (parse_r s _ hs).mono ?_
    rintro e w2 ⟨rfl, hb2⟩
    rw [HP.out]
    unfold Mg.cells
    dsimp only
    have a2 := a1.trans (hb2.mono a1.size)
    have k2 := Tx.blk_later k1 hb2
    obtain ⟨c2, f2, l2⟩ := Tx.blk k2
    have K2 := Lib.hid k2; clear k1 k2
    go_wp2_with fail
    have a3 := a2.alloc a2.size (.cells #[.int .i64 m.f, .int .i64 m.t, .int .i64 m.r, .int .i64 m.s, .int .i64 m.k, .int .i64 m.rc, .int .i64 m.d, .string ⟨m.n.toArray⟩] 23)
    refine (alive_c _ (hG.below a3)).mono ?_
    rintro e w3 ⟨rfl, hb3⟩
    go_wp2
    go_ret
    exact ⟨rfl, a3.trans (hb3.mono a3.size)⟩
end Go.Proofs.YtbacgfokgphgeaaDoor
