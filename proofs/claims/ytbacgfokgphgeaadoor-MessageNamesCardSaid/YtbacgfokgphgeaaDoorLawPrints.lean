/- Layer 41: the law MessagePrints: the call returns true. -/
import Derived.Test.YtbacgfokgphgeaaDoorMsgP
namespace Go.Proofs.YtbacgfokgphgeaaDoor
open Go.RowKit
set_option maxRecDepth 100000

set_option maxHeartbeats 2000000 in
theorem prints_c (f t r s k rc d : Int) (n : ByteArray) (w : World) (hn : n.size ≤ 9223372036854775807) (hG : G w) :
    Calls Tryd.prog 4 #[.agg #[.int .i64 f, .int .i64 t, .int .i64 r, .int .i64 s, .int .i64 k, .int .i64 rc, .int .i64 d, .string n]] w fun e w' => e = .returned (.bool true) ∧ Below w.heap.size w w' := by
  have a0 := Tx.newb w (.cells #[.int .i64 f, .int .i64 t, .int .i64 r, .int .i64 s, .int .i64 k, .int .i64 rc, .int .i64 d, .string n] 23)
  have k0 := heap_alloc_new w (.cells #[.int .i64 f, .int .i64 t, .int .i64 r, .int .i64 s, .int .i64 k, .int .i64 rc, .int .i64 d, .string n] 23)
  by_cases hbig : 300 < n.size
  · have hbz : (300 : Int) < (n.size : Int) := by omega
    go_enter Tryd.func4, Tryd.ntmps4
    go_wp2_with fail
    refine (alive_c _ (hG.below a0)).mono ?_
    rintro e w1 ⟨rfl, hb1⟩
    go_wp2
    go_ret
    exact ⟨rfl, a0.trans (hb1.mono a0.size)⟩
  · have hbz : ¬ (300 : Int) < (n.size : Int) := by omega
    have hs : n.size ≤ 1000000000 := by omega
    go_enter Tryd.func4, Tryd.ntmps4
    go_wp2_with fail
    refine (print_i f t r s k rc d n _ hs (hG.below a0)).mono ?_
    rintro e w1 ⟨rfl, hb1⟩
    have k1 := Tx.blk_later k0 hb1
    have a1 := a0.trans (hb1.mono a0.size)
    obtain ⟨c1, f1, l1⟩ := Tx.blk k1
    have K1 := Lib.hid k1; clear k0 k1
    go_wp2_with fail
    refine (print_r f t r s k rc d n _ hs).mono ?_
    rintro e w2 ⟨rfl, hb2⟩
    have a2 := a1.trans (hb2.mono a1.size)
    clear c1 f1 l1
    go_wp2_with fail
    refine (alive_c _ (hG.below a2)).mono ?_
    rintro e w3 ⟨rfl, hb3⟩
    go_wp2
    go_ret
    exact ⟨rfl, a2.trans (hb3.mono a2.size)⟩
end Go.Proofs.YtbacgfokgphgeaaDoor
