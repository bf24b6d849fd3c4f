/- Layer 25: the law DisplayWraps: what its call returns. -/
import Derived.Test.YtccbadbfijkaeaaGreatDoorReB
import Derived.Test.YtccbadbfijkaeaaGreatDoorAlD
import Derived.Test.YtccbadbfijkaeaaGreatDoorWrF
namespace Go.Proofs.YtccbadbfijkaeaaGreatDoor
open Go.RowKit
set_option maxRecDepth 100000

set_option maxHeartbeats 1600000 in
theorem wraps_law (s : ByteArray) (n : Int) (w : World) (hG : G w) (hn2 : n ≤ 9223372036854775807) :
    Calls Tryz.prog 6 #[.string s, .int .i64 n] w fun e w' => e = .returned (.bool true) ∧ Below w.heap.size w w' := by
  by_cases hs : s.size ≤ 1000
  · cases hv : Tx.valid s.data.toList with
    | false =>
      have HV := Lib.hid hv; clear hv
      go_enter Tryz.func6, Tryz.ntmps6
      go_wp2_with (first
        | (go_at_call 10; refine (alive_c _ hG).mono ?_; rintro e w1 ⟨rfl, hb1⟩)
        | (go_at_call 22; refine (r01_Valid_c s _ (by omega)).mono ?_; rintro e w2 ⟨rfl, hb2⟩; rw [HV.out]))
      go_ret
      exact ⟨Tx.retb (by simp), Tx.step hb1 hb2⟩
    | true =>
      have HV := Lib.hid hv; clear hv
      obtain ⟨XS, hXS⟩ : ∃ XS, (Wr.wrap n s.data.toList).map Wr.mk = XS := ⟨_, rfl⟩
      have HX := Lib.hid hXS; clear hXS
      go_enter Tryz.func6, Tryz.ntmps6
      go_wp2_with (first
        | (go_at_call 10; refine (alive_c _ hG).mono ?_; rintro e w1 ⟨rfl, hb1⟩)
        | (go_at_call 22; refine (r01_Valid_c s _ (by omega)).mono ?_; rintro e w2 ⟨rfl, hb2⟩; rw [HV.out]; have hb12 := Tx.step hb1 hb2)
        | (go_at_call 23; refine (Wrap_c s n _ (by omega) HV.out hn2 (hG.below hb12)).mono ?_; rintro e w3 ⟨va, vc, rfl, hsl, hb3⟩; rw [HX.out] at hsl ⊢; have hb13 := Tx.step hb12 hb3)
        | (go_at_call 24; refine (r25_Wrap_c s n _ (by omega) HV.out hn2).mono ?_; rintro e w4 ⟨va2, vc2, rfl, hsl2, hb4⟩; rw [HX.out] at hsl2 ⊢; have hb14 := Tx.step hb13 hb4)
        | (go_at_call 16; refine (Texts_c XS XS va va2 vc vc2 _ (hsl.below hb4) hsl2).mono ?_; rintro e w5 ⟨rfl, hb5⟩))
      go_ret
      exact ⟨Tx.retb (by simp), Tx.step hb14 hb5⟩
  · go_enter Tryz.func6, Tryz.ntmps6
    go_wp2_with (go_at_call 10; refine (alive_c _ hG).mono ?_; rintro e w1 ⟨rfl, hb1⟩)
    go_ret
    exact ⟨Tx.retb (by simp), hb1⟩
end Go.Proofs.YtccbadbfijkaeaaGreatDoor
