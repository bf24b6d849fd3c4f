/- Layer 25: the law DisplayCopies: what its call returns. -/
import Derived.Test.YtccbadbfijkaeaaGreatDoorCsD
import Derived.Test.YtccbadbfijkaeaaGreatDoorAlD
namespace Go.Proofs.YtccbadbfijkaeaaGreatDoor
open Go.RowKit
set_option maxRecDepth 100000

set_option maxHeartbeats 1600000 in
theorem copies_law (items : List Cp.It) (a : Option Addr) (c : Nat) (id : Int) (w : World) (hG : G w) (h : Cp.ItA w a c items) (hwf : ∀ x ∈ items, -9223372036854775808 ≤ x.branch ∧ x.branch ≤ 9223372036854775807) :
    Calls Tryz.prog 5 #[.slice a items.length c, .int .i64 id] w fun e w' => e = .returned (.bool true) ∧ Below w.heap.size w w' := by
  cases hs : Cs.small items with
  | false =>
    have HS := Lib.hid hs; clear hs
    go_enter Tryz.func5, Tryz.ntmps5
    go_wp2_with (first
      | (go_at_call 10; refine (alive_c _ hG).mono ?_; rintro e w1 ⟨rfl, hb1⟩)
      | (go_at_call 19; refine (small_c items a c _ (h.below hb1)).mono ?_; rintro e w2 ⟨rfl, hb2⟩; rw [HS.out]))
    go_ret
    exact ⟨Tx.retb (by simp), Tx.step hb1 hb2⟩
  | true =>
    have hs2 : items.length ≤ 60 ∧ ∀ x ∈ items, x.call.size ≤ 1000 := of_decide_eq_true hs
    have hl := hs2.1
    have HCS := Lib.hid hs2.2
    have HCT : Hid (∀ x ∈ items, x.call.size ≤ 100000) := Lib.hid fun x hx => Nat.le_trans (hs2.2 x hx) (by omega)
    have HWF := Lib.hid hwf; clear hwf hs2
    have HS := Lib.hid hs; clear hs
    obtain ⟨XS, hXS⟩ : ∃ XS, (Cp.copies items id).map Ds.mk = XS := ⟨_, rfl⟩
    have HX := Lib.hid hXS; clear hXS
    go_enter Tryz.func5, Tryz.ntmps5
    go_wp2_with (first
      | (go_at_call 10; refine (alive_c _ hG).mono ?_; rintro e w1 ⟨rfl, hb1⟩)
      | (go_at_call 19; refine (small_c items a c _ (h.below hb1)).mono ?_; rintro e w2 ⟨rfl, hb2⟩; rw [HS.out]; have hb12 := Tx.step hb1 hb2)
      | (go_at_call 20; refine (Copies_c items a c id _ (hG.below hb12) (h.below hb12) (by omega) HWF.out HCT.out).mono ?_; rintro e w3 ⟨va, vc, rfl, hsl, hb3⟩; rw [HX.out] at hsl ⊢; have hb13 := Tx.step hb12 hb3)
      | (go_at_call 21; refine (r25_Copies_c items a c id _ (h.below hb13) hl HWF.out HCS.out).mono ?_; rintro e w4 ⟨va2, vc2, rfl, hsl2, hb4⟩; rw [HX.out] at hsl2 ⊢; have hb14 := Tx.step hb13 hb4)
      | (go_at_call 16; refine (Texts_c XS XS va va2 vc vc2 _ (hsl.below hb4) hsl2).mono ?_; rintro e w5 ⟨rfl, hb5⟩))
    go_ret
    exact ⟨Tx.retb (by simp), Tx.step hb14 hb5⟩
end Go.Proofs.YtccbadbfijkaeaaGreatDoor
