/- Layer 14: the law ControlTurns: what its call returns. -/
import Derived.Test.YtlinaeklhkfbcaaGreatDoorLvM
import Derived.Test.YtlinaeklhkfbcaaGreatDoorSaM
namespace Go.Proofs.YtlinaeklhkfbcaaGreatDoor
open Go.RowKit
set_option maxRecDepth 100000

set_option maxHeartbeats 1600000 in
theorem turns_law (rs : List Rc.Rd) (a : Option Addr) (c : Nat) (fr tt : Int) (w : World) (hG : G w) (hS : Ct.StdW w) (h : Rc.RdA w a c rs) :
    Calls Tryz.prog 4 #[.slice a rs.length c, .int .i64 fr, .int .i64 tt] w fun e w' => e = .returned (.bool true) ∧ Below w.heap.size w w' := by
  cases hs : Rc.smallRs rs 20 with
  | false =>
    have HS := Lib.hid hs; clear hs
    go_enter Tryz.func4, Tryz.ntmps4
    go_wp2_with (first
      | (go_at_call 13; refine (SmallRecords_c rs a c 20 _ h).mono ?_; rintro e w1 ⟨rfl, hb1⟩; rw [HS.out])
      | (go_at_call 9; refine (alive_c _ (hG.below hb1) (hS.below hb1)).mono ?_; rintro e w2 ⟨rfl, hb2⟩))
    go_ret
    exact ⟨rfl, Tx.step hb1 hb2⟩
  | true =>
    obtain ⟨h1, h2⟩ := Rc.smallRs_of hs
    have HN : Hid (rs.length ≤ 1000) := Lib.hid (by omega)
    have HF : Hid (∀ r ∈ rs, r.fields.length ≤ 1000) := Lib.hid (fun r hr => Nat.le_trans (Rc.smallR_of (h2 r hr)).1 (by omega))
    have HS := Lib.hid hs; clear hs h1 h2
    obtain ⟨TR, hTR⟩ : ∃ TR, Ct.turn fr tt rs = TR := ⟨_, rfl⟩
    have HT := Lib.hid hTR; clear hTR
    go_enter Tryz.func4, Tryz.ntmps4
    go_wp2_with (first
      | (go_at_call 13; refine (SmallRecords_c rs a c 20 _ h).mono ?_; rintro e w1 ⟨rfl, hb1⟩; rw [HS.out])
      | (go_at_call 15; refine (control_Turn_c rs a c fr tt _ (h.below hb1) HN.out HF.out).mono ?_; rintro e w2 ⟨va, vc, rfl, hA2, hb2⟩; rw [HT.out] at hA2 ⊢; have hb12 := Tx.step hb1 hb2)
      | (go_at_call 16; refine (r14_Turn_c rs a c fr tt _ (h.below hb12) HN.out HF.out).mono ?_; rintro e w3 ⟨vb, vd, rfl, hA3, hb3⟩; rw [HT.out] at hA3 ⊢; have hb13 := Tx.step hb12 hb3)
      | (go_at_call 14; refine (r08_SameRecords_c TR va vb vc vd _ (hA2.below hb3) hA3).mono ?_; rintro e w4 ⟨rfl, hb4⟩; have hb14 := Tx.step hb13 hb4)
      | (go_at_call 9; refine (alive_c _ (hG.below hb14) (hS.below hb14)).mono ?_; rintro e w5 ⟨rfl, hb5⟩))
    go_ret
    exact ⟨Tx.retb (by simp), Tx.step hb14 hb5⟩
end Go.Proofs.YtlinaeklhkfbcaaGreatDoor
