/- Layer 15: the law MatchRight: what its call returns. -/
import Derived.Test.YtogpghpgnpoioaaGreatDoorMuM
namespace Go.Proofs.YtogpghpgnpoioaaGreatDoor
open Go.RowKit
set_option maxRecDepth 100000

theorem same_std_c (g g2 : Nat) (w : World) (h : Mt.KyA w (some ⟨g, 0, none⟩) 6 Mt.std.keys) (h2 : Mt.KyA w (some ⟨g2, 0, none⟩) 6 Mt.std.keys) :
    Calls Tryz.prog 12 #[.agg #[.slice (some ⟨g, 0, none⟩) 6 6, .int .i64 100], .agg #[.slice (some ⟨g2, 0, none⟩) 6 6, .int .i64 100]] w fun e w' => e = .returned (.bool true) ∧ Below w.heap.size w w' :=
  r15_SameRule_c Mt.std (some ⟨g, 0, none⟩) (some ⟨g2, 0, none⟩) 6 6 w h h2
set_option maxHeartbeats 3200000 in
theorem right_law (m : Mt.Rule) (ka : Option Addr) (kc : Nat) (w : World) (hG : G w) (hK : Mt.KyA w ka kc m.keys) (hsz : ∀ k ∈ m.keys, k.tag.size ≤ 9223372036854775807) :
    Calls Tryz.prog 3 #[.agg #[.slice ka m.keys.length kc, .int .i64 m.need]] w fun e w' => e = .returned (.bool true) ∧ Below w.heap.size w w' := by
  obtain ⟨W, hW⟩ : ∃ W, w.alloc (.cells #[.slice ka m.keys.length kc, .int .i64 m.need] 24) = W := ⟨_, rfl⟩
  have hB : Below w.heap.size w W := by rw [← hW]; exact Tx.newb w _
  have m0 : W.cell? ⟨w.heap.size, 0, none⟩ = some (.slice ka m.keys.length kc) := by rw [← hW]; simp
  have m1 : W.cell? ⟨w.heap.size, 1, none⟩ = some (.int .i64 m.need) := by rw [← hW]; simp
  have HB := Lib.hid hB
  have HG := Lib.hid (hG.below hB)
  have HK := Lib.hid (hK.below hB)
  have HZ := Lib.hid hsz
  obtain ⟨e, he⟩ : ∃ e, Mt.ruleE m = e := ⟨_, rfl⟩
  have HE := Lib.hid he
  clear hG hK hsz he hB
  go_enter Tryz.func3, Tryz.ntmps3
  go_wp2_with fail
  clear hW
  go_region_held3 (fun w' => Below W.heap.size W w' ∧ w'.cell? ⟨w.heap.size, 0, none⟩ = some (.slice ka m.keys.length kc) ∧ w'.cell? ⟨w.heap.size, 1, none⟩ = some (.int .i64 m.need))
    (first | exact ⟨(Below.refl _ _).drew, m0, m1⟩ | (go_split_ands; exact ⟨Tx.step (by assumption) hbx, cell_later hbx (by assumption), cell_later hbx (by assumption)⟩))
    (first
      | (go_split_ands; go_at_call 12; (with_reducible refine (same_std_c g1 g2 _ HK1.out HK2.out).mono ?_); rintro e wx ⟨rfl, hbx⟩)
      | (go_split_ands; go_at_call 14; (with_reducible refine (r15_Standard_c _).mono ?_); rintro e wx ⟨g2, rfl, hk2, hbx⟩; have HK1 := Lib.hid (HK0.out.below hbx); have HK2 := Lib.hid hk2; clear hk2)
      | (go_split_ands; go_at_call 13; (with_reducible refine (match_Standard_c _).mono ?_); rintro e wx ⟨g1, rfl, hk1, hbx⟩; have HK0 := Lib.hid hk1; clear hk1)
      | (go_split_ands; go_at_call 10; refine (match_Right_c m ka kc _ (HK.out.below (by assumption)) HZ.out).mono ?_; rintro e wx ⟨rfl, hbx⟩; rw [HE.out])
      | (go_split_ands; go_at_call 11; refine (r15_Right_c m ka kc _ (HK.out.below (by assumption))).mono ?_; rintro e wx ⟨rfl, hbx⟩; rw [HE.out])
      | (go_split_ands; go_at_call 9; refine (m_alive_c _ (HG.out.below (by assumption))).mono ?_; rintro e wx ⟨rfl, hbx⟩))
  all_goals
    go_split_ands
    go_wp2
    go_ret
    exact ⟨Tx.retb (by simp), Tx.step HB.out (by assumption)⟩
end Go.Proofs.YtogpghpgnpoioaaGreatDoor
