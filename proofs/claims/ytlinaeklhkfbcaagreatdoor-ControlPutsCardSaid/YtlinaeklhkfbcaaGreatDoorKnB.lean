/- The reference's rules and kinds: what the calls return. -/
import Derived.Test.YtlinaeklhkfbcaaGreatDoorKnA
import Derived.Great.BuildSlice
namespace Go.Proofs.YtlinaeklhkfbcaaGreatDoor
open Go.RowKit
set_option maxRecDepth 100000

set_option maxHeartbeats 800000 in
theorem r09_rule_c (tag codes once needs : ByteArray) (rep must : Bool) (auth : Int) (B : Nat) (w0 w : World) (hBw : B ≤ w.heap.size) (hB : Below B w0 w) :
    Calls Tryz.prog 97 #[.string tag, .bool rep, .bool must, .string codes, .string once, .string needs, .int .i64 auth] w fun e w' => e = .returned (.agg #[.string tag, .bool rep, .bool must, .string codes, .string once, .string needs, .int .i64 auth]) ∧ Below B w0 w' ∧ B ≤ w'.heap.size := by
  go_enter Tryz.func97, Tryz.ntmps97
  go_wp2
  refine bodyPost_ret (v := .agg #[.string tag, .bool rep, .bool must, .string codes, .string once, .string needs, .int .i64 auth]) (by simp [results, Tryz.results97, go_sem]) rfl ⟨rfl, ?_, ?_⟩
  · exact hB.alloc hBw _
  · simp; omega

set_option maxHeartbeats 3200000 in
theorem r09_Standard_c (w : World) :
    Calls Tryz.prog 68 #[] w fun e w' => ∃ a c, e = .returned (.slice a Ct.std.length c) ∧ Br.FA Ct.encT 7 w' a c Ct.std ∧ Below w.heap.size w w' := by
  obtain ⟨i0, hi0, hz0, hz1, hz2⟩ := info_parts info_tr
  have hb0 : Below w.heap.size w w := Below.refl _ _
  have hs0 : w.heap.size ≤ w.heap.size := Nat.le_refl _
  go_enter Tryz.func68, Tryz.ntmps68
  go_wp2_with (go_at_call 97; refine (r09_rule_c _ _ _ _ _ _ _ w.heap.size w _ (by assumption) (by assumption)).mono ?_; clear hb0 hs0; rintro e wz ⟨rfl, hb0, hs0⟩)
  refine wp_buildSlice 82 79 25 _ rfl (Ct.std.flatMap Ct.encT).toArray i0 _ Tryz.underlying82 hi0 hz0 (by rw [hz1]; decide) (by rw [hz1]; decide) (by rw [hz1]; kernel_rfl) ?_
  go_wp2
  go_ret
  have hown : (wz.alloc (.cells (Ct.std.flatMap Ct.encT).toArray 79)).ownsRow w.heap.size 79 7 (.slice (some ⟨wz.heap.size, 0, none⟩) 25 25) 25 (Ct.std.flatMap Ct.encT) := World.ownsRow_lit (base := w.heap.size) (e := 79) (size := 7) wz (Ct.std.flatMap Ct.encT).toArray 25 hs0 (by unfold maxLen; omega) rfl
  obtain ⟨a, c, h1, hF, _⟩ := Br.FA.of_own (xs := Ct.std) Ct.encT_len hown rfl
  exact ⟨a, c, by rw [← h1]; rfl, hF, hb0.alloc hs0 _⟩
end Go.Proofs.YtlinaeklhkfbcaaGreatDoor
