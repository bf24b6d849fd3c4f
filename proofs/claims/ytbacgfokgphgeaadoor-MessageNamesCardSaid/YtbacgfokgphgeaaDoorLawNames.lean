/- Layer 41: the law MessageNames: the call returns true. -/
import Derived.Test.YtbacgfokgphgeaaDoorMsgP
namespace Go.Proofs.YtbacgfokgphgeaaDoor
open Go.RowKit
set_option maxRecDepth 100000

set_option maxHeartbeats 2000000 in
theorem names_big (kk : Int) (f t r s k rc d f' t' r' s' k' rc' d' : Int) (n n' : ByteArray) (w : World) (hn : n.size ≤ 9223372036854775807) (hn' : n'.size ≤ 9223372036854775807) (hG : G w) (hbig : 300 < n.size ∨ 300 < n'.size) :
    Calls Tryd.prog 6 #[.int .i64 kk, .agg #[.int .i64 f, .int .i64 t, .int .i64 r, .int .i64 s, .int .i64 k, .int .i64 rc, .int .i64 d, .string n], .agg #[.int .i64 f', .int .i64 t', .int .i64 r', .int .i64 s', .int .i64 k', .int .i64 rc', .int .i64 d', .string n']] w fun e w' => e = .returned (.bool true) ∧ Below w.heap.size w w' := by
  have a0 := (Tx.newb w (.cells #[.int .i64 f, .int .i64 t, .int .i64 r, .int .i64 s, .int .i64 k, .int .i64 rc, .int .i64 d, .string n] 23)).alloc (Tx.newb w (.cells #[.int .i64 f, .int .i64 t, .int .i64 r, .int .i64 s, .int .i64 k, .int .i64 rc, .int .i64 d, .string n] 23)).size (.cells #[.int .i64 f', .int .i64 t', .int .i64 r', .int .i64 s', .int .i64 k', .int .i64 rc', .int .i64 d', .string n'] 23)
  by_cases hb1 : 300 < n.size
  · have hbz : (300 : Int) < (n.size : Int) := by omega
    go_enter Tryd.func6, Tryd.ntmps6
    go_wp2_with fail
    refine (alive_c _ (hG.below a0)).mono ?_
    rintro e w1 ⟨rfl, hb1⟩
    go_wp2
    go_ret
    exact ⟨rfl, a0.trans (hb1.mono a0.size)⟩
  · have hbz : ¬ (300 : Int) < (n.size : Int) := by omega
    have hbz' : (300 : Int) < (n'.size : Int) := by omega
    go_enter Tryd.func6, Tryd.ntmps6
    go_wp2_with fail
    refine (alive_c _ (hG.below a0)).mono ?_
    rintro e w1 ⟨rfl, hb1⟩
    go_wp2
    go_ret
    exact ⟨rfl, a0.trans (hb1.mono a0.size)⟩

theorem toList_inj {a b : ByteArray} (h : a.toList = b.toList) : a = b := by
  rw [Lib.toList_data, Lib.toList_data] at h
  have h2 := congrArg List.toArray h
  cases a; cases b
  simpa using h2

set_option maxHeartbeats 8000000 in
theorem names_case0 (kk : Int) (f t r s k rc d f' t' r' s' k' rc' d' : Int) (n n' : ByteArray) (w : World) (hG : G w) (hbig : ¬ 300 < n.size) (hbig' : ¬ 300 < n'.size) (g : ¬ f = f') :
    Calls Tryd.prog 6 #[.int .i64 kk, .agg #[.int .i64 f, .int .i64 t, .int .i64 r, .int .i64 s, .int .i64 k, .int .i64 rc, .int .i64 d, .string n], .agg #[.int .i64 f', .int .i64 t', .int .i64 r', .int .i64 s', .int .i64 k', .int .i64 rc', .int .i64 d', .string n']] w fun e w' => e = .returned (.bool true) ∧ Below w.heap.size w w' := by
  have hsame : Mg.sameB f t r s k rc d f' t' r' s' k' rc' d' n n' = false := by simp [Mg.sameB, g]
  obtain ⟨W, hW⟩ : ∃ W, (w.alloc (.cells #[.int .i64 f, .int .i64 t, .int .i64 r, .int .i64 s, .int .i64 k, .int .i64 rc, .int .i64 d, .string n] 23)).alloc (.cells #[.int .i64 f', .int .i64 t', .int .i64 r', .int .i64 s', .int .i64 k', .int .i64 rc', .int .i64 d', .string n'] 23) = W := ⟨_, rfl⟩
  have h0 : Below w.heap.size w W := by rw [← hW]; exact (Tx.newb w _).alloc (Tx.newb w _).size _
  have c0 : W.cell? ⟨w.heap.size, 0, none⟩ = some (.int .i64 f) := by rw [← hW]; simp
  have c1 : W.cell? ⟨w.heap.size, 1, none⟩ = some (.int .i64 t) := by rw [← hW]; simp
  have c2 : W.cell? ⟨w.heap.size, 2, none⟩ = some (.int .i64 r) := by rw [← hW]; simp
  have c3 : W.cell? ⟨w.heap.size, 3, none⟩ = some (.int .i64 s) := by rw [← hW]; simp
  have c4 : W.cell? ⟨w.heap.size, 4, none⟩ = some (.int .i64 k) := by rw [← hW]; simp
  have c5 : W.cell? ⟨w.heap.size, 5, none⟩ = some (.int .i64 rc) := by rw [← hW]; simp
  have c6 : W.cell? ⟨w.heap.size, 6, none⟩ = some (.int .i64 d) := by rw [← hW]; simp
  have c7 : W.cell? ⟨w.heap.size, 7, none⟩ = some (.string n) := by rw [← hW]; simp
  have e0 : W.cell? ⟨w.heap.size + 1, 0, none⟩ = some (.int .i64 f') := by rw [← hW]; simp
  have e1 : W.cell? ⟨w.heap.size + 1, 1, none⟩ = some (.int .i64 t') := by rw [← hW]; simp
  have e2 : W.cell? ⟨w.heap.size + 1, 2, none⟩ = some (.int .i64 r') := by rw [← hW]; simp
  have e3 : W.cell? ⟨w.heap.size + 1, 3, none⟩ = some (.int .i64 s') := by rw [← hW]; simp
  have e4 : W.cell? ⟨w.heap.size + 1, 4, none⟩ = some (.int .i64 k') := by rw [← hW]; simp
  have e5 : W.cell? ⟨w.heap.size + 1, 5, none⟩ = some (.int .i64 rc') := by rw [← hW]; simp
  have e6 : W.cell? ⟨w.heap.size + 1, 6, none⟩ = some (.int .i64 d') := by rw [← hW]; simp
  have e7 : W.cell? ⟨w.heap.size + 1, 7, none⟩ = some (.string n') := by rw [← hW]; simp
  have hG1 := hG.below h0
  have HW := Lib.hid hW; clear hW
  have HS := Lib.hid hsame; clear hsame
  have hbz : ¬ (300 : Int) < (n.size : Int) := by omega
  have hbz' : ¬ (300 : Int) < (n'.size : Int) := by omega
  go_enter Tryd.func6, Tryd.ntmps6
  go_wp2
  rw [HW.out]
  go_region_held3 (fun w' => Below W.heap.size W w' ∧ G w' ∧ w'.cell? ⟨w.heap.size, 0, none⟩ = some (.int .i64 f) ∧ w'.cell? ⟨w.heap.size, 1, none⟩ = some (.int .i64 t) ∧ w'.cell? ⟨w.heap.size, 2, none⟩ = some (.int .i64 r) ∧ w'.cell? ⟨w.heap.size, 3, none⟩ = some (.int .i64 s) ∧ w'.cell? ⟨w.heap.size, 4, none⟩ = some (.int .i64 k) ∧ w'.cell? ⟨w.heap.size, 5, none⟩ = some (.int .i64 rc) ∧ w'.cell? ⟨w.heap.size, 6, none⟩ = some (.int .i64 d) ∧ w'.cell? ⟨w.heap.size, 7, none⟩ = some (.string n) ∧ w'.cell? ⟨w.heap.size + 1, 0, none⟩ = some (.int .i64 f') ∧ w'.cell? ⟨w.heap.size + 1, 1, none⟩ = some (.int .i64 t') ∧ w'.cell? ⟨w.heap.size + 1, 2, none⟩ = some (.int .i64 r') ∧ w'.cell? ⟨w.heap.size + 1, 3, none⟩ = some (.int .i64 s') ∧ w'.cell? ⟨w.heap.size + 1, 4, none⟩ = some (.int .i64 k') ∧ w'.cell? ⟨w.heap.size + 1, 5, none⟩ = some (.int .i64 rc') ∧ w'.cell? ⟨w.heap.size + 1, 6, none⟩ = some (.int .i64 d') ∧ w'.cell? ⟨w.heap.size + 1, 7, none⟩ = some (.string n'))
    (first
        | exact ⟨(Below.refl _ _).drew, hG1.below (Below.refl _ _).drew, c0, c1, c2, c3, c4, c5, c6, c7, e0, e1, e2, e3, e4, e5, e6, e7⟩
        | (go_split_ands; exact ⟨Tx.step (by assumption) hbc, G.below (by assumption) hbc, cell_later hbc (by assumption), cell_later hbc (by assumption), cell_later hbc (by assumption), cell_later hbc (by assumption), cell_later hbc (by assumption), cell_later hbc (by assumption), cell_later hbc (by assumption), cell_later hbc (by assumption), cell_later hbc (by assumption), cell_later hbc (by assumption), cell_later hbc (by assumption), cell_later hbc (by assumption), cell_later hbc (by assumption), cell_later hbc (by assumption), cell_later hbc (by assumption), cell_later hbc (by assumption)⟩))
    (first
      | (go_split_ands; go_at_call 16; refine (name_i kk _).mono ?_; rintro e w1 ⟨rfl, hbc⟩)
      | (go_split_ands; go_at_call 17; refine (name_r kk _).mono ?_; rintro e w1 ⟨rfl, hbc⟩)
      | (go_split_ands; go_at_call 18; refine (same_i f t r s k rc d f' t' r' s' k' rc' d' n n' _).mono ?_; rintro e w1 ⟨rfl, hbc⟩; rw [HS.out])
      | (go_split_ands; go_at_call 11; refine (alive_c _ (by assumption)).mono ?_; rintro e w1 ⟨rfl, hbc⟩))
  all_goals
    go_split_ands
    have hbw : Below W.heap.size W w1 := by assumption
    go_wp2
    go_ret
    exact ⟨rfl, h0.trans (hbw.mono h0.size)⟩

set_option maxHeartbeats 8000000 in
theorem names_case1 (kk : Int) (f t r s k rc d t' r' s' k' rc' d' : Int) (n n' : ByteArray) (w : World) (hG : G w) (hbig : ¬ 300 < n.size) (hbig' : ¬ 300 < n'.size) (g : ¬ t = t') :
    Calls Tryd.prog 6 #[.int .i64 kk, .agg #[.int .i64 f, .int .i64 t, .int .i64 r, .int .i64 s, .int .i64 k, .int .i64 rc, .int .i64 d, .string n], .agg #[.int .i64 f, .int .i64 t', .int .i64 r', .int .i64 s', .int .i64 k', .int .i64 rc', .int .i64 d', .string n']] w fun e w' => e = .returned (.bool true) ∧ Below w.heap.size w w' := by
  have hsame : Mg.sameB f t r s k rc d f t' r' s' k' rc' d' n n' = false := by simp [Mg.sameB, g]
  obtain ⟨W, hW⟩ : ∃ W, (w.alloc (.cells #[.int .i64 f, .int .i64 t, .int .i64 r, .int .i64 s, .int .i64 k, .int .i64 rc, .int .i64 d, .string n] 23)).alloc (.cells #[.int .i64 f, .int .i64 t', .int .i64 r', .int .i64 s', .int .i64 k', .int .i64 rc', .int .i64 d', .string n'] 23) = W := ⟨_, rfl⟩
  have h0 : Below w.heap.size w W := by rw [← hW]; exact (Tx.newb w _).alloc (Tx.newb w _).size _
  have c0 : W.cell? ⟨w.heap.size, 0, none⟩ = some (.int .i64 f) := by rw [← hW]; simp
  have c1 : W.cell? ⟨w.heap.size, 1, none⟩ = some (.int .i64 t) := by rw [← hW]; simp
  have c2 : W.cell? ⟨w.heap.size, 2, none⟩ = some (.int .i64 r) := by rw [← hW]; simp
  have c3 : W.cell? ⟨w.heap.size, 3, none⟩ = some (.int .i64 s) := by rw [← hW]; simp
  have c4 : W.cell? ⟨w.heap.size, 4, none⟩ = some (.int .i64 k) := by rw [← hW]; simp
  have c5 : W.cell? ⟨w.heap.size, 5, none⟩ = some (.int .i64 rc) := by rw [← hW]; simp
  have c6 : W.cell? ⟨w.heap.size, 6, none⟩ = some (.int .i64 d) := by rw [← hW]; simp
  have c7 : W.cell? ⟨w.heap.size, 7, none⟩ = some (.string n) := by rw [← hW]; simp
  have e0 : W.cell? ⟨w.heap.size + 1, 0, none⟩ = some (.int .i64 f) := by rw [← hW]; simp
  have e1 : W.cell? ⟨w.heap.size + 1, 1, none⟩ = some (.int .i64 t') := by rw [← hW]; simp
  have e2 : W.cell? ⟨w.heap.size + 1, 2, none⟩ = some (.int .i64 r') := by rw [← hW]; simp
  have e3 : W.cell? ⟨w.heap.size + 1, 3, none⟩ = some (.int .i64 s') := by rw [← hW]; simp
  have e4 : W.cell? ⟨w.heap.size + 1, 4, none⟩ = some (.int .i64 k') := by rw [← hW]; simp
  have e5 : W.cell? ⟨w.heap.size + 1, 5, none⟩ = some (.int .i64 rc') := by rw [← hW]; simp
  have e6 : W.cell? ⟨w.heap.size + 1, 6, none⟩ = some (.int .i64 d') := by rw [← hW]; simp
  have e7 : W.cell? ⟨w.heap.size + 1, 7, none⟩ = some (.string n') := by rw [← hW]; simp
  have hG1 := hG.below h0
  have HW := Lib.hid hW; clear hW
  have HS := Lib.hid hsame; clear hsame
  have hbz : ¬ (300 : Int) < (n.size : Int) := by omega
  have hbz' : ¬ (300 : Int) < (n'.size : Int) := by omega
  go_enter Tryd.func6, Tryd.ntmps6
  go_wp2
  rw [HW.out]
  go_region_held3 (fun w' => Below W.heap.size W w' ∧ G w' ∧ w'.cell? ⟨w.heap.size, 0, none⟩ = some (.int .i64 f) ∧ w'.cell? ⟨w.heap.size, 1, none⟩ = some (.int .i64 t) ∧ w'.cell? ⟨w.heap.size, 2, none⟩ = some (.int .i64 r) ∧ w'.cell? ⟨w.heap.size, 3, none⟩ = some (.int .i64 s) ∧ w'.cell? ⟨w.heap.size, 4, none⟩ = some (.int .i64 k) ∧ w'.cell? ⟨w.heap.size, 5, none⟩ = some (.int .i64 rc) ∧ w'.cell? ⟨w.heap.size, 6, none⟩ = some (.int .i64 d) ∧ w'.cell? ⟨w.heap.size, 7, none⟩ = some (.string n) ∧ w'.cell? ⟨w.heap.size + 1, 0, none⟩ = some (.int .i64 f) ∧ w'.cell? ⟨w.heap.size + 1, 1, none⟩ = some (.int .i64 t') ∧ w'.cell? ⟨w.heap.size + 1, 2, none⟩ = some (.int .i64 r') ∧ w'.cell? ⟨w.heap.size + 1, 3, none⟩ = some (.int .i64 s') ∧ w'.cell? ⟨w.heap.size + 1, 4, none⟩ = some (.int .i64 k') ∧ w'.cell? ⟨w.heap.size + 1, 5, none⟩ = some (.int .i64 rc') ∧ w'.cell? ⟨w.heap.size + 1, 6, none⟩ = some (.int .i64 d') ∧ w'.cell? ⟨w.heap.size + 1, 7, none⟩ = some (.string n'))
    (first
        | exact ⟨(Below.refl _ _).drew, hG1.below (Below.refl _ _).drew, c0, c1, c2, c3, c4, c5, c6, c7, e0, e1, e2, e3, e4, e5, e6, e7⟩
        | (go_split_ands; exact ⟨Tx.step (by assumption) hbc, G.below (by assumption) hbc, cell_later hbc (by assumption), cell_later hbc (by assumption), cell_later hbc (by assumption), cell_later hbc (by assumption), cell_later hbc (by assumption), cell_later hbc (by assumption), cell_later hbc (by assumption), cell_later hbc (by assumption), cell_later hbc (by assumption), cell_later hbc (by assumption), cell_later hbc (by assumption), cell_later hbc (by assumption), cell_later hbc (by assumption), cell_later hbc (by assumption), cell_later hbc (by assumption), cell_later hbc (by assumption)⟩))
    (first
      | (go_split_ands; go_at_call 16; refine (name_i kk _).mono ?_; rintro e w1 ⟨rfl, hbc⟩)
      | (go_split_ands; go_at_call 17; refine (name_r kk _).mono ?_; rintro e w1 ⟨rfl, hbc⟩)
      | (go_split_ands; go_at_call 18; refine (same_i f t r s k rc d f t' r' s' k' rc' d' n n' _).mono ?_; rintro e w1 ⟨rfl, hbc⟩; rw [HS.out])
      | (go_split_ands; go_at_call 11; refine (alive_c _ (by assumption)).mono ?_; rintro e w1 ⟨rfl, hbc⟩))
  all_goals
    go_split_ands
    have hbw : Below W.heap.size W w1 := by assumption
    go_wp2
    go_ret
    exact ⟨rfl, h0.trans (hbw.mono h0.size)⟩

set_option maxHeartbeats 8000000 in
theorem names_case2 (kk : Int) (f t r s k rc d r' s' k' rc' d' : Int) (n n' : ByteArray) (w : World) (hG : G w) (hbig : ¬ 300 < n.size) (hbig' : ¬ 300 < n'.size) (g : ¬ r = r') :
    Calls Tryd.prog 6 #[.int .i64 kk, .agg #[.int .i64 f, .int .i64 t, .int .i64 r, .int .i64 s, .int .i64 k, .int .i64 rc, .int .i64 d, .string n], .agg #[.int .i64 f, .int .i64 t, .int .i64 r', .int .i64 s', .int .i64 k', .int .i64 rc', .int .i64 d', .string n']] w fun e w' => e = .returned (.bool true) ∧ Below w.heap.size w w' := by
  have hsame : Mg.sameB f t r s k rc d f t r' s' k' rc' d' n n' = false := by simp [Mg.sameB, g]
  obtain ⟨W, hW⟩ : ∃ W, (w.alloc (.cells #[.int .i64 f, .int .i64 t, .int .i64 r, .int .i64 s, .int .i64 k, .int .i64 rc, .int .i64 d, .string n] 23)).alloc (.cells #[.int .i64 f, .int .i64 t, .int .i64 r', .int .i64 s', .int .i64 k', .int .i64 rc', .int .i64 d', .string n'] 23) = W := ⟨_, rfl⟩
  have h0 : Below w.heap.size w W := by rw [← hW]; exact (Tx.newb w _).alloc (Tx.newb w _).size _
  have c0 : W.cell? ⟨w.heap.size, 0, none⟩ = some (.int .i64 f) := by rw [← hW]; simp
  have c1 : W.cell? ⟨w.heap.size, 1, none⟩ = some (.int .i64 t) := by rw [← hW]; simp
  have c2 : W.cell? ⟨w.heap.size, 2, none⟩ = some (.int .i64 r) := by rw [← hW]; simp
  have c3 : W.cell? ⟨w.heap.size, 3, none⟩ = some (.int .i64 s) := by rw [← hW]; simp
  have c4 : W.cell? ⟨w.heap.size, 4, none⟩ = some (.int .i64 k) := by rw [← hW]; simp
  have c5 : W.cell? ⟨w.heap.size, 5, none⟩ = some (.int .i64 rc) := by rw [← hW]; simp
  have c6 : W.cell? ⟨w.heap.size, 6, none⟩ = some (.int .i64 d) := by rw [← hW]; simp
  have c7 : W.cell? ⟨w.heap.size, 7, none⟩ = some (.string n) := by rw [← hW]; simp
  have e0 : W.cell? ⟨w.heap.size + 1, 0, none⟩ = some (.int .i64 f) := by rw [← hW]; simp
  have e1 : W.cell? ⟨w.heap.size + 1, 1, none⟩ = some (.int .i64 t) := by rw [← hW]; simp
  have e2 : W.cell? ⟨w.heap.size + 1, 2, none⟩ = some (.int .i64 r') := by rw [← hW]; simp
  have e3 : W.cell? ⟨w.heap.size + 1, 3, none⟩ = some (.int .i64 s') := by rw [← hW]; simp
  have e4 : W.cell? ⟨w.heap.size + 1, 4, none⟩ = some (.int .i64 k') := by rw [← hW]; simp
  have e5 : W.cell? ⟨w.heap.size + 1, 5, none⟩ = some (.int .i64 rc') := by rw [← hW]; simp
  have e6 : W.cell? ⟨w.heap.size + 1, 6, none⟩ = some (.int .i64 d') := by rw [← hW]; simp
  have e7 : W.cell? ⟨w.heap.size + 1, 7, none⟩ = some (.string n') := by rw [← hW]; simp
  have hG1 := hG.below h0
  have HW := Lib.hid hW; clear hW
  have HS := Lib.hid hsame; clear hsame
  have hbz : ¬ (300 : Int) < (n.size : Int) := by omega
  have hbz' : ¬ (300 : Int) < (n'.size : Int) := by omega
  go_enter Tryd.func6, Tryd.ntmps6
  go_wp2
  rw [HW.out]
  go_region_held3 (fun w' => Below W.heap.size W w' ∧ G w' ∧ w'.cell? ⟨w.heap.size, 0, none⟩ = some (.int .i64 f) ∧ w'.cell? ⟨w.heap.size, 1, none⟩ = some (.int .i64 t) ∧ w'.cell? ⟨w.heap.size, 2, none⟩ = some (.int .i64 r) ∧ w'.cell? ⟨w.heap.size, 3, none⟩ = some (.int .i64 s) ∧ w'.cell? ⟨w.heap.size, 4, none⟩ = some (.int .i64 k) ∧ w'.cell? ⟨w.heap.size, 5, none⟩ = some (.int .i64 rc) ∧ w'.cell? ⟨w.heap.size, 6, none⟩ = some (.int .i64 d) ∧ w'.cell? ⟨w.heap.size, 7, none⟩ = some (.string n) ∧ w'.cell? ⟨w.heap.size + 1, 0, none⟩ = some (.int .i64 f) ∧ w'.cell? ⟨w.heap.size + 1, 1, none⟩ = some (.int .i64 t) ∧ w'.cell? ⟨w.heap.size + 1, 2, none⟩ = some (.int .i64 r') ∧ w'.cell? ⟨w.heap.size + 1, 3, none⟩ = some (.int .i64 s') ∧ w'.cell? ⟨w.heap.size + 1, 4, none⟩ = some (.int .i64 k') ∧ w'.cell? ⟨w.heap.size + 1, 5, none⟩ = some (.int .i64 rc') ∧ w'.cell? ⟨w.heap.size + 1, 6, none⟩ = some (.int .i64 d') ∧ w'.cell? ⟨w.heap.size + 1, 7, none⟩ = some (.string n'))
    (first
        | exact ⟨(Below.refl _ _).drew, hG1.below (Below.refl _ _).drew, c0, c1, c2, c3, c4, c5, c6, c7, e0, e1, e2, e3, e4, e5, e6, e7⟩
        | (go_split_ands; exact ⟨Tx.step (by assumption) hbc, G.below (by assumption) hbc, cell_later hbc (by assumption), cell_later hbc (by assumption), cell_later hbc (by assumption), cell_later hbc (by assumption), cell_later hbc (by assumption), cell_later hbc (by assumption), cell_later hbc (by assumption), cell_later hbc (by assumption), cell_later hbc (by assumption), cell_later hbc (by assumption), cell_later hbc (by assumption), cell_later hbc (by assumption), cell_later hbc (by assumption), cell_later hbc (by assumption), cell_later hbc (by assumption), cell_later hbc (by assumption)⟩))
    (first
      | (go_split_ands; go_at_call 16; refine (name_i kk _).mono ?_; rintro e w1 ⟨rfl, hbc⟩)
      | (go_split_ands; go_at_call 17; refine (name_r kk _).mono ?_; rintro e w1 ⟨rfl, hbc⟩)
      | (go_split_ands; go_at_call 18; refine (same_i f t r s k rc d f t r' s' k' rc' d' n n' _).mono ?_; rintro e w1 ⟨rfl, hbc⟩; rw [HS.out])
      | (go_split_ands; go_at_call 11; refine (alive_c _ (by assumption)).mono ?_; rintro e w1 ⟨rfl, hbc⟩))
  all_goals
    go_split_ands
    have hbw : Below W.heap.size W w1 := by assumption
    go_wp2
    go_ret
    exact ⟨rfl, h0.trans (hbw.mono h0.size)⟩

set_option maxHeartbeats 8000000 in
theorem names_case3 (kk : Int) (f t r s k rc d s' k' rc' d' : Int) (n n' : ByteArray) (w : World) (hG : G w) (hbig : ¬ 300 < n.size) (hbig' : ¬ 300 < n'.size) (g : ¬ s = s') :
    Calls Tryd.prog 6 #[.int .i64 kk, .agg #[.int .i64 f, .int .i64 t, .int .i64 r, .int .i64 s, .int .i64 k, .int .i64 rc, .int .i64 d, .string n], .agg #[.int .i64 f, .int .i64 t, .int .i64 r, .int .i64 s', .int .i64 k', .int .i64 rc', .int .i64 d', .string n']] w fun e w' => e = .returned (.bool true) ∧ Below w.heap.size w w' := by
  have hsame : Mg.sameB f t r s k rc d f t r s' k' rc' d' n n' = false := by simp [Mg.sameB, g]
  obtain ⟨W, hW⟩ : ∃ W, (w.alloc (.cells #[.int .i64 f, .int .i64 t, .int .i64 r, .int .i64 s, .int .i64 k, .int .i64 rc, .int .i64 d, .string n] 23)).alloc (.cells #[.int .i64 f, .int .i64 t, .int .i64 r, .int .i64 s', .int .i64 k', .int .i64 rc', .int .i64 d', .string n'] 23) = W := ⟨_, rfl⟩
  have h0 : Below w.heap.size w W := by rw [← hW]; exact (Tx.newb w _).alloc (Tx.newb w _).size _
  have c0 : W.cell? ⟨w.heap.size, 0, none⟩ = some (.int .i64 f) := by rw [← hW]; simp
  have c1 : W.cell? ⟨w.heap.size, 1, none⟩ = some (.int .i64 t) := by rw [← hW]; simp
  have c2 : W.cell? ⟨w.heap.size, 2, none⟩ = some (.int .i64 r) := by rw [← hW]; simp
  have c3 : W.cell? ⟨w.heap.size, 3, none⟩ = some (.int .i64 s) := by rw [← hW]; simp
  have c4 : W.cell? ⟨w.heap.size, 4, none⟩ = some (.int .i64 k) := by rw [← hW]; simp
  have c5 : W.cell? ⟨w.heap.size, 5, none⟩ = some (.int .i64 rc) := by rw [← hW]; simp
  have c6 : W.cell? ⟨w.heap.size, 6, none⟩ = some (.int .i64 d) := by rw [← hW]; simp
  have c7 : W.cell? ⟨w.heap.size, 7, none⟩ = some (.string n) := by rw [← hW]; simp
  have e0 : W.cell? ⟨w.heap.size + 1, 0, none⟩ = some (.int .i64 f) := by rw [← hW]; simp
  have e1 : W.cell? ⟨w.heap.size + 1, 1, none⟩ = some (.int .i64 t) := by rw [← hW]; simp
  have e2 : W.cell? ⟨w.heap.size + 1, 2, none⟩ = some (.int .i64 r) := by rw [← hW]; simp
  have e3 : W.cell? ⟨w.heap.size + 1, 3, none⟩ = some (.int .i64 s') := by rw [← hW]; simp
  have e4 : W.cell? ⟨w.heap.size + 1, 4, none⟩ = some (.int .i64 k') := by rw [← hW]; simp
  have e5 : W.cell? ⟨w.heap.size + 1, 5, none⟩ = some (.int .i64 rc') := by rw [← hW]; simp
  have e6 : W.cell? ⟨w.heap.size + 1, 6, none⟩ = some (.int .i64 d') := by rw [← hW]; simp
  have e7 : W.cell? ⟨w.heap.size + 1, 7, none⟩ = some (.string n') := by rw [← hW]; simp
  have hG1 := hG.below h0
  have HW := Lib.hid hW; clear hW
  have HS := Lib.hid hsame; clear hsame
  have hbz : ¬ (300 : Int) < (n.size : Int) := by omega
  have hbz' : ¬ (300 : Int) < (n'.size : Int) := by omega
  go_enter Tryd.func6, Tryd.ntmps6
  go_wp2
  rw [HW.out]
  go_region_held3 (fun w' => Below W.heap.size W w' ∧ G w' ∧ w'.cell? ⟨w.heap.size, 0, none⟩ = some (.int .i64 f) ∧ w'.cell? ⟨w.heap.size, 1, none⟩ = some (.int .i64 t) ∧ w'.cell? ⟨w.heap.size, 2, none⟩ = some (.int .i64 r) ∧ w'.cell? ⟨w.heap.size, 3, none⟩ = some (.int .i64 s) ∧ w'.cell? ⟨w.heap.size, 4, none⟩ = some (.int .i64 k) ∧ w'.cell? ⟨w.heap.size, 5, none⟩ = some (.int .i64 rc) ∧ w'.cell? ⟨w.heap.size, 6, none⟩ = some (.int .i64 d) ∧ w'.cell? ⟨w.heap.size, 7, none⟩ = some (.string n) ∧ w'.cell? ⟨w.heap.size + 1, 0, none⟩ = some (.int .i64 f) ∧ w'.cell? ⟨w.heap.size + 1, 1, none⟩ = some (.int .i64 t) ∧ w'.cell? ⟨w.heap.size + 1, 2, none⟩ = some (.int .i64 r) ∧ w'.cell? ⟨w.heap.size + 1, 3, none⟩ = some (.int .i64 s') ∧ w'.cell? ⟨w.heap.size + 1, 4, none⟩ = some (.int .i64 k') ∧ w'.cell? ⟨w.heap.size + 1, 5, none⟩ = some (.int .i64 rc') ∧ w'.cell? ⟨w.heap.size + 1, 6, none⟩ = some (.int .i64 d') ∧ w'.cell? ⟨w.heap.size + 1, 7, none⟩ = some (.string n'))
    (first
        | exact ⟨(Below.refl _ _).drew, hG1.below (Below.refl _ _).drew, c0, c1, c2, c3, c4, c5, c6, c7, e0, e1, e2, e3, e4, e5, e6, e7⟩
        | (go_split_ands; exact ⟨Tx.step (by assumption) hbc, G.below (by assumption) hbc, cell_later hbc (by assumption), cell_later hbc (by assumption), cell_later hbc (by assumption), cell_later hbc (by assumption), cell_later hbc (by assumption), cell_later hbc (by assumption), cell_later hbc (by assumption), cell_later hbc (by assumption), cell_later hbc (by assumption), cell_later hbc (by assumption), cell_later hbc (by assumption), cell_later hbc (by assumption), cell_later hbc (by assumption), cell_later hbc (by assumption), cell_later hbc (by assumption), cell_later hbc (by assumption)⟩))
    (first
      | (go_split_ands; go_at_call 16; refine (name_i kk _).mono ?_; rintro e w1 ⟨rfl, hbc⟩)
      | (go_split_ands; go_at_call 17; refine (name_r kk _).mono ?_; rintro e w1 ⟨rfl, hbc⟩)
      | (go_split_ands; go_at_call 18; refine (same_i f t r s k rc d f t r s' k' rc' d' n n' _).mono ?_; rintro e w1 ⟨rfl, hbc⟩; rw [HS.out])
      | (go_split_ands; go_at_call 11; refine (alive_c _ (by assumption)).mono ?_; rintro e w1 ⟨rfl, hbc⟩))
  all_goals
    go_split_ands
    have hbw : Below W.heap.size W w1 := by assumption
    go_wp2
    go_ret
    exact ⟨rfl, h0.trans (hbw.mono h0.size)⟩

set_option maxHeartbeats 8000000 in
theorem names_case4 (kk : Int) (f t r s k rc d k' rc' d' : Int) (n n' : ByteArray) (w : World) (hG : G w) (hbig : ¬ 300 < n.size) (hbig' : ¬ 300 < n'.size) (g : ¬ k = k') :
    Calls Tryd.prog 6 #[.int .i64 kk, .agg #[.int .i64 f, .int .i64 t, .int .i64 r, .int .i64 s, .int .i64 k, .int .i64 rc, .int .i64 d, .string n], .agg #[.int .i64 f, .int .i64 t, .int .i64 r, .int .i64 s, .int .i64 k', .int .i64 rc', .int .i64 d', .string n']] w fun e w' => e = .returned (.bool true) ∧ Below w.heap.size w w' := by
  have hsame : Mg.sameB f t r s k rc d f t r s k' rc' d' n n' = false := by simp [Mg.sameB, g]
  obtain ⟨W, hW⟩ : ∃ W, (w.alloc (.cells #[.int .i64 f, .int .i64 t, .int .i64 r, .int .i64 s, .int .i64 k, .int .i64 rc, .int .i64 d, .string n] 23)).alloc (.cells #[.int .i64 f, .int .i64 t, .int .i64 r, .int .i64 s, .int .i64 k', .int .i64 rc', .int .i64 d', .string n'] 23) = W := ⟨_, rfl⟩
  have h0 : Below w.heap.size w W := by rw [← hW]; exact (Tx.newb w _).alloc (Tx.newb w _).size _
  have c0 : W.cell? ⟨w.heap.size, 0, none⟩ = some (.int .i64 f) := by rw [← hW]; simp
  have c1 : W.cell? ⟨w.heap.size, 1, none⟩ = some (.int .i64 t) := by rw [← hW]; simp
  have c2 : W.cell? ⟨w.heap.size, 2, none⟩ = some (.int .i64 r) := by rw [← hW]; simp
  have c3 : W.cell? ⟨w.heap.size, 3, none⟩ = some (.int .i64 s) := by rw [← hW]; simp
  have c4 : W.cell? ⟨w.heap.size, 4, none⟩ = some (.int .i64 k) := by rw [← hW]; simp
  have c5 : W.cell? ⟨w.heap.size, 5, none⟩ = some (.int .i64 rc) := by rw [← hW]; simp
  have c6 : W.cell? ⟨w.heap.size, 6, none⟩ = some (.int .i64 d) := by rw [← hW]; simp
  have c7 : W.cell? ⟨w.heap.size, 7, none⟩ = some (.string n) := by rw [← hW]; simp
  have e0 : W.cell? ⟨w.heap.size + 1, 0, none⟩ = some (.int .i64 f) := by rw [← hW]; simp
  have e1 : W.cell? ⟨w.heap.size + 1, 1, none⟩ = some (.int .i64 t) := by rw [← hW]; simp
  have e2 : W.cell? ⟨w.heap.size + 1, 2, none⟩ = some (.int .i64 r) := by rw [← hW]; simp
  have e3 : W.cell? ⟨w.heap.size + 1, 3, none⟩ = some (.int .i64 s) := by rw [← hW]; simp
  have e4 : W.cell? ⟨w.heap.size + 1, 4, none⟩ = some (.int .i64 k') := by rw [← hW]; simp
  have e5 : W.cell? ⟨w.heap.size + 1, 5, none⟩ = some (.int .i64 rc') := by rw [← hW]; simp
  have e6 : W.cell? ⟨w.heap.size + 1, 6, none⟩ = some (.int .i64 d') := by rw [← hW]; simp
  have e7 : W.cell? ⟨w.heap.size + 1, 7, none⟩ = some (.string n') := by rw [← hW]; simp
  have hG1 := hG.below h0
  have HW := Lib.hid hW; clear hW
  have HS := Lib.hid hsame; clear hsame
  have hbz : ¬ (300 : Int) < (n.size : Int) := by omega
  have hbz' : ¬ (300 : Int) < (n'.size : Int) := by omega
  go_enter Tryd.func6, Tryd.ntmps6
  go_wp2
  rw [HW.out]
  go_region_held3 (fun w' => Below W.heap.size W w' ∧ G w' ∧ w'.cell? ⟨w.heap.size, 0, none⟩ = some (.int .i64 f) ∧ w'.cell? ⟨w.heap.size, 1, none⟩ = some (.int .i64 t) ∧ w'.cell? ⟨w.heap.size, 2, none⟩ = some (.int .i64 r) ∧ w'.cell? ⟨w.heap.size, 3, none⟩ = some (.int .i64 s) ∧ w'.cell? ⟨w.heap.size, 4, none⟩ = some (.int .i64 k) ∧ w'.cell? ⟨w.heap.size, 5, none⟩ = some (.int .i64 rc) ∧ w'.cell? ⟨w.heap.size, 6, none⟩ = some (.int .i64 d) ∧ w'.cell? ⟨w.heap.size, 7, none⟩ = some (.string n) ∧ w'.cell? ⟨w.heap.size + 1, 0, none⟩ = some (.int .i64 f) ∧ w'.cell? ⟨w.heap.size + 1, 1, none⟩ = some (.int .i64 t) ∧ w'.cell? ⟨w.heap.size + 1, 2, none⟩ = some (.int .i64 r) ∧ w'.cell? ⟨w.heap.size + 1, 3, none⟩ = some (.int .i64 s) ∧ w'.cell? ⟨w.heap.size + 1, 4, none⟩ = some (.int .i64 k') ∧ w'.cell? ⟨w.heap.size + 1, 5, none⟩ = some (.int .i64 rc') ∧ w'.cell? ⟨w.heap.size + 1, 6, none⟩ = some (.int .i64 d') ∧ w'.cell? ⟨w.heap.size + 1, 7, none⟩ = some (.string n'))
    (first
        | exact ⟨(Below.refl _ _).drew, hG1.below (Below.refl _ _).drew, c0, c1, c2, c3, c4, c5, c6, c7, e0, e1, e2, e3, e4, e5, e6, e7⟩
        | (go_split_ands; exact ⟨Tx.step (by assumption) hbc, G.below (by assumption) hbc, cell_later hbc (by assumption), cell_later hbc (by assumption), cell_later hbc (by assumption), cell_later hbc (by assumption), cell_later hbc (by assumption), cell_later hbc (by assumption), cell_later hbc (by assumption), cell_later hbc (by assumption), cell_later hbc (by assumption), cell_later hbc (by assumption), cell_later hbc (by assumption), cell_later hbc (by assumption), cell_later hbc (by assumption), cell_later hbc (by assumption), cell_later hbc (by assumption), cell_later hbc (by assumption)⟩))
    (first
      | (go_split_ands; go_at_call 16; refine (name_i kk _).mono ?_; rintro e w1 ⟨rfl, hbc⟩)
      | (go_split_ands; go_at_call 17; refine (name_r kk _).mono ?_; rintro e w1 ⟨rfl, hbc⟩)
      | (go_split_ands; go_at_call 18; refine (same_i f t r s k rc d f t r s k' rc' d' n n' _).mono ?_; rintro e w1 ⟨rfl, hbc⟩; rw [HS.out])
      | (go_split_ands; go_at_call 11; refine (alive_c _ (by assumption)).mono ?_; rintro e w1 ⟨rfl, hbc⟩))
  all_goals
    go_split_ands
    have hbw : Below W.heap.size W w1 := by assumption
    go_wp2
    go_ret
    exact ⟨rfl, h0.trans (hbw.mono h0.size)⟩

set_option maxHeartbeats 8000000 in
theorem names_case5 (kk : Int) (f t r s k rc d rc' d' : Int) (n n' : ByteArray) (w : World) (hG : G w) (hbig : ¬ 300 < n.size) (hbig' : ¬ 300 < n'.size) (g : ¬ rc = rc') :
    Calls Tryd.prog 6 #[.int .i64 kk, .agg #[.int .i64 f, .int .i64 t, .int .i64 r, .int .i64 s, .int .i64 k, .int .i64 rc, .int .i64 d, .string n], .agg #[.int .i64 f, .int .i64 t, .int .i64 r, .int .i64 s, .int .i64 k, .int .i64 rc', .int .i64 d', .string n']] w fun e w' => e = .returned (.bool true) ∧ Below w.heap.size w w' := by
  have hsame : Mg.sameB f t r s k rc d f t r s k rc' d' n n' = false := by simp [Mg.sameB, g]
  obtain ⟨W, hW⟩ : ∃ W, (w.alloc (.cells #[.int .i64 f, .int .i64 t, .int .i64 r, .int .i64 s, .int .i64 k, .int .i64 rc, .int .i64 d, .string n] 23)).alloc (.cells #[.int .i64 f, .int .i64 t, .int .i64 r, .int .i64 s, .int .i64 k, .int .i64 rc', .int .i64 d', .string n'] 23) = W := ⟨_, rfl⟩
  have h0 : Below w.heap.size w W := by rw [← hW]; exact (Tx.newb w _).alloc (Tx.newb w _).size _
  have c0 : W.cell? ⟨w.heap.size, 0, none⟩ = some (.int .i64 f) := by rw [← hW]; simp
  have c1 : W.cell? ⟨w.heap.size, 1, none⟩ = some (.int .i64 t) := by rw [← hW]; simp
  have c2 : W.cell? ⟨w.heap.size, 2, none⟩ = some (.int .i64 r) := by rw [← hW]; simp
  have c3 : W.cell? ⟨w.heap.size, 3, none⟩ = some (.int .i64 s) := by rw [← hW]; simp
  have c4 : W.cell? ⟨w.heap.size, 4, none⟩ = some (.int .i64 k) := by rw [← hW]; simp
  have c5 : W.cell? ⟨w.heap.size, 5, none⟩ = some (.int .i64 rc) := by rw [← hW]; simp
  have c6 : W.cell? ⟨w.heap.size, 6, none⟩ = some (.int .i64 d) := by rw [← hW]; simp
  have c7 : W.cell? ⟨w.heap.size, 7, none⟩ = some (.string n) := by rw [← hW]; simp
  have e0 : W.cell? ⟨w.heap.size + 1, 0, none⟩ = some (.int .i64 f) := by rw [← hW]; simp
  have e1 : W.cell? ⟨w.heap.size + 1, 1, none⟩ = some (.int .i64 t) := by rw [← hW]; simp
  have e2 : W.cell? ⟨w.heap.size + 1, 2, none⟩ = some (.int .i64 r) := by rw [← hW]; simp
  have e3 : W.cell? ⟨w.heap.size + 1, 3, none⟩ = some (.int .i64 s) := by rw [← hW]; simp
  have e4 : W.cell? ⟨w.heap.size + 1, 4, none⟩ = some (.int .i64 k) := by rw [← hW]; simp
  have e5 : W.cell? ⟨w.heap.size + 1, 5, none⟩ = some (.int .i64 rc') := by rw [← hW]; simp
  have e6 : W.cell? ⟨w.heap.size + 1, 6, none⟩ = some (.int .i64 d') := by rw [← hW]; simp
  have e7 : W.cell? ⟨w.heap.size + 1, 7, none⟩ = some (.string n') := by rw [← hW]; simp
  have hG1 := hG.below h0
  have HW := Lib.hid hW; clear hW
  have HS := Lib.hid hsame; clear hsame
  have hbz : ¬ (300 : Int) < (n.size : Int) := by omega
  have hbz' : ¬ (300 : Int) < (n'.size : Int) := by omega
  go_enter Tryd.func6, Tryd.ntmps6
  go_wp2
  rw [HW.out]
  go_region_held3 (fun w' => Below W.heap.size W w' ∧ G w' ∧ w'.cell? ⟨w.heap.size, 0, none⟩ = some (.int .i64 f) ∧ w'.cell? ⟨w.heap.size, 1, none⟩ = some (.int .i64 t) ∧ w'.cell? ⟨w.heap.size, 2, none⟩ = some (.int .i64 r) ∧ w'.cell? ⟨w.heap.size, 3, none⟩ = some (.int .i64 s) ∧ w'.cell? ⟨w.heap.size, 4, none⟩ = some (.int .i64 k) ∧ w'.cell? ⟨w.heap.size, 5, none⟩ = some (.int .i64 rc) ∧ w'.cell? ⟨w.heap.size, 6, none⟩ = some (.int .i64 d) ∧ w'.cell? ⟨w.heap.size, 7, none⟩ = some (.string n) ∧ w'.cell? ⟨w.heap.size + 1, 0, none⟩ = some (.int .i64 f) ∧ w'.cell? ⟨w.heap.size + 1, 1, none⟩ = some (.int .i64 t) ∧ w'.cell? ⟨w.heap.size + 1, 2, none⟩ = some (.int .i64 r) ∧ w'.cell? ⟨w.heap.size + 1, 3, none⟩ = some (.int .i64 s) ∧ w'.cell? ⟨w.heap.size + 1, 4, none⟩ = some (.int .i64 k) ∧ w'.cell? ⟨w.heap.size + 1, 5, none⟩ = some (.int .i64 rc') ∧ w'.cell? ⟨w.heap.size + 1, 6, none⟩ = some (.int .i64 d') ∧ w'.cell? ⟨w.heap.size + 1, 7, none⟩ = some (.string n'))
    (first
        | exact ⟨(Below.refl _ _).drew, hG1.below (Below.refl _ _).drew, c0, c1, c2, c3, c4, c5, c6, c7, e0, e1, e2, e3, e4, e5, e6, e7⟩
        | (go_split_ands; exact ⟨Tx.step (by assumption) hbc, G.below (by assumption) hbc, cell_later hbc (by assumption), cell_later hbc (by assumption), cell_later hbc (by assumption), cell_later hbc (by assumption), cell_later hbc (by assumption), cell_later hbc (by assumption), cell_later hbc (by assumption), cell_later hbc (by assumption), cell_later hbc (by assumption), cell_later hbc (by assumption), cell_later hbc (by assumption), cell_later hbc (by assumption), cell_later hbc (by assumption), cell_later hbc (by assumption), cell_later hbc (by assumption), cell_later hbc (by assumption)⟩))
    (first
      | (go_split_ands; go_at_call 16; refine (name_i kk _).mono ?_; rintro e w1 ⟨rfl, hbc⟩)
      | (go_split_ands; go_at_call 17; refine (name_r kk _).mono ?_; rintro e w1 ⟨rfl, hbc⟩)
      | (go_split_ands; go_at_call 18; refine (same_i f t r s k rc d f t r s k rc' d' n n' _).mono ?_; rintro e w1 ⟨rfl, hbc⟩; rw [HS.out])
      | (go_split_ands; go_at_call 11; refine (alive_c _ (by assumption)).mono ?_; rintro e w1 ⟨rfl, hbc⟩))
  all_goals
    go_split_ands
    have hbw : Below W.heap.size W w1 := by assumption
    go_wp2
    go_ret
    exact ⟨rfl, h0.trans (hbw.mono h0.size)⟩

set_option maxHeartbeats 8000000 in
theorem names_case6 (kk : Int) (f t r s k rc d d' : Int) (n n' : ByteArray) (w : World) (hG : G w) (hbig : ¬ 300 < n.size) (hbig' : ¬ 300 < n'.size) (g : ¬ d = d') :
    Calls Tryd.prog 6 #[.int .i64 kk, .agg #[.int .i64 f, .int .i64 t, .int .i64 r, .int .i64 s, .int .i64 k, .int .i64 rc, .int .i64 d, .string n], .agg #[.int .i64 f, .int .i64 t, .int .i64 r, .int .i64 s, .int .i64 k, .int .i64 rc, .int .i64 d', .string n']] w fun e w' => e = .returned (.bool true) ∧ Below w.heap.size w w' := by
  have hsame : Mg.sameB f t r s k rc d f t r s k rc d' n n' = false := by simp [Mg.sameB, g]
  obtain ⟨W, hW⟩ : ∃ W, (w.alloc (.cells #[.int .i64 f, .int .i64 t, .int .i64 r, .int .i64 s, .int .i64 k, .int .i64 rc, .int .i64 d, .string n] 23)).alloc (.cells #[.int .i64 f, .int .i64 t, .int .i64 r, .int .i64 s, .int .i64 k, .int .i64 rc, .int .i64 d', .string n'] 23) = W := ⟨_, rfl⟩
  have h0 : Below w.heap.size w W := by rw [← hW]; exact (Tx.newb w _).alloc (Tx.newb w _).size _
  have c0 : W.cell? ⟨w.heap.size, 0, none⟩ = some (.int .i64 f) := by rw [← hW]; simp
  have c1 : W.cell? ⟨w.heap.size, 1, none⟩ = some (.int .i64 t) := by rw [← hW]; simp
  have c2 : W.cell? ⟨w.heap.size, 2, none⟩ = some (.int .i64 r) := by rw [← hW]; simp
  have c3 : W.cell? ⟨w.heap.size, 3, none⟩ = some (.int .i64 s) := by rw [← hW]; simp
  have c4 : W.cell? ⟨w.heap.size, 4, none⟩ = some (.int .i64 k) := by rw [← hW]; simp
  have c5 : W.cell? ⟨w.heap.size, 5, none⟩ = some (.int .i64 rc) := by rw [← hW]; simp
  have c6 : W.cell? ⟨w.heap.size, 6, none⟩ = some (.int .i64 d) := by rw [← hW]; simp
  have c7 : W.cell? ⟨w.heap.size, 7, none⟩ = some (.string n) := by rw [← hW]; simp
  have e0 : W.cell? ⟨w.heap.size + 1, 0, none⟩ = some (.int .i64 f) := by rw [← hW]; simp
  have e1 : W.cell? ⟨w.heap.size + 1, 1, none⟩ = some (.int .i64 t) := by rw [← hW]; simp
  have e2 : W.cell? ⟨w.heap.size + 1, 2, none⟩ = some (.int .i64 r) := by rw [← hW]; simp
  have e3 : W.cell? ⟨w.heap.size + 1, 3, none⟩ = some (.int .i64 s) := by rw [← hW]; simp
  have e4 : W.cell? ⟨w.heap.size + 1, 4, none⟩ = some (.int .i64 k) := by rw [← hW]; simp
  have e5 : W.cell? ⟨w.heap.size + 1, 5, none⟩ = some (.int .i64 rc) := by rw [← hW]; simp
  have e6 : W.cell? ⟨w.heap.size + 1, 6, none⟩ = some (.int .i64 d') := by rw [← hW]; simp
  have e7 : W.cell? ⟨w.heap.size + 1, 7, none⟩ = some (.string n') := by rw [← hW]; simp
  have hG1 := hG.below h0
  have HW := Lib.hid hW; clear hW
  have HS := Lib.hid hsame; clear hsame
  have hbz : ¬ (300 : Int) < (n.size : Int) := by omega
  have hbz' : ¬ (300 : Int) < (n'.size : Int) := by omega
  go_enter Tryd.func6, Tryd.ntmps6
  go_wp2
  rw [HW.out]
  go_region_held3 (fun w' => Below W.heap.size W w' ∧ G w' ∧ w'.cell? ⟨w.heap.size, 0, none⟩ = some (.int .i64 f) ∧ w'.cell? ⟨w.heap.size, 1, none⟩ = some (.int .i64 t) ∧ w'.cell? ⟨w.heap.size, 2, none⟩ = some (.int .i64 r) ∧ w'.cell? ⟨w.heap.size, 3, none⟩ = some (.int .i64 s) ∧ w'.cell? ⟨w.heap.size, 4, none⟩ = some (.int .i64 k) ∧ w'.cell? ⟨w.heap.size, 5, none⟩ = some (.int .i64 rc) ∧ w'.cell? ⟨w.heap.size, 6, none⟩ = some (.int .i64 d) ∧ w'.cell? ⟨w.heap.size, 7, none⟩ = some (.string n) ∧ w'.cell? ⟨w.heap.size + 1, 0, none⟩ = some (.int .i64 f) ∧ w'.cell? ⟨w.heap.size + 1, 1, none⟩ = some (.int .i64 t) ∧ w'.cell? ⟨w.heap.size + 1, 2, none⟩ = some (.int .i64 r) ∧ w'.cell? ⟨w.heap.size + 1, 3, none⟩ = some (.int .i64 s) ∧ w'.cell? ⟨w.heap.size + 1, 4, none⟩ = some (.int .i64 k) ∧ w'.cell? ⟨w.heap.size + 1, 5, none⟩ = some (.int .i64 rc) ∧ w'.cell? ⟨w.heap.size + 1, 6, none⟩ = some (.int .i64 d') ∧ w'.cell? ⟨w.heap.size + 1, 7, none⟩ = some (.string n'))
    (first
        | exact ⟨(Below.refl _ _).drew, hG1.below (Below.refl _ _).drew, c0, c1, c2, c3, c4, c5, c6, c7, e0, e1, e2, e3, e4, e5, e6, e7⟩
        | (go_split_ands; exact ⟨Tx.step (by assumption) hbc, G.below (by assumption) hbc, cell_later hbc (by assumption), cell_later hbc (by assumption), cell_later hbc (by assumption), cell_later hbc (by assumption), cell_later hbc (by assumption), cell_later hbc (by assumption), cell_later hbc (by assumption), cell_later hbc (by assumption), cell_later hbc (by assumption), cell_later hbc (by assumption), cell_later hbc (by assumption), cell_later hbc (by assumption), cell_later hbc (by assumption), cell_later hbc (by assumption), cell_later hbc (by assumption), cell_later hbc (by assumption)⟩))
    (first
      | (go_split_ands; go_at_call 16; refine (name_i kk _).mono ?_; rintro e w1 ⟨rfl, hbc⟩)
      | (go_split_ands; go_at_call 17; refine (name_r kk _).mono ?_; rintro e w1 ⟨rfl, hbc⟩)
      | (go_split_ands; go_at_call 18; refine (same_i f t r s k rc d f t r s k rc d' n n' _).mono ?_; rintro e w1 ⟨rfl, hbc⟩; rw [HS.out])
      | (go_split_ands; go_at_call 11; refine (alive_c _ (by assumption)).mono ?_; rintro e w1 ⟨rfl, hbc⟩))
  all_goals
    go_split_ands
    have hbw : Below W.heap.size W w1 := by assumption
    go_wp2
    go_ret
    exact ⟨rfl, h0.trans (hbw.mono h0.size)⟩

set_option maxHeartbeats 8000000 in
theorem names_case7 (kk : Int) (f t r s k rc d  : Int) (n n' : ByteArray) (w : World) (hG : G w) (hbig : ¬ 300 < n.size) (hbig' : ¬ 300 < n'.size) (g : ¬ n = n') :
    Calls Tryd.prog 6 #[.int .i64 kk, .agg #[.int .i64 f, .int .i64 t, .int .i64 r, .int .i64 s, .int .i64 k, .int .i64 rc, .int .i64 d, .string n], .agg #[.int .i64 f, .int .i64 t, .int .i64 r, .int .i64 s, .int .i64 k, .int .i64 rc, .int .i64 d, .string n']] w fun e w' => e = .returned (.bool true) ∧ Below w.heap.size w w' := by
  have hsame : Mg.sameB f t r s k rc d f t r s k rc d n n' = false := by
    unfold Mg.sameB
    rw [decide_eq_false_iff_not]
    rintro ⟨_, _, _, _, _, _, _, e⟩
    exact g (toList_inj e)
  obtain ⟨W, hW⟩ : ∃ W, (w.alloc (.cells #[.int .i64 f, .int .i64 t, .int .i64 r, .int .i64 s, .int .i64 k, .int .i64 rc, .int .i64 d, .string n] 23)).alloc (.cells #[.int .i64 f, .int .i64 t, .int .i64 r, .int .i64 s, .int .i64 k, .int .i64 rc, .int .i64 d, .string n'] 23) = W := ⟨_, rfl⟩
  have h0 : Below w.heap.size w W := by rw [← hW]; exact (Tx.newb w _).alloc (Tx.newb w _).size _
  have c0 : W.cell? ⟨w.heap.size, 0, none⟩ = some (.int .i64 f) := by rw [← hW]; simp
  have c1 : W.cell? ⟨w.heap.size, 1, none⟩ = some (.int .i64 t) := by rw [← hW]; simp
  have c2 : W.cell? ⟨w.heap.size, 2, none⟩ = some (.int .i64 r) := by rw [← hW]; simp
  have c3 : W.cell? ⟨w.heap.size, 3, none⟩ = some (.int .i64 s) := by rw [← hW]; simp
  have c4 : W.cell? ⟨w.heap.size, 4, none⟩ = some (.int .i64 k) := by rw [← hW]; simp
  have c5 : W.cell? ⟨w.heap.size, 5, none⟩ = some (.int .i64 rc) := by rw [← hW]; simp
  have c6 : W.cell? ⟨w.heap.size, 6, none⟩ = some (.int .i64 d) := by rw [← hW]; simp
  have c7 : W.cell? ⟨w.heap.size, 7, none⟩ = some (.string n) := by rw [← hW]; simp
  have e0 : W.cell? ⟨w.heap.size + 1, 0, none⟩ = some (.int .i64 f) := by rw [← hW]; simp
  have e1 : W.cell? ⟨w.heap.size + 1, 1, none⟩ = some (.int .i64 t) := by rw [← hW]; simp
  have e2 : W.cell? ⟨w.heap.size + 1, 2, none⟩ = some (.int .i64 r) := by rw [← hW]; simp
  have e3 : W.cell? ⟨w.heap.size + 1, 3, none⟩ = some (.int .i64 s) := by rw [← hW]; simp
  have e4 : W.cell? ⟨w.heap.size + 1, 4, none⟩ = some (.int .i64 k) := by rw [← hW]; simp
  have e5 : W.cell? ⟨w.heap.size + 1, 5, none⟩ = some (.int .i64 rc) := by rw [← hW]; simp
  have e6 : W.cell? ⟨w.heap.size + 1, 6, none⟩ = some (.int .i64 d) := by rw [← hW]; simp
  have e7 : W.cell? ⟨w.heap.size + 1, 7, none⟩ = some (.string n') := by rw [← hW]; simp
  have hG1 := hG.below h0
  have HW := Lib.hid hW; clear hW
  have HS := Lib.hid hsame; clear hsame
  have hbz : ¬ (300 : Int) < (n.size : Int) := by omega
  have gl : ¬ n.toList = n'.toList := fun e => g (toList_inj e)
  have hbz' : ¬ (300 : Int) < (n'.size : Int) := by omega
  go_enter Tryd.func6, Tryd.ntmps6
  go_wp2
  rw [HW.out]
  go_region_held3 (fun w' => Below W.heap.size W w' ∧ G w' ∧ w'.cell? ⟨w.heap.size, 0, none⟩ = some (.int .i64 f) ∧ w'.cell? ⟨w.heap.size, 1, none⟩ = some (.int .i64 t) ∧ w'.cell? ⟨w.heap.size, 2, none⟩ = some (.int .i64 r) ∧ w'.cell? ⟨w.heap.size, 3, none⟩ = some (.int .i64 s) ∧ w'.cell? ⟨w.heap.size, 4, none⟩ = some (.int .i64 k) ∧ w'.cell? ⟨w.heap.size, 5, none⟩ = some (.int .i64 rc) ∧ w'.cell? ⟨w.heap.size, 6, none⟩ = some (.int .i64 d) ∧ w'.cell? ⟨w.heap.size, 7, none⟩ = some (.string n) ∧ w'.cell? ⟨w.heap.size + 1, 0, none⟩ = some (.int .i64 f) ∧ w'.cell? ⟨w.heap.size + 1, 1, none⟩ = some (.int .i64 t) ∧ w'.cell? ⟨w.heap.size + 1, 2, none⟩ = some (.int .i64 r) ∧ w'.cell? ⟨w.heap.size + 1, 3, none⟩ = some (.int .i64 s) ∧ w'.cell? ⟨w.heap.size + 1, 4, none⟩ = some (.int .i64 k) ∧ w'.cell? ⟨w.heap.size + 1, 5, none⟩ = some (.int .i64 rc) ∧ w'.cell? ⟨w.heap.size + 1, 6, none⟩ = some (.int .i64 d) ∧ w'.cell? ⟨w.heap.size + 1, 7, none⟩ = some (.string n'))
    (first
        | exact ⟨(Below.refl _ _).drew, hG1.below (Below.refl _ _).drew, c0, c1, c2, c3, c4, c5, c6, c7, e0, e1, e2, e3, e4, e5, e6, e7⟩
        | (go_split_ands; exact ⟨Tx.step (by assumption) hbc, G.below (by assumption) hbc, cell_later hbc (by assumption), cell_later hbc (by assumption), cell_later hbc (by assumption), cell_later hbc (by assumption), cell_later hbc (by assumption), cell_later hbc (by assumption), cell_later hbc (by assumption), cell_later hbc (by assumption), cell_later hbc (by assumption), cell_later hbc (by assumption), cell_later hbc (by assumption), cell_later hbc (by assumption), cell_later hbc (by assumption), cell_later hbc (by assumption), cell_later hbc (by assumption), cell_later hbc (by assumption)⟩))
    (first
      | (go_split_ands; go_at_call 16; refine (name_i kk _).mono ?_; rintro e w1 ⟨rfl, hbc⟩)
      | (go_split_ands; go_at_call 17; refine (name_r kk _).mono ?_; rintro e w1 ⟨rfl, hbc⟩)
      | (go_split_ands; go_at_call 18; refine (same_i f t r s k rc d f t r s k rc d n n' _).mono ?_; rintro e w1 ⟨rfl, hbc⟩; rw [HS.out])
      | (go_split_ands; go_at_call 11; refine (alive_c _ (by assumption)).mono ?_; rintro e w1 ⟨rfl, hbc⟩))
  all_goals
    go_split_ands
    have hbw : Below W.heap.size W w1 := by assumption
    go_wp2
    go_ret
    exact ⟨rfl, h0.trans (hbw.mono h0.size)⟩

set_option maxHeartbeats 8000000 in
theorem names_case8 (kk : Int) (f t r s k rc d  : Int) (n : ByteArray) (w : World) (hG : G w) (hbig : ¬ 300 < n.size) :
    Calls Tryd.prog 6 #[.int .i64 kk, .agg #[.int .i64 f, .int .i64 t, .int .i64 r, .int .i64 s, .int .i64 k, .int .i64 rc, .int .i64 d, .string n], .agg #[.int .i64 f, .int .i64 t, .int .i64 r, .int .i64 s, .int .i64 k, .int .i64 rc, .int .i64 d, .string n]] w fun e w' => e = .returned (.bool true) ∧ Below w.heap.size w w' := by
  have hsame : Mg.sameB f t r s k rc d f t r s k rc d n n = true := by simp [Mg.sameB]
  obtain ⟨W, hW⟩ : ∃ W, (w.alloc (.cells #[.int .i64 f, .int .i64 t, .int .i64 r, .int .i64 s, .int .i64 k, .int .i64 rc, .int .i64 d, .string n] 23)).alloc (.cells #[.int .i64 f, .int .i64 t, .int .i64 r, .int .i64 s, .int .i64 k, .int .i64 rc, .int .i64 d, .string n] 23) = W := ⟨_, rfl⟩
  have h0 : Below w.heap.size w W := by rw [← hW]; exact (Tx.newb w _).alloc (Tx.newb w _).size _
  have c0 : W.cell? ⟨w.heap.size, 0, none⟩ = some (.int .i64 f) := by rw [← hW]; simp
  have c1 : W.cell? ⟨w.heap.size, 1, none⟩ = some (.int .i64 t) := by rw [← hW]; simp
  have c2 : W.cell? ⟨w.heap.size, 2, none⟩ = some (.int .i64 r) := by rw [← hW]; simp
  have c3 : W.cell? ⟨w.heap.size, 3, none⟩ = some (.int .i64 s) := by rw [← hW]; simp
  have c4 : W.cell? ⟨w.heap.size, 4, none⟩ = some (.int .i64 k) := by rw [← hW]; simp
  have c5 : W.cell? ⟨w.heap.size, 5, none⟩ = some (.int .i64 rc) := by rw [← hW]; simp
  have c6 : W.cell? ⟨w.heap.size, 6, none⟩ = some (.int .i64 d) := by rw [← hW]; simp
  have c7 : W.cell? ⟨w.heap.size, 7, none⟩ = some (.string n) := by rw [← hW]; simp
  have e0 : W.cell? ⟨w.heap.size + 1, 0, none⟩ = some (.int .i64 f) := by rw [← hW]; simp
  have e1 : W.cell? ⟨w.heap.size + 1, 1, none⟩ = some (.int .i64 t) := by rw [← hW]; simp
  have e2 : W.cell? ⟨w.heap.size + 1, 2, none⟩ = some (.int .i64 r) := by rw [← hW]; simp
  have e3 : W.cell? ⟨w.heap.size + 1, 3, none⟩ = some (.int .i64 s) := by rw [← hW]; simp
  have e4 : W.cell? ⟨w.heap.size + 1, 4, none⟩ = some (.int .i64 k) := by rw [← hW]; simp
  have e5 : W.cell? ⟨w.heap.size + 1, 5, none⟩ = some (.int .i64 rc) := by rw [← hW]; simp
  have e6 : W.cell? ⟨w.heap.size + 1, 6, none⟩ = some (.int .i64 d) := by rw [← hW]; simp
  have e7 : W.cell? ⟨w.heap.size + 1, 7, none⟩ = some (.string n) := by rw [← hW]; simp
  have hG1 := hG.below h0
  have HW := Lib.hid hW; clear hW
  have HS := Lib.hid hsame; clear hsame
  have hbz : ¬ (300 : Int) < (n.size : Int) := by omega
  go_enter Tryd.func6, Tryd.ntmps6
  go_wp2
  rw [HW.out]
  go_region_held3 (fun w' => Below W.heap.size W w' ∧ G w' ∧ w'.cell? ⟨w.heap.size, 0, none⟩ = some (.int .i64 f) ∧ w'.cell? ⟨w.heap.size, 1, none⟩ = some (.int .i64 t) ∧ w'.cell? ⟨w.heap.size, 2, none⟩ = some (.int .i64 r) ∧ w'.cell? ⟨w.heap.size, 3, none⟩ = some (.int .i64 s) ∧ w'.cell? ⟨w.heap.size, 4, none⟩ = some (.int .i64 k) ∧ w'.cell? ⟨w.heap.size, 5, none⟩ = some (.int .i64 rc) ∧ w'.cell? ⟨w.heap.size, 6, none⟩ = some (.int .i64 d) ∧ w'.cell? ⟨w.heap.size, 7, none⟩ = some (.string n) ∧ w'.cell? ⟨w.heap.size + 1, 0, none⟩ = some (.int .i64 f) ∧ w'.cell? ⟨w.heap.size + 1, 1, none⟩ = some (.int .i64 t) ∧ w'.cell? ⟨w.heap.size + 1, 2, none⟩ = some (.int .i64 r) ∧ w'.cell? ⟨w.heap.size + 1, 3, none⟩ = some (.int .i64 s) ∧ w'.cell? ⟨w.heap.size + 1, 4, none⟩ = some (.int .i64 k) ∧ w'.cell? ⟨w.heap.size + 1, 5, none⟩ = some (.int .i64 rc) ∧ w'.cell? ⟨w.heap.size + 1, 6, none⟩ = some (.int .i64 d) ∧ w'.cell? ⟨w.heap.size + 1, 7, none⟩ = some (.string n))
    (first
        | exact ⟨(Below.refl _ _).drew, hG1.below (Below.refl _ _).drew, c0, c1, c2, c3, c4, c5, c6, c7, e0, e1, e2, e3, e4, e5, e6, e7⟩
        | (go_split_ands; exact ⟨Tx.step (by assumption) hbc, G.below (by assumption) hbc, cell_later hbc (by assumption), cell_later hbc (by assumption), cell_later hbc (by assumption), cell_later hbc (by assumption), cell_later hbc (by assumption), cell_later hbc (by assumption), cell_later hbc (by assumption), cell_later hbc (by assumption), cell_later hbc (by assumption), cell_later hbc (by assumption), cell_later hbc (by assumption), cell_later hbc (by assumption), cell_later hbc (by assumption), cell_later hbc (by assumption), cell_later hbc (by assumption), cell_later hbc (by assumption)⟩))
    (first
      | (go_split_ands; go_at_call 16; refine (name_i kk _).mono ?_; rintro e w1 ⟨rfl, hbc⟩)
      | (go_split_ands; go_at_call 17; refine (name_r kk _).mono ?_; rintro e w1 ⟨rfl, hbc⟩)
      | (go_split_ands; go_at_call 18; refine (same_i f t r s k rc d f t r s k rc d n n _).mono ?_; rintro e w1 ⟨rfl, hbc⟩; rw [HS.out])
      | (go_split_ands; go_at_call 11; refine (alive_c _ (by assumption)).mono ?_; rintro e w1 ⟨rfl, hbc⟩))
  all_goals
    go_split_ands
    have hbw : Below W.heap.size W w1 := by assumption
    go_wp2
    go_ret
    exact ⟨rfl, h0.trans (hbw.mono h0.size)⟩

theorem law_names_c (kk : Int) (f t r s k rc d f' t' r' s' k' rc' d' : Int) (n n' : ByteArray) (w : World) (hn : n.size ≤ 9223372036854775807) (hn' : n'.size ≤ 9223372036854775807) (hG : G w) :
    Calls Tryd.prog 6 #[.int .i64 kk, .agg #[.int .i64 f, .int .i64 t, .int .i64 r, .int .i64 s, .int .i64 k, .int .i64 rc, .int .i64 d, .string n], .agg #[.int .i64 f', .int .i64 t', .int .i64 r', .int .i64 s', .int .i64 k', .int .i64 rc', .int .i64 d', .string n']] w fun e w' => e = .returned (.bool true) ∧ Below w.heap.size w w' := by
  by_cases hb : 300 < n.size ∨ 300 < n'.size
  · exact names_big kk f t r s k rc d f' t' r' s' k' rc' d' n n' w hn hn' hG hb
  have h1 : ¬ 300 < n.size := fun h => hb (.inl h)
  have h2 : ¬ 300 < n'.size := fun h => hb (.inr h)
  clear hb
  by_cases g0 : f = f'
  rotate_left
  · exact names_case0 kk f t r s k rc d f' t' r' s' k' rc' d' n n' w hG h1 h2 g0
  subst g0
  by_cases g1 : t = t'
  rotate_left
  · exact names_case1 kk f t r s k rc d t' r' s' k' rc' d' n n' w hG h1 h2 g1
  subst g1
  by_cases g2 : r = r'
  rotate_left
  · exact names_case2 kk f t r s k rc d r' s' k' rc' d' n n' w hG h1 h2 g2
  subst g2
  by_cases g3 : s = s'
  rotate_left
  · exact names_case3 kk f t r s k rc d s' k' rc' d' n n' w hG h1 h2 g3
  subst g3
  by_cases g4 : k = k'
  rotate_left
  · exact names_case4 kk f t r s k rc d k' rc' d' n n' w hG h1 h2 g4
  subst g4
  by_cases g5 : rc = rc'
  rotate_left
  · exact names_case5 kk f t r s k rc d rc' d' n n' w hG h1 h2 g5
  subst g5
  by_cases g6 : d = d'
  rotate_left
  · exact names_case6 kk f t r s k rc d d' n n' w hG h1 h2 g6
  subst g6
  by_cases g7 : n = n'
  rotate_left
  · exact names_case7 kk f t r s k rc d  n n' w hG h1 h2 g7
  subst g7
  exact names_case8 kk f t r s k rc d n w hG h1
end Go.Proofs.YtbacgfokgphgeaaDoor
